/- jitter's Due; and what a well made buffer's numbers are. -/
import Derived.Test.YtjmohkgbfigcgaaJBegin
namespace Go.Proofs.Ytjmohkgbfigcgaa.Sh
open Go Go.RowKit
set_option linter.unusedVariables false
set_option linter.unusedSimpArgs false

theorem within_iff (lo hi n : Int) : withinF lo hi n = true ↔ lo ≤ n ∧ n ≤ hi := by simp [withinF]
/-- the numbers of a well made buffer -/
theorem checkB_nums {fr now : Int} {bg fd : Bool} {sq hg lw bs jt ls : Int} {hs : List JHeld.Data} {u : Unit} (h : checkB (fr, now, bg, fd, sq, hg, lw, bs, jt, ls, hs, u) = true) :
    ((1 ≤ fr ∧ fr ≤ 96) ∧ (0 ≤ now ∧ now ≤ 1099511627776) ∧ (0 ≤ sq ∧ sq ≤ 65535)) ∧ (0 ≤ hg ∧ hg ≤ 1152921504606846976) ∧ (-1152921504606846976 ≤ lw ∧ lw ≤ bs) ∧ (-1152921504606846976 ≤ bs ∧ bs ≤ 1152921504606846976) ∧ (0 ≤ jt ∧ jt ≤ 1048576) ∧ (0 ≤ ls ∧ ls ≤ 1099511627776) ∧ hs.length ≤ 64 ∧ (bg = false → hs = []) ∧ heldF sq hg (-1) hs = true := by
  simp only [checkB, Bool.and_eq_true, within_iff] at h
  obtain ⟨⟨⟨⟨h1, h2⟩, h3⟩, h4⟩, h5⟩ := h
  cases bg with
  | false =>
    simp only [Bool.false_eq_true, if_false, Bool.and_eq_true, decide_eq_true_eq] at h5
    obtain ⟨⟨-, rfl, rfl, rfl, rfl, rfl, rfl⟩, h7⟩ := h5
    have h8 : hs = [] := List.eq_nil_of_length_eq_zero h7
    subst h8
    refine ⟨⟨h1, h2, by omega⟩, by omega, by omega, by omega, by omega, by omega, by simp, fun _ => rfl, rfl⟩
  | true =>
    simp only [if_true, Bool.and_eq_true, decide_eq_true_eq, within_iff] at h5
    obtain ⟨⟨⟨⟨h5, h6⟩, h7⟩, h8⟩, h9, h10⟩ := h5
    refine ⟨⟨h1, h2, h5⟩, h6, h7, ⟨Int.le_trans h7.1 h7.2, h8⟩, h3, h4, h10, (fun h => by cases h), h9⟩
theorem held_arr {sq hg q : Int} {h0 : JHeld.Data} {hs : List JHeld.Data} (h : heldF sq hg q (h0 :: hs) = true) : 0 ≤ heldArr h0 ∧ heldArr h0 ≤ hg := by
  obtain ⟨m, a, u⟩ := h0
  rw [heldF_cons] at h
  simp only [Bool.and_eq_true, within_iff] at h
  exact h.1.1.1.2

/-- what Due answers -/
def dueR : JBuf.Data → Int × Int
  | (fr, now, bg, fd, sq, hg, lw, bs, jt, ls, hs, u) =>
    if checkB (fr, now, bg, fd, sq, hg, lw, bs, jt, ls, hs, u) then
      (match hs with
        | [] => (0, 4)
        | h0 :: _ => if dueF fr jt (heldArr h0 + lw) > 1099511627776 then (0, 4) else (dueF fr jt (heldArr h0 + lw), 0))
    else (0, 260)

set_option maxRecDepth 100000 in
set_option maxHeartbeats 1600000 in
theorem Due_goes (w : World) (S : Nat → Prop) (cs : List Value) (d : JBuf.Data) (h : Rep w S JBuf cs d) (hS : ∀ b, S b → b < w.heap.size) :
    Calls Try.prog 17 #[.agg cs.toArray] w fun e w' => e = .returned (.tuple #[.int .i64 (dueR d).1, .int .i64 (dueR d).2]) ∧ Below w.heap.size w w' := by
  obtain ⟨fr, now, bg, fd, sq, hg, lw, bs, jt, ls, hs, ⟨⟩⟩ := d
  have h' := h
  obtain ⟨A, c, rfl, hh, -, -⟩ := rep_buf h'
  have hn3 : hs.length * 120 ≤ big := (rep_sl.1 hh).2.2.2.1
  rw [big_eq] at hn3
  obtain ⟨n, hn⟩ : ∃ n, n = hs.length := ⟨_, rfl⟩
  rw [← hn] at h hn3 ⊢
  have HN := Lib.hid hn
  generalize hr1 : (dueR (fr, now, bg, fd, sq, hg, lw, bs, jt, ls, hs, ())).1 = r1
  generalize hr2 : (dueR (fr, now, bg, fd, sq, hg, lw, bs, jt, ls, hs, ())).2 = r2
  have HV := Lib.hid (And.intro hr1 hr2)
  have HRp := Lib.hid h
  have HS := Lib.hid hS
  clear h h' hh hr1 hr2 hS hn
  go_enter Try.func17, Try.ntmps17
  go_wp2_with (refine step_boxh (cs := [.int .i64 fr, .int .i64 now, .bool bg, .bool fd, .int .i64 sq, .int .i64 hg, .int .i64 lw, .int .i64 bs, .int .i64 jt, .int .i64 ls, .slice A n c]) rfl rfl rfl fun w0 M0 B0 Z0 => ?_)
  have m10 := M0.cell 10 rfl
  have HA0 := Lib.hid M0.at_
  have HB0 := Lib.hid B0
  have HM0 := Lib.hid M0
  clear M0 B0
  refine Lib.hid ?_
  go_wp2_with (refine wpList_load_mid rfl 24 _ rfl w.heap.size 0 rfl [.int .i64 fr, .int .i64 now, .bool bg, .bool fd, .int .i64 sq, .int .i64 hg, .int .i64 lw, .int .i64 bs, .int .i64 jt, .int .i64 ls, .slice A n c] _ (fun j x hv => (HA0.out j x hv).1) Try.underlying24 rfl (by kernel_rfl) ?_)
  refine (check_goes w0 S _ _ (HRp.out.below HB0.out) (fun b hb => Nat.lt_of_lt_of_le (HS.out b hb) HB0.out.size)).mono ?_
  rintro e w1 ⟨rfl, hb1⟩
  have HB1 := Lib.hid (HB0.out.trans (hb1.mono HB0.out.size))
  have M1 := HM0.out.below (hb1.mono (Nat.le_refl _))
  obtain ⟨⟨m0, m1, m2, m3, m4, m5⟩, ⟨m6, m7, m8, m9, m10⟩, -⟩ := bk_change M1
  have HA1 := Lib.hid M1.at_
  have HM1 := Lib.hid M1
  clear hb1 M1
  cases hq : checkB (fr, now, bg, fd, sq, hg, lw, bs, jt, ls, hs, ()) with
  | false =>
    have HQ := Lib.hid hq
    clear hq
    go_wp2_with fail
    go_ret2
    refine ⟨?_, HB1.out⟩
    obtain ⟨e1, e2⟩ := HV.out
    simp only [dueR, HQ.out] at e1 e2
    rw [← e1, ← e2]; rfl
  | true =>
    have hnums := checkB_nums hq
    have HQ := Lib.hid hq
    clear hq
    cases hs with
    | nil =>
      clear hnums
      have h0 : n = 0 := HN.out
      subst h0
      go_wp2_with fail
      go_ret2
      refine ⟨?_, HB1.out⟩
      obtain ⟨e1, e2⟩ := HV.out
      simp only [dueR, HQ.out] at e1 e2
      rw [← e1, ← e2]; rfl
    | cons h0 hs =>
      obtain ⟨⟨hfr, -, -⟩, hhg, hlw, hbs, hjt, -, -, -, hheld⟩ := hnums
      have harr := held_arr hheld
      have hB2 : dueF fr jt (heldArr h0 + lw) = dueF fr jt (heldArr h0 + lw) := rfl
      have HD := Lib.hid (fun (wx : World) (hx : Below w.heap.size w wx) => due_goes wx S _ fr now bg fd sq hg lw bs jt ls h0 hs (HRp.out.below hx) hfr hjt (by omega))
      clear hheld hhg hlw hbs harr hfr hjt
      generalize hdv : dueF fr jt (heldArr h0 + lw) = dv at *
      have hn1 : n = hs.length + 1 := HN.out
      have hln2 : ((n : Int) == 0) = false := by simp; omega
      clear hn1
      clear hB2
      go_wp2_with (refine wpList_load_mid rfl 24 _ rfl w.heap.size 0 rfl [.int .i64 fr, .int .i64 now, .bool bg, .bool fd, .int .i64 sq, .int .i64 hg, .int .i64 lw, .int .i64 bs, .int .i64 jt, .int .i64 ls, .slice A n c] _ (fun j x hv => (HA1.out j x hv).1) Try.underlying24 rfl (by kernel_rfl) ?_)
      refine (HD.out w1 HB1.out).mono ?_
      rintro e w2 ⟨rfl, hb2⟩
      have HB2 := Lib.hid (HB1.out.trans (hb2.mono HB1.out.size))
      have M2 := HM1.out.below (hb2.mono (Nat.le_refl _))
      have HA2 := Lib.hid M2.at_
      have HM2 := Lib.hid M2
      clear hb2 M2 m0 m1 m2 m3 m4 m5 m6 m7 m8 m9 m10
      by_cases hgt : 1099511627776 < dv
      · go_wp2_with fail
        go_ret2
        refine ⟨?_, HB2.out⟩
        obtain ⟨e1, e2⟩ := HV.out
        have hgt2 : dv > 1099511627776 := hgt
        simp only [dueR, HQ.out, hdv, hgt2, if_true] at e1 e2
        rw [← e1, ← e2]; rfl
      · go_wp2_with (refine wpList_load_mid rfl 24 _ rfl w.heap.size 0 rfl [.int .i64 fr, .int .i64 now, .bool bg, .bool fd, .int .i64 sq, .int .i64 hg, .int .i64 lw, .int .i64 bs, .int .i64 jt, .int .i64 ls, .slice A n c] _ (fun j x hv => (HA2.out j x hv).1) Try.underlying24 rfl (by kernel_rfl) ?_)
        refine (HD.out w2 HB2.out).mono ?_
        rintro e w3 ⟨rfl, hb3⟩
        have HB3 := Lib.hid (HB2.out.trans (hb3.mono HB2.out.size))
        clear hb3
        go_wp2_with fail
        go_ret2
        refine ⟨?_, HB3.out⟩
        obtain ⟨e1, e2⟩ := HV.out
        have hgt2 : ¬ dv > 1099511627776 := by omega
        simp only [dueR, HQ.out, hdv, hgt2, if_true, if_false] at e1 e2
        rw [← e1, ← e2]; rfl
end Go.Proofs.Ytjmohkgbfigcgaa.Sh
