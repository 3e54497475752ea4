/- jitter.Check. -/
import Derived.Test.YtjmohkgbfigcgaaJHeld
namespace Go.Proofs.Ytjmohkgbfigcgaa.Sh
open Go Go.RowKit
set_option linter.unusedVariables false
set_option linter.unusedSimpArgs false

theorem wrap_nat_zero (n : Nat) (h : n < 18446744073709551616) : IntKind.i64.wrap (n : Int) = 0 ↔ n = 0 := by
  have e1 : (2 : Int) ^ IntKind.i64.bits = 18446744073709551616 := by decide
  have e2 : (2 : Int) ^ (IntKind.i64.bits - 1) = 9223372036854775808 := by decide
  simp only [IntKind.wrap, e1, e2, show IntKind.i64.signed = true from rfl, Bool.true_and, decide_eq_true_eq]
  split <;> omega
theorem ofInt_zero (x : Int) (hx : IntKind.i64.min ≤ x ∧ x ≤ IntKind.i64.max) : (BitVec.ofInt 64 x).toNat = 0 ↔ x = 0 := by
  have e1 : IntKind.i64.min = -9223372036854775808 := by decide
  have e2 : IntKind.i64.max = 9223372036854775807 := by decide
  have e3 : ((2 : Nat) ^ 64 : Nat) = 18446744073709551616 := by decide
  rw [BitVec.toNat_ofInt, e3]
  omega
theorem or_zero (x y : Int) (hx : IntKind.i64.min ≤ x ∧ x ≤ IntKind.i64.max) (hy : IntKind.i64.min ≤ y ∧ y ≤ IntKind.i64.max) : bits .or .i64 x y = 0 ↔ x = 0 ∧ y = 0 := by
  show IntKind.i64.wrap ((BitVec.ofInt 64 x ||| BitVec.ofInt 64 y).toNat : Int) = 0 ↔ _
  rw [wrap_nat_zero _ (by have := (BitVec.ofInt 64 x ||| BitVec.ofInt 64 y).isLt; exact this), BitVec.toNat_or, Nat.or_eq_zero_iff, ofInt_zero x hx, ofInt_zero y hy]
theorem wrap_in64 (x : Int) : IntKind.i64.min ≤ IntKind.i64.wrap x ∧ IntKind.i64.wrap x ≤ IntKind.i64.max := by
  have e1 : (2 : Int) ^ IntKind.i64.bits = 18446744073709551616 := by decide
  have e2 : (2 : Int) ^ (IntKind.i64.bits - 1) = 9223372036854775808 := by decide
  have e3 : IntKind.i64.min = -9223372036854775808 := by decide
  have e4 : IntKind.i64.max = 9223372036854775807 := by decide
  simp only [IntKind.wrap, e1, e2, e3, e4, show IntKind.i64.signed = true from rfl, Bool.true_and, decide_eq_true_eq]
  split <;> omega
theorem or_in (x y : Int) : IntKind.i64.min ≤ bits .or .i64 x y ∧ bits .or .i64 x y ≤ IntKind.i64.max := wrap_in64 _
theorem or6 (a b c d e f : Int) (ha : IntKind.i64.min ≤ a ∧ a ≤ IntKind.i64.max) (hb : IntKind.i64.min ≤ b ∧ b ≤ IntKind.i64.max) (hc : IntKind.i64.min ≤ c ∧ c ≤ IntKind.i64.max) (hd : IntKind.i64.min ≤ d ∧ d ≤ IntKind.i64.max) (he : IntKind.i64.min ≤ e ∧ e ≤ IntKind.i64.max) (hf : IntKind.i64.min ≤ f ∧ f ≤ IntKind.i64.max) :
    (bits .or .i64 (bits .or .i64 (bits .or .i64 (bits .or .i64 (bits .or .i64 a b) c) d) e) f = 0) ↔ (a = 0 ∧ b = 0 ∧ c = 0 ∧ d = 0 ∧ e = 0 ∧ f = 0) := by
  rw [or_zero _ _ (or_in _ _) hf, or_zero _ _ (or_in _ _) he, or_zero _ _ (or_in _ _) hd, or_zero _ _ (or_in _ _) hc, or_zero _ _ ha hb]
  simp only [and_assoc]

set_option maxRecDepth 100000 in
set_option maxHeartbeats 3200000 in
theorem check_goes (w : World) (S : Nat → Prop) (cs : List Value) (d : JBuf.Data) (h : Rep w S JBuf cs d) (hS : ∀ b, S b → b < w.heap.size) :
    Calls Try.prog 8 #[.agg cs.toArray] w fun e w' => e = .returned (.int .i64 (if checkB d then 0 else 260)) ∧ Below w.heap.size w w' := by
  obtain ⟨fr, now, bg, fd, sq, hg, lw, bs, jt, ls, hs, ⟨⟩⟩ := d
  have h' := h
  obtain ⟨A, c, rfl, hh, ⟨hfr, hnow, hsq, hhg⟩, hlw, hbs, hjt, hls⟩ := rep_buf h'
  have ho6 := or6 sq hg lw bs jt ls hsq hhg hlw hbs hjt hls
  generalize hres : (if checkB (fr, now, bg, fd, sq, hg, lw, bs, jt, ls, hs, ()) = true then (0 : Int) else 260) = res
  have HV := Lib.hid hres
  have HRp := Lib.hid h
  have HS := Lib.hid hS
  have HO := Lib.hid ho6
  clear h h' hres hS hh ho6
  go_enter Try.func8, Try.ntmps8
  go_wp2_with (refine step_boxh (cs := [.int .i64 fr, .int .i64 now, .bool bg, .bool fd, .int .i64 sq, .int .i64 hg, .int .i64 lw, .int .i64 bs, .int .i64 jt, .int .i64 ls, .slice A hs.length c]) rfl rfl rfl fun w0 M0 B0 Z0 => ?_)
  have m0 := M0.cell 0 rfl
  have m1 := M0.cell 1 rfl
  have m2 := M0.cell 2 rfl
  have m3 := M0.cell 3 rfl
  have m4 := M0.cell 4 rfl
  have m5 := M0.cell 5 rfl
  have m6 := M0.cell 6 rfl
  have m7 := M0.cell 7 rfl
  have m8 := M0.cell 8 rfl
  have m9 := M0.cell 9 rfl
  have m10 := M0.cell 10 rfl
  have HA0 := Lib.hid M0.at_
  have HB0 := Lib.hid B0
  have HW := Lib.hid (within_goes w0)
  clear M0 B0
  refine Lib.hid ?_
  go_wp2_with fail
  refine (HW.out 1 96 fr).mono ?_
  rintro e _ ⟨rfl, rfl⟩
  cases hq0 : withinF 1 96 fr with
  | false =>
    cases bg with
    | false =>
      go_wp2_with fail
      go_ret
      exact ⟨by rw [← HV.out]; simp [checkB, hq0], HB0.out⟩
    | true =>
      go_wp2_with fail
      go_ret
      exact ⟨by rw [← HV.out]; simp [checkB, hq0], HB0.out⟩
  | true =>
    go_wp2_with fail
    refine (HW.out 0 1099511627776 now).mono ?_
    rintro e _ ⟨rfl, rfl⟩
    cases hq1 : withinF 0 1099511627776 now with
    | false =>
      cases bg with
      | false =>
        go_wp2_with fail
        go_ret
        exact ⟨by rw [← HV.out]; simp [checkB, hq0, hq1], HB0.out⟩
      | true =>
        go_wp2_with fail
        go_ret
        exact ⟨by rw [← HV.out]; simp [checkB, hq0, hq1], HB0.out⟩
    | true =>
      go_wp2_with fail
      refine (HW.out 0 1048576 jt).mono ?_
      rintro e _ ⟨rfl, rfl⟩
      cases hq2 : withinF 0 1048576 jt with
      | false =>
        cases bg with
        | false =>
          go_wp2_with fail
          go_ret
          exact ⟨by rw [← HV.out]; simp [checkB, hq0, hq1, hq2], HB0.out⟩
        | true =>
          go_wp2_with fail
          go_ret
          exact ⟨by rw [← HV.out]; simp [checkB, hq0, hq1, hq2], HB0.out⟩
      | true =>
        go_wp2_with fail
        refine (HW.out 0 1099511627776 ls).mono ?_
        rintro e _ ⟨rfl, rfl⟩
        cases hq3 : withinF 0 1099511627776 ls with
        | false =>
          cases bg with
          | false =>
            go_wp2_with fail
            go_ret
            exact ⟨by rw [← HV.out]; simp [checkB, hq0, hq1, hq2, hq3], HB0.out⟩
          | true =>
            go_wp2_with fail
            go_ret
            exact ⟨by rw [← HV.out]; simp [checkB, hq0, hq1, hq2, hq3], HB0.out⟩
        | true =>
          cases bg with
          | false =>
            cases fd with
            | true =>
              go_wp2_with fail
              go_ret
              exact ⟨by rw [← HV.out]; simp [checkB, hq0, hq1, hq2, hq3], HB0.out⟩
            | false =>
              by_cases hz : bits .or .i64 (bits .or .i64 (bits .or .i64 (bits .or .i64 (bits .or .i64 sq hg) lw) bs) jt) ls = 0
              · have hz2 := HO.out.1 hz
                have HZ2 := Lib.hid hz2
                clear hz2
                by_cases hl : hs.length = 0
                · have hl2 : ((hs.length : Int) = 0) := by omega
                  go_wp2_with fail
                  go_ret
                  exact ⟨by rw [← HV.out]; simp only [checkB, hq0, hq1, hq2, hq3, hl, decide_eq_true HZ2.out]; simp, HB0.out⟩
                · have hl2 : ((hs.length : Int) == 0) = false := by simp; intro e; exact hl (by simp [e])
                  go_wp2_with fail
                  go_ret
                  exact ⟨by rw [← HV.out]; simp [checkB, hq0, hq1, hq2, hq3, hl], HB0.out⟩
              · go_wp2_with fail
                go_ret
                have hz2 : ¬ (sq = 0 ∧ hg = 0 ∧ lw = 0 ∧ bs = 0 ∧ jt = 0 ∧ ls = 0) := fun h => hz (HO.out.2 h)
                exact ⟨by rw [← HV.out]; simp only [checkB, decide_eq_false hz2]; simp, HB0.out⟩
          | true =>
            go_wp2_with fail
            refine (HW.out 0 65535 sq).mono ?_
            rintro e _ ⟨rfl, rfl⟩
            cases hr0 : withinF 0 65535 sq with
            | false =>
              go_wp2_with fail
              go_ret
              exact ⟨by rw [← HV.out]; simp [checkB, hq0, hq1, hq2, hq3, hr0], HB0.out⟩
            | true =>
              go_wp2_with fail
              refine (HW.out 0 1152921504606846976 hg).mono ?_
              rintro e _ ⟨rfl, rfl⟩
              cases hr1 : withinF 0 1152921504606846976 hg with
              | false =>
                go_wp2_with fail
                go_ret
                exact ⟨by rw [← HV.out]; simp [checkB, hq0, hq1, hq2, hq3, hr0, hr1], HB0.out⟩
              | true =>
                go_wp2_with fail
                refine (HW.out (-1152921504606846976) bs lw).mono ?_
                rintro e _ ⟨rfl, rfl⟩
                cases hr2 : withinF (-1152921504606846976) bs lw with
                | false =>
                  go_wp2_with fail
                  go_ret
                  exact ⟨by rw [← HV.out]; simp [checkB, hq0, hq1, hq2, hq3, hr0, hr1, hr2], HB0.out⟩
                | true =>
                  by_cases hb : bs ≤ 1152921504606846976
                  · go_wp2_with (refine wpList_load_mid rfl 24 _ rfl w.heap.size 0 rfl [.int .i64 fr, .int .i64 now, .bool bg, .bool fd, .int .i64 sq, .int .i64 hg, .int .i64 lw, .int .i64 bs, .int .i64 jt, .int .i64 ls, .slice A hs.length c] _ (fun j x hv => (HA0.out j x hv).1) Try.underlying24 rfl (by kernel_rfl) ?_)
                    refine (held_goes _ S _ fr now true fd sq hg lw bs jt ls hs (HRp.out.below HB0.out) (fun b hb => Nat.lt_of_lt_of_le (HS.out b hb) HB0.out.size)).mono ?_
                    rintro e w2 ⟨rfl, hb2⟩
                    have HB2 := Lib.hid (HB0.out.trans (hb2.mono HB0.out.size))
                    clear hb2
                    cases hh : (heldF sq hg (-1) hs && decide (hs.length ≤ 64)) with
                    | false =>
                      go_wp2_with fail
                      go_ret
                      exact ⟨by rw [← HV.out]; simp [checkB, hq0, hq1, hq2, hq3, hr0, hr1, hr2, hb]; intro h1; simpa [h1] using hh, HB2.out⟩
                    | true =>
                      go_wp2_with fail
                      go_ret
                      exact ⟨by rw [← HV.out]; simp only [checkB, hh, hq0, hq1, hq2, hq3, hr0, hr1, hr2, hb]; simp [hq0, hq1, hq2, hq3, hr0, hr1, hr2, hb], HB2.out⟩
                  · go_wp2_with fail
                    go_ret
                    exact ⟨by rw [← HV.out]; simp [checkB, hq0, hq1, hq2, hq3, hr0, hr1, hr2, hb]; intro h1; exact absurd h1 (Int.not_le.2 hb), HB0.out⟩
end Go.Proofs.Ytjmohkgbfigcgaa.Sh
