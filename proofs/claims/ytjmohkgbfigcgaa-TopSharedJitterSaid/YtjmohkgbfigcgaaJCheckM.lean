/- media.Check -/
import Derived.Test.YtjmohkgbfigcgaaJTy
namespace Go.Proofs.Ytjmohkgbfigcgaa.Sh
open Go Go.RowKit
set_option linter.unusedVariables false
set_option linter.unusedSimpArgs false

def ok1M (k s t r p : Int) (xs : List Int) (n : Nat) : Bool := fitF 7 [k] && fitF 16 [s] && fitF 32 [t, r] && fitF 32 xs && fitF 8 [p] && decide (xs.length ≤ 15) && decide (n ≤ 16)

theorem ints_one (w : World) (x : Int) : IntsAt (w.alloc (.cells #[.int .i64 x] 3)) (some ⟨w.heap.size, 0, none⟩) [x] := fun i hi => by
  obtain rfl : i = 0 := by simp at hi; omega
  exact ⟨w.heap.size, 0, rfl, by simp, (Bk.new w _ [.int .i64 x]).cell 0 rfl⟩
theorem ints_two (w : World) (x y : Int) : IntsAt (w.alloc (.cells #[.int .i64 x, .int .i64 y] 3)) (some ⟨w.heap.size, 0, none⟩) [x, y] := fun i hi => by
  have hi2 : i = 0 ∨ i = 1 := by simp at hi; omega
  rcases hi2 with rfl | rfl
  · exact ⟨w.heap.size, 0, rfl, by simp, (Bk.new w _ [.int .i64 x, .int .i64 y]).cell 0 rfl⟩
  · exact ⟨w.heap.size, 0, rfl, by simp, (Bk.new w _ [.int .i64 x, .int .i64 y]).cell 1 rfl⟩
/-- fits on a list just made -/
theorem fits_one (w : World) (b x : Int) (h0 : 0 ≤ b) (h1 : b ≤ 62) : Calls Try.prog 62 #[.int .i64 b, .slice (some ⟨w.heap.size, 0, none⟩) 1 1] (w.alloc (.cells #[.int .i64 x] 3)) fun e w' => e = .returned (.bool (fitF b [x])) ∧ Below w.heap.size w w' := by
  refine (fits_goes _ 1 1 [x] b _ h0 h1 rfl (by omega) (ints_one w x)).mono ?_
  rintro e w' ⟨h1, h2⟩
  exact ⟨h1, ((Below.refl _ w).alloc (Nat.le_refl _) _).trans (h2.mono (by simp))⟩
theorem fits_two (w : World) (b x y : Int) (h0 : 0 ≤ b) (h1 : b ≤ 62) : Calls Try.prog 62 #[.int .i64 b, .slice (some ⟨w.heap.size, 0, none⟩) 2 2] (w.alloc (.cells #[.int .i64 x, .int .i64 y] 3)) fun e w' => e = .returned (.bool (fitF b [x, y])) ∧ Below w.heap.size w w' := by
  refine (fits_goes _ 2 2 [x, y] b _ h0 h1 rfl (by omega) (ints_two w x y)).mono ?_
  rintro e w' ⟨h1, h2⟩
  exact ⟨h1, ((Below.refl _ w).alloc (Nat.le_refl _) _).trans (h2.mono (by simp))⟩
theorem med_cells {w : World} {N : Nat} {T : TypeId} {a0 a1 a2 a3 a4 a5 a6 a7 a8 : Value} (h : Bk w N T [a0, a1, a2, a3, a4, a5, a6, a7, a8]) :
    (w.cell? ⟨N, 0, none⟩ = some a0 ∧ w.cell? ⟨N, 1, none⟩ = some a1 ∧ w.cell? ⟨N, 2, none⟩ = some a2 ∧ w.cell? ⟨N, 3, none⟩ = some a3 ∧ w.cell? ⟨N, 4, none⟩ = some a4) ∧ w.cell? ⟨N, 5, none⟩ = some a5 ∧ w.cell? ⟨N, 6, none⟩ = some a6 ∧ w.cell? ⟨N, 7, none⟩ = some a7 ∧ w.cell? ⟨N, 8, none⟩ = some a8 :=
  ⟨⟨h.cell 0 rfl, h.cell 1 rfl, h.cell 2 rfl, h.cell 3 rfl, h.cell 4 rfl⟩, h.cell 5 rfl, h.cell 6 rfl, h.cell 7 rfl, h.cell 8 rfl⟩

set_option maxRecDepth 100000 in
set_option maxHeartbeats 1600000 in
theorem checkM_goes (w : World) (S : Nat → Prop) (cs : List Value) (d : JMed.Data) (h : Rep w S JMed cs d) (hS : ∀ b, S b → b < w.heap.size) :
    Calls Try.prog 37 #[.agg cs.toArray] w fun e w' => e = .returned (.int .i64 (if checkM d then 0 else 230)) ∧ Below w.heap.size w w' := by
  obtain ⟨v, k, s, t, r, xs, es, p, pay, ⟨⟩⟩ := d
  obtain ⟨A, c, A', c', rfl, hxs, hes, hk, hs, ht, hr, hp, hpay⟩ := rep_med h
  obtain ⟨hxa, hxl⟩ := ints_at hxs
  have HX := Lib.hid hxa
  have HE := Lib.hid hes
  clear h hxs hxa hes
  generalize hres : (if checkM (v, k, s, t, r, xs, es, p, pay, ()) = true then (0 : Int) else 230) = res
  have HRes := Lib.hid hres
  clear hres
  go_enter Try.func37, Try.ntmps37
  generalize hcs : ([.bool v, .int .i64 k, .int .i64 s, .int .i64 t, .int .i64 r, .slice A xs.length c, .slice A' es.length c', .int .i64 p, .string pay] : List Value) = cs
  have HCS := Lib.hid hcs.symm
  clear hcs
  refine wp_seq_mid (fun a' w' => a' = ⟨#[.agg cs.toArray, .pointer (some ⟨w.heap.size, 0, none⟩), .int .i64 0, undef, undef, undef, undef, undef, undef, undef, undef, undef, undef, undef, undef, undef, undef, undef, undef, undef, undef, undef, undef, undef, undef, undef, undef, undef, undef, undef, undef, undef, undef, undef, undef, undef, undef, undef, undef, undef, undef, undef, undef, undef, undef, undef, undef, undef, undef, undef, undef, undef, undef, undef, undef, undef, undef, undef, undef, undef, undef, undef, undef, undef, undef, undef, undef, undef, undef, undef, undef, undef, undef, undef, undef, undef, undef, undef, undef, undef, undef, undef, undef, undef, undef, undef, undef, undef, undef], []⟩ ∧ Bk w' w.heap.size 28 [.bool v, .int .i64 k, .int .i64 s, .int .i64 t, .int .i64 r, .slice A xs.length c, .slice A' es.length c', .int .i64 p, .string pay] ∧ Below w.heap.size w w' ∧ w'.heap.size = w.heap.size + 1) ?_ ?_
  · intro Mi hM
    have HM := Lib.hid hM
    clear hM
    go_wp2_with (refine step_box rfl rfl rfl ?_)
    exact HM.out _ _ ⟨rfl, by rw [← HCS.out]; exact Bk.new w _ cs, (Below.refl _ w).alloc (Nat.le_refl _) _, alloc_size _ _⟩
  rintro _ w0 ⟨rfl, hB0, hb0, hz0⟩
  refine wp_seq_mid (fun a' w' => ∃ b : Bool, b = ok1M k s t r p xs es.length ∧ Below w.heap.size w w' ∧ Bk w' w.heap.size 28 [.bool v, .int .i64 k, .int .i64 s, .int .i64 t, .int .i64 r, .slice A xs.length c, .slice A' es.length c', .int .i64 p, .string pay] ∧ ∃ u6 u7 u8 u9 u10 u11 u12 u13 u14 u15 u16 u17 u18 u19 u20 u21 u22 u23 u24 u25 u26 u27 u28 u29 u30 u31 u32 u33 u34 u35 u36 u37 u38 u39 u40 u41 u42 u43 u44 u45 u46 : Value, a' = ⟨#[.agg cs.toArray, .pointer (some ⟨w.heap.size, 0, none⟩), .int .i64 0, .bool b, undef, undef, u6, u7, u8, u9, u10, u11, u12, u13, u14, u15, u16, u17, u18, u19, u20, u21, u22, u23, u24, u25, u26, u27, u28, u29, u30, u31, u32, u33, u34, u35, u36, u37, u38, u39, u40, u41, u42, u43, u44, u45, u46, undef, undef, undef, undef, undef, undef, undef, undef, undef, undef, undef, undef, undef, undef, undef, undef, undef, undef, undef, undef, undef, undef, undef, undef, undef, undef, undef, undef, undef, undef, undef, undef, undef, undef, undef, undef, undef, undef, undef, undef, undef, undef], []⟩) ?_ ?_
  · intro Mi hM
    have HM := Lib.hid hM
    clear hM
    have HZ0 := Lib.hid hz0
    have L0 := Lib.hid hb0
    have M0 := Lib.hid hB0
    have hlt0 : w.heap.size < w0.heap.size := hB0.lt
    have hle0 := hb0.size
    clear hz0 hb0 hB0
    obtain ⟨⟨m0, m1, m2, m3, m4⟩, m5, m6, m7, m8⟩ := med_cells M0.out
    have HF := Lib.hid (fits_one w0 7 k (by omega) (by omega))
    go_wp2_with fail
    refine HF.out.mono ?_
    rintro e w1 ⟨rfl, hb⟩
    have L1 := Lib.hid (L0.out.trans (hb.mono hle0))
    have M1 := Lib.hid (M0.out.below (hb.mono (Nat.le_refl _)))
    have hlt1 : w.heap.size < w1.heap.size := Nat.lt_of_lt_of_le hlt0 hb.size
    have hle1 : w.heap.size ≤ w1.heap.size := Nat.le_of_lt hlt1
    clear HF hb m0 m1 m2 m3 m4 m5 m6 m7 m8
    cases hq1 : fitF 7 [k] with
    | false =>
      go_wp2_with fail
      exact HM.out _ _ ⟨false, by simp [ok1M, hq1], L1.out, M1.out, _, _, _, _, _, _, _, _, _, _, _, _, _, _, _, _, _, _, _, _, _, _, _, _, _, _, _, _, _, _, _, _, _, _, _, _, _, _, _, _, _, rfl⟩
    | true =>
      obtain ⟨⟨m0, m1, m2, m3, m4⟩, m5, m6, m7, m8⟩ := med_cells M1.out
      have HF := Lib.hid (fits_one w1 16 s (by omega) (by omega))
      go_wp2_with fail
      refine HF.out.mono ?_
      rintro e w2 ⟨rfl, hb⟩
      have L2 := Lib.hid (L1.out.trans (hb.mono hle1))
      have M2 := Lib.hid (M1.out.below (hb.mono (Nat.le_refl _)))
      have hlt2 : w.heap.size < w2.heap.size := Nat.lt_of_lt_of_le hlt1 hb.size
      have hle2 : w.heap.size ≤ w2.heap.size := Nat.le_of_lt hlt2
      clear HF hb m0 m1 m2 m3 m4 m5 m6 m7 m8
      cases hq2 : fitF 16 [s] with
      | false =>
        go_wp2_with fail
        exact HM.out _ _ ⟨false, by simp [ok1M, hq1, hq2], L2.out, M2.out, _, _, _, _, _, _, _, _, _, _, _, _, _, _, _, _, _, _, _, _, _, _, _, _, _, _, _, _, _, _, _, _, _, _, _, _, _, _, _, _, _, rfl⟩
      | true =>
        obtain ⟨⟨m0, m1, m2, m3, m4⟩, m5, m6, m7, m8⟩ := med_cells M2.out
        have HF := Lib.hid (fits_two w2 32 t r (by omega) (by omega))
        go_wp2_with fail
        refine HF.out.mono ?_
        rintro e w3 ⟨rfl, hb⟩
        have L3 := Lib.hid (L2.out.trans (hb.mono hle2))
        have M3 := Lib.hid (M2.out.below (hb.mono (Nat.le_refl _)))
        have hlt3 : w.heap.size < w3.heap.size := Nat.lt_of_lt_of_le hlt2 hb.size
        have hle3 : w.heap.size ≤ w3.heap.size := Nat.le_of_lt hlt3
        clear HF hb m0 m1 m2 m3 m4 m5 m6 m7 m8
        cases hq3 : fitF 32 [t, r] with
        | false =>
          go_wp2_with fail
          exact HM.out _ _ ⟨false, by simp [ok1M, hq1, hq2, hq3], L3.out, M3.out, _, _, _, _, _, _, _, _, _, _, _, _, _, _, _, _, _, _, _, _, _, _, _, _, _, _, _, _, _, _, _, _, _, _, _, _, _, _, _, _, _, rfl⟩
        | true =>
          obtain ⟨⟨m0, m1, m2, m3, m4⟩, m5, m6, m7, m8⟩ := med_cells M3.out
          have HF := Lib.hid (fits_list A c xs 32 w3 (by omega) (by omega) hxl (HX.out.below (L3.out)))
          go_wp2_with fail
          refine HF.out.mono ?_
          rintro e w4 ⟨rfl, hb⟩
          have L4 := Lib.hid (L3.out.trans (hb.mono hle3))
          have M4 := Lib.hid (M3.out.below (hb.mono (Nat.le_refl _)))
          have hlt4 : w.heap.size < w4.heap.size := Nat.lt_of_lt_of_le hlt3 hb.size
          have hle4 : w.heap.size ≤ w4.heap.size := Nat.le_of_lt hlt4
          clear HF hb m0 m1 m2 m3 m4 m5 m6 m7 m8
          cases hq4 : fitF 32 xs with
          | false =>
            go_wp2_with fail
            exact HM.out _ _ ⟨false, by simp [ok1M, hq1, hq2, hq3, hq4], L4.out, M4.out, _, _, _, _, _, _, _, _, _, _, _, _, _, _, _, _, _, _, _, _, _, _, _, _, _, _, _, _, _, _, _, _, _, _, _, _, _, _, _, _, _, rfl⟩
          | true =>
            obtain ⟨⟨m0, m1, m2, m3, m4⟩, m5, m6, m7, m8⟩ := med_cells M4.out
            have HF := Lib.hid (fits_one w4 8 p (by omega) (by omega))
            go_wp2_with fail
            refine HF.out.mono ?_
            rintro e w5 ⟨rfl, hb⟩
            have L5 := Lib.hid (L4.out.trans (hb.mono hle4))
            have M5 := Lib.hid (M4.out.below (hb.mono (Nat.le_refl _)))
            have hlt5 : w.heap.size < w5.heap.size := Nat.lt_of_lt_of_le hlt4 hb.size
            have hle5 : w.heap.size ≤ w5.heap.size := Nat.le_of_lt hlt5
            clear HF hb m0 m1 m2 m3 m4 m5 m6 m7 m8
            cases hq5 : fitF 8 [p] with
            | false =>
              go_wp2_with fail
              exact HM.out _ _ ⟨false, by simp [ok1M, hq1, hq2, hq3, hq4, hq5], L5.out, M5.out, _, _, _, _, _, _, _, _, _, _, _, _, _, _, _, _, _, _, _, _, _, _, _, _, _, _, _, _, _, _, _, _, _, _, _, _, _, _, _, _, _, rfl⟩
            | true =>
              obtain ⟨⟨m0, m1, m2, m3, m4⟩, m5, m6, m7, m8⟩ := med_cells M5.out
              by_cases h6 : xs.length ≤ 15
              · have h7 : decide ((es.length : Int) ≤ 16) = decide (es.length ≤ 16) := by simp only [decide_eq_decide]; omega
                have H7 := Lib.hid h7
                clear h7
                go_wp2_with fail
                exact HM.out _ _ ⟨decide ((es.length : Int) ≤ 16), by rw [H7.out]; simp [ok1M, hq1, hq2, hq3, hq4, hq5, h6], L5.out, M5.out, _, _, _, _, _, _, _, _, _, _, _, _, _, _, _, _, _, _, _, _, _, _, _, _, _, _, _, _, _, _, _, _, _, _, _, _, _, _, _, _, _, rfl⟩
              · go_wp2_with fail
                exact HM.out _ _ ⟨false, by simp [ok1M, hq1, hq2, hq3, hq4, hq5, h6], L5.out, M5.out, _, _, _, _, _, _, _, _, _, _, _, _, _, _, _, _, _, _, _, _, _, _, _, _, _, _, _, _, _, _, _, _, _, _, _, _, _, _, _, _, _, rfl⟩
  · rintro _ w1 ⟨b, hb, L, M, u6, u7, u8, u9, u10, u11, u12, u13, u14, u15, u16, u17, u18, u19, u20, u21, u22, u23, u24, u25, u26, u27, u28, u29, u30, u31, u32, u33, u34, u35, u36, u37, u38, u39, u40, u41, u42, u43, u44, u45, u46, rfl⟩
    obtain ⟨-, hn1, hn2, hn3, news, hplace, hrl⟩ := rep_sl.1 HE.out
    have hnl : es.length ≤ 9223372036854775807 := by rw [big_eq] at hn3; omega
    have HP := Lib.hid hplace
    have HR := Lib.hid hrl
    have HM := Lib.hid M
    have HL := Lib.hid L
    have HBq := Lib.hid hb
    obtain ⟨-, -, m6, -, -⟩ := med_cells M
    clear hplace hrl M L hb HX hn3
    go_wp2_with fail
    go_loopw [3, 50] (fun ok i wr => ∃ (kk : Nat) (bk : Bool) (q : Option Int), ok = .bool bk ∧ i = .int .i64 kk ∧ kk ≤ es.length ∧ (kk = 0 → q = none) ∧ (∀ h : 0 < kk ∧ kk ≤ es.length, q = some (es[kk - 1]'(by omega)).1) ∧ (b && extsOk none es) = (bk && extsOk q (es.drop kk)) ∧
      Below w.heap.size w wr ∧ Bk wr w.heap.size 28 [.bool v, .int .i64 k, .int .i64 s, .int .i64 t, .int .i64 r, .slice A xs.length c, .slice A' es.length c', .int .i64 p, .string pay]) (fun _ i _ => es.length - (intOf i).toNat)
    case atStart => exact ⟨0, b, none, rfl, rfl, by omega, fun _ => rfl, fun h => absurd h.1 (by omega), by simp, HL.out, HM.out⟩
    case round =>
      obtain ⟨kk, bk, q, rfl, rfl, hkk, hq0, hq1, heq, hL, hM⟩ := hrel
      have L := Lib.hid hL
      have M := Lib.hid hM
      have HEq := Lib.hid heq
      have hzr := hL.size
      have hNr := hM.lt
      clear hL hM heq m6
      by_cases hlt : kk < es.length
      · obtain ⟨eb, eo, rfl, hSe, hel, hat⟩ := HP.out (by omega)
        have hre := HR.out.2 kk hlt
        rcases hek : es[kk] with ⟨id, sv, ⟨⟩⟩
        rw [hek] at hre
        obtain ⟨_, _, hseg, ⟨rfl, hid1, hid2⟩, _, _, rfl, ⟨rfl, hsv⟩, rfl⟩ := hre
        have hae := (hat.seg (kk * 2) 2)
        have hseg' : (news.drop (kk * 2)).take 2 = [.int .i64 id, .string sv] := hseg
        rw [hseg'] at hae
        have hae' := Lib.hid (hae.frame (L.out.block eb hel))
        clear hae hat hseg hseg'
        go_wp2_with (refine wpList_load_mid rfl 104 _ rfl eb (eo + kk * 2) rfl [.int .i64 id, .string sv] _ (fun j v hv => (hae'.out j v hv).1) Try.underlying104 rfl (by kernel_rfl) ?_)
        have hb4 : Below w.heap.size w (wr.alloc (.cells #[.int .i64 id, .string sv] 104)) := L.out.trans (((Below.refl _ wr).alloc (Nat.le_refl _) _).mono hzr)
        have e4 : Bk (wr.alloc (.cells #[.int .i64 id, .string sv] 104)) wr.heap.size 104 [.int .i64 id, .string sv] := Bk.new wr _ [.int .i64 id, .string sv]
        have M4 : Bk (wr.alloc (.cells #[.int .i64 id, .string sv] 104)) w.heap.size 28 [.bool v, .int .i64 k, .int .i64 s, .int .i64 t, .int .i64 r, .slice A xs.length c, .slice (some ⟨eb, eo, none⟩) es.length c', .int .i64 p, .string pay] := M.out.alloc _
        have hz4 : (wr.alloc (.cells #[.int .i64 id, .string sv] 104)).heap.size = wr.heap.size + 1 := alloc_size _ _
        generalize (wr.alloc (.cells #[.int .i64 id, .string sv] 104)) = w4 at hb4 e4 M4 hz4 ⊢
        have hdr : Below w4.heap.size w4 w4.drew := (Below.refl _ w4).drew
        have e4' := e4.below hdr
        have M4d := M4.below hdr
        have hprev : ∀ h : 0 < kk ∧ kk ≤ es.length, w4.drew.cell? ⟨eb, eo + (kk - 1) * 2, none⟩ = some (.int .i64 (es[kk - 1]'(by omega)).1) := fun h => by
          obtain ⟨b', o', e', -, -, ha'⟩ := HP.out (by omega)
          injection e' with e'
          injection e' with e1 e2 _
          subst e1; subst e2
          have hre' := HR.out.2 (kk - 1) (by omega)
          rcases hek' : es[kk - 1] with ⟨id', sv', ⟨⟩⟩
          rw [hek'] at hre'
          obtain ⟨_, _, hs1, ⟨rfl, _, _⟩, _⟩ := hre'
          have ha2 := ha'.seg ((kk - 1) * 2) 2
          have hs2 : (news.drop ((kk - 1) * 2)).take 2 = _ := hs1
          rw [hs2] at ha2
          have := (ha2 0 _ rfl).1
          rw [Nat.add_zero] at this
          exact (bcell' hb4.drew hel).trans this
        have hS4 : (fun u => (u.cell? ⟨wr.heap.size, 0, none⟩ = some (.int .i64 id) ∧ u.cell? ⟨wr.heap.size, 1, none⟩ = some (.string sv)) ∧ u.cell? ⟨w.heap.size, 6, none⟩ = some (.slice (some ⟨eb, eo, none⟩) es.length c') ∧ (∀ h : 0 < kk ∧ kk ≤ es.length, u.cell? ⟨eb, eo + (kk - 1) * 2, none⟩ = some (.int .i64 (es[kk - 1]'(by omega)).1))) w4.drew := ⟨⟨e4'.cell 0 rfl, e4'.cell 1 rfl⟩, M4d.cell 6 rfl, hprev⟩
        have L4 := Lib.hid hb4.drew
        have M4' := Lib.hid M4d
        have HS4 := Lib.hid hS4
        have HQ0 := Lib.hid hq0
        have HQ1 := Lib.hid hq1
        have hdrop : es.drop kk = (id, sv, ()) :: es.drop (kk + 1) := by rw [← hek]; exact List.drop_eq_getElem_cons hlt
        have heq2 := HEq.out
        rw [hdrop] at heq2
        simp only [extsOk] at heq2
        have HEq2 := Lib.hid heq2
        clear hb4 e4 M4 e4' M4d hdr hprev hS4 hq0 hq1 hdrop heq2 HEq
        cases bk with
        | false =>
          refine wp_region_ord 32 [(0, true), (1, true), (2, true), (3, true), (4, true), (5, true), (6, true), (7, true), (8, true), (9, true), (10, true), (11, true), (12, true), (13, true), (14, true), (15, true), (16, true), (17, true), (18, true), (19, true), (20, true), (21, true), (22, true), (23, true), (24, true), (25, true), (26, true), (27, true), (28, true), (29, true), (30, true), (31, true)] (fun u => (u.cell? ⟨wr.heap.size, 0, none⟩ = some (.int .i64 id) ∧ u.cell? ⟨wr.heap.size, 1, none⟩ = some (.string sv)) ∧ u.cell? ⟨w.heap.size, 6, none⟩ = some (.slice (some ⟨eb, eo, none⟩) es.length c') ∧ (∀ h : 0 < kk ∧ kk ≤ es.length, u.cell? ⟨eb, eo + (kk - 1) * 2, none⟩ = some (.int .i64 (es[kk - 1]'(by omega)).1))) (by kernel_rfl) (by kernel_rfl) HS4.out ?_
          (refine ord_read (by rfl) (by rfl) (fun u hu => by (obtain ⟨⟨hu1, hu2⟩, hu3, hu4⟩ := hu; clear hu4; go_simp; try rfl)) ?_)
          (refine ord_read (by rfl) (by rfl) (fun u hu => by (obtain ⟨⟨hu1, hu2⟩, hu3, hu4⟩ := hu; clear hu4; go_simp; try rfl)) ?_)
          (refine ord_skip (by rfl) (by rfl) ?_)
          (refine ord_skip (by rfl) (by rfl) ?_)
          simp only [Act.put, List.setIfInBounds_toArray, List.set_cons_zero, List.set_cons_succ, List.getElem_toArray, List.getElem_cons_succ, List.getElem_cons_zero]
          (refine ord_skip (by rfl) (by rfl) ?_)
          (refine ord_skip (by rfl) (by rfl) ?_)
          (refine ord_skip (by rfl) (by rfl) ?_)
          (refine ord_skip (by rfl) (by rfl) ?_)
          simp only [Act.put, List.setIfInBounds_toArray, List.set_cons_zero, List.set_cons_succ, List.getElem_toArray, List.getElem_cons_succ, List.getElem_cons_zero]
          (refine ord_skip (by rfl) (by rfl) ?_)
          (refine ord_read (by rfl) (by rfl) (fun u hu => by (obtain ⟨⟨hu1, hu2⟩, hu3, hu4⟩ := hu; clear hu4; go_simp; try rfl)) ?_)
          (refine ord_read (by rfl) (by rfl) (fun u hu => by (obtain ⟨⟨hu1, hu2⟩, hu3, hu4⟩ := hu; clear hu4; go_simp; try rfl)) ?_)
          (refine ord_skip (by rfl) (by rfl) ?_)
          simp only [Act.put, List.setIfInBounds_toArray, List.set_cons_zero, List.set_cons_succ, List.getElem_toArray, List.getElem_cons_succ, List.getElem_cons_zero]
          (refine ord_skip (by rfl) (by rfl) ?_)
          (refine ord_skip (by rfl) (by rfl) ?_)
          (refine ord_read (by rfl) (by rfl) (fun u hu => by (obtain ⟨⟨hu1, hu2⟩, hu3, hu4⟩ := hu; clear hu4; go_simp; try rfl)) ?_)
          (refine ord_read (by rfl) (by rfl) (fun u hu => by (obtain ⟨⟨hu1, hu2⟩, hu3, hu4⟩ := hu; clear hu4; go_simp; try rfl)) ?_)
          simp only [Act.put, List.setIfInBounds_toArray, List.set_cons_zero, List.set_cons_succ, List.getElem_toArray, List.getElem_cons_succ, List.getElem_cons_zero]
          (refine ord_skip (by rfl) (by rfl) ?_)
          (refine ord_skip (by rfl) (by rfl) ?_)
          (refine ord_skip (by rfl) (by rfl) ?_)
          (refine ord_skip (by rfl) (by rfl) ?_)
          simp only [Act.put, List.setIfInBounds_toArray, List.set_cons_zero, List.set_cons_succ, List.getElem_toArray, List.getElem_cons_succ, List.getElem_cons_zero]
          (refine ord_skip (by rfl) (by rfl) ?_)
          (refine ord_skip (by rfl) (by rfl) ?_)
          (refine ord_skip (by rfl) (by rfl) ?_)
          (refine ord_skip (by rfl) (by rfl) ?_)
          simp only [Act.put, List.setIfInBounds_toArray, List.set_cons_zero, List.set_cons_succ, List.getElem_toArray, List.getElem_cons_succ, List.getElem_cons_zero]
          (refine ord_skip (by rfl) (by rfl) ?_)
          (refine ord_skip (by rfl) (by rfl) ?_)
          (refine ord_skip (by rfl) (by rfl) ?_)
          (refine ord_skip (by rfl) (by rfl) ?_)
          simp only [Act.put, List.setIfInBounds_toArray, List.set_cons_zero, List.set_cons_succ, List.getElem_toArray, List.getElem_cons_succ, List.getElem_cons_zero]
          (refine ord_skip (by rfl) (by rfl) ?_)
          (refine ord_skip (by rfl) (by rfl) ?_)
          (refine ord_read (by rfl) (by rfl) (fun u hu => by (obtain ⟨⟨hu1, hu2⟩, hu3, hu4⟩ := hu; clear hu4; go_simp; try rfl)) ?_)
          (refine ord_read (by rfl) (by rfl) (fun u hu => by (obtain ⟨⟨hu1, hu2⟩, hu3, hu4⟩ := hu; clear hu4; go_simp; try rfl)) ?_)
          simp only [Act.put, List.setIfInBounds_toArray, List.set_cons_zero, List.set_cons_succ, List.getElem_toArray, List.getElem_cons_succ, List.getElem_cons_zero]
          refine ord_nil ?_
          simp only [List.drop_succ_cons, List.drop_zero, Act.put, List.setIfInBounds_toArray, List.set_cons_zero, List.set_cons_succ, List.getElem_toArray, List.getElem_cons_succ, List.getElem_cons_zero]
          go_wp2_with fail
          refine NoPanic.normal ?_
          go_wp2_with fail
          go_roundw
          case rel =>
            refine ⟨kk + 1, false, some id, rfl, by go_num, by omega, fun h => absurd h (by omega), fun h => ?_, ?_, L4.out, M4'.out⟩
            · simp [hek]
            · rw [HEq2.out]; simp
          case measure => simp [intOf]; omega
        | true =>
          refine wp_region_ord 32 [(0, true), (1, true), (2, true), (3, true), (4, true), (5, true), (6, true), (7, false), (8, false), (9, true), (10, true), (11, true), (12, true), (13, true), (14, true), (15, true), (16, true), (17, true), (18, true), (19, true), (20, true), (21, true), (22, true), (23, true), (24, true), (25, true), (26, true), (27, true), (28, true), (29, true), (30, true), (31, true)] (fun u => (u.cell? ⟨wr.heap.size, 0, none⟩ = some (.int .i64 id) ∧ u.cell? ⟨wr.heap.size, 1, none⟩ = some (.string sv)) ∧ u.cell? ⟨w.heap.size, 6, none⟩ = some (.slice (some ⟨eb, eo, none⟩) es.length c') ∧ (∀ h : 0 < kk ∧ kk ≤ es.length, u.cell? ⟨eb, eo + (kk - 1) * 2, none⟩ = some (.int .i64 (es[kk - 1]'(by omega)).1))) (by kernel_rfl) (by kernel_rfl) HS4.out ?_
          generalize w4.drew = wd at HS4 L4 M4' ⊢
          have hwd : w.heap.size ≤ wd.heap.size := L4.out.size
          refine ord_read (by rfl) (by rfl) (fun u hu => by (obtain ⟨⟨hu1, hu2⟩, hu3, hu4⟩ := hu; clear hu4; go_simp; try rfl)) ?_
          refine ord_read (by rfl) (by rfl) (fun u hu => by (obtain ⟨⟨hu1, hu2⟩, hu3, hu4⟩ := hu; clear hu4; go_simp; try rfl)) ?_
          refine ord_read (by rfl) (by rfl) (fun u hu => by (obtain ⟨⟨hu1, hu2⟩, hu3, hu4⟩ := hu; clear hu4; go_simp; try rfl)) ?_
          refine ord_read (by rfl) (by rfl) (fun u hu => by (obtain ⟨⟨hu1, hu2⟩, hu3, hu4⟩ := hu; clear hu4; go_simp; try rfl)) ?_
          simp only [Act.put, List.setIfInBounds_toArray, List.set_cons_zero, List.set_cons_succ, List.getElem_toArray, List.getElem_cons_succ, List.getElem_cons_zero]
          refine ord_read (by rfl) (by rfl) (fun u hu => by (obtain ⟨⟨hu1, hu2⟩, hu3, hu4⟩ := hu; clear hu4; go_simp; try rfl)) ?_
          refine ord_read (by rfl) (by rfl) (fun u hu => by (obtain ⟨⟨hu1, hu2⟩, hu3, hu4⟩ := hu; clear hu4; go_simp; try rfl)) ?_
          refine ord_read (by rfl) (by rfl) (fun u hu => by (obtain ⟨⟨hu1, hu2⟩, hu3, hu4⟩ := hu; clear hu4; go_simp; try rfl)) ?_
          simp only [Act.put, List.setIfInBounds_toArray, List.set_cons_zero, List.set_cons_succ, List.getElem_toArray, List.getElem_cons_succ, List.getElem_cons_zero]
          refine ord_make (by rfl) (fun K hK => ?_)
          go_wp2_with fail
          have hS5 : Below wd.heap.size wd (wd.alloc (.cells #[.int .i64 id, .int .i64 (sv.size : Int)] 3)) := (Below.refl _ wd).alloc (Nat.le_refl _) _
          have q1 := World.block_lt_of_cell? _ _ HS4.out.1.1
          have q2 := World.block_lt_of_cell? _ _ HS4.out.2.1
          refine ⟨⟨⟨(bcell' hS5 q1).trans HS4.out.1.1, (bcell' hS5 q1).trans HS4.out.1.2⟩, (bcell' hS5 q2).trans HS4.out.2.1, fun h => (bcell' hS5 (by omega)).trans (HS4.out.2.2 ⟨h, by omega⟩)⟩, ?_⟩
          refine ord_make (by rfl) (fun K2 hK2 => ?_)
          rw [if_pos (by rfl)]
          have HF := fits_two wd 8 id (sv.size : Int) (by omega) (by omega)
          refine wp_call2 (f := 62) (x := .const (.int .i64 8)) (y := .tmp 62) rfl rfl rfl rfl rfl rfl rfl HF ?_
          rintro e w6 ⟨rfl, hb6⟩
          refine ⟨_, rfl, ?_⟩
          have L6 := Lib.hid (L4.out.trans (hb6.mono hwd))
          have M6 := Lib.hid (M4'.out.below hb6)
          refine hK2 _ _ ⟨⟨⟨(bcell' hb6 (World.block_lt_of_cell? _ _ HS4.out.1.1)).trans HS4.out.1.1, (bcell' hb6 (World.block_lt_of_cell? _ _ HS4.out.1.1)).trans HS4.out.1.2⟩, (bcell' hb6 (World.block_lt_of_cell? _ _ HS4.out.2.1)).trans HS4.out.2.1, fun h => (bcell' hb6 (by omega)).trans (HS4.out.2.2 ⟨h, by omega⟩)⟩, ?_⟩
          clear hK2 K2 HF hb6 hS5
          simp only [Act.put, List.setIfInBounds_toArray, List.set_cons_zero, List.set_cons_succ, List.getElem_toArray, List.getElem_cons_succ, List.getElem_cons_zero]
          cases hq : fitF 8 [id, (sv.size : Int)] with
          | false =>
            refine ord_read (by rfl) (by rfl) (fun u hu => by (obtain ⟨⟨hu1, hu2⟩, hu3, hu4⟩ := hu; clear hu4; go_simp; try rfl)) ?_
            refine ord_read (by rfl) (by rfl) (fun u hu => by (obtain ⟨⟨hu1, hu2⟩, hu3, hu4⟩ := hu; clear hu4; go_simp; try rfl)) ?_
            refine ord_skip (by rfl) (by rfl) ?_
            simp only [Act.put, List.setIfInBounds_toArray, List.set_cons_zero, List.set_cons_succ, List.getElem_toArray, List.getElem_cons_succ, List.getElem_cons_zero]
            refine ord_skip (by rfl) (by rfl) ?_
            refine ord_skip (by rfl) (by rfl) ?_
            refine ord_read (by rfl) (by rfl) (fun u hu => by (obtain ⟨⟨hu1, hu2⟩, hu3, hu4⟩ := hu; clear hu4; go_simp; try rfl)) ?_
            refine ord_read (by rfl) (by rfl) (fun u hu => by (obtain ⟨⟨hu1, hu2⟩, hu3, hu4⟩ := hu; clear hu4; go_simp; try rfl)) ?_
            simp only [Act.put, List.setIfInBounds_toArray, List.set_cons_zero, List.set_cons_succ, List.getElem_toArray, List.getElem_cons_succ, List.getElem_cons_zero]
            refine ord_skip (by rfl) (by rfl) ?_
            refine ord_skip (by rfl) (by rfl) ?_
            refine ord_skip (by rfl) (by rfl) ?_
            refine ord_skip (by rfl) (by rfl) ?_
            simp only [Act.put, List.setIfInBounds_toArray, List.set_cons_zero, List.set_cons_succ, List.getElem_toArray, List.getElem_cons_succ, List.getElem_cons_zero]
            refine ord_skip (by rfl) (by rfl) ?_
            refine ord_skip (by rfl) (by rfl) ?_
            refine ord_skip (by rfl) (by rfl) ?_
            refine ord_skip (by rfl) (by rfl) ?_
            simp only [Act.put, List.setIfInBounds_toArray, List.set_cons_zero, List.set_cons_succ, List.getElem_toArray, List.getElem_cons_succ, List.getElem_cons_zero]
            refine ord_skip (by rfl) (by rfl) ?_
            refine ord_skip (by rfl) (by rfl) ?_
            refine ord_skip (by rfl) (by rfl) ?_
            refine ord_skip (by rfl) (by rfl) ?_
            simp only [Act.put, List.setIfInBounds_toArray, List.set_cons_zero, List.set_cons_succ, List.getElem_toArray, List.getElem_cons_succ, List.getElem_cons_zero]
            refine ord_skip (by rfl) (by rfl) ?_
            refine ord_skip (by rfl) (by rfl) ?_
            refine ord_read (by rfl) (by rfl) (fun u hu => by (obtain ⟨⟨hu1, hu2⟩, hu3, hu4⟩ := hu; clear hu4; go_simp; try rfl)) ?_
            refine ord_read (by rfl) (by rfl) (fun u hu => by (obtain ⟨⟨hu1, hu2⟩, hu3, hu4⟩ := hu; clear hu4; go_simp; try rfl)) ?_
            simp only [Act.put, List.setIfInBounds_toArray, List.set_cons_zero, List.set_cons_succ, List.getElem_toArray, List.getElem_cons_succ, List.getElem_cons_zero]
            refine ord_nil ?_
            try simp only [List.drop_succ_cons, List.drop_zero, Act.put, List.setIfInBounds_toArray, List.set_cons_zero, List.set_cons_succ, List.getElem_toArray, List.getElem_cons_succ, List.getElem_cons_zero]
            go_wp2_with fail
            refine NoPanic.normal ?_
            go_wp2_with fail
            go_roundw
            case rel =>
              refine ⟨kk + 1, false, some id, rfl, by go_num, by omega, fun h => absurd h (by omega), fun h => ?_, ?_, L6.out, M6.out⟩
              · simp [hek]
              · rw [HEq2.out, hq]; simp
            case measure => simp [intOf]; omega

          | true =>
            have HQ := Lib.hid hq
            clear hq
            by_cases hid0 : 0 < id
            · have hd0 : decide (0 < id) = true := by simpa using hid0
              refine ord_read (by rfl) (by rfl) (fun u hu => by (obtain ⟨⟨hu1, hu2⟩, hu3, hu4⟩ := hu; clear hu4; go_simp; try rfl)) ?_
              refine ord_read (by rfl) (by rfl) (fun u hu => by (obtain ⟨⟨hu1, hu2⟩, hu3, hu4⟩ := hu; clear hu4; go_simp; try rfl)) ?_
              refine ord_read (by rfl) (by rfl) (fun u hu => by (obtain ⟨⟨hu1, hu2⟩, hu3, hu4⟩ := hu; clear hu4; go_simp; try rfl)) ?_
              simp only [Act.put, List.setIfInBounds_toArray, List.set_cons_zero, List.set_cons_succ, List.getElem_toArray, List.getElem_cons_succ, List.getElem_cons_zero]
              refine ord_read (by rfl) (by rfl) (fun u hu => by (obtain ⟨⟨hu1, hu2⟩, hu3, hu4⟩ := hu; clear hu4; go_simp; try rfl)) ?_
              refine ord_read (v := .bool true) (by rfl) (by rfl) (fun u hu => by (clear hu; go_simp; first | done | rfl | exact hd0 | (rw [hd0]; rfl) | simp [hd0])) ?_
              refine ord_read (by rfl) (by rfl) (fun u hu => by (obtain ⟨⟨hu1, hu2⟩, hu3, hu4⟩ := hu; clear hu4; go_simp; try rfl)) ?_
              refine ord_read (by rfl) (by rfl) (fun u hu => by (obtain ⟨⟨hu1, hu2⟩, hu3, hu4⟩ := hu; clear hu4; go_simp; try rfl)) ?_
              simp only [Act.put, List.setIfInBounds_toArray, List.set_cons_zero, List.set_cons_succ, List.getElem_toArray, List.getElem_cons_succ, List.getElem_cons_zero]
              clear hd0
              by_cases hpos : 0 < kk
              · have hd0 : ((kk : Int) == 0) = false := by simp; omega
                refine ord_read (by rfl) (by rfl) (fun u hu => by (obtain ⟨⟨hu1, hu2⟩, hu3, hu4⟩ := hu; clear hu4; go_simp; try rfl)) ?_
                refine ord_read (v := .bool false) (by rfl) (by rfl) (fun u hu => by (clear hu; go_simp; first | done | rfl | exact hd0 | (rw [hd0]; rfl) | simp [hd0])) ?_
                simp only [Act.put, List.setIfInBounds_toArray, List.set_cons_zero, List.set_cons_succ, List.getElem_toArray, List.getElem_cons_succ, List.getElem_cons_zero]
                clear hd0
                have hw : IntKind.i64.wrap ((kk : Int) - 1) = ((kk - 1 : Nat) : Int) := by rw [← wrap_small (kk - 1) (by omega)]; congr 1; omega
                refine ord_read (by rfl) (by rfl) (fun u hu => by (obtain ⟨⟨hu1, hu2⟩, hu3, hu4⟩ := hu; clear hu4; go_simp; try rfl)) ?_
                refine ord_read (by rfl) (by rfl) (fun u hu => by (obtain ⟨⟨hu1, hu2⟩, hu3, hu4⟩ := hu; clear hu4; go_simp; try rfl)) ?_
                simp only [Act.put, List.setIfInBounds_toArray, List.set_cons_zero, List.set_cons_succ, List.getElem_toArray, List.getElem_cons_succ, List.getElem_cons_zero]
                refine ord_read (by rfl) (by rfl) (fun u hu => by (obtain ⟨⟨hu1, hu2⟩, hu3, hu4⟩ := hu; clear hu4; go_simp; try rfl)) ?_
                refine ord_read (by rfl) (by rfl) (fun u hu => by (obtain ⟨⟨hu1, hu2⟩, hu3, hu4⟩ := hu; clear hu4; go_simp; try rfl)) ?_
                refine ord_read (by rfl) (by rfl) (fun u hu => by (obtain ⟨⟨hu1, hu2⟩, hu3, hu4⟩ := hu; clear hu4; go_simp; try rfl)) ?_
                refine ord_read (by rfl) (by rfl) (fun u hu => by (obtain ⟨⟨hu1, hu2⟩, hu3, hu4⟩ := hu; clear hu4; go_simp; try rfl)) ?_
                simp only [Act.put, List.setIfInBounds_toArray, List.set_cons_zero, List.set_cons_succ, List.getElem_toArray, List.getElem_cons_succ, List.getElem_cons_zero]
                refine ord_read (v := .int .i64 ((kk - 1 : Nat) : Int)) (by rfl) (by rfl) (fun u hu => by (clear hu; go_simp; first | done | rfl | (rw [hw]) | (rw [hw]; rfl) | simp [hw])) ?_
                refine ord_read (by rfl) (by rfl) (fun u hu => by (obtain ⟨⟨hu1, hu2⟩, hu3, hu4⟩ := hu; clear hu4; go_simp; rw [if_pos (by omega)])) ?_
                refine ord_read (by rfl) (by rfl) (fun u hu => by (obtain ⟨⟨hu1, hu2⟩, hu3, hu4⟩ := hu; clear hu4; go_simp; try rfl)) ?_
                refine ord_read (by rfl) (by rfl) (fun u hu => by (obtain ⟨⟨hu1, hu2⟩, hu3, hu4⟩ := hu; have hu5 := hu4 hpos; clear hu4; go_simp; try rfl)) ?_
                simp only [Act.put, List.setIfInBounds_toArray, List.set_cons_zero, List.set_cons_succ, List.getElem_toArray, List.getElem_cons_succ, List.getElem_cons_zero]
                refine ord_read (by rfl) (by rfl) (fun u hu => by (obtain ⟨⟨hu1, hu2⟩, hu3, hu4⟩ := hu; clear hu4; go_simp; try rfl)) ?_
                refine ord_read (by rfl) (by rfl) (fun u hu => by (obtain ⟨⟨hu1, hu2⟩, hu3, hu4⟩ := hu; clear hu4; go_simp; try rfl)) ?_
                refine ord_read (by rfl) (by rfl) (fun u hu => by (obtain ⟨⟨hu1, hu2⟩, hu3, hu4⟩ := hu; clear hu4; go_simp; try rfl)) ?_
                refine ord_read (by rfl) (by rfl) (fun u hu => by (obtain ⟨⟨hu1, hu2⟩, hu3, hu4⟩ := hu; clear hu4; go_simp; try rfl)) ?_
                simp only [Act.put, List.setIfInBounds_toArray, List.set_cons_zero, List.set_cons_succ, List.getElem_toArray, List.getElem_cons_succ, List.getElem_cons_zero]
                refine ord_nil ?_
                try simp only [List.drop_succ_cons, List.drop_zero, Act.put, List.setIfInBounds_toArray, List.set_cons_zero, List.set_cons_succ, List.getElem_toArray, List.getElem_cons_succ, List.getElem_cons_zero]
                go_wp2_with fail
                refine NoPanic.normal ?_
                go_wp2_with fail
                go_roundw
                case rel =>
                  refine ⟨kk + 1, (decide ((es[kk - 1]'(by omega)).1 < id)), some id, rfl, by go_num, by omega, fun h => absurd h (by omega), fun h => ?_, ?_, L6.out, M6.out⟩
                  · simp [hek]
                  · rw [HEq2.out, HQ.out, HQ1.out ⟨hpos, by omega⟩]; simp [hid0]
                case measure => simp [intOf]; omega

              · have hk0 : kk = 0 := by omega
                have hd0 : ((kk : Int) == 0) = true := by simp; omega
                refine ord_read (by rfl) (by rfl) (fun u hu => by (obtain ⟨⟨hu1, hu2⟩, hu3, hu4⟩ := hu; clear hu4; go_simp; try rfl)) ?_
                refine ord_read (v := .bool true) (by rfl) (by rfl) (fun u hu => by (clear hu; go_simp; first | done | rfl | exact hd0 | (rw [hd0]; rfl) | simp [hd0])) ?_
                simp only [Act.put, List.setIfInBounds_toArray, List.set_cons_zero, List.set_cons_succ, List.getElem_toArray, List.getElem_cons_succ, List.getElem_cons_zero]
                clear hd0
                refine ord_read (by rfl) (by rfl) (fun u hu => by (obtain ⟨⟨hu1, hu2⟩, hu3, hu4⟩ := hu; clear hu4; go_simp; try rfl)) ?_
                refine ord_skip (by rfl) (by rfl) ?_
                simp only [Act.put, List.setIfInBounds_toArray, List.set_cons_zero, List.set_cons_succ, List.getElem_toArray, List.getElem_cons_succ, List.getElem_cons_zero]
                refine ord_skip (by rfl) (by rfl) ?_
                refine ord_skip (by rfl) (by rfl) ?_
                refine ord_skip (by rfl) (by rfl) ?_
                refine ord_skip (by rfl) (by rfl) ?_
                simp only [Act.put, List.setIfInBounds_toArray, List.set_cons_zero, List.set_cons_succ, List.getElem_toArray, List.getElem_cons_succ, List.getElem_cons_zero]
                refine ord_skip (by rfl) (by rfl) ?_
                refine ord_skip (by rfl) (by rfl) ?_
                refine ord_skip (by rfl) (by rfl) ?_
                refine ord_skip (by rfl) (by rfl) ?_
                simp only [Act.put, List.setIfInBounds_toArray, List.set_cons_zero, List.set_cons_succ, List.getElem_toArray, List.getElem_cons_succ, List.getElem_cons_zero]
                refine ord_skip (by rfl) (by rfl) ?_
                refine ord_read (by rfl) (by rfl) (fun u hu => by (obtain ⟨⟨hu1, hu2⟩, hu3, hu4⟩ := hu; clear hu4; go_simp; try rfl)) ?_
                refine ord_read (by rfl) (by rfl) (fun u hu => by (obtain ⟨⟨hu1, hu2⟩, hu3, hu4⟩ := hu; clear hu4; go_simp; try rfl)) ?_
                refine ord_read (by rfl) (by rfl) (fun u hu => by (obtain ⟨⟨hu1, hu2⟩, hu3, hu4⟩ := hu; clear hu4; go_simp; try rfl)) ?_
                simp only [Act.put, List.setIfInBounds_toArray, List.set_cons_zero, List.set_cons_succ, List.getElem_toArray, List.getElem_cons_succ, List.getElem_cons_zero]
                refine ord_nil ?_
                try simp only [List.drop_succ_cons, List.drop_zero, Act.put, List.setIfInBounds_toArray, List.set_cons_zero, List.set_cons_succ, List.getElem_toArray, List.getElem_cons_succ, List.getElem_cons_zero]
                go_wp2_with fail
                refine NoPanic.normal ?_
                go_wp2_with fail
                go_roundw
                case rel =>
                  refine ⟨kk + 1, true, some id, rfl, by go_num, by omega, fun h => absurd h (by omega), fun h => ?_, ?_, L6.out, M6.out⟩
                  · simp [hek]
                  · rw [HEq2.out, HQ.out, HQ0.out hk0]; simp [hid0]
                case measure => simp [intOf]; omega

            · have hd0 : decide (0 < id) = false := by simpa using hid0
              refine ord_read (by rfl) (by rfl) (fun u hu => by (obtain ⟨⟨hu1, hu2⟩, hu3, hu4⟩ := hu; clear hu4; go_simp; try rfl)) ?_
              refine ord_read (by rfl) (by rfl) (fun u hu => by (obtain ⟨⟨hu1, hu2⟩, hu3, hu4⟩ := hu; clear hu4; go_simp; try rfl)) ?_
              refine ord_read (by rfl) (by rfl) (fun u hu => by (obtain ⟨⟨hu1, hu2⟩, hu3, hu4⟩ := hu; clear hu4; go_simp; try rfl)) ?_
              simp only [Act.put, List.setIfInBounds_toArray, List.set_cons_zero, List.set_cons_succ, List.getElem_toArray, List.getElem_cons_succ, List.getElem_cons_zero]
              refine ord_read (by rfl) (by rfl) (fun u hu => by (obtain ⟨⟨hu1, hu2⟩, hu3, hu4⟩ := hu; clear hu4; go_simp; try rfl)) ?_
              refine ord_read (v := .bool false) (by rfl) (by rfl) (fun u hu => by (clear hu; go_simp; first | done | rfl | exact hd0 | (rw [hd0]; rfl) | simp [hd0])) ?_
              refine ord_read (by rfl) (by rfl) (fun u hu => by (obtain ⟨⟨hu1, hu2⟩, hu3, hu4⟩ := hu; clear hu4; go_simp; try rfl)) ?_
              refine ord_read (by rfl) (by rfl) (fun u hu => by (obtain ⟨⟨hu1, hu2⟩, hu3, hu4⟩ := hu; clear hu4; go_simp; try rfl)) ?_
              simp only [Act.put, List.setIfInBounds_toArray, List.set_cons_zero, List.set_cons_succ, List.getElem_toArray, List.getElem_cons_succ, List.getElem_cons_zero]
              refine ord_skip (by rfl) (by rfl) ?_
              refine ord_skip (by rfl) (by rfl) ?_
              refine ord_skip (by rfl) (by rfl) ?_
              refine ord_skip (by rfl) (by rfl) ?_
              simp only [Act.put, List.setIfInBounds_toArray, List.set_cons_zero, List.set_cons_succ, List.getElem_toArray, List.getElem_cons_succ, List.getElem_cons_zero]
              refine ord_skip (by rfl) (by rfl) ?_
              refine ord_skip (by rfl) (by rfl) ?_
              refine ord_skip (by rfl) (by rfl) ?_
              refine ord_skip (by rfl) (by rfl) ?_
              simp only [Act.put, List.setIfInBounds_toArray, List.set_cons_zero, List.set_cons_succ, List.getElem_toArray, List.getElem_cons_succ, List.getElem_cons_zero]
              refine ord_skip (by rfl) (by rfl) ?_
              refine ord_skip (by rfl) (by rfl) ?_
              refine ord_skip (by rfl) (by rfl) ?_
              refine ord_skip (by rfl) (by rfl) ?_
              simp only [Act.put, List.setIfInBounds_toArray, List.set_cons_zero, List.set_cons_succ, List.getElem_toArray, List.getElem_cons_succ, List.getElem_cons_zero]
              refine ord_skip (by rfl) (by rfl) ?_
              refine ord_skip (by rfl) (by rfl) ?_
              refine ord_read (by rfl) (by rfl) (fun u hu => by (obtain ⟨⟨hu1, hu2⟩, hu3, hu4⟩ := hu; clear hu4; go_simp; try rfl)) ?_
              refine ord_read (by rfl) (by rfl) (fun u hu => by (obtain ⟨⟨hu1, hu2⟩, hu3, hu4⟩ := hu; clear hu4; go_simp; try rfl)) ?_
              simp only [Act.put, List.setIfInBounds_toArray, List.set_cons_zero, List.set_cons_succ, List.getElem_toArray, List.getElem_cons_succ, List.getElem_cons_zero]
              refine ord_nil ?_
              try simp only [List.drop_succ_cons, List.drop_zero, Act.put, List.setIfInBounds_toArray, List.set_cons_zero, List.set_cons_succ, List.getElem_toArray, List.getElem_cons_succ, List.getElem_cons_zero]
              go_wp2_with fail
              refine NoPanic.normal ?_
              go_wp2_with fail
              go_roundw
              case rel =>
                refine ⟨kk + 1, false, some id, rfl, by go_num, by omega, fun h => absurd h (by omega), fun h => ?_, ?_, L6.out, M6.out⟩
                · simp [hek]
                · have hd1 : decide (0 < id) = false := by simp; omega
                  rw [HEq2.out, HQ.out, hd1]; simp
              case measure => simp [intOf]; omega

      · have hkl : kk = es.length := by omega
        have hval : checkM (v, k, s, t, r, xs, es, p, pay, ()) = bk := by
          have h1 := HEq.out
          rw [hkl, List.drop_of_length_le (Nat.le_refl _)] at h1
          simp only [extsOk, Bool.and_true] at h1
          rw [← h1, HBq.out]
          simp only [checkM, ok1M, Bool.and_assoc]
        have HVal := Lib.hid hval
        clear hval
        cases bk with
        | false =>
          go_wp2_with fail
          have hr1 := HRes.out
          rw [HVal.out] at hr1
          subst hr1
          go_ret
          exact ⟨rfl, L.out⟩
        | true =>
          go_wp2_with fail
          have hr1 := HRes.out
          rw [HVal.out] at hr1
          subst hr1
          go_ret
          exact ⟨rfl, L.out⟩
end Go.Proofs.Ytjmohkgbfigcgaa.Sh
