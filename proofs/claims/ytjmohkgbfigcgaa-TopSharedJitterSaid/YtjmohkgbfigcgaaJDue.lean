/- jitter.due: when the first of what is held is due. -/
import Derived.Test.YtjmohkgbfigcgaaJSmall
namespace Go.Proofs.Ytjmohkgbfigcgaa.Sh
open Go Go.RowKit
set_option linter.unusedVariables false
set_option linter.unusedSimpArgs false

theorem wrap_id (x : Int) (h : -9223372036854775808 ≤ x ∧ x ≤ 9223372036854775807) : IntKind.i64.wrap x = x := by
  have e1 : (2 : Int) ^ IntKind.i64.bits = 18446744073709551616 := by decide
  have e2 : (2 : Int) ^ (IntKind.i64.bits - 1) = 9223372036854775808 := by decide
  simp only [IntKind.wrap, e1, e2, show IntKind.i64.signed = true from rfl, Bool.true_and, decide_eq_true_eq]
  split <;> omega

/-- t: the first arrival and the least delay, summed -/
def dueF (fr jt t : Int) : Int := max 0 (upF t fr + min (max (upF jt (4 * fr)) 10) 1000)
def heldArr (h : JHeld.Data) : Int := h.2.1

set_option maxRecDepth 100000 in
set_option maxHeartbeats 1600000 in
theorem due_goes (w : World) (S : Nat → Prop) (cs : List Value) (fr now : Int) (bg fd : Bool) (sq hg lw bs jt ls : Int) (h0 : JHeld.Data) (hs : List JHeld.Data) (h : Rep w S JBuf cs (fr, now, bg, fd, sq, hg, lw, bs, jt, ls, h0 :: hs, ()))
    (hfr : 1 ≤ fr ∧ fr ≤ 96) (hjt : 0 ≤ jt ∧ jt ≤ 1048576) (ha : -2305843009213693952 ≤ heldArr h0 + lw ∧ heldArr h0 + lw ≤ 2305843009213693952) :
    Calls Try.prog 45 #[.agg cs.toArray] w fun e w' => e = .returned (.int .i64 (dueF fr jt (heldArr h0 + lw))) ∧ Below w.heap.size w w' := by
  obtain ⟨A, c, rfl, hh, -⟩ := rep_buf h
  obtain ⟨-, hc1, hc2, hc3, news, hp, hl⟩ := rep_sl.1 hh
  obtain ⟨eb, eo, rfl, hSe, hel, hat⟩ := hp (by simp)
  have hcell : w.cell? ⟨eb, eo + 9, none⟩ = some (.int .i64 (heldArr h0)) := by
    obtain ⟨c1, c2, he, hm, _, _, rfl, ⟨rfl, _, _⟩, rfl⟩ := hl.2 0 (by simp)
    have hlen : c1.length = 9 := Rep.length _ _ _ hm
    have hx : news[9]? = some (.int .i64 (heldArr h0)) := by
      have := congrArg (·[9]?) he
      simp only [List.getElem?_append_right (Nat.le_of_eq hlen), hlen] at this
      simpa [Ty.width, heldArr] using this
    exact (hat 9 _ hx).1
  generalize hv : dueF fr jt (heldArr h0 + lw) = res
  have HV := Lib.hid hv
  generalize hA : heldArr h0 = ar at *
  clear h hh hl hat hp hv hA
  go_enter Try.func45, Try.ntmps45
  go_wp2_with fail
  have HU := Lib.hid (fun w' => up_goes w' jt (4 * fr) (by omega) (by omega))
  have HU2 := Lib.hid (fun w' => up_goes w' (ar + lw) fr (by omega) (by omega))
  have hB2 : -4611686018427387904 ≤ upF (ar + lw) fr ∧ upF (ar + lw) fr ≤ 4611686018427387904 := by
    have := ediv_bound (-(ar + lw)) fr (by omega) (by omega)
    unfold upF
    omega
  refine (HU.out _).mono ?_
  rintro e w1 ⟨rfl, rfl⟩
  have hlt3 : min (max (upF jt (4 * fr)) 10) 1000 ≤ 1000 ∧ 10 ≤ min (max (upF jt (4 * fr)) 10) 1000 := by omega
  unfold dueF at HV
  generalize upF jt (4 * fr) = uj at HV hlt3 ⊢
  go_wp2_with fail
  all_goals
    have hw1 : IntKind.i64.wrap (ar + lw) = ar + lw := wrap_id _ (by omega)
    refine wp_region_ord 12 [(0, true), (1, true), (2, true), (3, true), (4, true), (5, true), (6, true), (7, true), (8, true), (9, true), (11, true), (10, false)] (fun u => (u.cell? ⟨w.heap.size, 10, none⟩ = some (.slice (some ⟨eb, eo, none⟩) (hs.length + 1) c) ∧ u.cell? ⟨w.heap.size, 6, none⟩ = some (.int .i64 lw)) ∧ u.cell? ⟨w.heap.size, 0, none⟩ = some (.int .i64 fr) ∧ u.cell? ⟨eb, eo + 9, none⟩ = some (.int .i64 ar)) (by kernel_rfl) (by kernel_rfl) ⟨⟨by go_simp, by go_simp⟩, by go_simp, by go_simp⟩ ?_
    refine ord_read (by rfl) (by rfl) (fun u hu => by (obtain ⟨⟨hu1, hu2⟩, hu3, hu4⟩ := hu; go_simp; try rfl)) ?_
    refine ord_read (by rfl) (by rfl) (fun u hu => by (obtain ⟨⟨hu1, hu2⟩, hu3, hu4⟩ := hu; go_simp; try rfl)) ?_
    refine ord_read (by rfl) (by rfl) (fun u hu => by (obtain ⟨⟨hu1, hu2⟩, hu3, hu4⟩ := hu; go_simp; try rfl)) ?_
    refine ord_read (by rfl) (by rfl) (fun u hu => by (obtain ⟨⟨hu1, hu2⟩, hu3, hu4⟩ := hu; go_simp; try rfl)) ?_
    simp only [Act.put, List.setIfInBounds_toArray, List.set_cons_zero, List.set_cons_succ, List.getElem_toArray, List.getElem_cons_succ, List.getElem_cons_zero]
    refine ord_read (by rfl) (by rfl) (fun u hu => by (obtain ⟨⟨hu1, hu2⟩, hu3, hu4⟩ := hu; go_simp; try rfl)) ?_
    refine ord_read (by rfl) (by rfl) (fun u hu => by (obtain ⟨⟨hu1, hu2⟩, hu3, hu4⟩ := hu; go_simp; try rfl)) ?_
    refine ord_read (by rfl) (by rfl) (fun u hu => by (obtain ⟨⟨hu1, hu2⟩, hu3, hu4⟩ := hu; go_simp; try rfl)) ?_
    refine ord_read (v := .int .i64 (ar + lw)) (by rfl) (by rfl) (fun u hu => by (clear hu; go_simp; first | done | rfl | simp [hw1])) ?_
    simp only [Act.put, List.setIfInBounds_toArray, List.set_cons_zero, List.set_cons_succ, List.getElem_toArray, List.getElem_cons_succ, List.getElem_cons_zero]
    refine ord_read (by rfl) (by rfl) (fun u hu => by (obtain ⟨⟨hu1, hu2⟩, hu3, hu4⟩ := hu; go_simp; try rfl)) ?_
    refine ord_read (by rfl) (by rfl) (fun u hu => by (obtain ⟨⟨hu1, hu2⟩, hu3, hu4⟩ := hu; go_simp; try rfl)) ?_
    refine ord_read (by rfl) (by rfl) (fun u hu => by (obtain ⟨⟨hu1, hu2⟩, hu3, hu4⟩ := hu; go_simp; try rfl)) ?_
    simp only [Act.put, List.setIfInBounds_toArray, List.set_cons_zero, List.set_cons_succ, List.getElem_toArray, List.getElem_cons_succ, List.getElem_cons_zero]
    refine ord_make (by rfl) (fun K hK => ?_)
    rw [if_pos (by rfl)]
    refine wp_call2 (f := 68) (x := .tmp 19) (y := .tmp 21) (vx := .int .i64 (ar + lw)) (vy := .int .i64 fr) rfl rfl rfl rfl rfl rfl rfl (HU2.out _) ?_
    rintro e w2 ⟨rfl, rfl⟩
    refine ⟨_, rfl, ?_⟩
    refine hK _ _ ⟨⟨⟨by go_simp, by go_simp⟩, by go_simp, by go_simp⟩, ?_⟩
    clear hK K
    simp only [Act.put, List.setIfInBounds_toArray, List.set_cons_zero, List.set_cons_succ, List.getElem_toArray, List.getElem_cons_succ, List.getElem_cons_zero]
    refine ord_nil ?_
    simp only [List.drop_succ_cons, List.drop_zero]
    generalize upF (ar + lw) fr = u2 at HV hB2 ⊢
    go_wp2_with fail
    all_goals refine NoPanic.normal ?_
    all_goals go_wp2_with fail
    all_goals go_ret
    all_goals refine ⟨?_, ((Below.refl _ w).alloc (Nat.le_refl _) _).drew⟩
    all_goals have hv1 := HV.out
    all_goals (refine congrArg Ending.returned (congrArg (Value.int .i64) ?_); omega)
end Go.Proofs.Ytjmohkgbfigcgaa.Sh
