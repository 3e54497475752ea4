/- the order that Put searches by: Put$1. -/
import Derived.Test.YtjmohkgbfigcgaaJPure
namespace Go.Proofs.Ytjmohkgbfigcgaa.Sh
open Go Go.RowKit
set_option linter.unusedVariables false
set_option linter.unusedSimpArgs false

theorem run_call3 {P : Program} {ρ : Operand → Value} {o : Oper} {f : FuncId} {x y z : Operand} {ats : Array TypeId} {fn : Func} {c : Code} {vx vy vz : Value} (ho : o.op = .call { callee := .value (.func f), args := #[x, y, z], argTypes := ats }) (hρ : ρ (.func f) = .func (.func f) #[] #[]) (hx : ρ x = vx) (hy : ρ y = vy) (hz : ρ z = vz)
    (hf : P.funcs[f]? = some fn) (hname : (fn.name == "runtime.NumGoroutine") = false) (hb : fn.body = some c) (w : World) : (execOp ρ o).run P w = .ok (.enter f #[vx, vy, vz]) w := by
  unfold execOp
  simp only [ho, resolve, Deferred.ofValue, hρ, hx, hy, hz, Sem.run_bind, Sem.run_pure, Result.andThen_ok, invoke, List.map_toArray, List.map_cons, List.map_nil, Array.append_empty, Array.empty_append]
  exact run_callFunc_goes hf hname hb _ _
theorem wp_call3 {P : Program} {o : Oper} {a : Act} {w : World} {K : Act → World → Prop} {Q : Exit → Act → World → Prop} {f : FuncId} {x y z : Operand} {ats : Array TypeId} {fn : Func} {c : Code} {vx vy vz : Value} {R : Ending → World → Prop} (ho : o.op = .call { callee := .value (.func f), args := #[x, y, z], argTypes := ats }) (hρ : a.eval (.func f) = .func (.func f) #[] #[]) (hx : a.eval x = vx) (hy : a.eval y = vy) (hz : a.eval z = vz)
    (hf : P.funcs[f]? = some fn) (hname : (fn.name == "runtime.NumGoroutine") = false) (hb : fn.body = some c) (hc : Calls P f #[vx, vy, vz] w R) (h : ∀ e w', R e w' → ∃ v, e = .returned v ∧ K (a.put o.dst v) w') : o.wp P a w K Q := by
  unfold Oper.wp
  rw [run_call3 ho hρ hx hy hz hf hname hb w]
  refine hc.mono ?_
  intro e w' hr
  obtain ⟨v, rfl, hk⟩ := h e w' hr
  exact hk

theorem ahead16_bound (a b : Int) : -32768 ≤ aheadF a b 65536 ∧ aheadF a b 65536 ≤ 32767 := by
  unfold aheadF
  split
  · omega
  · split <;> omega

set_option maxRecDepth 100000 in
set_option maxHeartbeats 1600000 in
theorem put1_goes (w : World) (S : Nat → Prop) (cs : List Value) (m : JMed.Data) (ar t sq : Int) (pb cb : Nat) (h : Rep w S JHeld cs (m, ar, ())) (ht : -1000000 ≤ t ∧ t ≤ 1000000) (hsq : IntKind.i64.min ≤ sq ∧ sq ≤ IntKind.i64.max)
    (hp : w.cell? ⟨pb, 0, none⟩ = some (.pointer (some ⟨cb, 0, none⟩))) (hc : w.cell? ⟨cb, 4, none⟩ = some (.int .i64 sq)) :
    Calls Try.prog 41 #[.agg cs.toArray, .int .i64 t, .pointer (some ⟨pb, 0, none⟩)] w fun e w' => e = .returned (.int .i64 (aheadF (seqOf m) sq 65536 - t)) ∧ Below w.heap.size w w' := by
  obtain ⟨c1, c2, rfl, hm, _, _, rfl, ⟨rfl, ha⟩, rfl⟩ := h
  obtain ⟨v, k, s, tt, r, xs, es, p, pay, ⟨⟩⟩ := m
  obtain ⟨A, c, A', c', rfl, -, -, hk, hs, -⟩ := rep_med hm
  have hlp := World.block_lt_of_cell? w _ hp
  have hlc := World.block_lt_of_cell? w _ hc
  have hB := ahead16_bound s sq
  have HU := Lib.hid (fun w' => ahead16_goes w' s sq hs hsq)
  show Calls _ _ _ _ fun e w' => e = .returned (.int .i64 (aheadF s sq 65536 - t)) ∧ Below w.heap.size w w'
  clear hm
  go_enter Try.func41, Try.ntmps41
  go_wp2_with fail
  refine wp_region_ord 10 [(0, true), (1, true), (2, true), (3, true), (4, true), (5, true), (6, true), (7, true), (9, true), (8, false)] (fun u => u.cell? ⟨w.heap.size, 2, none⟩ = some (.int .i64 s) ∧ u.cell? ⟨pb, 0, none⟩ = some (.pointer (some ⟨cb, 0, none⟩)) ∧ u.cell? ⟨cb, 4, none⟩ = some (.int .i64 sq)) (by kernel_rfl) (by kernel_rfl) ⟨by go_simp, by go_simp, by go_simp⟩ ?_
  refine ord_read (by rfl) (by rfl) (fun u hu => by (obtain ⟨hu1, hu2, hu3⟩ := hu; go_simp; try rfl)) ?_
  refine ord_read (by rfl) (by rfl) (fun u hu => by (obtain ⟨hu1, hu2, hu3⟩ := hu; go_simp; try rfl)) ?_
  refine ord_read (by rfl) (by rfl) (fun u hu => by (obtain ⟨hu1, hu2, hu3⟩ := hu; go_simp; try rfl)) ?_
  refine ord_read (by rfl) (by rfl) (fun u hu => by (obtain ⟨hu1, hu2, hu3⟩ := hu; go_simp; try rfl)) ?_
  simp only [Act.put, List.setIfInBounds_toArray, List.set_cons_zero, List.set_cons_succ, List.getElem_toArray, List.getElem_cons_succ, List.getElem_cons_zero]
  refine ord_read (by rfl) (by rfl) (fun u hu => by (obtain ⟨hu1, hu2, hu3⟩ := hu; go_simp; try rfl)) ?_
  refine ord_read (by rfl) (by rfl) (fun u hu => by (obtain ⟨hu1, hu2, hu3⟩ := hu; go_simp; try rfl)) ?_
  refine ord_read (by rfl) (by rfl) (fun u hu => by (obtain ⟨hu1, hu2, hu3⟩ := hu; go_simp; try rfl)) ?_
  refine ord_read (by rfl) (by rfl) (fun u hu => by (obtain ⟨hu1, hu2, hu3⟩ := hu; go_simp; try rfl)) ?_
  simp only [Act.put, List.setIfInBounds_toArray, List.set_cons_zero, List.set_cons_succ, List.getElem_toArray, List.getElem_cons_succ, List.getElem_cons_zero]
  refine ord_read (by rfl) (by rfl) (fun u hu => by (obtain ⟨hu1, hu2, hu3⟩ := hu; go_simp; try rfl)) ?_
  simp only [Act.put, List.setIfInBounds_toArray, List.set_cons_zero, List.set_cons_succ, List.getElem_toArray, List.getElem_cons_succ, List.getElem_cons_zero]
  refine ord_make (by rfl) (fun K hK => ?_)
  rw [if_pos (by rfl)]
  refine wp_call3 (f := 40) (x := .tmp 8) (y := .tmp 13) (z := .const (.int .i64 16)) (vx := .int .i64 s) (vy := .int .i64 sq) (vz := .int .i64 16) rfl rfl rfl rfl rfl rfl rfl rfl (HU.out _) ?_
  rintro e w2 ⟨rfl, rfl⟩
  refine ⟨_, rfl, ?_⟩
  refine hK _ _ ⟨⟨by go_simp, by go_simp, by go_simp⟩, ?_⟩
  clear hK K
  simp only [Act.put, List.setIfInBounds_toArray, List.set_cons_zero, List.set_cons_succ, List.getElem_toArray, List.getElem_cons_succ, List.getElem_cons_zero]
  refine ord_nil ?_
  simp only [List.drop_succ_cons, List.drop_zero]
  generalize hq : aheadF s sq 65536 = q at hB ⊢
  have HQ := Lib.hid hq
  clear hq
  go_wp2_with fail
  refine NoPanic.normal ?_
  go_wp2_with fail
  go_ret
  exact ⟨by rw [HQ.out]; rfl, ((Below.refl _ w).alloc (Nat.le_refl _) _).drew⟩
end Go.Proofs.Ytjmohkgbfigcgaa.Sh
