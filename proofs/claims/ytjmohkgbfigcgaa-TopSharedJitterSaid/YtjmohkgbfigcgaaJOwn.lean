/- jitter's own: a copy of a media packet that shares nothing. -/
import Derived.Test.YtjmohkgbfigcgaaJClone
import Derived.Test.YtjmohkgbfigcgaaJCheckM
namespace Go.Proofs.Ytjmohkgbfigcgaa.Sh
open Go Go.RowKit
set_option linter.unusedVariables false
set_option linter.unusedSimpArgs false

theorem wp_call1 {P : Program} {o : Oper} {a : Act} {w : World} {K : Act → World → Prop} {Q : Exit → Act → World → Prop} {f : FuncId} {x : Operand} {ats : Array TypeId} {fn : Func} {c : Code} {vx : Value} {R : Ending → World → Prop} (ho : o.op = .call { callee := .value (.func f), args := #[x], argTypes := ats }) (hρ : a.eval (.func f) = .func (.func f) #[] #[]) (hx : a.eval x = vx)
    (hf : P.funcs[f]? = some fn) (hname : (fn.name == "runtime.NumGoroutine") = false) (hb : fn.body = some c) (hc : Calls P f #[vx] w R) (h : ∀ e w', R e w' → ∃ v, e = .returned v ∧ K (a.put o.dst v) w') : o.wp P a w K Q := by
  unfold Oper.wp
  rw [run_call ho hρ hf hname hb w, hx]
  refine hc.mono ?_
  intro e w' hr
  obtain ⟨v, rfl, hk⟩ := h e w' hr
  exact hk
theorem bk_setCell {w : World} {n j : Nat} {T : TypeId} {cs : List Value} (h : Bk w n T cs) (v : Value) : Bk (w.setCell ⟨n, j, none⟩ v) n T (cs.set j v) := by
  unfold Bk at h ⊢
  simp [World.setCell, Array.getElem?_modify, h]
theorem grown_setCell (w : World) (a : Addr) (v : Value) (n : Nat) (hn : a.block = n) : w.grownBy (w.setCell a v) (some n) :=
  ⟨rfl, rfl, rfl, by simp [World.setCell], fun k hk hne => Below.heap_setCell _ _ _ _ (fun e => hne (by rw [e, hn]))⟩

set_option maxRecDepth 100000 in
set_option maxHeartbeats 1600000 in
theorem ownM_goes : Owns 38 true JMed := by
  intro w S cs d h0
  have h : Rep w (fun b => b < w.heap.size) JMed cs d := h0.mono fun b _ hl => hl
  clear h0
  obtain ⟨v, k, s, t, r, xs, es, p, pay, ⟨⟩⟩ := d
  obtain ⟨A, c, A', c', rfl, hxs, hes, hk, hs, ht, hr, hp, hpay⟩ := rep_med h
  simp only [valOf, if_true]
  have HXs := Lib.hid hxs
  have HEs := Lib.hid hes
  clear h hxs hes
  go_enter Try.func38, Try.ntmps38
  go_wp2_with fail
  have M0 : Bk ((w.alloc (.cells #[.bool v, .int .i64 k, .int .i64 s, .int .i64 t, .int .i64 r, .slice A xs.length c, .slice A' es.length c', .int .i64 p, .string pay] 28)).alloc (.cells #[.bool false, .int .i64 0, .int .i64 0, .int .i64 0, .int .i64 0, .slice none 0 0, .slice none 0 0, .int .i64 0, .string ⟨#[]⟩] 28)) w.heap.size 28 [.bool v, .int .i64 k, .int .i64 s, .int .i64 t, .int .i64 r, .slice A xs.length c, .slice A' es.length c', .int .i64 p, .string pay] := (Bk.new w _ [.bool v, .int .i64 k, .int .i64 s, .int .i64 t, .int .i64 r, .slice A xs.length c, .slice A' es.length c', .int .i64 p, .string pay]).alloc _
  have Z0 : Bk ((w.alloc (.cells #[.bool v, .int .i64 k, .int .i64 s, .int .i64 t, .int .i64 r, .slice A xs.length c, .slice A' es.length c', .int .i64 p, .string pay] 28)).alloc (.cells #[.bool false, .int .i64 0, .int .i64 0, .int .i64 0, .int .i64 0, .slice none 0 0, .slice none 0 0, .int .i64 0, .string ⟨#[]⟩] 28)) (w.heap.size + 1) 28 [.bool false, .int .i64 0, .int .i64 0, .int .i64 0, .int .i64 0, .slice none 0 0, .slice none 0 0, .int .i64 0, .string ⟨#[]⟩] := by
    have := Bk.new (w.alloc (.cells #[.bool v, .int .i64 k, .int .i64 s, .int .i64 t, .int .i64 r, .slice A xs.length c, .slice A' es.length c', .int .i64 p, .string pay] 28)) 28 [.bool false, .int .i64 0, .int .i64 0, .int .i64 0, .int .i64 0, .slice none 0 0, .slice none 0 0, .int .i64 0, .string ⟨#[]⟩]
    rw [alloc_size] at this
    exact this
  have B0 : Below w.heap.size w ((w.alloc (.cells #[.bool v, .int .i64 k, .int .i64 s, .int .i64 t, .int .i64 r, .slice A xs.length c, .slice A' es.length c', .int .i64 p, .string pay] 28)).alloc (.cells #[.bool false, .int .i64 0, .int .i64 0, .int .i64 0, .int .i64 0, .slice none 0 0, .slice none 0 0, .int .i64 0, .string ⟨#[]⟩] 28)) := ((Below.refl _ w).alloc (Nat.le_refl _) _).alloc (by simp) _
  have hz0 : ((w.alloc (.cells #[.bool v, .int .i64 k, .int .i64 s, .int .i64 t, .int .i64 r, .slice A xs.length c, .slice A' es.length c', .int .i64 p, .string pay] 28)).alloc (.cells #[.bool false, .int .i64 0, .int .i64 0, .int .i64 0, .int .i64 0, .slice none 0 0, .slice none 0 0, .int .i64 0, .string ⟨#[]⟩] 28)).heap.size = w.heap.size + 2 := by rw [alloc_size, alloc_size]
  generalize ((w.alloc (.cells #[.bool v, .int .i64 k, .int .i64 s, .int .i64 t, .int .i64 r, .slice A xs.length c, .slice A' es.length c', .int .i64 p, .string pay] 28)).alloc (.cells #[.bool false, .int .i64 0, .int .i64 0, .int .i64 0, .int .i64 0, .slice none 0 0, .slice none 0 0, .int .i64 0, .string ⟨#[]⟩] 28)) = w0 at M0 Z0 B0 hz0 ⊢
  have hdr : Below w0.heap.size w0 w0.drew := (Below.refl _ w0).drew
  have M1 := M0.below hdr
  have Z1 := Z0.below hdr
  have B1 := B0.drew
  have hz1 : w0.drew.heap.size = w.heap.size + 2 := hz0
  refine wp_region_ord 7 [(0, true), (3, true), (1, true), (4, true), (2, false), (6, true), (5, false)] (fun u => u.cell? ⟨w.heap.size, 5, none⟩ = some (.slice A xs.length c) ∧ u.cell? ⟨w.heap.size, 6, none⟩ = some (.slice A' es.length c')) (by kernel_rfl) (by kernel_rfl) ⟨M1.cell 5 rfl, M1.cell 6 rfl⟩ ?_
  generalize w0.drew = wd at M1 Z1 B1 hz1 ⊢
  clear M0 Z0 B0 hz0 hdr
  refine ord_read (by rfl) (by rfl) (fun u hu => by (obtain ⟨hu1, hu2⟩ := hu; go_simp; try rfl)) ?_
  refine ord_read (by rfl) (by rfl) (fun u hu => by (obtain ⟨hu1, hu2⟩ := hu; go_simp; try rfl)) ?_
  refine ord_read (by rfl) (by rfl) (fun u hu => by (obtain ⟨hu1, hu2⟩ := hu; go_simp; try rfl)) ?_
  refine ord_read (by rfl) (by rfl) (fun u hu => by (obtain ⟨hu1, hu2⟩ := hu; go_simp; try rfl)) ?_
  simp only [Act.put, List.setIfInBounds_toArray, List.set_cons_zero, List.set_cons_succ, List.getElem_toArray, List.getElem_cons_succ, List.getElem_cons_zero]
  refine ord_make (by rfl) (fun K hK => ?_)
  rw [if_pos (by rfl)]
  refine wp_call1 (f := 63) (x := .tmp 4) (vx := .slice A xs.length c) rfl rfl rfl rfl rfl rfl (clone_int wd _ A xs.length c xs (HXs.out.below B1)) ?_
  rintro e w1 ⟨A1, c1, news1, rfl, ho1, hl1, hb1⟩
  refine ⟨_, rfl, ?_⟩
  have M2 := M1.below hb1
  have Z2 := Z1.below hb1
  have B2 := B1.trans (hb1.mono (by omega))
  have hz2 : w.heap.size + 2 ≤ w1.heap.size := by have := hb1.size; omega
  refine hK _ _ ⟨⟨M2.cell 5 rfl, M2.cell 6 rfl⟩, ?_⟩
  clear hK K
  simp only [Act.put, List.setIfInBounds_toArray, List.set_cons_zero, List.set_cons_succ, List.getElem_toArray, List.getElem_cons_succ, List.getElem_cons_zero]
  refine ord_read (by rfl) (by rfl) (fun u hu => by (obtain ⟨hu1, hu2⟩ := hu; go_simp; try rfl)) ?_
  simp only [Act.put, List.setIfInBounds_toArray, List.set_cons_zero, List.set_cons_succ, List.getElem_toArray, List.getElem_cons_succ, List.getElem_cons_zero]
  refine ord_make (by rfl) (fun K hK => ?_)
  rw [if_pos (by rfl)]
  refine wp_call1 (f := 64) (x := .tmp 7) (vx := .slice A' es.length c') rfl rfl rfl rfl rfl rfl (clone_ext w1 _ A' es.length c' es (HEs.out.below B2)) ?_
  rintro e w2 ⟨A2, c2, news2, rfl, ho2, hl2, hb2⟩
  refine ⟨_, rfl, ?_⟩
  have M3 := M2.below hb2
  have Z3 := Z2.below hb2
  have B3 := B2.trans (hb2.mono (by omega))
  have hz3 : w.heap.size + 2 ≤ w2.heap.size := by have := hb2.size; omega
  refine hK _ _ ⟨⟨M3.cell 5 rfl, M3.cell 6 rfl⟩, ?_⟩
  clear hK K
  refine ord_nil ?_
  simp only [List.drop_succ_cons, List.drop_zero, Act.put, List.setIfInBounds_toArray, List.set_cons_zero, List.set_cons_succ, List.getElem_toArray, List.getElem_cons_succ, List.getElem_cons_zero]
  have f5 : w2.frozen? ⟨w.heap.size, 5, none⟩ = false := M3.plain.free 5
  have f6 : w2.frozen? ⟨w.heap.size, 6, none⟩ = false := M3.plain.free 6
  have q5 := M3.cell 5 rfl
  have q6 := M3.cell 6 rfl
  have hlw := M3.lt
  clear M1 Z1 M2 Z2
  have M3h := Lib.hid M3
  have Z3h := Lib.hid Z3
  have B3h := Lib.hid B3
  clear M3 Z3 B3
  go_wp2_with fail
  refine NoPanic.normal ?_
  have M4 : Bk ((w2.setCell ⟨w.heap.size, 5, none⟩ (.slice A1 xs.length c1)).setCell ⟨w.heap.size, 6, none⟩ (.slice A2 es.length c2)) w.heap.size 28 [.bool v, .int .i64 k, .int .i64 s, .int .i64 t, .int .i64 r, .slice A1 xs.length c1, .slice A2 es.length c2, .int .i64 p, .string pay] := bk_setCell (bk_setCell M3h.out _) _
  have g1 := grown_setCell w2 ⟨w.heap.size, 5, none⟩ (.slice A1 xs.length c1) w.heap.size rfl
  have g2 := grown_setCell (w2.setCell ⟨w.heap.size, 5, none⟩ (.slice A1 xs.length c1)) ⟨w.heap.size, 6, none⟩ (.slice A2 es.length c2) w.heap.size rfl
  have Z4 := (Z3h.out.grown g1 (by omega)).grown g2 (by omega)
  have B4 := below_grown (below_grown B3h.out g1 (by omega) (Nat.le_refl _)) g2 (by have := g1.size; omega) (Nat.le_refl _)
  have hl1' : RepL w2 (Fr (w.heap.size + 2)) (.int .i64) news1 xs := Rep.flat_any rfl hl1
  have hl2' : RepL w2 (Fr (w.heap.size + 2)) JExt news2 es := Rep.flat_any rfl hl2
  obtain ⟨-, -, -, hx8, -⟩ := rep_sl.1 HXs.out
  obtain ⟨-, -, -, he8, -⟩ := rep_sl.1 HEs.out
  have ho1' := (ho1.kept (row := none) ⟨hb2.os, hb2.tape, hb2.output, hb2.size, fun i hi _ => hb2.block i hi⟩ (by cases (Value.slice A1 xs.length c1).ownBlock <;> simp))
  have rx : Rep w2 (Fr (w.heap.size + 2)) (.sl (.int .i64) 8) [.slice A1 xs.length c1] xs := rep_copied (w := w) (S := fun b => b < w.heap.size) (A := A) (c := c) rfl hx8 hl1' ho1' (fun b hb => by have : wd.heap.size ≤ b := hb; show w.heap.size + 2 ≤ b; omega)
  have re : Rep w2 (Fr (w.heap.size + 2)) (.sl JExt 24) [.slice A2 es.length c2] es := rep_copied (w := w) (S := fun b => b < w.heap.size) (A := A') (c := c') rfl he8 hl2' ho2 (fun b hb => by have : w1.heap.size ≤ b := hb; show w.heap.size + 2 ≤ b; omega)
  have rx4 := (rx.grown g1 (by omega)).grown g2 (by omega)
  have re4 := (re.grown g1 (by omega)).grown g2 (by omega)
  have hrep := med_rep (v := v) (pay := pay) rx4 re4 hk hs ht hr hp hpay
  first
    | (rename_i hKK; refine hKK _ _ ?_)
    | (rename_i hKK _; refine hKK _ _ ?_)
    | (rename_i hKK _ _; refine hKK _ _ ?_)
    | (rename_i hKK _ _ _; refine hKK _ _ ?_)
  refine wp_seq ?_
  refine own_end (T := 28) (t1 := 1) (t2 := 2) (tc := 11) (m := 12) (n := w.heap.size) (bs := [.bool v, .int .i64 k, .int .i64 s, .int .i64 t, .int .i64 r, .slice A1 xs.length c1, .slice A2 es.length c2, .int .i64 p, .string pay]) ⟨rfl, rfl, rfl, rfl⟩ (by omega) ⟨_, Try.underlying28, rfl⟩ (by kernel_rfl) M4 Z4 rfl (Rep.one _ _ _ hrep) ?_
  intro aE wE sE kE gE
  refine own_ret rfl sE ⟨_, Try.underlying28, rfl⟩ (by kernel_rfl) kE ?_
  exact ⟨_, rfl, _, rfl, (hrep.grown gE (by omega)).fr_le (by omega), below_grown B4 gE (by have := g1.size; have := g2.size; omega) (by omega)⟩
end Go.Proofs.Ytjmohkgbfigcgaa.Sh
