/- A struct in a block of its own: its fields read, handed to a function that copies them, and written back. -/
import Derived.Test.YtjmohkgbfigcgaaProg
import Derived.Test.YtjmohkgbfigcgaaCopy
import Derived.Laws.Tables
import Derived.Deep.MidRow
namespace Go.Proofs.Ytjmohkgbfigcgaa.Sh
open Go Go.RowKit
set_option linter.unusedVariables false
set_option linter.unusedSimpArgs false

/-- the value of some cells: a struct, or the one cell -/
def valOf (agg : Bool) (cs : List Value) : Value := if agg then .agg cs.toArray else cs.headD undef
/-- block n holds these cells -/
def Bk (w : World) (n : Nat) (T : TypeId) (bs : List Value) : Prop := w.heap[n]? = some (.cells bs.toArray T (0, 0))
theorem Bk.lt {w : World} {n : Nat} {T : TypeId} {bs : List Value} (h : Bk w n T bs) : n < w.heap.size := (Array.getElem?_eq_some_iff.1 h).1
theorem Bk.at_ {w : World} {n : Nat} {T : TypeId} {bs : List Value} (h : Bk w n T bs) : At w n 0 bs := fun j v hv => by
  rw [Nat.zero_add]
  exact ⟨by rw [cell_of_row w n j _ _ _ h]; simpa using hv, frozen_of_row w n j _ _ h⟩
theorem Bk.seg {w : World} {n : Nat} {T : TypeId} {pre c post : List Value} (h : Bk w n T (pre ++ (c ++ post))) : At w n pre.length c := by
  have := h.at_.right.left
  rwa [Nat.zero_add] at this
theorem Bk.grown {w w' : World} {n m : Nat} {T : TypeId} {bs : List Value} (h : Bk w n T bs) (hg : w.grownBy w' (some m)) (hne : n ≠ m) : Bk w' n T bs :=
  (hg.block n h.lt (by intro e; injection e with e; exact hne e)).trans h
theorem Bk.below {w w' : World} {n : Nat} {T : TypeId} {bs : List Value} (h : Bk w n T bs) (hb : Below w.heap.size w w') : Bk w' n T bs := (hb.block n h.lt).trans h

section
variable {P : Program} {ops : Array Oper} {rest : List Oper} {o : Oper} {a : Act} {Q : Exit → Act → World → Prop} {w w' : World}
theorem wpList_value {v : Value} (hgd : o.guard = none) (hr : (execOp a.eval o).run P w = .ok (.value v) w') (h : wpList P ops Q rest (a.put o.dst v) w') : wpList P ops Q (o :: rest) a w :=
  wpList_plain hgd fun K hK => by unfold Oper.wp; rw [hr]; exact hK _ _ h
theorem wpList_skip (hgd : o.guard = none) (hr : (execOp a.eval o).run P w = .ok .skip w') (h : wpList P ops Q rest (a.put o.dst undef) w') : wpList P ops Q (o :: rest) a w :=
  wpList_plain hgd fun K hK => by unfold Oper.wp; rw [hr]; exact hK _ _ h
theorem wpList_enter {f : FuncId} {args : Array Value} {R : Value → World → Prop} (hgd : o.guard = none) (hr : (execOp a.eval o).run P w = .ok (.enter f args) w) (hc : Calls P f args w fun e w' => ∃ v, e = .returned v ∧ R v w')
    (h : ∀ v w', R v w' → wpList P ops Q rest (a.put o.dst v) w') : wpList P ops Q (o :: rest) a w :=
  wpList_plain hgd fun K hK => by
    unfold Oper.wp
    rw [hr]
    refine hc.mono ?_
    rintro e w' ⟨v, rfl, hv⟩
    exact hK _ _ (h v w' hv)
end

/-- the frame: its length, and two slots that hold the blocks -/
structure Slots (a : Act) (m t1 n1 t2 n2 : Nat) : Prop where
  size : a.tmps.size = m
  one : a.tmps[t1]? = some (.pointer (some ⟨n1, 0, none⟩))
  two : a.tmps[t2]? = some (.pointer (some ⟨n2, 0, none⟩))
  defers : a.defers = []
theorem Slots.put {a : Act} {m t1 n1 t2 n2 : Nat} (h : Slots a m t1 n1 t2 n2) (d : Nat) (v : Value) (h1 : d ≠ t1) (h2 : d ≠ t2) : Slots (a.put (some d) v) m t1 n1 t2 n2 :=
  ⟨by simp [Act.put, h.size], by simp only [Act.put]; rw [Array.getElem?_setIfInBounds_ne (by omega)]; exact h.one, by simp only [Act.put]; rw [Array.getElem?_setIfInBounds_ne (by omega)]; exact h.two, h.defers⟩
theorem eval_put_same {a : Act} {d : Nat} {v : Value} (h : d < a.tmps.size) : (a.put (some d) v).eval (.tmp d) = v := by
  simp [Act.put, Act.eval, h]
theorem eval_put_other {a : Act} {d t : Nat} {v : Value} (h : d ≠ t) : (a.put (some d) v).eval (.tmp t) = a.eval (.tmp t) := by
  simp [Act.put, Act.eval, Array.getElem?_setIfInBounds_ne h]
theorem Slots.eval1 {a : Act} {m t1 n1 t2 n2 : Nat} (h : Slots a m t1 n1 t2 n2) : a.eval (.tmp t1) = .pointer (some ⟨n1, 0, none⟩) := by
  simp [Act.eval, h.one]

/-- 'f' hands back a copy of a datum of kind T that shares nothing -/
def Owns (f : FuncId) (agg : Bool) (T : Ty) : Prop := ∀ (w : World) (S : Nat → Prop) (cs : List Value) (d : T.Data), Rep w S T cs d →
  Calls Try.prog f #[valOf agg cs] w fun r w' => ∃ v, r = .returned v ∧ ∃ cs', v = valOf agg cs' ∧ Rep w' (Fr w.heap.size) T cs' d ∧ Below w.heap.size w w'

theorem run_callFunc_goes {P : Program} {f : FuncId} {fn : Func} {c : Code} (hf : P.funcs[f]? = some fn) (hname : (fn.name == "runtime.NumGoroutine") = false) (hb : fn.body = some c) (args : Array Value) (w : World) :
    (callFunc f args).run P w = .ok (.enter f args) w := by
  have h1 : fn.name ≠ "runtime.NumGoroutine" := by simpa using hname
  simp [callFunc, hf, h1, hb]
theorem run_call {P : Program} {ρ : Operand → Value} {o : Oper} {f : FuncId} {x : Operand} {ats : Array TypeId} {fn : Func} {c : Code} (ho : o.op = .call { callee := .value (.func f), args := #[x], argTypes := ats }) (hρ : ρ (.func f) = .func (.func f) #[] #[])
    (hf : P.funcs[f]? = some fn) (hname : (fn.name == "runtime.NumGoroutine") = false) (hb : fn.body = some c) (w : World) : (execOp ρ o).run P w = .ok (.enter f #[ρ x]) w := by
  unfold execOp
  simp only [ho, resolve, Deferred.ofValue, hρ, Sem.run_bind, Sem.run_pure, Result.andThen_ok, invoke, List.map_toArray, List.map_cons, List.map_nil, Array.append_empty, Array.empty_append]
  exact run_callFunc_goes hf hname hb _ _

/-- a field is handed to a function that copies it, and written back -/
theorem own_field {id : Nat} {Q : Exit → Act → World → Prop} {a : Act} {W : World} {m t1 n t2 : Nat} {T FT k ta tb tc td f off len : Nat} {e0 e1 e2 e3 e4 : TypeId} {p0 p1 p2 p3 p4 : String} {f0 f1 f2 f3 f4 : Array Edge} {ats : Array TypeId} {agg : Bool} {TT : TypeId}
    {kT : Ty} {pre c post : List Value} {d : kT.Data} {S : Nat → Prop} {fn : Func} {cd : Code}
    (hs : Slots a m t1 n t2 (n + 1)) (hta : ta < m ∧ ta ≠ t1 ∧ ta ≠ t2) (htb : tb < m ∧ tb ≠ t1 ∧ tb ≠ t2) (htc : tc < m ∧ tc ≠ t1 ∧ tc ≠ t2) (htd : td < m ∧ td ≠ t1 ∧ td ≠ t2) (hne : td ≠ tc)
    (hfa : ∀ u : World, (Instr.fieldAt T (.pointer (some ⟨n, 0, none⟩)) k).run Try.prog u = .ok (.pointer (some ⟨n, off, none⟩)) u)
    (hlen : c.length = len) (hoff : pre.length = off) (hagg : agg = false → len = 1)
    (hut : ∃ ds, Try.prog.underlying FT = some ds ∧ ds.isRow = agg) (hsz : (Try.prog.info? FT).map (·.size) = some len)
    (hb : Bk W n TT (pre ++ (c ++ post))) (hr : Rep W S kT c d) (hw : kT.width = len) (ho : Owns f agg kT)
    (hfn : Try.prog.funcs[f]? = some fn) (hname : (fn.name == "runtime.NumGoroutine") = false) (hbody : fn.body = some cd)
    (h : ∀ c' W' a', Slots a' m t1 n t2 (n + 1) → Bk W' n TT (pre ++ (c' ++ post)) → Rep W' (Fr W.heap.size) kT c' d → W.grownBy W' (some n) → Q .normal a' W') :
    (Code.region id [⟨some ta, .fieldAddr T (.tmp t1) k, e0, p0, f0, none⟩, ⟨some tb, .load FT (.tmp ta), e1, p1, f1, none⟩, ⟨some tc, .call { callee := .value (.func f), args := #[.tmp tb], argTypes := ats }, e2, p2, f2, none⟩,
      ⟨some td, .fieldAddr T (.tmp t1) k, e3, p3, f3, none⟩, ⟨none, .store FT (.tmp td) (.tmp tc), e4, p4, f4, none⟩].toArray false).wp Try.prog Q a W := by
  obtain ⟨ds, hu, hrow⟩ := hut
  have hone := Rep.one kT c d hr
  have hload : ∀ (b : Act), b.eval (.tmp ta) = .pointer (some ⟨n, off, none⟩) → (execOp b.eval ⟨some tb, .load FT (.tmp ta), e1, p1, f1, none⟩).run Try.prog W = .ok (.value (valOf agg c)) W := by
    intro b hbv
    have hat := hb.seg
    rw [hoff] at hat
    cases agg with
    | true =>
      have := run_loadAt_mid (P := Try.prog) W n off FT c ds (fun j v hv => (hat j v hv).1) hu hrow (by rw [hlen]; exact hsz)
      simp only [execOp, hbv, Sem.run_bind, this, Result.andThen_ok, Sem.run_pure, valOf, if_true]
    | false =>
      obtain ⟨x, rfl⟩ : ∃ x, c = [x] := by
        have := hagg rfl
        match c, hlen.trans this with
        | [x], _ => exact ⟨x, rfl⟩
      have hc := (hat 0 x rfl).1
      have hagg' : (isAgg FT).run Try.prog W = .ok false W := by
        cases ds <;> simp [TypeDesc.isRow] at hrow <;> simp [isAgg, run_underlying hu]
      simp only [execOp, hbv, Instr.loadAt, Instr.sureAddr, loadVar, Sem.run_bind, Sem.run_pure, Result.andThen_ok, hagg', valOf, Bool.false_eq_true, if_false, List.headD_cons]
      rw [Nat.add_zero] at hc
      simp [load, Sem.run, hc]
  refine wp_region_lit ?_
  refine wpList_value (v := .pointer (some ⟨n, off, none⟩)) (w' := W) rfl (by simp only [execOp, hs.eval1, Sem.run_bind, hfa, Result.andThen_ok, Sem.run_pure]) ?_
  have s1 := hs.put ta (.pointer (some ⟨n, off, none⟩)) hta.2.1 hta.2.2
  refine wpList_value (v := valOf agg c) (w' := W) rfl (hload _ (eval_put_same (by rw [hs.size]; exact hta.1))) ?_
  have s2 := s1.put tb (valOf agg c) htb.2.1 htb.2.2
  refine wpList_enter (f := f) (args := #[valOf agg c]) rfl ?_ (ho W S c d hr) ?_
  · rw [run_call rfl rfl hfn hname hbody, eval_put_same (by rw [s1.size]; exact htb.1)]
  rintro v W1 ⟨c', rfl, hr', hbl⟩
  have s3 := s2.put tc (valOf agg c') htc.2.1 htc.2.2
  have hl' : c'.length = len := (Rep.length kT c' d hr').trans hw
  have hb1 : Bk W1 n TT (pre ++ (c ++ post)) := hb.below hbl
  refine wpList_value (v := .pointer (some ⟨n, off, none⟩)) (w' := W1) rfl (by simp only [execOp, s3.eval1, Sem.run_bind, hfa, Result.andThen_ok, Sem.run_pure]) ?_
  have s4 := s3.put td (.pointer (some ⟨n, off, none⟩)) htd.2.1 htd.2.2
  have hone' := Rep.one kT c' d hr'
  have hst := run_storeCells_at Try.prog n off TT c' 0 _ W1 hb1 (by simp [hl', hlen, hoff]) hone'
  have hrowEq : ((pre ++ (c ++ post)).toArray.toList.take (off + 0) ++ c' ++ (pre ++ (c ++ post)).toArray.toList.drop (off + 0 + c'.length)) = pre ++ (c' ++ post) := by
    simp only [Nat.add_zero, List.toList_toArray]
    rw [← hoff, List.take_left, hl', ← hlen, ← List.append_assoc pre c post, ← List.length_append, List.drop_left, List.append_assoc]
  rw [hrowEq] at hst
  have hstore : ∀ (b : Act), b.eval (.tmp td) = .pointer (some ⟨n, off, none⟩) → b.eval (.tmp tc) = valOf agg c' →
      (execOp b.eval ⟨none, .store FT (.tmp td) (.tmp tc), e4, p4, f4, none⟩).run Try.prog W1 = .ok .skip (W1.setRow n (pre ++ (c' ++ post)).toArray) := by
    intro b h1 h2
    have hcells : (valOf agg c').cells = c'.toArray := by
      cases agg with
      | true => rfl
      | false =>
        obtain ⟨x, rfl⟩ : ∃ x, c' = [x] := by
          have := hagg rfl
          match c', hl'.trans this with
          | [x], _ => exact ⟨x, rfl⟩
        have h1x := hone' x (by simp)
        cases x <;> first | rfl | (exact absurd h1x (by simp [Value.oneCell']))
    have hsize : (sizeOf FT).run Try.prog W1 = .ok len W1 := by
      cases hq : Try.prog.info? FT with
      | none => simp [hq] at hsz
      | some i => simp [hq] at hsz; subst hsz; simp [sizeOf, typeInfo, hq]
    simp only [execOp, h1, h2, Instr.storeAt, Instr.sureAddr, storeVar, Sem.run_bind, Sem.run_pure, Result.andThen_ok, hsize, hcells, List.size_toArray, hl', ne_eq, not_true_eq_false, if_false, hst]
  refine wpList_skip (w' := W1.setRow n (pre ++ (c' ++ post)).toArray) rfl (hstore _ (eval_put_same (by rw [s3.size]; exact htd.1)) ?_) ?_
  · rw [eval_put_other hne, eval_put_same (by rw [s2.size]; exact htc.1)]
  refine wpList_nil ?_
  have hgr : W.grownBy (W1.setRow n (pre ++ (c' ++ post)).toArray) (some n) :=
    ⟨hbl.os, hbl.tape, hbl.output, by rw [setRow_size]; exact hbl.size, fun k hk hn => by
      have hkn : k ≠ n := fun e => hn (by rw [e])
      rw [setRow_other _ _ _ _ hkn]; exact hbl.block k hk⟩
  refine h c' _ _ s4 (setRow_heap W1 n _ _ TT _ hb1) ?_ hgr
  refine Rep.frame kT c' d hr' fun b hb' hl => ⟨setRow_other _ _ _ _ ?_, hb'⟩
  have := hb.lt
  have : W.heap.size ≤ b := hb'
  omega

/-- the boxed argument, and the result's block -/
theorem own_start {id : Nat} {Q : Exit → Act → World → Prop} {w : World} {T t1 t2 m : Nat} {e0 e1 : TypeId} {p0 p1 : String} {f0 f1 : Array Edge} {tm : Array Value} {cs : List Value} {i : TypeInfo} {z : Value}
    (h0 : ({ tmps := tm, defers := [] } : Act).eval (.tmp 0) = .agg cs.toArray) (hm : tm.size = m) (h1 : t1 < m) (h2 : t2 < m) (hne : t1 ≠ t2) (hi : Try.prog.info? T = some i) (hz : i.zero = some z)
    (h : ∀ a' w0, Slots a' m t1 w.heap.size t2 (w.heap.size + 1) → Bk w0 w.heap.size T cs → Bk w0 (w.heap.size + 1) T z.cells.toList → Below w.heap.size w w0 → w0.heap.size = w.heap.size + 2 → Q .normal a' w0) :
    (Code.region id [⟨some t1, .box T (.tmp 0), e0, p0, f0, none⟩, ⟨some t2, .alloc T, e1, p1, f1, none⟩].toArray false).wp Try.prog Q { tmps := tm, defers := [] } w := by
  refine wp_region_lit ?_
  refine wpList_value (v := .pointer (some ⟨w.heap.size, 0, none⟩)) (w' := w.alloc (.cells cs.toArray T)) rfl ?_ ?_
  · simp only [execOp, h0, Instr.box, newVar, newRow, Sem.run_bind, Sem.run_pure, Result.andThen_ok]
    rfl
  refine wpList_value (v := .pointer (some ⟨w.heap.size + 1, 0, none⟩)) (w' := (w.alloc (.cells cs.toArray T)).alloc (.cells z.cells T)) rfl ?_ ?_
  · simp [execOp, Instr.alloc, zeroValue, typeInfo, newVar, newRow, hi, hz]
  refine wpList_nil (h _ _ ⟨by simp [Act.put, hm], ?_, ?_, rfl⟩ ?_ ?_ (((Below.refl _ w).alloc (Nat.le_refl _) _).alloc (by simp) _) (by simp))
  · simp only [Act.put]
    rw [Array.getElem?_setIfInBounds_ne (Ne.symm hne)]
    simp [hm, h1]
  · simp [Act.put, hm, h2]
  · unfold Bk
    rw [Below.heap_alloc _ _ _ (by simp)]
    exact heap_alloc_new w _
  · unfold Bk
    have := heap_alloc_new (w.alloc (.cells cs.toArray T)) (.cells z.cells T)
    simpa using this

/-- the whole is read, and written to the result's block -/
theorem own_end {id : Nat} {Q : Exit → Act → World → Prop} {a : Act} {W : World} {m t1 n t2 tc T : Nat} {e0 e1 : TypeId} {p0 p1 : String} {f0 f1 : Array Edge} {TT : TypeId} {bs zs : List Value}
    (hs : Slots a m t1 n t2 (n + 1)) (htc : tc < m ∧ tc ≠ t1 ∧ tc ≠ t2) (hut : ∃ ds, Try.prog.underlying T = some ds ∧ ds.isRow = true) (hsz : (Try.prog.info? T).map (·.size) = some bs.length)
    (hb : Bk W n TT bs) (hz : Bk W (n + 1) TT zs) (hlen : zs.length = bs.length) (hone : ∀ v ∈ bs, v.oneCell' = true)
    (h : ∀ a' W', Slots a' m t1 n t2 (n + 1) → Bk W' (n + 1) TT bs → W.grownBy W' (some (n + 1)) → Q .normal a' W') :
    (Code.region id [⟨some tc, .load T (.tmp t1), e0, p0, f0, none⟩, ⟨none, .store T (.tmp t2) (.tmp tc), e1, p1, f1, none⟩].toArray false).wp Try.prog Q a W := by
  obtain ⟨ds, hu, hrow⟩ := hut
  refine wp_region_lit ?_
  have hl := run_loadAt_mid (P := Try.prog) W n 0 T bs ds (fun j v hv => (hb.at_ j v hv).1) hu hrow hsz
  refine wpList_value (v := .agg bs.toArray) (w' := W) rfl (by simp only [execOp, hs.eval1, Sem.run_bind, hl, Result.andThen_ok, Sem.run_pure]) ?_
  have s1 := hs.put tc (.agg bs.toArray) htc.2.1 htc.2.2
  have e2 : (a.put (some tc) (.agg bs.toArray)).eval (.tmp t2) = .pointer (some ⟨n + 1, 0, none⟩) := by simp [Act.eval, s1.two]
  have e1 : (a.put (some tc) (.agg bs.toArray)).eval (.tmp tc) = .agg bs.toArray := eval_put_same (by rw [hs.size]; exact htc.1)
  have hst := run_storeCells_at Try.prog (n + 1) 0 TT bs 0 _ W hz (by simp [hlen]) hone
  have hrowEq : (zs.toArray.toList.take (0 + 0) ++ bs ++ zs.toArray.toList.drop (0 + 0 + bs.length)) = bs := by simp [← hlen]
  rw [hrowEq] at hst
  have hsize : (sizeOf T).run Try.prog W = .ok bs.length W := by
    cases hq : Try.prog.info? T with
    | none => simp [hq] at hsz
    | some i => simp [hq] at hsz; simp [sizeOf, typeInfo, hq, hsz]
  refine wpList_skip (w' := W.setRow (n + 1) bs.toArray) rfl ?_ ?_
  · simp only [execOp, e1, e2, Instr.storeAt, Instr.sureAddr, storeVar, Sem.run_bind, Sem.run_pure, Result.andThen_ok, hsize, Value.cells, List.size_toArray, ne_eq, not_true_eq_false, if_false, hst]
  refine wpList_nil (h _ _ ?_ (setRow_heap W (n + 1) _ _ TT _ hz) ?_)
  · exact s1
  · exact ⟨rfl, rfl, rfl, by rw [setRow_size]; exact Nat.le_refl _, fun k hk hn => setRow_other _ _ _ _ (fun e => hn (by rw [e]))⟩

/-- the end of such a function -/
theorem own_ret {fn : Func} {R : Ending → World → Prop} {a : Act} {W : World} {m t1 n t2 T TT : Nat} {bs : List Value} (hres : fn.results = #[.cell t2 T]) (hs : Slots a m t1 n t2 (n + 1))
    (hut : ∃ ds, Try.prog.underlying T = some ds ∧ ds.isRow = true) (hsz : (Try.prog.info? T).map (·.size) = some bs.length) (hb : Bk W (n + 1) TT bs) (hR : R (.returned (.agg bs.toArray)) W) :
    Code.ret.wp Try.prog (bodyPost Try.prog fn R) a W := by
  obtain ⟨ds, hu, hrow⟩ := hut
  refine wp_ret (bodyPost_ret (v := .agg bs.toArray) ?_ hs.defers hR)
  refine results_cell_row hres a.tmps W (n + 1) TT bs.toArray (0, 0) ds ?_ hb hu ?_ (by simpa using hsz)
  · have := hs.two
    simp [Array.getD_eq_getD_getElem?, this]
  · cases ds <;> simp [TypeDesc.isRow] at hrow <;> rfl
theorem Rep.grown {w w' : World} {B r : Nat} {T : Ty} {cs : List Value} {d : T.Data} (h : Rep w (Fr B) T cs d) (hg : w.grownBy w' (some r)) (hr : r < B) : Rep w' (Fr B) T cs d :=
  Rep.frame T cs d h fun b hb hl => ⟨hg.block b hl (by intro e; injection e with e; have : B ≤ b := hb; omega), hb⟩
theorem Rep.grown_any {w w' : World} {S : Nat → Prop} {r : Nat} {T : Ty} {cs : List Value} {d : T.Data} (h : Rep w S T cs d) (hg : w.grownBy w' (some r)) (hr : ¬ S r) : Rep w' S T cs d :=
  Rep.frame T cs d h fun b hb hl => ⟨hg.block b hl (by intro e; injection e with e; exact hr (e ▸ hb)), hb⟩
theorem below_grown {w w1 w2 : World} {B r : Nat} (h : Below B w w1) (hg : w1.grownBy w2 (some r)) (hB : B ≤ w1.heap.size) (hr : B ≤ r) : Below B w w2 :=
  h.grown hg hB (fun k e => by injection e with e; omega)

/-- some cells of a row of one's own are written -/
theorem row_store {P : Program} {w : World} {base : Nat} {e : TypeId} {size n c g off : Nat} {news cs : List Value} (h : w.ownsRow base e size (.slice (some ⟨g, 0, none⟩) n c) n news) (hoff : off + cs.length ≤ n * size) (h1 : ∀ v ∈ cs, v.oneCell' = true) :
    ∃ w', (storeCells ⟨g, off, none⟩ cs).run P w = .ok () w' ∧ w'.ownsRow base e size (.slice (some ⟨g, 0, none⟩) n c) n (news.take off ++ cs ++ news.drop (off + cs.length)) ∧ w.grownBy w' (some g) := by
  have hl := h.1
  rcases h.2 with ⟨he, _⟩ | ⟨g', cap, cur, he, hb, hg, hn, hc, hcs, ht⟩
  · cases he
  · injection he with h2 h3 h4
    injection h2 with h2
    injection h2 with h2 _ _
    subst h2; subst h4
    have hle : n * size ≤ cur.size := by rw [hcs]; exact Nat.mul_le_mul_right _ hn
    have hst := run_storeCells_at P g off e cs 0 cur w hg (by omega) h1
    simp only [Nat.add_zero] at hst
    refine ⟨_, hst, ⟨by simp only [List.length_append, List.length_take, List.length_drop]; omega, .inr ⟨g, c, _, rfl, hb, setRow_heap w g cur _ e _ hg, hn, hc, ?_, ?_⟩⟩,
      ⟨rfl, rfl, rfl, by rw [setRow_size]; exact Nat.le_refl _, fun k hk hne => setRow_other _ _ _ _ (fun e => hne (by rw [e]))⟩⟩
    · simp only [List.size_toArray, List.length_append, List.length_take, List.length_drop, Array.length_toList]; omega
    · simp only [List.toList_toArray]
      rw [← ht, List.take_take, Nat.min_eq_left (by omega), List.append_assoc, List.append_assoc, List.take_append, List.take_take, List.take_append, List.length_take, Array.length_toList, Nat.min_eq_left (by omega : off ≤ cur.size), Nat.min_eq_right (by omega : off ≤ n * size), List.take_of_length_le (by omega : cs.length ≤ n * size - off), List.drop_take]
      congr 3
      omega
theorem wp_row_store {P : Program} {o : Oper} {a : Act} {K : Act → World → Prop} {Q : Exit → Act → World → Prop} (w : World) (ty : TypeId) (x y : Operand) (ho : o.op = .store ty x y) (g off : Nat) (hx : a.eval x = .pointer (some ⟨g, off, none⟩))
    (cs : List Value) (hy : a.eval y = .agg cs.toArray) (base : Nat) (e : TypeId) (size n c : Nat) (news : List Value) (hown : w.ownsRow base e size (.slice (some ⟨g, 0, none⟩) n c) n news) (hoff : off + cs.length ≤ n * size) (h1 : ∀ v ∈ cs, v.oneCell' = true)
    (hsz : (P.info? ty).map (·.size) = some cs.length)
    (h : ∀ w', w'.ownsRow base e size (.slice (some ⟨g, 0, none⟩) n c) n (news.take off ++ cs ++ news.drop (off + cs.length)) → w.grownBy w' (some g) → K (a.put o.dst undef) w') : o.wp P a w K Q := by
  obtain ⟨w', hst, ho', hg⟩ := row_store (P := P) hown hoff h1
  have hsize : (sizeOf ty).run P w = .ok cs.length w := by
    cases hq : P.info? ty with
    | none => simp [hq] at hsz
    | some i => simp [hq] at hsz; simp [sizeOf, typeInfo, hq, hsz]
  have hr : (execOp a.eval o).run P w = .ok .skip w' := by
    simp only [execOp, ho, hx, hy, Instr.storeAt, Instr.sureAddr, storeVar, Sem.run_bind, Sem.run_pure, Result.andThen_ok, hsize, Value.cells, List.size_toArray, ne_eq, not_true_eq_false, if_false, hst]
  unfold Oper.wp
  rw [hr]
  exact h w' ho' hg
end Go.Proofs.Ytjmohkgbfigcgaa.Sh
