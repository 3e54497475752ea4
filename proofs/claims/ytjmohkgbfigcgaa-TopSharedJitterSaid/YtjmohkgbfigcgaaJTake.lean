/- jitter.Take. -/
import Derived.Test.YtjmohkgbfigcgaaJRun
namespace Go.Proofs.Ytjmohkgbfigcgaa.Sh
open Go Go.RowKit
attribute [local go_sem] Oper.semAt_some
set_option linter.unusedVariables false
set_option linter.unusedSimpArgs false

theorem leaves_plain {n : Nat} {P : Program} {fn : Func} {post : Ending → World → Prop} {a : Act} {w : World} {v : Value} (hd : a.defers = []) (hr : (results fn a.tmps).run P w = .ok v w) (h : post (.returned v) w) : bodyPostM Fence.wide n P fn post .ret a w := by
  show LeavesInM Fence.wide n P fn a.tmps post a.defers .returning w
  rw [hd]
  exact ⟨v, hr, h⟩
theorem leaves_mark {n : Nat} {P : Program} {fn : Func} {post : Ending → World → Prop} {a : Act} {w : World} {v : Value} {D : Nat} {e : Exit} (he : e = .ret ∨ e = .normal) (hd : a.defers = [{ target := .collected D, args := #[] }]) (hD : w.heap[D]? = some (.deferred (some [])))
    (hr : (results fn a.tmps).run P (w.putObj D (.deferred none)) = .ok v (w.putObj D (.deferred none))) (h : post (.returned v) (w.putObj D (.deferred none))) : bodyPostM Fence.wide n P fn post e a w := by
  have : LeavesInM Fence.wide n P fn a.tmps post a.defers .returning w := by
    rw [hd]
    exact ⟨by simp, .inl ⟨D, _, rfl, run_takeDeferred hD, v, hr, h⟩⟩
  rcases he with rfl | rfl <;> exact this
theorem results_rot {P : Program} {fn : Func} {p q u : Tmp} {ty ty2 e : TypeId} (h : fn.results = #[.cell p ty, .cell q ty2, .tmp u]) (tmps : Array Value) (w : World) (g : Nat) (t : TypeId) (cs : List Value) (d : TypeDesc)
    (hp : tmps.getD p undef = .pointer (some ⟨g, 0, none⟩)) (hg : Bk w g t cs) (hu : P.underlying ty = some d) (hd : d.isRow = true) (hi : (P.info? ty).map (·.size) = some cs.length)
    (g2 : Nat) (t2 : TypeId) (v2 : Value) (hq : tmps.getD q undef = .pointer (some ⟨g2, 0, none⟩)) (hg2 : Bk w g2 t2 [v2]) (hu2 : P.underlying ty2 = some (.slice e)) :
    (results fn tmps).run P w = .ok (.tuple #[.agg cs.toArray, v2, tmps.getD u undef]) w := by
  have hp' : tmps[p]?.getD undef = .pointer (some ⟨g, 0, none⟩) := by simpa using hp
  have hq' : tmps[q]?.getD undef = .pointer (some ⟨g2, 0, none⟩) := by simpa using hq
  have hl : (loadVar ty ⟨g, 0, none⟩).run P w = .ok (.agg cs.toArray) w := run_loadVar_mid w g 0 ty cs d (fun j v hv => (hg.at_ j v hv).1) hu hd hi
  have hl2 : (loadVar ty2 ⟨g2, 0, none⟩).run P w = .ok v2 w := by
    have hc := hg2.cell 0 rfl
    simp [loadVar, isAgg, run_underlying hu2, TypeDesc.isRow, run_load, hc]
  simp [results, h, hp', hq', asAddr, hl, hl2]

theorem wp_name {P : Program} {c : Code} {Q : Exit → Act → World → Prop} {a : Act} {w : World} (h : ∀ a0, a0 = a → Code.wp P c Q a0 w) : Code.wp P c Q a w := h a rfl
def TakeI (n0 x0 : Nat) (w6 : World) (pre : List MRow) (W : World) : Prop :=
  (∃ v5, Bk W x0 48 [v5] ∧ W.ownsRow n0 28 9 v5 pre.length (pre.flatMap MRow.row)) ∧ Keeps (fun x => x = x0 ∨ n0 ≤ x) w6 W
theorem takeI_own {n0 x0 : Nat} {w6 : World} (h0 : n0 = w6.heap.size) (hx : x0 < n0) : OwnFrom n0 (TakeI n0 x0 w6) := by
  rintro s W W' row ⟨⟨v5, h1, h2⟩, h3⟩ hg hr
  refine ⟨⟨v5, h1.grownr hg (fun e => by have := (hr _ e.symm).1; omega), h2.kept hg ?_⟩, ⟨hg.os.trans h3.os, hg.tape.trans h3.tape, hg.output.trans h3.output, Nat.le_trans h3.size hg.size, fun x hx hm => (hg.block x (Nat.lt_of_lt_of_le hx h3.size) (by intro e; have := (hr _ e.symm).1; exact hm (.inr this))).trans (h3.block x hx hm)⟩⟩
  rcases hob : v5.ownBlock with _ | b
  · exact .inl rfl
  · refine .inr fun e => ?_
    obtain ⟨_, o, ho, hc⟩ := hr b e.symm
    rcases h2.2 with ⟨rfl, _⟩ | ⟨g', cap, cur, rfl, _, hg', _⟩
    · simp [Value.ownBlock] at hob
    · simp [Value.ownBlock] at hob
      subst hob
      rw [hg'] at ho
      cases ho
      cases hc
def TakeA (n0 : Nat) (a0 : Act) (x : MRow) (a' : Act) (W : World) : Prop :=
  ∃ Bx, n0 ≤ Bx ∧ Bk W Bx 28 x.row ∧ a' = ⟨(a0.tmps.setIfInBounds 44 (.agg x.row.toArray)).setIfInBounds 8 (.pointer (some ⟨Bx, 0, none⟩)), []⟩
theorem takeA_own {n0 : Nat} {a0 : Act} (x : MRow) (a' : Act) : OwnFrom n0 (fun (_ : Unit) W => TakeA n0 a0 x a' W) := by
  rintro _ W W' row ⟨Bx, h1, h2, rfl⟩ hg hr
  refine ⟨Bx, h1, h2.grownr hg (fun e => ?_), rfl⟩
  obtain ⟨_, o, ho, hc⟩ := hr Bx e.symm
  have h2' : W.heap[Bx]? = some (.cells x.row.toArray 28 (0, 0)) := h2
  rw [h2'] at ho
  cases ho
  cases hc

theorem media_info : ∃ i z, Try.prog.info? 28 = some i ∧ i.zero = some z ∧ i.size = 9 ∧ i.bytes = 112 ∧ z.cells.size = 9 := by
  have h : (Try.prog.info? 28).map (fun i => (i.zero, i.size, i.bytes)) = some (some (.agg #[.bool false, .int .i64 0, .int .i64 0, .int .i64 0, .int .i64 0, .slice none 0 0, .slice none 0 0, .int .i64 0, .string .empty]), 9, 112) := by kernel_rfl
  obtain ⟨i, hi, h⟩ := Option.map_eq_some_iff.1 h
  simp only [Prod.mk.injEq] at h
  exact ⟨i, _, hi, h.1, h.2.1, h.2.2, rfl⟩
theorem row_sliceM {w : World} {B m s : Nat} {e : TypeId} {v : Value} {xs : List Value} (h : w.ownsRow B e s v m xs) : ∃ A c, v = .slice A m c := by
  rcases h.2 with ⟨rfl, rfl⟩ | ⟨g, cap, cur, rfl, _⟩
  · exact ⟨_, _, rfl⟩
  · exact ⟨_, _, rfl⟩

theorem Change.keeps {w w' : World} {M : Nat → Prop} {B g : Nat} {fr now : Int} {bg fd : Bool} {sq hg lw bs jt ls : Int} {A : Option Addr} {n c lo : Nat} {news : List Value} {hs : List JHeld.Data} (h : Change w B g fr now bg fd sq hg lw bs jt ls A n c lo news hs) (hk : Keeps M w w') (hm : ∀ x, B ≤ x → x < w.heap.size → ¬ M x) : Change w' B g fr now bg fd sq hg lw bs jt ls A n c lo news hs := by
  refine ⟨hk.bk h.at_ (hm _ h.base h.at_.lt), h.base, h.len, ⟨h.own.1, ?_⟩, h.low, h.hold.frame fun b h1 h2 => ⟨hk.block b h2 (hm b (by have h1 : lo ≤ b := h1; have := h.lo1; have := h.base; omega) h2), h1⟩, h.lo1, Nat.le_trans h.lo2 hk.size⟩
  rcases h.own.2 with hn | ⟨g', cap, cur, hv, hb, hg, rest⟩
  · exact .inl hn
  · have hl := (Array.getElem?_eq_some_iff.1 hg).1
    exact .inr ⟨g', cap, cur, hv, hb, (hk.block g' hl (hm g' (by have := h.base; omega) hl)).trans hg, rest⟩
theorem flat_seg : ∀ (ys : List MRow) (i : Nat) (h : i < ys.length), ((ys.flatMap MRow.row).drop (i * 9)).take 9 = ys[i].row
  | [], i, h => absurd h (by simp)
  | y :: ys, 0, h => by
    simp only [List.flatMap_cons, Nat.zero_mul, List.drop_zero, List.getElem_cons_zero]
    exact List.take_left' rfl
  | y :: ys, i + 1, h => by
    have e : (i + 1) * 9 = (MRow.row y).length + i * 9 := by show (i + 1) * 9 = 9 + i * 9; omega
    simp only [List.flatMap_cons, List.getElem_cons_succ]
    rw [e, List.drop_append]
    simp only [List.drop_of_length_le (Nat.le_add_right _ _), List.nil_append, Nat.add_sub_cancel_left]
    exact flat_seg ys i (by simpa using h)
theorem rows_at {w : World} {S : Nat → Prop} {news : List Value} {hs : List JHeld.Data} {ys : List MRow} (h : Rows news ys) (hrl : RepL w S JHeld news hs) (i : Nat) (hi : i < ys.length) (hj : i < hs.length) :
    ys[i].s = seqOf hs[i].1 ∧ ys[i].v = hs[i].1.1 ∧ Rep w S JMed ys[i].row hs[i].1 := by
  have hre := hrl.2 i hj
  have hrow := h i hi
  rcases hek : hs[i] with ⟨⟨v, k, s, t, r, xs, es, p, pay, ⟨⟩⟩, ar, ⟨⟩⟩
  rw [hek] at hre
  obtain ⟨c1, _, hseg, hm, _, _, rfl, ⟨rfl, har⟩, rfl⟩ := hre
  have h9 : c1.length = 9 := Rep.length _ _ _ hm
  have hseg' : (news.drop (i * 10)).take 10 = c1 ++ [.int .i64 ar] := hseg
  have hx9 : (news.drop (i * 10)).take 9 = c1 := by
    have := congrArg (List.take 9) hseg'
    rw [List.take_take, List.take_left' h9] at this
    exact this
  rw [hx9] at hrow
  have hm2 := hm
  obtain ⟨A1, k1, A2, k2, rfl, -⟩ := rep_med hm2
  rcases hy : ys[i] with ⟨xv, xk, xs', xt, xr, xA, xn, xc, xA2, xn2, xc2, xp, xpay⟩
  rw [hy] at hrow
  simp only [MRow.row, List.cons.injEq, Value.bool.injEq, Value.int.injEq, true_and] at hrow
  refine ⟨hrow.2.2.1, hrow.1, ?_⟩
  have : MRow.row ⟨xv, xk, xs', xt, xr, xA, xn, xc, xA2, xn2, xc2, xp, xpay⟩ = ys[i].row := by rw [hy]
  rw [this, h i hi, hx9]
  exact hm
theorem heldF_all {sq hg : Int} : ∀ {q : Int} {hs : List JHeld.Data}, heldF sq hg q hs = true → ∀ i (h : i < hs.length), 0 ≤ seqOf hs[i].1 ∧ seqOf hs[i].1 < 65536
  | _, [], _, i, h => absurd h (by simp)
  | q, (m, a, u) :: hs, hh, 0, h => by
    rw [heldF_cons] at hh
    simp only [Bool.and_eq_true] at hh
    obtain ⟨v, k, s, t, r, xs, es, p, pay, u2⟩ := m
    exact (checkM_nums hh.1.1.1.1).1
  | q, (m, a, u) :: hs, hh, i + 1, h => by
    rw [heldF_cons] at hh
    simp only [Bool.and_eq_true] at hh
    exact heldF_all hh.2 i (by simpa using h)

theorem step_setcell {P : Program} {ops : Array Oper} {rest : List Oper} {o : Oper} {a : Act} {Q : Exit → Act → World → Prop} {W : World} {n j : Nat} {T TT : TypeId} {x y : Operand} {v : Value} {zs : List Value}
    (hg : o.guard = none) (ho : o.op = .store T x y) (hx : a.eval x = .pointer (some ⟨n, j, none⟩)) (hy : a.eval y = v) (hz : Bk W n TT zs) (hj : j < zs.length) (hc : v.cells = #[v]) (hsz : (P.info? T).map (·.size) = some 1) (hone : v.oneCell' = true)
    (h : ∀ W', Bk W' n TT (zs.set j v) → W.grownBy W' (some n) → Hid (wpList P ops Q rest (a.put o.dst undef) W')) : wpList P ops Q (o :: rest) a W := by
  have hst := run_storeCells_at P n j TT [v] 0 _ W hz (by simp; omega) (by simpa using hone)
  have hrow : (zs.toArray.toList.take (j + 0) ++ [v] ++ zs.toArray.toList.drop (j + 0 + [v].length)) = zs.set j v := by
    simp [List.set_eq_take_append_cons_drop, hj]
  rw [hrow] at hst
  have hsize : (sizeOf T).run P W = .ok 1 W := by
    cases hq : P.info? T with
    | none => simp [hq] at hsz
    | some i => simp [hq] at hsz; simp [sizeOf, typeInfo, hq, hsz]
  refine wpList_skip (w' := W.setRow n (zs.set j v).toArray) hg ?_ ?_
  · simp only [execOp, ho, hy, hx, Instr.storeAt, Instr.sureAddr, storeVar, Sem.run_bind, Sem.run_pure, Result.andThen_ok, hsize, hc, List.size_toArray, List.length_cons, List.length_nil, Nat.zero_add, ne_eq, not_true_eq_false, if_false, hst]
  · exact (h _ (setRow_heap W n _ _ TT _ hz) ⟨rfl, rfl, rfl, by rw [setRow_size]; exact Nat.le_refl _, fun k hk hn => setRow_other _ _ _ _ (fun e => hn (by rw [e]))⟩).out
theorem wp_storebk {P : Program} {o : Oper} {a : Act} {K : Act → World → Prop} {Q : Exit → Act → World → Prop} {W : World} {n : Nat} {T TT : TypeId} {x y : Operand} {bs zs : List Value}
    (ho : o.op = .store T x y) (hx : a.eval x = .pointer (some ⟨n, 0, none⟩)) (hy : a.eval y = .agg bs.toArray) (hz : Bk W n TT zs) (hlen : zs.length = bs.length) (hsz : (P.info? T).map (·.size) = some bs.length) (hone : ∀ v ∈ bs, v.oneCell' = true)
    (h : ∀ W', Bk W' n TT bs → W.grownBy W' (some n) → K (a.put o.dst undef) W') : o.wp P a W K Q := by
  have hst := run_storeCells_at P n 0 TT bs 0 _ W hz (by simp [hlen]) hone
  have hrowEq : (zs.toArray.toList.take (0 + 0) ++ bs ++ zs.toArray.toList.drop (0 + 0 + bs.length)) = bs := by simp [← hlen]
  rw [hrowEq] at hst
  have hsize : (sizeOf T).run P W = .ok bs.length W := by
    cases hq : P.info? T with
    | none => simp [hq] at hsz
    | some i => simp [hq] at hsz; simp [sizeOf, typeInfo, hq, hsz]
  have hr : (execOp a.eval o).run P W = .ok .skip (W.setRow n bs.toArray) := by
    simp only [execOp, ho, hy, hx, Instr.storeAt, Instr.sureAddr, storeVar, Sem.run_bind, Sem.run_pure, Result.andThen_ok, hsize, Value.cells, List.size_toArray, ne_eq, not_true_eq_false, if_false, hst]
  unfold Oper.wp
  rw [hr]
  exact h _ (setRow_heap W n _ _ TT _ hz) ⟨rfl, rfl, rfl, by rw [setRow_size]; exact Nat.le_refl _, fun k hk hn => setRow_other _ _ _ _ (fun e => hn (by rw [e]))⟩
theorem exec_slice_from {P : Program} {o : Oper} {a : Act} {T e : TypeId} {s lb n c r : Nat} {x y : Operand} (ho : o.op = .slice T x (some y) none none) (hx : a.eval x = .slice (some ⟨lb, 0, none⟩) n c) (hy : a.eval y = .int .i64 r) (hu : P.underlying T = some (.slice e)) (hs : (P.info? e).map (·.size) = some s) (hrn : r ≤ n) (hr63 : n ≤ 9223372036854775807) (u : World) :
    (execOp a.eval o).run P u = .ok (.value (.slice (if c = r then some ⟨lb, 0, none⟩ else some ⟨lb, r * s, none⟩) (n - r) (c - r))) u := by
  have h0 : (0 : Int) ≤ (r : Int) ∧ (r : Int) ≤ (n : Int) := by omega
  cases hq : P.info? e with
  | none => simp [hq] at hs
  | some i =>
    have hi : i.size = s := by simpa [hq] using hs
    by_cases hc : c = r <;> simp [execOp, ho, hx, hy, Instr.sliceAt, Instr.slice, Instr.sliceBounds, Instr.sliceBound, asIntOf, run_underlying hu, sizeOf, typeInfo, hq, hi, h0.2, hrn, Addr.add, hc]
    exact fun h => h.symm
theorem owned_not_deferred {w : World} {B e s n m c g D : Nat} {xs : List Value} {ds : Option (List Deferred)} (h : w.ownsRow B e s (.slice (some ⟨g, 0, none⟩) m c) n xs) (hD : w.heap[D]? = some (.deferred ds)) : g ≠ D := by
  rintro rfl
  rcases h.2 with ⟨he, _⟩ | ⟨g', cap, cur, he, _, hg, _⟩
  · cases he
  · injection he with he
    injection he with he
    injection he with he _ _
    subst he
    rw [hg] at hD
    cases hD
theorem RepL.keep_deferred {w w' : World} {S : Nat → Prop} {e : Ty} {news : List Value} {ds : List e.Data} {D : Nat} {dd : Option (List Deferred)} (h : RepL w S e news ds) (hD : w.heap[D]? = some (.deferred dd)) (hg : w.grownBy w' (some D)) (hf : ∀ b, S b → b ≠ D) : RepL w' S e news ds := h.frame fun b h1 h2 => ⟨hg.block b h2 (by intro e; injection e with e; exact hf b h1 e), h1⟩
theorem frame_rep {w : World} {S : Nat → Prop} {news : List Value} {hs : List JHeld.Data} {ys : List MRow} {r : Nat} (h : Rows news ys) (hrl : RepL w S JHeld news hs) (hr : ys.length = ((hs.take r).map (fun x => x.1)).length) : RepL w S JMed (ys.flatMap MRow.row) ((hs.take r).map (fun x => x.1)) := by
  have hl : ∀ zs : List MRow, (zs.flatMap MRow.row).length = zs.length * 9 := fun zs => by
    induction zs with
    | nil => rfl
    | cons z zs ih => rw [List.flatMap_cons, List.length_append, ih]; show 9 + _ = _; simp only [List.length_cons]; omega
  refine ⟨by rw [hl, hr]; rfl, fun i hi => ?_⟩
  have hi2 : i < ys.length := by rw [hr]; exact hi
  have hi3 : i < hs.length := by rw [List.length_map, List.length_take] at hi; omega
  have := (rows_at h hrl i hi2 hi3).2.2
  rw [List.getElem_map, List.getElem_take]
  have e := flat_seg ys i hi2
  show Rep w S JMed (((ys.flatMap MRow.row).drop (i * 9)).take 9) hs[i].1
  rw [e]
  exact this
theorem rest_rep {w : World} {S S' : Nat → Prop} {B lb n c r : Nat} {news : List Value} {hs : List JHeld.Data} {A4 : Option Addr} (h : RepL w S JHeld news hs) (ho : w.ownsRow B 83 10 (.slice (some ⟨lb, 0, none⟩) n c) n news) (hn : n = hs.length) (hr : r ≤ n)
    (hA : A4 = (if c = r then some ⟨lb, 0, none⟩ else some ⟨lb, r * 10, none⟩)) (h1 : ∀ b, B ≤ b → S' b) (h2 : ∀ b, S b → S' b) (hb : n * 120 ≤ big) : Rep w S' (.sl JHeld 120) [.slice A4 (n - r) (c - r)] (hs.drop r) := by
  obtain ⟨hnc, hcm, hp, hl⟩ := owned_at ho
  refine rep_sl.2 ⟨by rw [List.length_drop, hn], by omega, by omega, Nat.le_trans (Nat.mul_le_mul_right _ (Nat.sub_le _ _)) hb, news.drop (r * 10), fun hpos => ?_, (h.drop r (by omega)).frame fun b h3 h4 => ⟨rfl, h2 b h3⟩⟩
  obtain ⟨b, e, hb1, hb2, hat⟩ := hp (by omega)
  injection e with e
  injection e with e _ _
  subst e
  refine ⟨lb, r * 10, by rw [hA, if_neg (by omega)], h1 _ hb1, hb2, fun j v hv => ?_⟩
  rw [List.getElem?_drop] at hv
  have := hat (r * 10 + j) v hv
  rwa [Nat.zero_add] at this

theorem wp_mid {P : Program} {c : Code} {Q : Exit → Act → World → Prop} {a : Act} {w : World} (Mid : Act → World → Prop) (h : ∀ M : Act → World → Prop, (∀ a w, Mid a w → M a w) → c.wp P (fun e a w => e = .normal ∧ M a w) a w) (k : ∀ a w, Mid a w → Q .normal a w) : c.wp P Q a w :=
  Code.wp_mono (fun e a w h => by obtain ⟨rfl, hm⟩ := h; exact k a w hm) (h Mid fun _ _ h => h)
theorem step_assign_hid {P : Program} {ops : Array Oper} {rest : List Oper} {o : Oper} {a : Act} {Q : Exit → Act → World → Prop} {W : World} {x : Operand} {v : Value} (hg : o.guard = none) (ho : o.op = .assign x) (hx : a.eval x = v)
    (h : Hid (wpList P ops Q rest (a.put o.dst v) W)) : wpList P ops Q (o :: rest) a W :=
  wpList_value hg (by simp [execOp, ho, hx]) h.out

/-- what Take answers -/
def takeF : JBuf.Data → Int → JBuf.Data × List JMed.Data × Int
  | (fr, now, bg, fd, sq, hg, lw, bs, jt, ls, hs, u), nw =>
    if !checkB (fr, now, bg, fd, sq, hg, lw, bs, jt, ls, hs, u) then (bufOf 0, [], 260)
    else if !withinF now 1099511627776 nw then (bufOf 0, [], 2)
    else match hs with
      | [] => (bufOf 0, [], 4)
      | h0 :: _ =>
        if nw < dueF fr jt (heldArr h0 + lw) then (bufOf 0, [], 4)
        else
          let n := runF hs
          let lastS := match hs[n - 1]? with | some x => seqOf x.1 | none => 0
          let lastV := match hs[n - 1]? with | some x => x.1.1 | none => false
          let behind := (lastS + 1) % 65536
          if !fd || decide (seqOf h0.1 ≠ sq) || !lastV then
            (let ls' := ls + (behind - sq) % 65536
            if 1099511627776 < ls' then (bufOf 0, [], 6) else ((fr, nw, bg, lastV, behind, hg, lw, bs, jt, ls', hs.drop n, ()), [], 0))
          else ((fr, nw, bg, fd, behind, hg, lw, bs, jt, ls, hs.drop n, ()), (hs.take n).map (·.1), 0)

def TakePost (w : World) (d : JBuf.Data) (nw : Int) (e : Ending) (w' : World) : Prop :=
  ∃ cs A c, e = .returned (.tuple #[.agg cs.toArray, .slice A (takeF d nw).2.1.length c, .int .i64 (takeF d nw).2.2]) ∧ Rep w' (Fr w.heap.size) JBuf cs (takeF d nw).1 ∧
    Rep w' (Fr w.heap.size) (.sl JMed 112) [.slice A (takeF d nw).2.1.length c] (takeF d nw).2.1 ∧ Below w.heap.size w w'

theorem rep_noMed (w : World) (S : Nat → Prop) : Rep w S (.sl JMed 112) [.slice none ([] : List JMed.Data).length 0] [] := rep_sl.2 ⟨rfl, Nat.le_refl _, by simp [maxLen], by simp, [], fun h => absurd h (by simp), RepL.nil ..⟩

set_option maxRecDepth 100000 in
set_option maxHeartbeats 6400000 in
theorem take_goes (w : World) (S : Nat → Prop) (cs : List Value) (fr now : Int) (bg fd : Bool) (sq hg lw bs jt ls : Int) (hs : List JHeld.Data) (nw : Int) (h : Rep w S JBuf cs (fr, now, bg, fd, sq, hg, lw, bs, jt, ls, hs, ())) (hS : ∀ b, S b → b < w.heap.size) (hnw : IntKind.i64.min ≤ nw ∧ nw ≤ IntKind.i64.max) :
    Calls Try.prog 19 #[.agg cs.toArray, .int .i64 nw] w (TakePost w (fr, now, bg, fd, sq, hg, lw, bs, jt, ls, hs, ()) nw) := by
  have hl1 : cs.length = 11 := Rep.length _ _ _ h
  have HRp := Lib.hid h
  have HS := Lib.hid hS
  have HL1 := Lib.hid hl1
  generalize hpost : TakePost w (fr, now, bg, fd, sq, hg, lw, bs, jt, ls, hs, ()) nw = post
  have HPost := Lib.hid (fun (e : Ending) (w' : World) (h : TakePost w (fr, now, bg, fd, sq, hg, lw, bs, jt, ls, hs, ()) nw e w') => show post e w' from hpost ▸ h)
  clear h hS hl1 hpost
  refine (callsIn_wide (n := 2)).1 (callsIn_of_wp_marks Try.func19 rfl trivial ?_ rfl)
  refine wpIn_wide.2 ?_
  simp only [Try.ntmps19, List.size_toArray, List.length_cons, List.length_nil, Nat.reduceAdd, Nat.reduceSub, Array.replicate_succ, Array.replicate_zero, List.push_toArray, List.append_toArray, List.nil_append, List.cons_append]
  generalize hQ : bodyPostM Fence.wide 2 Try.prog Try.f19 post = QQ
  have HQ0 := Lib.hid hQ
  clear hQ
  go_wp2_with (refine step_boxh (cs := cs) rfl rfl rfl fun w1 M1 B1 Z1 => ?_)
  have HM1 := Lib.hid M1
  have HB1 := Lib.hid B1
  have HZ1 := Lib.hid Z1
  clear M1 B1 Z1
  refine Lib.hid ?_
  go_wp2_with (refine step_alloch (T := 24) (cs := bufCells 0) rfl rfl (by kernel_rfl) fun w2 M2 B2 Z2 => ?_)
  have HM2 := Lib.hid (HM1.out.below B2)
  have HP2 := Lib.hid M2
  have HB2 := Lib.hid (HB1.out.trans (B2.mono HB1.out.size))
  have HZ2 := Lib.hid Z2
  clear M2 B2 HM1 HB1 Z2
  refine Lib.hid ?_
  go_wp2_with (refine step_alloch (T := 48) (cs := [.slice none 0 0]) rfl rfl (by kernel_rfl) fun w3 M3 B3 Z3 => ?_)
  have HM3 := Lib.hid (HM2.out.below B3)
  have HP3 := Lib.hid (HP2.out.below B3)
  have HR3 := Lib.hid M3
  have HB3 := Lib.hid (HB2.out.trans (B3.mono HB2.out.size))
  have HZ3 := Lib.hid Z3
  have HD3 := Lib.hid (show w.heap.size < w1.heap.size ∧ w1.heap.size < w2.heap.size ∧ w2.heap.size < w3.heap.size by
    have := HZ1.out; have := HZ2.out; omega)
  clear M3 B3 HM2 HP2 HB2 Z3
  refine Lib.hid ?_
  go_wp2_with (refine step_loadbk (T := 24) rfl rfl rfl HM3.out Try.underlying24 rfl (by rw [HL1.out]; kernel_rfl) ?_)
  refine (start_goes w3 S cs fr now bg fd sq hg lw bs jt ls hs nw (HRp.out.below HB3.out) (fun b hb => Nat.lt_of_lt_of_le (HS.out b hb) HB3.out.size) hnw).mono ?_
  rintro e w4 ⟨hb4, hE1, hE2, hE3⟩
  have HP4 := Lib.hid (HP3.out.below (hb4.mono (Nat.le_refl _)))
  have HR4 := Lib.hid (HR3.out.below (hb4.mono (Nat.le_refl _)))
  have HB4 := Lib.hid (HB3.out.trans (hb4.mono HB3.out.size))
  have HD4 := Lib.hid (show w3.heap.size ≤ w4.heap.size from hb4.size)
  clear HM3 HP3 HR3 HB3 hb4 HZ1 HZ2 HZ3
  have hdd : w.heap.size < w1.heap.size ∧ w1.heap.size < w2.heap.size ∧ w2.heap.size < w3.heap.size ∧ w3.heap.size ≤ w4.heap.size := by have := HD3.out; have := HD4.out; omega
  cases hq : checkB (fr, now, bg, fd, sq, hg, lw, bs, jt, ls, hs, ()) with
  | false =>
    have HQ := Lib.hid hq
    have e1 := hE1 hq
    subst e1
    clear hq hE1 hE2 hE3
    have hcr := HR4.out.cell 0 rfl
    have hfr0 := HR4.out.plain.free 0
    go_wp2_with (refine step_store (T := 24) (n := w1.heap.size) (bs := bufCells 0) rfl rfl rfl rfl HP4.out rfl (by kernel_rfl) (Rep.one _ _ _ (rep_bufOf w (fun _ => True) 0 zero_in)) fun w9 b9 g9 => ?_)
    have HB9 := Lib.hid b9
    have HR9 := Lib.hid (HR4.out.grown g9 (by omega))
    have HG9 := Lib.hid (below_grown HB4.out g9 (by have := HB4.out.size; omega) (by omega))
    have hsz9 := g9.size
    clear b9 g9 hcr hfr0
    have hcr := HR9.out.cell 0 rfl
    have hfr0 := HR9.out.plain.free 0
    refine Lib.hid ?_
    go_wp2_with fail
    have hp : takeF (fr, now, bg, fd, sq, hg, lw, bs, jt, ls, hs, ()) nw = (bufOf 0, [], 260) := by simp [takeF, HQ.out]
    have gS := grown_setCell w9 ⟨w2.heap.size, 0, none⟩ (.slice none 0 0) w2.heap.size rfl
    have hX1 := HB9.out.grown gS (by omega)
    have hX2 : Bk (w9.setCell ⟨w2.heap.size, 0, none⟩ (.slice none 0 0)) w2.heap.size 48 [.slice none 0 0] := bk_setCell (j := 0) HR9.out _
    have hX3 := below_grown HG9.out gS (by have := HG9.out.size; omega) (by omega)
    rw [← HQ0.out]
    refine leaves_plain rfl (results_rot rfl _ _ w1.heap.size 24 (bufCells 0) _ rfl hX1 Try.underlying24 rfl (by kernel_rfl) w2.heap.size 48 (.slice none 0 0) rfl hX2 Try.underlying48) ?_
    exact HPost.out _ _ ⟨bufCells 0, none, 0, by rw [hp]; rfl, by rw [hp]; exact rep_bufOf _ _ _ zero_in, by rw [hp]; exact rep_noMed _ _, hX3⟩
  | true =>
    cases hq2 : withinF now 1099511627776 nw with
    | false =>
      have HQ := Lib.hid hq
      have HQ2 := Lib.hid hq2
      have e1 := hE2 hq hq2
      subst e1
      clear hq hq2 hE1 hE2 hE3
      have hcr := HR4.out.cell 0 rfl
      have hfr0 := HR4.out.plain.free 0
      go_wp2_with (refine step_store (T := 24) (n := w1.heap.size) (bs := bufCells 0) rfl rfl rfl rfl HP4.out rfl (by kernel_rfl) (Rep.one _ _ _ (rep_bufOf w (fun _ => True) 0 zero_in)) fun w9 b9 g9 => ?_)
      have HB9 := Lib.hid b9
      have HR9 := Lib.hid (HR4.out.grown g9 (by omega))
      have HG9 := Lib.hid (below_grown HB4.out g9 (by have := HB4.out.size; omega) (by omega))
      have hsz9 := g9.size
      clear b9 g9 hcr hfr0
      have hcr := HR9.out.cell 0 rfl
      have hfr0 := HR9.out.plain.free 0
      refine Lib.hid ?_
      go_wp2_with fail
      have hp : takeF (fr, now, bg, fd, sq, hg, lw, bs, jt, ls, hs, ()) nw = (bufOf 0, [], 2) := by simp [takeF, HQ.out, HQ2.out]
      have gS := grown_setCell w9 ⟨w2.heap.size, 0, none⟩ (.slice none 0 0) w2.heap.size rfl
      have hX1 := HB9.out.grown gS (by omega)
      have hX2 : Bk (w9.setCell ⟨w2.heap.size, 0, none⟩ (.slice none 0 0)) w2.heap.size 48 [.slice none 0 0] := bk_setCell (j := 0) HR9.out _
      have hX3 := below_grown HG9.out gS (by have := HG9.out.size; omega) (by omega)
      rw [← HQ0.out]
      refine leaves_plain rfl (results_rot rfl _ _ w1.heap.size 24 (bufCells 0) _ rfl hX1 Try.underlying24 rfl (by kernel_rfl) w2.heap.size 48 (.slice none 0 0) rfl hX2 Try.underlying48) ?_
      exact HPost.out _ _ ⟨bufCells 0, none, 0, by rw [hp]; rfl, by rw [hp]; exact rep_bufOf _ _ _ zero_in, by rw [hp]; exact rep_noMed _ _, hX3⟩
    | true =>
      obtain ⟨g, A, c, lo, news, rfl, hch⟩ := hE3 hq hq2
      have HQ := Lib.hid hq
      have HQ2 := Lib.hid hq2
      have HC := Lib.hid hch
      clear hq hq2 hE1 hE2 hE3 hch
      obtain ⟨⟨hfr, hnow0, hsq⟩, hhg, hlw, hbs, hjt, hls, hlen64, hempty, hheld⟩ := checkB_nums HQ.out
      have hnwb : 0 ≤ nw ∧ nw ≤ 1099511627776 := by have := (within_iff _ _ _).1 HQ2.out; omega
      have hgb : w3.heap.size ≤ g ∧ g < lo ∧ lo ≤ w4.heap.size := ⟨HC.out.base, HC.out.lo1, HC.out.lo2⟩
      obtain ⟨⟨c0, c1, c2, c3, c4, c5n⟩, ⟨c6, c7, c8, c9, c10⟩, hfz⟩ := bk_change HC.out.at_
      have HHE := Lib.hid (And.intro hempty hheld)
      obtain ⟨n, hn⟩ : ∃ n, n = hs.length := ⟨_, rfl⟩
      rw [← hn] at c10 hlen64
      have HN := Lib.hid hn
      clear hempty hheld hfz hn
      rcases Nat.eq_zero_or_pos n with hn0 | hn0
      · subst hn0
        have hs0 : hs = [] := List.eq_nil_of_length_eq_zero HN.out.symm
        have HS0 := Lib.hid hs0
        clear hs0
        have hcr := HR4.out.cell 0 rfl
        have hfr0 := HR4.out.plain.free 0
        go_wp2_with (refine step_store (T := 24) (n := w1.heap.size) (bs := bufCells 0) rfl rfl rfl rfl HP4.out rfl (by kernel_rfl) (Rep.one _ _ _ (rep_bufOf w (fun _ => True) 0 zero_in)) fun w9 b9 g9 => ?_)
        have HB9 := Lib.hid b9
        have HR9 := Lib.hid (HR4.out.grown g9 (by omega))
        have HG9 := Lib.hid (below_grown HB4.out g9 (by have := HB4.out.size; omega) (by omega))
        have hsz9 := g9.size
        clear b9 g9 hcr hfr0
        have hcr := HR9.out.cell 0 rfl
        have hfr0 := HR9.out.plain.free 0
        refine Lib.hid ?_
        go_wp2_with fail
        have hp : takeF (fr, now, bg, fd, sq, hg, lw, bs, jt, ls, hs, ()) nw = (bufOf 0, [], 4) := by have hh := HQ.out; have e := HS0.out; subst e; simp [takeF, hh, HQ2.out]
        have gS := grown_setCell w9 ⟨w2.heap.size, 0, none⟩ (.slice none 0 0) w2.heap.size rfl
        have hX1 := HB9.out.grown gS (by omega)
        have hX2 : Bk (w9.setCell ⟨w2.heap.size, 0, none⟩ (.slice none 0 0)) w2.heap.size 48 [.slice none 0 0] := bk_setCell (j := 0) HR9.out _
        have hX3 := below_grown HG9.out gS (by have := HG9.out.size; omega) (by omega)
        rw [← HQ0.out]
        refine leaves_plain rfl (results_rot rfl _ _ w1.heap.size 24 (bufCells 0) _ rfl hX1 Try.underlying24 rfl (by kernel_rfl) w2.heap.size 48 (.slice none 0 0) rfl hX2 Try.underlying48) ?_
        exact HPost.out _ _ ⟨bufCells 0, none, 0, by rw [hp]; rfl, by rw [hp]; exact rep_bufOf _ _ _ zero_in, by rw [hp]; exact rep_noMed _ _, hX3⟩
      · have hln2 : ((n : Int) == 0) = false := by simp; omega
        obtain ⟨h0, hs2, rfl⟩ : ∃ h0 hs2, hs = h0 :: hs2 := by
          cases hs with
          | nil => exact absurd HN.out (by simp; omega)
          | cons h0 hs2 => exact ⟨_, _, rfl⟩
        have harr := held_arr HHE.out.2
        have hrl4 : Rep w4 (Fr (g + 1)) (.sl JHeld 120) [.slice A (h0 :: hs2).length c] (h0 :: hs2) := rep_copied (w := w4) (S := fun _ => True) (A := none) (c := 0) rfl (by rw [← HN.out, big_eq]; omega) (HC.out.hold.frame fun b h1 h2 => ⟨rfl, (show g + 1 ≤ b by have h1 : lo ≤ b := h1; omega)⟩) HC.out.own (fun b hb => hb)
        have hrb4 := buf_rep (bg := bg) (fd := fd) hrl4 (in_i64 fr (by omega)) (in_i64 nw (by omega)) (in_i64 sq (by omega)) (in_i64 hg (by omega)) (in_i64 lw (by omega)) (in_i64 bs (by omega)) (in_i64 jt (by omega)) (in_i64 ls (by omega))
        have HDue := Lib.hid (due_goes w4 _ _ fr nw bg fd sq hg lw bs jt ls h0 hs2 hrb4 hfr hjt (by omega))
        clear hrl4 hrb4
        generalize hdv : dueF fr jt (heldArr h0 + lw) = dv at HDue
        have HDv := Lib.hid hdv
        have HNN := HN.out
        clear hdv
        rw [← HNN] at HDue
        clear HNN
        go_wp2_with fail
        refine HDue.out.mono ?_
        rintro e w5 ⟨rfl, hb5⟩
        have HP5 := Lib.hid (HP4.out.below (hb5.mono (Nat.le_refl _)))
        have HR5 := Lib.hid (HR4.out.below (hb5.mono (Nat.le_refl _)))
        have HC5 := Lib.hid (HC.out.below (hb5.mono (Nat.le_refl _)))
        have HB5 := Lib.hid (HB4.out.trans (hb5.mono HB4.out.size))
        have hdd5 : w4.heap.size ≤ w5.heap.size := hb5.size
        clear HP4 HR4 HC HB4 hb5 c0 c1 c2 c3 c4 c5n c6 c7 c8 c9 c10
        by_cases hdl : nw < dv
        · have HDl := Lib.hid hdl
          have hcr := HR5.out.cell 0 rfl
          have hfr0 := HR5.out.plain.free 0
          go_wp2_with (refine step_store (T := 24) (n := w1.heap.size) (bs := bufCells 0) rfl rfl rfl rfl HP5.out rfl (by kernel_rfl) (Rep.one _ _ _ (rep_bufOf w (fun _ => True) 0 zero_in)) fun w9 b9 g9 => ?_)
          have HB9 := Lib.hid b9
          have HR9 := Lib.hid (HR5.out.grown g9 (by omega))
          have HG9 := Lib.hid (below_grown HB5.out g9 (by have := HB5.out.size; omega) (by omega))
          have hsz9 := g9.size
          clear b9 g9 hcr hfr0
          have hcr := HR9.out.cell 0 rfl
          have hfr0 := HR9.out.plain.free 0
          refine Lib.hid ?_
          go_wp2_with fail
          have hp : takeF (fr, now, bg, fd, sq, hg, lw, bs, jt, ls, h0 :: hs2, ()) nw = (bufOf 0, [], 4) := by have hh := HQ.out; have e := HDv.out; simp [takeF, hh, HQ2.out, e, HDl.out]
          have gS := grown_setCell w9 ⟨w2.heap.size, 0, none⟩ (.slice none 0 0) w2.heap.size rfl
          have hX1 := HB9.out.grown gS (by omega)
          have hX2 : Bk (w9.setCell ⟨w2.heap.size, 0, none⟩ (.slice none 0 0)) w2.heap.size 48 [.slice none 0 0] := bk_setCell (j := 0) HR9.out _
          have hX3 := below_grown HG9.out gS (by have := HG9.out.size; omega) (by omega)
          rw [← HQ0.out]
          refine leaves_plain rfl (results_rot rfl _ _ w1.heap.size 24 (bufCells 0) _ rfl hX1 Try.underlying24 rfl (by kernel_rfl) w2.heap.size 48 (.slice none 0 0) rfl hX2 Try.underlying48) ?_
          exact HPost.out _ _ ⟨bufCells 0, none, 0, by rw [hp]; rfl, by rw [hp]; exact rep_bufOf _ _ _ zero_in, by rw [hp]; exact rep_noMed _ _, hX3⟩
        · have HDl := Lib.hid hdl
          obtain ⟨⟨c0, c1, c2, c3, c4, c5n⟩, ⟨c6, c7, c8, c9, c10⟩, hfz⟩ := bk_change HC5.out.at_
          have HNN := HN.out
          rw [← HNN] at c10
          clear c0 c1 c2 c3 c4 c5n c6 c7 c8 c9 hfz HNN
          go_wp2_with fail
          refine (run_goes w5 A n c).mono ?_
          rintro e w6 ⟨rfl, M6, hb6⟩
          have HT6 := Lib.hid M6
          have HP6 := Lib.hid (HP5.out.below (hb6.mono (Nat.le_refl _)))
          have HR6 := Lib.hid (HR5.out.below (hb6.mono (Nat.le_refl _)))
          have HC6 := Lib.hid (HC5.out.below (hb6.mono (Nat.le_refl _)))
          have HB6 := Lib.hid (HB5.out.trans (hb6.mono HB5.out.size))
          have hdd6 : w5.heap.size < w6.heap.size := M6.lt
          clear HP5 HR5 HC5 HB5 hb6 M6 c10
          go_wp2_with fail
          have hch6 := HC6.out
          obtain ⟨hnc, hcm, hplc, hlenc⟩ := owned_at hch6.own
          have hrst := run_stops w6 w5.heap.size (fun x => x = w2.heap.size ∨ w6.heap.size ≤ x) (Fr lo) A c news (h0 :: hs2) ⟨hdd6, by omega⟩ (by have := HT6.out.cell 0 rfl; rw [HN.out] at this; exact this) (fun h => by obtain ⟨b, h1, h2, h3, h4⟩ := hplc h; have := hch6.low b (by rw [h1]; rfl); exact ⟨b, h1, ⟨h3, by omega⟩, h4⟩) hch6.hold (by rw [← HN.out]; exact hlen64)
          have HRst := Lib.hid hrst
          clear hch6 hnc hcm hplc hlenc hrst
          refine wp_name fun a0 ha0 => ?_
          refine (wpIn_wide (n := 2)).1 ?_
          refine wpIn_rangeFunc_ownH (α := MRow) rfl (by omega) (gf := 69) (lb := #[.pointer (some ⟨w5.heap.size, 0, none⟩)]) (by rw [ha0]; rfl) trivial (fun args w => run_callFunc_goes Try.func69 (by kernel_rfl) rfl args w) HRst.out (fun h k => h.trans k)
            (fun W l o o' hl h _ _ => ⟨rfl, rfl, rfl, by simp, fun x hx hm => (grownBy_putObj' W l o').block x hx (by intro e; injection e with e; exact hm (.inr (by omega)))⟩) (Below.refl _ _) (fun _ => rfl)
            (TakeI w6.heap.size w2.heap.size w6) (fun _ _ _ => False) (takeI_own rfl (by omega)) (fun _ _ _ _ _ hs _ _ => hs) ⟨⟨_, HR6.out, World.ownsRow_nil _ _ _ _⟩, Keeps.refl _ _⟩ (TakeA w6.heap.size a0) (takeA_own) ?assign ?body ?done ?stop
          case stop =>
            rintro D c pre W _ _ h _
            exact h.elim
          case assign =>
            rintro l pre ⟨xv, xk, xs, xt, xr, xA, xn, xc, xA2, xn2, xc2, xp, xpay⟩ W K hi hK
            rw [ha0]
            have HK := Lib.hid hK
            have HI := Lib.hid hi
            have HA0 := Lib.hid ha0
            clear hK hi ha0
            simp only [MRow.encs, Array.zip_eq_zipWith, List.zipWith_toArray, List.zipWith_cons_cons, List.zipWith_nil_left, List.foldl_toArray, List.foldl_cons, List.foldl_nil, List.setIfInBounds_toArray, List.set_cons_zero, List.set_cons_succ]
            gi_wp2
            obtain ⟨⟨v5, h5, ho⟩, hk⟩ := HI.out
            have hkz := hk.size
            refine HK.out _ _ ((KeepsOthers.alloc _ _).from _) ((keeps_below ((Below.refl _ W).alloc (Nat.le_refl _) _)).mono fun x h1 h2 => absurd h1 (by omega)) ⟨⟨v5, h5.alloc _, ho.alloc _⟩, hk.trans ((keeps_below ((Below.refl _ W).alloc (Nat.le_refl _) _)).mono fun x h1 h2 => absurd h1 (by omega))⟩ ⟨W.heap.size, hkz, Bk.new W _ [.bool xv, .int .i64 xk, .int .i64 xs, .int .i64 xt, .int .i64 xr, .slice xA xn xc, .slice xA2 xn2 xc2, .int .i64 xp, .string xpay], ?_⟩
            rw [HA0.out]
            rfl
          case body =>
            rintro l pre ⟨xv, xk, xs, xt, xr, xA, xn, xc, xA2, xn2, xc2, xp, xpay⟩ a2 W hl - ⟨⟨v5, h5, ho⟩, hk⟩ ⟨Bx, hBx, hbk, rfl⟩ hlt
            rw [ha0]
            simp only [MRow.row] at hbk
            simp only [MRow.row, List.setIfInBounds_toArray, List.set_cons_zero, List.set_cons_succ]
            have hkz := hk.size
            have hc5 := h5.cell 0 rfl
            obtain ⟨⟨q0, q1, q2, q3, q4⟩, q5, q6, q7, q8⟩ := med_cells hbk
            obtain ⟨i0, z0, hI1, hI2, hI3, hI4, hI5⟩ := media_info
            have HI1 := Lib.hid hI1
            have HI2 := Lib.hid hI2
            have HI3 := Lib.hid hI3
            have HI4 := Lib.hid hI4
            have HI5 := Lib.hid hI5
            have H5 := Lib.hid h5
            have HO := Lib.hid ho
            have HKp := Lib.hid hk
            have hxl := hbk.lt
            clear hI1 hI2 hI3 hI4 hI5 h5 ho hk ha0 hbk
            gi_wp2_with (gi_at_builtin; refine wpListIn_append_own _ rfl _ _ 48 rfl w6.heap.size 28 i0 z0 9 112 Try.underlying48 HI1.out HI2.out HI3.out HI4.out HI5.out (by decide) v5 _ _ rfl (HO.out.alloc _) ⟨W.heap.size, 0, none⟩ 1 1 [.bool xv, .int .i64 xk, .int .i64 xs, .int .i64 xt, .int .i64 xr, .slice xA xn xc, .slice xA2 xn2 xc2, .int .i64 xp, .string xpay] rfl rfl (bk_src (Bk.new W _ [.bool xv, .int .i64 xk, .int .i64 xs, .int .i64 xt, .int .i64 xr, .slice xA xn xc, .slice xA2 xn2 xc2, .int .i64 xp, .string xpay])) (by simp [Value.oneCell']) (by simp only [maxLen]; omega) (by omega) (by simp; omega) ?_; intro v6 wq hown hgrow _; obtain ⟨A6, c6, rfl⟩ := row_sliceM hown; have hB6 := (H5.out.alloc _).grownr hgrow (by intro e; have := (HO.out.lt _ e.symm).1; omega); have hc6 := hB6.cell 0 rfl; have hf6 := hB6.plain.free 0; have HB6 := Lib.hid hB6; have HOw := Lib.hid hown; have HGr := Lib.hid hgrow; clear hB6 hown hgrow)
            have gS := grown_setCell wq ⟨w2.heap.size, 0, none⟩ (.slice A6 (pre.length + 1) c6) w2.heap.size rfl
            have hsz1 := HGr.out.size
            have hsz0 : (W.alloc (.cells #[.bool xv, .int .i64 xk, .int .i64 xs, .int .i64 xt, .int .i64 xr, .slice xA xn xc, .slice xA2 xn2 xc2, .int .i64 xp, .string xpay] 28)).heap.size = W.heap.size + 1 := alloc_size _ _
            have hsz2 := gS.size
            refine ⟨?_, ?_, ⟨_, (show Bk _ _ _ [_] from bk_setCell (j := 0) HB6.out _), ?_⟩, HKp.out.trans ?_⟩
            · refine (((KeepsOthers.alloc _ _).trans (KeepsOthers.of_grownBy HGr.out ?_)).trans (KeepsOthers.setCell _ _ _)).from _
              intro j o hj ho
              rcases HO.out.2 with ⟨rfl, _⟩ | ⟨g3, cap, cur, rfl, _, hg3, _⟩
              · simp [Value.ownBlock] at hj
              · simp [Value.ownBlock] at hj
                subst hj
                rw [(Below.heap_alloc _ _ _ (Array.getElem?_eq_some_iff.1 hg3).1), hg3] at ho
                cases ho
                rfl
            · exact ⟨gS.os.trans HGr.out.os, gS.tape.trans HGr.out.tape, gS.output.trans HGr.out.output, by omega, fun x hx hm => (gS.block x (by omega) (by intro e; injection e with e; exact hm (.inl e))).trans ((HGr.out.block x (by omega) (by intro e; have := (HO.out.lt _ e.symm).1; exact hm (.inr this))).trans (Below.heap_alloc _ _ _ hx))⟩
            · have := (HOw.out.kept gS (.inr (by intro e; have := (HOw.out.lt _ e).1; omega)))
              simpa [List.length_append, List.flatMap_append, MRow.row] using this
            · exact ⟨gS.os.trans HGr.out.os, gS.tape.trans HGr.out.tape, gS.output.trans HGr.out.output, by omega, fun x hx hm => (gS.block x (by omega) (by intro e; injection e with e; exact hm (.inl e))).trans ((HGr.out.block x (by omega) (by intro e; have := (HO.out.lt _ e.symm).1; exact hm (.inr this))).trans (Below.heap_alloc _ _ _ hx))⟩
          case done =>
            rintro D ys W hD ⟨hylen, hrows⟩ ⟨⟨v5, h5, ho⟩, hk⟩ hDf
            obtain ⟨A5, c5, rfl⟩ := row_sliceM ho
            have hrle := runF_le (h0 :: hs2)
            have hrpos : 0 < runF (h0 :: hs2) := runF_pos
            obtain ⟨r, hr⟩ : ∃ r, r = ys.length := ⟨_, rfl⟩
            rw [← hr] at h5 ho
            have hr2 : r = runF (h0 :: hs2) := by rw [hr, hylen]
            have hrn : 1 ≤ r ∧ r ≤ n := by rw [hr2, HN.out]; exact ⟨hrpos, hrle⟩
            obtain ⟨h5a, h5b, h5c, h5l⟩ := owned_at ho
            obtain ⟨fb, rfl, hfb1, hfb2, hfat⟩ := h5c (by omega)
            have hkz := hk.size
            have HC7 := Lib.hid (HC6.out.keeps hk (fun x h1 h2 => by omega))
            have HH7 := Lib.hid (HC6.out.hold.frame (S' := fun b => lo ≤ b ∧ b < w6.heap.size) fun b h1 h2 => ⟨hk.block b h2 (by have h1 : lo ≤ b := h1; omega), ⟨h1, h2⟩⟩)
            have HP7 := Lib.hid (hk.bk HP6.out (by omega))
            have HR7 := Lib.hid h5
            have HB7 := Lib.hid (HB6.out.trans (hk.below (by omega) (fun x hx => by omega)))
            have HD7 := Lib.hid hDf
            have hdl : D < W.heap.size := (Array.getElem?_eq_some_iff.1 hDf).1
            have hlast := rows_at hrows HC7.out.hold (r - 1) (by omega) (by have := HN.out; omega)
            have hfirst := rows_at hrows HC7.out.hold 0 (by omega) (by simp)
            have hseg1 := hfat.seg ((r - 1) * 9) 9
            rw [flat_seg ys (r - 1) (by omega), Nat.zero_add] at hseg1
            have hseg0 := hfat.seg (0 * 9) 9
            rw [flat_seg ys 0 (by omega), Nat.zero_mul, Nat.zero_add] at hseg0
            have hcms := heldF_all HHE.out.2
            have hL1 := hcms (r - 1) (by have := HN.out; omega)
            obtain ⟨lh, hlh, hls1, hlv1, hlb⟩ : ∃ lh, (h0 :: hs2)[r - 1]? = some lh ∧ ys[r - 1].s = seqOf lh.1 ∧ ys[r - 1].v = lh.1.1 ∧ (0 ≤ seqOf lh.1 ∧ seqOf lh.1 < 65536) := ⟨_, List.getElem?_eq_getElem (by have := HN.out; omega), hlast.1, hlast.2.1, hL1⟩
            have hf1 : ys[0].s = seqOf h0.1 := hfirst.1
            clear hlast hfirst hL1
            generalize hyl : ys[r - 1] = yl at hls1 hlv1 hseg1
            generalize hyf : ys[0] = yf at hf1 hseg0
            obtain ⟨xv, xk, xs, xt, xr, xA, xn, xc, xA2, xn2, xc2, xp, xpay⟩ := yl
            simp only at hls1 hlv1
            have hxs : 0 ≤ xs ∧ xs < 65536 := by rw [hls1]; exact hlb
            have HLh := Lib.hid hlh
            generalize hs0 : yf.s = s0 at hf1
            have hc0f : W.cell? ⟨fb, 2, none⟩ = some (.int .i64 s0) := by rw [← hs0]; exact (hseg0 2 _ rfl).1
            have HF := Lib.hid hfat
            have HRows := Lib.hid hrows
            have HS1 := Lib.hid hseg1
            have HE := Lib.hid (And.intro hls1 (And.intro hlv1 hf1))
            have HYl := Lib.hid hylen
            have HR2 := Lib.hid (And.intro hr hr2)
            have HO5 := Lib.hid ho
            have HFr := Lib.hid (show RepL W (fun b => lo ≤ b ∧ b < w6.heap.size) JMed (ys.flatMap MRow.row) (((h0 :: hs2).take r).map (fun x => x.1)) from frame_rep hrows HH7.out (by rw [← hr, List.length_map, List.length_take, ← HN.out]; omega))
            clear hs0 hfat hrows hseg1 hseg0 hls1 hlv1 hf1 hlb hlh h5 ho hk hDf hcms hyl hyf HRst hr hr2 hylen h5c h5l hrle hrpos HC6 HP6 HR6 HB6 HT6 HDue
            have c5c := HR7.out.cell 0 rfl
            obtain ⟨⟨c0, c1, c2, c3, c4, c5n⟩, ⟨c6, c7, c8, c9, c10⟩, hfz⟩ := bk_change HC7.out.at_
            have f3 := hfz 3
            have f4 := hfz 4
            have f9 := hfz 9
            have f10 := hfz 10
            clear hfz
            have hrI : (1 : Int) ≤ (r : Int) := by omega
            have hrw : wrap64 ((r : Int) - 1) = (r : Int) - 1 := wrap64_id _ (by omega)
            have hrw2 : IntKind.i64.wrap ((r : Int) - 1) = (r : Int) - 1 := wrap_id _ (by omega)
            have hand : bits .and .i64 (xs + 1) 65535 = (xs + 1) % 65536 := and16 _
            generalize hbe : (xs + 1) % 65536 = be at hand
            have hbeb : 0 ≤ be ∧ be < 65536 := by omega
            have HBe := Lib.hid hbe
            clear hbe
            rw [ha0]
            clear ha0
            go_wp2_with (first
              | refine wpList_load_mid rfl 28 _ rfl fb ((r - 1) * 9) rfl [.bool xv, .int .i64 xk, .int .i64 xs, .int .i64 xt, .int .i64 xr, .slice xA xn xc, .slice xA2 xn2 xc2, .int .i64 xp, .string xpay] _ (fun j v hv => (HS1.out j v hv).1) Try.underlying28 rfl (by kernel_rfl) ?_
              | refine step_newv (T := 28) (V := .agg #[.bool xv, .int .i64 xk, .int .i64 xs, .int .i64 xt, .int .i64 xr, .slice xA xn xc, .slice xA2 xn2 xc2, .int .i64 xp, .string xpay]) (bs := [.bool xv, .int .i64 xk, .int .i64 xs, .int .i64 xt, .int .i64 xr, .slice xA xn xc, .slice xA2 xn2 xc2, .int .i64 xp, .string xpay]) rfl rfl rfl rfl rfl (by first | (simp; done) | (show 9 < 146; decide)) rfl rfl (by kernel_rfl) (by kernel_rfl) (by simp [Value.oneCell']) fun wL ML BL ZL => ?_)
            have HR8 := Lib.hid (HR7.out.below BL)
            have HP8 := Lib.hid (HP7.out.below (BL.mono (Nat.le_refl _)))
            have HC8 := Lib.hid (HC7.out.below BL)
            have HB8 := Lib.hid (HB7.out.trans (BL.mono HB7.out.size))
            have HD8 := Lib.hid ((BL.block D hdl).trans HD7.out)
            have HF8 := Lib.hid (HF.out.frame (BL.block fb hfb2))
            have HL8 := Lib.hid ML
            have c0f8 := (bcell' BL hfb2).trans hc0f
            have hddL : W.heap.size < wL.heap.size := ML.lt
            clear c5c c0 c1 c2 c3 c4 c5n c6 c7 c8 c9 c10 f3 f4 f9 f10 hc0f HR7 HP7 HC7 HB7 HD7 HF ML ZL HS1
            have l0 := HL8.out.cell 0 rfl
            have l2 := HL8.out.cell 2 rfl
            have c5c := HR8.out.cell 0 rfl
            obtain ⟨⟨c0, c1, c2, c3, c4, c5n⟩, ⟨c6, c7, c8, c9, c10⟩, hfz⟩ := bk_change HC8.out.at_
            have f3 := hfz 3
            have f4 := hfz 4
            have f9 := hfz 9
            have f10 := hfz 10
            have hgl := HC8.out.at_.lt
            have f5c := HR8.out.plain.free 0
            have hw2l := HR8.out.lt
            clear hfz
            refine Lib.hid ?_
            go_wp2_with fail
            refine wp_name fun a1 ha1 => ?_
            have HA1 := Lib.hid ha1
            refine wp_mid (fun a2 W2 => ∃ lost : Bool, lost = (!fd || decide (s0 ≠ sq) || !xv) ∧ W2 = wL.drew ∧ ∃ u59 u60 u61 u62 u63 u64 u65 u66 u67 u68 u69 u70 u71 u72 u73 u74 u75 u76 u77 u78 u79 u80 : Value, a2 = ⟨((((((((((((((((((((((a1.tmps.setIfInBounds 59 u59).setIfInBounds 60 u60).setIfInBounds 61 u61).setIfInBounds 62 u62).setIfInBounds 63 u63).setIfInBounds 64 u64).setIfInBounds 65 u65).setIfInBounds 66 u66).setIfInBounds 67 u67).setIfInBounds 68 u68).setIfInBounds 69 u69).setIfInBounds 70 u70).setIfInBounds 71 u71).setIfInBounds 72 u72).setIfInBounds 73 u73).setIfInBounds 74 u74).setIfInBounds 75 u75).setIfInBounds 76 u76).setIfInBounds 77 u77).setIfInBounds 78 u78).setIfInBounds 79 u79).setIfInBounds 80 u80).setIfInBounds 81 (.bool lost), a1.defers⟩) ?_ ?_
            · intro Mi hM
              rw [ha1] at hM
              simp only [List.setIfInBounds_toArray, List.set_cons_zero, List.set_cons_succ] at hM
              have HMi := Lib.hid hM
              clear hM
              rw [ha1]
              clear ha1
              cases fd with
              | false =>
                go_region
                exact ⟨rfl, HMi.out _ _ ⟨true, by simp, rfl, _, _, _, _, _, _, _, _, _, _, _, _, _, _, _, _, _, _, _, _, _, _, rfl⟩⟩
              | true =>
                by_cases hne : s0 = sq
                · have hsn : (s0 != sq) = false := by simp [hne]
                  have HNe := Lib.hid hne
                  clear hne
                  cases xv with
                  | false =>
                    go_region
                    exact ⟨rfl, HMi.out _ _ ⟨true, by simp, rfl, _, _, _, _, _, _, _, _, _, _, _, _, _, _, _, _, _, _, _, _, _, _, rfl⟩⟩
                  | true =>
                    go_region
                    exact ⟨rfl, HMi.out _ _ ⟨false, by simp [HNe.out], rfl, _, _, _, _, _, _, _, _, _, _, _, _, _, _, _, _, _, _, _, _, _, _, rfl⟩⟩
                · have hsn : (s0 != sq) = true := by simp [hne]
                  have HNe := Lib.hid hne
                  clear hne
                  go_region
                  exact ⟨rfl, HMi.out _ _ ⟨true, by simp; exact .inl HNe.out, rfl, _, _, _, _, _, _, _, _, _, _, _, _, _, _, _, _, _, _, _, _, _, _, rfl⟩⟩
            rintro _ _ ⟨lost, hlost, rfl, u59, u60, u61, u62, u63, u64, u65, u66, u67, u68, u69, u70, u71, u72, u73, u74, u75, u76, u77, u78, u79, u80, rfl⟩
            rw [ha1]
            clear ha1 HA1
            simp only [List.setIfInBounds_toArray, List.set_cons_zero, List.set_cons_succ]
            have HLo := Lib.hid hlost
            clear hlost
            have hM8 := HC8.out.at_
            have hO8 := HC8.out.own
            have hL8 := HC8.out.low
            rw [← HN.out] at hM8 hO8 hL8
            have HM8 := Lib.hid hM8
            have HO8 := Lib.hid hO8
            have HH8 := Lib.hid (HH7.out.frame (S' := fun b => lo ≤ b ∧ b < w6.heap.size) fun b h1 h2 => ⟨BL.block b h2, h1⟩)
            clear HH7
            have HLow := Lib.hid hL8
            clear hM8 hO8 hL8
            have HV8 := Lib.hid (HO5.out.kept (row := none) ⟨BL.os, BL.tape, BL.output, BL.size, fun i hi _ => BL.block i hi⟩ (.inr (by simp [Value.ownBlock])))
            have HY8 := Lib.hid (HFr.out.frame (S' := fun b => lo ≤ b ∧ b < w6.heap.size) fun b h1 h2 => ⟨BL.block b h2, h1⟩)
            clear HC8 HO5 HFr BL
            obtain ⟨lb, hlbA, hlb1, hlb2, hlbat⟩ : ∃ lb, A = some ⟨lb, 0, none⟩ ∧ g + 1 ≤ lb ∧ lb < lo ∧ True := by
              obtain ⟨-, -, h1, -⟩ := owned_at HO8.out
              obtain ⟨b, h2, h3, -, -⟩ := h1 (by omega)
              exact ⟨b, h2, h3, HLow.out b (by rw [h2]; rfl), trivial⟩
            subst hlbA
            obtain ⟨A4, hA4⟩ : ∃ A4 : Option Addr, A4 = (if c = r then some ⟨lb, 0, none⟩ else some ⟨lb, r * 10, none⟩) := ⟨_, rfl⟩
            have HA4 := Lib.hid hA4
            clear hA4 hlbat
            have hnn : (r : Int) = (r : Int) := rfl
            clear hnn
            generalize hdl1 : (be - sq) % 65536 = dl
            have hdlb : 0 ≤ dl ∧ dl < 65536 := by omega
            have hand2 : bits .and .i64 (be - sq) 65535 = dl := by rw [and16, hdl1]
            have hwl : wrap64 (ls + dl) = ls + dl := wrap64_id _ (by omega)
            have hwl2 : IntKind.i64.wrap (ls + dl) = ls + dl := wrap_id _ (by omega)
            have hwb : wrap64 (be - sq) = be - sq := wrap64_id _ (by omega)
            have hwb2 : IntKind.i64.wrap (be - sq) = be - sq := wrap_id _ (by omega)
            have HDl1 := Lib.hid hdl1
            clear hdl1
            have hr0I : (0 : Int) < (r : Int) := by omega
            have HTk := Lib.hid (show takeF (fr, now, bg, fd, sq, hg, lw, bs, jt, ls, h0 :: hs2, ()) nw = (if lost = true then (if 1099511627776 < ls + dl then (bufOf 0, [], 6) else ((fr, nw, bg, xv, be, hg, lw, bs, jt, ls + dl, (h0 :: hs2).drop r, ()), [], 0)) else ((fr, nw, bg, fd, be, hg, lw, bs, jt, ls, (h0 :: hs2).drop r, ()), ((h0 :: hs2).take r).map (·.1), 0)) by
              obtain ⟨e1, e2, e3⟩ := HE.out
              obtain ⟨hr, hr2⟩ := HR2.out
              have hlh := HLh.out
              try simp only at e1 e2
              rw [HLo.out]
              simp only [takeF, HQ.out, HQ2.out, HDv.out, Bool.not_true, Bool.false_eq_true, if_false, if_neg (show ¬ nw < dv by have := HDl.out; omega), ← hr2, hlh, ← e1, ← e2, ← e3, HBe.out, HDl1.out])
            have hdr9 : Below wL.heap.size wL wL.drew := (Below.refl _ wL).drew
            have HP9 := Lib.hid (HP8.out.below hdr9)
            have HR9 := Lib.hid (HR8.out.below hdr9)
            have HM9 := Lib.hid (HM8.out.below hdr9)
            have HO9 := Lib.hid (HO8.out.kept (row := none) ⟨hdr9.os, hdr9.tape, hdr9.output, hdr9.size, fun i hi _ => hdr9.block i hi⟩ (.inr (by simp [Value.ownBlock])))
            have HV9 := Lib.hid (HV8.out.kept (row := none) ⟨hdr9.os, hdr9.tape, hdr9.output, hdr9.size, fun i hi _ => hdr9.block i hi⟩ (.inr (by simp [Value.ownBlock])))
            have HH9 := Lib.hid (HH8.out.frame (S' := fun b => lo ≤ b ∧ b < w6.heap.size) fun b h1 h2 => ⟨hdr9.block b h2, h1⟩)
            have HY9 := Lib.hid (HY8.out.frame (S' := fun b => lo ≤ b ∧ b < w6.heap.size) fun b h1 h2 => ⟨hdr9.block b h2, h1⟩)
            have HB9 := Lib.hid (HB8.out.trans (hdr9.mono HB8.out.size))
            have HD9 := Lib.hid ((hdr9.block D (by omega)).trans HD8.out)
            have HLb := Lib.hid (HL8.out.below hdr9)
            have hdd9 : wL.heap.size ≤ wL.drew.heap.size := hdr9.size
            clear HP8 HR8 HM8 HO8 HH8 HB8 HD8 HV8 HY8 HL8 HF8 hdr9 l0 l2 c0f8
            clear c5c f5c c0 c1 c2 c3 c4 c5n c6 c7 c8 c9 c10 f3 f4 f9 f10 hgl hw2l
            generalize wL.drew = W9 at HP9 HR9 HM9 HO9 HH9 HB9 HD9 HV9 HY9 HLb hdd9 ⊢
            have c5c := HR9.out.cell 0 rfl
            have f5c := HR9.out.plain.free 0
            obtain ⟨⟨c0, c1, c2, c3, c4, c5n⟩, ⟨c6, c7, c8, c9, c10⟩, hfz⟩ := bk_change HM9.out
            have f3 := hfz 3
            have f4 := hfz 4
            have f9 := hfz 9
            have f10 := hfz 10
            have hgl := HM9.out.lt
            have hw2l := HR9.out.lt
            clear hfz
            cases lost with
            | true =>
              go_wp2_with fail
              refine wp_region_ord 14 [(0, true), (1, true), (2, true), (3, true), (4, true), (5, true), (6, true), (7, true), (8, true), (9, true), (10, true), (11, true), (12, true), (13, true)] (fun u => u.cell? ⟨g, 9, none⟩ = some (.int .i64 ls) ∧ u.cell? ⟨g, 4, none⟩ = some (.int .i64 sq)) (by kernel_rfl) (by kernel_rfl) ⟨c9, c4⟩ ?_
              refine ord_read (by rfl) (by rfl) (fun u hu => by (obtain ⟨hu1, hu2⟩ := hu; go_simp; try rfl)) ?_
              refine ord_read (by rfl) (by rfl) (fun u hu => by (obtain ⟨hu1, hu2⟩ := hu; go_simp; try rfl)) ?_
              refine ord_read (by rfl) (by rfl) (fun u hu => by (obtain ⟨hu1, hu2⟩ := hu; go_simp; try rfl)) ?_
              refine ord_read (by rfl) (by rfl) (fun u hu => by (obtain ⟨hu1, hu2⟩ := hu; go_simp; try rfl)) ?_
              simp only [Act.put, List.setIfInBounds_toArray, List.set_cons_zero, List.set_cons_succ, List.getElem_toArray, List.getElem_cons_succ, List.getElem_cons_zero]
              refine ord_read (by rfl) (by rfl) (fun u hu => by (obtain ⟨hu1, hu2⟩ := hu; go_simp; try rfl)) ?_
              refine ord_read (by rfl) (by rfl) (fun u hu => by (obtain ⟨hu1, hu2⟩ := hu; go_simp; try rfl)) ?_
              refine ord_read (by rfl) (by rfl) (fun u hu => by (obtain ⟨hu1, hu2⟩ := hu; go_simp; try rfl)) ?_
              refine ord_read (by rfl) (by rfl) (fun u hu => by (obtain ⟨hu1, hu2⟩ := hu; go_simp; try rfl)) ?_
              simp only [Act.put, List.setIfInBounds_toArray, List.set_cons_zero, List.set_cons_succ, List.getElem_toArray, List.getElem_cons_succ, List.getElem_cons_zero]
              refine ord_read (by rfl) (by rfl) (fun u hu => by (obtain ⟨hu1, hu2⟩ := hu; go_simp; try rfl)) ?_
              refine ord_read (by rfl) (by rfl) (fun u hu => by (obtain ⟨hu1, hu2⟩ := hu; go_simp; try rfl)) ?_
              refine ord_read (by rfl) (by rfl) (fun u hu => by (obtain ⟨hu1, hu2⟩ := hu; go_simp; try rfl)) ?_
              refine ord_read (v := .int .i64 (be - sq)) (by rfl) (by rfl) (fun u hu => by (clear hu; go_simp; first | done | rfl | simp [hwb2, hwb])) ?_
              simp only [Act.put, List.setIfInBounds_toArray, List.set_cons_zero, List.set_cons_succ, List.getElem_toArray, List.getElem_cons_succ, List.getElem_cons_zero]
              refine ord_read (v := .int .i64 dl) (by rfl) (by rfl) (fun u hu => by (clear hu; go_simp; first | done | rfl | simp [hand2])) ?_
              refine ord_read (v := .int .i64 (ls + dl)) (by rfl) (by rfl) (fun u hu => by (clear hu; go_simp; first | done | rfl | simp [hwl2, hwl])) ?_
              refine ord_nil ?_
              simp only [List.drop_succ_cons, List.drop_zero, Act.put, List.setIfInBounds_toArray, List.set_cons_zero, List.set_cons_succ, List.getElem_toArray, List.getElem_cons_succ, List.getElem_cons_zero]
              go_wp2_with (refine step_setcell (T := 3) (n := g) (j := 9) (v := .int .i64 (ls + dl)) rfl rfl rfl rfl (bk_drew HM9.out) (by simp) rfl (by kernel_rfl) rfl fun W10 M10 G10 => ?_)
              replace G10 := grown_from_drew G10
              have HP10 := Lib.hid (HP9.out.grown G10 (by omega))
              have HM10 := Lib.hid (show Bk W10 g 80 [.int .i64 fr, .int .i64 nw, .bool bg, .bool fd, .int .i64 sq, .int .i64 hg, .int .i64 lw, .int .i64 bs, .int .i64 jt, .int .i64 (ls + dl), .slice (some ⟨lb, 0, none⟩) n c] from M10)
              have HR10 := Lib.hid (HR9.out.grown G10 (by omega))
              have HO10 := Lib.hid (HO9.out.kept G10 (.inr (by simp [Value.ownBlock]; omega)))
              have HV10 := Lib.hid (HV9.out.kept G10 (.inr (by simp [Value.ownBlock]; omega)))
              have HH10 := Lib.hid (HH9.out.frame (S' := fun b => lo ≤ b ∧ b < w6.heap.size) fun b h1 h2 => ⟨G10.block b h2 (by intro e; injection e with e; have := h1.1; omega), h1⟩)
              have HY10 := Lib.hid (HY9.out.frame (S' := fun b => lo ≤ b ∧ b < w6.heap.size) fun b h1 h2 => ⟨G10.block b h2 (by intro e; injection e with e; have := h1.1; omega), h1⟩)
              have HB10 := Lib.hid (below_grown HB9.out G10 (by have := HB9.out.size; omega) (by omega))
              have HD10 := Lib.hid ((G10.block D (by omega) (by intro e; injection e with e; omega)).trans HD9.out)
              have hdd10 : W9.heap.size ≤ W10.heap.size := G10.size
              clear HP9 HR9 HM9 HO9 HH9 HB9 HD9 HV9 HY9
              have l0b := (HLb.out.grown G10 (by omega)).cell 0 rfl
              clear M10 G10 HLb
              clear c5c f5c c0 c1 c2 c3 c4 c5n c6 c7 c8 c9 c10 f3 f4 f9 f10 hgl hw2l
              have c5c := HR10.out.cell 0 rfl
              have f5c := HR10.out.plain.free 0
              obtain ⟨⟨c0, c1, c2, c3, c4, c5n⟩, ⟨c6, c7, c8, c9, c10⟩, hfz⟩ := bk_change HM10.out
              have f3 := hfz 3
              have f4 := hfz 4
              have f9 := hfz 9
              have f10 := hfz 10
              have hgl := HM10.out.lt
              have hw2l := HR10.out.lt
              clear hfz
              refine Lib.hid ?_
              go_wp2_with fail
              refine NoPanic.normal ?_
              go_wp2_with (refine step_setcell (T := 4) (n := g) (j := 3) (v := .bool xv) rfl rfl rfl rfl HM10.out (by simp) rfl (by kernel_rfl) rfl fun W11 M11 G11 => ?_)
              have HP11 := Lib.hid (HP10.out.grown G11 (by omega))
              have HM11 := Lib.hid (show Bk W11 g 80 [.int .i64 fr, .int .i64 nw, .bool bg, .bool xv, .int .i64 sq, .int .i64 hg, .int .i64 lw, .int .i64 bs, .int .i64 jt, .int .i64 (ls + dl), .slice (some ⟨lb, 0, none⟩) n c] from M11)
              have HR11 := Lib.hid (HR10.out.grown G11 (by omega))
              have HO11 := Lib.hid (HO10.out.kept G11 (.inr (by simp [Value.ownBlock]; omega)))
              have HV11 := Lib.hid (HV10.out.kept G11 (.inr (by simp [Value.ownBlock]; omega)))
              have HH11 := Lib.hid (HH10.out.frame (S' := fun b => lo ≤ b ∧ b < w6.heap.size) fun b h1 h2 => ⟨G11.block b h2 (by intro e; injection e with e; have := h1.1; omega), h1⟩)
              have HY11 := Lib.hid (HY10.out.frame (S' := fun b => lo ≤ b ∧ b < w6.heap.size) fun b h1 h2 => ⟨G11.block b h2 (by intro e; injection e with e; have := h1.1; omega), h1⟩)
              have HB11 := Lib.hid (below_grown HB10.out G11 (by have := HB10.out.size; omega) (by omega))
              have HD11 := Lib.hid ((G11.block D (by omega) (by intro e; injection e with e; omega)).trans HD10.out)
              have hdd11 : W10.heap.size ≤ W11.heap.size := G11.size
              clear HP10 HR10 HM10 HO10 HH10 HB10 HD10 HV10 HY10
              clear M11 G11 l0b
              clear c5c f5c c0 c1 c2 c3 c4 c5n c6 c7 c8 c9 c10 f3 f4 f9 f10 hgl hw2l
              have c5c := HR11.out.cell 0 rfl
              have f5c := HR11.out.plain.free 0
              obtain ⟨⟨c0, c1, c2, c3, c4, c5n⟩, ⟨c6, c7, c8, c9, c10⟩, hfz⟩ := bk_change HM11.out
              have f3 := hfz 3
              have f4 := hfz 4
              have f9 := hfz 9
              have f10 := hfz 10
              have hgl := HM11.out.lt
              have hw2l := HR11.out.lt
              clear hfz
              refine Lib.hid ?_
              by_cases hbig : 1099511627776 < ls + dl
              · have HBig := Lib.hid hbig
                have hcr := HR11.out.cell 0 rfl
                have hfr0 := HR11.out.plain.free 0
                go_wp2_with (refine step_store (T := 24) (n := w1.heap.size) (bs := bufCells 0) rfl rfl rfl rfl HP11.out rfl (by kernel_rfl) (Rep.one _ _ _ (rep_bufOf w (fun _ => True) 0 zero_in)) fun w9 b9 g9 => ?_)
                have HB9 := Lib.hid b9
                have HR9 := Lib.hid (HR11.out.grown g9 (by omega))
                have HG9 := Lib.hid (below_grown HB11.out g9 (by have := HB11.out.size; omega) (by omega))
                have HD9 := Lib.hid ((g9.block _ (Array.getElem?_eq_some_iff.1 HD11.out).1 (by intro e; injection e with e; omega)).trans HD11.out)
                have hsz9 := g9.size
                clear b9 g9 hcr hfr0
                have hcr := HR9.out.cell 0 rfl
                have hfr0 := HR9.out.plain.free 0
                refine Lib.hid ?_
                go_wp2_with fail
                have hp : takeF (fr, now, bg, fd, sq, hg, lw, bs, jt, ls, h0 :: hs2, ()) nw = (bufOf 0, [], 6) := by have hp := HTk.out; (try rw [if_pos rfl] at hp); rw [if_pos HBig.out] at hp; exact hp
                have gS := grown_setCell w9 ⟨w2.heap.size, 0, none⟩ (.slice none 0 0) w2.heap.size rfl
                have hX1 := HB9.out.grown gS (by omega)
                have hX2 : Bk (w9.setCell ⟨w2.heap.size, 0, none⟩ (.slice none 0 0)) w2.heap.size 48 [.slice none 0 0] := bk_setCell (j := 0) HR9.out _
                have hX3 := below_grown HG9.out gS (by have := HG9.out.size; omega) (by omega)
                rw [← HQ0.out]
                have hXD := (gS.block _ (Array.getElem?_eq_some_iff.1 HD9.out).1 (by intro e; injection e with e; omega)).trans HD9.out
                have gD := grownBy_putObj' (w9.setCell ⟨w2.heap.size, 0, none⟩ (.slice none 0 0)) D (.deferred none)
                refine leaves_mark (.inl rfl) rfl hXD (results_rot rfl _ _ w1.heap.size 24 (bufCells 0) _ rfl (hX1.grown gD (by omega)) Try.underlying24 rfl (by kernel_rfl) w2.heap.size 48 (.slice none 0 0) rfl (hX2.grown gD (by omega)) Try.underlying48) ?_
                exact HPost.out _ _ ⟨bufCells 0, none, 0, by rw [hp]; rfl, by rw [hp]; exact rep_bufOf _ _ _ zero_in, by rw [hp]; exact rep_noMed _ _, below_grown hX3 gD (by have := hX3.size; omega) (by omega)⟩
              · have HBig := Lib.hid hbig
                go_wp2_with fail
                refine wp_region_ord 9 [(0, true), (1, true), (2, true), (3, true), (4, true), (5, true), (6, true), (7, true), (8, true)] (fun u => u.cell? ⟨g, 10, none⟩ = some (.slice (some ⟨lb, 0, none⟩) n c) ∧ u.cell? ⟨w2.heap.size, 0, none⟩ = some (.slice (some ⟨fb, 0, none⟩) r c5)) (by kernel_rfl) (by kernel_rfl) ⟨c10, c5c⟩ ?_
                refine ord_read (by rfl) (by rfl) (fun u hu => by (obtain ⟨hu1, hu2⟩ := hu; go_simp; try rfl)) ?_
                refine ord_read (by rfl) (by rfl) (fun u hu => by (obtain ⟨hu1, hu2⟩ := hu; go_simp; try rfl)) ?_
                refine ord_read (by rfl) (by rfl) (fun u hu => by (obtain ⟨hu1, hu2⟩ := hu; go_simp; try rfl)) ?_
                refine ord_read (by rfl) (by rfl) (fun u hu => by (obtain ⟨hu1, hu2⟩ := hu; go_simp; try rfl)) ?_
                simp only [Act.put, List.setIfInBounds_toArray, List.set_cons_zero, List.set_cons_succ, List.getElem_toArray, List.getElem_cons_succ, List.getElem_cons_zero]
                refine ord_read (by rfl) (by rfl) (fun u hu => by (obtain ⟨hu1, hu2⟩ := hu; go_simp; try rfl)) ?_
                refine ord_read (by rfl) (by rfl) (fun u hu => by (obtain ⟨hu1, hu2⟩ := hu; go_simp; try rfl)) ?_
                refine ord_read (by rfl) (by rfl) (fun u hu => by (obtain ⟨hu1, hu2⟩ := hu; go_simp; try rfl)) ?_
                refine ord_read (by rfl) (by rfl) (fun u hu => by (obtain ⟨hu1, hu2⟩ := hu; go_simp; try rfl)) ?_
                simp only [Act.put, List.setIfInBounds_toArray, List.set_cons_zero, List.set_cons_succ, List.getElem_toArray, List.getElem_cons_succ, List.getElem_cons_zero]
                refine ord_read (v := .slice A4 (n - r) (c - r)) (by rfl) (by rfl) (fun u hu => by rw [HA4.out]; exact exec_slice_from (T := 22) (x := .tmp 117) (y := .tmp 119) rfl rfl rfl Try.underlying22 (by kernel_rfl) (by omega) (by omega) u) ?_
                refine ord_nil ?_
                simp only [List.drop_succ_cons, List.drop_zero, Act.put, List.setIfInBounds_toArray, List.set_cons_zero, List.set_cons_succ, List.getElem_toArray, List.getElem_cons_succ, List.getElem_cons_zero]
                go_wp2_with (refine step_setcell (T := 22) (n := g) (j := 10) (v := .slice A4 (n - r) (c - r)) rfl rfl rfl rfl (bk_drew HM11.out) (by simp) rfl (by kernel_rfl) rfl fun W12 M12 G12 => ?_)
                replace G12 := grown_from_drew G12
                have HP12 := Lib.hid (HP11.out.grown G12 (by omega))
                have HM12 := Lib.hid (show Bk W12 g 80 [.int .i64 fr, .int .i64 nw, .bool bg, .bool xv, .int .i64 sq, .int .i64 hg, .int .i64 lw, .int .i64 bs, .int .i64 jt, .int .i64 (ls + dl), .slice A4 (n - r) (c - r)] from M12)
                have HR12 := Lib.hid (HR11.out.grown G12 (by omega))
                have HO12 := Lib.hid (HO11.out.kept G12 (.inr (by simp [Value.ownBlock]; omega)))
                have HV12 := Lib.hid (HV11.out.kept G12 (.inr (by simp [Value.ownBlock]; omega)))
                have HH12 := Lib.hid (HH11.out.frame (S' := fun b => lo ≤ b ∧ b < w6.heap.size) fun b h1 h2 => ⟨G12.block b h2 (by intro e; injection e with e; have := h1.1; omega), h1⟩)
                have HY12 := Lib.hid (HY11.out.frame (S' := fun b => lo ≤ b ∧ b < w6.heap.size) fun b h1 h2 => ⟨G12.block b h2 (by intro e; injection e with e; have := h1.1; omega), h1⟩)
                have HB12 := Lib.hid (below_grown HB11.out G12 (by have := HB11.out.size; omega) (by omega))
                have HD12 := Lib.hid ((G12.block D (by omega) (by intro e; injection e with e; omega)).trans HD11.out)
                have hdd12 : W11.heap.size ≤ W12.heap.size := G12.size
                clear HP11 HR11 HM11 HO11 HH11 HB11 HD11 HV11 HY11
                clear M12 G12
                clear c5c f5c c0 c1 c2 c3 c4 c5n c6 c7 c8 c9 c10 f3 f4 f9 f10 hgl hw2l
                have c5c := HR12.out.cell 0 rfl
                have f5c := HR12.out.plain.free 0
                obtain ⟨⟨c0, c1, c2, c3, c4, c5n⟩, ⟨c6, c7, c8, c9, c10⟩, hfz⟩ := bk_change HM12.out
                have f3 := hfz 3
                have f4 := hfz 4
                have f9 := hfz 9
                have f10 := hfz 10
                have hgl := HM12.out.lt
                have hw2l := HR12.out.lt
                clear hfz
                refine Lib.hid ?_
                go_wp2_with fail
                refine NoPanic.normal ?_
                go_wp2_with (refine step_setcell (T := 48) (n := w2.heap.size) (j := 0) (v := .slice none 0 0) rfl rfl rfl rfl HR12.out (by simp) rfl (by kernel_rfl) rfl fun W13 M13 G13 => ?_)
                have HP13 := Lib.hid (HP12.out.grown G13 (by omega))
                have HR13 := Lib.hid (show Bk W13 w2.heap.size 48 [.slice none 0 0] from M13)
                have HM13 := Lib.hid (HM12.out.grown G13 (by omega))
                have HO13 := Lib.hid (HO12.out.kept G13 (.inr (by simp [Value.ownBlock]; omega)))
                have HV13 := Lib.hid (HV12.out.kept G13 (.inr (by simp [Value.ownBlock]; omega)))
                have HH13 := Lib.hid (HH12.out.frame (S' := fun b => lo ≤ b ∧ b < w6.heap.size) fun b h1 h2 => ⟨G13.block b h2 (by intro e; injection e with e; have := h1.1; omega), h1⟩)
                have HY13 := Lib.hid (HY12.out.frame (S' := fun b => lo ≤ b ∧ b < w6.heap.size) fun b h1 h2 => ⟨G13.block b h2 (by intro e; injection e with e; have := h1.1; omega), h1⟩)
                have HB13 := Lib.hid (below_grown HB12.out G13 (by have := HB12.out.size; omega) (by omega))
                have HD13 := Lib.hid ((G13.block D (by omega) (by intro e; injection e with e; omega)).trans HD12.out)
                have hdd13 : W12.heap.size ≤ W13.heap.size := G13.size
                clear HP12 HR12 HM12 HO12 HH12 HB12 HD12 HV12 HY12
                clear M13 G13
                clear c5c f5c c0 c1 c2 c3 c4 c5n c6 c7 c8 c9 c10 f3 f4 f9 f10 hgl hw2l
                have c5c := HR13.out.cell 0 rfl
                have f5c := HR13.out.plain.free 0
                obtain ⟨⟨c0, c1, c2, c3, c4, c5n⟩, ⟨c6, c7, c8, c9, c10⟩, hfz⟩ := bk_change HM13.out
                have f3 := hfz 3
                have f4 := hfz 4
                have f9 := hfz 9
                have f10 := hfz 10
                have hgl := HM13.out.lt
                have hw2l := HR13.out.lt
                clear hfz
                refine Lib.hid ?_
                go_wp2_with (refine step_setcell (T := 3) (n := g) (j := 4) (v := .int .i64 be) rfl rfl rfl rfl HM13.out (by simp) rfl (by kernel_rfl) rfl fun W14 M14 G14 => ?_)
                have HP14 := Lib.hid (HP13.out.grown G14 (by omega))
                have HM14 := Lib.hid (show Bk W14 g 80 [.int .i64 fr, .int .i64 nw, .bool bg, .bool xv, .int .i64 be, .int .i64 hg, .int .i64 lw, .int .i64 bs, .int .i64 jt, .int .i64 (ls + dl), .slice A4 (n - r) (c - r)] from M14)
                have HR14 := Lib.hid (HR13.out.grown G14 (by omega))
                have HO14 := Lib.hid (HO13.out.kept G14 (.inr (by simp [Value.ownBlock]; omega)))
                have HV14 := Lib.hid (HV13.out.kept G14 (.inr (by simp [Value.ownBlock]; omega)))
                have HH14 := Lib.hid (HH13.out.frame (S' := fun b => lo ≤ b ∧ b < w6.heap.size) fun b h1 h2 => ⟨G14.block b h2 (by intro e; injection e with e; have := h1.1; omega), h1⟩)
                have HY14 := Lib.hid (HY13.out.frame (S' := fun b => lo ≤ b ∧ b < w6.heap.size) fun b h1 h2 => ⟨G14.block b h2 (by intro e; injection e with e; have := h1.1; omega), h1⟩)
                have HB14 := Lib.hid (below_grown HB13.out G14 (by have := HB13.out.size; omega) (by omega))
                have HD14 := Lib.hid ((G14.block D (by omega) (by intro e; injection e with e; omega)).trans HD13.out)
                have hdd14 : W13.heap.size ≤ W14.heap.size := G14.size
                clear HP13 HR13 HM13 HO13 HH13 HB13 HD13 HV13 HY13
                clear M14 G14
                clear c5c f5c c0 c1 c2 c3 c4 c5n c6 c7 c8 c9 c10 f3 f4 f9 f10 hgl hw2l
                have c5c := HR14.out.cell 0 rfl
                have f5c := HR14.out.plain.free 0
                obtain ⟨⟨c0, c1, c2, c3, c4, c5n⟩, ⟨c6, c7, c8, c9, c10⟩, hfz⟩ := bk_change HM14.out
                have f3 := hfz 3
                have f4 := hfz 4
                have f9 := hfz 9
                have f10 := hfz 10
                have hgl := HM14.out.lt
                have hw2l := HR14.out.lt
                clear hfz
                refine Lib.hid ?_
                go_wp2_with fail
                refine wp_region_ord 6 [(0, true), (1, true), (2, true), (3, true), (4, true), (5, false)] (fun u => At u g 0 [.int .i64 fr, .int .i64 nw, .bool bg, .bool xv, .int .i64 be, .int .i64 hg, .int .i64 lw, .int .i64 bs, .int .i64 jt, .int .i64 (ls + dl), .slice A4 (n - r) (c - r)] ∧ u.cell? ⟨w2.heap.size, 0, none⟩ = some (.slice none 0 0)) (by kernel_rfl) (by kernel_rfl) ⟨HM14.out.at_, c5c⟩ ?_
                refine ord_read (by rfl) (by rfl) (fun u hu => by (obtain ⟨hu1, hu2⟩ := hu; clear hu1; go_simp; try rfl)) ?_
                refine ord_read (by rfl) (by rfl) (fun u hu => by (obtain ⟨hu1, hu2⟩ := hu; clear hu1; go_simp; try rfl)) ?_
                refine ord_read (by rfl) (by rfl) (fun u hu => by (obtain ⟨hu1, hu2⟩ := hu; clear hu1; go_simp; try rfl)) ?_
                simp only [Act.put, List.setIfInBounds_toArray, List.set_cons_zero, List.set_cons_succ, List.getElem_toArray, List.getElem_cons_succ, List.getElem_cons_zero]
                refine ord_read (v := .agg #[.int .i64 fr, .int .i64 nw, .bool bg, .bool xv, .int .i64 be, .int .i64 hg, .int .i64 lw, .int .i64 bs, .int .i64 jt, .int .i64 (ls + dl), .slice A4 (n - r) (c - r)]) (by rfl) (by rfl) (fun u hu => exec_load_mid (ty := 24) (x := .tmp 143) (b := g) (off := 0) (cs := [.int .i64 fr, .int .i64 nw, .bool bg, .bool xv, .int .i64 be, .int .i64 hg, .int .i64 lw, .int .i64 bs, .int .i64 jt, .int .i64 (ls + dl), .slice A4 (n - r) (c - r)]) rfl rfl u hu.1 Try.underlying24 rfl (by kernel_rfl)) ?_
                refine ord_read (by rfl) (by rfl) (fun u hu => by (obtain ⟨hu1, hu2⟩ := hu; clear hu1; go_simp; try rfl)) ?_
                simp only [Act.put, List.setIfInBounds_toArray, List.set_cons_zero, List.set_cons_succ, List.getElem_toArray, List.getElem_cons_succ, List.getElem_cons_zero]
                have hone : ∀ x ∈ ([.int .i64 fr, .int .i64 nw, .bool bg, .bool xv, .int .i64 be, .int .i64 hg, .int .i64 lw, .int .i64 bs, .int .i64 jt, .int .i64 (ls + dl), .slice A4 (n - r) (c - r)] : List Value), x.oneCell' = true := by simp [Value.oneCell']
                have HOne := Lib.hid hone
                clear hone
                refine ord_make (by rfl) (fun K hK => ?_)
                rw [if_pos (by rfl)]
                refine wp_storebk (T := 24) (x := .tmp 4) (y := .tmp 144) (n := w1.heap.size) (bs := [.int .i64 fr, .int .i64 nw, .bool bg, .bool xv, .int .i64 be, .int .i64 hg, .int .i64 lw, .int .i64 bs, .int .i64 jt, .int .i64 (ls + dl), .slice A4 (n - r) (c - r)]) rfl rfl rfl (bk_drew HP14.out) rfl (by kernel_rfl) HOne.out fun W15 M15 G15 => ?_
                replace G15 := grown_from_drew G15
                refine hK _ _ ⟨⟨(HM14.out.grown G15 (by omega)).at_, (HR14.out.grown G15 (by omega)).cell 0 rfl⟩, ?_⟩
                clear hK K
                refine ord_nil ?_
                simp only [List.drop_succ_cons, List.drop_zero, Act.put, List.setIfInBounds_toArray, List.set_cons_zero, List.set_cons_succ, List.getElem_toArray, List.getElem_cons_succ, List.getElem_cons_zero]
                have HF15 := Lib.hid M15
                have HR15 := Lib.hid (HR14.out.grown G15 (by omega))
                have HO15 := Lib.hid (HO14.out.kept G15 (.inr (by simp [Value.ownBlock]; omega)))
                have HV15 := Lib.hid (HV14.out.kept G15 (.inr (by simp [Value.ownBlock]; omega)))
                have HH15 := Lib.hid (HH14.out.frame (S' := fun b => lo ≤ b ∧ b < w6.heap.size) fun b h1 h2 => ⟨G15.block b h2 (by intro e; injection e with e; have := h1.1; omega), h1⟩)
                have HY15 := Lib.hid (HY14.out.frame (S' := fun b => lo ≤ b ∧ b < w6.heap.size) fun b h1 h2 => ⟨G15.block b h2 (by intro e; injection e with e; have := h1.1; omega), h1⟩)
                have HB15 := Lib.hid (below_grown HB14.out G15 (by have := HB14.out.size; omega) (by omega))
                have HD15 := Lib.hid ((G15.block D (by omega) (by intro e; injection e with e; omega)).trans HD14.out)
                have hdd15 : W14.heap.size ≤ W15.heap.size := G15.size
                clear M15 G15 HP14 HR14 HM14 HO14 HH14 HB14 HD14 HV14 HY14
                clear c5c f5c c0 c1 c2 c3 c4 c5n c6 c7 c8 c9 c10 f3 f4 f9 f10 hgl hw2l
                have hw2l := HR15.out.lt
                go_wp2_with (refine step_setcell (T := 48) (n := w2.heap.size) (j := 0) (v := .slice none 0 0) rfl rfl rfl rfl HR15.out (by simp) rfl (by kernel_rfl) rfl fun W16 M16 G16 => ?_)
                have HR16 := Lib.hid (show Bk W16 w2.heap.size 48 [.slice none 0 0] from M16)
                have HF16 := Lib.hid (HF15.out.grown G16 (by omega))
                have HO16 := Lib.hid (HO15.out.kept G16 (.inr (by simp [Value.ownBlock]; omega)))
                have HV16 := Lib.hid (HV15.out.kept G16 (.inr (by simp [Value.ownBlock]; omega)))
                have HH16 := Lib.hid (HH15.out.frame (S' := fun b => lo ≤ b ∧ b < w6.heap.size) fun b h1 h2 => ⟨G16.block b h2 (by intro e; injection e with e; have := h1.1; omega), h1⟩)
                have HY16 := Lib.hid (HY15.out.frame (S' := fun b => lo ≤ b ∧ b < w6.heap.size) fun b h1 h2 => ⟨G16.block b h2 (by intro e; injection e with e; have := h1.1; omega), h1⟩)
                have HB16 := Lib.hid (below_grown HB15.out G16 (by have := HB15.out.size; omega) (by omega))
                have HD16 := Lib.hid ((G16.block D (by omega) (by intro e; injection e with e; omega)).trans HD15.out)
                have hdd16 : W15.heap.size ≤ W16.heap.size := G16.size
                clear M16 G16 HR15 HF15 HO15 HV15 HH15 HY15 HB15 HD15 hw2l
                refine Lib.hid ?_
                go_wp2_with fail
                refine NoPanic.normal ?_
                go_wp2_with fail
                have gD := grownBy_putObj' W16 D (.deferred none)
                have hX1 := HF16.out.grown gD (by omega)
                have hX2 := HR16.out.grown gD (by omega)
                have hXO := HO16.out.kept gD (.inr (by simp [Value.ownBlock]; omega))
                have hXV := HV16.out.kept gD (.inr (by simp [Value.ownBlock]; have := owned_not_deferred HV16.out HD16.out; omega))
                have hXH := HH16.out.keep_deferred HD16.out gD (fun b h => by have := h.2; omega)
                have hXY := HY16.out.keep_deferred HD16.out gD (fun b h => by have := h.2; omega)
                have hXB := below_grown HB16.out gD (by have := HB16.out.size; omega) (by omega)
                have hp := HTk.out
                try rw [if_pos rfl] at hp
                try rw [if_neg (show ¬ false = true by decide)] at hp
                rw [if_neg (show ¬ 1099511627776 < ls + dl by have := HBig.out; omega)] at hp
                try rw [← HQ0.out]
                have hdr := HN.out
                have hrest : Rep (W16.putObj D (.deferred none)) (Fr w.heap.size) (.sl JHeld 120) [.slice A4 (n - r) (c - r)] ((h0 :: hs2).drop r) := rest_rep hXH hXO hdr (by omega) HA4.out (fun b hb => (show w.heap.size ≤ b by have hb : g + 1 ≤ b := hb; omega)) (fun b hb => (show w.heap.size ≤ b by have := hb.1; omega)) (by rw [big_eq]; omega)
                have hdlen : ((h0 :: hs2).drop r).length = n - r := by rw [List.length_drop, ← HN.out]
                rw [← hdlen] at hrest
                have hrb := buf_rep (bg := bg) (fd := xv) hrest (in_i64 fr (by omega)) (in_i64 nw (by omega)) (in_i64 be (by omega)) (in_i64 hg (by omega)) (in_i64 lw (by omega)) (in_i64 bs (by omega)) (in_i64 jt (by omega)) (in_i64 ((ls + dl)) (by omega))
                rw [hdlen] at hrb
                refine leaves_mark (.inl rfl) rfl HD16.out (results_rot rfl _ _ w1.heap.size 24 [.int .i64 fr, .int .i64 nw, .bool bg, .bool xv, .int .i64 be, .int .i64 hg, .int .i64 lw, .int .i64 bs, .int .i64 jt, .int .i64 (ls + dl), .slice A4 (n - r) (c - r)] _ rfl hX1 Try.underlying24 rfl (by kernel_rfl) w2.heap.size 48 (.slice none 0 0) rfl hX2 Try.underlying48) ?_
                exact HPost.out _ _ ⟨[.int .i64 fr, .int .i64 nw, .bool bg, .bool xv, .int .i64 be, .int .i64 hg, .int .i64 lw, .int .i64 bs, .int .i64 jt, .int .i64 (ls + dl), .slice A4 (n - r) (c - r)], none, 0, by rw [hp]; rfl, by rw [hp]; exact hrb, by rw [hp]; exact rep_noMed _ _, hXB⟩
            | false =>
              go_wp2_with fail
              refine wp_region_ord 9 [(0, true), (1, true), (2, true), (3, true), (4, true), (5, true), (6, true), (7, true), (8, true)] (fun u => u.cell? ⟨g, 10, none⟩ = some (.slice (some ⟨lb, 0, none⟩) n c) ∧ u.cell? ⟨w2.heap.size, 0, none⟩ = some (.slice (some ⟨fb, 0, none⟩) r c5)) (by kernel_rfl) (by kernel_rfl) ⟨c10, c5c⟩ ?_
              refine ord_read (by rfl) (by rfl) (fun u hu => by (obtain ⟨hu1, hu2⟩ := hu; go_simp; try rfl)) ?_
              refine ord_read (by rfl) (by rfl) (fun u hu => by (obtain ⟨hu1, hu2⟩ := hu; go_simp; try rfl)) ?_
              refine ord_read (by rfl) (by rfl) (fun u hu => by (obtain ⟨hu1, hu2⟩ := hu; go_simp; try rfl)) ?_
              refine ord_read (by rfl) (by rfl) (fun u hu => by (obtain ⟨hu1, hu2⟩ := hu; go_simp; try rfl)) ?_
              simp only [Act.put, List.setIfInBounds_toArray, List.set_cons_zero, List.set_cons_succ, List.getElem_toArray, List.getElem_cons_succ, List.getElem_cons_zero]
              refine ord_read (by rfl) (by rfl) (fun u hu => by (obtain ⟨hu1, hu2⟩ := hu; go_simp; try rfl)) ?_
              refine ord_read (by rfl) (by rfl) (fun u hu => by (obtain ⟨hu1, hu2⟩ := hu; go_simp; try rfl)) ?_
              refine ord_read (by rfl) (by rfl) (fun u hu => by (obtain ⟨hu1, hu2⟩ := hu; go_simp; try rfl)) ?_
              refine ord_read (by rfl) (by rfl) (fun u hu => by (obtain ⟨hu1, hu2⟩ := hu; go_simp; try rfl)) ?_
              simp only [Act.put, List.setIfInBounds_toArray, List.set_cons_zero, List.set_cons_succ, List.getElem_toArray, List.getElem_cons_succ, List.getElem_cons_zero]
              refine ord_read (v := .slice A4 (n - r) (c - r)) (by rfl) (by rfl) (fun u hu => by rw [HA4.out]; exact exec_slice_from (T := 22) (x := .tmp 129) (y := .tmp 131) rfl rfl rfl Try.underlying22 (by kernel_rfl) (by omega) (by omega) u) ?_
              refine ord_nil ?_
              simp only [List.drop_succ_cons, List.drop_zero, Act.put, List.setIfInBounds_toArray, List.set_cons_zero, List.set_cons_succ, List.getElem_toArray, List.getElem_cons_succ, List.getElem_cons_zero]
              go_wp2_with (refine step_setcell (T := 22) (n := g) (j := 10) (v := .slice A4 (n - r) (c - r)) rfl rfl rfl rfl (bk_drew HM9.out) (by simp) rfl (by kernel_rfl) rfl fun W17 M17 G17 => ?_)
              replace G17 := grown_from_drew G17
              have HP17 := Lib.hid (HP9.out.grown G17 (by omega))
              have HM17 := Lib.hid (show Bk W17 g 80 [.int .i64 fr, .int .i64 nw, .bool bg, .bool fd, .int .i64 sq, .int .i64 hg, .int .i64 lw, .int .i64 bs, .int .i64 jt, .int .i64 ls, .slice A4 (n - r) (c - r)] from M17)
              have HR17 := Lib.hid (HR9.out.grown G17 (by omega))
              have HO17 := Lib.hid (HO9.out.kept G17 (.inr (by simp [Value.ownBlock]; omega)))
              have HV17 := Lib.hid (HV9.out.kept G17 (.inr (by simp [Value.ownBlock]; omega)))
              have HH17 := Lib.hid (HH9.out.frame (S' := fun b => lo ≤ b ∧ b < w6.heap.size) fun b h1 h2 => ⟨G17.block b h2 (by intro e; injection e with e; have := h1.1; omega), h1⟩)
              have HY17 := Lib.hid (HY9.out.frame (S' := fun b => lo ≤ b ∧ b < w6.heap.size) fun b h1 h2 => ⟨G17.block b h2 (by intro e; injection e with e; have := h1.1; omega), h1⟩)
              have HB17 := Lib.hid (below_grown HB9.out G17 (by have := HB9.out.size; omega) (by omega))
              have HD17 := Lib.hid ((G17.block D (by omega) (by intro e; injection e with e; omega)).trans HD9.out)
              have hdd17 : W9.heap.size ≤ W17.heap.size := G17.size
              clear HP9 HR9 HM9 HO9 HH9 HB9 HD9 HV9 HY9
              clear M17 G17
              clear c5c f5c c0 c1 c2 c3 c4 c5n c6 c7 c8 c9 c10 f3 f4 f9 f10 hgl hw2l
              have c5c := HR17.out.cell 0 rfl
              have f5c := HR17.out.plain.free 0
              obtain ⟨⟨c0, c1, c2, c3, c4, c5n⟩, ⟨c6, c7, c8, c9, c10⟩, hfz⟩ := bk_change HM17.out
              have f3 := hfz 3
              have f4 := hfz 4
              have f9 := hfz 9
              have f10 := hfz 10
              have hgl := HM17.out.lt
              have hw2l := HR17.out.lt
              clear hfz
              refine Lib.hid ?_
              go_wp2_with fail
              refine NoPanic.normal ?_
              go_wp2_with (refine step_setcell (T := 3) (n := g) (j := 4) (v := .int .i64 be) rfl rfl rfl rfl HM17.out (by simp) rfl (by kernel_rfl) rfl fun W18 M18 G18 => ?_)
              have HP18 := Lib.hid (HP17.out.grown G18 (by omega))
              have HM18 := Lib.hid (show Bk W18 g 80 [.int .i64 fr, .int .i64 nw, .bool bg, .bool fd, .int .i64 be, .int .i64 hg, .int .i64 lw, .int .i64 bs, .int .i64 jt, .int .i64 ls, .slice A4 (n - r) (c - r)] from M18)
              have HR18 := Lib.hid (HR17.out.grown G18 (by omega))
              have HO18 := Lib.hid (HO17.out.kept G18 (.inr (by simp [Value.ownBlock]; omega)))
              have HV18 := Lib.hid (HV17.out.kept G18 (.inr (by simp [Value.ownBlock]; omega)))
              have HH18 := Lib.hid (HH17.out.frame (S' := fun b => lo ≤ b ∧ b < w6.heap.size) fun b h1 h2 => ⟨G18.block b h2 (by intro e; injection e with e; have := h1.1; omega), h1⟩)
              have HY18 := Lib.hid (HY17.out.frame (S' := fun b => lo ≤ b ∧ b < w6.heap.size) fun b h1 h2 => ⟨G18.block b h2 (by intro e; injection e with e; have := h1.1; omega), h1⟩)
              have HB18 := Lib.hid (below_grown HB17.out G18 (by have := HB17.out.size; omega) (by omega))
              have HD18 := Lib.hid ((G18.block D (by omega) (by intro e; injection e with e; omega)).trans HD17.out)
              have hdd18 : W17.heap.size ≤ W18.heap.size := G18.size
              clear HP17 HR17 HM17 HO17 HH17 HB17 HD17 HV17 HY17
              clear M18 G18
              clear c5c f5c c0 c1 c2 c3 c4 c5n c6 c7 c8 c9 c10 f3 f4 f9 f10 hgl hw2l
              have c5c := HR18.out.cell 0 rfl
              have f5c := HR18.out.plain.free 0
              obtain ⟨⟨c0, c1, c2, c3, c4, c5n⟩, ⟨c6, c7, c8, c9, c10⟩, hfz⟩ := bk_change HM18.out
              have f3 := hfz 3
              have f4 := hfz 4
              have f9 := hfz 9
              have f10 := hfz 10
              have hgl := HM18.out.lt
              have hw2l := HR18.out.lt
              clear hfz
              refine Lib.hid ?_
              go_wp2_with fail
              refine wp_region_ord 6 [(0, true), (1, true), (2, true), (3, true), (4, true), (5, false)] (fun u => At u g 0 [.int .i64 fr, .int .i64 nw, .bool bg, .bool fd, .int .i64 be, .int .i64 hg, .int .i64 lw, .int .i64 bs, .int .i64 jt, .int .i64 ls, .slice A4 (n - r) (c - r)] ∧ u.cell? ⟨w2.heap.size, 0, none⟩ = some (.slice (some ⟨fb, 0, none⟩) r c5)) (by kernel_rfl) (by kernel_rfl) ⟨HM18.out.at_, c5c⟩ ?_
              refine ord_read (by rfl) (by rfl) (fun u hu => by (obtain ⟨hu1, hu2⟩ := hu; clear hu1; go_simp; try rfl)) ?_
              refine ord_read (by rfl) (by rfl) (fun u hu => by (obtain ⟨hu1, hu2⟩ := hu; clear hu1; go_simp; try rfl)) ?_
              refine ord_read (by rfl) (by rfl) (fun u hu => by (obtain ⟨hu1, hu2⟩ := hu; clear hu1; go_simp; try rfl)) ?_
              simp only [Act.put, List.setIfInBounds_toArray, List.set_cons_zero, List.set_cons_succ, List.getElem_toArray, List.getElem_cons_succ, List.getElem_cons_zero]
              refine ord_read (v := .agg #[.int .i64 fr, .int .i64 nw, .bool bg, .bool fd, .int .i64 be, .int .i64 hg, .int .i64 lw, .int .i64 bs, .int .i64 jt, .int .i64 ls, .slice A4 (n - r) (c - r)]) (by rfl) (by rfl) (fun u hu => exec_load_mid (ty := 24) (x := .tmp 143) (b := g) (off := 0) (cs := [.int .i64 fr, .int .i64 nw, .bool bg, .bool fd, .int .i64 be, .int .i64 hg, .int .i64 lw, .int .i64 bs, .int .i64 jt, .int .i64 ls, .slice A4 (n - r) (c - r)]) rfl rfl u hu.1 Try.underlying24 rfl (by kernel_rfl)) ?_
              refine ord_read (by rfl) (by rfl) (fun u hu => by (obtain ⟨hu1, hu2⟩ := hu; clear hu1; go_simp; try rfl)) ?_
              simp only [Act.put, List.setIfInBounds_toArray, List.set_cons_zero, List.set_cons_succ, List.getElem_toArray, List.getElem_cons_succ, List.getElem_cons_zero]
              have hone : ∀ x ∈ ([.int .i64 fr, .int .i64 nw, .bool bg, .bool fd, .int .i64 be, .int .i64 hg, .int .i64 lw, .int .i64 bs, .int .i64 jt, .int .i64 ls, .slice A4 (n - r) (c - r)] : List Value), x.oneCell' = true := by simp [Value.oneCell']
              have HOne := Lib.hid hone
              clear hone
              refine ord_make (by rfl) (fun K hK => ?_)
              rw [if_pos (by rfl)]
              refine wp_storebk (T := 24) (x := .tmp 4) (y := .tmp 144) (n := w1.heap.size) (bs := [.int .i64 fr, .int .i64 nw, .bool bg, .bool fd, .int .i64 be, .int .i64 hg, .int .i64 lw, .int .i64 bs, .int .i64 jt, .int .i64 ls, .slice A4 (n - r) (c - r)]) rfl rfl rfl (bk_drew HP18.out) rfl (by kernel_rfl) HOne.out fun W19 M19 G19 => ?_
              replace G19 := grown_from_drew G19
              refine hK _ _ ⟨⟨(HM18.out.grown G19 (by omega)).at_, (HR18.out.grown G19 (by omega)).cell 0 rfl⟩, ?_⟩
              clear hK K
              refine ord_nil ?_
              simp only [List.drop_succ_cons, List.drop_zero, Act.put, List.setIfInBounds_toArray, List.set_cons_zero, List.set_cons_succ, List.getElem_toArray, List.getElem_cons_succ, List.getElem_cons_zero]
              have HF19 := Lib.hid M19
              have HR19 := Lib.hid (HR18.out.grown G19 (by omega))
              have HO19 := Lib.hid (HO18.out.kept G19 (.inr (by simp [Value.ownBlock]; omega)))
              have HV19 := Lib.hid (HV18.out.kept G19 (.inr (by simp [Value.ownBlock]; omega)))
              have HH19 := Lib.hid (HH18.out.frame (S' := fun b => lo ≤ b ∧ b < w6.heap.size) fun b h1 h2 => ⟨G19.block b h2 (by intro e; injection e with e; have := h1.1; omega), h1⟩)
              have HY19 := Lib.hid (HY18.out.frame (S' := fun b => lo ≤ b ∧ b < w6.heap.size) fun b h1 h2 => ⟨G19.block b h2 (by intro e; injection e with e; have := h1.1; omega), h1⟩)
              have HB19 := Lib.hid (below_grown HB18.out G19 (by have := HB18.out.size; omega) (by omega))
              have HD19 := Lib.hid ((G19.block D (by omega) (by intro e; injection e with e; omega)).trans HD18.out)
              have hdd19 : W18.heap.size ≤ W19.heap.size := G19.size
              clear M19 G19 HP18 HR18 HM18 HO18 HH18 HB18 HD18 HV18 HY18
              clear c5c f5c c0 c1 c2 c3 c4 c5n c6 c7 c8 c9 c10 f3 f4 f9 f10 hgl hw2l
              have hw2l := HR19.out.lt
              go_wp2_with (refine step_setcell (T := 48) (n := w2.heap.size) (j := 0) (v := .slice (some ⟨fb, 0, none⟩) r c5) rfl rfl rfl rfl HR19.out (by simp) rfl (by kernel_rfl) rfl fun W20 M20 G20 => ?_)
              have HR20 := Lib.hid (show Bk W20 w2.heap.size 48 [.slice (some ⟨fb, 0, none⟩) r c5] from M20)
              have HF20 := Lib.hid (HF19.out.grown G20 (by omega))
              have HO20 := Lib.hid (HO19.out.kept G20 (.inr (by simp [Value.ownBlock]; omega)))
              have HV20 := Lib.hid (HV19.out.kept G20 (.inr (by simp [Value.ownBlock]; omega)))
              have HH20 := Lib.hid (HH19.out.frame (S' := fun b => lo ≤ b ∧ b < w6.heap.size) fun b h1 h2 => ⟨G20.block b h2 (by intro e; injection e with e; have := h1.1; omega), h1⟩)
              have HY20 := Lib.hid (HY19.out.frame (S' := fun b => lo ≤ b ∧ b < w6.heap.size) fun b h1 h2 => ⟨G20.block b h2 (by intro e; injection e with e; have := h1.1; omega), h1⟩)
              have HB20 := Lib.hid (below_grown HB19.out G20 (by have := HB19.out.size; omega) (by omega))
              have HD20 := Lib.hid ((G20.block D (by omega) (by intro e; injection e with e; omega)).trans HD19.out)
              have hdd20 : W19.heap.size ≤ W20.heap.size := G20.size
              clear M20 G20 HR19 HF19 HO19 HV19 HH19 HY19 HB19 HD19 hw2l
              refine Lib.hid ?_
              go_wp2_with fail
              refine NoPanic.normal ?_
              go_wp2_with fail
              have gD := grownBy_putObj' W20 D (.deferred none)
              have hX1 := HF20.out.grown gD (by omega)
              have hX2 := HR20.out.grown gD (by omega)
              have hXO := HO20.out.kept gD (.inr (by simp [Value.ownBlock]; omega))
              have hXV := HV20.out.kept gD (.inr (by simp [Value.ownBlock]; have := owned_not_deferred HV20.out HD20.out; omega))
              have hXH := HH20.out.keep_deferred HD20.out gD (fun b h => by have := h.2; omega)
              have hXY := HY20.out.keep_deferred HD20.out gD (fun b h => by have := h.2; omega)
              have hXB := below_grown HB20.out gD (by have := HB20.out.size; omega) (by omega)
              have hp := HTk.out
              try rw [if_pos rfl] at hp
              try rw [if_neg (show ¬ false = true by decide)] at hp
              try rw [← HQ0.out]
              have hdr := HN.out
              have hrest : Rep (W20.putObj D (.deferred none)) (Fr w.heap.size) (.sl JHeld 120) [.slice A4 (n - r) (c - r)] ((h0 :: hs2).drop r) := rest_rep hXH hXO hdr (by omega) HA4.out (fun b hb => (show w.heap.size ≤ b by have hb : g + 1 ≤ b := hb; omega)) (fun b hb => (show w.heap.size ≤ b by have := hb.1; omega)) (by rw [big_eq]; omega)
              have hdlen : ((h0 :: hs2).drop r).length = n - r := by rw [List.length_drop, ← HN.out]
              rw [← hdlen] at hrest
              have hrb := buf_rep (bg := bg) (fd := fd) hrest (in_i64 fr (by omega)) (in_i64 nw (by omega)) (in_i64 be (by omega)) (in_i64 hg (by omega)) (in_i64 lw (by omega)) (in_i64 bs (by omega)) (in_i64 jt (by omega)) (in_i64 (ls) (by omega))
              rw [hdlen] at hrb
              have hfl : ((((h0 :: hs2).take r).map (fun x => x.1)).length) = r := by rw [List.length_map, List.length_take, ← HN.out]; omega
              have hfr := rep_copied (w := w) (S := fun _ => True) (A := none) (c := 0) (nb := 112) hfl.symm (by rw [big_eq]; omega) (hXY.frame (S' := Fr w.heap.size) fun b h1 h2 => ⟨rfl, (show w.heap.size ≤ b by have := h1.1; omega)⟩) hXV (fun b hb => (show w.heap.size ≤ b by omega))
              refine leaves_mark (.inl rfl) rfl HD20.out (results_rot rfl _ _ w1.heap.size 24 [.int .i64 fr, .int .i64 nw, .bool bg, .bool fd, .int .i64 be, .int .i64 hg, .int .i64 lw, .int .i64 bs, .int .i64 jt, .int .i64 ls, .slice A4 (n - r) (c - r)] _ rfl hX1 Try.underlying24 rfl (by kernel_rfl) w2.heap.size 48 (.slice (some ⟨fb, 0, none⟩) r c5) rfl hX2 Try.underlying48) ?_
              exact HPost.out _ _ ⟨[.int .i64 fr, .int .i64 nw, .bool bg, .bool fd, .int .i64 be, .int .i64 hg, .int .i64 lw, .int .i64 bs, .int .i64 jt, .int .i64 ls, .slice A4 (n - r) (c - r)], some ⟨fb, 0, none⟩, c5, by rw [hp]; simp only [hfl]; rfl, by rw [hp]; exact hrb, by rw [hp]; simp only [hfl]; exact hfr, hXB⟩
end Go.Proofs.Ytjmohkgbfigcgaa.Sh
