/- apart: the calls share nothing with what they were given, and nothing with one another. -/
import Derived.Test.YtjmohkgbfigcgaaLooks
import Derived.Test.YtjmohkgbfigcgaaAll
namespace Go.Proofs.Ytjmohkgbfigcgaa.Sh
open Go Go.RowKit
set_option linter.unusedVariables false
set_option linter.unusedSimpArgs false

/-! ### How much a look can see -/
/-- at most so many numbers, so many strings; at least so many numbers -/
def Ty.most : Ty → Nat
  | .int _ | .bool => 1
  | .str | .nil => 0
  | .sl e _ => 200001 + e.most
  | .cons a b => a.most + b.most
def Ty.mostS : Ty → Nat
  | .int _ | .bool | .nil => 0
  | .str => 1
  | .sl e _ => 200000 * e.mostS
  | .cons a b => a.mostS + b.mostS
def Ty.least : Ty → Nat
  | .int _ | .bool | .sl _ _ => 1
  | .str | .nil => 0
  | .cons a b => a.least + b.least
def Ty.counts : Ty → Bool
  | .int _ | .bool | .str | .nil => true
  | .sl e _ => e.counts && decide (1 ≤ e.least)
  | .cons a b => a.counts && b.counts
theorem seeL_ge {e : Ty} : ∀ (ds : List e.Data) st, st.1.length ≤ (seeL (seeT e) ds st).1.length := fun ds st => (seeL_le (fun d st => seeT_le e d st) ds st).1
theorem seeT_least : (T : Ty) → ∀ (d : T.Data) st, st.1.length + T.least ≤ (seeT T d st).1.length
  | .int _, d, st => by simp [seeT, Ty.least]
  | .bool, d, st => by simp [seeT, Ty.least]
  | .str, d, st => by simp [seeT, Ty.least]
  | .nil, d, st => by simp [seeT, Ty.least]
  | .sl e nb, d, st => by
    have := seeL_ge (e := e) d (st.1 ++ [(d.length : Int)], st.2)
    simp only [seeT, Ty.least]
    simp at this
    exact this
  | .cons a b, d, st => by
    have h1 := seeT_least a d.1 st
    have h2 := seeT_least b d.2 (seeT a d.1 st)
    simp only [seeT, Ty.least]
    omega
theorem seeL_most {e : Ty} (hl : 1 ≤ e.least) (ih : ∀ (d : e.Data) st, (seeT e d st).1.length ≤ st.1.length + e.most ∧ (seeT e d st).2.length ≤ st.2.length + e.mostS) :
    ∀ (ds : List e.Data) st, (seeL (seeT e) ds st).1.length ≤ max st.1.length (200000 + e.most) ∧ (seeL (seeT e) ds st).2.length + min st.1.length 200000 * e.mostS ≤ st.2.length + 200000 * e.mostS
  | [], st => by
    simp only [seeL]
    refine ⟨by omega, ?_⟩
    have : min st.1.length 200000 * e.mostS ≤ 200000 * e.mostS := Nat.mul_le_mul_right _ (Nat.min_le_right _ _)
    omega
  | d :: ds, st => by
    simp only [seeL]
    split
    · rename_i h
      obtain ⟨h1, h2⟩ := ih d st
      obtain ⟨h3, h4⟩ := seeL_most hl ih ds (seeT e d st)
      have h5 := seeT_least e d st
      refine ⟨by omega, ?_⟩
      have h6 : (min st.1.length 200000 + 1) * e.mostS ≤ min (seeT e d st).1.length 200000 * e.mostS := Nat.mul_le_mul_right _ (by omega)
      rw [Nat.add_mul, Nat.one_mul] at h6
      omega
    · refine ⟨by omega, ?_⟩
      have : min st.1.length 200000 * e.mostS ≤ 200000 * e.mostS := Nat.mul_le_mul_right _ (Nat.min_le_right _ _)
      omega
theorem seeT_most : (T : Ty) → T.counts = true → ∀ (d : T.Data) st, (seeT T d st).1.length ≤ st.1.length + T.most ∧ (seeT T d st).2.length ≤ st.2.length + T.mostS
  | .int _, _, d, st => by simp [seeT, Ty.most, Ty.mostS]
  | .bool, _, d, st => by simp [seeT, Ty.most, Ty.mostS]
  | .str, _, d, st => by simp [seeT, Ty.most, Ty.mostS]
  | .nil, _, d, st => by simp [seeT, Ty.most, Ty.mostS]
  | .sl e nb, hc, d, st => by
    simp only [Ty.counts, Bool.and_eq_true, decide_eq_true_eq] at hc
    have h := seeL_most hc.2 (seeT_most e hc.1) d (st.1 ++ [(d.length : Int)], st.2)
    simp only [seeT, Ty.most, Ty.mostS]
    simp only [List.length_append, List.length_cons, List.length_nil] at h
    refine ⟨by omega, by omega⟩
  | .cons a b, hc, d, st => by
    simp only [Ty.counts, Bool.and_eq_true] at hc
    have h1 := seeT_most a hc.1 d.1 st
    have h2 := seeT_most b hc.2 d.2 (seeT a d.1 st)
    simp only [seeT, Ty.most, Ty.mostS]
    omega
theorem fits_of {T : Ty} (hc : T.counts = true) (hm : T.most ≤ 1099511627776) (hs : T.mostS ≤ 1099511627776) (d : T.Data) : Fits T d [] [] := by
  have := seeT_most T hc d ([], [])
  exact ⟨by simp at this; omega, by simp at this; omega⟩

/-- a viewer that lies between two marks -/
structure View.In (w : World) (lo hi : Nat) (v : View) : Prop where
  looks : Looks v.h v.T
  fn : ∃ fn c, Try.prog.funcs[v.h]? = some fn ∧ (fn.name == "runtime.NumGoroutine") = false ∧ fn.body = some c
  le : lo ≤ v.pb
  lt : v.pb < hi
  top : hi ≤ w.heap.size
  place : ∃ cs, At w v.pb 0 cs ∧ Rep w (fun b => lo ≤ b ∧ b < hi) v.T cs v.d
  fits : Fits v.T v.d [] []
/-! ### The calls -/
/-- what an eye has seen is small -/
def Few (T : Ty) (d : T.Data) : Prop := (seeT T d ([], [])).1.length ≤ 2000 ∧ ∀ j (h : j < (seeT T d ([], [])).2.length), (seeT T d ([], [])).2[j].size ≤ 2000

/-- a call hands back viewers of what is its own -/
def Call (TT : TypeId) (T : Ty) (g : FuncId) : Prop := ∀ (w : World) (pb : Nat) (S : Nat → Prop) (cs : List Value) (d : T.Data),
  Bk w pb TT cs → Rep w S T cs d → Few T d → (∀ b, S b → b < w.heap.size) →
  Calls Try.prog g #[.pointer (some ⟨pb, 0, none⟩)] w fun e w' => ∃ A c gb vs, e = .returned (.slice A (List.length vs) c) ∧ List.length vs ≤ 1000 ∧ (0 < List.length vs → A = some ⟨gb, 0, none⟩ ∧ gb < w'.heap.size ∧ At w' gb 0 (List.map View.val vs)) ∧
    w.heap.size ≤ gb ∧ gb ≤ w'.heap.size ∧ (∀ v ∈ vs, View.In w' w.heap.size gb v) ∧ Below w.heap.size w w'

def fnVal (g : FuncId) : Value := .func (.func g) #[] #[]

theorem step_box {P : Program} {ops : Array Oper} {rest : List Oper} {o : Oper} {a : Act} {Q : Exit → Act → World → Prop} {w : World} {T : TypeId} {x : Operand} {cs : List Value}
    (hg : o.guard = none) (ho : o.op = .box T x) (hx : a.eval x = .agg cs.toArray) (h : wpList P ops Q rest (a.put o.dst (.pointer (some ⟨w.heap.size, 0, none⟩))) (w.alloc (.cells cs.toArray T))) : wpList P ops Q (o :: rest) a w :=
  wpList_value hg (by simp only [execOp, ho, hx, Instr.box, newVar, newRow, Sem.run_bind, Sem.run_pure, Result.andThen_ok]; rfl) h
theorem step_alloc {P : Program} {ops : Array Oper} {rest : List Oper} {o : Oper} {a : Act} {Q : Exit → Act → World → Prop} {w : World} {T : TypeId} {i : TypeInfo} {z : Value}
    (hg : o.guard = none) (ho : o.op = .alloc T) (hi : P.info? T = some i) (hz : i.zero = some z) (h : wpList P ops Q rest (a.put o.dst (.pointer (some ⟨w.heap.size, 0, none⟩))) (w.alloc (.cells z.cells T))) : wpList P ops Q (o :: rest) a w :=
  wpList_value hg (by simp [execOp, ho, Instr.alloc, zeroValue, typeInfo, newVar, newRow, hi, hz]) h
theorem Bk.alloc {w : World} {n : Nat} {T : TypeId} {cs : List Value} (h : Bk w n T cs) (o : Obj) : Bk (w.alloc o) n T cs := by
  unfold Bk
  rw [Below.heap_alloc _ _ _ h.lt]
  exact h
theorem Bk.new (w : World) (T : TypeId) (cs : List Value) : Bk (w.alloc (.cells cs.toArray T)) w.heap.size T cs := heap_alloc_new w _
theorem Bk.plain {w : World} {n : Nat} {T : TypeId} {cs : List Value} (h : Bk w n T cs) : Plain w n := ⟨_, _, h⟩

/-! ### What a look keeps -/
structure Keeps (M : Nat → Prop) (w w' : World) : Prop where
  os : w'.os = w.os
  tape : w'.tape = w.tape
  output : w'.output = w.output
  size : w.heap.size ≤ w'.heap.size
  block : ∀ b, b < w.heap.size → ¬ M b → w'.heap[b]? = w.heap[b]?
theorem Keeps.trans {M : Nat → Prop} {a b c : World} (h : Keeps M a b) (k : Keeps M b c) : Keeps M a c :=
  ⟨k.os.trans h.os, k.tape.trans h.tape, k.output.trans h.output, Nat.le_trans h.size k.size, fun x hx hm => (k.block x (Nat.lt_of_lt_of_le hx h.size) hm).trans (h.block x hx hm)⟩
theorem Keeps.then {M M' : Nat → Prop} {a b c : World} (h : Keeps M a b) (k : Keeps M' b c) (hm : ∀ x, x < a.heap.size → M' x → M x) : Keeps M a c :=
  ⟨k.os.trans h.os, k.tape.trans h.tape, k.output.trans h.output, Nat.le_trans h.size k.size, fun x hx hn => (k.block x (Nat.lt_of_lt_of_le hx h.size) fun h => hn (hm x hx h)).trans (h.block x hx hn)⟩
theorem Keeps.mono {M M' : Nat → Prop} {a b : World} (h : Keeps M a b) (k : ∀ x, x < a.heap.size → M x → M' x) : Keeps M' a b :=
  ⟨h.os, h.tape, h.output, h.size, fun x hx hm => h.block x hx fun h => hm (k x hx h)⟩
theorem Keeps.refl (M : Nat → Prop) (a : World) : Keeps M a a := ⟨rfl, rfl, rfl, Nat.le_refl _, fun _ _ _ => rfl⟩
theorem keeps_below {lo : Nat} {a b : World} (h : Below lo a b) : Keeps (fun x => lo ≤ x) a b := ⟨h.os, h.tape, h.output, h.size, fun x _ hm => h.block x (Nat.lt_of_not_le hm)⟩
theorem Keeps.below {M : Nat → Prop} {a b : World} (h : Keeps M a b) {lo : Nat} (hl : lo ≤ a.heap.size) (hm : ∀ x, x < lo → ¬ M x) : Below lo a b := ⟨h.os, h.tape, h.output, h.size, fun x hx => h.block x (Nat.lt_of_lt_of_le hx hl) (hm x hx)⟩
theorem Keeps.at_ {M : Nat → Prop} {a b : World} (h : Keeps M a b) {n o : Nat} {cs : List Value} (ha : At a n o cs) (hn : n < a.heap.size) (hm : ¬ M n) : At b n o cs := ha.frame (h.block n hn hm)
theorem Keeps.bk {M : Nat → Prop} {a b : World} (h : Keeps M a b) {n : Nat} {T : TypeId} {cs : List Value} (ha : Bk a n T cs) (hm : ¬ M n) : Bk b n T cs := (h.block n ha.lt hm).trans ha
theorem Keeps.plain {M : Nat → Prop} {a b : World} (h : Keeps M a b) {n : Nat} (ha : Plain a n) (hm : ¬ M n) : Plain b n := ha.frame (h.block n ha.lt hm)
theorem Keeps.rep {M : Nat → Prop} {a b : World} (h : Keeps M a b) {S : Nat → Prop} {T : Ty} {cs : List Value} {d : T.Data} (hr : Rep a S T cs d) (hm : ∀ x, S x → ¬ M x) : Rep b S T cs d :=
  Rep.frame T cs d hr fun x hs hl => ⟨h.block x hl (hm x hs), hs⟩
theorem Keeps.seen {M : Nat → Prop} {a b : World} (h : Keeps M a b) {lo eb eo : Nat} {s : List Int × List ByteArray} (hs : Seen a lo eb eo s) (h1 : ¬ M eb) (h2 : ∀ x, lo ≤ x → x < a.heap.size → ¬ M x) : Seen b lo eb eo s := by
  refine hs.frame (Nat.le_refl _) h.size (fun x hl hx => h.block x hx (h2 x hl hx)) fun cs ha hl => ha.frame (h.block eb ?_ h1)
  obtain ⟨nv, sv, h1, _⟩ := hs
  exact h1.lt

def zeroEyeM (at_ : Int) : List Value := [.slice none 0 0, .slice none 0 0, .bool true, .int .i64 at_]
theorem EyeAt.zeroM {w : World} {eb eo : Nat} {at_ : Int} (h : At w eb eo (zeroEyeM at_)) (hp : Plain w eb) : EyeAt w w.heap.size eb eo [] [] true at_ (.slice none 0 0) (.slice none 0 0) :=
  ⟨(h 0 _ rfl).1, (h 1 _ rfl).1, (h 2 _ rfl).1, (h 3 _ rfl).1, hp, ⟨rfl, .inl ⟨rfl, rfl⟩⟩, ⟨rfl, .inl ⟨rfl, rfl⟩⟩, hp.lt, Nat.le_refl _⟩

theorem Looks.plain {f : FuncId} {T : Ty} (hl : Looks f T) {w : World} {eb pb : Nat} {S : Nat → Prop} {d : T.Data} (he : At w eb 0 zeroEye) (hp : Plain w eb) (place : ∃ cs, At w pb 0 cs ∧ Rep w S T cs d) (hne : pb ≠ eb) (hlt : pb < w.heap.size)
    (hS : ∀ b, S b → b ≠ eb ∧ b < w.heap.size) (hf : Fits T d [] []) :
    Calls Try.prog f #[.pointer (some ⟨eb, 0, none⟩), .pointer (some ⟨pb, 0, none⟩)] w fun e w' => e = .returned (.tuple #[]) ∧ Seen w' w.heap.size eb 0 (seeT T d ([], [])) ∧ Keeps (fun b => b = eb) w w' ∧ Plain w' eb := by
  refine (hl false w w.heap.size eb 0 pb 0 S d [] [] 0 ⟨⟨_, _, EyeAt.zero he hp⟩, place, hne, hlt, hS, hf⟩).mono ?_
  rintro e w' ⟨h1, ⟨nv, sv, h2⟩, hv⟩
  exact ⟨h1, h2.seen hf.1 hf.2, ⟨hv.os, hv.tape, hv.output, hv.size, fun b hb hm => hv.block b hb hm (fun h => h)⟩, h2.plain⟩
theorem Looks.marked {f : FuncId} {T : Ty} (hl : Looks f T) {w : World} {eb pb : Nat} {at_ : Int} {S : Nat → Prop} {d : T.Data} (he : At w eb 0 (zeroEyeM at_)) (hp : Plain w eb) (place : ∃ cs, At w pb 0 cs ∧ Rep w S T cs d) (hne : pb ≠ eb) (hlt : pb < w.heap.size)
    (hS : ∀ b, S b → b ≠ eb ∧ b < w.heap.size) (hf : Fits T d [] []) :
    Calls Try.prog f #[.pointer (some ⟨eb, 0, none⟩), .pointer (some ⟨pb, 0, none⟩)] w fun e w' => e = .returned (.tuple #[]) ∧ Keeps (fun b => b = eb ∨ S b ∨ b = pb) w w' ∧ ∀ b, b < w.heap.size → b ≠ eb → SimC w w' b := by
  refine (hl true w w.heap.size eb 0 pb 0 S d [] [] at_ ⟨⟨_, _, EyeAt.zeroM he hp⟩, place, hne, hlt, hS, hf⟩).mono ?_
  rintro e w' ⟨h1, _, hv⟩
  refine ⟨h1, ⟨hv.os, hv.tape, hv.output, hv.size, fun b hb hm => hv.block b hb (fun h => hm (.inl h)) (fun h => hm (.inr h))⟩, fun b hb hne => ?_⟩
  by_cases hM : S b ∨ b = pb
  · exact hv.vary b hb hne hM
  · exact SimC.of_eq (hv.block b hb hne hM)

theorem View.Ok.inside {w : World} {lo : Nat} {v : View} (h : v.Ok w lo) : v.In w lo w.heap.size := by
  obtain ⟨cs, ha, hr⟩ := h.place
  exact ⟨h.looks, h.fn, h.le, h.lt, Nat.le_refl _, ⟨cs, ha, hr.mono fun b h1 h2 => ⟨h1, h2⟩⟩, h.fits⟩
theorem View.In.ok {w : World} {lo hi : Nat} {v : View} (h : v.In w lo hi) : v.Ok w lo := by
  obtain ⟨cs, ha, hr⟩ := h.place
  exact ⟨h.looks, h.fn, h.le, by have := h.lt; have := h.top; omega, ⟨cs, ha, hr.mono fun b h1 _ => h1.1⟩, h.fits⟩
theorem View.In.keeps {M : Nat → Prop} {w w' : World} {lo hi : Nat} {v : View} (h : v.In w lo hi) (hk : Keeps M w w') (hm : ∀ b, lo ≤ b → b < hi → ¬ M b) : v.In w' lo hi := by
  obtain ⟨h1, h2, h3, h4, h5, ⟨cs, ha, hr⟩, h6⟩ := h
  exact ⟨h1, h2, h3, h4, Nat.le_trans h5 hk.size, ⟨cs, hk.at_ ha (by omega) (hm _ h3 h4), hk.rep hr fun b hb => hm b hb.1 hb.2⟩, h6⟩
theorem View.In.sim {w w' : World} {lo hi : Nat} {v : View} (h : v.In w lo hi) (hz : w.heap.size ≤ w'.heap.size) (hs : ∀ b, lo ≤ b → b < hi → SimC w w' b) : ∃ d', View.In w' lo hi { v with d := d' } := by
  obtain ⟨h1, h2, h3, h4, h5, ⟨cs, ha, hr⟩, h6⟩ := h
  obtain ⟨cs', ha', hs'⟩ := (hs _ h3 h4).at_ ha
  obtain ⟨d', hr', al⟩ := Rep.sim hz (fun b hb _ => hs b hb.1 hb.2) v.T cs cs' v.d hr hs'
  exact ⟨d', h1, h2, h3, h4, by omega, ⟨cs', ha', hr'⟩, Fits.alike h6 al rfl rfl⟩
/-- all of them -/
theorem views_sim {w w' : World} {lo hi : Nat} (hz : w.heap.size ≤ w'.heap.size) (hs : ∀ b, lo ≤ b → b < hi → SimC w w' b) : ∀ (vs : List View), (∀ v ∈ vs, View.In w lo hi v) → ∃ vs' : List View, vs'.map View.val = vs.map View.val ∧ ∀ v ∈ vs', View.In w' lo hi v
  | [], _ => ⟨[], rfl, fun v hv => absurd hv (by simp)⟩
  | v :: vs, h => by
    obtain ⟨d', hd⟩ := (h v (by simp)).sim hz hs
    obtain ⟨vs', he, hv⟩ := views_sim hz hs vs fun v hv => h v (by simp [hv])
    refine ⟨{ v with d := d' } :: vs', by simp only [List.map_cons, he]; rfl, fun u hu => ?_⟩
    rcases List.mem_cons.1 hu with rfl | hu
    · exact hd
    · exact hv u hu
theorem views_keep {M : Nat → Prop} {w w' : World} {lo hi : Nat} {vs : List View} (h : ∀ v ∈ vs, View.In w lo hi v) (hk : Keeps M w w') (hm : ∀ b, lo ≤ b → b < hi → ¬ M b) : ∀ v ∈ vs, View.In w' lo hi v := fun v hv => (h v hv).keeps hk hm

/-- a new variable, and what is stored in it -/
theorem step_new {P : Program} {ops : Array Oper} {rest : List Oper} {o1 o2 : Oper} {a : Act} {Q : Exit → Act → World → Prop} {w : World} {T : TypeId} {i : TypeInfo} {z : Value} {d1 : Nat} {y : Operand} {bs : List Value}
    (hg1 : o1.guard = none) (hg2 : o2.guard = none) (ho1 : o1.op = .alloc T) (hd1 : o1.dst = some d1) (ho2 : o2.op = .store T (.tmp d1) y) (hlt : d1 < a.tmps.size) (hy : (a.put (some d1) (.pointer (some ⟨w.heap.size, 0, none⟩))).eval y = .agg bs.toArray)
    (hi : P.info? T = some i) (hz : i.zero = some z) (hzl : z.cells.size = bs.length) (hsz : (P.info? T).map (·.size) = some bs.length) (hone : ∀ v ∈ bs, v.oneCell' = true)
    (h : ∀ w', Bk w' w.heap.size T bs → Below w.heap.size w w' → w'.heap.size = w.heap.size + 1 → Hid (wpList P ops Q rest ((a.put (some d1) (.pointer (some ⟨w.heap.size, 0, none⟩))).put o2.dst undef) w')) : wpList P ops Q (o1 :: o2 :: rest) a w := by
  refine step_alloc hg1 ho1 hi hz ?_
  generalize z.cells = zc at hzl ⊢
  rw [hd1]
  have e2 : (a.put (some d1) (.pointer (some ⟨w.heap.size, 0, none⟩))).eval (.tmp d1) = .pointer (some ⟨w.heap.size, 0, none⟩) := eval_put_same hlt
  have hbk : (w.alloc (.cells zc T)).heap[w.heap.size]? = some (.cells zc T (0, 0)) := heap_alloc_new w _
  have hst := run_storeCells_at P w.heap.size 0 T bs 0 zc _ hbk (by omega) hone
  have hrowEq : (zc.toList.take (0 + 0) ++ bs ++ zc.toList.drop (0 + 0 + bs.length)) = bs := by simp [← hzl]
  rw [hrowEq] at hst
  have hsize : (sizeOf T).run P (w.alloc (.cells zc T)) = .ok bs.length (w.alloc (.cells zc T)) := by
    cases hq : P.info? T with
    | none => simp [hq] at hsz
    | some i => simp [hq] at hsz; simp [sizeOf, typeInfo, hq, hsz]
  refine wpList_skip (w' := (w.alloc (.cells zc T)).setRow w.heap.size bs.toArray) hg2 ?_ (h _ (setRow_heap _ w.heap.size _ _ T _ hbk) ?_ ?_).out
  · simp only [execOp, ho2, hy, e2, Instr.storeAt, Instr.sureAddr, storeVar, Sem.run_bind, Sem.run_pure, Result.andThen_ok, hsize, Value.cells, List.size_toArray, ne_eq, not_true_eq_false, if_false, hst]
  · exact below_grown ((Below.refl _ w).alloc (Nat.le_refl _) _) (r := w.heap.size) ⟨rfl, rfl, rfl, by rw [setRow_size]; exact Nat.le_refl _, fun k hk hn => setRow_other _ _ _ _ (fun e => hn (by rw [e]))⟩ (by simp) (Nat.le_refl _)
  · rw [setRow_size]; simp

theorem run_call0 {P : Program} {ρ : Operand → Value} {o : Oper} {f : FuncId} {g x : Operand} {ats : Array TypeId} {fn : Func} {c : Code} {y : Value} (ho : o.op = .call { callee := .value g, args := #[x], argTypes := ats }) (hρ : ρ g = .func (.func f) #[] #[]) (hx : ρ x = y)
    (hf : P.funcs[f]? = some fn) (hname : (fn.name == "runtime.NumGoroutine") = false) (hb : fn.body = some c) (w : World) : (execOp ρ o).run P w = .ok (.enter f #[y]) w := by
  unfold execOp
  simp only [ho, resolve, Deferred.ofValue, hρ, hx, Sem.run_bind, Sem.run_pure, Result.andThen_ok, invoke, List.map_toArray, List.map_cons, List.map_nil, Array.empty_append, Array.append_empty]
  exact run_callFunc_goes hf hname hb _ _
/-- at a call of what a temporary holds -/
theorem at_call {P : Program} {ops : Array Oper} {Q : Exit → Act → World → Prop} {rest : List Oper} {o : Oper} {a : Act} {w : World} {g x : Operand} {ats : Array TypeId} {f : FuncId} {y : Value} {fn : Func} {c : Code} (hg : o.guard = none)
    (ho : o.op = .call { callee := .value g, args := #[x], argTypes := ats }) (hρ : a.eval g = .func (.func f) #[] #[]) (hx : a.eval x = y)
    (hf : P.funcs[f]? = some fn) (hname : (fn.name == "runtime.NumGoroutine") = false) (hb : fn.body = some c) (h : Hid (Calls P f #[y] w fun e w' => ∃ v, e = .returned v ∧ wpList P ops Q rest (a.put o.dst v) w')) : wpList P ops Q (o :: rest) a w :=
  wpList_enter (R := fun v w' => wpList P ops Q rest (a.put o.dst v) w') hg (run_call0 ho hρ hx hf hname hb w) h.out fun v w' h => h

theorem at_callv {P : Program} {ops : Array Oper} {Q : Exit → Act → World → Prop} {rest : List Oper} {o : Oper} {a : Act} {w : World} {g x : Operand} {ats : Array TypeId} {f : FuncId} {y cap : Value} {fn : Func} {c : Code} (hg : o.guard = none)
    (ho : o.op = .call { callee := .value g, args := #[x], argTypes := ats }) (hρ : a.eval g = .func (.func f) #[] #[cap]) (hx : a.eval x = y)
    (hf : P.funcs[f]? = some fn) (hname : (fn.name == "runtime.NumGoroutine") = false) (hb : fn.body = some c) (h : Hid (Calls P f #[y, cap] w fun e w' => ∃ v, e = .returned v ∧ wpList P ops Q rest (a.put o.dst v) w')) : wpList P ops Q (o :: rest) a w :=
  wpList_enter (R := fun v w' => wpList P ops Q rest (a.put o.dst v) w') hg (run_callv ho hρ hx hf hname hb w) h.out fun v w' h => h

theorem alloc_size (w : World) (o : Obj) : (w.alloc o).heap.size = w.heap.size + 1 := by simp
theorem infoTop : (Try.prog.info? 30).isSome = true := by kernel_rfl

set_option maxRecDepth 100000 in
set_option maxHeartbeats 1600000 in
theorem apart_goes (T : Ty) (gs : List FuncId) (hlook : Looks 6 T) (hown : Owns 5 true T) (hc : T.counts = true) (hm : T.most ≤ 1099511627776) (hs : T.mostS ≤ 1099511627776) (hw : (Try.prog.info? 30).map (·.size) = some T.width)
    (hcalls : ∀ g ∈ gs, Call 30 T g) (hfn : ∀ g ∈ gs, ∃ fn c, Try.prog.funcs[g]? = some fn ∧ (fn.name == "runtime.NumGoroutine") = false ∧ fn.body = some c) (w : World) (cs : List Value) (d : T.Data) (hr : Rep w (fun b => b < w.heap.size) T cs d) (gb c : Nat) (hgb : gb < w.heap.size) (hgs : At w gb 0 (gs.map fnVal)) (hgl : gs.length ≤ 1000) :
    Calls Try.prog 4 #[.agg cs.toArray, fnVal 5, fnVal 6, .slice (some ⟨gb, 0, none⟩) gs.length c] w fun e w' => e = .returned (.bool true) ∧ Below w.heap.size w w' := by
  have HC := Lib.hid hcalls
  have HR := Lib.hid hr
  have HG := Lib.hid hgs
  have hF : ∀ d' : T.Data, Fits T d' [] [] := fits_of hc hm hs
  have HF := Lib.hid hF
  have HW := Lib.hid hw
  have HFN := Lib.hid hfn
  clear hcalls hr hgs hF hc hm hs hw hfn
  obtain ⟨iz, hi, hz⟩ : ∃ i, Try.prog.info? 30 = some i ∧ i.zero.isSome = true := by
    have h : ((Try.prog.info? 30).map (·.zero.isSome)) = some true := by kernel_rfl
    obtain ⟨i, h1, h2⟩ := Option.map_eq_some_iff.1 h
    exact ⟨i, h1, h2⟩
  obtain ⟨zz, hz⟩ := Option.isSome_iff_exists.1 hz
  have hzl : ∀ n, (Try.prog.info? 30).map (·.size) = some n → zz.cells.size = n := by
    have h : ((Try.prog.info? 30).map fun i => i.zero.map (·.cells.size) == some i.size) = some true := by kernel_rfl
    intro n hn
    rw [hi] at h hn
    simp only [Option.map_some, Option.some.injEq, hz, beq_iff_eq] at h hn
    omega
  have HI := Lib.hid hi
  have HZ := Lib.hid hz
  have HZL := Lib.hid hzl
  clear hi hz hzl
  unfold fnVal
  go_enter Try.func4, Try.ntmps4
  go_wp2_with (refine step_box rfl rfl rfl ?_)
  have hb0 : Bk ((w.alloc (.cells cs.toArray 30)).alloc (.cells #[.slice none 0 0, .slice none 0 0, .bool false, .int .i64 0] 58)) w.heap.size 30 cs := (Bk.new w _ cs).alloc _
  have he0 : Bk ((w.alloc (.cells cs.toArray 30)).alloc (.cells #[.slice none 0 0, .slice none 0 0, .bool false, .int .i64 0] 58)) (w.heap.size + 1) 58 zeroEye := by
    have := Bk.new (w.alloc (.cells cs.toArray 30)) 58 zeroEye
    rw [alloc_size] at this
    exact this
  have hB0 : Below w.heap.size w ((w.alloc (.cells cs.toArray 30)).alloc (.cells #[.slice none 0 0, .slice none 0 0, .bool false, .int .i64 0] 58)) := ((Below.refl _ w).alloc (Nat.le_refl _) _).alloc (Nat.le_trans (Nat.le_refl _) ((Below.refl _ w).alloc (Nat.le_refl _) _).size) _
  have hz0 : ((w.alloc (.cells cs.toArray 30)).alloc (.cells #[.slice none 0 0, .slice none 0 0, .bool false, .int .i64 0] 58)).heap.size = w.heap.size + 2 := by rw [alloc_size, alloc_size]
  generalize ((w.alloc (.cells cs.toArray 30)).alloc (.cells #[.slice none 0 0, .slice none 0 0, .bool false, .int .i64 0] 58)) = w0 at hb0 he0 hB0 hz0 ⊢
  refine (hlook.plain he0.at_ he0.plain ⟨cs, hb0.at_, HR.out.below hB0⟩ (by omega) (by omega) (fun b hb => by omega) (HF.out d)).mono ?_
  rintro e wA ⟨rfl, hseen, hk, hpl⟩
  have hbA : Bk wA w.heap.size 30 cs := hk.bk hb0 (by omega)
  have hBA : Below w.heap.size w wA := hB0.trans (hk.below (by omega) (fun x hx => by omega))
  have hzA : w.heap.size + 2 ≤ wA.heap.size := by have := hk.size; omega
  rw [hz0] at hseen
  clear hb0 he0 hB0 hz0 hk w0 hpl
  obtain ⟨nv, sv, haA, hrn, hrs⟩ := id hseen
  have HGr := Lib.hid (great_goes wA _ _ nv sv (.bool false) (.int .i64 0) hrn.row hrs.row)
  have HA := Lib.hid haA
  have HS := Lib.hid hseen
  have HBk := Lib.hid hbA
  have HB := Lib.hid hBA
  clear haA hrn hrs hseen hbA hBA
  go_wp2_with (refine wpList_load_mid rfl 58 _ rfl (w.heap.size + 1) 0 rfl [nv, sv, .bool false, .int .i64 0] _ (fun j v hv => (HA.out j v hv).1) Try.underlying58 rfl (by kernel_rfl) ?_)
  refine HGr.out.mono ?_
  rintro e w1 ⟨⟨b, rfl, hfew⟩, hb1⟩
  have HFew := Lib.hid hfew
  have HB1 := Lib.hid hb1
  clear hfew hb1 HGr HA
  cases b
  · have hw1 : Below wA.heap.size wA w1 := HB1.out
    have hfew := Lib.hid (HFew.out rfl)
    go_wp2_with fail
    clear HFew
    go_loopw [10] (fun i wr => ∃ (k : Nat), i = .int .i64 k ∧ k ≤ gs.length ∧ Below wA.heap.size wA wr) (fun i _ => gs.length - (intOf i).toNat)
    case atStart => exact ⟨0, rfl, by omega, hw1⟩
    case round =>
      clear HB1 hw1 w1
      obtain ⟨k, rfl, hk, hbel⟩ := hrel
      have HBr := Lib.hid hbel
      have hzr := hbel.size
      have hzw := HB.out.size
      by_cases hlt : k < gs.length
      · have hcs : (Try.prog.info? 30).map (·.size) = some cs.length := by rw [HW.out, Rep.length _ _ _ HR.out]
        have HCS := Lib.hid hcs
        have HO := Lib.hid (hown wr _ cs d ((HR.out.below HB.out).below hbel))
        have hat := Lib.hid (HBk.out.below hbel).at_
        clear hbel hcs
        go_wp2_with (refine wpList_load_mid rfl 30 _ rfl w.heap.size 0 rfl cs _ (fun j v hv => (hat.out j v hv).1) Try.underlying30 rfl HCS.out ?_)
        refine HO.out.mono ?_
        rintro e w1 ⟨_, rfl, cs', rfl, hr1, hb1⟩
        clear HO hat
        have HR1 := Lib.hid hr1
        have HB1 := Lib.hid hb1
        have hz1 := hb1.size
        clear hr1 hb1
        have hcs' : (Try.prog.info? 30).map (·.size) = some cs'.length := by rw [HW.out, Rep.length _ _ _ HR1.out]
        have HCS' := Lib.hid hcs'
        clear hcs'
        simp only [valOf, if_true]
        go_wp2_with (refine step_new (T := 30) (y := .tmp 30) (bs := cs') rfl rfl rfl rfl rfl (by simp) rfl HI.out HZ.out (HZL.out _ HCS'.out) HCS'.out (Rep.one _ _ _ HR1.out) fun w2 b2 e2 z2 => ?_)
        have hin : gs[k] ∈ gs := List.getElem_mem _
        have hBg : Below w.heap.size w w2 := ((HB.out.trans (HBr.out.mono hzw)).trans (HB1.out.mono (by omega))).trans (e2.mono (by omega))
        have hcell : w2.cell? ⟨gb, k, none⟩ = some (.func (.func gs[k]) #[] #[]) := by
          have := (HG.out k (fnVal gs[k]) (by simp [hlt])).1
          rw [Nat.zero_add] at this
          exact (bcell' hBg hgb).trans this
        have hr2 : Rep w2 (fun b => wr.heap.size ≤ b ∧ b < w1.heap.size) T cs' d := (HR1.out.mono (S' := fun b => wr.heap.size ≤ b ∧ b < w1.heap.size) fun b h1 h2 => ⟨h1, h2⟩).below e2
        have HCL := Lib.hid (HC.out gs[k] hin w2 w1.heap.size _ cs' d b2 hr2 hfew.out (fun b hb => by omega))
        have HR2 := Lib.hid hr2
        have HBk2 := Lib.hid b2
        have HB2 := Lib.hid e2
        clear hr2 b2 e2 HR1 HCS' hin
        obtain ⟨fng, cg, hfg, hng, hbg⟩ := HFN.out gs[k] (List.getElem_mem _)
        refine Lib.hid ?_
        have HFG := Lib.hid hfg
        have HNG := Lib.hid hng
        have HBG := Lib.hid hbg
        clear hfg hng hbg
        go_wp2_with (refine at_call (f := gs[k]) (y := .pointer (some ⟨w1.heap.size, 0, none⟩)) rfl rfl rfl rfl HFG.out HNG.out HBG.out ?_)
        refine Lib.hid ?_
        refine HCL.out.mono ?_
        rintro e w3 ⟨A, c3, gb3, vs, rfl, hn3, hA3, hgL, hgT, hv3, hb3⟩
        refine ⟨_, rfl, ?_⟩
        have HV3 := Lib.hid hv3
        have HA3 := Lib.hid hA3
        have HB3 := Lib.hid hb3
        have hz3 := hb3.size
        clear hA3 hv3 hb3 HCL HFG HNG HBG hcell fng cg
        go_wp2_with fail
        let ez : Obj := .cells #[.slice none 0 0, .slice none 0 0, .bool false, .int .i64 0] 58
        have hk4 : Keeps (fun _ => False) w3 (((w3.alloc ez).alloc ez).alloc ez) := (keeps_below ((((Below.refl _ w3).alloc (Nat.le_refl _) ez).alloc (by simp) ez).alloc (by simp; omega) ez)).mono fun x hx h => absurd h (by omega)
        have e13 : Bk (((w3.alloc ez).alloc ez).alloc ez) w3.heap.size 58 zeroEye := ((Bk.new w3 _ zeroEye).alloc _).alloc _
        have e14 : Bk (((w3.alloc ez).alloc ez).alloc ez) (w3.heap.size + 1) 58 zeroEye := by
          have := (Bk.new (w3.alloc ez) 58 zeroEye).alloc ez
          rw [alloc_size] at this
          exact this
        have e15 : Bk (((w3.alloc ez).alloc ez).alloc ez) (w3.heap.size + 1 + 1) 58 zeroEye := by
          have := Bk.new ((w3.alloc ez).alloc ez) 58 zeroEye
          rw [alloc_size, alloc_size] at this
          exact this
        have hz4 : (((w3.alloc ez).alloc ez).alloc ez).heap.size = w3.heap.size + 3 := by rw [alloc_size, alloc_size, alloc_size]
        generalize hw4 : ((w3.alloc ez).alloc ez).alloc ez = w4 at hk4 e13 e14 e15 hz4 ⊢
        clear hw4 ez
        have hb24 : Keeps (fun _ => False) w2 w4 := ((keeps_below HB3.out).mono fun x hx h => absurd h (by omega)).trans hk4
        have hrep4 := hb24.rep HR2.out (fun _ _ h => h)
        have hbk4 := hb24.bk HBk2.out (fun h => h)
        have H4 := Lib.hid (hlook.plain e13.at_ e13.plain ⟨cs', hbk4.at_, hrep4⟩ (by omega) (by omega) (fun b hb => by omega) (HF.out d))
        refine H4.out.mono ?_
        rintro e w5 ⟨rfl, hseen5, hk5, hpl5⟩
        clear H4
        rw [hz4] at hseen5
        -- the callers' facts at w5
        have hk45 : Keeps (fun b => b = w3.heap.size) w3 w5 := (hk4.mono fun _ _ h => h.elim).trans hk5
        have hv5 := views_keep HV3.out hk45 (fun b h1 h2 => by omega)
        have hA5 : 0 < vs.length → A = some ⟨gb3, 0, none⟩ ∧ gb3 < w5.heap.size ∧ At w5 gb3 0 (vs.map View.val) := fun hp => by
          obtain ⟨h1, h2, h3⟩ := HA3.out hp
          exact ⟨h1, by have := hk45.size; omega, hk45.at_ h3 h2 (by omega)⟩
        have hz5 := hk5.size
        have HL := Lib.hid (look_goes w5 w2.heap.size gb3 c3 A vs hn3 hA5 fun v hv => (hv5 v hv).ok)
        have HV5 := Lib.hid hv5
        have HA5 := Lib.hid hA5
        have e14' := hk5.bk e14 (by omega)
        have e15' := hk5.bk e15 (by omega)
        have hrep5 := Lib.hid (hk5.rep hrep4 (fun b hb => by omega))
        have hbk5 := Lib.hid (hk5.bk hbk4 (by omega))
        have E14 := Lib.hid e14'
        have E15 := Lib.hid e15'
        have HS5 := Lib.hid hseen5
        clear hv5 hA5 e14' e15' e13 e14 e15 hrep4 hbk4 hseen5 HV3 HA3
        go_wp2_with fail
        refine HL.out.mono ?_
        rintro e w6 ⟨rfl, hr6⟩
        clear HL
        have HR6 := Lib.hid hr6
        have hz6 := hr6.bel.size
        clear hr6
        go_wp2_with fail
        have k67 : Keeps (fun _ => False) w6 (w6.alloc (.cells #[.slice none 0 0, .slice none 0 0, .bool true, .int .i64 0] 58)) := (keeps_below ((Below.refl _ w6).alloc (Nat.le_refl _) _)).mono fun x hx h => absurd h (by omega)
        have em : Bk (w6.alloc (.cells #[.slice none 0 0, .slice none 0 0, .bool true, .int .i64 0] 58)) w6.heap.size 58 (zeroEyeM 0) := Bk.new w6 _ (zeroEyeM 0)
        have hz7 : (w6.alloc (.cells #[.slice none 0 0, .slice none 0 0, .bool true, .int .i64 0] 58)).heap.size = w6.heap.size + 1 := alloc_size _ _
        generalize (w6.alloc (.cells #[.slice none 0 0, .slice none 0 0, .bool true, .int .i64 0] 58)) = w7 at k67 em hz7 ⊢
        have k57 : Keeps (fun _ => False) w5 w7 := ((keeps_below HR6.out.bel).mono fun x hx h => absurd h (by omega)).trans k67
        refine (hlook.marked em.at_ em.plain ⟨cs', k57.at_ hbk5.out.at_ (by omega) (fun h => h), k57.rep hrep5.out (fun _ _ h => h)⟩ (by omega) (by omega) (fun b hb => by omega) (HF.out d)).mono ?_
        rintro e w8 ⟨rfl, k78, hsim⟩
        obtain ⟨cs8, ha8, hsl⟩ := (hsim w1.heap.size (by omega) (by omega)).at_ (k57.at_ hbk5.out.at_ (by omega) (fun h => h))
        obtain ⟨d8, hr8, -⟩ := Rep.sim k78.size (fun b hb _ => hsim b (by omega) (by omega)) T cs' cs8 d (k57.rep hrep5.out (fun _ _ h => h)) hsl
        have hz8 := k78.size
        have k58 : Keeps (fun b => b ≤ w1.heap.size) w5 w8 := (k57.mono fun _ _ h => h.elim).then k78 fun x hx h => by omega
        have k68 : Keeps (fun b => b ≤ w1.heap.size) w6 w8 := (k67.mono fun _ _ h => h.elim).then k78 fun x hx h => by omega
        have kr8 : Keeps (fun b => wr.heap.size ≤ b) wr w8 := (((((keeps_below HB1.out).then (keeps_below HB2.out) fun x hx h => by omega).then (keeps_below HB3.out) fun x hx h => by omega).then hk45 fun x hx h => by omega).then k57 fun x hx h => h.elim).then k78 fun x hx h => by omega
        have hbelA : Below wA.heap.size wA wr := HBr.out
        have s9 : Seen w8 (w.heap.size + 2) (w.heap.size + 1) 0 (seeT T d ([], [])) := kr8.seen (HS.out.below hbelA) (by omega) (fun x h1 h2 => by omega)
        have s13 : Seen w8 (w3.heap.size + 3) w3.heap.size 0 (seeT T d ([], [])) := k58.seen HS5.out (by omega) (fun x h1 h2 => by omega)
        obtain ⟨nv9, sv9, at9, rn9, rs9⟩ := s9
        obtain ⟨nv13, sv13, at13, rn13, rs13⟩ := s13
        have HSame := Lib.hid (same_goes w8 _ _ _ _ nv9 sv9 (.bool false) (.int .i64 0) nv13 sv13 (.bool false) (.int .i64 0) rn9.row rs9.row rn13.row rs13.row)
        have A9 := Lib.hid at9
        have A13 := Lib.hid at13
        have K58 := Lib.hid k58
        have K68 := Lib.hid k68
        have Kr8 := Lib.hid kr8
        have R8 := Lib.hid hr8
        have HA8 := Lib.hid ha8
        clear at9 rn9 rs9 at13 rn13 rs13 k58 k68 kr8 hr8 ha8 hsl hsim k78 k57 k67 em hbelA hpl5 hb24 hk4 hk5 hk45
        go_wp2_with (first
          | refine wpList_load_mid rfl 58 _ rfl (w.heap.size + 1) 0 rfl [nv9, sv9, .bool false, .int .i64 0] _ (fun j v hv => (A9.out j v hv).1) Try.underlying58 rfl (by kernel_rfl) ?_
          | refine wpList_load_mid rfl 58 _ rfl w3.heap.size 0 rfl [nv13, sv13, .bool false, .int .i64 0] _ (fun j v hv => (A13.out j v hv).1) Try.underlying58 rfl (by kernel_rfl) ?_)
        refine HSame.out.mono ?_
        rintro e w9 ⟨⟨b, rfl, hb⟩, hb9⟩
        have hbt := Lib.hid hb
        clear hb HSame A9 A13
        obtain rfl : b = true := by simpa using hbt.out
        clear hbt
        have hz9 := hb9.size
        have k59 : Keeps (fun b => b ≤ w1.heap.size) w5 w9 := K58.out.then (keeps_below hb9) fun x hx h => by omega
        have hv9 := views_keep HV5.out k59 (fun b h1 h2 => by omega)
        have hA9 : 0 < vs.length → A = some ⟨gb3, 0, none⟩ ∧ gb3 < w9.heap.size ∧ At w9 gb3 0 (vs.map View.val) := fun hp => by
          obtain ⟨h1, h2, h3⟩ := HA5.out hp
          exact ⟨h1, by omega, k59.at_ h3 h2 (by omega)⟩
        have HL := Lib.hid (look_goes w9 w2.heap.size gb3 c3 A vs hn3 hA9 fun v hv => (hv9 v hv).ok)
        have HV9 := Lib.hid hv9
        have HA9 := Lib.hid hA9
        have HB9 := Lib.hid hb9
        clear hv9 hA9 hb9 k59 HA5 HV5
        go_wp2_with fail
        refine HL.out.mono ?_
        rintro e w10 ⟨rfl, hr10⟩
        clear HL
        have hz10 := hr10.bel.size
        have k610 : Keeps (fun b => b ≤ w1.heap.size) w6 w10 := (K68.out.then (keeps_below HB9.out) fun x hx h => by omega).then (keeps_below hr10.bel) fun x hx h => by omega
        have hal := alike_goes w10 vs.length (w5.heap.size + 1) (w9.heap.size + 1) w5.heap.size w9.heap.size vs.length vs.length (fun i => if h : i < vs.length then seeT vs[i].T vs[i].d ([], []) else ([], [])) (fun i => if h : i < vs.length then seeT vs[i].T vs[i].d ([], []) else ([], [])) hn3
          (fun i hi => by simp only [dif_pos hi]; exact k610.seen (HR6.out.done i hi hi) (by omega) (fun x h1 h2 => by omega)) (fun i hi => by simp only [dif_pos hi]; exact hr10.done i hi hi)
        have HAl := Lib.hid hal
        have HR10 := Lib.hid hr10
        clear hal hr10 k610 HR6 K68
        go_wp2_with fail
        refine HAl.out.mono ?_
        rintro e w11 ⟨⟨b, rfl, hb⟩, hb11⟩
        have hbt := Lib.hid hb
        clear hb HAl
        obtain rfl : b = true := by simpa using hbt.out
        clear hbt
        have hz11 := hb11.size
        have k811 : Keeps (fun _ => False) w8 w11 := (((keeps_below HB9.out).mono fun x hx h => absurd h (by omega)).then (keeps_below HR10.out.bel) fun x hx h => by omega).then (keeps_below hb11) fun x hx h => by omega
        have hv11 := Lib.hid (views_keep HV9.out ((keeps_below HR10.out.bel).then (keeps_below hb11) fun x hx h => by omega) (fun b h1 h2 => by omega))
        have K811 := Lib.hid k811
        have HB11 := Lib.hid (keeps_below hb11)
        clear hb11 k811
        go_wp2_with fail
        have e14' := K811.out.bk (K58.out.bk E14.out (by omega)) (fun h => h)
        have hat11 := K811.out.at_ HA8.out (by omega) (fun h => h)
        have hr11 := K811.out.rep R8.out (fun _ _ h => h)
        refine (hlook.plain e14'.at_ e14'.plain ⟨cs8, hat11, hr11⟩ (by omega) (by omega) (fun b hb => by omega) (HF.out d8)).mono ?_
        rintro e w12 ⟨rfl, hseen12, hk12, -⟩
        have S12 := Lib.hid hseen12
        have K12 := Lib.hid hk12
        have hz12 := hk12.size
        have hv12 := views_keep hv11.out hk12 (fun b h1 h2 => by omega)
        have HV12 := Lib.hid hv12
        clear hseen12 hk12 hv12 e14' hat11 hr11 hv11 E14
        have k912 : Keeps (fun b => b = w3.heap.size + 1) w9 w12 := (((keeps_below HR10.out.bel).mono fun x hx h => absurd h (by omega)).then HB11.out (fun x hx h => by omega)).then K12.out fun x hx h => h
        have hA12 : 0 < vs.length → A = some ⟨gb3, 0, none⟩ ∧ gb3 < w12.heap.size ∧ At w12 gb3 0 (vs.map View.val) := fun hp => by
          obtain ⟨h1, h2, h3⟩ := HA9.out hp
          exact ⟨h1, by omega, k912.at_ h3 h2 (by omega)⟩
        have HA12 := Lib.hid hA12
        have hall : Below wA.heap.size wA w12 := HBr.out.trans ((((Kr8.out.then K811.out fun x hx h => h.elim).then K12.out fun x hx h => by omega).below (Nat.le_refl _) fun x hx h => by omega).mono hzr)
        have HAll := Lib.hid hall
        have hzAL : wA.heap.size ≤ w2.heap.size := by omega
        clear k912 hA12 hall
        go_wp2_with fail
        have hnn : (vs.length : Int) ≤ 1000 := by omega
        go_loopw [17] (fun i wq => ∃ (j : Nat) (us : List View), i = .int .i64 j ∧ j ≤ vs.length ∧ Keeps (fun b => w2.heap.size ≤ b ∧ b < gb3) w12 wq ∧ us.map View.val = vs.map View.val ∧ ∀ v ∈ us, View.In wq w2.heap.size gb3 v) (fun i _ => vs.length - (intOf i).toNat)
        case atStart => exact ⟨0, vs, rfl, by omega, Keeps.refl _ _, rfl, HV12.out⟩
        case round =>
          obtain ⟨j, us, rfl, hj, hkq, hus, hvq⟩ := hrel
          have KQ := Lib.hid hkq
          have VQ := Lib.hid hvq
          have hlq : us.length = vs.length := by simpa using congrArg List.length hus
          have HUS := Lib.hid hus
          have hzq := hkq.size
          clear hkq hvq hus
          by_cases hjn : j < vs.length
          · obtain ⟨rfl, hgl, hga⟩ := HA12.out (by omega)
            have hju : j < us.length := by omega
            have huj : (us[j]).val = (vs[j]).val := by
              have := congrArg (fun l => l[j]?) HUS.out
              simpa [hju, hjn] using this
            have hcell : wr.cell? ⟨gb3, j, none⟩ = some (us[j]).val := by
              have h1 := KQ.out.at_ hga hgl (by omega)
              have h2 := (h1 j (vs[j]).val (by simp [hjn])).1
              rw [Nat.zero_add] at h2
              rw [huj]
              exact h2
            have hu := VQ.out us[j] (List.getElem_mem _)
            obtain ⟨fnu, cu, hfu, hnu, hbu⟩ := hu.fn
            have HU := Lib.hid hu
            have HFU := Lib.hid hfu
            have HNU := Lib.hid hnu
            have HBU := Lib.hid hbu
            unfold View.val at hcell
            clear hu hfu hnu hbu huj
            go_wp2_with (refine at_callv (f := us[j].h) (cap := .pointer (some ⟨us[j].pb, 0, none⟩)) (y := .pointer (some ⟨wr.heap.size, 0, none⟩)) rfl rfl rfl rfl HFU.out HNU.out HBU.out ?_)
            have kq : Keeps (fun _ => False) wr (wr.alloc (.cells #[.slice none 0 0, .slice none 0 0, .bool true, .int .i64 (1000000 * ((j : Int) + 1))] 58)) := (keeps_below ((Below.refl _ wr).alloc (Nat.le_refl _) _)).mono fun x hx h => absurd h (by omega)
            have em : Bk (wr.alloc (.cells #[.slice none 0 0, .slice none 0 0, .bool true, .int .i64 (1000000 * ((j : Int) + 1))] 58)) wr.heap.size 58 (zeroEyeM (1000000 * ((j : Int) + 1))) := Bk.new wr _ (zeroEyeM _)
            have hzm : (wr.alloc (.cells #[.slice none 0 0, .slice none 0 0, .bool true, .int .i64 (1000000 * ((j : Int) + 1))] 58)).heap.size = wr.heap.size + 1 := alloc_size _ _
            generalize (wr.alloc (.cells #[.slice none 0 0, .slice none 0 0, .bool true, .int .i64 (1000000 * ((j : Int) + 1))] 58)) = wm at kq em hzm ⊢
            have hVm := views_keep VQ.out kq (fun b _ _ h => h)
            have hum := hVm us[j] (List.getElem_mem _)
            have htop := hum.top
            have hpb := hum.lt
            have hpl := hum.le
            refine Lib.hid ?_
            refine (HU.out.looks.marked em.at_ em.plain hum.place (by omega) (by omega) (fun b hb => by omega) hum.fits).mono ?_
            rintro e wn ⟨rfl, kmn, hsim⟩
            have hzn := kmn.size
            obtain ⟨us', hus', hV'⟩ := views_sim (lo := w2.heap.size) (hi := gb3) hzn (fun b h1 h2 => hsim b (by omega) (by omega)) us hVm
            have KN := Lib.hid ((KQ.out.then kq fun x hx h => h.elim).then kmn fun x hx h => by omega)
            have HV' := Lib.hid hV'
            have HUS' := Lib.hid (hus'.trans HUS.out)
            refine ⟨_, rfl, ?_⟩
            clear hVm hum hpb hpl htop kmn hsim hV' hus' kq em HU HFU HNU HBU fnu cu hcell VQ HUS KQ
            go_wp2_with fail
            go_roundw
            case rel => exact ⟨j + 1, us', by go_num, by omega, KN.out, HUS'.out, HV'.out⟩
            case measure => simp [intOf]; omega
          · have e15' := KQ.out.bk (K12.out.bk (K811.out.bk (K58.out.bk E15.out (by omega)) (fun h => h)) (by omega)) (by omega)
            have hat15 := KQ.out.at_ (K12.out.at_ (K811.out.at_ HA8.out (by omega) (fun h => h)) (by omega) (by omega)) (by omega) (by omega)
            have hr15 := KQ.out.rep (K12.out.rep (K811.out.rep R8.out (fun _ _ h => h)) (fun b hb => by omega)) (fun b hb => by omega)
            have HX := Lib.hid (hlook.plain e15'.at_ e15'.plain ⟨cs8, hat15, hr15⟩ (by omega) (by omega) (fun b hb => by omega) (HF.out d8))
            have HS14 := Lib.hid (KQ.out.seen S12.out (by omega) (fun x h1 h2 => by omega))
            clear e15' hat15 hr15 VQ HUS
            go_wp2_with fail
            refine HX.out.mono ?_
            rintro e w16 ⟨rfl, hs16, k16, -⟩
            obtain ⟨nv14, sv14, at14, rn14, rs14⟩ := k16.seen HS14.out (by omega) (fun x h1 h2 => by omega)
            obtain ⟨nv15, sv15, at15, rn15, rs15⟩ := hs16
            have HSame := Lib.hid (same_goes w16 _ _ _ _ nv14 sv14 (.bool false) (.int .i64 0) nv15 sv15 (.bool false) (.int .i64 0) rn14.row rs14.row rn15.row rs15.row)
            have A14 := Lib.hid at14
            have A15 := Lib.hid at15
            have hz16 := k16.size
            have HEnd := Lib.hid (HAll.out.trans ((((KQ.out.mono (M' := fun b => wA.heap.size ≤ b) fun x hx h => by omega).then k16 fun x hx h => by omega).below (lo := wA.heap.size) (by omega) fun x hx h => by omega)))
            clear at14 rn14 rs14 at15 rn15 rs15 HX HS14 k16
            go_wp2_with (first
              | refine wpList_load_mid rfl 58 _ rfl (w3.heap.size + 1) 0 rfl [nv14, sv14, .bool false, .int .i64 0] _ (fun j v hv => (A14.out j v hv).1) Try.underlying58 rfl (by kernel_rfl) ?_
              | refine wpList_load_mid rfl 58 _ rfl (w3.heap.size + 1 + 1) 0 rfl [nv15, sv15, .bool false, .int .i64 0] _ (fun j v hv => (A15.out j v hv).1) Try.underlying58 rfl (by kernel_rfl) ?_)
            refine HSame.out.mono ?_
            rintro e w17 ⟨⟨b, rfl, hb⟩, hb17⟩
            have hbt := Lib.hid hb
            clear hb HSame A14 A15
            obtain rfl : b = true := by simpa using hbt.out
            clear hbt
            have HE := Lib.hid (HEnd.out.trans (hb17.mono (by omega)))
            clear hb17
            go_wp2_with fail
            go_roundw
            case rel => exact ⟨k + 1, by go_num, by omega, HE.out⟩
            case measure => simp [intOf]; omega
      · go_wp2_with fail
        go_ret
        exact ⟨rfl, HB.out.trans (HBr.out.mono (by omega))⟩
  · go_wp2_with fail
    go_ret
    exact ⟨rfl, HB.out.trans (HB1.out.mono HB.out.size)⟩
end Go.Proofs.Ytjmohkgbfigcgaa.Sh
