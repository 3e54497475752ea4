/- The eye of the statements: what it holds, what a look may change, and how data vary under a mark. -/
import Derived.Test.YtjmohkgbfigcgaaRep
import Derived.Laws.AppendOwn
import Derived.Laws.OwnMore
namespace Go.Proofs.Ytjmohkgbfigcgaa.Sh
open Go Go.RowKit
set_option linter.unusedVariables false

/-- what a look adds to the numbers and the strings that were seen -/
def seeL {α : Type} (one : α → List Int × List ByteArray → List Int × List ByteArray) : List α → List Int × List ByteArray → List Int × List ByteArray
  | [], st => st
  | d :: ds, st => if st.1.length < 200000 then seeL one ds (one d st) else st
def seeT : (T : Ty) → T.Data → List Int × List ByteArray → List Int × List ByteArray
  | .int _, n, st => (st.1 ++ [n], st.2)
  | .bool, b, st => (st.1 ++ [if b then 1 else 0], st.2)
  | .str, s, st => (st.1, st.2 ++ [s])
  | .sl e _, ds, st => seeL (seeT e) ds (st.1 ++ [(ds.length : Int)], st.2)
  | .nil, _, st => st
  | .cons a b, d, st => seeT b d.2 (seeT a d.1 st)

def ints (ns : List Int) : List Value := ns.map (Value.int .i64)
def strs (ss : List ByteArray) : List Value := ss.map Value.string
theorem ints_length (ns : List Int) : (ints ns).length = ns.length := by simp [ints]
theorem strs_length (ss : List ByteArray) : (strs ss).length = ss.length := by simp [strs]

/-- an eye at a place: its rows are its own, in blocks from B on -/
structure EyeAt (w : World) (B eb eo : Nat) (ns : List Int) (ss : List ByteArray) (mk : Bool) (at_ : Int) (nv sv : Value) : Prop where
  n : w.cell? ⟨eb, eo, none⟩ = some nv
  s : w.cell? ⟨eb, eo + 1, none⟩ = some sv
  mark : w.cell? ⟨eb, eo + 2, none⟩ = some (.bool mk)
  at_ : w.cell? ⟨eb, eo + 3, none⟩ = some (.int .i64 at_)
  plain : Plain w eb
  rn : w.ownsRow B 3 1 nv ns.length (ints ns)
  rs : w.ownsRow B 9 1 sv ss.length (strs ss)
  lt : eb < B
  le : B ≤ w.heap.size

/-- which values may stand for one another behind a mark -/
def SimV : Value → Value → Prop
  | .int k a, v => ∃ b, v = .int k b ∧ k.min ≤ b ∧ b ≤ k.max
  | .bool a, v => ∃ b, v = .bool b
  | .string a, v => ∃ b, v = .string b ∧ b.size ≤ big
  | u, v => v = u
/-- cells that vary -/
def SimL (cs cs' : List Value) : Prop := cs'.length = cs.length ∧ ∀ (j : Nat) (v : Value), cs[j]? = some v → ∃ v' : Value, cs'[j]? = some v' ∧ (v' = v ∨ SimV v v')
def SimC (w w' : World) (b : Nat) : Prop := ∀ (o : Nat) (v : Value), w.cell? ⟨b, o, none⟩ = some v → ∃ v' : Value, (w'.cell? ⟨b, o, none⟩ = some v' ∧ w'.frozen? ⟨b, o, none⟩ = w.frozen? ⟨b, o, none⟩) ∧ (v' = v ∨ SimV v v')

theorem SimV.trans {a b c : Value} (h : b = a ∨ SimV a b) (k : c = b ∨ SimV b c) : c = a ∨ SimV a c := by
  rcases h with rfl | h
  · exact k
  · rcases k with rfl | k
    · exact .inr h
    · right
      cases a with
      | int ka n => obtain ⟨m, rfl, _⟩ := h; exact k
      | bool n => obtain ⟨m, rfl⟩ := h; exact k
      | string n => obtain ⟨m, rfl, _⟩ := h; exact k
      | _ => (have h' : b = _ := h; subst h'; exact k)

/-- What a look may change: below B nothing but the eye's own four cells; blocks of M may vary. -/
structure Vary (M : Nat → Prop) (B eb eo : Nat) (w w' : World) : Prop where
  os : w'.os = w.os
  tape : w'.tape = w.tape
  output : w'.output = w.output
  size : w.heap.size ≤ w'.heap.size
  block : ∀ b, b < B → b ≠ eb → ¬ M b → w'.heap[b]? = w.heap[b]?
  vary : ∀ b, b < B → b ≠ eb → M b → SimC w w' b
  plain : ∀ b, b < B → Plain w b → Plain w' b
  eye : ∀ x, x < eo ∨ eo + 4 ≤ x → w'.cell? ⟨eb, x, none⟩ = w.cell? ⟨eb, x, none⟩

theorem SimC.refl (w : World) (b : Nat) : SimC w w b := fun o v h => ⟨v, ⟨h, rfl⟩, .inl rfl⟩
theorem SimC.of_eq {w w' : World} {b : Nat} (h : w'.heap[b]? = w.heap[b]?) : SimC w w' b :=
  fun o v hv => ⟨v, ⟨(World.cell?_of_block (w := w) (a := ⟨b, o, none⟩) h).trans hv, World.frozen?_of_block (w := w) (a := ⟨b, o, none⟩) h⟩, .inl rfl⟩
theorem SimC.trans {a b c : World} {k : Nat} (h : SimC a b k) (h' : SimC b c k) : SimC a c k := fun o v hv => by
  obtain ⟨v1, h1, e1⟩ := h o v hv
  obtain ⟨v2, h2, e2⟩ := h' o v1 h1.1
  exact ⟨v2, ⟨h2.1, h2.2.trans h1.2⟩, SimV.trans e1 e2⟩
theorem Vary.refl (M : Nat → Prop) (B eb eo : Nat) (w : World) : Vary M B eb eo w w :=
  ⟨rfl, rfl, rfl, Nat.le_refl _, fun _ _ _ _ => rfl, fun b _ _ _ => SimC.refl w b, fun _ _ h => h, fun _ _ => rfl⟩
theorem Vary.trans {M : Nat → Prop} {B eb eo : Nat} {a b c : World} (h : Vary M B eb eo a b) (k : Vary M B eb eo b c) : Vary M B eb eo a c :=
  ⟨k.os.trans h.os, k.tape.trans h.tape, k.output.trans h.output, Nat.le_trans h.size k.size, fun i h1 h2 h3 => (k.block i h1 h2 h3).trans (h.block i h1 h2 h3),
    fun i h1 h2 h3 => (h.vary i h1 h2 h3).trans (k.vary i h1 h2 h3), fun i h1 h2 => k.plain i h1 (h.plain i h1 h2), fun x hx => (k.eye x hx).trans (h.eye x hx)⟩
theorem Vary.mono {M M' : Nat → Prop} {B eb eo : Nat} {a b : World} (h : Vary M B eb eo a b) (k : ∀ b, M b → M' b) : Vary M' B eb eo a b :=
  ⟨h.os, h.tape, h.output, h.size, fun i h1 h2 h3 => h.block i h1 h2 fun hm => h3 (k i hm), fun i h1 h2 h3 => by
    by_cases hm : M i
    · exact h.vary i h1 h2 hm
    · exact SimC.of_eq (h.block i h1 h2 hm), h.plain, h.eye⟩
theorem Vary.at_ {M : Nat → Prop} {B eb eo : Nat} {w w' : World} (h : Vary M B eb eo w w') {b o : Nat} {cs : List Value} (ha : At w b o cs) (h1 : b < B) (h2 : b ≠ eb) (h3 : ¬ M b) : At w' b o cs :=
  ha.frame (h.block b h1 h2 h3)
theorem Vary.rep {M : Nat → Prop} {B eb eo : Nat} {w w' : World} (h : Vary M B eb eo w w') {S : Nat → Prop} {T : Ty} {cs : List Value} {d : T.Data} (hr : Rep w S T cs d) (hs : ∀ b, S b → b < B ∧ b ≠ eb ∧ ¬ M b) : Rep w' S T cs d :=
  Rep.frame T cs d hr fun b hb _ => ⟨h.block b (hs b hb).1 (hs b hb).2.1 (hs b hb).2.2, hb⟩

theorem SimL.refl (cs : List Value) : SimL cs cs := ⟨rfl, fun j v h => ⟨v, h, .inl rfl⟩⟩
/-- what stands at a place behind a change -/
theorem SimC.at_ {w w' : World} {b o : Nat} {cs : List Value} (h : SimC w w' b) (ha : At w b o cs) : ∃ cs', At w' b o cs' ∧ SimL cs cs' := by
  induction cs generalizing o with
  | nil => exact ⟨[], At.nil _ _ _, SimL.refl _⟩
  | cons v cs ih =>
    have h0 := ha 0 v rfl
    rw [Nat.add_zero] at h0
    obtain ⟨v', hv', e⟩ := h o v h0.1
    obtain ⟨cs', h1, h2⟩ := ih (o := o + 1) (fun j u hu => by have := ha (j + 1) u hu; rwa [show o + (j + 1) = o + 1 + j by omega] at this)
    refine ⟨v' :: cs', fun j u hu => ?_, by simp [h2.1], fun j u hu => ?_⟩
    · cases j with
      | zero => simp at hu; subst hu; exact ⟨hv'.1, hv'.2.trans h0.2⟩
      | succ j => have := h1 j u hu; rwa [show o + 1 + j = o + (j + 1) by omega] at this
    · cases j with
      | zero => simp at hu; subst hu; exact ⟨v', rfl, e⟩
      | succ j => exact h2.2 j u hu
theorem SimL.append {xs ys cs' : List Value} (h : SimL (xs ++ ys) cs') : ∃ xs' ys', cs' = xs' ++ ys' ∧ SimL xs xs' ∧ SimL ys ys' := by
  have hl := h.1
  rw [List.length_append] at hl
  refine ⟨cs'.take xs.length, cs'.drop xs.length, (List.take_append_drop _ _).symm, ⟨by rw [List.length_take]; omega, fun j v hv => ?_⟩, ⟨by rw [List.length_drop]; omega, fun j v hv => ?_⟩⟩
  · have hj : j < xs.length := by
      rcases Nat.lt_or_ge j xs.length with h | h
      · exact h
      · simp [List.getElem?_eq_none h] at hv
    obtain ⟨v', h1, h2⟩ := h.2 j v (by rw [List.getElem?_append_left hj]; exact hv)
    exact ⟨v', by rw [List.getElem?_take, if_pos hj]; exact h1, h2⟩
  · obtain ⟨v', h1, h2⟩ := h.2 (xs.length + j) v (by rw [List.getElem?_append_right (by omega)]; simpa using hv)
    exact ⟨v', by rw [List.getElem?_drop]; exact h1, h2⟩
theorem SimL.seg {xs xs' : List Value} (h : SimL xs xs') (i k : Nat) : SimL ((xs.drop i).take k) ((xs'.drop i).take k) := by
  refine ⟨by simp only [List.length_take, List.length_drop, h.1], fun j v hv => ?_⟩
  rw [List.getElem?_take] at hv ⊢
  split at hv
  · rename_i hj
    rw [if_pos hj]
    rw [List.getElem?_drop] at hv ⊢
    exact h.2 _ v hv
  · cases hv
theorem SimL.one {v : Value} {cs' : List Value} (h : SimL [v] cs') : ∃ v', cs' = [v'] ∧ (v' = v ∨ SimV v v') := by
  obtain ⟨v', h1, h2⟩ := h.2 0 v rfl
  have hl := h.1
  match cs', hl with
  | [x], _ => exact ⟨x, rfl, by simp at h1; subst h1; exact h2⟩

/-- the same places -/
def Alike : (T : Ty) → T.Data → T.Data → Prop
  | .sl e _, ds, ds' => ds'.length = ds.length ∧ ∀ i (h : i < ds.length) (h' : i < ds'.length), Alike e ds[i] ds'[i]
  | .cons a b, d, d' => Alike a d.1 d'.1 ∧ Alike b d.2 d'.2
  | _, _, _ => True
theorem Alike.refl : (T : Ty) → (d : T.Data) → Alike T d d
  | .int _, _ => trivial
  | .bool, _ => trivial
  | .str, _ => trivial
  | .nil, _ => trivial
  | .sl e _, ds => ⟨rfl, fun i h _ => Alike.refl e ds[i]⟩
  | .cons a b, d => ⟨Alike.refl a d.1, Alike.refl b d.2⟩
theorem Alike.trans : (T : Ty) → (d d' d'' : T.Data) → Alike T d d' → Alike T d' d'' → Alike T d d''
  | .int _, _, _, _, _, _ => trivial
  | .bool, _, _, _, _, _ => trivial
  | .str, _, _, _, _, _ => trivial
  | .nil, _, _, _, _, _ => trivial
  | .sl e _, ds, ds', ds'', h, k => ⟨k.1.trans h.1, fun i hi hi' => Alike.trans e _ _ _ (h.2 i hi (by rw [h.1]; exact hi)) (k.2 i (by rw [h.1]; exact hi) hi')⟩
  | .cons a b, d, d', d'', h, k => ⟨Alike.trans a _ _ _ h.1 k.1, Alike.trans b _ _ _ h.2 k.2⟩
/-- behind a change the same places can be read -/
theorem Rep.sim {w w' : World} {S : Nat → Prop} (hz : w.heap.size ≤ w'.heap.size) (hS : ∀ b, S b → b < w.heap.size → SimC w w' b) : ∀ (T : Ty) (cs cs' : List Value) (d : T.Data), Rep w S T cs d → SimL cs cs' → ∃ d', Rep w' S T cs' d' ∧ Alike T d d'
  | .int k, cs, cs', n, h, hs => by
    obtain ⟨rfl, h1, h2⟩ := h
    obtain ⟨v', rfl, e⟩ := hs.one
    rcases e with rfl | ⟨b, rfl, h3, h4⟩
    · exact ⟨n, ⟨rfl, h1, h2⟩, trivial⟩
    · exact ⟨b, ⟨rfl, h3, h4⟩, trivial⟩
  | .bool, cs, cs', n, h, hs => by
    obtain rfl : cs = _ := h
    obtain ⟨v', rfl, e⟩ := hs.one
    rcases e with rfl | ⟨b, rfl⟩
    · exact ⟨n, rfl, trivial⟩
    · exact ⟨b, rfl, trivial⟩
  | .str, cs, cs', n, h, hs => by
    obtain ⟨rfl, h1⟩ := h
    obtain ⟨v', rfl, e⟩ := hs.one
    rcases e with rfl | ⟨b, rfl, h3⟩
    · exact ⟨n, ⟨rfl, h1⟩, trivial⟩
    · exact ⟨b, ⟨rfl, h3⟩, trivial⟩
  | .nil, cs, cs', n, h, hs => by
    obtain rfl : cs = _ := h
    have : cs' = [] := List.eq_nil_of_length_eq_zero hs.1
    exact ⟨(), this, trivial⟩
  | .cons a b, cs, cs', d, h, hs => by
    obtain ⟨c1, c2, rfl, h1, h2⟩ := h
    obtain ⟨x1, x2, rfl, s1, s2⟩ := hs.append
    obtain ⟨d1, r1, a1⟩ := Rep.sim hz hS a _ _ _ h1 s1
    obtain ⟨d2, r2, a2⟩ := Rep.sim hz hS b _ _ _ h2 s2
    exact ⟨(d1, d2), ⟨x1, x2, rfl, r1, r2⟩, a1, a2⟩
  | .sl e nb, cs, cs', ds, h, hs => by
    obtain ⟨a, cap, news, rfl, h1, h2, h3, h4, h5, h6⟩ := h
    obtain ⟨v', rfl, ev⟩ := hs.one
    obtain rfl : v' = .slice a ds.length cap := by
      rcases ev with rfl | ev
      · rfl
      · exact ev
    have key : ∃ news', SimL news news' ∧ (0 < ds.length → ∃ b o, a = some ⟨b, o, none⟩ ∧ S b ∧ b < w'.heap.size ∧ At w' b o news') := by
      rcases Nat.eq_zero_or_pos ds.length with h0 | h0
      · exact ⟨news, SimL.refl _, fun hp => by omega⟩
      · obtain ⟨b, o, rfl, hb, hl, ha⟩ := h5 h0
        obtain ⟨news', ha', hs'⟩ := (hS b hb hl).at_ ha
        exact ⟨news', hs', fun _ => ⟨b, o, rfl, hb, Nat.lt_of_lt_of_le hl hz, ha'⟩⟩
    obtain ⟨news', hs', ha'⟩ := key
    have hex : ∀ i : Fin ds.length, ∃ d' : e.Data, Rep w' S e ((news'.drop (i * e.width)).take e.width) d' ∧ Alike e ds[i] d' := fun i =>
      Rep.sim hz hS e _ _ _ (h6 i i.2) (hs'.seg (i * e.width) e.width)
    obtain ⟨f, hf⟩ := Classical.axiomOfChoice hex
    have hl : (List.ofFn f).length = ds.length := List.length_ofFn
    refine ⟨List.ofFn f, ⟨a, cap, news', by rw [hl], by rw [hl]; exact h1, h2, by rw [hl]; exact h3, by rw [hl, hs'.1]; exact h4, by rw [hl]; exact ha', fun i hi => ?_⟩, hl, fun i hi hi' => ?_⟩
    · rw [hl] at hi
      rw [List.getElem_ofFn]
      exact (hf ⟨i, hi⟩).1
    · rw [List.getElem_ofFn]
      exact (hf ⟨i, hi⟩).2
/-- how long the eye's rows are behind a look: by the places alone -/
theorem seeL_len {e : Ty} (ih : ∀ d d' : e.Data, Alike e d d' → ∀ st st', st.1.length = st'.1.length → st.2.length = st'.2.length → (seeT e d st).1.length = (seeT e d' st').1.length ∧ (seeT e d st).2.length = (seeT e d' st').2.length) :
    ∀ (ds ds' : List e.Data), ds'.length = ds.length → (∀ i (h : i < ds.length) (h' : i < ds'.length), Alike e ds[i] ds'[i]) → ∀ st st', st.1.length = st'.1.length → st.2.length = st'.2.length →
      (seeL (seeT e) ds st).1.length = (seeL (seeT e) ds' st').1.length ∧ (seeL (seeT e) ds st).2.length = (seeL (seeT e) ds' st').2.length
  | [], [], _, _, st, st', h1, h2 => ⟨h1, h2⟩
  | d :: ds, d' :: ds', hl, ha, st, st', h1, h2 => by
    simp only [seeL]
    rw [h1]
    split
    · have hd := ih d d' (ha 0 (by simp) (by simp)) st st' h1 h2
      exact seeL_len ih ds ds' (by simpa using hl) (fun i h h' => ha (i + 1) (by simpa using h) (by simpa using h')) _ _ hd.1 hd.2
    · exact ⟨h1, h2⟩
theorem seeT_len : (T : Ty) → ∀ d d' : T.Data, Alike T d d' → ∀ st st', st.1.length = st'.1.length → st.2.length = st'.2.length → (seeT T d st).1.length = (seeT T d' st').1.length ∧ (seeT T d st).2.length = (seeT T d' st').2.length
  | .int _, d, d', _, st, st', h1, h2 => by simp [seeT, h1, h2]
  | .bool, d, d', _, st, st', h1, h2 => by simp [seeT, h1, h2]
  | .str, d, d', _, st, st', h1, h2 => by simp [seeT, h1, h2]
  | .nil, d, d', _, st, st', h1, h2 => ⟨h1, h2⟩
  | .cons a b, d, d', h, st, st', h1, h2 => by
    have ha := seeT_len a d.1 d'.1 h.1 st st' h1 h2
    exact seeT_len b d.2 d'.2 h.2 _ _ ha.1 ha.2
  | .sl e _, ds, ds', h, st, st', h1, h2 => by
    simp only [seeT]
    exact seeL_len (seeT_len e) ds ds' h.1 h.2 _ _ (by simp [h1]) h2
/-- a look adds only -/
theorem seeL_le {e : Ty} (ih : ∀ (d : e.Data) st, st.1.length ≤ (seeT e d st).1.length ∧ st.2.length ≤ (seeT e d st).2.length) :
    ∀ (ds : List e.Data) st, st.1.length ≤ (seeL (seeT e) ds st).1.length ∧ st.2.length ≤ (seeL (seeT e) ds st).2.length
  | [], st => ⟨Nat.le_refl _, Nat.le_refl _⟩
  | d :: ds, st => by
    simp only [seeL]
    split
    · have h1 := ih d st
      have h2 := seeL_le ih ds (seeT e d st)
      exact ⟨Nat.le_trans h1.1 h2.1, Nat.le_trans h1.2 h2.2⟩
    · exact ⟨Nat.le_refl _, Nat.le_refl _⟩
theorem seeT_le : (T : Ty) → ∀ (d : T.Data) st, st.1.length ≤ (seeT T d st).1.length ∧ st.2.length ≤ (seeT T d st).2.length
  | .int _, d, st => by simp [seeT]
  | .bool, d, st => by simp [seeT]
  | .str, d, st => by simp [seeT]
  | .nil, d, st => ⟨Nat.le_refl _, Nat.le_refl _⟩
  | .cons a b, d, st => by
    have h1 := seeT_le a d.1 st
    have h2 := seeT_le b d.2 (seeT a d.1 st)
    exact ⟨Nat.le_trans h1.1 h2.1, Nat.le_trans h1.2 h2.2⟩
  | .sl e _, ds, st => by
    have h := seeL_le (seeT_le e) ds (st.1 ++ [(ds.length : Int)], st.2)
    simp only [List.length_append] at h
    exact ⟨Nat.le_trans (Nat.le_add_right _ _) h.1, h.2⟩
/-- the eye's bounds behind a look -/
def Fits (T : Ty) (d : T.Data) (ns : List Int) (ss : List ByteArray) : Prop := (seeT T d (ns, ss)).1.length ≤ 1099511627776 ∧ (seeT T d (ns, ss)).2.length ≤ 1099511627776
theorem Fits.alike {T : Ty} {d d' : T.Data} {ns ns' : List Int} {ss ss' : List ByteArray} (h : Fits T d ns ss) (ha : Alike T d d') (h1 : ns'.length = ns.length) (h2 : ss'.length = ss.length) : Fits T d' ns' ss' := by
  have hl := seeT_len T d d' ha (ns, ss) (ns', ss') h1.symm h2.symm
  exact ⟨by rw [← hl.1]; exact h.1, by rw [← hl.2]; exact h.2⟩

/-- rows of two types are two rows -/
theorem rows_ne {w : World} {b b' : Nat} {e e' : TypeId} {s s' n n' : Nat} {v v' : Value} {xs xs' : List Value} (h : w.ownsRow b e s v n xs) (h' : w.ownsRow b' e' s' v' n' xs') (hne : e ≠ e') : v.ownBlock = none ∨ v.ownBlock ≠ v'.ownBlock := by
  rcases h.2 with ⟨rfl, _⟩ | ⟨g, cap, cur, rfl, _, hh, _⟩
  · exact .inl rfl
  · refine .inr fun hk => ?_
    rcases h'.2 with ⟨rfl, _⟩ | ⟨g', cap', cur', rfl, _, hh', _⟩
    · simp [Value.ownBlock] at hk
    · have : g = g' := by simpa [Value.ownBlock] using hk
      subst this
      rw [hh] at hh'
      injection hh' with hh'
      injection hh' with _ ht
      exact hne ht

theorem owns_lt {w : World} {b : Nat} {e : TypeId} {s n : Nat} {v : Value} {xs : List Value} (h : w.ownsRow b e s v n xs) : ∀ k, v.ownBlock = some k → b ≤ k := fun k hk => (h.lt k hk).1
theorem plain_setCell {w : World} {b : Nat} (h : Plain w b) (a : Addr) (v : Value) : Plain (w.setCell a v) b := by
  obtain ⟨c, e, h⟩ := h
  by_cases hb : b = a.block
  · subst hb
    exact ⟨_, e, by simp only [World.setCell, Array.getElem?_modify, if_true, h, Option.map_some]; rfl⟩
  · exact ⟨c, e, by rw [Below.heap_setCell _ _ _ _ hb]; exact h⟩

/-- one of the eye's rows has been appended to, and its cell written -/
theorem eye_push {w w0 w1 : World} {B eb eo k : Nat} {ns : List Int} {ss : List ByteArray} {mk : Bool} {at_ : Int} {nv sv v v1 : Value}
    (he : EyeAt w B eb eo ns ss mk at_ nv sv) (hb : Below w.heap.size w w0) (hg : w0.grownBy w1 v.ownBlock) (hk : k < 4) (hv : ∀ j, v.ownBlock = some j → B ≤ j) :
    let w2 := w1.setCell ⟨eb, eo + k, none⟩ v1
    Vary (fun _ => False) B eb eo w w2 ∧ Plain w2 eb ∧ B ≤ w2.heap.size ∧ w2.cell? ⟨eb, eo + k, none⟩ = some v1 ∧ (∀ x, x ≠ eo + k → w2.cell? ⟨eb, x, none⟩ = w.cell? ⟨eb, x, none⟩) ∧
      (∀ e s u n xs, w.ownsRow B e s u n xs → (u.ownBlock = none ∨ u.ownBlock ≠ v.ownBlock) → w2.ownsRow B e s u n xs) := by
  intro w2
  have hle := he.le
  have hlt := he.lt
  have hz0 := hb.size
  have hz1 := hg.size
  have hz2 : w2.heap.size = w1.heap.size := by simp [w2, World.setCell]
  have hold1 : ∀ b, b < B → w1.heap[b]? = w.heap[b]? := fun b hbB => by
    rw [hg.block b (by omega) (fun e => by have := hv b e.symm; omega)]
    exact hb.block b (by omega)
  have hold : ∀ b, b < B → b ≠ eb → w2.heap[b]? = w.heap[b]? := fun b hbB hne => (Below.heap_setCell w1 _ _ _ hne).trans (hold1 b hbB)
  have hp1 : Plain w1 eb := he.plain.frame (hold1 eb hlt)
  have hc : w1.cell? ⟨eb, eo + k, none⟩ ≠ none := by
    rw [World.cell?_of_block (w := w) (a := ⟨eb, eo + k, none⟩) (hold1 eb hlt)]
    have h4 : k = 0 ∨ k = 1 ∨ k = 2 ∨ k = 3 := by omega
    rcases h4 with rfl | rfl | rfl | rfl
    · rw [Nat.add_zero, he.n]; simp
    · rw [he.s]; simp
    · rw [he.mark]; simp
    · rw [he.at_]; simp
  have hother : ∀ x, x ≠ eo + k → w2.cell? ⟨eb, x, none⟩ = w.cell? ⟨eb, x, none⟩ := fun x hx => by
    have h1 : w2.cell? ⟨eb, x, none⟩ = w1.cell? ⟨eb, x, none⟩ := by
      refine World.cell?_setCell_other w1 _ _ _ ?_
      intro h
      injection h with _ h2
      exact hx (by omega)
    rw [h1]
    exact World.cell?_of_block (w := w) (a := ⟨eb, x, none⟩) (hold1 eb hlt)
  refine ⟨⟨?_, ?_, ?_, by omega, fun b h1 h2 _ => hold b h1 h2, fun b h1 h2 hf => hf.elim, fun b h1 h2 => ?_, fun x hx => hother x (by omega)⟩, plain_setCell hp1 _ _, by omega, ?_, hother, fun e s u n xs ho hne => ?_⟩
  · exact (hg.os.trans hb.os : _)
  · exact (hg.tape.trans hb.tape : _)
  · exact (hg.output.trans hb.output : _)
  · exact plain_setCell (h2.frame (hold1 b h1)) _ _
  · obtain ⟨u, hu⟩ := Option.ne_none_iff_exists'.1 hc
    exact World.cell?_setCell_same' _ _ _ (by rw [hu]; rfl)
  · have h0 : w0.ownsRow B e s u n xs := ho.kept (row := none) ⟨hb.os, hb.tape, hb.output, hb.size, fun i hi _ => hb.block i hi⟩ (by cases u.ownBlock <;> simp)
    have h1 : w1.ownsRow B e s u n xs := h0.kept hg hne
    refine ownsRow_setCell_other h1 (fun e => ?_) _
    have : B ≤ eb := owns_lt ho _ e
    omega
theorem eye_push_n {w w0 w1 : World} {B eb eo gg cap : Nat} {ns : List Int} {ss : List ByteArray} {mk : Bool} {at_ n : Int} {nv sv : Value}
    (he : EyeAt w B eb eo ns ss mk at_ nv sv) (hb : Below w.heap.size w w0) (hg : w0.grownBy w1 nv.ownBlock)
    (ho : w1.ownsRow B 3 1 (.slice (some ⟨gg, 0, none⟩) (ns.length + 1) cap) (ns.length + 1) (ints ns ++ [.int .i64 n])) :
    (∃ nv', EyeAt (w1.setCell ⟨eb, eo, none⟩ (.slice (some ⟨gg, 0, none⟩) (ns.length + 1) cap)) B eb eo (ns ++ [n]) ss mk at_ nv' sv) ∧
      Vary (fun _ => False) B eb eo w (w1.setCell ⟨eb, eo, none⟩ (.slice (some ⟨gg, 0, none⟩) (ns.length + 1) cap)) := by
  obtain ⟨h1, h2, h3, h4, h5, h6⟩ := eye_push (k := 0) (v1 := .slice (some ⟨gg, 0, none⟩) (ns.length + 1) cap) he hb hg (by omega) (owns_lt he.rn)
  refine ⟨⟨_, ⟨h4, by rw [← he.s]; exact h5 _ (by omega), by rw [← he.mark]; exact h5 _ (by omega), by rw [← he.at_]; exact h5 _ (by omega), h2, ?_, ?_, he.lt, h3⟩⟩, h1⟩
  · have hx : ints (ns ++ [n]) = ints ns ++ [.int .i64 n] := by simp [ints]
    rw [hx, List.length_append]
    refine ownsRow_setCell_other ho (fun e => ?_) _
    have := owns_lt ho _ e
    have := he.lt
    simp only at *
    omega
  · exact h6 _ _ _ _ _ he.rs (rows_ne he.rs he.rn (by decide))
theorem eye_push_s {w w0 w1 : World} {B eb eo gg cap : Nat} {ns : List Int} {ss : List ByteArray} {s : ByteArray} {mk : Bool} {at_ : Int} {nv sv : Value}
    (he : EyeAt w B eb eo ns ss mk at_ nv sv) (hb : Below w.heap.size w w0) (hg : w0.grownBy w1 sv.ownBlock)
    (ho : w1.ownsRow B 9 1 (.slice (some ⟨gg, 0, none⟩) (ss.length + 1) cap) (ss.length + 1) (strs ss ++ [.string s])) :
    (∃ sv', EyeAt (w1.setCell ⟨eb, eo + 1, none⟩ (.slice (some ⟨gg, 0, none⟩) (ss.length + 1) cap)) B eb eo ns (ss ++ [s]) mk at_ nv sv') ∧
      Vary (fun _ => False) B eb eo w (w1.setCell ⟨eb, eo + 1, none⟩ (.slice (some ⟨gg, 0, none⟩) (ss.length + 1) cap)) := by
  obtain ⟨h1, h2, h3, h4, h5, h6⟩ := eye_push (k := 1) (v1 := .slice (some ⟨gg, 0, none⟩) (ss.length + 1) cap) he hb hg (by omega) (owns_lt he.rs)
  refine ⟨⟨_, ⟨by rw [← he.n]; exact h5 _ (by omega), h4, by rw [← he.mark]; exact h5 _ (by omega), by rw [← he.at_]; exact h5 _ (by omega), h2, ?_, ?_, he.lt, h3⟩⟩, h1⟩
  · exact h6 _ _ _ _ _ he.rn (rows_ne he.rn he.rs (by decide))
  · have hx : strs (ss ++ [s]) = strs ss ++ [.string s] := by simp [strs]
    rw [hx, List.length_append]
    refine ownsRow_setCell_other ho (fun e => ?_) _
    have := owns_lt ho _ e
    have := he.lt
    simp only at *
    omega

/-- a cell of the place that is looked at is written -/
theorem set_place {w : World} {B eb eo pb po : Nat} {ns : List Int} {ss : List ByteArray} {mk : Bool} {at_ : Int} {nv sv v v' : Value}
    (he : EyeAt w B eb eo ns ss mk at_ nv sv) (hp : w.cell? ⟨pb, po, none⟩ = some v) (hs : SimV v v') (hne : pb ≠ eb) (hlt : pb < B) :
    EyeAt (w.setCell ⟨pb, po, none⟩ v') B eb eo ns ss mk at_ nv sv ∧ Vary (fun b => b = pb) B eb eo w (w.setCell ⟨pb, po, none⟩ v') ∧ (w.setCell ⟨pb, po, none⟩ v').cell? ⟨pb, po, none⟩ = some v' := by
  have hb : ∀ b, b ≠ pb → (w.setCell ⟨pb, po, none⟩ v').heap[b]? = w.heap[b]? := fun b hb => Below.heap_setCell w _ _ _ hb
  have hz : (w.setCell ⟨pb, po, none⟩ v').heap.size = w.heap.size := by simp [World.setCell]
  have hsame : (w.setCell ⟨pb, po, none⟩ v').cell? ⟨pb, po, none⟩ = some v' := World.cell?_setCell_same' _ _ _ (by rw [hp]; rfl)
  have heye : ∀ x, (w.setCell ⟨pb, po, none⟩ v').cell? ⟨eb, x, none⟩ = w.cell? ⟨eb, x, none⟩ := fun x => World.cell?_of_block (w := w) (a := ⟨eb, x, none⟩) (hb eb (Ne.symm hne))
  refine ⟨⟨(heye _).trans he.n, (heye _).trans he.s, (heye _).trans he.mark, (heye _).trans he.at_, plain_setCell he.plain _ _, ownsRow_setCell_below he.rn (by simpa using hlt) _, ownsRow_setCell_below he.rs (by simpa using hlt) _, he.lt, by rw [hz]; exact he.le⟩,
    ⟨rfl, rfl, rfl, by omega, fun b _ _ h => hb b h, fun b _ _ h => ?_, fun b _ h => plain_setCell h _ _, fun x _ => heye x⟩, hsame⟩
  subst h
  intro o u hu
  by_cases ho : o = po
  · subst ho
    rw [hp] at hu
    injection hu with hu
    subst hu
    exact ⟨v', ⟨hsame, World.frozen?_setCell ..⟩, .inr hs⟩
  · refine ⟨u, ⟨?_, World.frozen?_setCell ..⟩, .inl rfl⟩
    rw [World.cell?_setCell_other w _ _ _ (by intro h; injection h with _ h2; exact ho h2.symm)]
    exact hu
/-- the eye's counter is written -/
theorem set_at {w : World} {B eb eo : Nat} {ns : List Int} {ss : List ByteArray} {mk : Bool} {at_ at' : Int} {nv sv : Value}
    (he : EyeAt w B eb eo ns ss mk at_ nv sv) :
    EyeAt (w.setCell ⟨eb, eo + 3, none⟩ (.int .i64 at')) B eb eo ns ss mk at' nv sv ∧ Vary (fun _ => False) B eb eo w (w.setCell ⟨eb, eo + 3, none⟩ (.int .i64 at')) := by
  have hb : ∀ b, b ≠ eb → (w.setCell ⟨eb, eo + 3, none⟩ (.int .i64 at')).heap[b]? = w.heap[b]? := fun b hb => Below.heap_setCell w _ _ _ hb
  have hz : (w.setCell ⟨eb, eo + 3, none⟩ (.int .i64 at')).heap.size = w.heap.size := by simp [World.setCell]
  have heye : ∀ x, x ≠ eo + 3 → (w.setCell ⟨eb, eo + 3, none⟩ (.int .i64 at')).cell? ⟨eb, x, none⟩ = w.cell? ⟨eb, x, none⟩ := fun x hx =>
    World.cell?_setCell_other w _ _ _ (by intro h; injection h with _ h2; exact hx h2.symm)
  have hlt := he.lt
  refine ⟨⟨(heye _ (by omega)).trans he.n, (heye _ (by omega)).trans he.s, (heye _ (by omega)).trans he.mark, World.cell?_setCell_same' _ _ _ (by rw [he.at_]; rfl), plain_setCell he.plain _ _, ownsRow_setCell_below he.rn (by simpa using hlt) _, ownsRow_setCell_below he.rs (by simpa using hlt) _, he.lt, by rw [hz]; exact he.le⟩,
    ⟨rfl, rfl, rfl, by omega, fun b _ h _ => hb b h, fun b _ _ h => h.elim, fun b _ h => plain_setCell h _ _, fun x hx => heye x (by omega)⟩⟩
theorem wrap_in (a : Int) : IntKind.i64.min ≤ wrap64 a ∧ wrap64 a ≤ IntKind.i64.max := by
  simp only [IntKind.min, IntKind.max, IntKind.signed, IntKind.bits, wrap64]
  simp
  omega
theorem eye_below {M : Nat → Prop} {w w' : World} {B eb eo : Nat} {ns : List Int} {ss : List ByteArray} {mk : Bool} {at_ : Int} {nv sv : Value}
    (he : EyeAt w B eb eo ns ss mk at_ nv sv) (hb : Below w.heap.size w w') : EyeAt w' B eb eo ns ss mk at_ nv sv ∧ Vary M B eb eo w w' := by
  have hle := he.le
  have hlt := he.lt
  have hsz := hb.size
  have hg : w.grownBy w' none := ⟨hb.os, hb.tape, hb.output, hb.size, fun i hi _ => hb.block i hi⟩
  have hE : ∀ x, w'.cell? ⟨eb, x, none⟩ = w.cell? ⟨eb, x, none⟩ := fun x => World.cell?_of_block (w := w) (a := ⟨eb, x, none⟩) (hb.block eb (by omega))
  refine ⟨⟨(hE _).trans he.n, (hE _).trans he.s, (hE _).trans he.mark, (hE _).trans he.at_, he.plain.below hb, he.rn.kept hg (by cases nv.ownBlock <;> simp), he.rs.kept hg (by cases sv.ownBlock <;> simp), he.lt, by omega⟩, ?_⟩
  exact ⟨hb.os, hb.tape, hb.output, hb.size, fun b h1 _ _ => hb.block b (by omega), fun b h1 _ _ => SimC.of_eq (hb.block b (by omega)), fun b _ h => h.below hb, fun x _ => hE x⟩
end Go.Proofs.Ytjmohkgbfigcgaa.Sh
