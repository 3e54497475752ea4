/- Plain words of memory for this claim: the types of its data, and when a value reads as a datum. No function of the program is walked here. -/
import Derived.WalkKit
import Derived.Lib.Hide
import Derived.Deep.DeepFit
namespace Go.Proofs.Ytjmohkgbfigcgaa.Sh
open Go Go.RowKit
set_option linter.unusedVariables false

/-- The kinds of data: a struct is a row of its fields. 'nb': how many bytes an element of a slice takes. -/
inductive Ty where
  | int (k : IntKind) | bool | str | sl (e : Ty) (nb : Nat) | nil | cons (a b : Ty)

@[reducible] def Ty.Data : Ty → Type
  | .int _ => Int
  | .bool => Bool
  | .str => ByteArray
  | .sl e _ => List e.Data
  | .nil => Unit
  | .cons a b => a.Data × b.Data

def Ty.width : Ty → Nat
  | .int _ | .bool | .str | .sl _ _ => 1
  | .nil => 0
  | .cons a b => a.width + b.width

/-- no slice in it -/
def Ty.flat : Ty → Bool
  | .int _ | .bool | .str | .nil => true
  | .sl _ _ => false
  | .cons a b => a.flat && b.flat

def big : Nat := 140737488351232
theorem big_eq : big = 140737488351232 := rfl

/-- cells at a place, none of them frozen -/
def At (w : World) (b o : Nat) (cs : List Value) : Prop := ∀ (j : Nat) (v : Value), cs[j]? = some v → w.cell? ⟨b, o + j, none⟩ = some v ∧ w.frozen? ⟨b, o + j, none⟩ = false

/-- the cells cs read as the datum d; what lies behind slices lies in blocks of S -/
def Rep (w : World) (S : Nat → Prop) : (T : Ty) → List Value → T.Data → Prop
  | .int k, cs, n => cs = [.int k n] ∧ k.min ≤ n ∧ n ≤ k.max
  | .bool, cs, b => cs = [.bool b]
  | .str, cs, s => cs = [.string s] ∧ s.size ≤ big
  | .sl e nb, cs, ds => ∃ a cap news, cs = [.slice a ds.length cap] ∧ ds.length ≤ cap ∧ cap ≤ maxLen ∧ ds.length * nb ≤ big ∧ news.length = ds.length * e.width ∧
      (0 < ds.length → ∃ b o, a = some ⟨b, o, none⟩ ∧ S b ∧ b < w.heap.size ∧ At w b o news) ∧
      ∀ i (h : i < ds.length), Rep w S e ((news.drop (i * e.width)).take e.width) ds[i]
  | .nil, cs, _ => cs = []
  | .cons a b, cs, d => ∃ c1 c2, cs = c1 ++ c2 ∧ Rep w S a c1 d.1 ∧ Rep w S b c2 d.2

theorem At.frame {w w' : World} {b o : Nat} {cs : List Value} (h : At w b o cs) (hb : w'.heap[b]? = w.heap[b]?) : At w' b o cs :=
  fun j v hv => ⟨(World.cell?_of_block (w := w) (a := ⟨b, o + j, none⟩) hb).trans (h j v hv).1, (World.frozen?_of_block (w := w) (a := ⟨b, o + j, none⟩) hb).trans (h j v hv).2⟩
theorem At.append {w : World} {b o : Nat} {xs ys : List Value} (h1 : At w b o xs) (h2 : At w b (o + xs.length) ys) : At w b o (xs ++ ys) := by
  intro j v hv
  by_cases hj : j < xs.length
  · rw [List.getElem?_append_left hj] at hv; exact h1 j v hv
  · rw [List.getElem?_append_right (by omega)] at hv
    have := h2 _ v hv
    rwa [show o + xs.length + (j - xs.length) = o + j by omega] at this
theorem At.left {w : World} {b o : Nat} {xs ys : List Value} (h : At w b o (xs ++ ys)) : At w b o xs := fun j v hv => h j v (by
  have hj : j < xs.length := by
    rcases Nat.lt_or_ge j xs.length with h | h
    · exact h
    · simp [List.getElem?_eq_none h] at hv
  rw [List.getElem?_append_left hj]; exact hv)
theorem At.right {w : World} {b o : Nat} {xs ys : List Value} (h : At w b o (xs ++ ys)) : At w b (o + xs.length) ys := fun j v hv => by
  have := h (xs.length + j) v (by rw [List.getElem?_append_right (by omega)]; simpa using hv)
  rwa [show o + (xs.length + j) = o + xs.length + j by omega] at this
theorem At.drop {w : World} {b o : Nat} {cs : List Value} (h : At w b o cs) (k : Nat) : At w b (o + k) (cs.drop k) := fun j v hv => by
  rw [List.getElem?_drop] at hv
  have := h _ v hv
  rwa [show o + (k + j) = o + k + j by omega] at this
theorem At.take {w : World} {b o : Nat} {cs : List Value} (h : At w b o cs) (k : Nat) : At w b o (cs.take k) := fun j v hv => by
  rw [List.getElem?_take] at hv
  split at hv
  · exact h j v hv
  · cases hv
theorem At.seg {w : World} {b o : Nat} {cs : List Value} (h : At w b o cs) (i k : Nat) : At w b (o + i) ((cs.drop i).take k) := (h.drop i).take k
theorem At.nil (w : World) (b o : Nat) : At w b o [] := fun j v hv => by simp at hv
theorem At.lt {w : World} {b o : Nat} {v : Value} {cs : List Value} (h : At w b o (v :: cs)) : b < w.heap.size := by
  exact World.block_lt_of_cell? w _ (h 0 v rfl).1

theorem Rep.frame {w w' : World} {S S' : Nat → Prop} : ∀ (T : Ty) (cs : List Value) (d : T.Data), Rep w S T cs d → (∀ b, S b → b < w.heap.size → w'.heap[b]? = w.heap[b]? ∧ S' b) → Rep w' S' T cs d
  | .int _, _, _, h, _ => h
  | .bool, _, _, h, _ => h
  | .str, _, _, h, _ => h
  | .nil, _, _, h, _ => h
  | .cons a b, cs, d, h, k => by
    obtain ⟨c1, c2, rfl, h1, h2⟩ := h
    exact ⟨c1, c2, rfl, Rep.frame a c1 d.1 h1 k, Rep.frame b c2 d.2 h2 k⟩
  | .sl e nb, cs, ds, h, k => by
    obtain ⟨a, cap, news, rfl, h1, h2, h3, h4, h5, h6⟩ := h
    refine ⟨a, cap, news, rfl, h1, h2, h3, h4, fun hp => ?_, fun i hi => Rep.frame e _ _ (h6 i hi) k⟩
    obtain ⟨b, o, rfl, hs, hl, ha⟩ := h5 hp
    obtain ⟨hk, hs'⟩ := k b hs hl
    refine ⟨b, o, rfl, hs', ?_, ha.frame hk⟩
    rcases Nat.lt_or_ge b w'.heap.size with h | h
    · exact h
    · rw [Array.getElem?_eq_none h, Array.getElem?_eq_getElem hl] at hk; cases hk

theorem Rep.mono {w : World} {S S' : Nat → Prop} {T : Ty} {cs : List Value} {d : T.Data} (h : Rep w S T cs d) (k : ∀ b, S b → b < w.heap.size → S' b) : Rep w S' T cs d :=
  Rep.frame T cs d h fun b hs hl => ⟨rfl, k b hs hl⟩
theorem Rep.below {w w' : World} {S : Nat → Prop} {T : Ty} {cs : List Value} {d : T.Data} (h : Rep w S T cs d) (hb : Below w.heap.size w w') : Rep w' S T cs d :=
  Rep.frame T cs d h fun b hs hl => ⟨hb.block b hl, hs⟩
theorem Rep.length {w : World} {S : Nat → Prop} : ∀ (T : Ty) (cs : List Value) (d : T.Data), Rep w S T cs d → cs.length = T.width
  | .int _, _, _, h => by rw [h.1]; rfl
  | .bool, _, _, h => by rw [show _ = _ from h]; rfl
  | .str, _, _, h => by rw [h.1]; rfl
  | .nil, _, _, h => by rw [show _ = _ from h]; rfl
  | .cons a b, cs, d, h => by
    obtain ⟨c1, c2, rfl, h1, h2⟩ := h
    rw [List.length_append, Rep.length a c1 d.1 h1, Rep.length b c2 d.2 h2]; rfl
  | .sl e nb, cs, ds, h => by
    obtain ⟨a, cap, news, rfl, _⟩ := h
    rfl
theorem Rep.one {w : World} {S : Nat → Prop} : ∀ (T : Ty) (cs : List Value) (d : T.Data), Rep w S T cs d → ∀ v ∈ cs, v.oneCell' = true
  | .int _, _, _, h, v, hv => by rw [h.1] at hv; simp at hv; subst hv; rfl
  | .bool, _, _, h, v, hv => by rw [show _ = _ from h] at hv; simp at hv; subst hv; rfl
  | .str, _, _, h, v, hv => by rw [h.1] at hv; simp at hv; subst hv; rfl
  | .nil, _, _, h, v, hv => by rw [show _ = _ from h] at hv; simp at hv
  | .cons a b, cs, d, h, v, hv => by
    obtain ⟨c1, c2, rfl, h1, h2⟩ := h
    rcases List.mem_append.1 hv with hv | hv
    · exact Rep.one a c1 d.1 h1 v hv
    · exact Rep.one b c2 d.2 h2 v hv
  | .sl e nb, cs, ds, h, v, hv => by
    obtain ⟨a, cap, news, rfl, _⟩ := h
    simp at hv; subst hv; rfl
/-- a flat datum lies in its cells alone -/
theorem Rep.any {w w' : World} {S S' : Nat → Prop} : ∀ (T : Ty) (cs : List Value) (d : T.Data), T.flat = true → Rep w S T cs d → Rep w' S' T cs d
  | .int _, _, _, _, h => h
  | .bool, _, _, _, h => h
  | .str, _, _, _, h => h
  | .nil, _, _, _, h => h
  | .cons a b, cs, d, hf, h => by
    obtain ⟨c1, c2, rfl, h1, h2⟩ := h
    simp only [Ty.flat, Bool.and_eq_true] at hf
    exact ⟨c1, c2, rfl, Rep.any a c1 d.1 hf.1 h1, Rep.any b c2 d.2 hf.2 h2⟩
  | .sl e nb, cs, ds, hf, h => by cases hf

/-- a block that may be written: no part of it is frozen -/
def Plain (w : World) (b : Nat) : Prop := ∃ c e, w.heap[b]? = some (.cells c e (0, 0))
theorem Plain.frame {w w' : World} {b : Nat} (h : Plain w b) (hb : w'.heap[b]? = w.heap[b]?) : Plain w' b := by
  obtain ⟨c, e, h⟩ := h; exact ⟨c, e, hb.trans h⟩
theorem Plain.below {w w' : World} {b : Nat} (h : Plain w b) (hb : Below w.heap.size w w') : Plain w' b := by
  obtain ⟨c, e, h⟩ := h; exact ⟨c, e, (hb.block b (Array.getElem?_eq_some_iff.1 h).1).trans h⟩
theorem Plain.lt {w : World} {b : Nat} (h : Plain w b) : b < w.heap.size := by
  obtain ⟨c, e, h⟩ := h; exact (Array.getElem?_eq_some_iff.1 h).1
/-- the blocks from B on -/
def Fr (B : Nat) (b : Nat) : Prop := B ≤ b
theorem Rep.fr_le {w : World} {B B' : Nat} {T : Ty} {cs : List Value} {d : T.Data} (h : Rep w (Fr B) T cs d) (hb : B' ≤ B) : Rep w (Fr B') T cs d :=
  h.mono fun b hs _ => Nat.le_trans hb hs
theorem Plain.free {w : World} {b : Nat} (h : Plain w b) (o : Nat) : w.frozen? ⟨b, o, none⟩ = false := by
  obtain ⟨c, e, h⟩ := h; simp [World.frozen?, h]

/-- what a whole row of elements reads as -/
def RepL (w : World) (S : Nat → Prop) (e : Ty) (news : List Value) (ds : List e.Data) : Prop :=
  news.length = ds.length * e.width ∧ ∀ i (h : i < ds.length), Rep w S e ((news.drop (i * e.width)).take e.width) ds[i]
theorem RepL.nil (w : World) (S : Nat → Prop) (e : Ty) : RepL w S e [] [] := ⟨by simp, fun i h => by simp at h⟩
theorem RepL.snoc {w : World} {S : Nat → Prop} {e : Ty} {news : List Value} {ds : List e.Data} (h : RepL w S e news ds) {cs : List Value} {d : e.Data} (hd : Rep w S e cs d) : RepL w S e (news ++ cs) (ds ++ [d]) := by
  have hl := Rep.length e cs d hd
  refine ⟨by simp only [List.length_append, h.1, hl, List.length_cons, List.length_nil, Nat.add_mul]; omega, fun i hi => ?_⟩
  by_cases hlt : i < ds.length
  · have e1 : i * e.width + e.width ≤ news.length := by rw [h.1, ← Nat.succ_mul]; exact Nat.mul_le_mul_right _ hlt
    rw [List.drop_append_of_le_length (by omega), List.take_append_of_le_length (by rw [List.length_drop]; omega), List.getElem_append_left hlt]
    exact h.2 i hlt
  · have hi' : i = ds.length := by simp at hi; omega
    subst hi'
    rw [← h.1, List.drop_left, List.getElem_append_right (Nat.le_refl _), List.take_of_length_le (by omega)]
    simpa using hd
theorem RepL.drop {w : World} {S : Nat → Prop} {e : Ty} {news : List Value} {ds : List e.Data} (h : RepL w S e news ds) (k : Nat) (hk : k ≤ ds.length) : RepL w S e (news.drop (k * e.width)) (ds.drop k) := by
  refine ⟨by rw [List.length_drop, List.length_drop, h.1, Nat.sub_mul], fun i hi => ?_⟩
  rw [List.drop_drop, ← Nat.add_mul, List.getElem_drop]
  exact h.2 (k + i) (by rw [List.length_drop] at hi; omega)
theorem RepL.take {w : World} {S : Nat → Prop} {e : Ty} {news : List Value} {ds : List e.Data} (h : RepL w S e news ds) (k : Nat) (hk : k ≤ ds.length) : RepL w S e (news.take (k * e.width)) (ds.take k) := by
  have h2 : k * e.width ≤ news.length := by rw [h.1]; exact Nat.mul_le_mul_right _ hk
  refine ⟨by rw [List.length_take, List.length_take]; rw [Nat.min_eq_left h2, Nat.min_eq_left hk], fun i hi => ?_⟩
  rw [List.length_take] at hi
  have h3 : i * e.width + e.width ≤ k * e.width := by rw [← Nat.succ_mul]; exact Nat.mul_le_mul_right _ (by omega)
  rw [List.drop_take, List.take_take, Nat.min_eq_left (by omega), List.getElem_take]
  exact h.2 i (by omega)
theorem RepL.set {w : World} {S : Nat → Prop} {e : Ty} {news : List Value} {ds : List e.Data} (h : RepL w S e news ds) (k : Nat) (hk : k < ds.length) {cs : List Value} {d : e.Data} (hd : Rep w S e cs d) :
    RepL w S e (news.take (k * e.width) ++ cs ++ news.drop ((k + 1) * e.width)) (ds.set k d) := by
  have hl := Rep.length e cs d hd
  have hk2 : (k + 1) * e.width ≤ news.length := by rw [h.1]; exact Nat.mul_le_mul_right _ hk
  have hk1 : (k + 1) * e.width = k * e.width + e.width := Nat.succ_mul ..
  have ht : (news.take (k * e.width)).length = k * e.width := by rw [List.length_take]; omega
  refine ⟨by simp only [List.length_append, ht, List.length_drop, hl, List.length_set]; rw [← h.1]; omega, fun i hi => ?_⟩
  rw [List.length_set] at hi
  rcases Nat.lt_trichotomy i k with hlt | heq | hgt
  · have h3 : i * e.width + e.width ≤ k * e.width := by rw [← Nat.succ_mul]; exact Nat.mul_le_mul_right _ (by omega)
    rw [List.getElem_set_ne (by omega), List.append_assoc, List.drop_append_of_le_length (by omega), List.take_append_of_le_length (by rw [List.length_drop]; omega), List.drop_take, List.take_take, Nat.min_eq_left (by omega)]
    exact h.2 i hi
  · subst heq
    have e1 : (news.take (i * e.width) ++ cs ++ news.drop ((i + 1) * e.width)).drop (i * e.width) = cs ++ news.drop ((i + 1) * e.width) := by
      rw [List.append_assoc]; exact List.drop_left' ht
    rw [List.getElem_set_self, e1, ← hl]
    rw [List.take_left]
    exact hd
  · have h3 : (k + 1) * e.width ≤ i * e.width := Nat.mul_le_mul_right _ hgt
    have e1 : (news.take (k * e.width) ++ cs).length = (k + 1) * e.width := by rw [List.length_append, ht, hl, hk1]
    rw [List.getElem_set_ne (by omega), List.drop_append, e1, List.drop_of_length_le (by rw [e1]; exact h3), List.nil_append, List.drop_drop]
    rw [show (k + 1) * e.width + (i * e.width - (k + 1) * e.width) = i * e.width by omega]
    exact h.2 i hi
theorem RepL.frame {w w' : World} {S S' : Nat → Prop} {e : Ty} {news : List Value} {ds : List e.Data} (h : RepL w S e news ds) (k : ∀ b, S b → b < w.heap.size → w'.heap[b]? = w.heap[b]? ∧ S' b) : RepL w' S' e news ds :=
  ⟨h.1, fun i hi => Rep.frame e _ _ (h.2 i hi) k⟩
theorem RepL.one {w : World} {S : Nat → Prop} {e : Ty} {news : List Value} {ds : List e.Data} (h : RepL w S e news ds) : ∀ v ∈ news, v.oneCell' = true := by
  intro v hv
  obtain ⟨j, hj, rfl⟩ := List.getElem_of_mem hv
  have hw : 0 < e.width := by
    rcases Nat.eq_zero_or_pos e.width with h0 | h0
    · rw [h.1, h0] at hj; omega
    · exact h0
  have hi : j / e.width < ds.length := by rw [Nat.div_lt_iff_lt_mul hw, ← h.1]; exact hj
  refine Rep.one e _ _ (h.2 _ hi) _ ?_
  have hm := Nat.mod_lt j hw
  have hd := Nat.div_add_mod j e.width
  rw [Nat.mul_comm] at hd
  refine List.mem_iff_getElem?.2 ⟨j % e.width, ?_⟩
  rw [List.getElem?_take, if_pos hm, List.getElem?_drop, hd, List.getElem?_eq_getElem hj]
/-- a slice, its parts by name -/
theorem rep_sl {w : World} {S : Nat → Prop} {e : Ty} {nb : Nat} {a : Option Addr} {n cap : Nat} {ds : List e.Data} :
    Rep w S (.sl e nb) [.slice a n cap] ds ↔ n = ds.length ∧ n ≤ cap ∧ cap ≤ maxLen ∧ n * nb ≤ big ∧ ∃ news, (0 < n → ∃ b o, a = some ⟨b, o, none⟩ ∧ S b ∧ b < w.heap.size ∧ At w b o news) ∧ RepL w S e news ds := by
  constructor
  · rintro ⟨a', cap', news, he, h1, h2, h3, h4, h5, h6⟩
    simp only [List.cons.injEq, Value.slice.injEq, and_true] at he
    obtain ⟨rfl, rfl, rfl⟩ := he
    exact ⟨rfl, h1, h2, h3, news, h5, h4, h6⟩
  · rintro ⟨rfl, h1, h2, h3, news, h5, h4, h6⟩
    exact ⟨a, cap, news, rfl, h1, h2, h3, h4, h5, h6⟩
theorem Rep.slice {w : World} {S : Nat → Prop} {e : Ty} {nb : Nat} {cs : List Value} {ds : List e.Data} (h : Rep w S (.sl e nb) cs ds) : ∃ a cap, cs = [.slice a ds.length cap] := by
  obtain ⟨a, cap, news, h, _⟩ := h; exact ⟨a, cap, h⟩
end Go.Proofs.Ytjmohkgbfigcgaa.Sh
