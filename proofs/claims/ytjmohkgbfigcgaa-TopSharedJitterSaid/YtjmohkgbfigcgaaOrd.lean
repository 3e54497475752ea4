/- A statement whose order is open, walked once: what only reads is taken as soon as it may come up; what makes memory comes up when nothing else may; the last operations, which wait for all others, are walked in their order. No function of the program is walked here. -/
import Derived.OrdersHeld
import Derived.StillTail
import Derived.Deep.RegionHeld3
import Derived.WalkKit
namespace Go.Proofs.Ytjmohkgbfigcgaa.Sh
open Go
set_option linter.unusedVariables false
section
variable {P : Program} {ops : Array Oper} {Q : Exit → Act → World → Prop} {S : World → Prop} {n : Nat}

def HeadAny (P : Program) (ops : Array Oper) (Q : Exit → Act → World → Prop) (S : World → Prop) (n : Nat) (L : Array Bool → Act → World → Prop) : Nat → Array Bool → Act → World → Prop
  | 0, listed, a, w => L listed a w
  | f + 1, listed, a, w => Region.ready .any ops listed ≠ [] ∧ ∀ i ∈ Region.ready .any ops listed, i < n ∧ wpOp P ops Q i (fun a' w' => S w' ∧ HeadAny P ops Q S n L f (listed.setIfInBounds i true) a' w') a w

theorem any_of_head {g : Nat} {L : Array Bool → Act → World → Prop} (hL : ∀ listed a w, L listed a w → wpAny P .any ops Q g listed a w) :
    ∀ (f : Nat) (listed : Array Bool) (a : Act) (w : World), HeadAny P ops Q S n L f listed a w → wpAny P .any ops Q (f + g) listed a w
  | 0, listed, a, w, h => by rw [Nat.zero_add]; exact hL _ _ _ h
  | f + 1, listed, a, w, h => by
    rw [show f + 1 + g = (f + g) + 1 by omega]
    exact ⟨fun h0 => absurd h0 h.1, fun i hi => wpOp_mono (fun a' w' h' => any_of_head hL f _ a' w' h'.2) (h.2 i hi).2⟩

theorem waits_tail {listed : Array Bool} (hs : n < ops.size → Region.sinkB .any ops n = true) (hc : Region.chainB .any ops n = true) (inv : HeadInv .any ops n listed) {i : Nat} (hi : i < n) (hun : listed.getD i true = false) :
    ∀ t, n ≤ t → t ∉ Region.ready .any ops listed := by
  intro t ht hr
  rcases Nat.lt_or_ge n ops.size with hn | hn
  · exact tail_waits (hs hn) hc hn inv _ i rfl hi hun t ht hr
  · obtain ⟨_, ot, hot, _⟩ := mem_ready.1 hr
    have := (Array.getElem?_eq_some_iff.1 hot).1
    omega

theorem head_first {i : Nat} {oi : Oper} {v : Value} {L : Array Bool → Act → World → Prop} (hi : ops[i]? = some oi) (hsel : ∀ (j : Nat) (o : Oper) cs b, ops[j]? = some o → o.op ≠ .select cs b)
    (hQ : ∀ c a w, Q (.panic c) (a.put oi.dst v) w → Q (.panic c) a w) (hs : n < ops.size → Region.sinkB .any ops n = true) (hc : Region.chainB .any ops n = true) (hin : i < n)
    (hdone : ∀ listed a w, L listed a w → ∀ j ∈ Region.ready .any ops listed, n ≤ j) :
    ∀ (f : Nat) (listed : Array Bool) (a : Act) (w : World), HeadInv .any ops n listed →
      (∀ j oj, ops[j]? = some oj → j ≠ i → listed.getD j true = false → (∀ e ∈ oj.after, Region.binds .any e = true → e.on ≠ i) → oi.apart ops oj = true) →
      i ∈ Region.ready .any ops listed → YieldsIf P ops S oi v a → S w →
      HeadAny P ops Q S n L f (listed.setIfInBounds i true) (a.put oi.dst v) w → HeadAny P ops Q S n L (f + 1) listed a w := by
  intro f
  induction f with
  | zero =>
    intro listed a w inv _ hr hy hS H
    have hun := (mem_ready.1 hr).1
    refine ⟨fun h => (by rw [h] at hr; cases hr), fun j hj => ?_⟩
    have hjn : j < n := by
      rcases Nat.lt_or_ge j n with h | h
      · exact h
      · exact absurd hj (waits_tail hs hc inv hin hun j h)
    refine ⟨hjn, ?_⟩
    by_cases hji : j = i
    · subst hji; exact hy.wpOp hi hS ⟨hS, H⟩
    · have := hdone _ _ _ H j (ready_mono hj hji)
      omega
  | succ f ih =>
    intro listed a w inv hfree hr hy hS H
    have hun := (mem_ready.1 hr).1
    refine ⟨fun h => (by rw [h] at hr; cases hr), fun j hj => ?_⟩
    have hjn : j < n := by
      rcases Nat.lt_or_ge j n with h | h
      · exact h
      · exact absurd hj (waits_tail hs hc inv hin hun j h)
    refine ⟨hjn, ?_⟩
    by_cases hji : j = i
    · subst hji; exact hy.wpOp hi hS ⟨hS, H⟩
    · have h1 := (H.2 j (ready_mono hj hji)).2
      obtain ⟨hjun, oj, hoj, hall⟩ := mem_ready.1 hj
      have hnot : ∀ e ∈ oj.after, Region.binds .any e = true → e.on ≠ i := fun e he hb heq => by
        have h1 := hall e he hb
        rw [heq] at h1
        rw [getD_both hun] at h1
        cases h1
      have h2 := wpOp_putIf hoj (hfree j oj hoj hji hjun hnot) (fun cs b => hsel i oi cs b hi) (fun cs b => hsel j oj cs b hoj) hQ hy h1
      have hfree' : ∀ k ok, ops[k]? = some ok → k ≠ i → (listed.setIfInBounds j true).getD k true = false →
          (∀ e ∈ ok.after, Region.binds .any e = true → e.on ≠ i) → oi.apart ops ok = true := fun k ok hk hki hunk hno => by
        refine hfree k ok hk hki ?_ hno
        by_cases hjk : j = k
        · subst hjk; exact hjun
        · rw [getD_set_ne true hjk] at hunk; exact hunk
      refine wpOp_mono (fun a' w' h3 => ⟨h3.2.1, ih (listed.setIfInBounds j true) a' w' (inv.set hj hjn) hfree' (ready_mono hr (Ne.symm hji)) h3.1 h3.2.1 ?_⟩) h2
      rw [Array.setIfInBounds_comm _ _ hji]
      exact h3.2.2

/-- The order of the walk: (number, does it only read). 'g': how many operations close the statement. -/
def ordB (ops : Array Oper) (n g : Nat) : List (Nat × Bool) → Array Bool → Bool
  | [], listed => Region.seqB .any ops g n listed
  | (k, true) :: l, listed => decide (k < n) && (Region.ready .any ops listed).contains k && Region.free .any ops listed k && ordB ops n g l (listed.setIfInBounds k true)
  | (k, false) :: l, listed => decide (k < n) && decide (Region.ready .any ops listed = [k]) && ordB ops n g l (listed.setIfInBounds k true)

/-- The walk in that order. -/
def wpOrd (P : Program) (ops : Array Oper) (Q : Exit → Act → World → Prop) (S : World → Prop) (T : Act → World → Prop) : List (Nat × Bool) → Act → World → Prop
  | [], a, w => T a w
  | (k, true) :: l, a, w => ∃ o v, ops[k]? = some o ∧ YieldsIf P ops S o v a ∧ wpOrd P ops Q S T l (a.put o.dst v) w
  | (k, false) :: l, a, w => wpOp P ops Q k (fun a' w' => S w' ∧ wpOrd P ops Q S T l a' w') a w

theorem head_of_ord {g : Nat} {T : Act → World → Prop} (hQ : ∀ c d v a w, Q (.panic c) (a.put d v) w → Q (.panic c) a w) (hsel : Region.noSelect ops = true) (hs : n < ops.size → Region.sinkB .any ops n = true) (hc : Region.chainB .any ops n = true) :
    ∀ (l : List (Nat × Bool)) (listed : Array Bool) (a : Act) (w : World), HeadInv .any ops n listed → ordB ops n g l listed = true → S w → wpOrd P ops Q S T l a w →
      HeadAny P ops Q S n (fun listed' a' w' => Region.seqB .any ops g n listed' = true ∧ T a' w') l.length listed a w
  | [], listed, a, w, _, hB, _, h => ⟨by simpa [ordB] using hB, h⟩
  | (k, true) :: l, listed, a, w, inv, hB, hS, h => by
    simp only [ordB, Bool.and_eq_true, decide_eq_true_eq] at hB
    obtain ⟨⟨⟨hk, hr⟩, hf⟩, hB'⟩ := hB
    obtain ⟨o, v, ho, hy, hK⟩ := h
    have hr' : k ∈ Region.ready .any ops listed := by simpa using hr
    exact head_first ho (Region.noSelect_spec hsel) (fun c a w => hQ c _ _ a w) hs hc hk (fun listed' a' w' hL => seqB_ready hL.1) l.length listed a w inv (Region.free_spec ho hf) hr' hy hS
      (head_of_ord hQ hsel hs hc l _ _ _ (inv.set hr' hk) hB' hS hK)
  | (k, false) :: l, listed, a, w, inv, hB, hS, h => by
    simp only [ordB, Bool.and_eq_true, decide_eq_true_eq] at hB
    obtain ⟨⟨hk, hr⟩, hB'⟩ := hB
    refine ⟨by rw [hr]; simp, fun i hi => ?_⟩
    have hik : i = k := by rw [hr] at hi; simpa using hi
    subst hik
    exact ⟨hk, wpOp_mono (fun a' w' h' => ⟨h'.1, head_of_ord hQ hsel hs hc l _ _ _ (inv.set hi hk) hB' h'.1 h'.2⟩) h⟩

def ordOK (ops : Array Oper) (n : Nat) (ord : List (Nat × Bool)) : Bool :=
  Region.noSelect ops && decide (n ≤ ops.size) && (decide (n = ops.size) || Region.sinkB .any ops n) && Region.chainB .any ops n && decide (ord.length = n) && ordB ops n (ops.size - n) ord (Array.replicate ops.size false)

theorem wp_region_ord_of {id : Nat} {a : Act} {w : World} {l : List Oper} (n : Nat) (ord : List (Nat × Bool)) (S : World → Prop) (hm : P.follows .mixedOrders = true) (hB : ordOK l.toArray n ord = true)
    (hQ : ∀ c d v a w, Q (.panic c) (a.put d v) w → Q (.panic c) a w) (hS : S w.drew)
    (h : wpOrd P l.toArray Q S (fun a' w' => wpList P l.toArray Q (l.drop n) a' w') ord a w.drew) : (Code.region id l.toArray true).wp P Q a w := by
  simp only [ordOK, Bool.and_eq_true, decide_eq_true_eq, Bool.or_eq_true] at hB
  obtain ⟨⟨⟨⟨⟨hsel, hn⟩, hs⟩, hc⟩, hlen⟩, hord⟩ := hB
  have hn' : n ≤ l.length := by simpa using hn
  have hdl : (l.drop n).length = l.toArray.size - n := by simp
  have inv0 : HeadInv .any l.toArray n (Array.replicate l.toArray.size false) :=
    ⟨by simp, fun j oj _ hl => (by rw [getD_replicate_false] at hl; cases hl), fun t _ ht => getD_in (by simpa using ht) (getD_replicate_false _ _)⟩
  have H := head_of_ord (g := l.toArray.size - n) hQ hsel (fun hlt => hs.resolve_left (by omega)) hc ord _ a w.drew inv0 hord hS h
  refine wp_region_any hm ?_
  have := any_of_head (g := l.toArray.size - n) (fun listed a' w' hL => by
    have := wpAny_of_seq (md := .any) (Q' := Q) (l.drop n) n listed a' w' (fun j => by simp [List.getElem?_drop]) (by rw [hdl]; exact hL.1) hL.2
    rwa [hdl] at this) _ _ _ _ H
  rw [hlen, show n + (l.toArray.size - n) = l.toArray.size by omega] at this
  exact this

/-- THE REGION: 'n' operations in the order 'ord', the rest as they stand; it must not panic. -/
theorem wp_region_ord {id : Nat} {a : Act} {w : World} {l : List Oper} (n : Nat) (ord : List (Nat × Bool)) (S : World → Prop) (hm : P.follows .mixedOrders = true) (hB : ordOK l.toArray n ord = true)
    (hS : S w.drew) (h : wpOrd P l.toArray (NoPanic Q) S (fun a' w' => wpList P l.toArray (NoPanic Q) (l.drop n) a' w') ord a w.drew) : (Code.region id l.toArray true).wp P Q a w :=
  wp_region_noPanic (wp_region_ord_of n ord S hm hB (fun _ _ _ _ _ h => h) hS h)

section
variable {T : Act → World → Prop} {a : Act} {w : World} {k : Nat} {o : Oper} {rest : List (Nat × Bool)}
theorem ord_nil (h : T a w) : wpOrd P ops Q S T [] a w := h
theorem ord_read {v : Value} (ho : ops[k]? = some o) (hw : Region.wanted o (yielded ops a.tmps) = true) (hv : ∀ u, S u → (execOp a.eval o).run P u = .ok (.value v) u)
    (h : wpOrd P ops Q S T rest (a.put o.dst v) w) : wpOrd P ops Q S T ((k, true) :: rest) a w := ⟨o, v, ho, .inl ⟨hw, hv⟩, h⟩
theorem ord_skip (ho : ops[k]? = some o) (hw : Region.wanted o (yielded ops a.tmps) = false)
    (h : wpOrd P ops Q S T rest (a.put o.dst undef) w) : wpOrd P ops Q S T ((k, true) :: rest) a w := ⟨o, undef, ho, .inr ⟨hw, rfl⟩, h⟩
theorem ord_make (ho : ops[k]? = some o) (h : ∀ K : Act → World → Prop, (∀ a w, S w ∧ wpOrd P ops Q S T rest a w → K a w) → if Region.wanted o (yielded ops a.tmps) then o.wp P a w K Q else K (a.put o.dst undef) w) :
    wpOrd P ops Q S T ((k, false) :: rest) a w := by
  have h := h _ (fun _ _ h => h)
  unfold wpOrd wpOp
  simp only [ho]
  split
  · rename_i hw; rw [if_pos hw] at h; exact .inl h
  · rename_i hw; rw [if_neg hw] at h; exact h
end
/-- a conversion, by the run of it -/
theorem wp_convert {o : Oper} {a : Act} {w w' : World} {K : Act → World → Prop} {src dst : TypeId} {x : Operand} {v r : Value} (ho : o.op = .convert src dst x) (hx : a.eval x = v)
    (hr : (convert src dst v).run P w = .ok r w') (h : K (a.put o.dst r) w') : o.wp P a w K Q := by
  unfold Oper.wp execOp
  simp only [ho, hx, Sem.run_bind, hr, Result.andThen_ok, Sem.run_pure]
  exact h
end
end Go.Proofs.Ytjmohkgbfigcgaa.Sh
