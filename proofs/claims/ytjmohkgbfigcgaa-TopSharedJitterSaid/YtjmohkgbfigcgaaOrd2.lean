/- A statement whose order is open, where two or more steps may come up at once: a plan that forks. No function of the program is walked here. -/
import Derived.Test.YtjmohkgbfigcgaaOrd
namespace Go.Proofs.Ytjmohkgbfigcgaa.Sh
open Go
set_option linter.unusedVariables false

/-- a plan: what only reads; what makes; what may come up beside others -/
inductive Plan where
  | stop
  | read (k : Nat) (p : Plan)
  | make (k : Nat) (p : Plan)
  | two (j : Nat) (p : Plan) (k : Nat) (q : Plan)
  | three (i : Nat) (p : Plan) (j : Nat) (q : Plan) (k : Nat) (r : Plan)
def Plan.size : Plan → Nat
  | .stop => 0
  | .read _ p => p.size + 1
  | .make _ p => p.size + 1
  | .two _ p _ _ => p.size + 1
  | .three _ p _ _ _ _ => p.size + 1
section
variable {P : Program} {ops : Array Oper} {Q : Exit → Act → World → Prop} {S : World → Prop} {n : Nat}

def planB (ops : Array Oper) (n g : Nat) : Plan → Array Bool → Bool
  | .stop, listed => Region.seqB .any ops g n listed
  | .read k p, listed => decide (k < n) && (Region.ready .any ops listed).contains k && Region.free .any ops listed k && planB ops n g p (listed.setIfInBounds k true)
  | .make k p, listed => decide (k < n) && decide (Region.ready .any ops listed = [k]) && planB ops n g p (listed.setIfInBounds k true)
  | .two j p k q, listed => decide (j < n) && decide (k < n) && decide (Region.ready .any ops listed = [j, k]) && decide (p.size = q.size) && planB ops n g p (listed.setIfInBounds j true) && planB ops n g q (listed.setIfInBounds k true)
  | .three i p j q k r, listed => decide (i < n) && decide (j < n) && decide (k < n) && decide (Region.ready .any ops listed = [i, j, k]) && decide (p.size = q.size) && decide (p.size = r.size) && planB ops n g p (listed.setIfInBounds i true) && planB ops n g q (listed.setIfInBounds j true) && planB ops n g r (listed.setIfInBounds k true)

def wpPlan (P : Program) (ops : Array Oper) (Q : Exit → Act → World → Prop) (S : World → Prop) (T : Act → World → Prop) : Plan → Act → World → Prop
  | .stop, a, w => T a w
  | .read k p, a, w => ∃ o v, ops[k]? = some o ∧ YieldsIf P ops S o v a ∧ wpPlan P ops Q S T p (a.put o.dst v) w
  | .make k p, a, w => wpOp P ops Q k (fun a' w' => S w' ∧ wpPlan P ops Q S T p a' w') a w
  | .two j p k q, a, w => wpOp P ops Q j (fun a' w' => S w' ∧ wpPlan P ops Q S T p a' w') a w ∧ wpOp P ops Q k (fun a' w' => S w' ∧ wpPlan P ops Q S T q a' w') a w
  | .three i p j q k r, a, w => wpOp P ops Q i (fun a' w' => S w' ∧ wpPlan P ops Q S T p a' w') a w ∧ wpOp P ops Q j (fun a' w' => S w' ∧ wpPlan P ops Q S T q a' w') a w ∧ wpOp P ops Q k (fun a' w' => S w' ∧ wpPlan P ops Q S T r a' w') a w

theorem head_of_plan {g : Nat} {T : Act → World → Prop} (hQ : ∀ c d v a w, Q (.panic c) (a.put d v) w → Q (.panic c) a w) (hsel : Region.noSelect ops = true) (hs : n < ops.size → Region.sinkB .any ops n = true) (hc : Region.chainB .any ops n = true) :
    ∀ (l : Plan) (listed : Array Bool) (a : Act) (w : World), HeadInv .any ops n listed → planB ops n g l listed = true → S w → wpPlan P ops Q S T l a w →
      HeadAny P ops Q S n (fun listed' a' w' => Region.seqB .any ops g n listed' = true ∧ T a' w') l.size listed a w
  | .stop, listed, a, w, _, hB, _, h => ⟨by simpa [planB] using hB, h⟩
  | .read k l, listed, a, w, inv, hB, hS, h => by
    simp only [planB, Bool.and_eq_true, decide_eq_true_eq] at hB
    obtain ⟨⟨⟨hk, hr⟩, hf⟩, hB'⟩ := hB
    obtain ⟨o, v, ho, hy, hK⟩ := h
    have hr' : k ∈ Region.ready .any ops listed := by simpa using hr
    exact head_first ho (Region.noSelect_spec hsel) (fun c a w => hQ c _ _ a w) hs hc hk (fun listed' a' w' hL => seqB_ready hL.1) l.size listed a w inv (Region.free_spec ho hf) hr' hy hS
      (head_of_plan hQ hsel hs hc l _ _ _ (inv.set hr' hk) hB' hS hK)
  | .make k l, listed, a, w, inv, hB, hS, h => by
    simp only [planB, Bool.and_eq_true, decide_eq_true_eq] at hB
    obtain ⟨⟨hk, hr⟩, hB'⟩ := hB
    refine ⟨by rw [hr]; simp, fun i hi => ?_⟩
    have hik : i = k := by rw [hr] at hi; simpa using hi
    subst hik
    exact ⟨hk, wpOp_mono (fun a' w' h' => ⟨h'.1, head_of_plan hQ hsel hs hc l _ _ _ (inv.set hi hk) hB' h'.1 h'.2⟩) h⟩
  | .two j p k q, listed, a, w, inv, hB, hS, h => by
    simp only [planB, Bool.and_eq_true, decide_eq_true_eq] at hB
    obtain ⟨⟨⟨⟨⟨hj, hk⟩, hr⟩, hsz⟩, hB1⟩, hB2⟩ := hB
    refine ⟨by rw [hr]; simp, fun i hi => ?_⟩
    have hik : i = j ∨ i = k := by rw [hr] at hi; simpa using hi
    rcases hik with rfl | rfl
    · exact ⟨hj, wpOp_mono (fun a' w' h' => ⟨h'.1, head_of_plan hQ hsel hs hc p _ _ _ (inv.set hi hj) hB1 h'.1 h'.2⟩) h.1⟩
    · refine ⟨hk, wpOp_mono (fun a' w' h' => ⟨h'.1, ?_⟩) h.2⟩
      rw [hsz]
      exact head_of_plan hQ hsel hs hc q _ _ _ (inv.set hi hk) hB2 h'.1 h'.2
  | .three i1 p j q k r, listed, a, w, inv, hB, hS, h => by
    simp only [planB, Bool.and_eq_true, decide_eq_true_eq] at hB
    obtain ⟨⟨⟨⟨⟨⟨⟨⟨hi1, hj⟩, hk⟩, hr⟩, hsz⟩, hsz2⟩, hB1⟩, hB2⟩, hB3⟩ := hB
    refine ⟨by rw [hr]; simp, fun i hi => ?_⟩
    have hik : i = i1 ∨ i = j ∨ i = k := by rw [hr] at hi; simpa using hi
    rcases hik with rfl | rfl | rfl
    · exact ⟨hi1, wpOp_mono (fun a' w' h' => ⟨h'.1, head_of_plan hQ hsel hs hc p _ _ _ (inv.set hi hi1) hB1 h'.1 h'.2⟩) h.1⟩
    · refine ⟨hj, wpOp_mono (fun a' w' h' => ⟨h'.1, ?_⟩) h.2.1⟩
      rw [hsz]
      exact head_of_plan hQ hsel hs hc q _ _ _ (inv.set hi hj) hB2 h'.1 h'.2
    · refine ⟨hk, wpOp_mono (fun a' w' h' => ⟨h'.1, ?_⟩) h.2.2⟩
      rw [hsz2]
      exact head_of_plan hQ hsel hs hc r _ _ _ (inv.set hi hk) hB3 h'.1 h'.2

def planOK (ops : Array Oper) (n : Nat) (p : Plan) : Bool :=
  Region.noSelect ops && decide (n ≤ ops.size) && (decide (n = ops.size) || Region.sinkB .any ops n) && Region.chainB .any ops n && decide (p.size = n) && planB ops n (ops.size - n) p (Array.replicate ops.size false)

theorem wp_region_plan_of {id : Nat} {a : Act} {w : World} {l : List Oper} (n : Nat) (p : Plan) (S : World → Prop) (hm : P.follows .mixedOrders = true) (hB : planOK l.toArray n p = true)
    (hQ : ∀ c d v a w, Q (.panic c) (a.put d v) w → Q (.panic c) a w) (hS : S w.drew)
    (h : wpPlan P l.toArray Q S (fun a' w' => wpList P l.toArray Q (l.drop n) a' w') p a w.drew) : (Code.region id l.toArray true).wp P Q a w := by
  simp only [planOK, Bool.and_eq_true, decide_eq_true_eq, Bool.or_eq_true] at hB
  obtain ⟨⟨⟨⟨⟨hsel, hn⟩, hs⟩, hc⟩, hlen⟩, hord⟩ := hB
  have hn' : n ≤ l.length := by simpa using hn
  have hdl : (l.drop n).length = l.toArray.size - n := by simp
  have inv0 : HeadInv .any l.toArray n (Array.replicate l.toArray.size false) :=
    ⟨by simp, fun j oj _ hl => (by rw [getD_replicate_false] at hl; cases hl), fun t _ ht => getD_in (by simpa using ht) (getD_replicate_false _ _)⟩
  have H := head_of_plan (g := l.toArray.size - n) hQ hsel (fun hlt => hs.resolve_left (by omega)) hc p _ a w.drew inv0 hord hS h
  refine wp_region_any hm ?_
  have := any_of_head (g := l.toArray.size - n) (fun listed a' w' hL => by
    have := wpAny_of_seq (md := .any) (Q' := Q) (l.drop n) n listed a' w' (fun j => by simp [List.getElem?_drop]) (by rw [hdl]; exact hL.1) hL.2
    rwa [hdl] at this) _ _ _ _ H
  rw [hlen, show n + (l.toArray.size - n) = l.toArray.size by omega] at this
  exact this

/-- THE REGION, by a plan that forks; it must not panic. -/
theorem wp_region_plan {id : Nat} {a : Act} {w : World} {l : List Oper} (n : Nat) (p : Plan) (S : World → Prop) (hm : P.follows .mixedOrders = true) (hB : planOK l.toArray n p = true)
    (hS : S w.drew) (h : wpPlan P l.toArray (NoPanic Q) S (fun a' w' => wpList P l.toArray (NoPanic Q) (l.drop n) a' w') p a w.drew) : (Code.region id l.toArray true).wp P Q a w :=
  wp_region_noPanic (wp_region_plan_of n p S hm hB (fun _ _ _ _ _ h => h) hS h)

section
variable {T : Act → World → Prop} {a : Act} {w : World} {k : Nat} {o : Oper} {rest : Plan}
theorem plan_stop (h : T a w) : wpPlan P ops Q S T .stop a w := h
theorem plan_read {v : Value} (ho : ops[k]? = some o) (hw : Region.wanted o (yielded ops a.tmps) = true) (hv : ∀ u, S u → (execOp a.eval o).run P u = .ok (.value v) u)
    (h : wpPlan P ops Q S T rest (a.put o.dst v) w) : wpPlan P ops Q S T (.read k rest) a w := ⟨o, v, ho, .inl ⟨hw, hv⟩, h⟩
theorem plan_op (ho : ops[k]? = some o) (hw : Region.wanted o (yielded ops a.tmps) = true) (h : ∀ K : Act → World → Prop, (∀ a w, S w ∧ wpPlan P ops Q S T rest a w → K a w) → o.wp P a w K Q) :
    wpOp P ops Q k (fun a' w' => S w' ∧ wpPlan P ops Q S T rest a' w') a w := by
  unfold wpOp
  simp only [ho]
  rw [if_pos hw]
  exact .inl (h _ (fun _ _ h => h))
end
end
end Go.Proofs.Ytjmohkgbfigcgaa.Sh
