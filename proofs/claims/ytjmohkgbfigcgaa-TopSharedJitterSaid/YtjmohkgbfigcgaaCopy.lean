/- Copies of lists: append onto nothing. -/
import Derived.Test.YtjmohkgbfigcgaaRep
import Derived.Laws.AppendOwn
import Derived.Laws.OwnMore
import Derived.Deep.AppendLies
namespace Go.Proofs.Ytjmohkgbfigcgaa.Sh
open Go Go.RowKit
set_option linter.unusedVariables false

theorem add_at (b o j : Nat) : (⟨b, o, none⟩ : Addr).add j = ⟨b, o + j, none⟩ := by
  unfold Addr.add
  split
  · rename_i h; subst h; rfl
  · rfl

section
variable {P : Program} {ops : Array Oper} {rest : List Oper} {o : Oper} {a : Act} {Q : Exit → Act → World → Prop} {K : Act → World → Prop}
theorem run_copied (w : World) (base : Nat) (t ty e : TypeId) (i : TypeInfo) (z : Value) (size bytes : Nat) (ht : P.underlying t = some (.slice e)) (hi : P.info? e = some i) (hz : i.zero = some z)
    (hsize : i.size = size) (hby : i.bytes = bytes) (hzs : z.cells.size = size) (hsz : 0 < size) (v0 : Value) (hown : w.ownsRow base e size v0 0 []) (hbase : base ≤ w.heap.size)
    (A : Option Addr) (n c : Nat) (news : List Value) (hl : news.length = n * size) (hp : 0 < n → ∃ b o, A = some ⟨b, o, none⟩ ∧ At w b o news) (h1 : ∀ u ∈ news, u.oneCell' = true)
    (hm : n ≤ maxLen) (hb : n * bytes ≤ 140737488355328) :
    ∃ v' w', (Builtin.append_ #[t, t] ty #[v0, .slice A n c]).run P w = .ok v' w' ∧ w'.ownsRow base e size v' n news ∧ w.grownBy w' v0.ownBlock := by
  rcases A with _ | ad
  · have h0 : n = 0 := by
      rcases Nat.eq_zero_or_pos n with h | h
      · exact h
      · obtain ⟨_, _, h, _⟩ := hp h; cases h
    subst h0
    obtain rfl : news = [] := List.eq_nil_of_length_eq_zero (by simpa using hl)
    refine ⟨v0, w, ?_, hown, World.grownBy.refl w _⟩
    rcases hown.2 with ⟨rfl, _⟩ | ⟨g, cap, cur, rfl, _⟩
    · simp [Builtin.append_, run_underlying ht, sizeOf, typeInfo, hi, Builtin.lenOf, Builtin.firstCells]
    · simp [Builtin.append_, run_underlying ht, sizeOf, typeInfo, hi, Builtin.lenOf, Builtin.firstCells, storeCells]
  · obtain ⟨v', w', hr, h2, h3, _⟩ := run_append_own (P := P) w base t ty e i z size bytes ht hi hz hsize hby hzs hsz v0 0 [] hown ad n c news hl (fun j u hu => by
      have hn : 0 < n := by
        rcases Nat.eq_zero_or_pos n with h | h
        · subst h
          have : news = [] := List.eq_nil_of_length_eq_zero (by simpa using hl)
          subst this
          cases hu
        · exact h
      obtain ⟨b, o, he, ha⟩ := hp hn
      injection he with he
      subst he
      rw [add_at]
      exact (ha j u hu).1) h1 (by omega) (by rw [Nat.zero_add]; exact hb) hbase
    rw [Nat.zero_add, List.nil_append] at h2
    exact ⟨v', w', hr, h2, h3⟩
theorem wp_copied (w : World) (base : Nat) (s x : Operand) (t e : TypeId) (ho : o.op = .call { callee := .builtin .append, args := #[s, x], argTypes := #[t, t] })
    (z : Value) (size bytes : Nat) (ht : P.underlying t = some (.slice e)) (hinfo : (P.info? e).map (fun i => (i.zero, i.size, i.bytes)) = some (some z, size, bytes)) (hzs : z.cells.size = size) (hsz : 0 < size)
    (v0 : Value) (hs : a.eval s = v0) (hown : w.ownsRow base e size v0 0 []) (hbase : base ≤ w.heap.size)
    (A : Option Addr) (n c : Nat) (hx : a.eval x = .slice A n c) (news : List Value) (hl : news.length = n * size) (hp : 0 < n → ∃ b o, A = some ⟨b, o, none⟩ ∧ At w b o news) (h1 : ∀ u ∈ news, u.oneCell' = true)
    (hm : n ≤ maxLen) (hb : n * bytes ≤ 140737488355328)
    (h : ∀ A' c' w', w'.ownsRow base e size (.slice A' n c') n news → w.grownBy w' v0.ownBlock → K (a.put o.dst (.slice A' n c')) w') : o.wp P a w K Q := by
  obtain ⟨i, hi, hzz⟩ := Option.map_eq_some_iff.1 hinfo
  simp only [Prod.mk.injEq] at hzz
  obtain ⟨hz, hsize, hby⟩ := hzz
  obtain ⟨v', w', hr, h2, h3⟩ := run_copied (P := P) w base t o.type e i z size bytes ht hi hz hsize hby hzs hsz v0 hown hbase A n c news hl hp h1 hm hb
  have hv : ∃ A' c', v' = .slice A' n c' := by
    rcases h2.2 with ⟨rfl, rfl⟩ | ⟨g, cap, cur, rfl, _⟩
    · exact ⟨none, 0, rfl⟩
    · exact ⟨_, cap, rfl⟩
  obtain ⟨A', c', rfl⟩ := hv
  unfold Oper.wp execOp
  simp only [ho, resolve, invoke, builtin, Sem.run_bind, Sem.run_pure, Result.andThen_ok, List.map_toArray, List.map_cons, List.map_nil, hs, hx, hr]
  exact h A' c' w' h2 h3
end

/-- what lies in a row of the call's own -/
theorem owned_at {w : World} {base : Nat} {e : TypeId} {size n c : Nat} {A : Option Addr} {news : List Value} (h : w.ownsRow base e size (.slice A n c) n news) :
    n ≤ c ∧ c ≤ maxLen ∧ (0 < n → ∃ b, A = some ⟨b, 0, none⟩ ∧ base ≤ b ∧ b < w.heap.size ∧ At w b 0 news) ∧ news.length = n * size := by
  rcases h.2 with ⟨he, h0⟩ | ⟨g, cap, cur, he, hb, hg, hn, hc, hcs, ht⟩
  · injection he with h1 h2 h3
    subst h1; subst h3; subst h0
    exact ⟨by omega, by simp [maxLen], fun h => by omega, h.1⟩
  · injection he with h1 h2 h3
    subst h1; subst h3
    refine ⟨hn, hc, fun _ => ⟨g, rfl, hb, (Array.getElem?_eq_some_iff.1 hg).1, fun j v hv => ?_⟩, h.1⟩
    rw [Nat.zero_add]
    refine ⟨?_, by simp [World.frozen?, hg]⟩
    have hx := h.cells (g := g) rfl j v hv
    rwa [add_at, Nat.zero_add] at hx
/-- a copy of a list, its elements as they were -/
theorem rep_copied {w w' : World} {S S' : Nat → Prop} {e : Ty} {nb : Nat} {A A' : Option Addr} {n c c' base : Nat} {et : TypeId} {size : Nat} {ds : List e.Data} {news : List Value}
    (hn : n = ds.length) (hnb : n * nb ≤ big) (hr : RepL w' S' e news ds) (ho : w'.ownsRow base et size (.slice A' n c') n news) (hS : ∀ b, base ≤ b → S' b) :
    Rep w' S' (.sl e nb) [.slice A' n c'] ds := by
  obtain ⟨h1, h2, h3, h4⟩ := owned_at ho
  exact rep_sl.2 ⟨hn, h1, h2, hnb, news, fun h => by obtain ⟨b, e, hb, hl, ha⟩ := h3 h; exact ⟨b, 0, e, hS b hb, hl, ha⟩, hr⟩
theorem below_of_grown {w w' : World} (h : w.grownBy w' none) : Below w.heap.size w w' := ⟨h.os, h.tape, h.output, h.size, fun k hk => h.block k hk (by simp)⟩
theorem bcell {W w1 : World} (hb : Below W.heap.size W w1) : (∀ b o, b < W.heap.size → w1.cell? ⟨b, o, none⟩ = W.cell? ⟨b, o, none⟩) ∧ (∀ b o, b < W.heap.size → w1.frozen? ⟨b, o, none⟩ = W.frozen? ⟨b, o, none⟩) :=
  ⟨fun b o h => hb.cell (p := ⟨b, o, none⟩) h, fun b o h => hb.frozen (p := ⟨b, o, none⟩) h⟩
theorem Rep.flat_any {w w' : World} {S S' : Nat → Prop} {e : Ty} {news : List Value} {ds : List e.Data} (hf : e.flat = true) (h : RepL w S e news ds) : RepL w' S' e news ds :=
  ⟨h.1, fun i hi => Rep.any e _ _ hf (h.2 i hi)⟩
end Go.Proofs.Ytjmohkgbfigcgaa.Sh
