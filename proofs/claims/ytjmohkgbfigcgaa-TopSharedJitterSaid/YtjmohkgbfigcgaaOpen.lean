/- What a caller hands in, opened: a reading of it gives a datum of its kind (Rep). No function of the program is walked here. -/
import Derived.Test.YtjmohkgbfigcgaaRep
import Derived.OpenShut
import Derived.SizedLaws
namespace Go.Proofs.Ytjmohkgbfigcgaa.Sh
open Go Go.RowKit
set_option linter.unusedVariables false

/-- the type t of the program has the shape of T; or what is left of a struct's row, from a place on -/
def Ty.fits (P : Program) : Ty → (TypeId ⊕ (List Field × Nat)) → Bool
  | .int k, .inl t => match P.underlying t with | some (.int k') => k' == k | _ => false
  | .bool, .inl t => match P.underlying t with | some .bool => true | _ => false
  | .str, .inl t => match P.underlying t with | some .string => true | _ => false
  | .sl e nb, .inl t => match P.underlying t with
    | some (.slice et) => P.cellsOf et == e.width && P.bytesOf et == nb && decide (0 < e.width) && e.fits P (.inl et)
    | _ => false
  | .cons a b, .inl t => match P.underlying t with
    | some (.struct fs) => P.cellsOf t == a.width + b.width && (match fs.toList with
      | f :: r => f.offset == 0 && P.cellsOf f.type == a.width && a.fits P (.inl f.type) && b.fits P (.inr (r, 0 + a.width))
      | [] => false)
    | _ => false
  | .nil, .inr ([], _) => true
  | .cons a b, .inr (f :: r, o) => f.offset == o && P.cellsOf f.type == a.width && a.fits P (.inl f.type) && b.fits P (.inr (r, o + a.width))
  | _, _ => false

section
variable {H : Type} {enc : TypeId × Value → H} {P : Program} {w : World}

def RepIn (w : World) (T : Ty) (cs : List Value) : Prop := ∃ D : T.Data, Rep w (fun b => b < w.heap.size) T cs D

def Opens1 (enc : TypeId × Value → H) (P : Program) (w : World) (T : Ty) : Prop :=
  ∀ t, T.fits P (.inl t) = true → ∀ (fuel : Nat) (cs : List Value) x, DataW.trod enc P w 0 (fun _ => true) true fuel t cs = some x → (∀ n ∈ x.1.weights P t, n ≤ big) → w.noneFrozen x.2 → RepIn w T cs
def Opens2 (enc : TypeId × Value → H) (P : Program) (w : World) (T : Ty) : Prop :=
  ∀ fs o, T.fits P (.inr (fs, o)) = true → ∀ (n : Nat) (cs : List Value) (xs : List (DataW H × List MemPlace)), (∀ (i : Nat) (f : Field), fs[i]? = some f → DataW.trod enc P w 0 (fun _ => true) true n f.type ((cs.drop f.offset).take (P.cellsOf f.type)) = xs[i]?) → xs.length = fs.length →
    (∀ n ∈ DataW.weightsEach P (fs.map (·.type)) (xs.map (·.1)), n ≤ big) → w.noneFrozen (xs.flatMap (·.2)) → cs.length = o + T.width → RepIn w T (cs.drop o)

theorem add_none (b o i : Nat) : (⟨b, o, none⟩ : Addr).add i = ⟨b, o + i, none⟩ := by unfold Addr.add; split <;> simp_all
theorem add_zero' (a : Addr) : a.add 0 = a := by simp [Addr.add]
theorem cells?_get {base n : Nat} {a : Addr} {cs : List Value} (h : w.cells? base a n = some cs) : cs.length = n ∧ ∀ i, i < n → w.cell? (a.add i) = cs[i]? := by
  unfold World.cells? at h
  split at h
  · exact ⟨by simpa using mapM_some_length h, fun i hi => mapM_some_get h i i (by simp [hi])⟩
  · cases h

theorem weights_all {e : TypeId} : ∀ {ds : List (DataW H)}, (∀ n ∈ DataW.weightsAll P e ds, n ≤ big) → ∀ d ∈ ds, ∀ n ∈ d.weights P e, n ≤ big
  | [], _, d, hd, _, _ => by simp at hd
  | d0 :: ds, h, d, hd, n, hn => by
    simp only [DataW.weightsAll, List.mem_append] at h
    rcases List.mem_cons.1 hd with rfl | hd
    · exact h n (.inl hn)
    · exact weights_all (fun n hn => h n (.inr hn)) d hd n hn

theorem opens_slice {e : Ty} {nb : Nat} (ih : Opens1 enc P w e) : Opens1 enc P w (.sl e nb) := by
  intro t ht fuel cs x h hwt hfz
  cases hu : P.underlying t with
  | none => rw [Ty.fits, hu] at ht; cases ht
  | some td =>
    rw [Ty.fits, hu] at ht
    cases td <;> try (cases ht; done)
    rename_i et
    simp only [Bool.and_eq_true, beq_iff_eq, decide_eq_true_eq] at ht
    obtain ⟨⟨⟨hcw, hnb⟩, hpos⟩, hf⟩ := ht
    rcases DataW.trod_slice hu h with ⟨rfl, -⟩ | ⟨⟨blk, off, spot⟩, len, cap, elems, rest, n, -, rfl, rfl, -, hl, hm, hlen, hel, hsp, -⟩
    · exact ⟨[], none, 0, [], rfl, Nat.le_refl _, by simp, by simp, by simp, fun h => absurd h (by simp), fun i h => absurd h (by simp)⟩
    · rw [hcw] at hel hfz
      obtain ⟨hrl, -⟩ := hsp rfl
      have hbig : (len + (cap - len)) * nb ≤ big := by
        have := hwt ((elems.length + rest.length) * nb) (by simp [DataW.weights, hu, hnb])
        rwa [hlen, hrl] at this
      have hall : ∀ d ∈ elems.map (·.1), ∀ n ∈ d.weights P et, n ≤ big := weights_all (ds := elems.map (·.1)) fun n hn => hwt n (by
        simp only [DataW.weights, hu, List.mem_cons, List.mem_append]; exact .inr (.inl hn))
      rcases Nat.eq_zero_or_pos len with rfl | hlen0
      · exact ⟨[], some ⟨blk, off, spot⟩, cap, [], rfl, hl, hm, by simp, by simp, fun h => absurd h (by simp), fun i h => absurd h (by simp)⟩
      obtain rfl : spot = none := by
        have h1 := hel 0 hlen0
        obtain ⟨y, hy⟩ : ∃ y, elems[0]? = some y := ⟨elems[0]'(by omega), List.getElem?_eq_getElem _⟩
        rw [hy, Option.bind_eq_some_iff] at h1
        obtain ⟨c, hc, -⟩ := h1
        obtain ⟨hcl, hcg⟩ := cells?_get hc
        have h2 := hcg 0 hpos
        rw [List.getElem?_eq_getElem (by omega)] at h2
        simp only [add_zero', Nat.zero_mul] at h2
        simpa using World.cell?_spot h2
      -- each element's cells
      have each : ∀ i : Fin len, ∃ c : List Value, c.length = e.width ∧ (∀ j, j < e.width → w.cell? ⟨blk, off + i * e.width + j, none⟩ = c[j]?) ∧ RepIn w e c := by
        intro ⟨i, hi⟩
        have h1 := hel i hi
        obtain ⟨y, hy⟩ : ∃ y, elems[i]? = some y := ⟨elems[i]'(by omega), List.getElem?_eq_getElem _⟩
        rw [hy, Option.bind_eq_some_iff] at h1
        obtain ⟨c, hc, hd⟩ := h1
        obtain ⟨hcl, hcg⟩ := cells?_get hc
        have hyin : y ∈ elems := List.mem_of_getElem? hy
        refine ⟨c, hcl, fun j hj => by simpa only [add_none, Nat.add_assoc] using hcg j hj, ih et hf n c y hd (hall _ (List.mem_map.2 ⟨y, hyin, rfl⟩)) fun b o hb => hfz b o ?_⟩
        simp only [List.mem_append, List.mem_flatMap]
        exact .inr ⟨y, .inl hyin, hb⟩
      -- one row of them
      let cell (i : Fin len) : List Value := Classical.choose (each i)
      have hcell : ∀ i : Fin len, (cell i).length = e.width ∧ (∀ j, j < e.width → w.cell? ⟨blk, off + i * e.width + j, none⟩ = (cell i)[j]?) ∧ RepIn w e (cell i) := fun i => Classical.choose_spec (each i)
      let dat (i : Fin len) : e.Data := Classical.choose (hcell i).2.2
      have hdat : ∀ i : Fin len, Rep w (fun b => b < w.heap.size) e (cell i) (dat i) := fun i => Classical.choose_spec (hcell i).2.2
      have hat : ∀ k, k < len * e.width → ∃ v, w.cell? ⟨blk, off + k, none⟩ = some v := by
        intro k hk
        have hi : k / e.width < len := (Nat.div_lt_iff_lt_mul hpos).2 hk
        have hj : k % e.width < e.width := Nat.mod_lt _ hpos
        have h1 := (hcell ⟨k / e.width, hi⟩).2.1 _ hj
        have h2 : off + k / e.width * e.width + k % e.width = off + k := by rw [Nat.add_assoc, Nat.mul_comm, Nat.div_add_mod]
        simp only [h2] at h1
        exact ⟨_, h1.trans (List.getElem?_eq_getElem (by rw [(hcell _).1]; exact hj))⟩
      let news : List Value := List.ofFn fun k : Fin (len * e.width) => Classical.choose (hat k.1 k.2)
      have hnews : ∀ k (hk : k < len * e.width), w.cell? ⟨blk, off + k, none⟩ = news[k]? := fun k hk => by
        rw [Classical.choose_spec (hat k hk), List.getElem?_eq_getElem (by simp [news, hk])]
        simp [news]
      have hseg : ∀ i : Fin len, (news.drop (i * e.width)).take e.width = cell i := by
        intro i
        refine List.ext_getElem? fun j => ?_
        rw [List.getElem?_take]
        split
        · rename_i hj
          have hk : i * e.width + j < len * e.width := by
            have : (i.1 + 1) * e.width ≤ len * e.width := Nat.mul_le_mul_right _ i.2
            rw [Nat.add_mul] at this; omega
          rw [List.getElem?_drop, ← hnews _ hk, ← Nat.add_assoc, (hcell i).2.1 j hj]
        · rename_i hj
          exact (List.getElem?_eq_none (by rw [(hcell i).1]; omega)).symm
      refine ⟨List.ofFn dat, some ⟨blk, off, none⟩, cap, news, by simp, by simpa using hl, hm, ?_, by simp [news], ?_, ?_⟩
      · simp only [List.length_ofFn]
        exact Nat.le_trans (Nat.mul_le_mul_right _ (by omega)) hbig
      · simp only [List.length_ofFn]
        intro h0
        have h1 := hnews 0 (Nat.mul_pos h0 hpos)
        have h2 : (0 : Nat) < len * e.width := Nat.mul_pos h0 hpos
        obtain ⟨v, hv⟩ := hat 0 h2
        have hlt : blk < w.heap.size := World.block_lt_of_cell? w _ hv
        refine ⟨blk, off, rfl, hlt, hlt, fun j v hj => ?_⟩
        have hjl : j < len * e.width := by
          rcases Nat.lt_or_ge j (len * e.width) with h | h
          · exact h
          · rw [List.getElem?_eq_none (by simp [news, h])] at hj; cases hj
        refine ⟨(hnews j hjl).trans hj, hfz blk (off + j) ?_⟩
        simp only [List.mem_append]
        refine .inl (MemPlace.mem_row.2 ⟨j, ?_, rfl⟩)
        rw [hlen]
        exact Nat.lt_of_lt_of_le hjl (Nat.mul_le_mul_right _ (by omega))
      · intro i hi
        simp only [List.length_ofFn] at hi
        rw [List.getElem_ofFn, hseg ⟨i, hi⟩]
        exact hdat ⟨i, hi⟩

theorem opens : ∀ T : Ty, Opens1 enc P w T ∧ Opens2 enc P w T
  | .int k => ⟨fun t ht fuel cs x h _ _ => by
      cases hu : P.underlying t with
      | none => rw [Ty.fits, hu] at ht; cases ht
      | some td =>
        rw [Ty.fits, hu] at ht
        cases td <;> try (cases ht; done)
        simp only [beq_iff_eq] at ht
        subst ht
        obtain ⟨n, rfl, -, hw⟩ := DataW.trod_int hu h
        simp only [Lit.wf, Bool.and_eq_true, decide_eq_true_eq] at hw
        exact ⟨n, rfl, hw⟩, fun fs o h => by simp [Ty.fits] at h⟩
  | .bool => ⟨fun t ht fuel cs x h _ _ => by
      cases hu : P.underlying t with
      | none => rw [Ty.fits, hu] at ht; cases ht
      | some td =>
        rw [Ty.fits, hu] at ht
        cases td <;> try (cases ht; done)
        obtain ⟨n, rfl, -⟩ := DataW.trod_bool hu h
        exact ⟨n, rfl⟩, fun fs o h => by simp [Ty.fits] at h⟩
  | .str => ⟨fun t ht fuel cs x h hwt _ => by
      cases hu : P.underlying t with
      | none => rw [Ty.fits, hu] at ht; cases ht
      | some td =>
        rw [Ty.fits, hu] at ht
        cases td <;> try (cases ht; done)
        obtain ⟨s, rfl, rfl, -⟩ := DataW.trod_string hu h
        exact ⟨s, rfl, by simpa [DataW.weights] using hwt⟩, fun fs o h => by simp [Ty.fits] at h⟩
  | .sl e nb => ⟨opens_slice (opens e).1, fun fs o h => by simp [Ty.fits] at h⟩
  | .nil => ⟨fun t ht => by simp [Ty.fits] at ht, fun fs o h n cs xs _ _ _ _ hl => ⟨(), by show cs.drop o = []; simp [Ty.width] at hl; simp [hl]⟩⟩
  | .cons a b => by
      have h2 : Opens2 enc P w (.cons a b) := by
        intro fs o h n cs xs hx hxl hwt hfz hl
        match fs, h, xs, hx, hxl, hwt, hfz with
        | [], h, _, _, _, _, _ => simp [Ty.fits] at h
        | f :: r, h, [], _, hxl, _, _ => simp at hxl
        | f :: r, h, y :: ys, hx, hxl, hwt, hfz =>
          simp only [Ty.fits, Bool.and_eq_true, beq_iff_eq] at h
          obtain ⟨⟨⟨ho, hc⟩, ha⟩, hb⟩ := h
          simp only [List.map_cons, DataW.weightsEach, List.mem_append] at hwt
          have h0 := hx 0 f rfl
          rw [ho, hc] at h0
          obtain ⟨d1, r1⟩ := (opens a).1 f.type ha n _ y h0 (fun n hn => hwt n (.inl hn)) (fun b o hb => hfz b o (by simp [hb]))
          simp only [Ty.width] at hl
          obtain ⟨d2, r2⟩ := (opens b).2 r (o + a.width) hb n cs ys (fun i g hg => hx (i + 1) g (by simpa using hg)) (by simpa using hxl) (fun n hn => hwt n (.inr hn)) (fun b o hb => hfz b o (by rw [List.flatMap_cons, List.mem_append]; exact .inr hb)) (by omega)
          refine ⟨(d1, d2), _, _, ?_, r1, r2⟩
          rw [← List.drop_drop, List.take_append_drop]
      refine ⟨fun t ht fuel cs x h hwt hfz => ?_, h2⟩
      cases hu : P.underlying t with
      | none => rw [Ty.fits, hu] at ht; cases ht
      | some td =>
        rw [Ty.fits, hu] at ht
        cases td <;> try (cases ht; done)
        rename_i fs
        simp only [Bool.and_eq_true, beq_iff_eq] at ht
        obtain ⟨hcl, ht⟩ := ht
        obtain ⟨xs, n, -, rfl, hlen, hxl, hx⟩ := DataW.trod_struct hu h
        have := h2 fs.toList 0 (by
          revert ht
          cases hfs : fs.toList with
          | nil => intro ht; simp at ht
          | cons f r => intro ht; simpa [Ty.fits] using ht) n cs xs (fun i f hf => hx i f (by simpa using hf)) (by simpa using hxl) (fun n hn => hwt n (by simpa [DataW.weights, hu] using hn)) hfz (by rw [hlen, hcl]; simp [Ty.width])
        simpa using this
end
end Go.Proofs.Ytjmohkgbfigcgaa.Sh
