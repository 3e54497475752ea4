/- slices.Insert of one element into a list of one's own. -/
import Derived.Test.YtjmohkgbfigcgaaJSearch
import Derived.Lib.Overlaps
import Derived.Lib.AppendZerosOnto
import Derived.Laws.Externs
namespace Go.Proofs.Ytjmohkgbfigcgaa.Sh
open Go Go.RowKit
set_option linter.unusedVariables false
set_option linter.unusedSimpArgs false

/-- cells copied into a list of one's own -/
theorem copy_own {P : Program} {w : World} {base : Nat} {e : TypeId} {size n c g : Nat} {news : List Value} (h : w.ownsRow base e size (.slice (some ⟨g, 0, none⟩) n c) n news) (dT sT ty : TypeId) (hu : P.underlying dT = some (.slice e)) (hs : (P.info? e).map (·.size) = some size)
    (o dLen dCap k : Nat) (a : Addr) (sLen sCap : Nat) (cs : List Value) (hk : Nat.min sLen dLen = k) (hn : cs.length = k * size) (hsrc : ∀ j v, cs[j]? = some v → w.cell? (a.add j) = some v) (hoff : o + cs.length ≤ n * size) (h1 : ∀ v ∈ cs, v.oneCell' = true) :
    ∃ w', (Builtin.copy_ #[dT, sT] ty #[.slice (some ⟨g, o, none⟩) dLen dCap, .slice (some a) sLen sCap]).run P w = .ok (goInt k) w' ∧ w'.ownsRow base e size (.slice (some ⟨g, 0, none⟩) n c) n (news.take o ++ cs ++ news.drop (o + cs.length)) ∧ w.grownBy w' (some g) := by
  obtain ⟨w', hst, ho', hg⟩ := row_store (P := P) h hoff h1
  refine ⟨w', ?_, ho', hg⟩
  have hl := run_loadCells_list (P := P) w a cs hsrc
  cases hq : P.info? e with
  | none => simp [hq] at hs
  | some i =>
    have hi : i.size = size := by simpa [hq] using hs
    simp [Builtin.copy_, run_underlying hu, Builtin.lenOf, Builtin.firstCells, sizeOf, typeInfo, hq, hi, hk, ← hn, hl, hst]

theorem wp_copy_eq {P : Program} {w : World} {o : Oper} {a : Act} {K : Act → World → Prop} {Q : Exit → Act → World → Prop} (d s : Operand) (t t' : TypeId)
    (ho : o.op = .call { callee := .builtin .copy, args := #[d, s], argTypes := #[t, t'] }) (v u : Value) (hd : a.eval d = v) (hs : a.eval s = u) {v' : Value} {w' : World}
    (hr : (Builtin.copy_ #[t, t'] o.type #[v, u]).run P w = .ok v' w') (h : K (a.put o.dst v') w') : o.wp P a w K Q := by
  unfold Oper.wp execOp
  simp only [ho, resolve, invoke, builtin, Sem.run_bind, Sem.run_pure, Result.andThen_ok, List.map_toArray, List.map_cons, List.map_nil, hd, hs, hr]
  exact h
theorem wpList_copy_eq {P : Program} {w : World} {ops : Array Oper} {rest : List Oper} {o : Oper} {a : Act} {Q : Exit → Act → World → Prop} (hgd : o.guard = none) (d s : Operand) (t t' : TypeId)
    (ho : o.op = .call { callee := .builtin .copy, args := #[d, s], argTypes := #[t, t'] }) (v u : Value) (hd : a.eval d = v) (hs : a.eval s = u) {v' : Value} {w' : World}
    (hr : (Builtin.copy_ #[t, t'] o.type #[v, u]).run P w = .ok v' w') (h : wpList P ops Q rest (a.put o.dst v') w') : wpList P ops Q (o :: rest) a w :=
  wpList_plain hgd fun _ hK => wp_copy_eq d s t t' ho v u hd hs hr (hK _ _ h)
/-- one cell more of what is spare -/
theorem owns_spare {w : World} {base : Nat} {e : TypeId} {size n c g : Nat} {news : List Value} (h : w.ownsRow base e size (.slice (some ⟨g, 0, none⟩) n c) n news) (hr : n + 1 ≤ c) :
    ∃ ex, ex.length = size ∧ w.ownsRow base e size (.slice (some ⟨g, 0, none⟩) (n + 1) c) (n + 1) (news ++ ex) := by
  have hl := h.1
  rcases h.2 with ⟨he, _⟩ | ⟨g', cap, cur, he, hb, hg, hn, hc, hcs, ht⟩
  · cases he
  · injection he with h2 h3 h4
    injection h2 with h2
    injection h2 with h2 _ _
    subst h2; subst h4
    have hle : (n + 1) * size ≤ cur.size := by rw [hcs]; exact Nat.mul_le_mul_right _ hr
    have hs1 : (n + 1) * size = n * size + size := Nat.succ_mul ..
    refine ⟨(cur.toList.drop (n * size)).take size, by simp only [List.length_take, List.length_drop, Array.length_toList]; omega, ?_, .inr ⟨g, c, cur, rfl, hb, hg, hr, hc, hcs, ?_⟩⟩
    · simp only [List.length_append, List.length_take, List.length_drop, Array.length_toList]; omega
    · rw [hs1, List.take_add, ht]
theorem grown_none {a b : World} {r : Option Nat} (h : a.grownBy b none) : a.grownBy b r := ⟨h.os, h.tape, h.output, h.size, fun k hk _ => h.block k hk (by simp)⟩

theorem grown_from_drew {a b : World} {r : Option Nat} (h : a.drew.grownBy b r) : a.grownBy b r := ⟨h.os, h.tape, h.output, h.size, h.block⟩
theorem held_info : ∃ i z, Try.prog.info? 83 = some i ∧ i.zero = some z ∧ i.size = 10 ∧ i.bytes = 120 ∧ z.cells.size = 10 := by
  obtain ⟨i, hi, h⟩ := Option.map_eq_some_iff.1 infoHeldJ
  simp only [Prod.mk.injEq] at h
  exact ⟨i, _, hi, h.1, h.2.1, h.2.2, rfl⟩
theorem bk_src {w : World} {b : Nat} {T : TypeId} {vs : List Value} (h : Bk w b T vs) : ∀ j u, vs[j]? = some u → w.cell? ((⟨b, 0, none⟩ : Addr).add j) = some u := fun j u hj => by
  have := (h.at_ j u hj).1
  rwa [add_at]

/-- what Insert hands back -/
def Inserted (B : Nat) (A : Option Addr) (n c : Nat) (out : List Value) (w : World) (e : Ending) (w' : World) : Prop :=
  ∃ A' c', e = .returned (.slice A' (n + 1) c') ∧ w'.ownsRow B 83 10 (.slice A' (n + 1) c') (n + 1) out ∧ w.grownBy w' (Value.slice A n c).ownBlock

theorem row_slice {w : World} {B m : Nat} {v : Value} {xs : List Value} (h : w.ownsRow B 83 10 v m xs) : ∃ A c, v = .slice A m c := by
  rcases h.2 with ⟨rfl, rfl⟩ | ⟨g, cap, cur, rfl, _⟩
  · exact ⟨_, _, rfl⟩
  · exact ⟨_, _, rfl⟩

section
variable (w : World) (B n i vb : Nat) (news vs : List Value)
set_option maxRecDepth 100000 in
set_option maxHeartbeats 3200000 in
/-- at the end -/
theorem insert_end (A : Option Addr) (c : Nat) (hown : w.ownsRow B 83 10 (.slice A n c) n news) (hn : n ≤ 1000) (hv : Bk w vb 83 vs) (hvl : vs.length = 10) (h1 : ∀ v ∈ vs, v.oneCell' = true) (hB : B ≤ w.heap.size) :
    Calls Try.prog 44 #[.slice A n c, .int .i64 n, .slice (some ⟨vb, 0, none⟩) 1 1] w (Inserted B A n c (news ++ vs) w) := by
  obtain ⟨hnc, hcm, hpl, hlen⟩ := owned_at hown
  have hc63 : c ≤ 9223372036854775807 := by simp only [maxLen] at hcm; omega
  obtain ⟨i0, z0, hI1, hI2, hI3, hI4, hI5⟩ := held_info
  have HI1 := Lib.hid hI1
  have HI2 := Lib.hid hI2
  have HI3 := Lib.hid hI3
  have HI4 := Lib.hid hI4
  have HI5 := Lib.hid hI5
  have HO := Lib.hid hown
  have HV := Lib.hid (bk_src hv)
  have H1 := Lib.hid h1
  have HL := Lib.hid hvl
  clear hown hv hpl hI1 hI2 hI3 hI4 hI5 h1 hvl
  cases A with
  | none =>
    have hz : n = 0 ∧ c = 0 := by
      rcases HO.out.2 with ⟨he, h0⟩ | ⟨g, cap, cur, he, _⟩
      · injection he with _ _ h3
        exact ⟨h0, h3⟩
      · injection he with he; cases he
    obtain ⟨rfl, rfl⟩ := hz
    go_enter Try.func44, Try.ntmps44
    go_wp2_with (at_builtin; refine wpList_plain rfl fun K hK => wp_append_own w _ _ 22 rfl B 83 i0 z0 10 120 Try.underlying22 HI1.out HI2.out HI3.out HI4.out HI5.out (by omega) (.slice none 0 0) 0 news rfl HO.out ⟨vb, 0, none⟩ 1 1 vs rfl (by rw [HL.out]) HV.out H1.out (by simp [maxLen]) (by omega) hB ?_; intro v' w' ho hg _; refine hK _ _ ?_; clear hK K)
    go_ret
    obtain ⟨A', c', rfl⟩ := row_slice ho
    exact ⟨A', c', rfl, ho, hg⟩
  | some a =>
    obtain ⟨ab, ao, asp⟩ := a
    go_enter Try.func44, Try.ntmps44
    go_wp2_with (at_builtin; refine wpList_plain rfl fun K hK => wp_append_own w _ _ 22 rfl B 83 i0 z0 10 120 Try.underlying22 HI1.out HI2.out HI3.out HI4.out HI5.out (by omega) (.slice (some ⟨ab, ao, asp⟩) n c) n news rfl HO.out ⟨vb, 0, none⟩ 1 1 vs rfl (by rw [HL.out]) HV.out H1.out (by simp only [maxLen]; omega) (by omega) hB ?_; intro v' w' ho hg _; refine hK _ _ ?_; clear hK K)
    all_goals go_ret
    all_goals obtain ⟨A', c', rfl⟩ := row_slice ho
    all_goals exact ⟨A', c', rfl, ho, hg⟩

theorem ins_grow {α : Type} (X news vs : List α) (i n : Nat) (hX : X.take (i * 10) = news.take (i * 10)) (hXl : X.length = (n + 1) * 10) (hn : news.length = n * 10) (hv : vs.length = 10) (hi : i < n) :
    (X.take (i * 10) ++ vs ++ X.drop (i * 10 + 10)).take ((i + 1) * 10) ++ news.drop (i * 10) ++ (X.take (i * 10) ++ vs ++ X.drop (i * 10 + 10)).drop ((i + 1) * 10 + (news.drop (i * 10)).length) = news.take (i * 10) ++ vs ++ news.drop (i * 10) := by
  have e1 : (X.take (i * 10) ++ vs).length = (i + 1) * 10 := by rw [List.length_append, List.length_take, hXl, hv]; omega
  have e2 : (X.take (i * 10) ++ vs ++ X.drop (i * 10 + 10)).length ≤ (i + 1) * 10 + (news.drop (i * 10)).length := by
    simp only [List.length_append, List.length_take, List.length_drop, hXl, hv, hn]; omega
  rw [List.drop_of_length_le e2, List.take_left' e1, List.append_nil, hX]
theorem ins_shift {α : Type} (ex news vs : List α) (i n : Nat) (hn : news.length = n * 10) (hx : ex.length = 10) (hv : vs.length = 10) (hi : i < n) :
    ((news ++ ex).take ((i + 1) * 10) ++ news.drop (i * 10) ++ (news ++ ex).drop ((i + 1) * 10 + (news.drop (i * 10)).length)).take (i * 10) ++ vs ++ ((news ++ ex).take ((i + 1) * 10) ++ news.drop (i * 10) ++ (news ++ ex).drop ((i + 1) * 10 + (news.drop (i * 10)).length)).drop (i * 10 + vs.length) = news.take (i * 10) ++ vs ++ news.drop (i * 10) := by
  have e0 : (news ++ ex).drop ((i + 1) * 10 + (news.drop (i * 10)).length) = [] := by
    apply List.drop_of_length_le; simp only [List.length_append, List.length_drop, hn, hx]; omega
  have e1 : ((news ++ ex).take ((i + 1) * 10)).length = (i + 1) * 10 := by rw [List.length_take, List.length_append, hn, hx]; omega
  rw [e0, List.append_nil, hv, show i * 10 + 10 = (i + 1) * 10 by omega, List.drop_left' e1, List.take_append_of_le_length (by rw [e1]; omega), List.take_take, Nat.min_eq_left (by omega), List.take_append_of_le_length (by rw [hn]; omega)]

set_option maxRecDepth 100000 in
set_option maxHeartbeats 3200000 in
/-- in the midst, where there is room -/
theorem insert_shift (g c : Nat) (hown : w.ownsRow B 83 10 (.slice (some ⟨g, 0, none⟩) n c) n news) (hn : n ≤ 1000) (hi : i < n) (hroom : n + 1 ≤ c) (hgv : vb ≠ g) (hv : Bk w vb 83 vs) (hvl : vs.length = 10) (h1 : ∀ v ∈ vs, v.oneCell' = true) (h1n : ∀ v ∈ news, v.oneCell' = true) :
    Calls Try.prog 44 #[.slice (some ⟨g, 0, none⟩) n c, .int .i64 i, .slice (some ⟨vb, 0, none⟩) 1 1] w (Inserted B (some ⟨g, 0, none⟩) n c (news.take (i * 10) ++ vs ++ news.drop (i * 10)) w) := by
  obtain ⟨hnc, hcm, hpl, hlen⟩ := owned_at hown
  have hc63 : c ≤ 9223372036854775807 := by simp only [maxLen] at hcm; omega
  obtain ⟨g', e', hg1, hg2, hat⟩ := hpl (by omega)
  injection e' with e'; injection e' with e' _ _; subst e'
  obtain ⟨ex, hex, hown2⟩ := owns_spare hown hroom
  have hov : ∀ lb cb, (callFunc 66 #[.slice (some ⟨vb, 0, none⟩) 1 1, .slice (some ⟨g, (i + 1) * 10, none⟩) lb cb]).run Try.prog w = .ok (.value (.bool false)) w := fun lb cb => by
    obtain ⟨cur, tc, fz, hcur, hcz⟩ : ∃ cur tc fz, w.heap[g]? = some (.cells cur tc fz) ∧ cur.size ≠ 0 := by
      rcases hown.2 with ⟨he, _⟩ | ⟨g2, cap, cur, he, hb, hg, hn', hc', hcs, ht⟩
      · cases he
      · injection he with h2 h3 h4
        injection h2 with h2
        injection h2 with h2 _ _
        subst h2; subst h4
        exact ⟨cur, _, _, hg, by rw [hcs]; omega⟩
    have hsv : w.shape? vb = some (83, vs.toArray.size) := by
      have : w.heap[vb]? = some (.cells vs.toArray 83 (0, 0)) := hv
      simp [World.shape?, this]
    have hsg : w.shape? g = some (tc, cur.size) := by simp [World.shape?, hcur]
    rw [run_callFunc_extern Try.func66 (by kernel_rfl) (by kernel_rfl) (by kernel_rfl) (e := Extern.SlicesOverlaps.overlaps #[22, 22] #[4]) (by kernel_rfl),
      Lib.run_overlaps_apart w 22 4 83 Try.underlying22 10 (fun w => by kernel_rfl) ⟨vb, 0, none⟩ ⟨g, (i + 1) * 10, none⟩ 1 1 lb cb hgv _ _ _ _ hsv hsg hcz (hv.plain.free 0) (hv.plain.free _)]
    rfl
  have hcp1 : ∀ ty dc sc, ∃ w', (Builtin.copy_ #[22, 22] ty #[.slice (some ⟨g, (i + 1) * 10, none⟩) (n + 1 - (i + 1)) dc, .slice (some ⟨g, i * 10, none⟩) (n + 1 - i) sc]).run Try.prog w.drew = .ok (goInt (n - i : Nat)) w' ∧
      w'.ownsRow B 83 10 (.slice (some ⟨g, 0, none⟩) (n + 1) c) (n + 1) ((news ++ ex).take ((i + 1) * 10) ++ news.drop (i * 10) ++ (news ++ ex).drop ((i + 1) * 10 + (news.drop (i * 10)).length)) ∧ w.drew.grownBy w' (some g) := fun ty dc sc =>
    copy_own (w := w.drew) hown2 _ _ ty Try.underlying22 (by kernel_rfl) _ _ dc (n - i) _ _ sc (news.drop (i * 10)) (by simp only [Nat.min_def]; split <;> omega) (by rw [List.length_drop, hlen]; omega) (fun j v hj => by
      rw [add_at]
      rw [List.getElem?_drop] at hj
      have := (hat (i * 10 + j) v hj).1
      rw [Nat.zero_add] at this
      exact this) (by rw [List.length_drop, hlen]; omega) (fun v hv => h1n v (List.mem_of_mem_drop hv))
  have hz2 : ¬ ((i : Int) = (n : Int)) := by omega
  have hroomI : ¬ ((c : Int) < (n : Int) + 1) := by omega
  have hb1 : ¬ (c = i) := by omega
  have hb2 : ¬ (c = i + 1) := by omega
  have hile : i ≤ n := by omega
  have hiI : (i : Int) ≤ (n : Int) := by omega
  have hiI2 : (i : Int) + 1 ≤ (n : Int) + 1 := by omega
  have hiI3 : (i : Int) ≤ (n : Int) + 1 := by omega
  have HO := Lib.hid hown
  have HV := Lib.hid hv
  have H1 := Lib.hid h1
  have HL := Lib.hid hvl
  have HCP := Lib.hid hcp1
  have HX := Lib.hid hex
  have HLn := Lib.hid hlen
  clear hown hown2 hv h1 hvl hcp1 hat hpl h1n hex hlen
  go_enter Try.func44, Try.ntmps44
  go_wp2_with (simp only [hov])
  have hwi : IntKind.i64.wrap ((i : Int) + 1) = (i : Int) + 1 := wrap_id _ (by omega)
  refine wp_region_ord 9 [(0, true), (1, true), (2, true), (3, true), (4, true), (5, true), (6, true), (7, true), (8, false)] (fun u => True) (by kernel_rfl) (by kernel_rfl) trivial ?_
  refine ord_read (by rfl) (by rfl) (fun u hu => by (go_simp; first | done | rfl | (intro hneg; exact absurd hneg (by omega)))) ?_
  refine ord_read (by rfl) (by rfl) (fun u hu => by (go_simp; first | done | rfl | (intro hneg; exact absurd hneg (by omega)))) ?_
  refine ord_read (by rfl) (by rfl) (fun u hu => by (go_simp; first | done | rfl | (intro hneg; exact absurd hneg (by omega)))) ?_
  refine ord_read (v := .int .i64 ((i : Int) + 1)) (by rfl) (by rfl) (fun u hu => by (go_simp; first | done | rfl | (intro hneg; exact absurd hneg (by omega)))) ?_
  simp only [Act.put, List.setIfInBounds_toArray, List.set_cons_zero, List.set_cons_succ, List.getElem_toArray, List.getElem_cons_succ, List.getElem_cons_zero]
  refine ord_read (v := .slice (some ⟨g, (i + 1) * 10, none⟩) (n + 1 - (i + 1)) (c - (i + 1))) (by rfl) (by rfl) (fun u hu => by (go_simp; first | done | rfl | (intro hneg; exact absurd hneg (by omega)))) ?_
  refine ord_read (by rfl) (by rfl) (fun u hu => by (go_simp; first | done | rfl | (intro hneg; exact absurd hneg (by omega)))) ?_
  refine ord_read (by rfl) (by rfl) (fun u hu => by (go_simp; first | done | rfl | (intro hneg; exact absurd hneg (by omega)))) ?_
  refine ord_read (v := .slice (some ⟨g, i * 10, none⟩) (n + 1 - i) (c - i)) (by rfl) (by rfl) (fun u hu => by (go_simp; first | done | rfl | (intro hneg; exact absurd hneg (by omega)))) ?_
  simp only [Act.put, List.setIfInBounds_toArray, List.set_cons_zero, List.set_cons_succ, List.getElem_toArray, List.getElem_cons_succ, List.getElem_cons_zero]
  refine ord_make (by rfl) (fun K hK => ?_)
  rw [if_pos (by rfl)]
  obtain ⟨w2, hr2, ho2, hg2'⟩ := HCP.out 3 (c - (i + 1)) (c - i)
  refine wp_copy_eq (.tmp 73) (.tmp 76) 22 22 rfl _ _ rfl rfl hr2 ?_
  refine hK _ _ ⟨trivial, ?_⟩
  clear hK K
  refine ord_nil ?_
  simp only [List.drop_succ_cons, List.drop_zero, Act.put, List.setIfInBounds_toArray, List.set_cons_zero, List.set_cons_succ, List.getElem_toArray, List.getElem_cons_succ, List.getElem_cons_zero]
  have HO2 := Lib.hid ho2
  have HG2 := Lib.hid hg2'
  have V2 : Bk w2 vb 83 vs := (hg2'.block vb HV.out.lt (by intro e; injection e with e; exact hgv e)).trans HV.out
  have hcp2 : ∀ ty dc, ∃ w', (Builtin.copy_ #[22, 22] ty #[.slice (some ⟨g, i * 10, none⟩) (n + 1 - i) dc, .slice (some ⟨vb, 0, none⟩) 1 1]).run Try.prog w2 = .ok (goInt (1 : Nat)) w' ∧ _ ∧ w2.grownBy w' (some g) := fun ty dc =>
    copy_own HO2.out _ _ ty Try.underlying22 (by kernel_rfl) (i * 10) _ dc 1 _ _ 1 vs (by simp only [Nat.min_def]; split <;> omega) (by rw [HL.out]) (bk_src V2) (by rw [HL.out]; omega) H1.out
  have HCP2 := Lib.hid hcp2
  clear ho2 hg2' V2 hcp2 HCP hr2
  refine NoPanic.normal ?_
  obtain ⟨w3, hr3, ho3, hg3⟩ := HCP2.out 3 (c - i)
  have HR3 := Lib.hid hr3
  have HO3 := Lib.hid ho3
  have HG3 := Lib.hid hg3
  clear hr3 ho3 hg3 HCP2
  go_wp2_with (refine wpList_copy_eq rfl _ _ 22 22 rfl _ _ rfl rfl HR3.out ?_)
  go_ret
  refine ⟨_, _, rfl, ?_, grown_trans (grown_from_drew HG2.out) HG3.out⟩
  have e := ins_shift ex news vs i n HLn.out HX.out HL.out hi
  have ho3 := HO3.out
  rw [e] at ho3
  simpa using ho3

set_option maxRecDepth 100000 in
set_option maxHeartbeats 3200000 in
/-- in the midst, where there is no room -/
theorem insert_grow (g c : Nat) (hown : w.ownsRow B 83 10 (.slice (some ⟨g, 0, none⟩) n c) n news) (hn : n ≤ 1000) (hi : i < n) (hroom : c < n + 1) (hgv : vb ≠ g) (hv : Bk w vb 83 vs) (hvl : vs.length = 10) (h1 : ∀ v ∈ vs, v.oneCell' = true) (h1n : ∀ v ∈ news, v.oneCell' = true) (hB : B ≤ w.heap.size) :
    Calls Try.prog 44 #[.slice (some ⟨g, 0, none⟩) n c, .int .i64 i, .slice (some ⟨vb, 0, none⟩) 1 1] w (Inserted B (some ⟨g, 0, none⟩) n c (news.take (i * 10) ++ vs ++ news.drop (i * 10)) w) := by
  obtain ⟨hnc, hcm, hpl, hlen⟩ := owned_at hown
  obtain rfl : c = n := by omega
  obtain ⟨g', e', hg1, hg2, hat⟩ := hpl (by omega)
  injection e' with e'; injection e' with e' _ _; subst e'
  obtain ⟨i0, z0, hI1, hI2, hI3, hI4, hI5⟩ := held_info
  have hold : (Builtin.firstCells i0.size i (.slice (some ⟨g, 0, none⟩) i c)).run Try.prog w.drew = .ok (news.take (i * 10)).toArray w.drew := by
    rw [hI3]
    exact run_firstCells_some (w := w.drew) 10 i ⟨g, 0, none⟩ i c (news.take (i * 10)) (by rw [List.length_take, hlen]; omega) (fun j v hj => by
      rw [add_at]
      rw [List.getElem?_take] at hj
      split at hj
      · exact (hat j v hj).1
      · cases hj)
  have hrz : ∀ ty, ∃ w1 G zs, (Builtin.append_ #[22, 3] ty #[.slice (some ⟨g, 0, none⟩) i c, .int .i64 ((c : Int) + 1 - (i : Int))]).run Try.prog w = .ok (.slice (some ⟨w.heap.size, 0, none⟩) (c + 1) G) w1 ∧ c + 1 ≤ G ∧ G ≤ maxLen ∧
      w1.ownsRow B 83 10 (.slice (some ⟨w.heap.size, 0, none⟩) (c + 1) G) (c + 1) (news.take (i * 10) ++ zs) ∧ (news.take (i * 10) ++ zs).length = (c + 1) * 10 ∧ w.grownBy w1 none ∧ w1.heap.size = w.heap.size + 1 := fun ty => by
    have h := Lib.run_append_grow_zeros w 22 3 ty 83 i0 z0 .i64 .i64 Try.underlying22 Try.underlying3 hI1 hI2 (some ⟨g, 0, none⟩) i c (news.take (i * 10)) hold (c + 1 - i) (by omega) (by omega) (by omega) (by omega) (by rw [hI4]; omega) (by rw [hI4, show i + (c + 1 - i) = c + 1 by omega]; exact growslice_fits (by omega) (by omega))
    rw [show i + (c + 1 - i) = c + 1 by omega, show (((c + 1 - i : Nat) : Int)) = (c : Int) + 1 - (i : Int) by omega] at h
    have hge := grownCap_ge w (c + 1) c 83
    have hle := grownCap_le_maxLen w (c + 1) c 83 (by simp only [maxLen]; omega)
    have hzl : (Builtin.zeroCells z0.cells (c + 1 - i)).toList.length = (c + 1 - i) * 10 := by rw [Array.length_toList, size_zeroCells, hI5]
    have hl : (news.take (i * 10) ++ (Builtin.zeroCells z0.cells (c + 1 - i)).toList).length = (c + 1) * 10 := by rw [List.length_append, hzl, List.length_take, hlen]; omega
    refine ⟨_, _, (Builtin.zeroCells z0.cells (c + 1 - i)).toList, h, hge, hle, ⟨hl, .inr ⟨w.heap.size, _, _, rfl, hB, heap_alloc_new w.drew _, hge, hle, ?_, ?_⟩⟩, hl, ⟨rfl, rfl, rfl, by simp, fun k hk _ => Below.heap_alloc w.drew _ k hk⟩, by simp⟩
    · simp only [Array.size_append, List.size_toArray, size_zeroCells, hI5, List.length_take, hlen]
      omega
    · simp only [Array.toList_append, List.append_assoc]
      rw [← List.append_assoc, ← hl]
      exact List.take_left
  have hlt := hv.lt
  have hz2 : ¬ ((i : Int) = (c : Int)) := by omega
  have hile : i ≤ c := by omega
  have hiI : (i : Int) ≤ (c : Int) := by omega
  have hiI2 : (i : Int) + 1 ≤ (c : Int) + 1 := by omega
  have hiI3 : (i : Int) ≤ (c : Int) + 1 := by omega
  obtain ⟨w1, G, zs, hr1, hG1, hG2, ho1, hl1, hgr1, hs1⟩ := hrz 22
  have hG63 : G ≤ 9223372036854775807 := by simp only [maxLen] at hG2; omega
  have hGi : ¬ (G = i) := by omega
  have hGi1 : ¬ (G = i + 1) := by omega
  have hci : ¬ (c = i) := by omega
  have V1 : Bk w1 vb 83 vs := (hgr1.block vb hlt (by simp)).trans hv
  have hNv : vb ≠ w.heap.size := by omega
  have hgN : g ≠ w.heap.size := by omega
  obtain ⟨w2, hr2, ho2, hg2b⟩ := copy_own ho1 22 22 3 Try.underlying22 (by kernel_rfl) (i * 10) (c + 1 - i) (G - i) 1 ⟨vb, 0, none⟩ 1 1 vs (by simp only [Nat.min_def]; split <;> omega) (by rw [hvl]) (bk_src V1) (by rw [hvl]; omega) h1
  have hat2 : At w2 g 0 news := (hat.frame (hgr1.block g hg2 (by simp))).frame (hg2b.block g (by have := hgr1.size; omega) (by intro e; injection e with e; exact hgN e))
  have hcp3 : ∀ ty, ∃ w3, (Builtin.copy_ #[22, 22] ty #[.slice (some ⟨w.heap.size, (i + 1) * 10, none⟩) (c + 1 - (i + 1)) (G - (i + 1)), .slice (some ⟨g, i * 10, none⟩) (c - i) (c - i)]).run Try.prog w2.drew = .ok (goInt (c - i : Nat)) w3 ∧ _ ∧ w2.drew.grownBy w3 (some w.heap.size) := fun ty =>
    copy_own (w := w2.drew) ho2 22 22 ty Try.underlying22 (by kernel_rfl) ((i + 1) * 10) _ _ (c - i) ⟨g, i * 10, none⟩ _ _ (news.drop (i * 10)) (by simp only [Nat.min_def]; split <;> omega) (by rw [List.length_drop, hlen]; omega) (fun j v hj => by
      rw [add_at]
      rw [List.getElem?_drop] at hj
      have := (hat2 (i * 10 + j) v hj).1
      rw [Nat.zero_add] at this
      exact this) (by rw [List.length_drop, hlen]; omega) (fun v hv => h1n v (List.mem_of_mem_drop hv))
  obtain ⟨w3, hr3, ho3, hg3⟩ := hcp3 3
  have hX : (news.take (i * 10) ++ zs).take (i * 10) = news.take (i * 10) := by
    rw [List.take_append_of_le_length (by rw [List.length_take, hlen]; omega), List.take_take, Nat.min_self]
  have hfin := ins_grow _ news vs i c hX hl1 hlen hvl hi
  rw [hvl, hfin] at ho3
  have hgf : w.grownBy w3 (some g) := ⟨hg3.os.trans (hg2b.os.trans hgr1.os), hg3.tape.trans (hg2b.tape.trans hgr1.tape), hg3.output.trans (hg2b.output.trans hgr1.output), Nat.le_trans hgr1.size (Nat.le_trans hg2b.size hg3.size), fun k hk hne =>
    (hg3.block k (Nat.lt_of_lt_of_le hk (Nat.le_trans hgr1.size hg2b.size)) (by intro e; injection e with e; omega)).trans ((hg2b.block k (Nat.lt_of_lt_of_le hk hgr1.size) (by intro e; injection e with e; omega)).trans (hgr1.block k hk (by simp)))⟩
  have HR1 := Lib.hid hr1
  have HR2 := Lib.hid hr2
  have HR3 := Lib.hid hr3
  have HO3 := Lib.hid ho3
  have HGF := Lib.hid hgf
  clear hown hv h1 hvl hcp3 hat hat2 hpl h1n hlen hold hrz hr1 hr2 hr3 ho1 ho2 ho3 hgf hg2b hgr1 hg3 hX hfin hl1 V1 hI1 hI2 hI3 hI4 hI5
  have hroomI : (c : Int) < (c : Int) + 1 := by omega
  go_enter Try.func44, Try.ntmps44
  go_wp2_with (first
    | (at_builtin; refine Lib.wpList_append_run _ rfl _ _ _ _ rfl _ _ rfl rfl _ _ HR1.out ?_)
    | refine wpList_copy_eq rfl _ _ 22 22 rfl _ _ rfl rfl HR2.out ?_)
  have hwi : IntKind.i64.wrap ((i : Int) + 1) = (i : Int) + 1 := wrap_id _ (by omega)
  refine wp_region_ord 9 [(0, true), (1, true), (2, true), (3, true), (4, true), (5, true), (6, true), (7, true), (8, false)] (fun u => True) (by kernel_rfl) (by kernel_rfl) trivial ?_
  refine ord_read (by rfl) (by rfl) (fun u hu => by (go_simp; first | done | rfl | (intro hneg; exact absurd hneg (by omega)))) ?_
  refine ord_read (by rfl) (by rfl) (fun u hu => by (go_simp; first | done | rfl | (intro hneg; exact absurd hneg (by omega)))) ?_
  refine ord_read (by rfl) (by rfl) (fun u hu => by (go_simp; first | done | rfl | (intro hneg; exact absurd hneg (by omega)))) ?_
  refine ord_read (v := .int .i64 ((i : Int) + 1)) (by rfl) (by rfl) (fun u hu => by (go_simp; first | done | rfl | (intro hneg; exact absurd hneg (by omega)))) ?_
  simp only [Act.put, List.setIfInBounds_toArray, List.set_cons_zero, List.set_cons_succ, List.getElem_toArray, List.getElem_cons_succ, List.getElem_cons_zero]
  refine ord_read (v := .slice (some ⟨w.heap.size, (i + 1) * 10, none⟩) (c + 1 - (i + 1)) (G - (i + 1))) (by rfl) (by rfl) (fun u hu => by (go_simp; first | done | rfl | (intro hneg; exact absurd hneg (by omega)))) ?_
  refine ord_read (by rfl) (by rfl) (fun u hu => by (go_simp; first | done | rfl | (intro hneg; exact absurd hneg (by omega)))) ?_
  refine ord_read (by rfl) (by rfl) (fun u hu => by (go_simp; first | done | rfl | (intro hneg; exact absurd hneg (by omega)))) ?_
  refine ord_read (v := .slice (some ⟨g, i * 10, none⟩) (c - i) (c - i)) (by rfl) (by rfl) (fun u hu => by (go_simp; first | done | rfl | (intro hneg; exact absurd hneg (by omega)))) ?_
  simp only [Act.put, List.setIfInBounds_toArray, List.set_cons_zero, List.set_cons_succ, List.getElem_toArray, List.getElem_cons_succ, List.getElem_cons_zero]
  refine ord_make (by rfl) (fun K hK => ?_)
  rw [if_pos (by rfl)]
  refine wp_copy_eq (.tmp 50) (.tmp 53) 22 22 rfl _ _ rfl rfl HR3.out ?_
  refine hK _ _ ⟨trivial, ?_⟩
  clear hK K
  refine ord_nil ?_
  simp only [List.drop_succ_cons, List.drop_zero, Act.put, List.setIfInBounds_toArray, List.set_cons_zero, List.set_cons_succ, List.getElem_toArray, List.getElem_cons_succ, List.getElem_cons_zero]
  go_wp2_with fail
  refine NoPanic.normal ?_
  go_wp2_with fail
  go_ret
  refine ⟨_, _, rfl, ?_, HGF.out⟩
  simpa using HO3.out

theorem insert_goes (A : Option Addr) (c : Nat) (hown : w.ownsRow B 83 10 (.slice A n c) n news) (hn : n ≤ 1000) (hi : i ≤ n) (hgv : ∀ b, (Value.slice A n c).ownBlock = some b → vb ≠ b) (hv : Bk w vb 83 vs) (hvl : vs.length = 10) (h1 : ∀ v ∈ vs, v.oneCell' = true) (h1n : ∀ v ∈ news, v.oneCell' = true) (hB : B ≤ w.heap.size) :
    Calls Try.prog 44 #[.slice A n c, .int .i64 i, .slice (some ⟨vb, 0, none⟩) 1 1] w (Inserted B A n c (news.take (i * 10) ++ vs ++ news.drop (i * 10)) w) := by
  by_cases he : i = n
  · subst he
    have hl := hown.1
    rw [List.take_of_length_le (Nat.le_of_eq hl), List.drop_of_length_le (Nat.le_of_eq hl), List.append_nil]
    exact insert_end w B i vb news vs A c hown hn hv hvl h1 hB
  · obtain ⟨g, rfl, hg⟩ : ∃ g, A = some ⟨g, 0, none⟩ ∧ True := by
      rcases hown.2 with ⟨_, h0⟩ | ⟨g, cap, cur, he, _⟩
      · omega
      · injection he with he
        exact ⟨g, he, trivial⟩
    by_cases hr : n + 1 ≤ c
    · exact insert_shift w B n i vb news vs g c hown hn (by omega) hr (hgv g rfl) hv hvl h1 h1n
    · exact insert_grow w B n i vb news vs g c hown hn (by omega) (by omega) (hgv g rfl) hv hvl h1 h1n hB
end
end Go.Proofs.Ytjmohkgbfigcgaa.Sh
