/- The looks at one number, one truth value, one string. -/
import Derived.Test.YtjmohkgbfigcgaaProg
import Derived.Test.YtjmohkgbfigcgaaEye
import Derived.Test.YtjmohkgbfigcgaaOrd
import Derived.Deep.QuietTactic
import Derived.BigQuiet
import Derived.Deep.RegionHeld3
import Derived.Deep.AppendLies
import Derived.StillTactics
import Derived.KernelRfl
namespace Go.Proofs.Ytjmohkgbfigcgaa.Sh
open Go Go.RowKit
set_option linter.unusedVariables false
set_option linter.unusedSimpArgs false

theorem infoInt : (Try.prog.info? 3).map (fun i => (i.zero, i.size, i.bytes)) = some (some (.int .i64 0), 1, 8) := by kernel_rfl
theorem infoStr : (Try.prog.info? 9).map (fun i => (i.zero, i.size, i.bytes)) = some (some (.string .empty), 1, 16) := by kernel_rfl

section
variable {ops : Array Oper} {rest : List Oper} {o : Oper} {a : Act} {Q : Exit → Act → World → Prop} {K : Act → World → Prop} {w W : World} {B eb eo : Nat} {ns : List Int} {ss : List ByteArray} {mk : Bool} {at_ : Int} {nv sv : Value}
theorem wp_eye_n (he : EyeAt w B eb eo ns ss mk at_ nv sv) (hW : Below w.heap.size w W) (s x : Operand) (ho : o.op = .call { callee := .builtin .append, args := #[s, x], argTypes := #[25, 25] })
    (hs : a.eval s = nv) (xb : Nat) (n : Int) (hx : a.eval x = .slice (some ⟨xb, 0, none⟩) 1 1) (hc : W.cell? ⟨xb, 0, none⟩ = some (.int .i64 n)) (hn : ns.length + 1 ≤ 1099511627776)
    (h : ∀ gg cap w1, w1.ownsRow B 3 1 (.slice (some ⟨gg, 0, none⟩) (ns.length + 1) cap) (ns.length + 1) (ints ns ++ [.int .i64 n]) → W.grownBy w1 nv.ownBlock → w1.cell? ⟨eb, eo, none⟩ = some nv → w1.frozen? ⟨eb, eo, none⟩ = false →
      (∀ b, b < B → w1.heap[b]? = w.heap[b]?) → K (a.put o.dst (.slice (some ⟨gg, 0, none⟩) (ns.length + 1) cap)) w1) : o.wp Try.prog a W K Q := by
  obtain ⟨i0, hi0, hz0, hz1, hz2⟩ := info_parts infoInt
  have hb0 := owns_lt he.rn
  have hle := he.le
  have hlt := he.lt
  have hsz := hW.size
  refine wp_append_lies W s x _ ho B 3 i0 _ 1 8 Try.underlying25 hi0 hz0 hz1 hz2 rfl (by omega) nv ns.length (ints ns) hs
    (he.rn.kept (row := none) ⟨hW.os, hW.tape, hW.output, hW.size, fun i hi _ => hW.block i hi⟩ (by cases nv.ownBlock <;> simp)) ⟨xb, 0, none⟩ 1 1 [.int .i64 n] hx rfl
    (fun j u hu => ?_) (by simp [Value.oneCell']) (by omega) (by simp only [maxLen]; omega) (by omega) (by omega) W.heap.size rfl ?_
  · match j, hu with
    | 0, hu => simp at hu; subst hu; exact hc
  · intro gg cap w1 hown hgrow _ _
    have hold : ∀ b, b < B → w1.heap[b]? = w.heap[b]? := fun b hb => (hgrow.block b (by omega) (fun e => by have := hb0 b e.symm; omega)).trans (hW.block b (by omega))
    refine h gg cap w1 hown hgrow ?_ ?_ hold
    · exact (World.cell?_of_block (w := w) (a := ⟨eb, eo, none⟩) (hold eb hlt)).trans he.n
    · exact (World.frozen?_of_block (w := w) (a := ⟨eb, eo, none⟩) (hold eb hlt)).trans (he.plain.free eo)
theorem wp_eye_s (he : EyeAt w B eb eo ns ss mk at_ nv sv) (hW : Below w.heap.size w W) (s x : Operand) (ho : o.op = .call { callee := .builtin .append, args := #[s, x], argTypes := #[56, 56] })
    (hs : a.eval s = sv) (xb : Nat) (n : ByteArray) (hx : a.eval x = .slice (some ⟨xb, 0, none⟩) 1 1) (hc : W.cell? ⟨xb, 0, none⟩ = some (.string n)) (hn : ss.length + 1 ≤ 1099511627776)
    (h : ∀ gg cap w1, w1.ownsRow B 9 1 (.slice (some ⟨gg, 0, none⟩) (ss.length + 1) cap) (ss.length + 1) (strs ss ++ [.string n]) → W.grownBy w1 sv.ownBlock → w1.cell? ⟨eb, eo + 1, none⟩ = some sv → w1.frozen? ⟨eb, eo + 1, none⟩ = false →
      (∀ b, b < B → w1.heap[b]? = w.heap[b]?) → K (a.put o.dst (.slice (some ⟨gg, 0, none⟩) (ss.length + 1) cap)) w1) : o.wp Try.prog a W K Q := by
  obtain ⟨i0, hi0, hz0, hz1, hz2⟩ := info_parts infoStr
  have hb0 := owns_lt he.rs
  have hle := he.le
  have hlt := he.lt
  have hsz := hW.size
  refine wp_append_lies W s x _ ho B 9 i0 _ 1 16 Try.underlying56 hi0 hz0 hz1 hz2 rfl (by omega) sv ss.length (strs ss) hs
    (he.rs.kept (row := none) ⟨hW.os, hW.tape, hW.output, hW.size, fun i hi _ => hW.block i hi⟩ (by cases sv.ownBlock <;> simp)) ⟨xb, 0, none⟩ 1 1 [.string n] hx rfl
    (fun j u hu => ?_) (by simp [Value.oneCell']) (by omega) (by simp only [maxLen]; omega) (by omega) (by omega) W.heap.size rfl ?_
  · match j, hu with
    | 0, hu => simp at hu; subst hu; exact hc
  · intro gg cap w1 hown hgrow _ _
    have hold : ∀ b, b < B → w1.heap[b]? = w.heap[b]? := fun b hb => (hgrow.block b (by omega) (fun e => by have := hb0 b e.symm; omega)).trans (hW.block b (by omega))
    refine h gg cap w1 hown hgrow ?_ ?_ hold
    · exact (World.cell?_of_block (w := w) (a := ⟨eb, eo + 1, none⟩) (hold eb hlt)).trans he.s
    · exact (World.frozen?_of_block (w := w) (a := ⟨eb, eo + 1, none⟩) (hold eb hlt)).trans (he.plain.free (eo + 1))
end

set_option maxRecDepth 100000 in
set_option maxHeartbeats 1600000 in
theorem num_see (w : World) (B eb eo pb po : Nat) (ns : List Int) (ss : List ByteArray) (at_ n : Int) (nv sv : Value)
    (he : EyeAt w B eb eo ns ss false at_ nv sv) (hp : w.cell? ⟨pb, po, none⟩ = some (.int .i64 n)) (hne : pb ≠ eb) (hlt : pb < B) (hn : ns.length + 1 ≤ 1099511627776) :
    Calls Try.prog 30 #[.pointer (some ⟨eb, eo, none⟩), .pointer (some ⟨pb, po, none⟩)] w fun e w' => e = .returned (.tuple #[]) ∧
      (∃ nv', EyeAt w' B eb eo (ns ++ [n]) ss false at_ nv' sv) ∧ Vary (fun _ => False) B eb eo w w' := by
  have he0 := he
  obtain ⟨h1, h2, h3, h4, ⟨ce, te, hpl⟩, hrn, hrs, hlt1, hle⟩ := he
  have le := World.block_lt_of_cell? w _ h1
  have lp := World.block_lt_of_cell? w _ hp
  have hb0 : ∀ k, nv.ownBlock = some k → B ≤ k := fun k hk => (hrn.lt k hk).1
  have ne1 : nv.ownBlock ≠ some eb := fun h => by have := hb0 _ h; omega
  have ne2 : nv.ownBlock ≠ some pb := fun h => by have := hb0 _ h; omega
  have hfr : w.frozen? ⟨eb, eo, none⟩ = false := by simp [World.frozen?, hpl]
  have hE := h1
  go_enter Try.func30, Try.ntmps30
  go_wp2_with fail
  refine wp_region_ord 10 [(0, true), (1, true), (2, true), (3, true), (4, true), (5, true), (6, true), (7, true), (8, false), (9, false)] (fun u => u.cell? ⟨eb, eo, none⟩ = some nv ∧ u.cell? ⟨pb, po, none⟩ = some (.int .i64 n)) (by kernel_rfl) (by kernel_rfl) ⟨h1, hp⟩ ?_
  repeat (refine ord_read (by rfl) (by rfl) (fun u hu => by (obtain ⟨hu1, hu2⟩ := hu; go_simp; try rfl)) ?_)
  refine ord_make (by rfl) (fun K hK => ?_)
  go_wp2_with fail
  refine ⟨⟨by go_simp, by go_simp⟩, ?_⟩
  refine ord_make (by rfl) (fun K hK => ?_)
  rw [if_pos (by rfl)]
  refine wp_eye_n he0 (((Below.refl _ w).alloc (Nat.le_refl _) _).drew) _ _ (by rfl) (by rfl) w.heap.size n (by rfl) (by go_simp) hn ?_
  intro gg cap w1 hown1 hgrow hcE hfE hold
  have hcP : w1.cell? ⟨pb, po, none⟩ = some (.int .i64 n) := (World.cell?_of_block (w := w) (a := ⟨pb, po, none⟩) (hold pb hlt)).trans hp
  refine hK _ _ ⟨⟨hcE, hcP⟩, ?_⟩
  refine ord_nil ?_
  clear hK K
  simp only [List.drop_succ_cons, List.drop_zero, Act.put, List.setIfInBounds_toArray, List.set_cons_zero, List.set_cons_succ]
  go_wp2
  refine NoPanic.normal ?_
  go_end0
  obtain ⟨hE1, hV1⟩ := eye_push_n he0 (((Below.refl _ w).alloc (Nat.le_refl _) _).drew) hgrow hown1
  exact ⟨rfl, hE1, hV1⟩

theorem setCell_same {w : World} {b o : Nat} {v : Value} (h : w.cell? ⟨b, o, none⟩ = some v) : w.setCell ⟨b, o, none⟩ v = w := by
  unfold World.setCell
  simp only [Option.isSome_none, Bool.false_eq_true, if_false]
  refine (congrArg (fun h => ({ w with heap := h } : World)) ?_ : _ = ({ w with heap := w.heap } : World))
  · skip
    apply Array.ext_getElem?
    intro i
    rw [Array.getElem?_modify]
    split
    · rename_i hi
      subst hi
      cases hh : w.heap[b]? with
      | none => rfl
      | some x =>
        cases x with
        | cells c e f =>
          simp only [World.cell?, hh, Option.isSome_none, Bool.false_eq_true, if_false] at h
          simp only [Option.map_some]
          congr 2
          apply Array.ext_getElem?
          intro j
          rw [Array.getElem?_setIfInBounds]
          split
          · rename_i hj
            subst hj
            rw [h]
            split
            · rfl
            · rename_i hlt
              rw [Array.getElem?_eq_none (by omega)] at h
              exact h
          · rfl
        | _ => rfl
    · rfl

set_option maxRecDepth 100000 in
set_option maxHeartbeats 1600000 in
theorem yes_see (w : World) (B eb eo pb po : Nat) (ns : List Int) (ss : List ByteArray) (at_ : Int) (b : Bool) (nv sv : Value)
    (he : EyeAt w B eb eo ns ss false at_ nv sv) (hp : w.cell? ⟨pb, po, none⟩ = some (.bool b)) (hpf : w.frozen? ⟨pb, po, none⟩ = false) (hne : pb ≠ eb) (hlt : pb < B) (hn : ns.length + 1 ≤ 1099511627776) :
    Calls Try.prog 34 #[.pointer (some ⟨eb, eo, none⟩), .pointer (some ⟨pb, po, none⟩)] w fun e w' => e = .returned (.tuple #[]) ∧
      (∃ nv', EyeAt w' B eb eo (ns ++ [if b then 1 else 0]) ss false at_ nv' sv) ∧ Vary (fun _ => False) B eb eo w w' := by
  obtain ⟨i0, hi0, hz0, hz1, hz2⟩ := info_parts infoInt
  have he0 := he
  obtain ⟨h1, h2, h3, h4, ⟨ce, te, hpl⟩, hrn, hrs, hlt1, hle⟩ := he
  have le := World.block_lt_of_cell? w _ h1
  have lp := World.block_lt_of_cell? w _ hp
  have hb0 : ∀ k, nv.ownBlock = some k → B ≤ k := fun k hk => (hrn.lt k hk).1
  have ne1 : nv.ownBlock ≠ some eb := fun h => by have := hb0 _ h; omega
  have hfr : w.frozen? ⟨eb, eo, none⟩ = false := by simp [World.frozen?, hpl]
  have hs : w.setCell ⟨pb, po, none⟩ (.bool b) = w := setCell_same hp
  have HS := Lib.hid hs
  clear hs
  go_enter Try.func34, Try.ntmps34
  go_wp2_with fail
  refine wp_region_ord 9 [(0, true), (1, true), (2, true), (3, true), (4, true), (5, true), (6, true), (7, true), (8, true)] (fun u => u.cell? ⟨eb, eo + 2, none⟩ = some (.bool false) ∧ u.cell? ⟨pb, po, none⟩ = some (.bool b)) (by kernel_rfl) (by kernel_rfl) ⟨h3, hp⟩ ?_
  repeat (refine ord_read (by rfl) (by rfl) (fun u hu => by (obtain ⟨hu1, hu2⟩ := hu; go_simp; try rfl)) ?_)
  refine ord_nil ?_
  simp only [List.drop_succ_cons, List.drop_zero, Act.put, List.setIfInBounds_toArray, List.set_cons_zero, List.set_cons_succ]
  go_wp2_with fail
  refine NoPanic.normal ?_
  rw [HS.out]
  clear HS
  cases b
  all_goals
    go_wp2_with (at_builtin; refine wpList_plain rfl fun K hK => wp_eye_n he0 (((Below.refl _ w).alloc (Nat.le_refl _) _).drew) _ _ rfl rfl w.heap.size _ rfl (by go_simp; rfl) hn ?_; intro gg cap w1 hown1 hgrow hcE hfE hold; refine hK _ _ ?_; clear hK K)
    go_end0
    obtain ⟨hE1, hV1⟩ := eye_push_n he0 (((Below.refl _ w).alloc (Nat.le_refl _) _).drew) hgrow hown1
    exact ⟨rfl, hE1, hV1⟩

set_option maxRecDepth 100000 in
set_option maxHeartbeats 1600000 in
theorem str_see (w : World) (B eb eo pb po : Nat) (ns : List Int) (ss : List ByteArray) (at_ : Int) (n : ByteArray) (nv sv : Value)
    (he : EyeAt w B eb eo ns ss false at_ nv sv) (hp : w.cell? ⟨pb, po, none⟩ = some (.string n)) (hne : pb ≠ eb) (hlt : pb < B) (hn : ss.length + 1 ≤ 1099511627776) :
    Calls Try.prog 58 #[.pointer (some ⟨eb, eo, none⟩), .pointer (some ⟨pb, po, none⟩)] w fun e w' => e = .returned (.tuple #[]) ∧
      (∃ sv', EyeAt w' B eb eo ns (ss ++ [n]) false at_ nv sv') ∧ Vary (fun _ => False) B eb eo w w' := by
  have he0 := he
  obtain ⟨h1, h2, h3, h4, ⟨ce, te, hpl⟩, hrn, hrs, hlt1, hle⟩ := he
  have le := World.block_lt_of_cell? w _ h1
  have lp := World.block_lt_of_cell? w _ hp
  go_enter Try.func58, Try.ntmps58
  go_wp2_with fail
  refine wp_region_ord 10 [(0, true), (1, true), (2, true), (3, true), (4, true), (5, true), (6, true), (7, true), (8, false), (9, false)] (fun u => u.cell? ⟨eb, eo + 1, none⟩ = some sv ∧ u.cell? ⟨pb, po, none⟩ = some (.string n)) (by kernel_rfl) (by kernel_rfl) ⟨h2, hp⟩ ?_
  repeat (refine ord_read (by rfl) (by rfl) (fun u hu => by (obtain ⟨hu1, hu2⟩ := hu; go_simp; try rfl)) ?_)
  refine ord_make (by rfl) (fun K hK => ?_)
  go_wp2_with fail
  refine ⟨⟨by go_simp, by go_simp⟩, ?_⟩
  refine ord_make (by rfl) (fun K hK => ?_)
  rw [if_pos (by rfl)]
  refine wp_eye_s he0 (((Below.refl _ w).alloc (Nat.le_refl _) _).drew) _ _ (by rfl) (by rfl) w.heap.size n (by rfl) (by go_simp) hn ?_
  intro gg cap w1 hown1 hgrow hcE hfE hold
  have hcP : w1.cell? ⟨pb, po, none⟩ = some (.string n) := (World.cell?_of_block (w := w) (a := ⟨pb, po, none⟩) (hold pb hlt)).trans hp
  refine hK _ _ ⟨⟨hcE, hcP⟩, ?_⟩
  refine ord_nil ?_
  clear hK K
  simp only [List.drop_succ_cons, List.drop_zero, Act.put, List.setIfInBounds_toArray, List.set_cons_zero, List.set_cons_succ]
  go_wp2
  refine NoPanic.normal ?_
  go_end0
  obtain ⟨hE1, hV1⟩ := eye_push_s he0 (((Below.refl _ w).alloc (Nat.le_refl _) _).drew) hgrow hown1
  exact ⟨rfl, hE1, hV1⟩

set_option maxRecDepth 100000 in
set_option maxHeartbeats 1600000 in
theorem num_mark (w : World) (B eb eo pb po : Nat) (ns : List Int) (ss : List ByteArray) (at_ n : Int) (nv sv : Value)
    (he : EyeAt w B eb eo ns ss true at_ nv sv) (hp : w.cell? ⟨pb, po, none⟩ = some (.int .i64 n)) (hpf : w.frozen? ⟨pb, po, none⟩ = false) (hne : pb ≠ eb) (hlt : pb < B) (hn : ns.length + 1 ≤ 1099511627776) :
    Calls Try.prog 30 #[.pointer (some ⟨eb, eo, none⟩), .pointer (some ⟨pb, po, none⟩)] w fun e w' => e = .returned (.tuple #[]) ∧
      (∃ m at' nv', EyeAt w' B eb eo (ns ++ [m]) ss true at' nv' sv) ∧ Vary (fun b => b = pb) B eb eo w w' := by
  have hle := he.le
  have hltE := he.lt
  have le := World.block_lt_of_cell? w _ he.n
  have lp := World.block_lt_of_cell? w _ hp
  obtain ⟨heA, hvA⟩ := set_at (at' := wrap64 (at_ + 1)) he
  have hpA : (w.setCell ⟨eb, eo + 3, none⟩ (.int .i64 (wrap64 (at_ + 1)))).cell? ⟨pb, po, none⟩ = some (.int .i64 n) := (World.cell?_of_block (w := w) (a := ⟨pb, po, none⟩) (hvA.block pb hlt hne (fun h => h))).trans hp
  obtain ⟨heB, hvB, hcB⟩ := set_place (v' := .int .i64 (wrap64 (at_ + 1))) heA hpA ⟨_, rfl, wrap_in _⟩ hne hlt
  have hfA : (w.setCell ⟨eb, eo + 3, none⟩ (.int .i64 (wrap64 (at_ + 1)))).frozen? ⟨pb, po, none⟩ = false := (World.frozen?_setCell ..).trans hpf
  have hfE := he.plain.free (eo + 3)
  obtain ⟨h1, h2, h3, h4, -, hrn, hrs, -, -⟩ := he
  have a4 := heA.at_
  have hzA : (w.setCell ⟨eb, eo + 3, none⟩ (.int .i64 (wrap64 (at_ + 1)))).heap.size = w.heap.size := by simp [World.setCell]
  have hzB : ((w.setCell ⟨eb, eo + 3, none⟩ (.int .i64 (wrap64 (at_ + 1)))).setCell ⟨pb, po, none⟩ (.int .i64 (wrap64 (at_ + 1)))).heap.size = w.heap.size := by simp [World.setCell]
  go_enter Try.func30, Try.ntmps30
  go_wp2_with fail
  generalize hW : (w.setCell ⟨eb, eo + 3, none⟩ (.int .i64 (wrap64 (at_ + 1)))).setCell ⟨pb, po, none⟩ (.int .i64 (wrap64 (at_ + 1))) = wB at heB hvB hcB
  clear hW hzB
  have hvT := hvA.mono (M' := fun b => b = pb) (fun _ h => h.elim)
  generalize (w.setCell ⟨eb, eo + 3, none⟩ (.int .i64 (wrap64 (at_ + 1)))) = wA at *
  have hV := hvT.trans hvB
  clear hvA heA hpA hfA a4 hzA h1 h2 h3 h4 hrn hrs hvT hvB
  have le2 : eb < wB.heap.size := World.block_lt_of_cell? wB _ heB.n
  have lp2 : pb < wB.heap.size := World.block_lt_of_cell? wB _ hcB
  have h1 := heB.n
  refine wp_region_ord 10 [(0, true), (1, true), (2, true), (3, true), (4, true), (5, true), (6, true), (7, true), (8, false), (9, false)] (fun u => u.cell? ⟨eb, eo, none⟩ = some nv ∧ u.cell? ⟨pb, po, none⟩ = some (.int .i64 (wrap64 (at_ + 1)))) (by kernel_rfl) (by kernel_rfl) ⟨h1, hcB⟩ ?_
  repeat (refine ord_read (by rfl) (by rfl) (fun u hu => by (obtain ⟨hu1, hu2⟩ := hu; go_simp; try rfl)) ?_)
  refine ord_make (by rfl) (fun K hK => ?_)
  go_wp2_with fail
  refine ⟨⟨by go_simp, by go_simp⟩, ?_⟩
  refine ord_make (by rfl) (fun K hK => ?_)
  rw [if_pos (by rfl)]
  refine wp_eye_n heB (((Below.refl _ wB).alloc (Nat.le_refl _) _).drew) _ _ (by rfl) (by rfl) wB.heap.size (wrap64 (at_ + 1)) (by rfl) (by go_simp) hn ?_
  intro gg cap w1 hown1 hgrow hcE hfE1 hold
  have hcP : w1.cell? ⟨pb, po, none⟩ = some (.int .i64 (wrap64 (at_ + 1))) := (World.cell?_of_block (w := wB) (a := ⟨pb, po, none⟩) (hold pb hlt)).trans hcB
  refine hK _ _ ⟨⟨hcE, hcP⟩, ?_⟩
  refine ord_nil ?_
  clear hK K
  simp only [List.drop_succ_cons, List.drop_zero, Act.put, List.setIfInBounds_toArray, List.set_cons_zero, List.set_cons_succ]
  go_wp2
  refine NoPanic.normal ?_
  go_end0
  obtain ⟨⟨nv', hE1⟩, hV1⟩ := eye_push_n heB (((Below.refl _ wB).alloc (Nat.le_refl _) _).drew) hgrow hown1
  exact ⟨rfl, ⟨_, _, nv', hE1⟩, hV.trans (hV1.mono (fun _ h => h.elim))⟩

set_option maxRecDepth 100000 in
set_option maxHeartbeats 1600000 in
theorem yes_mark (w : World) (B eb eo pb po : Nat) (ns : List Int) (ss : List ByteArray) (at_ : Int) (b : Bool) (nv sv : Value)
    (he : EyeAt w B eb eo ns ss true at_ nv sv) (hp : w.cell? ⟨pb, po, none⟩ = some (.bool b)) (hpf : w.frozen? ⟨pb, po, none⟩ = false) (hne : pb ≠ eb) (hlt : pb < B) (hn : ns.length + 1 ≤ 1099511627776) :
    Calls Try.prog 34 #[.pointer (some ⟨eb, eo, none⟩), .pointer (some ⟨pb, po, none⟩)] w fun e w' => e = .returned (.tuple #[]) ∧
      (∃ m at' nv', EyeAt w' B eb eo (ns ++ [m]) ss true at' nv' sv) ∧ Vary (fun b => b = pb) B eb eo w w' := by
  have hle := he.le
  have hltE := he.lt
  have le := World.block_lt_of_cell? w _ he.n
  have lp := World.block_lt_of_cell? w _ hp
  obtain ⟨heB, hvB, hcB⟩ := set_place (v' := .bool (!b)) he hp ⟨_, rfl⟩ hne hlt
  have h3 := he.mark
  have hfE := he.plain.free eo
  clear he
  cases b
  all_goals
    simp only [Bool.not_false, Bool.not_true] at heB hvB hcB
    go_enter Try.func34, Try.ntmps34
    go_wp2_with fail
    refine wp_region_ord 9 [(0, true), (1, true), (2, true), (3, true), (4, true), (5, true), (6, true), (7, true), (8, true)] (fun u => u.cell? ⟨eb, eo + 2, none⟩ = some (.bool true) ∧ u.cell? ⟨pb, po, none⟩ = some (.bool _)) (by kernel_rfl) (by kernel_rfl) ⟨h3, hp⟩ ?_
    repeat (refine ord_read (by rfl) (by rfl) (fun u hu => by (obtain ⟨hu1, hu2⟩ := hu; go_simp; try rfl)) ?_)
    refine ord_nil ?_
    simp only [List.drop_succ_cons, List.drop_zero, Act.put, List.setIfInBounds_toArray, List.set_cons_zero, List.set_cons_succ]
    go_wp2_with fail
    refine NoPanic.normal ?_
    generalize w.setCell ⟨pb, po, none⟩ (.bool _) = wB at heB hvB hcB ⊢
    have h1 := heB.n
    have hfB := heB.plain.free eo
    clear h3 hp hpf hfE
    go_wp2_with (at_builtin; refine wpList_plain rfl fun K hK => wp_eye_n heB (((Below.refl _ wB).alloc (Nat.le_refl _) _).drew) _ _ rfl rfl wB.heap.size _ rfl (by go_simp; rfl) hn ?_; intro gg cap w1 hown1 hgrow hcE hfE hold; refine hK _ _ ?_; clear hK K)
    go_end0
    obtain ⟨⟨nv', hE1⟩, hV1⟩ := eye_push_n heB (((Below.refl _ wB).alloc (Nat.le_refl _) _).drew) hgrow hown1
    exact ⟨rfl, ⟨_, _, nv', hE1⟩, hvB.trans (hV1.mono (fun _ h => h.elim))⟩

/-- how many letters a number may still give -/
def lg (k : Int) : Nat := Nat.log2 k.toNat
theorem lg_start {k : Int} (h : k ≤ 9223372036854775807) : 1 + lg k ≤ 64 := by
  unfold lg
  by_cases h0 : k.toNat = 0
  · rw [h0]; decide
  · have := (Nat.log2_lt h0 (k := 63)).2 (by omega)
    omega
theorem lg_step {k : Int} (h : 0 < k) (h2 : 0 < k / 26) : lg (k / 26) + 1 ≤ lg k := by
  unfold lg
  have h0 : (k / 26).toNat ≠ 0 := by omega
  have h1 : 2 ^ Nat.log2 (k / 26).toNat ≤ (k / 26).toNat := Nat.log2_self_le h0
  have h3 : Nat.log2 (k / 26).toNat + 1 ≤ Nat.log2 k.toNat := (Nat.le_log2 (by omega)).2 (by rw [Nat.pow_succ]; omega)
  exact h3

set_option maxRecDepth 100000 in
set_option maxHeartbeats 3200000 in
theorem str_mark (w : World) (B eb eo pb po : Nat) (ns : List Int) (ss : List ByteArray) (at_ : Int) (n : ByteArray) (nv sv : Value)
    (he : EyeAt w B eb eo ns ss true at_ nv sv) (hp : w.cell? ⟨pb, po, none⟩ = some (.string n)) (hpf : w.frozen? ⟨pb, po, none⟩ = false) (hne : pb ≠ eb) (hlt : pb < B) (hn : ss.length + 1 ≤ 1099511627776) :
    Calls Try.prog 58 #[.pointer (some ⟨eb, eo, none⟩), .pointer (some ⟨pb, po, none⟩)] w fun e w' => e = .returned (.tuple #[]) ∧
      (∃ m at' sv', EyeAt w' B eb eo ns (ss ++ [m]) true at' nv sv') ∧ Vary (fun b => b = pb) B eb eo w w' := by
  have hle := he.le
  have hltE := he.lt
  have le := World.block_lt_of_cell? w _ he.n
  have lp := World.block_lt_of_cell? w _ hp
  obtain ⟨heA, hvA⟩ := set_at (at' := wrap64 (at_ + 1)) he
  have hpA : (w.setCell ⟨eb, eo + 3, none⟩ (.int .i64 (wrap64 (at_ + 1)))).cell? ⟨pb, po, none⟩ = some (.string n) := (World.cell?_of_block (w := w) (a := ⟨pb, po, none⟩) (hvA.block pb hlt hne (fun h => h))).trans hp
  obtain ⟨heB, hvB, hcB⟩ := set_place (v' := .string { data := #[63] }) heA hpA ⟨_, rfl, by decide⟩ hne hlt
  have hfA : (w.setCell ⟨eb, eo + 3, none⟩ (.int .i64 (wrap64 (at_ + 1)))).frozen? ⟨pb, po, none⟩ = false := (World.frozen?_setCell ..).trans hpf
  have hfE := he.plain.free (eo + 3)
  obtain ⟨h1, h2, h3, h4, -, hrn, hrs, -, -⟩ := he
  have a4 := heA.at_
  have b4 := heB.at_
  have hzA : (w.setCell ⟨eb, eo + 3, none⟩ (.int .i64 (wrap64 (at_ + 1)))).heap.size = w.heap.size := by simp [World.setCell]
  go_enter Try.func58, Try.ntmps58
  go_wp2_with fail
  have hk0 : wrap64 (at_ + 1) ≤ 9223372036854775807 := by unfold wrap64; omega
  generalize hW : (w.setCell ⟨eb, eo + 3, none⟩ (.int .i64 (wrap64 (at_ + 1)))).setCell ⟨pb, po, none⟩ (.string { data := #[63] }) = wB at heB hvB hcB b4 ⊢
  have hfB : wB.frozen? ⟨pb, po, none⟩ = false := by rw [← hW]; exact (World.frozen?_setCell ..).trans hfA
  clear hW
  have hvT := hvA.mono (M' := fun b => b = pb) (fun _ h => h.elim)
  generalize (w.setCell ⟨eb, eo + 3, none⟩ (.int .i64 (wrap64 (at_ + 1)))) = wA at *
  generalize wrap64 (at_ + 1) = k0 at *
  have hV := hvT.trans hvB
  clear hvA heA hpA hfA a4 hzA h1 h2 h3 h4 hrn hrs hvT hvB b4 hp hpf
  go_loopw [4] (fun v wr => ∃ (k : Int) (s : ByteArray), v = .int .i64 k ∧ k ≤ 9223372036854775807 ∧ s.size ≤ 65 ∧ (0 < k → s.size + lg k ≤ 64) ∧ EyeAt wr B eb eo ns ss true k0 nv sv ∧ wr.cell? ⟨pb, po, none⟩ = some (.string s) ∧ wr.frozen? ⟨pb, po, none⟩ = false ∧ Vary (fun b => b = pb) B eb eo wB wr) (fun v _ => (intOf v).toNat)
  case atStart => exact ⟨k0, { data := #[63] }, rfl, hk0, by decide, fun _ => lg_start hk0, heB, hcB, hfB, Vary.refl ..⟩
  case round =>
    obtain ⟨k, s, rfl, hk, hs, hlg0, heR, hcR, hfR, hvR⟩ := hrel
    have hlg := Lib.hid hlg0
    clear hlg0
    by_cases hpos : 0 < k
    · have ler : eb < wr.heap.size := World.block_lt_of_cell? wr _ heR.n
      have lpr : pb < wr.heap.size := World.block_lt_of_cell? wr _ hcR
      go_wp2_with fail
      refine wp_region_ord 10 [(0, true), (1, true), (2, true), (3, true), (4, true), (5, true), (6, true), (7, false), (8, false), (9, true)] (fun u => u.cell? ⟨pb, po, none⟩ = some (.string s)) (by kernel_rfl) (by kernel_rfl) hcR ?_
      repeat (refine ord_read (by rfl) (by rfl) (fun u hu => by (go_simp; try rfl)) ?_)
      refine ord_make (by rfl) (fun K hK => ?_)
      go_wp2_with fail
      refine ⟨by go_simp, ?_⟩
      refine ord_make (by rfl) (fun K hK => ?_)
      rw [if_pos (by rfl)]
      have hcs : (strOfNums [97 + k % 26]).size = 1 := strOfNums_size _
      refine wp_convert (by rfl) (by rfl) (run_convert_bytes_arg (P := Try.prog) _ 125 5 Try.underlying125 Try.underlying5 wr.heap.size 0 1 1 [97 + k % 26] rfl (fun i hi => by (obtain rfl : i = 0 := (by omega); go_simp)) 9 Try.underlying9) ?_
      generalize strOfNums [97 + k % 26] = c at hcs ⊢
      refine hK _ _ ⟨by go_simp, ?_⟩
      clear hK K
      refine ord_read (by rfl) (by rfl) (fun u hu => by (go_simp; rw [if_neg (by omega)])) ?_
      refine ord_nil ?_
      simp only [List.drop_succ_cons, List.drop_zero, Act.put, List.setIfInBounds_toArray, List.set_cons_zero, List.set_cons_succ]
      go_wp2_with fail
      refine NoPanic.normal ?_
      obtain ⟨heS, hvS⟩ := eye_below (M := fun b => b = pb) heR (((Below.refl _ wr).alloc (Nat.le_refl _) (.cells #[.int .u8 (97 + k % 26)] 5)).drew)
      have hcS : (wr.alloc (.cells #[.int .u8 (97 + k % 26)] 5)).drew.cell? ⟨pb, po, none⟩ = some (.string s) := by go_simp
      have hfS : (wr.alloc (.cells #[.int .u8 (97 + k % 26)] 5)).drew.frozen? ⟨pb, po, none⟩ = false := by go_simp
      have hsz : (s ++ c).size ≤ big := by rw [ByteArray.size_append, hcs, big_eq]; omega
      obtain ⟨heT, hvT, hcT⟩ := set_place (v' := .string (s ++ c)) heS hcS ⟨_, rfl, hsz⟩ hne hlt
      have hfT := (World.frozen?_setCell (w := (wr.alloc (.cells #[.int .u8 (97 + k % 26)] 5)).drew) (a := ⟨pb, po, none⟩) (v := .string (s ++ c)) (b := ⟨pb, po, none⟩)).trans hfS
      rw [World.setCell_drew, World.setCell_alloc_past _ _ _ _ lpr] at heT hvT hcT hfT
      have hl1 : s.size + lg k ≤ 64 := hlg.out hpos
      have hcs1 := hcs
      clear hlg hcS hfS hcs
      generalize ((wr.setCell ⟨pb, po, none⟩ (.string (s ++ c))).alloc (.cells #[.int .u8 (97 + k % 26)] 5)).drew = wT at heT hvT hcT hfT ⊢
      have hsz2 : (s ++ c).size ≤ 65 := by rw [ByteArray.size_append, hcs1]; omega
      have hsz3 : 0 < k / 26 → (s ++ c).size + lg (k / 26) ≤ 64 := fun h => by have := lg_step hpos h; rw [ByteArray.size_append, hcs1]; omega
      have HS3 := Lib.hid hsz3
      clear hsz3
      go_wp2_with fail
      go_roundw
      case rel => exact ⟨k / 26, s ++ c, rfl, by omega, hsz2, HS3.out, heT, hcT, hfT, hvR.trans (hvS.trans hvT)⟩
      case measure => simp [intOf]; omega
    · go_wp2_with fail
      have h2 := heR.s
      have ler : eb < wr.heap.size := World.block_lt_of_cell? wr _ heR.n
      have lpr : pb < wr.heap.size := World.block_lt_of_cell? wr _ hcR
      refine wp_region_ord 10 [(0, true), (1, true), (2, true), (3, true), (4, true), (5, true), (6, true), (7, true), (8, false), (9, false)] (fun u => u.cell? ⟨eb, eo + 1, none⟩ = some sv ∧ u.cell? ⟨pb, po, none⟩ = some (.string s)) (by kernel_rfl) (by kernel_rfl) ⟨h2, hcR⟩ ?_
      repeat (refine ord_read (by rfl) (by rfl) (fun u hu => by (obtain ⟨hu1, hu2⟩ := hu; go_simp; try rfl)) ?_)
      refine ord_make (by rfl) (fun K hK => ?_)
      go_wp2_with fail
      refine ⟨⟨by go_simp, by go_simp⟩, ?_⟩
      refine ord_make (by rfl) (fun K hK => ?_)
      rw [if_pos (by rfl)]
      refine wp_eye_s heR (((Below.refl _ wr).alloc (Nat.le_refl _) _).drew) _ _ (by rfl) (by rfl) wr.heap.size s (by rfl) (by go_simp) hn ?_
      intro gg cap w1 hown1 hgrow hcE hfE hold
      have hcP : w1.cell? ⟨pb, po, none⟩ = some (.string s) := (World.cell?_of_block (w := wr) (a := ⟨pb, po, none⟩) (hold pb hlt)).trans hcR
      refine hK _ _ ⟨⟨hcE, hcP⟩, ?_⟩
      refine ord_nil ?_
      clear hK K
      simp only [List.drop_succ_cons, List.drop_zero, Act.put, List.setIfInBounds_toArray, List.set_cons_zero, List.set_cons_succ]
      go_wp2
      refine NoPanic.normal ?_
      go_end0
      obtain ⟨⟨sv', hE1⟩, hV1⟩ := eye_push_s heR (((Below.refl _ wr).alloc (Nat.le_refl _) _).drew) hgrow hown1
      exact ⟨rfl, ⟨_, _, sv', hE1⟩, (hV.trans hvR).trans (hV1.mono (fun _ h => h.elim))⟩
end Go.Proofs.Ytjmohkgbfigcgaa.Sh
