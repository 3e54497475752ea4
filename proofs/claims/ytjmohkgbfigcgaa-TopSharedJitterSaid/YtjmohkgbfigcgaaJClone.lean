/- slices.Clone at the three types that package jitter needs. -/
import Derived.Test.YtjmohkgbfigcgaaJTy
import Derived.Lib.SliceRun
namespace Go.Proofs.Ytjmohkgbfigcgaa.Sh
open Go Go.RowKit
set_option linter.unusedVariables false
set_option linter.unusedSimpArgs false

theorem infoHeldJ : (Try.prog.info? 83).map (fun i => (i.zero, i.size, i.bytes)) = some (some (.agg #[.bool false, .int .i64 0, .int .i64 0, .int .i64 0, .int .i64 0, .slice none 0 0, .slice none 0 0, .int .i64 0, .string .empty, .int .i64 0]), 10, 120) := by kernel_rfl
theorem infoExtJ : (Try.prog.info? 104).map (fun i => (i.zero, i.size, i.bytes)) = some (some (.agg #[.int .i64 0, .string .empty]), 2, 24) := by kernel_rfl
theorem owns_empty (w : World) (e : TypeId) (size : Nat) : (w.alloc (.cells #[] e)).ownsRow w.heap.size e size (.slice (some ⟨w.heap.size, 0, none⟩) 0 0) 0 [] :=
  ⟨by simp, .inr ⟨w.heap.size, 0, #[], rfl, Nat.le_refl _, heap_alloc_new w _, Nat.le_refl _, by simp [maxLen], by simp, by simp⟩⟩

set_option maxRecDepth 100000 in
set_option maxHeartbeats 1600000 in
theorem clone_int (w : World) (S : Nat → Prop) (A : Option Addr) (n c : Nat) (ds : List (Ty.Data (.int .i64))) (hr : Rep w S (.sl (.int .i64) 8) [.slice A n c] ds) :
    Calls Try.prog 63 #[.slice A n c] w fun r w' => ∃ A' c' news, r = .returned (.slice A' n c') ∧ w'.ownsRow w.heap.size 3 1 (.slice A' n c') n news ∧ RepL w S (.int .i64) news ds ∧ Below w.heap.size w w' := by
  obtain ⟨hn, h1, h2, h3, news, hp, hl⟩ := rep_sl.1 hr
  rw [big_eq] at h3
  have HL := Lib.hid hl
  have HN := Lib.hid hn
  clear hl hr hn
  cases A with
  | none =>
    have h0 : n = 0 := by
      rcases Nat.eq_zero_or_pos n with h | h
      · exact h
      · obtain ⟨b, o, e, _⟩ := hp h; cases e
    subst h0
    clear hp
    go_enter Try.func63, Try.ntmps63
    go_wp2_with fail
    rw [Go.Lib.run_eql_slice_nil _ 25 3 _ _ _ _ _ Try.underlying25]
    go_wp2_with fail
    go_ret
    have hnil : news = [] := List.eq_nil_of_length_eq_zero (by rw [HL.out.1, ← HN.out]; simp)
    exact ⟨none, 0, news, rfl, by rw [hnil]; exact World.ownsRow_nil .., HL.out, Below.refl _ w⟩
  | some a =>
    have hb0 : Below w.heap.size w (w.alloc (.cells #[] 3)) := (Below.refl _ w).alloc (Nat.le_refl _) _
    have HP : Hid (0 < n → ∃ b o, some a = some ⟨b, o, none⟩ ∧ At (w.alloc (.cells #[] 3)) b o news) := fun h => by obtain ⟨b, o, e, _, hl, ha⟩ := hp h; exact ⟨b, o, e, ha.frame (hb0.block b hl)⟩
    have HB := Lib.hid hb0
    clear hp hb0
    go_enter Try.func63, Try.ntmps63
    go_wp2_with fail
    rw [Go.Lib.run_eql_slice_nil _ 25 3 _ _ _ _ _ Try.underlying25]
    go_wp2_with (at_builtin; refine wpList_plain rfl fun K hK => wp_copied (w.alloc (.cells #[] 3)) w.heap.size _ _ 25 3 rfl _ 1 8 Try.underlying25 infoInt rfl (by omega) (.slice (some ⟨w.heap.size, 0, none⟩) 0 0) rfl (owns_empty w 3 1) (by simp) (some a) n c rfl news (by rw [HL.out.1, HN.out]; rfl) HP.out HL.out.one (Nat.le_trans h1 h2) (by omega) ?_; intro A' c' w' ho hg; refine hK _ _ ?_; clear hK K)
    go_ret
    exact ⟨A', c', news, rfl, ho, HL.out, below_grown (r := w.heap.size) HB.out hg (by simp) (Nat.le_refl _)⟩
set_option maxRecDepth 100000 in
set_option maxHeartbeats 1600000 in
theorem clone_ext (w : World) (S : Nat → Prop) (A : Option Addr) (n c : Nat) (ds : List (Ty.Data JExt)) (hr : Rep w S (.sl JExt 24) [.slice A n c] ds) :
    Calls Try.prog 64 #[.slice A n c] w fun r w' => ∃ A' c' news, r = .returned (.slice A' n c') ∧ w'.ownsRow w.heap.size 104 2 (.slice A' n c') n news ∧ RepL w S JExt news ds ∧ Below w.heap.size w w' := by
  obtain ⟨hn, h1, h2, h3, news, hp, hl⟩ := rep_sl.1 hr
  rw [big_eq] at h3
  have HL := Lib.hid hl
  have HN := Lib.hid hn
  clear hl hr hn
  cases A with
  | none =>
    have h0 : n = 0 := by
      rcases Nat.eq_zero_or_pos n with h | h
      · exact h
      · obtain ⟨b, o, e, _⟩ := hp h; cases e
    subst h0
    clear hp
    go_enter Try.func64, Try.ntmps64
    go_wp2_with fail
    rw [Go.Lib.run_eql_slice_nil _ 26 104 _ _ _ _ _ Try.underlying26]
    go_wp2_with fail
    go_ret
    have hnil : news = [] := List.eq_nil_of_length_eq_zero (by rw [HL.out.1, ← HN.out]; simp)
    exact ⟨none, 0, news, rfl, by rw [hnil]; exact World.ownsRow_nil .., HL.out, Below.refl _ w⟩
  | some a =>
    have hb0 : Below w.heap.size w (w.alloc (.cells #[] 104)) := (Below.refl _ w).alloc (Nat.le_refl _) _
    have HP : Hid (0 < n → ∃ b o, some a = some ⟨b, o, none⟩ ∧ At (w.alloc (.cells #[] 104)) b o news) := fun h => by obtain ⟨b, o, e, _, hl, ha⟩ := hp h; exact ⟨b, o, e, ha.frame (hb0.block b hl)⟩
    have HB := Lib.hid hb0
    clear hp hb0
    go_enter Try.func64, Try.ntmps64
    go_wp2_with fail
    rw [Go.Lib.run_eql_slice_nil _ 26 104 _ _ _ _ _ Try.underlying26]
    go_wp2_with (at_builtin; refine wpList_plain rfl fun K hK => wp_copied (w.alloc (.cells #[] 104)) w.heap.size _ _ 26 104 rfl _ 2 24 Try.underlying26 infoExtJ rfl (by omega) (.slice (some ⟨w.heap.size, 0, none⟩) 0 0) rfl (owns_empty w 104 2) (by simp) (some a) n c rfl news (by rw [HL.out.1, HN.out]; rfl) HP.out HL.out.one (Nat.le_trans h1 h2) (by omega) ?_; intro A' c' w' ho hg; refine hK _ _ ?_; clear hK K)
    go_ret
    exact ⟨A', c', news, rfl, ho, HL.out, below_grown (r := w.heap.size) HB.out hg (by simp) (Nat.le_refl _)⟩
set_option maxRecDepth 100000 in
set_option maxHeartbeats 1600000 in
theorem clone_held (w : World) (S : Nat → Prop) (A : Option Addr) (n c : Nat) (ds : List (Ty.Data JHeld)) (hr : Rep w S (.sl JHeld 120) [.slice A n c] ds) :
    Calls Try.prog 61 #[.slice A n c] w fun r w' => ∃ A' c' news, r = .returned (.slice A' n c') ∧ w'.ownsRow w.heap.size 83 10 (.slice A' n c') n news ∧ RepL w S JHeld news ds ∧ Below w.heap.size w w' := by
  obtain ⟨hn, h1, h2, h3, news, hp, hl⟩ := rep_sl.1 hr
  rw [big_eq] at h3
  have HL := Lib.hid hl
  have HN := Lib.hid hn
  clear hl hr hn
  cases A with
  | none =>
    have h0 : n = 0 := by
      rcases Nat.eq_zero_or_pos n with h | h
      · exact h
      · obtain ⟨b, o, e, _⟩ := hp h; cases e
    subst h0
    clear hp
    go_enter Try.func61, Try.ntmps61
    go_wp2_with fail
    rw [Go.Lib.run_eql_slice_nil _ 22 83 _ _ _ _ _ Try.underlying22]
    go_wp2_with fail
    go_ret
    have hnil : news = [] := List.eq_nil_of_length_eq_zero (by rw [HL.out.1, ← HN.out]; simp)
    exact ⟨none, 0, news, rfl, by rw [hnil]; exact World.ownsRow_nil .., HL.out, Below.refl _ w⟩
  | some a =>
    have hb0 : Below w.heap.size w (w.alloc (.cells #[] 83)) := (Below.refl _ w).alloc (Nat.le_refl _) _
    have HP : Hid (0 < n → ∃ b o, some a = some ⟨b, o, none⟩ ∧ At (w.alloc (.cells #[] 83)) b o news) := fun h => by obtain ⟨b, o, e, _, hl, ha⟩ := hp h; exact ⟨b, o, e, ha.frame (hb0.block b hl)⟩
    have HB := Lib.hid hb0
    clear hp hb0
    go_enter Try.func61, Try.ntmps61
    go_wp2_with fail
    rw [Go.Lib.run_eql_slice_nil _ 22 83 _ _ _ _ _ Try.underlying22]
    go_wp2_with (at_builtin; refine wpList_plain rfl fun K hK => wp_copied (w.alloc (.cells #[] 83)) w.heap.size _ _ 22 83 rfl _ 10 120 Try.underlying22 infoHeldJ rfl (by omega) (.slice (some ⟨w.heap.size, 0, none⟩) 0 0) rfl (owns_empty w 83 10) (by simp) (some a) n c rfl news (by rw [HL.out.1, HN.out]; rfl) HP.out HL.out.one (Nat.le_trans h1 h2) (by omega) ?_; intro A' c' w' ho hg; refine hK _ _ ?_; clear hK K)
    go_ret
    exact ⟨A', c', news, rfl, ho, HL.out, below_grown (r := w.heap.size) HB.out hg (by simp) (Nat.le_refl _)⟩
end Go.Proofs.Ytjmohkgbfigcgaa.Sh
