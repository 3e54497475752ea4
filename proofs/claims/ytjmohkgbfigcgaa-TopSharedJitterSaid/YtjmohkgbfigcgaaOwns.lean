/- The copiers of this claim's statement: each meets the word 'Owns'. Printed by a program of my own (genowns.py). -/
import Derived.Test.YtjmohkgbfigcgaaSees
import Derived.Test.YtjmohkgbfigcgaaBox
namespace Go.Proofs.Ytjmohkgbfigcgaa.Sh
open Go Go.RowKit
set_option linter.unusedVariables false
set_option linter.unusedSimpArgs false
theorem info3 : (Try.prog.info? 3).map (fun i => (i.zero, i.size, i.bytes)) = some (some (.int .i64 0), 1, 8) := by kernel_rfl

set_option maxHeartbeats 800000 in
theorem copied_54 (w : World) (S : Nat → Prop) (A : Option Addr) (n c : Nat) (ds : List (Ty.Data (.int .i64))) (hr : Rep w S (.sl (.int .i64) 8) [.slice A n c] ds) :
    Calls Try.prog 54 #[.slice A n c] w fun r w' => ∃ A' c' news, r = .returned (.slice A' n c') ∧ w'.ownsRow w.heap.size 3 1 (.slice A' n c') n news ∧ RepL w S (.int .i64) news ds ∧ Below w.heap.size w w' := by
  obtain ⟨hn, h1, h2, h3, news, hp, hl⟩ := rep_sl.1 hr
  rw [big_eq] at h3
  have HP : Hid (0 < n → ∃ b o, A = some ⟨b, o, none⟩ ∧ At w b o news) := fun h => by obtain ⟨b, o, e, _, _, ha⟩ := hp h; exact ⟨b, o, e, ha⟩
  have HL := Lib.hid hl
  have HN := Lib.hid hn
  clear hp hl hr hn
  go_enter Try.func54, Try.ntmps54
  go_wp2_with (at_builtin; refine wpList_plain rfl fun K hK => wp_copied w w.heap.size _ _ 25 3 rfl _ 1 8 Try.underlying25 info3 rfl (by omega) (.slice none 0 0) rfl (World.ownsRow_nil ..) (Nat.le_refl _) A n c rfl news (by rw [HL.out.1, HN.out]; rfl) HP.out HL.out.one (Nat.le_trans h1 h2) (by omega) ?_; intro A' c' w' ho hg; refine hK _ _ ?_; clear hK K)
  go_ret
  exact ⟨A', c', news, rfl, ho, HL.out, below_of_grown hg⟩

theorem owns_54 : Owns 54 false (.sl (.int .i64) 8) := by
  intro w S cs d hr
  obtain ⟨a, cap, rfl⟩ := hr.slice
  obtain ⟨hn, h1, h2, h3, _⟩ := rep_sl.1 hr
  exact (copied_54 w S a _ cap d hr).mono fun e w' ⟨A', c', news, h4, h5, h6, h7⟩ => ⟨_, h4, _, rfl, rep_copied (w := w) (S := S) (A := a) (c := cap) hn h3 (Rep.flat_any (w := w) (S := S) rfl h6) h5 (fun b hb => hb), h7⟩

theorem info104 : (Try.prog.info? 104).map (fun i => (i.zero, i.size, i.bytes)) = some (some (.agg #[.int .i64 0, .string .empty]), 2, 24) := by kernel_rfl

set_option maxHeartbeats 800000 in
theorem copied_55 (w : World) (S : Nat → Prop) (A : Option Addr) (n c : Nat) (ds : List (Ty.Data TyExt)) (hr : Rep w S (.sl TyExt 24) [.slice A n c] ds) :
    Calls Try.prog 55 #[.slice A n c] w fun r w' => ∃ A' c' news, r = .returned (.slice A' n c') ∧ w'.ownsRow w.heap.size 104 2 (.slice A' n c') n news ∧ RepL w S TyExt news ds ∧ Below w.heap.size w w' := by
  obtain ⟨hn, h1, h2, h3, news, hp, hl⟩ := rep_sl.1 hr
  rw [big_eq] at h3
  have HP : Hid (0 < n → ∃ b o, A = some ⟨b, o, none⟩ ∧ At w b o news) := fun h => by obtain ⟨b, o, e, _, _, ha⟩ := hp h; exact ⟨b, o, e, ha⟩
  have HL := Lib.hid hl
  have HN := Lib.hid hn
  clear hp hl hr hn
  go_enter Try.func55, Try.ntmps55
  go_wp2_with (at_builtin; refine wpList_plain rfl fun K hK => wp_copied w w.heap.size _ _ 26 104 rfl _ 2 24 Try.underlying26 info104 rfl (by omega) (.slice none 0 0) rfl (World.ownsRow_nil ..) (Nat.le_refl _) A n c rfl news (by rw [HL.out.1, HN.out]; rfl) HP.out HL.out.one (Nat.le_trans h1 h2) (by omega) ?_; intro A' c' w' ho hg; refine hK _ _ ?_; clear hK K)
  go_ret
  exact ⟨A', c', news, rfl, ho, HL.out, below_of_grown hg⟩

theorem owns_55 : Owns 55 false (.sl TyExt 24) := by
  intro w S cs d hr
  obtain ⟨a, cap, rfl⟩ := hr.slice
  obtain ⟨hn, h1, h2, h3, _⟩ := rep_sl.1 hr
  exact (copied_55 w S a _ cap d hr).mono fun e w' ⟨A', c', news, h4, h5, h6, h7⟩ => ⟨_, h4, _, rfl, rep_copied (w := w) (S := S) (A := a) (c := cap) hn h3 (Rep.flat_any (w := w) (S := S) rfl h6) h5 (fun b hb => hb), h7⟩

theorem info83 : (Try.prog.info? 83).map (fun i => (i.zero, i.size, i.bytes)) = some (some (.agg #[.bool false, .int .i64 0, .int .i64 0, .int .i64 0, .int .i64 0, .slice none 0 0, .slice none 0 0, .int .i64 0, .string .empty, .int .i64 0]), 10, 120) := by kernel_rfl

set_option maxHeartbeats 800000 in
theorem copied_71 (w : World) (S : Nat → Prop) (A : Option Addr) (n c : Nat) (ds : List (Ty.Data TyHeld)) (hr : Rep w S (.sl TyHeld 120) [.slice A n c] ds) :
    Calls Try.prog 71 #[.slice A n c] w fun r w' => ∃ A' c' news, r = .returned (.slice A' n c') ∧ w'.ownsRow w.heap.size 83 10 (.slice A' n c') n news ∧ RepL w S TyHeld news ds ∧ Below w.heap.size w w' := by
  obtain ⟨hn, h1, h2, h3, news, hp, hl⟩ := rep_sl.1 hr
  rw [big_eq] at h3
  have HP : Hid (0 < n → ∃ b o, A = some ⟨b, o, none⟩ ∧ At w b o news) := fun h => by obtain ⟨b, o, e, _, _, ha⟩ := hp h; exact ⟨b, o, e, ha⟩
  have HL := Lib.hid hl
  have HN := Lib.hid hn
  clear hp hl hr hn
  go_enter Try.func71, Try.ntmps71
  go_wp2_with (at_builtin; refine wpList_plain rfl fun K hK => wp_copied w w.heap.size _ _ 22 83 rfl _ 10 120 Try.underlying22 info83 rfl (by omega) (.slice none 0 0) rfl (World.ownsRow_nil ..) (Nat.le_refl _) A n c rfl news (by rw [HL.out.1, HN.out]; rfl) HP.out HL.out.one (Nat.le_trans h1 h2) (by omega) ?_; intro A' c' w' ho hg; refine hK _ _ ?_; clear hK K)
  go_ret
  exact ⟨A', c', news, rfl, ho, HL.out, below_of_grown hg⟩

theorem zero28 : ∃ i, Try.prog.info? 28 = some i ∧ i.zero = some (.agg #[.bool false, .int .i64 0, .int .i64 0, .int .i64 0, .int .i64 0, .slice none 0 0, .slice none 0 0, .int .i64 0, .string .empty]) := by
  have h : (Try.prog.info? 28).map (·.zero) = some (some (.agg #[.bool false, .int .i64 0, .int .i64 0, .int .i64 0, .int .i64 0, .slice none 0 0, .slice none 0 0, .int .i64 0, .string .empty])) := by kernel_rfl
  obtain ⟨i, h1, h2⟩ := Option.map_eq_some_iff.1 h
  exact ⟨i, h1, h2⟩
set_option maxHeartbeats 1600000 in
set_option maxRecDepth 100000 in
theorem owns_29 : Owns 29 true TyMedia := by
  intro w S cs d hr
  obtain ⟨c0, _, rfl, r0, c1, _, rfl, r1, c2, _, rfl, r2, c3, _, rfl, r3, c4, _, rfl, r4, c5, _, rfl, r5, c6, _, rfl, r6, c7, _, rfl, r7, c8, _, rfl, r8, rfl⟩ := hr
  have l0 : c0.length = 1 := Rep.length _ _ _ r0
  have l1 : c1.length = 1 := Rep.length _ _ _ r1
  have l2 : c2.length = 1 := Rep.length _ _ _ r2
  have l3 : c3.length = 1 := Rep.length _ _ _ r3
  have l4 : c4.length = 1 := Rep.length _ _ _ r4
  have l5 : c5.length = 1 := Rep.length _ _ _ r5
  have l6 : c6.length = 1 := Rep.length _ _ _ r6
  have l7 : c7.length = 1 := Rep.length _ _ _ r7
  have l8 : c8.length = 1 := Rep.length _ _ _ r8
  obtain ⟨iz, hi, hz⟩ := zero28
  refine calls_of_wp Try.func29 rfl ?_
  have r0 := r0.mono (S' := fun b => b < w.heap.size) (fun b _ hl => hl)
  have r1 := r1.mono (S' := fun b => b < w.heap.size) (fun b _ hl => hl)
  have r2 := r2.mono (S' := fun b => b < w.heap.size) (fun b _ hl => hl)
  have r3 := r3.mono (S' := fun b => b < w.heap.size) (fun b _ hl => hl)
  have r4 := r4.mono (S' := fun b => b < w.heap.size) (fun b _ hl => hl)
  have r5 := r5.mono (S' := fun b => b < w.heap.size) (fun b _ hl => hl)
  have r6 := r6.mono (S' := fun b => b < w.heap.size) (fun b _ hl => hl)
  have r7 := r7.mono (S' := fun b => b < w.heap.size) (fun b _ hl => hl)
  have r8 := r8.mono (S' := fun b => b < w.heap.size) (fun b _ hl => hl)
  refine wp_seq ?_
  refine own_start (m := 12) (cs := (c0 ++ (c1 ++ (c2 ++ (c3 ++ (c4 ++ (c5 ++ (c6 ++ (c7 ++ (c8 ++ [])))))))))) (by simp [Act.eval, valOf]) (by kernel_rfl) (by omega) (by omega) (by omega) hi hz ?_
  intro a0 w0 s0 k0 z0 b0 q0
  have e0 := b0
  have r0 := r0.below (Below.mono b0 (Nat.le_refl _))
  have r1 := r1.below (Below.mono b0 (Nat.le_refl _))
  have r2 := r2.below (Below.mono b0 (Nat.le_refl _))
  have r3 := r3.below (Below.mono b0 (Nat.le_refl _))
  have r4 := r4.below (Below.mono b0 (Nat.le_refl _))
  have r5 := r5.below (Below.mono b0 (Nat.le_refl _))
  have r6 := r6.below (Below.mono b0 (Nat.le_refl _))
  have r7 := r7.below (Below.mono b0 (Nat.le_refl _))
  have r8 := r8.below (Below.mono b0 (Nat.le_refl _))
  generalize hN : w.heap.size = N at s0 k0 z0 e0 q0 r0 r1 r2 r3 r4 r5 r6 r7 r8 ⊢
  refine wp_seq ?_
  refine own_field (pre := (c0 ++ c1 ++ c2 ++ c3 ++ c4)) (c := c5) (post := (c6 ++ (c7 ++ (c8 ++ [])))) (kT := (.sl (.int .i64) 8)) (off := 5) (len := 1) (agg := false) s0 (by omega) (by omega) (by omega) (by omega) (by omega) (fun u => by kernel_rfl) l5 (by simp [List.length_append, l0, l1, l2, l3, l4]) (by decide) ⟨_, Try.underlying25, rfl⟩ (by kernel_rfl) (by simpa only [List.append_assoc, List.nil_append] using k0) r5 rfl owns_54 Try.func54 (by kernel_rfl) rfl ?_
  intro d5 w1 a1 s1 k1 p1 g1
  have m5 : d5.length = 1 := Rep.length _ _ _ p1
  have z1 := z0.grown g1 (by omega)
  have e1 := below_grown e0 g1 (by omega) (by omega)
  have q1 : N + 2 ≤ w1.heap.size := by have := g1.size; omega
  have r6 := Rep.grown_any (S := fun b => b < N) r6 g1 (by omega)
  have r5 := p1
  refine wp_seq ?_
  refine own_field (pre := (c0 ++ c1 ++ c2 ++ c3 ++ c4 ++ d5)) (c := c6) (post := (c7 ++ (c8 ++ []))) (kT := (.sl TyExt 24)) (off := 6) (len := 1) (agg := false) s1 (by omega) (by omega) (by omega) (by omega) (by omega) (fun u => by kernel_rfl) l6 (by simp [List.length_append, l0, l1, l2, l3, l4, m5]) (by decide) ⟨_, Try.underlying26, rfl⟩ (by kernel_rfl) (by simpa only [List.append_assoc, List.nil_append] using k1) r6 rfl owns_55 Try.func55 (by kernel_rfl) rfl ?_
  intro d6 w2 a2 s2 k2 p2 g2
  have m6 : d6.length = 1 := Rep.length _ _ _ p2
  have z2 := z1.grown g2 (by omega)
  have e2 := below_grown e1 g2 (by omega) (by omega)
  have q2 : N + 2 ≤ w2.heap.size := by have := g2.size; omega
  have r5 := r5.grown g2 (by omega)
  have r6 := p2
  have fin : Rep w2 (Fr (N + 2)) TyMedia ((c0 ++ (c1 ++ (c2 ++ (c3 ++ (c4 ++ (d5 ++ (d6 ++ (c7 ++ (c8 ++ [])))))))))) d := ⟨c0, _, rfl, Rep.any _ _ _ rfl r0, c1, _, rfl, Rep.any _ _ _ rfl r1, c2, _, rfl, Rep.any _ _ _ rfl r2, c3, _, rfl, Rep.any _ _ _ rfl r3, c4, _, rfl, Rep.any _ _ _ rfl r4, d5, _, rfl, r5.fr_le (by omega), d6, _, rfl, r6.fr_le (by omega), c7, _, rfl, Rep.any _ _ _ rfl r7, c8, _, rfl, Rep.any _ _ _ rfl r8, rfl⟩
  have lenE : ((c0 ++ (c1 ++ (c2 ++ (c3 ++ (c4 ++ (d5 ++ (d6 ++ (c7 ++ (c8 ++ [])))))))))).length = 9 := by simp [l0, l1, l2, l3, l4, m5, m6, l7, l8]
  refine wp_seq ?_
  refine own_end (bs := (c0 ++ (c1 ++ (c2 ++ (c3 ++ (c4 ++ (d5 ++ (d6 ++ (c7 ++ (c8 ++ [])))))))))) s2 (by omega) ⟨_, Try.underlying28, rfl⟩ (by rw [lenE]; kernel_rfl) (by simpa only [List.append_assoc, List.nil_append] using k2) z2 (by rw [lenE]; rfl) (Rep.one _ _ _ fin) ?_
  intro aE wE sE kE gE
  refine own_ret rfl sE ⟨_, Try.underlying28, rfl⟩ (by rw [lenE]; kernel_rfl) kE ?_
  exact ⟨_, rfl, _, rfl, (fin.grown gE (by omega)).fr_le (by omega), below_grown e2 gE (by omega) (by omega)⟩

theorem zero83 : ∃ i, Try.prog.info? 83 = some i ∧ i.zero = some (.agg #[.bool false, .int .i64 0, .int .i64 0, .int .i64 0, .int .i64 0, .slice none 0 0, .slice none 0 0, .int .i64 0, .string .empty, .int .i64 0]) := by
  have h : (Try.prog.info? 83).map (·.zero) = some (some (.agg #[.bool false, .int .i64 0, .int .i64 0, .int .i64 0, .int .i64 0, .slice none 0 0, .slice none 0 0, .int .i64 0, .string .empty, .int .i64 0])) := by kernel_rfl
  obtain ⟨i, h1, h2⟩ := Option.map_eq_some_iff.1 h
  exact ⟨i, h1, h2⟩
set_option maxHeartbeats 1600000 in
set_option maxRecDepth 100000 in
theorem owns_72 : Owns 72 true TyHeld := by
  intro w S cs d hr
  obtain ⟨c0, _, rfl, r0, c1, _, rfl, r1, rfl⟩ := hr
  have l0 : c0.length = 9 := Rep.length _ _ _ r0
  have l1 : c1.length = 1 := Rep.length _ _ _ r1
  obtain ⟨iz, hi, hz⟩ := zero83
  refine calls_of_wp Try.func72 rfl ?_
  have r0 := r0.mono (S' := fun b => b < w.heap.size) (fun b _ hl => hl)
  have r1 := r1.mono (S' := fun b => b < w.heap.size) (fun b _ hl => hl)
  refine wp_seq ?_
  refine own_start (m := 8) (cs := (c0 ++ (c1 ++ []))) (by simp [Act.eval, valOf]) (by kernel_rfl) (by omega) (by omega) (by omega) hi hz ?_
  intro a0 w0 s0 k0 z0 b0 q0
  have e0 := b0
  have r0 := r0.below (Below.mono b0 (Nat.le_refl _))
  have r1 := r1.below (Below.mono b0 (Nat.le_refl _))
  generalize hN : w.heap.size = N at s0 k0 z0 e0 q0 r0 r1 ⊢
  refine wp_seq ?_
  refine own_field (pre := []) (c := c0) (post := (c1 ++ [])) (kT := TyMedia) (off := 0) (len := 9) (agg := true) s0 (by omega) (by omega) (by omega) (by omega) (by omega) (fun u => by kernel_rfl) l0 (by simp [List.length_append]) (by decide) ⟨_, Try.underlying28, rfl⟩ (by kernel_rfl) (by simpa only [List.append_assoc, List.nil_append] using k0) r0 rfl owns_29 Try.func29 (by kernel_rfl) rfl ?_
  intro d0 w1 a1 s1 k1 p1 g1
  have m0 : d0.length = 9 := Rep.length _ _ _ p1
  have z1 := z0.grown g1 (by omega)
  have e1 := below_grown e0 g1 (by omega) (by omega)
  have q1 : N + 2 ≤ w1.heap.size := by have := g1.size; omega
  have r0 := p1
  have fin : Rep w1 (Fr (N + 2)) TyHeld ((d0 ++ (c1 ++ []))) d := ⟨d0, _, rfl, r0.fr_le (by omega), c1, _, rfl, Rep.any _ _ _ rfl r1, rfl⟩
  have lenE : ((d0 ++ (c1 ++ []))).length = 10 := by simp [m0, l1]
  refine wp_seq ?_
  refine own_end (bs := (d0 ++ (c1 ++ []))) s1 (by omega) ⟨_, Try.underlying83, rfl⟩ (by rw [lenE]; kernel_rfl) (by simpa only [List.append_assoc, List.nil_append] using k1) z1 (by rw [lenE]; rfl) (Rep.one _ _ _ fin) ?_
  intro aE wE sE kE gE
  refine own_ret rfl sE ⟨_, Try.underlying83, rfl⟩ (by rw [lenE]; kernel_rfl) kE ?_
  exact ⟨_, rfl, _, rfl, (fin.grown gE (by omega)).fr_le (by omega), below_grown e1 gE (by omega) (by omega)⟩

set_option maxHeartbeats 1600000 in
set_option maxRecDepth 100000 in
theorem owns_53 : Owns 53 false (.sl TyHeld 120) := by
  intro w S cs ds hr
  obtain ⟨A, c, rfl⟩ := hr.slice
  have hr' : Rep w (fun b => b < w.heap.size) (.sl TyHeld 120) [.slice A ds.length c] ds := hr.mono (fun b _ h => h)
  obtain ⟨-, -, -, hnb, -⟩ := rep_sl.1 hr
  have hnb2 : ds.length ≤ 9223372036854775807 := by rw [big_eq] at hnb; omega
  generalize hn : ds.length = n at hr hr' hnb hnb2 ⊢
  simp only [valOf, Bool.false_eq_true, if_false, List.headD_cons]
  have HN := Lib.hid hn
  have HC := Lib.hid (copied_71 w _ A n c ds hr')
  clear hn hr hr'
  go_enter Try.func53, Try.ntmps53
  go_wp2_with fail
  refine HC.out.mono ?_
  rintro r w1 ⟨A', c', news, rfl, ho, hl, hb⟩
  clear HC
  have hsz := hb.size
  have hl0 : RepL w1 (fun b => b < w.heap.size ∨ w1.heap.size ≤ b) TyHeld news ds := hl.frame fun b h1 h2 => ⟨hb.block b h2, .inl h1⟩
  have hlt : ∀ g, (Value.slice A' n c').ownBlock = some g → w.heap.size ≤ g ∧ g < w1.heap.size := fun g hg => ho.lt g hg
  have HT := Lib.hid hlt
  clear hl hlt
  go_wp2_with fail
  go_loopw [3] (fun i wr => ∃ (k : Nat) (newsk : List Value), i = .int .i64 k ∧ k ≤ n ∧ wr.ownsRow w.heap.size 83 10 (.slice A' n c') n newsk ∧ Below w.heap.size w wr ∧ w1.heap.size ≤ wr.heap.size ∧
      RepL wr (fun b => b < w.heap.size ∨ w1.heap.size ≤ b) TyHeld newsk ds ∧ RepL wr (Fr w1.heap.size) TyHeld (newsk.take (k * 10)) (ds.take k)) (fun i _ => n - (intOf i).toNat)
  case atStart => exact ⟨0, news, rfl, Nat.zero_le _, ho, hb, Nat.le_refl _, hl0, by simpa using RepL.nil _ _ _⟩
  case round =>
    obtain ⟨k, newsk, rfl, hk, hok, hbk, hszk, hla, hlb⟩ := hrel
    clear ho hl0
    by_cases hlt : k < n
    · have hn' := HN.out
      have hkd : k < ds.length := by omega
      obtain ⟨hn1, hc1, hpl, hlen⟩ := owned_at hok
      obtain ⟨g, rfl, hg1, hg2, hat⟩ := hpl (by omega)
      have hg3 : g < w1.heap.size := (HT.out g rfl).2
      have hseg := hat.seg (k * 10) 10
      rw [Nat.zero_add] at hseg
      have hre := Lib.hid (hla.2 k hkd)
      have hsl : ((newsk.drop (k * 10)).take 10).length = 10 := Rep.length _ _ _ hre.out
      have HS := Lib.hid hseg
      have hwk : k * 10 + 10 ≤ n * 10 := by rw [← Nat.succ_mul]; exact Nat.mul_le_mul_right _ hlt
      have HL := Lib.hid hsl
      have HO := Lib.hid hok
      clear hn' hseg hsl hlen hpl hat hok
      go_wp2_with (refine wpList_load_mid rfl 83 _ rfl g (k * 10) rfl ((newsk.drop (k * 10)).take 10) _ (fun j v hv => (HS.out j v hv).1) Try.underlying83 rfl (by rw [HL.out]; kernel_rfl) ?_)
      refine (owns_72 wr _ _ _ hre.out).mono ?_
      rintro r w2 ⟨_, rfl, cs', rfl, q2, b2⟩
      have hsz2 := b2.size
      have l2 : cs'.length = 10 := Rep.length _ _ _ q2
      have ho2 : w2.ownsRow w.heap.size 83 10 (.slice (some ⟨g, 0, none⟩) n c') n newsk := HO.out.kept (row := none) ⟨b2.os, b2.tape, b2.output, b2.size, fun i hi _ => b2.block i hi⟩ (.inr (by simp [Value.ownBlock]))
      have HO2 := Lib.hid ho2
      have HL2 := Lib.hid l2
      clear ho2 l2
      simp only [valOf, if_true]
      go_wp2_with (refine wpList_plain rfl fun K hK => wp_row_store w2 83 _ _ rfl g (k * 10) rfl cs' rfl _ _ 10 n c' newsk HO2.out (by rw [HL2.out]; exact hwk) (Rep.one _ _ _ q2) (by rw [HL2.out]; kernel_rfl) ?_; intro w3 ho3 hg3b; refine hK _ _ ?_; clear hK K)
      have hl2 := HL2.out
      have hlen2 := HO2.out.1
      go_roundw
      case rel =>
        have hsz3 := hg3b.size
        have hn' := HN.out
        have q3 : Rep w3 (Fr wr.heap.size) TyHeld cs' ds[k] := q2.grown hg3b (by omega)
        have hfr : ∀ (S' : Nat → Prop), (∀ b, S' b → b ≠ g) → ∀ b, S' b → b < wr.heap.size → w3.heap[b]? = wr.heap[b]? ∧ S' b := fun S' hS b hb hlb =>
          ⟨(hg3b.block b (by omega) (by intro e; injection e with e; exact hS b hb e)).trans (b2.block b hlb), hb⟩
        have hla3 : RepL w3 (fun b => b < w.heap.size ∨ w1.heap.size ≤ b) TyHeld newsk ds := hla.frame (hfr _ (fun b hb => by omega))
        have hlb3 : RepL w3 (Fr w1.heap.size) TyHeld (newsk.take (k * 10)) (ds.take k) := hlb.frame (hfr _ (fun b hb => by have : w1.heap.size ≤ b := hb; omega))
        have hset := hla3.set k hkd (q3.mono (S' := fun b => b < w.heap.size ∨ w1.heap.size ≤ b) (fun b hb _ => .inr (by have : wr.heap.size ≤ b := hb; omega)))
        have hsn := hlb3.snoc (q3.fr_le hszk)
        have e0 : (k + 1) * 10 = k * 10 + 10 := by omega
        have hk1 : k * 10 ≤ newsk.length := by rw [hlen2]; omega
        rw [hl2] at ho3
        refine ⟨k + 1, newsk.take (k * 10) ++ cs' ++ newsk.drop (k * 10 + 10), by go_num, by omega, ho3, below_grown (hbk.trans (b2.mono (by omega))) hg3b (by omega) hg1, by omega, ?_, ?_⟩
        · rw [List.set_getElem_self] at hset
          rw [← e0]
          exact hset
        · rw [List.take_succ_eq_append_getElem hkd]
          have e1 : (newsk.take (k * 10) ++ cs' ++ newsk.drop (k * 10 + 10)).take ((k + 1) * 10) = newsk.take (k * 10) ++ cs' := by
            refine List.take_left' ?_
            rw [List.length_append, List.length_take, hl2, Nat.min_eq_left hk1, e0]
          rw [e1]
          exact hsn
      case measure => simp [intOf]; omega
    · go_wp2_with fail
      go_ret
      obtain rfl : k = n := by omega
      refine ⟨_, rfl, [.slice A' k c'], rfl, ?_, hbk⟩
      have hfull : RepL wr (Fr w1.heap.size) TyHeld newsk ds := by
        have h := hlb
        rw [List.take_of_length_le (Nat.le_of_eq hok.1), List.take_of_length_le (Nat.le_of_eq HN.out)] at h
        exact h
      exact rep_copied (w := w) (S := S) (A := A) (c := c) HN.out.symm hnb (hfull.frame (S' := Fr w.heap.size) (fun b hb _ => ⟨rfl, Nat.le_trans hsz hb⟩)) hok (fun b hb => hb)

theorem zero24 : ∃ i, Try.prog.info? 24 = some i ∧ i.zero = some (.agg #[.int .i64 0, .int .i64 0, .bool false, .bool false, .int .i64 0, .int .i64 0, .int .i64 0, .int .i64 0, .int .i64 0, .int .i64 0, .slice none 0 0]) := by
  have h : (Try.prog.info? 24).map (·.zero) = some (some (.agg #[.int .i64 0, .int .i64 0, .bool false, .bool false, .int .i64 0, .int .i64 0, .int .i64 0, .int .i64 0, .int .i64 0, .int .i64 0, .slice none 0 0])) := by kernel_rfl
  obtain ⟨i, h1, h2⟩ := Option.map_eq_some_iff.1 h
  exact ⟨i, h1, h2⟩
set_option maxHeartbeats 1600000 in
set_option maxRecDepth 100000 in
theorem owns_28 : Owns 28 true TyBuffer := by
  intro w S cs d hr
  obtain ⟨c0, _, rfl, r0, c1, _, rfl, r1, c2, _, rfl, r2, c3, _, rfl, r3, c4, _, rfl, r4, c5, _, rfl, r5, c6, _, rfl, r6, c7, _, rfl, r7, c8, _, rfl, r8, c9, _, rfl, r9, c10, _, rfl, r10, rfl⟩ := hr
  have l0 : c0.length = 1 := Rep.length _ _ _ r0
  have l1 : c1.length = 1 := Rep.length _ _ _ r1
  have l2 : c2.length = 1 := Rep.length _ _ _ r2
  have l3 : c3.length = 1 := Rep.length _ _ _ r3
  have l4 : c4.length = 1 := Rep.length _ _ _ r4
  have l5 : c5.length = 1 := Rep.length _ _ _ r5
  have l6 : c6.length = 1 := Rep.length _ _ _ r6
  have l7 : c7.length = 1 := Rep.length _ _ _ r7
  have l8 : c8.length = 1 := Rep.length _ _ _ r8
  have l9 : c9.length = 1 := Rep.length _ _ _ r9
  have l10 : c10.length = 1 := Rep.length _ _ _ r10
  obtain ⟨iz, hi, hz⟩ := zero24
  refine calls_of_wp Try.func28 rfl ?_
  have r0 := r0.mono (S' := fun b => b < w.heap.size) (fun b _ hl => hl)
  have r1 := r1.mono (S' := fun b => b < w.heap.size) (fun b _ hl => hl)
  have r2 := r2.mono (S' := fun b => b < w.heap.size) (fun b _ hl => hl)
  have r3 := r3.mono (S' := fun b => b < w.heap.size) (fun b _ hl => hl)
  have r4 := r4.mono (S' := fun b => b < w.heap.size) (fun b _ hl => hl)
  have r5 := r5.mono (S' := fun b => b < w.heap.size) (fun b _ hl => hl)
  have r6 := r6.mono (S' := fun b => b < w.heap.size) (fun b _ hl => hl)
  have r7 := r7.mono (S' := fun b => b < w.heap.size) (fun b _ hl => hl)
  have r8 := r8.mono (S' := fun b => b < w.heap.size) (fun b _ hl => hl)
  have r9 := r9.mono (S' := fun b => b < w.heap.size) (fun b _ hl => hl)
  have r10 := r10.mono (S' := fun b => b < w.heap.size) (fun b _ hl => hl)
  refine wp_seq ?_
  refine own_start (m := 8) (cs := (c0 ++ (c1 ++ (c2 ++ (c3 ++ (c4 ++ (c5 ++ (c6 ++ (c7 ++ (c8 ++ (c9 ++ (c10 ++ [])))))))))))) (by simp [Act.eval, valOf]) (by kernel_rfl) (by omega) (by omega) (by omega) hi hz ?_
  intro a0 w0 s0 k0 z0 b0 q0
  have e0 := b0
  have r0 := r0.below (Below.mono b0 (Nat.le_refl _))
  have r1 := r1.below (Below.mono b0 (Nat.le_refl _))
  have r2 := r2.below (Below.mono b0 (Nat.le_refl _))
  have r3 := r3.below (Below.mono b0 (Nat.le_refl _))
  have r4 := r4.below (Below.mono b0 (Nat.le_refl _))
  have r5 := r5.below (Below.mono b0 (Nat.le_refl _))
  have r6 := r6.below (Below.mono b0 (Nat.le_refl _))
  have r7 := r7.below (Below.mono b0 (Nat.le_refl _))
  have r8 := r8.below (Below.mono b0 (Nat.le_refl _))
  have r9 := r9.below (Below.mono b0 (Nat.le_refl _))
  have r10 := r10.below (Below.mono b0 (Nat.le_refl _))
  generalize hN : w.heap.size = N at s0 k0 z0 e0 q0 r0 r1 r2 r3 r4 r5 r6 r7 r8 r9 r10 ⊢
  refine wp_seq ?_
  refine own_field (pre := (c0 ++ c1 ++ c2 ++ c3 ++ c4 ++ c5 ++ c6 ++ c7 ++ c8 ++ c9)) (c := c10) (post := []) (kT := (.sl TyHeld 120)) (off := 10) (len := 1) (agg := false) s0 (by omega) (by omega) (by omega) (by omega) (by omega) (fun u => by kernel_rfl) l10 (by simp [List.length_append, l0, l1, l2, l3, l4, l5, l6, l7, l8, l9]) (by decide) ⟨_, Try.underlying22, rfl⟩ (by kernel_rfl) (by simpa only [List.append_assoc, List.nil_append] using k0) r10 rfl owns_53 Try.func53 (by kernel_rfl) rfl ?_
  intro d10 w1 a1 s1 k1 p1 g1
  have m10 : d10.length = 1 := Rep.length _ _ _ p1
  have z1 := z0.grown g1 (by omega)
  have e1 := below_grown e0 g1 (by omega) (by omega)
  have q1 : N + 2 ≤ w1.heap.size := by have := g1.size; omega
  have r10 := p1
  have fin : Rep w1 (Fr (N + 2)) TyBuffer ((c0 ++ (c1 ++ (c2 ++ (c3 ++ (c4 ++ (c5 ++ (c6 ++ (c7 ++ (c8 ++ (c9 ++ (d10 ++ [])))))))))))) d := ⟨c0, _, rfl, Rep.any _ _ _ rfl r0, c1, _, rfl, Rep.any _ _ _ rfl r1, c2, _, rfl, Rep.any _ _ _ rfl r2, c3, _, rfl, Rep.any _ _ _ rfl r3, c4, _, rfl, Rep.any _ _ _ rfl r4, c5, _, rfl, Rep.any _ _ _ rfl r5, c6, _, rfl, Rep.any _ _ _ rfl r6, c7, _, rfl, Rep.any _ _ _ rfl r7, c8, _, rfl, Rep.any _ _ _ rfl r8, c9, _, rfl, Rep.any _ _ _ rfl r9, d10, _, rfl, r10.fr_le (by omega), rfl⟩
  have lenE : ((c0 ++ (c1 ++ (c2 ++ (c3 ++ (c4 ++ (c5 ++ (c6 ++ (c7 ++ (c8 ++ (c9 ++ (d10 ++ [])))))))))))).length = 11 := by simp [l0, l1, l2, l3, l4, l5, l6, l7, l8, l9, m10]
  refine wp_seq ?_
  refine own_end (bs := (c0 ++ (c1 ++ (c2 ++ (c3 ++ (c4 ++ (c5 ++ (c6 ++ (c7 ++ (c8 ++ (c9 ++ (d10 ++ [])))))))))))) s1 (by omega) ⟨_, Try.underlying24, rfl⟩ (by rw [lenE]; kernel_rfl) (by simpa only [List.append_assoc, List.nil_append] using k1) z1 (by rw [lenE]; rfl) (Rep.one _ _ _ fin) ?_
  intro aE wE sE kE gE
  refine own_ret rfl sE ⟨_, Try.underlying24, rfl⟩ (by rw [lenE]; kernel_rfl) kE ?_
  exact ⟨_, rfl, _, rfl, (fin.grown gE (by omega)).fr_le (by omega), below_grown e1 gE (by omega) (by omega)⟩

theorem zero30 : ∃ i, Try.prog.info? 30 = some i ∧ i.zero = some (.agg #[.int .i64 0, .int .i64 0, .bool false, .bool false, .int .i64 0, .int .i64 0, .int .i64 0, .int .i64 0, .int .i64 0, .int .i64 0, .slice none 0 0, .int .i64 0, .int .i64 0, .bool false, .int .i64 0, .int .i64 0, .int .i64 0, .int .i64 0, .slice none 0 0, .slice none 0 0, .int .i64 0, .string .empty]) := by
  have h : (Try.prog.info? 30).map (·.zero) = some (some (.agg #[.int .i64 0, .int .i64 0, .bool false, .bool false, .int .i64 0, .int .i64 0, .int .i64 0, .int .i64 0, .int .i64 0, .int .i64 0, .slice none 0 0, .int .i64 0, .int .i64 0, .bool false, .int .i64 0, .int .i64 0, .int .i64 0, .int .i64 0, .slice none 0 0, .slice none 0 0, .int .i64 0, .string .empty])) := by kernel_rfl
  obtain ⟨i, h1, h2⟩ := Option.map_eq_some_iff.1 h
  exact ⟨i, h1, h2⟩
set_option maxHeartbeats 1600000 in
set_option maxRecDepth 100000 in
theorem owns_5 : Owns 5 true TySharedJitter := by
  intro w S cs d hr
  obtain ⟨c0, _, rfl, r0, c1, _, rfl, r1, c2, _, rfl, r2, c3, _, rfl, r3, rfl⟩ := hr
  have l0 : c0.length = 11 := Rep.length _ _ _ r0
  have l1 : c1.length = 1 := Rep.length _ _ _ r1
  have l2 : c2.length = 1 := Rep.length _ _ _ r2
  have l3 : c3.length = 9 := Rep.length _ _ _ r3
  obtain ⟨iz, hi, hz⟩ := zero30
  refine calls_of_wp Try.func5 rfl ?_
  have r0 := r0.mono (S' := fun b => b < w.heap.size) (fun b _ hl => hl)
  have r1 := r1.mono (S' := fun b => b < w.heap.size) (fun b _ hl => hl)
  have r2 := r2.mono (S' := fun b => b < w.heap.size) (fun b _ hl => hl)
  have r3 := r3.mono (S' := fun b => b < w.heap.size) (fun b _ hl => hl)
  refine wp_seq ?_
  refine own_start (m := 12) (cs := (c0 ++ (c1 ++ (c2 ++ (c3 ++ []))))) (by simp [Act.eval, valOf]) (by kernel_rfl) (by omega) (by omega) (by omega) hi hz ?_
  intro a0 w0 s0 k0 z0 b0 q0
  have e0 := b0
  have r0 := r0.below (Below.mono b0 (Nat.le_refl _))
  have r1 := r1.below (Below.mono b0 (Nat.le_refl _))
  have r2 := r2.below (Below.mono b0 (Nat.le_refl _))
  have r3 := r3.below (Below.mono b0 (Nat.le_refl _))
  generalize hN : w.heap.size = N at s0 k0 z0 e0 q0 r0 r1 r2 r3 ⊢
  refine wp_seq ?_
  refine own_field (pre := []) (c := c0) (post := (c1 ++ (c2 ++ (c3 ++ [])))) (kT := TyBuffer) (off := 0) (len := 11) (agg := true) s0 (by omega) (by omega) (by omega) (by omega) (by omega) (fun u => by kernel_rfl) l0 (by simp [List.length_append]) (by decide) ⟨_, Try.underlying24, rfl⟩ (by kernel_rfl) (by simpa only [List.append_assoc, List.nil_append] using k0) r0 rfl owns_28 Try.func28 (by kernel_rfl) rfl ?_
  intro d0 w1 a1 s1 k1 p1 g1
  have m0 : d0.length = 11 := Rep.length _ _ _ p1
  have z1 := z0.grown g1 (by omega)
  have e1 := below_grown e0 g1 (by omega) (by omega)
  have q1 : N + 2 ≤ w1.heap.size := by have := g1.size; omega
  have r3 := Rep.grown_any (S := fun b => b < N) r3 g1 (by omega)
  have r0 := p1
  refine wp_seq ?_
  refine own_field (pre := (d0 ++ c1 ++ c2)) (c := c3) (post := []) (kT := TyMedia) (off := 13) (len := 9) (agg := true) s1 (by omega) (by omega) (by omega) (by omega) (by omega) (fun u => by kernel_rfl) l3 (by simp [List.length_append, m0, l1, l2]) (by decide) ⟨_, Try.underlying28, rfl⟩ (by kernel_rfl) (by simpa only [List.append_assoc, List.nil_append] using k1) r3 rfl owns_29 Try.func29 (by kernel_rfl) rfl ?_
  intro d3 w2 a2 s2 k2 p2 g2
  have m3 : d3.length = 9 := Rep.length _ _ _ p2
  have z2 := z1.grown g2 (by omega)
  have e2 := below_grown e1 g2 (by omega) (by omega)
  have q2 : N + 2 ≤ w2.heap.size := by have := g2.size; omega
  have r0 := r0.grown g2 (by omega)
  have r3 := p2
  have fin : Rep w2 (Fr (N + 2)) TySharedJitter ((d0 ++ (c1 ++ (c2 ++ (d3 ++ []))))) d := ⟨d0, _, rfl, r0.fr_le (by omega), c1, _, rfl, Rep.any _ _ _ rfl r1, c2, _, rfl, Rep.any _ _ _ rfl r2, d3, _, rfl, r3.fr_le (by omega), rfl⟩
  have lenE : ((d0 ++ (c1 ++ (c2 ++ (d3 ++ []))))).length = 22 := by simp [m0, l1, l2, m3]
  refine wp_seq ?_
  refine own_end (bs := (d0 ++ (c1 ++ (c2 ++ (d3 ++ []))))) s2 (by omega) ⟨_, Try.underlying30, rfl⟩ (by rw [lenE]; kernel_rfl) (by simpa only [List.append_assoc, List.nil_append] using k2) z2 (by rw [lenE]; rfl) (Rep.one _ _ _ fin) ?_
  intro aE wE sE kE gE
  refine own_ret rfl sE ⟨_, Try.underlying30, rfl⟩ (by rw [lenE]; kernel_rfl) kE ?_
  exact ⟨_, rfl, _, rfl, (fin.grown gE (by omega)).fr_le (by omega), below_grown e2 gE (by omega) (by omega)⟩

end Go.Proofs.Ytjmohkgbfigcgaa.Sh
