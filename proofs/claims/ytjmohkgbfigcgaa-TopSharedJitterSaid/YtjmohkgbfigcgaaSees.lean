/- The kinds of data of this claim's statement, and its looks: each function that sees a datum meets the word 'Looks'. Printed by a program of my own (gensees.py). -/
import Derived.Test.YtjmohkgbfigcgaaAll
namespace Go.Proofs.Ytjmohkgbfigcgaa.Sh
open Go Go.RowKit
set_option linter.unusedVariables false
set_option linter.unusedSimpArgs false
@[reducible] def TyExt : Ty := .cons (.int .i64) (.cons .str .nil)
@[reducible] def TyMedia : Ty := .cons .bool (.cons (.int .i64) (.cons (.int .i64) (.cons (.int .i64) (.cons (.int .i64) (.cons (.sl (.int .i64) 8) (.cons (.sl TyExt 24) (.cons (.int .i64) (.cons .str .nil))))))))
@[reducible] def TyHeld : Ty := .cons TyMedia (.cons (.int .i64) .nil)
@[reducible] def TyBuffer : Ty := .cons (.int .i64) (.cons (.int .i64) (.cons .bool (.cons .bool (.cons (.int .i64) (.cons (.int .i64) (.cons (.int .i64) (.cons (.int .i64) (.cons (.int .i64) (.cons (.int .i64) (.cons (.sl TyHeld 120) .nil))))))))))
@[reducible] def TySharedJitter : Ty := .cons TyBuffer (.cons (.int .i64) (.cons (.int .i64) (.cons TyMedia .nil)))

set_option maxRecDepth 100000 in
set_option maxHeartbeats 1600000 in
theorem all_73 : LooksL 73 30 (.int .i64) 8 := by
  have hg : Looks 30 (.int .i64) := looks_num
  have hw : ((.int .i64) : Ty).width = 1 := by rfl
  generalize ((.int .i64) : Ty) = e at hg hw ⊢
  intro mk w B eb eo pb S ds ns ss at_ a n cap nv sv he hr hsep hf
  obtain ⟨rfl, hcap, hmax, hnb, news, hplace, hrl⟩ := rep_sl.1 hr
  have hfits := hf
  simp only [Fits, seeT] at hfits
  have hle0 := seeL_le (seeT_le e) ds (ns ++ [(ds.length : Int)], ss)
  have hn : ns.length + 1 ≤ 1099511627776 := by have := Nat.le_trans hle0.1 hfits.1; simpa using this
  have h1 := he.n
  have hfr := he.plain.free eo
  have ler : eb < w.heap.size := World.block_lt_of_cell? w _ he.n
  have hm : ds.length ≤ 9223372036854775807 := by unfold maxLen at hmax; omega
  have HF := Lib.hid hfits
  have HP := Lib.hid hplace
  have HR := Lib.hid hrl
  clear hfits hplace hrl hle0 hf hr
  go_enter Try.func73, Try.ntmps73
  go_wp2_with (at_builtin; refine wpList_plain rfl fun K hK => wp_eye_n he ((Below.refl _ w).alloc (Nat.le_refl _) _) _ _ rfl rfl w.heap.size _ rfl (by go_simp; rfl) hn ?_; intro gg cap w1 hown1 hgrow hcE hfE hold; refine hK _ _ ?_; clear hK K)
  obtain ⟨⟨nv1, he1⟩, hv1⟩ := eye_push_n he ((Below.refl _ w).alloc (Nat.le_refl _) _) hgrow hown1
  generalize w1.setCell ⟨eb, eo, none⟩ (.slice (some ⟨gg, 0, none⟩) (ns.length + 1) cap) = w2 at he1 hv1 ⊢
  have hst : ∃ b o, (ds ≠ [] → a = some ⟨b, o, none⟩) ∧ StL mk w2 B eb eo b o S e ds (ns ++ [(ds.length : Int)]) ss at_ := by
    have hsep' : ∀ b, S b → b < B ∧ b ≠ eb ∧ ¬ False := fun b hb => ⟨(hsep b hb).2, (hsep b hb).1, fun h => h⟩
    have hrl2 : RepL w2 S e news ds := ⟨HR.out.1, fun i hi => hv1.rep (HR.out.2 i hi) hsep'⟩
    cases ds with
    | nil =>
      have hz : news = [] := List.eq_nil_of_length_eq_zero (by simpa using hrl2.1)
      exact ⟨0, 0, fun h => absurd rfl h, ⟨⟨nv1, sv, he1⟩, ⟨news, by rw [hz]; exact At.nil _ _ _, hrl2⟩, fun h => absurd rfl h, hsep, HF.out⟩⟩
    | cons d ds =>
      obtain ⟨b, o, rfl, hS, hlt, ha⟩ := HP.out (by simp)
      exact ⟨b, o, fun _ => rfl, ⟨⟨nv1, sv, he1⟩, ⟨news, hv1.at_ ha (hsep b hS).2 (hsep b hS).1 (fun h => h), hrl2⟩, fun _ => hS, hsep, HF.out⟩⟩
  obtain ⟨b, o, hab, hst⟩ := hst
  have HA := Lib.hid hab
  clear HF HP HR hab he1 he h1 hfr ler hown1 hgrow hcE hfE hold
  go_loopw [6] (fun i wr => ∃ (k : Nat) (dk : List e.Data) (nsk : List Int) (ssk : List ByteArray) (atk : Int), k + dk.length = ds.length ∧ i = .int .i64 k ∧ StL mk wr B eb eo b (o + k) S e dk nsk ssk atk ∧
      (∀ w', Post mk B eb eo pb S atk (seeL (seeT e) dk (nsk, ssk)) wr w' → Post mk B eb eo pb S at_ (seeL (seeT e) ds (ns ++ [(ds.length : Int)], ss)) w2 w')) (fun i _ => ds.length - (intOf i).toNat)
  case atStart => exact ⟨0, ds, _, ss, at_, by omega, rfl, by simpa using hst, fun _ h => h⟩
  case round =>
    obtain ⟨k, dk, nsk, ssk, atk, hk, rfl, hsk, hpost⟩ := hrel
    have HPost := Lib.hid hpost
    clear hpost
    obtain ⟨nvk, svk, hek⟩ := hsk.eye
    obtain ⟨A, c, rfl⟩ := own_slice hek.rn
    have h1 := hek.n
    cases dk with
    | nil =>
      obtain rfl : k = ds.length := by simpa using hk
      go_wp2_with fail
      go_end0
      exact ⟨rfl, post_pre hv1 (HPost.out _ (stl_end hsk (.inl rfl)))⟩
    | cons d dk =>
      have hlt : k < ds.length := by simp at hk; omega
      obtain rfl := HA.out (by rintro rfl; simp at hlt)
      by_cases hlen : nsk.length < 200000
      · have hh := Lib.hid (stl_head hsk hlen)
        have hI : (nsk.length : Int) < 200000 := by omega
        have HL := Lib.hid hlen
        clear hlen
        go_wp2_with fail
        refine (hg mk wr B eb eo b (o + k) S d nsk ssk atk hh.out).mono ?_
        rintro r w3 ⟨rfl, hp3⟩
        obtain ⟨ds2, ns1, ss1, at1, hl2, hs2, hq2⟩ := stl_step hsk HL.out hp3 (pb := pb)
        have HQ := Lib.hid hq2
        clear hq2 hp3 hh hsk
        go_wp2_with fail
        go_roundw
        case rel =>
          refine ⟨k + 1, ds2, ns1, ss1, at1, by simp at hk; omega, by go_num, ?_, fun w' h => HPost.out w' (HQ.out w' h)⟩
          rw [hw] at hs2
          rw [show o + (k + 1) = o + k + 1 by omega]
          exact hs2
        case measure => simp [intOf]; omega
      · have hI : ¬ (nsk.length : Int) < 200000 := by omega
        have HL := Lib.hid hlen
        clear hlen
        go_wp2_with fail
        go_end0
        exact ⟨rfl, post_pre hv1 (HPost.out _ (stl_end hsk (.inr HL.out)))⟩

set_option maxRecDepth 100000 in
theorem looks_56 : Looks 56 (.sl (.int .i64) 8) := by
  intro mk w B eb eo pb po S d ns ss at_ st
  obtain ⟨⟨nv, sv, he⟩, ⟨cs, ha, hr⟩, hne, hlt, hsep, hf⟩ := st
  obtain ⟨a, cap, rfl⟩ := hr.slice
  have hc := (ha 0 _ rfl).1
  rw [Nat.add_zero] at hc
  have HR := Lib.hid (all_73 mk w B eb eo pb S d ns ss at_ a _ cap nv sv he hr hsep hf)
  clear hr hf ha hsep he
  go_enter Try.func56, Try.ntmps56
  go_wp2_with fail
  refine HR.out.mono ?_
  rintro r w1 ⟨rfl, p1⟩
  clear HR
  go_wp2_with fail
  go_end0
  exact ⟨rfl, p1⟩

set_option maxRecDepth 100000 in
theorem looks_75 : Looks 75 TyExt := by
  intro mk w B eb eo pb po S d ns ss at_ st
  have H := Lib.hid st
  clear st
  go_enter Try.func75, Try.ntmps75
  go_wp2_with fail
  refine (looks_num mk w B eb eo pb po S _ ns ss at_ (H.out).fst).mono ?_
  rintro r w1 ⟨rfl, p1⟩
  obtain ⟨d1, ns1, ss1, at1, t1, k1⟩ := look_step (H.out) p1
  have T1 : Hid (St mk w1 B eb eo pb (po + 1) S _ d1 ns1 ss1 at1) := t1
  have K1 := Lib.hid k1
  clear t1 k1 p1
  go_wp2_with fail
  refine (looks_str mk w1 B eb eo pb (po + 1) S _ ns1 ss1 at1 (T1.out).fst).mono ?_
  rintro r w2 ⟨rfl, p2⟩
  obtain ⟨d2, ns2, ss2, at2, t2, k2⟩ := look_step (T1.out) p2
  have T2 : Hid (St mk w2 B eb eo pb (po + 2) S _ d2 ns2 ss2 at2) := t2
  have K2 := Lib.hid k2
  clear t2 k2 p2
  go_wp2_with fail
  go_end0
  exact ⟨rfl, K1.out _ (K2.out _ (look_nil (T2.out)))⟩

set_option maxRecDepth 100000 in
set_option maxHeartbeats 1600000 in
theorem all_74 : LooksL 74 75 TyExt 24 := by
  have hg : Looks 75 TyExt := looks_75
  have hw : (TyExt : Ty).width = 2 := by rfl
  generalize (TyExt : Ty) = e at hg hw ⊢
  intro mk w B eb eo pb S ds ns ss at_ a n cap nv sv he hr hsep hf
  obtain ⟨rfl, hcap, hmax, hnb, news, hplace, hrl⟩ := rep_sl.1 hr
  have hfits := hf
  simp only [Fits, seeT] at hfits
  have hle0 := seeL_le (seeT_le e) ds (ns ++ [(ds.length : Int)], ss)
  have hn : ns.length + 1 ≤ 1099511627776 := by have := Nat.le_trans hle0.1 hfits.1; simpa using this
  have h1 := he.n
  have hfr := he.plain.free eo
  have ler : eb < w.heap.size := World.block_lt_of_cell? w _ he.n
  have hm : ds.length ≤ 9223372036854775807 := by unfold maxLen at hmax; omega
  have HF := Lib.hid hfits
  have HP := Lib.hid hplace
  have HR := Lib.hid hrl
  clear hfits hplace hrl hle0 hf hr
  go_enter Try.func74, Try.ntmps74
  go_wp2_with (at_builtin; refine wpList_plain rfl fun K hK => wp_eye_n he ((Below.refl _ w).alloc (Nat.le_refl _) _) _ _ rfl rfl w.heap.size _ rfl (by go_simp; rfl) hn ?_; intro gg cap w1 hown1 hgrow hcE hfE hold; refine hK _ _ ?_; clear hK K)
  obtain ⟨⟨nv1, he1⟩, hv1⟩ := eye_push_n he ((Below.refl _ w).alloc (Nat.le_refl _) _) hgrow hown1
  generalize w1.setCell ⟨eb, eo, none⟩ (.slice (some ⟨gg, 0, none⟩) (ns.length + 1) cap) = w2 at he1 hv1 ⊢
  have hst : ∃ b o, (ds ≠ [] → a = some ⟨b, o, none⟩) ∧ StL mk w2 B eb eo b o S e ds (ns ++ [(ds.length : Int)]) ss at_ := by
    have hsep' : ∀ b, S b → b < B ∧ b ≠ eb ∧ ¬ False := fun b hb => ⟨(hsep b hb).2, (hsep b hb).1, fun h => h⟩
    have hrl2 : RepL w2 S e news ds := ⟨HR.out.1, fun i hi => hv1.rep (HR.out.2 i hi) hsep'⟩
    cases ds with
    | nil =>
      have hz : news = [] := List.eq_nil_of_length_eq_zero (by simpa using hrl2.1)
      exact ⟨0, 0, fun h => absurd rfl h, ⟨⟨nv1, sv, he1⟩, ⟨news, by rw [hz]; exact At.nil _ _ _, hrl2⟩, fun h => absurd rfl h, hsep, HF.out⟩⟩
    | cons d ds =>
      obtain ⟨b, o, rfl, hS, hlt, ha⟩ := HP.out (by simp)
      exact ⟨b, o, fun _ => rfl, ⟨⟨nv1, sv, he1⟩, ⟨news, hv1.at_ ha (hsep b hS).2 (hsep b hS).1 (fun h => h), hrl2⟩, fun _ => hS, hsep, HF.out⟩⟩
  obtain ⟨b, o, hab, hst⟩ := hst
  have HA := Lib.hid hab
  clear HF HP HR hab he1 he h1 hfr ler hown1 hgrow hcE hfE hold
  go_loopw [6] (fun i wr => ∃ (k : Nat) (dk : List e.Data) (nsk : List Int) (ssk : List ByteArray) (atk : Int), k + dk.length = ds.length ∧ i = .int .i64 k ∧ StL mk wr B eb eo b (o + k * 2) S e dk nsk ssk atk ∧
      (∀ w', Post mk B eb eo pb S atk (seeL (seeT e) dk (nsk, ssk)) wr w' → Post mk B eb eo pb S at_ (seeL (seeT e) ds (ns ++ [(ds.length : Int)], ss)) w2 w')) (fun i _ => ds.length - (intOf i).toNat)
  case atStart => exact ⟨0, ds, _, ss, at_, by omega, rfl, by simpa using hst, fun _ h => h⟩
  case round =>
    obtain ⟨k, dk, nsk, ssk, atk, hk, rfl, hsk, hpost⟩ := hrel
    have HPost := Lib.hid hpost
    clear hpost
    obtain ⟨nvk, svk, hek⟩ := hsk.eye
    obtain ⟨A, c, rfl⟩ := own_slice hek.rn
    have h1 := hek.n
    cases dk with
    | nil =>
      obtain rfl : k = ds.length := by simpa using hk
      go_wp2_with fail
      go_end0
      exact ⟨rfl, post_pre hv1 (HPost.out _ (stl_end hsk (.inl rfl)))⟩
    | cons d dk =>
      have hlt : k < ds.length := by simp at hk; omega
      obtain rfl := HA.out (by rintro rfl; simp at hlt)
      by_cases hlen : nsk.length < 200000
      · have hh := Lib.hid (stl_head hsk hlen)
        have hI : (nsk.length : Int) < 200000 := by omega
        have HL := Lib.hid hlen
        clear hlen
        go_wp2_with fail
        refine (hg mk wr B eb eo b (o + k * 2) S d nsk ssk atk hh.out).mono ?_
        rintro r w3 ⟨rfl, hp3⟩
        obtain ⟨ds2, ns1, ss1, at1, hl2, hs2, hq2⟩ := stl_step hsk HL.out hp3 (pb := pb)
        have HQ := Lib.hid hq2
        clear hq2 hp3 hh hsk
        go_wp2_with fail
        go_roundw
        case rel =>
          refine ⟨k + 1, ds2, ns1, ss1, at1, by simp at hk; omega, by go_num, ?_, fun w' h => HPost.out w' (HQ.out w' h)⟩
          rw [hw] at hs2
          rw [show o + (k + 1) * 2 = o + k * 2 + 2 by omega]
          exact hs2
        case measure => simp [intOf]; omega
      · have hI : ¬ (nsk.length : Int) < 200000 := by omega
        have HL := Lib.hid hlen
        clear hlen
        go_wp2_with fail
        go_end0
        exact ⟨rfl, post_pre hv1 (HPost.out _ (stl_end hsk (.inr HL.out)))⟩

set_option maxRecDepth 100000 in
theorem looks_57 : Looks 57 (.sl TyExt 24) := by
  intro mk w B eb eo pb po S d ns ss at_ st
  obtain ⟨⟨nv, sv, he⟩, ⟨cs, ha, hr⟩, hne, hlt, hsep, hf⟩ := st
  obtain ⟨a, cap, rfl⟩ := hr.slice
  have hc := (ha 0 _ rfl).1
  rw [Nat.add_zero] at hc
  have HR := Lib.hid (all_74 mk w B eb eo pb S d ns ss at_ a _ cap nv sv he hr hsep hf)
  clear hr hf ha hsep he
  go_enter Try.func57, Try.ntmps57
  go_wp2_with fail
  refine HR.out.mono ?_
  rintro r w1 ⟨rfl, p1⟩
  clear HR
  go_wp2_with fail
  go_end0
  exact ⟨rfl, p1⟩

set_option maxRecDepth 100000 in
theorem looks_31 : Looks 31 TyMedia := by
  intro mk w B eb eo pb po S d ns ss at_ st
  have H := Lib.hid st
  clear st
  go_enter Try.func31, Try.ntmps31
  go_wp2_with fail
  refine (looks_yes mk w B eb eo pb po S _ ns ss at_ (H.out).fst).mono ?_
  rintro r w1 ⟨rfl, p1⟩
  obtain ⟨d1, ns1, ss1, at1, t1, k1⟩ := look_step (H.out) p1
  have T1 : Hid (St mk w1 B eb eo pb (po + 1) S _ d1 ns1 ss1 at1) := t1
  have K1 := Lib.hid k1
  clear t1 k1 p1
  go_wp2_with fail
  refine (looks_num mk w1 B eb eo pb (po + 1) S _ ns1 ss1 at1 (T1.out).fst).mono ?_
  rintro r w2 ⟨rfl, p2⟩
  obtain ⟨d2, ns2, ss2, at2, t2, k2⟩ := look_step (T1.out) p2
  have T2 : Hid (St mk w2 B eb eo pb (po + 2) S _ d2 ns2 ss2 at2) := t2
  have K2 := Lib.hid k2
  clear t2 k2 p2
  go_wp2_with fail
  refine (looks_num mk w2 B eb eo pb (po + 2) S _ ns2 ss2 at2 (T2.out).fst).mono ?_
  rintro r w3 ⟨rfl, p3⟩
  obtain ⟨d3, ns3, ss3, at3, t3, k3⟩ := look_step (T2.out) p3
  have T3 : Hid (St mk w3 B eb eo pb (po + 3) S _ d3 ns3 ss3 at3) := t3
  have K3 := Lib.hid k3
  clear t3 k3 p3
  go_wp2_with fail
  refine (looks_num mk w3 B eb eo pb (po + 3) S _ ns3 ss3 at3 (T3.out).fst).mono ?_
  rintro r w4 ⟨rfl, p4⟩
  obtain ⟨d4, ns4, ss4, at4, t4, k4⟩ := look_step (T3.out) p4
  have T4 : Hid (St mk w4 B eb eo pb (po + 4) S _ d4 ns4 ss4 at4) := t4
  have K4 := Lib.hid k4
  clear t4 k4 p4
  go_wp2_with fail
  refine (looks_num mk w4 B eb eo pb (po + 4) S _ ns4 ss4 at4 (T4.out).fst).mono ?_
  rintro r w5 ⟨rfl, p5⟩
  obtain ⟨d5, ns5, ss5, at5, t5, k5⟩ := look_step (T4.out) p5
  have T5 : Hid (St mk w5 B eb eo pb (po + 5) S _ d5 ns5 ss5 at5) := t5
  have K5 := Lib.hid k5
  clear t5 k5 p5
  go_wp2_with fail
  refine (looks_56 mk w5 B eb eo pb (po + 5) S _ ns5 ss5 at5 (T5.out).fst).mono ?_
  rintro r w6 ⟨rfl, p6⟩
  obtain ⟨d6, ns6, ss6, at6, t6, k6⟩ := look_step (T5.out) p6
  have T6 : Hid (St mk w6 B eb eo pb (po + 6) S _ d6 ns6 ss6 at6) := t6
  have K6 := Lib.hid k6
  clear t6 k6 p6
  go_wp2_with fail
  refine (looks_57 mk w6 B eb eo pb (po + 6) S _ ns6 ss6 at6 (T6.out).fst).mono ?_
  rintro r w7 ⟨rfl, p7⟩
  obtain ⟨d7, ns7, ss7, at7, t7, k7⟩ := look_step (T6.out) p7
  have T7 : Hid (St mk w7 B eb eo pb (po + 7) S _ d7 ns7 ss7 at7) := t7
  have K7 := Lib.hid k7
  clear t7 k7 p7
  go_wp2_with fail
  refine (looks_num mk w7 B eb eo pb (po + 7) S _ ns7 ss7 at7 (T7.out).fst).mono ?_
  rintro r w8 ⟨rfl, p8⟩
  obtain ⟨d8, ns8, ss8, at8, t8, k8⟩ := look_step (T7.out) p8
  have T8 : Hid (St mk w8 B eb eo pb (po + 8) S _ d8 ns8 ss8 at8) := t8
  have K8 := Lib.hid k8
  clear t8 k8 p8
  go_wp2_with fail
  refine (looks_str mk w8 B eb eo pb (po + 8) S _ ns8 ss8 at8 (T8.out).fst).mono ?_
  rintro r w9 ⟨rfl, p9⟩
  obtain ⟨d9, ns9, ss9, at9, t9, k9⟩ := look_step (T8.out) p9
  have T9 : Hid (St mk w9 B eb eo pb (po + 9) S _ d9 ns9 ss9 at9) := t9
  have K9 := Lib.hid k9
  clear t9 k9 p9
  go_wp2_with fail
  go_end0
  exact ⟨rfl, K1.out _ (K2.out _ (K3.out _ (K4.out _ (K5.out _ (K6.out _ (K7.out _ (K8.out _ (K9.out _ (look_nil (T9.out))))))))))⟩

set_option maxRecDepth 100000 in
theorem looks_60 : Looks 60 TyHeld := by
  intro mk w B eb eo pb po S d ns ss at_ st
  have H := Lib.hid st
  clear st
  go_enter Try.func60, Try.ntmps60
  go_wp2_with fail
  refine (looks_31 mk w B eb eo pb po S _ ns ss at_ (H.out).fst).mono ?_
  rintro r w1 ⟨rfl, p1⟩
  obtain ⟨d1, ns1, ss1, at1, t1, k1⟩ := look_step (H.out) p1
  have T1 : Hid (St mk w1 B eb eo pb (po + 9) S _ d1 ns1 ss1 at1) := t1
  have K1 := Lib.hid k1
  clear t1 k1 p1
  go_wp2_with fail
  refine (looks_num mk w1 B eb eo pb (po + 9) S _ ns1 ss1 at1 (T1.out).fst).mono ?_
  rintro r w2 ⟨rfl, p2⟩
  obtain ⟨d2, ns2, ss2, at2, t2, k2⟩ := look_step (T1.out) p2
  have T2 : Hid (St mk w2 B eb eo pb (po + 10) S _ d2 ns2 ss2 at2) := t2
  have K2 := Lib.hid k2
  clear t2 k2 p2
  go_wp2_with fail
  go_end0
  exact ⟨rfl, K1.out _ (K2.out _ (look_nil (T2.out)))⟩

set_option maxRecDepth 100000 in
set_option maxHeartbeats 1600000 in
theorem all_59 : LooksL 59 60 TyHeld 120 := by
  have hg : Looks 60 TyHeld := looks_60
  have hw : (TyHeld : Ty).width = 10 := by rfl
  generalize (TyHeld : Ty) = e at hg hw ⊢
  intro mk w B eb eo pb S ds ns ss at_ a n cap nv sv he hr hsep hf
  obtain ⟨rfl, hcap, hmax, hnb, news, hplace, hrl⟩ := rep_sl.1 hr
  have hfits := hf
  simp only [Fits, seeT] at hfits
  have hle0 := seeL_le (seeT_le e) ds (ns ++ [(ds.length : Int)], ss)
  have hn : ns.length + 1 ≤ 1099511627776 := by have := Nat.le_trans hle0.1 hfits.1; simpa using this
  have h1 := he.n
  have hfr := he.plain.free eo
  have ler : eb < w.heap.size := World.block_lt_of_cell? w _ he.n
  have hm : ds.length ≤ 9223372036854775807 := by unfold maxLen at hmax; omega
  have HF := Lib.hid hfits
  have HP := Lib.hid hplace
  have HR := Lib.hid hrl
  clear hfits hplace hrl hle0 hf hr
  go_enter Try.func59, Try.ntmps59
  go_wp2_with (at_builtin; refine wpList_plain rfl fun K hK => wp_eye_n he ((Below.refl _ w).alloc (Nat.le_refl _) _) _ _ rfl rfl w.heap.size _ rfl (by go_simp; rfl) hn ?_; intro gg cap w1 hown1 hgrow hcE hfE hold; refine hK _ _ ?_; clear hK K)
  obtain ⟨⟨nv1, he1⟩, hv1⟩ := eye_push_n he ((Below.refl _ w).alloc (Nat.le_refl _) _) hgrow hown1
  generalize w1.setCell ⟨eb, eo, none⟩ (.slice (some ⟨gg, 0, none⟩) (ns.length + 1) cap) = w2 at he1 hv1 ⊢
  have hst : ∃ b o, (ds ≠ [] → a = some ⟨b, o, none⟩) ∧ StL mk w2 B eb eo b o S e ds (ns ++ [(ds.length : Int)]) ss at_ := by
    have hsep' : ∀ b, S b → b < B ∧ b ≠ eb ∧ ¬ False := fun b hb => ⟨(hsep b hb).2, (hsep b hb).1, fun h => h⟩
    have hrl2 : RepL w2 S e news ds := ⟨HR.out.1, fun i hi => hv1.rep (HR.out.2 i hi) hsep'⟩
    cases ds with
    | nil =>
      have hz : news = [] := List.eq_nil_of_length_eq_zero (by simpa using hrl2.1)
      exact ⟨0, 0, fun h => absurd rfl h, ⟨⟨nv1, sv, he1⟩, ⟨news, by rw [hz]; exact At.nil _ _ _, hrl2⟩, fun h => absurd rfl h, hsep, HF.out⟩⟩
    | cons d ds =>
      obtain ⟨b, o, rfl, hS, hlt, ha⟩ := HP.out (by simp)
      exact ⟨b, o, fun _ => rfl, ⟨⟨nv1, sv, he1⟩, ⟨news, hv1.at_ ha (hsep b hS).2 (hsep b hS).1 (fun h => h), hrl2⟩, fun _ => hS, hsep, HF.out⟩⟩
  obtain ⟨b, o, hab, hst⟩ := hst
  have HA := Lib.hid hab
  clear HF HP HR hab he1 he h1 hfr ler hown1 hgrow hcE hfE hold
  go_loopw [6] (fun i wr => ∃ (k : Nat) (dk : List e.Data) (nsk : List Int) (ssk : List ByteArray) (atk : Int), k + dk.length = ds.length ∧ i = .int .i64 k ∧ StL mk wr B eb eo b (o + k * 10) S e dk nsk ssk atk ∧
      (∀ w', Post mk B eb eo pb S atk (seeL (seeT e) dk (nsk, ssk)) wr w' → Post mk B eb eo pb S at_ (seeL (seeT e) ds (ns ++ [(ds.length : Int)], ss)) w2 w')) (fun i _ => ds.length - (intOf i).toNat)
  case atStart => exact ⟨0, ds, _, ss, at_, by omega, rfl, by simpa using hst, fun _ h => h⟩
  case round =>
    obtain ⟨k, dk, nsk, ssk, atk, hk, rfl, hsk, hpost⟩ := hrel
    have HPost := Lib.hid hpost
    clear hpost
    obtain ⟨nvk, svk, hek⟩ := hsk.eye
    obtain ⟨A, c, rfl⟩ := own_slice hek.rn
    have h1 := hek.n
    cases dk with
    | nil =>
      obtain rfl : k = ds.length := by simpa using hk
      go_wp2_with fail
      go_end0
      exact ⟨rfl, post_pre hv1 (HPost.out _ (stl_end hsk (.inl rfl)))⟩
    | cons d dk =>
      have hlt : k < ds.length := by simp at hk; omega
      obtain rfl := HA.out (by rintro rfl; simp at hlt)
      by_cases hlen : nsk.length < 200000
      · have hh := Lib.hid (stl_head hsk hlen)
        have hI : (nsk.length : Int) < 200000 := by omega
        have HL := Lib.hid hlen
        clear hlen
        go_wp2_with fail
        refine (hg mk wr B eb eo b (o + k * 10) S d nsk ssk atk hh.out).mono ?_
        rintro r w3 ⟨rfl, hp3⟩
        obtain ⟨ds2, ns1, ss1, at1, hl2, hs2, hq2⟩ := stl_step hsk HL.out hp3 (pb := pb)
        have HQ := Lib.hid hq2
        clear hq2 hp3 hh hsk
        go_wp2_with fail
        go_roundw
        case rel =>
          refine ⟨k + 1, ds2, ns1, ss1, at1, by simp at hk; omega, by go_num, ?_, fun w' h => HPost.out w' (HQ.out w' h)⟩
          rw [hw] at hs2
          rw [show o + (k + 1) * 10 = o + k * 10 + 10 by omega]
          exact hs2
        case measure => simp [intOf]; omega
      · have hI : ¬ (nsk.length : Int) < 200000 := by omega
        have HL := Lib.hid hlen
        clear hlen
        go_wp2_with fail
        go_end0
        exact ⟨rfl, post_pre hv1 (HPost.out _ (stl_end hsk (.inr HL.out)))⟩

set_option maxRecDepth 100000 in
theorem looks_35 : Looks 35 (.sl TyHeld 120) := by
  intro mk w B eb eo pb po S d ns ss at_ st
  obtain ⟨⟨nv, sv, he⟩, ⟨cs, ha, hr⟩, hne, hlt, hsep, hf⟩ := st
  obtain ⟨a, cap, rfl⟩ := hr.slice
  have hc := (ha 0 _ rfl).1
  rw [Nat.add_zero] at hc
  have HR := Lib.hid (all_59 mk w B eb eo pb S d ns ss at_ a _ cap nv sv he hr hsep hf)
  clear hr hf ha hsep he
  go_enter Try.func35, Try.ntmps35
  go_wp2_with fail
  refine HR.out.mono ?_
  rintro r w1 ⟨rfl, p1⟩
  clear HR
  go_wp2_with fail
  go_end0
  exact ⟨rfl, p1⟩

set_option maxRecDepth 100000 in
theorem looks_12 : Looks 12 TyBuffer := by
  intro mk w B eb eo pb po S d ns ss at_ st
  have H := Lib.hid st
  clear st
  go_enter Try.func12, Try.ntmps12
  go_wp2_with fail
  refine (looks_num mk w B eb eo pb po S _ ns ss at_ (H.out).fst).mono ?_
  rintro r w1 ⟨rfl, p1⟩
  obtain ⟨d1, ns1, ss1, at1, t1, k1⟩ := look_step (H.out) p1
  have T1 : Hid (St mk w1 B eb eo pb (po + 1) S _ d1 ns1 ss1 at1) := t1
  have K1 := Lib.hid k1
  clear t1 k1 p1
  go_wp2_with fail
  refine (looks_num mk w1 B eb eo pb (po + 1) S _ ns1 ss1 at1 (T1.out).fst).mono ?_
  rintro r w2 ⟨rfl, p2⟩
  obtain ⟨d2, ns2, ss2, at2, t2, k2⟩ := look_step (T1.out) p2
  have T2 : Hid (St mk w2 B eb eo pb (po + 2) S _ d2 ns2 ss2 at2) := t2
  have K2 := Lib.hid k2
  clear t2 k2 p2
  go_wp2_with fail
  refine (looks_yes mk w2 B eb eo pb (po + 2) S _ ns2 ss2 at2 (T2.out).fst).mono ?_
  rintro r w3 ⟨rfl, p3⟩
  obtain ⟨d3, ns3, ss3, at3, t3, k3⟩ := look_step (T2.out) p3
  have T3 : Hid (St mk w3 B eb eo pb (po + 3) S _ d3 ns3 ss3 at3) := t3
  have K3 := Lib.hid k3
  clear t3 k3 p3
  go_wp2_with fail
  refine (looks_yes mk w3 B eb eo pb (po + 3) S _ ns3 ss3 at3 (T3.out).fst).mono ?_
  rintro r w4 ⟨rfl, p4⟩
  obtain ⟨d4, ns4, ss4, at4, t4, k4⟩ := look_step (T3.out) p4
  have T4 : Hid (St mk w4 B eb eo pb (po + 4) S _ d4 ns4 ss4 at4) := t4
  have K4 := Lib.hid k4
  clear t4 k4 p4
  go_wp2_with fail
  refine (looks_num mk w4 B eb eo pb (po + 4) S _ ns4 ss4 at4 (T4.out).fst).mono ?_
  rintro r w5 ⟨rfl, p5⟩
  obtain ⟨d5, ns5, ss5, at5, t5, k5⟩ := look_step (T4.out) p5
  have T5 : Hid (St mk w5 B eb eo pb (po + 5) S _ d5 ns5 ss5 at5) := t5
  have K5 := Lib.hid k5
  clear t5 k5 p5
  go_wp2_with fail
  refine (looks_num mk w5 B eb eo pb (po + 5) S _ ns5 ss5 at5 (T5.out).fst).mono ?_
  rintro r w6 ⟨rfl, p6⟩
  obtain ⟨d6, ns6, ss6, at6, t6, k6⟩ := look_step (T5.out) p6
  have T6 : Hid (St mk w6 B eb eo pb (po + 6) S _ d6 ns6 ss6 at6) := t6
  have K6 := Lib.hid k6
  clear t6 k6 p6
  go_wp2_with fail
  refine (looks_num mk w6 B eb eo pb (po + 6) S _ ns6 ss6 at6 (T6.out).fst).mono ?_
  rintro r w7 ⟨rfl, p7⟩
  obtain ⟨d7, ns7, ss7, at7, t7, k7⟩ := look_step (T6.out) p7
  have T7 : Hid (St mk w7 B eb eo pb (po + 7) S _ d7 ns7 ss7 at7) := t7
  have K7 := Lib.hid k7
  clear t7 k7 p7
  go_wp2_with fail
  refine (looks_num mk w7 B eb eo pb (po + 7) S _ ns7 ss7 at7 (T7.out).fst).mono ?_
  rintro r w8 ⟨rfl, p8⟩
  obtain ⟨d8, ns8, ss8, at8, t8, k8⟩ := look_step (T7.out) p8
  have T8 : Hid (St mk w8 B eb eo pb (po + 8) S _ d8 ns8 ss8 at8) := t8
  have K8 := Lib.hid k8
  clear t8 k8 p8
  go_wp2_with fail
  refine (looks_num mk w8 B eb eo pb (po + 8) S _ ns8 ss8 at8 (T8.out).fst).mono ?_
  rintro r w9 ⟨rfl, p9⟩
  obtain ⟨d9, ns9, ss9, at9, t9, k9⟩ := look_step (T8.out) p9
  have T9 : Hid (St mk w9 B eb eo pb (po + 9) S _ d9 ns9 ss9 at9) := t9
  have K9 := Lib.hid k9
  clear t9 k9 p9
  go_wp2_with fail
  refine (looks_num mk w9 B eb eo pb (po + 9) S _ ns9 ss9 at9 (T9.out).fst).mono ?_
  rintro r w10 ⟨rfl, p10⟩
  obtain ⟨d10, ns10, ss10, at10, t10, k10⟩ := look_step (T9.out) p10
  have T10 : Hid (St mk w10 B eb eo pb (po + 10) S _ d10 ns10 ss10 at10) := t10
  have K10 := Lib.hid k10
  clear t10 k10 p10
  go_wp2_with fail
  refine (looks_35 mk w10 B eb eo pb (po + 10) S _ ns10 ss10 at10 (T10.out).fst).mono ?_
  rintro r w11 ⟨rfl, p11⟩
  obtain ⟨d11, ns11, ss11, at11, t11, k11⟩ := look_step (T10.out) p11
  have T11 : Hid (St mk w11 B eb eo pb (po + 11) S _ d11 ns11 ss11 at11) := t11
  have K11 := Lib.hid k11
  clear t11 k11 p11
  go_wp2_with fail
  go_end0
  exact ⟨rfl, K1.out _ (K2.out _ (K3.out _ (K4.out _ (K5.out _ (K6.out _ (K7.out _ (K8.out _ (K9.out _ (K10.out _ (K11.out _ (look_nil (T11.out))))))))))))⟩

set_option maxRecDepth 100000 in
theorem looks_6 : Looks 6 TySharedJitter := by
  intro mk w B eb eo pb po S d ns ss at_ st
  have H := Lib.hid st
  clear st
  go_enter Try.func6, Try.ntmps6
  go_wp2_with fail
  refine (looks_12 mk w B eb eo pb po S _ ns ss at_ (H.out).fst).mono ?_
  rintro r w1 ⟨rfl, p1⟩
  obtain ⟨d1, ns1, ss1, at1, t1, k1⟩ := look_step (H.out) p1
  have T1 : Hid (St mk w1 B eb eo pb (po + 11) S _ d1 ns1 ss1 at1) := t1
  have K1 := Lib.hid k1
  clear t1 k1 p1
  go_wp2_with fail
  refine (looks_num mk w1 B eb eo pb (po + 11) S _ ns1 ss1 at1 (T1.out).fst).mono ?_
  rintro r w2 ⟨rfl, p2⟩
  obtain ⟨d2, ns2, ss2, at2, t2, k2⟩ := look_step (T1.out) p2
  have T2 : Hid (St mk w2 B eb eo pb (po + 12) S _ d2 ns2 ss2 at2) := t2
  have K2 := Lib.hid k2
  clear t2 k2 p2
  go_wp2_with fail
  refine (looks_num mk w2 B eb eo pb (po + 12) S _ ns2 ss2 at2 (T2.out).fst).mono ?_
  rintro r w3 ⟨rfl, p3⟩
  obtain ⟨d3, ns3, ss3, at3, t3, k3⟩ := look_step (T2.out) p3
  have T3 : Hid (St mk w3 B eb eo pb (po + 13) S _ d3 ns3 ss3 at3) := t3
  have K3 := Lib.hid k3
  clear t3 k3 p3
  go_wp2_with fail
  refine (looks_31 mk w3 B eb eo pb (po + 13) S _ ns3 ss3 at3 (T3.out).fst).mono ?_
  rintro r w4 ⟨rfl, p4⟩
  obtain ⟨d4, ns4, ss4, at4, t4, k4⟩ := look_step (T3.out) p4
  have T4 : Hid (St mk w4 B eb eo pb (po + 22) S _ d4 ns4 ss4 at4) := t4
  have K4 := Lib.hid k4
  clear t4 k4 p4
  go_wp2_with fail
  go_end0
  exact ⟨rfl, K1.out _ (K2.out _ (K3.out _ (K4.out _ (look_nil (T4.out)))))⟩

set_option maxRecDepth 100000 in
set_option maxHeartbeats 1600000 in
theorem all_47 : LooksL 47 31 TyMedia 112 := by
  have hg : Looks 31 TyMedia := looks_31
  have hw : (TyMedia : Ty).width = 9 := by rfl
  generalize (TyMedia : Ty) = e at hg hw ⊢
  intro mk w B eb eo pb S ds ns ss at_ a n cap nv sv he hr hsep hf
  obtain ⟨rfl, hcap, hmax, hnb, news, hplace, hrl⟩ := rep_sl.1 hr
  have hfits := hf
  simp only [Fits, seeT] at hfits
  have hle0 := seeL_le (seeT_le e) ds (ns ++ [(ds.length : Int)], ss)
  have hn : ns.length + 1 ≤ 1099511627776 := by have := Nat.le_trans hle0.1 hfits.1; simpa using this
  have h1 := he.n
  have hfr := he.plain.free eo
  have ler : eb < w.heap.size := World.block_lt_of_cell? w _ he.n
  have hm : ds.length ≤ 9223372036854775807 := by unfold maxLen at hmax; omega
  have HF := Lib.hid hfits
  have HP := Lib.hid hplace
  have HR := Lib.hid hrl
  clear hfits hplace hrl hle0 hf hr
  go_enter Try.func47, Try.ntmps47
  go_wp2_with (at_builtin; refine wpList_plain rfl fun K hK => wp_eye_n he ((Below.refl _ w).alloc (Nat.le_refl _) _) _ _ rfl rfl w.heap.size _ rfl (by go_simp; rfl) hn ?_; intro gg cap w1 hown1 hgrow hcE hfE hold; refine hK _ _ ?_; clear hK K)
  obtain ⟨⟨nv1, he1⟩, hv1⟩ := eye_push_n he ((Below.refl _ w).alloc (Nat.le_refl _) _) hgrow hown1
  generalize w1.setCell ⟨eb, eo, none⟩ (.slice (some ⟨gg, 0, none⟩) (ns.length + 1) cap) = w2 at he1 hv1 ⊢
  have hst : ∃ b o, (ds ≠ [] → a = some ⟨b, o, none⟩) ∧ StL mk w2 B eb eo b o S e ds (ns ++ [(ds.length : Int)]) ss at_ := by
    have hsep' : ∀ b, S b → b < B ∧ b ≠ eb ∧ ¬ False := fun b hb => ⟨(hsep b hb).2, (hsep b hb).1, fun h => h⟩
    have hrl2 : RepL w2 S e news ds := ⟨HR.out.1, fun i hi => hv1.rep (HR.out.2 i hi) hsep'⟩
    cases ds with
    | nil =>
      have hz : news = [] := List.eq_nil_of_length_eq_zero (by simpa using hrl2.1)
      exact ⟨0, 0, fun h => absurd rfl h, ⟨⟨nv1, sv, he1⟩, ⟨news, by rw [hz]; exact At.nil _ _ _, hrl2⟩, fun h => absurd rfl h, hsep, HF.out⟩⟩
    | cons d ds =>
      obtain ⟨b, o, rfl, hS, hlt, ha⟩ := HP.out (by simp)
      exact ⟨b, o, fun _ => rfl, ⟨⟨nv1, sv, he1⟩, ⟨news, hv1.at_ ha (hsep b hS).2 (hsep b hS).1 (fun h => h), hrl2⟩, fun _ => hS, hsep, HF.out⟩⟩
  obtain ⟨b, o, hab, hst⟩ := hst
  have HA := Lib.hid hab
  clear HF HP HR hab he1 he h1 hfr ler hown1 hgrow hcE hfE hold
  go_loopw [6] (fun i wr => ∃ (k : Nat) (dk : List e.Data) (nsk : List Int) (ssk : List ByteArray) (atk : Int), k + dk.length = ds.length ∧ i = .int .i64 k ∧ StL mk wr B eb eo b (o + k * 9) S e dk nsk ssk atk ∧
      (∀ w', Post mk B eb eo pb S atk (seeL (seeT e) dk (nsk, ssk)) wr w' → Post mk B eb eo pb S at_ (seeL (seeT e) ds (ns ++ [(ds.length : Int)], ss)) w2 w')) (fun i _ => ds.length - (intOf i).toNat)
  case atStart => exact ⟨0, ds, _, ss, at_, by omega, rfl, by simpa using hst, fun _ h => h⟩
  case round =>
    obtain ⟨k, dk, nsk, ssk, atk, hk, rfl, hsk, hpost⟩ := hrel
    have HPost := Lib.hid hpost
    clear hpost
    obtain ⟨nvk, svk, hek⟩ := hsk.eye
    obtain ⟨A, c, rfl⟩ := own_slice hek.rn
    have h1 := hek.n
    cases dk with
    | nil =>
      obtain rfl : k = ds.length := by simpa using hk
      go_wp2_with fail
      go_end0
      exact ⟨rfl, post_pre hv1 (HPost.out _ (stl_end hsk (.inl rfl)))⟩
    | cons d dk =>
      have hlt : k < ds.length := by simp at hk; omega
      obtain rfl := HA.out (by rintro rfl; simp at hlt)
      by_cases hlen : nsk.length < 200000
      · have hh := Lib.hid (stl_head hsk hlen)
        have hI : (nsk.length : Int) < 200000 := by omega
        have HL := Lib.hid hlen
        clear hlen
        go_wp2_with fail
        refine (hg mk wr B eb eo b (o + k * 9) S d nsk ssk atk hh.out).mono ?_
        rintro r w3 ⟨rfl, hp3⟩
        obtain ⟨ds2, ns1, ss1, at1, hl2, hs2, hq2⟩ := stl_step hsk HL.out hp3 (pb := pb)
        have HQ := Lib.hid hq2
        clear hq2 hp3 hh hsk
        go_wp2_with fail
        go_roundw
        case rel =>
          refine ⟨k + 1, ds2, ns1, ss1, at1, by simp at hk; omega, by go_num, ?_, fun w' h => HPost.out w' (HQ.out w' h)⟩
          rw [hw] at hs2
          rw [show o + (k + 1) * 9 = o + k * 9 + 9 by omega]
          exact hs2
        case measure => simp [intOf]; omega
      · have hI : ¬ (nsk.length : Int) < 200000 := by omega
        have HL := Lib.hid hlen
        clear hlen
        go_wp2_with fail
        go_end0
        exact ⟨rfl, post_pre hv1 (HPost.out _ (stl_end hsk (.inr HL.out)))⟩

set_option maxRecDepth 100000 in
theorem looks_22 : Looks 22 (.sl TyMedia 112) := by
  intro mk w B eb eo pb po S d ns ss at_ st
  obtain ⟨⟨nv, sv, he⟩, ⟨cs, ha, hr⟩, hne, hlt, hsep, hf⟩ := st
  obtain ⟨a, cap, rfl⟩ := hr.slice
  have hc := (ha 0 _ rfl).1
  rw [Nat.add_zero] at hc
  have HR := Lib.hid (all_47 mk w B eb eo pb S d ns ss at_ a _ cap nv sv he hr hsep hf)
  clear hr hf ha hsep he
  go_enter Try.func22, Try.ntmps22
  go_wp2_with fail
  refine HR.out.mono ?_
  rintro r w1 ⟨rfl, p1⟩
  clear HR
  go_wp2_with fail
  go_end0
  exact ⟨rfl, p1⟩

end Go.Proofs.Ytjmohkgbfigcgaa.Sh
