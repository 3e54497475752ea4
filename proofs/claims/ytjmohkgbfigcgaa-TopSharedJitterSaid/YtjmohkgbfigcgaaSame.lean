/- The eyes side by side: great, same. -/
import Derived.Test.YtjmohkgbfigcgaaCopy
import Derived.Test.YtjmohkgbfigcgaaNum
import Derived.StillTactics
import Derived.LoopTactic
import Derived.KernelRfl
namespace Go.Proofs.Ytjmohkgbfigcgaa.Sh
open Go Go.RowKit
set_option linter.unusedVariables false
set_option linter.unusedSimpArgs false

/-- a value that is a slice of just these cells -/
structure RowIn (w : World) (v : Value) (cs : List Value) : Prop where
  lies : ∃ A c, v = .slice A cs.length c ∧ (0 < cs.length → ∃ b, A = some ⟨b, 0, none⟩ ∧ b < w.heap.size ∧ At w b 0 cs)
  le : cs.length ≤ 1099511627776
theorem RowIn.below {w w' : World} {v : Value} {cs : List Value} (h : RowIn w v cs) (hb : Below w.heap.size w w') : RowIn w' v cs := by
  obtain ⟨⟨A, c, rfl, h1⟩, h2⟩ := h
  have := hb.size
  exact ⟨⟨A, c, rfl, fun h => by obtain ⟨b, e, hl, ha⟩ := h1 h; exact ⟨b, e, by omega, ha.frame (hb.block b hl)⟩⟩, h2⟩
theorem RowIn.own {w : World} {base : Nat} {e : TypeId} {v : Value} {n : Nat} {cs : List Value} (h : w.ownsRow base e 1 v n cs) (hn : n ≤ 1099511627776) : RowIn w v cs := by
  obtain ⟨A, c, rfl⟩ : ∃ A c, v = .slice A n c := by
    rcases h.2 with ⟨rfl, h0⟩ | ⟨g, cap, cur, rfl, _⟩
    · exact ⟨none, 0, by rw [h0]⟩
    · exact ⟨_, cap, rfl⟩
  obtain ⟨h1, h2, h3, h4⟩ := owned_at h
  rw [Nat.mul_one] at h4
  subst h4
  exact ⟨⟨A, c, rfl, fun hp => by obtain ⟨b, e, _, hl, ha⟩ := h3 hp; exact ⟨b, e, hl, ha⟩⟩, hn⟩

/-- two eyes in boxes of the call's own -/
structure Boxes (w wr : World) (a b a' b' : Value) : Prop where
  a : wr.cell? ⟨w.heap.size, 0, none⟩ = some a
  b : wr.cell? ⟨w.heap.size, 1, none⟩ = some b
  a' : wr.cell? ⟨w.heap.size + 1, 0, none⟩ = some a'
  b' : wr.cell? ⟨w.heap.size + 1, 1, none⟩ = some b'
  bel : Below w.heap.size w wr
  le : w.heap.size + 2 ≤ wr.heap.size
theorem Boxes.drew {w wr : World} {a b a' b' : Value} (h : Boxes w wr a b a' b') : Boxes w wr.drew a b a' b' := ⟨h.a, h.b, h.a', h.b', h.bel.drew, h.le⟩
theorem bcell' {w wr : World} {b o : Nat} (hb : Below w.heap.size w wr) (h : b < w.heap.size) : wr.cell? ⟨b, o, none⟩ = w.cell? ⟨b, o, none⟩ := World.cell?_of_block (a := ⟨b, o, none⟩) (hb.block b h)

set_option maxRecDepth 100000 in
set_option maxHeartbeats 1600000 in
theorem great_goes (w : World) (ns : List Int) (ss : List ByteArray) (nv sv mv av : Value) (hn : RowIn w nv (ints ns)) (hs : RowIn w sv (strs ss)) :
    Calls Try.prog 24 #[.agg #[nv, sv, mv, av]] w fun e w' => (∃ b, e = .returned (.bool b) ∧ (b = false → ns.length ≤ 2000 ∧ ∀ j (h : j < ss.length), ss[j].size ≤ 2000)) ∧ Below w.heap.size w w' := by
  obtain ⟨⟨A, c, rfl, hA⟩, ln⟩ := hn
  obtain ⟨⟨A', c', rfl, hA'⟩, ls⟩ := hs
  rw [ints_length] at ln
  rw [strs_length] at ls hA'
  have HB := Lib.hid (Below.refl w.heap.size w)
  have HA := Lib.hid hA'
  clear hA hA'
  simp only [ints_length, strs_length]
  go_enter Try.func24, Try.ntmps24
  go_wp2_with fail
  go_loop [3, 4] (fun v i => ∃ (m : Int) (k : Nat), v = .int .i64 m ∧ i = .int .i64 k ∧ 0 ≤ m ∧ m ≤ 2000 ∧ k ≤ ss.length ∧ ∀ j (h : j < ss.length), j < k → ss[j].size ≤ 2000) (fun _ i => ss.length - (intOf i).toNat)
  case atStart => exact ⟨0, 0, rfl, rfl, by omega, by omega, by omega, fun j h h' => by omega⟩
  case round =>
    obtain ⟨m, k, rfl, rfl, hm, hm2, hk, hall⟩ := hrel
    have HL := Lib.hid hall
    clear hall
    by_cases hlt : k < ss.length
    · obtain ⟨b, rfl, hb, hat⟩ := HA.out (by omega)
      have hc := (hat k (.string ss[k]) (by simp [strs, hlt])).1
      rw [Nat.zero_add] at hc
      have hbl := hb
      by_cases h3 : (3000 : Int) < (ss[k].size : Int)
      · go_wp2_with fail
        all_goals first
          | (exfalso; omega)
          | (go_ret; exact ⟨.inr rfl, (Below.refl _ w).alloc (Nat.le_refl _) _⟩)
      · by_cases h4 : (2000 : Int) < m + (ss[k].size : Int)
        · go_wp2_with fail
          all_goals first
            | (exfalso; omega)
            | (go_ret; exact ⟨.inr rfl, (Below.refl _ w).alloc (Nat.le_refl _) _⟩)
        · go_wp2_with fail
          all_goals first
            | (exfalso; omega)
            | skip
          go_round
          case rel =>
            refine ⟨m + (ss[k].size : Int), k + 1, rfl, by go_num, by omega, by omega, by omega, fun j hj hjk => ?_⟩
            rcases Nat.lt_or_ge j k with h | h
            · exact HL.out j hj h
            · obtain rfl : j = k := by omega
              omega
          case measure => simp [intOf]; omega
    · by_cases h5 : (2000 : Int) < (ns.length : Int)
      · go_wp2_with fail
        go_ret
        exact ⟨.inr rfl, (Below.refl _ w).alloc (Nat.le_refl _) _⟩
      · go_wp2_with fail
        go_ret
        exact ⟨.inl ⟨rfl, by omega, fun j hj => HL.out j hj (by omega)⟩, (Below.refl _ w).alloc (Nat.le_refl _) _⟩

set_option maxRecDepth 100000 in
set_option maxHeartbeats 1600000 in
theorem same_goes (w : World) (ns ns' : List Int) (ss ss' : List ByteArray) (nv sv mv av nv' sv' mv' av' : Value) (hn : RowIn w nv (ints ns)) (hs : RowIn w sv (strs ss)) (hn' : RowIn w nv' (ints ns')) (hs' : RowIn w sv' (strs ss')) :
    Calls Try.prog 26 #[.agg #[nv, sv, mv, av], .agg #[nv', sv', mv', av']] w fun e w' => (∃ b, e = .returned (.bool b) ∧ (ns = ns' → ss = ss' → b = true)) ∧ Below w.heap.size w w' := by
  obtain ⟨⟨A, c, rfl, hA⟩, ln⟩ := hn
  obtain ⟨⟨B, d, rfl, hB⟩, ls⟩ := hs
  obtain ⟨⟨A', c', rfl, hA'⟩, ln'⟩ := hn'
  obtain ⟨⟨B', d', rfl, hB'⟩, ls'⟩ := hs'
  rw [ints_length] at ln ln' hA hA'
  rw [strs_length] at ls ls' hB hB'
  have HA := Lib.hid hA
  have HB := Lib.hid hB
  have HA' := Lib.hid hA'
  have HB' := Lib.hid hB'
  clear hA hB hA' hB'
  simp only [ints_length, strs_length]
  have hbel : Below w.heap.size w ((w.alloc (.cells #[.slice A ns.length c, .slice B ss.length d, mv, av] 58)).alloc (.cells #[.slice A' ns'.length c', .slice B' ss'.length d', mv', av'] 58)) := ((Below.refl _ w).alloc (Nat.le_refl _) _).alloc (Nat.le_trans (Nat.le_refl _) ((Below.refl _ w).alloc (Nat.le_refl _) _).size) _
  have HW := Lib.hid hbel
  clear hbel
  by_cases e1 : ns.length = ns'.length
  · rw [← e1] at HW HA' ⊢
    have HE := Lib.hid e1
    clear e1
    by_cases e2 : ss.length = ss'.length
    · rw [← e2] at HW HB' ⊢
      have HE2 := Lib.hid e2
      clear e2
      go_enter Try.func26, Try.ntmps26
      have hx0 : Boxes w ((w.alloc (.cells #[.slice A ns.length c, .slice B ss.length d, mv, av] 58)).alloc (.cells #[.slice A' ns.length c', .slice B' ss.length d', mv', av'] 58)) (.slice A ns.length c) (.slice B ss.length d) (.slice A' ns.length c') (.slice B' ss.length d') := ⟨by go_simp, by go_simp, by go_simp, by go_simp, HW.out, by go_simp⟩
      have HX := Lib.hid hx0
      clear hx0
      go_wp2_with fail
      go_loopw [5] (fun i wr => ∃ (k : Nat), i = .int .i64 k ∧ k ≤ ns.length ∧ Boxes w wr (.slice A ns.length c) (.slice B ss.length d) (.slice A' ns.length c') (.slice B' ss.length d')) (fun i _ => ns.length - (intOf i).toNat)
      case atStart => exact ⟨0, rfl, by omega, HX.out⟩
      case round =>
        obtain ⟨k, rfl, hk, hx⟩ := hrel
        have HX := Lib.hid hx
        obtain ⟨x1, x2, x3, x4, xb, xl⟩ := hx
        by_cases hlt : k < ns.length
        · obtain ⟨b, rfl, hb, hat⟩ := HA.out (by omega)
          obtain ⟨b', rfl, hb', hat'⟩ := HA'.out (by omega)
          have hc := (bcell' xb hb).trans (hat k (.int .i64 ns[k]) (by simp [ints, hlt])).1
          have hc' := (bcell' xb hb').trans (hat' k (.int .i64 (ns'[k]'(by have := HE.out; omega))) (by simp [ints])).1
          rw [Nat.zero_add] at hc hc'
          clear hat hat'
          go_wp2_with fail
          refine wp_region_ord 11 [(0, true), (1, true), (2, true), (3, true), (4, true), (5, true), (6, true), (7, true), (8, true), (9, true), (10, true)] (fun u => (u.cell? ⟨w.heap.size, 0, none⟩ = some (.slice (some ⟨b, 0, none⟩) ns.length c) ∧ u.cell? ⟨w.heap.size + 1, 0, none⟩ = some (.slice (some ⟨b', 0, none⟩) ns.length c')) ∧ u.cell? ⟨b, k, none⟩ = some (.int .i64 ns[k]) ∧ u.cell? ⟨b', k, none⟩ = some (.int .i64 (ns'[k]'(by have := HE.out; omega)))) (by kernel_rfl) (by kernel_rfl) ⟨⟨by go_simp, by go_simp⟩, by go_simp, by go_simp⟩ ?_
          repeat (refine ord_read (by rfl) (by rfl) (fun u hu => by (obtain ⟨⟨hu1, hu2⟩, hu3, hu4⟩ := hu; go_simp; try rfl)) ?_)
          refine ord_nil ?_
          simp only [List.drop_succ_cons, List.drop_zero, Act.put, List.setIfInBounds_toArray, List.set_cons_zero, List.set_cons_succ, List.getElem_toArray, List.getElem_cons_succ, List.getElem_cons_zero]
          go_wp2_with fail
          refine NoPanic.normal ?_
          by_cases hq : ns[k] = ns'[k]'(by have := HE.out; omega)
          · rw [← hq]
            go_wp2_with fail
            go_roundw
            case rel => exact ⟨k + 1, by go_num, by omega, HX.out.drew⟩
            case measure => simp [intOf]; omega
          · have hq' : (ns[k] != ns'[k]'(by have := HE.out; omega)) = true := by simpa using hq
            go_wp2_with fail
            go_ret
            refine ⟨⟨_, rfl, fun h _ => ?_⟩, HX.out.drew.bel⟩
            subst h
            exact absurd rfl hq
        · go_wp2_with fail
          go_loopw [6] (fun i wr => ∃ (k : Nat), i = .int .i64 k ∧ k ≤ ss.length ∧ Boxes w wr (.slice A ns.length c) (.slice B ss.length d) (.slice A' ns.length c') (.slice B' ss.length d')) (fun i _ => ss.length - (intOf i).toNat)
          case atStart => exact ⟨0, rfl, by omega, HX.out⟩
          case round =>
            clear hlt hk
            obtain ⟨k, rfl, hk, hx⟩ := hrel
            have HX := Lib.hid hx
            obtain ⟨x1, x2, x3, x4, xb, xl⟩ := hx
            by_cases hlt : k < ss.length
            · obtain ⟨b, rfl, hb, hat⟩ := HB.out (by omega)
              obtain ⟨b', rfl, hb', hat'⟩ := HB'.out (by omega)
              have hc := (bcell' xb hb).trans (hat k (.string ss[k]) (by simp [strs, hlt])).1
              have hc' := (bcell' xb hb').trans (hat' k (.string (ss'[k]'(by have := HE2.out; omega))) (by simp [strs])).1
              rw [Nat.zero_add] at hc hc'
              clear hat hat'
              go_wp2_with fail
              refine wp_region_ord 11 [(0, true), (1, true), (2, true), (3, true), (4, true), (5, true), (6, true), (7, true), (8, true), (9, true), (10, true)] (fun u => (u.cell? ⟨w.heap.size, 1, none⟩ = some (.slice (some ⟨b, 0, none⟩) ss.length d) ∧ u.cell? ⟨w.heap.size + 1, 1, none⟩ = some (.slice (some ⟨b', 0, none⟩) ss.length d')) ∧ u.cell? ⟨b, k, none⟩ = some (.string ss[k]) ∧ u.cell? ⟨b', k, none⟩ = some (.string (ss'[k]'(by have := HE2.out; omega)))) (by kernel_rfl) (by kernel_rfl) ⟨⟨by go_simp, by go_simp⟩, by go_simp, by go_simp⟩ ?_
              repeat (refine ord_read (by rfl) (by rfl) (fun u hu => by (obtain ⟨⟨hu1, hu2⟩, hu3, hu4⟩ := hu; go_simp; try rfl)) ?_)
              refine ord_nil ?_
              simp only [List.drop_succ_cons, List.drop_zero, Act.put, List.setIfInBounds_toArray, List.set_cons_zero, List.set_cons_succ, List.getElem_toArray, List.getElem_cons_succ, List.getElem_cons_zero]
              go_wp2_with fail
              refine NoPanic.normal ?_
              by_cases hq : (ss[k].toList == (ss'[k]'(by have := HE2.out; omega)).toList) = true
              · go_wp2_with fail
                · rename_i h9
                  rw [hq] at h9
                  cases h9
                · go_roundw
                  case rel => exact ⟨k + 1, by go_num, by omega, HX.out.drew⟩
                  case measure => simp [intOf]; omega
              · have hq' : (ss[k].toList == (ss'[k]'(by have := HE2.out; omega)).toList) = false := by simpa using hq
                go_wp2_with fail
                · go_ret
                  refine ⟨⟨_, rfl, fun _ h => ?_⟩, HX.out.drew.bel⟩
                  subst h
                  simp at hq
                · rename_i h9
                  rw [hq'] at h9
                  cases h9
            · go_wp2_with fail
              go_ret
              exact ⟨⟨true, rfl, fun _ _ => rfl⟩, HX.out.bel⟩
    · go_enter Try.func26, Try.ntmps26
      have h9 : ((ss.length : Int) != ss'.length) = true := by simp; omega
      go_wp2_with fail
      go_ret
      exact ⟨⟨_, rfl, fun _ h => absurd (congrArg List.length h) e2⟩, HW.out⟩
  · go_enter Try.func26, Try.ntmps26
    go_wp2_with fail
    go_ret
    exact ⟨⟨_, rfl, fun h _ => absurd (congrArg List.length h) e1⟩, HW.out⟩
end Go.Proofs.Ytjmohkgbfigcgaa.Sh
