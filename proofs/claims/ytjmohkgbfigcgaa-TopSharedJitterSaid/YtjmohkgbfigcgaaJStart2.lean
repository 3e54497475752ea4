/- jitter.start: a copy of a buffer that may be changed. -/
import Derived.Test.YtjmohkgbfigcgaaJStart
namespace Go.Proofs.Ytjmohkgbfigcgaa.Sh
open Go Go.RowKit
set_option linter.unusedVariables false
set_option linter.unusedSimpArgs false

theorem exec_load_mid {P : Program} {o : Oper} {a : Act} {ty : TypeId} {x : Operand} {b off : Nat} {cs : List Value} {d : TypeDesc} (ho : o.op = .load ty x) (hx : a.eval x = .pointer (some ⟨b, off, none⟩)) (u : World) (hc : At u b off cs)
    (hu : P.underlying ty = some d) (hd : d.isRow = true) (hi : (P.info? ty).map (·.size) = some cs.length) : (execOp a.eval o).run P u = .ok (.value (.agg cs.toArray)) u := by
  simp only [execOp, ho, hx, Instr.loadAt, Instr.sureAddr, Sem.run_bind, Sem.run_pure, Result.andThen_ok, run_loadVar_mid u b off ty cs d (fun j v hv => (hc j v hv).1) hu hd hi]
theorem drop_seg (l : List Value) (o : Nat) (c1 : List Value) (x : Value) (h : (l.drop o).take 10 = c1 ++ [x]) (h9 : c1.length = 9) : l.drop (o + 9) = x :: l.drop (o + 10) := by
  have e : l.drop o = (l.drop o).take 10 ++ (l.drop o).drop 10 := (List.take_append_drop ..).symm
  rw [h, List.drop_drop] at e
  have e2 : (l.drop o).drop 9 = (c1 ++ [x] ++ l.drop (o + 10)).drop 9 := congrArg (List.drop 9) e
  rw [List.drop_drop] at e2
  rw [e2, List.append_assoc, ← h9, List.drop_left]
  rfl
theorem owns_le {w : World} {b b' : Nat} {e : TypeId} {size : Nat} {v : Value} {n : Nat} {xs : List Value} (h : w.ownsRow b e size v n xs) (hb : b' ≤ b) : w.ownsRow b' e size v n xs :=
  ⟨h.1, h.2.imp id fun ⟨g, cap, cur, h1, h2, h3⟩ => ⟨g, cap, cur, h1, Nat.le_trans hb h2, h3⟩⟩

/-- a change that is one's own: its numbers lie in block g, what it holds in a list of its own behind -/
structure Change (w : World) (B : Nat) (g : Nat) (fr now : Int) (bg fd : Bool) (sq hg lw bs jt ls : Int) (A : Option Addr) (n c lo : Nat) (news : List Value) (hs : List JHeld.Data) : Prop where
  at_ : Bk w g 80 [.int .i64 fr, .int .i64 now, .bool bg, .bool fd, .int .i64 sq, .int .i64 hg, .int .i64 lw, .int .i64 bs, .int .i64 jt, .int .i64 ls, .slice A n c]
  base : B ≤ g
  len : n = hs.length
  own : w.ownsRow (g + 1) 83 10 (.slice A n c) n news
  low : ∀ b, (Value.slice A n c).ownBlock = some b → b < lo
  hold : RepL w (Fr lo) JHeld news hs
  lo1 : g < lo
  lo2 : lo ≤ w.heap.size

def startOk (d : JBuf.Data) (nw : Int) : Bool := checkB d && withinF d.2.1 1099511627776 nw

set_option maxRecDepth 100000 in
set_option maxHeartbeats 3200000 in
theorem start_goes (w : World) (S : Nat → Prop) (cs : List Value) (fr now : Int) (bg fd : Bool) (sq hg lw bs jt ls : Int) (hs : List JHeld.Data) (nw : Int) (h : Rep w S JBuf cs (fr, now, bg, fd, sq, hg, lw, bs, jt, ls, hs, ())) (hS : ∀ b, S b → b < w.heap.size) (hnw : IntKind.i64.min ≤ nw ∧ nw ≤ IntKind.i64.max) :
    Calls Try.prog 36 #[.agg cs.toArray, .int .i64 nw] w fun e w' => Below w.heap.size w w' ∧
      (checkB (fr, now, bg, fd, sq, hg, lw, bs, jt, ls, hs, ()) = false → e = .returned (.tuple #[.pointer none, .int .i64 260])) ∧
      (checkB (fr, now, bg, fd, sq, hg, lw, bs, jt, ls, hs, ()) = true → withinF now 1099511627776 nw = false → e = .returned (.tuple #[.pointer none, .int .i64 2])) ∧
      (checkB (fr, now, bg, fd, sq, hg, lw, bs, jt, ls, hs, ()) = true → withinF now 1099511627776 nw = true → ∃ g A' c' lo news, e = .returned (.tuple #[.pointer (some ⟨g, 0, none⟩), .int .i64 0]) ∧ Change w' w.heap.size g fr nw bg fd sq hg lw bs jt ls A' hs.length c' lo news hs) := by
  have h' := h
  obtain ⟨A, c, rfl, hh, -, -⟩ := rep_buf h'
  have hn3 : hs.length * 120 ≤ big := (rep_sl.1 hh).2.2.2.1
  rw [big_eq] at hn3
  obtain ⟨n, hn⟩ : ∃ n, n = hs.length := ⟨_, rfl⟩
  rw [← hn] at h hh hn3 ⊢
  have HN := Lib.hid hn
  have HRp := Lib.hid h
  have HHh := Lib.hid hh
  have HS := Lib.hid hS
  clear h h' hh hS hn
  cases hq : checkB (fr, now, bg, fd, sq, hg, lw, bs, jt, ls, hs, ()) with
  | false =>
    suffices hX : Calls Try.prog 36 #[.agg #[.int .i64 fr, .int .i64 now, .bool bg, .bool fd, .int .i64 sq, .int .i64 hg, .int .i64 lw, .int .i64 bs, .int .i64 jt, .int .i64 ls, .slice A n c], .int .i64 nw] w fun e w' => e = .returned (.tuple #[.pointer none, .int .i64 260]) ∧ Below w.heap.size w w' from
      hX.mono fun e w' ⟨h1, h2⟩ => ⟨h2, fun _ => h1, fun h => by (cases h), fun h => by (cases h)⟩
    have HQ := Lib.hid hq
    clear hq
    go_enter Try.func36, Try.ntmps36
    go_wp2_with (refine step_boxh (cs := [.int .i64 fr, .int .i64 now, .bool bg, .bool fd, .int .i64 sq, .int .i64 hg, .int .i64 lw, .int .i64 bs, .int .i64 jt, .int .i64 ls, .slice A n c]) rfl rfl rfl fun w0 M0 B0 Z0 => ?_)
    have HA0 := Lib.hid M0.at_
    have HB0 := Lib.hid B0
    clear M0 B0
    refine Lib.hid ?_
    go_wp2_with (refine wpList_load_mid rfl 24 _ rfl w.heap.size 0 rfl [.int .i64 fr, .int .i64 now, .bool bg, .bool fd, .int .i64 sq, .int .i64 hg, .int .i64 lw, .int .i64 bs, .int .i64 jt, .int .i64 ls, .slice A n c] _ (fun j x hv => (HA0.out j x hv).1) Try.underlying24 rfl (by kernel_rfl) ?_)
    refine (check_goes w0 S _ _ (HRp.out.below HB0.out) (fun b hb => Nat.lt_of_lt_of_le (HS.out b hb) HB0.out.size)).mono ?_
    rintro e w1 ⟨rfl, hb1⟩
    have HB1 := Lib.hid (HB0.out.trans (hb1.mono HB0.out.size))
    clear hb1
    rw [HQ.out]
    go_wp2_with fail
    go_ret2
    exact ⟨rfl, HB1.out⟩
  | true =>
    have HQ := Lib.hid hq
    clear hq
    cases hq2 : withinF now 1099511627776 nw with
    | false =>
      suffices hX : Calls Try.prog 36 #[.agg #[.int .i64 fr, .int .i64 now, .bool bg, .bool fd, .int .i64 sq, .int .i64 hg, .int .i64 lw, .int .i64 bs, .int .i64 jt, .int .i64 ls, .slice A n c], .int .i64 nw] w fun e w' => e = .returned (.tuple #[.pointer none, .int .i64 2]) ∧ Below w.heap.size w w' from
        hX.mono fun e w' ⟨h1, h2⟩ => ⟨h2, fun h => by (cases h), fun _ _ => h1, fun _ h => by (cases h)⟩
      have HQ2 := Lib.hid hq2
      clear hq2
      go_enter Try.func36, Try.ntmps36
      go_wp2_with (refine step_boxh (cs := [.int .i64 fr, .int .i64 now, .bool bg, .bool fd, .int .i64 sq, .int .i64 hg, .int .i64 lw, .int .i64 bs, .int .i64 jt, .int .i64 ls, .slice A n c]) rfl rfl rfl fun w0 M0 B0 Z0 => ?_)
      have HA0 := Lib.hid M0.at_
      have HB0 := Lib.hid B0
      have HM0 := Lib.hid M0
      clear M0 B0
      refine Lib.hid ?_
      go_wp2_with (refine wpList_load_mid rfl 24 _ rfl w.heap.size 0 rfl [.int .i64 fr, .int .i64 now, .bool bg, .bool fd, .int .i64 sq, .int .i64 hg, .int .i64 lw, .int .i64 bs, .int .i64 jt, .int .i64 ls, .slice A n c] _ (fun j x hv => (HA0.out j x hv).1) Try.underlying24 rfl (by kernel_rfl) ?_)
      refine (check_goes w0 S _ _ (HRp.out.below HB0.out) (fun b hb => Nat.lt_of_lt_of_le (HS.out b hb) HB0.out.size)).mono ?_
      rintro e w1 ⟨rfl, hb1⟩
      have HB1 := Lib.hid (HB0.out.trans (hb1.mono HB0.out.size))
      have M1 := HM0.out.below (hb1.mono (Nat.le_refl _))
      have m1 := M1.cell 1 rfl
      clear hb1 M1
      rw [HQ.out]
      go_wp2_with fail
      refine (within_goes w1 now 1099511627776 nw).mono ?_
      rintro e _ ⟨rfl, rfl⟩
      rw [HQ2.out]
      go_wp2_with fail
      go_ret2
      exact ⟨rfl, HB1.out⟩
    | true =>
      suffices hX : Calls Try.prog 36 #[.agg #[.int .i64 fr, .int .i64 now, .bool bg, .bool fd, .int .i64 sq, .int .i64 hg, .int .i64 lw, .int .i64 bs, .int .i64 jt, .int .i64 ls, .slice A n c], .int .i64 nw] w fun e w' => Below w.heap.size w w' ∧ ∃ g A' c' lo news, e = .returned (.tuple #[.pointer (some ⟨g, 0, none⟩), .int .i64 0]) ∧ Change w' w.heap.size g fr nw bg fd sq hg lw bs jt ls A' n c' lo news hs from
        hX.mono fun e w' ⟨h1, h2⟩ => ⟨h1, fun h => by (cases h), fun _ h => by (cases h), fun _ _ => h2⟩
      have HQ2 := Lib.hid hq2
      clear hq2
      go_enter Try.func36, Try.ntmps36
      go_wp2_with (refine step_boxh (cs := [.int .i64 fr, .int .i64 now, .bool bg, .bool fd, .int .i64 sq, .int .i64 hg, .int .i64 lw, .int .i64 bs, .int .i64 jt, .int .i64 ls, .slice A n c]) rfl rfl rfl fun w0 M0 B0 Z0 => ?_)
      have HA0 := Lib.hid M0.at_
      have HB0 := Lib.hid B0
      have HM0 := Lib.hid M0
      clear M0 B0
      refine Lib.hid ?_
      go_wp2_with (refine wpList_load_mid rfl 24 _ rfl w.heap.size 0 rfl [.int .i64 fr, .int .i64 now, .bool bg, .bool fd, .int .i64 sq, .int .i64 hg, .int .i64 lw, .int .i64 bs, .int .i64 jt, .int .i64 ls, .slice A n c] _ (fun j x hv => (HA0.out j x hv).1) Try.underlying24 rfl (by kernel_rfl) ?_)
      refine (check_goes w0 S _ _ (HRp.out.below HB0.out) (fun b hb => Nat.lt_of_lt_of_le (HS.out b hb) HB0.out.size)).mono ?_
      rintro e w1 ⟨rfl, hb1⟩
      have HB1 := Lib.hid (HB0.out.trans (hb1.mono HB0.out.size))
      have M1 := HM0.out.below (hb1.mono (Nat.le_refl _))
      have m1 := M1.cell 1 rfl
      have m10 := M1.cell 10 rfl
      have HA1 := Lib.hid M1.at_
      have HM1 := Lib.hid M1
      clear hb1 M1
      rw [HQ.out]
      go_wp2_with fail
      refine (within_goes w1 now 1099511627776 nw).mono ?_
      rintro e w1b ⟨rfl, rfl⟩
      rw [HQ2.out]
      go_wp2_with (first
        | refine wpList_load_mid rfl 24 _ rfl w.heap.size 0 rfl [.int .i64 fr, .int .i64 now, .bool bg, .bool fd, .int .i64 sq, .int .i64 hg, .int .i64 lw, .int .i64 bs, .int .i64 jt, .int .i64 ls, .slice A n c] _ (fun j x hv => (HA1.out j x hv).1) Try.underlying24 rfl (by kernel_rfl) ?_
        | (refine step_boxh (T := 80) (cs := [.int .i64 fr, .int .i64 now, .bool bg, .bool fd, .int .i64 sq, .int .i64 hg, .int .i64 lw, .int .i64 bs, .int .i64 jt, .int .i64 ls, .slice A n c]) rfl rfl rfl ?_))
      intro w2 M2 B2 Z2
      have hgz : w.heap.size < w1b.heap.size := HM1.out.lt
      have HBb := Lib.hid (HB1.out.trans (B2.mono HB1.out.size))
      have m10' := (HM1.out.below B2).cell 10 rfl
      generalize hG : w1b.heap.size = g at *
      have c1 := M2.cell 1 rfl
      have c10 := M2.cell 10 rfl
      have f1 := M2.plain.free 1
      have f10 := M2.plain.free 10
      have HM2 := Lib.hid M2
      clear M2 B2 m1 m10 c10 f10
      refine Lib.hid ?_
      go_wp2_with fail
      have M3 := bk_setCell (j := 1) HM2.out (.int .i64 nw)
      have g3 := grown_setCell w2 ⟨g, 1, none⟩ (.int .i64 nw) g rfl
      have B3 := below_grown HBb.out g3 (by omega) (Nat.le_of_lt hgz)
      generalize w2.setCell ⟨g, 1, none⟩ (.int .i64 nw) = w3 at M3 g3 B3 ⊢
      have hz3 := g3.size
      have HM3 := Lib.hid (show Bk w3 g 80 [.int .i64 fr, .int .i64 nw, .bool bg, .bool fd, .int .i64 sq, .int .i64 hg, .int .i64 lw, .int .i64 bs, .int .i64 jt, .int .i64 ls, .slice A n c] from M3)
      have HB3 := Lib.hid B3
      clear M3 g3 B3 m10' c1 f1 HBb HM2
      refine (clone_held w3 S A n c hs (HHh.out.below HB3.out)).mono ?_
      rintro e w4 ⟨A', c', news, rfl, ho, hl, hb⟩
      have hz4 := hb.size
      have M4 := HM3.out.below hb
      have HB4 := Lib.hid (HB3.out.trans (hb.mono HB3.out.size))
      have c10 := M4.cell 10 rfl
      have f10 := M4.plain.free 10
      have HM4 := Lib.hid M4
      have hl4 : RepL w4 S JHeld news hs := hl.frame fun b h1 h2 => ⟨hb.block b h2, h1⟩
      have HL4 := Lib.hid hl4
      have HO4 := Lib.hid ho
      clear M4 hl hb hl4 ho HM3 HB3
      have hg4 : g < w4.heap.size := HM4.out.lt
      have hg3 : g < w3.heap.size := by have := HB4.out.size; omega
      go_wp2_with fail
      have M5 := bk_setCell (j := 10) HM4.out (.slice A' n c')
      have g5 := grown_setCell w4 ⟨g, 10, none⟩ (.slice A' n c') g rfl
      have B5 := below_grown HB4.out g5 (by omega) (Nat.le_of_lt hgz)
      have hownlt : ∀ b, (Value.slice A' n c').ownBlock = some b → w3.heap.size ≤ b ∧ b < w4.heap.size := fun b hb => HO4.out.lt b hb
      have ho5 := HO4.out.kept g5 (by
        rcases hob : (Value.slice A' n c').ownBlock with _ | b
        · exact .inl rfl
        · refine .inr fun e => ?_
          have := hownlt b hob
          injection e with e
          omega)
      have hl5 : RepL (w4.setCell ⟨g, 10, none⟩ (.slice A' n c')) (fun b => b < w.heap.size ∨ w4.heap.size ≤ b) JHeld news hs := HL4.out.frame fun b h1 h2 =>
        ⟨g5.block b h2 (by intro e; injection e with e; have := HS.out b h1; omega), .inl (HS.out b h1)⟩
      generalize w4.setCell ⟨g, 10, none⟩ (.slice A' n c') = w5 at M5 g5 B5 ho5 hl5 ⊢
      have hz5 := g5.size
      have M5' : Bk w5 g 80 [.int .i64 fr, .int .i64 nw, .bool bg, .bool fd, .int .i64 sq, .int .i64 hg, .int .i64 lw, .int .i64 bs, .int .i64 jt, .int .i64 ls, .slice A' n c'] := M5
      have HOL := Lib.hid hownlt
      clear M5 g5 c10 f10 HM4 HB4 hownlt HL4 HO4
      go_wp2_with fail
      go_loopw [40] (fun i wr => ∃ (k : Nat) (newsk : List Value), i = .int .i64 k ∧ k ≤ n ∧ wr.ownsRow w3.heap.size 83 10 (.slice A' n c') n newsk ∧ Below w.heap.size w wr ∧ Bk wr g 80 [.int .i64 fr, .int .i64 nw, .bool bg, .bool fd, .int .i64 sq, .int .i64 hg, .int .i64 lw, .int .i64 bs, .int .i64 jt, .int .i64 ls, .slice A' n c'] ∧ w4.heap.size ≤ wr.heap.size ∧
          RepL wr (fun b => b < w.heap.size ∨ w4.heap.size ≤ b) JHeld newsk hs ∧ RepL wr (Fr w4.heap.size) JHeld (newsk.take (k * 10)) (hs.take k)) (fun i _ => n - (intOf i).toNat)
      case atStart => exact ⟨0, news, rfl, Nat.zero_le _, ho5, B5, M5', hz5, hl5, by simpa using RepL.nil _ _ _⟩
      case round =>
        obtain ⟨k, newsk, rfl, hk, hok, hbk, hmk, hszk, hla, hlb⟩ := hrel
        clear ho5 hl5
        have c10 := hmk.cell 10 rfl
        have hgr := hmk.lt
        by_cases hlt : k < n
        · have hn' := HN.out
          have hkd : k < hs.length := by omega
          obtain ⟨hn1, hc1, hpl, hlen⟩ := owned_at hok
          obtain ⟨G, rfl, hG1, hG2, hat⟩ := hpl (by omega)
          have hG3 : w3.heap.size ≤ G ∧ G < w4.heap.size := HOL.out G rfl
          have hseg := hat.seg (k * 10) 10
          rw [Nat.zero_add] at hseg
          have hre := hla.2 k hkd
          rcases hek : hs[k] with ⟨m, ar, ⟨⟩⟩
          rw [hek] at hre
          obtain ⟨c1', _, hsg, hm, _, _, rfl, ⟨rfl, har⟩, rfl⟩ := hre
          have hsg' : (newsk.drop (k * 10)).take 10 = c1' ++ [.int .i64 ar] := hsg
          have hm9 : c1'.length = 9 := Rep.length _ _ _ hm
          rw [hsg'] at hseg
          have hmed : At wr G (k * 10) c1' := fun j x hv => hseg j x (by rw [List.getElem?_append_left]; exact hv; exact (List.getElem?_eq_some_iff.1 hv).1)
          have hwk : k * 10 + 9 ≤ n * 10 := by omega
          have HMd := Lib.hid hmed
          have HM9 := Lib.hid hm9
          have HRe := Lib.hid hm
          have HOk := Lib.hid hok
          have HBk := Lib.hid hbk
          have HMk := Lib.hid hmk
          have HLa := Lib.hid hla
          have HLb := Lib.hid hlb
          have HSg := Lib.hid hsg'
          clear hn' hseg hlen hpl hat hok hsg hsg' hm9 hm hmed hmk hla hlb hbk
          go_wp2_with fail
          have hdr : Below wr.heap.size wr wr.drew := (Below.refl _ wr).drew
          refine wp_region_ord 16 [(0, true), (1, true), (2, true), (3, true), (4, true), (5, true), (6, true), (7, true), (8, true), (9, true), (10, true), (11, true), (12, true), (13, true), (14, true), (15, false)] (fun u => u.cell? ⟨g, 10, none⟩ = some (.slice (some ⟨G, 0, none⟩) n c') ∧ At u G (k * 10) c1') (by kernel_rfl) (by kernel_rfl) ⟨c10, HMd.out⟩ ?_
          refine ord_read (by rfl) (by rfl) (fun u hu => by (obtain ⟨hu1, hu2⟩ := hu; clear hu2; go_simp; try rfl)) ?_
          refine ord_read (by rfl) (by rfl) (fun u hu => by (obtain ⟨hu1, hu2⟩ := hu; clear hu2; go_simp; try rfl)) ?_
          refine ord_read (by rfl) (by rfl) (fun u hu => by (obtain ⟨hu1, hu2⟩ := hu; clear hu2; go_simp; try rfl)) ?_
          refine ord_read (by rfl) (by rfl) (fun u hu => by (obtain ⟨hu1, hu2⟩ := hu; clear hu2; go_simp; try rfl)) ?_
          simp only [Act.put, List.setIfInBounds_toArray, List.set_cons_zero, List.set_cons_succ, List.getElem_toArray, List.getElem_cons_succ, List.getElem_cons_zero]
          refine ord_read (by rfl) (by rfl) (fun u hu => by (obtain ⟨hu1, hu2⟩ := hu; clear hu2; go_simp; try rfl)) ?_
          refine ord_read (by rfl) (by rfl) (fun u hu => by (obtain ⟨hu1, hu2⟩ := hu; clear hu2; go_simp; try rfl)) ?_
          refine ord_read (by rfl) (by rfl) (fun u hu => by (obtain ⟨hu1, hu2⟩ := hu; clear hu2; go_simp; try rfl)) ?_
          refine ord_read (by rfl) (by rfl) (fun u hu => by (obtain ⟨hu1, hu2⟩ := hu; clear hu2; go_simp; try rfl)) ?_
          simp only [Act.put, List.setIfInBounds_toArray, List.set_cons_zero, List.set_cons_succ, List.getElem_toArray, List.getElem_cons_succ, List.getElem_cons_zero]
          refine ord_read (by rfl) (by rfl) (fun u hu => by (obtain ⟨hu1, hu2⟩ := hu; clear hu2; go_simp; try rfl)) ?_
          refine ord_read (by rfl) (by rfl) (fun u hu => by (obtain ⟨hu1, hu2⟩ := hu; clear hu2; go_simp; try rfl)) ?_
          refine ord_read (by rfl) (by rfl) (fun u hu => by (obtain ⟨hu1, hu2⟩ := hu; clear hu2; go_simp; try rfl)) ?_
          refine ord_read (by rfl) (by rfl) (fun u hu => by (obtain ⟨hu1, hu2⟩ := hu; clear hu2; go_simp; try rfl)) ?_
          simp only [Act.put, List.setIfInBounds_toArray, List.set_cons_zero, List.set_cons_succ, List.getElem_toArray, List.getElem_cons_succ, List.getElem_cons_zero]
          refine ord_read (by rfl) (by rfl) (fun u hu => by (obtain ⟨hu1, hu2⟩ := hu; clear hu2; go_simp; try rfl)) ?_
          refine ord_read (by rfl) (by rfl) (fun u hu => by (obtain ⟨hu1, hu2⟩ := hu; clear hu2; go_simp; try rfl)) ?_
          simp only [Act.put, List.setIfInBounds_toArray, List.set_cons_zero, List.set_cons_succ, List.getElem_toArray, List.getElem_cons_succ, List.getElem_cons_zero]
          refine ord_read (v := .agg c1'.toArray) (by rfl) (by rfl) (fun u hu => exec_load_mid (ty := 28) (x := .tmp 56) (b := G) (off := k * 10) rfl rfl u hu.2 Try.underlying28 rfl (by rw [HM9.out]; kernel_rfl)) ?_
          simp only [Act.put, List.setIfInBounds_toArray, List.set_cons_zero, List.set_cons_succ, List.getElem_toArray, List.getElem_cons_succ, List.getElem_cons_zero]
          refine ord_make (by rfl) (fun K hK => ?_)
          rw [if_pos (by rfl)]
          refine wp_call1 (f := 38) (x := .tmp 57) (vx := .agg c1'.toArray) rfl rfl rfl rfl rfl rfl (ownM_goes wr.drew _ _ _ (HRe.out.below hdr)) ?_
          rintro e w6 ⟨_, rfl, cs', rfl, q6, b6⟩
          refine ⟨_, rfl, ?_⟩
          have hz6 : wr.heap.size ≤ w6.heap.size := b6.size
          have B6 := hdr.trans b6
          have c10b := (HMk.out.below B6).cell 10 rfl
          refine hK _ _ ⟨⟨c10b, (HMd.out.frame (B6.block G (by omega)))⟩, ?_⟩
          clear hK K
          refine ord_nil ?_
          simp only [valOf, if_true, List.drop_succ_cons, List.drop_zero, Act.put, List.setIfInBounds_toArray, List.set_cons_zero, List.set_cons_succ, List.getElem_toArray, List.getElem_cons_succ, List.getElem_cons_zero]
          have l6 : cs'.length = 9 := Rep.length _ _ _ q6
          have ho6 : w6.ownsRow w3.heap.size 83 10 (.slice (some ⟨G, 0, none⟩) n c') n newsk := HOk.out.kept (row := none) ⟨B6.os, B6.tape, B6.output, B6.size, fun i hi _ => B6.block i hi⟩ (.inr (by simp [Value.ownBlock]))
          have HO6 := Lib.hid ho6
          have HL6 := Lib.hid l6
          have HB6 := Lib.hid B6
          have HMk6 := Lib.hid (HMk.out.below B6)
          clear ho6 l6 B6 c10 c10b b6
          go_wp2_with (refine wpList_plain rfl fun K hK => wp_row_store w6 28 _ _ rfl G (k * 10) rfl cs' rfl _ _ 10 n c' newsk HO6.out (by rw [HL6.out]; exact hwk) (Rep.one _ _ _ q6) (by rw [HL6.out]; kernel_rfl) ?_; intro w7 ho7 hg7; refine hK _ _ ?_; clear hK K)
          refine NoPanic.normal ?_
          have HO7 := Lib.hid ho7
          have HG7 := Lib.hid hg7
          clear ho7 hg7
          go_wp2_with fail
          have hl2 := HL6.out
          have hlen2 := HO6.out.1
          have ho7 := HO7.out
          have hg7 := HG7.out
          go_roundw
          case rel =>
            have hsz7 := hg7.size
            have hn' := HN.out
            have q7 : Rep w7 (Fr wr.heap.size) JMed cs' m := q6.grown hg7 (show G < wr.heap.size by omega)
            have hfr : ∀ (S' : Nat → Prop), (∀ b, S' b → b ≠ G) → ∀ b, S' b → b < wr.heap.size → w7.heap[b]? = wr.heap[b]? ∧ S' b := fun S' hS b hb hlb =>
              ⟨(hg7.block b (by omega) (by intro e; injection e with e; exact hS b hb e)).trans (HB6.out.block b hlb), hb⟩
            have hla3 : RepL w7 (fun b => b < w.heap.size ∨ w4.heap.size ≤ b) JHeld newsk hs := HLa.out.frame (hfr _ (fun b hb => by omega))
            have hlb3 : RepL w7 (Fr w4.heap.size) JHeld (newsk.take (k * 10)) (hs.take k) := HLb.out.frame (hfr _ (fun b hb => by have : w4.heap.size ≤ b := hb; omega))
            have q7h : Rep w7 (Fr wr.heap.size) JHeld (cs' ++ [.int .i64 ar]) hs[k] := by
              rw [hek]
              exact ⟨cs', _, rfl, q7, [.int .i64 ar], [], rfl, ⟨rfl, har⟩, rfl⟩
            have hset := hla3.set k hkd (q7h.mono (S' := fun b => b < w.heap.size ∨ w4.heap.size ≤ b) (fun b hb _ => .inr (by have : wr.heap.size ≤ b := hb; omega)))
            have hsn := hlb3.snoc (q7h.fr_le hszk)
            have e0 : (k + 1) * 10 = k * 10 + 10 := by omega
            have hk1 : k * 10 ≤ newsk.length := by rw [hlen2]; omega
            have hds := drop_seg newsk (k * 10) c1' _ HSg.out HM9.out
            rw [hl2, hds, show newsk.take (k * 10) ++ cs' ++ Value.int .i64 ar :: newsk.drop (k * 10 + 10) = newsk.take (k * 10) ++ (cs' ++ [Value.int .i64 ar]) ++ newsk.drop (k * 10 + 10) by simp] at ho7
            refine ⟨k + 1, newsk.take (k * 10) ++ (cs' ++ [Value.int .i64 ar]) ++ newsk.drop (k * 10 + 10), by go_num, by omega, ho7, below_grown (HBk.out.trans (HB6.out.mono (by omega))) hg7 (by omega) (by omega), HMk6.out.grown hg7 (by omega), by omega, ?_, ?_⟩
            · rw [List.set_getElem_self] at hset
              rw [← e0]
              exact hset
            · rw [List.take_succ_eq_append_getElem hkd]
              have e1 : (newsk.take (k * 10) ++ (cs' ++ [Value.int .i64 ar]) ++ newsk.drop (k * 10 + 10)).take ((k + 1) * 10) = newsk.take (k * 10) ++ (cs' ++ [.int .i64 ar]) := by
                refine List.take_left' ?_
                rw [List.length_append, List.length_take, List.length_append, hl2, Nat.min_eq_left hk1, e0]
                rfl
              rw [e1]
              exact hsn
          case measure => simp [intOf]; omega
        · have hkn : k = n := by omega
          have hfull : RepL wr (Fr w4.heap.size) JHeld newsk hs := by
            have h := hlb
            rw [List.take_of_length_le (by rw [hok.1, hkn]; exact Nat.le_refl _), List.take_of_length_le (by rw [hkn]; exact Nat.le_of_eq HN.out.symm)] at h
            exact h
          have HF := Lib.hid hfull
          have HOk := Lib.hid hok
          have HBk := Lib.hid hbk
          have HMk := Lib.hid hmk
          clear hfull hok hbk hmk hla hlb
          go_wp2_with fail
          go_ret2
          exact ⟨HBk.out, g, A', c', w4.heap.size, newsk, rfl, ⟨HMk.out, Nat.le_of_lt hgz, HN.out, owns_le HOk.out (by omega), fun b hb => (HOL.out b hb).2, HF.out, hg4, hszk⟩⟩
end Go.Proofs.Ytjmohkgbfigcgaa.Sh
