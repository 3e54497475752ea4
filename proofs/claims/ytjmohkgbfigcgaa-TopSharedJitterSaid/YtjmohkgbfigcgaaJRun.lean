/- jitter.run: the iterator over the packets of one frame. -/
import Derived.Test.YtjmohkgbfigcgaaJPut
import Derived.RangeFuncNested
import Derived.RangeFuncBound
import Derived.RangeFuncCalls
import Derived.RangeFuncLeaves
import Derived.OwnWalkIn
import Derived.TacticsInMore
import Derived.LoopNIn
import Derived.LoopIn
import Derived.Maps.AppendAt
import Derived.WalkMore
namespace Go.Proofs.Ytjmohkgbfigcgaa.Sh
open Go Go.RowKit
set_option linter.unusedVariables false
set_option linter.unusedSimpArgs false

theorem Keeps.cell {M : Nat → Prop} {a b : World} (h : Keeps M a b) {n o : Nat} (hn : n < a.heap.size) (hm : ¬ M n) : b.cell? ⟨n, o, none⟩ = a.cell? ⟨n, o, none⟩ := World.cell?_of_block (h.block n hn hm)

/-- how many follow on -/
def runCnt (t0 : Int) : JHeld.Data → List JHeld.Data → Nat
  | _, [] => 0
  | p, x :: rest => if stampOf x.1 = t0 ∧ seqOf x.1 = (seqOf p.1 + 1) % 65536 ∧ p.1.1 = false then 1 + runCnt t0 x rest else 0
def runF : List JHeld.Data → Nat
  | [] => 0
  | h :: rest => 1 + runCnt (stampOf h.1) h rest
theorem runCnt_le (t0 : Int) : ∀ (p : JHeld.Data) (l : List JHeld.Data), runCnt t0 p l ≤ l.length
  | _, [] => Nat.le_refl _
  | p, x :: rest => by
    simp only [runCnt]
    split
    · have := runCnt_le t0 x rest
      simp only [List.length_cons]; omega
    · exact Nat.zero_le _
theorem runF_le : ∀ l : List JHeld.Data, runF l ≤ l.length
  | [] => Nat.le_refl _
  | h :: rest => by have := runCnt_le (stampOf h.1) h rest; simp only [runF, List.length_cons]; omega
theorem runF_pos {h : JHeld.Data} {l : List JHeld.Data} : 0 < runF (h :: l) := by simp only [runF]; omega

/-- a packet as a row of cells -/
structure MRow where
  v : Bool
  k : Int
  s : Int
  t : Int
  r : Int
  A : Option Addr
  n : Nat
  c : Nat
  A' : Option Addr
  n' : Nat
  c' : Nat
  p : Int
  pay : ByteArray
def MRow.row (x : MRow) : List Value := [.bool x.v, .int .i64 x.k, .int .i64 x.s, .int .i64 x.t, .int .i64 x.r, .slice x.A x.n x.c, .slice x.A' x.n' x.c', .int .i64 x.p, .string x.pay]
def MRow.encs (x : MRow) : Array Value := #[.agg #[.bool x.v, .int .i64 x.k, .int .i64 x.s, .int .i64 x.t, .int .i64 x.r, .slice x.A x.n x.c, .slice x.A' x.n' x.c', .int .i64 x.p, .string x.pay]]

/-- these are the first so many packets -/
def Rows (news : List Value) (ys : List MRow) : Prop := ∀ i (h : i < ys.length), ys[i].row = (news.drop (i * 10)).take 9
theorem Rows.snoc {news : List Value} {ys : List MRow} {x : MRow} (h : Rows news ys) (hx : x.row = (news.drop (ys.length * 10)).take 9) : Rows news (ys ++ [x]) := fun i hi => by
  rcases Nat.lt_or_ge i ys.length with hl | hl
  · rw [List.getElem_append_left hl]; exact h i hl
  · have e : i = ys.length := by simp at hi; omega
    subst e
    simpa using hx

theorem held_cells {w : World} {S : Nat → Prop} {b : Nat} {news : List Value} {hs : List JHeld.Data} (hrl : RepL w S JHeld news hs) (hat : At w b 0 news) (j : Nat) (hj : j < hs.length) :
    w.cell? ⟨b, j * 10, none⟩ = some (.bool hs[j].1.1) ∧ w.cell? ⟨b, j * 10 + 2, none⟩ = some (.int .i64 (seqOf hs[j].1)) ∧ w.cell? ⟨b, j * 10 + 3, none⟩ = some (.int .i64 (stampOf hs[j].1)) := by
  have hre := hrl.2 j hj
  rcases hek : hs[j] with ⟨⟨v, k, s, t, r, xs, es, p, pay, ⟨⟩⟩, ar, ⟨⟩⟩
  rw [hek] at hre
  obtain ⟨c1, _, hseg, hm, _, _, rfl, ⟨rfl, har⟩, rfl⟩ := hre
  obtain ⟨A1, k1, A2, k2, rfl, -⟩ := rep_med hm
  have hae := (hat.seg (j * 10) 10)
  have hseg' : (news.drop (j * 10)).take 10 = [.bool v, .int .i64 k, .int .i64 s, .int .i64 t, .int .i64 r, .slice A1 xs.length k1, .slice A2 es.length k2, .int .i64 p, .string pay, .int .i64 ar] := hseg
  rw [hseg', Nat.zero_add] at hae
  exact ⟨(hae 0 _ rfl).1, (hae 2 _ rfl).1, (hae 3 _ rfl).1⟩

/-- what is left behind k rounds -/
def RunAt (hs : List JHeld.Data) (k : Nat) : Prop := k = 0 ∨ ∃ (h0 : 0 < hs.length) (h1 : k - 1 < hs.length), 0 < k ∧ runF hs = k + runCnt (stampOf hs[0].1) hs[k - 1] (hs.drop k)
theorem RunAt.one {hs : List JHeld.Data} (h : 0 < hs.length) : RunAt hs 1 := by
  refine .inr ⟨h, h, by omega, ?_⟩
  obtain ⟨a, l, rfl⟩ : ∃ a l, hs = a :: l := by cases hs with | nil => simp at h | cons a l => exact ⟨a, l, rfl⟩
  rfl
theorem RunAt.next {hs : List JHeld.Data} {k : Nat} (h : RunAt hs k) (hk : 0 < k) (hl : k < hs.length) (h0 : 0 < hs.length) (h1 : k - 1 < hs.length) (ht : stampOf hs[k].1 = stampOf hs[0].1) (hs' : seqOf hs[k].1 = (seqOf hs[k - 1].1 + 1) % 65536) (hm : hs[k - 1].1.1 = false) : RunAt hs (k + 1) := by
  rcases h with rfl | ⟨_, _, _, e⟩
  · omega
  · refine .inr ⟨h0, by omega, by omega, ?_⟩
    rw [List.drop_eq_getElem_cons hl] at e
    simp only [runCnt] at e
    rw [if_pos ⟨ht, hs', hm⟩] at e
    simp only [Nat.add_sub_cancel]
    omega
theorem RunAt.stop {hs : List JHeld.Data} {k : Nat} (h : RunAt hs k) (hk : 0 < k) (hl : k < hs.length) (h0 : 0 < hs.length) (h1 : k - 1 < hs.length) (hn : ¬ (stampOf hs[k].1 = stampOf hs[0].1 ∧ seqOf hs[k].1 = (seqOf hs[k - 1].1 + 1) % 65536 ∧ hs[k - 1].1.1 = false)) : runF hs = k := by
  rcases h with rfl | ⟨_, _, _, e⟩
  · omega
  · rw [List.drop_eq_getElem_cons hl] at e
    simp only [runCnt] at e
    rw [if_neg hn] at e
    exact e
theorem RunAt.done {hs : List JHeld.Data} {k : Nat} (h : RunAt hs k) (hl : k = hs.length) : runF hs = k := by
  rcases h with rfl | ⟨_, _, _, e⟩
  · have : hs = [] := List.eq_nil_of_length_eq_zero hl.symm
    subst this; rfl
  · rw [List.drop_of_length_le (by omega)] at e
    simpa [runCnt] using e

set_option maxRecDepth 100000 in
set_option maxHeartbeats 3200000 in
theorem run1_in (l tb : Nat) (M : Nat → Prop) (S : Nat → Prop) (A : Option Addr) (c : Nat) (news : List Value) (hs : List JHeld.Data) (J Jx : List MRow → World → Prop) (W0 : World)
    (hJ : AbidesFrom W0.heap.size J) (hY : ∀ pre x W, J pre W → pre.length < 1000 → YieldAt Fence.wide 0 Try.prog l x.encs W fun e W' => (e = .returned (.bool true) ∧ J (pre ++ [x]) W' ∧ Keeps M W W') ∨ (e = .returned (.bool false) ∧ Jx (pre ++ [x]) W'))
    (W : World) (hW0 : W0.heap.size ≤ W.heap.size) (htb : tb < W.heap.size ∧ ¬ M tb) (hB : W.cell? ⟨tb, 0, none⟩ = some (.slice A hs.length c)) (hA : 0 < hs.length → ∃ b, A = some ⟨b, 0, none⟩ ∧ (b < W.heap.size ∧ ¬ M b) ∧ At W b 0 news) (hrl : RepL W S JHeld news hs) (hn : hs.length ≤ 64) (h0 : J [] W) :
    CallsIn Fence.wide 1 Try.prog 69 #[.func (.yield l) #[] #[], .pointer (some ⟨tb, 0, none⟩)] W fun e W' => (∃ v, e = .returned v) ∧ ((∃ ys, (ys.length = runF hs ∧ Rows news ys) ∧ J ys W') ∨ (∃ pre, True ∧ Jx pre W')) := by
  have HA := Lib.hid hA
  have HRL := Lib.hid hrl
  have HY := Lib.hid hY
  have HJ := Lib.hid hJ
  have H0 := Lib.hid h0
  clear hA hrl hY hJ h0
  refine callsIn_of_wp Try.func69 rfl trivial ?_ rfl
  simp only [Try.ntmps69, List.size_toArray, List.length_cons, List.length_nil, Nat.reduceAdd, Nat.reduceSub, Array.replicate_succ, Array.replicate_zero, List.push_toArray, List.append_toArray, List.nil_append, List.cons_append]
  refine wpIn_wide.2 ?_
  go_step3
  go_wp2_with fail
  go_step3
  go_wp2_with fail
  refine (wpIn_wide (n := 1)).1 ?_
  gi_loopw [7] (fun i wr => ∃ (kk : Nat) (pre : List MRow), i = .int .i64 kk ∧ kk ≤ hs.length ∧ pre.length = kk ∧ Rows news pre ∧ RunAt hs kk ∧ J pre wr ∧ Keeps M W wr) (fun i _ => hs.length - (intOf i).toNat)
  case atStart => exact ⟨0, [], rfl, Nat.zero_le _, rfl, fun i h => absurd h (by simp), .inl rfl, H0.out, Keeps.refl _ _⟩
  case round =>
    obtain ⟨kk, pre, rfl, hkk, hpl, hrows, hrun, hJs, hb⟩ := hrel
    have HRows := Lib.hid hrows
    have HRun := Lib.hid hrun
    have HJs := Lib.hid hJs
    have HB := Lib.hid hb
    have hsz := hb.size
    clear hrows hrun hJs hb
    by_cases hlt : kk < hs.length
    · obtain ⟨b, rfl, hbl, hat⟩ := HA.out (by omega)
      have hre := HRL.out.2 kk hlt
      rcases hek : hs[kk] with ⟨⟨v, k, s, t, r, xs, es, p, pay, ⟨⟩⟩, ar, ⟨⟩⟩
      rw [hek] at hre
      obtain ⟨c1, _, hseg, hm, _, _, rfl, ⟨rfl, har⟩, rfl⟩ := hre
      obtain ⟨A1, k1, A2, k2, rfl, -, -, hk, hs', ht, -⟩ := rep_med hm
      have hae := (hat.seg (kk * 10) 10)
      have hseg' : (news.drop (kk * 10)).take 10 = [.bool v, .int .i64 k, .int .i64 s, .int .i64 t, .int .i64 r, .slice A1 xs.length k1, .slice A2 es.length k2, .int .i64 p, .string pay, .int .i64 ar] := hseg
      have hx9 : (news.drop (kk * 10)).take 9 = [.bool v, .int .i64 k, .int .i64 s, .int .i64 t, .int .i64 r, .slice A1 xs.length k1, .slice A2 es.length k2, .int .i64 p, .string pay] := by
        have := congrArg (List.take 9) hseg'
        rw [List.take_take] at this
        exact this
      rw [hseg', Nat.zero_add] at hae
      have hae' := hae.frame (HB.out.block b hbl.1 hbl.2)
      have hc0 : wr.cell? ⟨b, kk * 10, none⟩ = some (.bool v) := (hae' 0 _ rfl).1
      have hc1 := (hae' 1 _ rfl).1
      have hc2 := (hae' 2 _ rfl).1
      have hc3 := (hae' 3 _ rfl).1
      have hc4 := (hae' 4 _ rfl).1
      have hc5 := (hae' 5 _ rfl).1
      have hc6 := (hae' 6 _ rfl).1
      have hc7 := (hae' 7 _ rfl).1
      have hc8 := (hae' 8 _ rfl).1
      have hc9 := (hae' 9 _ rfl).1
      have htbc : wr.cell? ⟨tb, 0, none⟩ = some (.slice (some ⟨b, 0, none⟩) hs.length c) := (HB.out.cell htb.1 htb.2).trans hB
      have hx0 : (wr.alloc (.cells #[.bool v, .int .i64 k, .int .i64 s, .int .i64 t, .int .i64 r, .slice A1 xs.length k1, .slice A2 es.length k2, .int .i64 p, .string pay, .int .i64 ar] 83)).heap.size = wr.heap.size + 1 := alloc_size _ _
      have HAt := Lib.hid hat
      have HX9 := Lib.hid hx9
      clear hae hae' hseg hseg' hm hat hx9
      have hJ1 : J pre (wr.alloc (.cells #[.bool v, .int .i64 k, .int .i64 s, .int .i64 t, .int .i64 r, .slice A1 xs.length k1, .slice A2 es.length k2, .int .i64 p, .string pay, .int .i64 ar] 83)) := HJ.out pre wr _ none HJs.out (World.grownBy_alloc _ _ _) (fun r e => by cases e)
      have M1 : Bk (wr.alloc (.cells #[.bool v, .int .i64 k, .int .i64 s, .int .i64 t, .int .i64 r, .slice A1 xs.length k1, .slice A2 es.length k2, .int .i64 p, .string pay, .int .i64 ar] 83)) wr.heap.size 83 [.bool v, .int .i64 k, .int .i64 s, .int .i64 t, .int .i64 r, .slice A1 xs.length k1, .slice A2 es.length k2, .int .i64 p, .string pay, .int .i64 ar] := Bk.new wr _ [.bool v, .int .i64 k, .int .i64 s, .int .i64 t, .int .i64 r, .slice A1 xs.length k1, .slice A2 es.length k2, .int .i64 p, .string pay, .int .i64 ar]
      have b1 : Keeps M W (wr.alloc (.cells #[.bool v, .int .i64 k, .int .i64 s, .int .i64 t, .int .i64 r, .slice A1 xs.length k1, .slice A2 es.length k2, .int .i64 p, .string pay, .int .i64 ar] 83)) := HB.out.trans ((keeps_below ((Below.refl _ wr).alloc (Nat.le_refl _) _)).mono fun x h1 h2 => absurd h1 (by omega))
      rcases Nat.eq_zero_or_pos kk with hk0 | hkp
      · subst hk0
        obtain ⟨fn, tmps, assign, body, hy, hR⟩ := HY.out pre ⟨v, k, s, t, r, A1, xs.length, k1, A2, es.length, k2, p, pay⟩ (wr.alloc (.cells #[.bool v, .int .i64 k, .int .i64 s, .int .i64 t, .int .i64 r, .slice A1 xs.length k1, .slice A2 es.length k2, .int .i64 p, .string pay, .int .i64 ar] 83)) hJ1 (by omega)
        simp only [MRow.encs] at hy
        have HR := Lib.hid hR
        have HB1 := Lib.hid b1
        clear hR b1 hJ1 M1
        gi_wp2
        refine HR.out.mono ?_
        rintro e W3 (⟨rfl, hJ3, hk3⟩ | ⟨rfl, hJx3⟩)
        · have HJ3 := Lib.hid hJ3
          have HK3 := Lib.hid hk3
          clear hJ3 hk3
          gi_wp2
          go_roundw
          case rel => exact ⟨1, pre ++ [⟨v, k, s, t, r, A1, xs.length, k1, A2, es.length, k2, p, pay⟩], by go_num, by omega, by simp [hpl], HRows.out.snoc (by rw [hpl]; exact HX9.out.symm), RunAt.one (by omega), HJ3.out, HB1.out.trans HK3.out⟩
          case measure => simp [intOf]; omega
        · have HJx := Lib.hid hJx3
          clear hJx3
          gi_wp2
          rw [Exit.noGoto_ret]
          refine bodyPost_ret (results_none rfl _ _ _) rfl ?_
          exact ⟨⟨_, rfl⟩, .inr ⟨_, trivial, HJx.out⟩⟩
      · have h0l : 0 < hs.length := by omega
        have h1l : kk - 1 < hs.length := by omega
        have hq0 := held_cells HRL.out HAt.out 0 h0l
        have hq1 := held_cells HRL.out HAt.out (kk - 1) h1l
        have hbt : b < wr.heap.size := by have := hbl.1; omega
        have b01 : Keeps M W (wr.alloc (.cells #[.bool v, .int .i64 k, .int .i64 s, .int .i64 t, .int .i64 r, .slice A1 xs.length k1, .slice A2 es.length k2, .int .i64 p, .string pay, .int .i64 ar] 83)).drew := HB.out.trans ((keeps_below ((Below.refl _ wr).alloc (Nat.le_refl _) (.cells #[.bool v, .int .i64 k, .int .i64 s, .int .i64 t, .int .i64 r, .slice A1 xs.length k1, .slice A2 es.length k2, .int .i64 p, .string pay, .int .i64 ar] 83)).drew).mono fun x h1 h2 => absurd h1 (by omega))
        have M1d := bk_drew M1
        generalize ht0 : stampOf hs[0].1 = t0 at hq0
        generalize hsp : seqOf hs[kk - 1].1 = sp at hq1
        generalize hvp : hs[kk - 1].1.1 = vp at hq1
        have HT0 := Lib.hid ht0
        have HSP := Lib.hid hsp
        have HVP := Lib.hid hvp
        have hS4 : (fun u => (u.cell? ⟨wr.heap.size, 2, none⟩ = some (.int .i64 s) ∧ u.cell? ⟨wr.heap.size, 3, none⟩ = some (.int .i64 t)) ∧ u.cell? ⟨tb, 0, none⟩ = some (.slice (some ⟨b, 0, none⟩) hs.length c) ∧ u.cell? ⟨b, 3, none⟩ = some (.int .i64 t0) ∧ u.cell? ⟨b, (kk - 1) * 10 + 2, none⟩ = some (.int .i64 sp) ∧ u.cell? ⟨b, (kk - 1) * 10, none⟩ = some (.bool vp)) (wr.alloc (.cells #[.bool v, .int .i64 k, .int .i64 s, .int .i64 t, .int .i64 r, .slice A1 xs.length k1, .slice A2 es.length k2, .int .i64 p, .string pay, .int .i64 ar] 83)).drew :=
          ⟨⟨M1d.cell 2 rfl, M1d.cell 3 rfl⟩, (b01.cell htb.1 htb.2).trans hB, (b01.cell hbl.1 hbl.2).trans hq0.2.2, (b01.cell hbl.1 hbl.2).trans hq1.2.1, (b01.cell hbl.1 hbl.2).trans hq1.1⟩
        have HS4 := Lib.hid hS4
        have hJ2 : J pre (wr.alloc (.cells #[.bool v, .int .i64 k, .int .i64 s, .int .i64 t, .int .i64 r, .slice A1 xs.length k1, .slice A2 es.length k2, .int .i64 p, .string pay, .int .i64 ar] 83)).drew := HJ.out pre _ _ none hJ1 ⟨rfl, rfl, rfl, Nat.le_refl _, fun _ _ _ => rfl⟩ (fun r e => by cases e)
        have hc5d := M1d.cell 0 rfl
        have HM1d := Lib.hid M1d
        have HJ2 := Lib.hid hJ2
        have HB01 := Lib.hid b01
        have hand : bits .and .i64 (wrap64 (sp + 1)) 65535 = (sp + 1) % 65536 := by rw [and16, wrap_mod16]
        have hand2 : bits .and .i64 (IntKind.i64.wrap (sp + 1)) 65535 = (sp + 1) % 65536 := by rw [show IntKind.i64.wrap (sp + 1) = wrap64 (sp + 1) by rw [IntKind.wrap_i64, wrap64]]; exact hand
        have hwk : IntKind.i64.wrap ((kk : Int) - 1) = (kk : Int) - 1 := wrap_id _ (by omega)
        have hkz : ((kk : Int) == 0) = false := by simp; omega
        have hkge : ¬ ((kk : Int) - 1 < 0) := by omega
        have hklt : (kk : Int) - 1 < (hs.length : Int) := by omega
        have hk1I : (1 : Int) ≤ (kk : Int) := by omega
        clear hq0 hq1 ht0 hsp hvp hS4 hJ2 hJ1 M1 M1d b1 b01 hc5d
        gi_wp2
        refine (wpIn_wide (n := 1)).2 ?_
        by_cases hqt : t = t0
        · have hqt2 : (t != t0) = false := by simp [hqt]
          by_cases hqs : s = (sp + 1) % 65536
          · have hqs2 : (s != (sp + 1) % 65536) = false := by simp [hqs]
            cases vp with
            | true =>
              refine wp_region_ord 34 [(0, true), (1, true), (2, true), (3, true), (4, true), (5, true), (6, true), (7, true), (8, true), (9, true), (10, true), (11, true), (12, true), (13, true), (14, true), (15, true), (16, true), (17, true), (18, true), (19, true), (20, true), (21, true), (22, true), (23, true), (24, true), (25, true), (26, true), (27, true), (28, true), (29, true), (30, true), (31, true), (32, true), (33, true)] (fun u => (u.cell? ⟨wr.heap.size, 2, none⟩ = some (.int .i64 s) ∧ u.cell? ⟨wr.heap.size, 3, none⟩ = some (.int .i64 t)) ∧ u.cell? ⟨tb, 0, none⟩ = some (.slice (some ⟨b, 0, none⟩) hs.length c) ∧ u.cell? ⟨b, 3, none⟩ = some (.int .i64 t0) ∧ u.cell? ⟨b, (kk - 1) * 10 + 2, none⟩ = some (.int .i64 sp) ∧ u.cell? ⟨b, (kk - 1) * 10, none⟩ = some (.bool true)) (by kernel_rfl) (by kernel_rfl) HS4.out ?_
              generalize (wr.alloc (.cells #[.bool v, .int .i64 k, .int .i64 s, .int .i64 t, .int .i64 r, .slice A1 xs.length k1, .slice A2 es.length k2, .int .i64 p, .string pay, .int .i64 ar] 83)).drew = wd at HS4 HB01 HJ2 HM1d ⊢
              refine ord_read (by rfl) (by rfl) (fun u hu => by (obtain ⟨⟨hu1, hu2⟩, hu3, hu4, hu5, hu6⟩ := hu; go_simp; try rfl)) ?_
              refine ord_read (by rfl) (by rfl) (fun u hu => by (obtain ⟨⟨hu1, hu2⟩, hu3, hu4, hu5, hu6⟩ := hu; go_simp; try rfl)) ?_
              refine ord_read (by rfl) (by rfl) (fun u hu => by (obtain ⟨⟨hu1, hu2⟩, hu3, hu4, hu5, hu6⟩ := hu; go_simp; try rfl)) ?_
              refine ord_read (by rfl) (by rfl) (fun u hu => by (obtain ⟨⟨hu1, hu2⟩, hu3, hu4, hu5, hu6⟩ := hu; go_simp; try rfl)) ?_
              simp only [Act.put, List.setIfInBounds_toArray, List.set_cons_zero, List.set_cons_succ, List.getElem_toArray, List.getElem_cons_succ, List.getElem_cons_zero]
              refine ord_read (by rfl) (by rfl) (fun u hu => by (obtain ⟨⟨hu1, hu2⟩, hu3, hu4, hu5, hu6⟩ := hu; go_simp; try rfl)) ?_
              refine ord_read (by rfl) (by rfl) (fun u hu => by (obtain ⟨⟨hu1, hu2⟩, hu3, hu4, hu5, hu6⟩ := hu; go_simp; try rfl)) ?_
              refine ord_read (by rfl) (by rfl) (fun u hu => by (obtain ⟨⟨hu1, hu2⟩, hu3, hu4, hu5, hu6⟩ := hu; go_simp; try rfl)) ?_
              refine ord_read (by rfl) (by rfl) (fun u hu => by (obtain ⟨⟨hu1, hu2⟩, hu3, hu4, hu5, hu6⟩ := hu; go_simp; try rfl)) ?_
              simp only [Act.put, List.setIfInBounds_toArray, List.set_cons_zero, List.set_cons_succ, List.getElem_toArray, List.getElem_cons_succ, List.getElem_cons_zero]
              refine ord_read (v := .bool false) (by rfl) (by rfl) (fun u hu => by (clear hu; go_simp; first | done | rfl | simp [hqt2])) ?_
              refine ord_read (by rfl) (by rfl) (fun u hu => by (obtain ⟨⟨hu1, hu2⟩, hu3, hu4, hu5, hu6⟩ := hu; go_simp; try rfl)) ?_
              refine ord_read (by rfl) (by rfl) (fun u hu => by (obtain ⟨⟨hu1, hu2⟩, hu3, hu4, hu5, hu6⟩ := hu; go_simp; try rfl)) ?_
              refine ord_read (by rfl) (by rfl) (fun u hu => by (obtain ⟨⟨hu1, hu2⟩, hu3, hu4, hu5, hu6⟩ := hu; go_simp; try rfl)) ?_
              simp only [Act.put, List.setIfInBounds_toArray, List.set_cons_zero, List.set_cons_succ, List.getElem_toArray, List.getElem_cons_succ, List.getElem_cons_zero]
              refine ord_read (by rfl) (by rfl) (fun u hu => by (obtain ⟨⟨hu1, hu2⟩, hu3, hu4, hu5, hu6⟩ := hu; go_simp; try rfl)) ?_
              refine ord_read (by rfl) (by rfl) (fun u hu => by (obtain ⟨⟨hu1, hu2⟩, hu3, hu4, hu5, hu6⟩ := hu; go_simp; try rfl)) ?_
              refine ord_read (by rfl) (by rfl) (fun u hu => by (obtain ⟨⟨hu1, hu2⟩, hu3, hu4, hu5, hu6⟩ := hu; go_simp; try rfl)) ?_
              refine ord_read (by rfl) (by rfl) (fun u hu => by (obtain ⟨⟨hu1, hu2⟩, hu3, hu4, hu5, hu6⟩ := hu; go_simp; try rfl)) ?_
              simp only [Act.put, List.setIfInBounds_toArray, List.set_cons_zero, List.set_cons_succ, List.getElem_toArray, List.getElem_cons_succ, List.getElem_cons_zero]
              refine ord_read (by rfl) (by rfl) (fun u hu => by (obtain ⟨⟨hu1, hu2⟩, hu3, hu4, hu5, hu6⟩ := hu; go_simp; try rfl)) ?_
              refine ord_read (by rfl) (by rfl) (fun u hu => by (obtain ⟨⟨hu1, hu2⟩, hu3, hu4, hu5, hu6⟩ := hu; go_simp; try rfl)) ?_
              refine ord_read (by rfl) (by rfl) (fun u hu => by (obtain ⟨⟨hu1, hu2⟩, hu3, hu4, hu5, hu6⟩ := hu; go_simp; try rfl)) ?_
              refine ord_read (by rfl) (by rfl) (fun u hu => by (obtain ⟨⟨hu1, hu2⟩, hu3, hu4, hu5, hu6⟩ := hu; go_simp; try rfl)) ?_
              simp only [Act.put, List.setIfInBounds_toArray, List.set_cons_zero, List.set_cons_succ, List.getElem_toArray, List.getElem_cons_succ, List.getElem_cons_zero]
              refine ord_read (by rfl) (by rfl) (fun u hu => by (obtain ⟨⟨hu1, hu2⟩, hu3, hu4, hu5, hu6⟩ := hu; go_simp; try rfl)) ?_
              refine ord_read (v := .int .i64 ((sp + 1) % 65536)) (by rfl) (by rfl) (fun u hu => by (clear hu; go_simp; first | done | rfl | (simp only [hand]; done) | simp [hand])) ?_
              refine ord_read (v := .bool false) (by rfl) (by rfl) (fun u hu => by (clear hu; go_simp; first | done | rfl | simp [hqs2])) ?_
              refine ord_read (by rfl) (by rfl) (fun u hu => by (obtain ⟨⟨hu1, hu2⟩, hu3, hu4, hu5, hu6⟩ := hu; go_simp; try rfl)) ?_
              simp only [Act.put, List.setIfInBounds_toArray, List.set_cons_zero, List.set_cons_succ, List.getElem_toArray, List.getElem_cons_succ, List.getElem_cons_zero]
              refine ord_read (by rfl) (by rfl) (fun u hu => by (obtain ⟨⟨hu1, hu2⟩, hu3, hu4, hu5, hu6⟩ := hu; go_simp; try rfl)) ?_
              refine ord_read (by rfl) (by rfl) (fun u hu => by (obtain ⟨⟨hu1, hu2⟩, hu3, hu4, hu5, hu6⟩ := hu; go_simp; try rfl)) ?_
              refine ord_read (by rfl) (by rfl) (fun u hu => by (obtain ⟨⟨hu1, hu2⟩, hu3, hu4, hu5, hu6⟩ := hu; go_simp; try rfl)) ?_
              refine ord_read (by rfl) (by rfl) (fun u hu => by (obtain ⟨⟨hu1, hu2⟩, hu3, hu4, hu5, hu6⟩ := hu; go_simp; try rfl)) ?_
              simp only [Act.put, List.setIfInBounds_toArray, List.set_cons_zero, List.set_cons_succ, List.getElem_toArray, List.getElem_cons_succ, List.getElem_cons_zero]
              refine ord_read (by rfl) (by rfl) (fun u hu => by (obtain ⟨⟨hu1, hu2⟩, hu3, hu4, hu5, hu6⟩ := hu; go_simp; try rfl)) ?_
              refine ord_read (by rfl) (by rfl) (fun u hu => by (obtain ⟨⟨hu1, hu2⟩, hu3, hu4, hu5, hu6⟩ := hu; go_simp; try rfl)) ?_
              refine ord_read (by rfl) (by rfl) (fun u hu => by (obtain ⟨⟨hu1, hu2⟩, hu3, hu4, hu5, hu6⟩ := hu; go_simp; try rfl)) ?_
              refine ord_read (by rfl) (by rfl) (fun u hu => by (obtain ⟨⟨hu1, hu2⟩, hu3, hu4, hu5, hu6⟩ := hu; go_simp; try rfl)) ?_
              simp only [Act.put, List.setIfInBounds_toArray, List.set_cons_zero, List.set_cons_succ, List.getElem_toArray, List.getElem_cons_succ, List.getElem_cons_zero]
              refine ord_read (by rfl) (by rfl) (fun u hu => by (obtain ⟨⟨hu1, hu2⟩, hu3, hu4, hu5, hu6⟩ := hu; go_simp; try rfl)) ?_
              refine ord_read (by rfl) (by rfl) (fun u hu => by (obtain ⟨⟨hu1, hu2⟩, hu3, hu4, hu5, hu6⟩ := hu; go_simp; try rfl)) ?_
              refine ord_nil ?_
              try simp only [List.drop_succ_cons, List.drop_zero, Act.put, List.setIfInBounds_toArray, List.set_cons_zero, List.set_cons_succ, List.getElem_toArray, List.getElem_cons_succ, List.getElem_cons_zero]
              refine NoPanic.normal ?_
              gi_wp2
              rw [Exit.noGoto_normal]
              go_end0
              exact ⟨⟨_, rfl⟩, .inl ⟨pre, ⟨(by rw [hpl]; refine (HRun.out.stop hkp hlt h0l h1l ?_).symm; rintro ⟨h1, h2, h3⟩; rw [HVP.out] at h3; cases h3), HRows.out⟩, HJ2.out⟩⟩
            | false =>
              refine wp_region_ord 34 [(0, true), (1, true), (2, true), (3, true), (4, true), (5, true), (6, true), (7, true), (8, true), (9, true), (10, true), (11, true), (12, true), (13, true), (14, true), (15, true), (16, true), (17, true), (18, true), (19, true), (20, true), (21, true), (22, true), (23, true), (24, true), (25, true), (26, true), (27, true), (28, true), (29, true), (30, true), (31, true), (32, true), (33, true)] (fun u => (u.cell? ⟨wr.heap.size, 2, none⟩ = some (.int .i64 s) ∧ u.cell? ⟨wr.heap.size, 3, none⟩ = some (.int .i64 t)) ∧ u.cell? ⟨tb, 0, none⟩ = some (.slice (some ⟨b, 0, none⟩) hs.length c) ∧ u.cell? ⟨b, 3, none⟩ = some (.int .i64 t0) ∧ u.cell? ⟨b, (kk - 1) * 10 + 2, none⟩ = some (.int .i64 sp) ∧ u.cell? ⟨b, (kk - 1) * 10, none⟩ = some (.bool false)) (by kernel_rfl) (by kernel_rfl) HS4.out ?_
              generalize (wr.alloc (.cells #[.bool v, .int .i64 k, .int .i64 s, .int .i64 t, .int .i64 r, .slice A1 xs.length k1, .slice A2 es.length k2, .int .i64 p, .string pay, .int .i64 ar] 83)).drew = wd at HS4 HB01 HJ2 HM1d ⊢
              refine ord_read (by rfl) (by rfl) (fun u hu => by (obtain ⟨⟨hu1, hu2⟩, hu3, hu4, hu5, hu6⟩ := hu; go_simp; try rfl)) ?_
              refine ord_read (by rfl) (by rfl) (fun u hu => by (obtain ⟨⟨hu1, hu2⟩, hu3, hu4, hu5, hu6⟩ := hu; go_simp; try rfl)) ?_
              refine ord_read (by rfl) (by rfl) (fun u hu => by (obtain ⟨⟨hu1, hu2⟩, hu3, hu4, hu5, hu6⟩ := hu; go_simp; try rfl)) ?_
              refine ord_read (by rfl) (by rfl) (fun u hu => by (obtain ⟨⟨hu1, hu2⟩, hu3, hu4, hu5, hu6⟩ := hu; go_simp; try rfl)) ?_
              simp only [Act.put, List.setIfInBounds_toArray, List.set_cons_zero, List.set_cons_succ, List.getElem_toArray, List.getElem_cons_succ, List.getElem_cons_zero]
              refine ord_read (by rfl) (by rfl) (fun u hu => by (obtain ⟨⟨hu1, hu2⟩, hu3, hu4, hu5, hu6⟩ := hu; go_simp; try rfl)) ?_
              refine ord_read (by rfl) (by rfl) (fun u hu => by (obtain ⟨⟨hu1, hu2⟩, hu3, hu4, hu5, hu6⟩ := hu; go_simp; try rfl)) ?_
              refine ord_read (by rfl) (by rfl) (fun u hu => by (obtain ⟨⟨hu1, hu2⟩, hu3, hu4, hu5, hu6⟩ := hu; go_simp; try rfl)) ?_
              refine ord_read (by rfl) (by rfl) (fun u hu => by (obtain ⟨⟨hu1, hu2⟩, hu3, hu4, hu5, hu6⟩ := hu; go_simp; try rfl)) ?_
              simp only [Act.put, List.setIfInBounds_toArray, List.set_cons_zero, List.set_cons_succ, List.getElem_toArray, List.getElem_cons_succ, List.getElem_cons_zero]
              refine ord_read (v := .bool false) (by rfl) (by rfl) (fun u hu => by (clear hu; go_simp; first | done | rfl | simp [hqt2])) ?_
              refine ord_read (by rfl) (by rfl) (fun u hu => by (obtain ⟨⟨hu1, hu2⟩, hu3, hu4, hu5, hu6⟩ := hu; go_simp; try rfl)) ?_
              refine ord_read (by rfl) (by rfl) (fun u hu => by (obtain ⟨⟨hu1, hu2⟩, hu3, hu4, hu5, hu6⟩ := hu; go_simp; try rfl)) ?_
              refine ord_read (by rfl) (by rfl) (fun u hu => by (obtain ⟨⟨hu1, hu2⟩, hu3, hu4, hu5, hu6⟩ := hu; go_simp; try rfl)) ?_
              simp only [Act.put, List.setIfInBounds_toArray, List.set_cons_zero, List.set_cons_succ, List.getElem_toArray, List.getElem_cons_succ, List.getElem_cons_zero]
              refine ord_read (by rfl) (by rfl) (fun u hu => by (obtain ⟨⟨hu1, hu2⟩, hu3, hu4, hu5, hu6⟩ := hu; go_simp; try rfl)) ?_
              refine ord_read (by rfl) (by rfl) (fun u hu => by (obtain ⟨⟨hu1, hu2⟩, hu3, hu4, hu5, hu6⟩ := hu; go_simp; try rfl)) ?_
              refine ord_read (by rfl) (by rfl) (fun u hu => by (obtain ⟨⟨hu1, hu2⟩, hu3, hu4, hu5, hu6⟩ := hu; go_simp; try rfl)) ?_
              refine ord_read (by rfl) (by rfl) (fun u hu => by (obtain ⟨⟨hu1, hu2⟩, hu3, hu4, hu5, hu6⟩ := hu; go_simp; try rfl)) ?_
              simp only [Act.put, List.setIfInBounds_toArray, List.set_cons_zero, List.set_cons_succ, List.getElem_toArray, List.getElem_cons_succ, List.getElem_cons_zero]
              refine ord_read (by rfl) (by rfl) (fun u hu => by (obtain ⟨⟨hu1, hu2⟩, hu3, hu4, hu5, hu6⟩ := hu; go_simp; try rfl)) ?_
              refine ord_read (by rfl) (by rfl) (fun u hu => by (obtain ⟨⟨hu1, hu2⟩, hu3, hu4, hu5, hu6⟩ := hu; go_simp; try rfl)) ?_
              refine ord_read (by rfl) (by rfl) (fun u hu => by (obtain ⟨⟨hu1, hu2⟩, hu3, hu4, hu5, hu6⟩ := hu; go_simp; try rfl)) ?_
              refine ord_read (by rfl) (by rfl) (fun u hu => by (obtain ⟨⟨hu1, hu2⟩, hu3, hu4, hu5, hu6⟩ := hu; go_simp; try rfl)) ?_
              simp only [Act.put, List.setIfInBounds_toArray, List.set_cons_zero, List.set_cons_succ, List.getElem_toArray, List.getElem_cons_succ, List.getElem_cons_zero]
              refine ord_read (by rfl) (by rfl) (fun u hu => by (obtain ⟨⟨hu1, hu2⟩, hu3, hu4, hu5, hu6⟩ := hu; go_simp; try rfl)) ?_
              refine ord_read (v := .int .i64 ((sp + 1) % 65536)) (by rfl) (by rfl) (fun u hu => by (clear hu; go_simp; first | done | rfl | (simp only [hand]; done) | simp [hand])) ?_
              refine ord_read (v := .bool false) (by rfl) (by rfl) (fun u hu => by (clear hu; go_simp; first | done | rfl | simp [hqs2])) ?_
              refine ord_read (by rfl) (by rfl) (fun u hu => by (obtain ⟨⟨hu1, hu2⟩, hu3, hu4, hu5, hu6⟩ := hu; go_simp; try rfl)) ?_
              simp only [Act.put, List.setIfInBounds_toArray, List.set_cons_zero, List.set_cons_succ, List.getElem_toArray, List.getElem_cons_succ, List.getElem_cons_zero]
              refine ord_read (by rfl) (by rfl) (fun u hu => by (obtain ⟨⟨hu1, hu2⟩, hu3, hu4, hu5, hu6⟩ := hu; go_simp; try rfl)) ?_
              refine ord_read (by rfl) (by rfl) (fun u hu => by (obtain ⟨⟨hu1, hu2⟩, hu3, hu4, hu5, hu6⟩ := hu; go_simp; try rfl)) ?_
              refine ord_read (by rfl) (by rfl) (fun u hu => by (obtain ⟨⟨hu1, hu2⟩, hu3, hu4, hu5, hu6⟩ := hu; go_simp; try rfl)) ?_
              refine ord_read (by rfl) (by rfl) (fun u hu => by (obtain ⟨⟨hu1, hu2⟩, hu3, hu4, hu5, hu6⟩ := hu; go_simp; try rfl)) ?_
              simp only [Act.put, List.setIfInBounds_toArray, List.set_cons_zero, List.set_cons_succ, List.getElem_toArray, List.getElem_cons_succ, List.getElem_cons_zero]
              refine ord_read (by rfl) (by rfl) (fun u hu => by (obtain ⟨⟨hu1, hu2⟩, hu3, hu4, hu5, hu6⟩ := hu; go_simp; try rfl)) ?_
              refine ord_read (by rfl) (by rfl) (fun u hu => by (obtain ⟨⟨hu1, hu2⟩, hu3, hu4, hu5, hu6⟩ := hu; go_simp; try rfl)) ?_
              refine ord_read (by rfl) (by rfl) (fun u hu => by (obtain ⟨⟨hu1, hu2⟩, hu3, hu4, hu5, hu6⟩ := hu; go_simp; try rfl)) ?_
              refine ord_read (by rfl) (by rfl) (fun u hu => by (obtain ⟨⟨hu1, hu2⟩, hu3, hu4, hu5, hu6⟩ := hu; go_simp; try rfl)) ?_
              simp only [Act.put, List.setIfInBounds_toArray, List.set_cons_zero, List.set_cons_succ, List.getElem_toArray, List.getElem_cons_succ, List.getElem_cons_zero]
              refine ord_read (by rfl) (by rfl) (fun u hu => by (obtain ⟨⟨hu1, hu2⟩, hu3, hu4, hu5, hu6⟩ := hu; go_simp; try rfl)) ?_
              refine ord_read (by rfl) (by rfl) (fun u hu => by (obtain ⟨⟨hu1, hu2⟩, hu3, hu4, hu5, hu6⟩ := hu; go_simp; try rfl)) ?_
              refine ord_nil ?_
              try simp only [List.drop_succ_cons, List.drop_zero, Act.put, List.setIfInBounds_toArray, List.set_cons_zero, List.set_cons_succ, List.getElem_toArray, List.getElem_cons_succ, List.getElem_cons_zero]
              refine NoPanic.normal ?_
              obtain ⟨fn, tmps, assign, body, hy, hR⟩ := HY.out pre ⟨v, k, s, t, r, A1, xs.length, k1, A2, es.length, k2, p, pay⟩ wd HJ2.out (by omega)
              simp only [MRow.encs] at hy
              have HR := Lib.hid hR
              have hm0 := HM1d.out.cell 0 rfl
              have hm1 := HM1d.out.cell 1 rfl
              have hm2 := HM1d.out.cell 2 rfl
              have hm3 := HM1d.out.cell 3 rfl
              have hm4 := HM1d.out.cell 4 rfl
              have hm5 := HM1d.out.cell 5 rfl
              have hm6 := HM1d.out.cell 6 rfl
              have hm7 := HM1d.out.cell 7 rfl
              have hm8 := HM1d.out.cell 8 rfl
              have HQT := Lib.hid hqt
              have HQS := Lib.hid hqs
              clear hR hqt hqs hqt2 hqs2
              gi_wp2
              refine HR.out.mono ?_
              rintro e W3 (⟨rfl, hJ3, hk3⟩ | ⟨rfl, hJx3⟩)
              · have HJ3 := Lib.hid hJ3
                have HK3 := Lib.hid hk3
                clear hJ3 hk3
                gi_wp2
                go_roundw
                case rel => exact ⟨kk + 1, pre ++ [⟨v, k, s, t, r, A1, xs.length, k1, A2, es.length, k2, p, pay⟩], by go_num, by omega, by simp [hpl], HRows.out.snoc (by rw [hpl]; exact HX9.out.symm), (HRun.out.next hkp hlt h0l h1l (by rw [hek, HT0.out]; exact HQT.out) (by rw [hek, HSP.out]; exact HQS.out) HVP.out), HJ3.out, HB01.out.trans HK3.out⟩
                case measure => simp [intOf]; omega
              · have HJx := Lib.hid hJx3
                clear hJx3
                gi_wp2
                rw [Exit.noGoto_ret]
                refine bodyPost_ret (results_none rfl _ _ _) rfl ?_
                exact ⟨⟨_, rfl⟩, .inr ⟨_, trivial, HJx.out⟩⟩
          · have hqs2 : (s != (sp + 1) % 65536) = true := by simp [hqs]
            refine wp_region_ord 34 [(0, true), (1, true), (2, true), (3, true), (4, true), (5, true), (6, true), (7, true), (8, true), (9, true), (10, true), (11, true), (12, true), (13, true), (14, true), (15, true), (16, true), (17, true), (18, true), (19, true), (20, true), (21, true), (22, true), (23, true), (24, true), (25, true), (26, true), (27, true), (28, true), (29, true), (30, true), (31, true), (32, true), (33, true)] (fun u => (u.cell? ⟨wr.heap.size, 2, none⟩ = some (.int .i64 s) ∧ u.cell? ⟨wr.heap.size, 3, none⟩ = some (.int .i64 t)) ∧ u.cell? ⟨tb, 0, none⟩ = some (.slice (some ⟨b, 0, none⟩) hs.length c) ∧ u.cell? ⟨b, 3, none⟩ = some (.int .i64 t0) ∧ u.cell? ⟨b, (kk - 1) * 10 + 2, none⟩ = some (.int .i64 sp) ∧ u.cell? ⟨b, (kk - 1) * 10, none⟩ = some (.bool vp)) (by kernel_rfl) (by kernel_rfl) HS4.out ?_
            generalize (wr.alloc (.cells #[.bool v, .int .i64 k, .int .i64 s, .int .i64 t, .int .i64 r, .slice A1 xs.length k1, .slice A2 es.length k2, .int .i64 p, .string pay, .int .i64 ar] 83)).drew = wd at HS4 HB01 HJ2 HM1d ⊢
            refine ord_read (by rfl) (by rfl) (fun u hu => by (obtain ⟨⟨hu1, hu2⟩, hu3, hu4, hu5, hu6⟩ := hu; go_simp; try rfl)) ?_
            refine ord_read (by rfl) (by rfl) (fun u hu => by (obtain ⟨⟨hu1, hu2⟩, hu3, hu4, hu5, hu6⟩ := hu; go_simp; try rfl)) ?_
            refine ord_read (by rfl) (by rfl) (fun u hu => by (obtain ⟨⟨hu1, hu2⟩, hu3, hu4, hu5, hu6⟩ := hu; go_simp; try rfl)) ?_
            refine ord_read (by rfl) (by rfl) (fun u hu => by (obtain ⟨⟨hu1, hu2⟩, hu3, hu4, hu5, hu6⟩ := hu; go_simp; try rfl)) ?_
            simp only [Act.put, List.setIfInBounds_toArray, List.set_cons_zero, List.set_cons_succ, List.getElem_toArray, List.getElem_cons_succ, List.getElem_cons_zero]
            refine ord_read (by rfl) (by rfl) (fun u hu => by (obtain ⟨⟨hu1, hu2⟩, hu3, hu4, hu5, hu6⟩ := hu; go_simp; try rfl)) ?_
            refine ord_read (by rfl) (by rfl) (fun u hu => by (obtain ⟨⟨hu1, hu2⟩, hu3, hu4, hu5, hu6⟩ := hu; go_simp; try rfl)) ?_
            refine ord_read (by rfl) (by rfl) (fun u hu => by (obtain ⟨⟨hu1, hu2⟩, hu3, hu4, hu5, hu6⟩ := hu; go_simp; try rfl)) ?_
            refine ord_read (by rfl) (by rfl) (fun u hu => by (obtain ⟨⟨hu1, hu2⟩, hu3, hu4, hu5, hu6⟩ := hu; go_simp; try rfl)) ?_
            simp only [Act.put, List.setIfInBounds_toArray, List.set_cons_zero, List.set_cons_succ, List.getElem_toArray, List.getElem_cons_succ, List.getElem_cons_zero]
            refine ord_read (v := .bool false) (by rfl) (by rfl) (fun u hu => by (clear hu; go_simp; first | done | rfl | simp [hqt2])) ?_
            refine ord_read (by rfl) (by rfl) (fun u hu => by (obtain ⟨⟨hu1, hu2⟩, hu3, hu4, hu5, hu6⟩ := hu; go_simp; try rfl)) ?_
            refine ord_read (by rfl) (by rfl) (fun u hu => by (obtain ⟨⟨hu1, hu2⟩, hu3, hu4, hu5, hu6⟩ := hu; go_simp; try rfl)) ?_
            refine ord_read (by rfl) (by rfl) (fun u hu => by (obtain ⟨⟨hu1, hu2⟩, hu3, hu4, hu5, hu6⟩ := hu; go_simp; try rfl)) ?_
            simp only [Act.put, List.setIfInBounds_toArray, List.set_cons_zero, List.set_cons_succ, List.getElem_toArray, List.getElem_cons_succ, List.getElem_cons_zero]
            refine ord_read (by rfl) (by rfl) (fun u hu => by (obtain ⟨⟨hu1, hu2⟩, hu3, hu4, hu5, hu6⟩ := hu; go_simp; try rfl)) ?_
            refine ord_read (by rfl) (by rfl) (fun u hu => by (obtain ⟨⟨hu1, hu2⟩, hu3, hu4, hu5, hu6⟩ := hu; go_simp; try rfl)) ?_
            refine ord_read (by rfl) (by rfl) (fun u hu => by (obtain ⟨⟨hu1, hu2⟩, hu3, hu4, hu5, hu6⟩ := hu; go_simp; try rfl)) ?_
            refine ord_read (by rfl) (by rfl) (fun u hu => by (obtain ⟨⟨hu1, hu2⟩, hu3, hu4, hu5, hu6⟩ := hu; go_simp; try rfl)) ?_
            simp only [Act.put, List.setIfInBounds_toArray, List.set_cons_zero, List.set_cons_succ, List.getElem_toArray, List.getElem_cons_succ, List.getElem_cons_zero]
            refine ord_read (by rfl) (by rfl) (fun u hu => by (obtain ⟨⟨hu1, hu2⟩, hu3, hu4, hu5, hu6⟩ := hu; go_simp; try rfl)) ?_
            refine ord_read (by rfl) (by rfl) (fun u hu => by (obtain ⟨⟨hu1, hu2⟩, hu3, hu4, hu5, hu6⟩ := hu; go_simp; try rfl)) ?_
            refine ord_read (by rfl) (by rfl) (fun u hu => by (obtain ⟨⟨hu1, hu2⟩, hu3, hu4, hu5, hu6⟩ := hu; go_simp; try rfl)) ?_
            refine ord_read (by rfl) (by rfl) (fun u hu => by (obtain ⟨⟨hu1, hu2⟩, hu3, hu4, hu5, hu6⟩ := hu; go_simp; try rfl)) ?_
            simp only [Act.put, List.setIfInBounds_toArray, List.set_cons_zero, List.set_cons_succ, List.getElem_toArray, List.getElem_cons_succ, List.getElem_cons_zero]
            refine ord_read (by rfl) (by rfl) (fun u hu => by (obtain ⟨⟨hu1, hu2⟩, hu3, hu4, hu5, hu6⟩ := hu; go_simp; try rfl)) ?_
            refine ord_read (v := .int .i64 ((sp + 1) % 65536)) (by rfl) (by rfl) (fun u hu => by (clear hu; go_simp; first | done | rfl | (simp only [hand]; done) | simp [hand])) ?_
            refine ord_read (v := .bool true) (by rfl) (by rfl) (fun u hu => by (clear hu; go_simp; first | done | rfl | simp [hqs2])) ?_
            refine ord_read (by rfl) (by rfl) (fun u hu => by (obtain ⟨⟨hu1, hu2⟩, hu3, hu4, hu5, hu6⟩ := hu; go_simp; try rfl)) ?_
            simp only [Act.put, List.setIfInBounds_toArray, List.set_cons_zero, List.set_cons_succ, List.getElem_toArray, List.getElem_cons_succ, List.getElem_cons_zero]
            refine ord_read (by rfl) (by rfl) (fun u hu => by (obtain ⟨⟨hu1, hu2⟩, hu3, hu4, hu5, hu6⟩ := hu; go_simp; try rfl)) ?_
            refine ord_skip (by rfl) (by rfl) ?_
            refine ord_skip (by rfl) (by rfl) ?_
            refine ord_skip (by rfl) (by rfl) ?_
            simp only [Act.put, List.setIfInBounds_toArray, List.set_cons_zero, List.set_cons_succ, List.getElem_toArray, List.getElem_cons_succ, List.getElem_cons_zero]
            refine ord_skip (by rfl) (by rfl) ?_
            refine ord_skip (by rfl) (by rfl) ?_
            refine ord_skip (by rfl) (by rfl) ?_
            refine ord_skip (by rfl) (by rfl) ?_
            simp only [Act.put, List.setIfInBounds_toArray, List.set_cons_zero, List.set_cons_succ, List.getElem_toArray, List.getElem_cons_succ, List.getElem_cons_zero]
            refine ord_read (by rfl) (by rfl) (fun u hu => by (obtain ⟨⟨hu1, hu2⟩, hu3, hu4, hu5, hu6⟩ := hu; go_simp; try rfl)) ?_
            refine ord_read (by rfl) (by rfl) (fun u hu => by (obtain ⟨⟨hu1, hu2⟩, hu3, hu4, hu5, hu6⟩ := hu; go_simp; try rfl)) ?_
            refine ord_nil ?_
            try simp only [List.drop_succ_cons, List.drop_zero, Act.put, List.setIfInBounds_toArray, List.set_cons_zero, List.set_cons_succ, List.getElem_toArray, List.getElem_cons_succ, List.getElem_cons_zero]
            refine NoPanic.normal ?_
            gi_wp2
            rw [Exit.noGoto_normal]
            go_end0
            exact ⟨⟨_, rfl⟩, .inl ⟨pre, ⟨(by rw [hpl]; refine (HRun.out.stop hkp hlt h0l h1l ?_).symm; rintro ⟨h1, h2, h3⟩; rw [hek, HSP.out] at h2; exact hqs h2), HRows.out⟩, HJ2.out⟩⟩
        · have hqt2 : (t != t0) = true := by simp [hqt]
          refine wp_region_ord 34 [(0, true), (1, true), (2, true), (3, true), (4, true), (5, true), (6, true), (7, true), (8, true), (9, true), (10, true), (11, true), (12, true), (13, true), (14, true), (15, true), (16, true), (17, true), (18, true), (19, true), (20, true), (21, true), (22, true), (23, true), (24, true), (25, true), (26, true), (27, true), (28, true), (29, true), (30, true), (31, true), (32, true), (33, true)] (fun u => (u.cell? ⟨wr.heap.size, 2, none⟩ = some (.int .i64 s) ∧ u.cell? ⟨wr.heap.size, 3, none⟩ = some (.int .i64 t)) ∧ u.cell? ⟨tb, 0, none⟩ = some (.slice (some ⟨b, 0, none⟩) hs.length c) ∧ u.cell? ⟨b, 3, none⟩ = some (.int .i64 t0) ∧ u.cell? ⟨b, (kk - 1) * 10 + 2, none⟩ = some (.int .i64 sp) ∧ u.cell? ⟨b, (kk - 1) * 10, none⟩ = some (.bool vp)) (by kernel_rfl) (by kernel_rfl) HS4.out ?_
          generalize (wr.alloc (.cells #[.bool v, .int .i64 k, .int .i64 s, .int .i64 t, .int .i64 r, .slice A1 xs.length k1, .slice A2 es.length k2, .int .i64 p, .string pay, .int .i64 ar] 83)).drew = wd at HS4 HB01 HJ2 HM1d ⊢
          refine ord_read (by rfl) (by rfl) (fun u hu => by (obtain ⟨⟨hu1, hu2⟩, hu3, hu4, hu5, hu6⟩ := hu; go_simp; try rfl)) ?_
          refine ord_read (by rfl) (by rfl) (fun u hu => by (obtain ⟨⟨hu1, hu2⟩, hu3, hu4, hu5, hu6⟩ := hu; go_simp; try rfl)) ?_
          refine ord_read (by rfl) (by rfl) (fun u hu => by (obtain ⟨⟨hu1, hu2⟩, hu3, hu4, hu5, hu6⟩ := hu; go_simp; try rfl)) ?_
          refine ord_read (by rfl) (by rfl) (fun u hu => by (obtain ⟨⟨hu1, hu2⟩, hu3, hu4, hu5, hu6⟩ := hu; go_simp; try rfl)) ?_
          simp only [Act.put, List.setIfInBounds_toArray, List.set_cons_zero, List.set_cons_succ, List.getElem_toArray, List.getElem_cons_succ, List.getElem_cons_zero]
          refine ord_read (by rfl) (by rfl) (fun u hu => by (obtain ⟨⟨hu1, hu2⟩, hu3, hu4, hu5, hu6⟩ := hu; go_simp; try rfl)) ?_
          refine ord_read (by rfl) (by rfl) (fun u hu => by (obtain ⟨⟨hu1, hu2⟩, hu3, hu4, hu5, hu6⟩ := hu; go_simp; try rfl)) ?_
          refine ord_read (by rfl) (by rfl) (fun u hu => by (obtain ⟨⟨hu1, hu2⟩, hu3, hu4, hu5, hu6⟩ := hu; go_simp; try rfl)) ?_
          refine ord_read (by rfl) (by rfl) (fun u hu => by (obtain ⟨⟨hu1, hu2⟩, hu3, hu4, hu5, hu6⟩ := hu; go_simp; try rfl)) ?_
          simp only [Act.put, List.setIfInBounds_toArray, List.set_cons_zero, List.set_cons_succ, List.getElem_toArray, List.getElem_cons_succ, List.getElem_cons_zero]
          refine ord_read (v := .bool true) (by rfl) (by rfl) (fun u hu => by (clear hu; go_simp; first | done | rfl | simp [hqt2])) ?_
          refine ord_read (by rfl) (by rfl) (fun u hu => by (obtain ⟨⟨hu1, hu2⟩, hu3, hu4, hu5, hu6⟩ := hu; go_simp; try rfl)) ?_
          refine ord_skip (by rfl) (by rfl) ?_
          refine ord_skip (by rfl) (by rfl) ?_
          simp only [Act.put, List.setIfInBounds_toArray, List.set_cons_zero, List.set_cons_succ, List.getElem_toArray, List.getElem_cons_succ, List.getElem_cons_zero]
          refine ord_skip (by rfl) (by rfl) ?_
          refine ord_skip (by rfl) (by rfl) ?_
          refine ord_skip (by rfl) (by rfl) ?_
          refine ord_skip (by rfl) (by rfl) ?_
          simp only [Act.put, List.setIfInBounds_toArray, List.set_cons_zero, List.set_cons_succ, List.getElem_toArray, List.getElem_cons_succ, List.getElem_cons_zero]
          refine ord_skip (by rfl) (by rfl) ?_
          refine ord_skip (by rfl) (by rfl) ?_
          refine ord_skip (by rfl) (by rfl) ?_
          refine ord_skip (by rfl) (by rfl) ?_
          simp only [Act.put, List.setIfInBounds_toArray, List.set_cons_zero, List.set_cons_succ, List.getElem_toArray, List.getElem_cons_succ, List.getElem_cons_zero]
          refine ord_skip (by rfl) (by rfl) ?_
          refine ord_skip (by rfl) (by rfl) ?_
          refine ord_skip (by rfl) (by rfl) ?_
          refine ord_read (by rfl) (by rfl) (fun u hu => by (obtain ⟨⟨hu1, hu2⟩, hu3, hu4, hu5, hu6⟩ := hu; go_simp; try rfl)) ?_
          simp only [Act.put, List.setIfInBounds_toArray, List.set_cons_zero, List.set_cons_succ, List.getElem_toArray, List.getElem_cons_succ, List.getElem_cons_zero]
          refine ord_read (by rfl) (by rfl) (fun u hu => by (obtain ⟨⟨hu1, hu2⟩, hu3, hu4, hu5, hu6⟩ := hu; go_simp; try rfl)) ?_
          refine ord_skip (by rfl) (by rfl) ?_
          refine ord_skip (by rfl) (by rfl) ?_
          refine ord_skip (by rfl) (by rfl) ?_
          simp only [Act.put, List.setIfInBounds_toArray, List.set_cons_zero, List.set_cons_succ, List.getElem_toArray, List.getElem_cons_succ, List.getElem_cons_zero]
          refine ord_skip (by rfl) (by rfl) ?_
          refine ord_skip (by rfl) (by rfl) ?_
          refine ord_skip (by rfl) (by rfl) ?_
          refine ord_skip (by rfl) (by rfl) ?_
          simp only [Act.put, List.setIfInBounds_toArray, List.set_cons_zero, List.set_cons_succ, List.getElem_toArray, List.getElem_cons_succ, List.getElem_cons_zero]
          refine ord_read (by rfl) (by rfl) (fun u hu => by (obtain ⟨⟨hu1, hu2⟩, hu3, hu4, hu5, hu6⟩ := hu; go_simp; try rfl)) ?_
          refine ord_read (by rfl) (by rfl) (fun u hu => by (obtain ⟨⟨hu1, hu2⟩, hu3, hu4, hu5, hu6⟩ := hu; go_simp; try rfl)) ?_
          refine ord_nil ?_
          try simp only [List.drop_succ_cons, List.drop_zero, Act.put, List.setIfInBounds_toArray, List.set_cons_zero, List.set_cons_succ, List.getElem_toArray, List.getElem_cons_succ, List.getElem_cons_zero]
          refine NoPanic.normal ?_
          gi_wp2
          rw [Exit.noGoto_normal]
          go_end0
          exact ⟨⟨_, rfl⟩, .inl ⟨pre, ⟨(by rw [hpl]; refine (HRun.out.stop hkp hlt h0l h1l ?_).symm; rintro ⟨h1, h2, h3⟩; rw [hek, HT0.out] at h1; exact hqt h1), HRows.out⟩, HJ2.out⟩⟩
    · have hke : kk = hs.length := by omega
      gi_wp2
      rw [Exit.noGoto_normal]
      go_end0
      exact ⟨⟨_, rfl⟩, .inl ⟨pre, ⟨by rw [hpl]; exact (HRun.out.done hke).symm, HRows.out⟩, HJs.out⟩⟩

/-- the iterator's contract -/
theorem run_stops (w : World) (tb : Nat) (M : Nat → Prop) (S : Nat → Prop) (A : Option Addr) (c : Nat) (news : List Value) (hs : List JHeld.Data) (htb : tb < w.heap.size ∧ ¬ M tb) (hB : w.cell? ⟨tb, 0, none⟩ = some (.slice A hs.length c)) (hA : 0 < hs.length → ∃ b, A = some ⟨b, 0, none⟩ ∧ (b < w.heap.size ∧ ¬ M b) ∧ At w b 0 news) (hrl : RepL w S JHeld news hs) (hn : hs.length ≤ 64) :
    SeqStopsK Fence.wide 1 Try.prog 69 #[.pointer (some ⟨tb, 0, none⟩)] MRow.encs (Keeps M) (fun ys => ys.length = runF hs ∧ Rows news ys) (fun _ => True) 1000 w := by
  intro l J Jx W hW hJ hJx hY h0
  have hz := hW.size
  exact run1_in l tb M S A c news hs J Jx W hJ hY W (Nat.le_refl _) ⟨by omega, htb.2⟩ ((bcell' hW htb.1).trans hB) (fun h => by obtain ⟨b, h1, h2, h3⟩ := hA h; exact ⟨b, h1, ⟨by omega, h2.2⟩, h3.frame (hW.block b h2.1)⟩) (hrl.frame fun b h1 h2 => ⟨hW.block b h2, h1⟩) hn h0
set_option maxRecDepth 100000 in
set_option maxHeartbeats 1600000 in
theorem run_goes (w : World) (A : Option Addr) (n c : Nat) :
    Calls Try.prog 46 #[.slice A n c] w fun e w' => e = .returned (.func (.func 69) #[] #[.pointer (some ⟨w.heap.size, 0, none⟩)]) ∧ Bk w' w.heap.size 22 [.slice A n c] ∧ Below w.heap.size w w' := by
  go_enter Try.func46, Try.ntmps46
  go_wp2_with fail
  go_ret
  exact ⟨rfl, Bk.new w _ [.slice A n c], (Below.refl _ w).alloc (Nat.le_refl _) _⟩
end Go.Proofs.Ytjmohkgbfigcgaa.Sh
