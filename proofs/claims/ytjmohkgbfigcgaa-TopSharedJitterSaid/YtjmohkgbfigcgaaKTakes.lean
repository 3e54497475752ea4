/- the law's helper takes, where all that it asks for holds. -/
import Derived.Test.YtjmohkgbfigcgaaKPut
namespace Go.Proofs.Ytjmohkgbfigcgaa.Sh
open Go Go.RowKit
set_option linter.unusedVariables false
set_option linter.unusedSimpArgs false

def TakesPost (w : World) (d : JBuf.Data) (e : Ending) (w' : World) : Prop := ∃ cs, e = .returned (.tuple #[.agg cs.toArray, .bool true]) ∧ Rep w' (Fr w.heap.size) JBuf cs d ∧ Below w.heap.size w w'
set_option maxRecDepth 100000 in
set_option maxHeartbeats 3200000 in
theorem ktakes_goes (w : World) (S : Nat → Prop) (cs : List Value) (d : JBuf.Data) (nw nx lo : Int) (wh : Bool) (A : Option Addr) (n c : Nat) (nums : List Int) (h : Rep w S JBuf cs d) (hS : ∀ b, S b → b < w.heap.size) (hnw : IntKind.i64.min ≤ nw ∧ nw ≤ IntKind.i64.max)
    (fr2 now2 : Int) (bg2 : Bool) (hg2 lw2 bs2 jt2 : Int) (hs2 : List JHeld.Data) (l : List JMed.Data) (ht : takeF d nw = ((fr2, now2, bg2, wh, nx, hg2, lw2, bs2, jt2, lo, hs2, ()), l, 0)) (hl : l.map seqOf = nums) (hn : n = nums.length)
    (hA : 0 < n → ∃ b, A = some ⟨b, 0, none⟩ ∧ b < w.heap.size ∧ ∀ i (h : i < nums.length), w.cell? ⟨b, i, none⟩ = some (.int .i64 nums[i])) :
    Calls Try.prog 51 #[.agg cs.toArray, .int .i64 nw, .int .i64 nx, .int .i64 lo, .bool wh, .slice A n c] w (TakesPost w (fr2, now2, bg2, wh, nx, hg2, lw2, bs2, jt2, lo, hs2, ())) := by
  obtain ⟨fr, now, bg, fd, sq, hg, lw, bs, jt, ls, hs, ⟨⟩⟩ := d
  have hl1 : cs.length = 11 := Rep.length _ _ _ h
  have HRp := Lib.hid h
  have HS := Lib.hid hS
  have HL1 := Lib.hid hl1
  have hnl : n = l.length := by rw [hn, ← hl, List.length_map]
  have HNu := Lib.hid (show ∀ i (h1 : i < l.length) (h2 : i < nums.length), nums[i] = seqOf l[i] from fun i h1 h2 => by subst hl; simp)
  have HA := Lib.hid hA
  have HT := Lib.hid ht
  have HN := Lib.hid (And.intro hn hnl)
  generalize hpost : TakesPost w (fr2, now2, bg2, wh, nx, hg2, lw2, bs2, jt2, lo, hs2, ()) = post
  have HPost := Lib.hid (fun (e : Ending) (w' : World) (h : TakesPost w (fr2, now2, bg2, wh, nx, hg2, lw2, bs2, jt2, lo, hs2, ()) e w') => show post e w' from hpost ▸ h)
  clear h hS hl1 hpost hA ht hl hn hnl
  go_enter Try.func51, Try.ntmps51
  go_wp2_with (refine step_boxh (cs := cs) rfl rfl rfl fun w1 M1 B1 Z1 => ?_)
  have HM1 := Lib.hid M1
  have HB1 := Lib.hid B1
  have hz1 : w.heap.size < w1.heap.size := M1.lt
  clear M1 B1 Z1
  refine Lib.hid ?_
  go_wp2_with (refine step_alloch (T := 24) (cs := bufCells 0) rfl rfl (by kernel_rfl) fun w3 M3 B3 Z3 => ?_)
  have HM3 := Lib.hid (HM1.out.below B3)
  have HR3 := Lib.hid M3
  have HB3 := Lib.hid (HB1.out.trans (B3.mono HB1.out.size))
  have hz3 : w1.heap.size < w3.heap.size := M3.lt
  clear M3 B3 HM1 HB1 Z3
  refine Lib.hid ?_
  go_wp2_with (refine step_loadbk (T := 24) (cs := cs) rfl rfl rfl HM3.out Try.underlying24 rfl (by rw [HL1.out]; kernel_rfl) ?_)
  refine (take_goes w3 S cs fr now bg fd sq hg lw bs jt ls hs nw (HRp.out.below HB3.out) (fun b hb => Nat.lt_of_lt_of_le (HS.out b hb) HB3.out.size) hnw).mono ?_
  rintro e w4 ⟨c4, A4, k4, rfl, hr4, hm4, hb4⟩
  have hT := HT.out
  rw [hT] at hr4 hm4 ⊢
  simp only at hr4 hm4 ⊢
  obtain ⟨Ah, ch, rfl, hhs, -, -⟩ := rep_buf hr4
  have HD4 := Lib.hid (show Rep w4 (fun b => w3.heap.size ≤ b ∧ b < w4.heap.size) JBuf _ _ from Rep.frame _ _ _ hr4 fun b h1 h2 => ⟨rfl, h1, h2⟩)
  have HE4 := Lib.hid (show Rep w4 (fun b => w3.heap.size ≤ b ∧ b < w4.heap.size) (.sl JMed 112) _ _ from Rep.frame _ _ _ hm4 fun b h1 h2 => ⟨rfl, h1, h2⟩)
  have HR4 := Lib.hid (HR3.out.below (hb4.mono (Nat.le_refl _)))
  have HB4 := Lib.hid (HB3.out.trans (hb4.mono HB3.out.size))
  have hz4 := hb4.size
  have hN := HN.out.2
  rw [← hN]
  clear hr4 hm4 hb4 HM3 HR3 HB3 hT hhs HT hN
  go_wp2_with (refine step_newv (T := 24) (V := .agg #[.int .i64 fr2, .int .i64 now2, .bool bg2, .bool wh, .int .i64 nx, .int .i64 hg2, .int .i64 lw2, .int .i64 bs2, .int .i64 jt2, .int .i64 lo, .slice Ah hs2.length ch]) (bs := [.int .i64 fr2, .int .i64 now2, .bool bg2, .bool wh, .int .i64 nx, .int .i64 hg2, .int .i64 lw2, .int .i64 bs2, .int .i64 jt2, .int .i64 lo, .slice Ah hs2.length ch]) rfl rfl rfl rfl rfl (by first | (simp; done) | decide) rfl rfl (by kernel_rfl) (by kernel_rfl) (by simp [Value.oneCell']) fun w5 M5 B5 Z5 => ?_)
  have HM5 := Lib.hid M5
  have HD5 := Lib.hid (HD4.out.below B5)
  have HE5 := Lib.hid (HE4.out.below B5)
  have HR5 := Lib.hid (HR4.out.below B5)
  have HB5 := Lib.hid (HB4.out.trans (B5.mono HB4.out.size))
  have hz5 : w4.heap.size < w5.heap.size := M5.lt
  obtain ⟨⟨c0, c1, c2, c3, c4, c5n⟩, ⟨c6, c7, c8, c9, c10⟩, hfz⟩ := bk_change M5
  clear M5 B5 Z5 HD4 HE4 HR4 HB4 hfz c0 c1 c2 c5n c6 c7 c8 c10
  refine Lib.hid ?_
  go_wp2_with fail
  obtain ⟨-, hn1, hn2, hn3, news, hplace, hrl⟩ := rep_sl.1 HE5.out
  have hn63 : n ≤ 9223372036854775807 := by rw [big_eq] at hn3; have := HN.out.2; omega
  have HP := Lib.hid hplace
  have HR := Lib.hid hrl
  clear hplace hrl hn1 hn2 hn3
  go_loopw [56] (fun i wr => ∃ kk : Nat, i = .int .i64 kk ∧ kk ≤ n ∧ Below w5.heap.size w5 wr) (fun i _ => n - (intOf i).toNat)
  case atStart => exact ⟨0, rfl, Nat.zero_le _, Below.refl _ _⟩
  case round =>
    obtain ⟨kk, rfl, hkk, hb⟩ := hrel
    have HB := Lib.hid hb
    have hzr := hb.size
    clear hb c3 c4 c9
    by_cases hlt : kk < n
    · have hkl : kk < l.length := by have := HN.out.2; omega
      have hkn : kk < nums.length := by have := HN.out.1; omega
      obtain ⟨eb, eo, rfl, hSe, hel, hat⟩ := HP.out (by have := HN.out.2; omega)
      obtain ⟨nb, rfl, hnb, hnc⟩ := HA.out (by omega)
      have hre := HR.out.2 kk hkl
      rcases hek : l[kk] with ⟨v, k, s, t, r, xs, es, p, pay, ⟨⟩⟩
      rw [hek] at hre
      obtain ⟨A1, k1, A2, k2, hseg, -⟩ := rep_med hre
      have hae := (hat.seg (kk * 9) 9)
      have hseg' : (news.drop (kk * 9)).take 9 = [.bool v, .int .i64 k, .int .i64 s, .int .i64 t, .int .i64 r, .slice A1 xs.length k1, .slice A2 es.length k2, .int .i64 p, .string pay] := hseg
      rw [hseg'] at hae
      have hae' := Lib.hid (hae.frame (HB.out.block eb hel))
      have hnum : nums[kk] = s := by rw [HNu.out kk hkl hkn, hek]; rfl
      have hnk := hnc kk hkn
      rw [hnum] at hnk
      have hnk5 := (bcell' HB5.out hnb).trans hnk
      have hz5w := HB5.out.size
      have hnkr : wr.cell? ⟨nb, kk, none⟩ = some (.int .i64 s) := (bcell' HB.out (by omega)).trans hnk5
      have hnlt : nb < wr.heap.size := by omega
      have hnkI : (kk : Int) < (n : Int) := by omega
      clear hae hat hseg hseg' hre hnc hnk hnk5 hnum
      go_wp2_with (refine wpList_load_mid rfl 28 _ rfl eb (eo + kk * 9) rfl [.bool v, .int .i64 k, .int .i64 s, .int .i64 t, .int .i64 r, .slice A1 xs.length k1, .slice A2 es.length k2, .int .i64 p, .string pay] _ (fun j v hv => (hae'.out j v hv).1) Try.underlying28 rfl (by kernel_rfl) ?_)
      have M6 := Bk.new wr 28 [.bool v, .int .i64 k, .int .i64 s, .int .i64 t, .int .i64 r, .slice A1 xs.length k1, .slice A2 es.length k2, .int .i64 p, .string pay]
      have b6 : Below wr.heap.size wr (wr.alloc (.cells #[.bool v, .int .i64 k, .int .i64 s, .int .i64 t, .int .i64 r, .slice A1 xs.length k1, .slice A2 es.length k2, .int .i64 p, .string pay] 28)) := (Below.refl _ wr).alloc (Nat.le_refl _) _
      have B6 := Lib.hid (HB.out.trans (b6.mono hzr))
      have q2 := M6.cell 2 rfl
      have q3 := (bcell' b6 hnlt).trans hnkr
      have q4 := M6.lt
      generalize (wr.alloc (.cells #[.bool v, .int .i64 k, .int .i64 s, .int .i64 t, .int .i64 r, .slice A1 xs.length k1, .slice A2 es.length k2, .int .i64 p, .string pay] 28)) = w6 at M6 b6 B6 q2 q3 q4 ⊢
      clear M6 b6
      go_region
      all_goals go_wp2_with fail
      all_goals go_roundw
      case rel => exact ⟨kk + 1, by go_num, by omega, B6.out.drew⟩
      case measure => simp [intOf]; omega
    · have HMr := Lib.hid (HM5.out.below HB.out)
      have HRr := Lib.hid (HR5.out.below HB.out)
      have HDr := Lib.hid (HD5.out.below HB.out)
      have HBr := Lib.hid (HB5.out.trans (HB.out.mono HB5.out.size))
      have hone : ∀ x ∈ ([.int .i64 fr2, .int .i64 now2, .bool bg2, .bool wh, .int .i64 nx, .int .i64 hg2, .int .i64 lw2, .int .i64 bs2, .int .i64 jt2, .int .i64 lo, .slice Ah hs2.length ch] : List Value), x.oneCell' = true := by simp [Value.oneCell']
      have HOne := Lib.hid hone
      clear hone
      go_wp2_with (first
        | refine step_loadbk (T := 24) (cs := [.int .i64 fr2, .int .i64 now2, .bool bg2, .bool wh, .int .i64 nx, .int .i64 hg2, .int .i64 lw2, .int .i64 bs2, .int .i64 jt2, .int .i64 lo, .slice Ah hs2.length ch]) rfl rfl rfl HMr.out Try.underlying24 rfl (by kernel_rfl) ?_
        | refine step_store (T := 24) (n := w1.heap.size) (bs := [.int .i64 fr2, .int .i64 now2, .bool bg2, .bool wh, .int .i64 nx, .int .i64 hg2, .int .i64 lw2, .int .i64 bs2, .int .i64 jt2, .int .i64 lo, .slice Ah hs2.length ch]) rfl rfl rfl rfl HRr.out rfl (by kernel_rfl) HOne.out fun w7 M7 G7 => ?_)
      have HM7 := Lib.hid M7
      have HD7 := Lib.hid (HDr.out.grown_any G7 (by omega))
      have HB7 := Lib.hid (below_grown HBr.out G7 (by have := HBr.out.size; omega) (by omega))
      clear M7 G7
      refine Lib.hid ?_
      go_wp2_with fail
      refine bodyPost_ret (results_row_tmp rfl _ _ w1.heap.size 24 [.int .i64 fr2, .int .i64 now2, .bool bg2, .bool wh, .int .i64 nx, .int .i64 hg2, .int .i64 lw2, .int .i64 bs2, .int .i64 jt2, .int .i64 lo, .slice Ah hs2.length ch] _ rfl HM7.out Try.underlying24 rfl (by kernel_rfl)) rfl ?_
      exact HPost.out _ _ ⟨[.int .i64 fr2, .int .i64 now2, .bool bg2, .bool wh, .int .i64 nx, .int .i64 hg2, .int .i64 lw2, .int .i64 bs2, .int .i64 jt2, .int .i64 lo, .slice Ah hs2.length ch], rfl, Rep.frame _ _ _ HD7.out fun b h1 h2 => ⟨rfl, (show w.heap.size ≤ b by have := h1.1; omega)⟩, HB7.out⟩

/-- as one likes to use it -/
theorem ktakes (w : World) (S : Nat → Prop) (cs : List Value) (d : JBuf.Data) (nw nx lo : Int) (wh : Bool) (A : Option Addr) (n c : Nat) (nums : List Int) (h : Rep w S JBuf cs d) (hS : ∀ b, S b → b < w.heap.size) (hnw : IntKind.i64.min ≤ nw ∧ nw ≤ IntKind.i64.max)
    (h1 : (takeF d nw).2.2 = 0) (h2 : (takeF d nw).1.2.2.2.2.1 = nx) (h3 : (takeF d nw).1.2.2.2.2.2.2.2.2.2.1 = lo) (h4 : (takeF d nw).1.2.2.2.1 = wh) (h5 : (takeF d nw).2.1.map seqOf = nums) (hn : n = nums.length)
    (hA : 0 < n → ∃ b, A = some ⟨b, 0, none⟩ ∧ b < w.heap.size ∧ ∀ i (h : i < nums.length), w.cell? ⟨b, i, none⟩ = some (.int .i64 nums[i])) :
    Calls Try.prog 51 #[.agg cs.toArray, .int .i64 nw, .int .i64 nx, .int .i64 lo, .bool wh, .slice A n c] w (TakesPost w (takeF d nw).1) := by
  rcases e : takeF d nw with ⟨⟨fr2, now2, bg2, fd2, sq2, hg2, lw2, bs2, jt2, ls2, hs2, ⟨⟩⟩, l, er⟩
  rw [e] at h1 h2 h3 h4 h5
  simp only at h1 h2 h3 h4 h5
  subst h1 h2 h3 h4
  exact ktakes_goes w S cs d nw _ _ _ A n c nums h hS hnw fr2 now2 bg2 hg2 lw2 bs2 jt2 hs2 l e h5 hn hA
theorem put_goesD (w : World) (S : Nat → Prop) (cs ms : List Value) (d : JBuf.Data) (nw : Int) (m : JMed.Data) (h : Rep w S JBuf cs d) (hm : Rep w S JMed ms m) (hS : ∀ b, S b → b < w.heap.size) (hnw : IntKind.i64.min ≤ nw ∧ nw ≤ IntKind.i64.max) :
    Calls Try.prog 14 #[.agg cs.toArray, .int .i64 nw, .agg ms.toArray] w (PutPost w d nw m) := by
  obtain ⟨fr, now, bg, fd, sq, hg, lw, bs, jt, ls, hs, ⟨⟩⟩ := d
  exact put_goes w S cs ms fr now bg fd sq hg lw bs jt ls hs nw m h hm hS hnw
theorem take_goesD (w : World) (S : Nat → Prop) (cs : List Value) (d : JBuf.Data) (nw : Int) (h : Rep w S JBuf cs d) (hS : ∀ b, S b → b < w.heap.size) (hnw : IntKind.i64.min ≤ nw ∧ nw ≤ IntKind.i64.max) :
    Calls Try.prog 19 #[.agg cs.toArray, .int .i64 nw] w (TakePost w d nw) := by
  obtain ⟨fr, now, bg, fd, sq, hg, lw, bs, jt, ls, hs, ⟨⟩⟩ := d
  exact take_goes w S cs fr now bg fd sq hg lw bs jt ls hs nw h hS hnw

/-! ### the chapter's examples, reckoned -/
def wOne : JBuf.Data := (putF (newF 8).1 100 (medOf 5 800 true)).1
def wTwo : JBuf.Data := (takeF wOne 110).1
def wThree : JBuf.Data := (putF wTwo 125 (medOf 6 960 true)).1
def wFour : JBuf.Data := (putF wOne 100 (medOf 7 960 true)).1
def wFive : JBuf.Data := (takeF wFour 110).1
def wB : JBuf.Data := (putF (newF 8).1 100 (medOf 5 800 false)).1
theorem works_facts1 : (takeF wOne 109).2.2 = 4 ∧ ((takeF wOne 110).2.2 = 0 ∧ (takeF wOne 110).1.2.2.2.2.1 = 6 ∧ (takeF wOne 110).1.2.2.2.2.2.2.2.2.2.1 = 0 ∧ (takeF wOne 110).1.2.2.2.1 = true ∧ (takeF wOne 110).2.1.map seqOf = [5]) := by decide +kernel
theorem works_facts2 : (putF wOne 120 (medOf 5 800 true)).2 = 10 ∧ (putF wOne 100 (medOf 4 800 true)).2 = 10 ∧ dueR wOne = (110, 0) ∧ dueR wThree = (130, 0) ∧ wThree.2.2.2.2.2.2.2.2.1 = 40 ∧ (dueR (newF 8).1).2 = 4 ∧ (newF 97).2 = 2 := by decide +kernel
theorem works_facts3 : ((takeF wB 110).2.2 = 0 ∧ (takeF wB 110).1.2.2.2.2.1 = 6 ∧ (takeF wB 110).1.2.2.2.2.2.2.2.2.2.1 = 1 ∧ (takeF wB 110).1.2.2.2.1 = false ∧ (takeF wB 110).2.1.map seqOf = []) := by decide +kernel
theorem works_facts4 : ((takeF wFour 110).2.2 = 0 ∧ (takeF wFour 110).1.2.2.2.2.1 = 6 ∧ (takeF wFour 110).1.2.2.2.2.2.2.2.2.2.1 = 0 ∧ (takeF wFour 110).1.2.2.2.1 = true ∧ (takeF wFour 110).2.1.map seqOf = [5]) := by decide +kernel
theorem works_facts5 : ((takeF wFive 130).2.2 = 0 ∧ (takeF wFive 130).1.2.2.2.2.1 = 8 ∧ (takeF wFive 130).1.2.2.2.2.2.2.2.2.2.1 = 2 ∧ (takeF wFive 130).1.2.2.2.1 = true ∧ (takeF wFive 130).2.1.map seqOf = []) := by decide +kernel
end Go.Proofs.Ytjmohkgbfigcgaa.Sh
