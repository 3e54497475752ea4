/- the law's own helpers put, due and takes, where they answer well. -/
import Derived.Test.YtjmohkgbfigcgaaJTake
namespace Go.Proofs.Ytjmohkgbfigcgaa.Sh
open Go Go.RowKit
set_option linter.unusedVariables false
set_option linter.unusedSimpArgs false

def RowPost (w : World) (d : JBuf.Data) (e : Ending) (w' : World) : Prop := ∃ cs, e = .returned (.agg cs.toArray) ∧ Rep w' (Fr w.heap.size) JBuf cs d ∧ Below w.heap.size w w'
set_option maxRecDepth 100000 in
set_option maxHeartbeats 1600000 in
theorem kput_goes (w : World) (S : Nat → Prop) (cs ms : List Value) (d : JBuf.Data) (nw : Int) (m : JMed.Data) (h : Rep w S JBuf cs d) (hm : Rep w S JMed ms m) (hS : ∀ b, S b → b < w.heap.size) (hnw : IntKind.i64.min ≤ nw ∧ nw ≤ IntKind.i64.max) :
    Calls Try.prog 48 #[.agg cs.toArray, .int .i64 nw, .agg ms.toArray] w (RowPost w (putF d nw m).1) := by
  obtain ⟨fr, now, bg, fd, sq, hg, lw, bs, jt, ls, hs, ⟨⟩⟩ := d
  have hl1 : cs.length = 11 := Rep.length _ _ _ h
  have hl2 : ms.length = 9 := Rep.length _ _ _ hm
  have HRp := Lib.hid h
  have HMp := Lib.hid hm
  have HS := Lib.hid hS
  have HL1 := Lib.hid hl1
  have HL2 := Lib.hid hl2
  generalize hpost : RowPost w (putF (fr, now, bg, fd, sq, hg, lw, bs, jt, ls, hs, ()) nw m).1 = post
  have HPost := Lib.hid (fun (e : Ending) (w' : World) (h : RowPost w (putF (fr, now, bg, fd, sq, hg, lw, bs, jt, ls, hs, ()) nw m).1 e w') => show post e w' from hpost ▸ h)
  clear h hm hS hl1 hl2 hpost
  go_enter Try.func48, Try.ntmps48
  go_wp2_with (refine step_boxh (cs := cs) rfl rfl rfl fun w1 M1 B1 Z1 => ?_)
  have HM1 := Lib.hid M1
  have HB1 := Lib.hid B1
  have hz1 : w.heap.size < w1.heap.size := M1.lt
  clear M1 B1 Z1
  refine Lib.hid ?_
  go_wp2_with (refine step_boxh (cs := ms) rfl rfl rfl fun w2 M2 B2 Z2 => ?_)
  have HM2 := Lib.hid (HM1.out.below B2)
  have HP2 := Lib.hid M2
  have HB2 := Lib.hid (HB1.out.trans (B2.mono HB1.out.size))
  have hz2 : w1.heap.size < w2.heap.size := M2.lt
  clear M2 B2 HM1 HB1 Z2
  refine Lib.hid ?_
  go_wp2_with (refine step_alloch (T := 24) (cs := bufCells 0) rfl rfl (by kernel_rfl) fun w3 M3 B3 Z3 => ?_)
  have HM3 := Lib.hid (HM2.out.below B3)
  have HP3 := Lib.hid (HP2.out.below B3)
  have HR3 := Lib.hid M3
  have HB3 := Lib.hid (HB2.out.trans (B3.mono HB2.out.size))
  have hz3 : w2.heap.size < w3.heap.size := M3.lt
  clear M3 B3 HM2 HP2 HB2 Z3
  refine Lib.hid ?_
  go_wp2_with (first
    | refine step_loadbk (T := 24) (cs := cs) rfl rfl rfl HM3.out Try.underlying24 rfl (by rw [HL1.out]; kernel_rfl) ?_
    | refine step_loadbk (T := 28) (cs := ms) rfl rfl rfl HP3.out Try.underlying28 rfl (by rw [HL2.out]; kernel_rfl) ?_)
  refine (put_goes w3 S cs ms fr now bg fd sq hg lw bs jt ls hs nw m (HRp.out.below HB3.out) (HMp.out.below HB3.out) (fun b hb => Nat.lt_of_lt_of_le (HS.out b hb) HB3.out.size) hnw).mono ?_
  rintro e w4 ⟨c4, rfl, hr4, hb4⟩
  generalize hpf : putF (fr, now, bg, fd, sq, hg, lw, bs, jt, ls, hs, ()) nw m = pf at *
  have hl4 : c4.length = 11 := Rep.length _ _ _ hr4
  have HL4 := Lib.hid hl4
  have HD4 := Lib.hid (show Rep w4 (fun b => w3.heap.size ≤ b ∧ b < w4.heap.size) JBuf c4 pf.1 from Rep.frame _ _ _ hr4 fun b h1 h2 => ⟨rfl, h1, h2⟩)
  have HR4 := Lib.hid (HR3.out.below (hb4.mono (Nat.le_refl _)))
  have HB4 := Lib.hid (HB3.out.trans (hb4.mono HB3.out.size))
  have hz4 := hb4.size
  have HO4 := Lib.hid (Rep.one _ _ _ hr4)
  clear hr4 hb4 hl4 HM3 HP3 HR3 HB3 hpf
  go_wp2_with (refine step_newv (T := 24) (V := .agg c4.toArray) (bs := c4) rfl rfl rfl rfl rfl (by first | (simp; done) | decide) rfl rfl (by rw [HL4.out]; kernel_rfl) (by rw [HL4.out]; kernel_rfl) HO4.out fun w5 M5 B5 Z5 => ?_)
  have HM5 := Lib.hid M5
  have HD5 := Lib.hid (HD4.out.below B5)
  have HR5 := Lib.hid (HR4.out.below B5)
  have HB5 := Lib.hid (HB4.out.trans (B5.mono HB4.out.size))
  have hz5 : w4.heap.size < w5.heap.size := M5.lt
  clear M5 B5 Z5 HD4 HR4 HB4
  refine Lib.hid ?_
  go_wp2_with (first
    | refine step_loadbk (T := 24) (cs := c4) rfl rfl rfl HM5.out Try.underlying24 rfl (by rw [HL4.out]; kernel_rfl) ?_
    | refine step_store (T := 24) (n := w2.heap.size) (bs := c4) rfl rfl rfl rfl HR5.out (by rw [HL4.out]; rfl) (by rw [HL4.out]; kernel_rfl) HO4.out fun w6 M6 G6 => ?_)
  have HM6 := Lib.hid M6
  have HD6 := Lib.hid (HD5.out.grown_any G6 (by omega))
  have HB6 := Lib.hid (below_grown HB5.out G6 (by omega) (by omega))
  clear M6 G6
  refine Lib.hid ?_
  go_wp2_with fail
  refine bodyPost_ret (results_row1 rfl _ _ w2.heap.size 24 c4 _ rfl HM6.out Try.underlying24 rfl (by rw [HL4.out]; kernel_rfl)) rfl ?_
  exact HPost.out _ _ ⟨c4, rfl, Rep.frame _ _ _ HD6.out fun b h1 h2 => ⟨rfl, (show w.heap.size ≤ b by have := h1.1; omega)⟩, HB6.out⟩

set_option maxRecDepth 100000 in
set_option maxHeartbeats 1600000 in
theorem kdue_goes (w : World) (S : Nat → Prop) (cs : List Value) (d : JBuf.Data) (want : Int) (h : Rep w S JBuf cs d) (hS : ∀ b, S b → b < w.heap.size) (hd : dueR d = (want, 0)) :
    Calls Try.prog 70 #[.agg cs.toArray, .int .i64 want] w fun e w' => e = .returned (.bool true) ∧ Below w.heap.size w w' := by
  have hl1 : cs.length = 11 := Rep.length _ _ _ h
  have HRp := Lib.hid h
  have HS := Lib.hid hS
  have HL1 := Lib.hid hl1
  have HD := Lib.hid hd
  clear h hS hl1 hd
  go_enter Try.func70, Try.ntmps70
  go_wp2_with (refine step_boxh (cs := cs) rfl rfl rfl fun w1 M1 B1 Z1 => ?_)
  have HM1 := Lib.hid M1
  have HB1 := Lib.hid B1
  clear M1 B1 Z1
  refine Lib.hid ?_
  go_wp2_with (refine step_loadbk (T := 24) (cs := cs) rfl rfl rfl HM1.out Try.underlying24 rfl (by rw [HL1.out]; kernel_rfl) ?_)
  refine (Due_goes w1 S cs d (HRp.out.below HB1.out) (fun b hb => Nat.lt_of_lt_of_le (HS.out b hb) HB1.out.size)).mono ?_
  rintro e w2 ⟨rfl, hb2⟩
  have HB2 := Lib.hid (HB1.out.trans (hb2.mono HB1.out.size))
  clear hb2
  rw [HD.out]
  go_wp2_with fail
  go_ret
  exact ⟨rfl, HB2.out⟩
end Go.Proofs.Ytjmohkgbfigcgaa.Sh
