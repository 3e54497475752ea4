/- the jitter chapter's examples hold: JitterKnown. -/
import Derived.Test.YtjmohkgbfigcgaaKWorks
namespace Go.Proofs.Ytjmohkgbfigcgaa.Sh
open Go Go.RowKit
set_option linter.unusedVariables false
set_option linter.unusedSimpArgs false

/-! ### the examples, reckoned -/
def kA1 : JBuf.Data := (putF (newF 90).1 0 (medOf 65535 4294966396 false)).1
def kA : JBuf.Data := (putF kA1 10 (medOf 0 4294966396 true)).1
def kB : JBuf.Data := (takeF kA 1000).1
def kC : JBuf.Data := (putF kB 1000 (medOf 1 0 true)).1
def kLoop : Nat → JBuf.Data
  | 0 => (newF 1).1
  | k + 1 => (putF (kLoop k) 0 (medOf k 0 false)).1
def k15 : JBuf.Data := kLoop 64
def setLs (d : JBuf.Data) (x : Int) : JBuf.Data := (d.1, d.2.1, d.2.2.1, d.2.2.2.1, d.2.2.2.2.1, d.2.2.2.2.2.1, d.2.2.2.2.2.2.1, d.2.2.2.2.2.2.2.1, d.2.2.2.2.2.2.2.2.1, x, d.2.2.2.2.2.2.2.2.2.2.1, ())
def setLw (d : JBuf.Data) (x : Int) : JBuf.Data := (d.1, d.2.1, d.2.2.1, d.2.2.2.1, d.2.2.2.2.1, d.2.2.2.2.2.1, x, d.2.2.2.2.2.2.2.1, d.2.2.2.2.2.2.2.2.1, d.2.2.2.2.2.2.2.2.2.1, d.2.2.2.2.2.2.2.2.2.2.1, ())
theorem known1 : ((takeF kA 1000).2.2 = 0 ∧ (takeF kA 1000).1.2.2.2.2.1 = 1 ∧ (takeF kA 1000).1.2.2.2.2.2.2.2.2.2.1 = 0 ∧ (takeF kA 1000).1.2.2.2.1 = true ∧ (takeF kA 1000).2.1.map seqOf = [65535, 0]) := by decide +kernel
theorem known2 : kC.2.2.2.2.2.1 = 1103806595072 ∧ kC.2.2.2.2.2.2.2.2.1 = 66379 := by decide +kernel
theorem known3 : (putF kC 1000 (medOf 513 0 true)).2 = 6 ∧ (putF kC 1000 (medOf 512 0 true)).2 = 0 ∧ (putF kC 1000 (medOf 512 0 true)).1.2.2.2.2.2.2.2.2.2.2.1.length = 2 ∧ (putF kC 999 (medOf 2 0 true)).2 = 2 ∧ (putF kC 1000 (medOf (-1) 0 false)).2 = 230 ∧ (putF (bufOf 0) (-1) (medOf (-1) 0 false)).2 = 260 := by decide +kernel
theorem known4 : k15.2.2.2.2.2.2.2.2.2.2.1.length = 64 ∧ (putF k15 0 (medOf 64 0 false)).2 = 3 ∧ (putF k15 0 (medOf 63 0 false)).2 = 10 := by decide +kernel
theorem known5 : ((takeF k15 1000).2.2 = 0 ∧ (takeF k15 1000).1.2.2.2.2.1 = 64 ∧ (takeF k15 1000).1.2.2.2.2.2.2.2.2.2.1 = 64 ∧ (takeF k15 1000).1.2.2.2.1 = false ∧ (takeF k15 1000).2.1.map seqOf = []) := by decide +kernel
theorem known6 : (takeF (newF 1).1 1099511627777).2.2 = 2 ∧ (takeF (newF 1).1 1099511627776).2.2 = 4 := by decide +kernel
theorem known7 : checkB (setLs (newF 1).1 1) = false ∧ checkB (setLw k15 (-1099511627775)) = false ∧ k15.2.2.2.2.2.2.2.1 = -1099511627776 ∧ (takeF (setLs k15 1099511627776) 1000).2.2 = 6 ∧ checkB (1, 5, false, false, 0, 0, 0, 0, 0, 0, [], ()) = true := by decide +kernel

theorem rep_cells {w : World} {S : Nat → Prop} {cs : List Value} {d : JBuf.Data} (h : Rep w S JBuf cs d) : ∃ A c, cs = [.int .i64 d.1, .int .i64 d.2.1, .bool d.2.2.1, .bool d.2.2.2.1, .int .i64 d.2.2.2.2.1, .int .i64 d.2.2.2.2.2.1, .int .i64 d.2.2.2.2.2.2.1, .int .i64 d.2.2.2.2.2.2.2.1, .int .i64 d.2.2.2.2.2.2.2.2.1, .int .i64 d.2.2.2.2.2.2.2.2.2.1, .slice A d.2.2.2.2.2.2.2.2.2.2.1.length c] := by
  obtain ⟨fr, now, bg, fd, sq, hg, lw, bs, jt, ls, hs, ⟨⟩⟩ := d
  obtain ⟨A, c, rfl, -⟩ := rep_buf h
  exact ⟨A, c, rfl⟩
theorem rep_setLs {w : World} {S : Nat → Prop} {cs : List Value} {d : JBuf.Data} (h : Rep w S JBuf cs d) (x : Int) (hx : IntKind.i64.min ≤ x ∧ x ≤ IntKind.i64.max) : Rep w S JBuf (cs.set 9 (.int .i64 x)) (setLs d x) := by
  obtain ⟨fr, now, bg, fd, sq, hg, lw, bs, jt, ls, hs, ⟨⟩⟩ := d
  obtain ⟨A, c, rfl, hh, ⟨a1, a2, a3, a4⟩, a5, a6, a7, a8⟩ := rep_buf h
  exact buf_rep hh a1 a2 a3 a4 a5 a6 a7 hx
theorem rep_setLw {w : World} {S : Nat → Prop} {cs : List Value} {d : JBuf.Data} (h : Rep w S JBuf cs d) (x : Int) (hx : IntKind.i64.min ≤ x ∧ x ≤ IntKind.i64.max) : Rep w S JBuf (cs.set 6 (.int .i64 x)) (setLw d x) := by
  obtain ⟨fr, now, bg, fd, sq, hg, lw, bs, jt, ls, hs, ⟨⟩⟩ := d
  obtain ⟨A, c, rfl, hh, ⟨a1, a2, a3, a4⟩, a5, a6, a7, a8⟩ := rep_buf h
  exact buf_rep hh a1 a2 a3 a4 hx a6 a7 a8
theorem cell_at {w : World} {S : Nat → Prop} {b : Nat} {T : TypeId} {cs : List Value} {d : JBuf.Data} (h : Bk w b T cs) (hr : Rep w S JBuf cs d) :
    w.cell? ⟨b, 5, none⟩ = some (.int .i64 d.2.2.2.2.2.1) ∧ w.cell? ⟨b, 7, none⟩ = some (.int .i64 d.2.2.2.2.2.2.2.1) ∧ w.cell? ⟨b, 8, none⟩ = some (.int .i64 d.2.2.2.2.2.2.2.2.1) ∧ ∃ A c, w.cell? ⟨b, 10, none⟩ = some (.slice A d.2.2.2.2.2.2.2.2.2.2.1.length c) := by
  obtain ⟨A, c, rfl⟩ := rep_cells hr
  exact ⟨h.cell 5 rfl, h.cell 7 rfl, h.cell 8 rfl, A, c, h.cell 10 rfl⟩
theorem step_loadbkh {P : Program} {ops : Array Oper} {rest : List Oper} {o : Oper} {a : Act} {Q : Exit → Act → World → Prop} {W : World} {T TT : TypeId} {x : Operand} {n : Nat} {cs : List Value} {d : TypeDesc}
    (hw : Region.wanted o (yielded ops a.tmps) = true) (ho : o.op = .load T x) (hx : a.eval x = .pointer (some ⟨n, 0, none⟩)) (hz : Bk W n TT cs) (hu : P.underlying T = some d) (hd : d.isRow = true) (hi : (P.info? T).map (·.size) = some cs.length)
    (h : Hid (wpList P ops Q rest (a.put o.dst (.agg cs.toArray)) W)) : wpList P ops Q (o :: rest) a W :=
  step_loadbkw hw ho hx hz hu hd hi h.out
theorem Bk.low {w w' : World} {lo n : Nat} {T : TypeId} {cs : List Value} (h : Bk w n T cs) (hb : Below lo w w') (hl : n < lo) : Bk w' n T cs := (hb.block n hl).trans h

set_option maxRecDepth 100000 in
set_option maxHeartbeats 12800000 in
theorem known_goes (w : World) : Calls Try.prog 23 #[] w fun e w' => e = .returned (.bool true) ∧ Below w.heap.size w w' := by
  generalize hpost : (fun (e : Ending) (w' : World) => e = .returned (.bool true) ∧ Below w.heap.size w w') = post
  have HPost := Lib.hid (fun (e : Ending) (w' : World) (h : e = .returned (.bool true) ∧ Below w.heap.size w w') => show post e w' from hpost ▸ h)
  clear hpost
  go_enter Try.func23, Try.ntmps23
  go_wp2_with fail
  refine (fresh_goes w 90 (in_i64 _ (by omega))).mono ?_
  rintro e v1 ⟨c1, rfl, hr1, hb1⟩
  have HB2 := Lib.hid hb1
  have hz2 : w.heap.size ≤ v1.heap.size := hb1.size
  clear hb1
  have hlc3 : c1.length = 11 := Rep.length _ _ _ hr1
  have HLc3 := Lib.hid hlc3
  clear hlc3
  have HOne3 := Lib.hid (Rep.one _ _ _ hr1)
  have Hrep3 := Lib.hid (show Rep v1 (fun b => b < v1.heap.size) JBuf c1 (newF 90).1 from Rep.frame _ _ _ hr1 fun b h1 h2 => ⟨rfl, h2⟩)
  clear hr1
  go_wp2_with fail
  refine (packet_goes v1 65535 4294966396 false).mono ?_
  rintro e v4 ⟨rfl, hb4⟩
  have Hrep3_5 := Lib.hid (Hrep3.out.below hb4)
  clear Hrep3
  have HB5 := Lib.hid (HB2.out.trans (hb4.mono HB2.out.size))
  clear HB2
  have hz5 : v1.heap.size ≤ v4.heap.size := hb4.size
  clear hb4
  have hr4 := rep_medOf v4 (fun b => b < v4.heap.size) 65535 4294966396 false (in_i64 _ (by omega)) (in_i64 _ (by omega))
  have Hrep4 := Lib.hid hr4
  clear hr4
  go_wp2_with fail
  have ra6 : Rep v4 (fun b => b < v4.heap.size) JBuf c1 (newF 90).1 := Rep.frame _ _ _ Hrep3_5.out fun b h1 h2 => ⟨rfl, h2⟩
  have rb6 : Rep v4 (fun b => b < v4.heap.size) JMed (medCells 65535 4294966396 false) (medOf 65535 4294966396 false) := Rep.frame _ _ _ Hrep4.out fun b h1 h2 => ⟨rfl, h2⟩
  refine (kput_goes v4 _ _ _ _ 0 _ ra6 rb6 (fun b hb => hb) (in_i64 _ (by omega))).mono ?_
  rintro e v6 ⟨c6, rfl, hr6, hb6⟩
  clear ra6 rb6
  have Hrep3_7 := Lib.hid (Hrep3_5.out.below hb6)
  clear Hrep3_5
  have Hrep4_7 := Lib.hid (Hrep4.out.below hb6)
  clear Hrep4
  have HB7 := Lib.hid (HB5.out.trans (hb6.mono HB5.out.size))
  clear HB5
  have hz7 : v4.heap.size ≤ v6.heap.size := hb6.size
  clear hb6
  have hlc8 : c6.length = 11 := Rep.length _ _ _ hr6
  have HLc8 := Lib.hid hlc8
  clear hlc8
  have HOne8 := Lib.hid (Rep.one _ _ _ hr6)
  have Hrep8 := Lib.hid (show Rep v6 (fun b => b < v6.heap.size) JBuf c6 kA1 from Rep.frame _ _ _ hr6 fun b h1 h2 => ⟨rfl, h2⟩)
  clear hr6
  go_wp2_with fail
  refine (packet_goes v6 0 4294966396 true).mono ?_
  rintro e v9 ⟨rfl, hb9⟩
  have Hrep3_10 := Lib.hid (Hrep3_7.out.below hb9)
  clear Hrep3_7
  have Hrep4_10 := Lib.hid (Hrep4_7.out.below hb9)
  clear Hrep4_7
  have Hrep8_10 := Lib.hid (Hrep8.out.below hb9)
  clear Hrep8
  have HB10 := Lib.hid (HB7.out.trans (hb9.mono HB7.out.size))
  clear HB7
  have hz10 : v6.heap.size ≤ v9.heap.size := hb9.size
  clear hb9
  have hr9 := rep_medOf v9 (fun b => b < v9.heap.size) 0 4294966396 true (in_i64 _ (by omega)) (in_i64 _ (by omega))
  have Hrep9 := Lib.hid hr9
  clear hr9
  go_wp2_with fail
  have ra11 : Rep v9 (fun b => b < v9.heap.size) JBuf c6 kA1 := Rep.frame _ _ _ Hrep8_10.out fun b h1 h2 => ⟨rfl, h2⟩
  have rb11 : Rep v9 (fun b => b < v9.heap.size) JMed (medCells 0 4294966396 true) (medOf 0 4294966396 true) := Rep.frame _ _ _ Hrep9.out fun b h1 h2 => ⟨rfl, h2⟩
  refine (kput_goes v9 _ _ _ _ 10 _ ra11 rb11 (fun b hb => hb) (in_i64 _ (by omega))).mono ?_
  rintro e v11 ⟨c11, rfl, hr11, hb11⟩
  clear ra11 rb11
  have Hrep3_12 := Lib.hid (Hrep3_10.out.below hb11)
  clear Hrep3_10
  have Hrep4_12 := Lib.hid (Hrep4_10.out.below hb11)
  clear Hrep4_10
  have Hrep8_12 := Lib.hid (Hrep8_10.out.below hb11)
  clear Hrep8_10
  have Hrep9_12 := Lib.hid (Hrep9.out.below hb11)
  clear Hrep9
  have HB12 := Lib.hid (HB10.out.trans (hb11.mono HB10.out.size))
  clear HB10
  have hz12 : v9.heap.size ≤ v11.heap.size := hb11.size
  clear hb11
  have hlc13 : c11.length = 11 := Rep.length _ _ _ hr11
  have HLc13 := Lib.hid hlc13
  clear hlc13
  have HOne13 := Lib.hid (Rep.one _ _ _ hr11)
  have Hrep13 := Lib.hid (show Rep v11 (fun b => b < v11.heap.size) JBuf c11 kA from Rep.frame _ _ _ hr11 fun b h1 h2 => ⟨rfl, h2⟩)
  clear hr11
  go_wp2_with (refine step_newv (T := 24) (V := .agg c11.toArray) (bs := c11) rfl rfl rfl rfl rfl (by first | (simp; done) | decide) rfl rfl (by rw [HLc13.out]; kernel_rfl) (by rw [HLc13.out]; kernel_rfl) (HOne13.out) fun v14 M14 B14 Z14 => ?_)
  have hlt14 : v11.heap.size < v14.heap.size := M14.lt
  have Hrep3_15 := Lib.hid (Hrep3_12.out.below B14)
  clear Hrep3_12
  have Hrep4_15 := Lib.hid (Hrep4_12.out.below B14)
  clear Hrep4_12
  have Hrep8_15 := Lib.hid (Hrep8_12.out.below B14)
  clear Hrep8_12
  have Hrep9_15 := Lib.hid (Hrep9_12.out.below B14)
  clear Hrep9_12
  have Hrep13_15 := Lib.hid (Hrep13.out.below B14)
  clear Hrep13
  have HB15 := Lib.hid (HB12.out.trans (B14.mono HB12.out.size))
  clear HB12
  have hz15 : v11.heap.size ≤ v14.heap.size := B14.size
  have Hbk13_14 := Lib.hid M14
  clear M14 B14 Z14
  refine Lib.hid ?_
  clear Hrep3_15
  clear Hrep4_15
  clear Hrep8_15
  clear Hrep9_15
  go_wp2_with (refine step_loadbkw (T := 24) (cs := c11) (by rfl) rfl rfl Hbk13_14.out Try.underlying24 rfl (by rw [HLc13.out]; kernel_rfl) ?_)
  have b16 : Below v14.heap.size v14 (v14.alloc (.cells #[.int .i64 65535, .int .i64 0] 3)) := (Below.refl _ v14).alloc (Nat.le_refl _) _
  have M16 := Bk.new v14 3 [.int .i64 65535, .int .i64 0]
  generalize (v14.alloc (.cells #[.int .i64 65535, .int .i64 0] 3)) = v16 at b16 M16 ⊢
  have hlt16 : v14.heap.size < v16.heap.size := M16.lt
  have Hbk13_17 := Lib.hid (Hbk13_14.out.below b16)
  clear Hbk13_14
  have Hrep13_17 := Lib.hid (Hrep13_15.out.below b16)
  clear Hrep13_15
  have HB17 := Lib.hid (HB15.out.trans (b16.mono HB15.out.size))
  clear HB15
  have hz17 : v14.heap.size ≤ v16.heap.size := b16.size
  have HN16 := Lib.hid M16
  clear b16 M16
  have hnc16 : ∀ i (h : i < [(65535 : Int), 0].length), v16.cell? ⟨v14.heap.size, i, none⟩ = some (.int .i64 [(65535 : Int), 0][i]) := fun i hi => by have h2 : i = 0 ∨ i = 1 := (by simp at hi; omega); rcases h2 with rfl | rfl <;> first | exact HN16.out.cell 0 rfl | exact HN16.out.cell 1 rfl
  have HNC16 := Lib.hid hnc16
  clear hnc16
  refine (ktakes v16 (fun b => b < v11.heap.size) c11 kA 1000 1 0 true (some ⟨v14.heap.size, 0, none⟩) 2 2 [65535, 0] Hrep13_17.out (fun b (hb : b < v11.heap.size) => by omega) (in_i64 _ (by omega)) known1.1 known1.2.1 known1.2.2.1 known1.2.2.2.1 known1.2.2.2.2 rfl (fun _ => ⟨_, rfl, HN16.out.lt, HNC16.out⟩)).mono ?_
  rintro e v18 ⟨c18, rfl, hr18, hb18⟩
  have Hbk13_19 := Lib.hid (Hbk13_17.out.below hb18)
  clear Hbk13_17
  have Hrep13_19 := Lib.hid (Hrep13_17.out.below hb18)
  clear Hrep13_17
  have HB19 := Lib.hid (HB17.out.trans (hb18.mono HB17.out.size))
  clear HB17
  have hz19 : v16.heap.size ≤ v18.heap.size := hb18.size
  clear hb18
  have hlc20 : c18.length = 11 := Rep.length _ _ _ hr18
  have HLc20 := Lib.hid hlc20
  clear hlc20
  have HOne20 := Lib.hid (Rep.one _ _ _ hr18)
  have Hrep20 := Lib.hid (show Rep v18 (fun b => b < v18.heap.size) JBuf c18 kB from Rep.frame _ _ _ hr18 fun b h1 h2 => ⟨rfl, h2⟩)
  clear hr18
  go_wp2_with (refine step_newv (T := 24) (V := .agg c18.toArray) (bs := c18) rfl rfl rfl rfl rfl (by first | (simp; done) | decide) rfl rfl (by rw [HLc20.out]; kernel_rfl) (by rw [HLc20.out]; kernel_rfl) (HOne20.out) fun v21 M21 B21 Z21 => ?_)
  have hlt21 : v18.heap.size < v21.heap.size := M21.lt
  have Hbk13_22 := Lib.hid (Hbk13_19.out.below B21)
  clear Hbk13_19
  have Hrep13_22 := Lib.hid (Hrep13_19.out.below B21)
  clear Hrep13_19
  have Hrep20_22 := Lib.hid (Hrep20.out.below B21)
  clear Hrep20
  have HB22 := Lib.hid (HB19.out.trans (B21.mono HB19.out.size))
  clear HB19
  have hz22 : v18.heap.size ≤ v21.heap.size := B21.size
  have Hbk20_21 := Lib.hid M21
  clear M21 B21 Z21
  refine Lib.hid ?_
  clear Hbk13_22 Hrep13_22
  go_wp2_with fail
  refine wp_name fun a23 ha23 => ?_
  refine wp_mid (fun a2 W2 => ∃ bn cs2, v21.heap.size ≤ bn ∧ Bk W2 bn 24 cs2 ∧ Rep W2 (fun b => b < W2.heap.size) JBuf cs2 kC ∧ Below v21.heap.size v21 W2 ∧ ∃ u46 u47 u48 : Value, a2 = ⟨((((a23.tmps.setIfInBounds 46 u46).setIfInBounds 47 u47).setIfInBounds 48 u48).setIfInBounds 4 (.pointer (some ⟨bn, 0, none⟩))), a23.defers⟩) ?_ ?_
  · intro Mi hM
    rw [ha23] at hM
    simp only [List.setIfInBounds_toArray, List.set_cons_zero, List.set_cons_succ] at hM
    have HMi := Lib.hid hM
    clear hM
    rw [ha23]
    clear ha23
    have HS0 := Lib.hid (show Below v21.heap.size v21 v21.drew from (Below.refl _ v21).drew)
    have hz0 : v21.heap.size ≤ v21.drew.heap.size := HS0.out.size
    refine wp_region_plan 4 (.read 0 (.two 1 (.two 2 (.make 3 .stop) 3 (.make 2 .stop)) 3 (.make 1 (.make 2 .stop)))) (fun u => Below v21.heap.size v21 u) (by kernel_rfl) (by kernel_rfl) HS0.out ?_
    refine plan_read (v := .agg (c18).toArray) (by rfl) (by rfl) (fun u hu => exec_load_mid (ty := 24) (x := .tmp 2) (b := v18.heap.size) (off := 0) (cs := c18) rfl rfl u (Hbk20_21.out.at_.frame (hu.block _ Hbk20_21.out.lt)) Try.underlying24 rfl (by rw [HLc20.out]; kernel_rfl)) ?_
    try simp only [Act.put, List.setIfInBounds_toArray, List.set_cons_zero, List.set_cons_succ, List.getElem_toArray, List.getElem_cons_succ, List.getElem_cons_zero]
    refine ⟨?_, ?_⟩
    · refine plan_op (by rfl) (by rfl) fun K hK => ?_
      refine wp_call3 (f := 50) (x := .const (.int .i64 1)) (y := .const (.int .i64 0)) (z := .const (.bool true)) (vx := .int .i64 1) (vy := .int .i64 0) (vz := .bool true) rfl rfl rfl rfl rfl rfl rfl rfl (packet_goes v21.drew 1 0 true) ?_
      rintro e q24 ⟨rfl, hb24⟩
      have HS25 := Lib.hid (HS0.out.trans (hb24.mono HS0.out.size))
      have hz25 : v21.drew.heap.size ≤ q24.heap.size := hb24.size
      have hm24 := rep_medOf q24 (fun b => b < q24.heap.size) 1 0 true (in_i64 _ (by omega)) (in_i64 _ (by omega))
      have Hd24 := Lib.hid hm24
      clear hm24 hb24
      refine ⟨_, rfl, hK _ _ ⟨HS25.out, ?_⟩⟩
      clear hK K
      try simp only [Act.put, List.setIfInBounds_toArray, List.set_cons_zero, List.set_cons_succ, List.getElem_toArray, List.getElem_cons_succ, List.getElem_cons_zero]
      refine ⟨?_, ?_⟩
      · refine plan_op (by rfl) (by rfl) fun K hK => ?_
        have ra26 : Rep q24 (fun b => b < q24.heap.size) JBuf c18 kB := Rep.frame _ _ _ (Hrep20_22.out.below HS25.out) fun b h1 h2 => ⟨rfl, h2⟩
        have rb26 : Rep q24 (fun b => b < q24.heap.size) JMed (medCells 1 0 true) (medOf 1 0 true) := Rep.frame _ _ _ Hd24.out fun b h1 h2 => ⟨rfl, h2⟩
        refine wp_call3 (f := 48) (x := .tmp 46) (y := .const (.int .i64 1000)) (z := .tmp 47) (vx := .agg (c18).toArray) (vy := .int .i64 1000) (vz := .agg ((medCells 1 0 true)).toArray) rfl rfl rfl rfl rfl rfl rfl rfl (kput_goes q24 _ _ _ _ 1000 _ ra26 rb26 (fun b hb => hb) (in_i64 _ (by omega))) ?_
        rintro e q26 ⟨c26, rfl, hr26, hb26⟩
        clear ra26 rb26
        have HS27 := Lib.hid (HS25.out.trans (hb26.mono HS25.out.size))
        have hz27 : q24.heap.size ≤ q26.heap.size := hb26.size
        have Hd24_27 := Lib.hid (Hd24.out.below hb26)
        have hlc28 : c26.length = 11 := Rep.length _ _ _ hr26
        have HLc28 := Lib.hid hlc28
        clear hlc28
        have HOne28 := Lib.hid (Rep.one _ _ _ hr26)
        have Hd28 := Lib.hid (show Rep q26 (fun b => q24.heap.size ≤ b ∧ b < q26.heap.size) JBuf c26 kC from Rep.frame _ _ _ hr26 fun b h1 h2 => ⟨rfl, h1, h2⟩)
        clear hr26
        clear hb26
        refine ⟨_, rfl, hK _ _ ⟨HS27.out, ?_⟩⟩
        clear hK K
        try simp only [Act.put, List.setIfInBounds_toArray, List.set_cons_zero, List.set_cons_succ, List.getElem_toArray, List.getElem_cons_succ, List.getElem_cons_zero]
        refine plan_op (by rfl) (by rfl) fun K hK => ?_
        refine wp_allocbk (T := 24) (cs := bufCells 0) rfl (by kernel_rfl) fun q29 M29 B29 Z29 => ?_
        have hlt29 : q26.heap.size < q29.heap.size := M29.lt
        have HS30 := Lib.hid (HS27.out.trans (B29.mono HS27.out.size))
        have hz30 : q26.heap.size ≤ q29.heap.size := B29.size
        have Hd24_30 := Lib.hid (Hd24_27.out.below B29)
        have Hd28_30 := Lib.hid (Hd28.out.below B29)
        have HP29 := Lib.hid M29
        clear M29 B29 Z29
        refine hK _ _ ⟨HS30.out, ?_⟩
        clear hK K
        try simp only [Act.put, List.setIfInBounds_toArray, List.set_cons_zero, List.set_cons_succ, List.getElem_toArray, List.getElem_cons_succ, List.getElem_cons_zero]
        refine plan_stop ?_
        simp only [List.drop_succ_cons, List.drop_zero, Act.put, List.setIfInBounds_toArray, List.set_cons_zero, List.set_cons_succ, List.getElem_toArray, List.getElem_cons_succ, List.getElem_cons_zero]
        go_wp2_with (refine step_store (T := 24) (n := q26.heap.size) (bs := c26) rfl rfl rfl rfl HP29.out (by rw [HLc28.out]; rfl) (by rw [HLc28.out]; kernel_rfl) (HOne28.out) fun q31 M31 G31 => ?_)
        have HS31 := Lib.hid (below_grown HS30.out G31 (by have := HS30.out.size; omega) (by omega))
        have hz31 : q29.heap.size ≤ q31.heap.size := G31.size
        have hd31 := Hd28_30.out.grown_any G31 (by omega)
        have Hd28_31 := Lib.hid hd31
        have HP31 := Lib.hid M31
        clear hd31 M31 G31
        refine Lib.hid ?_
        go_wp2_with fail
        refine NoPanic.normal ?_
        exact ⟨rfl, HMi.out _ _ ⟨q26.heap.size, c26, by omega, HP31.out, Rep.frame _ _ _ Hd28_31.out fun b h1 h2 => ⟨rfl, h2⟩, HS31.out, _, _, _, rfl⟩⟩
      · refine plan_op (by rfl) (by rfl) fun K hK => ?_
        refine wp_allocbk (T := 24) (cs := bufCells 0) rfl (by kernel_rfl) fun q32 M32 B32 Z32 => ?_
        have hlt32 : q24.heap.size < q32.heap.size := M32.lt
        have HS33 := Lib.hid (HS25.out.trans (B32.mono HS25.out.size))
        have hz33 : q24.heap.size ≤ q32.heap.size := B32.size
        have Hd24_33 := Lib.hid (Hd24.out.below B32)
        have HP32 := Lib.hid M32
        clear M32 B32 Z32
        refine hK _ _ ⟨HS33.out, ?_⟩
        clear hK K
        try simp only [Act.put, List.setIfInBounds_toArray, List.set_cons_zero, List.set_cons_succ, List.getElem_toArray, List.getElem_cons_succ, List.getElem_cons_zero]
        refine plan_op (by rfl) (by rfl) fun K hK => ?_
        have ra34 : Rep q32 (fun b => b < q32.heap.size) JBuf c18 kB := Rep.frame _ _ _ (Hrep20_22.out.below HS33.out) fun b h1 h2 => ⟨rfl, h2⟩
        have rb34 : Rep q32 (fun b => b < q32.heap.size) JMed (medCells 1 0 true) (medOf 1 0 true) := Rep.frame _ _ _ Hd24_33.out fun b h1 h2 => ⟨rfl, h2⟩
        refine wp_call3 (f := 48) (x := .tmp 46) (y := .const (.int .i64 1000)) (z := .tmp 47) (vx := .agg (c18).toArray) (vy := .int .i64 1000) (vz := .agg ((medCells 1 0 true)).toArray) rfl rfl rfl rfl rfl rfl rfl rfl (kput_goes q32 _ _ _ _ 1000 _ ra34 rb34 (fun b hb => hb) (in_i64 _ (by omega))) ?_
        rintro e q34 ⟨c34, rfl, hr34, hb34⟩
        clear ra34 rb34
        have HS35 := Lib.hid (HS33.out.trans (hb34.mono HS33.out.size))
        have hz35 : q32.heap.size ≤ q34.heap.size := hb34.size
        have Hd24_35 := Lib.hid (Hd24_33.out.below hb34)
        have HP_35 := Lib.hid (HP32.out.below hb34)
        have hlc36 : c34.length = 11 := Rep.length _ _ _ hr34
        have HLc36 := Lib.hid hlc36
        clear hlc36
        have HOne36 := Lib.hid (Rep.one _ _ _ hr34)
        have Hd36 := Lib.hid (show Rep q34 (fun b => q32.heap.size ≤ b ∧ b < q34.heap.size) JBuf c34 kC from Rep.frame _ _ _ hr34 fun b h1 h2 => ⟨rfl, h1, h2⟩)
        clear hr34
        clear hb34
        refine ⟨_, rfl, hK _ _ ⟨HS35.out, ?_⟩⟩
        clear hK K
        try simp only [Act.put, List.setIfInBounds_toArray, List.set_cons_zero, List.set_cons_succ, List.getElem_toArray, List.getElem_cons_succ, List.getElem_cons_zero]
        refine plan_stop ?_
        simp only [List.drop_succ_cons, List.drop_zero, Act.put, List.setIfInBounds_toArray, List.set_cons_zero, List.set_cons_succ, List.getElem_toArray, List.getElem_cons_succ, List.getElem_cons_zero]
        go_wp2_with (refine step_store (T := 24) (n := q24.heap.size) (bs := c34) rfl rfl rfl rfl HP_35.out (by rw [HLc36.out]; rfl) (by rw [HLc36.out]; kernel_rfl) (HOne36.out) fun q37 M37 G37 => ?_)
        have HS37 := Lib.hid (below_grown HS35.out G37 (by have := HS35.out.size; omega) (by omega))
        have hz37 : q34.heap.size ≤ q37.heap.size := G37.size
        have hd37 := Hd36.out.grown_any G37 (by omega)
        have Hd36_37 := Lib.hid hd37
        have HP37 := Lib.hid M37
        clear hd37 M37 G37
        refine Lib.hid ?_
        go_wp2_with fail
        refine NoPanic.normal ?_
        exact ⟨rfl, HMi.out _ _ ⟨q24.heap.size, c34, by omega, HP37.out, Rep.frame _ _ _ Hd36_37.out fun b h1 h2 => ⟨rfl, h2⟩, HS37.out, _, _, _, rfl⟩⟩
    · refine plan_op (by rfl) (by rfl) fun K hK => ?_
      refine wp_allocbk (T := 24) (cs := bufCells 0) rfl (by kernel_rfl) fun q38 M38 B38 Z38 => ?_
      have hlt38 : v21.drew.heap.size < q38.heap.size := M38.lt
      have HS39 := Lib.hid (HS0.out.trans (B38.mono HS0.out.size))
      have hz39 : v21.drew.heap.size ≤ q38.heap.size := B38.size
      have HP38 := Lib.hid M38
      clear M38 B38 Z38
      refine hK _ _ ⟨HS39.out, ?_⟩
      clear hK K
      try simp only [Act.put, List.setIfInBounds_toArray, List.set_cons_zero, List.set_cons_succ, List.getElem_toArray, List.getElem_cons_succ, List.getElem_cons_zero]
      refine plan_op (by rfl) (by rfl) fun K hK => ?_
      refine wp_call3 (f := 50) (x := .const (.int .i64 1)) (y := .const (.int .i64 0)) (z := .const (.bool true)) (vx := .int .i64 1) (vy := .int .i64 0) (vz := .bool true) rfl rfl rfl rfl rfl rfl rfl rfl (packet_goes q38 1 0 true) ?_
      rintro e q40 ⟨rfl, hb40⟩
      have HS41 := Lib.hid (HS39.out.trans (hb40.mono HS39.out.size))
      have hz41 : q38.heap.size ≤ q40.heap.size := hb40.size
      have HP_41 := Lib.hid (HP38.out.below hb40)
      have hm40 := rep_medOf q40 (fun b => b < q40.heap.size) 1 0 true (in_i64 _ (by omega)) (in_i64 _ (by omega))
      have Hd40 := Lib.hid hm40
      clear hm40 hb40
      refine ⟨_, rfl, hK _ _ ⟨HS41.out, ?_⟩⟩
      clear hK K
      try simp only [Act.put, List.setIfInBounds_toArray, List.set_cons_zero, List.set_cons_succ, List.getElem_toArray, List.getElem_cons_succ, List.getElem_cons_zero]
      refine plan_op (by rfl) (by rfl) fun K hK => ?_
      have ra42 : Rep q40 (fun b => b < q40.heap.size) JBuf c18 kB := Rep.frame _ _ _ (Hrep20_22.out.below HS41.out) fun b h1 h2 => ⟨rfl, h2⟩
      have rb42 : Rep q40 (fun b => b < q40.heap.size) JMed (medCells 1 0 true) (medOf 1 0 true) := Rep.frame _ _ _ Hd40.out fun b h1 h2 => ⟨rfl, h2⟩
      refine wp_call3 (f := 48) (x := .tmp 46) (y := .const (.int .i64 1000)) (z := .tmp 47) (vx := .agg (c18).toArray) (vy := .int .i64 1000) (vz := .agg ((medCells 1 0 true)).toArray) rfl rfl rfl rfl rfl rfl rfl rfl (kput_goes q40 _ _ _ _ 1000 _ ra42 rb42 (fun b hb => hb) (in_i64 _ (by omega))) ?_
      rintro e q42 ⟨c42, rfl, hr42, hb42⟩
      clear ra42 rb42
      have HS43 := Lib.hid (HS41.out.trans (hb42.mono HS41.out.size))
      have hz43 : q40.heap.size ≤ q42.heap.size := hb42.size
      have Hd40_43 := Lib.hid (Hd40.out.below hb42)
      have HP_43 := Lib.hid (HP_41.out.below hb42)
      have hlc44 : c42.length = 11 := Rep.length _ _ _ hr42
      have HLc44 := Lib.hid hlc44
      clear hlc44
      have HOne44 := Lib.hid (Rep.one _ _ _ hr42)
      have Hd44 := Lib.hid (show Rep q42 (fun b => q40.heap.size ≤ b ∧ b < q42.heap.size) JBuf c42 kC from Rep.frame _ _ _ hr42 fun b h1 h2 => ⟨rfl, h1, h2⟩)
      clear hr42
      clear hb42
      refine ⟨_, rfl, hK _ _ ⟨HS43.out, ?_⟩⟩
      clear hK K
      try simp only [Act.put, List.setIfInBounds_toArray, List.set_cons_zero, List.set_cons_succ, List.getElem_toArray, List.getElem_cons_succ, List.getElem_cons_zero]
      refine plan_stop ?_
      simp only [List.drop_succ_cons, List.drop_zero, Act.put, List.setIfInBounds_toArray, List.set_cons_zero, List.set_cons_succ, List.getElem_toArray, List.getElem_cons_succ, List.getElem_cons_zero]
      go_wp2_with (refine step_store (T := 24) (n := v21.drew.heap.size) (bs := c42) rfl rfl rfl rfl HP_43.out (by rw [HLc44.out]; rfl) (by rw [HLc44.out]; kernel_rfl) (HOne44.out) fun q45 M45 G45 => ?_)
      have HS45 := Lib.hid (below_grown HS43.out G45 (by have := HS43.out.size; omega) (by omega))
      have hz45 : q42.heap.size ≤ q45.heap.size := G45.size
      have hd45 := Hd44.out.grown_any G45 (by omega)
      have Hd44_45 := Lib.hid hd45
      have HP45 := Lib.hid M45
      clear hd45 M45 G45
      refine Lib.hid ?_
      go_wp2_with fail
      refine NoPanic.normal ?_
      exact ⟨rfl, HMi.out _ _ ⟨v21.drew.heap.size, c42, by omega, HP45.out, Rep.frame _ _ _ Hd44_45.out fun b h1 h2 => ⟨rfl, h2⟩, HS45.out, _, _, _, rfl⟩⟩
  rintro _ v23 ⟨bn23, cs23, hbn23, M23, hr23, B23, u46, u47, u48, rfl⟩
  rw [ha23]
  clear ha23
  simp only [List.setIfInBounds_toArray, List.set_cons_zero, List.set_cons_succ]
  have hlt23 : bn23 < v23.heap.size := M23.lt
  have Hbk20_46 := Lib.hid (Hbk20_21.out.below B23)
  clear Hbk20_21
  have Hrep20_46 := Lib.hid (Hrep20_22.out.below B23)
  clear Hrep20_22
  have HB46 := Lib.hid (HB22.out.trans (B23.mono HB22.out.size))
  clear HB22
  have hz46 : v21.heap.size ≤ v23.heap.size := B23.size
  have hlc47 : cs23.length = 11 := Rep.length _ _ _ hr23
  have HLc47 := Lib.hid hlc47
  clear hlc47
  have HOne47 := Lib.hid (Rep.one _ _ _ hr23)
  have Hrep47 := Lib.hid (show Rep v23 (fun b => b < v23.heap.size) JBuf cs23 kC from Rep.frame _ _ _ hr23 fun b h1 h2 => ⟨rfl, h2⟩)
  clear hr23
  have Hbk47_0 := Lib.hid M23
  clear M23 B23
  clear Hbk20_46 Hrep20_46
  obtain ⟨hm5, -, hj8, -⟩ := cell_at Hbk47_0.out Hrep47.out
  rw [known2.1] at hm5
  rw [known2.2] at hj8
  go_wp2_with fail
  clear hm5 hj8
  refine wp_name fun a48 ha48 => ?_
  refine wp_mid (fun a2 W2 => ∃ bn cs2, v23.heap.size ≤ bn ∧ Bk W2 bn 24 cs2 ∧ Rep W2 (fun b => b < W2.heap.size) JBuf cs2 (putF kC 1000 (medOf 513 0 true)).1 ∧ Below v23.heap.size v23 W2 ∧ ∃ u62 u63 u64 u61 u65 u66 : Value, a2 = ⟨((((((((a48.tmps.setIfInBounds 62 u62).setIfInBounds 63 u63).setIfInBounds 64 u64).setIfInBounds 61 u61).setIfInBounds 65 u65).setIfInBounds 66 u66).setIfInBounds 5 (.pointer (some ⟨bn, 0, none⟩))).setIfInBounds 6 (.int .i64 6)), a48.defers⟩) ?_ ?_
  · intro Mi hM
    rw [ha48] at hM
    simp only [List.setIfInBounds_toArray, List.set_cons_zero, List.set_cons_succ] at hM
    have HMi := Lib.hid hM
    clear hM
    rw [ha48]
    clear ha48
    have HS0 := Lib.hid (show Below v23.heap.size v23 v23.drew from (Below.refl _ v23).drew)
    have hz0 : v23.heap.size ≤ v23.drew.heap.size := HS0.out.size
    refine wp_region_plan 8 (.read 0 (.two 1 (.two 2 (.read 3 (.read 4 (.read 5 (.make 6 (.make 7 .stop))))) 6 (.make 2 (.read 3 (.read 4 (.read 5 (.make 7 .stop)))))) 6 (.make 1 (.make 2 (.read 3 (.read 4 (.read 5 (.make 7 .stop)))))))) (fun u => Below v23.heap.size v23 u) (by kernel_rfl) (by kernel_rfl) HS0.out ?_
    refine plan_read (v := .agg (cs23).toArray) (by rfl) (by rfl) (fun u hu => exec_load_mid (ty := 24) (x := .tmp 4) (b := bn23) (off := 0) (cs := cs23) rfl rfl u (Hbk47_0.out.at_.frame (hu.block _ Hbk47_0.out.lt)) Try.underlying24 rfl (by rw [HLc47.out]; kernel_rfl)) ?_
    try simp only [Act.put, List.setIfInBounds_toArray, List.set_cons_zero, List.set_cons_succ, List.getElem_toArray, List.getElem_cons_succ, List.getElem_cons_zero]
    refine ⟨?_, ?_⟩
    · refine plan_op (by rfl) (by rfl) fun K hK => ?_
      refine wp_call3 (f := 50) (x := .const (.int .i64 513)) (y := .const (.int .i64 0)) (z := .const (.bool true)) (vx := .int .i64 513) (vy := .int .i64 0) (vz := .bool true) rfl rfl rfl rfl rfl rfl rfl rfl (packet_goes v23.drew 513 0 true) ?_
      rintro e q49 ⟨rfl, hb49⟩
      have HS50 := Lib.hid (HS0.out.trans (hb49.mono HS0.out.size))
      have hz50 : v23.drew.heap.size ≤ q49.heap.size := hb49.size
      have hm49 := rep_medOf q49 (fun b => b < q49.heap.size) 513 0 true (in_i64 _ (by omega)) (in_i64 _ (by omega))
      have Hd49 := Lib.hid hm49
      clear hm49 hb49
      refine ⟨_, rfl, hK _ _ ⟨HS50.out, ?_⟩⟩
      clear hK K
      try simp only [Act.put, List.setIfInBounds_toArray, List.set_cons_zero, List.set_cons_succ, List.getElem_toArray, List.getElem_cons_succ, List.getElem_cons_zero]
      refine ⟨?_, ?_⟩
      · refine plan_op (by rfl) (by rfl) fun K hK => ?_
        have ra51 : Rep q49 (fun b => b < q49.heap.size) JBuf cs23 kC := Rep.frame _ _ _ (Hrep47.out.below HS50.out) fun b h1 h2 => ⟨rfl, h2⟩
        have rb51 : Rep q49 (fun b => b < q49.heap.size) JMed (medCells 513 0 true) (medOf 513 0 true) := Rep.frame _ _ _ Hd49.out fun b h1 h2 => ⟨rfl, h2⟩
        refine wp_call3 (f := 14) (x := .tmp 62) (y := .const (.int .i64 1000)) (z := .tmp 63) (vx := .agg (cs23).toArray) (vy := .int .i64 1000) (vz := .agg ((medCells 513 0 true)).toArray) rfl rfl rfl rfl rfl rfl rfl rfl (put_goesD q49 _ _ _ _ 1000 _ ra51 rb51 (fun b hb => hb) (in_i64 _ (by omega))) ?_
        rintro e q51 ⟨c51, rfl, hr51, hb51⟩
        clear ra51 rb51
        rw [show (putF kC 1000 (medOf 513 0 true)).2 = 6 from known3.1]
        have HS52 := Lib.hid (HS50.out.trans (hb51.mono HS50.out.size))
        have hz52 : q49.heap.size ≤ q51.heap.size := hb51.size
        have Hd49_52 := Lib.hid (Hd49.out.below hb51)
        have hlc53 : c51.length = 11 := Rep.length _ _ _ hr51
        have HLc53 := Lib.hid hlc53
        clear hlc53
        have HOne53 := Lib.hid (Rep.one _ _ _ hr51)
        have Hd53 := Lib.hid (show Rep q51 (fun b => q49.heap.size ≤ b ∧ b < q51.heap.size) JBuf c51 (putF kC 1000 (medOf 513 0 true)).1 from Rep.frame _ _ _ hr51 fun b h1 h2 => ⟨rfl, h1, h2⟩)
        clear hr51
        clear hb51
        refine ⟨_, rfl, hK _ _ ⟨HS52.out, ?_⟩⟩
        clear hK K
        try simp only [Act.put, List.setIfInBounds_toArray, List.set_cons_zero, List.set_cons_succ, List.getElem_toArray, List.getElem_cons_succ, List.getElem_cons_zero]
        refine plan_read (by rfl) (by rfl) (fun u hu => by (clear hu; go_simp; try rfl)) ?_
        try simp only [Act.put, List.setIfInBounds_toArray, List.set_cons_zero, List.set_cons_succ, List.getElem_toArray, List.getElem_cons_succ, List.getElem_cons_zero]
        refine plan_read (by rfl) (by rfl) (fun u hu => by (clear hu; go_simp; try rfl)) ?_
        try simp only [Act.put, List.setIfInBounds_toArray, List.set_cons_zero, List.set_cons_succ, List.getElem_toArray, List.getElem_cons_succ, List.getElem_cons_zero]
        refine plan_read (by rfl) (by rfl) (fun u hu => by (clear hu; go_simp; try rfl)) ?_
        try simp only [Act.put, List.setIfInBounds_toArray, List.set_cons_zero, List.set_cons_succ, List.getElem_toArray, List.getElem_cons_succ, List.getElem_cons_zero]
        refine plan_op (by rfl) (by rfl) fun K hK => ?_
        refine wp_allocbk (T := 24) (cs := bufCells 0) rfl (by kernel_rfl) fun q54 M54 B54 Z54 => ?_
        have hlt54 : q51.heap.size < q54.heap.size := M54.lt
        have HS55 := Lib.hid (HS52.out.trans (B54.mono HS52.out.size))
        have hz55 : q51.heap.size ≤ q54.heap.size := B54.size
        have Hd49_55 := Lib.hid (Hd49_52.out.below B54)
        have Hd53_55 := Lib.hid (Hd53.out.below B54)
        have HP54 := Lib.hid M54
        clear M54 B54 Z54
        refine hK _ _ ⟨HS55.out, ?_⟩
        clear hK K
        try simp only [Act.put, List.setIfInBounds_toArray, List.set_cons_zero, List.set_cons_succ, List.getElem_toArray, List.getElem_cons_succ, List.getElem_cons_zero]
        refine plan_op (by rfl) (by rfl) fun K hK => ?_
        refine wp_storebk (T := 24) (x := .tmp 5) (y := .tmp 65) (n := q51.heap.size) (bs := c51) rfl rfl rfl HP54.out (by rw [HLc53.out]; rfl) (by rw [HLc53.out]; kernel_rfl) (HOne53.out) fun q56 M56 G56 => ?_
        have HS56 := Lib.hid (below_grown HS55.out G56 (by have := HS55.out.size; omega) (by omega))
        have hz56 : q54.heap.size ≤ q56.heap.size := G56.size
        have hd56 := Hd53_55.out.grown_any G56 (by omega)
        have Hd53_56 := Lib.hid hd56
        have HP56 := Lib.hid M56
        clear hd56 M56 G56
        refine hK _ _ ⟨HS56.out, ?_⟩
        clear hK K
        try simp only [Act.put, List.setIfInBounds_toArray, List.set_cons_zero, List.set_cons_succ, List.getElem_toArray, List.getElem_cons_succ, List.getElem_cons_zero]
        refine plan_stop ?_
        simp only [List.drop_succ_cons, List.drop_zero, Act.put, List.setIfInBounds_toArray, List.set_cons_zero, List.set_cons_succ, List.getElem_toArray, List.getElem_cons_succ, List.getElem_cons_zero]
        go_wp2_with fail
        refine NoPanic.normal ?_
        exact ⟨rfl, HMi.out _ _ ⟨q51.heap.size, c51, by omega, HP56.out, Rep.frame _ _ _ Hd53_56.out fun b h1 h2 => ⟨rfl, h2⟩, HS56.out, _, _, _, _, _, _, rfl⟩⟩
      · refine plan_op (by rfl) (by rfl) fun K hK => ?_
        refine wp_allocbk (T := 24) (cs := bufCells 0) rfl (by kernel_rfl) fun q57 M57 B57 Z57 => ?_
        have hlt57 : q49.heap.size < q57.heap.size := M57.lt
        have HS58 := Lib.hid (HS50.out.trans (B57.mono HS50.out.size))
        have hz58 : q49.heap.size ≤ q57.heap.size := B57.size
        have Hd49_58 := Lib.hid (Hd49.out.below B57)
        have HP57 := Lib.hid M57
        clear M57 B57 Z57
        refine hK _ _ ⟨HS58.out, ?_⟩
        clear hK K
        try simp only [Act.put, List.setIfInBounds_toArray, List.set_cons_zero, List.set_cons_succ, List.getElem_toArray, List.getElem_cons_succ, List.getElem_cons_zero]
        refine plan_op (by rfl) (by rfl) fun K hK => ?_
        have ra59 : Rep q57 (fun b => b < q57.heap.size) JBuf cs23 kC := Rep.frame _ _ _ (Hrep47.out.below HS58.out) fun b h1 h2 => ⟨rfl, h2⟩
        have rb59 : Rep q57 (fun b => b < q57.heap.size) JMed (medCells 513 0 true) (medOf 513 0 true) := Rep.frame _ _ _ Hd49_58.out fun b h1 h2 => ⟨rfl, h2⟩
        refine wp_call3 (f := 14) (x := .tmp 62) (y := .const (.int .i64 1000)) (z := .tmp 63) (vx := .agg (cs23).toArray) (vy := .int .i64 1000) (vz := .agg ((medCells 513 0 true)).toArray) rfl rfl rfl rfl rfl rfl rfl rfl (put_goesD q57 _ _ _ _ 1000 _ ra59 rb59 (fun b hb => hb) (in_i64 _ (by omega))) ?_
        rintro e q59 ⟨c59, rfl, hr59, hb59⟩
        clear ra59 rb59
        rw [show (putF kC 1000 (medOf 513 0 true)).2 = 6 from known3.1]
        have HS60 := Lib.hid (HS58.out.trans (hb59.mono HS58.out.size))
        have hz60 : q57.heap.size ≤ q59.heap.size := hb59.size
        have Hd49_60 := Lib.hid (Hd49_58.out.below hb59)
        have HP_60 := Lib.hid (HP57.out.below hb59)
        have hlc61 : c59.length = 11 := Rep.length _ _ _ hr59
        have HLc61 := Lib.hid hlc61
        clear hlc61
        have HOne61 := Lib.hid (Rep.one _ _ _ hr59)
        have Hd61 := Lib.hid (show Rep q59 (fun b => q57.heap.size ≤ b ∧ b < q59.heap.size) JBuf c59 (putF kC 1000 (medOf 513 0 true)).1 from Rep.frame _ _ _ hr59 fun b h1 h2 => ⟨rfl, h1, h2⟩)
        clear hr59
        clear hb59
        refine ⟨_, rfl, hK _ _ ⟨HS60.out, ?_⟩⟩
        clear hK K
        try simp only [Act.put, List.setIfInBounds_toArray, List.set_cons_zero, List.set_cons_succ, List.getElem_toArray, List.getElem_cons_succ, List.getElem_cons_zero]
        refine plan_read (by rfl) (by rfl) (fun u hu => by (clear hu; go_simp; try rfl)) ?_
        try simp only [Act.put, List.setIfInBounds_toArray, List.set_cons_zero, List.set_cons_succ, List.getElem_toArray, List.getElem_cons_succ, List.getElem_cons_zero]
        refine plan_read (by rfl) (by rfl) (fun u hu => by (clear hu; go_simp; try rfl)) ?_
        try simp only [Act.put, List.setIfInBounds_toArray, List.set_cons_zero, List.set_cons_succ, List.getElem_toArray, List.getElem_cons_succ, List.getElem_cons_zero]
        refine plan_read (by rfl) (by rfl) (fun u hu => by (clear hu; go_simp; try rfl)) ?_
        try simp only [Act.put, List.setIfInBounds_toArray, List.set_cons_zero, List.set_cons_succ, List.getElem_toArray, List.getElem_cons_succ, List.getElem_cons_zero]
        refine plan_op (by rfl) (by rfl) fun K hK => ?_
        refine wp_storebk (T := 24) (x := .tmp 5) (y := .tmp 65) (n := q49.heap.size) (bs := c59) rfl rfl rfl HP_60.out (by rw [HLc61.out]; rfl) (by rw [HLc61.out]; kernel_rfl) (HOne61.out) fun q62 M62 G62 => ?_
        have HS62 := Lib.hid (below_grown HS60.out G62 (by have := HS60.out.size; omega) (by omega))
        have hz62 : q59.heap.size ≤ q62.heap.size := G62.size
        have hd62 := Hd61.out.grown_any G62 (by omega)
        have Hd61_62 := Lib.hid hd62
        have HP62 := Lib.hid M62
        clear hd62 M62 G62
        refine hK _ _ ⟨HS62.out, ?_⟩
        clear hK K
        try simp only [Act.put, List.setIfInBounds_toArray, List.set_cons_zero, List.set_cons_succ, List.getElem_toArray, List.getElem_cons_succ, List.getElem_cons_zero]
        refine plan_stop ?_
        simp only [List.drop_succ_cons, List.drop_zero, Act.put, List.setIfInBounds_toArray, List.set_cons_zero, List.set_cons_succ, List.getElem_toArray, List.getElem_cons_succ, List.getElem_cons_zero]
        go_wp2_with fail
        refine NoPanic.normal ?_
        exact ⟨rfl, HMi.out _ _ ⟨q49.heap.size, c59, by omega, HP62.out, Rep.frame _ _ _ Hd61_62.out fun b h1 h2 => ⟨rfl, h2⟩, HS62.out, _, _, _, _, _, _, rfl⟩⟩
    · refine plan_op (by rfl) (by rfl) fun K hK => ?_
      refine wp_allocbk (T := 24) (cs := bufCells 0) rfl (by kernel_rfl) fun q63 M63 B63 Z63 => ?_
      have hlt63 : v23.drew.heap.size < q63.heap.size := M63.lt
      have HS64 := Lib.hid (HS0.out.trans (B63.mono HS0.out.size))
      have hz64 : v23.drew.heap.size ≤ q63.heap.size := B63.size
      have HP63 := Lib.hid M63
      clear M63 B63 Z63
      refine hK _ _ ⟨HS64.out, ?_⟩
      clear hK K
      try simp only [Act.put, List.setIfInBounds_toArray, List.set_cons_zero, List.set_cons_succ, List.getElem_toArray, List.getElem_cons_succ, List.getElem_cons_zero]
      refine plan_op (by rfl) (by rfl) fun K hK => ?_
      refine wp_call3 (f := 50) (x := .const (.int .i64 513)) (y := .const (.int .i64 0)) (z := .const (.bool true)) (vx := .int .i64 513) (vy := .int .i64 0) (vz := .bool true) rfl rfl rfl rfl rfl rfl rfl rfl (packet_goes q63 513 0 true) ?_
      rintro e q65 ⟨rfl, hb65⟩
      have HS66 := Lib.hid (HS64.out.trans (hb65.mono HS64.out.size))
      have hz66 : q63.heap.size ≤ q65.heap.size := hb65.size
      have HP_66 := Lib.hid (HP63.out.below hb65)
      have hm65 := rep_medOf q65 (fun b => b < q65.heap.size) 513 0 true (in_i64 _ (by omega)) (in_i64 _ (by omega))
      have Hd65 := Lib.hid hm65
      clear hm65 hb65
      refine ⟨_, rfl, hK _ _ ⟨HS66.out, ?_⟩⟩
      clear hK K
      try simp only [Act.put, List.setIfInBounds_toArray, List.set_cons_zero, List.set_cons_succ, List.getElem_toArray, List.getElem_cons_succ, List.getElem_cons_zero]
      refine plan_op (by rfl) (by rfl) fun K hK => ?_
      have ra67 : Rep q65 (fun b => b < q65.heap.size) JBuf cs23 kC := Rep.frame _ _ _ (Hrep47.out.below HS66.out) fun b h1 h2 => ⟨rfl, h2⟩
      have rb67 : Rep q65 (fun b => b < q65.heap.size) JMed (medCells 513 0 true) (medOf 513 0 true) := Rep.frame _ _ _ Hd65.out fun b h1 h2 => ⟨rfl, h2⟩
      refine wp_call3 (f := 14) (x := .tmp 62) (y := .const (.int .i64 1000)) (z := .tmp 63) (vx := .agg (cs23).toArray) (vy := .int .i64 1000) (vz := .agg ((medCells 513 0 true)).toArray) rfl rfl rfl rfl rfl rfl rfl rfl (put_goesD q65 _ _ _ _ 1000 _ ra67 rb67 (fun b hb => hb) (in_i64 _ (by omega))) ?_
      rintro e q67 ⟨c67, rfl, hr67, hb67⟩
      clear ra67 rb67
      rw [show (putF kC 1000 (medOf 513 0 true)).2 = 6 from known3.1]
      have HS68 := Lib.hid (HS66.out.trans (hb67.mono HS66.out.size))
      have hz68 : q65.heap.size ≤ q67.heap.size := hb67.size
      have Hd65_68 := Lib.hid (Hd65.out.below hb67)
      have HP_68 := Lib.hid (HP_66.out.below hb67)
      have hlc69 : c67.length = 11 := Rep.length _ _ _ hr67
      have HLc69 := Lib.hid hlc69
      clear hlc69
      have HOne69 := Lib.hid (Rep.one _ _ _ hr67)
      have Hd69 := Lib.hid (show Rep q67 (fun b => q65.heap.size ≤ b ∧ b < q67.heap.size) JBuf c67 (putF kC 1000 (medOf 513 0 true)).1 from Rep.frame _ _ _ hr67 fun b h1 h2 => ⟨rfl, h1, h2⟩)
      clear hr67
      clear hb67
      refine ⟨_, rfl, hK _ _ ⟨HS68.out, ?_⟩⟩
      clear hK K
      try simp only [Act.put, List.setIfInBounds_toArray, List.set_cons_zero, List.set_cons_succ, List.getElem_toArray, List.getElem_cons_succ, List.getElem_cons_zero]
      refine plan_read (by rfl) (by rfl) (fun u hu => by (clear hu; go_simp; try rfl)) ?_
      try simp only [Act.put, List.setIfInBounds_toArray, List.set_cons_zero, List.set_cons_succ, List.getElem_toArray, List.getElem_cons_succ, List.getElem_cons_zero]
      refine plan_read (by rfl) (by rfl) (fun u hu => by (clear hu; go_simp; try rfl)) ?_
      try simp only [Act.put, List.setIfInBounds_toArray, List.set_cons_zero, List.set_cons_succ, List.getElem_toArray, List.getElem_cons_succ, List.getElem_cons_zero]
      refine plan_read (by rfl) (by rfl) (fun u hu => by (clear hu; go_simp; try rfl)) ?_
      try simp only [Act.put, List.setIfInBounds_toArray, List.set_cons_zero, List.set_cons_succ, List.getElem_toArray, List.getElem_cons_succ, List.getElem_cons_zero]
      refine plan_op (by rfl) (by rfl) fun K hK => ?_
      refine wp_storebk (T := 24) (x := .tmp 5) (y := .tmp 65) (n := v23.drew.heap.size) (bs := c67) rfl rfl rfl HP_68.out (by rw [HLc69.out]; rfl) (by rw [HLc69.out]; kernel_rfl) (HOne69.out) fun q70 M70 G70 => ?_
      have HS70 := Lib.hid (below_grown HS68.out G70 (by have := HS68.out.size; omega) (by omega))
      have hz70 : q67.heap.size ≤ q70.heap.size := G70.size
      have hd70 := Hd69.out.grown_any G70 (by omega)
      have Hd69_70 := Lib.hid hd70
      have HP70 := Lib.hid M70
      clear hd70 M70 G70
      refine hK _ _ ⟨HS70.out, ?_⟩
      clear hK K
      try simp only [Act.put, List.setIfInBounds_toArray, List.set_cons_zero, List.set_cons_succ, List.getElem_toArray, List.getElem_cons_succ, List.getElem_cons_zero]
      refine plan_stop ?_
      simp only [List.drop_succ_cons, List.drop_zero, Act.put, List.setIfInBounds_toArray, List.set_cons_zero, List.set_cons_succ, List.getElem_toArray, List.getElem_cons_succ, List.getElem_cons_zero]
      go_wp2_with fail
      refine NoPanic.normal ?_
      exact ⟨rfl, HMi.out _ _ ⟨v23.drew.heap.size, c67, by omega, HP70.out, Rep.frame _ _ _ Hd69_70.out fun b h1 h2 => ⟨rfl, h2⟩, HS70.out, _, _, _, _, _, _, rfl⟩⟩
  rintro _ v48 ⟨bn48, cs48, hbn48, M48, hr48, B48, u62, u63, u64, u61, u65, u66, rfl⟩
  rw [ha48]
  clear ha48
  simp only [List.setIfInBounds_toArray, List.set_cons_zero, List.set_cons_succ]
  have hlt48 : bn48 < v48.heap.size := M48.lt
  have Hbk47_71 := Lib.hid (Hbk47_0.out.below B48)
  clear Hbk47_0
  have Hrep47_71 := Lib.hid (Hrep47.out.below B48)
  clear Hrep47
  have HB71 := Lib.hid (HB46.out.trans (B48.mono HB46.out.size))
  clear HB46
  have hz71 : v23.heap.size ≤ v48.heap.size := B48.size
  have hlc72 : cs48.length = 11 := Rep.length _ _ _ hr48
  have HLc72 := Lib.hid hlc72
  clear hlc72
  have HOne72 := Lib.hid (Rep.one _ _ _ hr48)
  have Hrep72 := Lib.hid (show Rep v48 (fun b => b < v48.heap.size) JBuf cs48 (putF kC 1000 (medOf 513 0 true)).1 from Rep.frame _ _ _ hr48 fun b h1 h2 => ⟨rfl, h2⟩)
  clear hr48
  have Hbk72_0 := Lib.hid M48
  clear M48 B48
  clear Hbk72_0 Hrep72
  go_wp2_with fail
  refine wp_name fun a73 ha73 => ?_
  refine wp_mid (fun a2 W2 => ∃ bn cs2, v48.heap.size ≤ bn ∧ Bk W2 bn 24 cs2 ∧ Rep W2 (fun b => b < W2.heap.size) JBuf cs2 (putF kC 1000 (medOf 512 0 true)).1 ∧ Below v48.heap.size v48 W2 ∧ ∃ u68 u69 u70 u67 u71 u72 : Value, a2 = ⟨((((((((a73.tmps.setIfInBounds 68 u68).setIfInBounds 69 u69).setIfInBounds 70 u70).setIfInBounds 67 u67).setIfInBounds 71 u71).setIfInBounds 72 u72).setIfInBounds 7 (.pointer (some ⟨bn, 0, none⟩))).setIfInBounds 8 (.int .i64 0)), a73.defers⟩) ?_ ?_
  · intro Mi hM
    rw [ha73] at hM
    simp only [List.setIfInBounds_toArray, List.set_cons_zero, List.set_cons_succ] at hM
    have HMi := Lib.hid hM
    clear hM
    rw [ha73]
    clear ha73
    have HS0 := Lib.hid (show Below v48.heap.size v48 v48.drew from (Below.refl _ v48).drew)
    have hz0 : v48.heap.size ≤ v48.drew.heap.size := HS0.out.size
    refine wp_region_plan 8 (.read 0 (.two 1 (.two 2 (.read 3 (.read 4 (.read 5 (.make 6 (.make 7 .stop))))) 6 (.make 2 (.read 3 (.read 4 (.read 5 (.make 7 .stop)))))) 6 (.make 1 (.make 2 (.read 3 (.read 4 (.read 5 (.make 7 .stop)))))))) (fun u => Below v48.heap.size v48 u) (by kernel_rfl) (by kernel_rfl) HS0.out ?_
    refine plan_read (v := .agg (cs23).toArray) (by rfl) (by rfl) (fun u hu => exec_load_mid (ty := 24) (x := .tmp 4) (b := bn23) (off := 0) (cs := cs23) rfl rfl u (Hbk47_71.out.at_.frame (hu.block _ Hbk47_71.out.lt)) Try.underlying24 rfl (by rw [HLc47.out]; kernel_rfl)) ?_
    try simp only [Act.put, List.setIfInBounds_toArray, List.set_cons_zero, List.set_cons_succ, List.getElem_toArray, List.getElem_cons_succ, List.getElem_cons_zero]
    refine ⟨?_, ?_⟩
    · refine plan_op (by rfl) (by rfl) fun K hK => ?_
      refine wp_call3 (f := 50) (x := .const (.int .i64 512)) (y := .const (.int .i64 0)) (z := .const (.bool true)) (vx := .int .i64 512) (vy := .int .i64 0) (vz := .bool true) rfl rfl rfl rfl rfl rfl rfl rfl (packet_goes v48.drew 512 0 true) ?_
      rintro e q74 ⟨rfl, hb74⟩
      have HS75 := Lib.hid (HS0.out.trans (hb74.mono HS0.out.size))
      have hz75 : v48.drew.heap.size ≤ q74.heap.size := hb74.size
      have hm74 := rep_medOf q74 (fun b => b < q74.heap.size) 512 0 true (in_i64 _ (by omega)) (in_i64 _ (by omega))
      have Hd74 := Lib.hid hm74
      clear hm74 hb74
      refine ⟨_, rfl, hK _ _ ⟨HS75.out, ?_⟩⟩
      clear hK K
      try simp only [Act.put, List.setIfInBounds_toArray, List.set_cons_zero, List.set_cons_succ, List.getElem_toArray, List.getElem_cons_succ, List.getElem_cons_zero]
      refine ⟨?_, ?_⟩
      · refine plan_op (by rfl) (by rfl) fun K hK => ?_
        have ra76 : Rep q74 (fun b => b < q74.heap.size) JBuf cs23 kC := Rep.frame _ _ _ (Hrep47_71.out.below HS75.out) fun b h1 h2 => ⟨rfl, h2⟩
        have rb76 : Rep q74 (fun b => b < q74.heap.size) JMed (medCells 512 0 true) (medOf 512 0 true) := Rep.frame _ _ _ Hd74.out fun b h1 h2 => ⟨rfl, h2⟩
        refine wp_call3 (f := 14) (x := .tmp 68) (y := .const (.int .i64 1000)) (z := .tmp 69) (vx := .agg (cs23).toArray) (vy := .int .i64 1000) (vz := .agg ((medCells 512 0 true)).toArray) rfl rfl rfl rfl rfl rfl rfl rfl (put_goesD q74 _ _ _ _ 1000 _ ra76 rb76 (fun b hb => hb) (in_i64 _ (by omega))) ?_
        rintro e q76 ⟨c76, rfl, hr76, hb76⟩
        clear ra76 rb76
        rw [show (putF kC 1000 (medOf 512 0 true)).2 = 0 from known3.2.1]
        have HS77 := Lib.hid (HS75.out.trans (hb76.mono HS75.out.size))
        have hz77 : q74.heap.size ≤ q76.heap.size := hb76.size
        have Hd74_77 := Lib.hid (Hd74.out.below hb76)
        have hlc78 : c76.length = 11 := Rep.length _ _ _ hr76
        have HLc78 := Lib.hid hlc78
        clear hlc78
        have HOne78 := Lib.hid (Rep.one _ _ _ hr76)
        have Hd78 := Lib.hid (show Rep q76 (fun b => q74.heap.size ≤ b ∧ b < q76.heap.size) JBuf c76 (putF kC 1000 (medOf 512 0 true)).1 from Rep.frame _ _ _ hr76 fun b h1 h2 => ⟨rfl, h1, h2⟩)
        clear hr76
        clear hb76
        refine ⟨_, rfl, hK _ _ ⟨HS77.out, ?_⟩⟩
        clear hK K
        try simp only [Act.put, List.setIfInBounds_toArray, List.set_cons_zero, List.set_cons_succ, List.getElem_toArray, List.getElem_cons_succ, List.getElem_cons_zero]
        refine plan_read (by rfl) (by rfl) (fun u hu => by (clear hu; go_simp; try rfl)) ?_
        try simp only [Act.put, List.setIfInBounds_toArray, List.set_cons_zero, List.set_cons_succ, List.getElem_toArray, List.getElem_cons_succ, List.getElem_cons_zero]
        refine plan_read (by rfl) (by rfl) (fun u hu => by (clear hu; go_simp; try rfl)) ?_
        try simp only [Act.put, List.setIfInBounds_toArray, List.set_cons_zero, List.set_cons_succ, List.getElem_toArray, List.getElem_cons_succ, List.getElem_cons_zero]
        refine plan_read (by rfl) (by rfl) (fun u hu => by (clear hu; go_simp; try rfl)) ?_
        try simp only [Act.put, List.setIfInBounds_toArray, List.set_cons_zero, List.set_cons_succ, List.getElem_toArray, List.getElem_cons_succ, List.getElem_cons_zero]
        refine plan_op (by rfl) (by rfl) fun K hK => ?_
        refine wp_allocbk (T := 24) (cs := bufCells 0) rfl (by kernel_rfl) fun q79 M79 B79 Z79 => ?_
        have hlt79 : q76.heap.size < q79.heap.size := M79.lt
        have HS80 := Lib.hid (HS77.out.trans (B79.mono HS77.out.size))
        have hz80 : q76.heap.size ≤ q79.heap.size := B79.size
        have Hd74_80 := Lib.hid (Hd74_77.out.below B79)
        have Hd78_80 := Lib.hid (Hd78.out.below B79)
        have HP79 := Lib.hid M79
        clear M79 B79 Z79
        refine hK _ _ ⟨HS80.out, ?_⟩
        clear hK K
        try simp only [Act.put, List.setIfInBounds_toArray, List.set_cons_zero, List.set_cons_succ, List.getElem_toArray, List.getElem_cons_succ, List.getElem_cons_zero]
        refine plan_op (by rfl) (by rfl) fun K hK => ?_
        refine wp_storebk (T := 24) (x := .tmp 7) (y := .tmp 71) (n := q76.heap.size) (bs := c76) rfl rfl rfl HP79.out (by rw [HLc78.out]; rfl) (by rw [HLc78.out]; kernel_rfl) (HOne78.out) fun q81 M81 G81 => ?_
        have HS81 := Lib.hid (below_grown HS80.out G81 (by have := HS80.out.size; omega) (by omega))
        have hz81 : q79.heap.size ≤ q81.heap.size := G81.size
        have hd81 := Hd78_80.out.grown_any G81 (by omega)
        have Hd78_81 := Lib.hid hd81
        have HP81 := Lib.hid M81
        clear hd81 M81 G81
        refine hK _ _ ⟨HS81.out, ?_⟩
        clear hK K
        try simp only [Act.put, List.setIfInBounds_toArray, List.set_cons_zero, List.set_cons_succ, List.getElem_toArray, List.getElem_cons_succ, List.getElem_cons_zero]
        refine plan_stop ?_
        simp only [List.drop_succ_cons, List.drop_zero, Act.put, List.setIfInBounds_toArray, List.set_cons_zero, List.set_cons_succ, List.getElem_toArray, List.getElem_cons_succ, List.getElem_cons_zero]
        go_wp2_with fail
        refine NoPanic.normal ?_
        exact ⟨rfl, HMi.out _ _ ⟨q76.heap.size, c76, by omega, HP81.out, Rep.frame _ _ _ Hd78_81.out fun b h1 h2 => ⟨rfl, h2⟩, HS81.out, _, _, _, _, _, _, rfl⟩⟩
      · refine plan_op (by rfl) (by rfl) fun K hK => ?_
        refine wp_allocbk (T := 24) (cs := bufCells 0) rfl (by kernel_rfl) fun q82 M82 B82 Z82 => ?_
        have hlt82 : q74.heap.size < q82.heap.size := M82.lt
        have HS83 := Lib.hid (HS75.out.trans (B82.mono HS75.out.size))
        have hz83 : q74.heap.size ≤ q82.heap.size := B82.size
        have Hd74_83 := Lib.hid (Hd74.out.below B82)
        have HP82 := Lib.hid M82
        clear M82 B82 Z82
        refine hK _ _ ⟨HS83.out, ?_⟩
        clear hK K
        try simp only [Act.put, List.setIfInBounds_toArray, List.set_cons_zero, List.set_cons_succ, List.getElem_toArray, List.getElem_cons_succ, List.getElem_cons_zero]
        refine plan_op (by rfl) (by rfl) fun K hK => ?_
        have ra84 : Rep q82 (fun b => b < q82.heap.size) JBuf cs23 kC := Rep.frame _ _ _ (Hrep47_71.out.below HS83.out) fun b h1 h2 => ⟨rfl, h2⟩
        have rb84 : Rep q82 (fun b => b < q82.heap.size) JMed (medCells 512 0 true) (medOf 512 0 true) := Rep.frame _ _ _ Hd74_83.out fun b h1 h2 => ⟨rfl, h2⟩
        refine wp_call3 (f := 14) (x := .tmp 68) (y := .const (.int .i64 1000)) (z := .tmp 69) (vx := .agg (cs23).toArray) (vy := .int .i64 1000) (vz := .agg ((medCells 512 0 true)).toArray) rfl rfl rfl rfl rfl rfl rfl rfl (put_goesD q82 _ _ _ _ 1000 _ ra84 rb84 (fun b hb => hb) (in_i64 _ (by omega))) ?_
        rintro e q84 ⟨c84, rfl, hr84, hb84⟩
        clear ra84 rb84
        rw [show (putF kC 1000 (medOf 512 0 true)).2 = 0 from known3.2.1]
        have HS85 := Lib.hid (HS83.out.trans (hb84.mono HS83.out.size))
        have hz85 : q82.heap.size ≤ q84.heap.size := hb84.size
        have Hd74_85 := Lib.hid (Hd74_83.out.below hb84)
        have HP_85 := Lib.hid (HP82.out.below hb84)
        have hlc86 : c84.length = 11 := Rep.length _ _ _ hr84
        have HLc86 := Lib.hid hlc86
        clear hlc86
        have HOne86 := Lib.hid (Rep.one _ _ _ hr84)
        have Hd86 := Lib.hid (show Rep q84 (fun b => q82.heap.size ≤ b ∧ b < q84.heap.size) JBuf c84 (putF kC 1000 (medOf 512 0 true)).1 from Rep.frame _ _ _ hr84 fun b h1 h2 => ⟨rfl, h1, h2⟩)
        clear hr84
        clear hb84
        refine ⟨_, rfl, hK _ _ ⟨HS85.out, ?_⟩⟩
        clear hK K
        try simp only [Act.put, List.setIfInBounds_toArray, List.set_cons_zero, List.set_cons_succ, List.getElem_toArray, List.getElem_cons_succ, List.getElem_cons_zero]
        refine plan_read (by rfl) (by rfl) (fun u hu => by (clear hu; go_simp; try rfl)) ?_
        try simp only [Act.put, List.setIfInBounds_toArray, List.set_cons_zero, List.set_cons_succ, List.getElem_toArray, List.getElem_cons_succ, List.getElem_cons_zero]
        refine plan_read (by rfl) (by rfl) (fun u hu => by (clear hu; go_simp; try rfl)) ?_
        try simp only [Act.put, List.setIfInBounds_toArray, List.set_cons_zero, List.set_cons_succ, List.getElem_toArray, List.getElem_cons_succ, List.getElem_cons_zero]
        refine plan_read (by rfl) (by rfl) (fun u hu => by (clear hu; go_simp; try rfl)) ?_
        try simp only [Act.put, List.setIfInBounds_toArray, List.set_cons_zero, List.set_cons_succ, List.getElem_toArray, List.getElem_cons_succ, List.getElem_cons_zero]
        refine plan_op (by rfl) (by rfl) fun K hK => ?_
        refine wp_storebk (T := 24) (x := .tmp 7) (y := .tmp 71) (n := q74.heap.size) (bs := c84) rfl rfl rfl HP_85.out (by rw [HLc86.out]; rfl) (by rw [HLc86.out]; kernel_rfl) (HOne86.out) fun q87 M87 G87 => ?_
        have HS87 := Lib.hid (below_grown HS85.out G87 (by have := HS85.out.size; omega) (by omega))
        have hz87 : q84.heap.size ≤ q87.heap.size := G87.size
        have hd87 := Hd86.out.grown_any G87 (by omega)
        have Hd86_87 := Lib.hid hd87
        have HP87 := Lib.hid M87
        clear hd87 M87 G87
        refine hK _ _ ⟨HS87.out, ?_⟩
        clear hK K
        try simp only [Act.put, List.setIfInBounds_toArray, List.set_cons_zero, List.set_cons_succ, List.getElem_toArray, List.getElem_cons_succ, List.getElem_cons_zero]
        refine plan_stop ?_
        simp only [List.drop_succ_cons, List.drop_zero, Act.put, List.setIfInBounds_toArray, List.set_cons_zero, List.set_cons_succ, List.getElem_toArray, List.getElem_cons_succ, List.getElem_cons_zero]
        go_wp2_with fail
        refine NoPanic.normal ?_
        exact ⟨rfl, HMi.out _ _ ⟨q74.heap.size, c84, by omega, HP87.out, Rep.frame _ _ _ Hd86_87.out fun b h1 h2 => ⟨rfl, h2⟩, HS87.out, _, _, _, _, _, _, rfl⟩⟩
    · refine plan_op (by rfl) (by rfl) fun K hK => ?_
      refine wp_allocbk (T := 24) (cs := bufCells 0) rfl (by kernel_rfl) fun q88 M88 B88 Z88 => ?_
      have hlt88 : v48.drew.heap.size < q88.heap.size := M88.lt
      have HS89 := Lib.hid (HS0.out.trans (B88.mono HS0.out.size))
      have hz89 : v48.drew.heap.size ≤ q88.heap.size := B88.size
      have HP88 := Lib.hid M88
      clear M88 B88 Z88
      refine hK _ _ ⟨HS89.out, ?_⟩
      clear hK K
      try simp only [Act.put, List.setIfInBounds_toArray, List.set_cons_zero, List.set_cons_succ, List.getElem_toArray, List.getElem_cons_succ, List.getElem_cons_zero]
      refine plan_op (by rfl) (by rfl) fun K hK => ?_
      refine wp_call3 (f := 50) (x := .const (.int .i64 512)) (y := .const (.int .i64 0)) (z := .const (.bool true)) (vx := .int .i64 512) (vy := .int .i64 0) (vz := .bool true) rfl rfl rfl rfl rfl rfl rfl rfl (packet_goes q88 512 0 true) ?_
      rintro e q90 ⟨rfl, hb90⟩
      have HS91 := Lib.hid (HS89.out.trans (hb90.mono HS89.out.size))
      have hz91 : q88.heap.size ≤ q90.heap.size := hb90.size
      have HP_91 := Lib.hid (HP88.out.below hb90)
      have hm90 := rep_medOf q90 (fun b => b < q90.heap.size) 512 0 true (in_i64 _ (by omega)) (in_i64 _ (by omega))
      have Hd90 := Lib.hid hm90
      clear hm90 hb90
      refine ⟨_, rfl, hK _ _ ⟨HS91.out, ?_⟩⟩
      clear hK K
      try simp only [Act.put, List.setIfInBounds_toArray, List.set_cons_zero, List.set_cons_succ, List.getElem_toArray, List.getElem_cons_succ, List.getElem_cons_zero]
      refine plan_op (by rfl) (by rfl) fun K hK => ?_
      have ra92 : Rep q90 (fun b => b < q90.heap.size) JBuf cs23 kC := Rep.frame _ _ _ (Hrep47_71.out.below HS91.out) fun b h1 h2 => ⟨rfl, h2⟩
      have rb92 : Rep q90 (fun b => b < q90.heap.size) JMed (medCells 512 0 true) (medOf 512 0 true) := Rep.frame _ _ _ Hd90.out fun b h1 h2 => ⟨rfl, h2⟩
      refine wp_call3 (f := 14) (x := .tmp 68) (y := .const (.int .i64 1000)) (z := .tmp 69) (vx := .agg (cs23).toArray) (vy := .int .i64 1000) (vz := .agg ((medCells 512 0 true)).toArray) rfl rfl rfl rfl rfl rfl rfl rfl (put_goesD q90 _ _ _ _ 1000 _ ra92 rb92 (fun b hb => hb) (in_i64 _ (by omega))) ?_
      rintro e q92 ⟨c92, rfl, hr92, hb92⟩
      clear ra92 rb92
      rw [show (putF kC 1000 (medOf 512 0 true)).2 = 0 from known3.2.1]
      have HS93 := Lib.hid (HS91.out.trans (hb92.mono HS91.out.size))
      have hz93 : q90.heap.size ≤ q92.heap.size := hb92.size
      have Hd90_93 := Lib.hid (Hd90.out.below hb92)
      have HP_93 := Lib.hid (HP_91.out.below hb92)
      have hlc94 : c92.length = 11 := Rep.length _ _ _ hr92
      have HLc94 := Lib.hid hlc94
      clear hlc94
      have HOne94 := Lib.hid (Rep.one _ _ _ hr92)
      have Hd94 := Lib.hid (show Rep q92 (fun b => q90.heap.size ≤ b ∧ b < q92.heap.size) JBuf c92 (putF kC 1000 (medOf 512 0 true)).1 from Rep.frame _ _ _ hr92 fun b h1 h2 => ⟨rfl, h1, h2⟩)
      clear hr92
      clear hb92
      refine ⟨_, rfl, hK _ _ ⟨HS93.out, ?_⟩⟩
      clear hK K
      try simp only [Act.put, List.setIfInBounds_toArray, List.set_cons_zero, List.set_cons_succ, List.getElem_toArray, List.getElem_cons_succ, List.getElem_cons_zero]
      refine plan_read (by rfl) (by rfl) (fun u hu => by (clear hu; go_simp; try rfl)) ?_
      try simp only [Act.put, List.setIfInBounds_toArray, List.set_cons_zero, List.set_cons_succ, List.getElem_toArray, List.getElem_cons_succ, List.getElem_cons_zero]
      refine plan_read (by rfl) (by rfl) (fun u hu => by (clear hu; go_simp; try rfl)) ?_
      try simp only [Act.put, List.setIfInBounds_toArray, List.set_cons_zero, List.set_cons_succ, List.getElem_toArray, List.getElem_cons_succ, List.getElem_cons_zero]
      refine plan_read (by rfl) (by rfl) (fun u hu => by (clear hu; go_simp; try rfl)) ?_
      try simp only [Act.put, List.setIfInBounds_toArray, List.set_cons_zero, List.set_cons_succ, List.getElem_toArray, List.getElem_cons_succ, List.getElem_cons_zero]
      refine plan_op (by rfl) (by rfl) fun K hK => ?_
      refine wp_storebk (T := 24) (x := .tmp 7) (y := .tmp 71) (n := v48.drew.heap.size) (bs := c92) rfl rfl rfl HP_93.out (by rw [HLc94.out]; rfl) (by rw [HLc94.out]; kernel_rfl) (HOne94.out) fun q95 M95 G95 => ?_
      have HS95 := Lib.hid (below_grown HS93.out G95 (by have := HS93.out.size; omega) (by omega))
      have hz95 : q92.heap.size ≤ q95.heap.size := G95.size
      have hd95 := Hd94.out.grown_any G95 (by omega)
      have Hd94_95 := Lib.hid hd95
      have HP95 := Lib.hid M95
      clear hd95 M95 G95
      refine hK _ _ ⟨HS95.out, ?_⟩
      clear hK K
      try simp only [Act.put, List.setIfInBounds_toArray, List.set_cons_zero, List.set_cons_succ, List.getElem_toArray, List.getElem_cons_succ, List.getElem_cons_zero]
      refine plan_stop ?_
      simp only [List.drop_succ_cons, List.drop_zero, Act.put, List.setIfInBounds_toArray, List.set_cons_zero, List.set_cons_succ, List.getElem_toArray, List.getElem_cons_succ, List.getElem_cons_zero]
      go_wp2_with fail
      refine NoPanic.normal ?_
      exact ⟨rfl, HMi.out _ _ ⟨v48.drew.heap.size, c92, by omega, HP95.out, Rep.frame _ _ _ Hd94_95.out fun b h1 h2 => ⟨rfl, h2⟩, HS95.out, _, _, _, _, _, _, rfl⟩⟩
  rintro _ v73 ⟨bn73, cs73, hbn73, M73, hr73, B73, u68, u69, u70, u67, u71, u72, rfl⟩
  rw [ha73]
  clear ha73
  simp only [List.setIfInBounds_toArray, List.set_cons_zero, List.set_cons_succ]
  have hlt73 : bn73 < v73.heap.size := M73.lt
  have Hbk47_96 := Lib.hid (Hbk47_71.out.below B73)
  clear Hbk47_71
  have Hrep47_96 := Lib.hid (Hrep47_71.out.below B73)
  clear Hrep47_71
  have HB96 := Lib.hid (HB71.out.trans (B73.mono HB71.out.size))
  clear HB71
  have hz96 : v48.heap.size ≤ v73.heap.size := B73.size
  have hlc97 : cs73.length = 11 := Rep.length _ _ _ hr73
  have HLc97 := Lib.hid hlc97
  clear hlc97
  have HOne97 := Lib.hid (Rep.one _ _ _ hr73)
  have Hrep97 := Lib.hid (show Rep v73 (fun b => b < v73.heap.size) JBuf cs73 (putF kC 1000 (medOf 512 0 true)).1 from Rep.frame _ _ _ hr73 fun b h1 h2 => ⟨rfl, h2⟩)
  clear hr73
  have Hbk97_0 := Lib.hid M73
  clear M73 B73
  go_wp2_with fail
  refine wp_name fun a98 ha98 => ?_
  refine wp_mid (fun a2 W2 => ∃ bn cs2, v73.heap.size ≤ bn ∧ Bk W2 bn 24 cs2 ∧ Rep W2 (fun b => b < W2.heap.size) JBuf cs2 (putF kC 999 (medOf 2 0 true)).1 ∧ Below v73.heap.size v73 W2 ∧ ∃ u74 u75 u76 u73 u77 u78 : Value, a2 = ⟨((((((((a98.tmps.setIfInBounds 74 u74).setIfInBounds 75 u75).setIfInBounds 76 u76).setIfInBounds 73 u73).setIfInBounds 77 u77).setIfInBounds 78 u78).setIfInBounds 9 (.pointer (some ⟨bn, 0, none⟩))).setIfInBounds 10 (.int .i64 2)), a98.defers⟩) ?_ ?_
  · intro Mi hM
    rw [ha98] at hM
    simp only [List.setIfInBounds_toArray, List.set_cons_zero, List.set_cons_succ] at hM
    have HMi := Lib.hid hM
    clear hM
    rw [ha98]
    clear ha98
    have HS0 := Lib.hid (show Below v73.heap.size v73 v73.drew from (Below.refl _ v73).drew)
    have hz0 : v73.heap.size ≤ v73.drew.heap.size := HS0.out.size
    refine wp_region_plan 8 (.read 0 (.two 1 (.two 2 (.read 3 (.read 4 (.read 5 (.make 6 (.make 7 .stop))))) 6 (.make 2 (.read 3 (.read 4 (.read 5 (.make 7 .stop)))))) 6 (.make 1 (.make 2 (.read 3 (.read 4 (.read 5 (.make 7 .stop)))))))) (fun u => Below v73.heap.size v73 u) (by kernel_rfl) (by kernel_rfl) HS0.out ?_
    refine plan_read (v := .agg (cs23).toArray) (by rfl) (by rfl) (fun u hu => exec_load_mid (ty := 24) (x := .tmp 4) (b := bn23) (off := 0) (cs := cs23) rfl rfl u (Hbk47_96.out.at_.frame (hu.block _ Hbk47_96.out.lt)) Try.underlying24 rfl (by rw [HLc47.out]; kernel_rfl)) ?_
    try simp only [Act.put, List.setIfInBounds_toArray, List.set_cons_zero, List.set_cons_succ, List.getElem_toArray, List.getElem_cons_succ, List.getElem_cons_zero]
    refine ⟨?_, ?_⟩
    · refine plan_op (by rfl) (by rfl) fun K hK => ?_
      refine wp_call3 (f := 50) (x := .const (.int .i64 2)) (y := .const (.int .i64 0)) (z := .const (.bool true)) (vx := .int .i64 2) (vy := .int .i64 0) (vz := .bool true) rfl rfl rfl rfl rfl rfl rfl rfl (packet_goes v73.drew 2 0 true) ?_
      rintro e q99 ⟨rfl, hb99⟩
      have HS100 := Lib.hid (HS0.out.trans (hb99.mono HS0.out.size))
      have hz100 : v73.drew.heap.size ≤ q99.heap.size := hb99.size
      have hm99 := rep_medOf q99 (fun b => b < q99.heap.size) 2 0 true (in_i64 _ (by omega)) (in_i64 _ (by omega))
      have Hd99 := Lib.hid hm99
      clear hm99 hb99
      refine ⟨_, rfl, hK _ _ ⟨HS100.out, ?_⟩⟩
      clear hK K
      try simp only [Act.put, List.setIfInBounds_toArray, List.set_cons_zero, List.set_cons_succ, List.getElem_toArray, List.getElem_cons_succ, List.getElem_cons_zero]
      refine ⟨?_, ?_⟩
      · refine plan_op (by rfl) (by rfl) fun K hK => ?_
        have ra101 : Rep q99 (fun b => b < q99.heap.size) JBuf cs23 kC := Rep.frame _ _ _ (Hrep47_96.out.below HS100.out) fun b h1 h2 => ⟨rfl, h2⟩
        have rb101 : Rep q99 (fun b => b < q99.heap.size) JMed (medCells 2 0 true) (medOf 2 0 true) := Rep.frame _ _ _ Hd99.out fun b h1 h2 => ⟨rfl, h2⟩
        refine wp_call3 (f := 14) (x := .tmp 74) (y := .const (.int .i64 999)) (z := .tmp 75) (vx := .agg (cs23).toArray) (vy := .int .i64 999) (vz := .agg ((medCells 2 0 true)).toArray) rfl rfl rfl rfl rfl rfl rfl rfl (put_goesD q99 _ _ _ _ 999 _ ra101 rb101 (fun b hb => hb) (in_i64 _ (by omega))) ?_
        rintro e q101 ⟨c101, rfl, hr101, hb101⟩
        clear ra101 rb101
        rw [show (putF kC 999 (medOf 2 0 true)).2 = 2 from known3.2.2.2.1]
        have HS102 := Lib.hid (HS100.out.trans (hb101.mono HS100.out.size))
        have hz102 : q99.heap.size ≤ q101.heap.size := hb101.size
        have Hd99_102 := Lib.hid (Hd99.out.below hb101)
        have hlc103 : c101.length = 11 := Rep.length _ _ _ hr101
        have HLc103 := Lib.hid hlc103
        clear hlc103
        have HOne103 := Lib.hid (Rep.one _ _ _ hr101)
        have Hd103 := Lib.hid (show Rep q101 (fun b => q99.heap.size ≤ b ∧ b < q101.heap.size) JBuf c101 (putF kC 999 (medOf 2 0 true)).1 from Rep.frame _ _ _ hr101 fun b h1 h2 => ⟨rfl, h1, h2⟩)
        clear hr101
        clear hb101
        refine ⟨_, rfl, hK _ _ ⟨HS102.out, ?_⟩⟩
        clear hK K
        try simp only [Act.put, List.setIfInBounds_toArray, List.set_cons_zero, List.set_cons_succ, List.getElem_toArray, List.getElem_cons_succ, List.getElem_cons_zero]
        refine plan_read (by rfl) (by rfl) (fun u hu => by (clear hu; go_simp; try rfl)) ?_
        try simp only [Act.put, List.setIfInBounds_toArray, List.set_cons_zero, List.set_cons_succ, List.getElem_toArray, List.getElem_cons_succ, List.getElem_cons_zero]
        refine plan_read (by rfl) (by rfl) (fun u hu => by (clear hu; go_simp; try rfl)) ?_
        try simp only [Act.put, List.setIfInBounds_toArray, List.set_cons_zero, List.set_cons_succ, List.getElem_toArray, List.getElem_cons_succ, List.getElem_cons_zero]
        refine plan_read (by rfl) (by rfl) (fun u hu => by (clear hu; go_simp; try rfl)) ?_
        try simp only [Act.put, List.setIfInBounds_toArray, List.set_cons_zero, List.set_cons_succ, List.getElem_toArray, List.getElem_cons_succ, List.getElem_cons_zero]
        refine plan_op (by rfl) (by rfl) fun K hK => ?_
        refine wp_allocbk (T := 24) (cs := bufCells 0) rfl (by kernel_rfl) fun q104 M104 B104 Z104 => ?_
        have hlt104 : q101.heap.size < q104.heap.size := M104.lt
        have HS105 := Lib.hid (HS102.out.trans (B104.mono HS102.out.size))
        have hz105 : q101.heap.size ≤ q104.heap.size := B104.size
        have Hd99_105 := Lib.hid (Hd99_102.out.below B104)
        have Hd103_105 := Lib.hid (Hd103.out.below B104)
        have HP104 := Lib.hid M104
        clear M104 B104 Z104
        refine hK _ _ ⟨HS105.out, ?_⟩
        clear hK K
        try simp only [Act.put, List.setIfInBounds_toArray, List.set_cons_zero, List.set_cons_succ, List.getElem_toArray, List.getElem_cons_succ, List.getElem_cons_zero]
        refine plan_op (by rfl) (by rfl) fun K hK => ?_
        refine wp_storebk (T := 24) (x := .tmp 9) (y := .tmp 77) (n := q101.heap.size) (bs := c101) rfl rfl rfl HP104.out (by rw [HLc103.out]; rfl) (by rw [HLc103.out]; kernel_rfl) (HOne103.out) fun q106 M106 G106 => ?_
        have HS106 := Lib.hid (below_grown HS105.out G106 (by have := HS105.out.size; omega) (by omega))
        have hz106 : q104.heap.size ≤ q106.heap.size := G106.size
        have hd106 := Hd103_105.out.grown_any G106 (by omega)
        have Hd103_106 := Lib.hid hd106
        have HP106 := Lib.hid M106
        clear hd106 M106 G106
        refine hK _ _ ⟨HS106.out, ?_⟩
        clear hK K
        try simp only [Act.put, List.setIfInBounds_toArray, List.set_cons_zero, List.set_cons_succ, List.getElem_toArray, List.getElem_cons_succ, List.getElem_cons_zero]
        refine plan_stop ?_
        simp only [List.drop_succ_cons, List.drop_zero, Act.put, List.setIfInBounds_toArray, List.set_cons_zero, List.set_cons_succ, List.getElem_toArray, List.getElem_cons_succ, List.getElem_cons_zero]
        go_wp2_with fail
        refine NoPanic.normal ?_
        exact ⟨rfl, HMi.out _ _ ⟨q101.heap.size, c101, by omega, HP106.out, Rep.frame _ _ _ Hd103_106.out fun b h1 h2 => ⟨rfl, h2⟩, HS106.out, _, _, _, _, _, _, rfl⟩⟩
      · refine plan_op (by rfl) (by rfl) fun K hK => ?_
        refine wp_allocbk (T := 24) (cs := bufCells 0) rfl (by kernel_rfl) fun q107 M107 B107 Z107 => ?_
        have hlt107 : q99.heap.size < q107.heap.size := M107.lt
        have HS108 := Lib.hid (HS100.out.trans (B107.mono HS100.out.size))
        have hz108 : q99.heap.size ≤ q107.heap.size := B107.size
        have Hd99_108 := Lib.hid (Hd99.out.below B107)
        have HP107 := Lib.hid M107
        clear M107 B107 Z107
        refine hK _ _ ⟨HS108.out, ?_⟩
        clear hK K
        try simp only [Act.put, List.setIfInBounds_toArray, List.set_cons_zero, List.set_cons_succ, List.getElem_toArray, List.getElem_cons_succ, List.getElem_cons_zero]
        refine plan_op (by rfl) (by rfl) fun K hK => ?_
        have ra109 : Rep q107 (fun b => b < q107.heap.size) JBuf cs23 kC := Rep.frame _ _ _ (Hrep47_96.out.below HS108.out) fun b h1 h2 => ⟨rfl, h2⟩
        have rb109 : Rep q107 (fun b => b < q107.heap.size) JMed (medCells 2 0 true) (medOf 2 0 true) := Rep.frame _ _ _ Hd99_108.out fun b h1 h2 => ⟨rfl, h2⟩
        refine wp_call3 (f := 14) (x := .tmp 74) (y := .const (.int .i64 999)) (z := .tmp 75) (vx := .agg (cs23).toArray) (vy := .int .i64 999) (vz := .agg ((medCells 2 0 true)).toArray) rfl rfl rfl rfl rfl rfl rfl rfl (put_goesD q107 _ _ _ _ 999 _ ra109 rb109 (fun b hb => hb) (in_i64 _ (by omega))) ?_
        rintro e q109 ⟨c109, rfl, hr109, hb109⟩
        clear ra109 rb109
        rw [show (putF kC 999 (medOf 2 0 true)).2 = 2 from known3.2.2.2.1]
        have HS110 := Lib.hid (HS108.out.trans (hb109.mono HS108.out.size))
        have hz110 : q107.heap.size ≤ q109.heap.size := hb109.size
        have Hd99_110 := Lib.hid (Hd99_108.out.below hb109)
        have HP_110 := Lib.hid (HP107.out.below hb109)
        have hlc111 : c109.length = 11 := Rep.length _ _ _ hr109
        have HLc111 := Lib.hid hlc111
        clear hlc111
        have HOne111 := Lib.hid (Rep.one _ _ _ hr109)
        have Hd111 := Lib.hid (show Rep q109 (fun b => q107.heap.size ≤ b ∧ b < q109.heap.size) JBuf c109 (putF kC 999 (medOf 2 0 true)).1 from Rep.frame _ _ _ hr109 fun b h1 h2 => ⟨rfl, h1, h2⟩)
        clear hr109
        clear hb109
        refine ⟨_, rfl, hK _ _ ⟨HS110.out, ?_⟩⟩
        clear hK K
        try simp only [Act.put, List.setIfInBounds_toArray, List.set_cons_zero, List.set_cons_succ, List.getElem_toArray, List.getElem_cons_succ, List.getElem_cons_zero]
        refine plan_read (by rfl) (by rfl) (fun u hu => by (clear hu; go_simp; try rfl)) ?_
        try simp only [Act.put, List.setIfInBounds_toArray, List.set_cons_zero, List.set_cons_succ, List.getElem_toArray, List.getElem_cons_succ, List.getElem_cons_zero]
        refine plan_read (by rfl) (by rfl) (fun u hu => by (clear hu; go_simp; try rfl)) ?_
        try simp only [Act.put, List.setIfInBounds_toArray, List.set_cons_zero, List.set_cons_succ, List.getElem_toArray, List.getElem_cons_succ, List.getElem_cons_zero]
        refine plan_read (by rfl) (by rfl) (fun u hu => by (clear hu; go_simp; try rfl)) ?_
        try simp only [Act.put, List.setIfInBounds_toArray, List.set_cons_zero, List.set_cons_succ, List.getElem_toArray, List.getElem_cons_succ, List.getElem_cons_zero]
        refine plan_op (by rfl) (by rfl) fun K hK => ?_
        refine wp_storebk (T := 24) (x := .tmp 9) (y := .tmp 77) (n := q99.heap.size) (bs := c109) rfl rfl rfl HP_110.out (by rw [HLc111.out]; rfl) (by rw [HLc111.out]; kernel_rfl) (HOne111.out) fun q112 M112 G112 => ?_
        have HS112 := Lib.hid (below_grown HS110.out G112 (by have := HS110.out.size; omega) (by omega))
        have hz112 : q109.heap.size ≤ q112.heap.size := G112.size
        have hd112 := Hd111.out.grown_any G112 (by omega)
        have Hd111_112 := Lib.hid hd112
        have HP112 := Lib.hid M112
        clear hd112 M112 G112
        refine hK _ _ ⟨HS112.out, ?_⟩
        clear hK K
        try simp only [Act.put, List.setIfInBounds_toArray, List.set_cons_zero, List.set_cons_succ, List.getElem_toArray, List.getElem_cons_succ, List.getElem_cons_zero]
        refine plan_stop ?_
        simp only [List.drop_succ_cons, List.drop_zero, Act.put, List.setIfInBounds_toArray, List.set_cons_zero, List.set_cons_succ, List.getElem_toArray, List.getElem_cons_succ, List.getElem_cons_zero]
        go_wp2_with fail
        refine NoPanic.normal ?_
        exact ⟨rfl, HMi.out _ _ ⟨q99.heap.size, c109, by omega, HP112.out, Rep.frame _ _ _ Hd111_112.out fun b h1 h2 => ⟨rfl, h2⟩, HS112.out, _, _, _, _, _, _, rfl⟩⟩
    · refine plan_op (by rfl) (by rfl) fun K hK => ?_
      refine wp_allocbk (T := 24) (cs := bufCells 0) rfl (by kernel_rfl) fun q113 M113 B113 Z113 => ?_
      have hlt113 : v73.drew.heap.size < q113.heap.size := M113.lt
      have HS114 := Lib.hid (HS0.out.trans (B113.mono HS0.out.size))
      have hz114 : v73.drew.heap.size ≤ q113.heap.size := B113.size
      have HP113 := Lib.hid M113
      clear M113 B113 Z113
      refine hK _ _ ⟨HS114.out, ?_⟩
      clear hK K
      try simp only [Act.put, List.setIfInBounds_toArray, List.set_cons_zero, List.set_cons_succ, List.getElem_toArray, List.getElem_cons_succ, List.getElem_cons_zero]
      refine plan_op (by rfl) (by rfl) fun K hK => ?_
      refine wp_call3 (f := 50) (x := .const (.int .i64 2)) (y := .const (.int .i64 0)) (z := .const (.bool true)) (vx := .int .i64 2) (vy := .int .i64 0) (vz := .bool true) rfl rfl rfl rfl rfl rfl rfl rfl (packet_goes q113 2 0 true) ?_
      rintro e q115 ⟨rfl, hb115⟩
      have HS116 := Lib.hid (HS114.out.trans (hb115.mono HS114.out.size))
      have hz116 : q113.heap.size ≤ q115.heap.size := hb115.size
      have HP_116 := Lib.hid (HP113.out.below hb115)
      have hm115 := rep_medOf q115 (fun b => b < q115.heap.size) 2 0 true (in_i64 _ (by omega)) (in_i64 _ (by omega))
      have Hd115 := Lib.hid hm115
      clear hm115 hb115
      refine ⟨_, rfl, hK _ _ ⟨HS116.out, ?_⟩⟩
      clear hK K
      try simp only [Act.put, List.setIfInBounds_toArray, List.set_cons_zero, List.set_cons_succ, List.getElem_toArray, List.getElem_cons_succ, List.getElem_cons_zero]
      refine plan_op (by rfl) (by rfl) fun K hK => ?_
      have ra117 : Rep q115 (fun b => b < q115.heap.size) JBuf cs23 kC := Rep.frame _ _ _ (Hrep47_96.out.below HS116.out) fun b h1 h2 => ⟨rfl, h2⟩
      have rb117 : Rep q115 (fun b => b < q115.heap.size) JMed (medCells 2 0 true) (medOf 2 0 true) := Rep.frame _ _ _ Hd115.out fun b h1 h2 => ⟨rfl, h2⟩
      refine wp_call3 (f := 14) (x := .tmp 74) (y := .const (.int .i64 999)) (z := .tmp 75) (vx := .agg (cs23).toArray) (vy := .int .i64 999) (vz := .agg ((medCells 2 0 true)).toArray) rfl rfl rfl rfl rfl rfl rfl rfl (put_goesD q115 _ _ _ _ 999 _ ra117 rb117 (fun b hb => hb) (in_i64 _ (by omega))) ?_
      rintro e q117 ⟨c117, rfl, hr117, hb117⟩
      clear ra117 rb117
      rw [show (putF kC 999 (medOf 2 0 true)).2 = 2 from known3.2.2.2.1]
      have HS118 := Lib.hid (HS116.out.trans (hb117.mono HS116.out.size))
      have hz118 : q115.heap.size ≤ q117.heap.size := hb117.size
      have Hd115_118 := Lib.hid (Hd115.out.below hb117)
      have HP_118 := Lib.hid (HP_116.out.below hb117)
      have hlc119 : c117.length = 11 := Rep.length _ _ _ hr117
      have HLc119 := Lib.hid hlc119
      clear hlc119
      have HOne119 := Lib.hid (Rep.one _ _ _ hr117)
      have Hd119 := Lib.hid (show Rep q117 (fun b => q115.heap.size ≤ b ∧ b < q117.heap.size) JBuf c117 (putF kC 999 (medOf 2 0 true)).1 from Rep.frame _ _ _ hr117 fun b h1 h2 => ⟨rfl, h1, h2⟩)
      clear hr117
      clear hb117
      refine ⟨_, rfl, hK _ _ ⟨HS118.out, ?_⟩⟩
      clear hK K
      try simp only [Act.put, List.setIfInBounds_toArray, List.set_cons_zero, List.set_cons_succ, List.getElem_toArray, List.getElem_cons_succ, List.getElem_cons_zero]
      refine plan_read (by rfl) (by rfl) (fun u hu => by (clear hu; go_simp; try rfl)) ?_
      try simp only [Act.put, List.setIfInBounds_toArray, List.set_cons_zero, List.set_cons_succ, List.getElem_toArray, List.getElem_cons_succ, List.getElem_cons_zero]
      refine plan_read (by rfl) (by rfl) (fun u hu => by (clear hu; go_simp; try rfl)) ?_
      try simp only [Act.put, List.setIfInBounds_toArray, List.set_cons_zero, List.set_cons_succ, List.getElem_toArray, List.getElem_cons_succ, List.getElem_cons_zero]
      refine plan_read (by rfl) (by rfl) (fun u hu => by (clear hu; go_simp; try rfl)) ?_
      try simp only [Act.put, List.setIfInBounds_toArray, List.set_cons_zero, List.set_cons_succ, List.getElem_toArray, List.getElem_cons_succ, List.getElem_cons_zero]
      refine plan_op (by rfl) (by rfl) fun K hK => ?_
      refine wp_storebk (T := 24) (x := .tmp 9) (y := .tmp 77) (n := v73.drew.heap.size) (bs := c117) rfl rfl rfl HP_118.out (by rw [HLc119.out]; rfl) (by rw [HLc119.out]; kernel_rfl) (HOne119.out) fun q120 M120 G120 => ?_
      have HS120 := Lib.hid (below_grown HS118.out G120 (by have := HS118.out.size; omega) (by omega))
      have hz120 : q117.heap.size ≤ q120.heap.size := G120.size
      have hd120 := Hd119.out.grown_any G120 (by omega)
      have Hd119_120 := Lib.hid hd120
      have HP120 := Lib.hid M120
      clear hd120 M120 G120
      refine hK _ _ ⟨HS120.out, ?_⟩
      clear hK K
      try simp only [Act.put, List.setIfInBounds_toArray, List.set_cons_zero, List.set_cons_succ, List.getElem_toArray, List.getElem_cons_succ, List.getElem_cons_zero]
      refine plan_stop ?_
      simp only [List.drop_succ_cons, List.drop_zero, Act.put, List.setIfInBounds_toArray, List.set_cons_zero, List.set_cons_succ, List.getElem_toArray, List.getElem_cons_succ, List.getElem_cons_zero]
      go_wp2_with fail
      refine NoPanic.normal ?_
      exact ⟨rfl, HMi.out _ _ ⟨v73.drew.heap.size, c117, by omega, HP120.out, Rep.frame _ _ _ Hd119_120.out fun b h1 h2 => ⟨rfl, h2⟩, HS120.out, _, _, _, _, _, _, rfl⟩⟩
  rintro _ v98 ⟨bn98, cs98, hbn98, M98, hr98, B98, u74, u75, u76, u73, u77, u78, rfl⟩
  rw [ha98]
  clear ha98
  simp only [List.setIfInBounds_toArray, List.set_cons_zero, List.set_cons_succ]
  have hlt98 : bn98 < v98.heap.size := M98.lt
  have Hbk47_121 := Lib.hid (Hbk47_96.out.below B98)
  clear Hbk47_96
  have Hrep47_121 := Lib.hid (Hrep47_96.out.below B98)
  clear Hrep47_96
  have Hbk97_121 := Lib.hid (Hbk97_0.out.below B98)
  clear Hbk97_0
  have Hrep97_121 := Lib.hid (Hrep97.out.below B98)
  clear Hrep97
  have HB121 := Lib.hid (HB96.out.trans (B98.mono HB96.out.size))
  clear HB96
  have hz121 : v73.heap.size ≤ v98.heap.size := B98.size
  have hlc122 : cs98.length = 11 := Rep.length _ _ _ hr98
  have HLc122 := Lib.hid hlc122
  clear hlc122
  have HOne122 := Lib.hid (Rep.one _ _ _ hr98)
  have Hrep122 := Lib.hid (show Rep v98 (fun b => b < v98.heap.size) JBuf cs98 (putF kC 999 (medOf 2 0 true)).1 from Rep.frame _ _ _ hr98 fun b h1 h2 => ⟨rfl, h2⟩)
  clear hr98
  have Hbk122_0 := Lib.hid M98
  clear M98 B98
  clear Hbk122_0 Hrep122
  go_wp2_with (refine step_loadbkw (T := 24) (cs := cs23) (by rfl) rfl rfl Hbk47_121.out Try.underlying24 rfl (by rw [HLc47.out]; kernel_rfl) ?_)
  have hr123 := rep_medOf v98 (fun b => b < v98.heap.size) (-1) 0 false (in_i64 _ (by omega)) (in_i64 _ (by omega))
  have Hrep123 := Lib.hid hr123
  clear hr123
  have ra124 : Rep v98 (fun b => b < v98.heap.size) JBuf cs23 kC := Rep.frame _ _ _ Hrep47_121.out fun b h1 h2 => ⟨rfl, h2⟩
  have rb124 : Rep v98 (fun b => b < v98.heap.size) JMed (medCells (-1) 0 false) (medOf (-1) 0 false) := Rep.frame _ _ _ Hrep123.out fun b h1 h2 => ⟨rfl, h2⟩
  have hpp124 := put_goesD v98 _ _ _ _ (1000) _ ra124 rb124 (fun b hb => hb) (in_i64 _ (by omega))
  refine Calls.mono (show Calls _ _ _ _ (PutPost v98 kC (1000) (medOf (-1) 0 false)) from hpp124) ?_
  rintro e v124 ⟨c124, rfl, hr124, hb124⟩
  clear ra124 rb124 hpp124
  have Hbk47_125 := Lib.hid (Hbk47_121.out.below hb124)
  clear Hbk47_121
  have Hrep47_125 := Lib.hid (Hrep47_121.out.below hb124)
  clear Hrep47_121
  have Hbk97_125 := Lib.hid (Hbk97_121.out.below hb124)
  clear Hbk97_121
  have Hrep97_125 := Lib.hid (Hrep97_121.out.below hb124)
  clear Hrep97_121
  have Hrep123_125 := Lib.hid (Hrep123.out.below hb124)
  clear Hrep123
  have HB125 := Lib.hid (HB121.out.trans (hb124.mono HB121.out.size))
  clear HB121
  have hz125 : v98.heap.size ≤ v124.heap.size := hb124.size
  clear hb124
  rw [show (putF kC (1000) (medOf (-1) 0 false)).2 = 230 from known3.2.2.2.2.1]
  have hlc126 : c124.length = 11 := Rep.length _ _ _ hr124
  have HLc126 := Lib.hid hlc126
  clear hlc126
  have HOne126 := Lib.hid (Rep.one _ _ _ hr124)
  have Hrep126 := Lib.hid (show Rep v124 (fun b => b < v124.heap.size) JBuf c124 (putF kC (1000) (medOf (-1) 0 false)).1 from Rep.frame _ _ _ hr124 fun b h1 h2 => ⟨rfl, h2⟩)
  clear hr124
  go_wp2_with (refine step_newv (T := 24) (V := .agg c124.toArray) (bs := c124) rfl rfl rfl rfl rfl (by first | (simp; done) | decide) rfl rfl (by rw [HLc126.out]; kernel_rfl) (by rw [HLc126.out]; kernel_rfl) (HOne126.out) fun v127 M127 B127 Z127 => ?_)
  have hlt127 : v124.heap.size < v127.heap.size := M127.lt
  have Hbk47_128 := Lib.hid (Hbk47_125.out.below B127)
  clear Hbk47_125
  have Hrep47_128 := Lib.hid (Hrep47_125.out.below B127)
  clear Hrep47_125
  have Hbk97_128 := Lib.hid (Hbk97_125.out.below B127)
  clear Hbk97_125
  have Hrep97_128 := Lib.hid (Hrep97_125.out.below B127)
  clear Hrep97_125
  have Hrep123_128 := Lib.hid (Hrep123_125.out.below B127)
  clear Hrep123_125
  have Hrep126_128 := Lib.hid (Hrep126.out.below B127)
  clear Hrep126
  have HB128 := Lib.hid (HB125.out.trans (B127.mono HB125.out.size))
  clear HB125
  have hz128 : v124.heap.size ≤ v127.heap.size := B127.size
  have Hbk126_127 := Lib.hid M127
  clear M127 B127 Z127
  refine Lib.hid ?_
  clear Hbk126_127 Hrep126_128
  clear Hbk47_128 Hrep47_128
  go_wp2_with fail
  have hr129 := rep_bufOf v127 (fun b => b < v127.heap.size) 0 zero_in
  have Hrep129 := Lib.hid hr129
  clear hr129
  have ra130 : Rep v127 (fun b => b < v127.heap.size) JBuf (bufCells 0) (bufOf 0) := Rep.frame _ _ _ Hrep129.out fun b h1 h2 => ⟨rfl, h2⟩
  have rb130 : Rep v127 (fun b => b < v127.heap.size) JMed (medCells (-1) 0 false) (medOf (-1) 0 false) := Rep.frame _ _ _ Hrep123_128.out fun b h1 h2 => ⟨rfl, h2⟩
  have hpp130 := put_goesD v127 _ _ _ _ (-1) _ ra130 rb130 (fun b hb => hb) (in_i64 _ (by omega))
  refine Calls.mono (show Calls _ _ _ _ (PutPost v127 (bufOf 0) (-1) (medOf (-1) 0 false)) from hpp130) ?_
  rintro e v130 ⟨c130, rfl, hr130, hb130⟩
  clear ra130 rb130 hpp130
  have Hbk97_131 := Lib.hid (Hbk97_128.out.below hb130)
  clear Hbk97_128
  have Hrep97_131 := Lib.hid (Hrep97_128.out.below hb130)
  clear Hrep97_128
  have Hrep123_131 := Lib.hid (Hrep123_128.out.below hb130)
  clear Hrep123_128
  have Hrep129_131 := Lib.hid (Hrep129.out.below hb130)
  clear Hrep129
  have HB131 := Lib.hid (HB128.out.trans (hb130.mono HB128.out.size))
  clear HB128
  have hz131 : v127.heap.size ≤ v130.heap.size := hb130.size
  clear hb130
  rw [show (putF (bufOf 0) (-1) (medOf (-1) 0 false)).2 = 260 from known3.2.2.2.2.2]
  have hlc132 : c130.length = 11 := Rep.length _ _ _ hr130
  have HLc132 := Lib.hid hlc132
  clear hlc132
  have HOne132 := Lib.hid (Rep.one _ _ _ hr130)
  have Hrep132 := Lib.hid (show Rep v130 (fun b => b < v130.heap.size) JBuf c130 (putF (bufOf 0) (-1) (medOf (-1) 0 false)).1 from Rep.frame _ _ _ hr130 fun b h1 h2 => ⟨rfl, h2⟩)
  clear hr130
  go_wp2_with (refine step_newv (T := 24) (V := .agg c130.toArray) (bs := c130) rfl rfl rfl rfl rfl (by first | (simp; done) | decide) rfl rfl (by rw [HLc132.out]; kernel_rfl) (by rw [HLc132.out]; kernel_rfl) (HOne132.out) fun v133 M133 B133 Z133 => ?_)
  have hlt133 : v130.heap.size < v133.heap.size := M133.lt
  have Hbk97_134 := Lib.hid (Hbk97_131.out.below B133)
  clear Hbk97_131
  have Hrep97_134 := Lib.hid (Hrep97_131.out.below B133)
  clear Hrep97_131
  have Hrep123_134 := Lib.hid (Hrep123_131.out.below B133)
  clear Hrep123_131
  have Hrep129_134 := Lib.hid (Hrep129_131.out.below B133)
  clear Hrep129_131
  have Hrep132_134 := Lib.hid (Hrep132.out.below B133)
  clear Hrep132
  have HB134 := Lib.hid (HB131.out.trans (B133.mono HB131.out.size))
  clear HB131
  have hz134 : v130.heap.size ≤ v133.heap.size := B133.size
  have Hbk132_133 := Lib.hid M133
  clear M133 B133 Z133
  refine Lib.hid ?_
  clear Hbk132_133 Hrep132_134
  clear Hrep129_134
  clear Hrep123_134
  have h7c : cs73[10]? = some (.slice (some ⟨0, 0, none⟩) 2 0) ∨ ∃ A k, cs73[10]? = some (.slice A 2 k) := by obtain ⟨A, k, e⟩ := rep_cells Hrep97_134.out; rw [known3.2.2.1] at e; exact .inr ⟨A, k, by rw [e]; rfl⟩
  obtain ⟨A7, k7, h7⟩ : ∃ A k, cs73[10]? = some (.slice A 2 k) := h7c.elim (fun h => ⟨_, _, h⟩) id
  have H7 := Lib.hid h7
  clear h7 h7c Hrep97_134
  go_wp2_with fail
  refine (fresh_goes v133 1 (in_i64 _ (by omega))).mono ?_
  rintro e v135 ⟨c135, rfl, hr135, hb135⟩
  have Hbk97_136 := Lib.hid (Hbk97_134.out.below hb135)
  clear Hbk97_134
  have HB136 := Lib.hid (HB134.out.trans (hb135.mono HB134.out.size))
  clear HB134
  have hz136 : v133.heap.size ≤ v135.heap.size := hb135.size
  clear hb135
  have hlc137 : c135.length = 11 := Rep.length _ _ _ hr135
  have HLc137 := Lib.hid hlc137
  clear hlc137
  have HOne137 := Lib.hid (Rep.one _ _ _ hr135)
  have Hrep137 := Lib.hid (show Rep v135 (fun b => b < v135.heap.size) JBuf c135 (newF 1).1 from Rep.frame _ _ _ hr135 fun b h1 h2 => ⟨rfl, h2⟩)
  clear hr135
  go_wp2_with (refine step_newv (T := 24) (V := .agg c135.toArray) (bs := c135) rfl rfl rfl rfl rfl (by first | (simp; done) | decide) rfl rfl (by rw [HLc137.out]; kernel_rfl) (by rw [HLc137.out]; kernel_rfl) (HOne137.out) fun v138 M138 B138 Z138 => ?_)
  have hlt138 : v135.heap.size < v138.heap.size := M138.lt
  have Hbk97_139 := Lib.hid (Hbk97_136.out.below B138)
  clear Hbk97_136
  have Hrep137_139 := Lib.hid (Hrep137.out.below B138)
  clear Hrep137
  have HB139 := Lib.hid (HB136.out.trans (B138.mono HB136.out.size))
  clear HB136
  have hz139 : v135.heap.size ≤ v138.heap.size := B138.size
  have Hbk137_138 := Lib.hid M138
  clear M138 B138 Z138
  refine Lib.hid ?_
  go_wp2_with fail
  go_loopw [92] (fun i wr => ∃ (k : Nat) (cs : List Value), i = .int .i64 k ∧ k ≤ 64 ∧ Bk wr v135.heap.size 24 cs ∧ Rep wr (fun b => b < wr.heap.size ∧ b ≠ v135.heap.size) JBuf cs (kLoop k) ∧ Below v135.heap.size v138 wr) (fun i _ => 64 - (intOf i).toNat)
  case atStart => exact ⟨0, c135, rfl, by omega, Hbk137_138.out, Rep.frame _ _ _ Hrep137_139.out fun b h1 h2 => ⟨rfl, h2, (by have h1 : b < v135.heap.size := h1; omega)⟩, Below.refl _ _⟩
  case round =>
    obtain ⟨k, cs, rfl, hk, hbk, hrp, hbl⟩ := hrel
    have hlc : cs.length = 11 := Rep.length _ _ _ hrp
    have HLC := Lib.hid hlc
    have HBK := Lib.hid hbk
    have HRP := Lib.hid hrp
    have HBL := Lib.hid hbl
    have hzw := hbl.size
    have hbw := hbk.lt
    clear hlc hbk hrp hbl
    by_cases hlt : k < 64
    · go_wp2_with fail
      have HS0 := Lib.hid (show Below wr.heap.size wr wr.drew from (Below.refl _ wr).drew)
      have hz0 : wr.heap.size ≤ wr.drew.heap.size := HS0.out.size
      refine wp_region_ord 4 [(0, true), (1, true), (2, false), (3, false)] (fun u => Below wr.heap.size wr u) (by kernel_rfl) (by kernel_rfl) HS0.out ?_
      refine ord_read (v := .agg cs.toArray) (by rfl) (by rfl) (fun u hu => exec_load_mid (ty := 24) (x := .tmp 15) (b := v135.heap.size) (off := 0) (cs := cs) rfl rfl u (HBK.out.at_.frame (hu.block _ HBK.out.lt)) Try.underlying24 rfl (by rw [HLC.out]; kernel_rfl)) ?_
      refine ord_read (by rfl) (by rfl) (fun u hu => by (clear hu; go_simp; try rfl)) ?_
      simp only [Act.put, List.setIfInBounds_toArray, List.set_cons_zero, List.set_cons_succ, List.getElem_toArray, List.getElem_cons_succ, List.getElem_cons_zero]
      refine ord_make (by rfl) (fun K hK => ?_)
      rw [if_pos (by rfl)]
      refine wp_call3 (f := 50) (x := .tmp 96) (y := .const (.int .i64 0)) (z := .const (.bool false)) (vx := .int .i64 k) (vy := .int .i64 0) (vz := .bool false) rfl rfl rfl rfl rfl rfl rfl rfl (packet_goes wr.drew k 0 false) ?_
      rintro e x1 ⟨rfl, hb1⟩
      have HX1 := Lib.hid (HS0.out.trans (hb1.mono HS0.out.size))
      have hzx1 := HX1.out.size
      have hm1 := rep_medOf x1 (fun b => b < x1.heap.size) k 0 false (in_i64 _ (by omega)) (in_i64 _ (by omega))
      have hd1 : Rep x1 (fun b => b < x1.heap.size) JBuf cs (kLoop k) := Rep.frame _ _ _ (HRP.out.below HX1.out) fun b h1 h2 => ⟨rfl, h2⟩
      have HM1 := Lib.hid hm1
      have HD1 := Lib.hid hd1
      clear hb1 hm1 hd1
      refine ⟨_, rfl, hK _ _ ⟨HX1.out, ?_⟩⟩
      clear hK K
      try simp only [Act.put, List.setIfInBounds_toArray, List.set_cons_zero, List.set_cons_succ, List.getElem_toArray, List.getElem_cons_succ, List.getElem_cons_zero]
      refine ord_make (by rfl) (fun K hK => ?_)
      rw [if_pos (by rfl)]
      refine wp_call3 (f := 48) (x := .tmp 95) (y := .const (.int .i64 0)) (z := .tmp 97) (vx := .agg cs.toArray) (vy := .int .i64 0) (vz := .agg (medCells k 0 false).toArray) rfl rfl rfl rfl rfl rfl rfl rfl (kput_goes x1 _ _ _ _ 0 _ HD1.out HM1.out (fun b hb => hb) (in_i64 _ (by omega))) ?_
      rintro e x2 ⟨c2, rfl, hr2, hb2⟩
      have HX2 := Lib.hid (HX1.out.trans (hb2.mono HX1.out.size))
      have hzx2 := hb2.size
      have hl2 : c2.length = 11 := Rep.length _ _ _ hr2
      have HL2 := Lib.hid hl2
      have HO2 := Lib.hid (Rep.one _ _ _ hr2)
      have HR2 := Lib.hid (show Rep x2 (fun b => x1.heap.size ≤ b ∧ b < x2.heap.size) JBuf c2 (kLoop (k + 1)) from Rep.frame _ _ _ hr2 fun b h1 h2 => ⟨rfl, h1, h2⟩)
      have HK2 := Lib.hid (HBK.out.below HX2.out)
      have HBL2 := Lib.hid (HBL.out.trans (HX2.out.mono (Nat.le_of_lt hbw)))
      clear hr2 hb2 hl2
      refine ⟨_, rfl, hK _ _ ⟨HX2.out, ?_⟩⟩
      clear hK K
      refine ord_nil ?_
      simp only [List.drop_succ_cons, List.drop_zero, Act.put, List.setIfInBounds_toArray, List.set_cons_zero, List.set_cons_succ, List.getElem_toArray, List.getElem_cons_succ, List.getElem_cons_zero]
      go_wp2_with (refine step_store (T := 24) (n := v135.heap.size) (bs := c2) rfl rfl rfl rfl HK2.out (by rw [HL2.out, HLC.out]) (by rw [HL2.out]; kernel_rfl) HO2.out fun x3 M3 G3 => ?_)
      have HM3 := Lib.hid M3
      have HR3 := Lib.hid (HR2.out.grown_any G3 (by omega))
      have HBL3 := Lib.hid (below_grown HBL2.out G3 (by have := HBL2.out.size; omega) (Nat.le_refl _))
      have hzx3 := G3.size
      clear M3 G3
      refine Lib.hid ?_
      go_wp2_with fail
      refine NoPanic.normal ?_
      go_wp2_with fail
      go_roundw
      case rel => exact ⟨k + 1, c2, by go_num, by omega, HM3.out, Rep.frame _ _ _ HR3.out fun b h1 h2 => ⟨rfl, h2, (by have := h1.1; omega)⟩, HBL3.out⟩
      case measure => simp [intOf]; omega
    · obtain rfl : k = 64 := by omega
      have HBw := Lib.hid (HB139.out.trans (HBL.out.mono (by omega)))
      have HB7k := Lib.hid (Hbk97_139.out.low HBL.out (by omega))
      have HR15 := Lib.hid (show Rep wr (fun b => b < wr.heap.size) JBuf cs k15 from Rep.frame _ _ _ HRP.out fun b h1 h2 => ⟨rfl, h2⟩)
      have HO15 := Lib.hid (Rep.one _ _ _ HRP.out)
      have hb15 := hbw
      clear HRP HBL HB139 Hbk137_138 Hbk97_139 Hrep137_139
      go_wp2_with fail
      refine wp_name fun a140 ha140 => ?_
      refine wp_mid (fun a2 W2 => ∃ bn cs2, wr.heap.size ≤ bn ∧ Bk W2 bn 24 cs2 ∧ Rep W2 (fun b => b < W2.heap.size) JBuf cs2 (putF k15 0 (medOf 64 0 false)).1 ∧ Below wr.heap.size wr W2 ∧ ∃ u101 u102 u103 u100 u104 u105 : Value, a2 = ⟨((((((((a140.tmps.setIfInBounds 101 u101).setIfInBounds 102 u102).setIfInBounds 103 u103).setIfInBounds 100 u100).setIfInBounds 104 u104).setIfInBounds 105 u105).setIfInBounds 17 (.pointer (some ⟨bn, 0, none⟩))).setIfInBounds 18 (.int .i64 3)), a140.defers⟩) ?_ ?_
      · intro Mi hM
        rw [ha140] at hM
        simp only [List.setIfInBounds_toArray, List.set_cons_zero, List.set_cons_succ] at hM
        have HMi := Lib.hid hM
        clear hM
        rw [ha140]
        clear ha140
        have HS0 := Lib.hid (show Below wr.heap.size wr wr.drew from (Below.refl _ wr).drew)
        have hz0 : wr.heap.size ≤ wr.drew.heap.size := HS0.out.size
        refine wp_region_plan 8 (.read 0 (.two 1 (.two 2 (.read 3 (.read 4 (.read 5 (.make 6 (.make 7 .stop))))) 6 (.make 2 (.read 3 (.read 4 (.read 5 (.make 7 .stop)))))) 6 (.make 1 (.make 2 (.read 3 (.read 4 (.read 5 (.make 7 .stop)))))))) (fun u => Below wr.heap.size wr u) (by kernel_rfl) (by kernel_rfl) HS0.out ?_
        refine plan_read (v := .agg (cs).toArray) (by rfl) (by rfl) (fun u hu => exec_load_mid (ty := 24) (x := .tmp 15) (b := v135.heap.size) (off := 0) (cs := cs) rfl rfl u (HBK.out.at_.frame (hu.block _ HBK.out.lt)) Try.underlying24 rfl (by rw [HLC.out]; kernel_rfl)) ?_
        try simp only [Act.put, List.setIfInBounds_toArray, List.set_cons_zero, List.set_cons_succ, List.getElem_toArray, List.getElem_cons_succ, List.getElem_cons_zero]
        refine ⟨?_, ?_⟩
        · refine plan_op (by rfl) (by rfl) fun K hK => ?_
          refine wp_call3 (f := 50) (x := .const (.int .i64 64)) (y := .const (.int .i64 0)) (z := .const (.bool false)) (vx := .int .i64 64) (vy := .int .i64 0) (vz := .bool false) rfl rfl rfl rfl rfl rfl rfl rfl (packet_goes wr.drew 64 0 false) ?_
          rintro e q141 ⟨rfl, hb141⟩
          have HS142 := Lib.hid (HS0.out.trans (hb141.mono HS0.out.size))
          have hz142 : wr.drew.heap.size ≤ q141.heap.size := hb141.size
          have hm141 := rep_medOf q141 (fun b => b < q141.heap.size) 64 0 false (in_i64 _ (by omega)) (in_i64 _ (by omega))
          have Hd141 := Lib.hid hm141
          clear hm141 hb141
          refine ⟨_, rfl, hK _ _ ⟨HS142.out, ?_⟩⟩
          clear hK K
          try simp only [Act.put, List.setIfInBounds_toArray, List.set_cons_zero, List.set_cons_succ, List.getElem_toArray, List.getElem_cons_succ, List.getElem_cons_zero]
          refine ⟨?_, ?_⟩
          · refine plan_op (by rfl) (by rfl) fun K hK => ?_
            have ra143 : Rep q141 (fun b => b < q141.heap.size) JBuf cs k15 := Rep.frame _ _ _ (HR15.out.below HS142.out) fun b h1 h2 => ⟨rfl, h2⟩
            have rb143 : Rep q141 (fun b => b < q141.heap.size) JMed (medCells 64 0 false) (medOf 64 0 false) := Rep.frame _ _ _ Hd141.out fun b h1 h2 => ⟨rfl, h2⟩
            refine wp_call3 (f := 14) (x := .tmp 101) (y := .const (.int .i64 0)) (z := .tmp 102) (vx := .agg (cs).toArray) (vy := .int .i64 0) (vz := .agg ((medCells 64 0 false)).toArray) rfl rfl rfl rfl rfl rfl rfl rfl (put_goesD q141 _ _ _ _ 0 _ ra143 rb143 (fun b hb => hb) (in_i64 _ (by omega))) ?_
            rintro e q143 ⟨c143, rfl, hr143, hb143⟩
            clear ra143 rb143
            rw [show (putF k15 0 (medOf 64 0 false)).2 = 3 from known4.2.1]
            have HS144 := Lib.hid (HS142.out.trans (hb143.mono HS142.out.size))
            have hz144 : q141.heap.size ≤ q143.heap.size := hb143.size
            have Hd141_144 := Lib.hid (Hd141.out.below hb143)
            have hlc145 : c143.length = 11 := Rep.length _ _ _ hr143
            have HLc145 := Lib.hid hlc145
            clear hlc145
            have HOne145 := Lib.hid (Rep.one _ _ _ hr143)
            have Hd145 := Lib.hid (show Rep q143 (fun b => q141.heap.size ≤ b ∧ b < q143.heap.size) JBuf c143 (putF k15 0 (medOf 64 0 false)).1 from Rep.frame _ _ _ hr143 fun b h1 h2 => ⟨rfl, h1, h2⟩)
            clear hr143
            clear hb143
            refine ⟨_, rfl, hK _ _ ⟨HS144.out, ?_⟩⟩
            clear hK K
            try simp only [Act.put, List.setIfInBounds_toArray, List.set_cons_zero, List.set_cons_succ, List.getElem_toArray, List.getElem_cons_succ, List.getElem_cons_zero]
            refine plan_read (by rfl) (by rfl) (fun u hu => by (clear hu; go_simp; try rfl)) ?_
            try simp only [Act.put, List.setIfInBounds_toArray, List.set_cons_zero, List.set_cons_succ, List.getElem_toArray, List.getElem_cons_succ, List.getElem_cons_zero]
            refine plan_read (by rfl) (by rfl) (fun u hu => by (clear hu; go_simp; try rfl)) ?_
            try simp only [Act.put, List.setIfInBounds_toArray, List.set_cons_zero, List.set_cons_succ, List.getElem_toArray, List.getElem_cons_succ, List.getElem_cons_zero]
            refine plan_read (by rfl) (by rfl) (fun u hu => by (clear hu; go_simp; try rfl)) ?_
            try simp only [Act.put, List.setIfInBounds_toArray, List.set_cons_zero, List.set_cons_succ, List.getElem_toArray, List.getElem_cons_succ, List.getElem_cons_zero]
            refine plan_op (by rfl) (by rfl) fun K hK => ?_
            refine wp_allocbk (T := 24) (cs := bufCells 0) rfl (by kernel_rfl) fun q146 M146 B146 Z146 => ?_
            have hlt146 : q143.heap.size < q146.heap.size := M146.lt
            have HS147 := Lib.hid (HS144.out.trans (B146.mono HS144.out.size))
            have hz147 : q143.heap.size ≤ q146.heap.size := B146.size
            have Hd141_147 := Lib.hid (Hd141_144.out.below B146)
            have Hd145_147 := Lib.hid (Hd145.out.below B146)
            have HP146 := Lib.hid M146
            clear M146 B146 Z146
            refine hK _ _ ⟨HS147.out, ?_⟩
            clear hK K
            try simp only [Act.put, List.setIfInBounds_toArray, List.set_cons_zero, List.set_cons_succ, List.getElem_toArray, List.getElem_cons_succ, List.getElem_cons_zero]
            refine plan_op (by rfl) (by rfl) fun K hK => ?_
            refine wp_storebk (T := 24) (x := .tmp 17) (y := .tmp 104) (n := q143.heap.size) (bs := c143) rfl rfl rfl HP146.out (by rw [HLc145.out]; rfl) (by rw [HLc145.out]; kernel_rfl) (HOne145.out) fun q148 M148 G148 => ?_
            have HS148 := Lib.hid (below_grown HS147.out G148 (by have := HS147.out.size; omega) (by omega))
            have hz148 : q146.heap.size ≤ q148.heap.size := G148.size
            have hd148 := Hd145_147.out.grown_any G148 (by omega)
            have Hd145_148 := Lib.hid hd148
            have HP148 := Lib.hid M148
            clear hd148 M148 G148
            refine hK _ _ ⟨HS148.out, ?_⟩
            clear hK K
            try simp only [Act.put, List.setIfInBounds_toArray, List.set_cons_zero, List.set_cons_succ, List.getElem_toArray, List.getElem_cons_succ, List.getElem_cons_zero]
            refine plan_stop ?_
            simp only [List.drop_succ_cons, List.drop_zero, Act.put, List.setIfInBounds_toArray, List.set_cons_zero, List.set_cons_succ, List.getElem_toArray, List.getElem_cons_succ, List.getElem_cons_zero]
            go_wp2_with fail
            refine NoPanic.normal ?_
            exact ⟨rfl, HMi.out _ _ ⟨q143.heap.size, c143, by omega, HP148.out, Rep.frame _ _ _ Hd145_148.out fun b h1 h2 => ⟨rfl, h2⟩, HS148.out, _, _, _, _, _, _, rfl⟩⟩
          · refine plan_op (by rfl) (by rfl) fun K hK => ?_
            refine wp_allocbk (T := 24) (cs := bufCells 0) rfl (by kernel_rfl) fun q149 M149 B149 Z149 => ?_
            have hlt149 : q141.heap.size < q149.heap.size := M149.lt
            have HS150 := Lib.hid (HS142.out.trans (B149.mono HS142.out.size))
            have hz150 : q141.heap.size ≤ q149.heap.size := B149.size
            have Hd141_150 := Lib.hid (Hd141.out.below B149)
            have HP149 := Lib.hid M149
            clear M149 B149 Z149
            refine hK _ _ ⟨HS150.out, ?_⟩
            clear hK K
            try simp only [Act.put, List.setIfInBounds_toArray, List.set_cons_zero, List.set_cons_succ, List.getElem_toArray, List.getElem_cons_succ, List.getElem_cons_zero]
            refine plan_op (by rfl) (by rfl) fun K hK => ?_
            have ra151 : Rep q149 (fun b => b < q149.heap.size) JBuf cs k15 := Rep.frame _ _ _ (HR15.out.below HS150.out) fun b h1 h2 => ⟨rfl, h2⟩
            have rb151 : Rep q149 (fun b => b < q149.heap.size) JMed (medCells 64 0 false) (medOf 64 0 false) := Rep.frame _ _ _ Hd141_150.out fun b h1 h2 => ⟨rfl, h2⟩
            refine wp_call3 (f := 14) (x := .tmp 101) (y := .const (.int .i64 0)) (z := .tmp 102) (vx := .agg (cs).toArray) (vy := .int .i64 0) (vz := .agg ((medCells 64 0 false)).toArray) rfl rfl rfl rfl rfl rfl rfl rfl (put_goesD q149 _ _ _ _ 0 _ ra151 rb151 (fun b hb => hb) (in_i64 _ (by omega))) ?_
            rintro e q151 ⟨c151, rfl, hr151, hb151⟩
            clear ra151 rb151
            rw [show (putF k15 0 (medOf 64 0 false)).2 = 3 from known4.2.1]
            have HS152 := Lib.hid (HS150.out.trans (hb151.mono HS150.out.size))
            have hz152 : q149.heap.size ≤ q151.heap.size := hb151.size
            have Hd141_152 := Lib.hid (Hd141_150.out.below hb151)
            have HP_152 := Lib.hid (HP149.out.below hb151)
            have hlc153 : c151.length = 11 := Rep.length _ _ _ hr151
            have HLc153 := Lib.hid hlc153
            clear hlc153
            have HOne153 := Lib.hid (Rep.one _ _ _ hr151)
            have Hd153 := Lib.hid (show Rep q151 (fun b => q149.heap.size ≤ b ∧ b < q151.heap.size) JBuf c151 (putF k15 0 (medOf 64 0 false)).1 from Rep.frame _ _ _ hr151 fun b h1 h2 => ⟨rfl, h1, h2⟩)
            clear hr151
            clear hb151
            refine ⟨_, rfl, hK _ _ ⟨HS152.out, ?_⟩⟩
            clear hK K
            try simp only [Act.put, List.setIfInBounds_toArray, List.set_cons_zero, List.set_cons_succ, List.getElem_toArray, List.getElem_cons_succ, List.getElem_cons_zero]
            refine plan_read (by rfl) (by rfl) (fun u hu => by (clear hu; go_simp; try rfl)) ?_
            try simp only [Act.put, List.setIfInBounds_toArray, List.set_cons_zero, List.set_cons_succ, List.getElem_toArray, List.getElem_cons_succ, List.getElem_cons_zero]
            refine plan_read (by rfl) (by rfl) (fun u hu => by (clear hu; go_simp; try rfl)) ?_
            try simp only [Act.put, List.setIfInBounds_toArray, List.set_cons_zero, List.set_cons_succ, List.getElem_toArray, List.getElem_cons_succ, List.getElem_cons_zero]
            refine plan_read (by rfl) (by rfl) (fun u hu => by (clear hu; go_simp; try rfl)) ?_
            try simp only [Act.put, List.setIfInBounds_toArray, List.set_cons_zero, List.set_cons_succ, List.getElem_toArray, List.getElem_cons_succ, List.getElem_cons_zero]
            refine plan_op (by rfl) (by rfl) fun K hK => ?_
            refine wp_storebk (T := 24) (x := .tmp 17) (y := .tmp 104) (n := q141.heap.size) (bs := c151) rfl rfl rfl HP_152.out (by rw [HLc153.out]; rfl) (by rw [HLc153.out]; kernel_rfl) (HOne153.out) fun q154 M154 G154 => ?_
            have HS154 := Lib.hid (below_grown HS152.out G154 (by have := HS152.out.size; omega) (by omega))
            have hz154 : q151.heap.size ≤ q154.heap.size := G154.size
            have hd154 := Hd153.out.grown_any G154 (by omega)
            have Hd153_154 := Lib.hid hd154
            have HP154 := Lib.hid M154
            clear hd154 M154 G154
            refine hK _ _ ⟨HS154.out, ?_⟩
            clear hK K
            try simp only [Act.put, List.setIfInBounds_toArray, List.set_cons_zero, List.set_cons_succ, List.getElem_toArray, List.getElem_cons_succ, List.getElem_cons_zero]
            refine plan_stop ?_
            simp only [List.drop_succ_cons, List.drop_zero, Act.put, List.setIfInBounds_toArray, List.set_cons_zero, List.set_cons_succ, List.getElem_toArray, List.getElem_cons_succ, List.getElem_cons_zero]
            go_wp2_with fail
            refine NoPanic.normal ?_
            exact ⟨rfl, HMi.out _ _ ⟨q141.heap.size, c151, by omega, HP154.out, Rep.frame _ _ _ Hd153_154.out fun b h1 h2 => ⟨rfl, h2⟩, HS154.out, _, _, _, _, _, _, rfl⟩⟩
        · refine plan_op (by rfl) (by rfl) fun K hK => ?_
          refine wp_allocbk (T := 24) (cs := bufCells 0) rfl (by kernel_rfl) fun q155 M155 B155 Z155 => ?_
          have hlt155 : wr.drew.heap.size < q155.heap.size := M155.lt
          have HS156 := Lib.hid (HS0.out.trans (B155.mono HS0.out.size))
          have hz156 : wr.drew.heap.size ≤ q155.heap.size := B155.size
          have HP155 := Lib.hid M155
          clear M155 B155 Z155
          refine hK _ _ ⟨HS156.out, ?_⟩
          clear hK K
          try simp only [Act.put, List.setIfInBounds_toArray, List.set_cons_zero, List.set_cons_succ, List.getElem_toArray, List.getElem_cons_succ, List.getElem_cons_zero]
          refine plan_op (by rfl) (by rfl) fun K hK => ?_
          refine wp_call3 (f := 50) (x := .const (.int .i64 64)) (y := .const (.int .i64 0)) (z := .const (.bool false)) (vx := .int .i64 64) (vy := .int .i64 0) (vz := .bool false) rfl rfl rfl rfl rfl rfl rfl rfl (packet_goes q155 64 0 false) ?_
          rintro e q157 ⟨rfl, hb157⟩
          have HS158 := Lib.hid (HS156.out.trans (hb157.mono HS156.out.size))
          have hz158 : q155.heap.size ≤ q157.heap.size := hb157.size
          have HP_158 := Lib.hid (HP155.out.below hb157)
          have hm157 := rep_medOf q157 (fun b => b < q157.heap.size) 64 0 false (in_i64 _ (by omega)) (in_i64 _ (by omega))
          have Hd157 := Lib.hid hm157
          clear hm157 hb157
          refine ⟨_, rfl, hK _ _ ⟨HS158.out, ?_⟩⟩
          clear hK K
          try simp only [Act.put, List.setIfInBounds_toArray, List.set_cons_zero, List.set_cons_succ, List.getElem_toArray, List.getElem_cons_succ, List.getElem_cons_zero]
          refine plan_op (by rfl) (by rfl) fun K hK => ?_
          have ra159 : Rep q157 (fun b => b < q157.heap.size) JBuf cs k15 := Rep.frame _ _ _ (HR15.out.below HS158.out) fun b h1 h2 => ⟨rfl, h2⟩
          have rb159 : Rep q157 (fun b => b < q157.heap.size) JMed (medCells 64 0 false) (medOf 64 0 false) := Rep.frame _ _ _ Hd157.out fun b h1 h2 => ⟨rfl, h2⟩
          refine wp_call3 (f := 14) (x := .tmp 101) (y := .const (.int .i64 0)) (z := .tmp 102) (vx := .agg (cs).toArray) (vy := .int .i64 0) (vz := .agg ((medCells 64 0 false)).toArray) rfl rfl rfl rfl rfl rfl rfl rfl (put_goesD q157 _ _ _ _ 0 _ ra159 rb159 (fun b hb => hb) (in_i64 _ (by omega))) ?_
          rintro e q159 ⟨c159, rfl, hr159, hb159⟩
          clear ra159 rb159
          rw [show (putF k15 0 (medOf 64 0 false)).2 = 3 from known4.2.1]
          have HS160 := Lib.hid (HS158.out.trans (hb159.mono HS158.out.size))
          have hz160 : q157.heap.size ≤ q159.heap.size := hb159.size
          have Hd157_160 := Lib.hid (Hd157.out.below hb159)
          have HP_160 := Lib.hid (HP_158.out.below hb159)
          have hlc161 : c159.length = 11 := Rep.length _ _ _ hr159
          have HLc161 := Lib.hid hlc161
          clear hlc161
          have HOne161 := Lib.hid (Rep.one _ _ _ hr159)
          have Hd161 := Lib.hid (show Rep q159 (fun b => q157.heap.size ≤ b ∧ b < q159.heap.size) JBuf c159 (putF k15 0 (medOf 64 0 false)).1 from Rep.frame _ _ _ hr159 fun b h1 h2 => ⟨rfl, h1, h2⟩)
          clear hr159
          clear hb159
          refine ⟨_, rfl, hK _ _ ⟨HS160.out, ?_⟩⟩
          clear hK K
          try simp only [Act.put, List.setIfInBounds_toArray, List.set_cons_zero, List.set_cons_succ, List.getElem_toArray, List.getElem_cons_succ, List.getElem_cons_zero]
          refine plan_read (by rfl) (by rfl) (fun u hu => by (clear hu; go_simp; try rfl)) ?_
          try simp only [Act.put, List.setIfInBounds_toArray, List.set_cons_zero, List.set_cons_succ, List.getElem_toArray, List.getElem_cons_succ, List.getElem_cons_zero]
          refine plan_read (by rfl) (by rfl) (fun u hu => by (clear hu; go_simp; try rfl)) ?_
          try simp only [Act.put, List.setIfInBounds_toArray, List.set_cons_zero, List.set_cons_succ, List.getElem_toArray, List.getElem_cons_succ, List.getElem_cons_zero]
          refine plan_read (by rfl) (by rfl) (fun u hu => by (clear hu; go_simp; try rfl)) ?_
          try simp only [Act.put, List.setIfInBounds_toArray, List.set_cons_zero, List.set_cons_succ, List.getElem_toArray, List.getElem_cons_succ, List.getElem_cons_zero]
          refine plan_op (by rfl) (by rfl) fun K hK => ?_
          refine wp_storebk (T := 24) (x := .tmp 17) (y := .tmp 104) (n := wr.drew.heap.size) (bs := c159) rfl rfl rfl HP_160.out (by rw [HLc161.out]; rfl) (by rw [HLc161.out]; kernel_rfl) (HOne161.out) fun q162 M162 G162 => ?_
          have HS162 := Lib.hid (below_grown HS160.out G162 (by have := HS160.out.size; omega) (by omega))
          have hz162 : q159.heap.size ≤ q162.heap.size := G162.size
          have hd162 := Hd161.out.grown_any G162 (by omega)
          have Hd161_162 := Lib.hid hd162
          have HP162 := Lib.hid M162
          clear hd162 M162 G162
          refine hK _ _ ⟨HS162.out, ?_⟩
          clear hK K
          try simp only [Act.put, List.setIfInBounds_toArray, List.set_cons_zero, List.set_cons_succ, List.getElem_toArray, List.getElem_cons_succ, List.getElem_cons_zero]
          refine plan_stop ?_
          simp only [List.drop_succ_cons, List.drop_zero, Act.put, List.setIfInBounds_toArray, List.set_cons_zero, List.set_cons_succ, List.getElem_toArray, List.getElem_cons_succ, List.getElem_cons_zero]
          go_wp2_with fail
          refine NoPanic.normal ?_
          exact ⟨rfl, HMi.out _ _ ⟨wr.drew.heap.size, c159, by omega, HP162.out, Rep.frame _ _ _ Hd161_162.out fun b h1 h2 => ⟨rfl, h2⟩, HS162.out, _, _, _, _, _, _, rfl⟩⟩
      rintro _ v140 ⟨bn140, cs140, hbn140, M140, hr140, B140, u101, u102, u103, u100, u104, u105, rfl⟩
      rw [ha140]
      clear ha140
      simp only [List.setIfInBounds_toArray, List.set_cons_zero, List.set_cons_succ]
      have hlt140 : bn140 < v140.heap.size := M140.lt
      have Hbk97_163 := Lib.hid (HB7k.out.below B140)
      clear HB7k
      have HbkL15_163 := Lib.hid (HBK.out.below B140)
      clear HBK
      have HrepL15_163 := Lib.hid (HR15.out.below B140)
      clear HR15
      have HB163 := Lib.hid (HBw.out.trans (B140.mono HBw.out.size))
      clear HBw
      have hz163 : wr.heap.size ≤ v140.heap.size := B140.size
      have hlc164 : cs140.length = 11 := Rep.length _ _ _ hr140
      have HLc164 := Lib.hid hlc164
      clear hlc164
      have HOne164 := Lib.hid (Rep.one _ _ _ hr140)
      have Hrep164 := Lib.hid (show Rep v140 (fun b => b < v140.heap.size) JBuf cs140 (putF k15 0 (medOf 64 0 false)).1 from Rep.frame _ _ _ hr140 fun b h1 h2 => ⟨rfl, h2⟩)
      clear hr140
      have Hbk164_0 := Lib.hid M140
      clear M140 B140
      clear Hbk164_0 Hrep164
      go_wp2_with fail
      refine wp_name fun a165 ha165 => ?_
      refine wp_mid (fun a2 W2 => ∃ bn cs2, v140.heap.size ≤ bn ∧ Bk W2 bn 24 cs2 ∧ Rep W2 (fun b => b < W2.heap.size) JBuf cs2 (putF k15 0 (medOf 63 0 false)).1 ∧ Below v140.heap.size v140 W2 ∧ ∃ u107 u108 u109 u106 u110 u111 : Value, a2 = ⟨((((((((a165.tmps.setIfInBounds 107 u107).setIfInBounds 108 u108).setIfInBounds 109 u109).setIfInBounds 106 u106).setIfInBounds 110 u110).setIfInBounds 111 u111).setIfInBounds 19 (.pointer (some ⟨bn, 0, none⟩))).setIfInBounds 20 (.int .i64 10)), a165.defers⟩) ?_ ?_
      · intro Mi hM
        rw [ha165] at hM
        simp only [List.setIfInBounds_toArray, List.set_cons_zero, List.set_cons_succ] at hM
        have HMi := Lib.hid hM
        clear hM
        rw [ha165]
        clear ha165
        have HS0 := Lib.hid (show Below v140.heap.size v140 v140.drew from (Below.refl _ v140).drew)
        have hz0 : v140.heap.size ≤ v140.drew.heap.size := HS0.out.size
        refine wp_region_plan 8 (.read 0 (.two 1 (.two 2 (.read 3 (.read 4 (.read 5 (.make 6 (.make 7 .stop))))) 6 (.make 2 (.read 3 (.read 4 (.read 5 (.make 7 .stop)))))) 6 (.make 1 (.make 2 (.read 3 (.read 4 (.read 5 (.make 7 .stop)))))))) (fun u => Below v140.heap.size v140 u) (by kernel_rfl) (by kernel_rfl) HS0.out ?_
        refine plan_read (v := .agg (cs).toArray) (by rfl) (by rfl) (fun u hu => exec_load_mid (ty := 24) (x := .tmp 15) (b := v135.heap.size) (off := 0) (cs := cs) rfl rfl u (HbkL15_163.out.at_.frame (hu.block _ HbkL15_163.out.lt)) Try.underlying24 rfl (by rw [HLC.out]; kernel_rfl)) ?_
        try simp only [Act.put, List.setIfInBounds_toArray, List.set_cons_zero, List.set_cons_succ, List.getElem_toArray, List.getElem_cons_succ, List.getElem_cons_zero]
        refine ⟨?_, ?_⟩
        · refine plan_op (by rfl) (by rfl) fun K hK => ?_
          refine wp_call3 (f := 50) (x := .const (.int .i64 63)) (y := .const (.int .i64 0)) (z := .const (.bool false)) (vx := .int .i64 63) (vy := .int .i64 0) (vz := .bool false) rfl rfl rfl rfl rfl rfl rfl rfl (packet_goes v140.drew 63 0 false) ?_
          rintro e q166 ⟨rfl, hb166⟩
          have HS167 := Lib.hid (HS0.out.trans (hb166.mono HS0.out.size))
          have hz167 : v140.drew.heap.size ≤ q166.heap.size := hb166.size
          have hm166 := rep_medOf q166 (fun b => b < q166.heap.size) 63 0 false (in_i64 _ (by omega)) (in_i64 _ (by omega))
          have Hd166 := Lib.hid hm166
          clear hm166 hb166
          refine ⟨_, rfl, hK _ _ ⟨HS167.out, ?_⟩⟩
          clear hK K
          try simp only [Act.put, List.setIfInBounds_toArray, List.set_cons_zero, List.set_cons_succ, List.getElem_toArray, List.getElem_cons_succ, List.getElem_cons_zero]
          refine ⟨?_, ?_⟩
          · refine plan_op (by rfl) (by rfl) fun K hK => ?_
            have ra168 : Rep q166 (fun b => b < q166.heap.size) JBuf cs k15 := Rep.frame _ _ _ (HrepL15_163.out.below HS167.out) fun b h1 h2 => ⟨rfl, h2⟩
            have rb168 : Rep q166 (fun b => b < q166.heap.size) JMed (medCells 63 0 false) (medOf 63 0 false) := Rep.frame _ _ _ Hd166.out fun b h1 h2 => ⟨rfl, h2⟩
            refine wp_call3 (f := 14) (x := .tmp 107) (y := .const (.int .i64 0)) (z := .tmp 108) (vx := .agg (cs).toArray) (vy := .int .i64 0) (vz := .agg ((medCells 63 0 false)).toArray) rfl rfl rfl rfl rfl rfl rfl rfl (put_goesD q166 _ _ _ _ 0 _ ra168 rb168 (fun b hb => hb) (in_i64 _ (by omega))) ?_
            rintro e q168 ⟨c168, rfl, hr168, hb168⟩
            clear ra168 rb168
            rw [show (putF k15 0 (medOf 63 0 false)).2 = 10 from known4.2.2]
            have HS169 := Lib.hid (HS167.out.trans (hb168.mono HS167.out.size))
            have hz169 : q166.heap.size ≤ q168.heap.size := hb168.size
            have Hd166_169 := Lib.hid (Hd166.out.below hb168)
            have hlc170 : c168.length = 11 := Rep.length _ _ _ hr168
            have HLc170 := Lib.hid hlc170
            clear hlc170
            have HOne170 := Lib.hid (Rep.one _ _ _ hr168)
            have Hd170 := Lib.hid (show Rep q168 (fun b => q166.heap.size ≤ b ∧ b < q168.heap.size) JBuf c168 (putF k15 0 (medOf 63 0 false)).1 from Rep.frame _ _ _ hr168 fun b h1 h2 => ⟨rfl, h1, h2⟩)
            clear hr168
            clear hb168
            refine ⟨_, rfl, hK _ _ ⟨HS169.out, ?_⟩⟩
            clear hK K
            try simp only [Act.put, List.setIfInBounds_toArray, List.set_cons_zero, List.set_cons_succ, List.getElem_toArray, List.getElem_cons_succ, List.getElem_cons_zero]
            refine plan_read (by rfl) (by rfl) (fun u hu => by (clear hu; go_simp; try rfl)) ?_
            try simp only [Act.put, List.setIfInBounds_toArray, List.set_cons_zero, List.set_cons_succ, List.getElem_toArray, List.getElem_cons_succ, List.getElem_cons_zero]
            refine plan_read (by rfl) (by rfl) (fun u hu => by (clear hu; go_simp; try rfl)) ?_
            try simp only [Act.put, List.setIfInBounds_toArray, List.set_cons_zero, List.set_cons_succ, List.getElem_toArray, List.getElem_cons_succ, List.getElem_cons_zero]
            refine plan_read (by rfl) (by rfl) (fun u hu => by (clear hu; go_simp; try rfl)) ?_
            try simp only [Act.put, List.setIfInBounds_toArray, List.set_cons_zero, List.set_cons_succ, List.getElem_toArray, List.getElem_cons_succ, List.getElem_cons_zero]
            refine plan_op (by rfl) (by rfl) fun K hK => ?_
            refine wp_allocbk (T := 24) (cs := bufCells 0) rfl (by kernel_rfl) fun q171 M171 B171 Z171 => ?_
            have hlt171 : q168.heap.size < q171.heap.size := M171.lt
            have HS172 := Lib.hid (HS169.out.trans (B171.mono HS169.out.size))
            have hz172 : q168.heap.size ≤ q171.heap.size := B171.size
            have Hd166_172 := Lib.hid (Hd166_169.out.below B171)
            have Hd170_172 := Lib.hid (Hd170.out.below B171)
            have HP171 := Lib.hid M171
            clear M171 B171 Z171
            refine hK _ _ ⟨HS172.out, ?_⟩
            clear hK K
            try simp only [Act.put, List.setIfInBounds_toArray, List.set_cons_zero, List.set_cons_succ, List.getElem_toArray, List.getElem_cons_succ, List.getElem_cons_zero]
            refine plan_op (by rfl) (by rfl) fun K hK => ?_
            refine wp_storebk (T := 24) (x := .tmp 19) (y := .tmp 110) (n := q168.heap.size) (bs := c168) rfl rfl rfl HP171.out (by rw [HLc170.out]; rfl) (by rw [HLc170.out]; kernel_rfl) (HOne170.out) fun q173 M173 G173 => ?_
            have HS173 := Lib.hid (below_grown HS172.out G173 (by have := HS172.out.size; omega) (by omega))
            have hz173 : q171.heap.size ≤ q173.heap.size := G173.size
            have hd173 := Hd170_172.out.grown_any G173 (by omega)
            have Hd170_173 := Lib.hid hd173
            have HP173 := Lib.hid M173
            clear hd173 M173 G173
            refine hK _ _ ⟨HS173.out, ?_⟩
            clear hK K
            try simp only [Act.put, List.setIfInBounds_toArray, List.set_cons_zero, List.set_cons_succ, List.getElem_toArray, List.getElem_cons_succ, List.getElem_cons_zero]
            refine plan_stop ?_
            simp only [List.drop_succ_cons, List.drop_zero, Act.put, List.setIfInBounds_toArray, List.set_cons_zero, List.set_cons_succ, List.getElem_toArray, List.getElem_cons_succ, List.getElem_cons_zero]
            go_wp2_with fail
            refine NoPanic.normal ?_
            exact ⟨rfl, HMi.out _ _ ⟨q168.heap.size, c168, by omega, HP173.out, Rep.frame _ _ _ Hd170_173.out fun b h1 h2 => ⟨rfl, h2⟩, HS173.out, _, _, _, _, _, _, rfl⟩⟩
          · refine plan_op (by rfl) (by rfl) fun K hK => ?_
            refine wp_allocbk (T := 24) (cs := bufCells 0) rfl (by kernel_rfl) fun q174 M174 B174 Z174 => ?_
            have hlt174 : q166.heap.size < q174.heap.size := M174.lt
            have HS175 := Lib.hid (HS167.out.trans (B174.mono HS167.out.size))
            have hz175 : q166.heap.size ≤ q174.heap.size := B174.size
            have Hd166_175 := Lib.hid (Hd166.out.below B174)
            have HP174 := Lib.hid M174
            clear M174 B174 Z174
            refine hK _ _ ⟨HS175.out, ?_⟩
            clear hK K
            try simp only [Act.put, List.setIfInBounds_toArray, List.set_cons_zero, List.set_cons_succ, List.getElem_toArray, List.getElem_cons_succ, List.getElem_cons_zero]
            refine plan_op (by rfl) (by rfl) fun K hK => ?_
            have ra176 : Rep q174 (fun b => b < q174.heap.size) JBuf cs k15 := Rep.frame _ _ _ (HrepL15_163.out.below HS175.out) fun b h1 h2 => ⟨rfl, h2⟩
            have rb176 : Rep q174 (fun b => b < q174.heap.size) JMed (medCells 63 0 false) (medOf 63 0 false) := Rep.frame _ _ _ Hd166_175.out fun b h1 h2 => ⟨rfl, h2⟩
            refine wp_call3 (f := 14) (x := .tmp 107) (y := .const (.int .i64 0)) (z := .tmp 108) (vx := .agg (cs).toArray) (vy := .int .i64 0) (vz := .agg ((medCells 63 0 false)).toArray) rfl rfl rfl rfl rfl rfl rfl rfl (put_goesD q174 _ _ _ _ 0 _ ra176 rb176 (fun b hb => hb) (in_i64 _ (by omega))) ?_
            rintro e q176 ⟨c176, rfl, hr176, hb176⟩
            clear ra176 rb176
            rw [show (putF k15 0 (medOf 63 0 false)).2 = 10 from known4.2.2]
            have HS177 := Lib.hid (HS175.out.trans (hb176.mono HS175.out.size))
            have hz177 : q174.heap.size ≤ q176.heap.size := hb176.size
            have Hd166_177 := Lib.hid (Hd166_175.out.below hb176)
            have HP_177 := Lib.hid (HP174.out.below hb176)
            have hlc178 : c176.length = 11 := Rep.length _ _ _ hr176
            have HLc178 := Lib.hid hlc178
            clear hlc178
            have HOne178 := Lib.hid (Rep.one _ _ _ hr176)
            have Hd178 := Lib.hid (show Rep q176 (fun b => q174.heap.size ≤ b ∧ b < q176.heap.size) JBuf c176 (putF k15 0 (medOf 63 0 false)).1 from Rep.frame _ _ _ hr176 fun b h1 h2 => ⟨rfl, h1, h2⟩)
            clear hr176
            clear hb176
            refine ⟨_, rfl, hK _ _ ⟨HS177.out, ?_⟩⟩
            clear hK K
            try simp only [Act.put, List.setIfInBounds_toArray, List.set_cons_zero, List.set_cons_succ, List.getElem_toArray, List.getElem_cons_succ, List.getElem_cons_zero]
            refine plan_read (by rfl) (by rfl) (fun u hu => by (clear hu; go_simp; try rfl)) ?_
            try simp only [Act.put, List.setIfInBounds_toArray, List.set_cons_zero, List.set_cons_succ, List.getElem_toArray, List.getElem_cons_succ, List.getElem_cons_zero]
            refine plan_read (by rfl) (by rfl) (fun u hu => by (clear hu; go_simp; try rfl)) ?_
            try simp only [Act.put, List.setIfInBounds_toArray, List.set_cons_zero, List.set_cons_succ, List.getElem_toArray, List.getElem_cons_succ, List.getElem_cons_zero]
            refine plan_read (by rfl) (by rfl) (fun u hu => by (clear hu; go_simp; try rfl)) ?_
            try simp only [Act.put, List.setIfInBounds_toArray, List.set_cons_zero, List.set_cons_succ, List.getElem_toArray, List.getElem_cons_succ, List.getElem_cons_zero]
            refine plan_op (by rfl) (by rfl) fun K hK => ?_
            refine wp_storebk (T := 24) (x := .tmp 19) (y := .tmp 110) (n := q166.heap.size) (bs := c176) rfl rfl rfl HP_177.out (by rw [HLc178.out]; rfl) (by rw [HLc178.out]; kernel_rfl) (HOne178.out) fun q179 M179 G179 => ?_
            have HS179 := Lib.hid (below_grown HS177.out G179 (by have := HS177.out.size; omega) (by omega))
            have hz179 : q176.heap.size ≤ q179.heap.size := G179.size
            have hd179 := Hd178.out.grown_any G179 (by omega)
            have Hd178_179 := Lib.hid hd179
            have HP179 := Lib.hid M179
            clear hd179 M179 G179
            refine hK _ _ ⟨HS179.out, ?_⟩
            clear hK K
            try simp only [Act.put, List.setIfInBounds_toArray, List.set_cons_zero, List.set_cons_succ, List.getElem_toArray, List.getElem_cons_succ, List.getElem_cons_zero]
            refine plan_stop ?_
            simp only [List.drop_succ_cons, List.drop_zero, Act.put, List.setIfInBounds_toArray, List.set_cons_zero, List.set_cons_succ, List.getElem_toArray, List.getElem_cons_succ, List.getElem_cons_zero]
            go_wp2_with fail
            refine NoPanic.normal ?_
            exact ⟨rfl, HMi.out _ _ ⟨q166.heap.size, c176, by omega, HP179.out, Rep.frame _ _ _ Hd178_179.out fun b h1 h2 => ⟨rfl, h2⟩, HS179.out, _, _, _, _, _, _, rfl⟩⟩
        · refine plan_op (by rfl) (by rfl) fun K hK => ?_
          refine wp_allocbk (T := 24) (cs := bufCells 0) rfl (by kernel_rfl) fun q180 M180 B180 Z180 => ?_
          have hlt180 : v140.drew.heap.size < q180.heap.size := M180.lt
          have HS181 := Lib.hid (HS0.out.trans (B180.mono HS0.out.size))
          have hz181 : v140.drew.heap.size ≤ q180.heap.size := B180.size
          have HP180 := Lib.hid M180
          clear M180 B180 Z180
          refine hK _ _ ⟨HS181.out, ?_⟩
          clear hK K
          try simp only [Act.put, List.setIfInBounds_toArray, List.set_cons_zero, List.set_cons_succ, List.getElem_toArray, List.getElem_cons_succ, List.getElem_cons_zero]
          refine plan_op (by rfl) (by rfl) fun K hK => ?_
          refine wp_call3 (f := 50) (x := .const (.int .i64 63)) (y := .const (.int .i64 0)) (z := .const (.bool false)) (vx := .int .i64 63) (vy := .int .i64 0) (vz := .bool false) rfl rfl rfl rfl rfl rfl rfl rfl (packet_goes q180 63 0 false) ?_
          rintro e q182 ⟨rfl, hb182⟩
          have HS183 := Lib.hid (HS181.out.trans (hb182.mono HS181.out.size))
          have hz183 : q180.heap.size ≤ q182.heap.size := hb182.size
          have HP_183 := Lib.hid (HP180.out.below hb182)
          have hm182 := rep_medOf q182 (fun b => b < q182.heap.size) 63 0 false (in_i64 _ (by omega)) (in_i64 _ (by omega))
          have Hd182 := Lib.hid hm182
          clear hm182 hb182
          refine ⟨_, rfl, hK _ _ ⟨HS183.out, ?_⟩⟩
          clear hK K
          try simp only [Act.put, List.setIfInBounds_toArray, List.set_cons_zero, List.set_cons_succ, List.getElem_toArray, List.getElem_cons_succ, List.getElem_cons_zero]
          refine plan_op (by rfl) (by rfl) fun K hK => ?_
          have ra184 : Rep q182 (fun b => b < q182.heap.size) JBuf cs k15 := Rep.frame _ _ _ (HrepL15_163.out.below HS183.out) fun b h1 h2 => ⟨rfl, h2⟩
          have rb184 : Rep q182 (fun b => b < q182.heap.size) JMed (medCells 63 0 false) (medOf 63 0 false) := Rep.frame _ _ _ Hd182.out fun b h1 h2 => ⟨rfl, h2⟩
          refine wp_call3 (f := 14) (x := .tmp 107) (y := .const (.int .i64 0)) (z := .tmp 108) (vx := .agg (cs).toArray) (vy := .int .i64 0) (vz := .agg ((medCells 63 0 false)).toArray) rfl rfl rfl rfl rfl rfl rfl rfl (put_goesD q182 _ _ _ _ 0 _ ra184 rb184 (fun b hb => hb) (in_i64 _ (by omega))) ?_
          rintro e q184 ⟨c184, rfl, hr184, hb184⟩
          clear ra184 rb184
          rw [show (putF k15 0 (medOf 63 0 false)).2 = 10 from known4.2.2]
          have HS185 := Lib.hid (HS183.out.trans (hb184.mono HS183.out.size))
          have hz185 : q182.heap.size ≤ q184.heap.size := hb184.size
          have Hd182_185 := Lib.hid (Hd182.out.below hb184)
          have HP_185 := Lib.hid (HP_183.out.below hb184)
          have hlc186 : c184.length = 11 := Rep.length _ _ _ hr184
          have HLc186 := Lib.hid hlc186
          clear hlc186
          have HOne186 := Lib.hid (Rep.one _ _ _ hr184)
          have Hd186 := Lib.hid (show Rep q184 (fun b => q182.heap.size ≤ b ∧ b < q184.heap.size) JBuf c184 (putF k15 0 (medOf 63 0 false)).1 from Rep.frame _ _ _ hr184 fun b h1 h2 => ⟨rfl, h1, h2⟩)
          clear hr184
          clear hb184
          refine ⟨_, rfl, hK _ _ ⟨HS185.out, ?_⟩⟩
          clear hK K
          try simp only [Act.put, List.setIfInBounds_toArray, List.set_cons_zero, List.set_cons_succ, List.getElem_toArray, List.getElem_cons_succ, List.getElem_cons_zero]
          refine plan_read (by rfl) (by rfl) (fun u hu => by (clear hu; go_simp; try rfl)) ?_
          try simp only [Act.put, List.setIfInBounds_toArray, List.set_cons_zero, List.set_cons_succ, List.getElem_toArray, List.getElem_cons_succ, List.getElem_cons_zero]
          refine plan_read (by rfl) (by rfl) (fun u hu => by (clear hu; go_simp; try rfl)) ?_
          try simp only [Act.put, List.setIfInBounds_toArray, List.set_cons_zero, List.set_cons_succ, List.getElem_toArray, List.getElem_cons_succ, List.getElem_cons_zero]
          refine plan_read (by rfl) (by rfl) (fun u hu => by (clear hu; go_simp; try rfl)) ?_
          try simp only [Act.put, List.setIfInBounds_toArray, List.set_cons_zero, List.set_cons_succ, List.getElem_toArray, List.getElem_cons_succ, List.getElem_cons_zero]
          refine plan_op (by rfl) (by rfl) fun K hK => ?_
          refine wp_storebk (T := 24) (x := .tmp 19) (y := .tmp 110) (n := v140.drew.heap.size) (bs := c184) rfl rfl rfl HP_185.out (by rw [HLc186.out]; rfl) (by rw [HLc186.out]; kernel_rfl) (HOne186.out) fun q187 M187 G187 => ?_
          have HS187 := Lib.hid (below_grown HS185.out G187 (by have := HS185.out.size; omega) (by omega))
          have hz187 : q184.heap.size ≤ q187.heap.size := G187.size
          have hd187 := Hd186.out.grown_any G187 (by omega)
          have Hd186_187 := Lib.hid hd187
          have HP187 := Lib.hid M187
          clear hd187 M187 G187
          refine hK _ _ ⟨HS187.out, ?_⟩
          clear hK K
          try simp only [Act.put, List.setIfInBounds_toArray, List.set_cons_zero, List.set_cons_succ, List.getElem_toArray, List.getElem_cons_succ, List.getElem_cons_zero]
          refine plan_stop ?_
          simp only [List.drop_succ_cons, List.drop_zero, Act.put, List.setIfInBounds_toArray, List.set_cons_zero, List.set_cons_succ, List.getElem_toArray, List.getElem_cons_succ, List.getElem_cons_zero]
          go_wp2_with fail
          refine NoPanic.normal ?_
          exact ⟨rfl, HMi.out _ _ ⟨v140.drew.heap.size, c184, by omega, HP187.out, Rep.frame _ _ _ Hd186_187.out fun b h1 h2 => ⟨rfl, h2⟩, HS187.out, _, _, _, _, _, _, rfl⟩⟩
      rintro _ v165 ⟨bn165, cs165, hbn165, M165, hr165, B165, u107, u108, u109, u106, u110, u111, rfl⟩
      rw [ha165]
      clear ha165
      simp only [List.setIfInBounds_toArray, List.set_cons_zero, List.set_cons_succ]
      have hlt165 : bn165 < v165.heap.size := M165.lt
      have Hbk97_188 := Lib.hid (Hbk97_163.out.below B165)
      clear Hbk97_163
      have HbkL15_188 := Lib.hid (HbkL15_163.out.below B165)
      clear HbkL15_163
      have HrepL15_188 := Lib.hid (HrepL15_163.out.below B165)
      clear HrepL15_163
      have HB188 := Lib.hid (HB163.out.trans (B165.mono HB163.out.size))
      clear HB163
      have hz188 : v140.heap.size ≤ v165.heap.size := B165.size
      have hlc189 : cs165.length = 11 := Rep.length _ _ _ hr165
      have HLc189 := Lib.hid hlc189
      clear hlc189
      have HOne189 := Lib.hid (Rep.one _ _ _ hr165)
      have Hrep189 := Lib.hid (show Rep v165 (fun b => b < v165.heap.size) JBuf cs165 (putF k15 0 (medOf 63 0 false)).1 from Rep.frame _ _ _ hr165 fun b h1 h2 => ⟨rfl, h2⟩)
      clear hr165
      have Hbk189_0 := Lib.hid M165
      clear M165 B165
      clear Hbk189_0 Hrep189
      go_wp2_with (refine step_loadbkw (T := 24) (cs := cs) (by rfl) rfl rfl HbkL15_188.out Try.underlying24 rfl (by rw [HLC.out]; kernel_rfl) ?_)
      refine (ktakes v165 (fun b => b < wr.heap.size) cs k15 1000 64 64 false none 0 0 [] HrepL15_188.out (fun b (hb : b < wr.heap.size) => by omega) (in_i64 _ (by omega)) known5.1 known5.2.1 known5.2.2.1 known5.2.2.2.1 known5.2.2.2.2 rfl (fun h => absurd h (by omega))).mono ?_
      rintro e v190 ⟨c190, rfl, hr190, hb190⟩
      have Hbk97_191 := Lib.hid (Hbk97_188.out.below hb190)
      clear Hbk97_188
      have HbkL15_191 := Lib.hid (HbkL15_188.out.below hb190)
      clear HbkL15_188
      have HrepL15_191 := Lib.hid (HrepL15_188.out.below hb190)
      clear HrepL15_188
      have HB191 := Lib.hid (HB188.out.trans (hb190.mono HB188.out.size))
      clear HB188
      have hz191 : v165.heap.size ≤ v190.heap.size := hb190.size
      clear hb190
      have hlc192 : c190.length = 11 := Rep.length _ _ _ hr190
      have HLc192 := Lib.hid hlc192
      clear hlc192
      have HOne192 := Lib.hid (Rep.one _ _ _ hr190)
      have Hrep192 := Lib.hid (show Rep v190 (fun b => b < v190.heap.size) JBuf c190 (takeF k15 1000).1 from Rep.frame _ _ _ hr190 fun b h1 h2 => ⟨rfl, h2⟩)
      clear hr190
      go_wp2_with (refine step_newv (T := 24) (V := .agg c190.toArray) (bs := c190) rfl rfl rfl rfl rfl (by first | (simp; done) | decide) rfl rfl (by rw [HLc192.out]; kernel_rfl) (by rw [HLc192.out]; kernel_rfl) (HOne192.out) fun v193 M193 B193 Z193 => ?_)
      have hlt193 : v190.heap.size < v193.heap.size := M193.lt
      have Hbk97_194 := Lib.hid (Hbk97_191.out.below B193)
      clear Hbk97_191
      have HbkL15_194 := Lib.hid (HbkL15_191.out.below B193)
      clear HbkL15_191
      have HrepL15_194 := Lib.hid (HrepL15_191.out.below B193)
      clear HrepL15_191
      have Hrep192_194 := Lib.hid (Hrep192.out.below B193)
      clear Hrep192
      have HB194 := Lib.hid (HB191.out.trans (B193.mono HB191.out.size))
      clear HB191
      have hz194 : v190.heap.size ≤ v193.heap.size := B193.size
      have Hbk192_193 := Lib.hid M193
      clear M193 B193 Z193
      refine Lib.hid ?_
      clear Hbk192_193 Hrep192_194
      go_wp2_with fail
      refine (fresh_goes v193 1 (in_i64 _ (by omega))).mono ?_
      rintro e v195 ⟨c195, rfl, hr195, hb195⟩
      have Hbk97_196 := Lib.hid (Hbk97_194.out.below hb195)
      clear Hbk97_194
      have HbkL15_196 := Lib.hid (HbkL15_194.out.below hb195)
      clear HbkL15_194
      have HrepL15_196 := Lib.hid (HrepL15_194.out.below hb195)
      clear HrepL15_194
      have HB196 := Lib.hid (HB194.out.trans (hb195.mono HB194.out.size))
      clear HB194
      have hz196 : v193.heap.size ≤ v195.heap.size := hb195.size
      clear hb195
      have hlc197 : c195.length = 11 := Rep.length _ _ _ hr195
      have HLc197 := Lib.hid hlc197
      clear hlc197
      have HOne197 := Lib.hid (Rep.one _ _ _ hr195)
      have Hrep197 := Lib.hid (show Rep v195 (fun b => b < v195.heap.size) JBuf c195 (newF 1).1 from Rep.frame _ _ _ hr195 fun b h1 h2 => ⟨rfl, h2⟩)
      clear hr195
      go_wp2_with fail
      refine (take_goesD v195 (fun b => b < v195.heap.size) c195 (newF 1).1 1099511627777 Hrep197.out (fun b (hb : b < v195.heap.size) => by omega) (in_i64 _ (by omega))).mono ?_
      rintro e v198 ⟨c198, A198, k198, rfl, hr198, -, hb198⟩
      have Hbk97_199 := Lib.hid (Hbk97_196.out.below hb198)
      clear Hbk97_196
      have HbkL15_199 := Lib.hid (HbkL15_196.out.below hb198)
      clear HbkL15_196
      have HrepL15_199 := Lib.hid (HrepL15_196.out.below hb198)
      clear HrepL15_196
      have Hrep197_199 := Lib.hid (Hrep197.out.below hb198)
      clear Hrep197
      have HB199 := Lib.hid (HB196.out.trans (hb198.mono HB196.out.size))
      clear HB196
      have hz199 : v195.heap.size ≤ v198.heap.size := hb198.size
      clear hb198
      have hlc200 : c198.length = 11 := Rep.length _ _ _ hr198
      have HLc200 := Lib.hid hlc200
      clear hlc200
      have HOne200 := Lib.hid (Rep.one _ _ _ hr198)
      have Hrep200 := Lib.hid (show Rep v198 (fun b => b < v198.heap.size) JBuf c198 (takeF (newF 1).1 1099511627777).1 from Rep.frame _ _ _ hr198 fun b h1 h2 => ⟨rfl, h2⟩)
      clear hr198
      rw [known6.1]
      go_wp2_with (refine step_newv (T := 24) (V := .agg c198.toArray) (bs := c198) rfl rfl rfl rfl rfl (by first | (simp; done) | decide) rfl rfl (by rw [HLc200.out]; kernel_rfl) (by rw [HLc200.out]; kernel_rfl) (HOne200.out) fun v201 M201 B201 Z201 => ?_)
      have hlt201 : v198.heap.size < v201.heap.size := M201.lt
      have Hbk97_202 := Lib.hid (Hbk97_199.out.below B201)
      clear Hbk97_199
      have HbkL15_202 := Lib.hid (HbkL15_199.out.below B201)
      clear HbkL15_199
      have HrepL15_202 := Lib.hid (HrepL15_199.out.below B201)
      clear HrepL15_199
      have Hrep197_202 := Lib.hid (Hrep197_199.out.below B201)
      clear Hrep197_199
      have Hrep200_202 := Lib.hid (Hrep200.out.below B201)
      clear Hrep200
      have HB202 := Lib.hid (HB199.out.trans (B201.mono HB199.out.size))
      clear HB199
      have hz202 : v198.heap.size ≤ v201.heap.size := B201.size
      have Hbk200_201 := Lib.hid M201
      clear M201 B201 Z201
      refine Lib.hid ?_
      clear Hbk200_201 Hrep200_202
      clear Hrep197_202
      go_wp2_with fail
      refine (fresh_goes v201 1 (in_i64 _ (by omega))).mono ?_
      rintro e v203 ⟨c203, rfl, hr203, hb203⟩
      have Hbk97_204 := Lib.hid (Hbk97_202.out.below hb203)
      clear Hbk97_202
      have HbkL15_204 := Lib.hid (HbkL15_202.out.below hb203)
      clear HbkL15_202
      have HrepL15_204 := Lib.hid (HrepL15_202.out.below hb203)
      clear HrepL15_202
      have HB204 := Lib.hid (HB202.out.trans (hb203.mono HB202.out.size))
      clear HB202
      have hz204 : v201.heap.size ≤ v203.heap.size := hb203.size
      clear hb203
      have hlc205 : c203.length = 11 := Rep.length _ _ _ hr203
      have HLc205 := Lib.hid hlc205
      clear hlc205
      have HOne205 := Lib.hid (Rep.one _ _ _ hr203)
      have Hrep205 := Lib.hid (show Rep v203 (fun b => b < v203.heap.size) JBuf c203 (newF 1).1 from Rep.frame _ _ _ hr203 fun b h1 h2 => ⟨rfl, h2⟩)
      clear hr203
      go_wp2_with fail
      refine (take_goesD v203 (fun b => b < v203.heap.size) c203 (newF 1).1 1099511627776 Hrep205.out (fun b (hb : b < v203.heap.size) => by omega) (in_i64 _ (by omega))).mono ?_
      rintro e v206 ⟨c206, A206, k206, rfl, hr206, -, hb206⟩
      have Hbk97_207 := Lib.hid (Hbk97_204.out.below hb206)
      clear Hbk97_204
      have HbkL15_207 := Lib.hid (HbkL15_204.out.below hb206)
      clear HbkL15_204
      have HrepL15_207 := Lib.hid (HrepL15_204.out.below hb206)
      clear HrepL15_204
      have Hrep205_207 := Lib.hid (Hrep205.out.below hb206)
      clear Hrep205
      have HB207 := Lib.hid (HB204.out.trans (hb206.mono HB204.out.size))
      clear HB204
      have hz207 : v203.heap.size ≤ v206.heap.size := hb206.size
      clear hb206
      have hlc208 : c206.length = 11 := Rep.length _ _ _ hr206
      have HLc208 := Lib.hid hlc208
      clear hlc208
      have HOne208 := Lib.hid (Rep.one _ _ _ hr206)
      have Hrep208 := Lib.hid (show Rep v206 (fun b => b < v206.heap.size) JBuf c206 (takeF (newF 1).1 1099511627776).1 from Rep.frame _ _ _ hr206 fun b h1 h2 => ⟨rfl, h2⟩)
      clear hr206
      rw [known6.2]
      go_wp2_with (refine step_newv (T := 24) (V := .agg c206.toArray) (bs := c206) rfl rfl rfl rfl rfl (by first | (simp; done) | decide) rfl rfl (by rw [HLc208.out]; kernel_rfl) (by rw [HLc208.out]; kernel_rfl) (HOne208.out) fun v209 M209 B209 Z209 => ?_)
      have hlt209 : v206.heap.size < v209.heap.size := M209.lt
      have Hbk97_210 := Lib.hid (Hbk97_207.out.below B209)
      clear Hbk97_207
      have HbkL15_210 := Lib.hid (HbkL15_207.out.below B209)
      clear HbkL15_207
      have HrepL15_210 := Lib.hid (HrepL15_207.out.below B209)
      clear HrepL15_207
      have Hrep205_210 := Lib.hid (Hrep205_207.out.below B209)
      clear Hrep205_207
      have Hrep208_210 := Lib.hid (Hrep208.out.below B209)
      clear Hrep208
      have HB210 := Lib.hid (HB207.out.trans (B209.mono HB207.out.size))
      clear HB207
      have hz210 : v206.heap.size ≤ v209.heap.size := B209.size
      have Hbk208_209 := Lib.hid M209
      clear M209 B209 Z209
      refine Lib.hid ?_
      clear Hbk208_209 Hrep208_210
      clear Hrep205_210
      go_wp2_with fail
      refine (fresh_goes v209 1 (in_i64 _ (by omega))).mono ?_
      rintro e v211 ⟨c211, rfl, hr211, hb211⟩
      have Hbk97_212 := Lib.hid (Hbk97_210.out.below hb211)
      clear Hbk97_210
      have HbkL15_212 := Lib.hid (HbkL15_210.out.below hb211)
      clear HbkL15_210
      have HrepL15_212 := Lib.hid (HrepL15_210.out.below hb211)
      clear HrepL15_210
      have HB212 := Lib.hid (HB210.out.trans (hb211.mono HB210.out.size))
      clear HB210
      have hz212 : v209.heap.size ≤ v211.heap.size := hb211.size
      clear hb211
      have hlc213 : c211.length = 11 := Rep.length _ _ _ hr211
      have HLc213 := Lib.hid hlc213
      clear hlc213
      have HOne213 := Lib.hid (Rep.one _ _ _ hr211)
      have Hrep213 := Lib.hid (show Rep v211 (fun b => b < v211.heap.size) JBuf c211 (newF 1).1 from Rep.frame _ _ _ hr211 fun b h1 h2 => ⟨rfl, h2⟩)
      clear hr211
      go_wp2_with (refine step_newv (T := 24) (V := .agg c211.toArray) (bs := c211) rfl rfl rfl rfl rfl (by first | (simp; done) | decide) rfl rfl (by rw [HLc213.out]; kernel_rfl) (by rw [HLc213.out]; kernel_rfl) (HOne213.out) fun v214 M214 B214 Z214 => ?_)
      have hlt214 : v211.heap.size < v214.heap.size := M214.lt
      have Hbk97_215 := Lib.hid (Hbk97_212.out.below B214)
      clear Hbk97_212
      have HbkL15_215 := Lib.hid (HbkL15_212.out.below B214)
      clear HbkL15_212
      have HrepL15_215 := Lib.hid (HrepL15_212.out.below B214)
      clear HrepL15_212
      have Hrep213_215 := Lib.hid (Hrep213.out.below B214)
      clear Hrep213
      have HB215 := Lib.hid (HB212.out.trans (B214.mono HB212.out.size))
      clear HB212
      have hz215 : v211.heap.size ≤ v214.heap.size := B214.size
      have Hbk213_214 := Lib.hid M214
      clear M214 B214 Z214
      refine Lib.hid ?_
      go_wp2_with (refine step_setcell (T := 3) (n := v211.heap.size) (j := 9) (v := .int .i64 (1)) rfl rfl rfl rfl Hbk213_214.out (by rw [HLc213.out]; decide) rfl (by kernel_rfl) rfl fun v216 M216 G216 => ?_)
      have Hbk97_217 := Lib.hid (Hbk97_215.out.grown G216 (by omega))
      clear Hbk97_215
      have HbkL15_217 := Lib.hid (HbkL15_215.out.grown G216 (by omega))
      clear HbkL15_215
      have HrepL15_217 := Lib.hid (HrepL15_215.out.grown_any G216 (by omega))
      clear HrepL15_215
      have Hrep213_217 := Lib.hid (Hrep213_215.out.grown_any G216 (by omega))
      clear Hrep213_215
      have HB217 := Lib.hid (below_grown HB215.out G216 (by have := HB215.out.size; omega) (by omega))
      clear HB215
      have hz217 : v214.heap.size ≤ v216.heap.size := G216.size
      have Hbk213_217 := Lib.hid M216
      clear M216 Hbk213_214
      clear G216
      have Hrs216 := Lib.hid (rep_setLs Hrep213_217.out (1) (in_i64 _ (by omega)))
      clear Hrep213_217
      refine Lib.hid ?_
      have Hrep218 := HrepL15_217
      go_step
      go_step
      go_step
      go_step
      go_step
      refine step_loadbkh (T := 24) (cs := cs) (by rfl) rfl rfl HbkL15_217.out Try.underlying24 rfl (by rw [HLC.out]; kernel_rfl) ?_
      refine Lib.hid ?_
      simp only [Act.put, List.setIfInBounds_toArray, List.set_cons_zero, List.set_cons_succ]
      refine step_newv (T := 24) (d1 := 30) (y := .tmp 131) (V := .agg cs.toArray) (bs := cs) rfl rfl rfl rfl rfl (by simp) rfl rfl (by rw [HLC.out]; kernel_rfl) (by rw [HLC.out]; kernel_rfl) (HO15.out) fun v219 M219 B219 Z219 => ?_
      have hlt219 : v216.heap.size < v219.heap.size := M219.lt
      have Hbk97_220 := Lib.hid (Hbk97_217.out.below B219)
      clear Hbk97_217
      have HbkL15_220 := Lib.hid (HbkL15_217.out.below B219)
      clear HbkL15_217
      have HrepL15_220 := Lib.hid (HrepL15_217.out.below B219)
      clear HrepL15_217
      have Hbk213_220 := Lib.hid (Hbk213_217.out.below B219)
      clear Hbk213_217
      have Hrep213_220 := Lib.hid (Hrs216.out.below B219)
      clear Hrs216
      have Hrep218_220 := Lib.hid (Hrep218.out.below B219)
      clear Hrep218
      have HB220 := Lib.hid (HB217.out.trans (B219.mono HB217.out.size))
      clear HB217
      have hz220 : v216.heap.size ≤ v219.heap.size := B219.size
      have Hbk218_219 := Lib.hid M219
      clear M219 B219 Z219
      refine Lib.hid ?_
      obtain ⟨-, hm7, -, -⟩ := cell_at Hbk218_219.out Hrep218_220.out
      rw [known7.2.2.1] at hm7
      go_wp2_with (refine step_setcell (T := 3) (n := v216.heap.size) (j := 6) (v := .int .i64 (-1099511627775)) rfl rfl rfl rfl Hbk218_219.out (by rw [HLC.out]; decide) rfl (by kernel_rfl) rfl fun v221 M221 G221 => ?_)
      have Hbk97_222 := Lib.hid (Hbk97_220.out.grown G221 (by omega))
      clear Hbk97_220
      have HbkL15_222 := Lib.hid (HbkL15_220.out.grown G221 (by omega))
      clear HbkL15_220
      have HrepL15_222 := Lib.hid (HrepL15_220.out.grown_any G221 (by omega))
      clear HrepL15_220
      have Hbk213_222 := Lib.hid (Hbk213_220.out.grown G221 (by omega))
      clear Hbk213_220
      have Hrep213_222 := Lib.hid (Hrep213_220.out.grown_any G221 (by omega))
      clear Hrep213_220
      have Hrep218_222 := Lib.hid (Hrep218_220.out.grown_any G221 (by omega))
      clear Hrep218_220
      have HB222 := Lib.hid (below_grown HB220.out G221 (by have := HB220.out.size; omega) (by omega))
      clear HB220
      have hz222 : v219.heap.size ≤ v221.heap.size := G221.size
      have Hbk218_222 := Lib.hid M221
      clear M221 Hbk218_219
      clear G221
      have Hrs221 := Lib.hid (rep_setLw Hrep218_222.out (-1099511627775) (in_i64 _ (by omega)))
      clear Hrep218_222
      refine Lib.hid ?_
      clear hm7
      have Hrep223 := HrepL15_222
      go_step
      go_step
      go_step
      go_step
      go_step
      refine step_loadbkh (T := 24) (cs := cs) (by rfl) rfl rfl HbkL15_222.out Try.underlying24 rfl (by rw [HLC.out]; kernel_rfl) ?_
      refine Lib.hid ?_
      simp only [Act.put, List.setIfInBounds_toArray, List.set_cons_zero, List.set_cons_succ]
      refine step_newv (T := 24) (d1 := 31) (y := .tmp 136) (V := .agg cs.toArray) (bs := cs) rfl rfl rfl rfl rfl (by simp) rfl rfl (by rw [HLC.out]; kernel_rfl) (by rw [HLC.out]; kernel_rfl) (HO15.out) fun v224 M224 B224 Z224 => ?_
      have hlt224 : v221.heap.size < v224.heap.size := M224.lt
      have Hbk97_225 := Lib.hid (Hbk97_222.out.below B224)
      clear Hbk97_222
      have HbkL15_225 := Lib.hid (HbkL15_222.out.below B224)
      clear HbkL15_222
      have HrepL15_225 := Lib.hid (HrepL15_222.out.below B224)
      clear HrepL15_222
      have Hbk213_225 := Lib.hid (Hbk213_222.out.below B224)
      clear Hbk213_222
      have Hrep213_225 := Lib.hid (Hrep213_222.out.below B224)
      clear Hrep213_222
      have Hbk218_225 := Lib.hid (Hbk218_222.out.below B224)
      clear Hbk218_222
      have Hrep218_225 := Lib.hid (Hrs221.out.below B224)
      clear Hrs221
      have Hrep223_225 := Lib.hid (Hrep223.out.below B224)
      clear Hrep223
      have HB225 := Lib.hid (HB222.out.trans (B224.mono HB222.out.size))
      clear HB222
      have hz225 : v221.heap.size ≤ v224.heap.size := B224.size
      have Hbk223_224 := Lib.hid M224
      clear M224 B224 Z224
      refine Lib.hid ?_
      go_wp2_with (refine step_setcell (T := 3) (n := v221.heap.size) (j := 9) (v := .int .i64 (1099511627776)) rfl rfl rfl rfl Hbk223_224.out (by rw [HLC.out]; decide) rfl (by kernel_rfl) rfl fun v226 M226 G226 => ?_)
      have Hbk97_227 := Lib.hid (Hbk97_225.out.grown G226 (by omega))
      clear Hbk97_225
      have HbkL15_227 := Lib.hid (HbkL15_225.out.grown G226 (by omega))
      clear HbkL15_225
      have HrepL15_227 := Lib.hid (HrepL15_225.out.grown_any G226 (by omega))
      clear HrepL15_225
      have Hbk213_227 := Lib.hid (Hbk213_225.out.grown G226 (by omega))
      clear Hbk213_225
      have Hrep213_227 := Lib.hid (Hrep213_225.out.grown_any G226 (by omega))
      clear Hrep213_225
      have Hbk218_227 := Lib.hid (Hbk218_225.out.grown G226 (by omega))
      clear Hbk218_225
      have Hrep218_227 := Lib.hid (Hrep218_225.out.grown_any G226 (by omega))
      clear Hrep218_225
      have Hrep223_227 := Lib.hid (Hrep223_225.out.grown_any G226 (by omega))
      clear Hrep223_225
      have HB227 := Lib.hid (below_grown HB225.out G226 (by have := HB225.out.size; omega) (by omega))
      clear HB225
      have hz227 : v224.heap.size ≤ v226.heap.size := G226.size
      have Hbk223_227 := Lib.hid M226
      clear M226 Hbk223_224
      clear G226
      have Hrs226 := Lib.hid (rep_setLs Hrep223_227.out (1099511627776) (in_i64 _ (by omega)))
      clear Hrep223_227
      refine Lib.hid ?_
      go_wp2_with (refine step_loadbkw (T := 24) (cs := (cs.set 9 (.int .i64 (1099511627776)))) (by rfl) rfl rfl Hbk223_227.out Try.underlying24 rfl (by rw [List.length_set, HLC.out]; kernel_rfl) ?_)
      refine (take_goesD v226 (fun b => b < wr.heap.size) (cs.set 9 (.int .i64 (1099511627776))) (setLs k15 1099511627776) 1000 Hrs226.out (fun b (hb : b < wr.heap.size) => by omega) (in_i64 _ (by omega))).mono ?_
      rintro e v228 ⟨c228, A228, k228, rfl, hr228, -, hb228⟩
      have Hbk97_229 := Lib.hid (Hbk97_227.out.below hb228)
      clear Hbk97_227
      have HbkL15_229 := Lib.hid (HbkL15_227.out.below hb228)
      clear HbkL15_227
      have HrepL15_229 := Lib.hid (HrepL15_227.out.below hb228)
      clear HrepL15_227
      have Hbk213_229 := Lib.hid (Hbk213_227.out.below hb228)
      clear Hbk213_227
      have Hrep213_229 := Lib.hid (Hrep213_227.out.below hb228)
      clear Hrep213_227
      have Hbk218_229 := Lib.hid (Hbk218_227.out.below hb228)
      clear Hbk218_227
      have Hrep218_229 := Lib.hid (Hrep218_227.out.below hb228)
      clear Hrep218_227
      have Hbk223_229 := Lib.hid (Hbk223_227.out.below hb228)
      clear Hbk223_227
      have Hrep223_229 := Lib.hid (Hrs226.out.below hb228)
      clear Hrs226
      have HB229 := Lib.hid (HB227.out.trans (hb228.mono HB227.out.size))
      clear HB227
      have hz229 : v226.heap.size ≤ v228.heap.size := hb228.size
      clear hb228
      have hlc230 : c228.length = 11 := Rep.length _ _ _ hr228
      have HLc230 := Lib.hid hlc230
      clear hlc230
      have HOne230 := Lib.hid (Rep.one _ _ _ hr228)
      have Hrep230 := Lib.hid (show Rep v228 (fun b => b < v228.heap.size) JBuf c228 (takeF (setLs k15 1099511627776) 1000).1 from Rep.frame _ _ _ hr228 fun b h1 h2 => ⟨rfl, h2⟩)
      clear hr228
      rw [known7.2.2.2.1]
      go_wp2_with (refine step_newv (T := 24) (V := .agg c228.toArray) (bs := c228) rfl rfl rfl rfl rfl (by first | (simp; done) | decide) rfl rfl (by rw [HLc230.out]; kernel_rfl) (by rw [HLc230.out]; kernel_rfl) (HOne230.out) fun v231 M231 B231 Z231 => ?_)
      have hlt231 : v228.heap.size < v231.heap.size := M231.lt
      have Hbk97_232 := Lib.hid (Hbk97_229.out.below B231)
      clear Hbk97_229
      have HbkL15_232 := Lib.hid (HbkL15_229.out.below B231)
      clear HbkL15_229
      have HrepL15_232 := Lib.hid (HrepL15_229.out.below B231)
      clear HrepL15_229
      have Hbk213_232 := Lib.hid (Hbk213_229.out.below B231)
      clear Hbk213_229
      have Hrep213_232 := Lib.hid (Hrep213_229.out.below B231)
      clear Hrep213_229
      have Hbk218_232 := Lib.hid (Hbk218_229.out.below B231)
      clear Hbk218_229
      have Hrep218_232 := Lib.hid (Hrep218_229.out.below B231)
      clear Hrep218_229
      have Hbk223_232 := Lib.hid (Hbk223_229.out.below B231)
      clear Hbk223_229
      have Hrep223_232 := Lib.hid (Hrep223_229.out.below B231)
      clear Hrep223_229
      have Hrep230_232 := Lib.hid (Hrep230.out.below B231)
      clear Hrep230
      have HB232 := Lib.hid (HB229.out.trans (B231.mono HB229.out.size))
      clear HB229
      have hz232 : v228.heap.size ≤ v231.heap.size := B231.size
      have Hbk230_231 := Lib.hid M231
      clear M231 B231 Z231
      refine Lib.hid ?_
      clear Hbk230_231 Hrep230_232
      clear Hbk223_232 Hrep223_232
      go_wp2_with fail
      refine (works_goes v231).mono ?_
      rintro e v233 ⟨rfl, hb233⟩
      have Hbk97_234 := Lib.hid (Hbk97_232.out.below hb233)
      clear Hbk97_232
      have HbkL15_234 := Lib.hid (HbkL15_232.out.below hb233)
      clear HbkL15_232
      have HrepL15_234 := Lib.hid (HrepL15_232.out.below hb233)
      clear HrepL15_232
      have Hbk213_234 := Lib.hid (Hbk213_232.out.below hb233)
      clear Hbk213_232
      have Hrep213_234 := Lib.hid (Hrep213_232.out.below hb233)
      clear Hrep213_232
      have Hbk218_234 := Lib.hid (Hbk218_232.out.below hb233)
      clear Hbk218_232
      have Hrep218_234 := Lib.hid (Hrep218_232.out.below hb233)
      clear Hrep218_232
      have HB234 := Lib.hid (HB232.out.trans (hb233.mono HB232.out.size))
      clear HB232
      have hz234 : v231.heap.size ≤ v233.heap.size := hb233.size
      clear hb233
      have hq7 := Hbk97_234.out.cell 10 H7.out
      obtain ⟨-, -, -, A15, k15c, hq15⟩ := cell_at HbkL15_234.out HrepL15_234.out
      rw [known4.1] at hq15
      go_wp2_with (refine step_loadbkw (T := 24) (cs := (c211.set 9 (.int .i64 (1)))) (by rfl) rfl rfl Hbk213_234.out Try.underlying24 rfl (by rw [List.length_set, HLc213.out]; kernel_rfl) ?_)
      refine (check_goes v233 (fun b => b < v211.heap.size) (c211.set 9 (.int .i64 (1))) (setLs (newF 1).1 1) Hrep213_234.out (fun b (hb : b < v211.heap.size) => by omega)).mono ?_
      rintro e v235 ⟨rfl, hb235⟩
      have Hbk97_236 := Lib.hid (Hbk97_234.out.below hb235)
      clear Hbk97_234
      have HbkL15_236 := Lib.hid (HbkL15_234.out.below hb235)
      clear HbkL15_234
      have HrepL15_236 := Lib.hid (HrepL15_234.out.below hb235)
      clear HrepL15_234
      have Hbk213_236 := Lib.hid (Hbk213_234.out.below hb235)
      clear Hbk213_234
      have Hrep213_236 := Lib.hid (Hrep213_234.out.below hb235)
      clear Hrep213_234
      have Hbk218_236 := Lib.hid (Hbk218_234.out.below hb235)
      clear Hbk218_234
      have Hrep218_236 := Lib.hid (Hrep218_234.out.below hb235)
      clear Hrep218_234
      have HB236 := Lib.hid (HB234.out.trans (hb235.mono HB234.out.size))
      clear HB234
      have hz236 : v233.heap.size ≤ v235.heap.size := hb235.size
      clear hb235
      rw [known7.1]
      go_wp2_with (refine step_loadbkw (T := 24) (cs := (cs.set 6 (.int .i64 (-1099511627775)))) (by rfl) rfl rfl Hbk218_236.out Try.underlying24 rfl (by rw [List.length_set, HLC.out]; kernel_rfl) ?_)
      refine (check_goes v235 (fun b => b < wr.heap.size) (cs.set 6 (.int .i64 (-1099511627775))) (setLw k15 (-1099511627775)) Hrep218_236.out (fun b (hb : b < wr.heap.size) => by omega)).mono ?_
      rintro e v237 ⟨rfl, hb237⟩
      have Hbk97_238 := Lib.hid (Hbk97_236.out.below hb237)
      clear Hbk97_236
      have HbkL15_238 := Lib.hid (HbkL15_236.out.below hb237)
      clear HbkL15_236
      have HrepL15_238 := Lib.hid (HrepL15_236.out.below hb237)
      clear HrepL15_236
      have Hbk213_238 := Lib.hid (Hbk213_236.out.below hb237)
      clear Hbk213_236
      have Hrep213_238 := Lib.hid (Hrep213_236.out.below hb237)
      clear Hrep213_236
      have Hbk218_238 := Lib.hid (Hbk218_236.out.below hb237)
      clear Hbk218_236
      have Hrep218_238 := Lib.hid (Hrep218_236.out.below hb237)
      clear Hrep218_236
      have HB238 := Lib.hid (HB236.out.trans (hb237.mono HB236.out.size))
      clear HB236
      have hz238 : v235.heap.size ≤ v237.heap.size := hb237.size
      clear hb237
      rw [known7.2.1]
      go_wp2_with fail
      have hrz : Rep v237 (fun b => b < v237.heap.size) JBuf [.int .i64 1, .int .i64 5, .bool false, .bool false, .int .i64 0, .int .i64 0, .int .i64 0, .int .i64 0, .int .i64 0, .int .i64 0, .slice none 0 0] (1, 5, false, false, 0, 0, 0, 0, 0, 0, [], ()) := buf_rep (hs := []) (rep_sl.2 ⟨rfl, Nat.le_refl _, by simp [maxLen], by simp, [], fun h => absurd h (by simp), RepL.nil ..⟩) (in_i64 _ (by omega)) (in_i64 _ (by omega)) zero_in zero_in zero_in zero_in zero_in zero_in
      refine (check_goes v237 (fun b => b < v237.heap.size) [.int .i64 1, .int .i64 5, .bool false, .bool false, .int .i64 0, .int .i64 0, .int .i64 0, .int .i64 0, .int .i64 0, .int .i64 0, .slice none 0 0] (1, 5, false, false, 0, 0, 0, 0, 0, 0, [], ()) hrz (fun b hb => hb)).mono ?_
      rintro e v239 ⟨rfl, hb239⟩
      have Hbk97_240 := Lib.hid (Hbk97_238.out.below hb239)
      clear Hbk97_238
      have HbkL15_240 := Lib.hid (HbkL15_238.out.below hb239)
      clear HbkL15_238
      have HrepL15_240 := Lib.hid (HrepL15_238.out.below hb239)
      clear HrepL15_238
      have Hbk213_240 := Lib.hid (Hbk213_238.out.below hb239)
      clear Hbk213_238
      have Hrep213_240 := Lib.hid (Hrep213_238.out.below hb239)
      clear Hrep213_238
      have Hbk218_240 := Lib.hid (Hbk218_238.out.below hb239)
      clear Hbk218_238
      have Hrep218_240 := Lib.hid (Hrep218_238.out.below hb239)
      clear Hrep218_238
      have HB240 := Lib.hid (HB238.out.trans (hb239.mono HB238.out.size))
      clear HB238
      have hz240 : v237.heap.size ≤ v239.heap.size := hb239.size
      clear hb239 hrz
      rw [known7.2.2.2.2]
      go_wp2_with fail
      exact HPost.out _ _ ⟨rfl, HB240.out⟩
end Go.Proofs.Ytjmohkgbfigcgaa.Sh
