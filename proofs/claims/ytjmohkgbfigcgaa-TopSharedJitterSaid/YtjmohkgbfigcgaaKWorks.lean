/- the law's chapter examples hold: works. -/
import Derived.Test.YtjmohkgbfigcgaaKTakes
import Derived.Test.YtjmohkgbfigcgaaJCalls
namespace Go.Proofs.Ytjmohkgbfigcgaa.Sh
open Go Go.RowKit
set_option linter.unusedVariables false
set_option linter.unusedSimpArgs false

theorem step_loadbkw {P : Program} {ops : Array Oper} {rest : List Oper} {o : Oper} {a : Act} {Q : Exit → Act → World → Prop} {W : World} {T TT : TypeId} {x : Operand} {n : Nat} {cs : List Value} {d : TypeDesc}
    (hw : Region.wanted o (yielded ops a.tmps) = true) (ho : o.op = .load T x) (hx : a.eval x = .pointer (some ⟨n, 0, none⟩)) (hz : Bk W n TT cs) (hu : P.underlying T = some d) (hd : d.isRow = true) (hi : (P.info? T).map (·.size) = some cs.length)
    (h : wpList P ops Q rest (a.put o.dst (.agg cs.toArray)) W) : wpList P ops Q (o :: rest) a W :=
  wpList_wanted hw fun K hK => wp_load_mid T x ho n 0 hx cs d (fun j v hv => (hz.at_ j v hv).1) hu hd hi (hK _ _ h)

theorem step_allochd {P : Program} {ops : Array Oper} {rest : List Oper} {o : Oper} {a : Act} {Q : Exit → Act → World → Prop} {w : World} {T : TypeId} {cs : List Value} {d : Nat}
    (hg : o.guard = none) (ho : o.op = .alloc T) (hd : o.dst = some d) (hz : (P.info? T).map (fun i => i.zero.map (·.cells)) = some (some cs.toArray))
    (h : ∀ w', Bk w' w.heap.size T cs → Below w.heap.size w w' → w'.heap.size = w.heap.size + 1 → Hid (wpList P ops Q rest (a.put (some d) (.pointer (some ⟨w.heap.size, 0, none⟩))) w')) : wpList P ops Q (o :: rest) a w :=
  step_alloch hg ho hz (hd ▸ h)
theorem cell8 {w : World} {S : Nat → Prop} {b : Nat} {T : TypeId} {cs : List Value} {d : JBuf.Data} (h : Bk w b T cs) (hr : Rep w S JBuf cs d) : w.cell? ⟨b, 8, none⟩ = some (.int .i64 d.2.2.2.2.2.2.2.2.1) := by
  obtain ⟨fr, now, bg, fd, sq, hg, lw, bs, jt, ls, hs, ⟨⟩⟩ := d
  obtain ⟨A, c, rfl, -⟩ := rep_buf hr
  exact h.cell 8 rfl
set_option maxRecDepth 100000 in
set_option maxHeartbeats 6400000 in
theorem works_goes (w : World) : Calls Try.prog 52 #[] w fun e w' => e = .returned (.bool true) ∧ Below w.heap.size w w' := by
  generalize hpost : (fun (e : Ending) (w' : World) => e = .returned (.bool true) ∧ Below w.heap.size w w') = post
  have HPost := Lib.hid (fun (e : Ending) (w' : World) (h : e = .returned (.bool true) ∧ Below w.heap.size w w') => show post e w' from hpost ▸ h)
  clear hpost
  go_enter Try.func52, Try.ntmps52
  go_wp2_with fail
  refine (packet_goes w 5 800 true).mono ?_
  rintro e v1 ⟨rfl, hb1⟩
  have HB2 := Lib.hid hb1
  have hz2 : w.heap.size ≤ v1.heap.size := hb1.size
  clear hb1
  have hr1 := rep_medOf v1 (fun b => b < v1.heap.size) 5 800 true (in_i64 _ (by omega)) (in_i64 _ (by omega))
  have Hrep1 := Lib.hid hr1
  clear hr1
  go_wp2_with fail
  refine (packet_goes v1 6 960 true).mono ?_
  rintro e v3 ⟨rfl, hb3⟩
  have Hrep1_4 := Lib.hid (Hrep1.out.below hb3)
  clear Hrep1
  have HB4 := Lib.hid (HB2.out.trans (hb3.mono HB2.out.size))
  clear HB2
  have hz4 : v1.heap.size ≤ v3.heap.size := hb3.size
  clear hb3
  have hr3 := rep_medOf v3 (fun b => b < v3.heap.size) 6 960 true (in_i64 _ (by omega)) (in_i64 _ (by omega))
  have Hrep3 := Lib.hid hr3
  clear hr3
  go_wp2_with (refine step_allochd (d := 1) (T := 28) (cs := medCells 0 0 false) rfl rfl rfl (by kernel_rfl) fun v5 M5 B5 Z5 => ?_)
  have hlt5 : v3.heap.size < v5.heap.size := M5.lt
  have Hrep1_6 := Lib.hid (Hrep1_4.out.below B5)
  clear Hrep1_4
  have Hrep3_6 := Lib.hid (Hrep3.out.below B5)
  clear Hrep3
  have HB6 := Lib.hid (HB4.out.trans (B5.mono HB4.out.size))
  clear HB4
  have hz6 : v3.heap.size ≤ v5.heap.size := B5.size
  have Hbk1_5 := Lib.hid M5
  clear M5 B5 Z5
  refine Lib.hid ?_
  go_wp2_with (refine step_allochd (d := 2) (T := 28) (cs := medCells 0 0 false) rfl rfl rfl (by kernel_rfl) fun v7 M7 B7 Z7 => ?_)
  have hlt7 : v5.heap.size < v7.heap.size := M7.lt
  have Hbk1_8 := Lib.hid (Hbk1_5.out.below B7)
  clear Hbk1_5
  have Hrep1_8 := Lib.hid (Hrep1_6.out.below B7)
  clear Hrep1_6
  have Hrep3_8 := Lib.hid (Hrep3_6.out.below B7)
  clear Hrep3_6
  have HB8 := Lib.hid (HB6.out.trans (B7.mono HB6.out.size))
  clear HB6
  have hz8 : v5.heap.size ≤ v7.heap.size := B7.size
  have Hbk3_7 := Lib.hid M7
  clear M7 B7 Z7
  refine Lib.hid ?_
  go_wp2_with (refine step_store (T := 28) (n := v3.heap.size) (bs := (medCells 5 800 true)) rfl rfl rfl rfl Hbk1_8.out rfl (by kernel_rfl) (Rep.one _ _ _ (rep_medOf w (fun _ => True) 5 800 true (in_i64 _ (by omega)) (in_i64 _ (by omega)))) fun v9 M9 G9 => ?_)
  have Hrep1_10 := Lib.hid (Hrep1_8.out.grown_any G9 (by omega))
  clear Hrep1_8
  have Hbk3_10 := Lib.hid (Hbk3_7.out.grown G9 (by omega))
  clear Hbk3_7
  have Hrep3_10 := Lib.hid (Hrep3_8.out.grown_any G9 (by omega))
  clear Hrep3_8
  have HB10 := Lib.hid (below_grown HB8.out G9 (by have := HB8.out.size; omega) (by omega))
  clear HB8
  have hz10 : v7.heap.size ≤ v9.heap.size := G9.size
  have Hbk1_10 := Lib.hid M9
  clear M9 Hbk1_8
  clear G9
  refine Lib.hid ?_
  go_wp2_with (refine step_store (T := 28) (n := v5.heap.size) (bs := (medCells 6 960 true)) rfl rfl rfl rfl Hbk3_10.out rfl (by kernel_rfl) (Rep.one _ _ _ (rep_medOf w (fun _ => True) 6 960 true (in_i64 _ (by omega)) (in_i64 _ (by omega)))) fun v11 M11 G11 => ?_)
  have Hbk1_12 := Lib.hid (Hbk1_10.out.grown G11 (by omega))
  clear Hbk1_10
  have Hrep1_12 := Lib.hid (Hrep1_10.out.grown_any G11 (by omega))
  clear Hrep1_10
  have Hrep3_12 := Lib.hid (Hrep3_10.out.grown_any G11 (by omega))
  clear Hrep3_10
  have HB12 := Lib.hid (below_grown HB10.out G11 (by have := HB10.out.size; omega) (by omega))
  clear HB10
  have hz12 : v9.heap.size ≤ v11.heap.size := G11.size
  have Hbk3_12 := Lib.hid M11
  clear M11 Hbk3_10
  clear G11
  refine Lib.hid ?_
  go_wp2_with fail
  refine wp_name fun a13 ha13 => ?_
  refine wp_mid (fun a2 W2 => ∃ bn cs2, v11.heap.size ≤ bn ∧ Bk W2 bn 24 cs2 ∧ Rep W2 (fun b => b < W2.heap.size) JBuf cs2 wOne ∧ Below v11.heap.size v11 W2 ∧ ∃ u27 u28 u29 : Value, a2 = ⟨((((a13.tmps.setIfInBounds 27 u27).setIfInBounds 28 u28).setIfInBounds 29 u29).setIfInBounds 3 (.pointer (some ⟨bn, 0, none⟩))), a13.defers⟩) ?_ ?_
  · intro Mi hM
    rw [ha13] at hM
    simp only [List.setIfInBounds_toArray, List.set_cons_zero, List.set_cons_succ] at hM
    have HMi := Lib.hid hM
    clear hM
    rw [ha13]
    clear ha13
    have HS0 := Lib.hid (show Below v11.heap.size v11 v11.drew from (Below.refl _ v11).drew)
    have hz0 : v11.heap.size ≤ v11.drew.heap.size := HS0.out.size
    refine wp_region_plan 4 (.read 1 (.two 0 (.two 2 (.make 3 .stop) 3 (.make 2 .stop)) 3 (.make 0 (.make 2 .stop)))) (fun u => Below v11.heap.size v11 u) (by kernel_rfl) (by kernel_rfl) HS0.out ?_
    refine plan_read (v := .agg ((medCells 5 800 true)).toArray) (by rfl) (by rfl) (fun u hu => exec_load_mid (ty := 28) (x := .tmp 1) (b := v3.heap.size) (off := 0) (cs := (medCells 5 800 true)) rfl rfl u (Hbk1_12.out.at_.frame (hu.block _ Hbk1_12.out.lt)) Try.underlying28 rfl (by kernel_rfl)) ?_
    try simp only [Act.put, List.setIfInBounds_toArray, List.set_cons_zero, List.set_cons_succ, List.getElem_toArray, List.getElem_cons_succ, List.getElem_cons_zero]
    refine ⟨?_, ?_⟩
    · refine plan_op (by rfl) (by rfl) fun K hK => ?_
      refine wp_call1 (f := 49) (x := .const (.int .i64 8)) (vx := .int .i64 8) rfl rfl rfl rfl rfl rfl (fresh_goes v11.drew 8 (in_i64 _ (by omega))) ?_
      rintro e q14 ⟨c14, rfl, hr14, hb14⟩
      have HS15 := Lib.hid (HS0.out.trans (hb14.mono HS0.out.size))
      have hz15 : v11.drew.heap.size ≤ q14.heap.size := hb14.size
      have hlc16 : c14.length = 11 := Rep.length _ _ _ hr14
      have HLc16 := Lib.hid hlc16
      clear hlc16
      have HOne16 := Lib.hid (Rep.one _ _ _ hr14)
      have Hd16 := Lib.hid (show Rep q14 (fun b => v11.drew.heap.size ≤ b ∧ b < q14.heap.size) JBuf c14 (newF 8).1 from Rep.frame _ _ _ hr14 fun b h1 h2 => ⟨rfl, h1, h2⟩)
      clear hr14
      clear hb14
      refine ⟨_, rfl, hK _ _ ⟨HS15.out, ?_⟩⟩
      clear hK K
      try simp only [Act.put, List.setIfInBounds_toArray, List.set_cons_zero, List.set_cons_succ, List.getElem_toArray, List.getElem_cons_succ, List.getElem_cons_zero]
      refine ⟨?_, ?_⟩
      · refine plan_op (by rfl) (by rfl) fun K hK => ?_
        have ra17 : Rep q14 (fun b => b < q14.heap.size) JBuf c14 (newF 8).1 := Rep.frame _ _ _ Hd16.out fun b h1 h2 => ⟨rfl, h2⟩
        have rb17 : Rep q14 (fun b => b < q14.heap.size) JMed (medCells 5 800 true) (medOf 5 800 true) := Rep.frame _ _ _ (Hrep1_12.out.below HS15.out) fun b h1 h2 => ⟨rfl, h2⟩
        refine wp_call3 (f := 48) (x := .tmp 27) (y := .const (.int .i64 100)) (z := .tmp 28) (vx := .agg (c14).toArray) (vy := .int .i64 100) (vz := .agg ((medCells 5 800 true)).toArray) rfl rfl rfl rfl rfl rfl rfl rfl (kput_goes q14 _ _ _ _ 100 _ ra17 rb17 (fun b hb => hb) (in_i64 _ (by omega))) ?_
        rintro e q17 ⟨c17, rfl, hr17, hb17⟩
        clear ra17 rb17
        have HS18 := Lib.hid (HS15.out.trans (hb17.mono HS15.out.size))
        have hz18 : q14.heap.size ≤ q17.heap.size := hb17.size
        have Hd16_18 := Lib.hid (Hd16.out.below hb17)
        have hlc19 : c17.length = 11 := Rep.length _ _ _ hr17
        have HLc19 := Lib.hid hlc19
        clear hlc19
        have HOne19 := Lib.hid (Rep.one _ _ _ hr17)
        have Hd19 := Lib.hid (show Rep q17 (fun b => q14.heap.size ≤ b ∧ b < q17.heap.size) JBuf c17 wOne from Rep.frame _ _ _ hr17 fun b h1 h2 => ⟨rfl, h1, h2⟩)
        clear hr17
        clear hb17
        refine ⟨_, rfl, hK _ _ ⟨HS18.out, ?_⟩⟩
        clear hK K
        try simp only [Act.put, List.setIfInBounds_toArray, List.set_cons_zero, List.set_cons_succ, List.getElem_toArray, List.getElem_cons_succ, List.getElem_cons_zero]
        refine plan_op (by rfl) (by rfl) fun K hK => ?_
        refine wp_allocbk (T := 24) (cs := bufCells 0) rfl (by kernel_rfl) fun q20 M20 B20 Z20 => ?_
        have hlt20 : q17.heap.size < q20.heap.size := M20.lt
        have HS21 := Lib.hid (HS18.out.trans (B20.mono HS18.out.size))
        have hz21 : q17.heap.size ≤ q20.heap.size := B20.size
        have Hd16_21 := Lib.hid (Hd16_18.out.below B20)
        have Hd19_21 := Lib.hid (Hd19.out.below B20)
        have HP20 := Lib.hid M20
        clear M20 B20 Z20
        refine hK _ _ ⟨HS21.out, ?_⟩
        clear hK K
        try simp only [Act.put, List.setIfInBounds_toArray, List.set_cons_zero, List.set_cons_succ, List.getElem_toArray, List.getElem_cons_succ, List.getElem_cons_zero]
        refine plan_stop ?_
        simp only [List.drop_succ_cons, List.drop_zero, Act.put, List.setIfInBounds_toArray, List.set_cons_zero, List.set_cons_succ, List.getElem_toArray, List.getElem_cons_succ, List.getElem_cons_zero]
        go_wp2_with (refine step_store (T := 24) (n := q17.heap.size) (bs := c17) rfl rfl rfl rfl HP20.out (by rw [HLc19.out]; rfl) (by rw [HLc19.out]; kernel_rfl) (HOne19.out) fun q22 M22 G22 => ?_)
        have HS22 := Lib.hid (below_grown HS21.out G22 (by have := HS21.out.size; omega) (by omega))
        have hz22 : q20.heap.size ≤ q22.heap.size := G22.size
        have hd22 := Hd19_21.out.grown_any G22 (by omega)
        have Hd19_22 := Lib.hid hd22
        have HP22 := Lib.hid M22
        clear hd22 M22 G22
        refine Lib.hid ?_
        go_wp2_with fail
        refine NoPanic.normal ?_
        exact ⟨rfl, HMi.out _ _ ⟨q17.heap.size, c17, by omega, HP22.out, Rep.frame _ _ _ Hd19_22.out fun b h1 h2 => ⟨rfl, h2⟩, HS22.out, _, _, _, rfl⟩⟩
      · refine plan_op (by rfl) (by rfl) fun K hK => ?_
        refine wp_allocbk (T := 24) (cs := bufCells 0) rfl (by kernel_rfl) fun q23 M23 B23 Z23 => ?_
        have hlt23 : q14.heap.size < q23.heap.size := M23.lt
        have HS24 := Lib.hid (HS15.out.trans (B23.mono HS15.out.size))
        have hz24 : q14.heap.size ≤ q23.heap.size := B23.size
        have Hd16_24 := Lib.hid (Hd16.out.below B23)
        have HP23 := Lib.hid M23
        clear M23 B23 Z23
        refine hK _ _ ⟨HS24.out, ?_⟩
        clear hK K
        try simp only [Act.put, List.setIfInBounds_toArray, List.set_cons_zero, List.set_cons_succ, List.getElem_toArray, List.getElem_cons_succ, List.getElem_cons_zero]
        refine plan_op (by rfl) (by rfl) fun K hK => ?_
        have ra25 : Rep q23 (fun b => b < q23.heap.size) JBuf c14 (newF 8).1 := Rep.frame _ _ _ Hd16_24.out fun b h1 h2 => ⟨rfl, h2⟩
        have rb25 : Rep q23 (fun b => b < q23.heap.size) JMed (medCells 5 800 true) (medOf 5 800 true) := Rep.frame _ _ _ (Hrep1_12.out.below HS24.out) fun b h1 h2 => ⟨rfl, h2⟩
        refine wp_call3 (f := 48) (x := .tmp 27) (y := .const (.int .i64 100)) (z := .tmp 28) (vx := .agg (c14).toArray) (vy := .int .i64 100) (vz := .agg ((medCells 5 800 true)).toArray) rfl rfl rfl rfl rfl rfl rfl rfl (kput_goes q23 _ _ _ _ 100 _ ra25 rb25 (fun b hb => hb) (in_i64 _ (by omega))) ?_
        rintro e q25 ⟨c25, rfl, hr25, hb25⟩
        clear ra25 rb25
        have HS26 := Lib.hid (HS24.out.trans (hb25.mono HS24.out.size))
        have hz26 : q23.heap.size ≤ q25.heap.size := hb25.size
        have Hd16_26 := Lib.hid (Hd16_24.out.below hb25)
        have HP_26 := Lib.hid (HP23.out.below hb25)
        have hlc27 : c25.length = 11 := Rep.length _ _ _ hr25
        have HLc27 := Lib.hid hlc27
        clear hlc27
        have HOne27 := Lib.hid (Rep.one _ _ _ hr25)
        have Hd27 := Lib.hid (show Rep q25 (fun b => q23.heap.size ≤ b ∧ b < q25.heap.size) JBuf c25 wOne from Rep.frame _ _ _ hr25 fun b h1 h2 => ⟨rfl, h1, h2⟩)
        clear hr25
        clear hb25
        refine ⟨_, rfl, hK _ _ ⟨HS26.out, ?_⟩⟩
        clear hK K
        try simp only [Act.put, List.setIfInBounds_toArray, List.set_cons_zero, List.set_cons_succ, List.getElem_toArray, List.getElem_cons_succ, List.getElem_cons_zero]
        refine plan_stop ?_
        simp only [List.drop_succ_cons, List.drop_zero, Act.put, List.setIfInBounds_toArray, List.set_cons_zero, List.set_cons_succ, List.getElem_toArray, List.getElem_cons_succ, List.getElem_cons_zero]
        go_wp2_with (refine step_store (T := 24) (n := q14.heap.size) (bs := c25) rfl rfl rfl rfl HP_26.out (by rw [HLc27.out]; rfl) (by rw [HLc27.out]; kernel_rfl) (HOne27.out) fun q28 M28 G28 => ?_)
        have HS28 := Lib.hid (below_grown HS26.out G28 (by have := HS26.out.size; omega) (by omega))
        have hz28 : q25.heap.size ≤ q28.heap.size := G28.size
        have hd28 := Hd27.out.grown_any G28 (by omega)
        have Hd27_28 := Lib.hid hd28
        have HP28 := Lib.hid M28
        clear hd28 M28 G28
        refine Lib.hid ?_
        go_wp2_with fail
        refine NoPanic.normal ?_
        exact ⟨rfl, HMi.out _ _ ⟨q14.heap.size, c25, by omega, HP28.out, Rep.frame _ _ _ Hd27_28.out fun b h1 h2 => ⟨rfl, h2⟩, HS28.out, _, _, _, rfl⟩⟩
    · refine plan_op (by rfl) (by rfl) fun K hK => ?_
      refine wp_allocbk (T := 24) (cs := bufCells 0) rfl (by kernel_rfl) fun q29 M29 B29 Z29 => ?_
      have hlt29 : v11.drew.heap.size < q29.heap.size := M29.lt
      have HS30 := Lib.hid (HS0.out.trans (B29.mono HS0.out.size))
      have hz30 : v11.drew.heap.size ≤ q29.heap.size := B29.size
      have HP29 := Lib.hid M29
      clear M29 B29 Z29
      refine hK _ _ ⟨HS30.out, ?_⟩
      clear hK K
      try simp only [Act.put, List.setIfInBounds_toArray, List.set_cons_zero, List.set_cons_succ, List.getElem_toArray, List.getElem_cons_succ, List.getElem_cons_zero]
      refine plan_op (by rfl) (by rfl) fun K hK => ?_
      refine wp_call1 (f := 49) (x := .const (.int .i64 8)) (vx := .int .i64 8) rfl rfl rfl rfl rfl rfl (fresh_goes q29 8 (in_i64 _ (by omega))) ?_
      rintro e q31 ⟨c31, rfl, hr31, hb31⟩
      have HS32 := Lib.hid (HS30.out.trans (hb31.mono HS30.out.size))
      have hz32 : q29.heap.size ≤ q31.heap.size := hb31.size
      have HP_32 := Lib.hid (HP29.out.below hb31)
      have hlc33 : c31.length = 11 := Rep.length _ _ _ hr31
      have HLc33 := Lib.hid hlc33
      clear hlc33
      have HOne33 := Lib.hid (Rep.one _ _ _ hr31)
      have Hd33 := Lib.hid (show Rep q31 (fun b => q29.heap.size ≤ b ∧ b < q31.heap.size) JBuf c31 (newF 8).1 from Rep.frame _ _ _ hr31 fun b h1 h2 => ⟨rfl, h1, h2⟩)
      clear hr31
      clear hb31
      refine ⟨_, rfl, hK _ _ ⟨HS32.out, ?_⟩⟩
      clear hK K
      try simp only [Act.put, List.setIfInBounds_toArray, List.set_cons_zero, List.set_cons_succ, List.getElem_toArray, List.getElem_cons_succ, List.getElem_cons_zero]
      refine plan_op (by rfl) (by rfl) fun K hK => ?_
      have ra34 : Rep q31 (fun b => b < q31.heap.size) JBuf c31 (newF 8).1 := Rep.frame _ _ _ Hd33.out fun b h1 h2 => ⟨rfl, h2⟩
      have rb34 : Rep q31 (fun b => b < q31.heap.size) JMed (medCells 5 800 true) (medOf 5 800 true) := Rep.frame _ _ _ (Hrep1_12.out.below HS32.out) fun b h1 h2 => ⟨rfl, h2⟩
      refine wp_call3 (f := 48) (x := .tmp 27) (y := .const (.int .i64 100)) (z := .tmp 28) (vx := .agg (c31).toArray) (vy := .int .i64 100) (vz := .agg ((medCells 5 800 true)).toArray) rfl rfl rfl rfl rfl rfl rfl rfl (kput_goes q31 _ _ _ _ 100 _ ra34 rb34 (fun b hb => hb) (in_i64 _ (by omega))) ?_
      rintro e q34 ⟨c34, rfl, hr34, hb34⟩
      clear ra34 rb34
      have HS35 := Lib.hid (HS32.out.trans (hb34.mono HS32.out.size))
      have hz35 : q31.heap.size ≤ q34.heap.size := hb34.size
      have Hd33_35 := Lib.hid (Hd33.out.below hb34)
      have HP_35 := Lib.hid (HP_32.out.below hb34)
      have hlc36 : c34.length = 11 := Rep.length _ _ _ hr34
      have HLc36 := Lib.hid hlc36
      clear hlc36
      have HOne36 := Lib.hid (Rep.one _ _ _ hr34)
      have Hd36 := Lib.hid (show Rep q34 (fun b => q31.heap.size ≤ b ∧ b < q34.heap.size) JBuf c34 wOne from Rep.frame _ _ _ hr34 fun b h1 h2 => ⟨rfl, h1, h2⟩)
      clear hr34
      clear hb34
      refine ⟨_, rfl, hK _ _ ⟨HS35.out, ?_⟩⟩
      clear hK K
      try simp only [Act.put, List.setIfInBounds_toArray, List.set_cons_zero, List.set_cons_succ, List.getElem_toArray, List.getElem_cons_succ, List.getElem_cons_zero]
      refine plan_stop ?_
      simp only [List.drop_succ_cons, List.drop_zero, Act.put, List.setIfInBounds_toArray, List.set_cons_zero, List.set_cons_succ, List.getElem_toArray, List.getElem_cons_succ, List.getElem_cons_zero]
      go_wp2_with (refine step_store (T := 24) (n := v11.drew.heap.size) (bs := c34) rfl rfl rfl rfl HP_35.out (by rw [HLc36.out]; rfl) (by rw [HLc36.out]; kernel_rfl) (HOne36.out) fun q37 M37 G37 => ?_)
      have HS37 := Lib.hid (below_grown HS35.out G37 (by have := HS35.out.size; omega) (by omega))
      have hz37 : q34.heap.size ≤ q37.heap.size := G37.size
      have hd37 := Hd36.out.grown_any G37 (by omega)
      have Hd36_37 := Lib.hid hd37
      have HP37 := Lib.hid M37
      clear hd37 M37 G37
      refine Lib.hid ?_
      go_wp2_with fail
      refine NoPanic.normal ?_
      exact ⟨rfl, HMi.out _ _ ⟨v11.drew.heap.size, c34, by omega, HP37.out, Rep.frame _ _ _ Hd36_37.out fun b h1 h2 => ⟨rfl, h2⟩, HS37.out, _, _, _, rfl⟩⟩
  rintro _ v13 ⟨bn13, cs13, hbn13, M13, hr13, B13, u27, u28, u29, rfl⟩
  rw [ha13]
  clear ha13
  simp only [List.setIfInBounds_toArray, List.set_cons_zero, List.set_cons_succ]
  have hlt13 : bn13 < v13.heap.size := M13.lt
  have Hbk1_38 := Lib.hid (Hbk1_12.out.below B13)
  clear Hbk1_12
  have Hrep1_38 := Lib.hid (Hrep1_12.out.below B13)
  clear Hrep1_12
  have Hbk3_38 := Lib.hid (Hbk3_12.out.below B13)
  clear Hbk3_12
  have Hrep3_38 := Lib.hid (Hrep3_12.out.below B13)
  clear Hrep3_12
  have HB38 := Lib.hid (HB12.out.trans (B13.mono HB12.out.size))
  clear HB12
  have hz38 : v11.heap.size ≤ v13.heap.size := B13.size
  have hlc39 : cs13.length = 11 := Rep.length _ _ _ hr13
  have HLc39 := Lib.hid hlc39
  clear hlc39
  have HOne39 := Lib.hid (Rep.one _ _ _ hr13)
  have Hrep39 := Lib.hid (show Rep v13 (fun b => b < v13.heap.size) JBuf cs13 wOne from Rep.frame _ _ _ hr13 fun b h1 h2 => ⟨rfl, h2⟩)
  clear hr13
  have Hbk39_0 := Lib.hid M13
  clear M13 B13
  go_wp2_with (refine step_loadbkw (T := 24) (cs := cs13) (by rfl) rfl rfl Hbk39_0.out Try.underlying24 rfl (by rw [HLc39.out]; kernel_rfl) ?_)
  refine (take_goesD v13 (fun b => b < v13.heap.size) cs13 wOne 109 Hrep39.out (fun b (hb : b < v13.heap.size) => by omega) (in_i64 _ (by omega))).mono ?_
  rintro e v40 ⟨c40, A40, k40, rfl, hr40, -, hb40⟩
  have Hbk1_41 := Lib.hid (Hbk1_38.out.below hb40)
  clear Hbk1_38
  have Hrep1_41 := Lib.hid (Hrep1_38.out.below hb40)
  clear Hrep1_38
  have Hbk3_41 := Lib.hid (Hbk3_38.out.below hb40)
  clear Hbk3_38
  have Hrep3_41 := Lib.hid (Hrep3_38.out.below hb40)
  clear Hrep3_38
  have Hbk39_41 := Lib.hid (Hbk39_0.out.below hb40)
  clear Hbk39_0
  have Hrep39_41 := Lib.hid (Hrep39.out.below hb40)
  clear Hrep39
  have HB41 := Lib.hid (HB38.out.trans (hb40.mono HB38.out.size))
  clear HB38
  have hz41 : v13.heap.size ≤ v40.heap.size := hb40.size
  clear hb40
  have hlc42 : c40.length = 11 := Rep.length _ _ _ hr40
  have HLc42 := Lib.hid hlc42
  clear hlc42
  have HOne42 := Lib.hid (Rep.one _ _ _ hr40)
  have Hrep42 := Lib.hid (show Rep v40 (fun b => b < v40.heap.size) JBuf c40 (takeF wOne 109).1 from Rep.frame _ _ _ hr40 fun b h1 h2 => ⟨rfl, h2⟩)
  clear hr40
  rw [works_facts1.1]
  go_wp2_with (refine step_newv (T := 24) (V := .agg c40.toArray) (bs := c40) rfl rfl rfl rfl rfl (by first | (simp; done) | decide) rfl rfl (by rw [HLc42.out]; kernel_rfl) (by rw [HLc42.out]; kernel_rfl) (HOne42.out) fun v43 M43 B43 Z43 => ?_)
  have hlt43 : v40.heap.size < v43.heap.size := M43.lt
  have Hbk1_44 := Lib.hid (Hbk1_41.out.below B43)
  clear Hbk1_41
  have Hrep1_44 := Lib.hid (Hrep1_41.out.below B43)
  clear Hrep1_41
  have Hbk3_44 := Lib.hid (Hbk3_41.out.below B43)
  clear Hbk3_41
  have Hrep3_44 := Lib.hid (Hrep3_41.out.below B43)
  clear Hrep3_41
  have Hbk39_44 := Lib.hid (Hbk39_41.out.below B43)
  clear Hbk39_41
  have Hrep39_44 := Lib.hid (Hrep39_41.out.below B43)
  clear Hrep39_41
  have Hrep42_44 := Lib.hid (Hrep42.out.below B43)
  clear Hrep42
  have HB44 := Lib.hid (HB41.out.trans (B43.mono HB41.out.size))
  clear HB41
  have hz44 : v40.heap.size ≤ v43.heap.size := B43.size
  have Hbk42_43 := Lib.hid M43
  clear M43 B43 Z43
  refine Lib.hid ?_
  go_wp2_with (refine step_loadbkw (T := 24) (cs := cs13) (by rfl) rfl rfl Hbk39_44.out Try.underlying24 rfl (by rw [HLc39.out]; kernel_rfl) ?_)
  have b45 : Below v43.heap.size v43 (v43.alloc (.cells #[.int .i64 5] 3)) := (Below.refl _ v43).alloc (Nat.le_refl _) _
  have M45 := Bk.new v43 3 [.int .i64 5]
  generalize (v43.alloc (.cells #[.int .i64 5] 3)) = v45 at b45 M45 ⊢
  have hlt45 : v43.heap.size < v45.heap.size := M45.lt
  have Hbk1_46 := Lib.hid (Hbk1_44.out.below b45)
  clear Hbk1_44
  have Hrep1_46 := Lib.hid (Hrep1_44.out.below b45)
  clear Hrep1_44
  have Hbk3_46 := Lib.hid (Hbk3_44.out.below b45)
  clear Hbk3_44
  have Hrep3_46 := Lib.hid (Hrep3_44.out.below b45)
  clear Hrep3_44
  have Hbk39_46 := Lib.hid (Hbk39_44.out.below b45)
  clear Hbk39_44
  have Hrep39_46 := Lib.hid (Hrep39_44.out.below b45)
  clear Hrep39_44
  have Hbk42_46 := Lib.hid (Hbk42_43.out.below b45)
  clear Hbk42_43
  have Hrep42_46 := Lib.hid (Hrep42_44.out.below b45)
  clear Hrep42_44
  have HB46 := Lib.hid (HB44.out.trans (b45.mono HB44.out.size))
  clear HB44
  have hz46 : v43.heap.size ≤ v45.heap.size := b45.size
  have HN45 := Lib.hid M45
  clear b45 M45
  refine (ktakes v45 (fun b => b < v13.heap.size) cs13 wOne 110 6 0 true (some ⟨v43.heap.size, 0, none⟩) 1 1 [5] Hrep39_46.out (fun b (hb : b < v13.heap.size) => by omega) (in_i64 _ (by omega)) works_facts1.2.1 works_facts1.2.2.1 works_facts1.2.2.2.1 works_facts1.2.2.2.2.1 works_facts1.2.2.2.2.2 rfl (fun _ => ⟨_, rfl, HN45.out.lt, fun i hi => by obtain rfl : i = 0 := (by simp at hi; omega); exact HN45.out.cell 0 rfl⟩)).mono ?_
  rintro e v47 ⟨c47, rfl, hr47, hb47⟩
  have Hbk1_48 := Lib.hid (Hbk1_46.out.below hb47)
  clear Hbk1_46
  have Hrep1_48 := Lib.hid (Hrep1_46.out.below hb47)
  clear Hrep1_46
  have Hbk3_48 := Lib.hid (Hbk3_46.out.below hb47)
  clear Hbk3_46
  have Hrep3_48 := Lib.hid (Hrep3_46.out.below hb47)
  clear Hrep3_46
  have Hbk39_48 := Lib.hid (Hbk39_46.out.below hb47)
  clear Hbk39_46
  have Hrep39_48 := Lib.hid (Hrep39_46.out.below hb47)
  clear Hrep39_46
  have Hbk42_48 := Lib.hid (Hbk42_46.out.below hb47)
  clear Hbk42_46
  have Hrep42_48 := Lib.hid (Hrep42_46.out.below hb47)
  clear Hrep42_46
  have HB48 := Lib.hid (HB46.out.trans (hb47.mono HB46.out.size))
  clear HB46
  have hz48 : v45.heap.size ≤ v47.heap.size := hb47.size
  clear hb47
  have hlc49 : c47.length = 11 := Rep.length _ _ _ hr47
  have HLc49 := Lib.hid hlc49
  clear hlc49
  have HOne49 := Lib.hid (Rep.one _ _ _ hr47)
  have Hrep49 := Lib.hid (show Rep v47 (fun b => b < v47.heap.size) JBuf c47 wTwo from Rep.frame _ _ _ hr47 fun b h1 h2 => ⟨rfl, h2⟩)
  clear hr47
  go_wp2_with (refine step_newv (T := 24) (V := .agg c47.toArray) (bs := c47) rfl rfl rfl rfl rfl (by first | (simp; done) | decide) rfl rfl (by rw [HLc49.out]; kernel_rfl) (by rw [HLc49.out]; kernel_rfl) (HOne49.out) fun v50 M50 B50 Z50 => ?_)
  have hlt50 : v47.heap.size < v50.heap.size := M50.lt
  have Hbk1_51 := Lib.hid (Hbk1_48.out.below B50)
  clear Hbk1_48
  have Hrep1_51 := Lib.hid (Hrep1_48.out.below B50)
  clear Hrep1_48
  have Hbk3_51 := Lib.hid (Hbk3_48.out.below B50)
  clear Hbk3_48
  have Hrep3_51 := Lib.hid (Hrep3_48.out.below B50)
  clear Hrep3_48
  have Hbk39_51 := Lib.hid (Hbk39_48.out.below B50)
  clear Hbk39_48
  have Hrep39_51 := Lib.hid (Hrep39_48.out.below B50)
  clear Hrep39_48
  have Hbk42_51 := Lib.hid (Hbk42_48.out.below B50)
  clear Hbk42_48
  have Hrep42_51 := Lib.hid (Hrep42_48.out.below B50)
  clear Hrep42_48
  have Hrep49_51 := Lib.hid (Hrep49.out.below B50)
  clear Hrep49
  have HB51 := Lib.hid (HB48.out.trans (B50.mono HB48.out.size))
  clear HB48
  have hz51 : v47.heap.size ≤ v50.heap.size := B50.size
  have Hbk49_50 := Lib.hid M50
  clear M50 B50 Z50
  refine Lib.hid ?_
  go_wp2_with (first
    | refine step_loadbkw (T := 24) (cs := c47) (by rfl) rfl rfl Hbk49_50.out Try.underlying24 rfl (by rw [HLc49.out]; kernel_rfl) ?_
    | refine step_loadbkw (T := 28) (cs := (medCells 6 960 true)) (by rfl) rfl rfl Hbk3_51.out Try.underlying28 rfl (by kernel_rfl) ?_
    )
  have ra52 : Rep v50 (fun b => b < v50.heap.size) JBuf c47 wTwo := Rep.frame _ _ _ Hrep49_51.out fun b h1 h2 => ⟨rfl, h2⟩
  have rb52 : Rep v50 (fun b => b < v50.heap.size) JMed (medCells 6 960 true) (medOf 6 960 true) := Rep.frame _ _ _ Hrep3_51.out fun b h1 h2 => ⟨rfl, h2⟩
  refine (kput_goes v50 _ _ _ _ 125 _ ra52 rb52 (fun b hb => hb) (in_i64 _ (by omega))).mono ?_
  rintro e v52 ⟨c52, rfl, hr52, hb52⟩
  clear ra52 rb52
  have Hbk1_53 := Lib.hid (Hbk1_51.out.below hb52)
  clear Hbk1_51
  have Hrep1_53 := Lib.hid (Hrep1_51.out.below hb52)
  clear Hrep1_51
  have Hbk3_53 := Lib.hid (Hbk3_51.out.below hb52)
  clear Hbk3_51
  have Hrep3_53 := Lib.hid (Hrep3_51.out.below hb52)
  clear Hrep3_51
  have Hbk39_53 := Lib.hid (Hbk39_51.out.below hb52)
  clear Hbk39_51
  have Hrep39_53 := Lib.hid (Hrep39_51.out.below hb52)
  clear Hrep39_51
  have Hbk42_53 := Lib.hid (Hbk42_51.out.below hb52)
  clear Hbk42_51
  have Hrep42_53 := Lib.hid (Hrep42_51.out.below hb52)
  clear Hrep42_51
  have Hbk49_53 := Lib.hid (Hbk49_50.out.below hb52)
  clear Hbk49_50
  have Hrep49_53 := Lib.hid (Hrep49_51.out.below hb52)
  clear Hrep49_51
  have HB53 := Lib.hid (HB51.out.trans (hb52.mono HB51.out.size))
  clear HB51
  have hz53 : v50.heap.size ≤ v52.heap.size := hb52.size
  clear hb52
  have hlc54 : c52.length = 11 := Rep.length _ _ _ hr52
  have HLc54 := Lib.hid hlc54
  clear hlc54
  have HOne54 := Lib.hid (Rep.one _ _ _ hr52)
  have Hrep54 := Lib.hid (show Rep v52 (fun b => b < v52.heap.size) JBuf c52 wThree from Rep.frame _ _ _ hr52 fun b h1 h2 => ⟨rfl, h2⟩)
  clear hr52
  go_wp2_with (refine step_newv (T := 24) (V := .agg c52.toArray) (bs := c52) rfl rfl rfl rfl rfl (by first | (simp; done) | decide) rfl rfl (by rw [HLc54.out]; kernel_rfl) (by rw [HLc54.out]; kernel_rfl) (HOne54.out) fun v55 M55 B55 Z55 => ?_)
  have hlt55 : v52.heap.size < v55.heap.size := M55.lt
  have Hbk1_56 := Lib.hid (Hbk1_53.out.below B55)
  clear Hbk1_53
  have Hrep1_56 := Lib.hid (Hrep1_53.out.below B55)
  clear Hrep1_53
  have Hbk3_56 := Lib.hid (Hbk3_53.out.below B55)
  clear Hbk3_53
  have Hrep3_56 := Lib.hid (Hrep3_53.out.below B55)
  clear Hrep3_53
  have Hbk39_56 := Lib.hid (Hbk39_53.out.below B55)
  clear Hbk39_53
  have Hrep39_56 := Lib.hid (Hrep39_53.out.below B55)
  clear Hrep39_53
  have Hbk42_56 := Lib.hid (Hbk42_53.out.below B55)
  clear Hbk42_53
  have Hrep42_56 := Lib.hid (Hrep42_53.out.below B55)
  clear Hrep42_53
  have Hbk49_56 := Lib.hid (Hbk49_53.out.below B55)
  clear Hbk49_53
  have Hrep49_56 := Lib.hid (Hrep49_53.out.below B55)
  clear Hrep49_53
  have Hrep54_56 := Lib.hid (Hrep54.out.below B55)
  clear Hrep54
  have HB56 := Lib.hid (HB53.out.trans (B55.mono HB53.out.size))
  clear HB53
  have hz56 : v52.heap.size ≤ v55.heap.size := B55.size
  have Hbk54_55 := Lib.hid M55
  clear M55 B55 Z55
  refine Lib.hid ?_
  go_wp2_with (first
    | refine step_loadbkw (T := 24) (cs := cs13) (by rfl) rfl rfl Hbk39_56.out Try.underlying24 rfl (by rw [HLc39.out]; kernel_rfl) ?_
    | refine step_loadbkw (T := 28) (cs := (medCells 5 800 true)) (by rfl) rfl rfl Hbk1_56.out Try.underlying28 rfl (by kernel_rfl) ?_
    )
  have ra57 : Rep v55 (fun b => b < v55.heap.size) JBuf cs13 wOne := Rep.frame _ _ _ Hrep39_56.out fun b h1 h2 => ⟨rfl, h2⟩
  have rb57 : Rep v55 (fun b => b < v55.heap.size) JMed (medCells 5 800 true) (medOf 5 800 true) := Rep.frame _ _ _ Hrep1_56.out fun b h1 h2 => ⟨rfl, h2⟩
  refine (put_goesD v55 _ _ _ _ 120 _ ra57 rb57 (fun b hb => hb) (in_i64 _ (by omega))).mono ?_
  rintro e v57 ⟨c57, rfl, hr57, hb57⟩
  clear ra57 rb57
  have Hbk1_58 := Lib.hid (Hbk1_56.out.below hb57)
  clear Hbk1_56
  have Hrep1_58 := Lib.hid (Hrep1_56.out.below hb57)
  clear Hrep1_56
  have Hbk3_58 := Lib.hid (Hbk3_56.out.below hb57)
  clear Hbk3_56
  have Hrep3_58 := Lib.hid (Hrep3_56.out.below hb57)
  clear Hrep3_56
  have Hbk39_58 := Lib.hid (Hbk39_56.out.below hb57)
  clear Hbk39_56
  have Hrep39_58 := Lib.hid (Hrep39_56.out.below hb57)
  clear Hrep39_56
  have Hbk42_58 := Lib.hid (Hbk42_56.out.below hb57)
  clear Hbk42_56
  have Hrep42_58 := Lib.hid (Hrep42_56.out.below hb57)
  clear Hrep42_56
  have Hbk49_58 := Lib.hid (Hbk49_56.out.below hb57)
  clear Hbk49_56
  have Hrep49_58 := Lib.hid (Hrep49_56.out.below hb57)
  clear Hrep49_56
  have Hbk54_58 := Lib.hid (Hbk54_55.out.below hb57)
  clear Hbk54_55
  have Hrep54_58 := Lib.hid (Hrep54_56.out.below hb57)
  clear Hrep54_56
  have HB58 := Lib.hid (HB56.out.trans (hb57.mono HB56.out.size))
  clear HB56
  have hz58 : v55.heap.size ≤ v57.heap.size := hb57.size
  clear hb57
  rw [show (putF wOne 120 (medOf 5 800 true)).2 = 10 from works_facts2.1]
  have hlc59 : c57.length = 11 := Rep.length _ _ _ hr57
  have HLc59 := Lib.hid hlc59
  clear hlc59
  have HOne59 := Lib.hid (Rep.one _ _ _ hr57)
  have Hrep59 := Lib.hid (show Rep v57 (fun b => b < v57.heap.size) JBuf c57 (putF wOne 120 (medOf 5 800 true)).1 from Rep.frame _ _ _ hr57 fun b h1 h2 => ⟨rfl, h2⟩)
  clear hr57
  go_wp2_with (refine step_newv (T := 24) (V := .agg c57.toArray) (bs := c57) rfl rfl rfl rfl rfl (by first | (simp; done) | decide) rfl rfl (by rw [HLc59.out]; kernel_rfl) (by rw [HLc59.out]; kernel_rfl) (HOne59.out) fun v60 M60 B60 Z60 => ?_)
  have hlt60 : v57.heap.size < v60.heap.size := M60.lt
  have Hbk1_61 := Lib.hid (Hbk1_58.out.below B60)
  clear Hbk1_58
  have Hrep1_61 := Lib.hid (Hrep1_58.out.below B60)
  clear Hrep1_58
  have Hbk3_61 := Lib.hid (Hbk3_58.out.below B60)
  clear Hbk3_58
  have Hrep3_61 := Lib.hid (Hrep3_58.out.below B60)
  clear Hrep3_58
  have Hbk39_61 := Lib.hid (Hbk39_58.out.below B60)
  clear Hbk39_58
  have Hrep39_61 := Lib.hid (Hrep39_58.out.below B60)
  clear Hrep39_58
  have Hbk42_61 := Lib.hid (Hbk42_58.out.below B60)
  clear Hbk42_58
  have Hrep42_61 := Lib.hid (Hrep42_58.out.below B60)
  clear Hrep42_58
  have Hbk49_61 := Lib.hid (Hbk49_58.out.below B60)
  clear Hbk49_58
  have Hrep49_61 := Lib.hid (Hrep49_58.out.below B60)
  clear Hrep49_58
  have Hbk54_61 := Lib.hid (Hbk54_58.out.below B60)
  clear Hbk54_58
  have Hrep54_61 := Lib.hid (Hrep54_58.out.below B60)
  clear Hrep54_58
  have Hrep59_61 := Lib.hid (Hrep59.out.below B60)
  clear Hrep59
  have HB61 := Lib.hid (HB58.out.trans (B60.mono HB58.out.size))
  clear HB58
  have hz61 : v57.heap.size ≤ v60.heap.size := B60.size
  have Hbk59_60 := Lib.hid M60
  clear M60 B60 Z60
  refine Lib.hid ?_
  go_wp2_with fail
  refine wp_name fun a62 ha62 => ?_
  refine wp_mid (fun a2 W2 => ∃ bn cs2, v60.heap.size ≤ bn ∧ Bk W2 bn 24 cs2 ∧ Rep W2 (fun b => b < W2.heap.size) JBuf cs2 (putF wOne 100 (medOf 4 800 true)).1 ∧ Below v60.heap.size v60 W2 ∧ ∃ u52 u53 u54 u51 u55 u56 : Value, a2 = ⟨((((((((a62.tmps.setIfInBounds 52 u52).setIfInBounds 53 u53).setIfInBounds 54 u54).setIfInBounds 51 u51).setIfInBounds 55 u55).setIfInBounds 56 u56).setIfInBounds 12 (.pointer (some ⟨bn, 0, none⟩))).setIfInBounds 13 (.int .i64 10)), a62.defers⟩) ?_ ?_
  · intro Mi hM
    rw [ha62] at hM
    simp only [List.setIfInBounds_toArray, List.set_cons_zero, List.set_cons_succ] at hM
    have HMi := Lib.hid hM
    clear hM
    rw [ha62]
    clear ha62
    have HS0 := Lib.hid (show Below v60.heap.size v60 v60.drew from (Below.refl _ v60).drew)
    have hz0 : v60.heap.size ≤ v60.drew.heap.size := HS0.out.size
    refine wp_region_plan 8 (.read 0 (.two 1 (.two 2 (.read 3 (.read 4 (.read 5 (.make 6 (.make 7 .stop))))) 6 (.make 2 (.read 3 (.read 4 (.read 5 (.make 7 .stop)))))) 6 (.make 1 (.make 2 (.read 3 (.read 4 (.read 5 (.make 7 .stop)))))))) (fun u => Below v60.heap.size v60 u) (by kernel_rfl) (by kernel_rfl) HS0.out ?_
    refine plan_read (v := .agg (cs13).toArray) (by rfl) (by rfl) (fun u hu => exec_load_mid (ty := 24) (x := .tmp 3) (b := bn13) (off := 0) (cs := cs13) rfl rfl u (Hbk39_61.out.at_.frame (hu.block _ Hbk39_61.out.lt)) Try.underlying24 rfl (by rw [HLc39.out]; kernel_rfl)) ?_
    try simp only [Act.put, List.setIfInBounds_toArray, List.set_cons_zero, List.set_cons_succ, List.getElem_toArray, List.getElem_cons_succ, List.getElem_cons_zero]
    refine ⟨?_, ?_⟩
    · refine plan_op (by rfl) (by rfl) fun K hK => ?_
      refine wp_call3 (f := 50) (x := .const (.int .i64 4)) (y := .const (.int .i64 800)) (z := .const (.bool true)) (vx := .int .i64 4) (vy := .int .i64 800) (vz := .bool true) rfl rfl rfl rfl rfl rfl rfl rfl (packet_goes v60.drew 4 800 true) ?_
      rintro e q63 ⟨rfl, hb63⟩
      have HS64 := Lib.hid (HS0.out.trans (hb63.mono HS0.out.size))
      have hz64 : v60.drew.heap.size ≤ q63.heap.size := hb63.size
      have hm63 := rep_medOf q63 (fun b => b < q63.heap.size) 4 800 true (in_i64 _ (by omega)) (in_i64 _ (by omega))
      have Hd63 := Lib.hid hm63
      clear hm63 hb63
      refine ⟨_, rfl, hK _ _ ⟨HS64.out, ?_⟩⟩
      clear hK K
      try simp only [Act.put, List.setIfInBounds_toArray, List.set_cons_zero, List.set_cons_succ, List.getElem_toArray, List.getElem_cons_succ, List.getElem_cons_zero]
      refine ⟨?_, ?_⟩
      · refine plan_op (by rfl) (by rfl) fun K hK => ?_
        have ra65 : Rep q63 (fun b => b < q63.heap.size) JBuf cs13 wOne := Rep.frame _ _ _ (Hrep39_61.out.below HS64.out) fun b h1 h2 => ⟨rfl, h2⟩
        have rb65 : Rep q63 (fun b => b < q63.heap.size) JMed (medCells 4 800 true) (medOf 4 800 true) := Rep.frame _ _ _ Hd63.out fun b h1 h2 => ⟨rfl, h2⟩
        refine wp_call3 (f := 14) (x := .tmp 52) (y := .const (.int .i64 100)) (z := .tmp 53) (vx := .agg (cs13).toArray) (vy := .int .i64 100) (vz := .agg ((medCells 4 800 true)).toArray) rfl rfl rfl rfl rfl rfl rfl rfl (put_goesD q63 _ _ _ _ 100 _ ra65 rb65 (fun b hb => hb) (in_i64 _ (by omega))) ?_
        rintro e q65 ⟨c65, rfl, hr65, hb65⟩
        clear ra65 rb65
        rw [show (putF wOne 100 (medOf 4 800 true)).2 = 10 from works_facts2.2.1]
        have HS66 := Lib.hid (HS64.out.trans (hb65.mono HS64.out.size))
        have hz66 : q63.heap.size ≤ q65.heap.size := hb65.size
        have Hd63_66 := Lib.hid (Hd63.out.below hb65)
        have hlc67 : c65.length = 11 := Rep.length _ _ _ hr65
        have HLc67 := Lib.hid hlc67
        clear hlc67
        have HOne67 := Lib.hid (Rep.one _ _ _ hr65)
        have Hd67 := Lib.hid (show Rep q65 (fun b => q63.heap.size ≤ b ∧ b < q65.heap.size) JBuf c65 (putF wOne 100 (medOf 4 800 true)).1 from Rep.frame _ _ _ hr65 fun b h1 h2 => ⟨rfl, h1, h2⟩)
        clear hr65
        clear hb65
        refine ⟨_, rfl, hK _ _ ⟨HS66.out, ?_⟩⟩
        clear hK K
        try simp only [Act.put, List.setIfInBounds_toArray, List.set_cons_zero, List.set_cons_succ, List.getElem_toArray, List.getElem_cons_succ, List.getElem_cons_zero]
        refine plan_read (by rfl) (by rfl) (fun u hu => by (clear hu; go_simp; try rfl)) ?_
        try simp only [Act.put, List.setIfInBounds_toArray, List.set_cons_zero, List.set_cons_succ, List.getElem_toArray, List.getElem_cons_succ, List.getElem_cons_zero]
        refine plan_read (by rfl) (by rfl) (fun u hu => by (clear hu; go_simp; try rfl)) ?_
        try simp only [Act.put, List.setIfInBounds_toArray, List.set_cons_zero, List.set_cons_succ, List.getElem_toArray, List.getElem_cons_succ, List.getElem_cons_zero]
        refine plan_read (by rfl) (by rfl) (fun u hu => by (clear hu; go_simp; try rfl)) ?_
        try simp only [Act.put, List.setIfInBounds_toArray, List.set_cons_zero, List.set_cons_succ, List.getElem_toArray, List.getElem_cons_succ, List.getElem_cons_zero]
        refine plan_op (by rfl) (by rfl) fun K hK => ?_
        refine wp_allocbk (T := 24) (cs := bufCells 0) rfl (by kernel_rfl) fun q68 M68 B68 Z68 => ?_
        have hlt68 : q65.heap.size < q68.heap.size := M68.lt
        have HS69 := Lib.hid (HS66.out.trans (B68.mono HS66.out.size))
        have hz69 : q65.heap.size ≤ q68.heap.size := B68.size
        have Hd63_69 := Lib.hid (Hd63_66.out.below B68)
        have Hd67_69 := Lib.hid (Hd67.out.below B68)
        have HP68 := Lib.hid M68
        clear M68 B68 Z68
        refine hK _ _ ⟨HS69.out, ?_⟩
        clear hK K
        try simp only [Act.put, List.setIfInBounds_toArray, List.set_cons_zero, List.set_cons_succ, List.getElem_toArray, List.getElem_cons_succ, List.getElem_cons_zero]
        refine plan_op (by rfl) (by rfl) fun K hK => ?_
        refine wp_storebk (T := 24) (x := .tmp 12) (y := .tmp 55) (n := q65.heap.size) (bs := c65) rfl rfl rfl HP68.out (by rw [HLc67.out]; rfl) (by rw [HLc67.out]; kernel_rfl) (HOne67.out) fun q70 M70 G70 => ?_
        have HS70 := Lib.hid (below_grown HS69.out G70 (by have := HS69.out.size; omega) (by omega))
        have hz70 : q68.heap.size ≤ q70.heap.size := G70.size
        have hd70 := Hd67_69.out.grown_any G70 (by omega)
        have Hd67_70 := Lib.hid hd70
        have HP70 := Lib.hid M70
        clear hd70 M70 G70
        refine hK _ _ ⟨HS70.out, ?_⟩
        clear hK K
        try simp only [Act.put, List.setIfInBounds_toArray, List.set_cons_zero, List.set_cons_succ, List.getElem_toArray, List.getElem_cons_succ, List.getElem_cons_zero]
        refine plan_stop ?_
        simp only [List.drop_succ_cons, List.drop_zero, Act.put, List.setIfInBounds_toArray, List.set_cons_zero, List.set_cons_succ, List.getElem_toArray, List.getElem_cons_succ, List.getElem_cons_zero]
        go_wp2_with fail
        refine NoPanic.normal ?_
        exact ⟨rfl, HMi.out _ _ ⟨q65.heap.size, c65, by omega, HP70.out, Rep.frame _ _ _ Hd67_70.out fun b h1 h2 => ⟨rfl, h2⟩, HS70.out, _, _, _, _, _, _, rfl⟩⟩
      · refine plan_op (by rfl) (by rfl) fun K hK => ?_
        refine wp_allocbk (T := 24) (cs := bufCells 0) rfl (by kernel_rfl) fun q71 M71 B71 Z71 => ?_
        have hlt71 : q63.heap.size < q71.heap.size := M71.lt
        have HS72 := Lib.hid (HS64.out.trans (B71.mono HS64.out.size))
        have hz72 : q63.heap.size ≤ q71.heap.size := B71.size
        have Hd63_72 := Lib.hid (Hd63.out.below B71)
        have HP71 := Lib.hid M71
        clear M71 B71 Z71
        refine hK _ _ ⟨HS72.out, ?_⟩
        clear hK K
        try simp only [Act.put, List.setIfInBounds_toArray, List.set_cons_zero, List.set_cons_succ, List.getElem_toArray, List.getElem_cons_succ, List.getElem_cons_zero]
        refine plan_op (by rfl) (by rfl) fun K hK => ?_
        have ra73 : Rep q71 (fun b => b < q71.heap.size) JBuf cs13 wOne := Rep.frame _ _ _ (Hrep39_61.out.below HS72.out) fun b h1 h2 => ⟨rfl, h2⟩
        have rb73 : Rep q71 (fun b => b < q71.heap.size) JMed (medCells 4 800 true) (medOf 4 800 true) := Rep.frame _ _ _ Hd63_72.out fun b h1 h2 => ⟨rfl, h2⟩
        refine wp_call3 (f := 14) (x := .tmp 52) (y := .const (.int .i64 100)) (z := .tmp 53) (vx := .agg (cs13).toArray) (vy := .int .i64 100) (vz := .agg ((medCells 4 800 true)).toArray) rfl rfl rfl rfl rfl rfl rfl rfl (put_goesD q71 _ _ _ _ 100 _ ra73 rb73 (fun b hb => hb) (in_i64 _ (by omega))) ?_
        rintro e q73 ⟨c73, rfl, hr73, hb73⟩
        clear ra73 rb73
        rw [show (putF wOne 100 (medOf 4 800 true)).2 = 10 from works_facts2.2.1]
        have HS74 := Lib.hid (HS72.out.trans (hb73.mono HS72.out.size))
        have hz74 : q71.heap.size ≤ q73.heap.size := hb73.size
        have Hd63_74 := Lib.hid (Hd63_72.out.below hb73)
        have HP_74 := Lib.hid (HP71.out.below hb73)
        have hlc75 : c73.length = 11 := Rep.length _ _ _ hr73
        have HLc75 := Lib.hid hlc75
        clear hlc75
        have HOne75 := Lib.hid (Rep.one _ _ _ hr73)
        have Hd75 := Lib.hid (show Rep q73 (fun b => q71.heap.size ≤ b ∧ b < q73.heap.size) JBuf c73 (putF wOne 100 (medOf 4 800 true)).1 from Rep.frame _ _ _ hr73 fun b h1 h2 => ⟨rfl, h1, h2⟩)
        clear hr73
        clear hb73
        refine ⟨_, rfl, hK _ _ ⟨HS74.out, ?_⟩⟩
        clear hK K
        try simp only [Act.put, List.setIfInBounds_toArray, List.set_cons_zero, List.set_cons_succ, List.getElem_toArray, List.getElem_cons_succ, List.getElem_cons_zero]
        refine plan_read (by rfl) (by rfl) (fun u hu => by (clear hu; go_simp; try rfl)) ?_
        try simp only [Act.put, List.setIfInBounds_toArray, List.set_cons_zero, List.set_cons_succ, List.getElem_toArray, List.getElem_cons_succ, List.getElem_cons_zero]
        refine plan_read (by rfl) (by rfl) (fun u hu => by (clear hu; go_simp; try rfl)) ?_
        try simp only [Act.put, List.setIfInBounds_toArray, List.set_cons_zero, List.set_cons_succ, List.getElem_toArray, List.getElem_cons_succ, List.getElem_cons_zero]
        refine plan_read (by rfl) (by rfl) (fun u hu => by (clear hu; go_simp; try rfl)) ?_
        try simp only [Act.put, List.setIfInBounds_toArray, List.set_cons_zero, List.set_cons_succ, List.getElem_toArray, List.getElem_cons_succ, List.getElem_cons_zero]
        refine plan_op (by rfl) (by rfl) fun K hK => ?_
        refine wp_storebk (T := 24) (x := .tmp 12) (y := .tmp 55) (n := q63.heap.size) (bs := c73) rfl rfl rfl HP_74.out (by rw [HLc75.out]; rfl) (by rw [HLc75.out]; kernel_rfl) (HOne75.out) fun q76 M76 G76 => ?_
        have HS76 := Lib.hid (below_grown HS74.out G76 (by have := HS74.out.size; omega) (by omega))
        have hz76 : q73.heap.size ≤ q76.heap.size := G76.size
        have hd76 := Hd75.out.grown_any G76 (by omega)
        have Hd75_76 := Lib.hid hd76
        have HP76 := Lib.hid M76
        clear hd76 M76 G76
        refine hK _ _ ⟨HS76.out, ?_⟩
        clear hK K
        try simp only [Act.put, List.setIfInBounds_toArray, List.set_cons_zero, List.set_cons_succ, List.getElem_toArray, List.getElem_cons_succ, List.getElem_cons_zero]
        refine plan_stop ?_
        simp only [List.drop_succ_cons, List.drop_zero, Act.put, List.setIfInBounds_toArray, List.set_cons_zero, List.set_cons_succ, List.getElem_toArray, List.getElem_cons_succ, List.getElem_cons_zero]
        go_wp2_with fail
        refine NoPanic.normal ?_
        exact ⟨rfl, HMi.out _ _ ⟨q63.heap.size, c73, by omega, HP76.out, Rep.frame _ _ _ Hd75_76.out fun b h1 h2 => ⟨rfl, h2⟩, HS76.out, _, _, _, _, _, _, rfl⟩⟩
    · refine plan_op (by rfl) (by rfl) fun K hK => ?_
      refine wp_allocbk (T := 24) (cs := bufCells 0) rfl (by kernel_rfl) fun q77 M77 B77 Z77 => ?_
      have hlt77 : v60.drew.heap.size < q77.heap.size := M77.lt
      have HS78 := Lib.hid (HS0.out.trans (B77.mono HS0.out.size))
      have hz78 : v60.drew.heap.size ≤ q77.heap.size := B77.size
      have HP77 := Lib.hid M77
      clear M77 B77 Z77
      refine hK _ _ ⟨HS78.out, ?_⟩
      clear hK K
      try simp only [Act.put, List.setIfInBounds_toArray, List.set_cons_zero, List.set_cons_succ, List.getElem_toArray, List.getElem_cons_succ, List.getElem_cons_zero]
      refine plan_op (by rfl) (by rfl) fun K hK => ?_
      refine wp_call3 (f := 50) (x := .const (.int .i64 4)) (y := .const (.int .i64 800)) (z := .const (.bool true)) (vx := .int .i64 4) (vy := .int .i64 800) (vz := .bool true) rfl rfl rfl rfl rfl rfl rfl rfl (packet_goes q77 4 800 true) ?_
      rintro e q79 ⟨rfl, hb79⟩
      have HS80 := Lib.hid (HS78.out.trans (hb79.mono HS78.out.size))
      have hz80 : q77.heap.size ≤ q79.heap.size := hb79.size
      have HP_80 := Lib.hid (HP77.out.below hb79)
      have hm79 := rep_medOf q79 (fun b => b < q79.heap.size) 4 800 true (in_i64 _ (by omega)) (in_i64 _ (by omega))
      have Hd79 := Lib.hid hm79
      clear hm79 hb79
      refine ⟨_, rfl, hK _ _ ⟨HS80.out, ?_⟩⟩
      clear hK K
      try simp only [Act.put, List.setIfInBounds_toArray, List.set_cons_zero, List.set_cons_succ, List.getElem_toArray, List.getElem_cons_succ, List.getElem_cons_zero]
      refine plan_op (by rfl) (by rfl) fun K hK => ?_
      have ra81 : Rep q79 (fun b => b < q79.heap.size) JBuf cs13 wOne := Rep.frame _ _ _ (Hrep39_61.out.below HS80.out) fun b h1 h2 => ⟨rfl, h2⟩
      have rb81 : Rep q79 (fun b => b < q79.heap.size) JMed (medCells 4 800 true) (medOf 4 800 true) := Rep.frame _ _ _ Hd79.out fun b h1 h2 => ⟨rfl, h2⟩
      refine wp_call3 (f := 14) (x := .tmp 52) (y := .const (.int .i64 100)) (z := .tmp 53) (vx := .agg (cs13).toArray) (vy := .int .i64 100) (vz := .agg ((medCells 4 800 true)).toArray) rfl rfl rfl rfl rfl rfl rfl rfl (put_goesD q79 _ _ _ _ 100 _ ra81 rb81 (fun b hb => hb) (in_i64 _ (by omega))) ?_
      rintro e q81 ⟨c81, rfl, hr81, hb81⟩
      clear ra81 rb81
      rw [show (putF wOne 100 (medOf 4 800 true)).2 = 10 from works_facts2.2.1]
      have HS82 := Lib.hid (HS80.out.trans (hb81.mono HS80.out.size))
      have hz82 : q79.heap.size ≤ q81.heap.size := hb81.size
      have Hd79_82 := Lib.hid (Hd79.out.below hb81)
      have HP_82 := Lib.hid (HP_80.out.below hb81)
      have hlc83 : c81.length = 11 := Rep.length _ _ _ hr81
      have HLc83 := Lib.hid hlc83
      clear hlc83
      have HOne83 := Lib.hid (Rep.one _ _ _ hr81)
      have Hd83 := Lib.hid (show Rep q81 (fun b => q79.heap.size ≤ b ∧ b < q81.heap.size) JBuf c81 (putF wOne 100 (medOf 4 800 true)).1 from Rep.frame _ _ _ hr81 fun b h1 h2 => ⟨rfl, h1, h2⟩)
      clear hr81
      clear hb81
      refine ⟨_, rfl, hK _ _ ⟨HS82.out, ?_⟩⟩
      clear hK K
      try simp only [Act.put, List.setIfInBounds_toArray, List.set_cons_zero, List.set_cons_succ, List.getElem_toArray, List.getElem_cons_succ, List.getElem_cons_zero]
      refine plan_read (by rfl) (by rfl) (fun u hu => by (clear hu; go_simp; try rfl)) ?_
      try simp only [Act.put, List.setIfInBounds_toArray, List.set_cons_zero, List.set_cons_succ, List.getElem_toArray, List.getElem_cons_succ, List.getElem_cons_zero]
      refine plan_read (by rfl) (by rfl) (fun u hu => by (clear hu; go_simp; try rfl)) ?_
      try simp only [Act.put, List.setIfInBounds_toArray, List.set_cons_zero, List.set_cons_succ, List.getElem_toArray, List.getElem_cons_succ, List.getElem_cons_zero]
      refine plan_read (by rfl) (by rfl) (fun u hu => by (clear hu; go_simp; try rfl)) ?_
      try simp only [Act.put, List.setIfInBounds_toArray, List.set_cons_zero, List.set_cons_succ, List.getElem_toArray, List.getElem_cons_succ, List.getElem_cons_zero]
      refine plan_op (by rfl) (by rfl) fun K hK => ?_
      refine wp_storebk (T := 24) (x := .tmp 12) (y := .tmp 55) (n := v60.drew.heap.size) (bs := c81) rfl rfl rfl HP_82.out (by rw [HLc83.out]; rfl) (by rw [HLc83.out]; kernel_rfl) (HOne83.out) fun q84 M84 G84 => ?_
      have HS84 := Lib.hid (below_grown HS82.out G84 (by have := HS82.out.size; omega) (by omega))
      have hz84 : q81.heap.size ≤ q84.heap.size := G84.size
      have hd84 := Hd83.out.grown_any G84 (by omega)
      have Hd83_84 := Lib.hid hd84
      have HP84 := Lib.hid M84
      clear hd84 M84 G84
      refine hK _ _ ⟨HS84.out, ?_⟩
      clear hK K
      try simp only [Act.put, List.setIfInBounds_toArray, List.set_cons_zero, List.set_cons_succ, List.getElem_toArray, List.getElem_cons_succ, List.getElem_cons_zero]
      refine plan_stop ?_
      simp only [List.drop_succ_cons, List.drop_zero, Act.put, List.setIfInBounds_toArray, List.set_cons_zero, List.set_cons_succ, List.getElem_toArray, List.getElem_cons_succ, List.getElem_cons_zero]
      go_wp2_with fail
      refine NoPanic.normal ?_
      exact ⟨rfl, HMi.out _ _ ⟨v60.drew.heap.size, c81, by omega, HP84.out, Rep.frame _ _ _ Hd83_84.out fun b h1 h2 => ⟨rfl, h2⟩, HS84.out, _, _, _, _, _, _, rfl⟩⟩
  rintro _ v62 ⟨bn62, cs62, hbn62, M62, hr62, B62, u52, u53, u54, u51, u55, u56, rfl⟩
  rw [ha62]
  clear ha62
  simp only [List.setIfInBounds_toArray, List.set_cons_zero, List.set_cons_succ]
  have hlt62 : bn62 < v62.heap.size := M62.lt
  have Hbk1_85 := Lib.hid (Hbk1_61.out.below B62)
  clear Hbk1_61
  have Hrep1_85 := Lib.hid (Hrep1_61.out.below B62)
  clear Hrep1_61
  have Hbk3_85 := Lib.hid (Hbk3_61.out.below B62)
  clear Hbk3_61
  have Hrep3_85 := Lib.hid (Hrep3_61.out.below B62)
  clear Hrep3_61
  have Hbk39_85 := Lib.hid (Hbk39_61.out.below B62)
  clear Hbk39_61
  have Hrep39_85 := Lib.hid (Hrep39_61.out.below B62)
  clear Hrep39_61
  have Hbk42_85 := Lib.hid (Hbk42_61.out.below B62)
  clear Hbk42_61
  have Hrep42_85 := Lib.hid (Hrep42_61.out.below B62)
  clear Hrep42_61
  have Hbk49_85 := Lib.hid (Hbk49_61.out.below B62)
  clear Hbk49_61
  have Hrep49_85 := Lib.hid (Hrep49_61.out.below B62)
  clear Hrep49_61
  have Hbk54_85 := Lib.hid (Hbk54_61.out.below B62)
  clear Hbk54_61
  have Hrep54_85 := Lib.hid (Hrep54_61.out.below B62)
  clear Hrep54_61
  have Hbk59_85 := Lib.hid (Hbk59_60.out.below B62)
  clear Hbk59_60
  have Hrep59_85 := Lib.hid (Hrep59_61.out.below B62)
  clear Hrep59_61
  have HB85 := Lib.hid (HB61.out.trans (B62.mono HB61.out.size))
  clear HB61
  have hz85 : v60.heap.size ≤ v62.heap.size := B62.size
  have hlc86 : cs62.length = 11 := Rep.length _ _ _ hr62
  have HLc86 := Lib.hid hlc86
  clear hlc86
  have HOne86 := Lib.hid (Rep.one _ _ _ hr62)
  have Hrep86 := Lib.hid (show Rep v62 (fun b => b < v62.heap.size) JBuf cs62 (putF wOne 100 (medOf 4 800 true)).1 from Rep.frame _ _ _ hr62 fun b h1 h2 => ⟨rfl, h2⟩)
  clear hr62
  have Hbk86_0 := Lib.hid M62
  clear M62 B62
  go_wp2_with fail
  refine (fresh_goes v62 8 (in_i64 _ (by omega))).mono ?_
  rintro e v87 ⟨c87, rfl, hr87, hb87⟩
  have Hbk1_88 := Lib.hid (Hbk1_85.out.below hb87)
  clear Hbk1_85
  have Hrep1_88 := Lib.hid (Hrep1_85.out.below hb87)
  clear Hrep1_85
  have Hbk3_88 := Lib.hid (Hbk3_85.out.below hb87)
  clear Hbk3_85
  have Hrep3_88 := Lib.hid (Hrep3_85.out.below hb87)
  clear Hrep3_85
  have Hbk39_88 := Lib.hid (Hbk39_85.out.below hb87)
  clear Hbk39_85
  have Hrep39_88 := Lib.hid (Hrep39_85.out.below hb87)
  clear Hrep39_85
  have Hbk42_88 := Lib.hid (Hbk42_85.out.below hb87)
  clear Hbk42_85
  have Hrep42_88 := Lib.hid (Hrep42_85.out.below hb87)
  clear Hrep42_85
  have Hbk49_88 := Lib.hid (Hbk49_85.out.below hb87)
  clear Hbk49_85
  have Hrep49_88 := Lib.hid (Hrep49_85.out.below hb87)
  clear Hrep49_85
  have Hbk54_88 := Lib.hid (Hbk54_85.out.below hb87)
  clear Hbk54_85
  have Hrep54_88 := Lib.hid (Hrep54_85.out.below hb87)
  clear Hrep54_85
  have Hbk59_88 := Lib.hid (Hbk59_85.out.below hb87)
  clear Hbk59_85
  have Hrep59_88 := Lib.hid (Hrep59_85.out.below hb87)
  clear Hrep59_85
  have Hbk86_88 := Lib.hid (Hbk86_0.out.below hb87)
  clear Hbk86_0
  have Hrep86_88 := Lib.hid (Hrep86.out.below hb87)
  clear Hrep86
  have HB88 := Lib.hid (HB85.out.trans (hb87.mono HB85.out.size))
  clear HB85
  have hz88 : v62.heap.size ≤ v87.heap.size := hb87.size
  clear hb87
  have hlc89 : c87.length = 11 := Rep.length _ _ _ hr87
  have HLc89 := Lib.hid hlc89
  clear hlc89
  have HOne89 := Lib.hid (Rep.one _ _ _ hr87)
  have Hrep89 := Lib.hid (show Rep v87 (fun b => b < v87.heap.size) JBuf c87 (newF 8).1 from Rep.frame _ _ _ hr87 fun b h1 h2 => ⟨rfl, h2⟩)
  clear hr87
  go_wp2_with fail
  refine (packet_goes v87 5 800 false).mono ?_
  rintro e v90 ⟨rfl, hb90⟩
  have Hbk1_91 := Lib.hid (Hbk1_88.out.below hb90)
  clear Hbk1_88
  have Hrep1_91 := Lib.hid (Hrep1_88.out.below hb90)
  clear Hrep1_88
  have Hbk3_91 := Lib.hid (Hbk3_88.out.below hb90)
  clear Hbk3_88
  have Hrep3_91 := Lib.hid (Hrep3_88.out.below hb90)
  clear Hrep3_88
  have Hbk39_91 := Lib.hid (Hbk39_88.out.below hb90)
  clear Hbk39_88
  have Hrep39_91 := Lib.hid (Hrep39_88.out.below hb90)
  clear Hrep39_88
  have Hbk42_91 := Lib.hid (Hbk42_88.out.below hb90)
  clear Hbk42_88
  have Hrep42_91 := Lib.hid (Hrep42_88.out.below hb90)
  clear Hrep42_88
  have Hbk49_91 := Lib.hid (Hbk49_88.out.below hb90)
  clear Hbk49_88
  have Hrep49_91 := Lib.hid (Hrep49_88.out.below hb90)
  clear Hrep49_88
  have Hbk54_91 := Lib.hid (Hbk54_88.out.below hb90)
  clear Hbk54_88
  have Hrep54_91 := Lib.hid (Hrep54_88.out.below hb90)
  clear Hrep54_88
  have Hbk59_91 := Lib.hid (Hbk59_88.out.below hb90)
  clear Hbk59_88
  have Hrep59_91 := Lib.hid (Hrep59_88.out.below hb90)
  clear Hrep59_88
  have Hbk86_91 := Lib.hid (Hbk86_88.out.below hb90)
  clear Hbk86_88
  have Hrep86_91 := Lib.hid (Hrep86_88.out.below hb90)
  clear Hrep86_88
  have Hrep89_91 := Lib.hid (Hrep89.out.below hb90)
  clear Hrep89
  have HB91 := Lib.hid (HB88.out.trans (hb90.mono HB88.out.size))
  clear HB88
  have hz91 : v87.heap.size ≤ v90.heap.size := hb90.size
  clear hb90
  have hr90 := rep_medOf v90 (fun b => b < v90.heap.size) 5 800 false (in_i64 _ (by omega)) (in_i64 _ (by omega))
  have Hrep90 := Lib.hid hr90
  clear hr90
  go_wp2_with fail
  have ra92 : Rep v90 (fun b => b < v90.heap.size) JBuf c87 (newF 8).1 := Rep.frame _ _ _ Hrep89_91.out fun b h1 h2 => ⟨rfl, h2⟩
  have rb92 : Rep v90 (fun b => b < v90.heap.size) JMed (medCells 5 800 false) (medOf 5 800 false) := Rep.frame _ _ _ Hrep90.out fun b h1 h2 => ⟨rfl, h2⟩
  refine (kput_goes v90 _ _ _ _ 100 _ ra92 rb92 (fun b hb => hb) (in_i64 _ (by omega))).mono ?_
  rintro e v92 ⟨c92, rfl, hr92, hb92⟩
  clear ra92 rb92
  have Hbk1_93 := Lib.hid (Hbk1_91.out.below hb92)
  clear Hbk1_91
  have Hrep1_93 := Lib.hid (Hrep1_91.out.below hb92)
  clear Hrep1_91
  have Hbk3_93 := Lib.hid (Hbk3_91.out.below hb92)
  clear Hbk3_91
  have Hrep3_93 := Lib.hid (Hrep3_91.out.below hb92)
  clear Hrep3_91
  have Hbk39_93 := Lib.hid (Hbk39_91.out.below hb92)
  clear Hbk39_91
  have Hrep39_93 := Lib.hid (Hrep39_91.out.below hb92)
  clear Hrep39_91
  have Hbk42_93 := Lib.hid (Hbk42_91.out.below hb92)
  clear Hbk42_91
  have Hrep42_93 := Lib.hid (Hrep42_91.out.below hb92)
  clear Hrep42_91
  have Hbk49_93 := Lib.hid (Hbk49_91.out.below hb92)
  clear Hbk49_91
  have Hrep49_93 := Lib.hid (Hrep49_91.out.below hb92)
  clear Hrep49_91
  have Hbk54_93 := Lib.hid (Hbk54_91.out.below hb92)
  clear Hbk54_91
  have Hrep54_93 := Lib.hid (Hrep54_91.out.below hb92)
  clear Hrep54_91
  have Hbk59_93 := Lib.hid (Hbk59_91.out.below hb92)
  clear Hbk59_91
  have Hrep59_93 := Lib.hid (Hrep59_91.out.below hb92)
  clear Hrep59_91
  have Hbk86_93 := Lib.hid (Hbk86_91.out.below hb92)
  clear Hbk86_91
  have Hrep86_93 := Lib.hid (Hrep86_91.out.below hb92)
  clear Hrep86_91
  have Hrep89_93 := Lib.hid (Hrep89_91.out.below hb92)
  clear Hrep89_91
  have Hrep90_93 := Lib.hid (Hrep90.out.below hb92)
  clear Hrep90
  have HB93 := Lib.hid (HB91.out.trans (hb92.mono HB91.out.size))
  clear HB91
  have hz93 : v90.heap.size ≤ v92.heap.size := hb92.size
  clear hb92
  have hlc94 : c92.length = 11 := Rep.length _ _ _ hr92
  have HLc94 := Lib.hid hlc94
  clear hlc94
  have HOne94 := Lib.hid (Rep.one _ _ _ hr92)
  have Hrep94 := Lib.hid (show Rep v92 (fun b => b < v92.heap.size) JBuf c92 wB from Rep.frame _ _ _ hr92 fun b h1 h2 => ⟨rfl, h2⟩)
  clear hr92
  go_wp2_with fail
  refine (ktakes v92 (fun b => b < v92.heap.size) c92 wB 110 6 1 false none 0 0 [] Hrep94.out (fun b (hb : b < v92.heap.size) => by omega) (in_i64 _ (by omega)) works_facts3.1 works_facts3.2.1 works_facts3.2.2.1 works_facts3.2.2.2.1 works_facts3.2.2.2.2 rfl (fun h => absurd h (by omega))).mono ?_
  rintro e v95 ⟨c95, rfl, hr95, hb95⟩
  have Hbk1_96 := Lib.hid (Hbk1_93.out.below hb95)
  clear Hbk1_93
  have Hrep1_96 := Lib.hid (Hrep1_93.out.below hb95)
  clear Hrep1_93
  have Hbk3_96 := Lib.hid (Hbk3_93.out.below hb95)
  clear Hbk3_93
  have Hrep3_96 := Lib.hid (Hrep3_93.out.below hb95)
  clear Hrep3_93
  have Hbk39_96 := Lib.hid (Hbk39_93.out.below hb95)
  clear Hbk39_93
  have Hrep39_96 := Lib.hid (Hrep39_93.out.below hb95)
  clear Hrep39_93
  have Hbk42_96 := Lib.hid (Hbk42_93.out.below hb95)
  clear Hbk42_93
  have Hrep42_96 := Lib.hid (Hrep42_93.out.below hb95)
  clear Hrep42_93
  have Hbk49_96 := Lib.hid (Hbk49_93.out.below hb95)
  clear Hbk49_93
  have Hrep49_96 := Lib.hid (Hrep49_93.out.below hb95)
  clear Hrep49_93
  have Hbk54_96 := Lib.hid (Hbk54_93.out.below hb95)
  clear Hbk54_93
  have Hrep54_96 := Lib.hid (Hrep54_93.out.below hb95)
  clear Hrep54_93
  have Hbk59_96 := Lib.hid (Hbk59_93.out.below hb95)
  clear Hbk59_93
  have Hrep59_96 := Lib.hid (Hrep59_93.out.below hb95)
  clear Hrep59_93
  have Hbk86_96 := Lib.hid (Hbk86_93.out.below hb95)
  clear Hbk86_93
  have Hrep86_96 := Lib.hid (Hrep86_93.out.below hb95)
  clear Hrep86_93
  have Hrep89_96 := Lib.hid (Hrep89_93.out.below hb95)
  clear Hrep89_93
  have Hrep90_96 := Lib.hid (Hrep90_93.out.below hb95)
  clear Hrep90_93
  have Hrep94_96 := Lib.hid (Hrep94.out.below hb95)
  clear Hrep94
  have HB96 := Lib.hid (HB93.out.trans (hb95.mono HB93.out.size))
  clear HB93
  have hz96 : v92.heap.size ≤ v95.heap.size := hb95.size
  clear hb95
  have hlc97 : c95.length = 11 := Rep.length _ _ _ hr95
  have HLc97 := Lib.hid hlc97
  clear hlc97
  have HOne97 := Lib.hid (Rep.one _ _ _ hr95)
  have Hrep97 := Lib.hid (show Rep v95 (fun b => b < v95.heap.size) JBuf c95 (takeF wB 110).1 from Rep.frame _ _ _ hr95 fun b h1 h2 => ⟨rfl, h2⟩)
  clear hr95
  go_wp2_with (refine step_newv (T := 24) (V := .agg c95.toArray) (bs := c95) rfl rfl rfl rfl rfl (by first | (simp; done) | decide) rfl rfl (by rw [HLc97.out]; kernel_rfl) (by rw [HLc97.out]; kernel_rfl) (HOne97.out) fun v98 M98 B98 Z98 => ?_)
  have hlt98 : v95.heap.size < v98.heap.size := M98.lt
  have Hbk1_99 := Lib.hid (Hbk1_96.out.below B98)
  clear Hbk1_96
  have Hrep1_99 := Lib.hid (Hrep1_96.out.below B98)
  clear Hrep1_96
  have Hbk3_99 := Lib.hid (Hbk3_96.out.below B98)
  clear Hbk3_96
  have Hrep3_99 := Lib.hid (Hrep3_96.out.below B98)
  clear Hrep3_96
  have Hbk39_99 := Lib.hid (Hbk39_96.out.below B98)
  clear Hbk39_96
  have Hrep39_99 := Lib.hid (Hrep39_96.out.below B98)
  clear Hrep39_96
  have Hbk42_99 := Lib.hid (Hbk42_96.out.below B98)
  clear Hbk42_96
  have Hrep42_99 := Lib.hid (Hrep42_96.out.below B98)
  clear Hrep42_96
  have Hbk49_99 := Lib.hid (Hbk49_96.out.below B98)
  clear Hbk49_96
  have Hrep49_99 := Lib.hid (Hrep49_96.out.below B98)
  clear Hrep49_96
  have Hbk54_99 := Lib.hid (Hbk54_96.out.below B98)
  clear Hbk54_96
  have Hrep54_99 := Lib.hid (Hrep54_96.out.below B98)
  clear Hrep54_96
  have Hbk59_99 := Lib.hid (Hbk59_96.out.below B98)
  clear Hbk59_96
  have Hrep59_99 := Lib.hid (Hrep59_96.out.below B98)
  clear Hrep59_96
  have Hbk86_99 := Lib.hid (Hbk86_96.out.below B98)
  clear Hbk86_96
  have Hrep86_99 := Lib.hid (Hrep86_96.out.below B98)
  clear Hrep86_96
  have Hrep89_99 := Lib.hid (Hrep89_96.out.below B98)
  clear Hrep89_96
  have Hrep90_99 := Lib.hid (Hrep90_96.out.below B98)
  clear Hrep90_96
  have Hrep94_99 := Lib.hid (Hrep94_96.out.below B98)
  clear Hrep94_96
  have Hrep97_99 := Lib.hid (Hrep97.out.below B98)
  clear Hrep97
  have HB99 := Lib.hid (HB96.out.trans (B98.mono HB96.out.size))
  clear HB96
  have hz99 : v95.heap.size ≤ v98.heap.size := B98.size
  have Hbk97_98 := Lib.hid M98
  clear M98 B98 Z98
  refine Lib.hid ?_
  go_wp2_with fail
  refine wp_name fun a100 ha100 => ?_
  refine wp_mid (fun a2 W2 => ∃ bn cs2, v98.heap.size ≤ bn ∧ Bk W2 bn 24 cs2 ∧ Rep W2 (fun b => b < W2.heap.size) JBuf cs2 wFour ∧ Below v98.heap.size v98 W2 ∧ ∃ u64 u65 u66 : Value, a2 = ⟨((((a100.tmps.setIfInBounds 64 u64).setIfInBounds 65 u65).setIfInBounds 66 u66).setIfInBounds 16 (.pointer (some ⟨bn, 0, none⟩))), a100.defers⟩) ?_ ?_
  · intro Mi hM
    rw [ha100] at hM
    simp only [List.setIfInBounds_toArray, List.set_cons_zero, List.set_cons_succ] at hM
    have HMi := Lib.hid hM
    clear hM
    rw [ha100]
    clear ha100
    have HS0 := Lib.hid (show Below v98.heap.size v98 v98.drew from (Below.refl _ v98).drew)
    have hz0 : v98.heap.size ≤ v98.drew.heap.size := HS0.out.size
    refine wp_region_plan 4 (.read 0 (.two 1 (.two 2 (.make 3 .stop) 3 (.make 2 .stop)) 3 (.make 1 (.make 2 .stop)))) (fun u => Below v98.heap.size v98 u) (by kernel_rfl) (by kernel_rfl) HS0.out ?_
    refine plan_read (v := .agg (cs13).toArray) (by rfl) (by rfl) (fun u hu => exec_load_mid (ty := 24) (x := .tmp 3) (b := bn13) (off := 0) (cs := cs13) rfl rfl u (Hbk39_99.out.at_.frame (hu.block _ Hbk39_99.out.lt)) Try.underlying24 rfl (by rw [HLc39.out]; kernel_rfl)) ?_
    try simp only [Act.put, List.setIfInBounds_toArray, List.set_cons_zero, List.set_cons_succ, List.getElem_toArray, List.getElem_cons_succ, List.getElem_cons_zero]
    refine ⟨?_, ?_⟩
    · refine plan_op (by rfl) (by rfl) fun K hK => ?_
      refine wp_call3 (f := 50) (x := .const (.int .i64 7)) (y := .const (.int .i64 960)) (z := .const (.bool true)) (vx := .int .i64 7) (vy := .int .i64 960) (vz := .bool true) rfl rfl rfl rfl rfl rfl rfl rfl (packet_goes v98.drew 7 960 true) ?_
      rintro e q101 ⟨rfl, hb101⟩
      have HS102 := Lib.hid (HS0.out.trans (hb101.mono HS0.out.size))
      have hz102 : v98.drew.heap.size ≤ q101.heap.size := hb101.size
      have hm101 := rep_medOf q101 (fun b => b < q101.heap.size) 7 960 true (in_i64 _ (by omega)) (in_i64 _ (by omega))
      have Hd101 := Lib.hid hm101
      clear hm101 hb101
      refine ⟨_, rfl, hK _ _ ⟨HS102.out, ?_⟩⟩
      clear hK K
      try simp only [Act.put, List.setIfInBounds_toArray, List.set_cons_zero, List.set_cons_succ, List.getElem_toArray, List.getElem_cons_succ, List.getElem_cons_zero]
      refine ⟨?_, ?_⟩
      · refine plan_op (by rfl) (by rfl) fun K hK => ?_
        have ra103 : Rep q101 (fun b => b < q101.heap.size) JBuf cs13 wOne := Rep.frame _ _ _ (Hrep39_99.out.below HS102.out) fun b h1 h2 => ⟨rfl, h2⟩
        have rb103 : Rep q101 (fun b => b < q101.heap.size) JMed (medCells 7 960 true) (medOf 7 960 true) := Rep.frame _ _ _ Hd101.out fun b h1 h2 => ⟨rfl, h2⟩
        refine wp_call3 (f := 48) (x := .tmp 64) (y := .const (.int .i64 100)) (z := .tmp 65) (vx := .agg (cs13).toArray) (vy := .int .i64 100) (vz := .agg ((medCells 7 960 true)).toArray) rfl rfl rfl rfl rfl rfl rfl rfl (kput_goes q101 _ _ _ _ 100 _ ra103 rb103 (fun b hb => hb) (in_i64 _ (by omega))) ?_
        rintro e q103 ⟨c103, rfl, hr103, hb103⟩
        clear ra103 rb103
        have HS104 := Lib.hid (HS102.out.trans (hb103.mono HS102.out.size))
        have hz104 : q101.heap.size ≤ q103.heap.size := hb103.size
        have Hd101_104 := Lib.hid (Hd101.out.below hb103)
        have hlc105 : c103.length = 11 := Rep.length _ _ _ hr103
        have HLc105 := Lib.hid hlc105
        clear hlc105
        have HOne105 := Lib.hid (Rep.one _ _ _ hr103)
        have Hd105 := Lib.hid (show Rep q103 (fun b => q101.heap.size ≤ b ∧ b < q103.heap.size) JBuf c103 wFour from Rep.frame _ _ _ hr103 fun b h1 h2 => ⟨rfl, h1, h2⟩)
        clear hr103
        clear hb103
        refine ⟨_, rfl, hK _ _ ⟨HS104.out, ?_⟩⟩
        clear hK K
        try simp only [Act.put, List.setIfInBounds_toArray, List.set_cons_zero, List.set_cons_succ, List.getElem_toArray, List.getElem_cons_succ, List.getElem_cons_zero]
        refine plan_op (by rfl) (by rfl) fun K hK => ?_
        refine wp_allocbk (T := 24) (cs := bufCells 0) rfl (by kernel_rfl) fun q106 M106 B106 Z106 => ?_
        have hlt106 : q103.heap.size < q106.heap.size := M106.lt
        have HS107 := Lib.hid (HS104.out.trans (B106.mono HS104.out.size))
        have hz107 : q103.heap.size ≤ q106.heap.size := B106.size
        have Hd101_107 := Lib.hid (Hd101_104.out.below B106)
        have Hd105_107 := Lib.hid (Hd105.out.below B106)
        have HP106 := Lib.hid M106
        clear M106 B106 Z106
        refine hK _ _ ⟨HS107.out, ?_⟩
        clear hK K
        try simp only [Act.put, List.setIfInBounds_toArray, List.set_cons_zero, List.set_cons_succ, List.getElem_toArray, List.getElem_cons_succ, List.getElem_cons_zero]
        refine plan_stop ?_
        simp only [List.drop_succ_cons, List.drop_zero, Act.put, List.setIfInBounds_toArray, List.set_cons_zero, List.set_cons_succ, List.getElem_toArray, List.getElem_cons_succ, List.getElem_cons_zero]
        go_wp2_with (refine step_store (T := 24) (n := q103.heap.size) (bs := c103) rfl rfl rfl rfl HP106.out (by rw [HLc105.out]; rfl) (by rw [HLc105.out]; kernel_rfl) (HOne105.out) fun q108 M108 G108 => ?_)
        have HS108 := Lib.hid (below_grown HS107.out G108 (by have := HS107.out.size; omega) (by omega))
        have hz108 : q106.heap.size ≤ q108.heap.size := G108.size
        have hd108 := Hd105_107.out.grown_any G108 (by omega)
        have Hd105_108 := Lib.hid hd108
        have HP108 := Lib.hid M108
        clear hd108 M108 G108
        refine Lib.hid ?_
        go_wp2_with fail
        refine NoPanic.normal ?_
        exact ⟨rfl, HMi.out _ _ ⟨q103.heap.size, c103, by omega, HP108.out, Rep.frame _ _ _ Hd105_108.out fun b h1 h2 => ⟨rfl, h2⟩, HS108.out, _, _, _, rfl⟩⟩
      · refine plan_op (by rfl) (by rfl) fun K hK => ?_
        refine wp_allocbk (T := 24) (cs := bufCells 0) rfl (by kernel_rfl) fun q109 M109 B109 Z109 => ?_
        have hlt109 : q101.heap.size < q109.heap.size := M109.lt
        have HS110 := Lib.hid (HS102.out.trans (B109.mono HS102.out.size))
        have hz110 : q101.heap.size ≤ q109.heap.size := B109.size
        have Hd101_110 := Lib.hid (Hd101.out.below B109)
        have HP109 := Lib.hid M109
        clear M109 B109 Z109
        refine hK _ _ ⟨HS110.out, ?_⟩
        clear hK K
        try simp only [Act.put, List.setIfInBounds_toArray, List.set_cons_zero, List.set_cons_succ, List.getElem_toArray, List.getElem_cons_succ, List.getElem_cons_zero]
        refine plan_op (by rfl) (by rfl) fun K hK => ?_
        have ra111 : Rep q109 (fun b => b < q109.heap.size) JBuf cs13 wOne := Rep.frame _ _ _ (Hrep39_99.out.below HS110.out) fun b h1 h2 => ⟨rfl, h2⟩
        have rb111 : Rep q109 (fun b => b < q109.heap.size) JMed (medCells 7 960 true) (medOf 7 960 true) := Rep.frame _ _ _ Hd101_110.out fun b h1 h2 => ⟨rfl, h2⟩
        refine wp_call3 (f := 48) (x := .tmp 64) (y := .const (.int .i64 100)) (z := .tmp 65) (vx := .agg (cs13).toArray) (vy := .int .i64 100) (vz := .agg ((medCells 7 960 true)).toArray) rfl rfl rfl rfl rfl rfl rfl rfl (kput_goes q109 _ _ _ _ 100 _ ra111 rb111 (fun b hb => hb) (in_i64 _ (by omega))) ?_
        rintro e q111 ⟨c111, rfl, hr111, hb111⟩
        clear ra111 rb111
        have HS112 := Lib.hid (HS110.out.trans (hb111.mono HS110.out.size))
        have hz112 : q109.heap.size ≤ q111.heap.size := hb111.size
        have Hd101_112 := Lib.hid (Hd101_110.out.below hb111)
        have HP_112 := Lib.hid (HP109.out.below hb111)
        have hlc113 : c111.length = 11 := Rep.length _ _ _ hr111
        have HLc113 := Lib.hid hlc113
        clear hlc113
        have HOne113 := Lib.hid (Rep.one _ _ _ hr111)
        have Hd113 := Lib.hid (show Rep q111 (fun b => q109.heap.size ≤ b ∧ b < q111.heap.size) JBuf c111 wFour from Rep.frame _ _ _ hr111 fun b h1 h2 => ⟨rfl, h1, h2⟩)
        clear hr111
        clear hb111
        refine ⟨_, rfl, hK _ _ ⟨HS112.out, ?_⟩⟩
        clear hK K
        try simp only [Act.put, List.setIfInBounds_toArray, List.set_cons_zero, List.set_cons_succ, List.getElem_toArray, List.getElem_cons_succ, List.getElem_cons_zero]
        refine plan_stop ?_
        simp only [List.drop_succ_cons, List.drop_zero, Act.put, List.setIfInBounds_toArray, List.set_cons_zero, List.set_cons_succ, List.getElem_toArray, List.getElem_cons_succ, List.getElem_cons_zero]
        go_wp2_with (refine step_store (T := 24) (n := q101.heap.size) (bs := c111) rfl rfl rfl rfl HP_112.out (by rw [HLc113.out]; rfl) (by rw [HLc113.out]; kernel_rfl) (HOne113.out) fun q114 M114 G114 => ?_)
        have HS114 := Lib.hid (below_grown HS112.out G114 (by have := HS112.out.size; omega) (by omega))
        have hz114 : q111.heap.size ≤ q114.heap.size := G114.size
        have hd114 := Hd113.out.grown_any G114 (by omega)
        have Hd113_114 := Lib.hid hd114
        have HP114 := Lib.hid M114
        clear hd114 M114 G114
        refine Lib.hid ?_
        go_wp2_with fail
        refine NoPanic.normal ?_
        exact ⟨rfl, HMi.out _ _ ⟨q101.heap.size, c111, by omega, HP114.out, Rep.frame _ _ _ Hd113_114.out fun b h1 h2 => ⟨rfl, h2⟩, HS114.out, _, _, _, rfl⟩⟩
    · refine plan_op (by rfl) (by rfl) fun K hK => ?_
      refine wp_allocbk (T := 24) (cs := bufCells 0) rfl (by kernel_rfl) fun q115 M115 B115 Z115 => ?_
      have hlt115 : v98.drew.heap.size < q115.heap.size := M115.lt
      have HS116 := Lib.hid (HS0.out.trans (B115.mono HS0.out.size))
      have hz116 : v98.drew.heap.size ≤ q115.heap.size := B115.size
      have HP115 := Lib.hid M115
      clear M115 B115 Z115
      refine hK _ _ ⟨HS116.out, ?_⟩
      clear hK K
      try simp only [Act.put, List.setIfInBounds_toArray, List.set_cons_zero, List.set_cons_succ, List.getElem_toArray, List.getElem_cons_succ, List.getElem_cons_zero]
      refine plan_op (by rfl) (by rfl) fun K hK => ?_
      refine wp_call3 (f := 50) (x := .const (.int .i64 7)) (y := .const (.int .i64 960)) (z := .const (.bool true)) (vx := .int .i64 7) (vy := .int .i64 960) (vz := .bool true) rfl rfl rfl rfl rfl rfl rfl rfl (packet_goes q115 7 960 true) ?_
      rintro e q117 ⟨rfl, hb117⟩
      have HS118 := Lib.hid (HS116.out.trans (hb117.mono HS116.out.size))
      have hz118 : q115.heap.size ≤ q117.heap.size := hb117.size
      have HP_118 := Lib.hid (HP115.out.below hb117)
      have hm117 := rep_medOf q117 (fun b => b < q117.heap.size) 7 960 true (in_i64 _ (by omega)) (in_i64 _ (by omega))
      have Hd117 := Lib.hid hm117
      clear hm117 hb117
      refine ⟨_, rfl, hK _ _ ⟨HS118.out, ?_⟩⟩
      clear hK K
      try simp only [Act.put, List.setIfInBounds_toArray, List.set_cons_zero, List.set_cons_succ, List.getElem_toArray, List.getElem_cons_succ, List.getElem_cons_zero]
      refine plan_op (by rfl) (by rfl) fun K hK => ?_
      have ra119 : Rep q117 (fun b => b < q117.heap.size) JBuf cs13 wOne := Rep.frame _ _ _ (Hrep39_99.out.below HS118.out) fun b h1 h2 => ⟨rfl, h2⟩
      have rb119 : Rep q117 (fun b => b < q117.heap.size) JMed (medCells 7 960 true) (medOf 7 960 true) := Rep.frame _ _ _ Hd117.out fun b h1 h2 => ⟨rfl, h2⟩
      refine wp_call3 (f := 48) (x := .tmp 64) (y := .const (.int .i64 100)) (z := .tmp 65) (vx := .agg (cs13).toArray) (vy := .int .i64 100) (vz := .agg ((medCells 7 960 true)).toArray) rfl rfl rfl rfl rfl rfl rfl rfl (kput_goes q117 _ _ _ _ 100 _ ra119 rb119 (fun b hb => hb) (in_i64 _ (by omega))) ?_
      rintro e q119 ⟨c119, rfl, hr119, hb119⟩
      clear ra119 rb119
      have HS120 := Lib.hid (HS118.out.trans (hb119.mono HS118.out.size))
      have hz120 : q117.heap.size ≤ q119.heap.size := hb119.size
      have Hd117_120 := Lib.hid (Hd117.out.below hb119)
      have HP_120 := Lib.hid (HP_118.out.below hb119)
      have hlc121 : c119.length = 11 := Rep.length _ _ _ hr119
      have HLc121 := Lib.hid hlc121
      clear hlc121
      have HOne121 := Lib.hid (Rep.one _ _ _ hr119)
      have Hd121 := Lib.hid (show Rep q119 (fun b => q117.heap.size ≤ b ∧ b < q119.heap.size) JBuf c119 wFour from Rep.frame _ _ _ hr119 fun b h1 h2 => ⟨rfl, h1, h2⟩)
      clear hr119
      clear hb119
      refine ⟨_, rfl, hK _ _ ⟨HS120.out, ?_⟩⟩
      clear hK K
      try simp only [Act.put, List.setIfInBounds_toArray, List.set_cons_zero, List.set_cons_succ, List.getElem_toArray, List.getElem_cons_succ, List.getElem_cons_zero]
      refine plan_stop ?_
      simp only [List.drop_succ_cons, List.drop_zero, Act.put, List.setIfInBounds_toArray, List.set_cons_zero, List.set_cons_succ, List.getElem_toArray, List.getElem_cons_succ, List.getElem_cons_zero]
      go_wp2_with (refine step_store (T := 24) (n := v98.drew.heap.size) (bs := c119) rfl rfl rfl rfl HP_120.out (by rw [HLc121.out]; rfl) (by rw [HLc121.out]; kernel_rfl) (HOne121.out) fun q122 M122 G122 => ?_)
      have HS122 := Lib.hid (below_grown HS120.out G122 (by have := HS120.out.size; omega) (by omega))
      have hz122 : q119.heap.size ≤ q122.heap.size := G122.size
      have hd122 := Hd121.out.grown_any G122 (by omega)
      have Hd121_122 := Lib.hid hd122
      have HP122 := Lib.hid M122
      clear hd122 M122 G122
      refine Lib.hid ?_
      go_wp2_with fail
      refine NoPanic.normal ?_
      exact ⟨rfl, HMi.out _ _ ⟨v98.drew.heap.size, c119, by omega, HP122.out, Rep.frame _ _ _ Hd121_122.out fun b h1 h2 => ⟨rfl, h2⟩, HS122.out, _, _, _, rfl⟩⟩
  rintro _ v100 ⟨bn100, cs100, hbn100, M100, hr100, B100, u64, u65, u66, rfl⟩
  rw [ha100]
  clear ha100
  simp only [List.setIfInBounds_toArray, List.set_cons_zero, List.set_cons_succ]
  have hlt100 : bn100 < v100.heap.size := M100.lt
  have Hbk1_123 := Lib.hid (Hbk1_99.out.below B100)
  clear Hbk1_99
  have Hrep1_123 := Lib.hid (Hrep1_99.out.below B100)
  clear Hrep1_99
  have Hbk3_123 := Lib.hid (Hbk3_99.out.below B100)
  clear Hbk3_99
  have Hrep3_123 := Lib.hid (Hrep3_99.out.below B100)
  clear Hrep3_99
  have Hbk39_123 := Lib.hid (Hbk39_99.out.below B100)
  clear Hbk39_99
  have Hrep39_123 := Lib.hid (Hrep39_99.out.below B100)
  clear Hrep39_99
  have Hbk42_123 := Lib.hid (Hbk42_99.out.below B100)
  clear Hbk42_99
  have Hrep42_123 := Lib.hid (Hrep42_99.out.below B100)
  clear Hrep42_99
  have Hbk49_123 := Lib.hid (Hbk49_99.out.below B100)
  clear Hbk49_99
  have Hrep49_123 := Lib.hid (Hrep49_99.out.below B100)
  clear Hrep49_99
  have Hbk54_123 := Lib.hid (Hbk54_99.out.below B100)
  clear Hbk54_99
  have Hrep54_123 := Lib.hid (Hrep54_99.out.below B100)
  clear Hrep54_99
  have Hbk59_123 := Lib.hid (Hbk59_99.out.below B100)
  clear Hbk59_99
  have Hrep59_123 := Lib.hid (Hrep59_99.out.below B100)
  clear Hrep59_99
  have Hbk86_123 := Lib.hid (Hbk86_99.out.below B100)
  clear Hbk86_99
  have Hrep86_123 := Lib.hid (Hrep86_99.out.below B100)
  clear Hrep86_99
  have Hrep89_123 := Lib.hid (Hrep89_99.out.below B100)
  clear Hrep89_99
  have Hrep90_123 := Lib.hid (Hrep90_99.out.below B100)
  clear Hrep90_99
  have Hrep94_123 := Lib.hid (Hrep94_99.out.below B100)
  clear Hrep94_99
  have Hbk97_123 := Lib.hid (Hbk97_98.out.below B100)
  clear Hbk97_98
  have Hrep97_123 := Lib.hid (Hrep97_99.out.below B100)
  clear Hrep97_99
  have HB123 := Lib.hid (HB99.out.trans (B100.mono HB99.out.size))
  clear HB99
  have hz123 : v98.heap.size ≤ v100.heap.size := B100.size
  have hlc124 : cs100.length = 11 := Rep.length _ _ _ hr100
  have HLc124 := Lib.hid hlc124
  clear hlc124
  have HOne124 := Lib.hid (Rep.one _ _ _ hr100)
  have Hrep124 := Lib.hid (show Rep v100 (fun b => b < v100.heap.size) JBuf cs100 wFour from Rep.frame _ _ _ hr100 fun b h1 h2 => ⟨rfl, h2⟩)
  clear hr100
  have Hbk124_0 := Lib.hid M100
  clear M100 B100
  go_wp2_with (refine step_loadbkw (T := 24) (cs := cs100) (by rfl) rfl rfl Hbk124_0.out Try.underlying24 rfl (by rw [HLc124.out]; kernel_rfl) ?_)
  have b125 : Below v100.heap.size v100 (v100.alloc (.cells #[.int .i64 5] 3)) := (Below.refl _ v100).alloc (Nat.le_refl _) _
  have M125 := Bk.new v100 3 [.int .i64 5]
  generalize (v100.alloc (.cells #[.int .i64 5] 3)) = v125 at b125 M125 ⊢
  have hlt125 : v100.heap.size < v125.heap.size := M125.lt
  have Hbk1_126 := Lib.hid (Hbk1_123.out.below b125)
  clear Hbk1_123
  have Hrep1_126 := Lib.hid (Hrep1_123.out.below b125)
  clear Hrep1_123
  have Hbk3_126 := Lib.hid (Hbk3_123.out.below b125)
  clear Hbk3_123
  have Hrep3_126 := Lib.hid (Hrep3_123.out.below b125)
  clear Hrep3_123
  have Hbk39_126 := Lib.hid (Hbk39_123.out.below b125)
  clear Hbk39_123
  have Hrep39_126 := Lib.hid (Hrep39_123.out.below b125)
  clear Hrep39_123
  have Hbk42_126 := Lib.hid (Hbk42_123.out.below b125)
  clear Hbk42_123
  have Hrep42_126 := Lib.hid (Hrep42_123.out.below b125)
  clear Hrep42_123
  have Hbk49_126 := Lib.hid (Hbk49_123.out.below b125)
  clear Hbk49_123
  have Hrep49_126 := Lib.hid (Hrep49_123.out.below b125)
  clear Hrep49_123
  have Hbk54_126 := Lib.hid (Hbk54_123.out.below b125)
  clear Hbk54_123
  have Hrep54_126 := Lib.hid (Hrep54_123.out.below b125)
  clear Hrep54_123
  have Hbk59_126 := Lib.hid (Hbk59_123.out.below b125)
  clear Hbk59_123
  have Hrep59_126 := Lib.hid (Hrep59_123.out.below b125)
  clear Hrep59_123
  have Hbk86_126 := Lib.hid (Hbk86_123.out.below b125)
  clear Hbk86_123
  have Hrep86_126 := Lib.hid (Hrep86_123.out.below b125)
  clear Hrep86_123
  have Hrep89_126 := Lib.hid (Hrep89_123.out.below b125)
  clear Hrep89_123
  have Hrep90_126 := Lib.hid (Hrep90_123.out.below b125)
  clear Hrep90_123
  have Hrep94_126 := Lib.hid (Hrep94_123.out.below b125)
  clear Hrep94_123
  have Hbk97_126 := Lib.hid (Hbk97_123.out.below b125)
  clear Hbk97_123
  have Hrep97_126 := Lib.hid (Hrep97_123.out.below b125)
  clear Hrep97_123
  have Hbk124_126 := Lib.hid (Hbk124_0.out.below b125)
  clear Hbk124_0
  have Hrep124_126 := Lib.hid (Hrep124.out.below b125)
  clear Hrep124
  have HB126 := Lib.hid (HB123.out.trans (b125.mono HB123.out.size))
  clear HB123
  have hz126 : v100.heap.size ≤ v125.heap.size := b125.size
  have HN125 := Lib.hid M125
  clear b125 M125
  refine (ktakes v125 (fun b => b < v100.heap.size) cs100 wFour 110 6 0 true (some ⟨v100.heap.size, 0, none⟩) 1 1 [5] Hrep124_126.out (fun b (hb : b < v100.heap.size) => by omega) (in_i64 _ (by omega)) works_facts4.1 works_facts4.2.1 works_facts4.2.2.1 works_facts4.2.2.2.1 works_facts4.2.2.2.2 rfl (fun _ => ⟨_, rfl, HN125.out.lt, fun i hi => by obtain rfl : i = 0 := (by simp at hi; omega); exact HN125.out.cell 0 rfl⟩)).mono ?_
  rintro e v127 ⟨c127, rfl, hr127, hb127⟩
  have Hbk1_128 := Lib.hid (Hbk1_126.out.below hb127)
  clear Hbk1_126
  have Hrep1_128 := Lib.hid (Hrep1_126.out.below hb127)
  clear Hrep1_126
  have Hbk3_128 := Lib.hid (Hbk3_126.out.below hb127)
  clear Hbk3_126
  have Hrep3_128 := Lib.hid (Hrep3_126.out.below hb127)
  clear Hrep3_126
  have Hbk39_128 := Lib.hid (Hbk39_126.out.below hb127)
  clear Hbk39_126
  have Hrep39_128 := Lib.hid (Hrep39_126.out.below hb127)
  clear Hrep39_126
  have Hbk42_128 := Lib.hid (Hbk42_126.out.below hb127)
  clear Hbk42_126
  have Hrep42_128 := Lib.hid (Hrep42_126.out.below hb127)
  clear Hrep42_126
  have Hbk49_128 := Lib.hid (Hbk49_126.out.below hb127)
  clear Hbk49_126
  have Hrep49_128 := Lib.hid (Hrep49_126.out.below hb127)
  clear Hrep49_126
  have Hbk54_128 := Lib.hid (Hbk54_126.out.below hb127)
  clear Hbk54_126
  have Hrep54_128 := Lib.hid (Hrep54_126.out.below hb127)
  clear Hrep54_126
  have Hbk59_128 := Lib.hid (Hbk59_126.out.below hb127)
  clear Hbk59_126
  have Hrep59_128 := Lib.hid (Hrep59_126.out.below hb127)
  clear Hrep59_126
  have Hbk86_128 := Lib.hid (Hbk86_126.out.below hb127)
  clear Hbk86_126
  have Hrep86_128 := Lib.hid (Hrep86_126.out.below hb127)
  clear Hrep86_126
  have Hrep89_128 := Lib.hid (Hrep89_126.out.below hb127)
  clear Hrep89_126
  have Hrep90_128 := Lib.hid (Hrep90_126.out.below hb127)
  clear Hrep90_126
  have Hrep94_128 := Lib.hid (Hrep94_126.out.below hb127)
  clear Hrep94_126
  have Hbk97_128 := Lib.hid (Hbk97_126.out.below hb127)
  clear Hbk97_126
  have Hrep97_128 := Lib.hid (Hrep97_126.out.below hb127)
  clear Hrep97_126
  have Hbk124_128 := Lib.hid (Hbk124_126.out.below hb127)
  clear Hbk124_126
  have Hrep124_128 := Lib.hid (Hrep124_126.out.below hb127)
  clear Hrep124_126
  have HB128 := Lib.hid (HB126.out.trans (hb127.mono HB126.out.size))
  clear HB126
  have hz128 : v125.heap.size ≤ v127.heap.size := hb127.size
  clear hb127
  have hlc129 : c127.length = 11 := Rep.length _ _ _ hr127
  have HLc129 := Lib.hid hlc129
  clear hlc129
  have HOne129 := Lib.hid (Rep.one _ _ _ hr127)
  have Hrep129 := Lib.hid (show Rep v127 (fun b => b < v127.heap.size) JBuf c127 wFive from Rep.frame _ _ _ hr127 fun b h1 h2 => ⟨rfl, h2⟩)
  clear hr127
  go_wp2_with (refine step_newv (T := 24) (V := .agg c127.toArray) (bs := c127) rfl rfl rfl rfl rfl (by first | (simp; done) | decide) rfl rfl (by rw [HLc129.out]; kernel_rfl) (by rw [HLc129.out]; kernel_rfl) (HOne129.out) fun v130 M130 B130 Z130 => ?_)
  have hlt130 : v127.heap.size < v130.heap.size := M130.lt
  have Hbk1_131 := Lib.hid (Hbk1_128.out.below B130)
  clear Hbk1_128
  have Hrep1_131 := Lib.hid (Hrep1_128.out.below B130)
  clear Hrep1_128
  have Hbk3_131 := Lib.hid (Hbk3_128.out.below B130)
  clear Hbk3_128
  have Hrep3_131 := Lib.hid (Hrep3_128.out.below B130)
  clear Hrep3_128
  have Hbk39_131 := Lib.hid (Hbk39_128.out.below B130)
  clear Hbk39_128
  have Hrep39_131 := Lib.hid (Hrep39_128.out.below B130)
  clear Hrep39_128
  have Hbk42_131 := Lib.hid (Hbk42_128.out.below B130)
  clear Hbk42_128
  have Hrep42_131 := Lib.hid (Hrep42_128.out.below B130)
  clear Hrep42_128
  have Hbk49_131 := Lib.hid (Hbk49_128.out.below B130)
  clear Hbk49_128
  have Hrep49_131 := Lib.hid (Hrep49_128.out.below B130)
  clear Hrep49_128
  have Hbk54_131 := Lib.hid (Hbk54_128.out.below B130)
  clear Hbk54_128
  have Hrep54_131 := Lib.hid (Hrep54_128.out.below B130)
  clear Hrep54_128
  have Hbk59_131 := Lib.hid (Hbk59_128.out.below B130)
  clear Hbk59_128
  have Hrep59_131 := Lib.hid (Hrep59_128.out.below B130)
  clear Hrep59_128
  have Hbk86_131 := Lib.hid (Hbk86_128.out.below B130)
  clear Hbk86_128
  have Hrep86_131 := Lib.hid (Hrep86_128.out.below B130)
  clear Hrep86_128
  have Hrep89_131 := Lib.hid (Hrep89_128.out.below B130)
  clear Hrep89_128
  have Hrep90_131 := Lib.hid (Hrep90_128.out.below B130)
  clear Hrep90_128
  have Hrep94_131 := Lib.hid (Hrep94_128.out.below B130)
  clear Hrep94_128
  have Hbk97_131 := Lib.hid (Hbk97_128.out.below B130)
  clear Hbk97_128
  have Hrep97_131 := Lib.hid (Hrep97_128.out.below B130)
  clear Hrep97_128
  have Hbk124_131 := Lib.hid (Hbk124_128.out.below B130)
  clear Hbk124_128
  have Hrep124_131 := Lib.hid (Hrep124_128.out.below B130)
  clear Hrep124_128
  have Hrep129_131 := Lib.hid (Hrep129.out.below B130)
  clear Hrep129
  have HB131 := Lib.hid (HB128.out.trans (B130.mono HB128.out.size))
  clear HB128
  have hz131 : v127.heap.size ≤ v130.heap.size := B130.size
  have Hbk129_130 := Lib.hid M130
  clear M130 B130 Z130
  refine Lib.hid ?_
  go_wp2_with (refine step_loadbkw (T := 24) (cs := c127) (by rfl) rfl rfl Hbk129_130.out Try.underlying24 rfl (by rw [HLc129.out]; kernel_rfl) ?_)
  refine (ktakes v130 (fun b => b < v127.heap.size) c127 wFive 130 8 2 true none 0 0 [] Hrep129_131.out (fun b (hb : b < v127.heap.size) => by omega) (in_i64 _ (by omega)) works_facts5.1 works_facts5.2.1 works_facts5.2.2.1 works_facts5.2.2.2.1 works_facts5.2.2.2.2 rfl (fun h => absurd h (by omega))).mono ?_
  rintro e v132 ⟨c132, rfl, hr132, hb132⟩
  have Hbk1_133 := Lib.hid (Hbk1_131.out.below hb132)
  clear Hbk1_131
  have Hrep1_133 := Lib.hid (Hrep1_131.out.below hb132)
  clear Hrep1_131
  have Hbk3_133 := Lib.hid (Hbk3_131.out.below hb132)
  clear Hbk3_131
  have Hrep3_133 := Lib.hid (Hrep3_131.out.below hb132)
  clear Hrep3_131
  have Hbk39_133 := Lib.hid (Hbk39_131.out.below hb132)
  clear Hbk39_131
  have Hrep39_133 := Lib.hid (Hrep39_131.out.below hb132)
  clear Hrep39_131
  have Hbk42_133 := Lib.hid (Hbk42_131.out.below hb132)
  clear Hbk42_131
  have Hrep42_133 := Lib.hid (Hrep42_131.out.below hb132)
  clear Hrep42_131
  have Hbk49_133 := Lib.hid (Hbk49_131.out.below hb132)
  clear Hbk49_131
  have Hrep49_133 := Lib.hid (Hrep49_131.out.below hb132)
  clear Hrep49_131
  have Hbk54_133 := Lib.hid (Hbk54_131.out.below hb132)
  clear Hbk54_131
  have Hrep54_133 := Lib.hid (Hrep54_131.out.below hb132)
  clear Hrep54_131
  have Hbk59_133 := Lib.hid (Hbk59_131.out.below hb132)
  clear Hbk59_131
  have Hrep59_133 := Lib.hid (Hrep59_131.out.below hb132)
  clear Hrep59_131
  have Hbk86_133 := Lib.hid (Hbk86_131.out.below hb132)
  clear Hbk86_131
  have Hrep86_133 := Lib.hid (Hrep86_131.out.below hb132)
  clear Hrep86_131
  have Hrep89_133 := Lib.hid (Hrep89_131.out.below hb132)
  clear Hrep89_131
  have Hrep90_133 := Lib.hid (Hrep90_131.out.below hb132)
  clear Hrep90_131
  have Hrep94_133 := Lib.hid (Hrep94_131.out.below hb132)
  clear Hrep94_131
  have Hbk97_133 := Lib.hid (Hbk97_131.out.below hb132)
  clear Hbk97_131
  have Hrep97_133 := Lib.hid (Hrep97_131.out.below hb132)
  clear Hrep97_131
  have Hbk124_133 := Lib.hid (Hbk124_131.out.below hb132)
  clear Hbk124_131
  have Hrep124_133 := Lib.hid (Hrep124_131.out.below hb132)
  clear Hrep124_131
  have Hbk129_133 := Lib.hid (Hbk129_130.out.below hb132)
  clear Hbk129_130
  have Hrep129_133 := Lib.hid (Hrep129_131.out.below hb132)
  clear Hrep129_131
  have HB133 := Lib.hid (HB131.out.trans (hb132.mono HB131.out.size))
  clear HB131
  have hz133 : v130.heap.size ≤ v132.heap.size := hb132.size
  clear hb132
  have hlc134 : c132.length = 11 := Rep.length _ _ _ hr132
  have HLc134 := Lib.hid hlc134
  clear hlc134
  have HOne134 := Lib.hid (Rep.one _ _ _ hr132)
  have Hrep134 := Lib.hid (show Rep v132 (fun b => b < v132.heap.size) JBuf c132 (takeF wFive 130).1 from Rep.frame _ _ _ hr132 fun b h1 h2 => ⟨rfl, h2⟩)
  clear hr132
  go_wp2_with (refine step_newv (T := 24) (V := .agg c132.toArray) (bs := c132) rfl rfl rfl rfl rfl (by first | (simp; done) | decide) rfl rfl (by rw [HLc134.out]; kernel_rfl) (by rw [HLc134.out]; kernel_rfl) (HOne134.out) fun v135 M135 B135 Z135 => ?_)
  have hlt135 : v132.heap.size < v135.heap.size := M135.lt
  have Hbk1_136 := Lib.hid (Hbk1_133.out.below B135)
  clear Hbk1_133
  have Hrep1_136 := Lib.hid (Hrep1_133.out.below B135)
  clear Hrep1_133
  have Hbk3_136 := Lib.hid (Hbk3_133.out.below B135)
  clear Hbk3_133
  have Hrep3_136 := Lib.hid (Hrep3_133.out.below B135)
  clear Hrep3_133
  have Hbk39_136 := Lib.hid (Hbk39_133.out.below B135)
  clear Hbk39_133
  have Hrep39_136 := Lib.hid (Hrep39_133.out.below B135)
  clear Hrep39_133
  have Hbk42_136 := Lib.hid (Hbk42_133.out.below B135)
  clear Hbk42_133
  have Hrep42_136 := Lib.hid (Hrep42_133.out.below B135)
  clear Hrep42_133
  have Hbk49_136 := Lib.hid (Hbk49_133.out.below B135)
  clear Hbk49_133
  have Hrep49_136 := Lib.hid (Hrep49_133.out.below B135)
  clear Hrep49_133
  have Hbk54_136 := Lib.hid (Hbk54_133.out.below B135)
  clear Hbk54_133
  have Hrep54_136 := Lib.hid (Hrep54_133.out.below B135)
  clear Hrep54_133
  have Hbk59_136 := Lib.hid (Hbk59_133.out.below B135)
  clear Hbk59_133
  have Hrep59_136 := Lib.hid (Hrep59_133.out.below B135)
  clear Hrep59_133
  have Hbk86_136 := Lib.hid (Hbk86_133.out.below B135)
  clear Hbk86_133
  have Hrep86_136 := Lib.hid (Hrep86_133.out.below B135)
  clear Hrep86_133
  have Hrep89_136 := Lib.hid (Hrep89_133.out.below B135)
  clear Hrep89_133
  have Hrep90_136 := Lib.hid (Hrep90_133.out.below B135)
  clear Hrep90_133
  have Hrep94_136 := Lib.hid (Hrep94_133.out.below B135)
  clear Hrep94_133
  have Hbk97_136 := Lib.hid (Hbk97_133.out.below B135)
  clear Hbk97_133
  have Hrep97_136 := Lib.hid (Hrep97_133.out.below B135)
  clear Hrep97_133
  have Hbk124_136 := Lib.hid (Hbk124_133.out.below B135)
  clear Hbk124_133
  have Hrep124_136 := Lib.hid (Hrep124_133.out.below B135)
  clear Hrep124_133
  have Hbk129_136 := Lib.hid (Hbk129_133.out.below B135)
  clear Hbk129_133
  have Hrep129_136 := Lib.hid (Hrep129_133.out.below B135)
  clear Hrep129_133
  have Hrep134_136 := Lib.hid (Hrep134.out.below B135)
  clear Hrep134
  have HB136 := Lib.hid (HB133.out.trans (B135.mono HB133.out.size))
  clear HB133
  have hz136 : v132.heap.size ≤ v135.heap.size := B135.size
  have Hbk134_135 := Lib.hid M135
  clear M135 B135 Z135
  refine Lib.hid ?_
  go_wp2_with fail
  refine (new_goes v135 97 (in_i64 _ (by omega))).mono ?_
  rintro e v137 ⟨c137, rfl, hr137, hb137⟩
  have Hbk1_138 := Lib.hid (Hbk1_136.out.below hb137)
  clear Hbk1_136
  have Hrep1_138 := Lib.hid (Hrep1_136.out.below hb137)
  clear Hrep1_136
  have Hbk3_138 := Lib.hid (Hbk3_136.out.below hb137)
  clear Hbk3_136
  have Hrep3_138 := Lib.hid (Hrep3_136.out.below hb137)
  clear Hrep3_136
  have Hbk39_138 := Lib.hid (Hbk39_136.out.below hb137)
  clear Hbk39_136
  have Hrep39_138 := Lib.hid (Hrep39_136.out.below hb137)
  clear Hrep39_136
  have Hbk42_138 := Lib.hid (Hbk42_136.out.below hb137)
  clear Hbk42_136
  have Hrep42_138 := Lib.hid (Hrep42_136.out.below hb137)
  clear Hrep42_136
  have Hbk49_138 := Lib.hid (Hbk49_136.out.below hb137)
  clear Hbk49_136
  have Hrep49_138 := Lib.hid (Hrep49_136.out.below hb137)
  clear Hrep49_136
  have Hbk54_138 := Lib.hid (Hbk54_136.out.below hb137)
  clear Hbk54_136
  have Hrep54_138 := Lib.hid (Hrep54_136.out.below hb137)
  clear Hrep54_136
  have Hbk59_138 := Lib.hid (Hbk59_136.out.below hb137)
  clear Hbk59_136
  have Hrep59_138 := Lib.hid (Hrep59_136.out.below hb137)
  clear Hrep59_136
  have Hbk86_138 := Lib.hid (Hbk86_136.out.below hb137)
  clear Hbk86_136
  have Hrep86_138 := Lib.hid (Hrep86_136.out.below hb137)
  clear Hrep86_136
  have Hrep89_138 := Lib.hid (Hrep89_136.out.below hb137)
  clear Hrep89_136
  have Hrep90_138 := Lib.hid (Hrep90_136.out.below hb137)
  clear Hrep90_136
  have Hrep94_138 := Lib.hid (Hrep94_136.out.below hb137)
  clear Hrep94_136
  have Hbk97_138 := Lib.hid (Hbk97_136.out.below hb137)
  clear Hbk97_136
  have Hrep97_138 := Lib.hid (Hrep97_136.out.below hb137)
  clear Hrep97_136
  have Hbk124_138 := Lib.hid (Hbk124_136.out.below hb137)
  clear Hbk124_136
  have Hrep124_138 := Lib.hid (Hrep124_136.out.below hb137)
  clear Hrep124_136
  have Hbk129_138 := Lib.hid (Hbk129_136.out.below hb137)
  clear Hbk129_136
  have Hrep129_138 := Lib.hid (Hrep129_136.out.below hb137)
  clear Hrep129_136
  have Hbk134_138 := Lib.hid (Hbk134_135.out.below hb137)
  clear Hbk134_135
  have Hrep134_138 := Lib.hid (Hrep134_136.out.below hb137)
  clear Hrep134_136
  have HB138 := Lib.hid (HB136.out.trans (hb137.mono HB136.out.size))
  clear HB136
  have hz138 : v135.heap.size ≤ v137.heap.size := hb137.size
  clear hb137
  rw [works_facts2.2.2.2.2.2.2]
  have hlc139 : c137.length = 11 := Rep.length _ _ _ hr137
  have HLc139 := Lib.hid hlc139
  clear hlc139
  have HOne139 := Lib.hid (Rep.one _ _ _ hr137)
  have Hrep139 := Lib.hid (show Rep v137 (fun b => b < v137.heap.size) JBuf c137 (newF 97).1 from Rep.frame _ _ _ hr137 fun b h1 h2 => ⟨rfl, h2⟩)
  clear hr137
  go_wp2_with (refine step_newv (T := 24) (V := .agg c137.toArray) (bs := c137) rfl rfl rfl rfl rfl (by first | (simp; done) | decide) rfl rfl (by rw [HLc139.out]; kernel_rfl) (by rw [HLc139.out]; kernel_rfl) (HOne139.out) fun v140 M140 B140 Z140 => ?_)
  have hlt140 : v137.heap.size < v140.heap.size := M140.lt
  have Hbk1_141 := Lib.hid (Hbk1_138.out.below B140)
  clear Hbk1_138
  have Hrep1_141 := Lib.hid (Hrep1_138.out.below B140)
  clear Hrep1_138
  have Hbk3_141 := Lib.hid (Hbk3_138.out.below B140)
  clear Hbk3_138
  have Hrep3_141 := Lib.hid (Hrep3_138.out.below B140)
  clear Hrep3_138
  have Hbk39_141 := Lib.hid (Hbk39_138.out.below B140)
  clear Hbk39_138
  have Hrep39_141 := Lib.hid (Hrep39_138.out.below B140)
  clear Hrep39_138
  have Hbk42_141 := Lib.hid (Hbk42_138.out.below B140)
  clear Hbk42_138
  have Hrep42_141 := Lib.hid (Hrep42_138.out.below B140)
  clear Hrep42_138
  have Hbk49_141 := Lib.hid (Hbk49_138.out.below B140)
  clear Hbk49_138
  have Hrep49_141 := Lib.hid (Hrep49_138.out.below B140)
  clear Hrep49_138
  have Hbk54_141 := Lib.hid (Hbk54_138.out.below B140)
  clear Hbk54_138
  have Hrep54_141 := Lib.hid (Hrep54_138.out.below B140)
  clear Hrep54_138
  have Hbk59_141 := Lib.hid (Hbk59_138.out.below B140)
  clear Hbk59_138
  have Hrep59_141 := Lib.hid (Hrep59_138.out.below B140)
  clear Hrep59_138
  have Hbk86_141 := Lib.hid (Hbk86_138.out.below B140)
  clear Hbk86_138
  have Hrep86_141 := Lib.hid (Hrep86_138.out.below B140)
  clear Hrep86_138
  have Hrep89_141 := Lib.hid (Hrep89_138.out.below B140)
  clear Hrep89_138
  have Hrep90_141 := Lib.hid (Hrep90_138.out.below B140)
  clear Hrep90_138
  have Hrep94_141 := Lib.hid (Hrep94_138.out.below B140)
  clear Hrep94_138
  have Hbk97_141 := Lib.hid (Hbk97_138.out.below B140)
  clear Hbk97_138
  have Hrep97_141 := Lib.hid (Hrep97_138.out.below B140)
  clear Hrep97_138
  have Hbk124_141 := Lib.hid (Hbk124_138.out.below B140)
  clear Hbk124_138
  have Hrep124_141 := Lib.hid (Hrep124_138.out.below B140)
  clear Hrep124_138
  have Hbk129_141 := Lib.hid (Hbk129_138.out.below B140)
  clear Hbk129_138
  have Hrep129_141 := Lib.hid (Hrep129_138.out.below B140)
  clear Hrep129_138
  have Hbk134_141 := Lib.hid (Hbk134_138.out.below B140)
  clear Hbk134_138
  have Hrep134_141 := Lib.hid (Hrep134_138.out.below B140)
  clear Hrep134_138
  have Hrep139_141 := Lib.hid (Hrep139.out.below B140)
  clear Hrep139
  have HB141 := Lib.hid (HB138.out.trans (B140.mono HB138.out.size))
  clear HB138
  have hz141 : v137.heap.size ≤ v140.heap.size := B140.size
  have Hbk139_140 := Lib.hid M140
  clear M140 B140 Z140
  refine Lib.hid ?_
  go_wp2_with fail
  refine (fresh_goes v140 8 (in_i64 _ (by omega))).mono ?_
  rintro e v142 ⟨c142, rfl, hr142, hb142⟩
  have Hbk1_143 := Lib.hid (Hbk1_141.out.below hb142)
  clear Hbk1_141
  have Hrep1_143 := Lib.hid (Hrep1_141.out.below hb142)
  clear Hrep1_141
  have Hbk3_143 := Lib.hid (Hbk3_141.out.below hb142)
  clear Hbk3_141
  have Hrep3_143 := Lib.hid (Hrep3_141.out.below hb142)
  clear Hrep3_141
  have Hbk39_143 := Lib.hid (Hbk39_141.out.below hb142)
  clear Hbk39_141
  have Hrep39_143 := Lib.hid (Hrep39_141.out.below hb142)
  clear Hrep39_141
  have Hbk42_143 := Lib.hid (Hbk42_141.out.below hb142)
  clear Hbk42_141
  have Hrep42_143 := Lib.hid (Hrep42_141.out.below hb142)
  clear Hrep42_141
  have Hbk49_143 := Lib.hid (Hbk49_141.out.below hb142)
  clear Hbk49_141
  have Hrep49_143 := Lib.hid (Hrep49_141.out.below hb142)
  clear Hrep49_141
  have Hbk54_143 := Lib.hid (Hbk54_141.out.below hb142)
  clear Hbk54_141
  have Hrep54_143 := Lib.hid (Hrep54_141.out.below hb142)
  clear Hrep54_141
  have Hbk59_143 := Lib.hid (Hbk59_141.out.below hb142)
  clear Hbk59_141
  have Hrep59_143 := Lib.hid (Hrep59_141.out.below hb142)
  clear Hrep59_141
  have Hbk86_143 := Lib.hid (Hbk86_141.out.below hb142)
  clear Hbk86_141
  have Hrep86_143 := Lib.hid (Hrep86_141.out.below hb142)
  clear Hrep86_141
  have Hrep89_143 := Lib.hid (Hrep89_141.out.below hb142)
  clear Hrep89_141
  have Hrep90_143 := Lib.hid (Hrep90_141.out.below hb142)
  clear Hrep90_141
  have Hrep94_143 := Lib.hid (Hrep94_141.out.below hb142)
  clear Hrep94_141
  have Hbk97_143 := Lib.hid (Hbk97_141.out.below hb142)
  clear Hbk97_141
  have Hrep97_143 := Lib.hid (Hrep97_141.out.below hb142)
  clear Hrep97_141
  have Hbk124_143 := Lib.hid (Hbk124_141.out.below hb142)
  clear Hbk124_141
  have Hrep124_143 := Lib.hid (Hrep124_141.out.below hb142)
  clear Hrep124_141
  have Hbk129_143 := Lib.hid (Hbk129_141.out.below hb142)
  clear Hbk129_141
  have Hrep129_143 := Lib.hid (Hrep129_141.out.below hb142)
  clear Hrep129_141
  have Hbk134_143 := Lib.hid (Hbk134_141.out.below hb142)
  clear Hbk134_141
  have Hrep134_143 := Lib.hid (Hrep134_141.out.below hb142)
  clear Hrep134_141
  have Hbk139_143 := Lib.hid (Hbk139_140.out.below hb142)
  clear Hbk139_140
  have Hrep139_143 := Lib.hid (Hrep139_141.out.below hb142)
  clear Hrep139_141
  have HB143 := Lib.hid (HB141.out.trans (hb142.mono HB141.out.size))
  clear HB141
  have hz143 : v140.heap.size ≤ v142.heap.size := hb142.size
  clear hb142
  have hlc144 : c142.length = 11 := Rep.length _ _ _ hr142
  have HLc144 := Lib.hid hlc144
  clear hlc144
  have HOne144 := Lib.hid (Rep.one _ _ _ hr142)
  have Hrep144 := Lib.hid (show Rep v142 (fun b => b < v142.heap.size) JBuf c142 (newF 8).1 from Rep.frame _ _ _ hr142 fun b h1 h2 => ⟨rfl, h2⟩)
  clear hr142
  go_wp2_with fail
  refine (Due_goes v142 (fun b => b < v142.heap.size) c142 (newF 8).1 Hrep144.out (fun b (hb : b < v142.heap.size) => by omega)).mono ?_
  rintro e v145 ⟨rfl, hb145⟩
  have Hbk1_146 := Lib.hid (Hbk1_143.out.below hb145)
  clear Hbk1_143
  have Hrep1_146 := Lib.hid (Hrep1_143.out.below hb145)
  clear Hrep1_143
  have Hbk3_146 := Lib.hid (Hbk3_143.out.below hb145)
  clear Hbk3_143
  have Hrep3_146 := Lib.hid (Hrep3_143.out.below hb145)
  clear Hrep3_143
  have Hbk39_146 := Lib.hid (Hbk39_143.out.below hb145)
  clear Hbk39_143
  have Hrep39_146 := Lib.hid (Hrep39_143.out.below hb145)
  clear Hrep39_143
  have Hbk42_146 := Lib.hid (Hbk42_143.out.below hb145)
  clear Hbk42_143
  have Hrep42_146 := Lib.hid (Hrep42_143.out.below hb145)
  clear Hrep42_143
  have Hbk49_146 := Lib.hid (Hbk49_143.out.below hb145)
  clear Hbk49_143
  have Hrep49_146 := Lib.hid (Hrep49_143.out.below hb145)
  clear Hrep49_143
  have Hbk54_146 := Lib.hid (Hbk54_143.out.below hb145)
  clear Hbk54_143
  have Hrep54_146 := Lib.hid (Hrep54_143.out.below hb145)
  clear Hrep54_143
  have Hbk59_146 := Lib.hid (Hbk59_143.out.below hb145)
  clear Hbk59_143
  have Hrep59_146 := Lib.hid (Hrep59_143.out.below hb145)
  clear Hrep59_143
  have Hbk86_146 := Lib.hid (Hbk86_143.out.below hb145)
  clear Hbk86_143
  have Hrep86_146 := Lib.hid (Hrep86_143.out.below hb145)
  clear Hrep86_143
  have Hrep89_146 := Lib.hid (Hrep89_143.out.below hb145)
  clear Hrep89_143
  have Hrep90_146 := Lib.hid (Hrep90_143.out.below hb145)
  clear Hrep90_143
  have Hrep94_146 := Lib.hid (Hrep94_143.out.below hb145)
  clear Hrep94_143
  have Hbk97_146 := Lib.hid (Hbk97_143.out.below hb145)
  clear Hbk97_143
  have Hrep97_146 := Lib.hid (Hrep97_143.out.below hb145)
  clear Hrep97_143
  have Hbk124_146 := Lib.hid (Hbk124_143.out.below hb145)
  clear Hbk124_143
  have Hrep124_146 := Lib.hid (Hrep124_143.out.below hb145)
  clear Hrep124_143
  have Hbk129_146 := Lib.hid (Hbk129_143.out.below hb145)
  clear Hbk129_143
  have Hrep129_146 := Lib.hid (Hrep129_143.out.below hb145)
  clear Hrep129_143
  have Hbk134_146 := Lib.hid (Hbk134_143.out.below hb145)
  clear Hbk134_143
  have Hrep134_146 := Lib.hid (Hrep134_143.out.below hb145)
  clear Hrep134_143
  have Hbk139_146 := Lib.hid (Hbk139_143.out.below hb145)
  clear Hbk139_143
  have Hrep139_146 := Lib.hid (Hrep139_143.out.below hb145)
  clear Hrep139_143
  have Hrep144_146 := Lib.hid (Hrep144.out.below hb145)
  clear Hrep144
  have HB146 := Lib.hid (HB143.out.trans (hb145.mono HB143.out.size))
  clear HB143
  have hz146 : v142.heap.size ≤ v145.heap.size := hb145.size
  clear hb145
  rw [works_facts2.2.2.2.2.2.1]
  go_wp2_with (refine step_loadbkw (T := 24) (cs := cs13) (by rfl) rfl rfl Hbk39_146.out Try.underlying24 rfl (by rw [HLc39.out]; kernel_rfl) ?_)
  refine (kdue_goes v145 (fun b => b < v13.heap.size) cs13 wOne 110 Hrep39_146.out (fun b (hb : b < v13.heap.size) => by omega) works_facts2.2.2.1).mono ?_
  rintro e v147 ⟨rfl, hb147⟩
  have Hbk1_148 := Lib.hid (Hbk1_146.out.below hb147)
  clear Hbk1_146
  have Hrep1_148 := Lib.hid (Hrep1_146.out.below hb147)
  clear Hrep1_146
  have Hbk3_148 := Lib.hid (Hbk3_146.out.below hb147)
  clear Hbk3_146
  have Hrep3_148 := Lib.hid (Hrep3_146.out.below hb147)
  clear Hrep3_146
  have Hbk39_148 := Lib.hid (Hbk39_146.out.below hb147)
  clear Hbk39_146
  have Hrep39_148 := Lib.hid (Hrep39_146.out.below hb147)
  clear Hrep39_146
  have Hbk42_148 := Lib.hid (Hbk42_146.out.below hb147)
  clear Hbk42_146
  have Hrep42_148 := Lib.hid (Hrep42_146.out.below hb147)
  clear Hrep42_146
  have Hbk49_148 := Lib.hid (Hbk49_146.out.below hb147)
  clear Hbk49_146
  have Hrep49_148 := Lib.hid (Hrep49_146.out.below hb147)
  clear Hrep49_146
  have Hbk54_148 := Lib.hid (Hbk54_146.out.below hb147)
  clear Hbk54_146
  have Hrep54_148 := Lib.hid (Hrep54_146.out.below hb147)
  clear Hrep54_146
  have Hbk59_148 := Lib.hid (Hbk59_146.out.below hb147)
  clear Hbk59_146
  have Hrep59_148 := Lib.hid (Hrep59_146.out.below hb147)
  clear Hrep59_146
  have Hbk86_148 := Lib.hid (Hbk86_146.out.below hb147)
  clear Hbk86_146
  have Hrep86_148 := Lib.hid (Hrep86_146.out.below hb147)
  clear Hrep86_146
  have Hrep89_148 := Lib.hid (Hrep89_146.out.below hb147)
  clear Hrep89_146
  have Hrep90_148 := Lib.hid (Hrep90_146.out.below hb147)
  clear Hrep90_146
  have Hrep94_148 := Lib.hid (Hrep94_146.out.below hb147)
  clear Hrep94_146
  have Hbk97_148 := Lib.hid (Hbk97_146.out.below hb147)
  clear Hbk97_146
  have Hrep97_148 := Lib.hid (Hrep97_146.out.below hb147)
  clear Hrep97_146
  have Hbk124_148 := Lib.hid (Hbk124_146.out.below hb147)
  clear Hbk124_146
  have Hrep124_148 := Lib.hid (Hrep124_146.out.below hb147)
  clear Hrep124_146
  have Hbk129_148 := Lib.hid (Hbk129_146.out.below hb147)
  clear Hbk129_146
  have Hrep129_148 := Lib.hid (Hrep129_146.out.below hb147)
  clear Hrep129_146
  have Hbk134_148 := Lib.hid (Hbk134_146.out.below hb147)
  clear Hbk134_146
  have Hrep134_148 := Lib.hid (Hrep134_146.out.below hb147)
  clear Hrep134_146
  have Hbk139_148 := Lib.hid (Hbk139_146.out.below hb147)
  clear Hbk139_146
  have Hrep139_148 := Lib.hid (Hrep139_146.out.below hb147)
  clear Hrep139_146
  have Hrep144_148 := Lib.hid (Hrep144_146.out.below hb147)
  clear Hrep144_146
  have HB148 := Lib.hid (HB146.out.trans (hb147.mono HB146.out.size))
  clear HB146
  have hz148 : v145.heap.size ≤ v147.heap.size := hb147.size
  clear hb147
  have hj8 := cell8 Hbk54_148.out Hrep54_148.out
  rw [works_facts2.2.2.2.2.1] at hj8
  go_wp2_with (refine step_loadbkw (T := 24) (cs := c52) (by rfl) rfl rfl Hbk54_148.out Try.underlying24 rfl (by rw [HLc54.out]; kernel_rfl) ?_)
  refine (kdue_goes v147 (fun b => b < v52.heap.size) c52 wThree 130 Hrep54_148.out (fun b (hb : b < v52.heap.size) => by omega) works_facts2.2.2.2.1).mono ?_
  rintro e v149 ⟨rfl, hb149⟩
  have Hbk1_150 := Lib.hid (Hbk1_148.out.below hb149)
  clear Hbk1_148
  have Hrep1_150 := Lib.hid (Hrep1_148.out.below hb149)
  clear Hrep1_148
  have Hbk3_150 := Lib.hid (Hbk3_148.out.below hb149)
  clear Hbk3_148
  have Hrep3_150 := Lib.hid (Hrep3_148.out.below hb149)
  clear Hrep3_148
  have Hbk39_150 := Lib.hid (Hbk39_148.out.below hb149)
  clear Hbk39_148
  have Hrep39_150 := Lib.hid (Hrep39_148.out.below hb149)
  clear Hrep39_148
  have Hbk42_150 := Lib.hid (Hbk42_148.out.below hb149)
  clear Hbk42_148
  have Hrep42_150 := Lib.hid (Hrep42_148.out.below hb149)
  clear Hrep42_148
  have Hbk49_150 := Lib.hid (Hbk49_148.out.below hb149)
  clear Hbk49_148
  have Hrep49_150 := Lib.hid (Hrep49_148.out.below hb149)
  clear Hrep49_148
  have Hbk54_150 := Lib.hid (Hbk54_148.out.below hb149)
  clear Hbk54_148
  have Hrep54_150 := Lib.hid (Hrep54_148.out.below hb149)
  clear Hrep54_148
  have Hbk59_150 := Lib.hid (Hbk59_148.out.below hb149)
  clear Hbk59_148
  have Hrep59_150 := Lib.hid (Hrep59_148.out.below hb149)
  clear Hrep59_148
  have Hbk86_150 := Lib.hid (Hbk86_148.out.below hb149)
  clear Hbk86_148
  have Hrep86_150 := Lib.hid (Hrep86_148.out.below hb149)
  clear Hrep86_148
  have Hrep89_150 := Lib.hid (Hrep89_148.out.below hb149)
  clear Hrep89_148
  have Hrep90_150 := Lib.hid (Hrep90_148.out.below hb149)
  clear Hrep90_148
  have Hrep94_150 := Lib.hid (Hrep94_148.out.below hb149)
  clear Hrep94_148
  have Hbk97_150 := Lib.hid (Hbk97_148.out.below hb149)
  clear Hbk97_148
  have Hrep97_150 := Lib.hid (Hrep97_148.out.below hb149)
  clear Hrep97_148
  have Hbk124_150 := Lib.hid (Hbk124_148.out.below hb149)
  clear Hbk124_148
  have Hrep124_150 := Lib.hid (Hrep124_148.out.below hb149)
  clear Hrep124_148
  have Hbk129_150 := Lib.hid (Hbk129_148.out.below hb149)
  clear Hbk129_148
  have Hrep129_150 := Lib.hid (Hrep129_148.out.below hb149)
  clear Hrep129_148
  have Hbk134_150 := Lib.hid (Hbk134_148.out.below hb149)
  clear Hbk134_148
  have Hrep134_150 := Lib.hid (Hrep134_148.out.below hb149)
  clear Hrep134_148
  have Hbk139_150 := Lib.hid (Hbk139_148.out.below hb149)
  clear Hbk139_148
  have Hrep139_150 := Lib.hid (Hrep139_148.out.below hb149)
  clear Hrep139_148
  have Hrep144_150 := Lib.hid (Hrep144_148.out.below hb149)
  clear Hrep144_148
  have HB150 := Lib.hid (HB148.out.trans (hb149.mono HB148.out.size))
  clear HB148
  have hz150 : v147.heap.size ≤ v149.heap.size := hb149.size
  clear hb149
  go_wp2_with fail
  exact HPost.out _ _ ⟨rfl, HB150.out⟩
end Go.Proofs.Ytjmohkgbfigcgaa.Sh
