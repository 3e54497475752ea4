/- the call closures of this law: each hands back viewers of what is its own. -/
import Derived.Test.YtjmohkgbfigcgaaJTake
import Derived.Test.YtjmohkgbfigcgaaOrd2
import Derived.Test.YtjmohkgbfigcgaaSees
namespace Go.Proofs.Ytjmohkgbfigcgaa.Sh
open Go Go.RowKit
set_option linter.unusedVariables false
set_option linter.unusedSimpArgs false

theorem wp_allocbk {P : Program} {o : Oper} {a : Act} {K : Act → World → Prop} {Q : Exit → Act → World → Prop} {w : World} {T : TypeId} {cs : List Value}
    (ho : o.op = .alloc T) (hz : (P.info? T).map (fun i => i.zero.map (·.cells)) = some (some cs.toArray))
    (h : ∀ w', Bk w' w.heap.size T cs → Below w.heap.size w w' → w'.heap.size = w.heap.size + 1 → K (a.put o.dst (.pointer (some ⟨w.heap.size, 0, none⟩))) w') : o.wp P a w K Q := by
  obtain ⟨i, hi, h1⟩ := Option.map_eq_some_iff.1 hz
  obtain ⟨z, hz, h2⟩ := Option.map_eq_some_iff.1 h1
  have hr : (execOp a.eval o).run P w = .ok (.value (.pointer (some ⟨w.heap.size, 0, none⟩))) (w.alloc (.cells cs.toArray T)) := by
    replace h2 : z.cells = cs.toArray := h2
    rw [← h2]
    simp [execOp, ho, Instr.alloc, zeroValue, typeInfo, newVar, newRow, hi, hz]
  unfold Oper.wp
  rw [hr]
  exact h _ (Bk.new w _ cs) ((Below.refl _ w).alloc (Nat.le_refl _) _) (alloc_size _ _)

theorem wp_storecell {P : Program} {o : Oper} {a : Act} {K : Act → World → Prop} {Q : Exit → Act → World → Prop} {W : World} {n : Nat} {T TT : TypeId} {x y : Operand} {v v0 : Value}
    (ho : o.op = .store T x y) (hx : a.eval x = .pointer (some ⟨n, 0, none⟩)) (hy : a.eval y = v) (hz : Bk W n TT [v0]) (hc : v.cells = #[v]) (hsz : (P.info? T).map (·.size) = some 1) (hone : v.oneCell' = true)
    (h : ∀ W', Bk W' n TT [v] → W.grownBy W' (some n) → K (a.put o.dst undef) W') : o.wp P a W K Q := by
  have hst := run_storeCells_at P n 0 TT [v] 0 _ W hz (by simp) (by simpa using hone)
  have hsize : (sizeOf T).run P W = .ok 1 W := by
    cases hq : P.info? T with
    | none => simp [hq] at hsz
    | some i => simp [hq] at hsz; simp [sizeOf, typeInfo, hq, hsz]
  have hr : (execOp a.eval o).run P W = .ok .skip (W.setRow n #[v]) := by
    simp only [execOp, ho, hy, hx, Instr.storeAt, Instr.sureAddr, storeVar, Sem.run_bind, Sem.run_pure, Result.andThen_ok, hsize, hc, List.size_toArray, List.length_cons, List.length_nil, Nat.zero_add, ne_eq, not_true_eq_false, if_false, hst]
    simp
  unfold Oper.wp
  rw [hr]
  exact h _ (setRow_heap W n _ _ TT _ hz) ⟨rfl, rfl, rfl, by rw [setRow_size]; exact Nat.le_refl _, fun k hk hn => setRow_other _ _ _ _ (fun e => hn (by rw [e]))⟩
def CallPost (w : World) (e : Ending) (w' : World) : Prop := ∃ A c gb vs, e = .returned (.slice A (List.length vs) c) ∧ List.length vs ≤ 1000 ∧ (0 < List.length vs → A = some ⟨gb, 0, none⟩ ∧ gb < w'.heap.size ∧ At w' gb 0 (List.map View.val vs)) ∧
    w.heap.size ≤ gb ∧ gb ≤ w'.heap.size ∧ (∀ v ∈ vs, View.In w' w.heap.size gb v) ∧ Below w.heap.size w w'
@[reducible] def JAll : Ty := .cons JBuf (.cons (.int .i64) (.cons (.int .i64) (.cons JMed .nil)))
theorem rep_all {w : World} {S : Nat → Prop} {cs : List Value} {db : JBuf.Data} {ck nw : Int} {m : JMed.Data} {u : Unit} (h : Rep w S JAll cs (db, ck, nw, m, u)) :
    ∃ cb cm, cs = cb ++ (.int .i64 ck :: .int .i64 nw :: cm) ∧ Rep w S JBuf cb db ∧ Rep w S JMed cm m ∧ (IntKind.i64.min ≤ ck ∧ ck ≤ IntKind.i64.max) ∧ (IntKind.i64.min ≤ nw ∧ nw ≤ IntKind.i64.max) ∧ cb.length = 11 ∧ cm.length = 9 := by
  obtain ⟨cb, _, rfl, hb, _, _, rfl, ⟨rfl, hc⟩, _, _, rfl, ⟨rfl, hn⟩, cm, _, rfl, hm, rfl⟩ := h
  exact ⟨cb, cm, by simp, hb, hm, hc, hn, Rep.length _ _ _ hb, Rep.length _ _ _ hm⟩
/-- the four parts, where they lie -/
theorem all_at {w : World} {pb : Nat} {TT : TypeId} {cb cm : List Value} {ck nw : Int} (h : Bk w pb TT (cb ++ (.int .i64 ck :: .int .i64 nw :: cm))) (h1 : cb.length = 11) :
    At w pb 0 cb ∧ w.cell? ⟨pb, 11, none⟩ = some (.int .i64 ck) ∧ w.cell? ⟨pb, 12, none⟩ = some (.int .i64 nw) ∧ At w pb 13 cm := by
  have hat := h.at_
  refine ⟨fun j v hv => hat j v (by rw [List.getElem?_append_left (List.getElem?_eq_some_iff.1 hv).1]; exact hv), h.cell 11 ?_, h.cell 12 ?_, fun j v hv => ?_⟩
  · rw [List.getElem?_append_right (by omega), h1]; rfl
  · rw [List.getElem?_append_right (by omega), h1]; rfl
  · have := hat (13 + j) v (by rw [List.getElem?_append_right (by omega), h1, show 13 + j - 11 = j + 2 by omega]; exact hv)
    rwa [Nat.zero_add] at this
theorem fits_buf (d : JBuf.Data) : Fits JBuf d [] [] := fits_of (by decide) (by decide) (by decide) d
theorem fits_meds (d : List JMed.Data) : Fits (.sl JMed 112) d [] [] := fits_of (T := .sl JMed 112) (by decide) (by decide) (by decide) d

set_option maxRecDepth 100000 in
theorem looks_11 : Looks 11 JBuf := by
  intro mk w B eb eo pb po S d ns ss at_ st
  have H := Lib.hid (looks_12 mk w B eb eo pb po S d ns ss at_ st)
  clear st
  go_enter Try.func11, Try.ntmps11
  go_wp2_with fail
  refine H.out.mono ?_
  rintro r w1 ⟨rfl, p1⟩
  have HP := Lib.hid p1
  clear p1 H
  go_wp2_with fail
  go_end0
  exact ⟨rfl, HP.out⟩

set_option maxRecDepth 100000 in
theorem looks_15 : Looks 15 JBuf := by
  intro mk w B eb eo pb po S d ns ss at_ st
  have H := Lib.hid (looks_12 mk w B eb eo pb po S d ns ss at_ st)
  clear st
  go_enter Try.func15, Try.ntmps15
  go_wp2_with fail
  refine H.out.mono ?_
  rintro r w1 ⟨rfl, p1⟩
  have HP := Lib.hid p1
  clear p1 H
  go_wp2_with fail
  go_end0
  exact ⟨rfl, HP.out⟩

set_option maxRecDepth 100000 in
theorem looks_20 : Looks 20 JBuf := by
  intro mk w B eb eo pb po S d ns ss at_ st
  have H := Lib.hid (looks_12 mk w B eb eo pb po S d ns ss at_ st)
  clear st
  go_enter Try.func20, Try.ntmps20
  go_wp2_with fail
  refine H.out.mono ?_
  rintro r w1 ⟨rfl, p1⟩
  have HP := Lib.hid p1
  clear p1 H
  go_wp2_with fail
  go_end0
  exact ⟨rfl, HP.out⟩

set_option maxRecDepth 100000 in
theorem looks_21 : Looks 21 (.sl JMed 112) := by
  intro mk w B eb eo pb po S d ns ss at_ st
  have H := Lib.hid (looks_22 mk w B eb eo pb po S d ns ss at_ st)
  clear st
  go_enter Try.func21, Try.ntmps21
  go_wp2_with fail
  refine H.out.mono ?_
  rintro r w1 ⟨rfl, p1⟩
  have HP := Lib.hid p1
  clear p1 H
  go_wp2_with fail
  go_end0
  exact ⟨rfl, HP.out⟩

set_option maxRecDepth 100000 in
set_option maxHeartbeats 3200000 in
theorem call_1 : Call 30 JAll 7 := by
  intro w pb S cs d hbk hr hfew hS
  obtain ⟨db, ck, nw, m, ⟨⟩⟩ := d
  obtain ⟨cb, cm, rfl, hb, hm, hck, hnw, hl1, hl2⟩ := rep_all hr
  obtain ⟨ha1, ha2, ha3, ha4⟩ := all_at hbk hl1
  have hpb := hbk.lt
  have HA1 := Lib.hid ha1
  have HA4 := Lib.hid ha4
  have HRb := Lib.hid hb
  have HRm := Lib.hid hm
  have HS := Lib.hid hS
  have HL1 := Lib.hid hl1
  have HL2 := Lib.hid hl2
  clear ha1 ha4 hb hm hS hl1 hl2 hr hbk hfew
  show Calls _ _ _ _ (CallPost w)
  go_enter Try.func7, Try.ntmps7
  go_wp2_with (refine wpList_load_mid rfl 24 _ rfl pb 0 rfl cb _ (fun j v hv => (HA1.out j v hv).1) Try.underlying24 rfl (by rw [HL1.out]; kernel_rfl) ?_)
  refine (check_goes w S cb db HRb.out HS.out).mono ?_
  rintro e w1 ⟨rfl, hb1⟩
  have HB1 := Lib.hid hb1
  clear hb1
  go_wp2_with fail
  all_goals go_ret
  all_goals exact ⟨none, 0, w1.heap.size, [], rfl, by simp, fun h => absurd h (by simp), HB1.out.size, Nat.le_refl _, fun v hv => absurd hv (by simp), HB1.out⟩

set_option maxRecDepth 100000 in
set_option maxHeartbeats 3200000 in
theorem call_4 : Call 30 JAll 16 := by
  intro w pb S cs d hbk hr hfew hS
  obtain ⟨db, ck, nw, m, ⟨⟩⟩ := d
  obtain ⟨cb, cm, rfl, hb, hm, hck, hnw, hl1, hl2⟩ := rep_all hr
  obtain ⟨ha1, ha2, ha3, ha4⟩ := all_at hbk hl1
  have hpb := hbk.lt
  have HA1 := Lib.hid ha1
  have HA4 := Lib.hid ha4
  have HRb := Lib.hid hb
  have HRm := Lib.hid hm
  have HS := Lib.hid hS
  have HL1 := Lib.hid hl1
  have HL2 := Lib.hid hl2
  clear ha1 ha4 hb hm hS hl1 hl2 hr hbk hfew
  show Calls _ _ _ _ (CallPost w)
  go_enter Try.func16, Try.ntmps16
  go_wp2_with (refine wpList_load_mid rfl 24 _ rfl pb 0 rfl cb _ (fun j v hv => (HA1.out j v hv).1) Try.underlying24 rfl (by rw [HL1.out]; kernel_rfl) ?_)
  refine (Due_goes w S cb db HRb.out HS.out).mono ?_
  rintro e w1 ⟨rfl, hb1⟩
  have HB1 := Lib.hid hb1
  clear hb1
  go_wp2_with fail
  all_goals go_ret
  all_goals exact ⟨none, 0, w1.heap.size, [], rfl, by simp, fun h => absurd h (by simp), HB1.out.size, Nat.le_refl _, fun v hv => absurd hv (by simp), HB1.out⟩

set_option maxRecDepth 100000 in
set_option maxHeartbeats 3200000 in
theorem call_2 : Call 30 JAll 9 := by
  intro w pb S cs d hbk hr hfew hS
  obtain ⟨db, ck, nw, m, ⟨⟩⟩ := d
  obtain ⟨cb, cm, rfl, hb, hm, hck, hnw, hl1, hl2⟩ := rep_all hr
  obtain ⟨ha1, ha2, ha3, ha4⟩ := all_at hbk hl1
  have hpb := hbk.lt
  have HA1 := Lib.hid ha1
  have HA4 := Lib.hid ha4
  have HRb := Lib.hid hb
  have HRm := Lib.hid hm
  have HS := Lib.hid hS
  have HL1 := Lib.hid hl1
  have HL2 := Lib.hid hl2
  clear ha1 ha4 hb hm hS hl1 hl2 hr hbk hfew
  show Calls _ _ _ _ (CallPost w)
  go_enter Try.func9, Try.ntmps9
  go_wp2_with fail
  refine (new_goes w ck hck).mono ?_
  rintro e w1 ⟨c1, rfl, hr1, hb1⟩
  have hlc : c1.length = 11 := Rep.length _ _ _ hr1
  have HLc := Lib.hid hlc
  have HR1 := Lib.hid (show Rep w1 (fun b => w.heap.size ≤ b ∧ b < w1.heap.size) JBuf c1 (newF ck).1 from Rep.frame _ _ _ hr1 fun b h1 h2 => ⟨rfl, h1, h2⟩)
  have HB1 := Lib.hid hb1
  have hz1 := hb1.size
  clear hr1 hb1 hlc
  go_wp2_with (refine step_newv (T := 24) (V := .agg c1.toArray) (bs := c1) rfl rfl rfl rfl rfl (by first | (simp; done) | decide) rfl rfl (by rw [HLc.out]; kernel_rfl) (by rw [HLc.out]; kernel_rfl) (Rep.one _ _ _ HR1.out) fun w2 M2 B2 Z2 => ?_)
  have HM2 := Lib.hid M2
  have HR2 := Lib.hid (HR1.out.below B2)
  have HB2 := Lib.hid (HB1.out.trans (B2.mono hz1))
  have HZ2 := Lib.hid Z2
  clear M2 B2 Z2
  refine Lib.hid ?_
  go_wp2_with fail
  go_ret
  have hz2 := HZ2.out
  have bN : Below w2.heap.size w2 (w2.alloc (.cells #[.func (.func 11) #[] #[.pointer (some ⟨w1.heap.size, 0, none⟩)]] 44)) := (Below.refl _ w2).alloc (Nat.le_refl _) _
  have MN := Bk.new w2 44 [.func (.func 11) #[] #[.pointer (some ⟨w1.heap.size, 0, none⟩)]]
  refine ⟨some ⟨w2.heap.size, 0, none⟩, 1, w2.heap.size, [⟨11, w1.heap.size, JBuf, (newF ck).1⟩], rfl, by simp, fun _ => ⟨rfl, MN.lt, MN.at_⟩, by omega, bN.size, fun v hv => ?_, HB2.out.trans (bN.mono (by omega))⟩
  obtain rfl : v = _ := by simpa using hv
  exact ⟨looks_11, ⟨_, _, Try.func11, by kernel_rfl, rfl⟩, (show w.heap.size ≤ w1.heap.size from hz1), (show w1.heap.size < w2.heap.size by omega), bN.size, ⟨c1, (HM2.out.below bN).at_, Rep.frame _ _ _ (HR2.out.below bN) fun b h1 h2 => ⟨rfl, h1.1, (show b < w2.heap.size by have := h1.2; omega)⟩⟩, fits_buf _⟩

set_option maxRecDepth 100000 in
set_option maxHeartbeats 3200000 in
theorem call_3 : Call 30 JAll 13 := by
  intro w pb S cs d hbk hr hfew hS
  obtain ⟨db, ck, nw, m, ⟨⟩⟩ := d
  obtain ⟨cb, cm, rfl, hb, hm, hck, hnw, hl1, hl2⟩ := rep_all hr
  obtain ⟨ha1, ha2, ha3, ha4⟩ := all_at hbk hl1
  have hpb := hbk.lt
  have HA1 := Lib.hid ha1
  have HA4 := Lib.hid ha4
  have HRb := Lib.hid hb
  have HRm := Lib.hid hm
  have HS := Lib.hid hS
  have HL1 := Lib.hid hl1
  have HL2 := Lib.hid hl2
  clear ha1 ha4 hb hm hS hl1 hl2 hr hbk hfew
  show Calls _ _ _ _ (CallPost w)
  obtain ⟨fr, now, bg, fd, sq, hg, lw, bs, jt, ls, hs, ⟨⟩⟩ := db
  go_enter Try.func13, Try.ntmps13
  go_wp2_with fail
  have hdr : Below w.heap.size w w.drew := (Below.refl _ w).drew
  have HB0 := Lib.hid hdr
  have z0 : w.heap.size ≤ w.drew.heap.size := hdr.size
  clear hdr
  refine wp_region_plan 18 (.read 0 (.read 1 (.read 2 (.read 3 (.read 4 (.read 5 (.read 6 (.read 7 (.read 8 (.read 9 (.read 10 (.read 11 (.two 12 (.read 13 (.read 14 (.read 15 (.make 16 (.make 17 .stop))))) 16 (.make 12 (.read 13 (.read 14 (.read 15 (.make 17 .stop)))))))))))))))))) (fun u => Below w.heap.size w u) (by kernel_rfl) (by kernel_rfl) HB0.out ?_
  refine plan_read (by rfl) (by rfl) (fun u hu => by (clear hu; go_simp; try rfl)) ?_
  try simp only [Act.put, List.setIfInBounds_toArray, List.set_cons_zero, List.set_cons_succ, List.getElem_toArray, List.getElem_cons_succ, List.getElem_cons_zero]
  refine plan_read (by rfl) (by rfl) (fun u hu => by (clear hu; go_simp; try rfl)) ?_
  try simp only [Act.put, List.setIfInBounds_toArray, List.set_cons_zero, List.set_cons_succ, List.getElem_toArray, List.getElem_cons_succ, List.getElem_cons_zero]
  refine plan_read (by rfl) (by rfl) (fun u hu => by (clear hu; go_simp; try rfl)) ?_
  try simp only [Act.put, List.setIfInBounds_toArray, List.set_cons_zero, List.set_cons_succ, List.getElem_toArray, List.getElem_cons_succ, List.getElem_cons_zero]
  refine plan_read (v := .agg cb.toArray) (by rfl) (by rfl) (fun u hu => exec_load_mid (ty := 24) (x := .tmp 8) (b := pb) (off := 0) (cs := cb) rfl rfl u (HA1.out.frame (hu.block pb hpb)) Try.underlying24 rfl (by rw [HL1.out]; kernel_rfl)) ?_
  try simp only [Act.put, List.setIfInBounds_toArray, List.set_cons_zero, List.set_cons_succ, List.getElem_toArray, List.getElem_cons_succ, List.getElem_cons_zero]
  refine plan_read (by rfl) (by rfl) (fun u hu => by (clear hu; go_simp; try rfl)) ?_
  try simp only [Act.put, List.setIfInBounds_toArray, List.set_cons_zero, List.set_cons_succ, List.getElem_toArray, List.getElem_cons_succ, List.getElem_cons_zero]
  refine plan_read (by rfl) (by rfl) (fun u hu => by (clear hu; go_simp; try rfl)) ?_
  try simp only [Act.put, List.setIfInBounds_toArray, List.set_cons_zero, List.set_cons_succ, List.getElem_toArray, List.getElem_cons_succ, List.getElem_cons_zero]
  refine plan_read (by rfl) (by rfl) (fun u hu => by (clear hu; go_simp; try rfl)) ?_
  try simp only [Act.put, List.setIfInBounds_toArray, List.set_cons_zero, List.set_cons_succ, List.getElem_toArray, List.getElem_cons_succ, List.getElem_cons_zero]
  refine plan_read (by rfl) (by rfl) (fun u hu => by (have h12 := (bcell' hu hpb).trans ha3; clear hu; go_simp; try rfl)) ?_
  try simp only [Act.put, List.setIfInBounds_toArray, List.set_cons_zero, List.set_cons_succ, List.getElem_toArray, List.getElem_cons_succ, List.getElem_cons_zero]
  refine plan_read (by rfl) (by rfl) (fun u hu => by (clear hu; go_simp; try rfl)) ?_
  try simp only [Act.put, List.setIfInBounds_toArray, List.set_cons_zero, List.set_cons_succ, List.getElem_toArray, List.getElem_cons_succ, List.getElem_cons_zero]
  refine plan_read (by rfl) (by rfl) (fun u hu => by (clear hu; go_simp; try rfl)) ?_
  try simp only [Act.put, List.setIfInBounds_toArray, List.set_cons_zero, List.set_cons_succ, List.getElem_toArray, List.getElem_cons_succ, List.getElem_cons_zero]
  refine plan_read (by rfl) (by rfl) (fun u hu => by (clear hu; go_simp; try rfl)) ?_
  try simp only [Act.put, List.setIfInBounds_toArray, List.set_cons_zero, List.set_cons_succ, List.getElem_toArray, List.getElem_cons_succ, List.getElem_cons_zero]
  refine plan_read (v := .agg cm.toArray) (by rfl) (by rfl) (fun u hu => exec_load_mid (ty := 28) (x := .tmp 16) (b := pb) (off := 13) (cs := cm) rfl rfl u (HA4.out.frame (hu.block pb hpb)) Try.underlying28 rfl (by rw [HL2.out]; kernel_rfl)) ?_
  try simp only [Act.put, List.setIfInBounds_toArray, List.set_cons_zero, List.set_cons_succ, List.getElem_toArray, List.getElem_cons_succ, List.getElem_cons_zero]
  refine ⟨?_, ?_⟩
  · refine plan_op (by rfl) (by rfl) fun K hK => ?_
    refine wp_call3 (f := 14) (x := .tmp 9) (y := .tmp 13) (z := .tmp 17) (vx := .agg cb.toArray) (vy := .int .i64 nw) (vz := .agg cm.toArray) rfl rfl rfl rfl rfl rfl rfl rfl (put_goes w.drew S cb cm fr now bg fd sq hg lw bs jt ls hs nw m (HRb.out.below HB0.out) (HRm.out.below HB0.out) (fun b hb => Nat.lt_of_lt_of_le (HS.out b hb) HB0.out.size) hnw) ?_
    rintro e q1 ⟨c1, rfl, hr1, hb1⟩
    have HB1 := Lib.hid (HB0.out.trans (hb1.mono HB0.out.size))
    have z1 : w.drew.heap.size ≤ q1.heap.size := hb1.size
    have hlc : c1.length = 11 := Rep.length _ _ _ hr1
    have HLc := Lib.hid hlc
    have HOne := Lib.hid (Rep.one _ _ _ hr1)
    have HD11 := Lib.hid (show Rep q1 (fun b => w.drew.heap.size ≤ b ∧ b < q1.heap.size) JBuf c1 (putF (fr, now, bg, fd, sq, hg, lw, bs, jt, ls, hs, ()) nw m).1 from Rep.frame _ _ _ hr1 fun b h1 h2 => ⟨rfl, h1, h2⟩)
    clear hr1 hlc
    clear hb1
    refine ⟨_, rfl, hK _ _ ⟨HB1.out, ?_⟩⟩
    clear hK K
    try simp only [Act.put, List.setIfInBounds_toArray, List.set_cons_zero, List.set_cons_succ, List.getElem_toArray, List.getElem_cons_succ, List.getElem_cons_zero]
    refine plan_read (by rfl) (by rfl) (fun u hu => by (clear hu; go_simp; try rfl)) ?_
    try simp only [Act.put, List.setIfInBounds_toArray, List.set_cons_zero, List.set_cons_succ, List.getElem_toArray, List.getElem_cons_succ, List.getElem_cons_zero]
    refine plan_read (by rfl) (by rfl) (fun u hu => by (clear hu; go_simp; try rfl)) ?_
    try simp only [Act.put, List.setIfInBounds_toArray, List.set_cons_zero, List.set_cons_succ, List.getElem_toArray, List.getElem_cons_succ, List.getElem_cons_zero]
    refine plan_read (by rfl) (by rfl) (fun u hu => by (clear hu; go_simp; try rfl)) ?_
    try simp only [Act.put, List.setIfInBounds_toArray, List.set_cons_zero, List.set_cons_succ, List.getElem_toArray, List.getElem_cons_succ, List.getElem_cons_zero]
    refine plan_op (by rfl) (by rfl) fun K hK => ?_
    refine wp_allocbk (T := 24) (cs := bufCells 0) rfl (by kernel_rfl) fun q2 M2 B2 Z2 => ?_
    have HB2 := Lib.hid (HB1.out.trans (B2.mono HB1.out.size))
    have z2 : q1.heap.size < q2.heap.size := by omega
    have HD12 := Lib.hid (HD11.out.below B2)
    have HP2 := Lib.hid M2
    clear M2 B2 Z2
    refine hK _ _ ⟨HB2.out, ?_⟩
    clear hK K
    try simp only [Act.put, List.setIfInBounds_toArray, List.set_cons_zero, List.set_cons_succ, List.getElem_toArray, List.getElem_cons_succ, List.getElem_cons_zero]
    refine plan_op (by rfl) (by rfl) fun K hK => ?_
    refine wp_storebk (T := 24) (x := .tmp 3) (y := .tmp 19) (n := q1.heap.size) (bs := c1) rfl rfl rfl HP2.out (by rw [HLc.out]; rfl) (by rw [HLc.out]; kernel_rfl) HOne.out fun q3 M3 G3 => ?_
    have HB3 := Lib.hid (below_grown HB2.out G3 (by have := HB2.out.size; omega) (by omega))
    have z3 : q2.heap.size ≤ q3.heap.size := G3.size
    have HD13 := Lib.hid (HD12.out.grown_any G3 (by omega))
    have HP3 := Lib.hid M3
    clear M3
    clear G3
    refine hK _ _ ⟨HB3.out, ?_⟩
    clear hK K
    try simp only [Act.put, List.setIfInBounds_toArray, List.set_cons_zero, List.set_cons_succ, List.getElem_toArray, List.getElem_cons_succ, List.getElem_cons_zero]
    refine plan_stop ?_
    simp only [List.drop_succ_cons, List.drop_zero, Act.put, List.setIfInBounds_toArray, List.set_cons_zero, List.set_cons_succ, List.getElem_toArray, List.getElem_cons_succ, List.getElem_cons_zero]
    go_wp2_with fail
    refine NoPanic.normal ?_
    go_wp2_with fail
    go_ret
    have bN : Below q3.heap.size q3 (q3.alloc (.cells #[.func (.func 15) #[] #[.pointer (some ⟨q1.heap.size, 0, none⟩)]] 44)) := (Below.refl _ q3).alloc (Nat.le_refl _) _
    have MN := Bk.new q3 44 [.func (.func 15) #[] #[.pointer (some ⟨q1.heap.size, 0, none⟩)]]
    have hwW := HB3.out.size
    have hlt0 : q1.heap.size < q3.heap.size := HP3.out.lt
    refine ⟨some ⟨q3.heap.size, 0, none⟩, 1, q3.heap.size, [⟨15, q1.heap.size, JBuf, (putF (fr, now, bg, fd, sq, hg, lw, bs, jt, ls, hs, ()) nw m).1⟩], rfl, by simp, fun _ => ⟨rfl, MN.lt, MN.at_⟩, by omega, bN.size, fun v hv => ?_, HB3.out.trans (bN.mono (by omega))⟩
    obtain rfl : v = _ := by simpa using hv
    exact ⟨looks_15, ⟨_, _, Try.func15, by kernel_rfl, rfl⟩, (show w.heap.size ≤ q1.heap.size by omega), (show q1.heap.size < q3.heap.size by omega), bN.size, ⟨c1, (HP3.out.below bN).at_, Rep.frame _ _ _ (HD13.out.below bN) fun b h1 h2 => ⟨rfl, (show w.heap.size ≤ b by have := h1.1; omega), (show b < q3.heap.size by have := h1.2; omega)⟩⟩, fits_buf _⟩
  · refine plan_op (by rfl) (by rfl) fun K hK => ?_
    refine wp_allocbk (T := 24) (cs := bufCells 0) rfl (by kernel_rfl) fun q4 M4 B4 Z4 => ?_
    have HB4 := Lib.hid (HB0.out.trans (B4.mono HB0.out.size))
    have z4 : w.drew.heap.size < q4.heap.size := by omega
    have HP4 := Lib.hid M4
    clear M4 B4 Z4
    refine hK _ _ ⟨HB4.out, ?_⟩
    clear hK K
    try simp only [Act.put, List.setIfInBounds_toArray, List.set_cons_zero, List.set_cons_succ, List.getElem_toArray, List.getElem_cons_succ, List.getElem_cons_zero]
    refine plan_op (by rfl) (by rfl) fun K hK => ?_
    refine wp_call3 (f := 14) (x := .tmp 9) (y := .tmp 13) (z := .tmp 17) (vx := .agg cb.toArray) (vy := .int .i64 nw) (vz := .agg cm.toArray) rfl rfl rfl rfl rfl rfl rfl rfl (put_goes q4 S cb cm fr now bg fd sq hg lw bs jt ls hs nw m (HRb.out.below HB4.out) (HRm.out.below HB4.out) (fun b hb => Nat.lt_of_lt_of_le (HS.out b hb) HB4.out.size) hnw) ?_
    rintro e q5 ⟨c1, rfl, hr5, hb5⟩
    have HB5 := Lib.hid (HB4.out.trans (hb5.mono HB4.out.size))
    have z5 : q4.heap.size ≤ q5.heap.size := hb5.size
    have HP5 := Lib.hid (HP4.out.below hb5)
    have hlc : c1.length = 11 := Rep.length _ _ _ hr5
    have HLc := Lib.hid hlc
    have HOne := Lib.hid (Rep.one _ _ _ hr5)
    have HD15 := Lib.hid (show Rep q5 (fun b => q4.heap.size ≤ b ∧ b < q5.heap.size) JBuf c1 (putF (fr, now, bg, fd, sq, hg, lw, bs, jt, ls, hs, ()) nw m).1 from Rep.frame _ _ _ hr5 fun b h1 h2 => ⟨rfl, h1, h2⟩)
    clear hr5 hlc
    clear hb5
    refine ⟨_, rfl, hK _ _ ⟨HB5.out, ?_⟩⟩
    clear hK K
    try simp only [Act.put, List.setIfInBounds_toArray, List.set_cons_zero, List.set_cons_succ, List.getElem_toArray, List.getElem_cons_succ, List.getElem_cons_zero]
    refine plan_read (by rfl) (by rfl) (fun u hu => by (clear hu; go_simp; try rfl)) ?_
    try simp only [Act.put, List.setIfInBounds_toArray, List.set_cons_zero, List.set_cons_succ, List.getElem_toArray, List.getElem_cons_succ, List.getElem_cons_zero]
    refine plan_read (by rfl) (by rfl) (fun u hu => by (clear hu; go_simp; try rfl)) ?_
    try simp only [Act.put, List.setIfInBounds_toArray, List.set_cons_zero, List.set_cons_succ, List.getElem_toArray, List.getElem_cons_succ, List.getElem_cons_zero]
    refine plan_read (by rfl) (by rfl) (fun u hu => by (clear hu; go_simp; try rfl)) ?_
    try simp only [Act.put, List.setIfInBounds_toArray, List.set_cons_zero, List.set_cons_succ, List.getElem_toArray, List.getElem_cons_succ, List.getElem_cons_zero]
    refine plan_op (by rfl) (by rfl) fun K hK => ?_
    refine wp_storebk (T := 24) (x := .tmp 3) (y := .tmp 19) (n := w.drew.heap.size) (bs := c1) rfl rfl rfl HP5.out (by rw [HLc.out]; rfl) (by rw [HLc.out]; kernel_rfl) HOne.out fun q6 M6 G6 => ?_
    have HB6 := Lib.hid (below_grown HB5.out G6 (by have := HB5.out.size; omega) (by omega))
    have z6 : q5.heap.size ≤ q6.heap.size := G6.size
    have HD16 := Lib.hid (HD15.out.grown_any G6 (by omega))
    have HP6 := Lib.hid M6
    clear M6
    clear G6
    refine hK _ _ ⟨HB6.out, ?_⟩
    clear hK K
    try simp only [Act.put, List.setIfInBounds_toArray, List.set_cons_zero, List.set_cons_succ, List.getElem_toArray, List.getElem_cons_succ, List.getElem_cons_zero]
    refine plan_stop ?_
    simp only [List.drop_succ_cons, List.drop_zero, Act.put, List.setIfInBounds_toArray, List.set_cons_zero, List.set_cons_succ, List.getElem_toArray, List.getElem_cons_succ, List.getElem_cons_zero]
    go_wp2_with fail
    refine NoPanic.normal ?_
    go_wp2_with fail
    go_ret
    have bN : Below q6.heap.size q6 (q6.alloc (.cells #[.func (.func 15) #[] #[.pointer (some ⟨w.drew.heap.size, 0, none⟩)]] 44)) := (Below.refl _ q6).alloc (Nat.le_refl _) _
    have MN := Bk.new q6 44 [.func (.func 15) #[] #[.pointer (some ⟨w.drew.heap.size, 0, none⟩)]]
    have hwW := HB6.out.size
    have hlt0 : w.drew.heap.size < q6.heap.size := HP6.out.lt
    refine ⟨some ⟨q6.heap.size, 0, none⟩, 1, q6.heap.size, [⟨15, w.drew.heap.size, JBuf, (putF (fr, now, bg, fd, sq, hg, lw, bs, jt, ls, hs, ()) nw m).1⟩], rfl, by simp, fun _ => ⟨rfl, MN.lt, MN.at_⟩, by omega, bN.size, fun v hv => ?_, HB6.out.trans (bN.mono (by omega))⟩
    obtain rfl : v = _ := by simpa using hv
    exact ⟨looks_15, ⟨_, _, Try.func15, by kernel_rfl, rfl⟩, (show w.heap.size ≤ w.drew.heap.size by omega), (show w.drew.heap.size < q6.heap.size by omega), bN.size, ⟨c1, (HP6.out.below bN).at_, Rep.frame _ _ _ (HD16.out.below bN) fun b h1 h2 => ⟨rfl, (show w.heap.size ≤ b by have := h1.1; omega), (show b < q6.heap.size by have := h1.2; omega)⟩⟩, fits_buf _⟩

set_option maxRecDepth 100000 in
set_option maxHeartbeats 3200000 in
theorem call_5 : Call 30 JAll 18 := by
  intro w pb S cs d hbk hr hfew hS
  obtain ⟨db, ck, nw, m, ⟨⟩⟩ := d
  obtain ⟨cb, cm, rfl, hb, hm, hck, hnw, hl1, hl2⟩ := rep_all hr
  obtain ⟨ha1, ha2, ha3, ha4⟩ := all_at hbk hl1
  have hpb := hbk.lt
  have HA1 := Lib.hid ha1
  have HA4 := Lib.hid ha4
  have HRb := Lib.hid hb
  have HRm := Lib.hid hm
  have HS := Lib.hid hS
  have HL1 := Lib.hid hl1
  have HL2 := Lib.hid hl2
  clear ha1 ha4 hb hm hS hl1 hl2 hr hbk hfew
  show Calls _ _ _ _ (CallPost w)
  obtain ⟨fr, now, bg, fd, sq, hg, lw, bs, jt, ls, hs, ⟨⟩⟩ := db
  go_enter Try.func18, Try.ntmps18
  go_wp2_with fail
  have hdr : Below w.heap.size w w.drew := (Below.refl _ w).drew
  have HB0 := Lib.hid hdr
  have z0 : w.heap.size ≤ w.drew.heap.size := hdr.size
  clear hdr
  refine wp_region_plan 17 (.read 0 (.read 1 (.read 2 (.read 3 (.read 4 (.read 5 (.read 6 (.read 7 (.three 8 (.read 9 (.read 10 (.read 11 (.read 12 (.two 13 (.make 14 (.make 15 (.make 16 .stop))) 14 (.make 13 (.make 15 (.make 16 .stop)))))))) 13 (.two 8 (.read 9 (.read 10 (.read 11 (.read 12 (.make 14 (.make 15 (.make 16 .stop))))))) 14 (.make 8 (.read 9 (.read 10 (.read 11 (.read 12 (.make 15 (.make 16 .stop)))))))) 14 (.two 8 (.read 9 (.read 10 (.read 11 (.read 12 (.make 13 (.make 15 (.make 16 .stop))))))) 13 (.make 8 (.read 9 (.read 10 (.read 11 (.read 12 (.make 15 (.make 16 .stop))))))))))))))))) (fun u => Below w.heap.size w u) (by kernel_rfl) (by kernel_rfl) HB0.out ?_
  refine plan_read (by rfl) (by rfl) (fun u hu => by (clear hu; go_simp; try rfl)) ?_
  try simp only [Act.put, List.setIfInBounds_toArray, List.set_cons_zero, List.set_cons_succ, List.getElem_toArray, List.getElem_cons_succ, List.getElem_cons_zero]
  refine plan_read (by rfl) (by rfl) (fun u hu => by (clear hu; go_simp; try rfl)) ?_
  try simp only [Act.put, List.setIfInBounds_toArray, List.set_cons_zero, List.set_cons_succ, List.getElem_toArray, List.getElem_cons_succ, List.getElem_cons_zero]
  refine plan_read (by rfl) (by rfl) (fun u hu => by (clear hu; go_simp; try rfl)) ?_
  try simp only [Act.put, List.setIfInBounds_toArray, List.set_cons_zero, List.set_cons_succ, List.getElem_toArray, List.getElem_cons_succ, List.getElem_cons_zero]
  refine plan_read (v := .agg cb.toArray) (by rfl) (by rfl) (fun u hu => exec_load_mid (ty := 24) (x := .tmp 9) (b := pb) (off := 0) (cs := cb) rfl rfl u (HA1.out.frame (hu.block pb hpb)) Try.underlying24 rfl (by rw [HL1.out]; kernel_rfl)) ?_
  try simp only [Act.put, List.setIfInBounds_toArray, List.set_cons_zero, List.set_cons_succ, List.getElem_toArray, List.getElem_cons_succ, List.getElem_cons_zero]
  refine plan_read (by rfl) (by rfl) (fun u hu => by (clear hu; go_simp; try rfl)) ?_
  try simp only [Act.put, List.setIfInBounds_toArray, List.set_cons_zero, List.set_cons_succ, List.getElem_toArray, List.getElem_cons_succ, List.getElem_cons_zero]
  refine plan_read (by rfl) (by rfl) (fun u hu => by (clear hu; go_simp; try rfl)) ?_
  try simp only [Act.put, List.setIfInBounds_toArray, List.set_cons_zero, List.set_cons_succ, List.getElem_toArray, List.getElem_cons_succ, List.getElem_cons_zero]
  refine plan_read (by rfl) (by rfl) (fun u hu => by (clear hu; go_simp; try rfl)) ?_
  try simp only [Act.put, List.setIfInBounds_toArray, List.set_cons_zero, List.set_cons_succ, List.getElem_toArray, List.getElem_cons_succ, List.getElem_cons_zero]
  refine plan_read (by rfl) (by rfl) (fun u hu => by (have h12 := (bcell' hu hpb).trans ha3; clear hu; go_simp; try rfl)) ?_
  try simp only [Act.put, List.setIfInBounds_toArray, List.set_cons_zero, List.set_cons_succ, List.getElem_toArray, List.getElem_cons_succ, List.getElem_cons_zero]
  refine ⟨?_, ?_, ?_⟩
  · refine plan_op (by rfl) (by rfl) fun K hK => ?_
    refine wp_call2 (f := 19) (x := .tmp 10) (y := .tmp 14) (vx := .agg cb.toArray) (vy := .int .i64 nw) rfl rfl rfl rfl rfl rfl rfl (take_goes w.drew S cb fr now bg fd sq hg lw bs jt ls hs nw (HRb.out.below HB0.out) (fun b hb => Nat.lt_of_lt_of_le (HS.out b hb) HB0.out.size) hnw) ?_
    rintro e q7 ⟨c1, A1, k1, rfl, hr7, hs7, hb7⟩
    have HB7 := Lib.hid (HB0.out.trans (hb7.mono HB0.out.size))
    have z7 : w.drew.heap.size ≤ q7.heap.size := hb7.size
    have hlc : c1.length = 11 := Rep.length _ _ _ hr7
    have HLc := Lib.hid hlc
    have HOne := Lib.hid (Rep.one _ _ _ hr7)
    have HD17 := Lib.hid (show Rep q7 (fun b => w.drew.heap.size ≤ b ∧ b < q7.heap.size) JBuf c1 (takeF (fr, now, bg, fd, sq, hg, lw, bs, jt, ls, hs, ()) nw).1 from Rep.frame _ _ _ hr7 fun b h1 h2 => ⟨rfl, h1, h2⟩)
    have HD27 := Lib.hid (show Rep q7 (fun b => w.drew.heap.size ≤ b ∧ b < q7.heap.size) (.sl JMed 112) [.slice A1 (takeF (fr, now, bg, fd, sq, hg, lw, bs, jt, ls, hs, ()) nw).2.1.length k1] (takeF (fr, now, bg, fd, sq, hg, lw, bs, jt, ls, hs, ()) nw).2.1 from Rep.frame _ _ _ hs7 fun b h1 h2 => ⟨rfl, h1, h2⟩)
    clear hr7 hs7 hlc
    clear hb7
    refine ⟨_, rfl, hK _ _ ⟨HB7.out, ?_⟩⟩
    clear hK K
    try simp only [Act.put, List.setIfInBounds_toArray, List.set_cons_zero, List.set_cons_succ, List.getElem_toArray, List.getElem_cons_succ, List.getElem_cons_zero]
    refine plan_read (by rfl) (by rfl) (fun u hu => by (clear hu; go_simp; try rfl)) ?_
    try simp only [Act.put, List.setIfInBounds_toArray, List.set_cons_zero, List.set_cons_succ, List.getElem_toArray, List.getElem_cons_succ, List.getElem_cons_zero]
    refine plan_read (by rfl) (by rfl) (fun u hu => by (clear hu; go_simp; try rfl)) ?_
    try simp only [Act.put, List.setIfInBounds_toArray, List.set_cons_zero, List.set_cons_succ, List.getElem_toArray, List.getElem_cons_succ, List.getElem_cons_zero]
    refine plan_read (by rfl) (by rfl) (fun u hu => by (clear hu; go_simp; try rfl)) ?_
    try simp only [Act.put, List.setIfInBounds_toArray, List.set_cons_zero, List.set_cons_succ, List.getElem_toArray, List.getElem_cons_succ, List.getElem_cons_zero]
    refine plan_read (by rfl) (by rfl) (fun u hu => by (clear hu; go_simp; try rfl)) ?_
    try simp only [Act.put, List.setIfInBounds_toArray, List.set_cons_zero, List.set_cons_succ, List.getElem_toArray, List.getElem_cons_succ, List.getElem_cons_zero]
    refine ⟨?_, ?_⟩
    · refine plan_op (by rfl) (by rfl) fun K hK => ?_
      refine wp_allocbk (T := 24) (cs := bufCells 0) rfl (by kernel_rfl) fun q8 M8 B8 Z8 => ?_
      have HB8 := Lib.hid (HB7.out.trans (B8.mono HB7.out.size))
      have z8 : q7.heap.size < q8.heap.size := by omega
      have HD18 := Lib.hid (HD17.out.below B8)
      have HD28 := Lib.hid (HD27.out.below B8)
      have HP8 := Lib.hid M8
      clear M8 B8 Z8
      refine hK _ _ ⟨HB8.out, ?_⟩
      clear hK K
      try simp only [Act.put, List.setIfInBounds_toArray, List.set_cons_zero, List.set_cons_succ, List.getElem_toArray, List.getElem_cons_succ, List.getElem_cons_zero]
      refine plan_op (by rfl) (by rfl) fun K hK => ?_
      refine wp_allocbk (T := 48) (cs := [.slice none 0 0]) rfl (by kernel_rfl) fun q9 M9 B9 Z9 => ?_
      have HB9 := Lib.hid (HB8.out.trans (B9.mono HB8.out.size))
      have z9 : q8.heap.size < q9.heap.size := by omega
      have HD19 := Lib.hid (HD18.out.below B9)
      have HD29 := Lib.hid (HD28.out.below B9)
      have HP9 := Lib.hid (HP8.out.below B9)
      have HR9 := Lib.hid M9
      clear M9 B9 Z9
      refine hK _ _ ⟨HB9.out, ?_⟩
      clear hK K
      try simp only [Act.put, List.setIfInBounds_toArray, List.set_cons_zero, List.set_cons_succ, List.getElem_toArray, List.getElem_cons_succ, List.getElem_cons_zero]
      refine plan_op (by rfl) (by rfl) fun K hK => ?_
      refine wp_storebk (T := 24) (x := .tmp 3) (y := .tmp 16) (n := q7.heap.size) (bs := c1) rfl rfl rfl HP9.out (by rw [HLc.out]; rfl) (by rw [HLc.out]; kernel_rfl) HOne.out fun q10 M10 G10 => ?_
      have HB10 := Lib.hid (below_grown HB9.out G10 (by have := HB9.out.size; omega) (by omega))
      have z10 : q9.heap.size ≤ q10.heap.size := G10.size
      have HD110 := Lib.hid (HD19.out.grown_any G10 (by omega))
      have HD210 := Lib.hid (HD29.out.grown_any G10 (by omega))
      have HR10 := Lib.hid (HR9.out.grown G10 (by omega))
      have HP10 := Lib.hid M10
      clear M10
      clear G10
      refine hK _ _ ⟨HB10.out, ?_⟩
      clear hK K
      try simp only [Act.put, List.setIfInBounds_toArray, List.set_cons_zero, List.set_cons_succ, List.getElem_toArray, List.getElem_cons_succ, List.getElem_cons_zero]
      refine plan_op (by rfl) (by rfl) fun K hK => ?_
      refine wp_storecell (T := 48) (x := .tmp 4) (y := .tmp 17) (n := q8.heap.size) (v := .slice A1 (takeF (fr, now, bg, fd, sq, hg, lw, bs, jt, ls, hs, ()) nw).2.1.length k1) rfl rfl rfl HR10.out rfl (by kernel_rfl) rfl fun q11 M11 G11 => ?_
      have HB11 := Lib.hid (below_grown HB10.out G11 (by have := HB10.out.size; omega) (by omega))
      have z11 : q10.heap.size ≤ q11.heap.size := G11.size
      have HD111 := Lib.hid (HD110.out.grown_any G11 (by omega))
      have HD211 := Lib.hid (HD210.out.grown_any G11 (by omega))
      have HP11 := Lib.hid (HP10.out.grown G11 (by omega))
      have HR11 := Lib.hid M11
      clear M11
      clear G11
      refine hK _ _ ⟨HB11.out, ?_⟩
      clear hK K
      try simp only [Act.put, List.setIfInBounds_toArray, List.set_cons_zero, List.set_cons_succ, List.getElem_toArray, List.getElem_cons_succ, List.getElem_cons_zero]
      refine plan_stop ?_
      simp only [List.drop_succ_cons, List.drop_zero, Act.put, List.setIfInBounds_toArray, List.set_cons_zero, List.set_cons_succ, List.getElem_toArray, List.getElem_cons_succ, List.getElem_cons_zero]
      go_wp2_with fail
      refine NoPanic.normal ?_
      go_wp2_with fail
      go_ret
      have bN : Below q11.heap.size q11 (q11.alloc (.cells #[.func (.func 20) #[] #[.pointer (some ⟨q7.heap.size, 0, none⟩)], .func (.func 21) #[] #[.pointer (some ⟨q8.heap.size, 0, none⟩)]] 44)) := (Below.refl _ q11).alloc (Nat.le_refl _) _
      have MN := Bk.new q11 44 [.func (.func 20) #[] #[.pointer (some ⟨q7.heap.size, 0, none⟩)], .func (.func 21) #[] #[.pointer (some ⟨q8.heap.size, 0, none⟩)]]
      have hwW := HB11.out.size
      have hlt0 : q7.heap.size < q11.heap.size := HP11.out.lt
      have hlt1 : q8.heap.size < q11.heap.size := HR11.out.lt
      refine ⟨some ⟨q11.heap.size, 0, none⟩, 2, q11.heap.size, [⟨20, q7.heap.size, JBuf, (takeF (fr, now, bg, fd, sq, hg, lw, bs, jt, ls, hs, ()) nw).1⟩, ⟨21, q8.heap.size, .sl JMed 112, (takeF (fr, now, bg, fd, sq, hg, lw, bs, jt, ls, hs, ()) nw).2.1⟩], rfl, by simp, fun _ => ⟨rfl, MN.lt, MN.at_⟩, by omega, bN.size, fun v hv => ?_, HB11.out.trans (bN.mono (by omega))⟩
      obtain rfl | rfl : v = _ ∨ v = _ := by simpa using hv
      · exact ⟨looks_20, ⟨_, _, Try.func20, by kernel_rfl, rfl⟩, (show w.heap.size ≤ q7.heap.size by omega), (show q7.heap.size < q11.heap.size by omega), bN.size, ⟨c1, (HP11.out.below bN).at_, Rep.frame _ _ _ (HD111.out.below bN) fun b h1 h2 => ⟨rfl, (show w.heap.size ≤ b by have := h1.1; omega), (show b < q11.heap.size by have := h1.2; omega)⟩⟩, fits_buf _⟩
      · exact ⟨looks_21, ⟨_, _, Try.func21, by kernel_rfl, rfl⟩, (show w.heap.size ≤ q8.heap.size by omega), (show q8.heap.size < q11.heap.size by omega), bN.size, ⟨[.slice A1 (takeF (fr, now, bg, fd, sq, hg, lw, bs, jt, ls, hs, ()) nw).2.1.length k1], (HR11.out.below bN).at_, Rep.frame _ _ _ (HD211.out.below bN) fun b h1 h2 => ⟨rfl, (show w.heap.size ≤ b by have := h1.1; omega), (show b < q11.heap.size by have := h1.2; omega)⟩⟩, fits_meds _⟩
    · refine plan_op (by rfl) (by rfl) fun K hK => ?_
      refine wp_allocbk (T := 48) (cs := [.slice none 0 0]) rfl (by kernel_rfl) fun q12 M12 B12 Z12 => ?_
      have HB12 := Lib.hid (HB7.out.trans (B12.mono HB7.out.size))
      have z12 : q7.heap.size < q12.heap.size := by omega
      have HD112 := Lib.hid (HD17.out.below B12)
      have HD212 := Lib.hid (HD27.out.below B12)
      have HR12 := Lib.hid M12
      clear M12 B12 Z12
      refine hK _ _ ⟨HB12.out, ?_⟩
      clear hK K
      try simp only [Act.put, List.setIfInBounds_toArray, List.set_cons_zero, List.set_cons_succ, List.getElem_toArray, List.getElem_cons_succ, List.getElem_cons_zero]
      refine plan_op (by rfl) (by rfl) fun K hK => ?_
      refine wp_allocbk (T := 24) (cs := bufCells 0) rfl (by kernel_rfl) fun q13 M13 B13 Z13 => ?_
      have HB13 := Lib.hid (HB12.out.trans (B13.mono HB12.out.size))
      have z13 : q12.heap.size < q13.heap.size := by omega
      have HD113 := Lib.hid (HD112.out.below B13)
      have HD213 := Lib.hid (HD212.out.below B13)
      have HR13 := Lib.hid (HR12.out.below B13)
      have HP13 := Lib.hid M13
      clear M13 B13 Z13
      refine hK _ _ ⟨HB13.out, ?_⟩
      clear hK K
      try simp only [Act.put, List.setIfInBounds_toArray, List.set_cons_zero, List.set_cons_succ, List.getElem_toArray, List.getElem_cons_succ, List.getElem_cons_zero]
      refine plan_op (by rfl) (by rfl) fun K hK => ?_
      refine wp_storebk (T := 24) (x := .tmp 3) (y := .tmp 16) (n := q12.heap.size) (bs := c1) rfl rfl rfl HP13.out (by rw [HLc.out]; rfl) (by rw [HLc.out]; kernel_rfl) HOne.out fun q14 M14 G14 => ?_
      have HB14 := Lib.hid (below_grown HB13.out G14 (by have := HB13.out.size; omega) (by omega))
      have z14 : q13.heap.size ≤ q14.heap.size := G14.size
      have HD114 := Lib.hid (HD113.out.grown_any G14 (by omega))
      have HD214 := Lib.hid (HD213.out.grown_any G14 (by omega))
      have HR14 := Lib.hid (HR13.out.grown G14 (by omega))
      have HP14 := Lib.hid M14
      clear M14
      clear G14
      refine hK _ _ ⟨HB14.out, ?_⟩
      clear hK K
      try simp only [Act.put, List.setIfInBounds_toArray, List.set_cons_zero, List.set_cons_succ, List.getElem_toArray, List.getElem_cons_succ, List.getElem_cons_zero]
      refine plan_op (by rfl) (by rfl) fun K hK => ?_
      refine wp_storecell (T := 48) (x := .tmp 4) (y := .tmp 17) (n := q7.heap.size) (v := .slice A1 (takeF (fr, now, bg, fd, sq, hg, lw, bs, jt, ls, hs, ()) nw).2.1.length k1) rfl rfl rfl HR14.out rfl (by kernel_rfl) rfl fun q15 M15 G15 => ?_
      have HB15 := Lib.hid (below_grown HB14.out G15 (by have := HB14.out.size; omega) (by omega))
      have z15 : q14.heap.size ≤ q15.heap.size := G15.size
      have HD115 := Lib.hid (HD114.out.grown_any G15 (by omega))
      have HD215 := Lib.hid (HD214.out.grown_any G15 (by omega))
      have HP15 := Lib.hid (HP14.out.grown G15 (by omega))
      have HR15 := Lib.hid M15
      clear M15
      clear G15
      refine hK _ _ ⟨HB15.out, ?_⟩
      clear hK K
      try simp only [Act.put, List.setIfInBounds_toArray, List.set_cons_zero, List.set_cons_succ, List.getElem_toArray, List.getElem_cons_succ, List.getElem_cons_zero]
      refine plan_stop ?_
      simp only [List.drop_succ_cons, List.drop_zero, Act.put, List.setIfInBounds_toArray, List.set_cons_zero, List.set_cons_succ, List.getElem_toArray, List.getElem_cons_succ, List.getElem_cons_zero]
      go_wp2_with fail
      refine NoPanic.normal ?_
      go_wp2_with fail
      go_ret
      have bN : Below q15.heap.size q15 (q15.alloc (.cells #[.func (.func 20) #[] #[.pointer (some ⟨q12.heap.size, 0, none⟩)], .func (.func 21) #[] #[.pointer (some ⟨q7.heap.size, 0, none⟩)]] 44)) := (Below.refl _ q15).alloc (Nat.le_refl _) _
      have MN := Bk.new q15 44 [.func (.func 20) #[] #[.pointer (some ⟨q12.heap.size, 0, none⟩)], .func (.func 21) #[] #[.pointer (some ⟨q7.heap.size, 0, none⟩)]]
      have hwW := HB15.out.size
      have hlt0 : q12.heap.size < q15.heap.size := HP15.out.lt
      have hlt1 : q7.heap.size < q15.heap.size := HR15.out.lt
      refine ⟨some ⟨q15.heap.size, 0, none⟩, 2, q15.heap.size, [⟨20, q12.heap.size, JBuf, (takeF (fr, now, bg, fd, sq, hg, lw, bs, jt, ls, hs, ()) nw).1⟩, ⟨21, q7.heap.size, .sl JMed 112, (takeF (fr, now, bg, fd, sq, hg, lw, bs, jt, ls, hs, ()) nw).2.1⟩], rfl, by simp, fun _ => ⟨rfl, MN.lt, MN.at_⟩, by omega, bN.size, fun v hv => ?_, HB15.out.trans (bN.mono (by omega))⟩
      obtain rfl | rfl : v = _ ∨ v = _ := by simpa using hv
      · exact ⟨looks_20, ⟨_, _, Try.func20, by kernel_rfl, rfl⟩, (show w.heap.size ≤ q12.heap.size by omega), (show q12.heap.size < q15.heap.size by omega), bN.size, ⟨c1, (HP15.out.below bN).at_, Rep.frame _ _ _ (HD115.out.below bN) fun b h1 h2 => ⟨rfl, (show w.heap.size ≤ b by have := h1.1; omega), (show b < q15.heap.size by have := h1.2; omega)⟩⟩, fits_buf _⟩
      · exact ⟨looks_21, ⟨_, _, Try.func21, by kernel_rfl, rfl⟩, (show w.heap.size ≤ q7.heap.size by omega), (show q7.heap.size < q15.heap.size by omega), bN.size, ⟨[.slice A1 (takeF (fr, now, bg, fd, sq, hg, lw, bs, jt, ls, hs, ()) nw).2.1.length k1], (HR15.out.below bN).at_, Rep.frame _ _ _ (HD215.out.below bN) fun b h1 h2 => ⟨rfl, (show w.heap.size ≤ b by have := h1.1; omega), (show b < q15.heap.size by have := h1.2; omega)⟩⟩, fits_meds _⟩
  · refine plan_op (by rfl) (by rfl) fun K hK => ?_
    refine wp_allocbk (T := 24) (cs := bufCells 0) rfl (by kernel_rfl) fun q16 M16 B16 Z16 => ?_
    have HB16 := Lib.hid (HB0.out.trans (B16.mono HB0.out.size))
    have z16 : w.drew.heap.size < q16.heap.size := by omega
    have HP16 := Lib.hid M16
    clear M16 B16 Z16
    refine hK _ _ ⟨HB16.out, ?_⟩
    clear hK K
    try simp only [Act.put, List.setIfInBounds_toArray, List.set_cons_zero, List.set_cons_succ, List.getElem_toArray, List.getElem_cons_succ, List.getElem_cons_zero]
    refine ⟨?_, ?_⟩
    · refine plan_op (by rfl) (by rfl) fun K hK => ?_
      refine wp_call2 (f := 19) (x := .tmp 10) (y := .tmp 14) (vx := .agg cb.toArray) (vy := .int .i64 nw) rfl rfl rfl rfl rfl rfl rfl (take_goes q16 S cb fr now bg fd sq hg lw bs jt ls hs nw (HRb.out.below HB16.out) (fun b hb => Nat.lt_of_lt_of_le (HS.out b hb) HB16.out.size) hnw) ?_
      rintro e q17 ⟨c1, A1, k1, rfl, hr17, hs17, hb17⟩
      have HB17 := Lib.hid (HB16.out.trans (hb17.mono HB16.out.size))
      have z17 : q16.heap.size ≤ q17.heap.size := hb17.size
      have HP17 := Lib.hid (HP16.out.below hb17)
      have hlc : c1.length = 11 := Rep.length _ _ _ hr17
      have HLc := Lib.hid hlc
      have HOne := Lib.hid (Rep.one _ _ _ hr17)
      have HD117 := Lib.hid (show Rep q17 (fun b => q16.heap.size ≤ b ∧ b < q17.heap.size) JBuf c1 (takeF (fr, now, bg, fd, sq, hg, lw, bs, jt, ls, hs, ()) nw).1 from Rep.frame _ _ _ hr17 fun b h1 h2 => ⟨rfl, h1, h2⟩)
      have HD217 := Lib.hid (show Rep q17 (fun b => q16.heap.size ≤ b ∧ b < q17.heap.size) (.sl JMed 112) [.slice A1 (takeF (fr, now, bg, fd, sq, hg, lw, bs, jt, ls, hs, ()) nw).2.1.length k1] (takeF (fr, now, bg, fd, sq, hg, lw, bs, jt, ls, hs, ()) nw).2.1 from Rep.frame _ _ _ hs17 fun b h1 h2 => ⟨rfl, h1, h2⟩)
      clear hr17 hs17 hlc
      clear hb17
      refine ⟨_, rfl, hK _ _ ⟨HB17.out, ?_⟩⟩
      clear hK K
      try simp only [Act.put, List.setIfInBounds_toArray, List.set_cons_zero, List.set_cons_succ, List.getElem_toArray, List.getElem_cons_succ, List.getElem_cons_zero]
      refine plan_read (by rfl) (by rfl) (fun u hu => by (clear hu; go_simp; try rfl)) ?_
      try simp only [Act.put, List.setIfInBounds_toArray, List.set_cons_zero, List.set_cons_succ, List.getElem_toArray, List.getElem_cons_succ, List.getElem_cons_zero]
      refine plan_read (by rfl) (by rfl) (fun u hu => by (clear hu; go_simp; try rfl)) ?_
      try simp only [Act.put, List.setIfInBounds_toArray, List.set_cons_zero, List.set_cons_succ, List.getElem_toArray, List.getElem_cons_succ, List.getElem_cons_zero]
      refine plan_read (by rfl) (by rfl) (fun u hu => by (clear hu; go_simp; try rfl)) ?_
      try simp only [Act.put, List.setIfInBounds_toArray, List.set_cons_zero, List.set_cons_succ, List.getElem_toArray, List.getElem_cons_succ, List.getElem_cons_zero]
      refine plan_read (by rfl) (by rfl) (fun u hu => by (clear hu; go_simp; try rfl)) ?_
      try simp only [Act.put, List.setIfInBounds_toArray, List.set_cons_zero, List.set_cons_succ, List.getElem_toArray, List.getElem_cons_succ, List.getElem_cons_zero]
      refine plan_op (by rfl) (by rfl) fun K hK => ?_
      refine wp_allocbk (T := 48) (cs := [.slice none 0 0]) rfl (by kernel_rfl) fun q18 M18 B18 Z18 => ?_
      have HB18 := Lib.hid (HB17.out.trans (B18.mono HB17.out.size))
      have z18 : q17.heap.size < q18.heap.size := by omega
      have HP18 := Lib.hid (HP17.out.below B18)
      have HD118 := Lib.hid (HD117.out.below B18)
      have HD218 := Lib.hid (HD217.out.below B18)
      have HR18 := Lib.hid M18
      clear M18 B18 Z18
      refine hK _ _ ⟨HB18.out, ?_⟩
      clear hK K
      try simp only [Act.put, List.setIfInBounds_toArray, List.set_cons_zero, List.set_cons_succ, List.getElem_toArray, List.getElem_cons_succ, List.getElem_cons_zero]
      refine plan_op (by rfl) (by rfl) fun K hK => ?_
      refine wp_storebk (T := 24) (x := .tmp 3) (y := .tmp 16) (n := w.drew.heap.size) (bs := c1) rfl rfl rfl HP18.out (by rw [HLc.out]; rfl) (by rw [HLc.out]; kernel_rfl) HOne.out fun q19 M19 G19 => ?_
      have HB19 := Lib.hid (below_grown HB18.out G19 (by have := HB18.out.size; omega) (by omega))
      have z19 : q18.heap.size ≤ q19.heap.size := G19.size
      have HD119 := Lib.hid (HD118.out.grown_any G19 (by omega))
      have HD219 := Lib.hid (HD218.out.grown_any G19 (by omega))
      have HR19 := Lib.hid (HR18.out.grown G19 (by omega))
      have HP19 := Lib.hid M19
      clear M19
      clear G19
      refine hK _ _ ⟨HB19.out, ?_⟩
      clear hK K
      try simp only [Act.put, List.setIfInBounds_toArray, List.set_cons_zero, List.set_cons_succ, List.getElem_toArray, List.getElem_cons_succ, List.getElem_cons_zero]
      refine plan_op (by rfl) (by rfl) fun K hK => ?_
      refine wp_storecell (T := 48) (x := .tmp 4) (y := .tmp 17) (n := q17.heap.size) (v := .slice A1 (takeF (fr, now, bg, fd, sq, hg, lw, bs, jt, ls, hs, ()) nw).2.1.length k1) rfl rfl rfl HR19.out rfl (by kernel_rfl) rfl fun q20 M20 G20 => ?_
      have HB20 := Lib.hid (below_grown HB19.out G20 (by have := HB19.out.size; omega) (by omega))
      have z20 : q19.heap.size ≤ q20.heap.size := G20.size
      have HP20 := Lib.hid (HP19.out.grown G20 (by omega))
      have HD120 := Lib.hid (HD119.out.grown_any G20 (by omega))
      have HD220 := Lib.hid (HD219.out.grown_any G20 (by omega))
      have HR20 := Lib.hid M20
      clear M20
      clear G20
      refine hK _ _ ⟨HB20.out, ?_⟩
      clear hK K
      try simp only [Act.put, List.setIfInBounds_toArray, List.set_cons_zero, List.set_cons_succ, List.getElem_toArray, List.getElem_cons_succ, List.getElem_cons_zero]
      refine plan_stop ?_
      simp only [List.drop_succ_cons, List.drop_zero, Act.put, List.setIfInBounds_toArray, List.set_cons_zero, List.set_cons_succ, List.getElem_toArray, List.getElem_cons_succ, List.getElem_cons_zero]
      go_wp2_with fail
      refine NoPanic.normal ?_
      go_wp2_with fail
      go_ret
      have bN : Below q20.heap.size q20 (q20.alloc (.cells #[.func (.func 20) #[] #[.pointer (some ⟨w.drew.heap.size, 0, none⟩)], .func (.func 21) #[] #[.pointer (some ⟨q17.heap.size, 0, none⟩)]] 44)) := (Below.refl _ q20).alloc (Nat.le_refl _) _
      have MN := Bk.new q20 44 [.func (.func 20) #[] #[.pointer (some ⟨w.drew.heap.size, 0, none⟩)], .func (.func 21) #[] #[.pointer (some ⟨q17.heap.size, 0, none⟩)]]
      have hwW := HB20.out.size
      have hlt0 : w.drew.heap.size < q20.heap.size := HP20.out.lt
      have hlt1 : q17.heap.size < q20.heap.size := HR20.out.lt
      refine ⟨some ⟨q20.heap.size, 0, none⟩, 2, q20.heap.size, [⟨20, w.drew.heap.size, JBuf, (takeF (fr, now, bg, fd, sq, hg, lw, bs, jt, ls, hs, ()) nw).1⟩, ⟨21, q17.heap.size, .sl JMed 112, (takeF (fr, now, bg, fd, sq, hg, lw, bs, jt, ls, hs, ()) nw).2.1⟩], rfl, by simp, fun _ => ⟨rfl, MN.lt, MN.at_⟩, by omega, bN.size, fun v hv => ?_, HB20.out.trans (bN.mono (by omega))⟩
      obtain rfl | rfl : v = _ ∨ v = _ := by simpa using hv
      · exact ⟨looks_20, ⟨_, _, Try.func20, by kernel_rfl, rfl⟩, (show w.heap.size ≤ w.drew.heap.size by omega), (show w.drew.heap.size < q20.heap.size by omega), bN.size, ⟨c1, (HP20.out.below bN).at_, Rep.frame _ _ _ (HD120.out.below bN) fun b h1 h2 => ⟨rfl, (show w.heap.size ≤ b by have := h1.1; omega), (show b < q20.heap.size by have := h1.2; omega)⟩⟩, fits_buf _⟩
      · exact ⟨looks_21, ⟨_, _, Try.func21, by kernel_rfl, rfl⟩, (show w.heap.size ≤ q17.heap.size by omega), (show q17.heap.size < q20.heap.size by omega), bN.size, ⟨[.slice A1 (takeF (fr, now, bg, fd, sq, hg, lw, bs, jt, ls, hs, ()) nw).2.1.length k1], (HR20.out.below bN).at_, Rep.frame _ _ _ (HD220.out.below bN) fun b h1 h2 => ⟨rfl, (show w.heap.size ≤ b by have := h1.1; omega), (show b < q20.heap.size by have := h1.2; omega)⟩⟩, fits_meds _⟩
    · refine plan_op (by rfl) (by rfl) fun K hK => ?_
      refine wp_allocbk (T := 48) (cs := [.slice none 0 0]) rfl (by kernel_rfl) fun q21 M21 B21 Z21 => ?_
      have HB21 := Lib.hid (HB16.out.trans (B21.mono HB16.out.size))
      have z21 : q16.heap.size < q21.heap.size := by omega
      have HP21 := Lib.hid (HP16.out.below B21)
      have HR21 := Lib.hid M21
      clear M21 B21 Z21
      refine hK _ _ ⟨HB21.out, ?_⟩
      clear hK K
      try simp only [Act.put, List.setIfInBounds_toArray, List.set_cons_zero, List.set_cons_succ, List.getElem_toArray, List.getElem_cons_succ, List.getElem_cons_zero]
      refine plan_op (by rfl) (by rfl) fun K hK => ?_
      refine wp_call2 (f := 19) (x := .tmp 10) (y := .tmp 14) (vx := .agg cb.toArray) (vy := .int .i64 nw) rfl rfl rfl rfl rfl rfl rfl (take_goes q21 S cb fr now bg fd sq hg lw bs jt ls hs nw (HRb.out.below HB21.out) (fun b hb => Nat.lt_of_lt_of_le (HS.out b hb) HB21.out.size) hnw) ?_
      rintro e q22 ⟨c1, A1, k1, rfl, hr22, hs22, hb22⟩
      have HB22 := Lib.hid (HB21.out.trans (hb22.mono HB21.out.size))
      have z22 : q21.heap.size ≤ q22.heap.size := hb22.size
      have HP22 := Lib.hid (HP21.out.below hb22)
      have HR22 := Lib.hid (HR21.out.below hb22)
      have hlc : c1.length = 11 := Rep.length _ _ _ hr22
      have HLc := Lib.hid hlc
      have HOne := Lib.hid (Rep.one _ _ _ hr22)
      have HD122 := Lib.hid (show Rep q22 (fun b => q21.heap.size ≤ b ∧ b < q22.heap.size) JBuf c1 (takeF (fr, now, bg, fd, sq, hg, lw, bs, jt, ls, hs, ()) nw).1 from Rep.frame _ _ _ hr22 fun b h1 h2 => ⟨rfl, h1, h2⟩)
      have HD222 := Lib.hid (show Rep q22 (fun b => q21.heap.size ≤ b ∧ b < q22.heap.size) (.sl JMed 112) [.slice A1 (takeF (fr, now, bg, fd, sq, hg, lw, bs, jt, ls, hs, ()) nw).2.1.length k1] (takeF (fr, now, bg, fd, sq, hg, lw, bs, jt, ls, hs, ()) nw).2.1 from Rep.frame _ _ _ hs22 fun b h1 h2 => ⟨rfl, h1, h2⟩)
      clear hr22 hs22 hlc
      clear hb22
      refine ⟨_, rfl, hK _ _ ⟨HB22.out, ?_⟩⟩
      clear hK K
      try simp only [Act.put, List.setIfInBounds_toArray, List.set_cons_zero, List.set_cons_succ, List.getElem_toArray, List.getElem_cons_succ, List.getElem_cons_zero]
      refine plan_read (by rfl) (by rfl) (fun u hu => by (clear hu; go_simp; try rfl)) ?_
      try simp only [Act.put, List.setIfInBounds_toArray, List.set_cons_zero, List.set_cons_succ, List.getElem_toArray, List.getElem_cons_succ, List.getElem_cons_zero]
      refine plan_read (by rfl) (by rfl) (fun u hu => by (clear hu; go_simp; try rfl)) ?_
      try simp only [Act.put, List.setIfInBounds_toArray, List.set_cons_zero, List.set_cons_succ, List.getElem_toArray, List.getElem_cons_succ, List.getElem_cons_zero]
      refine plan_read (by rfl) (by rfl) (fun u hu => by (clear hu; go_simp; try rfl)) ?_
      try simp only [Act.put, List.setIfInBounds_toArray, List.set_cons_zero, List.set_cons_succ, List.getElem_toArray, List.getElem_cons_succ, List.getElem_cons_zero]
      refine plan_read (by rfl) (by rfl) (fun u hu => by (clear hu; go_simp; try rfl)) ?_
      try simp only [Act.put, List.setIfInBounds_toArray, List.set_cons_zero, List.set_cons_succ, List.getElem_toArray, List.getElem_cons_succ, List.getElem_cons_zero]
      refine plan_op (by rfl) (by rfl) fun K hK => ?_
      refine wp_storebk (T := 24) (x := .tmp 3) (y := .tmp 16) (n := w.drew.heap.size) (bs := c1) rfl rfl rfl HP22.out (by rw [HLc.out]; rfl) (by rw [HLc.out]; kernel_rfl) HOne.out fun q23 M23 G23 => ?_
      have HB23 := Lib.hid (below_grown HB22.out G23 (by have := HB22.out.size; omega) (by omega))
      have z23 : q22.heap.size ≤ q23.heap.size := G23.size
      have HR23 := Lib.hid (HR22.out.grown G23 (by omega))
      have HD123 := Lib.hid (HD122.out.grown_any G23 (by omega))
      have HD223 := Lib.hid (HD222.out.grown_any G23 (by omega))
      have HP23 := Lib.hid M23
      clear M23
      clear G23
      refine hK _ _ ⟨HB23.out, ?_⟩
      clear hK K
      try simp only [Act.put, List.setIfInBounds_toArray, List.set_cons_zero, List.set_cons_succ, List.getElem_toArray, List.getElem_cons_succ, List.getElem_cons_zero]
      refine plan_op (by rfl) (by rfl) fun K hK => ?_
      refine wp_storecell (T := 48) (x := .tmp 4) (y := .tmp 17) (n := q16.heap.size) (v := .slice A1 (takeF (fr, now, bg, fd, sq, hg, lw, bs, jt, ls, hs, ()) nw).2.1.length k1) rfl rfl rfl HR23.out rfl (by kernel_rfl) rfl fun q24 M24 G24 => ?_
      have HB24 := Lib.hid (below_grown HB23.out G24 (by have := HB23.out.size; omega) (by omega))
      have z24 : q23.heap.size ≤ q24.heap.size := G24.size
      have HP24 := Lib.hid (HP23.out.grown G24 (by omega))
      have HD124 := Lib.hid (HD123.out.grown_any G24 (by omega))
      have HD224 := Lib.hid (HD223.out.grown_any G24 (by omega))
      have HR24 := Lib.hid M24
      clear M24
      clear G24
      refine hK _ _ ⟨HB24.out, ?_⟩
      clear hK K
      try simp only [Act.put, List.setIfInBounds_toArray, List.set_cons_zero, List.set_cons_succ, List.getElem_toArray, List.getElem_cons_succ, List.getElem_cons_zero]
      refine plan_stop ?_
      simp only [List.drop_succ_cons, List.drop_zero, Act.put, List.setIfInBounds_toArray, List.set_cons_zero, List.set_cons_succ, List.getElem_toArray, List.getElem_cons_succ, List.getElem_cons_zero]
      go_wp2_with fail
      refine NoPanic.normal ?_
      go_wp2_with fail
      go_ret
      have bN : Below q24.heap.size q24 (q24.alloc (.cells #[.func (.func 20) #[] #[.pointer (some ⟨w.drew.heap.size, 0, none⟩)], .func (.func 21) #[] #[.pointer (some ⟨q16.heap.size, 0, none⟩)]] 44)) := (Below.refl _ q24).alloc (Nat.le_refl _) _
      have MN := Bk.new q24 44 [.func (.func 20) #[] #[.pointer (some ⟨w.drew.heap.size, 0, none⟩)], .func (.func 21) #[] #[.pointer (some ⟨q16.heap.size, 0, none⟩)]]
      have hwW := HB24.out.size
      have hlt0 : w.drew.heap.size < q24.heap.size := HP24.out.lt
      have hlt1 : q16.heap.size < q24.heap.size := HR24.out.lt
      refine ⟨some ⟨q24.heap.size, 0, none⟩, 2, q24.heap.size, [⟨20, w.drew.heap.size, JBuf, (takeF (fr, now, bg, fd, sq, hg, lw, bs, jt, ls, hs, ()) nw).1⟩, ⟨21, q16.heap.size, .sl JMed 112, (takeF (fr, now, bg, fd, sq, hg, lw, bs, jt, ls, hs, ()) nw).2.1⟩], rfl, by simp, fun _ => ⟨rfl, MN.lt, MN.at_⟩, by omega, bN.size, fun v hv => ?_, HB24.out.trans (bN.mono (by omega))⟩
      obtain rfl | rfl : v = _ ∨ v = _ := by simpa using hv
      · exact ⟨looks_20, ⟨_, _, Try.func20, by kernel_rfl, rfl⟩, (show w.heap.size ≤ w.drew.heap.size by omega), (show w.drew.heap.size < q24.heap.size by omega), bN.size, ⟨c1, (HP24.out.below bN).at_, Rep.frame _ _ _ (HD124.out.below bN) fun b h1 h2 => ⟨rfl, (show w.heap.size ≤ b by have := h1.1; omega), (show b < q24.heap.size by have := h1.2; omega)⟩⟩, fits_buf _⟩
      · exact ⟨looks_21, ⟨_, _, Try.func21, by kernel_rfl, rfl⟩, (show w.heap.size ≤ q16.heap.size by omega), (show q16.heap.size < q24.heap.size by omega), bN.size, ⟨[.slice A1 (takeF (fr, now, bg, fd, sq, hg, lw, bs, jt, ls, hs, ()) nw).2.1.length k1], (HR24.out.below bN).at_, Rep.frame _ _ _ (HD224.out.below bN) fun b h1 h2 => ⟨rfl, (show w.heap.size ≤ b by have := h1.1; omega), (show b < q24.heap.size by have := h1.2; omega)⟩⟩, fits_meds _⟩
  · refine plan_op (by rfl) (by rfl) fun K hK => ?_
    refine wp_allocbk (T := 48) (cs := [.slice none 0 0]) rfl (by kernel_rfl) fun q25 M25 B25 Z25 => ?_
    have HB25 := Lib.hid (HB0.out.trans (B25.mono HB0.out.size))
    have z25 : w.drew.heap.size < q25.heap.size := by omega
    have HR25 := Lib.hid M25
    clear M25 B25 Z25
    refine hK _ _ ⟨HB25.out, ?_⟩
    clear hK K
    try simp only [Act.put, List.setIfInBounds_toArray, List.set_cons_zero, List.set_cons_succ, List.getElem_toArray, List.getElem_cons_succ, List.getElem_cons_zero]
    refine ⟨?_, ?_⟩
    · refine plan_op (by rfl) (by rfl) fun K hK => ?_
      refine wp_call2 (f := 19) (x := .tmp 10) (y := .tmp 14) (vx := .agg cb.toArray) (vy := .int .i64 nw) rfl rfl rfl rfl rfl rfl rfl (take_goes q25 S cb fr now bg fd sq hg lw bs jt ls hs nw (HRb.out.below HB25.out) (fun b hb => Nat.lt_of_lt_of_le (HS.out b hb) HB25.out.size) hnw) ?_
      rintro e q26 ⟨c1, A1, k1, rfl, hr26, hs26, hb26⟩
      have HB26 := Lib.hid (HB25.out.trans (hb26.mono HB25.out.size))
      have z26 : q25.heap.size ≤ q26.heap.size := hb26.size
      have HR26 := Lib.hid (HR25.out.below hb26)
      have hlc : c1.length = 11 := Rep.length _ _ _ hr26
      have HLc := Lib.hid hlc
      have HOne := Lib.hid (Rep.one _ _ _ hr26)
      have HD126 := Lib.hid (show Rep q26 (fun b => q25.heap.size ≤ b ∧ b < q26.heap.size) JBuf c1 (takeF (fr, now, bg, fd, sq, hg, lw, bs, jt, ls, hs, ()) nw).1 from Rep.frame _ _ _ hr26 fun b h1 h2 => ⟨rfl, h1, h2⟩)
      have HD226 := Lib.hid (show Rep q26 (fun b => q25.heap.size ≤ b ∧ b < q26.heap.size) (.sl JMed 112) [.slice A1 (takeF (fr, now, bg, fd, sq, hg, lw, bs, jt, ls, hs, ()) nw).2.1.length k1] (takeF (fr, now, bg, fd, sq, hg, lw, bs, jt, ls, hs, ()) nw).2.1 from Rep.frame _ _ _ hs26 fun b h1 h2 => ⟨rfl, h1, h2⟩)
      clear hr26 hs26 hlc
      clear hb26
      refine ⟨_, rfl, hK _ _ ⟨HB26.out, ?_⟩⟩
      clear hK K
      try simp only [Act.put, List.setIfInBounds_toArray, List.set_cons_zero, List.set_cons_succ, List.getElem_toArray, List.getElem_cons_succ, List.getElem_cons_zero]
      refine plan_read (by rfl) (by rfl) (fun u hu => by (clear hu; go_simp; try rfl)) ?_
      try simp only [Act.put, List.setIfInBounds_toArray, List.set_cons_zero, List.set_cons_succ, List.getElem_toArray, List.getElem_cons_succ, List.getElem_cons_zero]
      refine plan_read (by rfl) (by rfl) (fun u hu => by (clear hu; go_simp; try rfl)) ?_
      try simp only [Act.put, List.setIfInBounds_toArray, List.set_cons_zero, List.set_cons_succ, List.getElem_toArray, List.getElem_cons_succ, List.getElem_cons_zero]
      refine plan_read (by rfl) (by rfl) (fun u hu => by (clear hu; go_simp; try rfl)) ?_
      try simp only [Act.put, List.setIfInBounds_toArray, List.set_cons_zero, List.set_cons_succ, List.getElem_toArray, List.getElem_cons_succ, List.getElem_cons_zero]
      refine plan_read (by rfl) (by rfl) (fun u hu => by (clear hu; go_simp; try rfl)) ?_
      try simp only [Act.put, List.setIfInBounds_toArray, List.set_cons_zero, List.set_cons_succ, List.getElem_toArray, List.getElem_cons_succ, List.getElem_cons_zero]
      refine plan_op (by rfl) (by rfl) fun K hK => ?_
      refine wp_allocbk (T := 24) (cs := bufCells 0) rfl (by kernel_rfl) fun q27 M27 B27 Z27 => ?_
      have HB27 := Lib.hid (HB26.out.trans (B27.mono HB26.out.size))
      have z27 : q26.heap.size < q27.heap.size := by omega
      have HR27 := Lib.hid (HR26.out.below B27)
      have HD127 := Lib.hid (HD126.out.below B27)
      have HD227 := Lib.hid (HD226.out.below B27)
      have HP27 := Lib.hid M27
      clear M27 B27 Z27
      refine hK _ _ ⟨HB27.out, ?_⟩
      clear hK K
      try simp only [Act.put, List.setIfInBounds_toArray, List.set_cons_zero, List.set_cons_succ, List.getElem_toArray, List.getElem_cons_succ, List.getElem_cons_zero]
      refine plan_op (by rfl) (by rfl) fun K hK => ?_
      refine wp_storebk (T := 24) (x := .tmp 3) (y := .tmp 16) (n := q26.heap.size) (bs := c1) rfl rfl rfl HP27.out (by rw [HLc.out]; rfl) (by rw [HLc.out]; kernel_rfl) HOne.out fun q28 M28 G28 => ?_
      have HB28 := Lib.hid (below_grown HB27.out G28 (by have := HB27.out.size; omega) (by omega))
      have z28 : q27.heap.size ≤ q28.heap.size := G28.size
      have HR28 := Lib.hid (HR27.out.grown G28 (by omega))
      have HD128 := Lib.hid (HD127.out.grown_any G28 (by omega))
      have HD228 := Lib.hid (HD227.out.grown_any G28 (by omega))
      have HP28 := Lib.hid M28
      clear M28
      clear G28
      refine hK _ _ ⟨HB28.out, ?_⟩
      clear hK K
      try simp only [Act.put, List.setIfInBounds_toArray, List.set_cons_zero, List.set_cons_succ, List.getElem_toArray, List.getElem_cons_succ, List.getElem_cons_zero]
      refine plan_op (by rfl) (by rfl) fun K hK => ?_
      refine wp_storecell (T := 48) (x := .tmp 4) (y := .tmp 17) (n := w.drew.heap.size) (v := .slice A1 (takeF (fr, now, bg, fd, sq, hg, lw, bs, jt, ls, hs, ()) nw).2.1.length k1) rfl rfl rfl HR28.out rfl (by kernel_rfl) rfl fun q29 M29 G29 => ?_
      have HB29 := Lib.hid (below_grown HB28.out G29 (by have := HB28.out.size; omega) (by omega))
      have z29 : q28.heap.size ≤ q29.heap.size := G29.size
      have HD129 := Lib.hid (HD128.out.grown_any G29 (by omega))
      have HD229 := Lib.hid (HD228.out.grown_any G29 (by omega))
      have HP29 := Lib.hid (HP28.out.grown G29 (by omega))
      have HR29 := Lib.hid M29
      clear M29
      clear G29
      refine hK _ _ ⟨HB29.out, ?_⟩
      clear hK K
      try simp only [Act.put, List.setIfInBounds_toArray, List.set_cons_zero, List.set_cons_succ, List.getElem_toArray, List.getElem_cons_succ, List.getElem_cons_zero]
      refine plan_stop ?_
      simp only [List.drop_succ_cons, List.drop_zero, Act.put, List.setIfInBounds_toArray, List.set_cons_zero, List.set_cons_succ, List.getElem_toArray, List.getElem_cons_succ, List.getElem_cons_zero]
      go_wp2_with fail
      refine NoPanic.normal ?_
      go_wp2_with fail
      go_ret
      have bN : Below q29.heap.size q29 (q29.alloc (.cells #[.func (.func 20) #[] #[.pointer (some ⟨q26.heap.size, 0, none⟩)], .func (.func 21) #[] #[.pointer (some ⟨w.drew.heap.size, 0, none⟩)]] 44)) := (Below.refl _ q29).alloc (Nat.le_refl _) _
      have MN := Bk.new q29 44 [.func (.func 20) #[] #[.pointer (some ⟨q26.heap.size, 0, none⟩)], .func (.func 21) #[] #[.pointer (some ⟨w.drew.heap.size, 0, none⟩)]]
      have hwW := HB29.out.size
      have hlt0 : q26.heap.size < q29.heap.size := HP29.out.lt
      have hlt1 : w.drew.heap.size < q29.heap.size := HR29.out.lt
      refine ⟨some ⟨q29.heap.size, 0, none⟩, 2, q29.heap.size, [⟨20, q26.heap.size, JBuf, (takeF (fr, now, bg, fd, sq, hg, lw, bs, jt, ls, hs, ()) nw).1⟩, ⟨21, w.drew.heap.size, .sl JMed 112, (takeF (fr, now, bg, fd, sq, hg, lw, bs, jt, ls, hs, ()) nw).2.1⟩], rfl, by simp, fun _ => ⟨rfl, MN.lt, MN.at_⟩, by omega, bN.size, fun v hv => ?_, HB29.out.trans (bN.mono (by omega))⟩
      obtain rfl | rfl : v = _ ∨ v = _ := by simpa using hv
      · exact ⟨looks_20, ⟨_, _, Try.func20, by kernel_rfl, rfl⟩, (show w.heap.size ≤ q26.heap.size by omega), (show q26.heap.size < q29.heap.size by omega), bN.size, ⟨c1, (HP29.out.below bN).at_, Rep.frame _ _ _ (HD129.out.below bN) fun b h1 h2 => ⟨rfl, (show w.heap.size ≤ b by have := h1.1; omega), (show b < q29.heap.size by have := h1.2; omega)⟩⟩, fits_buf _⟩
      · exact ⟨looks_21, ⟨_, _, Try.func21, by kernel_rfl, rfl⟩, (show w.heap.size ≤ w.drew.heap.size by omega), (show w.drew.heap.size < q29.heap.size by omega), bN.size, ⟨[.slice A1 (takeF (fr, now, bg, fd, sq, hg, lw, bs, jt, ls, hs, ()) nw).2.1.length k1], (HR29.out.below bN).at_, Rep.frame _ _ _ (HD229.out.below bN) fun b h1 h2 => ⟨rfl, (show w.heap.size ≤ b by have := h1.1; omega), (show b < q29.heap.size by have := h1.2; omega)⟩⟩, fits_meds _⟩
    · refine plan_op (by rfl) (by rfl) fun K hK => ?_
      refine wp_allocbk (T := 24) (cs := bufCells 0) rfl (by kernel_rfl) fun q30 M30 B30 Z30 => ?_
      have HB30 := Lib.hid (HB25.out.trans (B30.mono HB25.out.size))
      have z30 : q25.heap.size < q30.heap.size := by omega
      have HR30 := Lib.hid (HR25.out.below B30)
      have HP30 := Lib.hid M30
      clear M30 B30 Z30
      refine hK _ _ ⟨HB30.out, ?_⟩
      clear hK K
      try simp only [Act.put, List.setIfInBounds_toArray, List.set_cons_zero, List.set_cons_succ, List.getElem_toArray, List.getElem_cons_succ, List.getElem_cons_zero]
      refine plan_op (by rfl) (by rfl) fun K hK => ?_
      refine wp_call2 (f := 19) (x := .tmp 10) (y := .tmp 14) (vx := .agg cb.toArray) (vy := .int .i64 nw) rfl rfl rfl rfl rfl rfl rfl (take_goes q30 S cb fr now bg fd sq hg lw bs jt ls hs nw (HRb.out.below HB30.out) (fun b hb => Nat.lt_of_lt_of_le (HS.out b hb) HB30.out.size) hnw) ?_
      rintro e q31 ⟨c1, A1, k1, rfl, hr31, hs31, hb31⟩
      have HB31 := Lib.hid (HB30.out.trans (hb31.mono HB30.out.size))
      have z31 : q30.heap.size ≤ q31.heap.size := hb31.size
      have HR31 := Lib.hid (HR30.out.below hb31)
      have HP31 := Lib.hid (HP30.out.below hb31)
      have hlc : c1.length = 11 := Rep.length _ _ _ hr31
      have HLc := Lib.hid hlc
      have HOne := Lib.hid (Rep.one _ _ _ hr31)
      have HD131 := Lib.hid (show Rep q31 (fun b => q30.heap.size ≤ b ∧ b < q31.heap.size) JBuf c1 (takeF (fr, now, bg, fd, sq, hg, lw, bs, jt, ls, hs, ()) nw).1 from Rep.frame _ _ _ hr31 fun b h1 h2 => ⟨rfl, h1, h2⟩)
      have HD231 := Lib.hid (show Rep q31 (fun b => q30.heap.size ≤ b ∧ b < q31.heap.size) (.sl JMed 112) [.slice A1 (takeF (fr, now, bg, fd, sq, hg, lw, bs, jt, ls, hs, ()) nw).2.1.length k1] (takeF (fr, now, bg, fd, sq, hg, lw, bs, jt, ls, hs, ()) nw).2.1 from Rep.frame _ _ _ hs31 fun b h1 h2 => ⟨rfl, h1, h2⟩)
      clear hr31 hs31 hlc
      clear hb31
      refine ⟨_, rfl, hK _ _ ⟨HB31.out, ?_⟩⟩
      clear hK K
      try simp only [Act.put, List.setIfInBounds_toArray, List.set_cons_zero, List.set_cons_succ, List.getElem_toArray, List.getElem_cons_succ, List.getElem_cons_zero]
      refine plan_read (by rfl) (by rfl) (fun u hu => by (clear hu; go_simp; try rfl)) ?_
      try simp only [Act.put, List.setIfInBounds_toArray, List.set_cons_zero, List.set_cons_succ, List.getElem_toArray, List.getElem_cons_succ, List.getElem_cons_zero]
      refine plan_read (by rfl) (by rfl) (fun u hu => by (clear hu; go_simp; try rfl)) ?_
      try simp only [Act.put, List.setIfInBounds_toArray, List.set_cons_zero, List.set_cons_succ, List.getElem_toArray, List.getElem_cons_succ, List.getElem_cons_zero]
      refine plan_read (by rfl) (by rfl) (fun u hu => by (clear hu; go_simp; try rfl)) ?_
      try simp only [Act.put, List.setIfInBounds_toArray, List.set_cons_zero, List.set_cons_succ, List.getElem_toArray, List.getElem_cons_succ, List.getElem_cons_zero]
      refine plan_read (by rfl) (by rfl) (fun u hu => by (clear hu; go_simp; try rfl)) ?_
      try simp only [Act.put, List.setIfInBounds_toArray, List.set_cons_zero, List.set_cons_succ, List.getElem_toArray, List.getElem_cons_succ, List.getElem_cons_zero]
      refine plan_op (by rfl) (by rfl) fun K hK => ?_
      refine wp_storebk (T := 24) (x := .tmp 3) (y := .tmp 16) (n := q25.heap.size) (bs := c1) rfl rfl rfl HP31.out (by rw [HLc.out]; rfl) (by rw [HLc.out]; kernel_rfl) HOne.out fun q32 M32 G32 => ?_
      have HB32 := Lib.hid (below_grown HB31.out G32 (by have := HB31.out.size; omega) (by omega))
      have z32 : q31.heap.size ≤ q32.heap.size := G32.size
      have HR32 := Lib.hid (HR31.out.grown G32 (by omega))
      have HD132 := Lib.hid (HD131.out.grown_any G32 (by omega))
      have HD232 := Lib.hid (HD231.out.grown_any G32 (by omega))
      have HP32 := Lib.hid M32
      clear M32
      clear G32
      refine hK _ _ ⟨HB32.out, ?_⟩
      clear hK K
      try simp only [Act.put, List.setIfInBounds_toArray, List.set_cons_zero, List.set_cons_succ, List.getElem_toArray, List.getElem_cons_succ, List.getElem_cons_zero]
      refine plan_op (by rfl) (by rfl) fun K hK => ?_
      refine wp_storecell (T := 48) (x := .tmp 4) (y := .tmp 17) (n := w.drew.heap.size) (v := .slice A1 (takeF (fr, now, bg, fd, sq, hg, lw, bs, jt, ls, hs, ()) nw).2.1.length k1) rfl rfl rfl HR32.out rfl (by kernel_rfl) rfl fun q33 M33 G33 => ?_
      have HB33 := Lib.hid (below_grown HB32.out G33 (by have := HB32.out.size; omega) (by omega))
      have z33 : q32.heap.size ≤ q33.heap.size := G33.size
      have HP33 := Lib.hid (HP32.out.grown G33 (by omega))
      have HD133 := Lib.hid (HD132.out.grown_any G33 (by omega))
      have HD233 := Lib.hid (HD232.out.grown_any G33 (by omega))
      have HR33 := Lib.hid M33
      clear M33
      clear G33
      refine hK _ _ ⟨HB33.out, ?_⟩
      clear hK K
      try simp only [Act.put, List.setIfInBounds_toArray, List.set_cons_zero, List.set_cons_succ, List.getElem_toArray, List.getElem_cons_succ, List.getElem_cons_zero]
      refine plan_stop ?_
      simp only [List.drop_succ_cons, List.drop_zero, Act.put, List.setIfInBounds_toArray, List.set_cons_zero, List.set_cons_succ, List.getElem_toArray, List.getElem_cons_succ, List.getElem_cons_zero]
      go_wp2_with fail
      refine NoPanic.normal ?_
      go_wp2_with fail
      go_ret
      have bN : Below q33.heap.size q33 (q33.alloc (.cells #[.func (.func 20) #[] #[.pointer (some ⟨q25.heap.size, 0, none⟩)], .func (.func 21) #[] #[.pointer (some ⟨w.drew.heap.size, 0, none⟩)]] 44)) := (Below.refl _ q33).alloc (Nat.le_refl _) _
      have MN := Bk.new q33 44 [.func (.func 20) #[] #[.pointer (some ⟨q25.heap.size, 0, none⟩)], .func (.func 21) #[] #[.pointer (some ⟨w.drew.heap.size, 0, none⟩)]]
      have hwW := HB33.out.size
      have hlt0 : q25.heap.size < q33.heap.size := HP33.out.lt
      have hlt1 : w.drew.heap.size < q33.heap.size := HR33.out.lt
      refine ⟨some ⟨q33.heap.size, 0, none⟩, 2, q33.heap.size, [⟨20, q25.heap.size, JBuf, (takeF (fr, now, bg, fd, sq, hg, lw, bs, jt, ls, hs, ()) nw).1⟩, ⟨21, w.drew.heap.size, .sl JMed 112, (takeF (fr, now, bg, fd, sq, hg, lw, bs, jt, ls, hs, ()) nw).2.1⟩], rfl, by simp, fun _ => ⟨rfl, MN.lt, MN.at_⟩, by omega, bN.size, fun v hv => ?_, HB33.out.trans (bN.mono (by omega))⟩
      obtain rfl | rfl : v = _ ∨ v = _ := by simpa using hv
      · exact ⟨looks_20, ⟨_, _, Try.func20, by kernel_rfl, rfl⟩, (show w.heap.size ≤ q25.heap.size by omega), (show q25.heap.size < q33.heap.size by omega), bN.size, ⟨c1, (HP33.out.below bN).at_, Rep.frame _ _ _ (HD133.out.below bN) fun b h1 h2 => ⟨rfl, (show w.heap.size ≤ b by have := h1.1; omega), (show b < q33.heap.size by have := h1.2; omega)⟩⟩, fits_buf _⟩
      · exact ⟨looks_21, ⟨_, _, Try.func21, by kernel_rfl, rfl⟩, (show w.heap.size ≤ w.drew.heap.size by omega), (show w.drew.heap.size < q33.heap.size by omega), bN.size, ⟨[.slice A1 (takeF (fr, now, bg, fd, sq, hg, lw, bs, jt, ls, hs, ()) nw).2.1.length k1], (HR33.out.below bN).at_, Rep.frame _ _ _ (HD233.out.below bN) fun b h1 h2 => ⟨rfl, (show w.heap.size ≤ b by have := h1.1; omega), (show b < q33.heap.size by have := h1.2; omega)⟩⟩, fits_meds _⟩
end Go.Proofs.Ytjmohkgbfigcgaa.Sh
