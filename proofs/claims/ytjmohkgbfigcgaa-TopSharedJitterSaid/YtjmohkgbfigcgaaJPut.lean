/- jitter.Put. -/
import Derived.Test.YtjmohkgbfigcgaaJInsert
namespace Go.Proofs.Ytjmohkgbfigcgaa.Sh
open Go Go.RowKit
set_option linter.unusedVariables false
set_option linter.unusedSimpArgs false

/-- a new variable of zero cells -/
theorem step_alloch {P : Program} {ops : Array Oper} {rest : List Oper} {o : Oper} {a : Act} {Q : Exit → Act → World → Prop} {w : World} {T : TypeId} {cs : List Value}
    (hg : o.guard = none) (ho : o.op = .alloc T) (hz : (P.info? T).map (fun i => i.zero.map (·.cells)) = some (some cs.toArray))
    (h : ∀ w', Bk w' w.heap.size T cs → Below w.heap.size w w' → w'.heap.size = w.heap.size + 1 → Hid (wpList P ops Q rest (a.put o.dst (.pointer (some ⟨w.heap.size, 0, none⟩))) w')) : wpList P ops Q (o :: rest) a w := by
  obtain ⟨i, hi, h1⟩ := Option.map_eq_some_iff.1 hz
  obtain ⟨z, hz, h2⟩ := Option.map_eq_some_iff.1 h1
  refine step_alloc hg ho hi hz ?_
  rw [h2]
  exact (h _ (Bk.new w _ cs) ((Below.refl _ w).alloc (Nat.le_refl _) _) (alloc_size _ _)).out
/-- a whole variable is read -/
theorem step_loadbk {P : Program} {ops : Array Oper} {rest : List Oper} {o : Oper} {a : Act} {Q : Exit → Act → World → Prop} {W : World} {T TT : TypeId} {x : Operand} {n : Nat} {cs : List Value} {d : TypeDesc}
    (hg : o.guard = none) (ho : o.op = .load T x) (hx : a.eval x = .pointer (some ⟨n, 0, none⟩)) (hz : Bk W n TT cs) (hu : P.underlying T = some d) (hd : d.isRow = true) (hi : (P.info? T).map (·.size) = some cs.length)
    (h : wpList P ops Q rest (a.put o.dst (.agg cs.toArray)) W) : wpList P ops Q (o :: rest) a W :=
  wpList_load_mid hg T x ho n 0 hx cs d (fun j v hv => (hz.at_ j v hv).1) hu hd hi h

/-- a new variable, and what is stored in it, of whatever kind -/
theorem step_newv {P : Program} {ops : Array Oper} {rest : List Oper} {o1 o2 : Oper} {a : Act} {Q : Exit → Act → World → Prop} {w : World} {T : TypeId} {d1 : Nat} {y : Operand} {V : Value} {bs : List Value}
    (hg1 : o1.guard = none) (hg2 : o2.guard = none) (ho1 : o1.op = .alloc T) (hd1 : o1.dst = some d1) (ho2 : o2.op = .store T (.tmp d1) y) (hlt : d1 < a.tmps.size) (hy : (a.put (some d1) (.pointer (some ⟨w.heap.size, 0, none⟩))).eval y = V) (hV : V.cells = bs.toArray)
    (hz : (P.info? T).map (fun i => i.zero.map (·.cells.size)) = some (some bs.length)) (hsz : (P.info? T).map (·.size) = some bs.length) (hone : ∀ v ∈ bs, v.oneCell' = true)
    (h : ∀ w', Bk w' w.heap.size T bs → Below w.heap.size w w' → w'.heap.size = w.heap.size + 1 → Hid (wpList P ops Q rest ((a.put (some d1) (.pointer (some ⟨w.heap.size, 0, none⟩))).put o2.dst undef) w')) : wpList P ops Q (o1 :: o2 :: rest) a w := by
  obtain ⟨i, hi, h1⟩ := Option.map_eq_some_iff.1 hz
  obtain ⟨z, hz, hzl⟩ := Option.map_eq_some_iff.1 h1
  refine step_alloc hg1 ho1 hi hz ?_
  replace hzl : z.cells.size = bs.length := hzl
  generalize z.cells = zc at hzl ⊢
  rw [hd1]
  have e2 : (a.put (some d1) (.pointer (some ⟨w.heap.size, 0, none⟩))).eval (.tmp d1) = .pointer (some ⟨w.heap.size, 0, none⟩) := eval_put_same hlt
  have hbk : (w.alloc (.cells zc T)).heap[w.heap.size]? = some (.cells zc T (0, 0)) := heap_alloc_new w _
  have hst := run_storeCells_at P w.heap.size 0 T bs 0 zc _ hbk (by omega) hone
  have hrowEq : (zc.toList.take (0 + 0) ++ bs ++ zc.toList.drop (0 + 0 + bs.length)) = bs := by simp [← hzl]
  rw [hrowEq] at hst
  have hsize : (sizeOf T).run P (w.alloc (.cells zc T)) = .ok bs.length (w.alloc (.cells zc T)) := by
    cases hq : P.info? T with
    | none => simp [hq] at hsz
    | some i => simp [hq] at hsz; simp [sizeOf, typeInfo, hq, hsz]
  refine wpList_skip (w' := (w.alloc (.cells zc T)).setRow w.heap.size bs.toArray) hg2 ?_ (h _ (setRow_heap _ w.heap.size _ _ T _ hbk) ?_ ?_).out
  · simp only [execOp, ho2, hy, e2, Instr.storeAt, Instr.sureAddr, storeVar, Sem.run_bind, Sem.run_pure, Result.andThen_ok, hsize, hV, List.size_toArray, ne_eq, not_true_eq_false, if_false, hst]
  · exact below_grown ((Below.refl _ w).alloc (Nat.le_refl _) _) (r := w.heap.size) ⟨rfl, rfl, rfl, by rw [setRow_size]; exact Nat.le_refl _, fun k hk hn => setRow_other _ _ _ _ (fun e => hn (by rw [e]))⟩ (by simp) (Nat.le_refl _)
  · rw [setRow_size]; simp

/-- what Put answers -/
def putF : JBuf.Data → Int → JMed.Data → JBuf.Data × Int
  | (fr, now, bg, fd, sq, hg, lw, bs, jt, ls, hs, u), nw, m =>
    if !checkB (fr, now, bg, fd, sq, hg, lw, bs, jt, ls, hs, u) then (bufOf 0, 260)
    else if !withinF now 1099511627776 nw then (bufOf 0, 2)
    else if !checkM m then (bufOf 0, 230)
    else if !bg then ((fr, nw, true, true, seqOf m, 1099511627776 + stampOf m, nw * fr - (1099511627776 + stampOf m), nw * fr - (1099511627776 + stampOf m), jt, ls, [(m, 1099511627776 + stampOf m, ())], ()), 0)
    else
      let far := aheadF (seqOf m) sq 65536
      let i := bsF (farF hs sq far) hs.length 0 hs.length
      let st := hg + aheadF (stampOf m) (hg % 4294967296) 4294967296
      if decide (far < 0) || (decide (i < hs.length) && decide (farF hs sq far i = 0)) then (bufOf 0, 10)
      else if decide (511 < far) || !withinF 0 1152921504606846976 st then (bufOf 0, 6)
      else if hs.length = 64 then (bufOf 0, 3)
      else ((fr, nw, bg, fd, sq, max hg st, min lw (nw * fr - st), nw * fr - st, learnF jt (nw * fr - st - bs), ls, hs.take i ++ (m, st, ()) :: hs.drop i, ()), 0)

theorem fit_one {b x : Int} (h : fitF b [x] = true) : 0 ≤ x ∧ x / 2 ^ b.toNat = 0 := by
  simp [fitF, unfit] at h
  exact ⟨by omega, h.2⟩
theorem checkM_nums {v : Bool} {k s t r : Int} {xs : List Int} {es : List JExt.Data} {p : Int} {pay : ByteArray} {u : Unit} (h : checkM (v, k, s, t, r, xs, es, p, pay, u) = true) : (0 ≤ s ∧ s < 65536) ∧ 0 ≤ t ∧ t < 4294967296 := by
  simp only [checkM, Bool.and_eq_true] at h
  have h2 : fitF 16 [s] = true := h.1.1.1.1.1.1.2
  have h3 : fitF 32 [t, r] = true := h.1.1.1.1.1.2
  have a := fit_one h2
  have b : fitF 32 [t] = true := by simp [fitF] at h3 ⊢; exact h3.1
  have b := fit_one b
  have e1 : (2 : Int) ^ (16 : Int).toNat = 65536 := by decide
  have e2 : (2 : Int) ^ (32 : Int).toNat = 4294967296 := by decide
  rw [e1] at a
  rw [e2] at b
  omega

theorem Change.below {w w' : World} {B g : Nat} {fr now : Int} {bg fd : Bool} {sq hg lw bs jt ls : Int} {A : Option Addr} {n c lo : Nat} {news : List Value} {hs : List JHeld.Data} (h : Change w B g fr now bg fd sq hg lw bs jt ls A n c lo news hs) (hb : Below w.heap.size w w') : Change w' B g fr now bg fd sq hg lw bs jt ls A n c lo news hs :=
  ⟨h.at_.below hb, h.base, h.len, h.own.kept (row := none) ⟨hb.os, hb.tape, hb.output, hb.size, fun i hi _ => hb.block i hi⟩ (by cases (Value.slice A n c).ownBlock <;> simp), h.low, h.hold.frame fun b h1 h2 => ⟨hb.block b h2, h1⟩, h.lo1, Nat.le_trans h.lo2 hb.size⟩
theorem Change.grown_low {w w' : World} {B g r : Nat} {fr now : Int} {bg fd : Bool} {sq hg lw bs jt ls : Int} {A : Option Addr} {n c lo : Nat} {news : List Value} {hs : List JHeld.Data} (h : Change w B g fr now bg fd sq hg lw bs jt ls A n c lo news hs) (hb : w.grownBy w' (some r)) (hr : r < B) : Change w' B g fr now bg fd sq hg lw bs jt ls A n c lo news hs :=
  ⟨h.at_.grown hb (by have := h.base; omega), h.base, h.len, h.own.kept hb (by
    rcases hob : (Value.slice A n c).ownBlock with _ | b
    · exact .inl rfl
    · refine .inr fun e => ?_
      have := (h.own.lt b hob).1
      have := h.base
      injection e with e
      omega), h.low, h.hold.frame fun b h1 h2 => ⟨hb.block b h2 (by intro e; injection e with e; have h1 : lo ≤ b := h1; have := h.lo1; have := h.base; omega), h1⟩, h.lo1, Nat.le_trans h.lo2 hb.size⟩

theorem in_i64 (x : Int) (h : -9223372036854775808 ≤ x ∧ x ≤ 9223372036854775807) : IntKind.i64.min ≤ x ∧ x ≤ IntKind.i64.max := by
  have e1 : IntKind.i64.min = -9223372036854775808 := by decide
  have e2 : IntKind.i64.max = 9223372036854775807 := by decide
  omega
theorem mul_small {a b : Int} (ha : 1 ≤ a ∧ a ≤ 96) (hb : 0 ≤ b ∧ b ≤ 1099511627776) : 0 ≤ b * a ∧ b * a ≤ 105553116266496 := by
  have a1 : b * a ≤ 1099511627776 * 96 := Int.mul_le_mul hb.2 ha.2 (by omega) (by omega)
  have a2 : 0 ≤ b * a := Int.mul_nonneg hb.1 (by omega)
  omega

theorem Change.moved {w w' : World} {B g : Nat} {fr now : Int} {bg fd : Bool} {sq hg lw bs jt ls : Int} {A : Option Addr} {n c lo : Nat} {news : List Value} {hs : List JHeld.Data} (h : Change w B g fr now bg fd sq hg lw bs jt ls A n c lo news hs) (hb : w.grownBy w' (some g)) :
    w'.ownsRow (g + 1) 83 10 (.slice A n c) n news ∧ RepL w' (Fr lo) JHeld news hs :=
  ⟨h.own.kept hb (by
    rcases hob : (Value.slice A n c).ownBlock with _ | b
    · exact .inl rfl
    · refine .inr fun e => ?_
      have := (h.own.lt b hob).1
      injection e with e
      omega), h.hold.frame fun b h1 h2 => ⟨hb.block b h2 (by intro e; injection e with e; have h1 : lo ≤ b := h1; have := h.lo1; omega), h1⟩⟩
theorem Bk.grownr {w w' : World} {n : Nat} {T : TypeId} {bs : List Value} {r : Option Nat} (h : Bk w n T bs) (hg : w.grownBy w' r) (hne : some n ≠ r) : Bk w' n T bs := (hg.block n h.lt hne).trans h
theorem RepL.append {w : World} {S : Nat → Prop} {e : Ty} {n1 n2 : List Value} {d1 d2 : List e.Data} (h1 : RepL w S e n1 d1) (h2 : RepL w S e n2 d2) : RepL w S e (n1 ++ n2) (d1 ++ d2) := by
  refine ⟨by rw [List.length_append, List.length_append, h1.1, h2.1, Nat.add_mul], fun i hi => ?_⟩
  by_cases hlt : i < d1.length
  · have e1 : i * e.width + e.width ≤ n1.length := by rw [h1.1, ← Nat.succ_mul]; exact Nat.mul_le_mul_right _ hlt
    rw [List.drop_append_of_le_length (by omega), List.take_append_of_le_length (by rw [List.length_drop]; omega), List.getElem_append_left hlt]
    exact h1.2 i hlt
  · have hle : d1.length * e.width ≤ i * e.width := Nat.mul_le_mul_right _ (by omega)
    rw [List.drop_append, List.drop_of_length_le (by rw [h1.1]; exact hle), List.nil_append, h1.1, ← Nat.sub_mul, List.getElem_append_right (by omega)]
    exact h2.2 (i - d1.length) (by rw [List.length_append] at hi; omega)
theorem ahead32_bound (a b : Int) : -2147483648 ≤ aheadF a b 4294967296 ∧ aheadF a b 4294967296 ≤ 2147483647 := by
  unfold aheadF
  split
  · omega
  · split <;> omega

def PutPost (w : World) (d : JBuf.Data) (nw : Int) (m : JMed.Data) (e : Ending) (w' : World) : Prop :=
  ∃ cs, e = .returned (.tuple #[.agg cs.toArray, .int .i64 (putF d nw m).2]) ∧ Rep w' (Fr w.heap.size) JBuf cs (putF d nw m).1 ∧ Below w.heap.size w w'

set_option maxRecDepth 100000 in
set_option maxHeartbeats 3200000 in
theorem put_goes (w : World) (S : Nat → Prop) (cs ms : List Value) (fr now : Int) (bg fd : Bool) (sq hg lw bs jt ls : Int) (hs : List JHeld.Data) (nw : Int) (m : JMed.Data) (h : Rep w S JBuf cs (fr, now, bg, fd, sq, hg, lw, bs, jt, ls, hs, ())) (hm : Rep w S JMed ms m) (hS : ∀ b, S b → b < w.heap.size) (hnw : IntKind.i64.min ≤ nw ∧ nw ≤ IntKind.i64.max) :
    Calls Try.prog 14 #[.agg cs.toArray, .int .i64 nw, .agg ms.toArray] w (PutPost w (fr, now, bg, fd, sq, hg, lw, bs, jt, ls, hs, ()) nw m) := by
  have hl1 : cs.length = 11 := Rep.length _ _ _ h
  have hl2 : ms.length = 9 := Rep.length _ _ _ hm
  have HRp := Lib.hid h
  have HMp := Lib.hid hm
  have HS := Lib.hid hS
  have HL1 := Lib.hid hl1
  have HL2 := Lib.hid hl2
  generalize hpost : PutPost w (fr, now, bg, fd, sq, hg, lw, bs, jt, ls, hs, ()) nw m = post
  have HPost := Lib.hid (fun (e : Ending) (w' : World) (h : PutPost w (fr, now, bg, fd, sq, hg, lw, bs, jt, ls, hs, ()) nw m e w') => show post e w' from hpost ▸ h)
  clear h hm hS hl1 hl2 hpost
  go_enter Try.func14, Try.ntmps14
  go_wp2_with (refine step_boxh (cs := cs) rfl rfl rfl fun w1 M1 B1 Z1 => ?_)
  have HM1 := Lib.hid M1
  have HB1 := Lib.hid B1
  have HZ1 := Lib.hid Z1
  clear M1 B1 Z1
  refine Lib.hid ?_
  go_wp2_with (refine step_boxh (cs := ms) rfl rfl rfl fun w2 M2 B2 Z2 => ?_)
  have HM2 := Lib.hid (HM1.out.below B2)
  have HP2 := Lib.hid M2
  have HB2 := Lib.hid (HB1.out.trans (B2.mono HB1.out.size))
  have HZ2 := Lib.hid Z2
  clear M2 B2 HM1 HB1 Z2
  refine Lib.hid ?_
  go_wp2_with (refine step_alloch (cs := bufCells 0) rfl rfl (by kernel_rfl) fun w3 M3 B3 Z3 => ?_)
  have HM3 := Lib.hid (HM2.out.below B3)
  have HP3 := Lib.hid (HP2.out.below B3)
  have HR3 := Lib.hid M3
  have HB3 := Lib.hid (HB2.out.trans (B3.mono HB2.out.size))
  have HZ3 := Lib.hid Z3
  have HD3 := Lib.hid (show w.heap.size < w1.heap.size ∧ w1.heap.size < w2.heap.size ∧ w2.heap.size < w3.heap.size by
    have := HZ1.out; have := HZ2.out; omega)
  clear M3 B3 HM2 HP2 HB2 Z3
  refine Lib.hid ?_
  go_wp2_with (refine step_loadbk (T := 24) rfl rfl rfl HM3.out Try.underlying24 rfl (by rw [HL1.out]; kernel_rfl) ?_)
  refine (start_goes w3 S cs fr now bg fd sq hg lw bs jt ls hs nw (HRp.out.below HB3.out) (fun b hb => Nat.lt_of_lt_of_le (HS.out b hb) HB3.out.size) hnw).mono ?_
  rintro e w4 ⟨hb4, hE1, hE2, hE3⟩
  have HP4 := Lib.hid (HP3.out.below (hb4.mono (Nat.le_refl _)))
  have HR4 := Lib.hid (HR3.out.below (hb4.mono (Nat.le_refl _)))
  have HB4 := Lib.hid (HB3.out.trans (hb4.mono HB3.out.size))
  have HD4 := Lib.hid (show w3.heap.size ≤ w4.heap.size from hb4.size)
  clear HM3 HP3 HR3 HB3 hb4 HZ1 HZ2 HZ3
  have hdd : w.heap.size ≤ w2.heap.size ∧ w2.heap.size < w4.heap.size ∧ w.heap.size < w1.heap.size ∧ w1.heap.size < w2.heap.size := by have := HD3.out; have := HD4.out; omega
  cases hq : checkB (fr, now, bg, fd, sq, hg, lw, bs, jt, ls, hs, ()) with
  | false =>
    have HQ := Lib.hid hq
    have e1 := hE1 hq
    subst e1
    clear hq hE1 hE2 hE3
    go_wp2_with (refine step_newv (T := 75) (V := .pointer none) (bs := [.pointer none]) rfl rfl rfl rfl rfl (by simp) rfl rfl (by kernel_rfl) (by kernel_rfl) (by simp [Value.oneCell']) fun w5 M5 B5 Z5 => ?_)
    have HT5 := Lib.hid M5
    have HP5 := Lib.hid (HP4.out.below (B5.mono (Nat.le_refl _)))
    have HR5 := Lib.hid (HR4.out.below (B5.mono (Nat.le_refl _)))
    have HB5 := Lib.hid (HB4.out.trans (B5.mono HB4.out.size))
    have HD5 := Lib.hid B5
    have hdd5 : w4.heap.size < w5.heap.size := by omega
    clear M5 B5 Z5 HP4 HR4 HB4
    refine Lib.hid ?_
    go_wp2_with (refine step_store (T := 24) (n := w2.heap.size) (bs := bufCells 0) rfl rfl rfl rfl HR5.out rfl (by kernel_rfl) (Rep.one _ _ _ (rep_bufOf w (fun _ => True) 0 zero_in)) fun w9 b9 g9 => ?_)
    have HB9 := Lib.hid b9
    have HG9 := Lib.hid (below_grown HB5.out g9 (by have := HB5.out.size; omega) (by omega))
    clear b9 g9
    refine Lib.hid ?_
    go_wp2_with fail
    refine bodyPost_ret (results_row_tmp rfl _ _ w2.heap.size 24 (bufCells 0) _ rfl HB9.out Try.underlying24 rfl (by kernel_rfl)) rfl ?_
    have hp : putF (fr, now, bg, fd, sq, hg, lw, bs, jt, ls, hs, ()) nw m = (bufOf 0, 260) := by simp [putF, HQ.out]
    exact HPost.out _ _ ⟨bufCells 0, by rw [hp]; rfl, by rw [hp]; exact rep_bufOf _ _ _ zero_in, HG9.out⟩
  | true =>
    cases hq2 : withinF now 1099511627776 nw with
    | false =>
      have HQ := Lib.hid hq
      have HQ2 := Lib.hid hq2
      have e1 := hE2 hq hq2
      subst e1
      clear hq hq2 hE1 hE2 hE3
      go_wp2_with (refine step_newv (T := 75) (V := .pointer none) (bs := [.pointer none]) rfl rfl rfl rfl rfl (by simp) rfl rfl (by kernel_rfl) (by kernel_rfl) (by simp [Value.oneCell']) fun w5 M5 B5 Z5 => ?_)
      have HT5 := Lib.hid M5
      have HP5 := Lib.hid (HP4.out.below (B5.mono (Nat.le_refl _)))
      have HR5 := Lib.hid (HR4.out.below (B5.mono (Nat.le_refl _)))
      have HB5 := Lib.hid (HB4.out.trans (B5.mono HB4.out.size))
      have HD5 := Lib.hid B5
      have hdd5 : w4.heap.size < w5.heap.size := by omega
      clear M5 B5 Z5 HP4 HR4 HB4
      refine Lib.hid ?_
      go_wp2_with (refine step_store (T := 24) (n := w2.heap.size) (bs := bufCells 0) rfl rfl rfl rfl HR5.out rfl (by kernel_rfl) (Rep.one _ _ _ (rep_bufOf w (fun _ => True) 0 zero_in)) fun w9 b9 g9 => ?_)
      have HB9 := Lib.hid b9
      have HG9 := Lib.hid (below_grown HB5.out g9 (by have := HB5.out.size; omega) (by omega))
      clear b9 g9
      refine Lib.hid ?_
      go_wp2_with fail
      refine bodyPost_ret (results_row_tmp rfl _ _ w2.heap.size 24 (bufCells 0) _ rfl HB9.out Try.underlying24 rfl (by kernel_rfl)) rfl ?_
      have hp : putF (fr, now, bg, fd, sq, hg, lw, bs, jt, ls, hs, ()) nw m = (bufOf 0, 2) := by simp [putF, HQ.out, HQ2.out]
      exact HPost.out _ _ ⟨bufCells 0, by rw [hp]; rfl, by rw [hp]; exact rep_bufOf _ _ _ zero_in, HG9.out⟩
    | true =>
      obtain ⟨g, A, c, lo, news, rfl, hch⟩ := hE3 hq hq2
      have HQ := Lib.hid hq
      have HQ2 := Lib.hid hq2
      have HC := Lib.hid hch
      have HLO := Lib.hid hch.lo2
      clear hq hq2 hE1 hE2 hE3 hch
      go_wp2_with (refine step_newv (T := 75) (V := .pointer (some ⟨g, 0, none⟩)) (bs := [.pointer (some ⟨g, 0, none⟩)]) rfl rfl rfl rfl rfl (by simp) rfl rfl (by kernel_rfl) (by kernel_rfl) (by simp [Value.oneCell']) fun w5 M5 B5 Z5 => ?_)
      have HT5 := Lib.hid M5
      have HP5 := Lib.hid (HP4.out.below (B5.mono (Nat.le_refl _)))
      have HR5 := Lib.hid (HR4.out.below (B5.mono (Nat.le_refl _)))
      have HB5 := Lib.hid (HB4.out.trans (B5.mono HB4.out.size))
      have HD5 := Lib.hid B5
      have hdd5 : w4.heap.size < w5.heap.size := by omega
      clear M5 B5 Z5 HP4 HR4 HB4
      refine Lib.hid ?_
      have hC5 := HC.out.below HD5.out
      have HC5 := Lib.hid hC5
      clear hC5 HC HD5
      go_wp2_with (refine step_loadbk (T := 28) rfl rfl rfl HP5.out Try.underlying28 rfl (by rw [HL2.out]; kernel_rfl) ?_)
      refine (checkM_goes w5 S ms m (HMp.out.below HB5.out) (fun b hb => Nat.lt_of_lt_of_le (HS.out b hb) HB5.out.size)).mono ?_
      rintro e w6 ⟨rfl, hb6⟩
      have HT6 := Lib.hid (HT5.out.below (hb6.mono (Nat.le_refl _)))
      have HP6 := Lib.hid (HP5.out.below (hb6.mono (Nat.le_refl _)))
      have HR6 := Lib.hid (HR5.out.below (hb6.mono (Nat.le_refl _)))
      have HC6 := Lib.hid (HC5.out.below (hb6.mono (Nat.le_refl _)))
      have HB6 := Lib.hid (HB5.out.trans (hb6.mono HB5.out.size))
      have hdd6 : w5.heap.size ≤ w6.heap.size := hb6.size
      clear HT5 HP5 HR5 HC5 HB5 hb6
      cases hq3 : checkM m with
      | false =>
        have HQ3 := Lib.hid hq3
        clear hq3
        go_wp2_with (refine step_store (T := 24) (n := w2.heap.size) (bs := bufCells 0) rfl rfl rfl rfl HR6.out rfl (by kernel_rfl) (Rep.one _ _ _ (rep_bufOf w (fun _ => True) 0 zero_in)) fun w9 b9 g9 => ?_)
        have HB9 := Lib.hid b9
        have HG9 := Lib.hid (below_grown HB6.out g9 (by have := HB6.out.size; omega) (by omega))
        clear b9 g9
        refine Lib.hid ?_
        go_wp2_with fail
        refine bodyPost_ret (results_row_tmp rfl _ _ w2.heap.size 24 (bufCells 0) _ rfl HB9.out Try.underlying24 rfl (by kernel_rfl)) rfl ?_
        have hp : putF (fr, now, bg, fd, sq, hg, lw, bs, jt, ls, hs, ()) nw m = (bufOf 0, 230) := by simp [putF, HQ.out, HQ2.out, HQ3.out]
        exact HPost.out _ _ ⟨bufCells 0, by rw [hp]; rfl, by rw [hp]; exact rep_bufOf _ _ _ zero_in, HG9.out⟩
      | true =>
        have HQ3 := Lib.hid hq3
        clear hq3
        go_wp2_with (refine step_loadbk (T := 28) rfl rfl rfl HP6.out Try.underlying28 rfl (by rw [HL2.out]; kernel_rfl) ?_)
        refine (ownM_goes w6 _ _ _ (HMp.out.below HB6.out)).mono ?_
        rintro e w7 ⟨_, rfl, ms2, rfl, q7, hb7⟩
        simp only [valOf, if_true]
        have hl7 : ms2.length = 9 := Rep.length _ _ _ q7
        have HL7 := Lib.hid hl7
        have HT7 := Lib.hid (HT6.out.below (hb7.mono (Nat.le_refl _)))
        have HP7 := Lib.hid (HP6.out.below (hb7.mono (Nat.le_refl _)))
        have HR7 := Lib.hid (HR6.out.below (hb7.mono (Nat.le_refl _)))
        have HC7 := Lib.hid (HC6.out.below (hb7.mono (Nat.le_refl _)))
        have HB7 := Lib.hid (HB6.out.trans (hb7.mono HB6.out.size))
        have HQ7 := Lib.hid q7
        have hdd7 : w6.heap.size ≤ w7.heap.size := hb7.size
        clear HT6 HP6 HR6 HC6 HB6 hb7 q7 hl7
        go_wp2_with (refine step_store (T := 28) (n := w1.heap.size) (bs := ms2) rfl rfl rfl rfl HP7.out (by rw [HL7.out, HL2.out]) (by rw [HL7.out]; kernel_rfl) (Rep.one _ _ _ HQ7.out) fun w8 b8 g8 => ?_)
        have HP8 := Lib.hid b8
        have HT8 := Lib.hid (HT7.out.grown g8 (by omega))
        have HR8 := Lib.hid (HR7.out.grown g8 (by omega))
        have HC8 := Lib.hid (HC7.out.grown_low g8 (by have := HD4.out; have := HD3.out; omega))
        have HB8 := Lib.hid (below_grown HB7.out g8 (by omega) (by omega))
        have HQ8 := Lib.hid (HQ7.out.grown g8 (by omega))
        have hdd8 : w7.heap.size ≤ w8.heap.size := g8.size
        clear b8 g8 HP7 HT7 HR7 HC7 HB7 HQ7
        refine Lib.hid ?_
        obtain ⟨v, k, s, t, r, xs, es, pp, pay, ⟨⟩⟩ := m
        obtain ⟨A5, c5, A6, c6, hms, hxs, hes, hk, hs1, ht1, hr1, hp1, hpay⟩ := rep_med HQ8.out
        subst hms
        have HX8 := Lib.hid (And.intro hxs hes)
        clear hxs hes
        obtain ⟨⟨hfr, hnow0, hsq⟩, hhg, hlw, hbs, hjt, hls, hlen64, hempty, hheld⟩ := checkB_nums HQ.out
        have hnwb : 0 ≤ nw ∧ nw ≤ 1099511627776 := by have := (within_iff _ _ _).1 HQ2.out; omega
        obtain ⟨hs2, ht2⟩ := checkM_nums HQ3.out
        have hgb : w3.heap.size ≤ g ∧ g < w4.heap.size := ⟨HC8.out.base, Nat.lt_of_lt_of_le HC8.out.lo1 (by have := HC8.out.lo2; have := HLO.out; omega)⟩
        have hd34 : w2.heap.size < w3.heap.size := HD3.out.2.2
        have HHE := Lib.hid (And.intro hempty hheld)
        have tc := HT8.out.cell 0 rfl
        obtain ⟨⟨c0, c1, c2, c3, c4, e5⟩, ⟨e6, e7, e8, e9, e10⟩, hfz⟩ := bk_change HC8.out.at_
        have p3 := HP8.out.cell 3 rfl
        have p2 := HP8.out.cell 2 rfl
        clear hempty hheld hfz c0 c1 c3 e5 e6 e7 e8 e9 e10
        cases bg with
        | false =>
          have hwt : wrap64 (1099511627776 + t) = 1099511627776 + t := wrap64_id _ (by omega)
          have hwt2 : IntKind.i64.wrap (1099511627776 + t) = 1099511627776 + t := wrap_id _ (by omega)
          go_wp2_with (refine step_loadbk (T := 28) (cs := [.bool v, .int .i64 k, .int .i64 s, .int .i64 t, .int .i64 r, .slice A5 xs.length c5, .slice A6 es.length c6, .int .i64 pp, .string pay]) rfl rfl rfl HP8.out Try.underlying28 rfl (by kernel_rfl) ?_)
          refine (begin_goes w8 g fr nw false fd sq hg lw bs jt ls (.slice A hs.length c) v k s t r pp (1099511627776 + t) (.slice A5 xs.length c5) (.slice A6 es.length c6) (.string pay) HC8.out.at_ rfl rfl rfl hfr hnwb (by omega)).mono ?_
          rintro e w9 ⟨rfl, g9, M9⟩
          have HM9 := Lib.hid M9
          have HT9 := Lib.hid (HT8.out.grown g9 (by omega))
          have HP9 := Lib.hid (HP8.out.grown g9 (by omega))
          have HR9 := Lib.hid (HR8.out.grown g9 (by omega))
          have HQ9 := Lib.hid (HQ8.out.grown g9 (by omega))
          have HB9 := Lib.hid (below_grown HB8.out g9 (by omega) (by omega))
          have hdd9 : w8.heap.size ≤ w9.heap.size := g9.size
          have HX9 := Lib.hid (And.intro (HX8.out.1.grown g9 (by omega)) (HX8.out.2.grown g9 (by omega)))
          clear tc c2 c4 p3 p2 g9 M9 HC8 HT8 HP8 HR8 HQ8 HB8 HX8
          have tc := HT9.out.cell 0 rfl
          have m5 := HM9.out.cell 5 rfl
          have m10 := HM9.out.cell 10 rfl
          have f10 := HM9.out.plain.free 10
          have hpl := HP9.out.lt
          have hml := HM9.out.lt
          go_wp2_with fail
          refine wp_region_ord 9 [(0, true), (1, true), (2, true), (3, true), (4, true), (5, true), (6, true), (7, true), (8, false)] (fun u => u.cell? ⟨w4.heap.size, 0, none⟩ = some (.pointer (some ⟨g, 0, none⟩)) ∧ u.cell? ⟨g, 5, none⟩ = some (.int .i64 (1099511627776 + t)) ∧ At u w1.heap.size 0 [.bool v, .int .i64 k, .int .i64 s, .int .i64 t, .int .i64 r, .slice A5 xs.length c5, .slice A6 es.length c6, .int .i64 pp, .string pay]) (by kernel_rfl) (by kernel_rfl) ⟨tc, m5, HP9.out.at_⟩ ?_
          refine ord_read (by rfl) (by rfl) (fun u hu => by (obtain ⟨hu1, hu2, hu3⟩ := hu; clear hu3; go_simp; try rfl)) ?_
          refine ord_read (v := .agg #[.bool v, .int .i64 k, .int .i64 s, .int .i64 t, .int .i64 r, .slice A5 xs.length c5, .slice A6 es.length c6, .int .i64 pp, .string pay]) (by rfl) (by rfl) (fun u hu => exec_load_mid (ty := 28) (x := .tmp 5) (b := w1.heap.size) (off := 0) (cs := [.bool v, .int .i64 k, .int .i64 s, .int .i64 t, .int .i64 r, .slice A5 xs.length c5, .slice A6 es.length c6, .int .i64 pp, .string pay]) rfl rfl u hu.2.2 Try.underlying28 rfl (by kernel_rfl)) ?_
          refine ord_read (by rfl) (by rfl) (fun u hu => by (obtain ⟨hu1, hu2, hu3⟩ := hu; clear hu3; go_simp; try rfl)) ?_
          refine ord_read (by rfl) (by rfl) (fun u hu => by (obtain ⟨hu1, hu2, hu3⟩ := hu; clear hu3; go_simp; try rfl)) ?_
          simp only [Act.put, List.setIfInBounds_toArray, List.set_cons_zero, List.set_cons_succ, List.getElem_toArray, List.getElem_cons_succ, List.getElem_cons_zero]
          refine ord_read (by rfl) (by rfl) (fun u hu => by (obtain ⟨hu1, hu2, hu3⟩ := hu; clear hu3; go_simp; try rfl)) ?_
          refine ord_read (by rfl) (by rfl) (fun u hu => by (obtain ⟨hu1, hu2, hu3⟩ := hu; clear hu3; go_simp; try rfl)) ?_
          refine ord_read (by rfl) (by rfl) (fun u hu => by (obtain ⟨hu1, hu2, hu3⟩ := hu; clear hu3; go_simp; try rfl)) ?_
          refine ord_read (by rfl) (by rfl) (fun u hu => by (obtain ⟨hu1, hu2, hu3⟩ := hu; clear hu3; go_simp; try rfl)) ?_
          simp only [Act.put, List.setIfInBounds_toArray, List.set_cons_zero, List.set_cons_succ, List.getElem_toArray, List.getElem_cons_succ, List.getElem_cons_zero]
          refine ord_make (by rfl) (fun K hK => ?_)
          rw [if_pos (by rfl)]
          go_wp2_with fail
          have bN : Below w9.heap.size w9 (w9.alloc (.cells #[.bool v, .int .i64 k, .int .i64 s, .int .i64 t, .int .i64 r, .slice A5 xs.length c5, .slice A6 es.length c6, .int .i64 pp, .string pay, .int .i64 (1099511627776 + t)] 83)).drew := ((Below.refl _ w9).alloc (Nat.le_refl _) _).drew
          have MN : Bk (w9.alloc (.cells #[.bool v, .int .i64 k, .int .i64 s, .int .i64 t, .int .i64 r, .slice A5 xs.length c5, .slice A6 es.length c6, .int .i64 pp, .string pay, .int .i64 (1099511627776 + t)] 83)).drew w9.heap.size 83 [.bool v, .int .i64 k, .int .i64 s, .int .i64 t, .int .i64 r, .slice A5 xs.length c5, .slice A6 es.length c6, .int .i64 pp, .string pay, .int .i64 (1099511627776 + t)] := bk_drew (Bk.new w9 _ [.bool v, .int .i64 k, .int .i64 s, .int .i64 t, .int .i64 r, .slice A5 xs.length c5, .slice A6 es.length c6, .int .i64 pp, .string pay, .int .i64 (1099511627776 + t)])
          generalize (w9.alloc (.cells #[.bool v, .int .i64 k, .int .i64 s, .int .i64 t, .int .i64 r, .slice A5 xs.length c5, .slice A6 es.length c6, .int .i64 pp, .string pay, .int .i64 (1099511627776 + t)] 83)).drew = w10 at bN MN ⊢
          have HM10 := Lib.hid (HM9.out.below bN)
          have HT10 := Lib.hid (HT9.out.below bN)
          have HP10 := Lib.hid (HP9.out.below bN)
          have HR10 := Lib.hid (HR9.out.below bN)
          have HN10 := Lib.hid MN
          have HX10 := Lib.hid (And.intro (HX9.out.1.below bN) (HX9.out.2.below bN))
          have HB10 := Lib.hid (HB9.out.trans (bN.mono HB9.out.size))
          have hdd10 : w9.heap.size < w10.heap.size := MN.lt
          clear tc m5 m10 f10 HM9 HT9 HP9 HR9 HQ9 HX9 HB9 bN MN
          have tc := HT10.out.cell 0 rfl
          have m5 := HM10.out.cell 5 rfl
          have m10 := HM10.out.cell 10 rfl
          have f10 := HM10.out.plain.free 10
          refine ⟨⟨tc, m5, HP10.out.at_⟩, ?_⟩
          refine ord_nil ?_
          simp only [List.drop_succ_cons, List.drop_zero, Act.put, List.setIfInBounds_toArray, List.set_cons_zero, List.set_cons_succ, List.getElem_toArray, List.getElem_cons_succ, List.getElem_cons_zero]
          go_wp2_with fail
          refine NoPanic.normal ?_
          have M11 := bk_setCell (j := 10) HM10.out (.slice (some ⟨w9.heap.size, 0, none⟩) 1 1)
          have g11 := grown_setCell w10 ⟨g, 10, none⟩ (.slice (some ⟨w9.heap.size, 0, none⟩) 1 1) g rfl
          generalize w10.setCell ⟨g, 10, none⟩ (.slice (some ⟨w9.heap.size, 0, none⟩) 1 1) = w11 at M11 g11 ⊢
          have HM11 := Lib.hid (show Bk w11 g 80 [.int .i64 fr, .int .i64 nw, .bool true, .bool true, .int .i64 s, .int .i64 (1099511627776 + t), .int .i64 (nw * fr - (1099511627776 + t)), .int .i64 (nw * fr - (1099511627776 + t)), .int .i64 jt, .int .i64 ls, .slice (some ⟨w9.heap.size, 0, none⟩) 1 1] from M11)
          have HR11 := Lib.hid (HR10.out.grown g11 (by omega))
          have HN11 := Lib.hid (HN10.out.grown g11 (by omega))
          have HX11 := Lib.hid (And.intro (HX10.out.1.grown g11 (by omega)) (HX10.out.2.grown g11 (by omega)))
          have HB11 := Lib.hid (below_grown HB10.out g11 (by omega) (by omega))
          have tc11 := (HT10.out.grown g11 (by omega)).cell 0 rfl
          have hdd11 : w10.heap.size ≤ w11.heap.size := g11.size
          clear tc m5 m10 f10 HM10 HT10 HP10 HR10 HN10 HX10 HB10 M11 g11
          have hmul := mul_small hfr hnwb
          have hone : ∀ x ∈ ([.int .i64 fr, .int .i64 nw, .bool true, .bool true, .int .i64 s, .int .i64 (1099511627776 + t), .int .i64 (nw * fr - (1099511627776 + t)), .int .i64 (nw * fr - (1099511627776 + t)), .int .i64 jt, .int .i64 ls, .slice (some ⟨w9.heap.size, 0, none⟩) 1 1] : List Value), x.oneCell' = true := by simp [Value.oneCell']
          have HOne := Lib.hid hone
          clear hone
          go_wp2_with (first
            | refine step_loadbk (T := 24) (cs := [.int .i64 fr, .int .i64 nw, .bool true, .bool true, .int .i64 s, .int .i64 (1099511627776 + t), .int .i64 (nw * fr - (1099511627776 + t)), .int .i64 (nw * fr - (1099511627776 + t)), .int .i64 jt, .int .i64 ls, .slice (some ⟨w9.heap.size, 0, none⟩) 1 1]) rfl rfl rfl HM11.out Try.underlying24 rfl (by kernel_rfl) ?_
            | refine step_store (T := 24) (n := w2.heap.size) (bs := [.int .i64 fr, .int .i64 nw, .bool true, .bool true, .int .i64 s, .int .i64 (1099511627776 + t), .int .i64 (nw * fr - (1099511627776 + t)), .int .i64 (nw * fr - (1099511627776 + t)), .int .i64 jt, .int .i64 ls, .slice (some ⟨w9.heap.size, 0, none⟩) 1 1]) rfl rfl rfl rfl HR11.out rfl (by kernel_rfl) HOne.out fun w12 b12 g12 => ?_)
          have HF := Lib.hid b12
          have HB12 := Lib.hid (below_grown HB11.out g12 (by omega) (by omega))
          have rx := (HX11.out.1.grown g12 (by omega)).fr_le (B' := w.heap.size) (by omega)
          have re := (HX11.out.2.grown g12 (by omega)).fr_le (B' := w.heap.size) (by omega)
          have rm := med_rep (v := v) (pay := pay) rx re hk hs1 ht1 hr1 hp1 hpay
          have rh : Rep w12 (Fr w.heap.size) JHeld [.bool v, .int .i64 k, .int .i64 s, .int .i64 t, .int .i64 r, .slice A5 xs.length c5, .slice A6 es.length c6, .int .i64 pp, .string pay, .int .i64 (1099511627776 + t)] ((v, k, s, t, r, xs, es, pp, pay, ()), 1099511627776 + t, ()) := ⟨_, _, rfl, rm, _, _, rfl, ⟨rfl, in_i64 (1099511627776 + t) (by omega)⟩, rfl⟩
          have rl := (RepL.nil w12 (Fr w.heap.size) JHeld).snoc rh
          have hN12 := HN11.out.grown g12 (by omega)
          have rls : Rep w12 (Fr w.heap.size) (.sl JHeld 120) [.slice (some ⟨w9.heap.size, 0, none⟩) 1 1] [((v, k, s, t, r, xs, es, pp, pay, ()), 1099511627776 + t, ())] := rep_sl.2 ⟨rfl, Nat.le_refl _, by simp [maxLen], by rw [big_eq]; omega, [.bool v, .int .i64 k, .int .i64 s, .int .i64 t, .int .i64 r, .slice A5 xs.length c5, .slice A6 es.length c6, .int .i64 pp, .string pay, .int .i64 (1099511627776 + t)], fun _ => ⟨_, 0, rfl, (show w.heap.size ≤ w9.heap.size by omega), hN12.lt, hN12.at_⟩, rl⟩
          have rb := Lib.hid (buf_rep (bg := true) (fd := true) (hs := [((v, k, s, t, r, xs, es, pp, pay, ()), 1099511627776 + t, ())]) rls (in_i64 fr (by omega)) (in_i64 nw (by omega)) (in_i64 s (by omega)) (in_i64 (1099511627776 + t) (by omega)) (in_i64 (nw * fr - (1099511627776 + t)) (by omega)) (in_i64 (nw * fr - (1099511627776 + t)) (by omega)) (in_i64 jt (by omega)) (in_i64 ls (by omega)))
          clear b12 g12 rx re rm rh rl hN12 rls HX11 HN11 HR11 HB11 HM11
          refine Lib.hid ?_
          go_wp2_with fail
          refine bodyPost_ret (results_row_tmp rfl _ _ w2.heap.size 24 [.int .i64 fr, .int .i64 nw, .bool true, .bool true, .int .i64 s, .int .i64 (1099511627776 + t), .int .i64 (nw * fr - (1099511627776 + t)), .int .i64 (nw * fr - (1099511627776 + t)), .int .i64 jt, .int .i64 ls, .slice (some ⟨w9.heap.size, 0, none⟩) 1 1] _ rfl HF.out Try.underlying24 rfl (by kernel_rfl)) rfl ?_
          have hp : putF (fr, now, false, fd, sq, hg, lw, bs, jt, ls, hs, ()) nw (v, k, s, t, r, xs, es, pp, pay, ()) = ((fr, nw, true, true, s, 1099511627776 + t, nw * fr - (1099511627776 + t), nw * fr - (1099511627776 + t), jt, ls, [((v, k, s, t, r, xs, es, pp, pay, ()), 1099511627776 + t, ())], ()), 0) := by simp [putF, HQ.out, HQ2.out, HQ3.out, seqOf, stampOf]
          exact HPost.out _ _ ⟨[.int .i64 fr, .int .i64 nw, .bool true, .bool true, .int .i64 s, .int .i64 (1099511627776 + t), .int .i64 (nw * fr - (1099511627776 + t)), .int .i64 (nw * fr - (1099511627776 + t)), .int .i64 jt, .int .i64 ls, .slice (some ⟨w9.heap.size, 0, none⟩) 1 1], by rw [hp]; rfl, by rw [hp]; exact rb.out, HB12.out⟩
        | true =>
          have hpl := HP8.out.lt
          have hgl := HC8.out.at_.lt
          have htl := HT8.out.lt
          have hdr : Below w8.heap.size w8 w8.drew := (Below.refl _ w8).drew
          have HU := Lib.hid (ahead16_goes w8.drew s sq hs1 (in_i64 sq (by omega)))
          have hfar := ahead16_bound s sq
          go_wp2_with fail
          refine wp_region_ord 8 [(0, true), (1, true), (2, true), (3, true), (4, true), (5, true), (6, true), (7, false)] (fun u => u.cell? ⟨w1.heap.size, 2, none⟩ = some (.int .i64 s) ∧ u.cell? ⟨w4.heap.size, 0, none⟩ = some (.pointer (some ⟨g, 0, none⟩)) ∧ u.cell? ⟨g, 4, none⟩ = some (.int .i64 sq)) (by kernel_rfl) (by kernel_rfl) ⟨p2, tc, c4⟩ ?_
          refine ord_read (by rfl) (by rfl) (fun u hu => by (obtain ⟨hu1, hu2, hu3⟩ := hu; go_simp; try rfl)) ?_
          refine ord_read (by rfl) (by rfl) (fun u hu => by (obtain ⟨hu1, hu2, hu3⟩ := hu; go_simp; try rfl)) ?_
          refine ord_read (by rfl) (by rfl) (fun u hu => by (obtain ⟨hu1, hu2, hu3⟩ := hu; go_simp; try rfl)) ?_
          refine ord_read (by rfl) (by rfl) (fun u hu => by (obtain ⟨hu1, hu2, hu3⟩ := hu; go_simp; try rfl)) ?_
          simp only [Act.put, List.setIfInBounds_toArray, List.set_cons_zero, List.set_cons_succ, List.getElem_toArray, List.getElem_cons_succ, List.getElem_cons_zero]
          refine ord_read (by rfl) (by rfl) (fun u hu => by (obtain ⟨hu1, hu2, hu3⟩ := hu; go_simp; try rfl)) ?_
          refine ord_read (by rfl) (by rfl) (fun u hu => by (obtain ⟨hu1, hu2, hu3⟩ := hu; go_simp; try rfl)) ?_
          refine ord_read (by rfl) (by rfl) (fun u hu => by (obtain ⟨hu1, hu2, hu3⟩ := hu; go_simp; try rfl)) ?_
          simp only [Act.put, List.setIfInBounds_toArray, List.set_cons_zero, List.set_cons_succ, List.getElem_toArray, List.getElem_cons_succ, List.getElem_cons_zero]
          refine ord_make (by rfl) (fun K hK => ?_)
          rw [if_pos (by rfl)]
          refine wp_call3 (f := 40) (x := .tmp 60) (y := .tmp 65) (z := .const (.int .i64 16)) (vx := .int .i64 s) (vy := .int .i64 sq) (vz := .int .i64 16) rfl rfl rfl rfl rfl rfl rfl rfl HU.out ?_
          rintro e wa ⟨rfl, hwa⟩
          have hwd : Below w8.heap.size w8 wa := by rw [hwa]; exact hdr
          refine ⟨_, rfl, ?_⟩
          have HT9 := Lib.hid (HT8.out.below hwd)
          have HP9 := Lib.hid (HP8.out.below hwd)
          have HR9 := Lib.hid (HR8.out.below hwd)
          have HC9 := Lib.hid (HC8.out.below hwd)
          have HQ9 := Lib.hid (HQ8.out.below hwd)
          have HX9 := Lib.hid (And.intro (HX8.out.1.below hwd) (HX8.out.2.below hwd))
          have HB9 := Lib.hid (HB8.out.trans (hwd.mono HB8.out.size))
          have hdd9 : w8.heap.size ≤ wa.heap.size := hwd.size
          clear hwa HU hdr hwd HC8 HT8 HP8 HR8 HQ8 HB8 HX8 tc c2 c4 p3 p2
          have tc := HT9.out.cell 0 rfl
          obtain ⟨⟨c0, c1, c2, c3, c4, c5n⟩, ⟨e6, e7, e8, e9, c10⟩, hfz⟩ := bk_change HC9.out.at_
          have p3 := HP9.out.cell 3 rfl
          have p2 := HP9.out.cell 2 rfl
          clear hfz c0 c1 c2 c3 e6 e7 e8 e9
          refine hK _ _ ⟨⟨p2, tc, c4⟩, ?_⟩
          clear hK K
          refine ord_nil ?_
          simp only [List.drop_succ_cons, List.drop_zero, Act.put, List.setIfInBounds_toArray, List.set_cons_zero, List.set_cons_succ, List.getElem_toArray, List.getElem_cons_succ, List.getElem_cons_zero]
          generalize hfq : aheadF s sq 65536 = far at hfar ⊢
          have HFar := Lib.hid hfq
          clear hfq
          go_wp2_with fail
          refine NoPanic.normal ?_
          go_wp2_with fail
          obtain ⟨hnc, hcm, hpl9, hlen⟩ := owned_at HC9.out.own
          refine (search_goes wa (fun b => lo ≤ b ∧ b < wa.heap.size) A hs.length c news hs far sq w4.heap.size g rfl (by omega) (HC9.out.hold.frame fun b h1 h2 => ⟨rfl, h1, h2⟩) (fun h => by obtain ⟨b, h1, -, h2, h3⟩ := hpl9 h; exact ⟨b, 0, h1, h2, h3⟩) (fun b h => h.2) (by omega) (in_i64 sq (by omega)) tc c4).mono ?_
          rintro e wb ⟨rfl, hbb⟩
          clear tc p3 p2 c4 c5n c10 hpl hgl htl hpl9
          have HTb := Lib.hid (HT9.out.below hbb)
          have HPb := Lib.hid (HP9.out.below hbb)
          have HRb := Lib.hid (HR9.out.below hbb)
          have HCb := Lib.hid (HC9.out.below hbb)
          have HQb := Lib.hid (HQ9.out.below hbb)
          have HXb := Lib.hid (And.intro (HX9.out.1.below hbb) (HX9.out.2.below hbb))
          have HBb := Lib.hid (HB9.out.trans (hbb.mono HB9.out.size))
          have hddb : wa.heap.size ≤ wb.heap.size := hbb.size
          clear HT9 HP9 HR9 HC9 HQ9 HX9 HB9
          generalize hat : bsF (farF hs sq far) hs.length 0 hs.length = at_
          have hatl : at_ ≤ hs.length := hat ▸ bsF_le _ _ _ _ (Nat.zero_le _)
          generalize hfd : (decide (at_ < hs.length) && decide (farF hs sq far at_ = 0)) = fnd
          have HAt := Lib.hid hat
          have HFd := Lib.hid hfd
          clear hat hfd hbb
          have tc := HTb.out.cell 0 rfl
          obtain ⟨⟨c0, c1, c2, c3, c4, c5n⟩, ⟨c6, c7, c8, c9, c10⟩, hfz⟩ := bk_change HCb.out.at_
          have p3 := HPb.out.cell 3 rfl
          have p2 := HPb.out.cell 2 rfl
          clear c0 c1 c2 c3 c4 c6 c7 c8 c9 c10 p2 hfz
          have hpl := HPb.out.lt
          have hgl := HCb.out.at_.lt
          have htl := HTb.out.lt
          have hand := and32 hg
          have hah := ahead32_bound t (hg % 4294967296)
          have HU2 := Lib.hid (ahead32_goes wb.drew t (hg % 4294967296) ht1 (in_i64 _ (by omega)))
          have hdr : Below wb.heap.size wb wb.drew := (Below.refl _ wb).drew
          go_wp2_with fail
          refine wp_region_ord 14 [(0, true), (1, true), (2, true), (3, true), (4, true), (5, true), (6, true), (7, true), (8, true), (9, true), (10, true), (11, true), (12, true), (13, false)] (fun u => u.cell? ⟨w4.heap.size, 0, none⟩ = some (.pointer (some ⟨g, 0, none⟩)) ∧ u.cell? ⟨g, 5, none⟩ = some (.int .i64 hg) ∧ u.cell? ⟨w1.heap.size, 3, none⟩ = some (.int .i64 t)) (by kernel_rfl) (by kernel_rfl) ⟨tc, c5n, p3⟩ ?_
          refine ord_read (by rfl) (by rfl) (fun u hu => by (obtain ⟨hu1, hu2, hu3⟩ := hu; go_simp; try rfl)) ?_
          refine ord_read (by rfl) (by rfl) (fun u hu => by (obtain ⟨hu1, hu2, hu3⟩ := hu; go_simp; try rfl)) ?_
          refine ord_read (by rfl) (by rfl) (fun u hu => by (obtain ⟨hu1, hu2, hu3⟩ := hu; go_simp; try rfl)) ?_
          refine ord_read (by rfl) (by rfl) (fun u hu => by (obtain ⟨hu1, hu2, hu3⟩ := hu; go_simp; try rfl)) ?_
          simp only [Act.put, List.setIfInBounds_toArray, List.set_cons_zero, List.set_cons_succ, List.getElem_toArray, List.getElem_cons_succ, List.getElem_cons_zero]
          refine ord_read (by rfl) (by rfl) (fun u hu => by (obtain ⟨hu1, hu2, hu3⟩ := hu; go_simp; try rfl)) ?_
          refine ord_read (by rfl) (by rfl) (fun u hu => by (obtain ⟨hu1, hu2, hu3⟩ := hu; go_simp; try rfl)) ?_
          refine ord_read (by rfl) (by rfl) (fun u hu => by (obtain ⟨hu1, hu2, hu3⟩ := hu; go_simp; try rfl)) ?_
          refine ord_read (by rfl) (by rfl) (fun u hu => by (obtain ⟨hu1, hu2, hu3⟩ := hu; go_simp; try rfl)) ?_
          simp only [Act.put, List.setIfInBounds_toArray, List.set_cons_zero, List.set_cons_succ, List.getElem_toArray, List.getElem_cons_succ, List.getElem_cons_zero]
          refine ord_read (by rfl) (by rfl) (fun u hu => by (obtain ⟨hu1, hu2, hu3⟩ := hu; go_simp; try rfl)) ?_
          refine ord_read (by rfl) (by rfl) (fun u hu => by (obtain ⟨hu1, hu2, hu3⟩ := hu; go_simp; try rfl)) ?_
          refine ord_read (by rfl) (by rfl) (fun u hu => by (obtain ⟨hu1, hu2, hu3⟩ := hu; go_simp; try rfl)) ?_
          refine ord_read (by rfl) (by rfl) (fun u hu => by (obtain ⟨hu1, hu2, hu3⟩ := hu; go_simp; try rfl)) ?_
          simp only [Act.put, List.setIfInBounds_toArray, List.set_cons_zero, List.set_cons_succ, List.getElem_toArray, List.getElem_cons_succ, List.getElem_cons_zero]
          refine ord_read (v := .int .i64 (hg % 4294967296)) (by rfl) (by rfl) (fun u hu => by (clear hu; go_simp; first | done | rfl | (rw [hand]) | simp [hand])) ?_
          simp only [Act.put, List.setIfInBounds_toArray, List.set_cons_zero, List.set_cons_succ, List.getElem_toArray, List.getElem_cons_succ, List.getElem_cons_zero]
          refine ord_make (by rfl) (fun K hK => ?_)
          rw [if_pos (by rfl)]
          refine wp_call3 (f := 40) (x := .tmp 85) (y := .tmp 91) (z := .const (.int .i64 32)) (vx := .int .i64 t) (vy := .int .i64 (hg % 4294967296)) (vz := .int .i64 32) rfl rfl rfl rfl rfl rfl rfl rfl HU2.out ?_
          rintro e wc ⟨rfl, hwc⟩
          have hwd : Below wb.heap.size wb wc := by rw [hwc]; exact hdr
          refine ⟨_, rfl, ?_⟩
          clear hwc HU2 hdr tc c5n p3 hpl hgl htl
          have HTc := Lib.hid (HTb.out.below hwd)
          have HPc := Lib.hid (HPb.out.below hwd)
          have HRc := Lib.hid (HRb.out.below hwd)
          have HCc := Lib.hid (HCb.out.below hwd)
          have HQc := Lib.hid (HQb.out.below hwd)
          have HXc := Lib.hid (And.intro (HXb.out.1.below hwd) (HXb.out.2.below hwd))
          have HBc := Lib.hid (HBb.out.trans (hwd.mono HBb.out.size))
          have hddc : wb.heap.size ≤ wc.heap.size := hwd.size
          clear HTb HPb HRb HCb HQb HXb HBb
          clear hwd
          have tc := HTc.out.cell 0 rfl
          obtain ⟨⟨c0, c1, c2, c3, c4, c5n⟩, ⟨c6, c7, c8, c9, c10⟩, hfz⟩ := bk_change HCc.out.at_
          have p3 := HPc.out.cell 3 rfl
          have p2 := HPc.out.cell 2 rfl
          clear c0 c1 c2 c3 c4 c6 c7 c8 c9 p2 hfz
          have hpl := HPc.out.lt
          have hgl := HCc.out.at_.lt
          have htl := HTc.out.lt
          refine hK _ _ ⟨⟨tc, c5n, p3⟩, ?_⟩
          clear hK K
          refine ord_nil ?_
          simp only [List.drop_succ_cons, List.drop_zero, Act.put, List.setIfInBounds_toArray, List.set_cons_zero, List.set_cons_succ, List.getElem_toArray, List.getElem_cons_succ, List.getElem_cons_zero]
          generalize hst : aheadF t (hg % 4294967296) 4294967296 = ah at hah ⊢
          have HAh := Lib.hid hst
          clear hst hand
          have hws : IntKind.i64.wrap (hg + ah) = hg + ah := wrap_id _ (by omega)
          have hws2 : wrap64 (hg + ah) = hg + ah := wrap64_id _ (by omega)
          go_wp2_with fail
          refine NoPanic.normal ?_
          have HPut := Lib.hid (show putF (fr, now, true, fd, sq, hg, lw, bs, jt, ls, hs, ()) nw (v, k, s, t, r, xs, es, pp, pay, ()) = (if (decide (far < 0) || fnd) = true then (bufOf 0, 10) else if (decide (511 < far) || !withinF 0 1152921504606846976 (hg + ah)) = true then (bufOf 0, 6) else if hs.length = 64 then (bufOf 0, 3) else ((fr, nw, true, fd, sq, max hg (hg + ah), min lw (nw * fr - (hg + ah)), nw * fr - (hg + ah), learnF jt (nw * fr - (hg + ah) - bs), ls, hs.take at_ ++ ((v, k, s, t, r, xs, es, pp, pay, ()), hg + ah, ()) :: hs.drop at_, ()), 0)) by
            simp only [putF, HQ.out, HQ2.out, HQ3.out, seqOf, stampOf, HFar.out, HAt.out, HFd.out, HAh.out, Bool.not_true, Bool.false_eq_true, if_false, Bool.not_false, if_true]
          )
          by_cases hf0 : far < 0
          · have HF0 := Lib.hid (show (decide (far < 0) || fnd) = true by simp [hf0])
            go_wp2_with (refine step_store (T := 24) (n := w2.heap.size) (bs := bufCells 0) rfl rfl rfl rfl HRc.out rfl (by kernel_rfl) (Rep.one _ _ _ (rep_bufOf w (fun _ => True) 0 zero_in)) fun w9 b9 g9 => ?_)
            have HB9 := Lib.hid b9
            have HG9 := Lib.hid (below_grown HBc.out g9 (by have := HBc.out.size; omega) (by omega))
            clear b9 g9
            refine Lib.hid ?_
            go_wp2_with fail
            refine bodyPost_ret (results_row_tmp rfl _ _ w2.heap.size 24 (bufCells 0) _ rfl HB9.out Try.underlying24 rfl (by kernel_rfl)) rfl ?_
            have hp := HPut.out
            rw [if_pos HF0.out] at hp
            exact HPost.out _ _ ⟨bufCells 0, by rw [hp]; rfl, by rw [hp]; exact rep_bufOf _ _ _ zero_in, HG9.out⟩
          · cases fnd with
            | true =>
              have HF0 := Lib.hid (show (decide (far < 0) || true) = true by simp)
              go_wp2_with (refine step_store (T := 24) (n := w2.heap.size) (bs := bufCells 0) rfl rfl rfl rfl HRc.out rfl (by kernel_rfl) (Rep.one _ _ _ (rep_bufOf w (fun _ => True) 0 zero_in)) fun w9 b9 g9 => ?_)
              have HB9 := Lib.hid b9
              have HG9 := Lib.hid (below_grown HBc.out g9 (by have := HBc.out.size; omega) (by omega))
              clear b9 g9
              refine Lib.hid ?_
              go_wp2_with fail
              refine bodyPost_ret (results_row_tmp rfl _ _ w2.heap.size 24 (bufCells 0) _ rfl HB9.out Try.underlying24 rfl (by kernel_rfl)) rfl ?_
              have hp := HPut.out
              rw [if_pos HF0.out] at hp
              exact HPost.out _ _ ⟨bufCells 0, by rw [hp]; rfl, by rw [hp]; exact rep_bufOf _ _ _ zero_in, HG9.out⟩
            | false =>
              have HF0 := Lib.hid (show ¬ (decide (far < 0) || false) = true by simp; omega)
              by_cases hf1 : 511 < far
              · have HF1 := Lib.hid (show (decide (511 < far) || !withinF 0 1152921504606846976 (hg + ah)) = true by simp [hf1])
                go_wp2_with (refine step_store (T := 24) (n := w2.heap.size) (bs := bufCells 0) rfl rfl rfl rfl HRc.out rfl (by kernel_rfl) (Rep.one _ _ _ (rep_bufOf w (fun _ => True) 0 zero_in)) fun w9 b9 g9 => ?_)
                have HB9 := Lib.hid b9
                have HG9 := Lib.hid (below_grown HBc.out g9 (by have := HBc.out.size; omega) (by omega))
                clear b9 g9
                refine Lib.hid ?_
                go_wp2_with fail
                refine bodyPost_ret (results_row_tmp rfl _ _ w2.heap.size 24 (bufCells 0) _ rfl HB9.out Try.underlying24 rfl (by kernel_rfl)) rfl ?_
                have hp := HPut.out
                rw [if_neg HF0.out, if_pos HF1.out] at hp
                exact HPost.out _ _ ⟨bufCells 0, by rw [hp]; rfl, by rw [hp]; exact rep_bufOf _ _ _ zero_in, HG9.out⟩
              · have HWI := Lib.hid (within_goes wc 0 1152921504606846976 (hg + ah))
                go_wp2_with fail
                refine HWI.out.mono ?_
                rintro e wx ⟨rfl, hwx⟩
                subst hwx
                cases hwi : withinF 0 1152921504606846976 (hg + ah) with
                | false =>
                  have HF1 := Lib.hid (show (decide (511 < far) || !withinF 0 1152921504606846976 (hg + ah)) = true by simp [hwi])
                  go_wp2_with (refine step_store (T := 24) (n := w2.heap.size) (bs := bufCells 0) rfl rfl rfl rfl HRc.out rfl (by kernel_rfl) (Rep.one _ _ _ (rep_bufOf w (fun _ => True) 0 zero_in)) fun w9 b9 g9 => ?_)
                  have HB9 := Lib.hid b9
                  have HG9 := Lib.hid (below_grown HBc.out g9 (by have := HBc.out.size; omega) (by omega))
                  clear b9 g9
                  refine Lib.hid ?_
                  go_wp2_with fail
                  refine bodyPost_ret (results_row_tmp rfl _ _ w2.heap.size 24 (bufCells 0) _ rfl HB9.out Try.underlying24 rfl (by kernel_rfl)) rfl ?_
                  have hp := HPut.out
                  rw [if_neg HF0.out, if_pos HF1.out] at hp
                  exact HPost.out _ _ ⟨bufCells 0, by rw [hp]; rfl, by rw [hp]; exact rep_bufOf _ _ _ zero_in, HG9.out⟩
                | true =>
                  have hstb : 0 ≤ hg + ah ∧ hg + ah ≤ 1152921504606846976 := (within_iff _ _ _).1 hwi
                  have HF1 := Lib.hid (show ¬ (decide (511 < far) || !withinF 0 1152921504606846976 (hg + ah)) = true by simp [hwi]; omega)
                  clear hwi
                  by_cases h64 : hs.length = 64
                  · have h64i : (((hs.length : Nat) : Int) == 64) = true := by simp [h64]
                    have H64 := Lib.hid h64
                    go_wp2_with (refine step_store (T := 24) (n := w2.heap.size) (bs := bufCells 0) rfl rfl rfl rfl HRc.out rfl (by kernel_rfl) (Rep.one _ _ _ (rep_bufOf w (fun _ => True) 0 zero_in)) fun w9 b9 g9 => ?_)
                    have HB9 := Lib.hid b9
                    have HG9 := Lib.hid (below_grown HBc.out g9 (by have := HBc.out.size; omega) (by omega))
                    clear b9 g9
                    refine Lib.hid ?_
                    go_wp2_with fail
                    refine bodyPost_ret (results_row_tmp rfl _ _ w2.heap.size 24 (bufCells 0) _ rfl HB9.out Try.underlying24 rfl (by kernel_rfl)) rfl ?_
                    have hp := HPut.out
                    rw [if_neg HF0.out, if_neg HF1.out, if_pos H64.out] at hp
                    exact HPost.out _ _ ⟨bufCells 0, by rw [hp]; rfl, by rw [hp]; exact rep_bufOf _ _ _ zero_in, HG9.out⟩
                  · have h64i : (((hs.length : Nat) : Int) == 64) = false := by simp; omega
                    have H64 := Lib.hid h64
                    go_wp2_with fail
                    refine (learn_goes wx g fr nw true fd sq hg lw bs jt ls (.slice A hs.length c) (hg + ah) HCc.out.at_ hfr hnwb hstb hjt hbs).mono ?_
                    rintro e wl ⟨rfl, gl, Ml⟩
                    have hmv := HCc.out.moved gl
                    have HOl := Lib.hid hmv.1
                    have HHl := Lib.hid hmv.2
                    have HLow := Lib.hid HCc.out.low
                    have hlo : g < lo ∧ lo ≤ w4.heap.size := ⟨HCc.out.lo1, HLO.out⟩
                    have HMl := Lib.hid Ml
                    have HTl := Lib.hid (HTc.out.grown gl (by omega))
                    have HPl := Lib.hid (HPc.out.grown gl (by omega))
                    have HRl := Lib.hid (HRc.out.grown gl (by omega))
                    have HQl := Lib.hid (HQc.out.grown gl (by omega))
                    have HXl := Lib.hid (And.intro (HXc.out.1.grown gl (by omega)) (HXc.out.2.grown gl (by omega)))
                    have HBl := Lib.hid (below_grown HBc.out gl (by omega) (by omega))
                    have hddl : wx.heap.size ≤ wl.heap.size := gl.size
                    clear gl Ml hmv HCc HTc HPc HRc HQc HXc HBc tc p3 c5n c10 hpl hgl htl
                    have tc := HTl.out.cell 0 rfl
                    have m10 := HMl.out.cell 10 rfl
                    have f10 := HMl.out.plain.free 10
                    have hpl := HPl.out.lt
                    have hgl := HMl.out.lt
                    have htl := HTl.out.lt
                    go_wp2_with fail
                    refine wp_region_ord 12 [(0, true), (1, true), (2, true), (3, true), (4, true), (5, true), (6, true), (7, true), (8, true), (9, true), (10, false), (11, false)] (fun u => u.cell? ⟨w4.heap.size, 0, none⟩ = some (.pointer (some ⟨g, 0, none⟩)) ∧ u.cell? ⟨g, 10, none⟩ = some (.slice A hs.length c) ∧ At u w1.heap.size 0 [.bool v, .int .i64 k, .int .i64 s, .int .i64 t, .int .i64 r, .slice A5 xs.length c5, .slice A6 es.length c6, .int .i64 pp, .string pay]) (by kernel_rfl) (by kernel_rfl) ⟨tc, m10, HPl.out.at_⟩ ?_
                    refine ord_read (by rfl) (by rfl) (fun u hu => by (obtain ⟨hu1, hu2, hu3⟩ := hu; clear hu3; go_simp; try rfl)) ?_
                    refine ord_read (by rfl) (by rfl) (fun u hu => by (obtain ⟨hu1, hu2, hu3⟩ := hu; clear hu3; go_simp; try rfl)) ?_
                    refine ord_read (by rfl) (by rfl) (fun u hu => by (obtain ⟨hu1, hu2, hu3⟩ := hu; clear hu3; go_simp; try rfl)) ?_
                    refine ord_read (by rfl) (by rfl) (fun u hu => by (obtain ⟨hu1, hu2, hu3⟩ := hu; clear hu3; go_simp; try rfl)) ?_
                    simp only [Act.put, List.setIfInBounds_toArray, List.set_cons_zero, List.set_cons_succ, List.getElem_toArray, List.getElem_cons_succ, List.getElem_cons_zero]
                    refine ord_read (by rfl) (by rfl) (fun u hu => by (obtain ⟨hu1, hu2, hu3⟩ := hu; clear hu3; go_simp; try rfl)) ?_
                    refine ord_read (by rfl) (by rfl) (fun u hu => by (obtain ⟨hu1, hu2, hu3⟩ := hu; clear hu3; go_simp; try rfl)) ?_
                    refine ord_read (by rfl) (by rfl) (fun u hu => by (obtain ⟨hu1, hu2, hu3⟩ := hu; clear hu3; go_simp; try rfl)) ?_
                    simp only [Act.put, List.setIfInBounds_toArray, List.set_cons_zero, List.set_cons_succ, List.getElem_toArray, List.getElem_cons_succ, List.getElem_cons_zero]
                    refine ord_read (v := .agg #[.bool v, .int .i64 k, .int .i64 s, .int .i64 t, .int .i64 r, .slice A5 xs.length c5, .slice A6 es.length c6, .int .i64 pp, .string pay]) (by rfl) (by rfl) (fun u hu => exec_load_mid (ty := 28) (x := .tmp 5) (b := w1.heap.size) (off := 0) (cs := [.bool v, .int .i64 k, .int .i64 s, .int .i64 t, .int .i64 r, .slice A5 xs.length c5, .slice A6 es.length c6, .int .i64 pp, .string pay]) rfl rfl u hu.2.2 Try.underlying28 rfl (by kernel_rfl)) ?_
                    refine ord_read (by rfl) (by rfl) (fun u hu => by (obtain ⟨hu1, hu2, hu3⟩ := hu; clear hu3; go_simp; try rfl)) ?_
                    refine ord_read (by rfl) (by rfl) (fun u hu => by (obtain ⟨hu1, hu2, hu3⟩ := hu; clear hu3; go_simp; try rfl)) ?_
                    simp only [Act.put, List.setIfInBounds_toArray, List.set_cons_zero, List.set_cons_succ, List.getElem_toArray, List.getElem_cons_succ, List.getElem_cons_zero]
                    refine ord_make (by rfl) (fun K hK => ?_)
                    rw [if_pos (by rfl)]
                    go_wp2_with fail
                    have bN : Below wl.heap.size wl (wl.alloc (.cells #[.bool v, .int .i64 k, .int .i64 s, .int .i64 t, .int .i64 r, .slice A5 xs.length c5, .slice A6 es.length c6, .int .i64 pp, .string pay, .int .i64 (hg + ah)] 83)).drew := ((Below.refl _ wl).alloc (Nat.le_refl _) _).drew
                    have MN : Bk (wl.alloc (.cells #[.bool v, .int .i64 k, .int .i64 s, .int .i64 t, .int .i64 r, .slice A5 xs.length c5, .slice A6 es.length c6, .int .i64 pp, .string pay, .int .i64 (hg + ah)] 83)).drew wl.heap.size 83 [.bool v, .int .i64 k, .int .i64 s, .int .i64 t, .int .i64 r, .slice A5 xs.length c5, .slice A6 es.length c6, .int .i64 pp, .string pay, .int .i64 (hg + ah)] := bk_drew (Bk.new wl _ [.bool v, .int .i64 k, .int .i64 s, .int .i64 t, .int .i64 r, .slice A5 xs.length c5, .slice A6 es.length c6, .int .i64 pp, .string pay, .int .i64 (hg + ah)])
                    generalize (wl.alloc (.cells #[.bool v, .int .i64 k, .int .i64 s, .int .i64 t, .int .i64 r, .slice A5 xs.length c5, .slice A6 es.length c6, .int .i64 pp, .string pay, .int .i64 (hg + ah)] 83)).drew = wn at bN MN ⊢
                    have HMn := Lib.hid (HMl.out.below bN)
                    have HTn := Lib.hid (HTl.out.below bN)
                    have HPn := Lib.hid (HPl.out.below bN)
                    have HRn := Lib.hid (HRl.out.below bN)
                    have HOn := Lib.hid (HOl.out.kept (row := none) ⟨bN.os, bN.tape, bN.output, bN.size, fun i hi _ => bN.block i hi⟩ (by cases (Value.slice A hs.length c).ownBlock <;> simp))
                    have HHn := Lib.hid (HHl.out.frame (S' := Fr lo) fun b h1 h2 => ⟨bN.block b h2, h1⟩)
                    have HXn := Lib.hid (And.intro (HXl.out.1.below bN) (HXl.out.2.below bN))
                    have HBn := Lib.hid (HBl.out.trans (bN.mono HBl.out.size))
                    have hddn : wl.heap.size < wn.heap.size := MN.lt
                    have hvs : ∀ x ∈ ([.bool v, .int .i64 k, .int .i64 s, .int .i64 t, .int .i64 r, .slice A5 xs.length c5, .slice A6 es.length c6, .int .i64 pp, .string pay, .int .i64 (hg + ah)] : List Value), x.oneCell' = true := by simp [Value.oneCell']
                    have hown : ∀ b, (Value.slice A hs.length c).ownBlock = some b → g + 1 ≤ b ∧ b < lo := fun b hb => ⟨(HOn.out.lt b hb).1, HLow.out b hb⟩
                    have HIns := Lib.hid (insert_goes wn (g + 1) hs.length at_ wl.heap.size news [.bool v, .int .i64 k, .int .i64 s, .int .i64 t, .int .i64 r, .slice A5 xs.length c5, .slice A6 es.length c6, .int .i64 pp, .string pay, .int .i64 (hg + ah)] A c HOn.out (by omega) hatl (fun b hb => by have := hown b hb; omega) MN rfl hvs HHn.out.one (by omega))
                    have HOwn := Lib.hid hown
                    clear tc m10 f10 HMl HTl HPl HRl HOl HHl HXl HBl HQl bN MN hvs hown hpl hgl htl
                    have tc := HTn.out.cell 0 rfl
                    have m10 := HMn.out.cell 10 rfl
                    refine ⟨⟨tc, m10, HPn.out.at_⟩, ?_⟩
                    try simp only [Act.put, List.setIfInBounds_toArray, List.set_cons_zero, List.set_cons_succ, List.getElem_toArray, List.getElem_cons_succ, List.getElem_cons_zero]
                    refine ord_make (by rfl) (fun K hK => ?_)
                    rw [if_pos (by rfl)]
                    refine wp_call3 (f := 44) (x := .tmp 127) (y := .tmp 128) (z := .tmp 132) rfl rfl rfl rfl rfl rfl rfl rfl HIns.out ?_
                    rintro e wi ⟨A2, c2, rfl, hoi, hgi⟩
                    refine ⟨_, rfl, ?_⟩
                    have hr : ∀ b0, (b0 ≤ g ∨ lo ≤ b0) → some b0 ≠ (Value.slice A hs.length c).ownBlock := fun b0 hb e => by have := HOwn.out b0 e.symm; omega
                    have hddi : wn.heap.size ≤ wi.heap.size := hgi.size
                    have HMi := Lib.hid (HMn.out.grownr hgi (hr _ (by omega)))
                    have HTi := Lib.hid (HTn.out.grownr hgi (hr _ (by omega)))
                    have HPi := Lib.hid (HPn.out.grownr hgi (hr _ (by omega)))
                    have HRi := Lib.hid (HRn.out.grownr hgi (hr _ (by omega)))
                    have HHi := Lib.hid (HHn.out.frame (S' := Fr lo) fun b h1 h2 => ⟨hgi.block b h2 (hr b (.inr h1)), h1⟩)
                    have HXi := Lib.hid (And.intro (Rep.frame (S' := Fr w6.heap.size) _ _ _ HXn.out.1 fun b h1 h2 => ⟨hgi.block b h2 (hr b (.inr (by have h1 : w6.heap.size ≤ b := h1; omega))), h1⟩) (Rep.frame (S' := Fr w6.heap.size) _ _ _ HXn.out.2 fun b h1 h2 => ⟨hgi.block b h2 (hr b (.inr (by have h1 : w6.heap.size ≤ b := h1; omega))), h1⟩))
                    have HBi := Lib.hid (HBn.out.grown hgi (by omega) (fun b e => by have := HOwn.out b e; omega))
                    have HOi := Lib.hid hoi
                    clear tc m10 hgi hr hoi HMn HTn HPn HRn HHn HXn HBn HOn HIns HOwn
                    have tc := HTi.out.cell 0 rfl
                    have m10 := HMi.out.cell 10 rfl
                    have f10 := HMi.out.plain.free 10
                    have hgl := HMi.out.lt
                    refine hK _ _ ⟨⟨tc, m10, HPi.out.at_⟩, ?_⟩
                    clear hK K
                    refine ord_nil ?_
                    simp only [List.drop_succ_cons, List.drop_zero, Act.put, List.setIfInBounds_toArray, List.set_cons_zero, List.set_cons_succ, List.getElem_toArray, List.getElem_cons_succ, List.getElem_cons_zero]
                    go_wp2_with fail
                    refine NoPanic.normal ?_
                    have M11 := bk_setCell (j := 10) HMi.out (.slice A2 (hs.length + 1) c2)
                    have g11 := grown_setCell wi ⟨g, 10, none⟩ (.slice A2 (hs.length + 1) c2) g rfl
                    generalize wi.setCell ⟨g, 10, none⟩ (.slice A2 (hs.length + 1) c2) = w11 at M11 g11 ⊢
                    have HM11 := Lib.hid (show Bk w11 g 80 [.int .i64 fr, .int .i64 nw, .bool true, .bool fd, .int .i64 sq, .int .i64 (max hg (hg + ah)), .int .i64 (min lw (nw * fr - (hg + ah))), .int .i64 (nw * fr - (hg + ah)), .int .i64 (learnF jt (nw * fr - (hg + ah) - bs)), .int .i64 ls, .slice A2 (hs.length + 1) c2] from M11)
                    have HR11 := Lib.hid (HRi.out.grown g11 (by omega))
                    have HO11 := Lib.hid (HOi.out.kept g11 (by
                      rcases hob : (Value.slice A2 (hs.length + 1) c2).ownBlock with _ | b
                      · exact .inl rfl
                      · refine .inr fun e => ?_
                        have := (HOi.out.lt b hob).1
                        injection e with e
                        omega))
                    have HX11 := Lib.hid (And.intro (HXi.out.1.grown g11 (by omega)) (HXi.out.2.grown g11 (by omega)))
                    have HH11 := Lib.hid (HHi.out.frame (S' := Fr lo) fun b h1 h2 => ⟨g11.block b h2 (by intro e; injection e with e; have h1 : lo ≤ b := h1; omega), h1⟩)
                    have HB11 := Lib.hid (below_grown HBi.out g11 (by omega) (by omega))
                    have tc11 := (HTi.out.grown g11 (by omega)).cell 0 rfl
                    have hdd11 : wi.heap.size ≤ w11.heap.size := g11.size
                    clear tc m10 f10 hgl HMi HTi HPi HRi HHi HXi HBi HOi M11 g11
                    have hmul := mul_small hfr hnwb
                    have hone : ∀ x ∈ ([.int .i64 fr, .int .i64 nw, .bool true, .bool fd, .int .i64 sq, .int .i64 (max hg (hg + ah)), .int .i64 (min lw (nw * fr - (hg + ah))), .int .i64 (nw * fr - (hg + ah)), .int .i64 (learnF jt (nw * fr - (hg + ah) - bs)), .int .i64 ls, .slice A2 (hs.length + 1) c2] : List Value), x.oneCell' = true := by simp [Value.oneCell']
                    have HOne := Lib.hid hone
                    clear hone
                    go_wp2_with (first
                      | refine step_loadbk (T := 24) (cs := [.int .i64 fr, .int .i64 nw, .bool true, .bool fd, .int .i64 sq, .int .i64 (max hg (hg + ah)), .int .i64 (min lw (nw * fr - (hg + ah))), .int .i64 (nw * fr - (hg + ah)), .int .i64 (learnF jt (nw * fr - (hg + ah) - bs)), .int .i64 ls, .slice A2 (hs.length + 1) c2]) rfl rfl rfl HM11.out Try.underlying24 rfl (by kernel_rfl) ?_
                      | refine step_store (T := 24) (n := w2.heap.size) (bs := [.int .i64 fr, .int .i64 nw, .bool true, .bool fd, .int .i64 sq, .int .i64 (max hg (hg + ah)), .int .i64 (min lw (nw * fr - (hg + ah))), .int .i64 (nw * fr - (hg + ah)), .int .i64 (learnF jt (nw * fr - (hg + ah) - bs)), .int .i64 ls, .slice A2 (hs.length + 1) c2]) rfl rfl rfl rfl HR11.out rfl (by kernel_rfl) HOne.out fun w12 b12 g12 => ?_)
                    have HF := Lib.hid b12
                    have HB12 := Lib.hid (below_grown HB11.out g12 (by omega) (by omega))
                    have rx := (HX11.out.1.grown g12 (by omega)).fr_le (B' := w.heap.size) (by omega)
                    have re := (HX11.out.2.grown g12 (by omega)).fr_le (B' := w.heap.size) (by omega)
                    have rm := med_rep (v := v) (pay := pay) rx re hk hs1 ht1 hr1 hp1 hpay
                    have rh : Rep w12 (Fr w.heap.size) JHeld [.bool v, .int .i64 k, .int .i64 s, .int .i64 t, .int .i64 r, .slice A5 xs.length c5, .slice A6 es.length c6, .int .i64 pp, .string pay, .int .i64 (hg + ah)] ((v, k, s, t, r, xs, es, pp, pay, ()), hg + ah, ()) := ⟨_, _, rfl, rm, _, _, rfl, ⟨rfl, in_i64 (hg + ah) (by omega)⟩, rfl⟩
                    have hh : RepL w12 (Fr w.heap.size) JHeld news hs := HH11.out.frame fun b h1 h2 => ⟨g12.block b h2 (by intro e; injection e with e; have h1 : lo ≤ b := h1; omega), (show w.heap.size ≤ b by have h1 : lo ≤ b := h1; omega)⟩
                    have rl := ((hh.take at_ hatl).snoc rh).append (hh.drop at_ hatl)
                    have ho12 := HO11.out.kept g12 (by
                      rcases hob : (Value.slice A2 (hs.length + 1) c2).ownBlock with _ | b
                      · exact .inl rfl
                      · refine .inr fun e => ?_
                        have := (HO11.out.lt b hob).1
                        injection e with e
                        omega)
                    have hdl : (hs.take at_ ++ [((v, k, s, t, r, xs, es, pp, pay, ()), hg + ah, ())] ++ hs.drop at_).length = hs.length + 1 := by simp only [List.length_append, List.length_take, List.length_drop, List.length_cons, List.length_nil]; omega
                    have rls : Rep w12 (Fr w.heap.size) (.sl JHeld 120) [.slice A2 (hs.length + 1) c2] (hs.take at_ ++ [((v, k, s, t, r, xs, es, pp, pay, ()), hg + ah, ())] ++ hs.drop at_) := rep_copied (w := w12) (S := fun _ => True) (A := none) (c := 0) hdl.symm (by rw [big_eq]; omega) rl ho12 (fun b hb => (show w.heap.size ≤ b by omega))
                    rw [← hdl] at rls
                    have hlf : -65536 ≤ learnF jt (nw * fr - (hg + ah) - bs) ∧ learnF jt (nw * fr - (hg + ah) - bs) ≤ 1048576 + 65536 := by unfold learnF; omega
                    have rb := buf_rep (bg := true) (fd := fd) rls (in_i64 fr (by omega)) (in_i64 nw (by omega)) (in_i64 sq (by omega)) (in_i64 (max hg (hg + ah)) (by omega)) (in_i64 (min lw (nw * fr - (hg + ah))) (by omega)) (in_i64 (nw * fr - (hg + ah)) (by omega)) (in_i64 (learnF jt (nw * fr - (hg + ah) - bs)) (by omega)) (in_i64 ls (by omega))
                    rw [hdl] at rb
                    have HRb := Lib.hid rb
                    clear b12 g12 rx re rm rh rl hh ho12 hdl rls rb HX11 HO11 HH11 HR11 HB11 HM11
                    refine Lib.hid ?_
                    go_wp2_with fail
                    refine bodyPost_ret (results_row_tmp rfl _ _ w2.heap.size 24 [.int .i64 fr, .int .i64 nw, .bool true, .bool fd, .int .i64 sq, .int .i64 (max hg (hg + ah)), .int .i64 (min lw (nw * fr - (hg + ah))), .int .i64 (nw * fr - (hg + ah)), .int .i64 (learnF jt (nw * fr - (hg + ah) - bs)), .int .i64 ls, .slice A2 (hs.length + 1) c2] _ rfl HF.out Try.underlying24 rfl (by kernel_rfl)) rfl ?_
                    have hp := HPut.out
                    rw [if_neg HF0.out, if_neg HF1.out, if_neg H64.out] at hp
                    refine HPost.out _ _ ⟨[.int .i64 fr, .int .i64 nw, .bool true, .bool fd, .int .i64 sq, .int .i64 (max hg (hg + ah)), .int .i64 (min lw (nw * fr - (hg + ah))), .int .i64 (nw * fr - (hg + ah)), .int .i64 (learnF jt (nw * fr - (hg + ah) - bs)), .int .i64 ls, .slice A2 (hs.length + 1) c2], by rw [hp]; rfl, ?_, HB12.out⟩
                    rw [hp]
                    simpa using HRb.out
end Go.Proofs.Ytjmohkgbfigcgaa.Sh
