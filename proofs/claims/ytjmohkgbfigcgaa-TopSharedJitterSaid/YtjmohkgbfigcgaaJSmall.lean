/- the law's own helpers: packet, fresh. -/
import Derived.Test.YtjmohkgbfigcgaaJNew
namespace Go.Proofs.Ytjmohkgbfigcgaa.Sh
open Go Go.RowKit
set_option linter.unusedVariables false
set_option linter.unusedSimpArgs false

theorem results_row1 {P : Program} {fn : Func} {p : Tmp} {ty : TypeId} (h : fn.results = #[.cell p ty]) (tmps : Array Value) (w : World) (g : Nat) (t : TypeId) (cs : List Value) (d : TypeDesc)
    (hp : tmps.getD p undef = .pointer (some ⟨g, 0, none⟩)) (hg : Bk w g t cs) (hu : P.underlying ty = some d) (hd : d.isRow = true) (hi : (P.info? ty).map (·.size) = some cs.length) :
    (results fn tmps).run P w = .ok (.agg cs.toArray) w := by
  have hp' : tmps[p]?.getD undef = .pointer (some ⟨g, 0, none⟩) := by simpa using hp
  have hl : (loadVar ty ⟨g, 0, none⟩).run P w = .ok (.agg cs.toArray) w := run_loadVar_mid w g 0 ty cs d (fun j v hv => (hg.at_ j v hv).1) hu hd hi
  simp [results, h, hp', asAddr, hl]

/-- a row is stored over a variable of the call's own -/
theorem step_store {P : Program} {ops : Array Oper} {rest : List Oper} {o : Oper} {a : Act} {Q : Exit → Act → World → Prop} {W : World} {n : Nat} {T TT : TypeId} {x y : Operand} {bs zs : List Value}
    (hg : o.guard = none) (ho : o.op = .store T x y) (hx : a.eval x = .pointer (some ⟨n, 0, none⟩)) (hy : a.eval y = .agg bs.toArray) (hz : Bk W n TT zs) (hlen : zs.length = bs.length) (hsz : (P.info? T).map (·.size) = some bs.length) (hone : ∀ v ∈ bs, v.oneCell' = true)
    (h : ∀ W', Bk W' n TT bs → W.grownBy W' (some n) → Hid (wpList P ops Q rest (a.put o.dst undef) W')) : wpList P ops Q (o :: rest) a W := by
  have hst := run_storeCells_at P n 0 TT bs 0 _ W hz (by simp [hlen]) hone
  have hrowEq : (zs.toArray.toList.take (0 + 0) ++ bs ++ zs.toArray.toList.drop (0 + 0 + bs.length)) = bs := by simp [← hlen]
  rw [hrowEq] at hst
  have hsize : (sizeOf T).run P W = .ok bs.length W := by
    cases hq : P.info? T with
    | none => simp [hq] at hsz
    | some i => simp [hq] at hsz; simp [sizeOf, typeInfo, hq, hsz]
  refine wpList_skip (w' := W.setRow n bs.toArray) hg ?_ ?_
  · simp only [execOp, ho, hy, hx, Instr.storeAt, Instr.sureAddr, storeVar, Sem.run_bind, Sem.run_pure, Result.andThen_ok, hsize, Value.cells, List.size_toArray, ne_eq, not_true_eq_false, if_false, hst]
  · exact (h _ (setRow_heap W n _ _ TT _ hz) ⟨rfl, rfl, rfl, by rw [setRow_size]; exact Nat.le_refl _, fun k hk hn => setRow_other _ _ _ _ (fun e => hn (by rw [e]))⟩).out

def medOf (s t : Int) (v : Bool) : JMed.Data := (v, 0, s, t, 0, [], [], 0, .empty, ())
def medCells (s t : Int) (v : Bool) : List Value := [.bool v, .int .i64 0, .int .i64 s, .int .i64 t, .int .i64 0, .slice none 0 0, .slice none 0 0, .int .i64 0, .string .empty]
theorem rep_medOf (w : World) (S : Nat → Prop) (s t : Int) (v : Bool) (hs : IntKind.i64.min ≤ s ∧ s ≤ IntKind.i64.max) (ht : IntKind.i64.min ≤ t ∧ t ≤ IntKind.i64.max) : Rep w S JMed (medCells s t v) (medOf s t v) :=
  med_rep (xs := []) (es := []) (rep_sl.2 ⟨rfl, Nat.le_refl _, by simp [maxLen], by simp, [], fun h => absurd h (by simp), RepL.nil ..⟩) (rep_sl.2 ⟨rfl, Nat.le_refl _, by simp [maxLen], by simp, [], fun h => absurd h (by simp), RepL.nil ..⟩) zero_in hs ht zero_in zero_in (by rw [big_eq]; decide)

set_option maxRecDepth 100000 in
set_option maxHeartbeats 1600000 in
theorem packet_goes (w : World) (s t : Int) (v : Bool) :
    Calls Try.prog 50 #[.int .i64 s, .int .i64 t, .bool v] w fun e w' => e = .returned (.agg (medCells s t v).toArray) ∧ Below w.heap.size w w' := by
  go_enter Try.func50, Try.ntmps50
  go_wp2_with fail
  refine bodyPost_ret (results_row1 rfl _ _ w.heap.size 28 (medCells s t v) _ rfl (Bk.new w _ (medCells s t v)) Try.underlying28 rfl (by kernel_rfl)) rfl ?_
  exact ⟨rfl, (Below.refl _ w).alloc (Nat.le_refl _) _⟩

set_option maxRecDepth 100000 in
set_option maxHeartbeats 1600000 in
theorem fresh_goes (w : World) (n : Int) (hn : IntKind.i64.min ≤ n ∧ n ≤ IntKind.i64.max) :
    Calls Try.prog 49 #[.int .i64 n] w fun e w' => ∃ cs, e = .returned (.agg cs.toArray) ∧ Rep w' (Fr w.heap.size) JBuf cs (newF n).1 ∧ Below w.heap.size w w' := by
  go_enter Try.func49, Try.ntmps49
  go_wp2_with fail
  have hb0 : Below w.heap.size w (w.alloc (.cells #[.int .i64 0, .int .i64 0, .bool false, .bool false, .int .i64 0, .int .i64 0, .int .i64 0, .int .i64 0, .int .i64 0, .int .i64 0, .slice none 0 0] 24)) := (Below.refl _ w).alloc (Nat.le_refl _) _
  have Z0 : Bk (w.alloc (.cells #[.int .i64 0, .int .i64 0, .bool false, .bool false, .int .i64 0, .int .i64 0, .int .i64 0, .int .i64 0, .int .i64 0, .int .i64 0, .slice none 0 0] 24)) w.heap.size 24 (bufCells 0) := Bk.new w _ (bufCells 0)
  have hz0 : (w.alloc (.cells #[.int .i64 0, .int .i64 0, .bool false, .bool false, .int .i64 0, .int .i64 0, .int .i64 0, .int .i64 0, .int .i64 0, .int .i64 0, .slice none 0 0] 24)).heap.size = w.heap.size + 1 := alloc_size _ _
  generalize (w.alloc (.cells #[.int .i64 0, .int .i64 0, .bool false, .bool false, .int .i64 0, .int .i64 0, .int .i64 0, .int .i64 0, .int .i64 0, .int .i64 0, .slice none 0 0] 24)) = w0 at hb0 Z0 hz0 ⊢
  refine (new_goes w0 n hn).mono ?_
  rintro e w1 ⟨cs, rfl, hr1, hb1⟩
  have hl1 : cs.length = 11 := Rep.length _ _ _ hr1
  have hz1 := hb1.size
  have hsz : (Try.prog.info? 24).map (·.size) = some cs.length := by rw [hl1]; kernel_rfl
  obtain ⟨iz, hi, hzz⟩ := Option.map_eq_some_iff.1 (show (Try.prog.info? 24).map (·.zero) = some (some (.agg (bufCells 0).toArray)) by kernel_rfl)
  have HSZ := Lib.hid hsz
  have HI := Lib.hid hi
  have HZZ := Lib.hid hzz
  have HR1 := Lib.hid hr1
  have Z1 := Lib.hid (Z0.below hb1)
  have B1 := Lib.hid (hb0.trans (hb1.mono (by omega)))
  have HL1 := Lib.hid hl1
  clear hsz hi hzz hr1 Z0 hb0 hb1 hl1
  go_wp2_with (refine step_new (T := 24) (bs := cs) rfl rfl rfl rfl rfl (by simp) rfl HI.out HZZ.out (by rw [HL1.out]; rfl) HSZ.out (Rep.one _ _ _ HR1.out) fun w2 b2 e2 z2 => ?_)
  have A2 := Lib.hid b2.at_
  have Z2 := Z1.out.below (e2.mono (Nat.le_refl _))
  have Z2h := Lib.hid Z2
  have R2 := Lib.hid (HR1.out.below e2)
  have B2 := Lib.hid (B1.out.trans (e2.mono (by omega)))
  have hz1' : w.heap.size < w1.heap.size := by omega
  clear Z2 e2
  refine Lib.hid ?_
  go_wp2_with (first
    | refine wpList_load_mid rfl 24 _ rfl w1.heap.size 0 rfl cs _ (fun j v hv => (A2.out j v hv).1) Try.underlying24 rfl HSZ.out ?_
    | refine step_store (T := 24) (n := w.heap.size) (bs := cs) rfl rfl rfl rfl Z2h.out (by rw [HL1.out]; rfl) HSZ.out (Rep.one _ _ _ R2.out) fun w3 b3 g3 => ?_)
  have R3 := (R2.out.grown (B := w0.heap.size) g3 (by omega)).fr_le (B' := w.heap.size) (by omega)
  have B3 := below_grown B2.out g3 (by omega) (Nat.le_refl _)
  have HB3 := Lib.hid b3
  have HR3 := Lib.hid R3
  have HBB := Lib.hid B3
  clear b3 g3 R3 B3
  refine Lib.hid ?_
  go_wp2_with fail
  refine bodyPost_ret (results_row1 rfl _ _ w.heap.size 24 cs _ rfl HB3.out Try.underlying24 rfl HSZ.out) rfl ?_
  exact ⟨_, rfl, HR3.out, HBB.out⟩
end Go.Proofs.Ytjmohkgbfigcgaa.Sh
