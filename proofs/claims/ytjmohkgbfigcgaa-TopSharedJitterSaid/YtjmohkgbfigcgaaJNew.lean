/- jitter.New; and how a call hands back a row beside other results. -/
import Derived.Test.YtjmohkgbfigcgaaJOwn
namespace Go.Proofs.Ytjmohkgbfigcgaa.Sh
open Go Go.RowKit
set_option linter.unusedVariables false
set_option linter.unusedSimpArgs false

theorem results_row_tmp {P : Program} {fn : Func} {p u : Tmp} {ty : TypeId} (h : fn.results = #[.cell p ty, .tmp u]) (tmps : Array Value) (w : World) (g : Nat) (t : TypeId) (cs : List Value) (d : TypeDesc)
    (hp : tmps.getD p undef = .pointer (some ⟨g, 0, none⟩)) (hg : Bk w g t cs) (hu : P.underlying ty = some d) (hd : d.isRow = true) (hi : (P.info? ty).map (·.size) = some cs.length) :
    (results fn tmps).run P w = .ok (.tuple #[.agg cs.toArray, tmps.getD u undef]) w := by
  have hp' : tmps[p]?.getD undef = .pointer (some ⟨g, 0, none⟩) := by simpa using hp
  have hl : (loadVar ty ⟨g, 0, none⟩).run P w = .ok (.agg cs.toArray) w := run_loadVar_mid w g 0 ty cs d (fun j v hv => (hg.at_ j v hv).1) hu hd hi
  simp [results, h, hp', asAddr, hl]

theorem rep_buf {w : World} {S : Nat → Prop} {cs : List Value} {fr now : Int} {bg fd : Bool} {sq hg lw bs jt ls : Int} {hs : List JHeld.Data} {u : Unit} (h : Rep w S JBuf cs (fr, now, bg, fd, sq, hg, lw, bs, jt, ls, hs, u)) :
    ∃ A c, cs = [.int .i64 fr, .int .i64 now, .bool bg, .bool fd, .int .i64 sq, .int .i64 hg, .int .i64 lw, .int .i64 bs, .int .i64 jt, .int .i64 ls, .slice A hs.length c] ∧ Rep w S (.sl JHeld 120) [.slice A hs.length c] hs ∧
      ((IntKind.i64.min ≤ fr ∧ fr ≤ IntKind.i64.max) ∧ (IntKind.i64.min ≤ now ∧ now ≤ IntKind.i64.max) ∧ (IntKind.i64.min ≤ sq ∧ sq ≤ IntKind.i64.max) ∧ (IntKind.i64.min ≤ hg ∧ hg ≤ IntKind.i64.max)) ∧
      (IntKind.i64.min ≤ lw ∧ lw ≤ IntKind.i64.max) ∧ (IntKind.i64.min ≤ bs ∧ bs ≤ IntKind.i64.max) ∧ (IntKind.i64.min ≤ jt ∧ jt ≤ IntKind.i64.max) ∧ (IntKind.i64.min ≤ ls ∧ ls ≤ IntKind.i64.max) := by
  obtain ⟨_, _, rfl, ⟨rfl, h1⟩, _, _, rfl, ⟨rfl, h2⟩, _, _, rfl, rfl, _, _, rfl, rfl, _, _, rfl, ⟨rfl, h5⟩, _, _, rfl, ⟨rfl, h6⟩, _, _, rfl, ⟨rfl, h7⟩, _, _, rfl, ⟨rfl, h8⟩, _, _, rfl, ⟨rfl, h9⟩, _, _, rfl, ⟨rfl, h10⟩, _, _, rfl, h11, rfl⟩ := h
  obtain ⟨A, c, rfl⟩ := h11.slice
  exact ⟨A, c, rfl, h11, ⟨h1, h2, h5, h6⟩, h7, h8, h9, h10⟩
theorem buf_rep {w : World} {S : Nat → Prop} {fr now : Int} {bg fd : Bool} {sq hg lw bs jt ls : Int} {hs : List JHeld.Data} {A : Option Addr} {c : Nat} (h : Rep w S (.sl JHeld 120) [.slice A hs.length c] hs)
    (h1 : IntKind.i64.min ≤ fr ∧ fr ≤ IntKind.i64.max) (h2 : IntKind.i64.min ≤ now ∧ now ≤ IntKind.i64.max) (h5 : IntKind.i64.min ≤ sq ∧ sq ≤ IntKind.i64.max) (h6 : IntKind.i64.min ≤ hg ∧ hg ≤ IntKind.i64.max)
    (h7 : IntKind.i64.min ≤ lw ∧ lw ≤ IntKind.i64.max) (h8 : IntKind.i64.min ≤ bs ∧ bs ≤ IntKind.i64.max) (h9 : IntKind.i64.min ≤ jt ∧ jt ≤ IntKind.i64.max) (h10 : IntKind.i64.min ≤ ls ∧ ls ≤ IntKind.i64.max) :
    Rep w S JBuf [.int .i64 fr, .int .i64 now, .bool bg, .bool fd, .int .i64 sq, .int .i64 hg, .int .i64 lw, .int .i64 bs, .int .i64 jt, .int .i64 ls, .slice A hs.length c] (fr, now, bg, fd, sq, hg, lw, bs, jt, ls, hs, ()) :=
  ⟨_, _, rfl, ⟨rfl, h1⟩, _, _, rfl, ⟨rfl, h2⟩, _, _, rfl, rfl, _, _, rfl, rfl, _, _, rfl, ⟨rfl, h5⟩, _, _, rfl, ⟨rfl, h6⟩, _, _, rfl, ⟨rfl, h7⟩, _, _, rfl, ⟨rfl, h8⟩, _, _, rfl, ⟨rfl, h9⟩, _, _, rfl, ⟨rfl, h10⟩, _, _, rfl, h, rfl⟩
/-- the empty buffer of a frame size -/
def bufOf (fr : Int) : JBuf.Data := (fr, 0, false, false, 0, 0, 0, 0, 0, 0, [], ())
def bufCells (fr : Int) : List Value := [.int .i64 fr, .int .i64 0, .bool false, .bool false, .int .i64 0, .int .i64 0, .int .i64 0, .int .i64 0, .int .i64 0, .int .i64 0, .slice none 0 0]
theorem zero_in : IntKind.i64.min ≤ 0 ∧ 0 ≤ IntKind.i64.max := by decide
theorem rep_bufOf (w : World) (S : Nat → Prop) (fr : Int) (h : IntKind.i64.min ≤ fr ∧ fr ≤ IntKind.i64.max) : Rep w S JBuf (bufCells fr) (bufOf fr) :=
  buf_rep (hs := []) (rep_sl.2 ⟨rfl, Nat.le_refl _, by simp [maxLen], by simp, [], fun h => absurd h (by simp), RepL.nil ..⟩) h zero_in zero_in zero_in zero_in zero_in zero_in zero_in

def newF (n : Int) : JBuf.Data × Int := if withinF 1 96 n then (bufOf n, 0) else (bufOf 0, 2)
set_option maxRecDepth 100000 in
set_option maxHeartbeats 1600000 in
theorem new_goes (w : World) (n : Int) (hn : IntKind.i64.min ≤ n ∧ n ≤ IntKind.i64.max) :
    Calls Try.prog 10 #[.int .i64 n] w fun e w' => ∃ cs, e = .returned (.tuple #[.agg cs.toArray, .int .i64 (newF n).2]) ∧ Rep w' (Fr w.heap.size) JBuf cs (newF n).1 ∧ Below w.heap.size w w' := by
  have H := fun w' => within_goes w' 1 96 n
  cases hq : withinF 1 96 n with
  | false =>
    have e : newF n = (bufOf 0, 2) := by simp [newF, hq]
    rw [e]
    have HQ := Lib.hid hq
    clear e hq
    go_enter Try.func10, Try.ntmps10
    go_wp2_with fail
    refine (H _).mono ?_
    rintro e w' ⟨rfl, rfl⟩
    rw [HQ.out]
    go_wp2_with fail
    refine bodyPost_ret (results_row_tmp rfl _ _ w.heap.size 24 (bufCells 0) _ rfl (Bk.new w _ (bufCells 0)) Try.underlying24 rfl (by kernel_rfl)) rfl ?_
    exact ⟨_, rfl, rep_bufOf _ _ _ zero_in, (Below.refl _ w).alloc (Nat.le_refl _) _⟩
  | true =>
    have e : newF n = (bufOf n, 0) := by simp [newF, hq]
    rw [e]
    have HQ := Lib.hid hq
    clear e hq
    go_enter Try.func10, Try.ntmps10
    go_wp2_with fail
    refine (H _).mono ?_
    rintro e w' ⟨rfl, rfl⟩
    rw [HQ.out]
    go_wp2_with fail
    refine bodyPost_ret (results_row_tmp rfl _ _ w.heap.size 24 (bufCells n) _ rfl (Bk.new w _ (bufCells n)) Try.underlying24 rfl (by kernel_rfl)) rfl ?_
    exact ⟨_, rfl, rep_bufOf _ _ _ hn, (Below.refl _ w).alloc (Nat.le_refl _) _⟩
end Go.Proofs.Ytjmohkgbfigcgaa.Sh
