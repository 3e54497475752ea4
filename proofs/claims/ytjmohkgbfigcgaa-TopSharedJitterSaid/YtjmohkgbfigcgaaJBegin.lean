/- jitter's begin and learn: how a change's numbers move. -/
import Derived.Test.YtjmohkgbfigcgaaJCheck
namespace Go.Proofs.Ytjmohkgbfigcgaa.Sh
open Go Go.RowKit
set_option linter.unusedVariables false
set_option linter.unusedSimpArgs false

theorem bk_change {w : World} {N : Nat} {T : TypeId} {a0 a1 a2 a3 a4 a5 a6 a7 a8 a9 a10 : Value} (h : Bk w N T [a0, a1, a2, a3, a4, a5, a6, a7, a8, a9, a10]) :
    (w.cell? ⟨N, 0, none⟩ = some a0 ∧ w.cell? ⟨N, 1, none⟩ = some a1 ∧ w.cell? ⟨N, 2, none⟩ = some a2 ∧ w.cell? ⟨N, 3, none⟩ = some a3 ∧ w.cell? ⟨N, 4, none⟩ = some a4 ∧ w.cell? ⟨N, 5, none⟩ = some a5) ∧
    (w.cell? ⟨N, 6, none⟩ = some a6 ∧ w.cell? ⟨N, 7, none⟩ = some a7 ∧ w.cell? ⟨N, 8, none⟩ = some a8 ∧ w.cell? ⟨N, 9, none⟩ = some a9 ∧ w.cell? ⟨N, 10, none⟩ = some a10) ∧ (∀ j, w.frozen? ⟨N, j, none⟩ = false) :=
  ⟨⟨h.cell 0 rfl, h.cell 1 rfl, h.cell 2 rfl, h.cell 3 rfl, h.cell 4 rfl, h.cell 5 rfl⟩, ⟨h.cell 6 rfl, h.cell 7 rfl, h.cell 8 rfl, h.cell 9 rfl, h.cell 10 rfl⟩, fun j => h.plain.free j⟩

theorem grown_trans {a b c : World} {r : Option Nat} (h : a.grownBy b r) (k : b.grownBy c r) : a.grownBy c r :=
  ⟨k.os.trans h.os, k.tape.trans h.tape, k.output.trans h.output, Nat.le_trans h.size k.size, fun x hx hm => (k.block x (Nat.lt_of_lt_of_le hx h.size) hm).trans (h.block x hx hm)⟩
theorem grown_of_below {a b : World} (h : Below a.heap.size a b) (r : Option Nat) : a.grownBy b r := ⟨h.os, h.tape, h.output, h.size, fun x hx _ => h.block x hx⟩
theorem grown_drew {a b : World} {r : Option Nat} (h : a.grownBy b r) : a.grownBy b.drew r := ⟨h.os, h.tape, h.output, h.size, h.block⟩
theorem bk_drew {w : World} {n : Nat} {T : TypeId} {cs : List Value} (h : Bk w n T cs) : Bk w.drew n T cs := h
theorem bk_cast {w : World} {n : Nat} {T : TypeId} {cs cs' : List Value} (h : Bk w n T cs) (e : cs = cs') : Bk w n T cs' := e ▸ h
theorem wrap64_id (x : Int) (h : -9223372036854775808 ≤ x ∧ x ≤ 9223372036854775807) : wrap64 x = x := by unfold wrap64; omega

set_option maxRecDepth 100000 in
set_option maxHeartbeats 1600000 in
theorem begin_goes (w : World) (cb : Nat) (fr now : Int) (bg fd : Bool) (sq hg lw bs jt ls : Int) (sl : Value) (v : Bool) (k s t r p stamp : Int) (x5 x6 x8 : Value) (h : Bk w cb 80 [.int .i64 fr, .int .i64 now, .bool bg, .bool fd, .int .i64 sq, .int .i64 hg, .int .i64 lw, .int .i64 bs, .int .i64 jt, .int .i64 ls, sl])
    (hx5 : x5.oneCell' = true) (hx6 : x6.oneCell' = true) (hx8 : x8.oneCell' = true)
    (hfr : 1 ≤ fr ∧ fr ≤ 96) (hnow : 0 ≤ now ∧ now ≤ 1099511627776) (hst : 0 ≤ stamp ∧ stamp ≤ 1152921504606846976) :
    Calls Try.prog 39 #[.pointer (some ⟨cb, 0, none⟩), .agg #[.bool v, .int .i64 k, .int .i64 s, .int .i64 t, .int .i64 r, x5, x6, .int .i64 p, x8], .int .i64 stamp] w fun e w' => e = .returned (.tuple #[]) ∧ w.grownBy w' (some cb) ∧
      Bk w' cb 80 [.int .i64 fr, .int .i64 now, .bool true, .bool true, .int .i64 s, .int .i64 stamp, .int .i64 (now * fr - stamp), .int .i64 (now * fr - stamp), .int .i64 jt, .int .i64 ls, sl] := by
  have hlt := h.lt
  have H := Lib.hid h
  clear h
  have hmul : 0 ≤ now * fr ∧ now * fr ≤ 105553116266496 := by
    have a1 : now * fr ≤ 1099511627776 * 96 := Int.mul_le_mul hnow.2 hfr.2 (by omega) (by omega)
    have a2 : 0 ≤ now * fr := Int.mul_nonneg hnow.1 (by omega)
    omega
  have hw1 : wrap64 (now * fr) = now * fr := wrap64_id _ (by omega)
  have hw2 : wrap64 (now * fr - stamp) = now * fr - stamp := wrap64_id _ (by omega)
  go_enter Try.func39, Try.ntmps39
  go_wp2_with (refine step_boxh (cs := [.bool v, .int .i64 k, .int .i64 s, .int .i64 t, .int .i64 r, x5, x6, .int .i64 p, x8]) rfl rfl rfl fun w0 M0 B0 Z0 => ?_)
  refine Lib.hid ?_
  have m2 := M0.cell 2 rfl
  have H0 := H.out.below B0
  have hlt0 : cb < w0.heap.size := H0.lt
  obtain ⟨⟨c0, c1, c2, c3, c4, c5⟩, ⟨c6, c7, c8, c9, c10⟩, hfz⟩ := bk_change H0
  have f2 := hfz 2
  have f3 := hfz 3
  have f4 := hfz 4
  have f5 := hfz 5
  have f6 := hfz 6
  have f7 := hfz 7
  have HB0 := Lib.hid B0
  have HH0 := Lib.hid H0
  clear M0 B0 H0 hfz
  go_wp2_with fail
  go_region
  all_goals go_wp2_with fail
  all_goals go_region
  all_goals go_wp2_with fail
  go_end0
  refine ⟨rfl, ?_, ?_⟩
  · refine grown_trans (grown_of_below HB0.out (some cb)) ?_
    refine grown_drew (grown_drew ?_)
    refine grown_trans (grown_trans (grown_trans (grown_trans (grown_trans (grown_setCell _ _ _ _ rfl) (grown_setCell _ _ _ _ rfl)) (grown_setCell _ _ _ _ rfl)) (grown_setCell _ _ _ _ rfl)) (grown_setCell _ _ _ _ rfl)) (grown_setCell _ _ _ _ rfl)
  · exact bk_drew (bk_drew (bk_setCell (bk_setCell (bk_setCell (bk_setCell (bk_setCell (bk_setCell HH0.out _) _) _) _) _) _))

/-- how the jitter is learnt -/
def learnF (jt d : Int) : Int := jt + (min (max d (-d)) 65535 - (jt + 8) / 16)

set_option maxRecDepth 100000 in
set_option maxHeartbeats 1600000 in
theorem learn_goes (w : World) (cb : Nat) (fr now : Int) (bg fd : Bool) (sq hg lw bs jt ls : Int) (sl : Value) (stamp : Int) (h : Bk w cb 80 [.int .i64 fr, .int .i64 now, .bool bg, .bool fd, .int .i64 sq, .int .i64 hg, .int .i64 lw, .int .i64 bs, .int .i64 jt, .int .i64 ls, sl])
    (hfr : 1 ≤ fr ∧ fr ≤ 96) (hnow : 0 ≤ now ∧ now ≤ 1099511627776) (hst : 0 ≤ stamp ∧ stamp ≤ 1152921504606846976) (hjt : 0 ≤ jt ∧ jt ≤ 1048576) (hbs : -1152921504606846976 ≤ bs ∧ bs ≤ 1152921504606846976) :
    Calls Try.prog 43 #[.pointer (some ⟨cb, 0, none⟩), .int .i64 stamp] w fun e w' => e = .returned (.tuple #[]) ∧ w.grownBy w' (some cb) ∧
      Bk w' cb 80 [.int .i64 fr, .int .i64 now, .bool bg, .bool fd, .int .i64 sq, .int .i64 (max hg stamp), .int .i64 (min lw (now * fr - stamp)), .int .i64 (now * fr - stamp), .int .i64 (learnF jt (now * fr - stamp - bs)), .int .i64 ls, sl] := by
  have hlt := h.lt
  have H := Lib.hid h
  have hmul : 0 ≤ now * fr ∧ now * fr ≤ 105553116266496 := by
    have a1 : now * fr ≤ 1099511627776 * 96 := Int.mul_le_mul hnow.2 hfr.2 (by omega) (by omega)
    have a2 : 0 ≤ now * fr := Int.mul_nonneg hnow.1 (by omega)
    omega
  have hw1 : wrap64 (now * fr) = now * fr := wrap64_id _ (by omega)
  have hw2 : wrap64 (now * fr - stamp) = now * fr - stamp := wrap64_id _ (by omega)
  have hw3 : wrap64 (now * fr - stamp - bs) = now * fr - stamp - bs := wrap64_id _ (by omega)
  have hw4 : wrap64 (-(now * fr - stamp - bs)) = -(now * fr - stamp - bs) := wrap64_id _ (by omega)
  have hw5 : wrap64 (jt + 8) = jt + 8 := wrap64_id _ (by omega)
  obtain ⟨⟨c0, c1, c2, c3, c4, c5⟩, ⟨c6, c7, c8, c9, c10⟩, hfz⟩ := bk_change h
  have f5 := hfz 5
  have f6 := hfz 6
  have f7 := hfz 7
  have f8 := hfz 8
  clear h hfz
  go_enter Try.func43, Try.ntmps43
  go_wp2_with fail
  go_region
  all_goals go_wp2_with fail
  all_goals go_region
  all_goals go_wp2_with fail
  all_goals go_region
  all_goals go_wp2_with fail
  all_goals go_end0
  all_goals refine ⟨rfl, grown_drew (grown_drew (grown_drew (grown_trans (grown_trans (grown_trans (grown_setCell _ _ _ _ rfl) (grown_setCell _ _ _ _ rfl)) (grown_setCell _ _ _ _ rfl)) (grown_setCell _ _ _ _ rfl)))), ?_⟩
  all_goals refine bk_drew (bk_drew (bk_drew (bk_cast (bk_setCell (bk_setCell (bk_setCell (bk_setCell H.out _) _) _) _) ?_)))
  all_goals
    simp only [List.set_cons_succ, List.set_cons_zero, List.cons.injEq, Value.int.injEq, true_and, and_true, learnF]
    generalize now * fr - stamp = tr at *
    omega
end Go.Proofs.Ytjmohkgbfigcgaa.Sh
