/- jitter.held: whether what is held is in order. -/
import Derived.Test.YtjmohkgbfigcgaaJPut1
namespace Go.Proofs.Ytjmohkgbfigcgaa.Sh
open Go Go.RowKit
set_option linter.unusedVariables false
set_option linter.unusedSimpArgs false

/-- a row put into a variable of the call's own -/
theorem step_boxh {P : Program} {ops : Array Oper} {rest : List Oper} {o : Oper} {a : Act} {Q : Exit → Act → World → Prop} {w : World} {T : TypeId} {x : Operand} {cs : List Value}
    (hg : o.guard = none) (ho : o.op = .box T x) (hx : a.eval x = .agg cs.toArray) (h : ∀ w', Bk w' w.heap.size T cs → Below w.heap.size w w' → w'.heap.size = w.heap.size + 1 → Hid (wpList P ops Q rest (a.put o.dst (.pointer (some ⟨w.heap.size, 0, none⟩))) w')) : wpList P ops Q (o :: rest) a w :=
  step_box hg ho hx (h _ (Bk.new w _ cs) ((Below.refl _ w).alloc (Nat.le_refl _) _) (alloc_size _ _)).out

theorem heldF_nil (sq hg q : Int) : heldF sq hg q [] = true := rfl
theorem heldF_cons (sq hg q : Int) (m : JMed.Data) (a : Int) (u : Unit) (hs : List JHeld.Data) : heldF sq hg q ((m, a, u) :: hs) = (checkM m && withinF 0 hg a && decide (a % 4294967296 = stampOf m) && withinF (q + 1) 511 (aheadF (seqOf m) sq 65536) && heldF sq hg (aheadF (seqOf m) sq 65536) hs) := rfl

set_option maxRecDepth 100000 in
set_option maxHeartbeats 1600000 in
theorem held_goes (w : World) (S : Nat → Prop) (cs : List Value) (fr now : Int) (bg fd : Bool) (sq hg lw bs jt ls : Int) (hs : List JHeld.Data) (h : Rep w S JBuf cs (fr, now, bg, fd, sq, hg, lw, bs, jt, ls, hs, ())) (hS : ∀ b, S b → b < w.heap.size) :
    Calls Try.prog 33 #[.agg cs.toArray] w fun e w' => e = .returned (.bool (heldF sq hg (-1) hs && decide (hs.length ≤ 64))) ∧ Below w.heap.size w w' := by
  obtain ⟨A, c, rfl, hh, ⟨-, -, hsq, hhg⟩, -⟩ := rep_buf h
  obtain ⟨-, hn1, hn2, hn3, news, hplace, hrl⟩ := rep_sl.1 hh
  have hnl : hs.length ≤ 9223372036854775807 := by rw [big_eq] at hn3; omega
  have HP := Lib.hid hplace
  have HR := Lib.hid hrl
  have HS := Lib.hid hS
  generalize hres : (heldF sq hg (-1) hs && decide (hs.length ≤ 64)) = res
  have HV := Lib.hid hres
  clear h hh hplace hrl hS hres hn3
  go_enter Try.func33, Try.ntmps33
  go_wp2_with (refine step_boxh (cs := [.int .i64 fr, .int .i64 now, .bool bg, .bool fd, .int .i64 sq, .int .i64 hg, .int .i64 lw, .int .i64 bs, .int .i64 jt, .int .i64 ls, .slice A hs.length c]) rfl rfl rfl fun w0 M0 B0 Z0 => ?_)
  have m10 := M0.cell 10 rfl
  have HM0 := Lib.hid M0
  have HB0 := Lib.hid B0
  clear M0 B0
  refine Lib.hid ?_
  go_wp2_with fail
  go_loopw [3, 10] (fun la i wr => ∃ (kk : Nat) (q : Int), la = .int .i64 q ∧ i = .int .i64 kk ∧ kk ≤ hs.length ∧ (-32768 ≤ q ∧ q ≤ 32767) ∧ heldF sq hg (-1) hs = heldF sq hg q (hs.drop kk) ∧
      Below w.heap.size w wr ∧ Bk wr w.heap.size 24 [.int .i64 fr, .int .i64 now, .bool bg, .bool fd, .int .i64 sq, .int .i64 hg, .int .i64 lw, .int .i64 bs, .int .i64 jt, .int .i64 ls, .slice A hs.length c]) (fun _ i _ => hs.length - (intOf i).toNat)
  case atStart => exact ⟨0, -1, rfl, rfl, by omega, by omega, by simp, HB0.out, HM0.out⟩
  case round =>
    obtain ⟨kk, q, rfl, rfl, hkk, hq, heq, hL, hM⟩ := hrel
    have L := Lib.hid hL
    have M := Lib.hid hM
    have HEq := Lib.hid heq
    have hzr := hL.size
    have hNr := hM.lt
    clear hL hM heq m10
    by_cases hlt : kk < hs.length
    · obtain ⟨eb, eo, rfl, hSe, hel, hat⟩ := HP.out (by omega)
      have hre := HR.out.2 kk hlt
      rcases hek : hs[kk] with ⟨⟨v, k, s, t, r, xs, es, p, pay, ⟨⟩⟩, ar, ⟨⟩⟩
      rw [hek] at hre
      obtain ⟨c1, _, hseg, hm, _, _, rfl, ⟨rfl, har⟩, rfl⟩ := hre
      have HMed := Lib.hid hm
      obtain ⟨A1, k1, A2, k2, rfl, -, -, hk, hs', ht, -⟩ := rep_med hm
      have hae := (hat.seg (kk * 10) 10)
      have hseg' : (news.drop (kk * 10)).take 10 = [.bool v, .int .i64 k, .int .i64 s, .int .i64 t, .int .i64 r, .slice A1 xs.length k1, .slice A2 es.length k2, .int .i64 p, .string pay, .int .i64 ar] := hseg
      rw [hseg'] at hae
      have hae' := Lib.hid (hae.frame (L.out.block eb hel))
      clear hae hat hseg hseg' hm
      go_wp2_with (refine wpList_load_mid rfl 83 _ rfl eb (eo + kk * 10) rfl [.bool v, .int .i64 k, .int .i64 s, .int .i64 t, .int .i64 r, .slice A1 xs.length k1, .slice A2 es.length k2, .int .i64 p, .string pay, .int .i64 ar] _ (fun j v hv => (hae'.out j v hv).1) Try.underlying83 rfl (by kernel_rfl) ?_)
      have b4 : Below wr.heap.size wr (wr.alloc (.cells #[.bool v, .int .i64 k, .int .i64 s, .int .i64 t, .int .i64 r, .slice A1 xs.length k1, .slice A2 es.length k2, .int .i64 p, .string pay, .int .i64 ar] 83)) := (Below.refl _ wr).alloc (Nat.le_refl _) _
      have e4 : Bk (wr.alloc (.cells #[.bool v, .int .i64 k, .int .i64 s, .int .i64 t, .int .i64 r, .slice A1 xs.length k1, .slice A2 es.length k2, .int .i64 p, .string pay, .int .i64 ar] 83)) wr.heap.size 83 [.bool v, .int .i64 k, .int .i64 s, .int .i64 t, .int .i64 r, .slice A1 xs.length k1, .slice A2 es.length k2, .int .i64 p, .string pay, .int .i64 ar] := Bk.new wr _ [.bool v, .int .i64 k, .int .i64 s, .int .i64 t, .int .i64 r, .slice A1 xs.length k1, .slice A2 es.length k2, .int .i64 p, .string pay, .int .i64 ar]
      generalize (wr.alloc (.cells #[.bool v, .int .i64 k, .int .i64 s, .int .i64 t, .int .i64 r, .slice A1 xs.length k1, .slice A2 es.length k2, .int .i64 p, .string pay, .int .i64 ar] 83)) = w4 at b4 e4 ⊢
      have L4 := L.out.trans (b4.mono hzr)
      have M4 := M.out.below b4
      have hS4 : ∀ b, S b → b < w4.heap.size := fun b hb => by have := HS.out b hb; have := L4.size; omega
      have R4 := HMed.out.below L4
      have hdrop : hs.drop kk = ((v, k, s, t, r, xs, es, p, pay, ()), ar, ()) :: hs.drop (kk + 1) := by rw [← hek]; exact List.drop_eq_getElem_cons hlt
      have heq2 := HEq.out
      rw [hdrop, heldF_cons] at heq2
      have HEq2 := Lib.hid heq2
      clear heq2 hdrop b4
      refine (checkM_goes w4 S _ _ R4 hS4).mono ?_
      rintro e w5 ⟨rfl, hb5⟩
      have L5 := L4.trans (hb5.mono (by have := L4.size; omega))
      have M5 := M4.below hb5
      have e5 := e4.below hb5
      have n9 := e5.cell 9 rfl
      have n3 := e5.cell 3 rfl
      have n2 := e5.cell 2 rfl
      have m4 := M5.cell 4 rfl
      have m5 := M5.cell 5 rfl
      have HL5 := Lib.hid L5
      have HM5 := Lib.hid M5
      have hne : w.heap.size < w5.heap.size := M5.lt
      have hne2 : wr.heap.size < w5.heap.size := e5.lt
      clear L4 M4 R4 hS4 e4 hb5 L5 M5 e5
      have HW := Lib.hid (within_goes w5)
      have HA := Lib.hid (ahead16_goes w5 s sq hs' hsq)
      have hb16 := ahead16_bound s sq
      have hand := and32 ar
      cases hq1 : checkM (v, k, s, t, r, xs, es, p, pay, ()) with
      | false =>
        go_wp2_with fail
        go_ret
        refine ⟨?_, HL5.out⟩
        rw [← HV.out, HEq2.out, hq1]; simp
      | true =>
        go_wp2_with fail
        refine (HW.out 0 hg ar).mono ?_
        rintro e _ ⟨rfl, rfl⟩
        cases hq2 : withinF 0 hg ar with
        | false =>
          go_wp2_with fail
          go_ret
          refine ⟨?_, HL5.out⟩
          rw [← HV.out, HEq2.out, hq2]; simp
        | true =>
          by_cases hq3 : ar % 4294967296 = t
          · go_wp2_with fail
            refine HA.out.mono ?_
            rintro e _ ⟨rfl, rfl⟩
            have hw1 : IntKind.i64.wrap (q + 1) = q + 1 := wrap_id _ (by omega)
            go_wp2_with fail
            refine (HW.out _ 511 _).mono ?_
            rintro e _ ⟨rfl, rfl⟩
            cases hq4 : withinF (q + 1) 511 (aheadF s sq 65536) with
            | false =>
              go_wp2_with fail
              go_ret
              refine ⟨?_, HL5.out⟩
              rw [← HV.out, HEq2.out]; simp only [seqOf, hq4]; simp
            | true =>
              go_wp2_with fail
              go_roundw
              case rel =>
                refine ⟨kk + 1, aheadF s sq 65536, rfl, by go_num, by omega, hb16, ?_, HL5.out, HM5.out⟩
                rw [HEq2.out, hq1, hq2]; simp only [seqOf, stampOf, hq3, hq4]; simp
              case measure => simp [intOf]; omega
          · have hq3' : (ar % 4294967296 != t) = true := by simp [hq3]
            go_wp2_with fail
            go_ret
            refine ⟨?_, HL5.out⟩
            rw [← HV.out, HEq2.out]; simp only [stampOf, hq3]; simp
    · have hkl : kk = hs.length := by omega
      have m10 := M.out.cell 10 rfl
      have hval : res = decide ((hs.length : Int) ≤ 64) := by
        rw [← HV.out, HEq.out, hkl, List.drop_of_length_le (Nat.le_refl _), heldF_nil, Bool.true_and, decide_eq_decide]; omega
      have HVal := Lib.hid hval
      clear hval
      go_wp2_with fail
      go_ret
      exact ⟨by rw [HVal.out]; rfl, L.out⟩
end Go.Proofs.Ytjmohkgbfigcgaa.Sh
