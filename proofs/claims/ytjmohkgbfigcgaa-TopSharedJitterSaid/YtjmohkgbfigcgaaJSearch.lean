/- slices.BinarySearchFunc by Put's order. -/
import Derived.Test.YtjmohkgbfigcgaaJStart2
namespace Go.Proofs.Ytjmohkgbfigcgaa.Sh
open Go Go.RowKit
set_option linter.unusedVariables false
set_option linter.unusedSimpArgs false

theorem run_callv2 {P : Program} {ρ : Operand → Value} {o : Oper} {f : FuncId} {g x y : Operand} {ats : Array TypeId} {fn : Func} {c : Code} {cap vx vy : Value} (ho : o.op = .call { callee := .value g, args := #[x, y], argTypes := ats }) (hρ : ρ g = .func (.func f) #[] #[cap]) (hx : ρ x = vx) (hy : ρ y = vy)
    (hf : P.funcs[f]? = some fn) (hname : (fn.name == "runtime.NumGoroutine") = false) (hb : fn.body = some c) (w : World) : (execOp ρ o).run P w = .ok (.enter f #[vx, vy, cap]) w := by
  unfold execOp
  simp only [ho, resolve, Deferred.ofValue, hρ, hx, hy, Sem.run_bind, Sem.run_pure, Result.andThen_ok, invoke, List.map_toArray, List.map_cons, List.map_nil, Array.empty_append]
  exact run_callFunc_goes hf hname hb _ _
theorem wpList_wanted {P : Program} {ops : Array Oper} {Q : Exit → Act → World → Prop} {rest : List Oper} {o : Oper} {a : Act} {w : World} (hw : Region.wanted o (yielded ops a.tmps) = true)
    (h : ∀ K : Act → World → Prop, (∀ a w, wpList P ops Q rest a w → K a w) → o.wp P a w K Q) : wpList P ops Q (o :: rest) a w :=
  wpList_step fun K hK => by rw [if_pos hw]; exact h K hK
theorem at_callv2 {P : Program} {ops : Array Oper} {Q : Exit → Act → World → Prop} {rest : List Oper} {o : Oper} {a : Act} {w : World} {g x y : Operand} {ats : Array TypeId} {f : FuncId} {vx vy cap : Value} {fn : Func} {c : Code} (hw : Region.wanted o (yielded ops a.tmps) = true)
    (ho : o.op = .call { callee := .value g, args := #[x, y], argTypes := ats }) (hρ : a.eval g = .func (.func f) #[] #[cap]) (hx : a.eval x = vx) (hy : a.eval y = vy)
    (hf : P.funcs[f]? = some fn) (hname : (fn.name == "runtime.NumGoroutine") = false) (hb : fn.body = some c) (h : Hid (Calls P f #[vx, vy, cap] w fun e w' => ∃ v, e = .returned v ∧ wpList P ops Q rest (a.put o.dst v) w')) : wpList P ops Q (o :: rest) a w := by
  refine wpList_wanted hw fun K hK => ?_
  unfold Oper.wp
  rw [run_callv2 ho hρ hx hy hf hname hb w]
  refine h.out.mono ?_
  rintro e w' ⟨v, rfl, hk⟩
  exact hK _ _ hk

/-- the search by halves -/
def bsF (f : Nat → Int) : Nat → Nat → Nat → Nat
  | 0, lo, _ => lo
  | k + 1, lo, hi => if lo < hi then (if f ((lo + hi) / 2) < 0 then bsF f k ((lo + hi) / 2 + 1) hi else bsF f k lo ((lo + hi) / 2)) else lo
theorem bsF_done (f : Nat → Int) (k lo hi : Nat) (h : ¬ lo < hi) : bsF f k lo hi = lo := by cases k <;> simp [bsF, h]
theorem bsF_le (f : Nat → Int) : ∀ (k lo hi : Nat), lo ≤ hi → bsF f k lo hi ≤ hi
  | 0, lo, hi, h => h
  | k + 1, lo, hi, h => by
    simp only [bsF]
    split
    · split
      · exact bsF_le f k _ _ (by omega)
      · exact Nat.le_trans (bsF_le f k _ _ (by omega)) (by omega)
    · exact h
/-- how far an element lies from a place -/
def farF (hs : List JHeld.Data) (sq t : Int) (i : Nat) : Int := match hs[i]? with | some h => aheadF (seqOf h.1) sq 65536 - t | none => 0

set_option maxRecDepth 100000 in
set_option maxHeartbeats 3200000 in
theorem search_goes (w : World) (S : Nat → Prop) (A : Option Addr) (n c : Nat) (news : List Value) (hs : List JHeld.Data) (t sq : Int) (pb cb : Nat) (hn : n = hs.length) (hbig : n ≤ 1000000) (hrl : RepL w S JHeld news hs) (hA : 0 < n → ∃ b o, A = some ⟨b, o, none⟩ ∧ b < w.heap.size ∧ At w b o news) (hS : ∀ b, S b → b < w.heap.size)
    (ht : -1000000 ≤ t ∧ t ≤ 1000000) (hsq : IntKind.i64.min ≤ sq ∧ sq ≤ IntKind.i64.max)
    (hp : w.cell? ⟨pb, 0, none⟩ = some (.pointer (some ⟨cb, 0, none⟩))) (hc : w.cell? ⟨cb, 4, none⟩ = some (.int .i64 sq)) :
    Calls Try.prog 42 #[.slice A n c, .int .i64 t, .func (.func 41) #[] #[.pointer (some ⟨pb, 0, none⟩)]] w fun e w' =>
      e = .returned (.tuple #[.int .i64 (bsF (farF hs sq t) n 0 n : Nat), .bool (decide (bsF (farF hs sq t) n 0 n < n) && decide (farF hs sq t (bsF (farF hs sq t) n 0 n) = 0))]) ∧ Below w.heap.size w w' := by
  have hpl := World.block_lt_of_cell? w _ hp
  have hcl := World.block_lt_of_cell? w _ hc
  have HCMP := Lib.hid (fun (w' : World) (hb : Below w.heap.size w w') (k : Nat) (hk : k < hs.length) =>
    put1_goes w' S _ hs[k].1 hs[k].2.1 t sq pb cb (show Rep w' S JHeld ((news.drop (k * 10)).take 10) (hs[k].1, hs[k].2.1, ()) from (hrl.2 k hk).below hb) ht hsq ((bcell' hb hpl).trans hp) ((bcell' hb hcl).trans hc))
  have HA := Lib.hid hA
  have HRL := Lib.hid hrl
  have HN := Lib.hid hn
  generalize hres : bsF (farF hs sq t) n 0 n = res
  have hresn : res ≤ n := hres ▸ bsF_le _ _ _ _ (Nat.zero_le _)
  have HRes := Lib.hid hres
  generalize hfnd : (decide (res < n) && decide (farF hs sq t res = 0)) = fnd
  have HF := Lib.hid hfnd
  clear hp hc hrl hA hn hres hfnd
  go_enter Try.func42, Try.ntmps42
  go_wp2_with fail
  go_loopw [9, 10] (fun l h wr => ∃ (lo hi fuel : Nat), l = .int .i64 lo ∧ h = .int .i64 hi ∧ lo ≤ hi ∧ hi ≤ n ∧ hi - lo ≤ fuel ∧ bsF (farF hs sq t) fuel lo hi = res ∧ Below w.heap.size w wr) (fun l h _ => (intOf h).toNat - (intOf l).toNat)
  case atStart => exact ⟨0, n, n, rfl, rfl, Nat.zero_le _, Nat.le_refl _, Nat.le_refl _, HRes.out, Below.refl _ w⟩
  case round =>
    obtain ⟨lo, hi, fuel, rfl, rfl, hlh, hhn, hfu, heq, hb⟩ := hrel
    have HB := Lib.hid hb
    have HEq := Lib.hid heq
    clear hb heq
    by_cases hlt : lo < hi
    · obtain ⟨b, o, rfl, hbl, hat⟩ := HA.out (by omega)
      obtain ⟨m, hm⟩ : ∃ m, m = (lo + hi) / 2 := ⟨_, rfl⟩
      have hmid : ((lo : Int) + (hi : Int)) / 2 = (m : Int) := by omega
      have hmlt : m < hi := by omega
      have hmlo : lo ≤ m := by omega
      have hml : m < hs.length := by have := HN.out; omega
      have hme : farF hs sq t m = aheadF (seqOf hs[m].1) sq 65536 - t := by simp [farF, List.getElem?_eq_getElem hml]
      have hseg := (hat.seg (m * 10) 10).frame (HB.out.block b hbl)
      have hlen : ((news.drop (m * 10)).take 10).length = 10 := Rep.length _ _ _ (HRL.out.2 m hml)
      have HSeg := Lib.hid hseg
      have HLen := Lib.hid hlen
      have HM := Lib.hid hm
      have HE := Lib.hid hme
      have hah := ahead16_bound (seqOf hs[m].1) sq
      clear hseg hlen hat hm hme
      have HX := Lib.hid (HCMP.out wr HB.out m hml)
      generalize hq : aheadF (seqOf hs[m].1) sq 65536 - t = q at HX HE
      clear hq
      go_wp2_with (first
        | refine wpList_load_mid rfl 83 _ rfl b (o + m * 10) rfl ((news.drop (m * 10)).take 10) _ (fun j v hv => (HSeg.out j v hv).1) Try.underlying83 rfl (by rw [HLen.out]; kernel_rfl) ?_
        | refine at_callv2 (f := 41) (cap := .pointer (some ⟨pb, 0, none⟩)) rfl rfl rfl rfl rfl rfl rfl rfl ?_)
      refine Lib.hid ?_
      refine HX.out.mono ?_
      rintro e w2 ⟨rfl, hb2⟩
      refine ⟨_, rfl, ?_⟩
      have HB2 := Lib.hid (HB.out.trans (hb2.mono HB.out.size))
      have heq2 := HEq.out
      clear hb2 HX
      obtain ⟨fuel', rfl⟩ : ∃ f', fuel = f' + 1 := ⟨fuel - 1, by omega⟩
      simp only [bsF, hlt, if_true, ← HM.out, HE.out] at heq2
      have HEq2 := Lib.hid heq2
      clear heq2
      by_cases hq0 : q < 0
      · go_wp2_with fail
        go_roundw
        case rel => exact ⟨m + 1, hi, fuel', by go_num, rfl, by omega, hhn, by omega, by have := HEq2.out; rwa [if_pos hq0] at this, HB2.out⟩
        case measure => simp [intOf]; omega
      · go_wp2_with fail
        go_roundw
        case rel => exact ⟨lo, m, fuel', rfl, rfl, hmlo, by omega, by omega, by have := HEq2.out; rwa [if_neg hq0] at this, HB2.out⟩
        case measure => simp [intOf]; omega
    · have hl : lo = res := by have := HEq.out; rwa [bsF_done _ _ _ _ hlt] at this
      subst hl
      by_cases hln : lo < n
      · obtain ⟨b, o, rfl, hbl, hat⟩ := HA.out (by omega)
        have hml : lo < hs.length := by have := HN.out; omega
        have hme : farF hs sq t lo = aheadF (seqOf hs[lo].1) sq 65536 - t := by simp [farF, List.getElem?_eq_getElem hml]
        have hseg := (hat.seg (lo * 10) 10).frame (HB.out.block b hbl)
        have hlen : ((news.drop (lo * 10)).take 10).length = 10 := Rep.length _ _ _ (HRL.out.2 lo hml)
        have HSeg := Lib.hid hseg
        have HLen := Lib.hid hlen
        have HE := Lib.hid hme
        clear hseg hlen hat hme
        have HX := Lib.hid (HCMP.out wr HB.out lo hml)
        generalize hq : aheadF (seqOf hs[lo].1) sq 65536 - t = q at HX HE
        clear hq
        go_wp2_with (first
          | refine wpList_wanted rfl fun K hK => wp_load_mid 83 _ rfl b (o + lo * 10) rfl ((news.drop (lo * 10)).take 10) _ (fun j v hv => (HSeg.out j v hv).1) Try.underlying83 rfl (by rw [HLen.out]; kernel_rfl) (hK _ _ ?_)
          | refine at_callv2 (f := 41) (cap := .pointer (some ⟨pb, 0, none⟩)) rfl rfl rfl rfl rfl rfl rfl rfl ?_)
        refine Lib.hid ?_
        refine HX.out.mono ?_
        rintro e w2 ⟨rfl, hb2⟩
        refine ⟨_, rfl, ?_⟩
        have HB2 := Lib.hid (HB.out.trans (hb2.mono HB.out.size))
        have hF := HF.out
        rw [decide_eq_true hln, Bool.true_and, HE.out] at hF
        have hF2 : (q == 0) = fnd := hF
        clear hb2 HX hF
        go_wp2_with fail
        go_ret2
        refine ⟨?_, HB2.out⟩
        first | rfl | (rw [← hF2]; rfl)
      · go_wp2_with fail
        go_ret2
        have hF := HF.out
        rw [decide_eq_false hln, Bool.false_and] at hF
        exact ⟨by rw [← hF]; rfl, HB.out⟩
end Go.Proofs.Ytjmohkgbfigcgaa.Sh
