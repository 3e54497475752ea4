/- package jitter, the numbers: within, ahead, floor, up. -/
import Derived.Test.YtjmohkgbfigcgaaProg
import Derived.WalkKit
import Derived.Deep.QuietTactic
import Derived.BigQuiet
import Derived.Lib.Hide
import Derived.KernelRfl
import Derived.Test.YtjmohkgbfigcgaaBox
import Derived.LoopTactic
namespace Go.Proofs.Ytjmohkgbfigcgaa.Sh
open Go Go.RowKit
set_option linter.unusedVariables false
set_option linter.unusedSimpArgs false

def withinF (lo hi n : Int) : Bool := decide (lo ≤ n) && decide (n ≤ hi)
theorem within_goes (w : World) (lo hi n : Int) : Calls Try.prog 32 #[.int .i64 lo, .int .i64 hi, .int .i64 n] w fun e w' => e = .returned (.bool (withinF lo hi n)) ∧ w' = w := by
  by_cases h1 : lo ≤ n
  · by_cases h2 : n ≤ hi
    · have h : withinF lo hi n = true := by simp [withinF, h1, h2]
      rw [h]; clear h
      go_enter Try.func32, Try.ntmps32
      go_wp2_with fail
      go_ret
      first | exact ⟨rfl, rfl⟩ | simp [h1, h2]
    · have h : withinF lo hi n = false := by simp [withinF, h1, h2]
      rw [h]; clear h
      go_enter Try.func32, Try.ntmps32
      go_wp2_with fail
      go_ret
      first | exact ⟨rfl, rfl⟩ | simp [h1, h2]
  · have h : withinF lo hi n = false := by simp [withinF, h1]
    rw [h]; clear h
    go_enter Try.func32, Try.ntmps32
    go_wp2_with fail
    go_ret
    first | exact ⟨rfl, rfl⟩ | simp [h1]

/-! ### Bits -/
theorem wrap_small (n : Nat) (h : n < 9223372036854775808) : IntKind.i64.wrap (n : Int) = n := by
  have e1 : (2 : Int) ^ IntKind.i64.bits = 18446744073709551616 := by decide
  have e2 : (2 : Int) ^ (IntKind.i64.bits - 1) = 9223372036854775808 := by decide
  simp only [IntKind.wrap, e1, e2]
  have h1 : (n : Int) % 18446744073709551616 = n := by omega
  rw [h1, if_neg]
  simp only [Bool.and_eq_true, decide_eq_true_eq, not_and]
  intro _
  omega
theorem and_low (x : Int) (n : Nat) (hn : n ≤ 62) (m : Nat) (hm : m = 2 ^ n) : bits .and .i64 x ((m : Int) - 1) = ((x % 18446744073709551616).toNat % m : Nat) := by
  subst hm
  have hlt : 2 ^ n < 9223372036854775808 := by
    have : 2 ^ n ≤ 2 ^ 62 := Nat.pow_le_pow_right (by omega) hn
    have e : (2 : Nat) ^ 62 = 4611686018427387904 := by decide
    omega
  have hpos : 0 < 2 ^ n := Nat.pow_pos (by omega)
  have h2 : (BitVec.ofInt 64 ((2 ^ n : Nat) - 1 : Int)).toNat = 2 ^ n - 1 := by
    rw [BitVec.toNat_ofInt]
    have e : ((2 ^ n : Nat) - 1 : Int) = ((2 ^ n - 1 : Nat) : Int) := by omega
    rw [e]
    have e3 : ((2 : Nat) ^ 64 : Nat) = 18446744073709551616 := by decide
    rw [e3]
    omega
  have h1 : (BitVec.ofInt 64 x).toNat = (x % 18446744073709551616).toNat := by
    rw [BitVec.toNat_ofInt]
    rfl
  show IntKind.i64.wrap ((BitVec.ofInt 64 x &&& BitVec.ofInt 64 ((2 ^ n : Nat) - 1 : Int)).toNat : Int) = _
  rw [BitVec.toNat_and, h1, h2, Nat.and_two_pow_sub_one_eq_mod]
  exact wrap_small _ (Nat.lt_trans (Nat.mod_lt _ hpos) hlt)
theorem and16 (x : Int) : bits .and .i64 x 65535 = x % 65536 := by
  have h := and_low x 16 (by decide) 65536 (by decide)
  have e : ((65536 : Nat) : Int) - 1 = 65535 := by decide
  rw [e] at h
  rw [h]
  omega
theorem and32 (x : Int) : bits .and .i64 x 4294967295 = x % 4294967296 := by
  have h := and_low x 32 (by decide) 4294967296 (by decide)
  have e : ((4294967296 : Nat) : Int) - 1 = 4294967295 := by decide
  rw [e] at h
  rw [h]
  omega
theorem wrap_mod16 (x : Int) : wrap64 x % 65536 = x % 65536 := by unfold wrap64; omega
theorem wrap_mod32 (x : Int) : wrap64 x % 4294967296 = x % 4294967296 := by unfold wrap64; omega

theorem tdiv_tmod (a b : Int) : b * a.tdiv b + a.tmod b = a := Int.mul_tdiv_add_tmod a b
theorem floor_pos (a b : Int) (hb : 0 < b) (h : 0 ≤ a.tmod b) : a / b = a.tdiv b := by
  have h1 := tdiv_tmod a b
  have h2 := Int.tmod_lt_of_pos a hb
  rw [Int.ediv_eq_iff_of_pos hb]
  rw [Int.mul_comm] at h1
  constructor
  · omega
  · omega
theorem floor_neg (a b : Int) (hb : 0 < b) (h : a.tmod b < 0) : a / b = a.tdiv b - 1 := by
  have h1 := tdiv_tmod a b
  have h2 : -b < a.tmod b := by
    have := Int.tmod_lt_of_pos (-a) hb
    rw [Int.neg_tmod] at this
    omega
  rw [Int.ediv_eq_iff_of_pos hb]
  rw [Int.mul_comm] at h1
  rw [Int.sub_mul]
  constructor
  · omega
  · omega
/-- the floor of a quotient -/
theorem floor_goes (w : World) (a b : Int) (ha : -9223372036854775807 ≤ a ∧ a ≤ 9223372036854775807) (hb : 0 < b ∧ b ≤ 9223372036854775807) :
    Calls Try.prog 79 #[.int .i64 a, .int .i64 b] w fun e w' => e = .returned (.int .i64 (a / b)) ∧ w' = w := by
  have hq : -9223372036854775807 ≤ a.tdiv b ∧ a.tdiv b ≤ 9223372036854775807 := by
    have h1 : (a.tdiv b).natAbs = a.natAbs / b.natAbs := Int.natAbs_tdiv a b
    have h2 := Nat.div_le_self a.natAbs b.natAbs
    rw [← h1] at h2
    omega
  go_enter Try.func79, Try.ntmps79
  go_wp2_with fail
  · rename_i h
    go_ret
    rw [floor_neg a b hb.1 h]
    exact ⟨rfl, rfl⟩
  · rename_i h
    go_ret
    rw [floor_pos a b hb.1 h]
    exact ⟨rfl, rfl⟩

def aheadF (a b m : Int) : Int :=
  if a < 0 ∨ m ≤ a ∨ b < 0 ∨ m ≤ b then 0 else if m ≤ 2 * ((a - b) % m) then (a - b) % m - m else (a - b) % m
theorem Ahead16_goes (w : World) (a b : Int) (ha : IntKind.i64.min ≤ a ∧ a ≤ IntKind.i64.max) (hb : IntKind.i64.min ≤ b ∧ b ≤ IntKind.i64.max) :
    Calls Try.prog 65 #[.int .i64 a, .int .i64 b, .int .i64 16] w fun e w' => (∃ r, e = .returned (.tuple #[.int .i64 (aheadF a b 65536), r])) ∧ w' = w := by
  go_enter Try.func65, Try.ntmps65
  by_cases h1 : a < 0
  · have h : aheadF a b 65536 = 0 := by simp [aheadF, h1]
    rw [h]; clear h
    go_wp2_with fail
    go_ret2
    exact ⟨⟨_, rfl⟩, rfl⟩
  · by_cases h2 : a / 65536 = 0
    · by_cases h3 : b < 0
      · have h : aheadF a b 65536 = 0 := by simp [aheadF, h3]
        rw [h]; clear h
        go_wp2_with fail
        go_ret2
        exact ⟨⟨_, rfl⟩, rfl⟩
      · by_cases h4 : b / 65536 = 0
        · have h5 : ¬ (a < 0 ∨ 65536 ≤ a ∨ b < 0 ∨ 65536 ≤ b) := by omega
          by_cases h6 : 65536 ≤ 2 * ((a - b) % 65536)
          · have h : aheadF a b 65536 = (a - b) % 65536 - 65536 := by rw [aheadF, if_neg h5, if_pos h6]
            rw [h]; clear h
            have hw : wrap64 ((a - b) % 65536 - 65536) = (a - b) % 65536 - 65536 := by unfold wrap64; omega
            have HWR := Lib.hid hw
            clear hw
            have hq : (bits BinOp.and IntKind.i64 (a - b) 65535 / 32768 == 1) = true := by rw [and16]; simp; omega
            have HA := Lib.hid (and16 (a - b))
            go_wp2_with fail
            go_ret2
            rw [HA.out, HWR.out]
            exact ⟨⟨_, rfl⟩, rfl⟩
          · have h : aheadF a b 65536 = (a - b) % 65536 := by rw [aheadF, if_neg h5, if_neg h6]
            rw [h]; clear h
            have hq : (bits BinOp.and IntKind.i64 (a - b) 65535 / 32768 == 1) = false := by rw [and16]; simp; omega
            have HA := Lib.hid (and16 (a - b))
            go_wp2_with fail
            go_ret2
            rw [HA.out]
            exact ⟨⟨_, rfl⟩, rfl⟩
        · have h : aheadF a b 65536 = 0 := by simp [aheadF]; omega
          rw [h]; clear h
          go_wp2_with fail
          go_ret2
          exact ⟨⟨_, rfl⟩, rfl⟩
    · have h : aheadF a b 65536 = 0 := by simp [aheadF]; omega
      rw [h]; clear h
      go_wp2_with fail
      go_ret2
      exact ⟨⟨_, rfl⟩, rfl⟩
theorem Ahead32_goes (w : World) (a b : Int) (ha : IntKind.i64.min ≤ a ∧ a ≤ IntKind.i64.max) (hb : IntKind.i64.min ≤ b ∧ b ≤ IntKind.i64.max) :
    Calls Try.prog 65 #[.int .i64 a, .int .i64 b, .int .i64 32] w fun e w' => (∃ r, e = .returned (.tuple #[.int .i64 (aheadF a b 4294967296), r])) ∧ w' = w := by
  go_enter Try.func65, Try.ntmps65
  by_cases h1 : a < 0
  · have h : aheadF a b 4294967296 = 0 := by simp [aheadF, h1]
    rw [h]; clear h
    go_wp2_with fail
    go_ret2
    exact ⟨⟨_, rfl⟩, rfl⟩
  · by_cases h2 : a / 4294967296 = 0
    · by_cases h3 : b < 0
      · have h : aheadF a b 4294967296 = 0 := by simp [aheadF, h3]
        rw [h]; clear h
        go_wp2_with fail
        go_ret2
        exact ⟨⟨_, rfl⟩, rfl⟩
      · by_cases h4 : b / 4294967296 = 0
        · have h5 : ¬ (a < 0 ∨ 4294967296 ≤ a ∨ b < 0 ∨ 4294967296 ≤ b) := by omega
          by_cases h6 : 4294967296 ≤ 2 * ((a - b) % 4294967296)
          · have h : aheadF a b 4294967296 = (a - b) % 4294967296 - 4294967296 := by rw [aheadF, if_neg h5, if_pos h6]
            rw [h]; clear h
            have hw : wrap64 ((a - b) % 4294967296 - 4294967296) = (a - b) % 4294967296 - 4294967296 := by unfold wrap64; omega
            have HWR := Lib.hid hw
            clear hw
            have hq : (bits BinOp.and IntKind.i64 (a - b) 4294967295 / 2147483648 == 1) = true := by rw [and32]; simp; omega
            have HA := Lib.hid (and32 (a - b))
            go_wp2_with fail
            go_ret2
            rw [HA.out, HWR.out]
            exact ⟨⟨_, rfl⟩, rfl⟩
          · have h : aheadF a b 4294967296 = (a - b) % 4294967296 := by rw [aheadF, if_neg h5, if_neg h6]
            rw [h]; clear h
            have hq : (bits BinOp.and IntKind.i64 (a - b) 4294967295 / 2147483648 == 1) = false := by rw [and32]; simp; omega
            have HA := Lib.hid (and32 (a - b))
            go_wp2_with fail
            go_ret2
            rw [HA.out]
            exact ⟨⟨_, rfl⟩, rfl⟩
        · have h : aheadF a b 4294967296 = 0 := by simp [aheadF]; omega
          rw [h]; clear h
          go_wp2_with fail
          go_ret2
          exact ⟨⟨_, rfl⟩, rfl⟩
    · have h : aheadF a b 4294967296 = 0 := by simp [aheadF]; omega
      rw [h]; clear h
      go_wp2_with fail
      go_ret2
      exact ⟨⟨_, rfl⟩, rfl⟩
/-- ahead: the first of the two -/
theorem ahead16_goes (w : World) (a b : Int) (ha : IntKind.i64.min ≤ a ∧ a ≤ IntKind.i64.max) (hb : IntKind.i64.min ≤ b ∧ b ≤ IntKind.i64.max) :
    Calls Try.prog 40 #[.int .i64 a, .int .i64 b, .int .i64 16] w fun e w' => e = .returned (.int .i64 (aheadF a b 65536)) ∧ w' = w := by
  have H := Lib.hid (Ahead16_goes w a b ha hb)
  go_enter Try.func40, Try.ntmps40
  go_wp2_with fail
  refine H.out.mono ?_
  rintro e w' ⟨⟨r, rfl⟩, rfl⟩
  clear H
  go_wp2_with fail
  go_ret
  exact ⟨rfl, rfl⟩
theorem ahead32_goes (w : World) (a b : Int) (ha : IntKind.i64.min ≤ a ∧ a ≤ IntKind.i64.max) (hb : IntKind.i64.min ≤ b ∧ b ≤ IntKind.i64.max) :
    Calls Try.prog 40 #[.int .i64 a, .int .i64 b, .int .i64 32] w fun e w' => e = .returned (.int .i64 (aheadF a b 4294967296)) ∧ w' = w := by
  have H := Lib.hid (Ahead32_goes w a b ha hb)
  go_enter Try.func40, Try.ntmps40
  go_wp2_with fail
  refine H.out.mono ?_
  rintro e w' ⟨⟨r, rfl⟩, rfl⟩
  clear H
  go_wp2_with fail
  go_ret
  exact ⟨rfl, rfl⟩

def upF (a b : Int) : Int := -((-a) / b)
theorem ediv_bound (a b : Int) (hb : 0 < b) (h : -4611686018427387904 ≤ a ∧ a ≤ 4611686018427387904) : -4611686018427387904 ≤ a / b ∧ a / b ≤ 4611686018427387904 := by
  constructor
  · rw [Int.le_ediv_iff_mul_le hb]
    have : -4611686018427387904 * b ≤ -4611686018427387904 * 1 := Int.mul_le_mul_of_nonpos_left (by omega) (by omega)
    omega
  · have h1 : a / b ≤ 4611686018427387904 / b := Int.ediv_le_ediv hb h.2
    have h2 : (4611686018427387904 : Int) / b ≤ 4611686018427387904 := Int.ediv_le_self _ (by omega)
    omega
theorem up_goes (w : World) (a b : Int) (ha : -4611686018427387904 ≤ a ∧ a ≤ 4611686018427387904) (hb : 0 < b ∧ b ≤ 9223372036854775807) :
    Calls Try.prog 68 #[.int .i64 a, .int .i64 b] w fun e w' => e = .returned (.int .i64 (upF a b)) ∧ w' = w := by
  have H := Lib.hid (floor_goes w (-a) b (by omega) hb)
  have hB := ediv_bound (-a) b hb.1 (by omega)
  go_enter Try.func68, Try.ntmps68
  go_wp2_with fail
  refine H.out.mono ?_
  rintro e w' ⟨rfl, rfl⟩
  clear H
  go_wp2_with fail
  go_ret
  exact ⟨rfl, rfl⟩

theorem run_callv1 {P : Program} {ρ : Operand → Value} {o : Oper} {f : FuncId} {g x : Operand} {ats : Array TypeId} {fn : Func} {c : Code} {cap y : Value} (ho : o.op = .call { callee := .value g, args := #[x], argTypes := ats }) (hρ : ρ g = .func (.func f) #[] #[cap]) (hx : ρ x = y)
    (hf : P.funcs[f]? = some fn) (hname : (fn.name == "runtime.NumGoroutine") = false) (hb : fn.body = some c) (w : World) : (execOp ρ o).run P w = .ok (.enter f #[y, cap]) w := by
  unfold execOp
  simp only [ho, resolve, Deferred.ofValue, hρ, hx, Sem.run_bind, Sem.run_pure, Result.andThen_ok, invoke, List.map_toArray, List.map_cons, List.map_nil, Array.empty_append]
  exact run_callFunc_goes hf hname hb _ _
theorem at_callv1 {P : Program} {ops : Array Oper} {Q : Exit → Act → World → Prop} {rest : List Oper} {o : Oper} {a : Act} {w : World} {g x : Operand} {ats : Array TypeId} {f : FuncId} {y cap : Value} {fn : Func} {c : Code} (hg : o.guard = none)
    (ho : o.op = .call { callee := .value g, args := #[x], argTypes := ats }) (hρ : a.eval g = .func (.func f) #[] #[cap]) (hx : a.eval x = y)
    (hf : P.funcs[f]? = some fn) (hname : (fn.name == "runtime.NumGoroutine") = false) (hb : fn.body = some c) (h : Hid (Calls P f #[y, cap] w fun e w' => ∃ v, e = .returned v ∧ wpList P ops Q rest (a.put o.dst v) w')) : wpList P ops Q (o :: rest) a w :=
  wpList_enter (R := fun v w' => wpList P ops Q rest (a.put o.dst v) w') hg (run_callv1 ho hρ hx hf hname hb w) h.out fun v w' h => h

/-! ### fits: no element is below nought or too wide -/
def unfit (b n : Int) : Bool := decide (n < 0) || n / 2 ^ b.toNat != 0
theorem fits1_goes (n b : Int) (bb : Nat) (w : World) (hb : w.cell? ⟨bb, 0, none⟩ = some (.int .i64 b)) (h0 : 0 ≤ b) (h1 : b ≤ 62) :
    Calls Try.prog 77 #[.int .i64 n, .pointer (some ⟨bb, 0, none⟩)] w fun e w' => e = .returned (.bool (unfit b n)) ∧ w' = w := by
  by_cases hn : n < 0
  · have e : unfit b n = true := by simp [hn, unfit]
    rw [e]; clear e
    go_enter Try.func77, Try.ntmps77
    go_wp2_with fail
    go_ret
    simp [hn]
  · have e : unfit b n = (n / 2 ^ b.toNat != 0) := by simp [hn, unfit]
    rw [e]; clear e
    go_enter Try.func77, Try.ntmps77
    go_wp2_with fail
    go_ret
    exact ⟨rfl, rfl⟩
/-- the index of the first element for which p holds, from i on; -1 -/
def idxF {α : Type} (p : α → Bool) : List α → Int → Int
  | [], _ => -1
  | x :: l, i => if p x then i else idxF p l (i + 1)
theorem idxF_any {α : Type} (p : α → Bool) : ∀ (l : List α) (i : Int), 0 ≤ i → decide (0 ≤ idxF p l i) = l.any p
  | [], i, h => by simp [idxF]
  | x :: l, i, h => by
    simp only [idxF, List.any_cons]
    by_cases hp : p x = true
    · simp [hp, h]
    · have h2 : p x = false := by simpa using hp
      simp only [h2, Bool.false_eq_true, if_false, Bool.false_or]
      exact idxF_any p l (i + 1) (by omega)
/-- the cells of a list of numbers -/
def IntsAt (w : World) (a : Option Addr) (xs : List Int) : Prop := ∀ i (h : i < xs.length), ∃ b o, a = some ⟨b, o, none⟩ ∧ b < w.heap.size ∧ w.cell? ⟨b, o + i, none⟩ = some (.int .i64 xs[i])
theorem index_goes (a : Option Addr) (n c : Nat) (xs : List Int) (g : FuncId) (cap : Value) (p : Int → Bool) (w : World)
    (hl : xs.length = n) (hn : n ≤ 9223372036854775807) (hx : IntsAt w a xs)
    (hg : ∃ fn c, Try.prog.funcs[g]? = some fn ∧ (fn.name == "runtime.NumGoroutine") = false ∧ fn.body = some c)
    (hp : ∀ x, Calls Try.prog g #[.int .i64 x, cap] w fun e w' => e = .returned (.bool (p x)) ∧ w' = w) :
    Calls Try.prog 80 #[.slice a n c, .func (.func g) #[] #[cap]] w fun e w' => e = .returned (.int .i64 (idxF p xs 0)) ∧ w' = w := by
  obtain ⟨fn, cc, hf, hname, hbody⟩ := hg
  have HF := Lib.hid hf
  have HN := Lib.hid hname
  have HB := Lib.hid hbody
  have HX := Lib.hid hx
  have HP := Lib.hid hp
  clear hf hname hbody hx hp
  go_enter Try.func80, Try.ntmps80
  go_wp2_with fail
  go_loop [4, 5, 8] (fun _ _ i => ∃ k : Nat, k ≤ n ∧ i = .int .i64 k ∧ idxF p xs 0 = idxF p (xs.drop k) k) (fun _ _ i => n - (intOf i).toNat)
  case atStart => exact ⟨0, Nat.zero_le _, rfl, by simp⟩
  case round =>
    obtain ⟨k, hk, rfl, he⟩ := hrel
    by_cases hlt : k < n
    · obtain ⟨b, o, rfl, hbl, hc⟩ := HX.out k (by omega)
      have hd : xs.drop k = xs[k]'(by omega) :: xs.drop (k + 1) := by rw [List.drop_eq_getElem_cons]
      rw [hd] at he
      simp only [idxF] at he
      have He := Lib.hid he
      clear he hd
      cases hb : p (xs[k]'(by omega)) with
      | true =>
        have HPB := Lib.hid hb
        clear hb
        go_wp2_with (refine at_callv1 (f := g) (cap := cap) (y := .int .i64 (xs[k]'(by omega))) rfl rfl rfl rfl HF.out HN.out HB.out ?_)
        refine Lib.hid ?_
        refine (HP.out _).mono ?_
        rintro e w' ⟨rfl, rfl⟩
        refine ⟨_, rfl, ?_⟩
        rw [HPB.out]
        go_wp2_with fail
        go_ret
        rw [He.out, HPB.out]
        exact ⟨rfl, rfl⟩
      | false =>
        have HPB := Lib.hid hb
        clear hb
        go_wp2_with (refine at_callv1 (f := g) (cap := cap) (y := .int .i64 (xs[k]'(by omega))) rfl rfl rfl rfl HF.out HN.out HB.out ?_)
        refine Lib.hid ?_
        refine (HP.out _).mono ?_
        rintro e w' ⟨rfl, rfl⟩
        refine ⟨_, rfl, ?_⟩
        rw [HPB.out]
        go_wp2_with fail
        go_round
        case rel => exact ⟨k + 1, by omega, by go_num, by rw [He.out, HPB.out]; simp⟩
        case measure => simp [intOf]; omega
    · go_wp2_with fail
      go_ret
      obtain rfl : k = n := by omega
      rw [List.drop_of_length_le (by omega)]
      exact ⟨rfl, rfl⟩
theorem contains_goes (a : Option Addr) (n c : Nat) (xs : List Int) (g : FuncId) (cap : Value) (p : Int → Bool) (w : World)
    (hl : xs.length = n) (hn : n ≤ 9223372036854775807) (hx : IntsAt w a xs)
    (hg : ∃ fn c, Try.prog.funcs[g]? = some fn ∧ (fn.name == "runtime.NumGoroutine") = false ∧ fn.body = some c)
    (hp : ∀ x, Calls Try.prog g #[.int .i64 x, cap] w fun e w' => e = .returned (.bool (p x)) ∧ w' = w) :
    Calls Try.prog 76 #[.slice a n c, .func (.func g) #[] #[cap]] w fun e w' => e = .returned (.bool (xs.any p)) ∧ w' = w := by
  have H := Lib.hid (index_goes a n c xs g cap p w hl hn hx hg hp)
  have HE := Lib.hid (idxF_any p xs 0 (Int.le_refl 0))
  clear hx hg hp
  go_enter Try.func76, Try.ntmps76
  go_wp2_with fail
  refine H.out.mono ?_
  rintro e w' ⟨rfl, rfl⟩
  clear H
  go_wp2_with fail
  go_ret
  rw [HE.out]
  exact ⟨rfl, rfl⟩
theorem fits_goes (a : Option Addr) (n c : Nat) (xs : List Int) (b : Int) (w : World) (h0 : 0 ≤ b) (h1 : b ≤ 62) (hl : xs.length = n) (hn : n ≤ 9223372036854775807) (hx : IntsAt w a xs) :
    Calls Try.prog 62 #[.int .i64 b, .slice a n c] w fun e w' => e = .returned (.bool (!xs.any (unfit b))) ∧ Below w.heap.size w w' := by
  have hb : Below w.heap.size w (w.alloc (.cells #[.int .i64 b] 3)) := (Below.refl _ w).alloc (Nat.le_refl _) _
  have hx' : IntsAt (w.alloc (.cells #[.int .i64 b] 3)) a xs := fun i hi => by
    obtain ⟨k, o, rfl, hk, hc⟩ := hx i hi
    exact ⟨k, o, rfl, by have := hb.size; omega, (World.cell?_of_block (a := ⟨k, o + i, none⟩) (hb.block k hk)).trans hc⟩
  have H := Lib.hid (contains_goes a n c xs 77 (.pointer (some ⟨w.heap.size, 0, none⟩)) (unfit b) _ hl hn hx' ⟨_, _, rfl, rfl, rfl⟩ (fun x => fits1_goes x b w.heap.size _ (by go_simp) h0 h1))
  have HB := Lib.hid hb
  clear hx hx' hb
  go_enter Try.func62, Try.ntmps62
  go_wp2_with fail
  refine H.out.mono ?_
  rintro e w' ⟨rfl, rfl⟩
  clear H
  go_wp2_with fail
  go_ret
  exact ⟨rfl, HB.out⟩
end Go.Proofs.Ytjmohkgbfigcgaa.Sh
