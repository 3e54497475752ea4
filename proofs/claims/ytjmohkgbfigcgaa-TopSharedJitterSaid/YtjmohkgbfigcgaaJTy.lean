/- package jitter: its data, and pure words for what it does. No function is walked here. -/
import Derived.Test.YtjmohkgbfigcgaaJNum
import Derived.Test.YtjmohkgbfigcgaaApart
namespace Go.Proofs.Ytjmohkgbfigcgaa.Sh
open Go Go.RowKit
set_option linter.unusedVariables false

@[reducible] def JExt : Ty := .cons (.int .i64) (.cons .str .nil)
@[reducible] def JMed : Ty := .cons .bool (.cons (.int .i64) (.cons (.int .i64) (.cons (.int .i64) (.cons (.int .i64) (.cons (.sl (.int .i64) 8) (.cons (.sl JExt 24) (.cons (.int .i64) (.cons .str .nil))))))))
@[reducible] def JHeld : Ty := .cons JMed (.cons (.int .i64) .nil)
@[reducible] def JBuf : Ty := .cons (.int .i64) (.cons (.int .i64) (.cons .bool (.cons .bool (.cons (.int .i64) (.cons (.int .i64) (.cons (.int .i64) (.cons (.int .i64) (.cons (.int .i64) (.cons (.int .i64) (.cons (.sl JHeld 120) .nil))))))))))

def fitF (b : Int) (l : List Int) : Bool := !l.any (unfit b)
/-- an extension's number is above the one ahead of it -/
def extsOk : Option Int → List JExt.Data → Bool
  | _, [] => true
  | prev, (id, s, _) :: es => fitF 8 [id, s.size] && decide (0 < id) && (match prev with | none => true | some q => decide (q < id)) && extsOk (some id) es
def checkM : JMed.Data → Bool
  | (v, k, s, t, r, xs, es, p, pay, _) => fitF 7 [k] && fitF 16 [s] && fitF 32 [t, r] && fitF 32 xs && fitF 8 [p] && decide (xs.length ≤ 15) && decide (es.length ≤ 16) && extsOk none es
def seqOf (d : JMed.Data) : Int := d.2.2.1
def stampOf (d : JMed.Data) : Int := d.2.2.2.1

theorem Bk.cell {w : World} {n : Nat} {T : TypeId} {cs : List Value} (h : Bk w n T cs) (j : Nat) {v : Value} (hj : cs[j]? = some v) : w.cell? ⟨n, j, none⟩ = some v := by
  have := (h.at_ j v hj).1
  rwa [Nat.zero_add] at this

theorem rep_med {w : World} {S : Nat → Prop} {cs : List Value} {v : Bool} {k s t r p : Int} {xs : List Int} {es : List JExt.Data} {pay : ByteArray} {u : Unit} (h : Rep w S JMed cs (v, k, s, t, r, xs, es, p, pay, u)) :
    ∃ A c A' c', cs = [.bool v, .int .i64 k, .int .i64 s, .int .i64 t, .int .i64 r, .slice A xs.length c, .slice A' es.length c', .int .i64 p, .string pay] ∧ Rep w S (.sl (.int .i64) 8) [.slice A xs.length c] xs ∧ Rep w S (.sl JExt 24) [.slice A' es.length c'] es ∧
      (IntKind.i64.min ≤ k ∧ k ≤ IntKind.i64.max) ∧ (IntKind.i64.min ≤ s ∧ s ≤ IntKind.i64.max) ∧ (IntKind.i64.min ≤ t ∧ t ≤ IntKind.i64.max) ∧ (IntKind.i64.min ≤ r ∧ r ≤ IntKind.i64.max) ∧ (IntKind.i64.min ≤ p ∧ p ≤ IntKind.i64.max) ∧ pay.size ≤ big := by
  obtain ⟨_, _, rfl, rfl, _, _, rfl, ⟨rfl, h1, h1'⟩, _, _, rfl, ⟨rfl, h2, h2'⟩, _, _, rfl, ⟨rfl, h3, h3'⟩, _, _, rfl, ⟨rfl, h4, h4'⟩, _, _, rfl, h5, _, _, rfl, h6, _, _, rfl, ⟨rfl, h7, h7'⟩, _, _, rfl, ⟨rfl, h8⟩, rfl⟩ := h
  obtain ⟨A, c, rfl⟩ := h5.slice
  obtain ⟨A', c', rfl⟩ := h6.slice
  exact ⟨A, c, A', c', rfl, h5, h6, ⟨h1, h1'⟩, ⟨h2, h2'⟩, ⟨h3, h3'⟩, ⟨h4, h4'⟩, ⟨h7, h7'⟩, h8⟩
theorem med_rep {w : World} {S : Nat → Prop} {v : Bool} {k s t r p : Int} {xs : List Int} {es : List JExt.Data} {pay : ByteArray} {A A' : Option Addr} {c c' : Nat} (h5 : Rep w S (.sl (.int .i64) 8) [.slice A xs.length c] xs) (h6 : Rep w S (.sl JExt 24) [.slice A' es.length c'] es)
    (h1 : IntKind.i64.min ≤ k ∧ k ≤ IntKind.i64.max) (h2 : IntKind.i64.min ≤ s ∧ s ≤ IntKind.i64.max) (h3 : IntKind.i64.min ≤ t ∧ t ≤ IntKind.i64.max) (h4 : IntKind.i64.min ≤ r ∧ r ≤ IntKind.i64.max) (h7 : IntKind.i64.min ≤ p ∧ p ≤ IntKind.i64.max) (h8 : pay.size ≤ big) :
    Rep w S JMed [.bool v, .int .i64 k, .int .i64 s, .int .i64 t, .int .i64 r, .slice A xs.length c, .slice A' es.length c', .int .i64 p, .string pay] (v, k, s, t, r, xs, es, p, pay, ()) :=
  ⟨_, _, rfl, rfl, _, _, rfl, ⟨rfl, h1⟩, _, _, rfl, ⟨rfl, h2⟩, _, _, rfl, ⟨rfl, h3⟩, _, _, rfl, ⟨rfl, h4⟩, _, _, rfl, h5, _, _, rfl, h6, _, _, rfl, ⟨rfl, h7⟩, _, _, rfl, ⟨rfl, h8⟩, rfl⟩
theorem ints_at {w : World} {S : Nat → Prop} {A : Option Addr} {c : Nat} {xs : List Int} (h : Rep w S (.sl (.int .i64) 8) [.slice A xs.length c] xs) : IntsAt w A xs ∧ xs.length ≤ 9223372036854775807 := by
  obtain ⟨-, h1, h2, h3, news, h4, h5, h6⟩ := rep_sl.1 h
  refine ⟨fun i hi => ?_, by rw [big_eq] at h3; omega⟩
  obtain ⟨b, o, rfl, -, hl, ha⟩ := h4 (by omega)
  obtain ⟨he, -⟩ := h6 i hi
  refine ⟨b, o, rfl, hl, ?_⟩
  have e : news[i]? = some (.int .i64 xs[i]) := by
    have := congrArg (·[0]?) he
    simpa [Ty.width] using this
  exact (ha i _ e).1
theorem IntsAt.below {w w' : World} {A : Option Addr} {xs : List Int} (h : IntsAt w A xs) (hb : Below w.heap.size w w') : IntsAt w' A xs := fun i hi => by
  obtain ⟨b, o, rfl, hl, hc⟩ := h i hi
  exact ⟨b, o, rfl, Nat.lt_of_lt_of_le hl hb.size, (bcell' hb hl).trans hc⟩

theorem fits_list (a : Option Addr) (c : Nat) (xs : List Int) (b : Int) (w : World) (h0 : 0 ≤ b) (h1 : b ≤ 62) (hn : xs.length ≤ 9223372036854775807) (hx : IntsAt w a xs) :
    Calls Try.prog 62 #[.int .i64 b, .slice a xs.length c] w fun e w' => e = .returned (.bool (fitF b xs)) ∧ Below w.heap.size w w' := fits_goes a xs.length c xs b w h0 h1 rfl hn hx

theorem run_call2 {P : Program} {ρ : Operand → Value} {o : Oper} {f : FuncId} {x y : Operand} {ats : Array TypeId} {fn : Func} {c : Code} {vx vy : Value} (ho : o.op = .call { callee := .value (.func f), args := #[x, y], argTypes := ats }) (hρ : ρ (.func f) = .func (.func f) #[] #[]) (hx : ρ x = vx) (hy : ρ y = vy)
    (hf : P.funcs[f]? = some fn) (hname : (fn.name == "runtime.NumGoroutine") = false) (hb : fn.body = some c) (w : World) : (execOp ρ o).run P w = .ok (.enter f #[vx, vy]) w := by
  unfold execOp
  simp only [ho, resolve, Deferred.ofValue, hρ, hx, hy, Sem.run_bind, Sem.run_pure, Result.andThen_ok, invoke, List.map_toArray, List.map_cons, List.map_nil, Array.append_empty, Array.empty_append]
  exact run_callFunc_goes hf hname hb _ _
theorem wp_call2 {P : Program} {o : Oper} {a : Act} {w : World} {K : Act → World → Prop} {Q : Exit → Act → World → Prop} {f : FuncId} {x y : Operand} {ats : Array TypeId} {fn : Func} {c : Code} {vx vy : Value} {R : Ending → World → Prop} (ho : o.op = .call { callee := .value (.func f), args := #[x, y], argTypes := ats }) (hρ : a.eval (.func f) = .func (.func f) #[] #[]) (hx : a.eval x = vx) (hy : a.eval y = vy)
    (hf : P.funcs[f]? = some fn) (hname : (fn.name == "runtime.NumGoroutine") = false) (hb : fn.body = some c) (hc : Calls P f #[vx, vy] w R) (h : ∀ e w', R e w' → ∃ v, e = .returned v ∧ K (a.put o.dst v) w') : o.wp P a w K Q := by
  unfold Oper.wp
  rw [run_call2 ho hρ hx hy hf hname hb w]
  refine hc.mono ?_
  intro e w' hr
  obtain ⟨v, rfl, hk⟩ := h e w' hr
  exact hk

theorem wp_seq_mid {P : Program} {x y : Code} {Q : Exit → Act → World → Prop} {a : Act} {w : World} (Mid : Act → World → Prop) (h : ∀ M : Act → World → Prop, (∀ a w, Mid a w → M a w) → x.wp P (fun e a w => e = .normal ∧ M a w) a w) (k : ∀ a w, Mid a w → y.wp P Q a w) : (Code.seq x y).wp P Q a w :=
  wp_seq (Code.wp_mono (fun e a w h => by obtain ⟨rfl, hm⟩ := h; exact k a w hm) (h Mid fun _ _ h => h))
end Go.Proofs.Ytjmohkgbfigcgaa.Sh
