/- Looks: the leaves, and one list. -/
import Derived.Test.YtjmohkgbfigcgaaNum
import Derived.Test.YtjmohkgbfigcgaaLook
namespace Go.Proofs.Ytjmohkgbfigcgaa.Sh
open Go Go.RowKit
set_option linter.unusedVariables false
set_option linter.unusedSimpArgs false

theorem looks_num : Looks 30 (.int .i64) := by
  intro mk w B eb eo pb po S d ns ss at_ st
  obtain ⟨⟨nv, sv, he⟩, ⟨cs, ha, rfl, h1, h2⟩, hne, hlt, hsep, hf⟩ := st
  obtain ⟨hc, hfr⟩ := ha 0 _ rfl
  have hb : ns.length + 1 ≤ 1099511627776 := by simpa [seeT] using hf.1
  cases mk with
  | false => exact (num_see w B eb eo pb po ns ss at_ d nv sv he hc hne hlt hb).mono fun e w' ⟨h1, ⟨nv', h2⟩, h3⟩ => ⟨h1, ⟨nv', sv, h2⟩, h3⟩
  | true => exact (num_mark w B eb eo pb po ns ss at_ d nv sv he hc hfr hne hlt hb).mono fun e w' ⟨h1, ⟨m, at', nv', h2⟩, h3⟩ => ⟨h1, ⟨_, _, at', nv', sv, h2, by simp [seeT], rfl⟩, h3.mono fun b h => .inr h⟩
theorem looks_yes : Looks 34 .bool := by
  intro mk w B eb eo pb po S d ns ss at_ st
  obtain ⟨⟨nv, sv, he⟩, ⟨cs, ha, rfl⟩, hne, hlt, hsep, hf⟩ := st
  obtain ⟨hc, hfr⟩ := ha 0 _ rfl
  have hb : ns.length + 1 ≤ 1099511627776 := by simpa [seeT] using hf.1
  cases mk with
  | false => exact (yes_see w B eb eo pb po ns ss at_ d nv sv he hc hfr hne hlt hb).mono fun e w' ⟨h1, ⟨nv', h2⟩, h3⟩ => ⟨h1, ⟨nv', sv, h2⟩, h3⟩
  | true => exact (yes_mark w B eb eo pb po ns ss at_ d nv sv he hc hfr hne hlt hb).mono fun e w' ⟨h1, ⟨m, at', nv', h2⟩, h3⟩ => ⟨h1, ⟨_, _, at', nv', sv, h2, by simp [seeT], rfl⟩, h3.mono fun b h => .inr h⟩
theorem looks_str : Looks 58 .str := by
  intro mk w B eb eo pb po S d ns ss at_ st
  obtain ⟨⟨nv, sv, he⟩, ⟨cs, ha, rfl, h1⟩, hne, hlt, hsep, hf⟩ := st
  obtain ⟨hc, hfr⟩ := ha 0 _ rfl
  have hb : ss.length + 1 ≤ 1099511627776 := by simpa [seeT] using hf.2
  cases mk with
  | false => exact (str_see w B eb eo pb po ns ss at_ d nv sv he hc hne hlt hb).mono fun e w' ⟨h1, ⟨sv', h2⟩, h3⟩ => ⟨h1, ⟨nv, sv', h2⟩, h3⟩
  | true => exact (str_mark w B eb eo pb po ns ss at_ d nv sv he hc hfr hne hlt hb).mono fun e w' ⟨h1, ⟨m, at', sv', h2⟩, h3⟩ => ⟨h1, ⟨_, _, at', nv, sv', h2, rfl, by simp [seeT]⟩, h3.mono fun b h => .inr h⟩

theorem own_slice {w : World} {base n : Nat} {e : TypeId} {size : Nat} {v : Value} {xs : List Value} (h : w.ownsRow base e size v n xs) : ∃ A c, v = .slice A n c := by
  rcases h.2 with ⟨rfl, rfl⟩ | ⟨g, cap, cur, rfl, _⟩
  · exact ⟨none, 0, rfl⟩
  · exact ⟨_, cap, rfl⟩

/-- 'f', handed a list of data of kind e and the look g at one, looks at the list -/
def LooksL (f : FuncId) (g : FuncId) (e : Ty) (nb : Nat) : Prop := ∀ (mk : Bool) (w : World) (B eb eo pb : Nat) (S : Nat → Prop) (ds : List e.Data) (ns : List Int) (ss : List ByteArray) (at_ : Int) (a : Option Addr) (n cap : Nat) (nv sv : Value),
  EyeAt w B eb eo ns ss mk at_ nv sv → Rep w S (.sl e nb) [.slice a n cap] ds → (∀ b, S b → b ≠ eb ∧ b < B) → Fits (.sl e nb) ds ns ss →
  Calls Try.prog f #[.pointer (some ⟨eb, eo, none⟩), .slice a n cap, .func (.func g) #[] #[]] w fun r w' => r = .returned (.tuple #[]) ∧ Post mk B eb eo pb S at_ (seeT (.sl e nb) ds (ns, ss)) w w'

theorem post_pre {mk : Bool} {B eb eo pb : Nat} {S : Nat → Prop} {at_ : Int} {seen : List Int × List ByteArray} {w w1 w' : World} (hv : Vary (fun _ => False) B eb eo w w1) (h : Post mk B eb eo pb S at_ seen w1 w') : Post mk B eb eo pb S at_ seen w w' := by
  cases mk with
  | false => exact ⟨h.1, hv.trans h.2⟩
  | true => exact ⟨h.1, (hv.mono fun _ h => h.elim).trans h.2⟩

end Go.Proofs.Ytjmohkgbfigcgaa.Sh
