/- TopSharedJitter: the law itself. -/
import Derived.Test.YtjmohkgbfigcgaaKKnown
import Derived.Test.YtjmohkgbfigcgaaJCalls
import Derived.Test.YtjmohkgbfigcgaaSees
import Derived.Test.YtjmohkgbfigcgaaOwns
import Derived.Test.YtjmohkgbfigcgaaApart
import Derived.Test.YtjmohkgbfigcgaaOpen
namespace Go.Proofs.Ytjmohkgbfigcgaa.Sh
open Go Go.RowKit
set_option linter.unusedVariables false
set_option linter.unusedSimpArgs false

theorem jall_fits : JAll.fits Try.prog (.inl 30) = true := by kernel_rfl

set_option maxRecDepth 100000 in
set_option maxHeartbeats 1600000 in
theorem top_goes (w : World) (cs : List Value) (d : JAll.Data) (hr : Rep w (fun b => b < w.heap.size) JAll cs d) :
    Calls Try.prog 3 #[.agg cs.toArray] w fun e w' => e = .returned (.bool true) ∧ Below w.heap.size w w' := by
  generalize hpost : (fun (e : Ending) (w' : World) => e = .returned (.bool true) ∧ Below w.heap.size w w') = post
  have HPost := Lib.hid (fun (e : Ending) (w' : World) (h : e = .returned (.bool true) ∧ Below w.heap.size w w') => show post e w' from hpost ▸ h)
  clear hpost
  have hlc : cs.length = 22 := Rep.length _ _ _ hr
  have HLC := Lib.hid hlc
  have HR := Lib.hid hr
  clear hr hlc
  go_enter Try.func3, Try.ntmps3
  go_wp2_with (refine step_boxh (cs := cs) rfl rfl rfl fun w0 M0 B0 Z0 => ?_)
  have HM0 := Lib.hid M0
  have HB0 := Lib.hid B0
  have hz0 : w.heap.size < w0.heap.size := M0.lt
  clear M0 B0 Z0
  refine Lib.hid ?_
  go_wp2_with (refine step_loadbkw (T := 30) (cs := cs) (by rfl) rfl rfl HM0.out Try.underlying30 rfl (by rw [HLC.out]; kernel_rfl) ?_)
  have b1 : Below w0.heap.size w0 (w0.alloc (.cells #[.func (.func 7) #[] #[], .func (.func 9) #[] #[], .func (.func 13) #[] #[], .func (.func 16) #[] #[], .func (.func 18) #[] #[]] 38)) := (Below.refl _ w0).alloc (Nat.le_refl _) _
  have M1 := Bk.new w0 38 [.func (.func 7) #[] #[], .func (.func 9) #[] #[], .func (.func 13) #[] #[], .func (.func 16) #[] #[], .func (.func 18) #[] #[]]
  generalize (w0.alloc (.cells #[.func (.func 7) #[] #[], .func (.func 9) #[] #[], .func (.func 13) #[] #[], .func (.func 16) #[] #[], .func (.func 18) #[] #[]] 38)) = w1 at b1 M1 ⊢
  have hr1 : Rep w1 (fun b => b < w1.heap.size) JAll cs d := Rep.frame _ _ _ ((HR.out.below HB0.out).below b1) fun b h1 h2 => ⟨rfl, h2⟩
  have HB1 := Lib.hid (HB0.out.trans (b1.mono (Nat.le_of_lt hz0)))
  refine (apart_goes JAll [7, 9, 13, 16, 18] looks_6 owns_5 rfl (by decide) (by decide) (by kernel_rfl)
    (by intro g hg; simp only [List.mem_cons, List.not_mem_nil, or_false] at hg; rcases hg with rfl | rfl | rfl | rfl | rfl <;> first | exact call_1 | exact call_2 | exact call_3 | exact call_4 | exact call_5)
    (by
      intro g hg
      simp only [List.mem_cons, List.not_mem_nil, or_false] at hg
      rcases hg with rfl | rfl | rfl | rfl | rfl
      · exact ⟨_, _, Try.func7, by kernel_rfl, rfl⟩
      · exact ⟨_, _, Try.func9, by kernel_rfl, rfl⟩
      · exact ⟨_, _, Try.func13, by kernel_rfl, rfl⟩
      · exact ⟨_, _, Try.func16, by kernel_rfl, rfl⟩
      · exact ⟨_, _, Try.func18, by kernel_rfl, rfl⟩)
    w1 cs d hr1 w0.heap.size 5 M1.lt M1.at_ (by decide)).mono ?_
  clear b1 M1 hr1
  rintro e w2 ⟨rfl, hb2⟩
  have HB2 := Lib.hid (HB1.out.trans (hb2.mono HB1.out.size))
  clear hb2
  go_wp2_with fail
  refine (known_goes w2).mono ?_
  rintro e w3 ⟨rfl, hb3⟩
  have HB3 := Lib.hid (HB2.out.trans (hb3.mono HB2.out.size))
  clear hb3
  go_wp2_with fail
  exact HPost.out _ _ ⟨rfl, HB3.out⟩
end Go.Proofs.Ytjmohkgbfigcgaa.Sh
