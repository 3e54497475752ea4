/- What it is to look at a datum, with or without a mark: the word that each function of the statements' own is shown to meet, and how looks follow one another. No function is walked here. -/
import Derived.Test.YtjmohkgbfigcgaaProg
import Derived.Test.YtjmohkgbfigcgaaEye
namespace Go.Proofs.Ytjmohkgbfigcgaa.Sh
open Go Go.RowKit
set_option linter.unusedVariables false

/-- ahead of a look: the eye, and the datum at a place apart from it -/
structure St (mk : Bool) (w : World) (B eb eo pb po : Nat) (S : Nat → Prop) (T : Ty) (d : T.Data) (ns : List Int) (ss : List ByteArray) (at_ : Int) : Prop where
  eye : ∃ nv sv, EyeAt w B eb eo ns ss mk at_ nv sv
  place : ∃ cs, At w pb po cs ∧ Rep w S T cs d
  ne : pb ≠ eb
  lt : pb < B
  sep : ∀ b, S b → b ≠ eb ∧ b < B
  fits : Fits T d ns ss

/-- behind it: without a mark the eye has seen just the datum, and nothing has turned; with one, as much has been seen, and only the places of the datum have turned -/
def Post (mk : Bool) (B eb eo pb : Nat) (S : Nat → Prop) (at_ : Int) (seen : List Int × List ByteArray) (w w' : World) : Prop :=
  match mk with
  | false => (∃ nv sv, EyeAt w' B eb eo seen.1 seen.2 false at_ nv sv) ∧ Vary (fun _ => False) B eb eo w w'
  | true => (∃ ns' ss' at' nv sv, EyeAt w' B eb eo ns' ss' true at' nv sv ∧ ns'.length = seen.1.length ∧ ss'.length = seen.2.length) ∧ Vary (fun b => S b ∨ b = pb) B eb eo w w'

/-- 'f' looks at data of kind T -/
def Looks (f : FuncId) (T : Ty) : Prop := ∀ (mk : Bool) (w : World) (B eb eo pb po : Nat) (S : Nat → Prop) (d : T.Data) (ns : List Int) (ss : List ByteArray) (at_ : Int),
  St mk w B eb eo pb po S T d ns ss at_ → Calls Try.prog f #[.pointer (some ⟨eb, eo, none⟩), .pointer (some ⟨pb, po, none⟩)] w fun e w' => e = .returned (.tuple #[]) ∧ Post mk B eb eo pb S at_ (seeT T d (ns, ss)) w w'

theorem fits_fst {a b : Ty} {d : (Ty.cons a b).Data} {ns : List Int} {ss : List ByteArray} (h : Fits (.cons a b) d ns ss) : Fits a d.1 ns ss := by
  have hl := seeT_le b d.2 (seeT a d.1 (ns, ss))
  exact ⟨Nat.le_trans hl.1 h.1, Nat.le_trans hl.2 h.2⟩

theorem St.fst {mk : Bool} {w : World} {B eb eo pb po : Nat} {S : Nat → Prop} {a b : Ty} {d : (Ty.cons a b).Data} {ns : List Int} {ss : List ByteArray} {at_ : Int}
    (h : St mk w B eb eo pb po S (.cons a b) d ns ss at_) : St mk w B eb eo pb po S a d.1 ns ss at_ := by
  obtain ⟨cs, ha, c1, c2, rfl, h1, h2⟩ := h.place
  exact ⟨h.eye, ⟨c1, ha.left, h1⟩, h.ne, h.lt, h.sep, fits_fst h.fits⟩

/-- THE STEP: behind a look at the first part, the state ahead of the look at the rest; and what that look will give for the whole. -/
theorem look_step {mk : Bool} {w w1 : World} {B eb eo pb po : Nat} {S : Nat → Prop} {a b : Ty} {d : (Ty.cons a b).Data} {ns : List Int} {ss : List ByteArray} {at_ : Int}
    (h : St mk w B eb eo pb po S (.cons a b) d ns ss at_) (hp : Post mk B eb eo pb S at_ (seeT a d.1 (ns, ss)) w w1) :
    ∃ (d2 : b.Data) (ns1 : List Int) (ss1 : List ByteArray) (at1 : Int), St mk w1 B eb eo pb (po + a.width) S b d2 ns1 ss1 at1 ∧
      ∀ w2, Post mk B eb eo pb S at1 (seeT b d2 (ns1, ss1)) w1 w2 → Post mk B eb eo pb S at_ (seeT (.cons a b) d (ns, ss)) w w2 := by
  obtain ⟨cs, ha, c1, c2, rfl, h1, h2⟩ := h.place
  have hl := Rep.length a c1 d.1 h1
  have har := ha.right
  rw [hl] at har
  cases mk with
  | false =>
    obtain ⟨⟨nv, sv, he⟩, hv⟩ := hp
    refine ⟨d.2, (seeT a d.1 (ns, ss)).1, (seeT a d.1 (ns, ss)).2, at_, ⟨⟨nv, sv, he⟩, ⟨c2, hv.at_ har h.lt h.ne (fun h => h), hv.rep h2 (fun b hb => ⟨(h.sep b hb).2, (h.sep b hb).1, fun h => h⟩)⟩, h.ne, h.lt, h.sep, h.fits⟩, ?_⟩
    rintro w2 ⟨he2, hv2⟩
    exact ⟨he2, hv.trans hv2⟩
  | true =>
    obtain ⟨⟨ns', ss', at', nv, sv, he, e1, e2⟩, hv⟩ := hp
    obtain ⟨c2', ha2, hs2⟩ := (hv.vary pb h.lt h.ne (.inr rfl)).at_ har
    obtain ⟨d2, hr2, al⟩ := Rep.sim hv.size (fun b hb _ => hv.vary b (h.sep b hb).2 (h.sep b hb).1 (.inl hb)) b c2 c2' d.2 h2 hs2
    refine ⟨d2, ns', ss', at', ⟨⟨nv, sv, he⟩, ⟨c2', ha2, hr2⟩, h.ne, h.lt, h.sep, ?_⟩, ?_⟩
    · exact Fits.alike (d := d.2) (ns := (seeT a d.1 (ns, ss)).1) (ss := (seeT a d.1 (ns, ss)).2) h.fits al e1 e2
    · rintro w2 ⟨⟨ns2, ss2, at2, nv2, sv2, he2, f1, f2⟩, hv2⟩
      have hlen := seeT_len b d.2 d2 al (seeT a d.1 (ns, ss)) (ns', ss') e1.symm e2.symm
      exact ⟨⟨ns2, ss2, at2, nv2, sv2, he2, f1.trans hlen.1.symm, f2.trans hlen.2.symm⟩, hv.trans hv2⟩

theorem look_nil {mk : Bool} {w : World} {B eb eo pb po : Nat} {S : Nat → Prop} {d : Ty.nil.Data} {ns : List Int} {ss : List ByteArray} {at_ : Int}
    (h : St mk w B eb eo pb po S .nil d ns ss at_) : Post mk B eb eo pb S at_ (seeT .nil d (ns, ss)) w w := by
  obtain ⟨nv, sv, he⟩ := h.eye
  cases mk with
  | false => exact ⟨⟨nv, sv, he⟩, Vary.refl ..⟩
  | true => exact ⟨⟨ns, ss, at_, nv, sv, he, rfl, rfl⟩, Vary.refl ..⟩

/-- What is looked at lies behind a slice that is itself at a place. -/
theorem Post.inner {mk : Bool} {B eb eo pb pb' : Nat} {S : Nat → Prop} {at_ : Int} {seen : List Int × List ByteArray} {w w' : World} (h : Post mk B eb eo pb S at_ seen w w') (hs : S pb) : Post mk B eb eo pb' S at_ seen w w' := by
  cases mk with
  | false => exact h
  | true => exact ⟨h.1, h.2.mono fun b hb => by rcases hb with hb | rfl; exact .inl hb; exact .inl hs⟩

/-- the state at the head of a round: the elements that are left -/
structure StL (mk : Bool) (w : World) (B eb eo b o : Nat) (S : Nat → Prop) (e : Ty) (ds : List e.Data) (ns : List Int) (ss : List ByteArray) (at_ : Int) : Prop where
  eye : ∃ nv sv, EyeAt w B eb eo ns ss mk at_ nv sv
  place : ∃ news, At w b o news ∧ RepL w S e news ds
  inS : ds ≠ [] → S b
  sep : ∀ b, S b → b ≠ eb ∧ b < B
  fits : (seeL (seeT e) ds (ns, ss)).1.length ≤ 1099511627776 ∧ (seeL (seeT e) ds (ns, ss)).2.length ≤ 1099511627776

theorem RepL.cons_inv {w : World} {S : Nat → Prop} {e : Ty} {news : List Value} {d : e.Data} {ds : List e.Data} (h : RepL w S e news (d :: ds)) :
    Rep w S e (news.take e.width) d ∧ RepL w S e (news.drop e.width) ds := by
  constructor
  · have := h.2 0 (by simp)
    simpa using this
  · have := h.drop 1 (by simp)
    simpa using this

theorem stl_head {mk : Bool} {w : World} {B eb eo b o : Nat} {S : Nat → Prop} {e : Ty} {d : e.Data} {ds : List e.Data} {ns : List Int} {ss : List ByteArray} {at_ : Int}
    (h : StL mk w B eb eo b o S e (d :: ds) ns ss at_) (hlt : ns.length < 200000) : St mk w B eb eo b o S e d ns ss at_ := by
  obtain ⟨news, ha, hr⟩ := h.place
  have hf := h.fits
  simp only [seeL, if_pos hlt] at hf
  have hl := seeL_le (seeT_le e) ds (seeT e d (ns, ss))
  have hS := h.inS (by simp)
  exact ⟨h.eye, ⟨_, ha.take _, hr.cons_inv.1⟩, (h.sep b hS).1, (h.sep b hS).2, h.sep, Nat.le_trans hl.1 hf.1, Nat.le_trans hl.2 hf.2⟩

theorem stl_step {mk : Bool} {w w1 : World} {B eb eo b o pb : Nat} {S : Nat → Prop} {e : Ty} {d : e.Data} {ds : List e.Data} {ns : List Int} {ss : List ByteArray} {at_ : Int}
    (h : StL mk w B eb eo b o S e (d :: ds) ns ss at_) (hlt : ns.length < 200000) (hp : Post mk B eb eo b S at_ (seeT e d (ns, ss)) w w1) :
    ∃ (ds2 : List e.Data) (ns1 : List Int) (ss1 : List ByteArray) (at1 : Int), ds2.length = ds.length ∧ StL mk w1 B eb eo b (o + e.width) S e ds2 ns1 ss1 at1 ∧
      ∀ w2, Post mk B eb eo pb S at1 (seeL (seeT e) ds2 (ns1, ss1)) w1 w2 → Post mk B eb eo pb S at_ (seeL (seeT e) (d :: ds) (ns, ss)) w w2 := by
  have hS := h.inS (by simp)
  have hp := hp.inner (pb' := pb) hS
  obtain ⟨news, ha, hr⟩ := h.place
  have hd := hr.cons_inv.2
  have had := ha.drop e.width
  have hf := h.fits
  simp only [seeL, if_pos hlt] at hf ⊢
  cases mk with
  | false =>
    obtain ⟨⟨nv, sv, he⟩, hv⟩ := hp
    refine ⟨ds, (seeT e d (ns, ss)).1, (seeT e d (ns, ss)).2, at_, rfl, ⟨⟨nv, sv, he⟩, ⟨_, hv.at_ had (h.sep b hS).2 (h.sep b hS).1 (fun h => h), hd.1, fun i hi => hv.rep (hd.2 i hi) (fun b hb => ⟨(h.sep b hb).2, (h.sep b hb).1, fun h => h⟩)⟩, (fun _ => hS), h.sep, hf⟩, ?_⟩
    rintro w2 ⟨he2, hv2⟩
    exact ⟨he2, hv.trans hv2⟩
  | true =>
    obtain ⟨⟨ns', ss', at', nv, sv, he, e1, e2⟩, hv⟩ := hp
    have hsim : ∀ b, S b → b < w.heap.size → SimC w w1 b := fun b hb _ => hv.vary b (h.sep b hb).2 (h.sep b hb).1 (.inl hb)
    obtain ⟨news', ha', hs'⟩ := (hv.vary b (h.sep b hS).2 (h.sep b hS).1 (.inl hS)).at_ had
    have hex : ∀ i : Fin ds.length, ∃ d' : e.Data, Rep w1 S e ((news'.drop (i * e.width)).take e.width) d' ∧ Alike e ds[i] d' := fun i =>
      Rep.sim hv.size hsim e _ _ _ (hd.2 i i.2) (hs'.seg (i * e.width) e.width)
    obtain ⟨f, hfn⟩ := Classical.axiomOfChoice hex
    have hlen : (List.ofFn f).length = ds.length := List.length_ofFn
    have hal : ∀ i (h1 : i < ds.length) (h2 : i < (List.ofFn f).length), Alike e ds[i] (List.ofFn f)[i] := fun i h1 h2 => by
      rw [List.getElem_ofFn]; exact (hfn ⟨i, h1⟩).2
    have hln := seeL_len (seeT_len e) ds (List.ofFn f) hlen hal (seeT e d (ns, ss)) (ns', ss') e1.symm e2.symm
    refine ⟨List.ofFn f, ns', ss', at', hlen, ⟨⟨nv, sv, he⟩, ⟨news', ha', by rw [hs'.1, hd.1, hlen], fun i hi => ?_⟩, (fun _ => hS), h.sep, by rw [← hln.1, ← hln.2]; exact hf⟩, ?_⟩
    · rw [List.getElem_ofFn]; exact (hfn ⟨i, by rw [hlen] at hi; exact hi⟩).1
    · rintro w2 ⟨⟨ns2, ss2, at2, nv2, sv2, he2, f1, f2⟩, hv2⟩
      exact ⟨⟨ns2, ss2, at2, nv2, sv2, he2, f1.trans hln.1.symm, f2.trans hln.2.symm⟩, hv.trans hv2⟩

/-- the loop has ended: no element is left, or enough has been seen -/
theorem stl_end {mk : Bool} {w : World} {B eb eo b o pb : Nat} {S : Nat → Prop} {e : Ty} {ds : List e.Data} {ns : List Int} {ss : List ByteArray} {at_ : Int}
    (h : StL mk w B eb eo b o S e ds ns ss at_) (hend : ds = [] ∨ ¬ ns.length < 200000) : Post mk B eb eo pb S at_ (seeL (seeT e) ds (ns, ss)) w w := by
  have hs : seeL (seeT e) ds (ns, ss) = (ns, ss) := by
    rcases hend with rfl | hn
    · rfl
    · cases ds with
      | nil => rfl
      | cons d ds => simp only [seeL, if_neg hn]
  rw [hs]
  obtain ⟨nv, sv, he⟩ := h.eye
  cases mk with
  | false => exact ⟨⟨nv, sv, he⟩, Vary.refl ..⟩
  | true => exact ⟨⟨ns, ss, at_, nv, sv, he, rfl, rfl⟩, Vary.refl ..⟩
end Go.Proofs.Ytjmohkgbfigcgaa.Sh
