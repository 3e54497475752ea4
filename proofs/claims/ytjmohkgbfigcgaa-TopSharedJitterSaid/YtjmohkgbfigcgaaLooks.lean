/- A row of viewers is asked, each with an eye of its own: look; and two rows of eyes side by side: alike. -/
import Derived.Test.YtjmohkgbfigcgaaSame
import Derived.Test.YtjmohkgbfigcgaaLook
import Derived.Test.YtjmohkgbfigcgaaBox
import Derived.Deep.OwnRows
import Derived.OwnWalk
namespace Go.Proofs.Ytjmohkgbfigcgaa.Sh
open Go Go.RowKit
set_option linter.unusedVariables false
set_option linter.unusedSimpArgs false

/-- a value that is a slice of just these cells, in a block from 'lo' on -/
structure RowFrom (w : World) (lo : Nat) (v : Value) (cs : List Value) : Prop where
  lies : ∃ A c, v = .slice A cs.length c ∧ (0 < cs.length → ∃ b, A = some ⟨b, 0, none⟩ ∧ lo ≤ b ∧ b < w.heap.size ∧ At w b 0 cs)
  le : cs.length ≤ 1099511627776
theorem RowFrom.row {w : World} {lo : Nat} {v : Value} {cs : List Value} (h : RowFrom w lo v cs) : RowIn w v cs := by
  obtain ⟨⟨A, c, rfl, h1⟩, h2⟩ := h
  exact ⟨⟨A, c, rfl, fun h => by obtain ⟨b, e, _, hl, ha⟩ := h1 h; exact ⟨b, e, hl, ha⟩⟩, h2⟩
theorem RowFrom.own {w : World} {base : Nat} {e : TypeId} {v : Value} {n : Nat} {cs : List Value} (h : w.ownsRow base e 1 v n cs) (hn : n ≤ 1099511627776) : RowFrom w base v cs := by
  obtain ⟨A, c, rfl⟩ : ∃ A c, v = .slice A n c := by
    rcases h.2 with ⟨rfl, h0⟩ | ⟨g, cap, cur, rfl, _⟩
    · exact ⟨none, 0, by rw [h0]⟩
    · exact ⟨_, cap, rfl⟩
  obtain ⟨h1, h2, h3, h4⟩ := owned_at h
  rw [Nat.mul_one] at h4
  subst h4
  exact ⟨⟨A, c, rfl, h3⟩, hn⟩
theorem RowFrom.frame {w w' : World} {lo lo' : Nat} {v : Value} {cs : List Value} (h : RowFrom w lo v cs) (hl : lo' ≤ lo) (hz : w.heap.size ≤ w'.heap.size) (hb : ∀ b, lo ≤ b → b < w.heap.size → w'.heap[b]? = w.heap[b]?) : RowFrom w' lo' v cs := by
  obtain ⟨⟨A, c, rfl, h1⟩, h2⟩ := h
  exact ⟨⟨A, c, rfl, fun h => by obtain ⟨b, e, hb1, hb2, ha⟩ := h1 h; exact ⟨b, e, by omega, by omega, ha.frame (hb b hb1 hb2)⟩⟩, h2⟩

/-- what an eye that was not marked has seen -/
def Seen (w : World) (lo eb eo : Nat) (s : List Int × List ByteArray) : Prop :=
  ∃ nv sv, At w eb eo [nv, sv, .bool false, .int .i64 0] ∧ RowFrom w lo nv (ints s.1) ∧ RowFrom w lo sv (strs s.2)
theorem Seen.frame {w w' : World} {lo lo' eb eo : Nat} {s : List Int × List ByteArray} (h : Seen w lo eb eo s) (hl : lo' ≤ lo) (hz : w.heap.size ≤ w'.heap.size) (hb : ∀ b, lo ≤ b → b < w.heap.size → w'.heap[b]? = w.heap[b]?)
    (ha : ∀ cs, At w eb eo cs → cs.length = 4 → At w' eb eo cs) : Seen w' lo' eb eo s := by
  obtain ⟨nv, sv, h1, h2, h3⟩ := h
  exact ⟨nv, sv, ha _ h1 rfl, h2.frame hl hz hb, h3.frame hl hz hb⟩
theorem Seen.below {w w' : World} {lo eb eo : Nat} {s : List Int × List ByteArray} (h : Seen w lo eb eo s) (hb : Below w.heap.size w w') : Seen w' lo eb eo s := by
  refine h.frame (Nat.le_refl _) hb.size (fun b _ hl => hb.block b hl) fun cs ha _ => ?_
  obtain ⟨nv, sv, h1, _⟩ := h
  exact ha.frame (hb.block eb h1.lt)
theorem EyeAt.seen {w : World} {B eb eo : Nat} {ns : List Int} {ss : List ByteArray} {nv sv : Value} (h : EyeAt w B eb eo ns ss false 0 nv sv) (h1 : ns.length ≤ 1099511627776) (h2 : ss.length ≤ 1099511627776) : Seen w B eb eo (ns, ss) := by
  refine ⟨nv, sv, fun j v hv => ⟨?_, h.plain.free _⟩, RowFrom.own h.rn h1, RowFrom.own h.rs h2⟩
  match j, hv with
  | 0, hv => simp at hv; subst hv; exact h.n
  | 1, hv => simp at hv; subst hv; exact h.s
  | 2, hv => simp at hv; subst hv; exact h.mark
  | 3, hv => simp at hv; subst hv; exact h.at_

def zeroEye : List Value := [.slice none 0 0, .slice none 0 0, .bool false, .int .i64 0]
theorem EyeAt.zero {w : World} {eb eo : Nat} (h : At w eb eo zeroEye) (hp : Plain w eb) : EyeAt w w.heap.size eb eo [] [] false 0 (.slice none 0 0) (.slice none 0 0) :=
  ⟨(h 0 _ rfl).1, (h 1 _ rfl).1, (h 2 _ rfl).1, (h 3 _ rfl).1, hp, ⟨rfl, .inl ⟨rfl, rfl⟩⟩, ⟨rfl, .inl ⟨rfl, rfl⟩⟩, hp.lt, Nat.le_refl _⟩

/-- a viewer: a closure that looks at what lies at a place of the call's own -/
structure View where
  h : FuncId
  pb : Nat
  T : Ty
  d : T.Data
def View.val (v : View) : Value := .func (.func v.h) #[] #[.pointer (some ⟨v.pb, 0, none⟩)]
structure View.Ok (w : World) (lo : Nat) (v : View) : Prop where
  looks : Looks v.h v.T
  fn : ∃ fn c, Try.prog.funcs[v.h]? = some fn ∧ (fn.name == "runtime.NumGoroutine") = false ∧ fn.body = some c
  le : lo ≤ v.pb
  lt : v.pb < w.heap.size
  place : ∃ cs, At w v.pb 0 cs ∧ Rep w (Fr lo) v.T cs v.d
  fits : Fits v.T v.d [] []
theorem View.Ok.below {w w' : World} {lo : Nat} {v : View} (h : v.Ok w lo) (hb : Below w.heap.size w w') : v.Ok w' lo := by
  obtain ⟨h1, h2, h3, h4, ⟨cs, ha, hr⟩, h6⟩ := h
  exact ⟨h1, h2, h3, by have := hb.size; omega, ⟨cs, ha.frame (hb.block _ h4), hr.below hb⟩, h6⟩

theorem run_callv {P : Program} {ρ : Operand → Value} {o : Oper} {f : FuncId} {g x : Operand} {ats : Array TypeId} {fn : Func} {c : Code} {cap y : Value} (ho : o.op = .call { callee := .value g, args := #[x], argTypes := ats }) (hρ : ρ g = .func (.func f) #[] #[cap]) (hx : ρ x = y)
    (hf : P.funcs[f]? = some fn) (hname : (fn.name == "runtime.NumGoroutine") = false) (hb : fn.body = some c) (w : World) : (execOp ρ o).run P w = .ok (.enter f #[y, cap]) w := by
  unfold execOp
  simp only [ho, resolve, Deferred.ofValue, hρ, hx, Sem.run_bind, Sem.run_pure, Result.andThen_ok, invoke, List.map_toArray, List.map_cons, List.map_nil, Array.empty_append]
  exact run_callFunc_goes hf hname hb _ _

theorem run_load_row {P : Program} {ρ : Operand → Value} {o : Oper} {ty : TypeId} {x : Operand} {w : World} {b off : Nat} {cs : List Value} {d : TypeDesc} (ho : o.op = .load ty x) (hx : ρ x = .pointer (some ⟨b, off, none⟩)) (hc : At w b off cs)
    (hu : P.underlying ty = some d) (hd : d.isRow = true) (hi : (P.info? ty).map (·.size) = some cs.length) : (execOp ρ o).run P w = .ok (.value (.agg cs.toArray)) w := by
  unfold execOp
  simp only [ho, hx, Instr.loadAt, Instr.sureAddr, Sem.run_bind, Sem.run_pure, Result.andThen_ok, run_loadVar_mid w b off ty cs d (fun j v hv => (hc j v hv).1) hu hd hi]

theorem infoEye : (Try.prog.info? 58).map (fun i => (i.zero, i.size, i.bytes)) = some (some (.agg #[.slice none 0 0, .slice none 0 0, .bool false, .int .i64 0]), 4, 64) := by kernel_rfl

/-- the state at the head of a round of 'look' -/
structure Round (w wr : World) (vs : List View) (k : Nat) : Prop where
  bel : Below w.heap.size w wr
  plain : Plain wr w.heap.size
  done : ∀ i (h : i < vs.length), i < k → Seen wr (w.heap.size + 1) w.heap.size (i * 4) (seeT vs[i].T vs[i].d ([], []))
  todo : ∀ i, k ≤ i → i < vs.length → At wr w.heap.size (i * 4) zeroEye

theorem Round.step {w wr w' : World} {vs : List View} {k : Nat} (h : Round w wr vs k) (hk : k < vs.length) (hf : Fits vs[k].T vs[k].d [] [])
    (hp : Post false wr.heap.size w.heap.size (k * 4) vs[k].pb (fun b => b < w.heap.size) 0 (seeT vs[k].T vs[k].d ([], [])) wr w') : Round w w' vs (k + 1) := by
  obtain ⟨⟨nv, sv, he⟩, hv⟩ := hp
  have hlt := h.plain.lt
  have hz := hv.size
  have hpl := hv.plain _ hlt h.plain
  have hat : ∀ i cs, i ≠ k → cs.length = 4 → At wr w.heap.size (i * 4) cs → At w' w.heap.size (i * 4) cs := fun i cs hi hl ha j v hj => by
    have hj4 : j < 4 := by rw [← hl]; exact (List.getElem?_eq_some_iff.1 hj).1
    refine ⟨(hv.eye _ ?_).trans (ha j v hj).1, hpl.free _⟩
    omega
  refine ⟨⟨hv.os.trans h.bel.os, hv.tape.trans h.bel.tape, hv.output.trans h.bel.output, Nat.le_trans h.bel.size hz, fun b hb => (hv.block b (by omega) (by omega) (fun h => h)).trans (h.bel.block b hb)⟩, hpl, fun i hi hik => ?_, fun i hi hl => hat i _ (by omega) rfl (h.todo i (by omega) hl)⟩
  rcases Nat.lt_or_ge i k with hlk | hge
  · exact (h.done i hi hlk).frame (Nat.le_refl _) hz (fun b h1 h2 => hv.block b h2 (by omega) (fun h => h)) fun cs ha hl => hat i cs (by omega) hl ha
  · obtain rfl : i = k := by omega
    exact (he.seen hf.1 hf.2).frame hlt (Nat.le_refl _) (fun _ _ _ => rfl) fun _ ha _ => ha

theorem Round.drew {w wr : World} {vs : List View} {k : Nat} (h : Round w wr vs k) : Round w wr.drew vs k := by
  have hb : Below wr.heap.size wr wr.drew := (Below.refl _ wr).drew
  exact ⟨h.bel.drew, h.plain.below hb, fun i hi hik => (h.done i hi hik).below hb, fun i h1 h2 => (h.todo i h1 h2).frame rfl⟩
theorem Round.st {w wr : World} {vs : List View} {k lo : Nat} (h : Round w wr vs k) (hk : k < vs.length) (ho : vs[k].Ok wr lo) (hl : vs[k].pb < w.heap.size ∧ ∃ cs, At w vs[k].pb 0 cs ∧ Rep w (Fr lo) vs[k].T cs vs[k].d) : St false wr wr.heap.size w.heap.size (k * 4) vs[k].pb 0 (fun b => b < w.heap.size) vs[k].T vs[k].d [] [] 0 := by
  obtain ⟨h1, cs, ha, hr⟩ := hl
  refine ⟨⟨_, _, EyeAt.zero (h.todo k (Nat.le_refl _) hk) h.plain⟩, ⟨cs, ha.frame (h.bel.block _ h1), (hr.mono (S' := fun b => b < w.heap.size) fun b _ hb => hb).below h.bel⟩, by omega, by have := h.plain.lt; omega, fun b hb => ?_, ho.fits⟩
  have := h.plain.lt
  exact ⟨by omega, by omega⟩

set_option maxRecDepth 100000 in
set_option maxHeartbeats 1600000 in
theorem look_goes (w : World) (lo gb c : Nat) (A : Option Addr) (vs : List View) (hn : vs.length ≤ 1000) (hA : 0 < vs.length → A = some ⟨gb, 0, none⟩ ∧ gb < w.heap.size ∧ At w gb 0 (vs.map View.val)) (hv : ∀ v ∈ vs, v.Ok w lo) :
    Calls Try.prog 25 #[.slice A vs.length c] w fun e w' => e = .returned (.slice (some ⟨w.heap.size, 0, none⟩) vs.length vs.length) ∧ Round w w' vs vs.length := by
  obtain ⟨i0, hi0, hz0, hz1, hz2⟩ := info_parts infoEye
  have HA := Lib.hid hA
  have HV := Lib.hid hv
  clear hA hv
  go_enter Try.func25, Try.ntmps25
  go_wp2_with (at_make; refine wpList_make_full w rfl _ _ _ rfl w.heap.size 58 i0 _ 4 Try.underlying59 hi0 hz0 hz1 .i64 .i64 _ _ vs.length rfl rfl rfl rfl (by rw [hz2]; omega) (by simp only [maxLen]; omega) (Nat.le_refl _) fun w1 own1 grow1 => ?_)
  have hr0 : Round w w1 vs 0 := by
    have hpl : Plain w1 w.heap.size := by
      rcases own1.2 with ⟨he, _⟩ | ⟨g, cap, cur, he, _, hg, _⟩
      · cases he
      · injection he with h1 _ _
        injection h1 with h1
        injection h1 with h1 _ _
        subst h1
        exact ⟨_, _, hg⟩
    refine ⟨below_of_grown grow1, hpl, fun i _ h => absurd h (by omega), fun i _ hi => ?_⟩
    obtain ⟨_, _, hpl', _⟩ := owned_at own1
    obtain ⟨b, e, _, _, hat⟩ := hpl' (by omega)
    injection e with e
    injection e with e _ _
    subst e
    have hseg := hat.seg (i * 4) 4
    rw [Nat.zero_add] at hseg
    refine (congrArg (At w1 w.heap.size (i * 4)) ?_).mp hseg
    refine List.ext_getElem? fun j => ?_
    rw [List.getElem?_take]
    split
    · rename_i hj
      rw [List.getElem?_drop]
      have hb : i * 4 + j < vs.length * 4 := by omega
      simp only [madeCells, Value.cells, Array.getElem?_toList, Array.getElem?_map, Array.getElem?_range, if_pos hb, Option.map_some]
      have hm : (i * 4 + j) % 4 = j := by omega
      match j, hj, hm with
      | 0, _, hm => simp [hm, zeroEye]
      | 1, _, hm => simp [hm, zeroEye]
      | 2, _, hm => simp [hm, zeroEye]
      | 3, _, hm => simp [hm, zeroEye]
    · rw [List.getElem?_eq_none (by simp [zeroEye]; omega)]
  have HR0 := Lib.hid hr0
  have hnb : (vs.length : Int) ≤ 1000 := by omega
  clear hr0 own1
  go_loopw [4] (fun i wr => ∃ (k : Nat), i = .int .i64 k ∧ k ≤ vs.length ∧ Round w wr vs k) (fun i _ => vs.length - (intOf i).toNat)
  case atStart => exact ⟨0, rfl, by omega, HR0.out⟩
  case round =>
    clear HR0 grow1 w1
    obtain ⟨k, rfl, hk, hr⟩ := hrel
    have HR := Lib.hid hr
    clear hr
    by_cases hlt : k < vs.length
    · obtain ⟨rfl, hgb, hat⟩ := HA.out (by omega)
      have hc := (bcell' HR.out.bel hgb).trans (hat k vs[k].val (by simp [hlt])).1
      rw [Nat.zero_add] at hc
      have hsz := HR.out.bel.size
      have hpz := HR.out.plain.lt
      have hok := (HV.out vs[k] (List.getElem_mem _)).below HR.out.bel
      have HO := Lib.hid hok
      clear hok hat
      go_wp2_with fail
      refine wp_region_ord 7 [(0, true), (1, true), (2, true), (3, true), (4, true), (5, true), (6, true)] (fun u => u.cell? ⟨gb, k, none⟩ = some vs[k].val ∧ w.heap.size < u.heap.size) (by kernel_rfl) (by kernel_rfl) ⟨by go_simp, by go_simp⟩ ?_
      repeat (refine ord_read (by rfl) (by rfl) (fun u hu => by (obtain ⟨hu1, hu2⟩ := hu; go_simp; try rfl)) ?_)
      refine ord_nil ?_
      simp only [List.drop_succ_cons, List.drop_zero, Act.put, List.setIfInBounds_toArray, List.set_cons_zero, List.set_cons_succ, List.getElem_toArray, List.getElem_cons_succ, List.getElem_cons_zero]
      obtain ⟨fn, c', hf, hname, hbody⟩ := HO.out.fn
      have HR2 := Lib.hid (HR.out.drew)
      have HO2 := Lib.hid (HO.out.below (Below.refl _ wr).drew)
      clear HR HO
      have hst := Round.st HR2.out hlt HO2.out ⟨(HV.out vs[k] (List.getElem_mem _)).lt, (HV.out vs[k] (List.getElem_mem _)).place⟩
      have hcl := HO2.out.looks _ _ _ _ _ _ _ _ _ _ _ _ hst
      have HCL := Lib.hid (Calls.mono hcl (R' := fun e w' => ∃ v, e = .returned v ∧ v = .tuple #[] ∧ Post false wr.heap.size w.heap.size (k * 4) vs[k].pb (fun b => b < w.heap.size) 0 (seeT vs[k].T vs[k].d ([], [])) wr.drew w') fun e w' h => ⟨_, h.1, rfl, h.2⟩)
      clear hcl
      refine wpList_enter rfl (run_callv (f := vs[k].h) (cap := .pointer (some ⟨vs[k].pb, 0, none⟩)) (y := .pointer (some ⟨w.heap.size, k * 4, none⟩)) rfl rfl rfl hf hname hbody _) HCL.out ?_
      rintro v w' ⟨rfl, hp⟩
      clear HCL
      have HN := Lib.hid (Round.step HR2.out hlt HO2.out.fits hp)
      clear hp hst HR2 HO2
      go_wp2_with fail
      refine NoPanic.normal ?_
      go_wp2_with fail
      go_roundw
      case rel => exact ⟨k + 1, by go_num, by omega, HN.out⟩
      case measure => simp [intOf]; omega
    · go_wp2_with fail
      go_ret
      obtain rfl : k = vs.length := by omega
      exact ⟨rfl, HR.out⟩

set_option maxRecDepth 100000 in
set_option maxHeartbeats 1600000 in
theorem alike_goes (w : World) (n lo lo' eb eb' c c' : Nat) (s s' : Nat → List Int × List ByteArray) (hn : n ≤ 1000) (h : ∀ i, i < n → Seen w lo eb (i * 4) (s i)) (h' : ∀ i, i < n → Seen w lo' eb' (i * 4) (s' i)) :
    Calls Try.prog 27 #[.slice (some ⟨eb, 0, none⟩) n c, .slice (some ⟨eb', 0, none⟩) n c', .int .i64 (-1)] w fun e w' => (∃ b, e = .returned (.bool b) ∧ ((∀ i, i < n → s i = s' i) → b = true)) ∧ Below w.heap.size w w' := by
  have H := Lib.hid h
  have H' := Lib.hid h'
  clear h h'
  have hnb : (n : Int) ≤ 1000 := by omega
  go_enter Try.func27, Try.ntmps27
  go_wp2_with fail
  go_loopw [7] (fun i wr => ∃ (k : Nat), i = .int .i64 k ∧ k ≤ n ∧ Below w.heap.size w wr) (fun i _ => n - (intOf i).toNat)
  case atStart => exact ⟨0, rfl, by omega, Below.refl _ w⟩
  case round =>
    obtain ⟨k, rfl, hk, hbel⟩ := hrel
    have HB := Lib.hid hbel
    by_cases hlt : k < n
    · obtain ⟨nv, sv, ha, hrn, hrs⟩ := (H.out k hlt).below hbel
      obtain ⟨nv', sv', ha', hrn', hrs'⟩ := (H'.out k hlt).below hbel
      have hk1 : ((k : Int) != -1) = true := bne_iff_ne.2 (by omega)
      have HA := Lib.hid ha
      have HA' := Lib.hid ha'
      have hl1 := ha.lt
      have hl2 := ha'.lt
      have hdr : Below wr.heap.size wr wr.drew := (Below.refl _ wr).drew
      have HS := Lib.hid (same_goes wr.drew _ _ _ _ nv sv (.bool false) (.int .i64 0) nv' sv' (.bool false) (.int .i64 0) (hrn.row.below hdr) (hrs.row.below hdr) (hrn'.row.below hdr) (hrs'.row.below hdr))
      clear hdr
      clear hbel ha ha' hrn hrs hrn' hrs'
      go_wp2_with fail
      refine wp_region_ord 12 [(0, true), (1, true), (2, true), (3, true), (4, true), (5, true), (6, true), (7, true), (8, true), (9, true), (10, true), (11, true)] (fun u => At u eb (k * 4) [nv, sv, .bool false, .int .i64 0] ∧ At u eb' (k * 4) [nv', sv', .bool false, .int .i64 0]) (by kernel_rfl) (by kernel_rfl) ⟨HA.out, HA'.out⟩ ?_
      iterate 2 (refine ord_read (by rfl) (by rfl) (fun u hu => by (obtain ⟨hu1, hu2⟩ := hu; go_simp; try rfl)) ?_)
      refine ord_read (v := .bool true) (by rfl) (by rfl) (fun u hu => by (obtain ⟨hu1, hu2⟩ := hu; clear hu1 hu2; go_simp; try rfl)) ?_
      refine ord_read (v := .bool true) (by rfl) (by rfl) (fun u hu => by (obtain ⟨hu1, hu2⟩ := hu; clear hu1 hu2; go_simp; try rfl)) ?_
      simp only [Act.put, List.setIfInBounds_toArray, List.set_cons_zero, List.set_cons_succ, List.getElem_toArray, List.getElem_cons_succ, List.getElem_cons_zero]
      iterate 3 (refine ord_read (by rfl) (by rfl) (fun u hu => by (obtain ⟨hu1, hu2⟩ := hu; clear hu1 hu2; go_simp; try rfl)) ?_)
      refine ord_read (v := .agg [nv, sv, .bool false, .int .i64 0].toArray) (by rfl) (by rfl) (fun u hu => by (obtain ⟨hu1, hu2⟩ := hu; refine run_load_row (ty := 58) (b := eb) (off := k * 4) (x := .tmp 20) ?_ ?_ hu1 Try.underlying58 rfl (by kernel_rfl); clear hu1 hu2; rfl; clear hu1 hu2; go_simp)) ?_
      simp only [Act.put, List.setIfInBounds_toArray, List.set_cons_zero, List.set_cons_succ, List.getElem_toArray, List.getElem_cons_succ, List.getElem_cons_zero]
      iterate 3 (refine ord_read (by rfl) (by rfl) (fun u hu => by (obtain ⟨hu1, hu2⟩ := hu; clear hu1 hu2; go_simp; try rfl)) ?_)
      refine ord_read (v := .agg [nv', sv', .bool false, .int .i64 0].toArray) (by rfl) (by rfl) (fun u hu => by (obtain ⟨hu1, hu2⟩ := hu; refine run_load_row (ty := 58) (b := eb') (off := k * 4) (x := .tmp 24) ?_ ?_ hu2 Try.underlying58 rfl (by kernel_rfl); clear hu1 hu2; rfl; clear hu1 hu2; go_simp)) ?_
      refine ord_nil ?_
      simp only [List.drop_succ_cons, List.drop_zero, Act.put, List.setIfInBounds_toArray, List.set_cons_zero, List.set_cons_succ, List.getElem_toArray, List.getElem_cons_succ, List.getElem_cons_zero]
      go_wp2_with fail
      refine HS.out.mono ?_
      rintro e w2 ⟨⟨b, rfl, hb⟩, hb2⟩
      clear HS
      have HB2 := Lib.hid ((HB.out.drew).trans (hb2.mono HB.out.size))
      have HQ := Lib.hid hb
      clear hb hb2
      cases b
      · go_wp2_with fail
        refine NoPanic.normal ?_
        go_wp2_with fail
        go_ret
        refine ⟨⟨_, rfl, fun h => absurd (HQ.out ?_ ?_) (by simp)⟩, HB2.out⟩
        · rw [h k hlt]
        · rw [h k hlt]
      · go_wp2_with fail
        refine NoPanic.normal ?_
        go_wp2_with fail
        go_roundw
        case rel => exact ⟨k + 1, by go_num, by omega, HB2.out⟩
        case measure => simp [intOf]; omega
    · go_wp2_with fail
      go_ret
      exact ⟨⟨_, rfl, fun _ => rfl⟩, HB.out⟩
end Go.Proofs.Ytjmohkgbfigcgaa.Sh
