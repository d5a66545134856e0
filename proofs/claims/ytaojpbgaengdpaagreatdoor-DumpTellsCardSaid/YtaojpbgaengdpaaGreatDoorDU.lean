/- The statement DumpTells, as a tied card: for every input the law answers true, and each argument reads behind the call as before. -/
import Derived.Deep.DeepHandedRow
import Derived.Lay
import Derived.Test.YtaojpbgaengdpaaGreatDoorDU24
import Derived.Test.YtaojpbgaengdpaaGreatDoorDU3
import Derived.Test.YtaojpbgaengdpaaGreatDoorCards
import Derived.Test.YtaojpbgaengdpaaGreatDoorTie
import Derived.Test.YtaojpbgaengdpaaGreatDoorDU44
set_option linter.unusedVariables false
set_option linter.unusedSimpArgs false
/- How a seed reads: its mounts and its items. -/
namespace Go.Proofs.YtaojpbgaengdpaaGreatDoor

open Go.RowKit Go.ChangeShapes Go.WideShapes Go.ChangeAt

section

variable {H : Type} {enc : TypeId × Value → H} {w : World} {base : Nat} {spare : Nat → Bool} {held : Bool}

theorem trod_fields5 {P : Program} {t : TypeId} {fs : Array Field} {fuel : Nat} {cs : List Value} {x : DataW H × List MemPlace} (ht : P.underlying t = some (.struct fs)) (h : DataW.trod enc P w base spare held fuel t cs = some x) :
    cs.length = P.cellsOf t ∧ ∃ n, ∀ (i : Nat) (ty : TypeId) (off k : Nat) (l : List Value), (fs[i]?.map fun f => (f.type, f.offset)) = some (ty, off) → P.cellsOf ty = k → (cs.drop off).take k = l → ∃ y, DataW.trod enc P w base spare held n ty l = some y := by
  obtain ⟨xs, n, -, -, h1, h2, h3⟩ := DataW.trod_struct ht h
  refine ⟨h1, n, fun i ty off k l hf hk hl => ?_⟩
  obtain ⟨f, hf1, e⟩ := Option.map_eq_some_iff.1 hf
  clear hf
  injection e with e1 e2
  subst e1 e2 hk hl
  have hi : i < xs.length := by
    rw [h2]
    exact (Array.getElem?_eq_some_iff.1 hf1).1
  exact ⟨xs[i], by rw [h3 i f hf1, List.getElem?_eq_getElem hi]⟩
set_option maxRecDepth 100000 in
theorem trod_mt {fuel : Nat} {cs : List Value} {x : DataW H × List MemPlace} (h : DataW.trod enc Tryz.prog w base spare held fuel 57 cs = some x) : ∃ y : Mt, mtR cs y := by
  obtain ⟨h1, n, h2⟩ := trod_fields5 Tryz.underlying57 h
  have hc : Tryz.prog.cellsOf 57 = 3 := by kernel_rfl
  have c1 : Tryz.prog.cellsOf 9 = 1 := by kernel_rfl
  have c2 : Tryz.prog.cellsOf 3 = 1 := by kernel_rfl
  rw [hc] at h1
  match cs, h1 with
  | [a0, a1, a2], _ =>
    obtain ⟨y0, k0⟩ := h2 0 9 0 1 [a0] rfl c1 rfl
    obtain ⟨y1, k1⟩ := h2 1 3 1 1 [a1] rfl c2 rfl
    obtain ⟨y2, k2⟩ := h2 2 3 2 1 [a2] rfl c2 rfl
    obtain ⟨s, e0, -⟩ := trod_str Tryz.underlying9 k0
    obtain ⟨n1, e1, -⟩ := trod_i64 Tryz.underlying3 k1
    obtain ⟨n2, e2, -⟩ := trod_i64 Tryz.underlying3 k2
    simp at e0 e1 e2
    subst e0 e1 e2
    exact ⟨⟨s, n1, n2⟩, rfl⟩
set_option maxRecDepth 100000 in
theorem trod_it {fuel : Nat} {cs : List Value} {x : DataW H × List MemPlace} (h : DataW.trod enc Tryz.prog w base spare held fuel 59 cs = some x) : ∃ y : It, itR cs y := by
  obtain ⟨h1, n, h2⟩ := trod_fields5 Tryz.underlying59 h
  have hc : Tryz.prog.cellsOf 59 = 7 := by kernel_rfl
  have c1 : Tryz.prog.cellsOf 9 = 1 := by kernel_rfl
  have c2 : Tryz.prog.cellsOf 3 = 1 := by kernel_rfl
  rw [hc] at h1
  match cs, h1 with
  | [a0, a1, a2, a3, a4, a5, a6], _ =>
    obtain ⟨y0, k0⟩ := h2 0 9 0 1 [a0] rfl c1 rfl
    obtain ⟨y1, k1⟩ := h2 1 3 1 1 [a1] rfl c2 rfl
    obtain ⟨y2, k2⟩ := h2 2 3 2 1 [a2] rfl c2 rfl
    obtain ⟨y3, k3⟩ := h2 3 3 3 1 [a3] rfl c2 rfl
    obtain ⟨y4, k4⟩ := h2 4 3 4 1 [a4] rfl c2 rfl
    obtain ⟨y5, k5⟩ := h2 5 3 5 1 [a5] rfl c2 rfl
    obtain ⟨y6, k6⟩ := h2 6 9 6 1 [a6] rfl c1 rfl
    obtain ⟨s, e0, -⟩ := trod_str Tryz.underlying9 k0
    obtain ⟨n1, e1, -⟩ := trod_i64 Tryz.underlying3 k1
    obtain ⟨n2, e2, -⟩ := trod_i64 Tryz.underlying3 k2
    obtain ⟨n3, e3, -⟩ := trod_i64 Tryz.underlying3 k3
    obtain ⟨n4, e4, -⟩ := trod_i64 Tryz.underlying3 k4
    obtain ⟨n5, e5, -⟩ := trod_i64 Tryz.underlying3 k5
    obtain ⟨s6, e6, -⟩ := trod_str Tryz.underlying9 k6
    simp at e0 e1 e2 e3 e4 e5 e6
    subst e0 e1 e2 e3 e4 e5 e6
    exact ⟨⟨s, n1, n2, n3, n4, n5, s6⟩, rfl⟩
set_option maxRecDepth 100000 in
theorem trod_seed {fuel : Nat} {cs : List Value} {x : DataW H × List MemPlace} (h : DataW.trod enc Tryz.prog w base spare held fuel 25 cs = some x) :
    ∃ ma mn mc ia il ic ms is, cs = [.slice ma mn mc, .slice ia il ic] ∧ SdAt w ma mn mc ia il ic ms is := by
  obtain ⟨h1, n, h2⟩ := trod_fields5 Tryz.underlying25 h
  have hc : Tryz.prog.cellsOf 25 = 2 := by kernel_rfl
  have c1 : Tryz.prog.cellsOf 22 = 1 := by kernel_rfl
  have c2 : Tryz.prog.cellsOf 23 = 1 := by kernel_rfl
  rw [hc] at h1
  match cs, h1 with
  | [a0, a1], _ =>
    obtain ⟨y0, k0⟩ := h2 0 22 0 1 [a0] rfl c1 rfl
    obtain ⟨y1, k1⟩ := h2 1 23 1 1 [a1] rfl c2 rfl
    obtain ⟨ma, mn, mc, ms, e0, hm⟩ := open_sl (R := mtR) (sz := 3) Tryz.underlying22 (by kernel_rfl) (by decide) (fun fuel cs x h => trod_mt h) k0
    obtain ⟨ia, il, ic, is, e1, hi⟩ := open_sl (R := itR) (sz := 7) Tryz.underlying23 (by kernel_rfl) (by decide) (fun fuel cs x h => trod_it h) k1
    simp at e0 e1
    subst e0 e1
    exact ⟨ma, mn, mc, ia, il, ic, ms, is, rfl, ⟨hm, hi⟩⟩
end

end Go.Proofs.YtaojpbgaengdpaaGreatDoor

/- The statement DumpTells, as a tied card: for every input the law answers true, and each argument reads behind the call as before. -/
namespace Go.Proofs.YtaojpbgaengdpaaGreatDoor.dumpTells

open Go.ChangeShapes Go.WideShapes Go.ChangeAt Go.RowKit

set_option linter.unusedVariables false

theorem own : ownKnob Tryz.prog.godebug = none := by kernel_rfl
theorem laidOut : laidOutB Tryz.prog = true := by kernel_rfl

set_option maxRecDepth 100000 in
theorem contract (H : Type) (enc : TypeId × Value → H) (W : World) (base : Nat) (args : Array Value) (ds gs : List (DataW H)) (before : List MemPlace)
    (hval0 : ∀ (j : Nat) t v, Tryz.f3.params[j]? = some t → args[j]? = some v → Value.okWide Tryz.prog W .any base t v)
    (hW : DataW.Whole enc Tryz.prog Tryz.f3.params.toList Rows.dumpTellsSpec.vars false W args.toList ds gs before) (hsh : W.ShapedOpen Tryz.prog) :
    Calls Tryz.prog 3 args W fun e W' => ∃ v, e = .returned v ∧ Rows.dumpTellsSpec.post enc Tryz.prog Tryz.f3 false true false false W args v W' := by
  have hval : ∀ (j : Nat) t v, Tryz.f3.params[j]? = some t → args[j]? = some v → Value.okWide Tryz.prog W .any base t v := hval0
  have hW' := hW
  obtain ⟨p, q, hA0, hV, rfl, hfz, hnd⟩ := hW
  have hA : DataW.TrodAll enc Tryz.prog W 0 (fun _ => true) true Tryz.f3.params.toList args.toList ds p := hA0
  rw [Tryz.params3] at hA hval
  have hA2 := hA
  obtain ⟨v0, vs0, d0, ds0, p0, q0, hargs, rfl, rfl, h0, r0⟩ := trodAll_cons hA
  obtain ⟨v1, vs1, d1, ds1, p1, q1, rfl, rfl, rfl, h1, r1⟩ := trodAll_cons r0
  obtain ⟨rfl, rfl, rfl⟩ := trodAll_nil r1
  obtain rfl : args = #[v0, v1] := by cases args; simp_all
  obtain ⟨rfl, rfl⟩ := trodVars_none hV
  obtain ⟨cs, rfl, hsz, hok⟩ := struct_ok Tryz.underlying25 (hval 0 25 v0 rfl rfl)
  obtain ⟨ma, mn, mc, ia, il, ic, ms, is, e, hsd⟩ : ∃ ma mn mc ia il ic ms is, cs = #[.slice ma mn mc, .slice ia il ic] ∧ SdAt W ma mn mc ia il ic ms is := by
    obtain ⟨fuel, hf⟩ := h0
    obtain ⟨ma, mn, mc, ia, il, ic, ms, is, e, h⟩ := trod_seed hf
    exact ⟨ma, mn, mc, ia, il, ic, ms, is, Array.ext' e, h⟩
  subst e
  obtain ⟨s1, rfl, -, -, hs1⟩ := ChangeMaps.open_string Tryz.underlying9 (hval 1 9 v1 rfl rfl) h1
  clear hA0 hval0
  refine (dumpTells_any W hsd s1 (by unfold maxLen at hs1; exact hs1)).mono fun e W' ⟨he, bel⟩ => ?_
  subst he
  exact ⟨_, rfl, _, _, _, [], _, [], hW', trodAll_mk1 (shut_bool Tryz.underlying4 _), trodAll_below laidOut bel _ _ _ _ (by kernel_rfl) hA2, rfl, bel.frame _, fun h => by cases h⟩

theorem laid_met (os : Os) : laidMetH Tryz.prog Rows.dumpTellsRow.laid ((World.laidAll Tryz.prog os Rows.dumpTellsRow.laid).forCall (fun _ _ => 0) ⟨#[], #[.agg #[.slice none 0 0, .slice none 0 0], .string ByteArray.empty], []⟩).memory :=
  laidMet_laidAll _ (by kernel_rfl) (by kernel_rfl)
theorem reads (os : Os) {H : Type} (enc : TypeId × Value → H) : ∃ places, DataW.whole enc Tryz.prog ((World.laidAll Tryz.prog os Rows.dumpTellsRow.laid).forCall (fun _ _ => 0) ⟨#[], #[.agg #[.slice none 0 0, .slice none 0 0], .string ByteArray.empty], []⟩).memory Tryz.f3.params.toList Rows.dumpTellsSpec.vars false #[(.agg #[.slice none 0 0, .slice none 0 0] : Value), (.string ByteArray.empty : Value)].toList 8 = some ([.agg [.nil, .nil], .lit (.string [])], [], places) :=
  ⟨[], by kernel_rfl⟩

set_option maxRecDepth 100000 in
theorem lifted (os : Os) (started : os.Started) (H : Type) (enc : TypeId × Value → H) (F : Stop.Interp) :
    ReturnsInHanded {} Tryz.checked os 3 .any ((OpenSpec.ofChange Rows.dumpTellsSpec).preRow enc Tryz.prog Tryz.f3 Rows.dumpTellsRow.domain false Rows.dumpTellsRow.laid) (((OpenSpec.ofChange Rows.dumpTellsSpec).at F).post enc Tryz.prog Tryz.f3 false true false false) := by
  obtain ⟨places, hx⟩ := reads os enc
  refine returnsInHanded_of_row (C := Tryz.checked) (s := OpenSpec.ofChange Rows.dumpTellsSpec) own started (by kernel_rfl) Tryz.func3
    (witness_row_at (enc := enc) (C := Tryz.checked) false (World.laidAll Tryz.prog os Rows.dumpTellsRow.laid) #[.agg #[.slice none 0 0, .slice none 0 0], .string ByteArray.empty] rfl (by kernel_rfl) (by kernel_rfl) (by kernel_rfl)
      (OpenSpec.preRow_of_cond 8 hx (by kernel_rfl) (fun k hk => by cases hk) (by kernel_rfl) (laid_met os))) ?_
  intro W base args ds gs before hval hW _ _ _ _ hsh _
  exact contract H enc W base args ds gs before hval hW hsh

theorem said : Rows.DumpTellsSaid :=
  OpenClaim.holds_of_cond 3 Tryz.f3 rfl rfl rfl rfl rfl rfl rfl ⟨rfl, rfl, rfl, rfl, rfl⟩ rfl rfl rfl rfl rfl (by kernel_rfl) Tryz.func3 (by kernel_rfl)
    (of_decide_eq_true (by kernel_rfl)) (by unfold Func.isWrapper; first | (rw [if_pos (by decide +kernel)]; kernel_rfl) | (rw [if_neg (by decide +kernel)]; exact ⟨rfl, rfl⟩))
    (fun os started H enc _ F => by rw [OpenClaim.pre_eq_preRow]; exact lifted os started H enc F)
theorem plain (f : FuncId) (fn : Func) (hf : Tryz.pinned.checked.prog.funcNamed "ragpicker/ragpickerlaw23.DumpTells" = some f) (hfn : Tryz.pinned.checked.prog.funcs[f]? = some fn) :
    false = Tryz.pinned.checked.prog.looks [] ∧ ∀ (j : Nat) t, fn.params[j]? = some t → Tryz.pinned.checked.prog.wantsStandIn t = false := by
  obtain rfl : f = 3 := Option.some.inj ((show Tryz.prog.funcNamed "ragpicker/ragpickerlaw23.DumpTells" = some 3 by kernel_rfl).symm.trans hf) |>.symm
  obtain rfl : fn = Tryz.f3 := (Option.some.inj (Tryz.func3.symm.trans hfn)).symm
  refine ⟨by kernel_rfl, fun j t ht => ?_⟩
  rw [Tryz.params3] at ht
  have hm := Array.mem_of_getElem? ht
  simp only [List.mem_toArray, List.mem_cons, List.not_mem_nil, or_false] at hm
  rcases hm with rfl | rfl
  · exact (show Tryz.prog.wantsStandIn 25 = false by kernel_rfl)
  · exact (show Tryz.prog.wantsStandIn 9 = false by kernel_rfl)
/-- the card. -/
theorem proved : Rows.DumpTellsCardSaid :=
  Claim7.holds_tied_plain_at .later [] _ _ _ _ said (fun _ h => by cases h) (by kernel_rfl) (fun _ h => by cases h) dumpTells_row_tie rfl ⟨rfl, rfl⟩ (by kernel_rfl) rfl plain (by kernel_rfl)
#print axioms proved

end Go.Proofs.YtaojpbgaengdpaaGreatDoor.dumpTells
