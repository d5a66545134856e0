/- The statement TablePlays: for every input the law answers true, and each argument reads behind the call as before. -/
import Derived.Test.YtojmbjkeckdilaaRows
import Derived.Test.YtojmbjkeckdilaaPlayC
import Derived.Test.YtojmbjkeckdilaaFrame3
import Derived.Test.YtojmbjkeckdilaaFrame
namespace Go.Proofs.Ytojmbjkeckdilaa.tablePlays
open Go.ChangeShapes Go.WideShapes Go.ChangeAt Go.RowKit
set_option linter.unusedVariables false

theorem own : ownKnob Try.prog.godebug = none := by kernel_rfl
theorem laidOut : laidOutB Try.prog = true := by kernel_rfl

section
variable {H : Type} {enc : TypeId × Value → H} {w : World} {base : Nat} {spare : Nat → Bool} {held : Bool}
set_option maxRecDepth 100000 in
theorem trod_deed {fuel : Nat} {cs : List Value} {x : DataW H × List MemPlace} (h : DataW.trod enc Try.prog w base spare held fuel 61 cs = some x) : ∃ y : Int × Nd, deedR cs y ∧ EntsOk w y.2 := by
  obtain ⟨h1, n, h2⟩ := trod_fields Try.underlying61 h
  have hc : Try.prog.cellsOf 61 = 13 := by kernel_rfl
  have ci : Try.prog.cellsOf 3 = 1 := by kernel_rfl
  have cn : Try.prog.cellsOf 29 = 12 := by kernel_rfl
  rw [hc] at h1
  match cs, h1 with
  | [a0, a1, a2, a3, a4, a5, a6, a7, a8, a9, a10, a11, a12], _ =>
    obtain ⟨y0, k0⟩ := h2 0 3 0 1 [a0] rfl ci rfl
    obtain ⟨y1, k1⟩ := h2 1 29 1 12 [a1, a2, a3, a4, a5, a6, a7, a8, a9, a10, a11, a12] rfl cn rfl
    obtain ⟨n0, e0, -⟩ := trod_i64 Try.underlying3 k0
    obtain ⟨nd, e1, he⟩ := trod_node k1
    simp at e0
    subst e0
    rw [e1]
    exact ⟨(n0, nd), rfl, he⟩
end

set_option maxRecDepth 100000 in
theorem lifted (os : Os) (started : os.Started) (H : Type) (enc : TypeId × Value → H) :
    ReturnsInHanded {} Try.checked os 9 .any (Rows.tablePlaysSpec.pre6 enc Try.prog Try.f9 Rows.tablePlaysRow.domain false) (Rows.tablePlaysSpec.post enc Try.prog Try.f9 false true false false) := by
  refine returnsInHanded_of_change (C := Try.checked) own started (by kernel_rfl) Try.func9
    (ChangeSpec.witness6 (enc := enc) (C := Try.checked) false ⟨#[], #[.slice none 0 0, .int .i64 0], []⟩ 8 (by kernel_rfl) (by kernel_rfl) (by kernel_rfl) (by kernel_rfl)) ?_
  intro W base args ds gs before hval0 hW hcnd _
  have hval : ∀ (j : Nat) t v, Try.f9.params[j]? = some t → args[j]? = some v → Value.okWide Try.prog W .any base t v := hval0
  have hW' := hW
  obtain ⟨p, q, hA0, hV, rfl, hfz, hnd⟩ := hW
  have hA : DataW.TrodAll enc Try.prog W 0 (fun _ => true) true Try.f9.params.toList args.toList ds p := hA0
  rw [Try.params9] at hA hval
  have hA2 := hA
  obtain ⟨v0, vs0, d0, ds0, p0, q0, hargs, rfl, rfl, h0, r0⟩ := trodAll_cons hA
  obtain ⟨v1, vs1, d1, ds1, p1, q1, rfl, rfl, rfl, h1, r1⟩ := trodAll_cons r0
  obtain ⟨rfl, rfl, rfl⟩ := trodAll_nil r1
  obtain rfl : args = #[v0, v1] := by cases args; simp_all
  obtain ⟨rfl, rfl⟩ := trodVars_none hV
  obtain ⟨a2, len2, cap2, rfl⟩ := okWide_slice Try.underlying58 (hval 0 58 v0 rfl rfl)
  obtain ⟨a', len', cap', zs, e, hz⟩ : ∃ a len cap zs, [Value.slice a2 len2 cap2] = [.slice a len cap] ∧ SliceAt W 13 (fun cs (x : Int × Nd) => deedR cs x ∧ EntsOk W x.2) a len cap zs := by
    obtain ⟨fuel, hf⟩ := h0
    exact open_sl (R := fun cs (x : Int × Nd) => deedR cs x ∧ EntsOk W x.2) Try.underlying58 (by kernel_rfl) (by decide) (fun fuel cs x h => trod_deed h) hf
  simp only [List.cons.injEq, Value.slice.injEq, and_true] at e
  obtain ⟨rfl, rfl, rfl⟩ := e
  obtain ⟨k0, rfl, -, -, w0⟩ := open_int Try.underlying3 (hval 1 3 v1 rfl rfl) h1
  have hzd : SliceAt W 13 deedR a2 len2 cap2 zs := by
    obtain ⟨g1, g2, g3, g4⟩ := hz
    exact ⟨g1, g2, g3, g4.imp id fun ⟨b, off, ha, hb, hel⟩ => ⟨b, off, ha, hb, fun i hi => by obtain ⟨cs, c1, c2, c3⟩ := hel i hi; exact ⟨cs, c1, c2.1, c3⟩⟩⟩
  have hzE : ∀ x ∈ zs, EntsOk W x.2 := by
    intro x hx
    obtain ⟨g1, g2, g3, g4 | ⟨b, off, ha, hb, hel⟩⟩ := hz
    · subst g4
      rw [List.eq_nil_of_length_eq_zero g1] at hx
      cases hx
    · obtain ⟨i, hi, rfl⟩ := List.getElem_of_mem hx
      obtain ⟨cs, c1, c2, c3⟩ := hel i hi
      exact c2.2
  clear hA0 hval0
  refine (plays_any a2 len2 cap2 zs k0 W hzd hzE).mono fun e W' ⟨he, bel⟩ => ?_
  subst he
  exact ⟨_, rfl, _, _, _, [], _, [], hW', trodAll_mk1 (shut_bool Try.underlying4 _), trodAll_below laidOut bel _ _ _ _ (by kernel_rfl) hA2, rfl, bel.frame _, fun h => by cases h⟩

theorem proved : Rows.TablePlaysSaid :=
  OpenClaim.holds_of_wide 9 Try.f9 rfl rfl rfl rfl rfl rfl rfl ⟨rfl, rfl, rfl, rfl, rfl⟩ rfl rfl rfl rfl rfl (by kernel_rfl) Try.func9 (by kernel_rfl)
    (of_decide_eq_true (by kernel_rfl)) (by unfold Func.isWrapper; first | (rw [if_pos (by decide +kernel)]; kernel_rfl) | (rw [if_neg (by decide +kernel)]; exact ⟨rfl, rfl⟩))
    (fun os started H enc _ => lifted os started H enc)
#print axioms proved
end Go.Proofs.Ytojmbjkeckdilaa.tablePlays
