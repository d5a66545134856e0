/- The statement QuotaBack: for every input the law answers true, and each argument reads behind the call as before. -/
import Derived.Test.YtojmbjkeckdilaaRows
import Derived.Test.YtojmbjkeckdilaaQuotaD
import Derived.Test.YtojmbjkeckdilaaFrame
namespace Go.Proofs.Ytojmbjkeckdilaa.quotaBack
open Go.ChangeShapes Go.WideShapes Go.ChangeAt Go.RowKit
set_option linter.unusedVariables false

theorem own : ownKnob Try.prog.godebug = none := by kernel_rfl
theorem laidOut : laidOutB Try.prog = true := by kernel_rfl

set_option maxRecDepth 100000 in
theorem lifted (os : Os) (started : os.Started) (H : Type) (enc : TypeId × Value → H) :
    ReturnsInHanded {} Try.checked os 5 .any (Rows.quotaBackSpec.pre6 enc Try.prog Try.f5 Rows.quotaBackRow.domain false) (Rows.quotaBackSpec.post enc Try.prog Try.f5 false true false false) := by
  refine returnsInHanded_of_change (C := Try.checked) own started (by kernel_rfl) Try.func5
    (ChangeSpec.witness6 (enc := enc) (C := Try.checked) false ⟨#[], #[.int .u16 0, .int .u16 0, .slice none 0 0], []⟩ 8 (by kernel_rfl) (by kernel_rfl) (by kernel_rfl) (by kernel_rfl)) ?_
  intro W base args ds gs before hval0 hW hcnd _
  have hval : ∀ (j : Nat) t v, Try.f5.params[j]? = some t → args[j]? = some v → Value.okWide Try.prog W .any base t v := hval0
  have hW' := hW
  obtain ⟨p, q, hA0, hV, rfl, hfz, hnd⟩ := hW
  have hA : DataW.TrodAll enc Try.prog W 0 (fun _ => true) true Try.f5.params.toList args.toList ds p := hA0
  rw [Try.params5] at hA hval
  have hA2 := hA
  obtain ⟨v0, vs0, d0, ds0, p0, q0, hargs, rfl, rfl, h0, r0⟩ := trodAll_cons hA
  obtain ⟨v1, vs1, d1, ds1, p1, q1, rfl, rfl, rfl, h1, r1⟩ := trodAll_cons r0
  obtain ⟨v2, vs2, d2, ds2, p2, q2, rfl, rfl, rfl, h2, r2⟩ := trodAll_cons r1
  obtain ⟨rfl, rfl, rfl⟩ := trodAll_nil r2
  obtain rfl : args = #[v0, v1, v2] := by cases args; simp_all
  obtain ⟨rfl, rfl⟩ := trodVars_none hV
  obtain ⟨k0, rfl, -, -, w0⟩ := open_int Try.underlying45 (hval 0 45 v0 rfl rfl) h0
  obtain ⟨k1, rfl, -, -, w1⟩ := open_int Try.underlying45 (hval 1 45 v1 rfl rfl) h1
  obtain ⟨a2, len2, cap2, rfl⟩ := okWide_slice Try.underlying46 (hval 2 46 v2 rfl rfl)
  obtain ⟨a', len', cap', zs, e, hz⟩ : ∃ a len cap zs, [Value.slice a2 len2 cap2] = [.slice a len cap] ∧ SliceAt W 2 pairR a len cap zs := by
    obtain ⟨fuel, hf⟩ := h2
    refine open_sl (R := pairR) Try.underlying46 (by kernel_rfl) (by decide) ?_ hf
    intro fuel cs x h
    obtain ⟨xs, n, -, -, hlen, hx, hel⟩ := DataW.trod_array Try.underlying34 h
    have c1 : Try.prog.cellsOf 3 = 1 := by kernel_rfl
    have c2 : Try.prog.cellsOf 34 = 2 := by kernel_rfl
    rw [c2] at hlen
    match cs, hlen with
    | [y0, y1], _ =>
      have e0 := hel 0 (by omega)
      have e1 := hel 1 (by omega)
      rw [c1, List.getElem?_eq_getElem (by omega)] at e0 e1
      obtain ⟨n0, q0, r0⟩ := trod_i64 Try.underlying3 e0
      obtain ⟨n1, q1, r1⟩ := trod_i64 Try.underlying3 e1
      simp at q0 q1
      subst q0 q1
      exact ⟨(n0, n1), rfl, r0, r1⟩
  simp only [List.cons.injEq, Value.slice.injEq, and_true] at e
  obtain ⟨rfl, rfl, rfl⟩ := e
  simp [Lit.wf, IntKind.min, IntKind.max, IntKind.signed, IntKind.bits] at w0 w1
  clear hA0 hval0
  refine (back_any k0 k1 a2 len2 cap2 zs W (by omega) (by omega) (by omega) (by omega) hz).mono fun e W' ⟨he, bel⟩ => ?_
  subst he
  exact ⟨_, rfl, _, _, _, [], _, [], hW', trodAll_mk1 (shut_bool Try.underlying4 _), trodAll_below laidOut bel _ _ _ _ (by kernel_rfl) hA2, rfl, bel.frame _, fun h => by cases h⟩

theorem proved : Rows.QuotaBackSaid :=
  OpenClaim.holds_of_wide 5 Try.f5 rfl rfl rfl rfl rfl rfl rfl ⟨rfl, rfl, rfl, rfl, rfl⟩ rfl rfl rfl rfl rfl (by kernel_rfl) Try.func5 (by kernel_rfl)
    (of_decide_eq_true (by kernel_rfl)) (by unfold Func.isWrapper; first | (rw [if_pos (by decide +kernel)]; kernel_rfl) | (rw [if_neg (by decide +kernel)]; exact ⟨rfl, rfl⟩))
    (fun os started H enc _ => lifted os started H enc)
#print axioms proved
end Go.Proofs.Ytojmbjkeckdilaa.quotaBack
