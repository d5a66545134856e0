/- The statement ClaimTaken: for every input the law answers true, and each argument reads behind the call as before. -/
import Derived.Test.YtihdbncoijhihaaGreatCK27
import Derived.Test.YtihdbncoijhihaaGreatCK3
import Derived.Test.YtihdbncoijhihaaGreatCK19
import Derived.Test.YtihdbncoijhihaaGreatRows
import Derived.Test.YtihdbncoijhihaaGreatCK48
import Derived.Test.YtihdbncoijhihaaGreatCK35
set_option linter.unusedVariables false
set_option linter.unusedSimpArgs false
/- How a seed reads: its mounts and its items. -/
namespace Go.Proofs.YtihdbncoijhihaaGreat

open Go.RowKit Go.ChangeShapes Go.WideShapes Go.ChangeAt

section

variable {H : Type} {enc : TypeId × Value → H} {w : World} {base : Nat} {spare : Nat → Bool} {held : Bool}

theorem trod_fields5 {P : Program} {t : TypeId} {fs : Array Field} {fuel : Nat} {cs : List Value} {x : DataW H × List MemPlace} (ht : P.underlying t = some (.struct fs)) (h : DataW.trod enc P w base spare held fuel t cs = some x) :
    cs.length = P.cellsOf t ∧ ∃ n, ∀ (i : Nat) (ty : TypeId) (off k : Nat) (l : List Value), (fs[i]?.map fun f => (f.type, f.offset)) = some (ty, off) → P.cellsOf ty = k → (cs.drop off).take k = l → ∃ y, DataW.trod enc P w base spare held n ty l = some y := by
  obtain ⟨xs, n, -, -, h1, h2, h3⟩ := DataW.trod_struct ht h
  refine ⟨h1, n, fun i ty off k l hf hk hl => ?_⟩
  obtain ⟨f, hf1, e⟩ := Option.map_eq_some_iff.1 hf
  clear hf
  injection e with e1 e2
  subst e1 e2 hk hl
  have hi : i < xs.length := by
    rw [h2]
    exact (Array.getElem?_eq_some_iff.1 hf1).1
  exact ⟨xs[i], by rw [h3 i f hf1, List.getElem?_eq_getElem hi]⟩
set_option maxRecDepth 100000 in
theorem trod_mt {fuel : Nat} {cs : List Value} {x : DataW H × List MemPlace} (h : DataW.trod enc Tryz.prog w base spare held fuel 114 cs = some x) : ∃ y : Mt, mtR cs y := by
  obtain ⟨h1, n, h2⟩ := trod_fields5 Tryz.underlying114 h
  have hc : Tryz.prog.cellsOf 114 = 3 := by kernel_rfl
  have c1 : Tryz.prog.cellsOf 9 = 1 := by kernel_rfl
  have c2 : Tryz.prog.cellsOf 3 = 1 := by kernel_rfl
  rw [hc] at h1
  match cs, h1 with
  | [a0, a1, a2], _ =>
    obtain ⟨y0, k0⟩ := h2 0 9 0 1 [a0] rfl c1 rfl
    obtain ⟨y1, k1⟩ := h2 1 3 1 1 [a1] rfl c2 rfl
    obtain ⟨y2, k2⟩ := h2 2 3 2 1 [a2] rfl c2 rfl
    obtain ⟨s, e0, -⟩ := trod_str Tryz.underlying9 k0
    obtain ⟨n1, e1, -⟩ := trod_i64 Tryz.underlying3 k1
    obtain ⟨n2, e2, -⟩ := trod_i64 Tryz.underlying3 k2
    simp at e0 e1 e2
    subst e0 e1 e2
    exact ⟨⟨s, n1, n2⟩, rfl⟩
set_option maxRecDepth 100000 in
theorem trod_it {fuel : Nat} {cs : List Value} {x : DataW H × List MemPlace} (h : DataW.trod enc Tryz.prog w base spare held fuel 116 cs = some x) : ∃ y : It, itR cs y := by
  obtain ⟨h1, n, h2⟩ := trod_fields5 Tryz.underlying116 h
  have hc : Tryz.prog.cellsOf 116 = 7 := by kernel_rfl
  have c1 : Tryz.prog.cellsOf 9 = 1 := by kernel_rfl
  have c2 : Tryz.prog.cellsOf 3 = 1 := by kernel_rfl
  rw [hc] at h1
  match cs, h1 with
  | [a0, a1, a2, a3, a4, a5, a6], _ =>
    obtain ⟨y0, k0⟩ := h2 0 9 0 1 [a0] rfl c1 rfl
    obtain ⟨y1, k1⟩ := h2 1 3 1 1 [a1] rfl c2 rfl
    obtain ⟨y2, k2⟩ := h2 2 3 2 1 [a2] rfl c2 rfl
    obtain ⟨y3, k3⟩ := h2 3 3 3 1 [a3] rfl c2 rfl
    obtain ⟨y4, k4⟩ := h2 4 3 4 1 [a4] rfl c2 rfl
    obtain ⟨y5, k5⟩ := h2 5 3 5 1 [a5] rfl c2 rfl
    obtain ⟨y6, k6⟩ := h2 6 9 6 1 [a6] rfl c1 rfl
    obtain ⟨s, e0, -⟩ := trod_str Tryz.underlying9 k0
    obtain ⟨n1, e1, -⟩ := trod_i64 Tryz.underlying3 k1
    obtain ⟨n2, e2, -⟩ := trod_i64 Tryz.underlying3 k2
    obtain ⟨n3, e3, -⟩ := trod_i64 Tryz.underlying3 k3
    obtain ⟨n4, e4, -⟩ := trod_i64 Tryz.underlying3 k4
    obtain ⟨n5, e5, -⟩ := trod_i64 Tryz.underlying3 k5
    obtain ⟨s6, e6, -⟩ := trod_str Tryz.underlying9 k6
    simp at e0 e1 e2 e3 e4 e5 e6
    subst e0 e1 e2 e3 e4 e5 e6
    exact ⟨⟨s, n1, n2, n3, n4, n5, s6⟩, rfl⟩
set_option maxRecDepth 100000 in
theorem trod_seed {fuel : Nat} {cs : List Value} {x : DataW H × List MemPlace} (h : DataW.trod enc Tryz.prog w base spare held fuel 25 cs = some x) :
    ∃ ma mn mc ia il ic ms is, cs = [.slice ma mn mc, .slice ia il ic] ∧ SdAt w ma mn mc ia il ic ms is := by
  obtain ⟨h1, n, h2⟩ := trod_fields5 Tryz.underlying25 h
  have hc : Tryz.prog.cellsOf 25 = 2 := by kernel_rfl
  have c1 : Tryz.prog.cellsOf 22 = 1 := by kernel_rfl
  have c2 : Tryz.prog.cellsOf 23 = 1 := by kernel_rfl
  rw [hc] at h1
  match cs, h1 with
  | [a0, a1], _ =>
    obtain ⟨y0, k0⟩ := h2 0 22 0 1 [a0] rfl c1 rfl
    obtain ⟨y1, k1⟩ := h2 1 23 1 1 [a1] rfl c2 rfl
    obtain ⟨ma, mn, mc, ms, e0, hm⟩ := open_sl (R := mtR) (sz := 3) Tryz.underlying22 (by kernel_rfl) (by decide) (fun fuel cs x h => trod_mt h) k0
    obtain ⟨ia, il, ic, is, e1, hi⟩ := open_sl (R := itR) (sz := 7) Tryz.underlying23 (by kernel_rfl) (by decide) (fun fuel cs x h => trod_it h) k1
    simp at e0 e1
    subst e0 e1
    exact ⟨ma, mn, mc, ia, il, ic, ms, is, rfl, ⟨hm, hi⟩⟩
end

end Go.Proofs.YtihdbncoijhihaaGreat

/- How a case of the tree's statements reads. -/
namespace Go.Proofs.YtihdbncoijhihaaGreat

open Go.RowKit Go.ChangeShapes Go.WideShapes Go.ChangeAt

section

variable {H : Type} {enc : TypeId × Value → H} {w : World} {base : Nat} {spare : Nat → Bool} {held : Bool}

set_option maxRecDepth 100000 in
theorem trod_flt {fuel : Nat} {cs : List Value} {x : DataW H × List MemPlace} (h : DataW.trod enc Tryz.prog w base spare held fuel 242 cs = some x) : ∃ y : Int × Int, fltR cs y := by
  obtain ⟨h1, n, h2⟩ := trod_fields5 Tryz.underlying242 h
  have hc : Tryz.prog.cellsOf 242 = 2 := by kernel_rfl
  have c1 : Tryz.prog.cellsOf 3 = 1 := by kernel_rfl
  have c2 : Tryz.prog.cellsOf 39 = 1 := by kernel_rfl
  rw [hc] at h1
  match cs, h1 with
  | [a0, a1], _ =>
    obtain ⟨y0, k0⟩ := h2 0 3 0 1 [a0] rfl c1 rfl
    obtain ⟨y1, k1⟩ := h2 1 39 1 1 [a1] rfl c2 rfl
    obtain ⟨n0, e0, -⟩ := trod_i64 Tryz.underlying3 k0
    obtain ⟨n1, e1, -⟩ := trod_i64 Tryz.underlying39 k1
    simp at e0 e1
    subst e0 e1
    exact ⟨(n0, n1), rfl⟩
end

end Go.Proofs.YtihdbncoijhihaaGreat

/- How a case of the cans' statements reads. -/
namespace Go.Proofs.YtihdbncoijhihaaGreat

open Go.RowKit Go.ChangeShapes Go.WideShapes Go.ChangeAt

section

variable {H : Type} {enc : TypeId × Value → H} {w : World} {base : Nat} {spare : Nat → Bool} {held : Bool}

set_option maxRecDepth 100000 in
theorem trod_user {fuel : Nat} {cs : List Value} {x : DataW H × List MemPlace} (h : DataW.trod enc Tryz.prog w base spare held fuel 27 cs = some x) : ∃ u g s, cs = [.int .i64 u, .int .i64 g, .string s] ∧ (-9223372036854775808 ≤ u ∧ u ≤ 9223372036854775807) ∧ s.size ≤ 9223372036854775807 := by
  obtain ⟨h1, n, h2⟩ := trod_fields5 Tryz.underlying27 h
  have hc : Tryz.prog.cellsOf 27 = 3 := by kernel_rfl
  have c1 : Tryz.prog.cellsOf 3 = 1 := by kernel_rfl
  have c2 : Tryz.prog.cellsOf 9 = 1 := by kernel_rfl
  rw [hc] at h1
  match cs, h1 with
  | [a0, a1, a2], _ =>
    obtain ⟨y0, k0⟩ := h2 0 3 0 1 [a0] rfl c1 rfl
    obtain ⟨y1, k1⟩ := h2 1 3 1 1 [a1] rfl c1 rfl
    obtain ⟨y2, k2⟩ := h2 2 9 2 1 [a2] rfl c2 rfl
    obtain ⟨n0, e0, f0⟩ := trod_i64 Tryz.underlying3 k0
    obtain ⟨n1, e1, -⟩ := trod_i64 Tryz.underlying3 k1
    obtain ⟨s2, e2, h3⟩ := trod_str Tryz.underlying9 k2
    simp at e0 e1 e2
    subst e0 e1 e2
    exact ⟨n0, n1, s2, rfl, f0, h3⟩
set_option maxRecDepth 100000 in
theorem trod_case30 {fuel : Nat} {cs : List Value} {x : DataW H × List MemPlace} (h : DataW.trod enc Tryz.prog w base spare held fuel 30 cs = some x) :
    ∃ ma mn mc ia il ic ms is u g dt pt tx no now pa pn pc pl, cs = [.slice ma mn mc, .slice ia il ic, .int .i64 u, .int .i64 g, .string dt, .string pt, .string tx, .int .i64 no, .int .i64 now, .slice pa pn pc] ∧ SdAt w ma mn mc ia il ic ms is ∧ SliceAt w 2 fltR pa pn pc pl ∧ (-9223372036854775808 ≤ u ∧ u ≤ 9223372036854775807) ∧ dt.size ≤ 9223372036854775807 ∧ pt.size ≤ 9223372036854775807 ∧ tx.size ≤ 9223372036854775807 := by
  obtain ⟨h1, n, h2⟩ := trod_fields5 Tryz.underlying30 h
  have hc : Tryz.prog.cellsOf 30 = 10 := by kernel_rfl
  have c1 : Tryz.prog.cellsOf 25 = 2 := by kernel_rfl
  have c2 : Tryz.prog.cellsOf 27 = 3 := by kernel_rfl
  have c3 : Tryz.prog.cellsOf 3 = 1 := by kernel_rfl
  have c4 : Tryz.prog.cellsOf 9 = 1 := by kernel_rfl
  have c5 : Tryz.prog.cellsOf 28 = 1 := by kernel_rfl
  rw [hc] at h1
  match cs, h1 with
  | [a0, a1, a2, a3, a4, a5, a6, a7, a8, a9], _ =>
    obtain ⟨y0, k0⟩ := h2 0 25 0 2 [a0, a1] rfl c1 rfl
    obtain ⟨y1, k1⟩ := h2 1 27 2 3 [a2, a3, a4] rfl c2 rfl
    obtain ⟨y2, k2⟩ := h2 2 9 5 1 [a5] rfl c4 rfl
    obtain ⟨y3, k3⟩ := h2 3 9 6 1 [a6] rfl c4 rfl
    obtain ⟨y4, k4⟩ := h2 4 3 7 1 [a7] rfl c3 rfl
    obtain ⟨y5, k5⟩ := h2 5 3 8 1 [a8] rfl c3 rfl
    obtain ⟨y6, k6⟩ := h2 6 28 9 1 [a9] rfl c5 rfl
    obtain ⟨ma, mn, mc, ia, il, ic, ms, is, e0, hs⟩ := trod_seed k0
    obtain ⟨u, g, dt, e1, hu, hdt⟩ := trod_user k1
    obtain ⟨s2, e2, z2⟩ := trod_str Tryz.underlying9 k2
    obtain ⟨s3, e3, z3⟩ := trod_str Tryz.underlying9 k3
    obtain ⟨n4, e4, -⟩ := trod_i64 Tryz.underlying3 k4
    obtain ⟨n5, e5, -⟩ := trod_i64 Tryz.underlying3 k5
    obtain ⟨pa, pn, pc, pl, e6, hp⟩ := open_sl (R := fltR) (sz := 2) Tryz.underlying28 (by kernel_rfl) (by decide) (fun fuel cs x h => trod_flt h) k6
    simp at e0 e1 e2 e3 e4 e5 e6
    obtain ⟨rfl, rfl⟩ := e0
    obtain ⟨rfl, rfl, rfl⟩ := e1
    subst e2 e3 e4 e5 e6
    exact ⟨ma, mn, mc, ia, il, ic, ms, is, u, g, dt, s2, s3, n4, n5, pa, pn, pc, pl, rfl, hs, hp, hu, hdt, z2, z3⟩
end

end Go.Proofs.YtihdbncoijhihaaGreat

/- The statement ClaimTaken: for every input the law answers true, and each argument reads behind the call as before. -/
namespace Go.Proofs.YtihdbncoijhihaaGreat.claimTaken

open Go.ChangeShapes Go.WideShapes Go.ChangeAt Go.RowKit

set_option linter.unusedVariables false

theorem own : ownKnob Tryz.prog.godebug = none := by kernel_rfl
theorem laidOut : laidOutB Tryz.prog = true := by kernel_rfl

set_option maxRecDepth 100000 in
theorem lifted (os : Os) (started : os.Started) (H : Type) (enc : TypeId × Value → H) :
    ReturnsInHanded {} Tryz.checked os 4 .any (Rows.claimTakenSpec.pre6 enc Tryz.prog Tryz.f4 Rows.claimTakenRow.domain false) (Rows.claimTakenSpec.post enc Tryz.prog Tryz.f4 false true false false) := by
  refine returnsInHanded_of_change (C := Tryz.checked) own started (by kernel_rfl) Tryz.func4
    (ChangeSpec.witness6 (enc := enc) (C := Tryz.checked) false ⟨#[], #[.agg #[.slice none 0 0, .slice none 0 0, .int .i64 0, .int .i64 0, .string ByteArray.empty, .string ByteArray.empty, .string ByteArray.empty, .int .i64 0, .int .i64 0, .slice none 0 0], .slice none 0 0], []⟩ 8 (by kernel_rfl) (by kernel_rfl) (by kernel_rfl) (by kernel_rfl)) ?_
  intro W base args ds gs before hval0 hW hcnd _
  have hval : ∀ (j : Nat) t v, Tryz.f4.params[j]? = some t → args[j]? = some v → Value.okWide Tryz.prog W .any base t v := hval0
  have hW' := hW
  obtain ⟨p, q, hA0, hV, rfl, hfz, hnd⟩ := hW
  have hA : DataW.TrodAll enc Tryz.prog W 0 (fun _ => true) true Tryz.f4.params.toList args.toList ds p := hA0
  rw [Tryz.params4] at hA hval
  have hA2 := hA
  obtain ⟨v0, vs0, d0, ds0, p0, q0, hargs, rfl, rfl, h0, r0⟩ := trodAll_cons hA
  obtain ⟨v1, vs1, d1, ds1, p1, q1, rfl, rfl, rfl, h1, r1⟩ := trodAll_cons r0
  obtain ⟨rfl, rfl, rfl⟩ := trodAll_nil r1
  obtain rfl : args = #[v0, v1] := by cases args; simp_all
  obtain ⟨rfl, rfl⟩ := trodVars_none hV
  obtain ⟨cs, rfl, hsz, hok⟩ := struct_ok Tryz.underlying30 (hval 0 30 v0 rfl rfl)
  obtain ⟨ma, mn, mc, ia, il, ic, ms, is, u, g, dt, pt, tx, no, now, pa, pn, pc, pl, e, hsd, hsp, hu, -⟩ : ∃ ma mn mc ia il ic ms is u g dt pt tx no now pa pn pc pl, cs = #[.slice ma mn mc, .slice ia il ic, .int .i64 u, .int .i64 g, .string dt, .string pt, .string tx, .int .i64 no, .int .i64 now, .slice pa pn pc] ∧ SdAt W ma mn mc ia il ic ms is ∧ SliceAt W 2 fltR pa pn pc pl ∧ (-9223372036854775808 ≤ u ∧ u ≤ 9223372036854775807) ∧ dt.size ≤ 9223372036854775807 ∧ pt.size ≤ 9223372036854775807 ∧ tx.size ≤ 9223372036854775807 := by
    obtain ⟨fuel, hf⟩ := h0
    obtain ⟨ma, mn, mc, ia, il, ic, ms, is, u, g, dt, pt, tx, no, now, pa, pn, pc, pl, e, h⟩ := trod_case30 hf
    exact ⟨ma, mn, mc, ia, il, ic, ms, is, u, g, dt, pt, tx, no, now, pa, pn, pc, pl, Array.ext' e, h⟩
  subst e
  obtain ⟨a2, len2, cap2, rfl⟩ := okWide_slice Tryz.underlying61 (hval 1 61 v1 rfl rfl)
  obtain ⟨a', len', cap', zs, e, hz⟩ : ∃ a len cap zs, [Value.slice a2 len2 cap2] = [.slice a len cap] ∧ SliceAt W 1 strR a len cap zs := by
    obtain ⟨fuel, hf⟩ := h1
    exact open_sl (R := strR) Tryz.underlying61 (by kernel_rfl) (by decide) (fun fuel cs x h => trod_str Tryz.underlying9 h) hf
  simp only [List.cons.injEq, Value.slice.injEq, and_true] at e
  obtain ⟨rfl, rfl, rfl⟩ := e
  clear hA0 hval0
  refine (claimTaken_any W hsd u g hu.1 hu.2 dt pt tx no now hsp hz).mono fun e W' ⟨he, bel⟩ => ?_
  subst he
  exact ⟨_, rfl, _, _, _, [], _, [], hW', trodAll_mk1 (shut_bool Tryz.underlying4 _), trodAll_below laidOut bel _ _ _ _ (by kernel_rfl) hA2, rfl, bel.frame _, fun h => by cases h⟩

theorem proved : Rows.ClaimTakenSaid :=
  OpenClaim.holds_of_wide 4 Tryz.f4 rfl rfl rfl rfl rfl rfl rfl ⟨rfl, rfl, rfl, rfl, rfl⟩ rfl rfl rfl rfl rfl (by kernel_rfl) Tryz.func4 (by kernel_rfl)
    (of_decide_eq_true (by kernel_rfl)) (by unfold Func.isWrapper; first | (rw [if_pos (by decide +kernel)]; kernel_rfl) | (rw [if_neg (by decide +kernel)]; exact ⟨rfl, rfl⟩))
    (fun os started H enc _ => lifted os started H enc)
#print axioms proved

end Go.Proofs.YtihdbncoijhihaaGreat.claimTaken
