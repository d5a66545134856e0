/- The statement SeedPlants: for every input the law answers true, and each argument reads behind the call as before. -/
import Derived.Test.YtaojpbgaengdpaaGreatPL41
import Derived.Test.YtaojpbgaengdpaaGreatPL42
import Derived.Test.YtaojpbgaengdpaaGreatPL50
import Derived.Test.YtaojpbgaengdpaaGreatPL38
import Derived.Test.YtaojpbgaengdpaaGreatPL2
import Derived.Test.YtaojpbgaengdpaaGreatRows
set_option linter.unusedVariables false
set_option linter.unusedSimpArgs false
/- The statement SeedPlants's function. -/
namespace Go.Proofs.YtaojpbgaengdpaaGreat

open Go.RowKit

section

variable {w w' : World} {pf pw : Nat} {R : Rp} {pv : Value} {Y : Sy}

theorem snow_any (h : SyAt w pf pw R pv Y) :
    Calls Tryz.prog 12 #[.pointer (some ⟨pf, 0, none⟩)] w fun e w' => e = .returned (.int .i64 Y.now) ∧ w = w' := by
  have HN := Lib.hid (snone_any h)
  obtain ⟨pc, -, -⟩ := h.blk.facts
  clear h
  go_enter Tryz.func12, Tryz.ntmps12
  go_wp2_with (refine HN.out.mono ?_; rintro e w1 ⟨rfl, rfl⟩)
  go_ret
  exact ⟨rfl, rfl⟩
theorem scount_any (h : SyAt w pf pw R pv Y) :
    Calls Tryz.prog 13 #[.pointer (some ⟨pf, 0, none⟩)] w fun e w' => e = .returned (.int .i64 Y.count) ∧ w = w' := by
  have HN := Lib.hid (snone_any h)
  obtain ⟨pc, -, -⟩ := h.blk.facts
  clear h
  go_enter Tryz.func13, Tryz.ntmps13
  go_wp2_with (refine HN.out.mono ?_; rintro e w1 ⟨rfl, rfl⟩)
  go_ret
  exact ⟨rfl, rfl⟩
theorem sdead_any (h : SyAt w pf pw R pv Y) :
    Calls Tryz.prog 14 #[.pointer (some ⟨pf, 0, none⟩)] w fun e w' => e = .returned (.bool Y.dead) ∧ w = w' := by
  have HN := Lib.hid (snone_any h)
  obtain ⟨pc, -, -⟩ := h.blk.facts
  clear h
  go_enter Tryz.func14, Tryz.ntmps14
  go_wp2_with (refine HN.out.mono ?_; rintro e w1 ⟨rfl, rfl⟩)
  go_ret
  exact ⟨rfl, rfl⟩
end

set_option maxRecDepth 100000 in
set_option maxHeartbeats 4000000 in
theorem seedPlants_any (w : World) {ma : Option Addr} {mn mc : Nat} {ia : Option Addr} {il ic : Nat} {ms : List Mt} {is : List It} (h : SdAt w ma mn mc ia il ic ms is) :
    Calls Tryz.prog 3 #[.agg #[.slice ma mn mc, .slice ia il ic]] w fun e w' => e = .returned (.bool true) ∧ Below w.heap.size w w' := by
  have hX := Blk.new w #[.slice ma mn mc, .slice ia il ic] 25
  have hbX := balloc (Below.refl w.heap.size w) (.cells #[.slice ma mn mc, .slice ia il ic] 25)
  have HFw := Lib.hid (few22_any _ (h.keep ((Below.refl _ w).alloc (Nat.le_refl _) (.cells #[.slice ma mn mc, .slice ia il ic] 25))) 40)
  have HS := Lib.hid h
  have HAw := Lib.hid awake22_any
  clear h
  go_enter Tryz.func3, Tryz.ntmps3
  go_wp2_with fail
  refine HFw.out.mono ?_
  rintro e w1 ⟨rfl, hb1⟩
  have hB1 := hX.keep hb1
  have hbw := bnext hbX hb1
  have HBw := Lib.hid hbw
  obtain ⟨bc, bf, bz⟩ := hB1.facts
  have HB1 := Lib.hid hB1
  clear hX hbX hb1 hB1 hbw
  cases hf : few22 ms is 40 with
  | false =>
    clear hf
    go_wp2_with fail
    refine (HAw.out _).mono ?_
    rintro e w2 ⟨rfl, hb2⟩
    have HB2 := Lib.hid (bnext HBw.out hb2)
    clear hb2
    go_wp2_with fail
    go_ret
    exact ⟨rfl, HB2.out⟩
  | true =>
    obtain ⟨hm10, hi40, hmp, hip⟩ := few22_of hf
    have hil : is.length ≤ 40 := by omega
    have hM : ∀ m ∈ ms, m.path.size ≤ 100000 := fun m hm => Nat.le_trans (hmp m hm) (by omega)
    have hI : ∀ x ∈ is, x.path.size ≤ 100000 ∧ x.data.size ≤ 100000 := fun x hx => by
      have := hip x hx
      omega
    have HP1 := Lib.hid (fun wr (hb : Below w1.heap.size w1 wr) => plant_any wr (HS.out.keep (HBw.out.trans (hb.mono HBw.out.size))) (by omega) (by omega) hM hI)
    have HP2 := Lib.hid (fun wr (hb : Below w1.heap.size w1 wr) => rplant22_any wr (HS.out.keep (HBw.out.trans (hb.mono HBw.out.size))) (by omega) (by omega) hM hI)
    have HL1 := Lib.hid (fun wr (hb : Below w.heap.size w wr) => slimits_any wr (HS.out.keep hb))
    have HL2 := Lib.hid (fun wr (hb : Below w.heap.size w wr) => rlimits22_any wr (HS.out.keep hb))
    have HOk := Lib.hid (plant_ok ms is)
    have HPl := Lib.hid (plant_pl ms is)
    have hsm := pl_small (plant_ok ms is) (plant_pl ms is)
    have HSm := Lib.hid (show (plantF ms is).ns.length ≤ 100000 by omega)
    generalize plantF ms is = S at HP1 HP2 HOk HPl HSm
    clear hf hip hmp hi40 hm10 hil hM hI hsm HFw
    go_upto_region 3 with fail
    go_cut [3, 4] (fun t3 t4 wx => ∃ p1 q1 R1 v1 pf R2, t3 = .pointer (some ⟨p1, 0, none⟩) ∧ t4 = .pointer (some ⟨pf, 0, none⟩) ∧ SyAt wx p1 q1 R1 v1 ⟨S, 0, 0, [], false⟩ ∧ RfAt wx pf R2 S ∧ Below w1.heap.size w1 wx)
    case first =>
      go_region_held3 (fun w' => (∀ b o, b < w1.heap.size → w'.cell? ⟨b, o, none⟩ = w1.cell? ⟨b, o, none⟩) ∧ Below w1.heap.size w1 w') (first | with_reducible assumption | with_reducible exact keepS_here _ | with_reducible exact keepS_here2 _ | with_reducible exact keepS_call (by assumption) (by assumption) | with_reducible exact keepS_alloc (by assumption) _ | with_reducible exact keepS_allocD (by assumption) _ | with_reducible exact keepS_realloc (by assumption) (by assumption) | with_reducible exact keepS_set4 (by assumption) (by assumption))
        ((first
          | (go_at_call 7; ((with_reducible refine (HP1.out _ (And.right (by assumption))).mono ?_); rintro e w4 ⟨p1, q1, R1, v1, Y1, rfl, hY1, rfl, -, hb4⟩; have HY1 := Lib.hid hY1; clear hY1))
          | (go_at_call 8; ((with_reducible refine (HP2.out _ (And.right (by assumption))).mono ?_); rintro e w5 ⟨pf, R2, rfl, hR2, -, hb5⟩; have HY2 := Lib.hid (And.intro (HY1.out.keep hb5) hR2); clear hR2))))
      all_goals
        have hbz : Below w1.heap.size w1 w5 := And.right (by assumption)
        have HBZ := Lib.hid hbz
        go_wp2_with fail
        go_meet
        exact ⟨p1, q1, R1, v1, pf, R2, rfl, rfl, HY2.out.1, HY2.out.2, HBZ.out⟩
    case rest =>
      obtain ⟨p1, q1, R1, v1, pf, R2, rfl, rfl, hY1, hR2, hbw⟩ := hcut
      generalize wc = wb at hY1 hR2 hbw ⊢
      have HBW := Lib.hid (bnext HBw.out hbw)
      have HY := Lib.hid (And.intro hY1 hR2)
      clear bc bf bz HP1 HP2
      have hB2 := HB1.out.keep hbw
      obtain ⟨bc, bf, bz⟩ := hB2.facts
      obtain ⟨l1, hl1⟩ : ∃ x, (limitsF ms).1 = x := ⟨_, rfl⟩
      obtain ⟨l2, hl2⟩ : ∃ x, (limitsF ms).2 = x := ⟨_, rfl⟩
      rw [hl1, hl2] at HL1 HL2
      have HB2 := Lib.hid hB2
      clear hY1 hR2 hbw hl1 hl2 hB2
      go_wp2_with fail
      refine (HL1.out _ HBW.out).mono ?_
      rintro e w2 ⟨rfl, hb2⟩
      have HY2 := Lib.hid (And.intro (HY.out.1.keep hb2) (HY.out.2.keep hb2))
      have HBW2 := Lib.hid (bnext HBW.out hb2)
      have hB3 := HB2.out.keep hb2
      clear bc bf bz hb2
      obtain ⟨bc, bf, bz⟩ := hB3.facts
      clear hB3
      go_wp2_with fail
      refine (HL2.out _ HBW2.out).mono ?_
      rintro e w3 ⟨rfl, hb3⟩
      have HY3 := Lib.hid (And.intro (HY2.out.1.keep hb3) (HY2.out.2.keep hb3))
      have HBW3 := Lib.hid (bnext HBW2.out hb3)
      clear bc bf bz hb3
      obtain ⟨yc, yf, yz⟩ := HY3.out.1.blk.facts
      go_upto_region 8 with fail
      have HZ1 := Lib.hid (fun w4 (hb : Below w3.heap.size w3 w4) => alike_any (HY3.out.1.keep hb).wd (HY3.out.2.keep hb) HOk.out HPl.out HSm.out)
      have HZ2 := Lib.hid (fun w4 (hb : Below w3.heap.size w3 w4) => snow_any (HY3.out.1.keep hb))
      have HZ3 := Lib.hid (fun w4 (hb : Below w3.heap.size w3 w4) => scount_any (HY3.out.1.keep hb))
      have HZ4 := Lib.hid (fun w4 (hb : Below w3.heap.size w3 w4) => sdead_any (HY3.out.1.keep hb))
      dsimp only at HZ1 HZ2 HZ3 HZ4
      have hd0 := Below.refl w3.heap.size w3
      go_wp2_with fail
      refine (HZ1.out _ hd0).mono ?_
      rintro e u1 ⟨rfl, hu1⟩
      have HU1 := Lib.hid hu1
      clear hu1 hd0 yc yf yz
      go_wp2_with fail
      refine (HZ2.out _ HU1.out).mono ?_
      rintro e u2 ⟨rfl, rfl⟩
      go_wp2_with fail
      refine (HZ3.out _ HU1.out).mono ?_
      rintro e u3 ⟨rfl, rfl⟩
      go_wp2_with fail
      refine (HZ4.out _ HU1.out).mono ?_
      rintro e u4 ⟨rfl, rfl⟩
      go_wp2_with fail
      refine (HAw.out _).mono ?_
      rintro e u5 ⟨rfl, hu5⟩
      have HU5 := Lib.hid (bnext HBW3.out (bnext HU1.out hu5))
      clear hu5
      go_wp2_with fail
      go_ret
      exact ⟨rfl, HU5.out⟩
end Go.Proofs.YtaojpbgaengdpaaGreat

/- How a seed reads: its mounts and its items. -/
namespace Go.Proofs.YtaojpbgaengdpaaGreat

open Go.RowKit Go.ChangeShapes Go.WideShapes Go.ChangeAt

section

variable {H : Type} {enc : TypeId × Value → H} {w : World} {base : Nat} {spare : Nat → Bool} {held : Bool}

theorem trod_fields5 {P : Program} {t : TypeId} {fs : Array Field} {fuel : Nat} {cs : List Value} {x : DataW H × List MemPlace} (ht : P.underlying t = some (.struct fs)) (h : DataW.trod enc P w base spare held fuel t cs = some x) :
    cs.length = P.cellsOf t ∧ ∃ n, ∀ (i : Nat) (ty : TypeId) (off k : Nat) (l : List Value), (fs[i]?.map fun f => (f.type, f.offset)) = some (ty, off) → P.cellsOf ty = k → (cs.drop off).take k = l → ∃ y, DataW.trod enc P w base spare held n ty l = some y := by
  obtain ⟨xs, n, -, -, h1, h2, h3⟩ := DataW.trod_struct ht h
  refine ⟨h1, n, fun i ty off k l hf hk hl => ?_⟩
  obtain ⟨f, hf1, e⟩ := Option.map_eq_some_iff.1 hf
  clear hf
  injection e with e1 e2
  subst e1 e2 hk hl
  have hi : i < xs.length := by
    rw [h2]
    exact (Array.getElem?_eq_some_iff.1 hf1).1
  exact ⟨xs[i], by rw [h3 i f hf1, List.getElem?_eq_getElem hi]⟩
set_option maxRecDepth 100000 in
theorem trod_mt {fuel : Nat} {cs : List Value} {x : DataW H × List MemPlace} (h : DataW.trod enc Tryz.prog w base spare held fuel 48 cs = some x) : ∃ y : Mt, mtR cs y := by
  obtain ⟨h1, n, h2⟩ := trod_fields5 Tryz.underlying48 h
  have hc : Tryz.prog.cellsOf 48 = 3 := by kernel_rfl
  have c1 : Tryz.prog.cellsOf 9 = 1 := by kernel_rfl
  have c2 : Tryz.prog.cellsOf 3 = 1 := by kernel_rfl
  rw [hc] at h1
  match cs, h1 with
  | [a0, a1, a2], _ =>
    obtain ⟨y0, k0⟩ := h2 0 9 0 1 [a0] rfl c1 rfl
    obtain ⟨y1, k1⟩ := h2 1 3 1 1 [a1] rfl c2 rfl
    obtain ⟨y2, k2⟩ := h2 2 3 2 1 [a2] rfl c2 rfl
    obtain ⟨s, e0, -⟩ := trod_str Tryz.underlying9 k0
    obtain ⟨n1, e1, -⟩ := trod_i64 Tryz.underlying3 k1
    obtain ⟨n2, e2, -⟩ := trod_i64 Tryz.underlying3 k2
    simp at e0 e1 e2
    subst e0 e1 e2
    exact ⟨⟨s, n1, n2⟩, rfl⟩
set_option maxRecDepth 100000 in
theorem trod_it {fuel : Nat} {cs : List Value} {x : DataW H × List MemPlace} (h : DataW.trod enc Tryz.prog w base spare held fuel 44 cs = some x) : ∃ y : It, itR cs y := by
  obtain ⟨h1, n, h2⟩ := trod_fields5 Tryz.underlying44 h
  have hc : Tryz.prog.cellsOf 44 = 7 := by kernel_rfl
  have c1 : Tryz.prog.cellsOf 9 = 1 := by kernel_rfl
  have c2 : Tryz.prog.cellsOf 3 = 1 := by kernel_rfl
  rw [hc] at h1
  match cs, h1 with
  | [a0, a1, a2, a3, a4, a5, a6], _ =>
    obtain ⟨y0, k0⟩ := h2 0 9 0 1 [a0] rfl c1 rfl
    obtain ⟨y1, k1⟩ := h2 1 3 1 1 [a1] rfl c2 rfl
    obtain ⟨y2, k2⟩ := h2 2 3 2 1 [a2] rfl c2 rfl
    obtain ⟨y3, k3⟩ := h2 3 3 3 1 [a3] rfl c2 rfl
    obtain ⟨y4, k4⟩ := h2 4 3 4 1 [a4] rfl c2 rfl
    obtain ⟨y5, k5⟩ := h2 5 3 5 1 [a5] rfl c2 rfl
    obtain ⟨y6, k6⟩ := h2 6 9 6 1 [a6] rfl c1 rfl
    obtain ⟨s, e0, -⟩ := trod_str Tryz.underlying9 k0
    obtain ⟨n1, e1, -⟩ := trod_i64 Tryz.underlying3 k1
    obtain ⟨n2, e2, -⟩ := trod_i64 Tryz.underlying3 k2
    obtain ⟨n3, e3, -⟩ := trod_i64 Tryz.underlying3 k3
    obtain ⟨n4, e4, -⟩ := trod_i64 Tryz.underlying3 k4
    obtain ⟨n5, e5, -⟩ := trod_i64 Tryz.underlying3 k5
    obtain ⟨s6, e6, -⟩ := trod_str Tryz.underlying9 k6
    simp at e0 e1 e2 e3 e4 e5 e6
    subst e0 e1 e2 e3 e4 e5 e6
    exact ⟨⟨s, n1, n2, n3, n4, n5, s6⟩, rfl⟩
set_option maxRecDepth 100000 in
theorem trod_seed {fuel : Nat} {cs : List Value} {x : DataW H × List MemPlace} (h : DataW.trod enc Tryz.prog w base spare held fuel 25 cs = some x) :
    ∃ ma mn mc ia il ic ms is, cs = [.slice ma mn mc, .slice ia il ic] ∧ SdAt w ma mn mc ia il ic ms is := by
  obtain ⟨h1, n, h2⟩ := trod_fields5 Tryz.underlying25 h
  have hc : Tryz.prog.cellsOf 25 = 2 := by kernel_rfl
  have c1 : Tryz.prog.cellsOf 22 = 1 := by kernel_rfl
  have c2 : Tryz.prog.cellsOf 23 = 1 := by kernel_rfl
  rw [hc] at h1
  match cs, h1 with
  | [a0, a1], _ =>
    obtain ⟨y0, k0⟩ := h2 0 22 0 1 [a0] rfl c1 rfl
    obtain ⟨y1, k1⟩ := h2 1 23 1 1 [a1] rfl c2 rfl
    obtain ⟨ma, mn, mc, ms, e0, hm⟩ := open_sl (R := mtR) (sz := 3) Tryz.underlying22 (by kernel_rfl) (by decide) (fun fuel cs x h => trod_mt h) k0
    obtain ⟨ia, il, ic, is, e1, hi⟩ := open_sl (R := itR) (sz := 7) Tryz.underlying23 (by kernel_rfl) (by decide) (fun fuel cs x h => trod_it h) k1
    simp at e0 e1
    subst e0 e1
    exact ⟨ma, mn, mc, ia, il, ic, ms, is, rfl, ⟨hm, hi⟩⟩
end

end Go.Proofs.YtaojpbgaengdpaaGreat

/- The statement SeedPlants: for every input the law answers true, and each argument reads behind the call as before. -/
namespace Go.Proofs.YtaojpbgaengdpaaGreat.seedPlants

open Go.ChangeShapes Go.WideShapes Go.ChangeAt Go.RowKit

set_option linter.unusedVariables false

theorem own : ownKnob Tryz.prog.godebug = none := by kernel_rfl
theorem laidOut : laidOutB Tryz.prog = true := by kernel_rfl

set_option maxRecDepth 100000 in
theorem lifted (os : Os) (started : os.Started) (H : Type) (enc : TypeId × Value → H) :
    ReturnsInHanded {} Tryz.checked os 3 .any (Rows.seedPlantsSpec.pre6 enc Tryz.prog Tryz.f3 Rows.seedPlantsRow.domain false) (Rows.seedPlantsSpec.post enc Tryz.prog Tryz.f3 false true false false) := by
  refine returnsInHanded_of_change (C := Tryz.checked) own started (by kernel_rfl) Tryz.func3
    (ChangeSpec.witness6 (enc := enc) (C := Tryz.checked) false ⟨#[], #[.agg #[.slice none 0 0, .slice none 0 0]], []⟩ 8 (by kernel_rfl) (by kernel_rfl) (by kernel_rfl) (by kernel_rfl)) ?_
  intro W base args ds gs before hval0 hW hcnd _
  have hval : ∀ (j : Nat) t v, Tryz.f3.params[j]? = some t → args[j]? = some v → Value.okWide Tryz.prog W .any base t v := hval0
  have hW' := hW
  obtain ⟨p, q, hA0, hV, rfl, hfz, hnd⟩ := hW
  have hA : DataW.TrodAll enc Tryz.prog W 0 (fun _ => true) true Tryz.f3.params.toList args.toList ds p := hA0
  rw [Tryz.params3] at hA hval
  have hA2 := hA
  obtain ⟨v0, vs0, d0, ds0, p0, q0, hargs, rfl, rfl, h0, r0⟩ := trodAll_cons hA
  obtain ⟨rfl, rfl, rfl⟩ := trodAll_nil r0
  obtain rfl : args = #[v0] := by cases args; simp_all
  obtain ⟨rfl, rfl⟩ := trodVars_none hV
  obtain ⟨cs, rfl, hsz, hok⟩ := struct_ok Tryz.underlying25 (hval 0 25 v0 rfl rfl)
  obtain ⟨ma, mn, mc, ia, il, ic, ms, is, e, hsd⟩ : ∃ ma mn mc ia il ic ms is, cs = #[.slice ma mn mc, .slice ia il ic] ∧ SdAt W ma mn mc ia il ic ms is := by
    obtain ⟨fuel, hf⟩ := h0
    obtain ⟨ma, mn, mc, ia, il, ic, ms, is, e, h⟩ := trod_seed hf
    exact ⟨ma, mn, mc, ia, il, ic, ms, is, Array.ext' e, h⟩
  subst e
  clear hA0 hval0
  refine (seedPlants_any W hsd).mono fun e W' ⟨he, bel⟩ => ?_
  subst he
  exact ⟨_, rfl, _, _, _, [], _, [], hW', trodAll_mk1 (shut_bool Tryz.underlying4 _), trodAll_below laidOut bel _ _ _ _ (by kernel_rfl) hA2, rfl, bel.frame _, fun h => by cases h⟩

theorem proved : Rows.SeedPlantsSaid :=
  OpenClaim.holds_of_wide 3 Tryz.f3 rfl rfl rfl rfl rfl rfl rfl ⟨rfl, rfl, rfl, rfl, rfl⟩ rfl rfl rfl rfl rfl (by kernel_rfl) Tryz.func3 (by kernel_rfl)
    (of_decide_eq_true (by kernel_rfl)) (by unfold Func.isWrapper; first | (rw [if_pos (by decide +kernel)]; kernel_rfl) | (rw [if_neg (by decide +kernel)]; exact ⟨rfl, rfl⟩))
    (fun os started H enc _ => lifted os started H enc)
#print axioms proved

end Go.Proofs.YtaojpbgaengdpaaGreat.seedPlants
