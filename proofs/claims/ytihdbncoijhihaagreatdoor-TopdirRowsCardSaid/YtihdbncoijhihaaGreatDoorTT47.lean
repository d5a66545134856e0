/- Texts of the proof, part 47. -/
import Derived.BigQuiet
import Derived.Deep.DeepHandedRow
import Derived.Lay
import Derived.Test.YtihdbncoijhihaaGreatDoorTT42
import Derived.Test.YtihdbncoijhihaaGreatDoorTT46
import Derived.Test.YtihdbncoijhihaaGreatDoorTT31
import Derived.Test.YtihdbncoijhihaaGreatDoorTT3
import Derived.Test.YtihdbncoijhihaaGreatDoorTT23
set_option linter.unusedVariables false
set_option linter.unusedSimpArgs false
/- The statement TopdirTells's function. -/
namespace Go.Proofs.YtihdbncoijhihaaGreatDoor

open Go.RowKit Go.Shelf

attribute [local go_sem] Oper.semAt_some

set_option maxRecDepth 100000 in
theorem fd_eq (d : Int) (s : ByteArray) (k : Int) (b : Bool) (w : World) : (binOp .eql 58 (.agg #[.int .i64 d, .string s, .int .i64 k, .bool b]) (.agg #[.int .i64 d, .string s, .int .i64 k, .bool b])).run Tryz.prog w = .ok (.bool true) w := by
  have u1 := Tryz.underlying9
  have u2 := Tryz.underlying3
  have u3 := Tryz.underlying4
  have a1 := Tryz.isAgg9
  have z1 := Tryz.sizeOf9
  have a2 := Tryz.isAgg3
  have z2 := Tryz.sizeOf3
  have a3 := Tryz.isAgg4
  have z3 := Tryz.sizeOf4
  have hS : Tryz.prog.underlying 58 = some (.struct (Tryz.prog.fieldsOf 58)) := by kernel_rfl
  have hp : Tryz.prog.stoodInHeld 58 = false := by kernel_rfl
  rw [run_eql_struct, show (10000 : Nat) = 9999 + 1 from rfl, run_equalIn_agg w 9999 58 _ _ hS hp]
  simp only [Program.fieldsOf, Tryz.underlying58]
  go_simp
theorem flat_one : ∀ ls : List Int, (ls.flatMap fun x => [Value.int .i64 x]) = ls.map (Value.int .i64)
  | [] => rfl
  | x :: l => by rw [List.flatMap_cons, flat_one l]; rfl
theorem ONo.cell {w : World} {base g cap : Nat} {ls : List Int} (h : ONo w base (.slice (some ⟨g, 0, none⟩) ls.length cap) ls) (k : Nat) (hk : k < ls.length) : w.cell? ⟨g, k, none⟩ = some (.int .i64 ls[k]) := by
  have h' : w.ownsRow base 3 1 (.slice (some ⟨g, 0, none⟩) ls.length cap) ls.length (ls.flatMap fun x => [Value.int .i64 x]) := by
    rw [flat_one]
    exact h
  obtain ⟨-, -, -, h0 | ⟨b, off, he, hb, hel⟩⟩ := own_slice (sz := 1) (R := fun cs x => cs = [Value.int .i64 x]) (by omega) (fun _ => rfl) (fun _ => rfl) h'
  · omega
  · injection he with he
    injection he with e1 e2
    subst e1 e2
    obtain ⟨cs, h1, h2, h3⟩ := hel k hk
    subst h2
    have := h3 0 (by simp)
    simpa using this
theorem ONo.at' {w : World} {base c : Nat} {a : Option Addr} {ls : List Int} (h : ONo w base (.slice a ls.length c) ls) (k : Nat) (hk : k < ls.length) : ∃ g, a = some ⟨g, 0, none⟩ ∧ g < w.heap.size ∧ w.cell? ⟨g, k, none⟩ = some (.int .i64 ls[k]) := by
  obtain ⟨a', c', hv, -, -, h1⟩ := own_form h
  injection hv with e1 e2 e3
  subst e1
  subst e3
  rcases h1 with ⟨-, h2, -⟩ | ⟨g, rfl, -, h3⟩
  · omega
  · exact ⟨g, rfl, h3, h.cell k hk⟩
theorem ONo.keep {w w' : World} {base : Nat} {v : Value} {ls : List Int} (h : ONo w base v ls) (hb : Below w.heap.size w w') : ONo w' base v ls := own_below h hb (Nat.le_refl _)
theorem OS.keep9 {w w' : World} {base : Nat} {v : Value} {ls : List (List UInt8)} (h : OS w base v ls) (hb : Below w.heap.size w w') : OS w' base v ls := own_below h hb (Nat.le_refl _)
/-- a slice's place, where another begins as it does. -/
theorem top_at {S : Fs} {j : Nat} (hj : j < S.ds.length) {x : Int × ByteArray} (h : S.topAt j = some x) : ∃ hk : (S.topsK j).length < S.topsL.length, S.topsL[(S.topsK j).length] = x := by
  have h1 := topsK_prefix S (show j + 1 ≤ S.ds.length by omega)
  rw [topsK_succ, h] at h1
  obtain ⟨t, ht⟩ := h1
  have h2 : S.topsL = S.topsK j ++ ([x] ++ t) := by
    rw [← List.append_assoc]
    exact ht.symm
  refine ⟨by rw [h2]; simp, ?_⟩
  simp [h2]
theorem topNo_at {S : Fs} {j : Nat} (hj : j < S.ds.length) {x : Int × ByteArray} (h : S.topAt j = some x) : ∃ hk : (S.topsK j).length < (Fs.topNo S.topsL).length, (Fs.topNo S.topsL)[(S.topsK j).length] = x.1 := by
  obtain ⟨h1, h2⟩ := top_at hj h
  have h3 : (Fs.topNo S.topsL).length = S.topsL.length := List.length_map _
  refine ⟨by omega, ?_⟩
  unfold Fs.topNo
  rw [List.getElem_map, h2]
theorem topTx_at {S : Fs} {j : Nat} (hj : j < S.ds.length) {x : Int × ByteArray} (h : S.topAt j = some x) : ∃ hk : (S.topsK j).length < (Fs.topTx S.topsL).length, (Fs.topTx S.topsL)[(S.topsK j).length] = x.2.data.toList := by
  obtain ⟨h1, h2⟩ := top_at hj h
  have h3 : (Fs.topTx S.topsL).length = S.topsL.length := List.length_map _
  refine ⟨by omega, ?_⟩
  unfold Fs.topTx
  rw [List.getElem_map, h2]
set_option maxRecDepth 100000 in
set_option maxHeartbeats 8000000 in
theorem topdirTells_any (w : World) {ma : Option Addr} {mn mc : Nat} {ia : Option Addr} {il ic : Nat} {ms : List Mt} {is : List It} (h : SdAt w ma mn mc ia il ic ms is) (u g at' to' : Int) (nm : ByteArray) {pa : Option Addr} {pn pc : Nat} {pl : List (Int × Int)} (hpl : SliceAt w 2 fltR pa pn pc pl) (ke : Bool) (p : ByteArray) (hpz : p.size ≤ 9223372036854775807) (no : Int) :
    Calls Tryz.prog 3 #[.agg #[.slice ma mn mc, .slice ia il ic, .int .i64 u, .int .i64 g, .int .i64 at', .int .i64 to', .string nm, .slice pa pn pc, .bool ke], .string p, .int .i64 no] w fun e w' => e = .returned (.bool true) ∧ Below w.heap.size w w' := by
  have hX := Blk.new w #[.slice ma mn mc, .slice ia il ic, .int .i64 u, .int .i64 g, .int .i64 at', .int .i64 to', .string nm, .slice pa pn pc, .bool ke] 30
  have hbX := balloc (Below.refl w.heap.size w) (.cells #[.slice ma mn mc, .slice ia il ic, .int .i64 u, .int .i64 g, .int .i64 at', .int .i64 to', .string nm, .slice pa pn pc, .bool ke] 30)
  have hbI := ((Below.refl _ w).alloc (Nat.le_refl _) (.cells #[.slice ma mn mc, .slice ia il ic, .int .i64 u, .int .i64 g, .int .i64 at', .int .i64 to', .string nm, .slice pa pn pc, .bool ke] 30))
  have HFw := Lib.hid (few24_any _ (h.keep hbI) u g at' to' nm (pa := pa) (pc := pc) hpl.1 ke)
  have HS := Lib.hid (And.intro h hpl)
  have HAw := Lib.hid awake29_any
  clear h hpl hbI
  go_enter Tryz.func3, Tryz.ntmps3
  go_wp2_with fail
  refine HFw.out.mono ?_
  rintro e w1 ⟨rfl, hb1⟩
  have hB1 := hX.keep hb1
  have hbw := bnext hbX hb1
  have HBw := Lib.hid hbw
  obtain ⟨bc, bf, bz⟩ := hB1.facts
  have HB1 := Lib.hid hB1
  clear hX hbX hb1 hB1 hbw HFw
  by_cases hfp : few24 ms is nm pl = true ∧ p.size ≤ 300
  · obtain ⟨hf, hp3⟩ := hfp
    have HBo := Lib.hid (both24_any w1 (HS.out.1.keep HBw.out) u g at' to' nm (HS.out.2.keep HBw.out) ke hf)
    obtain ⟨hf2, hn3, -⟩ := few24_of hf
    obtain ⟨hm10, hi30, -, -⟩ := few22_of hf2
    rw [hf]
    have HOk := Lib.hid (plant_ok ms is)
    have HPl := Lib.hid (plant_pl ms is)
    have hsm := pl_small (plant_ok ms is) (plant_pl ms is)
    have hd8 := (plant_ok ms is).d8
    obtain ⟨N, hN⟩ : ∃ N, 1 + 2 * ms.length + is.length = N := ⟨_, rfl⟩
    have hNs : N ≤ 51 := by omega
    rw [hN] at HOk hsm
    generalize plantF ms is = S at HBo HOk HPl hsm hd8
    have HNs := Lib.hid (show N ≤ 51 ∧ S.ns.length ≤ 51 from ⟨hNs, by omega⟩)
    clear hf hf2 hi30 hm10 hsm hNs hN
    go_wp2_with fail
    refine HBo.out.mono ?_
    rintro e w2 ⟨p1, q1, R1, v1, pf, R2, rfl, hBo⟩
    have HB2 := Lib.hid (bnext HBw.out hBo.below)
    have HBt := Lib.hid hBo
    have HTo := Lib.hid (tops_any hBo.y HOk.out HPl.out (by show S.ns.length ≤ _; have := HNs.out.2; omega) (by show S.ds.length ≤ _; omega))
    obtain ⟨bc, bf, bz⟩ := (HB1.out.keep hBo.below).facts
    have HC2 := Lib.hid (HB1.out.keep hBo.below)
    clear hBo
    dsimp only at HTo
    go_wp2_with fail
    refine HTo.out.mono ?_
    rintro e w3 ⟨va, vb, rfl, hva, hvb, hb3⟩
    have HB3 := Lib.hid (bnext HB2.out hb3)
    have HTa := Lib.hid hva
    have HTb := Lib.hid hvb
    obtain ⟨oa, oc, rfl, -, -, -⟩ := own_form hva
    obtain ⟨ob, od, rfl, -, -, -⟩ := own_form hvb
    have HY3 := Lib.hid (And.intro (HBt.out.y.keep hb3) (HBt.out.r.keep hb3))
    have HC3 := Lib.hid (HC2.out.keep hb3)
    obtain ⟨da, dc, hdv, -, -⟩ := HBt.out.r.dform
    have HDv := Lib.hid hdv
    have hln1 : (Fs.topNo S.topsL).length = (S.topsK S.ds.length).length := List.length_map _
    have hln2 : (Fs.topTx S.topsL).length = (S.topsK S.ds.length).length := List.length_map _
    have hll := topsL_len S
    have HLn := Lib.hid (And.intro hln1 hln2)
    have hkl0 : (S.topsK S.ds.length).length ≤ S.ds.length := hll
    obtain ⟨m, hmm⟩ : ∃ m, (S.topsK S.ds.length).length = m := ⟨_, rfl⟩
    rw [hmm] at hln1 hln2 hkl0 HLn
    have HMm := Lib.hid hmm
    rw [hln1] at HTa
    rw [hln2] at HTb
    rw [hln1, hln2]
    clear hva hvb hb3 bc bf bz hdv hll hln1 hln2 hmm
    go_wp2_with fail
    go_loopw [12, 13] (fun t12 t13 wr => ∃ j : Nat, j ≤ S.ds.length ∧ t12 = .int .i64 (S.topsK j).length ∧ t13 = .int .i64 ((j : Int) + 1) ∧ Below w3.heap.size w3 wr) (fun _ t13 _ => (S.ds.length + 1 - intOf t13).toNat)
    case atStart => exact ⟨0, Nat.zero_le _, rfl, rfl, Below.refl _ _⟩
    case round =>
      obtain ⟨j, hj, rfl, rfl, hb⟩ := hrel
      have HB := Lib.hid hb
      have hYr := HY3.out.2.keep hb
      have HYr := Lib.hid hYr
      have hrb := hYr.blk
      rw [HDv.out] at hrb
      obtain ⟨rc, rf, rz⟩ := hrb.facts
      clear hrb
      by_cases hlt : j < S.ds.length
      · have hlt2 : (j : Int) + 1 ≤ (S.ds.length : Int) := by omega
        have HRo := Lib.hid (fun w4 (hb4 : Below wr.heap.size wr w4) => rroot_any (hYr.keep hb4) ((j : Int) + 1))
        have HWh := Lib.hid (fun w4 (hb4 : Below wr.heap.size wr w4) x => rwhere_any (hYr.keep hb4) HOk.out HPl.out (by have := HNs.out.2; omega) x)
        have HT := Lib.hid (topsK_succ S j)
        have HAt := Lib.hid (show S.topAt j = (S.place_ (S.root ((j : Int) + 1))).map fun s => (S.root ((j : Int) + 1), s) from rfl)
        clear hYr hb
        go_wp2_with fail
        refine (HRo.out _ (Below.refl _ _)).mono ?_
        rintro e w4 ⟨rfl, rfl⟩
        go_wp2_with fail
        refine (HWh.out _ (Below.refl _ _) _).mono ?_
        rintro e w5 ⟨rfl, hb5⟩
        have HB5 := Lib.hid hb5
        have HB6 := Lib.hid (bnext HB.out hb5)
        unfold whereV
        clear hb5 rc rf rz
        cases hp0 : S.place_ (S.root ((j : Int) + 1)) with
        | none =>
          rw [hp0] at HAt
          have HK := Lib.hid (show S.topsK (j + 1) = S.topsK j by rw [HT.out, HAt.out]; simp)
          clear hp0
          go_wp2_with fail
          go_quiet (fail)
          go_wp2_with fail
          go_roundw
          case rel => exact ⟨j + 1, by omega, by rw [HK.out], by go_num, below_drewN HB6.out _⟩
          case measure => simp [intOf]; omega
        | some s =>
          rw [hp0] at HAt
          have hAt2 : S.topAt j = some (S.root ((j : Int) + 1), s) := HAt.out
          have HK := Lib.hid (show (S.topsK (j + 1)).length = (S.topsK j).length + 1 by rw [HT.out, HAt.out]; simp)
          obtain ⟨hk1, hk2⟩ := topNo_at hlt hAt2
          obtain ⟨hk3, hk4⟩ := topTx_at hlt hAt2
          have hO1 := HTa.out.keep HB6.out
          have hO2 := HTb.out.keep9 HB6.out
          rw [← HLn.out.1] at hO1
          rw [← HLn.out.2] at hO2
          obtain ⟨ga, rfl, hga, hca⟩ := hO1.at' _ hk1
          obtain ⟨gb, rfl, hgb, hcb⟩ := hO2.at' _ hk3
          rw [hk2] at hca
          rw [hk4, str_of] at hcb
          rw [HLn.out.1] at hk1
          have HRo5 := Lib.hid (fun w6 (hb6 : Below w5.heap.size w5 w6) => rroot_any ((HYr.out.keep HB5.out).keep hb6) ((j : Int) + 1))
          obtain ⟨k, hkk⟩ : ∃ k, (S.topsK j).length = k := ⟨_, rfl⟩
          have HK1 := Lib.hid (show (S.topsK (j + 1)).length = k + 1 by rw [HK.out, hkk])
          rw [hkk] at hk1 hca hcb ⊢
          have hu0 : ¬ (k : Int) < 0 := by omega
          have hf0 : (0 : Int) ≤ (k : Int) := by omega
          have hkm : (k : Int) < (m : Int) := by omega
          have hkm2 : ¬ (m : Int) ≤ (k : Int) := by omega
          have hmk : ¬ m ≤ k := by omega
          have hm8 : m ≤ 8 := by omega
          clear hp0 hAt2 hk2 hk3 hk4 hO1 hO2
          go_wp2_with fail
          go_quiet ((go_at_call 14; exact Calls.quiet_of_same (HRo5.out _ (below_drewN (Below.refl _ _) _))))
          go_wp2_with fail
          go_roundw
          case rel => exact ⟨j + 1, by omega, by rw [HK1.out]; go_num, by go_num, below_drewN HB6.out _⟩
          case measure => simp [intOf]; omega
      · obtain rfl : j = S.ds.length := by omega
        have hlt2 : ¬ (S.ds.length : Int) + 1 ≤ (S.ds.length : Int) := by omega
        have hYs := HY3.out.1.keep hb
        have HT1 := Lib.hid (fun w4 (hb4 : Below wr.heap.size wr w4) => ttop_any (hYs.keep hb4) HOk.out HPl.out (by show S.ns.length ≤ _; have := HNs.out.2; omega) rfl no)
        have HT2 := Lib.hid (fun w4 (hb4 : Below wr.heap.size wr w4) => rtop_any (hYr.keep hb4) HOk.out HPl.out (by have := HNs.out.2; omega) HBt.out.dd no)
        have hpz9 : ∀ s, S.place_ no = some s → s.size ≤ 100000 := fun s hs => by
          have h1 := place_size HPl.out hs
          have h2 := HNs.out.2
          have h3 : 256 * S.ns.length ≤ 256 * 51 := Nat.mul_le_mul (Nat.le_refl _) h2
          generalize 256 * S.ns.length = q at h1 h3
          exact Nat.le_trans h1 (Nat.le_trans (Nat.add_le_add_right h3 _) (by decide))
        have HP1 := Lib.hid (fun w4 (hb4 : Below wr.heap.size wr w4) => tpath_any (hYs.keep hb4) HOk.out HPl.out (by show S.ns.length ≤ _; have := HNs.out.2; omega) rfl no nm (by omega) hpz9)
        have HP2 := Lib.hid (fun w4 (hb4 : Below wr.heap.size wr w4) => rpath24_any (hYr.keep hb4) HOk.out HPl.out (by have := HNs.out.2; omega) HBt.out.dd no nm (by omega) hpz9)
        have HO1 := Lib.hid (fun w4 (hb4 : Below wr.heap.size wr w4) => toperand_any (hYs.keep hb4) HOk.out (by have := HNs.out.1; omega) HPl.out rfl ⟨u, g⟩ p (by omega))
        have HO2 := Lib.hid (fun w4 (hb4 : Below wr.heap.size wr w4) => roperand_any (hYr.keep hb4) HOk.out (by have := HNs.out.2; omega) HBt.out.dd ⟨u, g⟩ p (by omega))
        dsimp only at HT1 HP1 HO1 HO2
        obtain ⟨⟨f1, f2, f3⟩, hf0⟩ : ∃ x, S.topF no = x := ⟨_, rfl⟩
        obtain ⟨⟨f4, f5⟩, hf6⟩ : ∃ x, S.pathF no nm = x := ⟨_, rfl⟩
        obtain ⟨⟨⟨g1, g2, g3, g4⟩, g5⟩, hg0⟩ : ∃ x, S.operandF ⟨u, g⟩ p = x := ⟨_, rfl⟩
        rw [hf0] at HT1 HT2
        rw [hf6] at HP1 HP2
        rw [hg0] at HO1 HO2
        dsimp only [Fd.v] at HT1 HT2 HP1 HP2 HO1 HO2
        have HC4 := Lib.hid (HC3.out.keep hb)
        rw [HMm.out]
        clear hYs hYr hb hpz9 hf0 hf6 hg0
        go_wp2_with fail
        refine (HT1.out _ (Below.refl _ _)).mono ?_
        rintro e w4 ⟨rfl, hb4⟩
        have HB4 := Lib.hid hb4
        clear hb4 rc rf rz
        go_wp2_with fail
        refine (HT2.out _ HB4.out).mono ?_
        rintro e w5 ⟨rfl, hb5⟩
        have HB5 := Lib.hid (bnext HB4.out hb5)
        obtain ⟨xc, xf, xz⟩ := (HC4.out.keep HB5.out).facts
        clear hb5
        go_wp2_with fail
        refine (HP1.out _ HB5.out).mono ?_
        rintro e w6 ⟨rfl, hb6⟩
        have HB6 := Lib.hid (bnext HB5.out hb6)
        clear xc xf xz
        obtain ⟨xc, xf, xz⟩ := (HC4.out.keep HB6.out).facts
        clear hb6
        go_wp2_with fail
        refine (HP2.out _ HB6.out).mono ?_
        rintro e w7 ⟨rfl, hb7⟩
        have HB7 := Lib.hid (bnext HB6.out hb7)
        clear xc xf xz
        obtain ⟨xc, xf, xz⟩ := (HC4.out.keep HB7.out).facts
        clear hb7
        go_wp2_with fail
        refine (HO1.out _ HB7.out).mono ?_
        rintro e w8 ⟨rfl, hb8⟩
        have hb9 := balloc (bnext HB7.out hb8) (.cells #[.int .i64 g1, .string g2, .int .i64 g3, .bool g4] 58)
        have HX8 := Lib.hid (Blk.new w8 #[.int .i64 g1, .string g2, .int .i64 g3, .bool g4] 58)
        have HB9 := Lib.hid hb9
        clear xc xf xz
        obtain ⟨xc, xf, xz⟩ := (HC4.out.keep HB9.out).facts
        clear hb8 hb9
        go_wp2_with fail
        refine (HO2.out _ HB9.out).mono ?_
        rintro e w10 ⟨rfl, hb10⟩
        have HB10 := Lib.hid (balloc (bnext HB9.out hb10) (.cells #[.int .i64 g1, .string g2, .int .i64 g3, .bool g4] 58))
        have hX10 := (HX8.out.keep hb10).old (.cells #[.int .i64 g1, .string g2, .int .i64 g3, .bool g4] 58)
        have hX11 := Blk.new w10 #[.int .i64 g1, .string g2, .int .i64 g3, .bool g4] 58
        obtain ⟨yc, yf, yz⟩ := hX10.facts
        obtain ⟨zc, zf, zz⟩ := hX11.facts
        have hfe := fun w => fd_eq g1 g2 g3 g4 w
        clear hb10 hX10 hX11 xc xf xz
        go_wp2_with fail
        refine (HAw.out _).mono ?_
        rintro e w12 ⟨rfl, hb12⟩
        have HZ := Lib.hid (bnext HB3.out (bnext HB.out (bnext HB10.out hb12)))
        clear hb12 yc yf yz zc zf zz
        go_wp2_with fail
        go_ret
        exact ⟨rfl, HZ.out⟩
  · cases hf : few24 ms is nm pl with
    | false =>
      clear hf hfp
      go_wp2_with fail
      refine (HAw.out _).mono ?_
      rintro e w2 ⟨rfl, hb2⟩
      have HB2 := Lib.hid (bnext HBw.out hb2)
      clear hb2
      go_wp2_with fail
      go_ret
      exact ⟨rfl, HB2.out⟩
    | true =>
      have hpg : (300 : Int) < (p.size : Int) := by
        have : ¬ p.size ≤ 300 := fun h => hfp ⟨hf, h⟩
        omega
      clear hf hfp
      go_wp2_with fail
      refine (HAw.out _).mono ?_
      rintro e w2 ⟨rfl, hb2⟩
      have HB2 := Lib.hid (bnext HBw.out hb2)
      clear hb2
      go_wp2_with fail
      go_ret
      exact ⟨rfl, HB2.out⟩
end Go.Proofs.YtihdbncoijhihaaGreatDoor

/- How a seed reads: its mounts and its items. -/
namespace Go.Proofs.YtihdbncoijhihaaGreatDoor

open Go.RowKit Go.ChangeShapes Go.WideShapes Go.ChangeAt

section

variable {H : Type} {enc : TypeId × Value → H} {w : World} {base : Nat} {spare : Nat → Bool} {held : Bool}

theorem trod_fields5 {P : Program} {t : TypeId} {fs : Array Field} {fuel : Nat} {cs : List Value} {x : DataW H × List MemPlace} (ht : P.underlying t = some (.struct fs)) (h : DataW.trod enc P w base spare held fuel t cs = some x) :
    cs.length = P.cellsOf t ∧ ∃ n, ∀ (i : Nat) (ty : TypeId) (off k : Nat) (l : List Value), (fs[i]?.map fun f => (f.type, f.offset)) = some (ty, off) → P.cellsOf ty = k → (cs.drop off).take k = l → ∃ y, DataW.trod enc P w base spare held n ty l = some y := by
  obtain ⟨xs, n, -, -, h1, h2, h3⟩ := DataW.trod_struct ht h
  refine ⟨h1, n, fun i ty off k l hf hk hl => ?_⟩
  obtain ⟨f, hf1, e⟩ := Option.map_eq_some_iff.1 hf
  clear hf
  injection e with e1 e2
  subst e1 e2 hk hl
  have hi : i < xs.length := by
    rw [h2]
    exact (Array.getElem?_eq_some_iff.1 hf1).1
  exact ⟨xs[i], by rw [h3 i f hf1, List.getElem?_eq_getElem hi]⟩
set_option maxRecDepth 100000 in
theorem trod_mt {fuel : Nat} {cs : List Value} {x : DataW H × List MemPlace} (h : DataW.trod enc Tryz.prog w base spare held fuel 159 cs = some x) : ∃ y : Mt, mtR cs y := by
  obtain ⟨h1, n, h2⟩ := trod_fields5 Tryz.underlying159 h
  have hc : Tryz.prog.cellsOf 159 = 3 := by kernel_rfl
  have c1 : Tryz.prog.cellsOf 9 = 1 := by kernel_rfl
  have c2 : Tryz.prog.cellsOf 3 = 1 := by kernel_rfl
  rw [hc] at h1
  match cs, h1 with
  | [a0, a1, a2], _ =>
    obtain ⟨y0, k0⟩ := h2 0 9 0 1 [a0] rfl c1 rfl
    obtain ⟨y1, k1⟩ := h2 1 3 1 1 [a1] rfl c2 rfl
    obtain ⟨y2, k2⟩ := h2 2 3 2 1 [a2] rfl c2 rfl
    obtain ⟨s, e0, -⟩ := trod_str Tryz.underlying9 k0
    obtain ⟨n1, e1, -⟩ := trod_i64 Tryz.underlying3 k1
    obtain ⟨n2, e2, -⟩ := trod_i64 Tryz.underlying3 k2
    simp at e0 e1 e2
    subst e0 e1 e2
    exact ⟨⟨s, n1, n2⟩, rfl⟩
set_option maxRecDepth 100000 in
theorem trod_it {fuel : Nat} {cs : List Value} {x : DataW H × List MemPlace} (h : DataW.trod enc Tryz.prog w base spare held fuel 161 cs = some x) : ∃ y : It, itR cs y := by
  obtain ⟨h1, n, h2⟩ := trod_fields5 Tryz.underlying161 h
  have hc : Tryz.prog.cellsOf 161 = 7 := by kernel_rfl
  have c1 : Tryz.prog.cellsOf 9 = 1 := by kernel_rfl
  have c2 : Tryz.prog.cellsOf 3 = 1 := by kernel_rfl
  rw [hc] at h1
  match cs, h1 with
  | [a0, a1, a2, a3, a4, a5, a6], _ =>
    obtain ⟨y0, k0⟩ := h2 0 9 0 1 [a0] rfl c1 rfl
    obtain ⟨y1, k1⟩ := h2 1 3 1 1 [a1] rfl c2 rfl
    obtain ⟨y2, k2⟩ := h2 2 3 2 1 [a2] rfl c2 rfl
    obtain ⟨y3, k3⟩ := h2 3 3 3 1 [a3] rfl c2 rfl
    obtain ⟨y4, k4⟩ := h2 4 3 4 1 [a4] rfl c2 rfl
    obtain ⟨y5, k5⟩ := h2 5 3 5 1 [a5] rfl c2 rfl
    obtain ⟨y6, k6⟩ := h2 6 9 6 1 [a6] rfl c1 rfl
    obtain ⟨s, e0, -⟩ := trod_str Tryz.underlying9 k0
    obtain ⟨n1, e1, -⟩ := trod_i64 Tryz.underlying3 k1
    obtain ⟨n2, e2, -⟩ := trod_i64 Tryz.underlying3 k2
    obtain ⟨n3, e3, -⟩ := trod_i64 Tryz.underlying3 k3
    obtain ⟨n4, e4, -⟩ := trod_i64 Tryz.underlying3 k4
    obtain ⟨n5, e5, -⟩ := trod_i64 Tryz.underlying3 k5
    obtain ⟨s6, e6, -⟩ := trod_str Tryz.underlying9 k6
    simp at e0 e1 e2 e3 e4 e5 e6
    subst e0 e1 e2 e3 e4 e5 e6
    exact ⟨⟨s, n1, n2, n3, n4, n5, s6⟩, rfl⟩
set_option maxRecDepth 100000 in
theorem trod_seed {fuel : Nat} {cs : List Value} {x : DataW H × List MemPlace} (h : DataW.trod enc Tryz.prog w base spare held fuel 25 cs = some x) :
    ∃ ma mn mc ia il ic ms is, cs = [.slice ma mn mc, .slice ia il ic] ∧ SdAt w ma mn mc ia il ic ms is := by
  obtain ⟨h1, n, h2⟩ := trod_fields5 Tryz.underlying25 h
  have hc : Tryz.prog.cellsOf 25 = 2 := by kernel_rfl
  have c1 : Tryz.prog.cellsOf 22 = 1 := by kernel_rfl
  have c2 : Tryz.prog.cellsOf 23 = 1 := by kernel_rfl
  rw [hc] at h1
  match cs, h1 with
  | [a0, a1], _ =>
    obtain ⟨y0, k0⟩ := h2 0 22 0 1 [a0] rfl c1 rfl
    obtain ⟨y1, k1⟩ := h2 1 23 1 1 [a1] rfl c2 rfl
    obtain ⟨ma, mn, mc, ms, e0, hm⟩ := open_sl (R := mtR) (sz := 3) Tryz.underlying22 (by kernel_rfl) (by decide) (fun fuel cs x h => trod_mt h) k0
    obtain ⟨ia, il, ic, is, e1, hi⟩ := open_sl (R := itR) (sz := 7) Tryz.underlying23 (by kernel_rfl) (by decide) (fun fuel cs x h => trod_it h) k1
    simp at e0 e1
    subst e0 e1
    exact ⟨ma, mn, mc, ia, il, ic, ms, is, rfl, ⟨hm, hi⟩⟩
end

end Go.Proofs.YtihdbncoijhihaaGreatDoor

/- How a case of the tree's statements reads. -/
namespace Go.Proofs.YtihdbncoijhihaaGreatDoor

open Go.RowKit Go.ChangeShapes Go.WideShapes Go.ChangeAt

section

variable {H : Type} {enc : TypeId × Value → H} {w : World} {base : Nat} {spare : Nat → Bool} {held : Bool}

set_option maxRecDepth 100000 in
theorem trod_flt {fuel : Nat} {cs : List Value} {x : DataW H × List MemPlace} (h : DataW.trod enc Tryz.prog w base spare held fuel 332 cs = some x) : ∃ y : Int × Int, fltR cs y := by
  obtain ⟨h1, n, h2⟩ := trod_fields5 Tryz.underlying332 h
  have hc : Tryz.prog.cellsOf 332 = 2 := by kernel_rfl
  have c1 : Tryz.prog.cellsOf 3 = 1 := by kernel_rfl
  have c2 : Tryz.prog.cellsOf 48 = 1 := by kernel_rfl
  rw [hc] at h1
  match cs, h1 with
  | [a0, a1], _ =>
    obtain ⟨y0, k0⟩ := h2 0 3 0 1 [a0] rfl c1 rfl
    obtain ⟨y1, k1⟩ := h2 1 48 1 1 [a1] rfl c2 rfl
    obtain ⟨n0, e0, -⟩ := trod_i64 Tryz.underlying3 k0
    obtain ⟨n1, e1, -⟩ := trod_i64 Tryz.underlying48 k1
    simp at e0 e1
    subst e0 e1
    exact ⟨(n0, n1), rfl⟩
set_option maxRecDepth 100000 in
theorem trod_cred {fuel : Nat} {cs : List Value} {x : DataW H × List MemPlace} (h : DataW.trod enc Tryz.prog w base spare held fuel 27 cs = some x) : ∃ u g, cs = [.int .i64 u, .int .i64 g] := by
  obtain ⟨h1, n, h2⟩ := trod_fields5 Tryz.underlying27 h
  have hc : Tryz.prog.cellsOf 27 = 2 := by kernel_rfl
  have c1 : Tryz.prog.cellsOf 3 = 1 := by kernel_rfl
  rw [hc] at h1
  match cs, h1 with
  | [a0, a1], _ =>
    obtain ⟨y0, k0⟩ := h2 0 3 0 1 [a0] rfl c1 rfl
    obtain ⟨y1, k1⟩ := h2 1 3 1 1 [a1] rfl c1 rfl
    obtain ⟨n0, e0, -⟩ := trod_i64 Tryz.underlying3 k0
    obtain ⟨n1, e1, -⟩ := trod_i64 Tryz.underlying3 k1
    simp at e0 e1
    subst e0 e1
    exact ⟨n0, n1, rfl⟩
set_option maxRecDepth 100000 in
theorem trod_case {fuel : Nat} {cs : List Value} {x : DataW H × List MemPlace} (h : DataW.trod enc Tryz.prog w base spare held fuel 30 cs = some x) :
    ∃ ma mn mc ia il ic ms is u g at' to' nm pa pn pc pl ke, cs = [.slice ma mn mc, .slice ia il ic, .int .i64 u, .int .i64 g, .int .i64 at', .int .i64 to', .string nm, .slice pa pn pc, .bool ke] ∧ SdAt w ma mn mc ia il ic ms is ∧ SliceAt w 2 fltR pa pn pc pl ∧ nm.size ≤ 9223372036854775807 := by
  obtain ⟨h1, n, h2⟩ := trod_fields5 Tryz.underlying30 h
  have hc : Tryz.prog.cellsOf 30 = 9 := by kernel_rfl
  have c1 : Tryz.prog.cellsOf 25 = 2 := by kernel_rfl
  have c2 : Tryz.prog.cellsOf 27 = 2 := by kernel_rfl
  have c3 : Tryz.prog.cellsOf 3 = 1 := by kernel_rfl
  have c4 : Tryz.prog.cellsOf 9 = 1 := by kernel_rfl
  have c5 : Tryz.prog.cellsOf 28 = 1 := by kernel_rfl
  have c6 : Tryz.prog.cellsOf 4 = 1 := by kernel_rfl
  rw [hc] at h1
  match cs, h1 with
  | [a0, a1, a2, a3, a4, a5, a6, a7, a8], _ =>
    obtain ⟨y0, k0⟩ := h2 0 25 0 2 [a0, a1] rfl c1 rfl
    obtain ⟨y1, k1⟩ := h2 1 27 2 2 [a2, a3] rfl c2 rfl
    obtain ⟨y2, k2⟩ := h2 2 3 4 1 [a4] rfl c3 rfl
    obtain ⟨y3, k3⟩ := h2 3 3 5 1 [a5] rfl c3 rfl
    obtain ⟨y4, k4⟩ := h2 4 9 6 1 [a6] rfl c4 rfl
    obtain ⟨y5, k5⟩ := h2 5 28 7 1 [a7] rfl c5 rfl
    obtain ⟨y6, k6⟩ := h2 6 4 8 1 [a8] rfl c6 rfl
    obtain ⟨ma, mn, mc, ia, il, ic, ms, is, e0, hs⟩ := trod_seed k0
    obtain ⟨u, g, e1⟩ := trod_cred k1
    obtain ⟨n2, e2, -⟩ := trod_i64 Tryz.underlying3 k2
    obtain ⟨n3, e3, -⟩ := trod_i64 Tryz.underlying3 k3
    obtain ⟨s4, e4, h4⟩ := trod_str Tryz.underlying9 k4
    obtain ⟨pa, pn, pc, pl, e5, hp⟩ := open_sl (R := fltR) (sz := 2) Tryz.underlying28 (by kernel_rfl) (by decide) (fun fuel cs x h => trod_flt h) k5
    obtain ⟨b6, e6, -⟩ := DataW.trod_bool Tryz.underlying4 k6
    simp at e0 e1 e2 e3 e4 e5 e6
    obtain ⟨rfl, rfl⟩ := e0
    obtain ⟨rfl, rfl⟩ := e1
    subst e2 e3 e4 e5 e6
    exact ⟨ma, mn, mc, ia, il, ic, ms, is, u, g, n2, n3, s4, pa, pn, pc, pl, b6, rfl, hs, hp, h4⟩
end

end Go.Proofs.YtihdbncoijhihaaGreatDoor

/- The closed facts of a row, one by one: each is checked apart (together they want too much memory over a great program). No program in sight. -/
namespace Go.Proofs.YtihdbncoijhihaaGreatDoor

open Go.ChangeShapes Go.WideShapes Go.ChangeAt

theorem and_i {a b : Bool} (h : a = true) (k : b = true) : (a && b) = true := by
  rw [h, k]
  rfl
theorem joined_of {P : Program} {f : FuncId} {fn : Func} {s : ChangeSpec} {c : OpenClaim}
    (h0 : (c.wf (OpenSpec.ofChange s)) = true)
    (h1 : (laidOutB P) = true)
    (h2 : (mapsRowed P) = true)
    (h3 : (fn.params.all (P.readableRec ·)) = true)
    (h4 : (namedTie P c.named s.vars) = true)
    (h5 : ((c.stops == [])) = true)
    (h6 : ((P.stops == [])) = true)
    (h7 : ((c.knobs == [])) = true)
    (h8 : ((P.stopKnobs == [])) = true)
    (h9 : ((c.inPlace == P.inPlace f)) = true)
    (h10 : ((c.unfollowed == P.unfollowed f)) = true)
    (h11 : ((c.recurses == P.recurses f)) = true)
    (h12 : ((c.named == P.varsNamed f)) = true)
    (h13 : ((c.maps == (fn.params.toList ++ s.plain.varTypes P).any (P.mapsRec ·))) = true)
    (h14 : ((c.ifaces == (fn.params.toList ++ s.plain.varTypes P).any (P.ifacesRec ·))) = true)
    (h15 : ((c.mapsOut == P.mapsAmong fn.resultTypes.toList)) = true)
    (h16 : ((c.loops == (fn.params.toList ++ s.plain.varTypes P).any (P.loopsFrom ·))) = true)
    (h17 : ((c.wideKeys == (fn.params.toList ++ s.plain.varTypes P ++ fn.resultTypes.toList).any (P.wideKeysFrom ·))) = true)
    (h18 : (s.vars.all (P.varReadable ·)) = true)
    (h19 : (fn.resultTypes.all (fun t => P.readableRec t && decide (t < P.types.size))) = true)
    (h20 : ((c.ifacesOut == fn.resultTypes.toList.any (P.ifacesRec ·))) = true)
    (h21 : ((c.loopsOut == fn.resultTypes.toList.any (P.loopsFrom ·))) = true)
    (h22 : ((c.plainKeys == P.plainKeys)) = true)
    (h23 : (c.shortTexts.isNone) = true)
    (h24 : (P.stopsHeard) = true)
    (h25 : (P.mayEnter) = true)
    (h26 : ((c.lifted == P.liftsFinal)) = true)
    (h27 : ((P.make == some c.make)) = true)
    (h28 : ((c.kinds == (if c.domain.isEmpty then [] else fn.params.toList.map fun t => match P.underlying t with | some (.int k) => some k | _ => none))) = true)
    (h29 : ((c.pinned == c.pinnedBy)) = true)
    (h30 : ((c.veiled == (fn.params.toList ++ s.plain.varTypes P ++ fn.resultTypes.toList).any (P.veiledRec ·))) = true)
    (h31 : (c.veiledFits P fn.params.toList (fn.params.toList ++ s.plain.varTypes P ++ fn.resultTypes.toList)) = true) :
    joinedFacts P f fn s c = true := by
  unfold joinedFacts
  exact and_i (and_i (and_i (and_i (and_i (and_i (and_i (and_i (and_i (and_i (and_i (and_i (and_i (and_i (and_i (and_i (and_i (and_i (and_i (and_i (and_i (and_i (and_i (and_i (and_i (and_i (and_i (and_i (and_i (and_i (and_i h0 h1) h2) h3) h4) h5) h6) h7) h8) h9) h10) h11) h12) h13) h14) h15) h16) h17) h18) h19) h20) h21) h22) h23) h24) h25) h26) h27) h28) h29) h30) h31
end Go.Proofs.YtihdbncoijhihaaGreatDoor
