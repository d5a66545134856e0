/- Texts of the proof, part 5. -/
import Derived.Test.YtaojpbgaengdpaaGreatDoorDP4
import Derived.Test.YtaojpbgaengdpaaGreatDoorDU41
import Derived.Test.YtaojpbgaengdpaaGreatDoorDU24
import Derived.Test.YtaojpbgaengdpaaGreatDoorDU3
import Derived.Test.YtaojpbgaengdpaaGreatDoorDU27
import Derived.Test.YtaojpbgaengdpaaGreatDoorDU40
set_option linter.unusedVariables false
set_option linter.unusedSimpArgs false
/- The statement DumpPicks's function. -/
namespace Go.Proofs.YtaojpbgaengdpaaGreatDoor

open Go.RowKit

set_option maxRecDepth 100000 in
set_option maxHeartbeats 4000000 in
theorem dumpPicks_any (w : World) {a pa : Option Addr} {n c pn pc : Nat} {l : List Rw} {ps : List ByteArray} (hA : SliceAt w 10 rwQ a n c l) (hP : SliceAt w 1 pxR pa pn pc ps) (tg : ByteArray) (htg : tg.size ≤ 9223372036854775807)
    (hps : ∀ p ∈ ps, p.size ≤ 9223372036854775807) (hls : ∀ r ∈ l, r.path.size ≤ 9223372036854775807) :
    Calls Tryz.prog 5 #[.slice a n c, .slice pa pn pc, .string tg] w fun e w' => e = .returned (.bool true) ∧ Below w.heap.size w w' := by
  obtain rfl := hA.1
  obtain rfl := hP.1
  have HA := Lib.hid hA
  have HP := Lib.hid hP
  have HPs := Lib.hid hps
  have HLs := Lib.hid hls
  have HAw := Lib.hid awake23_any
  have hlx : l.length ≤ 9223372036854775807 := Nat.le_trans hA.2.1 hA.2.2.1
  have hpx : ps.length ≤ 9223372036854775807 := Nat.le_trans hP.2.1 hP.2.2.1
  clear hA hP hps hls
  by_cases hfew : l.length ≤ 40 ∧ ps.length ≤ 6 ∧ tg.size ≤ 300
  · obtain ⟨hl40, hp6, ht3⟩ := hfew
    have g1 : ¬ (40 : Int) < (l.length : Int) := by omega
    have g2 : ¬ (6 : Int) < (ps.length : Int) := by omega
    have g3 : ¬ (300 : Int) < (tg.size : Int) := by omega
    go_enter Tryz.func5, Tryz.ntmps5
    go_wp2_with fail
    clear g1 g2 g3
    go_loop [7] (fun t7 => ∃ k : Nat, k ≤ l.length ∧ t7 = .int .i64 k ∧ ∀ r ∈ l.take k, r.path.size ≤ 300) (fun t7 => l.length - (intOf t7).toNat)
    case atStart => exact ⟨0, Nat.zero_le _, rfl, fun r h => by simp at h⟩
    case round =>
      obtain ⟨k, hk, rfl, hsm⟩ := hrel
      have HSm := Lib.hid hsm
      clear hsm
      by_cases hlt : k < l.length
      · obtain ⟨ba, oa, rfl, -⟩ := rowsAt_some HA.out (by omega)
        obtain ⟨c0, -, -, -, -, -, -, -, c8, -⟩ := rows_cell HA.out k hlt
        have hrs := HLs.out _ (List.getElem_mem hlt)
        have HSt := Lib.hid (fun (h : l[k].path.size ≤ 300) => show ∀ r ∈ l.take (k + 1), r.path.size ≤ 300 by
          intro r hr
          rw [List.take_succ_eq_append_getElem hlt] at hr
          rcases List.mem_append.1 hr with hr | hr
          · exact HSm.out r hr
          · simp at hr
            rw [hr]
            exact h)
        generalize l[k] = r at c0 c8 hrs HSt
        by_cases hf : r.first < 0
        · go_wp2_with fail
          refine (HAw.out _).mono ?_
          rintro e w2 ⟨rfl, hb2⟩
          clear c0 c8
          go_wp2_with fail
          go_ret
          exact ⟨rfl, hb2⟩
        · by_cases hz : r.path.size ≤ 300
          · have hz2 : ¬ (300 : Int) < (r.path.size : Int) := by omega
            go_wp2_with fail
            go_round
            case measure => simp [intOf]; omega
            case rel => exact ⟨k + 1, by omega, by go_num, HSt.out hz⟩
          · have hz2 : (300 : Int) < (r.path.size : Int) := by omega
            go_wp2_with fail
            refine (HAw.out _).mono ?_
            rintro e w2 ⟨rfl, hb2⟩
            clear c0 c8
            go_wp2_with fail
            go_ret
            exact ⟨rfl, hb2⟩
      · obtain rfl : k = l.length := by omega
        have HL3 := Lib.hid (show ∀ r ∈ l, r.path.size ≤ 300 by have := HSm.out; rwa [List.take_length] at this)
        clear hlt hk HSm
        go_wp2_with fail
        go_loopw [8] (fun t8 wr => ∃ k : Nat, k ≤ ps.length ∧ t8 = .int .i64 k ∧ (∀ p ∈ ps.take k, p.size ≤ 300) ∧ Below w.heap.size w wr) (fun t8 _ => ps.length - (intOf t8).toNat)
        case atStart => exact ⟨0, Nat.zero_le _, rfl, (fun p h => by simp at h), Below.refl _ _⟩
        case round =>
          obtain ⟨k, hk, rfl, hsm, hb⟩ := hrel
          have HSm := Lib.hid hsm
          have HB := Lib.hid hb
          clear hsm
          by_cases hlt : k < ps.length
          · have hP2 := HP.out.below hb (Nat.le_refl _)
            obtain ⟨pb, po, rfl, hpb⟩ := px_some hP2 (by omega)
            have hpc := px_cell hP2 k hlt
            have hpz := HPs.out _ (List.getElem_mem hlt)
            have HSt := Lib.hid (fun (h : ps[k].size ≤ 300) => show ∀ r ∈ ps.take (k + 1), r.size ≤ 300 by
              intro r hr
              rw [List.take_succ_eq_append_getElem hlt] at hr
              rcases List.mem_append.1 hr with hr | hr
              · exact HSm.out r hr
              · simp at hr
                rw [hr]
                exact h)
            generalize ps[k] = p at hpc hpz HSt
            clear hP2 hb
            by_cases hz : p.size ≤ 300
            · have hz2 : ¬ (300 : Int) < (p.size : Int) := by omega
              have HD1 := Lib.hid (fun w3 (hb : Below wr.heap.size wr w3) => dat_any w3 (HA.out.below (bnext HB.out hb) (Nat.le_refl _)) (by omega) p tg (by omega) (by omega) (fun r hr => Nat.le_trans (HL3.out r hr) (by omega)))
              have HD2 := Lib.hid (fun w3 (hb : Below wr.heap.size wr w3) => rat22_any w3 (HA.out.below (bnext HB.out hb) (Nat.le_refl _)) (by omega) p tg (by omega) (by omega) (fun r hr => Nat.le_trans (HL3.out r hr) (by omega)))
              go_wp2_with fail
              refine wp_region_held_drew (S := (fun w' => (∀ b o, b < wr.heap.size → w'.cell? ⟨b, o, none⟩ = wr.cell? ⟨b, o, none⟩) ∧ Below wr.heap.size wr w')) (by kernel_rfl) (keepS_here _) (fun hHeld => ?_)
              refine reg_take 0 51 (v := ?v0) rfl rfl (by kernel_rfl) (by kernel_rfl) (by kernel_rfl) (fun _ _ _ h => h) rfl ?y0 hHeld ?_
              case y0 => (intro w hSw; (try dsimp only at hSw); go_simp; (try with_reducible rfl))
              simp only [List.setIfInBounds_toArray, List.set_cons_zero, List.set_cons_succ]
              refine reg_take 1 52 (v := ?v1) rfl rfl (by kernel_rfl) (by kernel_rfl) (by kernel_rfl) (fun _ _ _ h => h) rfl ?y1 hHeld ?_
              case y1 => (intro w hSw; (try dsimp only at hSw); go_simp; (try with_reducible rfl))
              simp only [List.setIfInBounds_toArray, List.set_cons_zero, List.set_cons_succ]
              refine reg_take 2 53 (v := ?v2) rfl rfl (by kernel_rfl) (by kernel_rfl) (by kernel_rfl) (fun _ _ _ h => h) rfl ?y2 hHeld ?_
              case y2 => (intro w hSw; (try dsimp only at hSw); go_simp; (try with_reducible rfl))
              simp only [List.setIfInBounds_toArray, List.set_cons_zero, List.set_cons_succ]
              refine reg_take 3 54 (v := ?v3) rfl rfl (by kernel_rfl) (by kernel_rfl) (by kernel_rfl) (fun _ _ _ h => h) rfl ?y3 hHeld ?_
              case y3 => (intro w hSw; (try dsimp only at hSw); go_simp; (try with_reducible rfl))
              simp only [List.setIfInBounds_toArray, List.set_cons_zero, List.set_cons_succ]
              refine reg_take 4 55 (v := ?v4) rfl rfl (by kernel_rfl) (by kernel_rfl) (by kernel_rfl) (fun _ _ _ h => h) rfl ?y4 hHeld ?_
              case y4 => (intro w hSw; (try dsimp only at hSw); go_simp; (try with_reducible rfl))
              simp only [List.setIfInBounds_toArray, List.set_cons_zero, List.set_cons_succ]
              refine reg_take 5 56 (v := .bool false) rfl rfl (by kernel_rfl) (by kernel_rfl) (by kernel_rfl) (fun _ _ _ h => h) rfl ?y5 hHeld ?_
              case y5 => (intro w hSw; (try dsimp only at hSw); go_simp; (try simp [hz2]); (try with_reducible rfl))
              simp only [List.setIfInBounds_toArray, List.set_cons_zero, List.set_cons_succ]
              refine reg_take 6 57 (v := .bool false) rfl rfl (by kernel_rfl) (by kernel_rfl) (by kernel_rfl) (fun _ _ _ h => h) rfl ?y6 hHeld ?_
              case y6 => (intro w hSw; (try dsimp only at hSw); go_simp; (try with_reducible rfl))
              simp only [List.setIfInBounds_toArray, List.set_cons_zero, List.set_cons_succ]
              refine reg_take 7 58 (v := ?v7) rfl rfl (by kernel_rfl) (by kernel_rfl) (by kernel_rfl) (fun _ _ _ h => h) rfl ?y7 hHeld ?_
              case y7 => (intro w hSw; (try dsimp only at hSw); go_simp; (try with_reducible rfl))
              simp only [List.setIfInBounds_toArray, List.set_cons_zero, List.set_cons_succ]
              refine reg_take 8 59 (v := ?v8) rfl rfl (by kernel_rfl) (by kernel_rfl) (by kernel_rfl) (fun _ _ _ h => h) rfl ?y8 hHeld ?_
              case y8 => (intro w hSw; (try dsimp only at hSw); go_simp; (try with_reducible rfl))
              simp only [List.setIfInBounds_toArray, List.set_cons_zero, List.set_cons_succ]
              refine reg_take 9 60 (v := ?v9) rfl rfl (by kernel_rfl) (by kernel_rfl) (by kernel_rfl) (fun _ _ _ h => h) rfl ?y9 hHeld ?_
              case y9 => (intro w hSw; (try dsimp only at hSw); go_simp; (try with_reducible rfl))
              simp only [List.setIfInBounds_toArray, List.set_cons_zero, List.set_cons_succ]
              refine reg_take 10 61 (v := ?v10) rfl rfl (by kernel_rfl) (by kernel_rfl) (by kernel_rfl) (fun _ _ _ h => h) rfl ?y10 hHeld ?_
              case y10 => (intro w hSw; (try dsimp only at hSw); go_simp; (try with_reducible rfl))
              simp only [List.setIfInBounds_toArray, List.set_cons_zero, List.set_cons_succ]
              refine reg_take 11 62 (v := ?v11) rfl rfl (by kernel_rfl) (by kernel_rfl) (by kernel_rfl) (fun _ _ _ h => h) rfl ?y11 hHeld ?_
              case y11 => (intro w hSw; (try dsimp only at hSw); go_simp; (try with_reducible rfl))
              simp only [List.setIfInBounds_toArray, List.set_cons_zero, List.set_cons_succ]
              refine reg_take 12 63 (v := ?v12) rfl rfl (by kernel_rfl) (by kernel_rfl) (by kernel_rfl) (fun _ _ _ h => h) rfl ?y12 hHeld ?_
              case y12 => (intro w hSw; (try dsimp only at hSw); go_simp; (try with_reducible rfl))
              simp only [List.setIfInBounds_toArray, List.set_cons_zero, List.set_cons_succ]
              refine reg_take 14 65 (v := ?v14) rfl rfl (by kernel_rfl) (by kernel_rfl) (by kernel_rfl) (fun _ _ _ h => h) rfl ?y14 hHeld ?_
              case y14 => (intro w hSw; (try dsimp only at hSw); go_simp; (try with_reducible rfl))
              simp only [List.setIfInBounds_toArray, List.set_cons_zero, List.set_cons_succ]
              refine reg_take 15 66 (v := ?v15) rfl rfl (by kernel_rfl) (by kernel_rfl) (by kernel_rfl) (fun _ _ _ h => h) rfl ?y15 hHeld ?_
              case y15 => (intro w hSw; (try dsimp only at hSw); go_simp; (try with_reducible rfl))
              simp only [List.setIfInBounds_toArray, List.set_cons_zero, List.set_cons_succ]
              refine reg_take 16 67 (v := ?v16) rfl rfl (by kernel_rfl) (by kernel_rfl) (by kernel_rfl) (fun _ _ _ h => h) rfl ?y16 hHeld ?_
              case y16 => (intro w hSw; (try dsimp only at hSw); go_simp; (try with_reducible rfl))
              simp only [List.setIfInBounds_toArray, List.set_cons_zero, List.set_cons_succ]
              refine reg_take 17 68 (v := ?v17) rfl rfl (by kernel_rfl) (by kernel_rfl) (by kernel_rfl) (fun _ _ _ h => h) rfl ?y17 hHeld ?_
              case y17 => (intro w hSw; (try dsimp only at hSw); go_simp; (try with_reducible rfl))
              simp only [List.setIfInBounds_toArray, List.set_cons_zero, List.set_cons_succ]
              refine reg_take 18 69 (v := ?v18) rfl rfl (by kernel_rfl) (by kernel_rfl) (by kernel_rfl) (fun _ _ _ h => h) rfl ?y18 hHeld ?_
              case y18 => (intro w hSw; (try dsimp only at hSw); go_simp; (try with_reducible rfl))
              simp only [List.setIfInBounds_toArray, List.set_cons_zero, List.set_cons_succ]
              refine reg_take 19 70 (v := ?v19) rfl rfl (by kernel_rfl) (by kernel_rfl) (by kernel_rfl) (fun _ _ _ h => h) rfl ?y19 hHeld ?_
              case y19 => (intro w hSw; (try dsimp only at hSw); go_simp; (try with_reducible rfl))
              simp only [List.setIfInBounds_toArray, List.set_cons_zero, List.set_cons_succ]
              refine reg_call 13 64 (R := fun v w' => OR w' wr.drew.heap.size v (atL l p tg) ∧ Below wr.drew.heap.size wr.drew w') (by kernel_rfl) rfl rfl rfl ?x13 ((HD1.out _ hHeld.2).mono (fun e w' ⟨v, he, ho, hb⟩ => ⟨v, he, ho, hb⟩)) (fun v w' ⟨_, hb⟩ => keepS_call hHeld hb) ?_
              case x13 => (go_simp; (try rfl))
              rintro v4 w4 ⟨ho4, hb4⟩
              have hHeld4 := keepS_call hHeld hb4
              simp only [List.setIfInBounds_toArray, List.set_cons_zero, List.set_cons_succ]
              refine reg_call 20 71 (R := fun v w' => OR w' w4.heap.size v (atL l p tg) ∧ Below w4.heap.size w4 w') (by kernel_rfl) rfl rfl rfl ?x20 ((HD2.out _ hHeld4.2).mono (fun e w' ⟨v, he, ho, hb⟩ => ⟨v, he, ho, hb⟩)) (fun v w' ⟨_, hb⟩ => keepS_call hHeld4 hb) ?_
              case x20 => (go_simp; (try rfl))
              rintro v5 w5 ⟨ho5, hb5⟩
              have hHeld5 := keepS_call hHeld4 hb5
              simp only [List.setIfInBounds_toArray, List.set_cons_zero, List.set_cons_succ]
              have hq4 := own_keep ho4 hb5
              obtain ⟨a4, c4, rfl, -, -, -⟩ := own_form hq4
              obtain ⟨a5, c5, rfl, -, -, -⟩ := own_form ho5
              have hsm := rsame22_any w5 (OR.at hq4) (OR.at ho5)
              rw [decide_eq_true rfl] at hsm
              refine reg_call 21 72 (R := fun v w' => v = .bool true ∧ Below w5.heap.size w5 w') (by kernel_rfl) rfl rfl rfl ?x21 (hsm.mono (fun e w' ⟨he, hb⟩ => ⟨_, he, rfl, hb⟩)) (fun v w' ⟨_, hb⟩ => keepS_call hHeld5 hb) ?_
              case x21 => (go_simp; (try rfl))
              rintro v6 w6 ⟨rfl, hb6⟩
              have hHeld6 := keepS_call hHeld5 hb6
              simp only [List.setIfInBounds_toArray, List.set_cons_zero, List.set_cons_succ]
              refine reg_take 22 73 (v := ?v22) rfl rfl (by kernel_rfl) (by kernel_rfl) (by kernel_rfl) (fun _ _ _ h => h) rfl ?y22 hHeld6 ?_
              case y22 => (intro w hSw; (try dsimp only at hSw); go_simp; (try with_reducible rfl))
              simp only [List.setIfInBounds_toArray, List.set_cons_zero, List.set_cons_succ]
              refine reg_take 23 74 (v := ?v23) rfl rfl (by kernel_rfl) (by kernel_rfl) (by kernel_rfl) (fun _ _ _ h => h) rfl ?y23 hHeld6 ?_
              case y23 => (intro w hSw; (try dsimp only at hSw); go_simp; (try with_reducible rfl))
              simp only [List.setIfInBounds_toArray, List.set_cons_zero, List.set_cons_succ]
              refine wpAnyH_done (by kernel_rfl) ?_ _
              have HB6 := Lib.hid (bnext HB.out hHeld6.2)
              clear ho4 hb4 ho5 hb5 hb6 hq4 hsm hHeld hHeld4 hHeld5 hHeld6 hpc
              go_wp2_with fail
              go_roundw
              case measure => simp [intOf]; omega
              case rel => exact ⟨k + 1, by omega, by go_num, HSt.out hz, HB6.out⟩
            · have hz2 : (300 : Int) < (p.size : Int) := by omega
              go_wp2_with fail
              go_quiet (fail)
              go_wp2_with fail
              refine (HAw.out _).mono ?_
              rintro e w2 ⟨rfl, hb2⟩
              have HB2 := Lib.hid (bnext (below_drewN HB.out _) hb2)
              clear hpc hb2
              go_wp2_with fail
              go_ret
              exact ⟨rfl, HB2.out⟩
          · obtain rfl : k = ps.length := by omega
            have HP3 := Lib.hid (show ∀ r ∈ ps, r.size ≤ 300 by have := HSm.out; rwa [List.take_length] at this)
            clear hb hlt hk HSm
            have HD1 := Lib.hid (dbut_any wr (HA.out.below HB.out (Nat.le_refl _)) (by omega) (HP.out.below HB.out (Nat.le_refl _)) (fun p hp => Nat.le_trans (HP3.out p hp) (by omega)))
            have HD2 := Lib.hid (fun w3 (hb : Below w.heap.size w w3) => rbut_any w3 (HA.out.below hb (Nat.le_refl _)) (by omega) (HP.out.below hb (Nat.le_refl _)) (fun p hp => Nat.le_trans (HP3.out p hp) (by omega)) (fun r hr => Nat.le_trans (HL3.out r hr) (by omega)))
            have HS1 := Lib.hid (fun w3 (hb : Below w.heap.size w w3) => dstill_any w3 (HA.out.below hb (Nat.le_refl _)) (by omega))
            have HS2 := Lib.hid (fun w3 (hb : Below w.heap.size w w3) => rstill_any w3 (HA.out.below hb (Nat.le_refl _)) (by omega))
            have HQ1 := Lib.hid (fun w3 (hb : Below w.heap.size w w3) (b : Option Addr) (m d : Nat) (h : SliceAt w3 10 rwQ b m d (stillL l)) => dsame_any w3 (HA.out.below hb (Nat.le_refl _)) h)
            have HQ2 := Lib.hid (fun w3 (hb : Below w.heap.size w w3) (b : Option Addr) (m d : Nat) (h : SliceAt w3 10 rwQ b m d (stillL l)) => rsame22_any w3 (HA.out.below hb (Nat.le_refl _)) h)
            obtain ⟨bb, hbb⟩ : ∃ b, decide (l = stillL l) = b := ⟨_, rfl⟩
            rw [hbb] at HQ1 HQ2
            clear hbb
            go_wp2_with fail
            refine HD1.out.mono ?_
            rintro e w2 ⟨v2, rfl, ho2, hb2⟩
            have HO2 := Lib.hid ho2
            have HB2 := Lib.hid (bnext HB.out hb2)
            clear ho2 hb2
            go_wp2_with fail
            refine (HD2.out _ HB2.out).mono ?_
            rintro e w3 ⟨v3, rfl, ho3, hb3⟩
            have HB3 := Lib.hid (bnext HB2.out hb3)
            have hq2 := own_keep HO2.out hb3
            obtain ⟨a2, c2, rfl, -, -, -⟩ := own_form hq2
            obtain ⟨a3, c3, rfl, -, -, -⟩ := own_form ho3
            have HSm := Lib.hid (rsame22_any w3 (OR.at hq2) (OR.at ho3))
            rw [decide_eq_true rfl] at HSm
            clear hb3 hq2 ho3 HO2 HD1 HD2
            go_wp2_with fail
            refine HSm.out.mono ?_
            rintro e w4 ⟨rfl, hb4⟩
            have HB4 := Lib.hid (bnext HB3.out hb4)
            clear hb4 HSm
            go_wp2_with fail
            refine (HS1.out _ HB4.out).mono ?_
            rintro e w5 ⟨v5, rfl, ho5, hb5⟩
            have HO5 := Lib.hid ho5
            have HB5 := Lib.hid (bnext HB4.out hb5)
            clear ho5 hb5
            go_wp2_with fail
            refine (HS2.out _ HB5.out).mono ?_
            rintro e w6 ⟨v6, rfl, ho6, hb6⟩
            have HB6 := Lib.hid (bnext HB5.out hb6)
            have hq5 := own_keep HO5.out hb6
            obtain ⟨a5, c5, rfl, -, -, -⟩ := own_form hq5
            obtain ⟨a6, c6, rfl, -, -, -⟩ := own_form ho6
            have HSm := Lib.hid (rsame22_any w6 (OR.at hq5) (OR.at ho6))
            rw [decide_eq_true rfl] at HSm
            clear hb6 hq5 ho6 HO5
            go_wp2_with fail
            refine HSm.out.mono ?_
            rintro e w7 ⟨rfl, hb7⟩
            have HB7 := Lib.hid (bnext HB6.out hb7)
            clear hb7 HSm
            go_wp2_with fail
            refine (HS1.out _ HB7.out).mono ?_
            rintro e w8 ⟨v8, rfl, ho8, hb8⟩
            have HB8 := Lib.hid (bnext HB7.out hb8)
            obtain ⟨a8, c8, rfl, -, -, -⟩ := own_form ho8
            have HS8 := Lib.hid (OR.at ho8)
            clear ho8 hb8
            go_wp2_with fail
            refine (HQ1.out _ HB8.out _ _ _ HS8.out).mono ?_
            rintro e w9 ⟨rfl, hb9⟩
            have HB9 := Lib.hid (bnext HB8.out hb9)
            clear hb9
            go_wp2_with fail
            refine (HS2.out _ HB9.out).mono ?_
            rintro e w10 ⟨v10, rfl, ho10, hb10⟩
            have HB10 := Lib.hid (bnext HB9.out hb10)
            obtain ⟨a10, c10, rfl, -, -, -⟩ := own_form ho10
            have HS10 := Lib.hid (OR.at ho10)
            clear ho10 hb10
            go_wp2_with fail
            refine (HQ2.out _ HB10.out _ _ _ HS10.out).mono ?_
            rintro e w11 ⟨rfl, hb11⟩
            have HB11 := Lib.hid (bnext HB10.out hb11)
            clear hb11
            have hbb : (bb == bb) = true := by simp
            go_wp2_with fail
            refine (HAw.out _).mono ?_
            rintro e w12 ⟨rfl, hb12⟩
            have HB12 := Lib.hid (bnext HB11.out hb12)
            clear hb12
            go_wp2_with fail
            go_ret
            exact ⟨rfl, HB12.out⟩
  · have hcase : (40 : Int) < (l.length : Int) ∨ (¬ (40 : Int) < (l.length : Int) ∧ (6 : Int) < (ps.length : Int)) ∨ (¬ (40 : Int) < (l.length : Int) ∧ ¬ (6 : Int) < (ps.length : Int) ∧ (300 : Int) < (tg.size : Int)) := by omega
    clear hfew
    rcases hcase with h1 | ⟨h1, h2⟩ | ⟨h1, h2, h3⟩
    all_goals
      go_enter Tryz.func5, Tryz.ntmps5
      go_wp2_with fail
      refine (HAw.out _).mono ?_
      rintro e w2 ⟨rfl, hb2⟩
      go_wp2_with fail
      go_ret
      exact ⟨rfl, hb2⟩
end Go.Proofs.YtaojpbgaengdpaaGreatDoor

/- How a seed reads: its mounts and its items. -/
namespace Go.Proofs.YtaojpbgaengdpaaGreatDoor

open Go.RowKit Go.ChangeShapes Go.WideShapes Go.ChangeAt

section

variable {H : Type} {enc : TypeId × Value → H} {w : World} {base : Nat} {spare : Nat → Bool} {held : Bool}

theorem trod_fields5 {P : Program} {t : TypeId} {fs : Array Field} {fuel : Nat} {cs : List Value} {x : DataW H × List MemPlace} (ht : P.underlying t = some (.struct fs)) (h : DataW.trod enc P w base spare held fuel t cs = some x) :
    cs.length = P.cellsOf t ∧ ∃ n, ∀ (i : Nat) (ty : TypeId) (off k : Nat) (l : List Value), (fs[i]?.map fun f => (f.type, f.offset)) = some (ty, off) → P.cellsOf ty = k → (cs.drop off).take k = l → ∃ y, DataW.trod enc P w base spare held n ty l = some y := by
  obtain ⟨xs, n, -, -, h1, h2, h3⟩ := DataW.trod_struct ht h
  refine ⟨h1, n, fun i ty off k l hf hk hl => ?_⟩
  obtain ⟨f, hf1, e⟩ := Option.map_eq_some_iff.1 hf
  clear hf
  injection e with e1 e2
  subst e1 e2 hk hl
  have hi : i < xs.length := by
    rw [h2]
    exact (Array.getElem?_eq_some_iff.1 hf1).1
  exact ⟨xs[i], by rw [h3 i f hf1, List.getElem?_eq_getElem hi]⟩
set_option maxRecDepth 100000 in
theorem trod_mt {fuel : Nat} {cs : List Value} {x : DataW H × List MemPlace} (h : DataW.trod enc Tryz.prog w base spare held fuel 57 cs = some x) : ∃ y : Mt, mtR cs y := by
  obtain ⟨h1, n, h2⟩ := trod_fields5 Tryz.underlying57 h
  have hc : Tryz.prog.cellsOf 57 = 3 := by kernel_rfl
  have c1 : Tryz.prog.cellsOf 9 = 1 := by kernel_rfl
  have c2 : Tryz.prog.cellsOf 3 = 1 := by kernel_rfl
  rw [hc] at h1
  match cs, h1 with
  | [a0, a1, a2], _ =>
    obtain ⟨y0, k0⟩ := h2 0 9 0 1 [a0] rfl c1 rfl
    obtain ⟨y1, k1⟩ := h2 1 3 1 1 [a1] rfl c2 rfl
    obtain ⟨y2, k2⟩ := h2 2 3 2 1 [a2] rfl c2 rfl
    obtain ⟨s, e0, -⟩ := trod_str Tryz.underlying9 k0
    obtain ⟨n1, e1, -⟩ := trod_i64 Tryz.underlying3 k1
    obtain ⟨n2, e2, -⟩ := trod_i64 Tryz.underlying3 k2
    simp at e0 e1 e2
    subst e0 e1 e2
    exact ⟨⟨s, n1, n2⟩, rfl⟩
set_option maxRecDepth 100000 in
theorem trod_it {fuel : Nat} {cs : List Value} {x : DataW H × List MemPlace} (h : DataW.trod enc Tryz.prog w base spare held fuel 59 cs = some x) : ∃ y : It, itR cs y := by
  obtain ⟨h1, n, h2⟩ := trod_fields5 Tryz.underlying59 h
  have hc : Tryz.prog.cellsOf 59 = 7 := by kernel_rfl
  have c1 : Tryz.prog.cellsOf 9 = 1 := by kernel_rfl
  have c2 : Tryz.prog.cellsOf 3 = 1 := by kernel_rfl
  rw [hc] at h1
  match cs, h1 with
  | [a0, a1, a2, a3, a4, a5, a6], _ =>
    obtain ⟨y0, k0⟩ := h2 0 9 0 1 [a0] rfl c1 rfl
    obtain ⟨y1, k1⟩ := h2 1 3 1 1 [a1] rfl c2 rfl
    obtain ⟨y2, k2⟩ := h2 2 3 2 1 [a2] rfl c2 rfl
    obtain ⟨y3, k3⟩ := h2 3 3 3 1 [a3] rfl c2 rfl
    obtain ⟨y4, k4⟩ := h2 4 3 4 1 [a4] rfl c2 rfl
    obtain ⟨y5, k5⟩ := h2 5 3 5 1 [a5] rfl c2 rfl
    obtain ⟨y6, k6⟩ := h2 6 9 6 1 [a6] rfl c1 rfl
    obtain ⟨s, e0, -⟩ := trod_str Tryz.underlying9 k0
    obtain ⟨n1, e1, -⟩ := trod_i64 Tryz.underlying3 k1
    obtain ⟨n2, e2, -⟩ := trod_i64 Tryz.underlying3 k2
    obtain ⟨n3, e3, -⟩ := trod_i64 Tryz.underlying3 k3
    obtain ⟨n4, e4, -⟩ := trod_i64 Tryz.underlying3 k4
    obtain ⟨n5, e5, -⟩ := trod_i64 Tryz.underlying3 k5
    obtain ⟨s6, e6, -⟩ := trod_str Tryz.underlying9 k6
    simp at e0 e1 e2 e3 e4 e5 e6
    subst e0 e1 e2 e3 e4 e5 e6
    exact ⟨⟨s, n1, n2, n3, n4, n5, s6⟩, rfl⟩
set_option maxRecDepth 100000 in
theorem trod_seed {fuel : Nat} {cs : List Value} {x : DataW H × List MemPlace} (h : DataW.trod enc Tryz.prog w base spare held fuel 25 cs = some x) :
    ∃ ma mn mc ia il ic ms is, cs = [.slice ma mn mc, .slice ia il ic] ∧ SdAt w ma mn mc ia il ic ms is := by
  obtain ⟨h1, n, h2⟩ := trod_fields5 Tryz.underlying25 h
  have hc : Tryz.prog.cellsOf 25 = 2 := by kernel_rfl
  have c1 : Tryz.prog.cellsOf 22 = 1 := by kernel_rfl
  have c2 : Tryz.prog.cellsOf 23 = 1 := by kernel_rfl
  rw [hc] at h1
  match cs, h1 with
  | [a0, a1], _ =>
    obtain ⟨y0, k0⟩ := h2 0 22 0 1 [a0] rfl c1 rfl
    obtain ⟨y1, k1⟩ := h2 1 23 1 1 [a1] rfl c2 rfl
    obtain ⟨ma, mn, mc, ms, e0, hm⟩ := open_sl (R := mtR) (sz := 3) Tryz.underlying22 (by kernel_rfl) (by decide) (fun fuel cs x h => trod_mt h) k0
    obtain ⟨ia, il, ic, is, e1, hi⟩ := open_sl (R := itR) (sz := 7) Tryz.underlying23 (by kernel_rfl) (by decide) (fun fuel cs x h => trod_it h) k1
    simp at e0 e1
    subst e0 e1
    exact ⟨ma, mn, mc, ia, il, ic, ms, is, rfl, ⟨hm, hi⟩⟩
end

end Go.Proofs.YtaojpbgaengdpaaGreatDoor

/- How a row reads. -/
namespace Go.Proofs.YtaojpbgaengdpaaGreatDoor

open Go.RowKit Go.ChangeShapes Go.WideShapes Go.ChangeAt

theorem slice_imp {α : Type} {w : World} {sz n c : Nat} {R R' : List Value → α → Prop} {a : Option Addr} {xs : List α} (h : SliceAt w sz R a n c xs) (hR : ∀ cs x, R cs x → R' cs x) : SliceAt w sz R' a n c xs := by
  obtain ⟨h1, h2, h3, h4⟩ := h
  refine ⟨h1, h2, h3, h4.imp id fun ⟨b, off, he, hlt, hel⟩ => ⟨b, off, he, hlt, fun i hi => ?_⟩⟩
  obtain ⟨cs, k1, k2, k3⟩ := hel i hi
  exact ⟨cs, k1, hR _ _ k2, k3⟩
theorem slice_all {α : Type} {w : World} {sz n c : Nat} {R : List Value → α → Prop} {a : Option Addr} {xs : List α} {Q : α → Prop} (h : SliceAt w sz R a n c xs) (hR : ∀ cs x, R cs x → Q x) : ∀ x ∈ xs, Q x := by
  obtain ⟨h1, -, -, h4⟩ := h
  intro x hx
  rcases h4 with h4 | ⟨b, off, -, -, hel⟩
  · have : xs = [] := List.eq_nil_of_length_eq_zero (by omega)
    rw [this] at hx; cases hx
  · obtain ⟨i, hi, rfl⟩ := List.mem_iff_getElem.1 hx
    obtain ⟨cs, -, k2, -⟩ := hel i hi
    exact hR _ _ k2
section

variable {H : Type} {enc : TypeId × Value → H} {w : World} {base : Nat} {spare : Nat → Bool} {held : Bool}

theorem trod_px {fuel : Nat} {cs : List Value} {x : DataW H × List MemPlace} (h : DataW.trod enc Tryz.prog w base spare held fuel 9 cs = some x) : ∃ y : ByteArray, pxR cs y ∧ y.size ≤ 9223372036854775807 := by
  obtain ⟨s, e, hs⟩ := trod_str Tryz.underlying9 h
  exact ⟨s, e, hs⟩
set_option maxRecDepth 100000 in
theorem trod_row {fuel : Nat} {cs : List Value} {x : DataW H × List MemPlace} (h : DataW.trod enc Tryz.prog w base spare held fuel 47 cs = some x) : ∃ y : Rw, rwQ cs y ∧ y.path.size ≤ 9223372036854775807 := by
  obtain ⟨h1, n, h2⟩ := trod_fields5 Tryz.underlying47 h
  have hc : Tryz.prog.cellsOf 47 = 10 := by kernel_rfl
  have c1 : Tryz.prog.cellsOf 9 = 1 := by kernel_rfl
  have c2 : Tryz.prog.cellsOf 3 = 1 := by kernel_rfl
  rw [hc] at h1
  match cs, h1 with
  | [a0, a1, a2, a3, a4, a5, a6, a7, a8, a9], _ =>
    obtain ⟨y0, k0⟩ := h2 0 9 0 1 [a0] rfl c1 rfl
    obtain ⟨y1, k1⟩ := h2 1 3 1 1 [a1] rfl c2 rfl
    obtain ⟨y2, k2⟩ := h2 2 3 2 1 [a2] rfl c2 rfl
    obtain ⟨y3, k3⟩ := h2 3 3 3 1 [a3] rfl c2 rfl
    obtain ⟨y4, k4⟩ := h2 4 3 4 1 [a4] rfl c2 rfl
    obtain ⟨y5, k5⟩ := h2 5 3 5 1 [a5] rfl c2 rfl
    obtain ⟨y6, k6⟩ := h2 6 3 6 1 [a6] rfl c2 rfl
    obtain ⟨y7, k7⟩ := h2 7 3 7 1 [a7] rfl c2 rfl
    obtain ⟨y8, k8⟩ := h2 8 3 8 1 [a8] rfl c2 rfl
    obtain ⟨y9, k9⟩ := h2 9 9 9 1 [a9] rfl c1 rfl
    obtain ⟨n0, e0, hz⟩ := trod_str Tryz.underlying9 k0
    obtain ⟨n1, e1, -⟩ := trod_i64 Tryz.underlying3 k1
    obtain ⟨n2, e2, -⟩ := trod_i64 Tryz.underlying3 k2
    obtain ⟨n3, e3, -⟩ := trod_i64 Tryz.underlying3 k3
    obtain ⟨n4, e4, -⟩ := trod_i64 Tryz.underlying3 k4
    obtain ⟨n5, e5, -⟩ := trod_i64 Tryz.underlying3 k5
    obtain ⟨n6, e6, -⟩ := trod_i64 Tryz.underlying3 k6
    obtain ⟨n7, e7, -⟩ := trod_i64 Tryz.underlying3 k7
    obtain ⟨n8, e8, -⟩ := trod_i64 Tryz.underlying3 k8
    obtain ⟨n9, e9, -⟩ := trod_str Tryz.underlying9 k9
    simp at e0 e1 e2 e3 e4 e5 e6 e7 e8 e9
    subst e0 e1 e2 e3 e4 e5 e6 e7 e8 e9
    exact ⟨⟨n0, n1, n2, n3, n4, n5, n6, n7, n8, n9⟩, rfl, hz⟩
end

end Go.Proofs.YtaojpbgaengdpaaGreatDoor
