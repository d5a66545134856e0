/- The statement ExpirePicks, as a tied card: for every input the law answers true, and each argument reads behind the call as before. -/
import Derived.Deep.DeepHandedRow
import Derived.Lay
import Derived.Test.YtkkiglagdojnlaaGreatDoorEP11
import Derived.Test.YtkkiglagdojnlaaGreatDoorEP21
import Derived.Test.YtkkiglagdojnlaaGreatDoorEP20
import Derived.Test.YtkkiglagdojnlaaGreatDoorEP3
import Derived.Test.YtkkiglagdojnlaaGreatDoorEP9
import Derived.Test.YtkkiglagdojnlaaGreatDoorCards
import Derived.Test.YtkkiglagdojnlaaGreatDoorTie
set_option linter.unusedVariables false
set_option linter.unusedSimpArgs false
/- The statement ExpirePicks: its function. -/
namespace Go.Proofs.YtkkiglagdojnlaaGreatDoor

open Go.RowKit Go.Shelf Go.Sort

theorem eyRes_call {w w' : World} {e : Ending} {l : List Ey} (h : EyRes w' e l ∧ Below w.heap.size w w') : ∃ v, e = .returned v ∧ (∃ a c, v = .slice a l.length c ∧ SliceAt w' 6 eyQ a l.length c l) ∧ Below w.heap.size w w' := by
  obtain ⟨⟨a, c, rfl, hs⟩, hb⟩ := h
  exact ⟨_, rfl, ⟨a, c, rfl, hs⟩, hb⟩
set_option maxRecDepth 100000 in
set_option maxHeartbeats 8000000 in
theorem expirePicks_any (w : World) {l : List Ey} {a : Option Addr} {n c : Nat} (h : SliceAt w 6 eyQ a n c l) (hd : ∀ y ∈ l, y.date ≤ 9223372036854775807) (now n0 n1 : Int) (hn0 : -9223372036854775808 ≤ now) (hn1 : now ≤ 9223372036854775807) :
    Calls Tryz.prog 5 #[.slice a n c, .int .i64 now, .agg #[.int .i64 n0, .int .i64 n1]] w fun e w' => e = .returned (.bool true) ∧ Below w.heap.size w w' := by
  obtain rfl : l.length = n := h.1
  have hc1 := h.2.1
  have hc2 := h.2.2.1
  have hX := Blk.new w #[.int .i64 n0, .int .i64 n1] 68
  have hbX := balloc (Below.refl w.heap.size w) (.cells #[.int .i64 n0, .int .i64 n1] 68)
  have hE := SliceAt.below h hbX (Nat.le_refl _)
  have HF := Lib.hid (few38_any l _ _ _ _ hE)
  have HAw := Lib.hid awake38_any
  have HD := Lib.hid hd
  clear h hd
  go_enter Tryz.func5, Tryz.ntmps5
  go_upto_region 1 with fail
  generalize w.alloc (.cells #[.int .i64 n0, .int .i64 n1] 68) = W0 at hX hbX hE HF ⊢
  generalize w.heap.size = bn at hX ⊢
  have HX := Lib.hid hX
  have HB := Lib.hid hbX
  have HE := Lib.hid hE
  clear hX hbX hE
  go_wp2_with fail
  refine HF.out.mono ?_
  rintro e w1 ⟨rfl, hb1⟩
  have HX1 := Lib.hid (HX.out.keep hb1)
  have HE1 := Lib.hid (SliceAt.below HE.out hb1 (Nat.le_refl _))
  have HB1 := Lib.hid (bnext HB.out hb1)
  clear hb1 HF
  cases hfew : fewE l with
  | false =>
    clear hfew
    go_wp2_with fail
    refine (HAw.out _).mono ?_
    rintro e w2 ⟨rfl, hb2⟩
    have HB2 := Lib.hid (bnext HB1.out hb2)
    clear hb2
    go_wp2_with fail
    go_ret
    exact ⟨rfl, HB2.out⟩
  | true =>
    obtain ⟨hl30, hsz⟩ := fewE_ok hfew HD.out
    have HSz := Lib.hid hsz
    clear hfew hsz
    go_wp2_with fail
    go_loopw [7] (fun t7 wr => ∃ k : Nat, k ≤ l.length ∧ t7 = .int .i64 k ∧ Below w1.heap.size w1 wr) (fun t7 _ => l.length - (intOf t7).toNat)
    case atStart => exact ⟨0, Nat.zero_le _, rfl, Below.refl _ _⟩
    case round =>
      obtain ⟨k, hk, rfl, hb⟩ := hrel
      have HBr := Lib.hid hb
      have hX2 := HX1.out.keep hb
      have HX2 := Lib.hid hX2
      obtain ⟨xc, xf, xz⟩ := hX2.facts
      by_cases hlt : k < l.length
      · have hE2 := SliceAt.below HE1.out hb (Nat.le_refl _)
        obtain ⟨b, off, rfl, -⟩ := eys_some hE2 (by omega)
        obtain ⟨y0, y1, y2, y3, y4, y5⟩ := eys_six hE2 k hlt
        have HC := Lib.hid (fun (w9 : World) (hb9 : Below wr.heap.size wr w9) => eys_six (SliceAt.below hE2 hb9 (Nat.le_refl _)) k hlt)
        have hdt := HD.out l[k] (List.getElem_mem _)
        generalize l[k] = y at y0 y1 y2 y3 y4 y5 HC hdt
        clear hX2 hE2 hb
        by_cases h1 : 0 ≤ now
        · by_cases h2 : 0 ≤ n0
          · by_cases h3 : 0 ≤ y.date
            · have hwa : IntKind.i64.wrap (now - y.date) = now - y.date := by rw [IntKind.wrap_i64]; omega
              have HO := Lib.hid (show oldB now n0 y = decide (n0 < now - y.date) by unfold oldB; rw [decide_eq_true h3]; rfl)
              by_cases h4 : n0 < now - y.date
              · have HO2 := Lib.hid (HO.out.trans (decide_eq_true h4))
                go_upto_region 7 with (go_quiet (fail))
                clear xc xf xz y0 y1 y2 y3 y4 y5
                have hd0 : Below wr.heap.size wr (wr.drewN nq).drew := (below_drewN (Below.refl _ _) nq).drew
                refine wp_region_held_drew (S := fun w' => Below wr.heap.size wr w') (by kernel_rfl) hd0 (fun hHeld => ?_)
                refine reg_takes 16 [(0, 46), (1, 47), (2, 48), (3, 49), (4, 50), (5, 51), (6, 52), (7, 53), (8, 54), (9, 55), (10, 56), (11, 57), (12, 58), (13, 59), (14, 60), (16, 62)] (by kernel_rfl) (by kernel_rfl) rfl (fun _ _ _ _ _ h => h) hHeld ?_
                iterate 16 ((first | (apply takes_cons rfl rfl; (· (intro w9 hSw; obtain ⟨xc, -, -⟩ := (HX2.out.keep hSw).facts; obtain ⟨y0, y1, y2, y3, y4, y5⟩ := HC.out w9 hSw; clear hSw; go_simp; (try with_reducible rfl)))) | (apply takes_skip rfl rfl)); simp only [List.setIfInBounds_toArray, List.set_cons_zero, List.set_cons_succ])
                refine takes_nil ?_
                refine reg_call 15 61 (R := fun v w' => v = .bool (oldB now n0 y) ∧ Below (wr.drewN nq).drew.heap.size (wr.drewN nq).drew w') (by kernel_rfl) rfl rfl rfl ?xa ((expOld_any y now n0 hn0 hn1 hdt h1 _).mono (fun e w' ⟨he, hb⟩ => ⟨_, he, rfl, hb⟩)) (fun v w' ⟨_, hb⟩ => bnext hHeld hb) ?_
                case xa => (go_simp; (try rfl))
                rintro _ w9 ⟨rfl, hb9⟩
                rw [HO2.out]
                simp only [List.setIfInBounds_toArray, List.set_cons_zero, List.set_cons_succ]
                have hS1 := bnext hHeld hb9
                refine reg_takes 2 [(17, 63), (18, 64)] (by kernel_rfl) (by kernel_rfl) rfl (fun _ _ _ _ _ h => h) hS1 ?_
                iterate 2 ((first | (apply takes_cons rfl rfl; (· (intro w9 hSw; clear hSw; go_simp; (try with_reducible rfl)))) | (apply takes_skip rfl rfl)); simp only [List.setIfInBounds_toArray, List.set_cons_zero, List.set_cons_succ])
                refine takes_nil ?_
                refine wpAnyH_done (by kernel_rfl) ?_ _
                have HS1 := Lib.hid hS1
                clear hS1 hb9 hHeld hd0
                go_wp2_with fail
                go_roundw
                case measure => simp [intOf]; omega
                case rel => exact ⟨k + 1, by omega, by go_num, bnext HBr.out HS1.out⟩
              · have HO2 := Lib.hid (HO.out.trans (decide_eq_false h4))
                go_upto_region 7 with (go_quiet (fail))
                clear xc xf xz y0 y1 y2 y3 y4 y5
                have hd0 : Below wr.heap.size wr (wr.drewN nq).drew := (below_drewN (Below.refl _ _) nq).drew
                refine wp_region_held_drew (S := fun w' => Below wr.heap.size wr w') (by kernel_rfl) hd0 (fun hHeld => ?_)
                refine reg_takes 16 [(0, 46), (1, 47), (2, 48), (3, 49), (4, 50), (5, 51), (6, 52), (7, 53), (8, 54), (9, 55), (10, 56), (11, 57), (12, 58), (13, 59), (14, 60), (16, 62)] (by kernel_rfl) (by kernel_rfl) rfl (fun _ _ _ _ _ h => h) hHeld ?_
                iterate 16 ((first | (apply takes_cons rfl rfl; (· (intro w9 hSw; obtain ⟨xc, -, -⟩ := (HX2.out.keep hSw).facts; obtain ⟨y0, y1, y2, y3, y4, y5⟩ := HC.out w9 hSw; clear hSw; go_simp; (try with_reducible rfl)))) | (apply takes_skip rfl rfl)); simp only [List.setIfInBounds_toArray, List.set_cons_zero, List.set_cons_succ])
                refine takes_nil ?_
                refine reg_call 15 61 (R := fun v w' => v = .bool (oldB now n0 y) ∧ Below (wr.drewN nq).drew.heap.size (wr.drewN nq).drew w') (by kernel_rfl) rfl rfl rfl ?xa ((expOld_any y now n0 hn0 hn1 hdt h1 _).mono (fun e w' ⟨he, hb⟩ => ⟨_, he, rfl, hb⟩)) (fun v w' ⟨_, hb⟩ => bnext hHeld hb) ?_
                case xa => (go_simp; (try rfl))
                rintro _ w9 ⟨rfl, hb9⟩
                rw [HO2.out]
                simp only [List.setIfInBounds_toArray, List.set_cons_zero, List.set_cons_succ]
                have hS1 := bnext hHeld hb9
                refine reg_takes 2 [(17, 63), (18, 64)] (by kernel_rfl) (by kernel_rfl) rfl (fun _ _ _ _ _ h => h) hS1 ?_
                iterate 2 ((first | (apply takes_cons rfl rfl; (· (intro w9 hSw; clear hSw; go_simp; (try with_reducible rfl)))) | (apply takes_skip rfl rfl)); simp only [List.setIfInBounds_toArray, List.set_cons_zero, List.set_cons_succ])
                refine takes_nil ?_
                refine wpAnyH_done (by kernel_rfl) ?_ _
                have HS1 := Lib.hid hS1
                clear hS1 hb9 hHeld hd0
                go_wp2_with fail
                go_roundw
                case measure => simp [intOf]; omega
                case rel => exact ⟨k + 1, by omega, by go_num, bnext HBr.out HS1.out⟩
            · have HO2 := Lib.hid (show oldB now n0 y = false by unfold oldB; rw [decide_eq_false h3]; rfl)
              go_upto_region 7 with (go_quiet (fail))
              clear xc xf xz y0 y1 y2 y3 y4 y5
              have hd0 : Below wr.heap.size wr (wr.drewN nq).drew := (below_drewN (Below.refl _ _) nq).drew
              refine wp_region_held_drew (S := fun w' => Below wr.heap.size wr w') (by kernel_rfl) hd0 (fun hHeld => ?_)
              refine reg_takes 16 [(0, 46), (1, 47), (2, 48), (3, 49), (4, 50), (5, 51), (6, 52), (7, 53), (8, 54), (9, 55), (10, 56), (11, 57), (12, 58), (13, 59), (14, 60), (16, 62)] (by kernel_rfl) (by kernel_rfl) rfl (fun _ _ _ _ _ h => h) hHeld ?_
              iterate 16 ((first | (apply takes_cons rfl rfl; (· (intro w9 hSw; obtain ⟨xc, -, -⟩ := (HX2.out.keep hSw).facts; obtain ⟨y0, y1, y2, y3, y4, y5⟩ := HC.out w9 hSw; clear hSw; go_simp; (try with_reducible rfl)))) | (apply takes_skip rfl rfl)); simp only [List.setIfInBounds_toArray, List.set_cons_zero, List.set_cons_succ])
              refine takes_nil ?_
              refine reg_call 15 61 (R := fun v w' => v = .bool (oldB now n0 y) ∧ Below (wr.drewN nq).drew.heap.size (wr.drewN nq).drew w') (by kernel_rfl) rfl rfl rfl ?xa ((expOld_any y now n0 hn0 hn1 hdt h1 _).mono (fun e w' ⟨he, hb⟩ => ⟨_, he, rfl, hb⟩)) (fun v w' ⟨_, hb⟩ => bnext hHeld hb) ?_
              case xa => (go_simp; (try rfl))
              rintro _ w9 ⟨rfl, hb9⟩
              rw [HO2.out]
              simp only [List.setIfInBounds_toArray, List.set_cons_zero, List.set_cons_succ]
              have hS1 := bnext hHeld hb9
              refine reg_takes 2 [(17, 63), (18, 64)] (by kernel_rfl) (by kernel_rfl) rfl (fun _ _ _ _ _ h => h) hS1 ?_
              iterate 2 ((first | (apply takes_cons rfl rfl; (· (intro w9 hSw; clear hSw; go_simp; (try with_reducible rfl)))) | (apply takes_skip rfl rfl)); simp only [List.setIfInBounds_toArray, List.set_cons_zero, List.set_cons_succ])
              refine takes_nil ?_
              refine wpAnyH_done (by kernel_rfl) ?_ _
              have HS1 := Lib.hid hS1
              clear hS1 hb9 hHeld hd0
              go_wp2_with fail
              go_roundw
              case measure => simp [intOf]; omega
              case rel => exact ⟨k + 1, by omega, by go_num, bnext HBr.out HS1.out⟩
          · go_wp2_with (go_quiet (fail))
            go_roundw
            case measure => simp [intOf]; omega
            case rel => exact ⟨k + 1, by omega, by go_num, HBr.out.trans (below_drewN ((Below.refl _ _).mono HBr.out.size) _)⟩
        · go_wp2_with (go_quiet (fail))
          go_roundw
          case measure => simp [intOf]; omega
          case rel => exact ⟨k + 1, by omega, by go_num, HBr.out.trans (below_drewN ((Below.refl _ _).mono HBr.out.size) _)⟩
      · obtain rfl : k = l.length := by omega
        have hE2 := SliceAt.below HE1.out hb (Nat.le_refl _)
        have HP1 := Lib.hid (fun (w9 : World) (hb9 : Below wr.heap.size wr w9) => pick_any l _ _ _ w9 (SliceAt.below hE2 hb9 (Nat.le_refl _)) hl30 HSz.out now n0 n1 hn1)
        have HP2 := Lib.hid (fun (w9 : World) (hb9 : Below wr.heap.size wr w9) => rpick_any l _ _ _ w9 (SliceAt.below hE2 hb9 (Nat.le_refl _)) hl30 HSz.out now n0 n1 hn1)
        clear hX2 hE2 hb xc xf xz
        generalize pickF l now n0 n1 = G at HP1 HP2
        go_upto_region 9 with fail
        have hd0 : Below wr.heap.size wr wr.drew := (Below.refl _ _).drew
        refine wp_region_held_drew (S := fun w' => Below wr.heap.size wr w') (by kernel_rfl) hd0 (fun hHeld => ?_)
        refine reg_takes 12 [(0, 65), (1, 66), (2, 67), (3, 68), (4, 69), (5, 70), (7, 72), (8, 73), (9, 74), (10, 75), (11, 76), (12, 77)] (by kernel_rfl) (by kernel_rfl) rfl (fun _ _ _ _ _ h => h) hHeld ?_
        iterate 12 ((first | (apply takes_cons rfl rfl; (· (intro w9 hSw; obtain ⟨xc, -, -⟩ := (HX2.out.keep hSw).facts; clear hSw; go_simp; (try with_reducible rfl)))) | (apply takes_skip rfl rfl)); simp only [List.setIfInBounds_toArray, List.set_cons_zero, List.set_cons_succ])
        refine takes_nil ?_
        refine reg_call 6 71 (R := fun v w' => (∃ a c, v = .slice a G.length c ∧ SliceAt w' 6 eyQ a G.length c G) ∧ Below wr.drew.heap.size wr.drew w') (by kernel_rfl) rfl rfl rfl ?xa ((HP1.out _ hHeld).mono (fun e w' h => eyRes_call h)) (fun v w' ⟨_, hb⟩ => bnext hHeld hb) ?_
        case xa => (go_simp; (try rfl))
        rintro _ w2 ⟨⟨a1, c1, rfl, hA1⟩, hb2⟩
        simp only [List.setIfInBounds_toArray, List.set_cons_zero, List.set_cons_succ]
        have hS2 := bnext hHeld hb2
        refine reg_call 13 78 (R := fun v w' => (∃ a c, v = .slice a G.length c ∧ SliceAt w' 6 eyQ a G.length c G) ∧ Below w2.heap.size w2 w') (by kernel_rfl) rfl rfl rfl ?xb ((HP2.out _ hS2).mono (fun e w' h => eyRes_call h)) (fun v w' ⟨_, hb⟩ => bnext hS2 hb) ?_
        case xb => (go_simp; (try rfl))
        rintro _ w3 ⟨⟨a2, c2, rfl, hA2⟩, hb3⟩
        simp only [List.setIfInBounds_toArray, List.set_cons_zero, List.set_cons_succ]
        have hS3 := bnext hS2 hb3
        refine reg_call 14 79 (R := fun v w' => v = .bool true ∧ Below w3.heap.size w3 w') (by kernel_rfl) rfl rfl rfl ?xc ((same34_any G _ _ _ _ _ _ w3 (SliceAt.below hA1 hb3 (Nat.le_refl _)) hA2).mono (fun e w' ⟨he, hb⟩ => ⟨_, he, rfl, hb⟩)) (fun v w' ⟨_, hb⟩ => bnext hS3 hb) ?_
        case xc => (go_simp; (try rfl))
        rintro _ w4 ⟨rfl, hb4⟩
        simp only [List.setIfInBounds_toArray, List.set_cons_zero, List.set_cons_succ]
        have hS4 := bnext hS3 hb4
        refine reg_takes 1 [(15, 80)] (by kernel_rfl) (by kernel_rfl) rfl (fun _ _ _ _ _ h => h) hS4 ?_
        iterate 1 ((first | (apply takes_cons rfl rfl; (· (intro w9 hSw; clear hSw; go_simp; (try with_reducible rfl)))) | (apply takes_skip rfl rfl)); simp only [List.setIfInBounds_toArray, List.set_cons_zero, List.set_cons_succ])
        refine takes_nil ?_
        refine reg_call 16 81 (R := fun v w' => v = .bool true ∧ Below w4.heap.size w4 w') (by kernel_rfl) rfl rfl rfl ?xd ((HAw.out w4).mono (fun e w' ⟨he, hb⟩ => ⟨_, he, rfl, hb⟩)) (fun v w' ⟨_, hb⟩ => bnext hS4 hb) ?_
        case xd => (go_simp; (try rfl))
        rintro _ w5 ⟨rfl, hb5⟩
        simp only [List.setIfInBounds_toArray, List.set_cons_zero, List.set_cons_succ]
        have hS5 := bnext hS4 hb5
        refine reg_takes 2 [(17, 82), (18, 6)] (by kernel_rfl) (by kernel_rfl) rfl (fun _ _ _ _ _ h => h) hS5 ?_
        iterate 2 ((first | (apply takes_cons rfl rfl; (· (intro w9 hSw; clear hSw; go_simp; (try with_reducible rfl)))) | (apply takes_skip rfl rfl)); simp only [List.setIfInBounds_toArray, List.set_cons_zero, List.set_cons_succ])
        refine takes_nil ?_
        refine wpAnyH_done (by kernel_rfl) ?_ _
        have HS5 := Lib.hid hS5
        clear hS5 hS4 hS3 hS2 hb5 hb4 hb3 hb2 hA1 hA2 hHeld hd0
        go_wp2_with fail
        go_ret
        exact ⟨rfl, bnext HB1.out (bnext HBr.out HS5.out)⟩
end Go.Proofs.YtkkiglagdojnlaaGreatDoor

/- How a seed reads: its mounts and its items. -/
namespace Go.Proofs.YtkkiglagdojnlaaGreatDoor

open Go.RowKit Go.ChangeShapes Go.WideShapes Go.ChangeAt

section

variable {H : Type} {enc : TypeId × Value → H} {w : World} {base : Nat} {spare : Nat → Bool} {held : Bool}

theorem trod_fields5 {P : Program} {t : TypeId} {fs : Array Field} {fuel : Nat} {cs : List Value} {x : DataW H × List MemPlace} (ht : P.underlying t = some (.struct fs)) (h : DataW.trod enc P w base spare held fuel t cs = some x) :
    cs.length = P.cellsOf t ∧ ∃ n, ∀ (i : Nat) (ty : TypeId) (off k : Nat) (l : List Value), (fs[i]?.map fun f => (f.type, f.offset)) = some (ty, off) → P.cellsOf ty = k → (cs.drop off).take k = l → ∃ y, DataW.trod enc P w base spare held n ty l = some y := by
  obtain ⟨xs, n, -, -, h1, h2, h3⟩ := DataW.trod_struct ht h
  refine ⟨h1, n, fun i ty off k l hf hk hl => ?_⟩
  obtain ⟨f, hf1, e⟩ := Option.map_eq_some_iff.1 hf
  clear hf
  injection e with e1 e2
  subst e1 e2 hk hl
  have hi : i < xs.length := by
    rw [h2]
    exact (Array.getElem?_eq_some_iff.1 hf1).1
  exact ⟨xs[i], by rw [h3 i f hf1, List.getElem?_eq_getElem hi]⟩
end

end Go.Proofs.YtkkiglagdojnlaaGreatDoor

/- How an entry reads. -/
namespace Go.Proofs.YtkkiglagdojnlaaGreatDoor

open Go.RowKit Go.ChangeShapes Go.WideShapes Go.ChangeAt

theorem sl_imp {α : Type} {w : World} {sz n c : Nat} {R R' : List Value → α → Prop} {a : Option Addr} {xs : List α} (h : SliceAt w sz R a n c xs) (hR : ∀ cs x, R cs x → R' cs x) : SliceAt w sz R' a n c xs := by
  obtain ⟨h1, h2, h3, h4⟩ := h
  refine ⟨h1, h2, h3, h4.imp id fun ⟨b, off, he, hlt, hel⟩ => ⟨b, off, he, hlt, fun i hi => ?_⟩⟩
  obtain ⟨cs, k1, k2, k3⟩ := hel i hi
  exact ⟨cs, k1, hR _ _ k2, k3⟩
theorem sl_all {α : Type} {w : World} {sz n c : Nat} {R : List Value → α → Prop} {a : Option Addr} {xs : List α} {Q : α → Prop} (h : SliceAt w sz R a n c xs) (hR : ∀ cs x, R cs x → Q x) : ∀ x ∈ xs, Q x := by
  obtain ⟨h1, -, -, h4⟩ := h
  intro x hx
  rcases h4 with h4 | ⟨b, off, -, -, hel⟩
  · have : xs = [] := List.eq_nil_of_length_eq_zero (by omega)
    rw [this] at hx; cases hx
  · obtain ⟨i, hi, rfl⟩ := List.mem_iff_getElem.1 hx
    obtain ⟨cs, -, k2, -⟩ := hel i hi
    exact hR _ _ k2
section

variable {H : Type} {enc : TypeId × Value → H} {w : World} {base : Nat} {spare : Nat → Bool} {held : Bool}

set_option maxRecDepth 100000 in
theorem trod_ey {fuel : Nat} {cs : List Value} {x : DataW H × List MemPlace} (h : DataW.trod enc Tryz.prog w base spare held fuel 23 cs = some x) : ∃ y : Ey, eyQ cs y ∧ y.date ≤ 9223372036854775807 := by
  obtain ⟨h1, n, h2⟩ := trod_fields5 Tryz.underlying23 h
  have hc : Tryz.prog.cellsOf 23 = 6 := by kernel_rfl
  have c1 : Tryz.prog.cellsOf 9 = 1 := by kernel_rfl
  have c2 : Tryz.prog.cellsOf 3 = 1 := by kernel_rfl
  have c3 : Tryz.prog.cellsOf 4 = 1 := by kernel_rfl
  rw [hc] at h1
  match cs, h1 with
  | [a0, a1, a2, a3, a4, a5], _ =>
    obtain ⟨y0, k0⟩ := h2 0 9 0 1 [a0] rfl c1 rfl
    obtain ⟨y1, k1⟩ := h2 1 9 1 1 [a1] rfl c1 rfl
    obtain ⟨y2, k2⟩ := h2 2 9 2 1 [a2] rfl c1 rfl
    obtain ⟨y3, k3⟩ := h2 3 3 3 1 [a3] rfl c2 rfl
    obtain ⟨y4, k4⟩ := h2 4 3 4 1 [a4] rfl c2 rfl
    obtain ⟨y5, k5⟩ := h2 5 4 5 1 [a5] rfl c3 rfl
    obtain ⟨n0, e0, -⟩ := trod_str Tryz.underlying9 k0
    obtain ⟨n1, e1, -⟩ := trod_str Tryz.underlying9 k1
    obtain ⟨n2, e2, -⟩ := trod_str Tryz.underlying9 k2
    obtain ⟨n3, e3, hz⟩ := trod_i64 Tryz.underlying3 k3
    obtain ⟨n4, e4, -⟩ := trod_i64 Tryz.underlying3 k4
    obtain ⟨n5, e5, -⟩ := DataW.trod_bool Tryz.underlying4 k5
    simp at e0 e1 e2 e3 e4 e5
    subst e0 e1 e2 e3 e4 e5
    exact ⟨⟨n0, n1, n2, n3, n4, n5⟩, rfl, hz.2⟩
end

end Go.Proofs.YtkkiglagdojnlaaGreatDoor

/- The closed facts of a row, one by one: each is checked apart (together they want too much memory over a great program). No program in sight. -/
namespace Go.Proofs.YtkkiglagdojnlaaGreatDoor

open Go.ChangeShapes Go.WideShapes Go.ChangeAt

theorem and_i {a b : Bool} (h : a = true) (k : b = true) : (a && b) = true := by
  rw [h, k]
  rfl
theorem joined_of {P : Program} {f : FuncId} {fn : Func} {s : ChangeSpec} {c : OpenClaim}
    (h0 : (c.wf (OpenSpec.ofChange s)) = true)
    (h1 : (laidOutB P) = true)
    (h2 : (mapsRowed P) = true)
    (h3 : (fn.params.all (P.readableRec ·)) = true)
    (h4 : (namedTie P c.named s.vars) = true)
    (h5 : ((c.stops == [])) = true)
    (h6 : ((P.stops == [])) = true)
    (h7 : ((c.knobs == [])) = true)
    (h8 : ((P.stopKnobs == [])) = true)
    (h9 : ((c.inPlace == P.inPlace f)) = true)
    (h10 : ((c.unfollowed == P.unfollowed f)) = true)
    (h11 : ((c.recurses == P.recurses f)) = true)
    (h12 : ((c.named == P.varsNamed f)) = true)
    (h13 : ((c.maps == (fn.params.toList ++ s.plain.varTypes P).any (P.mapsRec ·))) = true)
    (h14 : ((c.ifaces == (fn.params.toList ++ s.plain.varTypes P).any (P.ifacesRec ·))) = true)
    (h15 : ((c.mapsOut == P.mapsAmong fn.resultTypes.toList)) = true)
    (h16 : ((c.loops == (fn.params.toList ++ s.plain.varTypes P).any (P.loopsFrom ·))) = true)
    (h17 : ((c.wideKeys == (fn.params.toList ++ s.plain.varTypes P ++ fn.resultTypes.toList).any (P.wideKeysFrom ·))) = true)
    (h18 : (s.vars.all (P.varReadable ·)) = true)
    (h19 : (fn.resultTypes.all (fun t => P.readableRec t && decide (t < P.types.size))) = true)
    (h20 : ((c.ifacesOut == fn.resultTypes.toList.any (P.ifacesRec ·))) = true)
    (h21 : ((c.loopsOut == fn.resultTypes.toList.any (P.loopsFrom ·))) = true)
    (h22 : ((c.plainKeys == P.plainKeys)) = true)
    (h23 : (c.shortTexts.isNone) = true)
    (h24 : (P.stopsHeard) = true)
    (h25 : (P.mayEnter) = true)
    (h26 : ((c.lifted == P.liftsFinal)) = true)
    (h27 : ((P.make == some c.make)) = true)
    (h28 : ((c.kinds == (if c.domain.isEmpty then [] else fn.params.toList.map fun t => match P.underlying t with | some (.int k) => some k | _ => none))) = true)
    (h29 : ((c.pinned == c.pinnedBy)) = true)
    (h30 : ((c.veiled == (fn.params.toList ++ s.plain.varTypes P ++ fn.resultTypes.toList).any (P.veiledRec ·))) = true)
    (h31 : (c.veiledFits P fn.params.toList (fn.params.toList ++ s.plain.varTypes P ++ fn.resultTypes.toList)) = true) :
    joinedFacts P f fn s c = true := by
  unfold joinedFacts
  exact and_i (and_i (and_i (and_i (and_i (and_i (and_i (and_i (and_i (and_i (and_i (and_i (and_i (and_i (and_i (and_i (and_i (and_i (and_i (and_i (and_i (and_i (and_i (and_i (and_i (and_i (and_i (and_i (and_i (and_i (and_i h0 h1) h2) h3) h4) h5) h6) h7) h8) h9) h10) h11) h12) h13) h14) h15) h16) h17) h18) h19) h20) h21) h22) h23) h24) h25) h26) h27) h28) h29) h30) h31
end Go.Proofs.YtkkiglagdojnlaaGreatDoor

/- The statement ExpirePicks, as a tied card: for every input the law answers true, and each argument reads behind the call as before. -/
namespace Go.Proofs.YtkkiglagdojnlaaGreatDoor.expirePicks

open Go.ChangeShapes Go.WideShapes Go.ChangeAt Go.RowKit

set_option linter.unusedVariables false

theorem own : ownKnob Tryz.prog.godebug = none := by kernel_rfl
theorem laidOut : laidOutB Tryz.prog = true := by kernel_rfl

set_option maxRecDepth 100000 in
theorem contract (H : Type) (enc : TypeId × Value → H) (W : World) (base : Nat) (args : Array Value) (ds gs : List (DataW H)) (before : List MemPlace)
    (hval0 : ∀ (j : Nat) t v, Tryz.f5.params[j]? = some t → args[j]? = some v → Value.okWide Tryz.prog W .any base t v)
    (hW : DataW.Whole enc Tryz.prog Tryz.f5.params.toList Rows.expirePicksSpec.vars false W args.toList ds gs before) (hsh : W.ShapedOpen Tryz.prog) :
    Calls Tryz.prog 5 args W fun e W' => ∃ v, e = .returned v ∧ Rows.expirePicksSpec.post enc Tryz.prog Tryz.f5 false true false false W args v W' := by
  have hval : ∀ (j : Nat) t v, Tryz.f5.params[j]? = some t → args[j]? = some v → Value.okWide Tryz.prog W .any base t v := hval0
  have hW' := hW
  obtain ⟨p, q, hA0, hV, rfl, hfz, hnd⟩ := hW
  have hA : DataW.TrodAll enc Tryz.prog W 0 (fun _ => true) true Tryz.f5.params.toList args.toList ds p := hA0
  rw [Tryz.params5] at hA hval
  have hA2 := hA
  obtain ⟨v0, vs0, d0, ds0, p0, q0, hargs, rfl, rfl, h0, r0⟩ := trodAll_cons hA
  obtain ⟨v1, vs1, d1, ds1, p1, q1, rfl, rfl, rfl, h1, r1⟩ := trodAll_cons r0
  obtain ⟨v2, vs2, d2, ds2, p2, q2, rfl, rfl, rfl, h2, r2⟩ := trodAll_cons r1
  obtain ⟨rfl, rfl, rfl⟩ := trodAll_nil r2
  obtain rfl : args = #[v0, v1, v2] := by cases args; simp_all
  obtain ⟨rfl, rfl⟩ := trodVars_none hV
  obtain ⟨a0, len0, cap0, rfl⟩ := okWide_slice Tryz.underlying56 (hval 0 56 v0 rfl rfl)
  obtain ⟨a', len', cap', zs, e, hz⟩ : ∃ a len cap zs, [Value.slice a0 len0 cap0] = [.slice a len cap] ∧ SliceAt W 6 (fun cs (r : Ey) => eyQ cs r ∧ r.date ≤ 9223372036854775807) a len cap zs := by
    obtain ⟨fuel, hf⟩ := h0
    exact open_sl (sz := 6) Tryz.underlying56 (by kernel_rfl) (by decide) (fun fuel cs x h => trod_ey h) hf
  simp only [List.cons.injEq, Value.slice.injEq, and_true] at e
  obtain ⟨rfl, rfl, rfl⟩ := e
  obtain ⟨now, rfl, -, -, hw1⟩ := open_int Tryz.underlying3 (hval 1 3 v1 rfl rfl) h1
  simp [Lit.wf, IntKind.min, IntKind.max, IntKind.signed, IntKind.bits] at hw1
  obtain ⟨cs, rfl, hsz1, hok1⟩ := array_ok Tryz.underlying68 (hval 2 68 v2 rfl rfl)
  obtain ⟨e0, e1, rfl⟩ := Joins.array2 (hsz1.trans (by kernel_rfl))
  have k1 := row_i64 hok1 (ts := [3, 3]) (by kernel_rfl) (by kernel_rfl)
  obtain ⟨n0, rfl, hn0⟩ := k1 0 _ rfl
  obtain ⟨n1, rfl, hn1⟩ := k1 1 _ rfl
  clear hA0 hval0
  refine (expirePicks_any W (sl_imp hz (fun _ _ h => h.1)) (sl_all hz (fun _ _ h => h.2)) now n0 n1 (by omega) (by omega)).mono fun e W' ⟨he, bel⟩ => ?_
  subst he
  exact ⟨_, rfl, _, _, _, [], _, [], hW', trodAll_mk1 (shut_bool Tryz.underlying4 _), trodAll_below laidOut bel _ _ _ _ (by kernel_rfl) hA2, rfl, bel.frame _, fun h => by cases h⟩

theorem laid_met (os : Os) : laidMetH Tryz.prog Rows.expirePicksRow.laid ((World.laidAll Tryz.prog os Rows.expirePicksRow.laid).forCall (fun _ _ => 0) ⟨#[], #[.slice none 0 0, .int .i64 0, .agg #[.int .i64 0, .int .i64 0]], []⟩).memory :=
  laidMet_laidAll _ (by kernel_rfl) (by kernel_rfl)
theorem reads (os : Os) {H : Type} (enc : TypeId × Value → H) : ∃ places, DataW.whole enc Tryz.prog ((World.laidAll Tryz.prog os Rows.expirePicksRow.laid).forCall (fun _ _ => 0) ⟨#[], #[.slice none 0 0, .int .i64 0, .agg #[.int .i64 0, .int .i64 0]], []⟩).memory Tryz.f5.params.toList Rows.expirePicksSpec.vars false #[(.slice none 0 0 : Value), (.int .i64 0 : Value), (.agg #[.int .i64 0, .int .i64 0] : Value)].toList 8 = some ([.nil, .lit (.int .i64 0), .agg [.lit (.int .i64 0), .lit (.int .i64 0)]], [], places) :=
  ⟨[], by kernel_rfl⟩

set_option maxRecDepth 100000 in
theorem lifted (os : Os) (started : os.Started) (H : Type) (enc : TypeId × Value → H) (F : Stop.Interp) :
    ReturnsInHanded {} Tryz.checked os 5 .any ((OpenSpec.ofChange Rows.expirePicksSpec).preRow enc Tryz.prog Tryz.f5 Rows.expirePicksRow.domain false Rows.expirePicksRow.laid) (((OpenSpec.ofChange Rows.expirePicksSpec).at F).post enc Tryz.prog Tryz.f5 false true false false) := by
  obtain ⟨places, hx⟩ := reads os enc
  refine returnsInHanded_of_row (C := Tryz.checked) (s := OpenSpec.ofChange Rows.expirePicksSpec) own started (by kernel_rfl) Tryz.func5
    (witness_row_at (enc := enc) (C := Tryz.checked) false (World.laidAll Tryz.prog os Rows.expirePicksRow.laid) #[.slice none 0 0, .int .i64 0, .agg #[.int .i64 0, .int .i64 0]] rfl (by kernel_rfl) (by kernel_rfl) (by kernel_rfl)
      (OpenSpec.preRow_of_cond 8 hx (by kernel_rfl) (fun k hk => by cases hk) (by kernel_rfl) (laid_met os))) ?_
  intro W base args ds gs before hval hW _ _ _ _ hsh _
  exact contract H enc W base args ds gs before hval hW hsh

set_option maxHeartbeats 100000000 in
theorem said : Rows.ExpirePicksSaid :=
  OpenClaim.holds_of_cond 5 Tryz.f5 rfl rfl rfl rfl rfl rfl rfl ⟨rfl, rfl, rfl, rfl, rfl⟩ rfl rfl rfl rfl rfl (by as_aux_lemma => kernel_rfl) Tryz.func5
    (joined_of (by as_aux_lemma => kernel_rfl) (by as_aux_lemma => kernel_rfl) (by as_aux_lemma => kernel_rfl) (by as_aux_lemma => kernel_rfl) (by as_aux_lemma => kernel_rfl) (by as_aux_lemma => kernel_rfl) (by as_aux_lemma => kernel_rfl) (by as_aux_lemma => kernel_rfl) (by as_aux_lemma => kernel_rfl) (by as_aux_lemma => kernel_rfl) (by as_aux_lemma => kernel_rfl) (by as_aux_lemma => kernel_rfl) (by as_aux_lemma => kernel_rfl) (by as_aux_lemma => kernel_rfl) (by as_aux_lemma => kernel_rfl) (by as_aux_lemma => kernel_rfl) (by as_aux_lemma => kernel_rfl) (by as_aux_lemma => kernel_rfl) (by as_aux_lemma => kernel_rfl) (by as_aux_lemma => kernel_rfl) (by as_aux_lemma => kernel_rfl) (by as_aux_lemma => kernel_rfl) (by as_aux_lemma => kernel_rfl) (by as_aux_lemma => kernel_rfl) (by as_aux_lemma => kernel_rfl) (by as_aux_lemma => kernel_rfl) (by as_aux_lemma => kernel_rfl) (by as_aux_lemma => kernel_rfl) (by as_aux_lemma => kernel_rfl) (by as_aux_lemma => kernel_rfl) (by as_aux_lemma => kernel_rfl) (by as_aux_lemma => kernel_rfl))
    (of_decide_eq_true (by as_aux_lemma => kernel_rfl)) (by unfold Func.isWrapper; first | (rw [if_pos (by decide +kernel)]; kernel_rfl) | (rw [if_neg (by decide +kernel)]; exact ⟨rfl, rfl⟩))
    (fun os started H enc _ F => by rw [OpenClaim.pre_eq_preRow]; exact lifted os started H enc F)
theorem plain (f : FuncId) (fn : Func) (hf : Tryz.pinned.checked.prog.funcNamed "ragpicker/ragpickerlaw38.ExpirePicks" = some f) (hfn : Tryz.pinned.checked.prog.funcs[f]? = some fn) :
    false = Tryz.pinned.checked.prog.looks [] ∧ ∀ (j : Nat) t, fn.params[j]? = some t → Tryz.pinned.checked.prog.wantsStandIn t = false := by
  obtain rfl : f = 5 := Option.some.inj ((show Tryz.prog.funcNamed "ragpicker/ragpickerlaw38.ExpirePicks" = some 5 by kernel_rfl).symm.trans hf) |>.symm
  obtain rfl : fn = Tryz.f5 := (Option.some.inj (Tryz.func5.symm.trans hfn)).symm
  refine ⟨by kernel_rfl, fun j t ht => ?_⟩
  rw [Tryz.params5] at ht
  have hm := Array.mem_of_getElem? ht
  simp only [List.mem_toArray, List.mem_cons, List.not_mem_nil, or_false] at hm
  rcases hm with rfl | rfl | rfl
  · exact (show Tryz.prog.wantsStandIn 56 = false by kernel_rfl)
  · exact (show Tryz.prog.wantsStandIn 3 = false by kernel_rfl)
  · exact (show Tryz.prog.wantsStandIn 68 = false by kernel_rfl)
/-- the card. -/
theorem proved : Rows.ExpirePicksCardSaid :=
  Claim7.holds_tied_plain_at .later [] _ _ _ _ said (fun _ h => by cases h) (by kernel_rfl) (fun _ h => by cases h) expirePicks_row_tie rfl ⟨rfl, rfl⟩ (by kernel_rfl) rfl plain (by kernel_rfl)
#print axioms proved

end Go.Proofs.YtkkiglagdojnlaaGreatDoor.expirePicks
