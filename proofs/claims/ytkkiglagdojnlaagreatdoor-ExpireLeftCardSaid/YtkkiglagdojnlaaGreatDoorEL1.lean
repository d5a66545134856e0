/- Texts of the proof, part 1. -/
import Derived.Deep.DeepHandedRow
import Derived.Lay
import Derived.Test.YtkkiglagdojnlaaGreatDoorEP11
import Derived.Test.YtkkiglagdojnlaaGreatDoorEP21
import Derived.Test.YtkkiglagdojnlaaGreatDoorEP20
import Derived.Test.YtkkiglagdojnlaaGreatDoorEP3
import Derived.Test.YtkkiglagdojnlaaGreatDoorEP9
set_option linter.unusedVariables false
set_option linter.unusedSimpArgs false
/- The statement ExpirePicks: its function. -/
namespace Go.Proofs.YtkkiglagdojnlaaGreatDoor

open Go.RowKit Go.Shelf Go.Sort

theorem eyRes_call {w w' : World} {e : Ending} {l : List Ey} (h : EyRes w' e l ∧ Below w.heap.size w w') : ∃ v, e = .returned v ∧ (∃ a c, v = .slice a l.length c ∧ SliceAt w' 6 eyQ a l.length c l) ∧ Below w.heap.size w w' := by
  obtain ⟨⟨a, c, rfl, hs⟩, hb⟩ := h
  exact ⟨_, rfl, ⟨a, c, rfl, hs⟩, hb⟩
set_option maxRecDepth 100000 in
set_option maxHeartbeats 8000000 in
theorem expirePicks_any (w : World) {l : List Ey} {a : Option Addr} {n c : Nat} (h : SliceAt w 6 eyQ a n c l) (hd : ∀ y ∈ l, y.date ≤ 9223372036854775807) (now n0 n1 : Int) (hn0 : -9223372036854775808 ≤ now) (hn1 : now ≤ 9223372036854775807) :
    Calls Tryz.prog 5 #[.slice a n c, .int .i64 now, .agg #[.int .i64 n0, .int .i64 n1]] w fun e w' => e = .returned (.bool true) ∧ Below w.heap.size w w' := by
  obtain rfl : l.length = n := h.1
  have hc1 := h.2.1
  have hc2 := h.2.2.1
  have hX := Blk.new w #[.int .i64 n0, .int .i64 n1] 68
  have hbX := balloc (Below.refl w.heap.size w) (.cells #[.int .i64 n0, .int .i64 n1] 68)
  have hE := SliceAt.below h hbX (Nat.le_refl _)
  have HF := Lib.hid (few38_any l _ _ _ _ hE)
  have HAw := Lib.hid awake38_any
  have HD := Lib.hid hd
  clear h hd
  go_enter Tryz.func5, Tryz.ntmps5
  go_upto_region 1 with fail
  generalize w.alloc (.cells #[.int .i64 n0, .int .i64 n1] 68) = W0 at hX hbX hE HF ⊢
  generalize w.heap.size = bn at hX ⊢
  have HX := Lib.hid hX
  have HB := Lib.hid hbX
  have HE := Lib.hid hE
  clear hX hbX hE
  go_wp2_with fail
  refine HF.out.mono ?_
  rintro e w1 ⟨rfl, hb1⟩
  have HX1 := Lib.hid (HX.out.keep hb1)
  have HE1 := Lib.hid (SliceAt.below HE.out hb1 (Nat.le_refl _))
  have HB1 := Lib.hid (bnext HB.out hb1)
  clear hb1 HF
  cases hfew : fewE l with
  | false =>
    clear hfew
    go_wp2_with fail
    refine (HAw.out _).mono ?_
    rintro e w2 ⟨rfl, hb2⟩
    have HB2 := Lib.hid (bnext HB1.out hb2)
    clear hb2
    go_wp2_with fail
    go_ret
    exact ⟨rfl, HB2.out⟩
  | true =>
    obtain ⟨hl30, hsz⟩ := fewE_ok hfew HD.out
    have HSz := Lib.hid hsz
    clear hfew hsz
    go_wp2_with fail
    go_loopw [7] (fun t7 wr => ∃ k : Nat, k ≤ l.length ∧ t7 = .int .i64 k ∧ Below w1.heap.size w1 wr) (fun t7 _ => l.length - (intOf t7).toNat)
    case atStart => exact ⟨0, Nat.zero_le _, rfl, Below.refl _ _⟩
    case round =>
      obtain ⟨k, hk, rfl, hb⟩ := hrel
      have HBr := Lib.hid hb
      have hX2 := HX1.out.keep hb
      have HX2 := Lib.hid hX2
      obtain ⟨xc, xf, xz⟩ := hX2.facts
      by_cases hlt : k < l.length
      · have hE2 := SliceAt.below HE1.out hb (Nat.le_refl _)
        obtain ⟨b, off, rfl, -⟩ := eys_some hE2 (by omega)
        obtain ⟨y0, y1, y2, y3, y4, y5⟩ := eys_six hE2 k hlt
        have HC := Lib.hid (fun (w9 : World) (hb9 : Below wr.heap.size wr w9) => eys_six (SliceAt.below hE2 hb9 (Nat.le_refl _)) k hlt)
        have hdt := HD.out l[k] (List.getElem_mem _)
        generalize l[k] = y at y0 y1 y2 y3 y4 y5 HC hdt
        clear hX2 hE2 hb
        by_cases h1 : 0 ≤ now
        · by_cases h2 : 0 ≤ n0
          · by_cases h3 : 0 ≤ y.date
            · have hwa : IntKind.i64.wrap (now - y.date) = now - y.date := by rw [IntKind.wrap_i64]; omega
              have HO := Lib.hid (show oldB now n0 y = decide (n0 < now - y.date) by unfold oldB; rw [decide_eq_true h3]; rfl)
              by_cases h4 : n0 < now - y.date
              · have HO2 := Lib.hid (HO.out.trans (decide_eq_true h4))
                go_upto_region 7 with (go_quiet (fail))
                clear xc xf xz y0 y1 y2 y3 y4 y5
                have hd0 : Below wr.heap.size wr (wr.drewN nq).drew := (below_drewN (Below.refl _ _) nq).drew
                refine wp_region_held_drew (S := fun w' => Below wr.heap.size wr w') (by kernel_rfl) hd0 (fun hHeld => ?_)
                refine reg_takes 16 [(0, 46), (1, 47), (2, 48), (3, 49), (4, 50), (5, 51), (6, 52), (7, 53), (8, 54), (9, 55), (10, 56), (11, 57), (12, 58), (13, 59), (14, 60), (16, 62)] (by kernel_rfl) (by kernel_rfl) rfl (fun _ _ _ _ _ h => h) hHeld ?_
                iterate 16 ((first | (apply takes_cons rfl rfl; (· (intro w9 hSw; obtain ⟨xc, -, -⟩ := (HX2.out.keep hSw).facts; obtain ⟨y0, y1, y2, y3, y4, y5⟩ := HC.out w9 hSw; clear hSw; go_simp; (try with_reducible rfl)))) | (apply takes_skip rfl rfl)); simp only [List.setIfInBounds_toArray, List.set_cons_zero, List.set_cons_succ])
                refine takes_nil ?_
                refine reg_call 15 61 (R := fun v w' => v = .bool (oldB now n0 y) ∧ Below (wr.drewN nq).drew.heap.size (wr.drewN nq).drew w') (by kernel_rfl) rfl rfl rfl ?xa ((expOld_any y now n0 hn0 hn1 hdt h1 _).mono (fun e w' ⟨he, hb⟩ => ⟨_, he, rfl, hb⟩)) (fun v w' ⟨_, hb⟩ => bnext hHeld hb) ?_
                case xa => (go_simp; (try rfl))
                rintro _ w9 ⟨rfl, hb9⟩
                rw [HO2.out]
                simp only [List.setIfInBounds_toArray, List.set_cons_zero, List.set_cons_succ]
                have hS1 := bnext hHeld hb9
                refine reg_takes 2 [(17, 63), (18, 64)] (by kernel_rfl) (by kernel_rfl) rfl (fun _ _ _ _ _ h => h) hS1 ?_
                iterate 2 ((first | (apply takes_cons rfl rfl; (· (intro w9 hSw; clear hSw; go_simp; (try with_reducible rfl)))) | (apply takes_skip rfl rfl)); simp only [List.setIfInBounds_toArray, List.set_cons_zero, List.set_cons_succ])
                refine takes_nil ?_
                refine wpAnyH_done (by kernel_rfl) ?_ _
                have HS1 := Lib.hid hS1
                clear hS1 hb9 hHeld hd0
                go_wp2_with fail
                go_roundw
                case measure => simp [intOf]; omega
                case rel => exact ⟨k + 1, by omega, by go_num, bnext HBr.out HS1.out⟩
              · have HO2 := Lib.hid (HO.out.trans (decide_eq_false h4))
                go_upto_region 7 with (go_quiet (fail))
                clear xc xf xz y0 y1 y2 y3 y4 y5
                have hd0 : Below wr.heap.size wr (wr.drewN nq).drew := (below_drewN (Below.refl _ _) nq).drew
                refine wp_region_held_drew (S := fun w' => Below wr.heap.size wr w') (by kernel_rfl) hd0 (fun hHeld => ?_)
                refine reg_takes 16 [(0, 46), (1, 47), (2, 48), (3, 49), (4, 50), (5, 51), (6, 52), (7, 53), (8, 54), (9, 55), (10, 56), (11, 57), (12, 58), (13, 59), (14, 60), (16, 62)] (by kernel_rfl) (by kernel_rfl) rfl (fun _ _ _ _ _ h => h) hHeld ?_
                iterate 16 ((first | (apply takes_cons rfl rfl; (· (intro w9 hSw; obtain ⟨xc, -, -⟩ := (HX2.out.keep hSw).facts; obtain ⟨y0, y1, y2, y3, y4, y5⟩ := HC.out w9 hSw; clear hSw; go_simp; (try with_reducible rfl)))) | (apply takes_skip rfl rfl)); simp only [List.setIfInBounds_toArray, List.set_cons_zero, List.set_cons_succ])
                refine takes_nil ?_
                refine reg_call 15 61 (R := fun v w' => v = .bool (oldB now n0 y) ∧ Below (wr.drewN nq).drew.heap.size (wr.drewN nq).drew w') (by kernel_rfl) rfl rfl rfl ?xa ((expOld_any y now n0 hn0 hn1 hdt h1 _).mono (fun e w' ⟨he, hb⟩ => ⟨_, he, rfl, hb⟩)) (fun v w' ⟨_, hb⟩ => bnext hHeld hb) ?_
                case xa => (go_simp; (try rfl))
                rintro _ w9 ⟨rfl, hb9⟩
                rw [HO2.out]
                simp only [List.setIfInBounds_toArray, List.set_cons_zero, List.set_cons_succ]
                have hS1 := bnext hHeld hb9
                refine reg_takes 2 [(17, 63), (18, 64)] (by kernel_rfl) (by kernel_rfl) rfl (fun _ _ _ _ _ h => h) hS1 ?_
                iterate 2 ((first | (apply takes_cons rfl rfl; (· (intro w9 hSw; clear hSw; go_simp; (try with_reducible rfl)))) | (apply takes_skip rfl rfl)); simp only [List.setIfInBounds_toArray, List.set_cons_zero, List.set_cons_succ])
                refine takes_nil ?_
                refine wpAnyH_done (by kernel_rfl) ?_ _
                have HS1 := Lib.hid hS1
                clear hS1 hb9 hHeld hd0
                go_wp2_with fail
                go_roundw
                case measure => simp [intOf]; omega
                case rel => exact ⟨k + 1, by omega, by go_num, bnext HBr.out HS1.out⟩
            · have HO2 := Lib.hid (show oldB now n0 y = false by unfold oldB; rw [decide_eq_false h3]; rfl)
              go_upto_region 7 with (go_quiet (fail))
              clear xc xf xz y0 y1 y2 y3 y4 y5
              have hd0 : Below wr.heap.size wr (wr.drewN nq).drew := (below_drewN (Below.refl _ _) nq).drew
              refine wp_region_held_drew (S := fun w' => Below wr.heap.size wr w') (by kernel_rfl) hd0 (fun hHeld => ?_)
              refine reg_takes 16 [(0, 46), (1, 47), (2, 48), (3, 49), (4, 50), (5, 51), (6, 52), (7, 53), (8, 54), (9, 55), (10, 56), (11, 57), (12, 58), (13, 59), (14, 60), (16, 62)] (by kernel_rfl) (by kernel_rfl) rfl (fun _ _ _ _ _ h => h) hHeld ?_
              iterate 16 ((first | (apply takes_cons rfl rfl; (· (intro w9 hSw; obtain ⟨xc, -, -⟩ := (HX2.out.keep hSw).facts; obtain ⟨y0, y1, y2, y3, y4, y5⟩ := HC.out w9 hSw; clear hSw; go_simp; (try with_reducible rfl)))) | (apply takes_skip rfl rfl)); simp only [List.setIfInBounds_toArray, List.set_cons_zero, List.set_cons_succ])
              refine takes_nil ?_
              refine reg_call 15 61 (R := fun v w' => v = .bool (oldB now n0 y) ∧ Below (wr.drewN nq).drew.heap.size (wr.drewN nq).drew w') (by kernel_rfl) rfl rfl rfl ?xa ((expOld_any y now n0 hn0 hn1 hdt h1 _).mono (fun e w' ⟨he, hb⟩ => ⟨_, he, rfl, hb⟩)) (fun v w' ⟨_, hb⟩ => bnext hHeld hb) ?_
              case xa => (go_simp; (try rfl))
              rintro _ w9 ⟨rfl, hb9⟩
              rw [HO2.out]
              simp only [List.setIfInBounds_toArray, List.set_cons_zero, List.set_cons_succ]
              have hS1 := bnext hHeld hb9
              refine reg_takes 2 [(17, 63), (18, 64)] (by kernel_rfl) (by kernel_rfl) rfl (fun _ _ _ _ _ h => h) hS1 ?_
              iterate 2 ((first | (apply takes_cons rfl rfl; (· (intro w9 hSw; clear hSw; go_simp; (try with_reducible rfl)))) | (apply takes_skip rfl rfl)); simp only [List.setIfInBounds_toArray, List.set_cons_zero, List.set_cons_succ])
              refine takes_nil ?_
              refine wpAnyH_done (by kernel_rfl) ?_ _
              have HS1 := Lib.hid hS1
              clear hS1 hb9 hHeld hd0
              go_wp2_with fail
              go_roundw
              case measure => simp [intOf]; omega
              case rel => exact ⟨k + 1, by omega, by go_num, bnext HBr.out HS1.out⟩
          · go_wp2_with (go_quiet (fail))
            go_roundw
            case measure => simp [intOf]; omega
            case rel => exact ⟨k + 1, by omega, by go_num, HBr.out.trans (below_drewN ((Below.refl _ _).mono HBr.out.size) _)⟩
        · go_wp2_with (go_quiet (fail))
          go_roundw
          case measure => simp [intOf]; omega
          case rel => exact ⟨k + 1, by omega, by go_num, HBr.out.trans (below_drewN ((Below.refl _ _).mono HBr.out.size) _)⟩
      · obtain rfl : k = l.length := by omega
        have hE2 := SliceAt.below HE1.out hb (Nat.le_refl _)
        have HP1 := Lib.hid (fun (w9 : World) (hb9 : Below wr.heap.size wr w9) => pick_any l _ _ _ w9 (SliceAt.below hE2 hb9 (Nat.le_refl _)) hl30 HSz.out now n0 n1 hn1)
        have HP2 := Lib.hid (fun (w9 : World) (hb9 : Below wr.heap.size wr w9) => rpick_any l _ _ _ w9 (SliceAt.below hE2 hb9 (Nat.le_refl _)) hl30 HSz.out now n0 n1 hn1)
        clear hX2 hE2 hb xc xf xz
        generalize pickF l now n0 n1 = G at HP1 HP2
        go_upto_region 9 with fail
        have hd0 : Below wr.heap.size wr wr.drew := (Below.refl _ _).drew
        refine wp_region_held_drew (S := fun w' => Below wr.heap.size wr w') (by kernel_rfl) hd0 (fun hHeld => ?_)
        refine reg_takes 12 [(0, 65), (1, 66), (2, 67), (3, 68), (4, 69), (5, 70), (7, 72), (8, 73), (9, 74), (10, 75), (11, 76), (12, 77)] (by kernel_rfl) (by kernel_rfl) rfl (fun _ _ _ _ _ h => h) hHeld ?_
        iterate 12 ((first | (apply takes_cons rfl rfl; (· (intro w9 hSw; obtain ⟨xc, -, -⟩ := (HX2.out.keep hSw).facts; clear hSw; go_simp; (try with_reducible rfl)))) | (apply takes_skip rfl rfl)); simp only [List.setIfInBounds_toArray, List.set_cons_zero, List.set_cons_succ])
        refine takes_nil ?_
        refine reg_call 6 71 (R := fun v w' => (∃ a c, v = .slice a G.length c ∧ SliceAt w' 6 eyQ a G.length c G) ∧ Below wr.drew.heap.size wr.drew w') (by kernel_rfl) rfl rfl rfl ?xa ((HP1.out _ hHeld).mono (fun e w' h => eyRes_call h)) (fun v w' ⟨_, hb⟩ => bnext hHeld hb) ?_
        case xa => (go_simp; (try rfl))
        rintro _ w2 ⟨⟨a1, c1, rfl, hA1⟩, hb2⟩
        simp only [List.setIfInBounds_toArray, List.set_cons_zero, List.set_cons_succ]
        have hS2 := bnext hHeld hb2
        refine reg_call 13 78 (R := fun v w' => (∃ a c, v = .slice a G.length c ∧ SliceAt w' 6 eyQ a G.length c G) ∧ Below w2.heap.size w2 w') (by kernel_rfl) rfl rfl rfl ?xb ((HP2.out _ hS2).mono (fun e w' h => eyRes_call h)) (fun v w' ⟨_, hb⟩ => bnext hS2 hb) ?_
        case xb => (go_simp; (try rfl))
        rintro _ w3 ⟨⟨a2, c2, rfl, hA2⟩, hb3⟩
        simp only [List.setIfInBounds_toArray, List.set_cons_zero, List.set_cons_succ]
        have hS3 := bnext hS2 hb3
        refine reg_call 14 79 (R := fun v w' => v = .bool true ∧ Below w3.heap.size w3 w') (by kernel_rfl) rfl rfl rfl ?xc ((same34_any G _ _ _ _ _ _ w3 (SliceAt.below hA1 hb3 (Nat.le_refl _)) hA2).mono (fun e w' ⟨he, hb⟩ => ⟨_, he, rfl, hb⟩)) (fun v w' ⟨_, hb⟩ => bnext hS3 hb) ?_
        case xc => (go_simp; (try rfl))
        rintro _ w4 ⟨rfl, hb4⟩
        simp only [List.setIfInBounds_toArray, List.set_cons_zero, List.set_cons_succ]
        have hS4 := bnext hS3 hb4
        refine reg_takes 1 [(15, 80)] (by kernel_rfl) (by kernel_rfl) rfl (fun _ _ _ _ _ h => h) hS4 ?_
        iterate 1 ((first | (apply takes_cons rfl rfl; (· (intro w9 hSw; clear hSw; go_simp; (try with_reducible rfl)))) | (apply takes_skip rfl rfl)); simp only [List.setIfInBounds_toArray, List.set_cons_zero, List.set_cons_succ])
        refine takes_nil ?_
        refine reg_call 16 81 (R := fun v w' => v = .bool true ∧ Below w4.heap.size w4 w') (by kernel_rfl) rfl rfl rfl ?xd ((HAw.out w4).mono (fun e w' ⟨he, hb⟩ => ⟨_, he, rfl, hb⟩)) (fun v w' ⟨_, hb⟩ => bnext hS4 hb) ?_
        case xd => (go_simp; (try rfl))
        rintro _ w5 ⟨rfl, hb5⟩
        simp only [List.setIfInBounds_toArray, List.set_cons_zero, List.set_cons_succ]
        have hS5 := bnext hS4 hb5
        refine reg_takes 2 [(17, 82), (18, 6)] (by kernel_rfl) (by kernel_rfl) rfl (fun _ _ _ _ _ h => h) hS5 ?_
        iterate 2 ((first | (apply takes_cons rfl rfl; (· (intro w9 hSw; clear hSw; go_simp; (try with_reducible rfl)))) | (apply takes_skip rfl rfl)); simp only [List.setIfInBounds_toArray, List.set_cons_zero, List.set_cons_succ])
        refine takes_nil ?_
        refine wpAnyH_done (by kernel_rfl) ?_ _
        have HS5 := Lib.hid hS5
        clear hS5 hS4 hS3 hS2 hb5 hb4 hb3 hb2 hA1 hA2 hHeld hd0
        go_wp2_with fail
        go_ret
        exact ⟨rfl, bnext HB1.out (bnext HBr.out HS5.out)⟩
end Go.Proofs.YtkkiglagdojnlaaGreatDoor

/- How a seed reads: its mounts and its items. -/
namespace Go.Proofs.YtkkiglagdojnlaaGreatDoor

open Go.RowKit Go.ChangeShapes Go.WideShapes Go.ChangeAt

section

variable {H : Type} {enc : TypeId × Value → H} {w : World} {base : Nat} {spare : Nat → Bool} {held : Bool}

theorem trod_fields5 {P : Program} {t : TypeId} {fs : Array Field} {fuel : Nat} {cs : List Value} {x : DataW H × List MemPlace} (ht : P.underlying t = some (.struct fs)) (h : DataW.trod enc P w base spare held fuel t cs = some x) :
    cs.length = P.cellsOf t ∧ ∃ n, ∀ (i : Nat) (ty : TypeId) (off k : Nat) (l : List Value), (fs[i]?.map fun f => (f.type, f.offset)) = some (ty, off) → P.cellsOf ty = k → (cs.drop off).take k = l → ∃ y, DataW.trod enc P w base spare held n ty l = some y := by
  obtain ⟨xs, n, -, -, h1, h2, h3⟩ := DataW.trod_struct ht h
  refine ⟨h1, n, fun i ty off k l hf hk hl => ?_⟩
  obtain ⟨f, hf1, e⟩ := Option.map_eq_some_iff.1 hf
  clear hf
  injection e with e1 e2
  subst e1 e2 hk hl
  have hi : i < xs.length := by
    rw [h2]
    exact (Array.getElem?_eq_some_iff.1 hf1).1
  exact ⟨xs[i], by rw [h3 i f hf1, List.getElem?_eq_getElem hi]⟩
end

end Go.Proofs.YtkkiglagdojnlaaGreatDoor

/- How an entry reads. -/
namespace Go.Proofs.YtkkiglagdojnlaaGreatDoor

open Go.RowKit Go.ChangeShapes Go.WideShapes Go.ChangeAt

theorem sl_imp {α : Type} {w : World} {sz n c : Nat} {R R' : List Value → α → Prop} {a : Option Addr} {xs : List α} (h : SliceAt w sz R a n c xs) (hR : ∀ cs x, R cs x → R' cs x) : SliceAt w sz R' a n c xs := by
  obtain ⟨h1, h2, h3, h4⟩ := h
  refine ⟨h1, h2, h3, h4.imp id fun ⟨b, off, he, hlt, hel⟩ => ⟨b, off, he, hlt, fun i hi => ?_⟩⟩
  obtain ⟨cs, k1, k2, k3⟩ := hel i hi
  exact ⟨cs, k1, hR _ _ k2, k3⟩
theorem sl_all {α : Type} {w : World} {sz n c : Nat} {R : List Value → α → Prop} {a : Option Addr} {xs : List α} {Q : α → Prop} (h : SliceAt w sz R a n c xs) (hR : ∀ cs x, R cs x → Q x) : ∀ x ∈ xs, Q x := by
  obtain ⟨h1, -, -, h4⟩ := h
  intro x hx
  rcases h4 with h4 | ⟨b, off, -, -, hel⟩
  · have : xs = [] := List.eq_nil_of_length_eq_zero (by omega)
    rw [this] at hx; cases hx
  · obtain ⟨i, hi, rfl⟩ := List.mem_iff_getElem.1 hx
    obtain ⟨cs, -, k2, -⟩ := hel i hi
    exact hR _ _ k2
section

variable {H : Type} {enc : TypeId × Value → H} {w : World} {base : Nat} {spare : Nat → Bool} {held : Bool}

set_option maxRecDepth 100000 in
theorem trod_ey {fuel : Nat} {cs : List Value} {x : DataW H × List MemPlace} (h : DataW.trod enc Tryz.prog w base spare held fuel 23 cs = some x) : ∃ y : Ey, eyQ cs y ∧ y.date ≤ 9223372036854775807 := by
  obtain ⟨h1, n, h2⟩ := trod_fields5 Tryz.underlying23 h
  have hc : Tryz.prog.cellsOf 23 = 6 := by kernel_rfl
  have c1 : Tryz.prog.cellsOf 9 = 1 := by kernel_rfl
  have c2 : Tryz.prog.cellsOf 3 = 1 := by kernel_rfl
  have c3 : Tryz.prog.cellsOf 4 = 1 := by kernel_rfl
  rw [hc] at h1
  match cs, h1 with
  | [a0, a1, a2, a3, a4, a5], _ =>
    obtain ⟨y0, k0⟩ := h2 0 9 0 1 [a0] rfl c1 rfl
    obtain ⟨y1, k1⟩ := h2 1 9 1 1 [a1] rfl c1 rfl
    obtain ⟨y2, k2⟩ := h2 2 9 2 1 [a2] rfl c1 rfl
    obtain ⟨y3, k3⟩ := h2 3 3 3 1 [a3] rfl c2 rfl
    obtain ⟨y4, k4⟩ := h2 4 3 4 1 [a4] rfl c2 rfl
    obtain ⟨y5, k5⟩ := h2 5 4 5 1 [a5] rfl c3 rfl
    obtain ⟨n0, e0, -⟩ := trod_str Tryz.underlying9 k0
    obtain ⟨n1, e1, -⟩ := trod_str Tryz.underlying9 k1
    obtain ⟨n2, e2, -⟩ := trod_str Tryz.underlying9 k2
    obtain ⟨n3, e3, hz⟩ := trod_i64 Tryz.underlying3 k3
    obtain ⟨n4, e4, -⟩ := trod_i64 Tryz.underlying3 k4
    obtain ⟨n5, e5, -⟩ := DataW.trod_bool Tryz.underlying4 k5
    simp at e0 e1 e2 e3 e4 e5
    subst e0 e1 e2 e3 e4 e5
    exact ⟨⟨n0, n1, n2, n3, n4, n5⟩, rfl, hz.2⟩
end

end Go.Proofs.YtkkiglagdojnlaaGreatDoor

/- The closed facts of a row, one by one: each is checked apart (together they want too much memory over a great program). No program in sight. -/
namespace Go.Proofs.YtkkiglagdojnlaaGreatDoor

open Go.ChangeShapes Go.WideShapes Go.ChangeAt

theorem and_i {a b : Bool} (h : a = true) (k : b = true) : (a && b) = true := by
  rw [h, k]
  rfl
theorem joined_of {P : Program} {f : FuncId} {fn : Func} {s : ChangeSpec} {c : OpenClaim}
    (h0 : (c.wf (OpenSpec.ofChange s)) = true)
    (h1 : (laidOutB P) = true)
    (h2 : (mapsRowed P) = true)
    (h3 : (fn.params.all (P.readableRec ·)) = true)
    (h4 : (namedTie P c.named s.vars) = true)
    (h5 : ((c.stops == [])) = true)
    (h6 : ((P.stops == [])) = true)
    (h7 : ((c.knobs == [])) = true)
    (h8 : ((P.stopKnobs == [])) = true)
    (h9 : ((c.inPlace == P.inPlace f)) = true)
    (h10 : ((c.unfollowed == P.unfollowed f)) = true)
    (h11 : ((c.recurses == P.recurses f)) = true)
    (h12 : ((c.named == P.varsNamed f)) = true)
    (h13 : ((c.maps == (fn.params.toList ++ s.plain.varTypes P).any (P.mapsRec ·))) = true)
    (h14 : ((c.ifaces == (fn.params.toList ++ s.plain.varTypes P).any (P.ifacesRec ·))) = true)
    (h15 : ((c.mapsOut == P.mapsAmong fn.resultTypes.toList)) = true)
    (h16 : ((c.loops == (fn.params.toList ++ s.plain.varTypes P).any (P.loopsFrom ·))) = true)
    (h17 : ((c.wideKeys == (fn.params.toList ++ s.plain.varTypes P ++ fn.resultTypes.toList).any (P.wideKeysFrom ·))) = true)
    (h18 : (s.vars.all (P.varReadable ·)) = true)
    (h19 : (fn.resultTypes.all (fun t => P.readableRec t && decide (t < P.types.size))) = true)
    (h20 : ((c.ifacesOut == fn.resultTypes.toList.any (P.ifacesRec ·))) = true)
    (h21 : ((c.loopsOut == fn.resultTypes.toList.any (P.loopsFrom ·))) = true)
    (h22 : ((c.plainKeys == P.plainKeys)) = true)
    (h23 : (c.shortTexts.isNone) = true)
    (h24 : (P.stopsHeard) = true)
    (h25 : (P.mayEnter) = true)
    (h26 : ((c.lifted == P.liftsFinal)) = true)
    (h27 : ((P.make == some c.make)) = true)
    (h28 : ((c.kinds == (if c.domain.isEmpty then [] else fn.params.toList.map fun t => match P.underlying t with | some (.int k) => some k | _ => none))) = true)
    (h29 : ((c.pinned == c.pinnedBy)) = true)
    (h30 : ((c.veiled == (fn.params.toList ++ s.plain.varTypes P ++ fn.resultTypes.toList).any (P.veiledRec ·))) = true)
    (h31 : (c.veiledFits P fn.params.toList (fn.params.toList ++ s.plain.varTypes P ++ fn.resultTypes.toList)) = true) :
    joinedFacts P f fn s c = true := by
  unfold joinedFacts
  exact and_i (and_i (and_i (and_i (and_i (and_i (and_i (and_i (and_i (and_i (and_i (and_i (and_i (and_i (and_i (and_i (and_i (and_i (and_i (and_i (and_i (and_i (and_i (and_i (and_i (and_i (and_i (and_i (and_i (and_i (and_i h0 h1) h2) h3) h4) h5) h6) h7) h8) h9) h10) h11) h12) h13) h14) h15) h16) h17) h18) h19) h20) h21) h22) h23) h24) h25) h26) h27) h28) h29) h30) h31
end Go.Proofs.YtkkiglagdojnlaaGreatDoor

/- The statement ExpireLeft: its function. -/
namespace Go.Proofs.YtkkiglagdojnlaaGreatDoor

open Go.RowKit Go.Shelf Go.Sort

theorem pick_mem {l : List Ey} {now age quota : Int} (h : ¬ (now < 0 ∨ age < 0 ∨ quota < 0)) : ∀ y ∈ pickF l now age quota, y ∈ l := by
  intro y hy
  rw [pickF_eq h, List.mem_append] at hy
  rcases hy with hy | hy
  · exact (isort_perm ltE l).mem_iff.1 (List.mem_filter.1 hy).1
  · exact (isort_perm ltE l).mem_iff.1 (rest_mem y ((overL_pre quota _ _).subset hy))
theorem pick_len {l : List Ey} {now age quota : Int} (h : ¬ (now < 0 ∨ age < 0 ∨ quota < 0)) : (pickF l now age quota).length ≤ l.length := by
  rw [pickF_eq h, List.length_append]
  have h1 := (overL_pre quota (restL now age (isort ltE l)) (sumE (restL now age (isort ltE l)))).length_le
  have h2 := (restL_perm now age (isort ltE l)).length_eq
  have h3 := (filter_split (oldB now age) (isort ltE l)).length_eq
  have h4 := isort_len (lt := ltE) l
  rw [List.length_append] at h3
  unfold pkO at *
  omega
theorem sumE_take {l : List Ey} {i : Nat} (h : i < l.length) : sumE (l.take (i + 1)) = sumE (l.take i) + l[i].size := by
  rw [List.take_succ_eq_append_getElem h, sumE_app, sumE_cons, sumE_nil, Int.add_zero]
theorem cnt_take (p : Ey → Bool) {l : List Ey} {i : Nat} (h : i < l.length) : ((l.take (i + 1)).filter p).length = ((l.take i).filter p).length + if p l[i] = true then 1 else 0 := by
  rw [List.take_succ_eq_append_getElem h, List.filter_append, List.length_append]
  by_cases hp : p l[i] = true
  · rw [if_pos hp, List.filter_cons_of_pos hp]; rfl
  · rw [if_neg hp, List.filter_cons_of_neg hp]; rfl
/-- what the statement looks at, all in one. -/
structure LeftOk (l G : List Ey) (now n0 n1 : Int) (m : Nat) : Prop where
  mm : m = (l.filter (oldB now n0)).length
  le : m ≤ G.length
  old : ∀ (j : Nat) (h : j < G.length), oldB now n0 G[j] = decide (j < m)
  left : sumE l - sumE G ≤ n1
  last : ∀ (h : m < G.length), n1 < sumE l - sumE G + (G[G.length - 1]'(by omega)).size
  mem : ∀ y ∈ G, y ∈ l
  len : G.length ≤ l.length
theorem leftOk {l : List Ey} {now n0 n1 : Int} (h : ¬ (now < 0 ∨ n0 < 0 ∨ n1 < 0)) : LeftOk l (pickF l now n0 n1) now n0 n1 (l.filter (oldB now n0)).length := by
  obtain ⟨V, hG, hV, hle, hla, hm⟩ := pick_form (l := l) h
  have hmem := pick_mem (l := l) h
  have hlen := pick_len (l := l) h
  generalize pickF l now n0 n1 = G at *
  subst hG
  rw [← hm]
  generalize hF : (isort ltE l).filter (oldB now n0) = F at *
  have hFo : ∀ y ∈ F, oldB now n0 y = true := fun y hy => by rw [← hF] at hy; exact (List.mem_filter.1 hy).2
  refine ⟨hm, by rw [List.length_append]; omega, fun j hj => ?_, hle, fun hlt => ?_, hmem, hlen⟩
  · by_cases hjm : j < F.length
    · rw [List.getElem_append_left hjm, decide_eq_true hjm]
      exact hFo _ (List.getElem_mem _)
    · rw [List.getElem_append_right (by omega), decide_eq_false hjm]
      exact hV _ (List.getElem_mem _)
  · rw [List.length_append] at hlt
    have hne : V ≠ [] := fun h => by rw [h] at hlt; simp at hlt
    have h2 := hla hne
    rw [List.getLast_eq_getElem] at h2
    have e : (F ++ V)[(F ++ V).length - 1]'(by rw [List.length_append]; omega) = V[V.length - 1]'(by omega) := by
      simp only [List.length_append]
      rw [List.getElem_append_right (by omega)]
      congr 1
      omega
    rw [e]
    exact h2
set_option maxRecDepth 100000 in
set_option maxHeartbeats 8000000 in
theorem expireLeft_any (w : World) {l : List Ey} {a : Option Addr} {n c : Nat} (h : SliceAt w 6 eyQ a n c l) (hd : ∀ y ∈ l, y.date ≤ 9223372036854775807) (now n0 n1 : Int) (hn0 : -9223372036854775808 ≤ now) (hn1 : now ≤ 9223372036854775807) :
    Calls Tryz.prog 6 #[.slice a n c, .int .i64 now, .agg #[.int .i64 n0, .int .i64 n1]] w fun e w' => e = .returned (.bool true) ∧ Below w.heap.size w w' := by
  obtain rfl : l.length = n := h.1
  have hc1 := h.2.1
  have hc2 := h.2.2.1
  have hX := Blk.new w #[.int .i64 n0, .int .i64 n1] 68
  have hbX := balloc (Below.refl w.heap.size w) (.cells #[.int .i64 n0, .int .i64 n1] 68)
  have hE := SliceAt.below h hbX (Nat.le_refl _)
  have HF := Lib.hid (few38_any l _ _ _ _ hE)
  have HAw := Lib.hid awake38_any
  have HD := Lib.hid hd
  clear h hd
  go_enter Tryz.func6, Tryz.ntmps6
  go_upto_region 1 with fail
  generalize w.alloc (.cells #[.int .i64 n0, .int .i64 n1] 68) = W0 at hX hbX hE HF ⊢
  generalize w.heap.size = bn at hX ⊢
  have HX := Lib.hid hX
  have HB := Lib.hid hbX
  have HE := Lib.hid hE
  clear hX hbX hE
  go_wp2_with fail
  refine HF.out.mono ?_
  rintro e w1 ⟨rfl, hb1⟩
  have hX1 := HX.out.keep hb1
  have HX1 := Lib.hid hX1
  obtain ⟨xc, xf, xz⟩ := hX1.facts
  have HE1 := Lib.hid (SliceAt.below HE.out hb1 (Nat.le_refl _))
  have HB1 := Lib.hid (bnext HB.out hb1)
  clear hb1 HF hX1
  cases hfew : fewE l with
  | false =>
    clear hfew
    go_wp2_with fail
    refine (HAw.out _).mono ?_
    rintro e w2 ⟨rfl, hb2⟩
    have HB2 := Lib.hid (bnext HB1.out hb2)
    clear hb2
    go_wp2_with fail
    go_ret
    exact ⟨rfl, HB2.out⟩
  | true =>
    obtain ⟨hl30, hsz⟩ := fewE_ok hfew HD.out
    have HSz := Lib.hid hsz
    clear hfew hsz
    by_cases h1 : now < 0
    · go_wp2_with fail
      refine (HAw.out _).mono ?_
      rintro e w2 ⟨rfl, hb2⟩
      have HB2 := Lib.hid (bnext HB1.out hb2)
      clear hb2
      go_wp2_with fail
      go_ret
      exact ⟨rfl, HB2.out⟩
    by_cases h2 : n0 < 0
    · go_wp2_with fail
      refine (HAw.out _).mono ?_
      rintro e w2 ⟨rfl, hb2⟩
      have HB2 := Lib.hid (bnext HB1.out hb2)
      clear hb2
      go_wp2_with fail
      go_ret
      exact ⟨rfl, HB2.out⟩
    by_cases h3 : n1 < 0
    · go_wp2_with fail
      refine (HAw.out _).mono ?_
      rintro e w2 ⟨rfl, hb2⟩
      have HB2 := Lib.hid (bnext HB1.out hb2)
      clear hb2
      go_wp2_with fail
      go_ret
      exact ⟨rfl, HB2.out⟩
    have HL := Lib.hid (leftOk (l := l) (show ¬ (now < 0 ∨ n0 < 0 ∨ n1 < 0) by omega))
    have HP := Lib.hid (pick_any l _ _ _ _ HE1.out hl30 HSz.out now n0 n1 hn1)
    generalize pickF l now n0 n1 = G at HL HP
    generalize hm : (l.filter (oldB now n0)).length = m at HL
    have HM := Lib.hid hm
    clear hm
    have hGl : G.length ≤ 30 := Nat.le_trans HL.out.len hl30
    have hml := HL.out.le
    have HGz := Lib.hid (HSz.out.sub HL.out.mem)
    go_wp2_with fail
    refine HP.out.mono ?_
    rintro e w2 ⟨⟨ga, gc, rfl, hG⟩, hb2⟩
    have hgc := hG.2.1
    have hgc2 := hG.2.2.1
    have HG := Lib.hid hG
    have HX2 := Lib.hid (HX1.out.keep hb2)
    have HE2 := Lib.hid (SliceAt.below HE1.out hb2 (Nat.le_refl _))
    have HB2 := Lib.hid (bnext HB1.out hb2)
    clear hG hb2 HP HX1 HE1 HB1 xc xf xz
    go_wp2_with fail
    go_loopw [8, 10, 12] (fun t8 t10 t12 wr => ∃ i : Nat, i ≤ l.length ∧ t12 = .int .i64 i ∧ t8 = .int .i64 (sumE (l.take i)) ∧ t10 = .int .i64 (((l.take i).filter (oldB now n0)).length : Nat) ∧ Below w2.heap.size w2 wr) (fun _ _ t12 _ => l.length - (intOf t12).toNat)
    case atStart => exact ⟨0, Nat.zero_le _, rfl, rfl, rfl, Below.refl _ _⟩
    case round =>
      obtain ⟨i, hi, rfl, rfl, rfl, hb⟩ := hrel
      have HBr := Lib.hid hb
      have hX3 := HX2.out.keep hb
      have HX3 := Lib.hid hX3
      obtain ⟨xc, xf, xz⟩ := hX3.facts
      by_cases hlt : i < l.length
      · have hE2 := SliceAt.below HE2.out hb (Nat.le_refl _)
        obtain ⟨b, off, rfl, -⟩ := eys_some hE2 (by omega)
        obtain ⟨y0, y1, y2, y3, y4, y5⟩ := eys_six hE2 i hlt
        have hdt := HD.out l[i] (List.getElem_mem _)
        have hS := sumE_take hlt
        have hN := cnt_take (oldB now n0) hlt
        have hb1 := sum_bd (HSz.out.sub (fun y hy => List.mem_of_mem_take hy) : SzOk (l.take i))
        have hlt2 : (l.take i).length ≤ 30 := by rw [List.length_take]; omega
        have hys := HSz.out l[i] (List.getElem_mem _)
        have hcl : ((l.take i).filter (oldB now n0)).length ≤ (l.take i).length := List.length_filter_le _ _
        generalize l[i] = y at y0 y1 y2 y3 y4 y5 hdt hS hN hys
        have HS := Lib.hid hS
        have HN := Lib.hid hN
        generalize sumE (l.take i) = s at HS hb1 ⊢
        generalize ((l.take i).filter (oldB now n0)).length = q at HN hcl ⊢
        have hwa : IntKind.i64.wrap (s + y.size) = s + y.size := by rw [IntKind.wrap_i64]; omega
        clear hX3 hE2 hb hS hN
        by_cases h4 : 0 ≤ y.date
        · have hwb : IntKind.i64.wrap (now - y.date) = now - y.date := by rw [IntKind.wrap_i64]; omega
          by_cases h5 : n0 < now - y.date
          · have HO := Lib.hid (show oldB now n0 y = true by unfold oldB; rw [decide_eq_true h4, decide_eq_true h5]; rfl)
            go_wp2_with (go_quiet (fail))
            go_roundw
            case measure => simp [intOf]; omega
            case rel => exact ⟨i + 1, by omega, by go_num, by rw [HS.out], by rw [HN.out, HO.out]; rfl, HBr.out.trans (below_drewN ((Below.refl _ _).mono HBr.out.size) _)⟩
          · have HO := Lib.hid (show oldB now n0 y = false by unfold oldB; rw [decide_eq_true h4, decide_eq_false h5]; rfl)
            go_wp2_with (go_quiet (fail))
            go_roundw
            case measure => simp [intOf]; omega
            case rel => exact ⟨i + 1, by omega, by go_num, by rw [HS.out], by rw [HN.out, HO.out]; rfl, HBr.out.trans (below_drewN ((Below.refl _ _).mono HBr.out.size) _)⟩
        · have HO := Lib.hid (show oldB now n0 y = false by unfold oldB; rw [decide_eq_false h4]; rfl)
          go_wp2_with (go_quiet (fail))
          go_roundw
          case measure => simp [intOf]; omega
          case rel => exact ⟨i + 1, by omega, by go_num, by rw [HS.out], by rw [HN.out, HO.out]; rfl, HBr.out.trans (below_drewN ((Below.refl _ _).mono HBr.out.size) _)⟩
      · obtain rfl : i = l.length := by omega
        rw [List.take_length]
        have HM2 := Lib.hid HM.out
        rw [HM.out]
        have HSl := Lib.hid (sum_bd HSz.out)
        have hsl := HSl.out
        generalize hA : sumE l = A at hsl ⊢
        have HA := Lib.hid hA
        clear hA hX3 hb xc xf xz
        go_wp2_with fail
        go_loopw [9, 10, 11, 13] (fun t9 t10 t11 t13 wx => ∃ (j o : Nat) (q : Int), j ≤ G.length ∧ t13 = .int .i64 j ∧ t9 = .int .i64 (sumE (G.take j)) ∧ t10 = .int .i64 o ∧ t11 = .int .i64 q ∧ o = m + (j - m) ∧ (j ≤ m → q = -1) ∧ (m < j → q = ((j - 1 : Nat) : Int)) ∧ Below wr.heap.size wr wx) (fun _ _ _ t13 _ => G.length - (intOf t13).toNat)
        case atStart => exact ⟨0, m, -1, Nat.zero_le _, rfl, rfl, rfl, rfl, by omega, fun _ => rfl, fun h => by omega, Below.refl _ _⟩
        case round =>
          obtain ⟨j, o, q, hj, rfl, rfl, rfl, rfl, ho, hq1, hq2, hb⟩ := hrel
          have HBx := Lib.hid hb
          have hX3 := HX3.out.keep hb
          have HX4 := Lib.hid hX3
          obtain ⟨xc, xf, xz⟩ := hX3.facts
          have hG2 := SliceAt.below HG.out (bnext HBr.out hb) (Nat.le_refl _)
          by_cases hlt : j < G.length
          · obtain ⟨b, off, rfl, -⟩ := eys_some hG2 (by omega)
            obtain ⟨y0, y1, y2, y3, y4, y5⟩ := eys_six hG2 j hlt
            have hS := sumE_take hlt
            have hO := HL.out.old j hlt
            have hb1 := sum_bd (HGz.out.sub (fun y hy => List.mem_of_mem_take hy) : SzOk (G.take j))
            have hlt2 : (G.take j).length ≤ 30 := by rw [List.length_take]; omega
            have hys := HGz.out G[j] (List.getElem_mem _)
            have hdt := hys.2.2
            generalize G[j] = y at y0 y1 y2 y3 y4 y5 hdt hS hO hys
            have HS := Lib.hid hS
            generalize sumE (G.take j) = s at HS hb1 ⊢
            have hwa : IntKind.i64.wrap (s + y.size) = s + y.size := by rw [IntKind.wrap_i64]; omega
            clear hX3 hG2 hb hS
            by_cases h4 : 0 ≤ y.date
            · have hwb : IntKind.i64.wrap (now - y.date) = now - y.date := by rw [IntKind.wrap_i64]; omega
              have hnz : ¬ y.date < 0 := by omega
              by_cases h5 : now - y.date ≤ n0
              · have hjm : ¬ j < m := by
                  intro hjm
                  rw [decide_eq_true hjm] at hO
                  unfold oldB at hO
                  rw [decide_eq_false (show ¬ n0 < now - y.date by omega), Bool.and_false] at hO
                  cases hO
                clear hO
                go_wp2_with (go_quiet (fail))
                go_roundw
                case measure => simp [intOf]; omega
                case rel => exact ⟨j + 1, o + 1, (j : Int), by omega, by go_num, by rw [HS.out], by go_num, rfl, by omega, fun h => by omega, fun h => by omega, HBx.out.trans (below_drewN ((Below.refl _ _).mono HBx.out.size) _)⟩
              · have hjm : j < m := by
                  by_cases hjm : j < m
                  · exact hjm
                  · rw [decide_eq_false hjm] at hO
                    unfold oldB at hO
                    rw [decide_eq_true (show n0 < now - y.date by omega), decide_eq_true h4] at hO
                    cases hO
                clear hO
                go_wp2_with (go_quiet (fail))
                go_roundw
                case measure => simp [intOf]; omega
                case rel => exact ⟨j + 1, o, q, by omega, by go_num, by rw [HS.out], rfl, rfl, by omega, fun h => hq1 (by omega), fun h => by omega, HBx.out.trans (below_drewN ((Below.refl _ _).mono HBx.out.size) _)⟩
            · have hnz : y.date < 0 := by omega
              have hjm : ¬ j < m := by
                intro hjm
                rw [decide_eq_true hjm] at hO
                unfold oldB at hO
                rw [decide_eq_false h4] at hO
                cases hO
              clear hO
              go_wp2_with (go_quiet (fail))
              go_roundw
              case measure => simp [intOf]; omega
              case rel => exact ⟨j + 1, o + 1, (j : Int), by omega, by go_num, by rw [HS.out], by go_num, rfl, by omega, fun h => by omega, fun h => by omega, HBx.out.trans (below_drewN ((Below.refl _ _).mono HBx.out.size) _)⟩
          · obtain rfl : j = G.length := by omega
            obtain rfl : o = G.length := by omega
            rw [List.take_length]
            have hsg := sum_bd HGz.out
            have hle := HL.out.left
            have HLa := Lib.hid HL.out.last
            rw [HA.out] at hle
            have HA2 := HA.out
            have hla2 : ∀ (h : m < G.length), n1 < A - sumE G + (G[G.length - 1]'(Nat.sub_lt (Nat.lt_of_le_of_lt (Nat.zero_le _) h) Nat.one_pos)).size := fun h => by rw [← HA2]; exact HLa.out h
            generalize sumE G = B at hsg hle hla2 ⊢
            have hwa : IntKind.i64.wrap (A - B) = A - B := by rw [IntKind.wrap_i64]; omega
            have hle2 : ¬ n1 < A - B := by omega
            have hd0 : Below wr.heap.size wr wr.drew := (Below.refl _ _).drew
            have HC := Lib.hid (fun (w9 : World) (hb9 : Below wr.heap.size wr w9) => SliceAt.below hG2 hb9 (Nat.le_refl _))
            have HQ1 := Lib.hid hq1
            have HQ2 := Lib.hid hq2
            have HLa2 := Lib.hid hla2
            clear hX3 hG2 hb hla2 hq1 hq2 HA2 ho
            go_upto_region 20 with fail
            clear xc xf xz
            refine wp_region_held_drew (S := fun w' => Below wr.heap.size wr w') (by kernel_rfl) hd0 (fun hHeld => ?_)
            by_cases hm2 : G.length ≤ m
            · obtain rfl := HQ1.out hm2
              refine reg_takes 24 [(0, 118), (1, 119), (2, 120), (3, 121), (4, 122), (5, 123), (6, 124), (7, 125), (8, 126), (9, 127), (10, 128), (11, 129), (12, 130), (13, 131), (14, 132), (15, 133), (16, 134), (17, 135), (18, 136), (19, 137), (20, 138), (21, 139), (22, 140), (23, 141)] (by kernel_rfl) (by kernel_rfl) rfl (fun _ _ _ _ _ h => h) hHeld ?_
              iterate 24 ((first | (apply takes_cons rfl rfl; (· (intro w9 hSw; clear hSw; go_simp; (try with_reducible rfl)))) | (apply takes_skip rfl rfl)); simp only [List.setIfInBounds_toArray, List.set_cons_zero, List.set_cons_succ])
              refine takes_nil ?_
              refine reg_call 24 142 (R := fun v w' => v = .bool true ∧ Below wr.drew.heap.size wr.drew w') (by kernel_rfl) rfl rfl rfl ?xd ((HAw.out wr.drew).mono (fun e w' ⟨he, hb⟩ => ⟨_, he, rfl, hb⟩)) (fun v w' ⟨_, hb⟩ => bnext hHeld hb) ?_
              case xd => (go_simp; (try rfl))
              rintro _ w5 ⟨rfl, hb5⟩
              simp only [List.setIfInBounds_toArray, List.set_cons_zero, List.set_cons_succ]
              have hS5 := bnext hHeld hb5
              refine reg_takes 2 [(25, 143), (26, 6)] (by kernel_rfl) (by kernel_rfl) rfl (fun _ _ _ _ _ h => h) hS5 ?_
              iterate 2 ((first | (apply takes_cons rfl rfl; (· (intro w9 hSw; clear hSw; go_simp; (try with_reducible rfl)))) | (apply takes_skip rfl rfl)); simp only [List.setIfInBounds_toArray, List.set_cons_zero, List.set_cons_succ])
              refine takes_nil ?_
              refine wpAnyH_done (by kernel_rfl) ?_ _
              have HS5 := Lib.hid hS5
              clear hS5 hb5 hHeld hd0
              go_wp2_with fail
              go_ret
              exact ⟨rfl, bnext HB2.out (bnext HBr.out (bnext HBx.out HS5.out))⟩
            · obtain rfl := HQ2.out (by omega)
              obtain ⟨b, off, rfl, -⟩ := eys_some (HC.out _ hd0) (by omega)
              have hlz := HLa2.out (by omega)
              have hyz := HGz.out (G[G.length - 1]'(by omega)) (List.getElem_mem _)
              have HY := Lib.hid (fun (w9 : World) (hb9 : Below wr.heap.size wr w9) => eys_six (HC.out w9 hb9) (G.length - 1) (by omega))
              generalize G[G.length - 1]'(by omega) = z at HY hlz hyz
              have hkl : (G.length : Int) - 1 = ((G.length - 1 : Nat) : Int) := by omega
              have hwk : IntKind.i64.wrap ((G.length - 1 : Nat) : Int) = ((G.length - 1 : Nat) : Int) := by rw [IntKind.wrap_i64]; omega
              have hnn : ¬ ((G.length - 1 : Nat) : Int) < 0 := by omega
              have hwz : IntKind.i64.wrap (A - B + z.size) = A - B + z.size := by rw [IntKind.wrap_i64]; omega
              have hlN : G.length - 1 < G.length := by omega
              refine reg_takes 24 [(0, 118), (1, 119), (2, 120), (3, 121), (4, 122), (5, 123), (6, 124), (7, 125), (8, 126), (9, 127), (10, 128), (11, 129), (12, 130), (13, 131), (14, 132), (15, 133), (16, 134), (17, 135), (18, 136), (19, 137), (20, 138), (21, 139), (22, 140), (23, 141)] (by kernel_rfl) (by kernel_rfl) rfl (fun _ _ _ _ _ h => h) hHeld ?_
              iterate 24 ((first | (apply takes_cons rfl rfl; (· (intro w9 hSw; obtain ⟨xc, -, -⟩ := (HX4.out.keep hSw).facts; obtain ⟨y0, y1, y2, y3, y4, y5⟩ := HY.out w9 hSw; clear hSw; go_simp; (try with_reducible rfl)))) | (apply takes_skip rfl rfl)); simp only [List.setIfInBounds_toArray, List.set_cons_zero, List.set_cons_succ])
              refine takes_nil ?_
              refine reg_call 24 142 (R := fun v w' => v = .bool true ∧ Below wr.drew.heap.size wr.drew w') (by kernel_rfl) rfl rfl rfl ?xd ((HAw.out wr.drew).mono (fun e w' ⟨he, hb⟩ => ⟨_, he, rfl, hb⟩)) (fun v w' ⟨_, hb⟩ => bnext hHeld hb) ?_
              case xd => (go_simp; (try rfl))
              rintro _ w5 ⟨rfl, hb5⟩
              simp only [List.setIfInBounds_toArray, List.set_cons_zero, List.set_cons_succ]
              have hS5 := bnext hHeld hb5
              refine reg_takes 2 [(25, 143), (26, 6)] (by kernel_rfl) (by kernel_rfl) rfl (fun _ _ _ _ _ h => h) hS5 ?_
              iterate 2 ((first | (apply takes_cons rfl rfl; (· (intro w9 hSw; clear hSw; go_simp; (try with_reducible rfl)))) | (apply takes_skip rfl rfl)); simp only [List.setIfInBounds_toArray, List.set_cons_zero, List.set_cons_succ])
              refine takes_nil ?_
              refine wpAnyH_done (by kernel_rfl) ?_ _
              have HS5 := Lib.hid hS5
              clear hS5 hb5 hHeld hd0
              go_wp2_with fail
              go_ret
              exact ⟨rfl, bnext HB2.out (bnext HBr.out (bnext HBx.out HS5.out))⟩
end Go.Proofs.YtkkiglagdojnlaaGreatDoor
