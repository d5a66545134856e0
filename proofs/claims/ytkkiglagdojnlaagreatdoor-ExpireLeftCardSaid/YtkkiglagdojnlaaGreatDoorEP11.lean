/- Texts of the proof, part 11. -/
import Derived.RangeFuncNested
import Derived.RangeFuncBound
import Derived.RangeFuncCalls
import Derived.RangeFuncLeaves
import Derived.Test.YtkkiglagdojnlaaGreatDoorEP10
import Derived.Test.YtkkiglagdojnlaaGreatDoorEP4
import Derived.Test.YtkkiglagdojnlaaGreatDoorEP5
import Derived.Test.YtkkiglagdojnlaaGreatDoorEP2
set_option linter.unusedVariables false
set_option linter.unusedSimpArgs false
/- The reference's Pick (layer 38): the walk. Printed by gen_rpick.py. -/
namespace Go.Proofs.YtkkiglagdojnlaaGreatDoor

open Go.RowKit Go.Shelf Go.Sort

set_option maxRecDepth 100000 in
set_option maxHeartbeats 8000000 in
theorem rpick_any (l : List Ey) (a : Option Addr) (n c : Nat) (w : World) (he : SliceAt w 6 eyQ a n c l) (hn : n ≤ 30) (hs : SzOk l) (now age quota : Int) (hnow : now ≤ 9223372036854775807) :
    Calls Tryz.prog 25 #[.slice a n c, .int .i64 now, .int .i64 age, .int .i64 quota] w fun e w' => EyRes w' e (pickF l now age quota) ∧ Below w.heap.size w w' := by
  by_cases h0 : now < 0 ∨ age < 0 ∨ quota < 0
  · refine (rpick_early a n c now age quota h0 w).mono ?_
    rintro e w' ⟨rfl, hb⟩
    have : pickF l now age quota = [] := if_pos h0
    rw [this]
    exact ⟨eyRes_nil w', hb⟩
  have hl := he.1
  have HP := Lib.hid (pickF_eq (l := l) h0)
  generalize pickF l now age quota = out at HP ⊢
  have h1 : ¬ now < 0 := fun h => h0 (.inl h)
  have h2 : ¬ age < 0 := fun h => h0 (.inr (.inl h))
  have h3 : ¬ quota < 0 := fun h => h0 (.inr (.inr h))
  have HC := Lib.hid (rsort_any l a n c w he hn)
  have hperm := isort_perm ltE l
  have hLl : (isort ltE l).length = n := (isort_len l).trans hl
  have HZ := Lib.hid (hs.sub (m := isort ltE l) fun y hy => hperm.mem_iff.1 hy)
  generalize isort ltE l = L at HP hLl HC HZ
  clear he hl hs hperm h0
  go_enter Tryz.func25, Tryz.ntmps25
  go_wp2_with fail
  refine HC.out.mono ?_
  rintro e W1 ⟨⟨v, rfl, hO⟩, hb1⟩
  obtain ⟨va, vc, rfl, hvc, hvc2, -⟩ := own_form hO
  rw [hLl] at hO hvc ⊢
  have HL := Lib.hid (And.intro (show SliceAt W1 6 eyQ va n vc L by have := hO; rw [← hLl] at this ⊢; exact this.at) hb1)
  have HPk := Lib.hid (PkA.start W1)
  clear hO hb1
  go_wp2_with fail
  go_loopw [9, 10, 12, 13] (fun t9 t10 t12 t13 wr => ∃ k : Nat, k ≤ 3 ∧ t13 = .int .i64 k ∧ t12 = .int .i64 (sumE (rkR now age L k 0)) ∧ Hid (PkA W1 wr t9 t10 (.slice none 0 0) (rkO now age L k 0) (rkR now age L k 0) [])) (fun _ _ _ t13 _ => 3 - (intOf t13).toNat)
  case atStart => exact ⟨0, Nat.zero_le _, rfl, rfl, HPk.out⟩
  case round =>
    clear HPk
    obtain ⟨k, hk, rfl, rfl, HA0⟩ := hrel
    by_cases hk3 : k < 3
    · have hkz : (k : Int) < 3 := by omega
      go_wp2_with fail
      go_loopw [9, 10, 12, 14] (fun t9 t10 t12 t14 wr => ∃ i : Nat, i ≤ n ∧ t14 = .int .i64 i ∧ t12 = .int .i64 (sumE (rkR now age L k i)) ∧ Hid (PkA W1 wr t9 t10 (.slice none 0 0) (rkO now age L k i) (rkR now age L k i) [])) (fun _ _ _ t14 _ => n - (intOf t14).toNat)
      case atStart => exact ⟨0, Nat.zero_le _, rfl, rfl, HA0.out⟩
      case round =>
        clear HA0
        obtain ⟨i, hi, rfl, rfl, HA⟩ := hrel
        by_cases hlt : i < n
        · have hiL : i < L.length := by omega
          obtain ⟨b, off, rfl, -⟩ := eys_some HL.out.1 (by omega)
          obtain ⟨y0, y1, y2, y3, y4, y5⟩ := eys_six (HL.out.1.below HA.out.b (Nat.le_refl _)) i hiL
          have HSt := Lib.hid (rk_step now age L k i hiL hk3)
          have hln := rk_len now age L k i (by omega)
          have hsb := rk_sum now age L k i HZ.out (by omega)
          have hyz := HZ.out L[i] (List.getElem_mem _)
          generalize L[i] = y at y0 y1 y2 y3 y4 y5 HSt hyz
          have HA2 := Lib.hid (HA.out.keep ((Below.refl _ wr).alloc (Nat.le_refl _) (.cells #[.string y.can, .string y.name, .string y.path, .int .i64 y.date, .int .i64 y.size, .bool y.good] 23)))
          have hYB := Blk.new wr #[.string y.can, .string y.name, .string y.path, .int .i64 y.date, .int .i64 y.size, .bool y.good] 23
          obtain ⟨s, hse⟩ : ∃ s, sumE (rkR now age L k i) = s := ⟨_, rfl⟩
          have HSe := Lib.hid hse
          rw [hse] at hsb ⊢
          clear hse
          go_upto_region 13 with fail
          clear y0 y1 y2 y3 y4 y5
          generalize wr.alloc (.cells #[.string y.can, .string y.name, .string y.path, .int .i64 y.date, .int .i64 y.size, .bool y.good] 23) = Wa at HA2 hYB ⊢
          have HYB := Lib.hid hYB
          obtain ⟨bc, bf, bz⟩ := hYB.facts
          clear hYB
          have hwd : 0 ≤ y.date → IntKind.i64.wrap (now - y.date) = now - y.date := fun h => by rw [IntKind.wrap_i64]; omega
          rcases (by omega : k = 0 ∨ k = 1 ∨ k = 2) with rfl | rfl | rfl
          · skip
            by_cases hdt : 0 ≤ y.date
            · have hdz : ¬ y.date < 0 := by omega
              by_cases ho : age < now - y.date
              · have hob : oldB now age y = true := by unfold oldB; simp [hdt, ho]
                have HS1 := Lib.hid (show rkO now age L 0 (i + 1) = rkO now age L 0 i ++ [y] by rw [HSt.out.1]; unfold rkA; simp [hob])
                have HS2 := Lib.hid (show rkR now age L 0 (i + 1) = rkR now age L 0 i by rw [HSt.out.2]; unfold rkB; simp [hob, hdt])
                obtain ⟨g2, cp, W6, hrun, hA6, hM6⟩ := HA2.out.pushO y hln.1
                have HA6 := Lib.hid hA6
                have hYB6 := HYB.out.mod hM6 (fun hk => Nat.lt_irrefl _ (HA.out.o.lt hk).2)
                obtain ⟨zc, zf, zz⟩ := hYB6.facts
                clear hA6 hob hYB6
                go_wp2_with (at_builtin; refine wpList_app_run rfl rfl rfl rfl hrun ?_)
                go_roundw
                case measure => simp [intOf]; omega
                case rel => exact ⟨_, _, _, _, ⟨i + 1, by omega, by go_num, by rw [HS2.out, HSe.out], by rw [HS1.out, HS2.out]; exact HA6.out⟩, rfl, rfl, rfl, rfl⟩
              · have hob : oldB now age y = false := by unfold oldB; simp [ho]
                have HS1 := Lib.hid (show rkO now age L 0 (i + 1) = rkO now age L 0 i by rw [HSt.out.1]; unfold rkA; simp [hob])
                have HS2 := Lib.hid (show rkR now age L 0 (i + 1) = rkR now age L 0 i by rw [HSt.out.2]; unfold rkB; simp [hob, hdt])
                clear hob
                go_wp2_with fail
                go_roundw
                case measure => simp [intOf]; omega
                case rel => exact ⟨i + 1, by omega, by go_num, by rw [HS2.out, HSe.out], by rw [HS1.out, HS2.out]; exact HA2.out⟩
            · have hdz : y.date < 0 := by omega
              have hob : oldB now age y = false := by unfold oldB; simp [hdt]
              have HS1 := Lib.hid (show rkO now age L 0 (i + 1) = rkO now age L 0 i by rw [HSt.out.1]; unfold rkA; simp [hob])
              have HS2 := Lib.hid (show rkR now age L 0 (i + 1) = rkR now age L 0 i by rw [HSt.out.2]; unfold rkB; simp [hob, hdt])
              clear hob
              go_wp2_with fail
              go_roundw
              case measure => simp [intOf]; omega
              case rel => exact ⟨i + 1, by omega, by go_num, by rw [HS2.out, HSe.out], by rw [HS1.out, HS2.out]; exact HA2.out⟩
          · skip
            by_cases hdt : 0 ≤ y.date
            · have hdz : ¬ y.date < 0 := by omega
              by_cases ho : age < now - y.date
              · have hob : oldB now age y = true := by unfold oldB; simp [hdt, ho]
                have HS1 := Lib.hid (show rkO now age L 1 (i + 1) = rkO now age L 1 i by rw [HSt.out.1]; unfold rkA; simp [hob])
                have HS2 := Lib.hid (show rkR now age L 1 (i + 1) = rkR now age L 1 i by rw [HSt.out.2]; unfold rkB; simp [hob, hdt])
                clear hob
                go_wp2_with fail
                go_roundw
                case measure => simp [intOf]; omega
                case rel => exact ⟨i + 1, by omega, by go_num, by rw [HS2.out, HSe.out], by rw [HS1.out, HS2.out]; exact HA2.out⟩
              · have hob : oldB now age y = false := by unfold oldB; simp [ho]
                have HS1 := Lib.hid (show rkO now age L 1 (i + 1) = rkO now age L 1 i by rw [HSt.out.1]; unfold rkA; simp [hob])
                have HS2 := Lib.hid (show rkR now age L 1 (i + 1) = rkR now age L 1 i ++ [y] by rw [HSt.out.2]; unfold rkB; simp [hob, hdt])
                obtain ⟨g2, cp, W6, hrun, hA6, hM6⟩ := HA2.out.pushR y hln.2
                have HA6 := Lib.hid hA6
                have hYB6 := HYB.out.mod hM6 (fun hk => Nat.lt_irrefl _ (HA.out.r.lt hk).2)
                obtain ⟨zc, zf, zz⟩ := hYB6.facts
                have hwa : IntKind.i64.wrap (s + y.size) = s + y.size := by rw [IntKind.wrap_i64]; omega
                have HSu := Lib.hid (show sumE (rkR now age L 1 (i + 1)) = s + y.size by rw [HS2.out, sumE_app, sumE_cons, sumE_nil, HSe.out]; omega)
                clear hA6 hob hYB6 hM6
                go_wp2_with (at_builtin; refine wpList_app_run rfl rfl rfl rfl hrun ?_)
                go_roundw
                case measure => simp [intOf]; omega
                case rel => exact ⟨_, _, _, _, ⟨i + 1, by omega, by go_num, by rw [HSu.out], by rw [HS1.out, HS2.out]; exact HA6.out⟩, rfl, rfl, rfl, rfl⟩
            · have hdz : y.date < 0 := by omega
              have hob : oldB now age y = false := by unfold oldB; simp [hdt]
              have HS1 := Lib.hid (show rkO now age L 1 (i + 1) = rkO now age L 1 i by rw [HSt.out.1]; unfold rkA; simp [hob])
              have HS2 := Lib.hid (show rkR now age L 1 (i + 1) = rkR now age L 1 i by rw [HSt.out.2]; unfold rkB; simp [hob, hdt])
              clear hob
              go_wp2_with fail
              go_roundw
              case measure => simp [intOf]; omega
              case rel => exact ⟨i + 1, by omega, by go_num, by rw [HS2.out, HSe.out], by rw [HS1.out, HS2.out]; exact HA2.out⟩
          · skip
            by_cases hdt : 0 ≤ y.date
            · have hdz : ¬ y.date < 0 := by omega
              by_cases ho : age < now - y.date
              · have hob : oldB now age y = true := by unfold oldB; simp [hdt, ho]
                have HS1 := Lib.hid (show rkO now age L 2 (i + 1) = rkO now age L 2 i by rw [HSt.out.1]; unfold rkA; simp [hob])
                have HS2 := Lib.hid (show rkR now age L 2 (i + 1) = rkR now age L 2 i by rw [HSt.out.2]; unfold rkB; simp [hob, hdt])
                clear hob
                go_wp2_with fail
                go_roundw
                case measure => simp [intOf]; omega
                case rel => exact ⟨i + 1, by omega, by go_num, by rw [HS2.out, HSe.out], by rw [HS1.out, HS2.out]; exact HA2.out⟩
              · have hob : oldB now age y = false := by unfold oldB; simp [ho]
                have HS1 := Lib.hid (show rkO now age L 2 (i + 1) = rkO now age L 2 i by rw [HSt.out.1]; unfold rkA; simp [hob])
                have HS2 := Lib.hid (show rkR now age L 2 (i + 1) = rkR now age L 2 i by rw [HSt.out.2]; unfold rkB; simp [hob, hdt])
                clear hob
                go_wp2_with fail
                go_roundw
                case measure => simp [intOf]; omega
                case rel => exact ⟨i + 1, by omega, by go_num, by rw [HS2.out, HSe.out], by rw [HS1.out, HS2.out]; exact HA2.out⟩
            · have hdz : y.date < 0 := by omega
              have hob : oldB now age y = false := by unfold oldB; simp [hdt]
              have HS1 := Lib.hid (show rkO now age L 2 (i + 1) = rkO now age L 2 i by rw [HSt.out.1]; unfold rkA; simp [hob])
              have HS2 := Lib.hid (show rkR now age L 2 (i + 1) = rkR now age L 2 i ++ [y] by rw [HSt.out.2]; unfold rkB; simp [hob, hdt])
              obtain ⟨g2, cp, W6, hrun, hA6, hM6⟩ := HA2.out.pushR y hln.2
              have HA6 := Lib.hid hA6
              have hYB6 := HYB.out.mod hM6 (fun hk => Nat.lt_irrefl _ (HA.out.r.lt hk).2)
              obtain ⟨zc, zf, zz⟩ := hYB6.facts
              have hwa : IntKind.i64.wrap (s + y.size) = s + y.size := by rw [IntKind.wrap_i64]; omega
              have HSu := Lib.hid (show sumE (rkR now age L 2 (i + 1)) = s + y.size by rw [HS2.out, sumE_app, sumE_cons, sumE_nil, HSe.out]; omega)
              clear hA6 hob hYB6 hM6
              go_wp2_with (at_builtin; refine wpList_app_run rfl rfl rfl rfl hrun ?_)
              go_roundw
              case measure => simp [intOf]; omega
              case rel => exact ⟨_, _, _, _, ⟨i + 1, by omega, by go_num, by rw [HSu.out], by rw [HS1.out, HS2.out]; exact HA6.out⟩, rfl, rfl, rfl, rfl⟩
        · obtain rfl : i = n := by omega
          obtain ⟨e1, e2⟩ := rk_next now age L k
          rw [hLl] at e1 e2
          have HE := Lib.hid (And.intro e1 e2)
          clear e1 e2
          go_wp2_with fail
          go_roundw
          case measure => simp [intOf]; omega
          case rel => exact ⟨k + 1, by omega, by go_num, by rw [HE.out.2], by rw [HE.out.1, HE.out.2]; exact HA.out⟩
    · obtain rfl : k = 3 := by omega
      have e1 : rkO now age L 3 0 = pkO now age L := rfl
      have e2 : rkR now age L 3 0 = restL now age L := rfl
      have HPo := Lib.hid (show (pkO now age L).length ≤ 30 from Nat.le_trans (List.length_filter_le _ _) (by omega))
      have hrl := rest_len now age L
      have HRs := Lib.hid (HZ.out.sub (fun y (hy : y ∈ restL now age L) => rest_mem y hy))
      have hsb := rk_sum now age L 3 0 HZ.out (by omega)
      rw [e1, e2] at HA0
      rw [e2] at hsb ⊢
      generalize restL now age L = Rl at HA0 hrl HRs HP hsb ⊢
      generalize pkO now age L = po at HA0 HP HPo
      generalize sumE Rl = s0 at HP hsb ⊢
      clear e1 e2
      obtain ⟨ja, jc, hjv, hjc, hjc2, -⟩ := own_form HA0.out.r
      subst hjv
      go_wp2_with fail
      go_loopw [9, 12, 17] (fun t9 t12 t17 wr => ∃ (j : Nat) (s : Int), j ≤ Rl.length ∧ t17 = .int .i64 j ∧ t12 = .int .i64 s ∧ -1125899906842624 ≤ s ∧ s ≤ 67553994410557440 ∧ Hid (PkA W1 wr t9 (.slice ja Rl.length jc) (.slice none 0 0) (po ++ Rl.take j) Rl []) ∧ Hid (overL quota s0 Rl = Rl.take j ++ overL quota s (Rl.drop j))) (fun _ _ t17 _ => Rl.length - (intOf t17).toNat)
      case atStart => exact ⟨0, s0, Nat.zero_le _, rfl, rfl, by omega, by omega, by rw [List.take_zero, List.append_nil]; exact HA0.out, by rw [List.take_zero, List.drop_zero, List.nil_append]; exact rfl⟩
      case round =>
        clear HA0
        obtain ⟨j, s, hj, rfl, rfl, hs1, hs2, HA, HO⟩ := hrel
        by_cases hlt2 : j < Rl.length
        · obtain ⟨b, off, rfl, -⟩ := eys_some HA.out.r.at (by omega)
          obtain ⟨y0, y1, y2, y3, y4, y5⟩ := eys_six HA.out.r.at j hlt2
          obtain rfl : off = 0 := by
            obtain ⟨a3, c3, e3, -, -, h3⟩ := own_form HA.out.r
            injection e3 with e3
            rcases h3 with ⟨h3, -⟩ | ⟨g3, h3, -⟩
            · rw [← e3] at h3; cases h3
            · rw [← e3] at h3; injection h3 with h3; injection h3
          simp only [Nat.zero_add] at y0 y1 y2 y3 y4 y5
          have hT := take_next hlt2
          have hD := List.drop_eq_getElem_cons hlt2
          have hyz := HRs.out Rl[j] (List.getElem_mem _)
          generalize hRy : Rl[j] = y at y0 y1 y2 y3 y4 y5 hT hD hyz
          have HRy := Lib.hid hRy
          clear hRy
          have HT := Lib.hid (And.intro hT hD)
          have hlo : (po ++ Rl.take j).length ≤ 2000 := by rw [List.length_append, List.length_take]; have := HPo.out; omega
          clear hT hD
          by_cases hq : s ≤ quota
          · have hqz : ¬ quota < s := by omega
            have HE := Lib.hid (show out = po ++ Rl.take j by rw [HP.out, HO.out, over_stop hq, List.append_nil])
            go_wp2_with fail
            go_ret
            rw [HE.out]
            exact ⟨HA.out.o.res, (HL.out.2.trans (HA.out.b.mono HL.out.2.size))⟩
          · have hqz : quota < s := by omega
            have hwa : IntKind.i64.wrap (s - y.size) = s - y.size := by rw [IntKind.wrap_i64]; omega
            obtain ⟨g2, cp, W7, hrun, hA7, hM7⟩ := HA.out.pushO y hlo
            have HA7 := Lib.hid hA7
            have HO2 := Lib.hid (show overL quota s0 Rl = Rl.take (j + 1) ++ overL quota (s - y.size) (Rl.drop (j + 1)) by rw [HO.out, HT.out.2, over_step hq, HT.out.1, List.append_assoc]; rfl)
            obtain ⟨z0, z1, z2, z3, z4, z5⟩ := eys_six hA7.r.at j hlt2
            simp only [Nat.zero_add] at z0 z1 z2 z3 z4 z5
            have HZ4 := Lib.hid z4
            clear z0 z1 z2 z3 z5 z4 hA7 hM7
            go_upto_region 23 with (at_builtin; refine wpList_app_run rfl rfl rfl rfl hrun ?_)
            have z4 := HZ4.out
            go_wp2_with fail
            go_roundw
            case measure => simp [intOf]; omega
            case rel => exact ⟨_, _, _, ⟨j + 1, by omega, rfl, s - y.size, rfl, by omega, by omega, Lib.hid (by rw [HT.out.1, ← List.append_assoc]; have h := HA7.out; rw [List.length_append, List.length_take, Nat.min_eq_left (by omega)] at h; exact h), HO2⟩, rfl, (by have h := HRy.out; rw [h]; have h2 := hwa; rw [IntKind.wrap_i64] at h2; unfold wrap64; rw [h2]), by go_num⟩
        · obtain rfl : j = Rl.length := by omega
          have HE := Lib.hid (show out = po ++ Rl.take Rl.length by rw [HP.out, HO.out, List.drop_length]; simp [overL])
          go_wp2_with fail
          go_ret
          rw [HE.out]
          exact ⟨HA.out.o.res, (HL.out.2.trans (HA.out.b.mono HL.out.2.size))⟩
end Go.Proofs.YtkkiglagdojnlaaGreatDoor

/- ragpickerlaw38.few, ragpickerlaw34.Same at one list in two places, expire.Run where it refuses. -/
namespace Go.Proofs.YtkkiglagdojnlaaGreatDoor

open Go.RowKit Go.Shelf Go.Sort

def szB (y : Ey) : Bool := decide (0 ≤ y.size) && decide (y.size ≤ 1125899906842624)
def fewE (l : List Ey) : Bool := l.all szB && decide (l.length ≤ 30)
theorem szB_step (l : List Ey) (k : Nat) (hk : k < l.length) : (l.drop k).all szB = (szB l[k] && (l.drop (k + 1)).all szB) := by
  rw [List.drop_eq_getElem_cons hk, List.all_cons]
theorem fewE_ok {l : List Ey} (h : fewE l = true) (hd : ∀ y ∈ l, y.date ≤ 9223372036854775807) : l.length ≤ 30 ∧ SzOk l := by
  unfold fewE at h
  rw [Bool.and_eq_true, List.all_eq_true, decide_eq_true_eq] at h
  refine ⟨h.2, fun y hy => ?_⟩
  have h1 := h.1 y hy
  unfold szB at h1
  rw [Bool.and_eq_true, decide_eq_true_eq, decide_eq_true_eq] at h1
  exact ⟨h1.1, h1.2, hd y hy⟩
set_option maxRecDepth 100000 in
set_option maxHeartbeats 2000000 in
theorem few38_any (l : List Ey) (a : Option Addr) (n c : Nat) (w : World) (h : SliceAt w 6 eyQ a n c l) :
    Calls Tryz.prog 21 #[.slice a n c] w fun e w' => e = .returned (.bool (fewE l)) ∧ Below w.heap.size w w' := by
  obtain rfl : l.length = n := h.1
  have hc1 := h.2.1
  have hc2 := h.2.2.1
  have HE := Lib.hid h
  clear h
  go_enter Tryz.func21, Tryz.ntmps21
  go_wp2_with fail
  go_loopw [3] (fun t3 wr => ∃ k : Nat, k ≤ l.length ∧ t3 = .int .i64 k ∧ l.all szB = (l.drop k).all szB ∧ Below w.heap.size w wr) (fun t3 _ => l.length - (intOf t3).toNat)
  case atStart => exact ⟨0, Nat.zero_le _, rfl, rfl, Below.refl _ _⟩
  case round =>
    obtain ⟨k, hk, rfl, hf, hb⟩ := hrel
    have HB := Lib.hid hb
    have HF := Lib.hid hf
    clear hf
    by_cases hlt : k < l.length
    · have hE := SliceAt.below HE.out hb (Nat.le_refl _)
      obtain ⟨b, off, rfl, -⟩ := eys_some hE (by omega)
      obtain ⟨y0, y1, y2, y3, y4, y5⟩ := eys_six hE k hlt
      have hs := szB_step l k hlt
      generalize l[k] = y at y0 y1 y2 y3 y4 y5 hs
      have HS := Lib.hid hs
      clear hE hb hs
      by_cases h1 : y.size < 0
      · have HZ := Lib.hid (show szB y = false by unfold szB; rw [decide_eq_false (by omega)]; rfl)
        go_wp2_with fail
        go_ret
        exact ⟨by unfold fewE; rw [HF.out, HS.out, HZ.out]; rfl, HB.out⟩
      · by_cases h2 : 1125899906842624 < y.size
        · have HZ := Lib.hid (show szB y = false by unfold szB; rw [decide_eq_false (show ¬ y.size ≤ 1125899906842624 by omega), Bool.and_false])
          go_wp2_with fail
          go_ret
          exact ⟨by unfold fewE; rw [HF.out, HS.out, HZ.out]; rfl, HB.out⟩
        · have HZ := Lib.hid (show szB y = true by unfold szB; rw [decide_eq_true (show 0 ≤ y.size by omega), decide_eq_true (show y.size ≤ 1125899906842624 by omega)]; rfl)
          go_wp2_with fail
          go_roundw
          case measure => simp [intOf]; omega
          case rel => exact ⟨k + 1, by omega, by go_num, by rw [HF.out, HS.out, HZ.out, Bool.true_and], HB.out⟩
    · obtain rfl : k = l.length := by omega
      clear hb
      have HD := Lib.hid (show fewE l = decide ((l.length : Int) ≤ 30) by unfold fewE; rw [HF.out, List.drop_length]; exact decide_eq_decide.2 (by omega))
      go_wp2_with fail
      go_ret
      exact ⟨by rw [HD.out]; rfl, HB.out⟩
set_option maxRecDepth 100000 in
theorem ey_neq (x : Ey) (w : World) : (binOp .neq 23 (.agg #[.string x.can, .string x.name, .string x.path, .int .i64 x.date, .int .i64 x.size, .bool x.good]) (.agg #[.string x.can, .string x.name, .string x.path, .int .i64 x.date, .int .i64 x.size, .bool x.good])).run Tryz.prog w = .ok (.bool false) w := by
  have u1 := Tryz.underlying9
  have u2 := Tryz.underlying3
  have u3 := Tryz.underlying4
  have a1 := Tryz.isAgg9
  have z1 := Tryz.sizeOf9
  have a2 := Tryz.isAgg3
  have z2 := Tryz.sizeOf3
  have a3 := Tryz.isAgg4
  have z3 := Tryz.sizeOf4
  have hS : Tryz.prog.underlying 23 = some (.struct (Tryz.prog.fieldsOf 23)) := by kernel_rfl
  have hp : Tryz.prog.stoodInHeld 23 = false := by kernel_rfl
  rw [run_neq_struct, show (10000 : Nat) = 9999 + 1 from rfl, run_equalIn_agg w 9999 23 _ _ hS hp]
  simp only [Program.fieldsOf, Tryz.underlying23]
  go_simp
set_option maxRecDepth 100000 in
set_option maxHeartbeats 2000000 in
theorem same34_any (l : List Ey) (a b : Option Addr) (n c m d : Nat) (w : World) (h : SliceAt w 6 eyQ a n c l) (k : SliceAt w 6 eyQ b m d l) :
    Calls Tryz.prog 20 #[.slice a n c, .slice b m d] w fun e w' => e = .returned (.bool true) ∧ Below w.heap.size w w' := by
  obtain rfl : l.length = n := h.1
  obtain rfl : l.length = m := k.1
  have hc1 := h.2.1
  have hc2 := h.2.2.1
  have hd1 := k.2.1
  have hd2 := k.2.2.1
  have HE := Lib.hid (And.intro h k)
  clear h k
  go_enter Tryz.func20, Tryz.ntmps20
  go_wp2_with fail
  go_loopw [5] (fun t5 wr => ∃ k : Nat, k ≤ l.length ∧ t5 = .int .i64 k ∧ Below w.heap.size w wr) (fun t5 _ => l.length - (intOf t5).toNat)
  case atStart => exact ⟨0, Nat.zero_le _, rfl, Below.refl _ _⟩
  case round =>
    obtain ⟨k, hk, rfl, hb⟩ := hrel
    have HB := Lib.hid hb
    by_cases hlt : k < l.length
    · have hE := SliceAt.below HE.out.1 hb (Nat.le_refl _)
      have hE2 := SliceAt.below HE.out.2 hb (Nat.le_refl _)
      obtain ⟨b1, off, rfl, -⟩ := eys_some hE (by omega)
      obtain ⟨b2, off2, rfl, -⟩ := eys_some hE2 (by omega)
      obtain ⟨y0, y1, y2, y3, y4, y5⟩ := eys_six hE k hlt
      obtain ⟨z0, z1, z2, z3, z4, z5⟩ := eys_six hE2 k hlt
      have hne := ey_neq l[k]
      generalize l[k] = x at y0 y1 y2 y3 y4 y5 z0 z1 z2 z3 z4 z5 hne
      clear hb hE hE2
      go_wp2_with (go_quiet (fail))
      go_roundw
      case measure => simp [intOf]; omega
      case rel => exact ⟨k + 1, by omega, by go_num, HB.out.trans (below_drewN ((Below.refl _ _).mono HB.out.size) _)⟩
    · obtain rfl : k = l.length := by omega
      clear hb
      go_wp2_with fail
      go_ret
      exact ⟨rfl, HB.out⟩
set_option maxRecDepth 100000 in
theorem exprun_early (p : Value) (u g : Int) (s : ByteArray) (w : World) :
    Calls Tryz.prog 51 #[p, .agg #[.int .i64 u, .int .i64 g, .string s], .int .i64 (-1), .int .i64 0] w fun e w' => e = .returned (.tuple #[.int .i64 0, .int .i64 1]) ∧ Below w.heap.size w w' := by
  go_enter Tryz.func51, Tryz.ntmps51
  go_wp2_with fail
  go_ret2
  exact ⟨rfl, balloc (Below.refl _ _) _⟩
end Go.Proofs.YtkkiglagdojnlaaGreatDoor

/- what stands between: lists of bytes parted at one byte. No walk. -/
namespace Go.Proofs.YtkkiglagdojnlaaGreatDoor

open Go.RowKit

theorem spl_app (c : UInt8) (a m : List UInt8) : spl c (a ++ c :: m) = spl c a ++ spl c m := by
  refine snoc_ind (P := fun m => spl c (a ++ c :: m) = spl c a ++ spl c m) ?_ (fun m x ih => ?_) m
  · rw [spl_snoc, splStep, if_pos rfl]; rfl
  · rw [show a ++ c :: (m ++ [x]) = (a ++ c :: m) ++ [x] by simp, spl_snoc, ih, spl_snoc]
    have h0 := (spl_len c m).1
    unfold splStep
    split
    · simp
    · rw [List.length_append, List.getD_eq_getElem?_getD, List.getD_eq_getElem?_getD, List.getElem?_append_right (by omega), List.set_append_right _ _ (by omega), show (spl c a).length + (spl c m).length - 1 - (spl c a).length = (spl c m).length - 1 by omega]
theorem spl_none (c : UInt8) (l : List UInt8) : c ∉ l → spl c l = [l] := by
  refine snoc_ind (P := fun l => c ∉ l → spl c l = [l]) (fun _ => rfl) (fun l x ih h => ?_) l
  rw [List.mem_append, List.mem_singleton, not_or] at h
  rw [spl_snoc, ih h.1, splStep, if_neg (fun e => h.2 e.symm)]
  rfl
theorem extract_list (s : ByteArray) (a b : Nat) : (s.extract a b).data.toList = (s.data.toList.take b).drop a := by
  rw [Lib.extract_data, List.drop_take]
end Go.Proofs.YtkkiglagdojnlaaGreatDoor

/- Trips (layer 15), plainly: the ways of a round. No walk. -/
namespace Go.Proofs.YtkkiglagdojnlaaGreatDoor

open Go.RowKit

section

variable {S : Fs} {c : Cr} {f must : Bool} {h : Nat} {at' : Int} {p : List UInt8} {l : List (List UInt8)} {n : An}

theorem seek_nil : S.seekH c f h at' must [] = (⟨0, ByteArray.empty, at', true⟩, 0) := by cases h <;> rfl
theorem seek_err (he : (S.step c at' p).2 ≠ 0) : S.seekH c f h at' must (p :: l) = (fd0, (S.step c at' p).2) := by
  cases h
  · show S.seekL c f none (p :: l) at' must = _
    rw [Fs.seekL]; simp only; rw [if_pos he]
  · show S.seekL c f (some _) (p :: l) at' must = _
    rw [Fs.seekL]; simp only; rw [if_pos he]
theorem seek_up (he : (S.step c at' p).2 = 0) (hp : p = [46, 46]) : S.seekH c f h at' must (p :: l) = S.seekH c f h (S.step c at' p).1 must l := by
  cases h
  · show S.seekL c f none (p :: l) at' must = _
    rw [Fs.seekL]; simp only; rw [if_neg (by simp [he]), if_pos hp]; rfl
  · show S.seekL c f (some _) (p :: l) at' must = _
    rw [Fs.seekL]; simp only; rw [if_neg (by simp [he]), if_pos hp]; rfl
theorem seek_new (he : (S.step c at' p).2 = 0) (hp : p ≠ [46, 46]) (hg : S.get (S.step c at' p).1 = none) (hl : l = []) : S.seekH c f h at' must (p :: l) = (⟨at', str p, 0, must⟩, 0) := by
  cases h
  · show S.seekL c f none (p :: l) at' must = _
    rw [Fs.seekL]; simp only; rw [if_neg (by simp [he]), if_neg hp, hg]; simp only; rw [if_pos hl]
  · show S.seekL c f (some _) (p :: l) at' must = _
    rw [Fs.seekL]; simp only; rw [if_neg (by simp [he]), if_neg hp, hg]; simp only; rw [if_pos hl]
theorem seek_gone (he : (S.step c at' p).2 = 0) (hp : p ≠ [46, 46]) (hg : S.get (S.step c at' p).1 = none) (hl : l ≠ []) : S.seekH c f h at' must (p :: l) = (fd0, 5) := by
  cases h
  · show S.seekL c f none (p :: l) at' must = _
    rw [Fs.seekL]; simp only; rw [if_neg (by simp [he]), if_neg hp, hg]; simp only; rw [if_neg hl]
  · show S.seekL c f (some _) (p :: l) at' must = _
    rw [Fs.seekL]; simp only; rw [if_neg (by simp [he]), if_neg hp, hg]; simp only; rw [if_neg hl]
theorem seek_loop (he : (S.step c at' p).2 = 0) (hp : p ≠ [46, 46]) (hg : S.get (S.step c at' p).1 = some n) (hk : n.kind = 3 ∧ (l ≠ [] ∨ must = true ∨ f = true)) : S.seekH c f 0 at' must (p :: l) = (fd0, 12) := by
  show S.seekL c f none (p :: l) at' must = _
  rw [Fs.seekL]; simp only; rw [if_neg (by simp [he]), if_neg hp, hg]; simp only; rw [if_pos hk]
theorem seek_void (he : (S.step c at' p).2 = 0) (hp : p ≠ [46, 46]) (hg : S.get (S.step c at' p).1 = some n) (hk : n.kind = 3 ∧ (l ≠ [] ∨ must = true ∨ f = true)) (hd : n.data.data.toList = []) : S.seekH c f (h + 1) at' must (p :: l) = (fd0, 5) := by
  show S.seekL c f (some _) (p :: l) at' must = _
  rw [Fs.seekL]; simp only; rw [if_neg (by simp [he]), if_neg hp, hg]; simp only; rw [if_pos hk, if_pos hd]
theorem seek_link (he : (S.step c at' p).2 = 0) (hp : p ≠ [46, 46]) (hg : S.get (S.step c at' p).1 = some n) (hk : n.kind = 3 ∧ (l ≠ [] ∨ must = true ∨ f = true)) (hd : n.data.data.toList ≠ []) :
    S.seekH c f (h + 1) at' must (p :: l) = S.seekH c f h (if n.data.data.toList.head? = some 47 then 1 else at') (if l = [] then must || slashB n.data.data.toList else must) (partsL n.data.data.toList ++ l) := by
  show S.seekL c f (some _) (p :: l) at' must = _
  rw [Fs.seekL]; simp only; rw [if_neg (by simp [he]), if_neg hp, hg]; simp only; rw [if_pos hk, if_neg hd]
theorem seek_file (he : (S.step c at' p).2 = 0) (hp : p ≠ [46, 46]) (hg : S.get (S.step c at' p).1 = some n) (hk : ¬ (n.kind = 3 ∧ (l ≠ [] ∨ must = true ∨ f = true))) (hd : n.kind ≠ 1 ∧ (l ≠ [] ∨ must = true)) : S.seekH c f h at' must (p :: l) = (fd0, 9) := by
  cases h
  · show S.seekL c f none (p :: l) at' must = _
    rw [Fs.seekL]; simp only; rw [if_neg (by simp [he]), if_neg hp, hg]; simp only; rw [if_neg hk, if_pos hd]
  · show S.seekL c f (some _) (p :: l) at' must = _
    rw [Fs.seekL]; simp only; rw [if_neg (by simp [he]), if_neg hp, hg]; simp only; rw [if_neg hk, if_pos hd]
theorem seek_last (he : (S.step c at' p).2 = 0) (hp : p ≠ [46, 46]) (hg : S.get (S.step c at' p).1 = some n) (hk : ¬ (n.kind = 3 ∧ (l ≠ [] ∨ must = true ∨ f = true))) (hd : ¬ (n.kind ≠ 1 ∧ (l ≠ [] ∨ must = true))) (hl : l = []) : S.seekH c f h at' must (p :: l) = (⟨at', str p, (S.step c at' p).1, must⟩, 0) := by
  cases h
  · show S.seekL c f none (p :: l) at' must = _
    rw [Fs.seekL]; simp only; rw [if_neg (by simp [he]), if_neg hp, hg]; simp only; rw [if_neg hk, if_neg hd, if_pos hl]
  · show S.seekL c f (some _) (p :: l) at' must = _
    rw [Fs.seekL]; simp only; rw [if_neg (by simp [he]), if_neg hp, hg]; simp only; rw [if_neg hk, if_neg hd, if_pos hl]
theorem seek_on (he : (S.step c at' p).2 = 0) (hp : p ≠ [46, 46]) (hg : S.get (S.step c at' p).1 = some n) (hk : ¬ (n.kind = 3 ∧ (l ≠ [] ∨ must = true ∨ f = true))) (hd : ¬ (n.kind ≠ 1 ∧ (l ≠ [] ∨ must = true))) (hl : l ≠ []) : S.seekH c f h at' must (p :: l) = S.seekH c f h (S.step c at' p).1 must l := by
  cases h
  · show S.seekL c f none (p :: l) at' must = _
    rw [Fs.seekL]; simp only; rw [if_neg (by simp [he]), if_neg hp, hg]; simp only; rw [if_neg hk, if_neg hd, if_neg hl]; rfl
  · show S.seekL c f (some _) (p :: l) at' must = _
    rw [Fs.seekL]; simp only; rw [if_neg (by simp [he]), if_neg hp, hg]; simp only; rw [if_neg hk, if_neg hd, if_neg hl]; rfl
end

theorem parts_len (l : List UInt8) : (partsL l).length ≤ l.length + 1 := Nat.le_trans (List.length_filter_le _ _) (spl_len 47 l).2
/-- the parts of a text behind a slash. -/
theorem parts_app (a b : List UInt8) (ha : ∀ x ∈ a, x ≠ 47) : partsL (a ++ 47 :: b) = (if a = [] ∨ a = [46] then [] else [a]) ++ partsL b := by
  unfold partsL
  rw [spl_app, spl_none 47 a (fun h => ha 47 h rfl), List.filter_append]
  congr 1
  by_cases h1 : a = []
  · subst h1; rfl
  · by_cases h2 : a = [46]
    · subst h2; rfl
    · rw [if_neg (by rintro (h | h); exact h1 h; exact h2 h)]
      have e1 : (a == []) = false := by simpa using h1
      have e2 : (a == [46]) = false := by simpa using h2
      simp [h1, h2]
theorem parts_one (a : List UInt8) (ha : ∀ x ∈ a, x ≠ 47) : partsL a = if a = [] ∨ a = [46] then [] else [a] := by
  unfold partsL
  rw [spl_none 47 a (fun h => ha 47 h rfl)]
  by_cases h1 : a = []
  · subst h1; rfl
  · by_cases h2 : a = [46]
    · subst h2; rfl
    · rw [if_neg (by rintro (h | h); exact h1 h; exact h2 h)]
      have e1 : (a == []) = false := by simpa using h1
      have e2 : (a == [46]) = false := by simpa using h2
      simp [h1, h2]
end Go.Proofs.YtkkiglagdojnlaaGreatDoor

/- A range over a function whose iterator keeps cells of its own (a captured variable that it writes). -/
namespace Go.Proofs.YtkkiglagdojnlaaGreatDoor

open Go.RowKit

/-- from W to W' nothing has turned but blocks in T and, from B on, objects of the kind p. -/
structure Turn (T : Nat → Prop) (B : Nat) (p : Obj → Bool) (W W' : World) : Prop where
  os : W'.os = W.os
  tape : W'.tape = W.tape
  output : W'.output = W.output
  size : W.heap.size ≤ W'.heap.size
  block : ∀ k o, W.heap[k]? = some o → ¬ T k → (B ≤ k → p o = false) → W'.heap[k]? = some o
/-- J stands through such turns. -/
def AbT {β : Type} (T : Nat → Prop) (B : Nat) (p : Obj → Bool) (J : β → World → Prop) : Prop := ∀ s W W', J s W → Turn T B p W W' → J s W'
/-- a round leaves the iterator's own blocks as they were. -/
def KT (T : Nat → Prop) (W W' : World) : Prop := W.heap.size ≤ W'.heap.size ∧ ∀ k, T k → W'.heap[k]? = W.heap[k]?
theorem KT.trans {T : Nat → Prop} {A B C : World} (h : KT T A B) (k : KT T B C) : KT T A C := ⟨Nat.le_trans h.1 k.1, fun i hi => (k.2 i hi).trans (h.2 i hi)⟩
theorem KT.of_below {T : Nat → Prop} {W W' : World} (h : Below W.heap.size W W') (hT : ∀ k, T k → k < W.heap.size) : KT T W W' := ⟨h.size, fun k hk => h.block k (hT k hk)⟩
theorem KT.put {T : Nat → Prop} (W : World) (l : Nat) (o : Obj) (h : ¬ T l) : KT T W (W.putObj l o) := ⟨by simp, fun k hk => World.putObj_heap_other (fun e => h (e ▸ hk))⟩
theorem Turn.put {T : Nat → Prop} {B : Nat} {p : Obj → Bool} {W : World} {l : Nat} {o o' : Obj} (hB : B ≤ l) (hl : W.heap[l]? = some o) (hp : p o = true) : Turn T B p W (W.putObj l o') :=
  ⟨rfl, rfl, rfl, by simp, fun k o2 hk _ h2 => (World.putObj_heap_other (fun e => by subst e; rw [hl] at hk; injection hk with hk; subst hk; rw [hp] at h2; exact absurd (h2 hB) (by decide))).trans hk⟩
theorem Turn.alloc {T : Nat → Prop} {B : Nat} {p : Obj → Bool} (W : World) (o : Obj) : Turn T B p W (W.alloc o) :=
  ⟨rfl, rfl, rfl, by simp, fun k o2 hk _ _ => (Below.heap_alloc W o k (Array.getElem?_eq_some_iff.1 hk).1).trans hk⟩
/-- an iterator's contract: it hands on things, one by one, as far as the rounds go on; V: what may come behind what has come. -/
def SeqT {α : Type} (T : Nat → Prop) (F : Fence) (n : Nat) (P : Program) (g : Nat) (lb : Array Value) (encs : α → Array Value) (S Sp : List α → Prop) (V : List α → α → Prop) (w : World) : Prop :=
  ∀ (l : Nat) (J Jx : List α → World → Prop) (W : World), KT T w W → w.heap.size ≤ W.heap.size → AbT T W.heap.size Obj.isWalk J → AbT T W.heap.size Obj.isWalk Jx →
    (∀ pre x W1, J pre W1 → V pre x → YieldAt F (n - 1) P l (encs x) W1 fun e W' =>
      (e = .returned (.bool true) ∧ J (pre ++ [x]) W' ∧ KT T W1 W') ∨ (e = .returned (.bool false) ∧ Jx (pre ++ [x]) W')) →
    J [] W →
    CallsIn F n P g (#[.func (.yield l) #[] #[]] ++ lb) W fun e W' => (∃ v, e = .returned v) ∧ ((∃ xs, S xs ∧ J xs W') ∨ (∃ pre, Sp pre ∧ Jx pre W'))

def notCells (o : Obj) : Bool := !o.isCells
theorem walk_notCells {o : Obj} (h : o.isWalk = true) : notCells o = true := by unfold notCells; rw [Obj.not_cells_of_walk h]; rfl

/-- the loop over such an iterator. -/
theorem wpIn_rangeT {F : Fence} {n : Nat} {P : Program} {w : World} {α : Type} {T : Nat → Prop} {g : Operand} {ps : Array Tmp} {assign body : Code} {Q : Exit → Act → World → Prop} {a : Act}
    (hro : F.round = none) (h1 : 1 ≤ n) {gf : Nat} {lb : Array Value} (hg : a.eval g = .func (.func gf) #[] lb) (hFg : F.fn gf) (eg : ∀ args w, (callFunc gf args).run P w = .ok (.enter gf args) w)
    {encs : α → Array Value} {S Sp : List α → Prop} {V : List α → α → Prop} {w0 : World} (hseq : SeqT T F (n - 1) P gf lb encs S Sp V w0)
    (hT : ∀ k, T k → k < w.heap.size) (hb0 : KT T w0 w) (hps : ∀ x, (encs x).size = ps.size)
    (I : List α → World → Prop) (Ix : Code → List α → World → Prop) (hI : AbT T w.heap.size notCells I) (hIx : ∀ c, AbT T w.heap.size notCells (Ix c)) (h0 : I [] w) (a₁ : α → Act)
    (hassign : ∀ (l : Nat) (x : α) (W : World) (K : Act → World → Prop), K (a₁ x) W →
      assign.wpIn (F.inRound l) (n - 1 - 1) P (Exit.then K (fun _ _ _ => False)) { tmps := (ps.zip (encs x)).foldl (fun t (p, v) => t.setIfInBounds p v) a.tmps, defers := [] } W)
    (hbody : ∀ (l : Nat) (pre : List α) (x : α) (W : World), w.heap.size ≤ l → l < W.heap.size → I pre W → V pre x → body.wpIn (F.inRound l) (n - 1 - 1) P (ownPostG w.heap.size (KT T) I Ix (pre ++ [x]) W) (a₁ x) W)
    (hdone : ∀ (D : Nat) (xs : List α) (W : World), w.heap.size ≤ D → S xs → I xs W → W.heap[D]? = some (.deferred (some [])) → Q .normal { a with defers := { target := .collected D, args := #[] } :: a.defers } W)
    (hstop : ∀ (D : Nat) (c : Code) (pre : List α) (W : World), w.heap.size ≤ D → Sp pre → Ix c pre W → W.heap[D]? = some (.deferred (some [])) → c.wpIn F n P Q { a with defers := { target := .collected D, args := #[] } :: a.defers } W) :
    (Code.rangeFunc g ps assign body).wpIn F n P Q a w := by
  refine wpIn_rangeFunc fun fn hfn => ?_
  rw [hro]
  obtain ⟨rc, hrc⟩ : ∃ rc : LoopState → Option Code → Loop, rc = fun st pe => { state := st, pending := pe, fn, tmps := a.tmps, params := ps, assign, body, defers := w.heap.size } := ⟨_, rfl⟩
  have hTl : ¬ T (w.heap.size + 1) := fun h => by have := hT _ h; omega
  have hTd : ¬ T w.heap.size := fun h => by have := hT _ h; omega
  generalize hW1 : (w.alloc (.deferred (some []))).alloc (.loop (rc .ready none)) = W1
  have hs1 : W1.heap.size = w.heap.size + 2 := by rw [← hW1]; simp
  have hL1 : W1.heap[w.heap.size + 1]? = some (.loop (rc .ready none)) := by
    have := World.alloc_heap_new (w.alloc (.deferred (some []))) (.loop (rc .ready none))
    rw [World.size_alloc] at this
    rw [← hW1]; exact this
  have hD1 : W1.heap[w.heap.size]? = some (.deferred (some [])) := by
    rw [← hW1]; exact (Below.heap_alloc _ _ _ (by simp)).trans (World.alloc_heap_new w _)
  have hI1 : I [] W1 := by rw [← hW1]; exact hI _ _ _ (hI _ _ _ h0 (Turn.alloc _ _)) (Turn.alloc _ _)
  have hK1 : KT T w W1 := by rw [← hW1]; exact KT.of_below ((((Below.refl _ w).alloc (Nat.le_refl _) _).alloc (by simp) _)) hT
  refine ⟨w.heap.size + 1, [{ target := .collected w.heap.size, args := #[] }], W1, { target := .fn (.func gf) lb, args := #[.func (.yield (w.heap.size + 1)) #[] #[]] }, W1, gf,
    #[.func (.yield (w.heap.size + 1)) #[] #[]] ++ lb, W1, ?_, ?_, ?_, ?_, fun _ => h1, ?_⟩
  · rw [← hW1, hrc]; exact run_enterLoop_outer _ _ _ _ _
  · simp only [resolve, hg]; simp [go_sem]
  · intro f' hf'; simp [Target.leads] at hf'; subst hf'; exact hFg
  · simp [invoke, go_sem, eg]
  have turnW : ∀ {A B : World}, Turn T W1.heap.size Obj.isWalk A B → Turn T w.heap.size notCells A B := fun h =>
    ⟨h.os, h.tape, h.output, h.size, fun k o hk ht hp => h.block k o hk ht (fun hB => by
      cases hw : o.isWalk with
      | false => rfl
      | true => have := hp (by omega); rw [walk_notCells hw] at this; cases this)⟩
  have keepL : ∀ {A B : World} {k : Nat} {o : Obj}, Turn T W1.heap.size Obj.isWalk A B → A.heap[k]? = some o → ¬ T k → o.isWalk = false → B.heap[k]? = some o := fun h hk ht hw => h.block _ _ hk ht (fun _ => hw)
  refine (hseq (w.heap.size + 1)
    (fun pre W => I pre W ∧ W.heap[w.heap.size + 1]? = some (.loop (rc .ready none)) ∧ W.heap[w.heap.size]? = some (.deferred (some [])))
    (fun pre W => ∃ c, Ix c pre W ∧ W.heap[w.heap.size + 1]? = some (.loop (rc .done (some c))) ∧ W.heap[w.heap.size]? = some (.deferred (some [])))
    W1 (hb0.trans hK1) (Nat.le_trans hb0.1 hK1.1)
    (fun s A B hs ht => ⟨hI s A B hs.1 (turnW ht), keepL ht hs.2.1 hTl rfl, keepL ht hs.2.2 hTd rfl⟩)
    (fun s A B hs ht => by
      obtain ⟨c, hc, hl, hk⟩ := hs
      exact ⟨c, hIx c s A B hc (turnW ht), keepL ht hl hTl rfl, keepL ht hk hTd rfl⟩)
    ?_ ⟨hI1, hL1, hD1⟩).mono ?_
  · rintro pre x W ⟨hi, hl, hk⟩ hlen
    have hlt : w.heap.size + 1 < W.heap.size := (Array.getElem?_eq_some_iff.1 hl).1
    have hy := run_yield (P := P) (args := encs x) hl (by rw [hrc]; exact hps x)
    rw [hrc] at hy
    refine ⟨fn, _, assign, body, hy, roundIn_of_wpIn hfn (hassign _ x W _ ?_)⟩
    clear hy
    refine ⟨_, run_beginRound hl (by rw [hrc]), ?_⟩
    generalize hWb : W.putObj (w.heap.size + 1) (.loop { rc .ready none with state := .busy }) = Wb
    have hl2 : Wb.heap[w.heap.size + 1]? = some (.loop { rc .ready none with state := .busy }) := by rw [← hWb]; exact World.putObj_heap_same hlt
    have hk2 : Wb.heap[w.heap.size]? = some (.deferred (some [])) := by rw [← hWb]; exact (World.putObj_heap_other (by omega)).trans hk
    have hw2 : KT T W Wb := by rw [← hWb]; exact KT.put _ _ _ hTl
    have hib : I pre Wb := by rw [← hWb]; exact hI _ _ _ hi (Turn.put (by omega) hl rfl)
    refine wpIn_mono (hbody _ pre x Wb (by omega) (by have := hw2.1; omega) hib hlen) ?_
    have fin : ∀ (jump : Option Code) (W3 : World), KeepsFrom w.heap.size Wb W3 →
        (Instr.endRound (w.heap.size + 1) jump).run P W3 = .ok (.bool jump.isNone) (W3.putObj (w.heap.size + 1) (.loop (rc (if jump.isNone then .ready else .done) jump))) ∧
        W3.heap[w.heap.size + 1]? = some (.loop { rc .ready none with state := .busy }) ∧
        (W3.putObj (w.heap.size + 1) (.loop (rc (if jump.isNone then .ready else .done) jump))).heap[w.heap.size + 1]? = some (.loop (rc (if jump.isNone then .ready else .done) jump)) ∧
        (W3.putObj (w.heap.size + 1) (.loop (rc (if jump.isNone then .ready else .done) jump))).heap[w.heap.size]? = some (.deferred (some [])) := fun jump W3 hk3 => by
      have hl3 := hk3.same _ _ (by omega) hl2 rfl
      have := run_endRound (P := P) jump hl3
      rw [hrc] at this ⊢
      exact ⟨this, by rw [hrc] at hl3; exact hl3, World.putObj_heap_same (Array.getElem?_eq_some_iff.1 hl3).1, (World.putObj_heap_other (by omega)).trans (hk3.same _ _ (Nat.le_refl _) hk2 rfl)⟩
    have leave : ∀ (c : Code) (W3 : World), KeepsFrom w.heap.size Wb W3 → Ix c (pre ++ [x]) W3 → ∃ v W4, (Instr.endRound (w.heap.size + 1) (some c)).run P W3 = .ok (.bool v) W4 ∧ v = false ∧ ∃ c', Ix c' (pre ++ [x]) W4 ∧ W4.heap[w.heap.size + 1]? = some (.loop (rc .done (some c'))) ∧ W4.heap[w.heap.size]? = some (.deferred (some [])) := fun c W3 hk3 hi3 => by
      obtain ⟨hr, hl3, hl4, hk4⟩ := fin (some c) W3 hk3
      exact ⟨_, _, hr, rfl, c, hIx _ _ _ _ hi3 (Turn.put (by omega) hl3 rfl), hl4, hk4⟩
    rintro e a3 W3 hp
    cases e with
    | normal =>
      obtain ⟨hk3, hkp3, hi3⟩ := hp
      obtain ⟨hr, hl3, hl4, hk4⟩ := fin none W3 hk3
      exact ⟨_, _, hr, .inl ⟨rfl, ⟨hI _ _ _ hi3 (Turn.put (by omega) hl3 rfl), hl4, hk4⟩, hw2.trans (hkp3.trans (KT.put _ _ _ hTl))⟩⟩
    | ret => obtain ⟨v, W4, hr, rfl, h⟩ := leave .ret W3 hp.1 hp.2; exact ⟨_, _, hr, .inr ⟨rfl, h⟩⟩
    | exit id => obtain ⟨v, W4, hr, rfl, h⟩ := leave (.exit id) W3 hp.1 hp.2; exact ⟨_, _, hr, .inr ⟨rfl, h⟩⟩
    | goto t => obtain ⟨v, W4, hr, rfl, h⟩ := leave (.goto t) W3 hp.1 hp.2; exact ⟨_, _, hr, .inr ⟨rfl, h⟩⟩
    | panic ch => exact hp.elim
    | outgrown => exact hp.elim
  · rintro e W2 ⟨⟨v, rfl⟩, (⟨xs, hS, hi, hl, hk⟩ | ⟨pre, hSp, c, hi, hl, hk⟩)⟩
    · exact ⟨none, _, by have := run_endLoop (P := P) hl (by rw [hrc]; simp); rw [hrc] at this; exact this, hdone _ xs _ (Nat.le_refl _) hS (hI _ _ _ hi (Turn.put (by omega) hl rfl)) ((World.putObj_heap_other (by omega)).trans hk)⟩
    · exact ⟨some c, _, by have := run_endLoop (P := P) hl (by rw [hrc]; simp); rw [hrc] at this; exact this, hstop _ c pre _ (Nat.le_refl _) hSp (hIx c _ _ _ hi (Turn.put (by omega) hl rfl)) ((World.putObj_heap_other (by omega)).trans hk)⟩
end Go.Proofs.YtkkiglagdojnlaaGreatDoor
