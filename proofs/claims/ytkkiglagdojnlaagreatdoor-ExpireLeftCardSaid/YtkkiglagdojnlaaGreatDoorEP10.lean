/- Texts of the proof, part 10. -/
import Derived.Deep.CutBlock
import Derived.Deep.DeepCutAuto
import Derived.Deep.CutRange
import Derived.Test.YtkkiglagdojnlaaGreatDoorEP9
set_option linter.unusedVariables false
set_option linter.unusedSimpArgs false
/- expire.Pick: the walk. -/
namespace Go.Proofs.YtkkiglagdojnlaaGreatDoor

open Go.RowKit Go.Shelf Go.Sort

/-- what was taken for the quota, and what is left to look at. -/
theorem over_step {quota s : Int} {y : Ey} {R : List Ey} (h : ¬ s ≤ quota) : overL quota s (y :: R) = y :: overL quota (s - y.size) R := by
  conv => lhs; unfold overL
  rw [if_neg h]
theorem over_stop {quota s : Int} {R : List Ey} (h : s ≤ quota) : overL quota s R = [] := by
  cases R with
  | nil => rfl
  | cons y R => unfold overL; rw [if_pos h]
theorem restL_eq (now age : Int) (l : List Ey) : pkR now age l ++ pkD now age l = restL now age l := rfl
theorem sum_rest (now age : Int) (l : List Ey) : pkS now age l = sumE (restL now age l) := by unfold pkS; rw [← restL_eq, sumE_app]
theorem pickF_eq {l : List Ey} {now age quota : Int} (h : ¬ (now < 0 ∨ age < 0 ∨ quota < 0)) : pickF l now age quota = pkO now age (isort ltE l) ++ overL quota (sumE (restL now age (isort ltE l))) (restL now age (isort ltE l)) := if_neg h
theorem rest_len (now age : Int) (l : List Ey) : (restL now age l).length ≤ l.length := by
  rw [(restL_perm now age l).length_eq]
  exact List.length_filter_le _ _
theorem rest_mem {now age : Int} {l : List Ey} : ∀ y ∈ restL now age l, y ∈ l := fun y hy => (List.mem_filter.1 ((restL_perm now age l).mem_iff.1 hy)).1
/-- a list of entries, told. -/
def EyRes (w' : World) (e : Ending) (l : List Ey) : Prop := ∃ a c, e = .returned (.slice a l.length c) ∧ SliceAt w' 6 eyQ a l.length c l
theorem OEy.res {w : World} {base : Nat} {v : Value} {l : List Ey} (h : OEy w base v l) : EyRes w (.returned v) l := by
  obtain ⟨a, c, rfl, -⟩ := own_form h
  exact ⟨a, c, rfl, h.at⟩
theorem eyRes_nil (w : World) : EyRes w (.returned (.slice none 0 0)) [] := (OEy.nil w 0).res
set_option maxRecDepth 100000 in
set_option maxHeartbeats 4000000 in
theorem pick_early (a : Option Addr) (n c : Nat) (now age quota : Int) (h : now < 0 ∨ age < 0 ∨ quota < 0) (w : World) :
    Calls Tryz.prog 24 #[.slice a n c, .int .i64 now, .int .i64 age, .int .i64 quota] w fun e w' => e = .returned (.slice none 0 0) ∧ Below w.heap.size w w' := by
  by_cases h1 : now < 0
  · go_enter Tryz.func24, Tryz.ntmps24
    go_wp2_with fail
    go_ret
    exact ⟨rfl, Below.refl _ _⟩
  · by_cases h2 : age < 0
    · go_enter Tryz.func24, Tryz.ntmps24
      go_wp2_with fail
      go_ret
      exact ⟨rfl, Below.refl _ _⟩
    · have h3 : quota < 0 := by omega
      go_enter Tryz.func24, Tryz.ntmps24
      go_wp2_with fail
      go_ret
      exact ⟨rfl, Below.refl _ _⟩
set_option maxRecDepth 100000 in
set_option maxHeartbeats 8000000 in
theorem pick_any (l : List Ey) (a : Option Addr) (n c : Nat) (w : World) (he : SliceAt w 6 eyQ a n c l) (hn : n ≤ 30) (hs : SzOk l) (now age quota : Int) (hnow : now ≤ 9223372036854775807) :
    Calls Tryz.prog 24 #[.slice a n c, .int .i64 now, .int .i64 age, .int .i64 quota] w fun e w' => EyRes w' e (pickF l now age quota) ∧ Below w.heap.size w w' := by
  by_cases h0 : now < 0 ∨ age < 0 ∨ quota < 0
  · refine (pick_early a n c now age quota h0 w).mono ?_
    rintro e w' ⟨rfl, hb⟩
    have : pickF l now age quota = [] := if_pos h0
    rw [this]
    exact ⟨eyRes_nil w', hb⟩
  have hl := he.1
  have HP := Lib.hid (pickF_eq (l := l) h0)
  generalize pickF l now age quota = out at HP ⊢
  have h1 : ¬ now < 0 := fun h => h0 (.inl h)
  have h2 : ¬ age < 0 := fun h => h0 (.inr (.inl h))
  have h3 : ¬ quota < 0 := fun h => h0 (.inr (.inr h))
  have HC := Lib.hid (eyclone_any l a n c w he (by omega))
  have hperm := isort_perm ltE l
  have hLl : (isort ltE l).length = n := (isort_len l).trans hl
  have hLs : SzOk (isort ltE l) := hs.sub fun y hy => hperm.mem_iff.1 hy
  have HS := Lib.hid (fun (g c2 : Nat) W (hO : OEy W w.heap.size (.slice (some ⟨g, 0, none⟩) n c2) l) => so_sort (blk := g) (off := 0) c2 l.toArray W hO.holds.1 hO.holds.2 (by simp; omega))
  have HSf := Lib.hid (fun (g c2 : Nat) W W1 (d : Array Ey) (hO : OEy W w.heap.size (.slice (some ⟨g, 0, none⟩) n c2) l) (hb : Below w.heap.size w W) (hc : n ≤ c2) (hc2 : c2 ≤ 9223372036854775807) (hk : SWK eyC 6 W g 0 d W1) (hd : d.toList = isort ltE l) (hd2 : d.size = l.toArray.size) => show SliceAt W1 6 eyQ (some ⟨g, 0, none⟩) n c2 (isort ltE l) ∧ Below w.heap.size w W1 from
    ⟨by rw [← hd]; exact holds_at (hk.holds hO.holds.2 hO.holds.1 (by rw [hd2])) (hk.lt hO.holds.2) (by rw [hd2]; simpa using hl) hc hc2, hb.trans (swk_below hk (hO.lt rfl).1 hb.size)⟩)
  have hsz : l.toArray.size = n := by simpa using hl
  rw [hsz] at HS HSf
  have HN := Lib.hid (fun (h : l = []) => show isort ltE l = [] by rw [h]; rfl)
  generalize isort ltE l = L at HP hLl hLs HS HSf HN
  have HZ := Lib.hid hLs
  have HOld := Lib.hid (fun (y : Ey) (hy : y.date ≤ 9223372036854775807) W => expOld_any y now age (by omega) hnow hy (by omega) W)
  have HNl := Lib.hid (fun (h : l = []) => show n = 0 by rw [← hl, h]; rfl)
  clear he hl hs hperm hLs h0 hsz
  go_enter Tryz.func24, Tryz.ntmps24
  go_wp2_with fail
  refine HC.out.mono ?_
  rintro e w1 ⟨⟨rfl, hnil⟩ | ⟨g, c2, rfl, hO, hc2, hnc⟩, hb1⟩
  · have HB := Lib.hid hb1
    have HE := Lib.hid (show out = [] by rw [HP.out, HN.out hnil]; rfl)
    have HSn := Lib.hid so_sort0
    obtain ⟨i0, hi, -⟩ := info_parts ey_info
    have hrun := step_app_nil (w := w1) (base := 0) (sz := 6) (n := 0) (xs := []) 56 Tryz.underlying56 hi (World.ownsRow_nil _ _ _ _) none 0
    clear hnil hb1 hi
    go_wp2_with fail
    refine (HSn.out _).mono ?_
    rintro e w2 ⟨rfl, rfl⟩
    go_wp2_with fail
    refine wp_loop_rounds 1 ?_
    rw [rounds_succ]
    go_wp2_with (at_builtin; refine wpList_app_run rfl rfl rfl rfl hrun ?_)
    refine wp_loop_rounds 1 ?_
    rw [rounds_succ]
    go_wp2_with fail
    go_ret
    exact ⟨by rw [HE.out]; exact eyRes_nil _, HB.out⟩
  · have HO := Lib.hid hO
    have HB := Lib.hid hb1
    have HSo := Lib.hid (HS.out g c2 w1 hO)
    clear hO hb1
    go_wp2_with fail
    refine HSo.out.mono ?_
    rintro e W1 ⟨rfl, d, hk, hd, hd2⟩
    have HL := Lib.hid (HSf.out g c2 w1 W1 d HO.out HB.out hnc hc2 hk hd hd2)
    have HPk := Lib.hid (PkA.start W1)
    clear hk hd hd2
    go_wp2_with fail
    go_loopw [9, 10, 11, 12, 33] (fun t9 t10 t11 t12 t33 wr => ∃ i : Nat, i ≤ n ∧ t33 = .int .i64 i ∧ t12 = .int .i64 (pkS now age (L.take i)) ∧ Hid (PkA W1 wr t9 t10 t11 (pkO now age (L.take i)) (pkR now age (L.take i)) (pkD now age (L.take i)))) (fun _ _ _ _ t33 _ => n - (intOf t33).toNat)
    case atStart => exact ⟨0, Nat.zero_le _, rfl, by simp [pkS, pkR, pkD, sumE_nil], by rw [List.take_zero]; exact HPk.out⟩
    case round =>
      obtain ⟨i, hi, rfl, rfl, HA⟩ := hrel
      have hsb := pkS_bd (now := now) (age := age) HZ.out (by omega) i
      have hln := pk_len now age L i (by omega)
      by_cases hlt : i < n
      · have hiL : i < L.length := by omega
        obtain ⟨y0, y1, y2, y3, y4, y5⟩ := eys_six (HL.out.1.below HA.out.b (Nat.le_refl _)) i hiL
        simp only [Nat.zero_add] at y0 y1 y2 y3 y4 y5
        have hT := take_next hiL
        have hyz := HZ.out L[i] (List.getElem_mem _)
        generalize L[i] = y at y0 y1 y2 y3 y4 y5 hT hyz
        obtain ⟨hst1, hst2, hst3⟩ := pk_step now age (L.take i) y
        rw [← hT] at hst1 hst2 hst3
        have HT1 := Lib.hid hst1
        have HT2 := Lib.hid hst2
        have HT3 := Lib.hid hst3
        have hwa : IntKind.i64.wrap (pkS now age (L.take i) + y.size) = pkS now age (L.take i) + y.size := by rw [IntKind.wrap_i64]; omega
        have HY := Lib.hid (HOld.out y hyz.2.2)
        have HA2 := Lib.hid (HA.out.keep ((Below.refl _ wr).alloc (Nat.le_refl _) (.cells #[.string y.can, .string y.name, .string y.path, .int .i64 y.date, .int .i64 y.size, .bool y.good] 23)))
        have hYB := Blk.new wr #[.string y.can, .string y.name, .string y.path, .int .i64 y.date, .int .i64 y.size, .bool y.good] 23
        generalize pkO now age (L.take i) = po at HA HA2 HT1 HT2 HT3 hln
        generalize pkR now age (L.take i) = pr at HA HA2 HT1 HT2 HT3 hln
        generalize pkD now age (L.take i) = pd at HA HA2 HT1 HT2 HT3 hln
        obtain ⟨s, hse⟩ : ∃ s, pkS now age (L.take i) = s := ⟨_, rfl⟩
        rw [hse] at hwa hsb HT1 HT2 HT3 ⊢
        clear hT hst1 hst2 hst3 hse
        go_upto_region 11 with fail
        clear y0 y1 y2 y3 y4 y5
        generalize wr.alloc (.cells #[.string y.can, .string y.name, .string y.path, .int .i64 y.date, .int .i64 y.size, .bool y.good] 23) = Wa at HA2 hYB ⊢
        have HYB := Lib.hid hYB
        obtain ⟨bc, bf, bz⟩ := hYB.facts
        clear hYB
        go_wp2_with fail
        refine (HY.out _).mono ?_
        rintro e w5 ⟨rfl, hb5⟩
        have HA3 := Lib.hid (HA2.out.keep hb5)
        have hYB := HYB.out.keep hb5
        have HYB5 := Lib.hid hYB
        clear hb5 bc bf bz
        obtain ⟨bc, bf, bz⟩ := hYB.facts
        clear hYB
        cases hob : oldB now age y with
        | true =>
          obtain ⟨g2, cp, W6, hrun, hA6, -⟩ := HA3.out.pushO y hln.1
          have HA6 := Lib.hid hA6
          obtain ⟨e1, e2, e3, e4⟩ := HT1.out hob
          have HE := Lib.hid (And.intro e1 (And.intro e2 (And.intro e3 e4)))
          clear hA6 hob e1 e2 e3 e4
          go_wp2_with (at_builtin; refine wpList_app_run rfl rfl rfl rfl hrun ?_)
          go_roundw
          case measure => simp [intOf]; omega
          case rel => exact ⟨i + 1, by omega, by go_num, by rw [HE.out.2.2.2], by rw [HE.out.1, HE.out.2.1, HE.out.2.2.1]; exact HA6.out⟩
        | false =>
          by_cases hdt : 0 ≤ y.date
          · have hdz : ¬ y.date < 0 := by omega
            obtain ⟨g2, cp, W6, hrun, hA6, hM6⟩ := HA3.out.pushR y hln.2.1
            have hYB6 := HYB5.out.mod hM6 (fun hk => Nat.lt_irrefl _ (HA.out.r.lt hk).2)
            have HA6 := Lib.hid hA6
            obtain ⟨e1, e2, e3, e4⟩ := HT2.out hob hdt
            have HE := Lib.hid (And.intro e1 (And.intro e2 (And.intro e3 e4)))
            clear hA6 hob e1 e2 e3 e4
            obtain ⟨zc, zf, zz⟩ := hYB6.facts
            clear hYB6 hM6
            go_wp2_with (at_builtin; refine wpList_app_run rfl rfl rfl rfl hrun ?_)
            go_roundw
            case measure => simp [intOf]; omega
            case rel => exact ⟨i + 1, by omega, by go_num, by rw [HE.out.2.2.2], by rw [HE.out.1, HE.out.2.1, HE.out.2.2.1]; exact HA6.out⟩
          · have hdz : y.date < 0 := by omega
            obtain ⟨g2, cp, W6, hrun, hA6, hM6⟩ := HA3.out.pushD y hln.2.2
            have hYB6 := HYB5.out.mod hM6 (fun hk => Nat.lt_irrefl _ (HA.out.d.lt hk).2)
            have HA6 := Lib.hid hA6
            obtain ⟨e1, e2, e3, e4⟩ := HT3.out hob (by omega)
            have HE := Lib.hid (And.intro e1 (And.intro e2 (And.intro e3 e4)))
            clear hA6 hob e1 e2 e3 e4
            obtain ⟨zc, zf, zz⟩ := hYB6.facts
            clear hYB6 hM6
            go_wp2_with (at_builtin; refine wpList_app_run rfl rfl rfl rfl hrun ?_)
            go_roundw
            case measure => simp [intOf]; omega
            case rel => exact ⟨i + 1, by omega, by go_num, by rw [HE.out.2.2.2], by rw [HE.out.1, HE.out.2.1, HE.out.2.2.1]; exact HA6.out⟩
      · have hin : i = n := by omega
        subst hin
        have hTk : L.take i = L := List.take_of_length_le (by omega)
        rw [hTk] at HA hln hsb ⊢
        obtain ⟨ja, jc, W6, hrun, hA6⟩ := HA.out.join hln.2.1 hln.2.2
        rw [restL_eq] at hrun hA6
        have HA6 := Lib.hid hA6
        have hrl := rest_len now age L
        have HRs := Lib.hid (HZ.out.sub (fun y (hy : y ∈ restL now age L) => rest_mem y hy))
        have HSm := Lib.hid (sum_rest now age L)
        have HPo := Lib.hid (show (pkO now age L).length ≤ 30 from Nat.le_trans (List.length_filter_le _ _) (by omega))
        generalize restL now age L = Rl at hrun HA6 hrl HRs HP HSm
        generalize pkO now age L = po at HA HA6 HP HPo hln
        generalize pkS now age L = s0 at HSm hsb ⊢
        rw [← HSm.out] at HP
        clear hA6 hTk HN hln
        go_wp2_with (at_builtin; refine wpList_app_run rfl rfl rfl rfl hrun ?_)
        go_loopw [9, 12, 67] (fun t9 t12 t67 wr => ∃ (j : Nat) (s : Int), j ≤ Rl.length ∧ t67 = .int .i64 j ∧ t12 = .int .i64 s ∧ -1125899906842624 ≤ s ∧ s ≤ 67553994410557440 ∧ Hid (PkA W1 wr t9 (.slice ja Rl.length jc) (.slice none 0 0) (po ++ Rl.take j) Rl []) ∧ Hid (overL quota s0 Rl = Rl.take j ++ overL quota s (Rl.drop j))) (fun _ _ t67 _ => Rl.length - (intOf t67).toNat)
        case atStart => exact ⟨0, s0, Nat.zero_le _, rfl, rfl, by omega, by omega, by rw [List.take_zero, List.append_nil]; exact HA6.out, by rw [List.take_zero, List.drop_zero, List.nil_append]; exact rfl⟩
        case round =>
          clear hrun
          obtain ⟨j, s, hj, rfl, rfl, hs1, hs2, HA, HO⟩ := hrel
          by_cases hlt2 : j < Rl.length
          · obtain ⟨b, off, rfl, -⟩ := eys_some HA.out.r.at (by omega)
            obtain ⟨y0, y1, y2, y3, y4, y5⟩ := eys_six HA.out.r.at j hlt2
            obtain rfl : off = 0 := by
              obtain ⟨a3, c3, e3, -, -, h3⟩ := own_form HA.out.r
              injection e3 with e3
              rcases h3 with ⟨h3, -⟩ | ⟨g3, h3, -⟩
              · rw [← e3] at h3; cases h3
              · rw [← e3] at h3; injection h3 with h3; injection h3
            simp only [Nat.zero_add] at y0 y1 y2 y3 y4 y5
            have hT := take_next hlt2
            have hD := List.drop_eq_getElem_cons hlt2
            have hyz := HRs.out Rl[j] (List.getElem_mem _)
            generalize Rl[j] = y at y0 y1 y2 y3 y4 y5 hT hD hyz
            have HT := Lib.hid (And.intro hT hD)
            have hlo : (po ++ Rl.take j).length ≤ 2000 := by rw [List.length_append, List.length_take]; have := HPo.out; omega
            have HA2 := Lib.hid (HA.out.keep ((Below.refl _ wr).alloc (Nat.le_refl _) (.cells #[.string y.can, .string y.name, .string y.path, .int .i64 y.date, .int .i64 y.size, .bool y.good] 23)))
            have hYB := Blk.new wr #[.string y.can, .string y.name, .string y.path, .int .i64 y.date, .int .i64 y.size, .bool y.good] 23
            clear hT hD
            by_cases hq : s ≤ quota
            · have HE := Lib.hid (show out = po ++ Rl.take j by rw [HP.out, HO.out, over_stop hq, List.append_nil])
              go_wp2_with fail
              go_ret
              rw [HE.out]
              exact ⟨HA2.out.o.res, (HL.out.2.trans (HA2.out.b.mono HL.out.2.size))⟩
            · have hwa : IntKind.i64.wrap (s - y.size) = s - y.size := by rw [IntKind.wrap_i64]; omega
              obtain ⟨g2, cp, W7, hrun, hA7, -⟩ := HA2.out.pushO y hlo
              have HA7 := Lib.hid hA7
              have HO2 := Lib.hid (show overL quota s0 Rl = Rl.take (j + 1) ++ overL quota (s - y.size) (Rl.drop (j + 1)) by rw [HO.out, HT.out.2, over_step hq, HT.out.1, List.append_assoc]; rfl)
              go_upto_region 20 with fail
              clear y0 y1 y2 y3 y4 y5 hA7
              generalize wr.alloc (.cells #[.string y.can, .string y.name, .string y.path, .int .i64 y.date, .int .i64 y.size, .bool y.good] 23) = Wa at hYB hrun ⊢
              obtain ⟨bc, bf, bz⟩ := hYB.facts
              clear hYB
              go_wp2_with (at_builtin; refine wpList_app_run rfl rfl rfl rfl hrun ?_)
              go_roundw
              case measure => simp [intOf]; omega
              case rel => exact ⟨j + 1, s - y.size, by omega, by go_num, rfl, by omega, by omega, by rw [HT.out.1, ← List.append_assoc]; have h := HA7.out; rw [List.length_append, List.length_take, Nat.min_eq_left (by omega)] at h; exact h, HO2.out⟩
          · obtain rfl : j = Rl.length := by omega
            have HE := Lib.hid (show out = po ++ Rl.take Rl.length by rw [HP.out, HO.out, List.drop_length]; simp [overL])
            go_wp2_with fail
            go_ret
            rw [HE.out]
            exact ⟨HA.out.o.res, (HL.out.2.trans (HA.out.b.mono HL.out.2.size))⟩
end Go.Proofs.YtkkiglagdojnlaaGreatDoor

/- The reference's Ahead and Sort (layer 30). -/
namespace Go.Proofs.YtkkiglagdojnlaaGreatDoor

open Go.RowKit Go.Shelf Go.Sort

set_option maxRecDepth 100000 in
set_option maxHeartbeats 1000000 in
theorem ahead_any (x y : Ey) (w : World) : Calls Tryz.prog 8 #[.agg #[.string x.can, .string x.name, .string x.path, .int .i64 x.date, .int .i64 x.size, .bool x.good], .agg #[.string y.can, .string y.name, .string y.path, .int .i64 y.date, .int .i64 y.size, .bool y.good]] w fun e w' => e = .returned (.bool (aheadB x y)) ∧ Below w.heap.size w w' := by
  obtain ⟨x1, x2, x3, x4, x5, x6⟩ := x
  obtain ⟨y1, y2, y3, y4, y5, y6⟩ := y
  have HE := Lib.hid (show aheadB ⟨x1, x2, x3, x4, x5, x6⟩ ⟨y1, y2, y3, y4, y5, y6⟩ = if x4 ≠ y4 then decide (x4 < y4) else if x2.size ≠ y2.size then decide (x2.size < y2.size) else if x2 ≠ y2 then ltB x2 y2 else ltB x1 y1 from rfl)
  generalize aheadB ⟨x1, x2, x3, x4, x5, x6⟩ ⟨y1, y2, y3, y4, y5, y6⟩ = r at HE ⊢
  by_cases h4 : x4 = y4
  · have h4' : (x4 != y4) = false := by simpa using h4
    have HE1 := Lib.hid (HE.out.trans (if_neg (by simpa using h4)))
    clear h4
    by_cases h2 : x2.size = y2.size
    · have h2' : ((x2.size : Int) != (y2.size : Int)) = false := by rw [h2]; simp
      have HE2 := Lib.hid (HE1.out.trans (if_neg (by simpa using h2)))
      clear h2
      by_cases h3 : x2 = y2
      · have HE3 := Lib.hid (HE2.out.trans (if_neg (by simpa using h3)))
        subst h3
        go_enter Tryz.func8, Tryz.ntmps8
        go_wp2_with fail
        go_ret
        exact ⟨by rw [HE3.out, ← ltB_mk]; rfl, balloc (balloc (Below.refl _ _) _) _⟩
      · have h3b : (x2.toList == y2.toList) = false := by rw [ba_beq]; exact decide_eq_false h3
        have h3' : ¬ x2.toList = y2.toList := fun h => h3 (by have := ba_beq x2 y2; rw [h] at this; simpa using this.symm)
        have HE3 := Lib.hid (HE2.out.trans (if_pos h3))
        clear h3
        go_enter Tryz.func8, Tryz.ntmps8
        go_wp2_with fail
        go_ret
        exact ⟨by rw [HE3.out, ← ltB_mk]; rfl, balloc (balloc (Below.refl _ _) _) _⟩
    · have h2' : ((x2.size : Int) != (y2.size : Int)) = true := by rw [bne_iff_ne]; omega
      have HE2 := Lib.hid (HE1.out.trans (if_pos h2))
      have HD := Lib.hid (show decide ((x2.size : Int) < (y2.size : Int)) = decide (x2.size < y2.size) by simp)
      clear h2
      go_enter Tryz.func8, Tryz.ntmps8
      go_wp2_with fail
      go_ret
      exact ⟨by rw [HE2.out, ← HD.out]; rfl, balloc (balloc (Below.refl _ _) _) _⟩
  · have h4' : (x4 != y4) = true := by simpa using h4
    have HE1 := Lib.hid (HE.out.trans (if_pos h4))
    clear h4
    go_enter Tryz.func8, Tryz.ntmps8
    go_wp2_with fail
    go_ret
    exact ⟨by rw [HE1.out]; rfl, balloc (balloc (Below.refl _ _) _) _⟩
set_option maxRecDepth 100000 in
/-- part of a row behind another one. -/
theorem OEy.part {w : World} {base base2 g n c : Nat} {v : Value} {l A : List Ey} (h : OEy w base v l) (h2 : OEy w base2 (.slice (some ⟨g, 0, none⟩) n c) A) (lo cnt c2 : Nat) (hlo : lo + cnt ≤ A.length) (hl : l.length ≤ 2000) (hA : A.length ≤ 2000) (hb : base ≤ w.heap.size) :
    ∃ a' c' W, (Builtin.append_ #[56, 56] 56 #[v, .slice (some ⟨g, lo * 6, none⟩) cnt c2]).run Tryz.prog w = .ok (.slice a' (l.length + cnt) c') W ∧ OEy W base (.slice a' (l.length + cnt) c') (l ++ (A.drop lo).take cnt) ∧ Mod (fun k => v.ownBlock = some k) w W ∧ (∀ k, (Value.slice a' (l.length + cnt) c').ownBlock = some k → v.ownBlock = some k ∨ w.heap.size ≤ k) := by
  obtain ⟨i0, hi, hz0, hz1, hz2⟩ := info_parts ey_info
  have hn : A.length = n := by
    obtain ⟨a, cap, e, -⟩ := own_form h2
    injection e with _ e _
    exact e.symm
  rcases Nat.eq_zero_or_pos cnt with rfl | hpos
  · obtain ⟨a, c3, hv, -⟩ := own_form h
    subst hv
    refine ⟨a, c3, w, step_app_nil (base := base) (sz := 6) (n := l.length) (xs := l.flatMap eyC) 56 Tryz.underlying56 hi h _ _, ?_, Mod.refl _ _, fun k hk => .inl hk⟩
    rw [List.take_zero, List.append_nil]
    exact h
  · have hlen : ((A.drop lo).take cnt).length = cnt := by rw [List.length_take, List.length_drop]; omega
    subst hn
    obtain ⟨g2, cap, W, k1, k2, k3, k4⟩ := step_app 56 Tryz.underlying56 hi hz0 hz1 hz2 rfl (by omega) h ⟨g, lo * 6, none⟩ cnt c2 (((A.drop lo).take cnt).flatMap eyC) (by rw [flat_len eyC_len, hlen]) (own_part (enc := eyC) (by omega) eyC_len h2 lo cnt hlo) (eyC_ones _) hpos (by unfold maxLen; omega) (by omega) hb
    refine ⟨some ⟨g2, 0, none⟩, cap, W, k1, ?_, k3, fun k hk => ?_⟩
    · unfold OEy
      rw [List.length_append, List.flatMap_append, hlen]
      exact k2
    · simp only [Value.ownBlock, Option.some.injEq] at hk
      subst hk
      exact k4.imp id (fun h => Nat.le_of_eq h.symm)
end Go.Proofs.YtkkiglagdojnlaaGreatDoor

/- The reference's Sort (layer 30): the walk. -/
namespace Go.Proofs.YtkkiglagdojnlaaGreatDoor

open Go.RowKit Go.Shelf Go.Sort

theorem OEy.base {w : World} {b b2 : Nat} {v : Value} {l : List Ey} (h : OEy w b v l) (hb : b2 ≤ b) : OEy w b2 v l :=
  ⟨h.1, h.2.imp id fun ⟨g, cap, cur, h1, h2, h3⟩ => ⟨g, cap, cur, h1, Nat.le_trans hb h2, h3⟩⟩
theorem isort_put {L : List Ey} {y : Ey} {k : Nat} (hk : k ≤ (isort ltE L).length) (h1 : 0 < k → ltE y (isort ltE L)[k - 1]! = false) (h2 : k < (isort ltE L).length → ltE y (isort ltE L)[k]! = true) :
    isort ltE (L ++ [y]) = (isort ltE L).take k ++ [y] ++ (isort ltE L).drop k := by
  rw [isort_snoc]
  refine mrg_one_right ltE_swo (isort_srt ltE_swo L) hk (fun h0 => ?_) (fun h => ?_)
  · have := h1 h0
    rwa [getElem!_pos (isort ltE L) (k - 1) (by omega)] at this
  · have := h2 h
    rwa [getElem!_pos (isort ltE L) k h] at this
set_option maxRecDepth 100000 in
set_option maxHeartbeats 8000000 in
theorem rsort_any (l : List Ey) (a : Option Addr) (n c : Nat) (w : World) (he : SliceAt w 6 eyQ a n c l) (hn : n ≤ 30) :
    Calls Tryz.prog 53 #[.slice a n c] w fun e w' => (∃ v, e = .returned v ∧ OEy w' w.heap.size v (isort ltE l)) ∧ Below w.heap.size w w' := by
  have hl := he.1
  have HL := Lib.hid he
  have HAh := Lib.hid (fun x y w => ahead_any x y w)
  clear he
  go_enter Tryz.func53, Tryz.ntmps53
  go_wp2_with fail
  go_loopw [3, 4] (fun t3 t4 wr => ∃ i : Nat, i ≤ n ∧ t4 = .int .i64 i ∧ Hid (OEy wr w.heap.size t3 (isort ltE (l.take i))) ∧ Hid (Below w.heap.size w wr)) (fun _ t4 _ => n - (intOf t4).toNat)
  case atStart => exact ⟨0, Nat.zero_le _, rfl, by rw [List.take_zero]; exact OEy.nil _ _, Below.refl _ _⟩
  case round =>
    obtain ⟨i, hi, rfl, HO, HB⟩ := hrel
    by_cases hlt : i < n
    · have hiL : i < l.length := by omega
      obtain ⟨b, off, rfl, hbz⟩ := eys_some HL.out (by omega)
      have HBz := Lib.hid hbz
      clear hbz
      have hT := take_next hiL
      have hlen : (isort ltE (l.take i)).length = i := by rw [isort_len, List.length_take]; omega
      have HC := Lib.hid (fun w1 (hb : Below w.heap.size w w1) => eys_six (HL.out.below hb (Nat.le_refl _)) i hiL)
      generalize l[i] = y at hT HC
      have HP := Lib.hid (fun k hk h1 h2 => isort_put (L := l.take i) (y := y) (k := k) hk h1 h2)
      rw [← hT] at HP
      generalize isort ltE (l.take i) = A at HO hlen HP
      obtain ⟨A2, hA2⟩ : ∃ x, isort ltE (l.take (i + 1)) = x := ⟨_, rfl⟩
      rw [hA2] at HP
      have HA2e := Lib.hid hA2
      clear hA2
      obtain ⟨oa, oc, hv, hoc, hoc2, hform⟩ := own_form HO.out
      subst hv
      rw [hlen] at hoc hform
      have HOc := Lib.hid (fun w1 (hb : Below wr.heap.size wr w1) (hpos : 0 < A.length) => (HO.out.keep hb))
      clear hT
      rw [hlen] at HO HOc ⊢
      have HF := Lib.hid (And.intro hoc (And.intro hoc2 hform))
      have hi63 : (i : Int) ≤ 30 := by omega
      clear hform
      go_upto_block 2 with fail
      go_cut [5] from 7 to 48 (fun t5 wx => ∃ k : Nat, k ≤ i ∧ t5 = .int .i64 k ∧ Hid ((0 < k → ltE y A[k - 1]! = false) ∧ (k < i → ltE y A[k]! = true)) ∧ Hid (Below wr.heap.size wr wx))
      case first =>
        go_wp2_with fail
        go_loopw [5] (fun t5 wx => ∃ k : Nat, k ≤ i ∧ t5 = .int .i64 k ∧ Hid (k < i → ltE y A[k]! = true) ∧ Hid (Below wr.heap.size wr wx)) (fun t5 _ => (intOf t5).toNat)
        case atStart => exact ⟨i, Nat.le_refl _, rfl, fun h => absurd h (Nat.lt_irrefl _), Below.refl _ _⟩
        case round =>
          obtain ⟨k, hk, rfl, HK, HB2⟩ := hrel
          have mixed : Tryz.prog.follows .mixedOrders = true := by kernel_rfl
          by_cases hk0 : k = 0
          · subst hk0
            go_wp2_with fail
            go_quiet (fail)
            go_wp2_with fail
            go_meet
            exact ⟨0, Nat.zero_le _, rfl, ⟨fun h => absurd h (Nat.lt_irrefl _), HK.out⟩, ⟨HB2.out.os, HB2.out.tape, HB2.out.output, HB2.out.size, HB2.out.block⟩⟩
          · obtain ⟨p, rfl⟩ : ∃ p, k = p + 1 := ⟨k - 1, by omega⟩
            have hdp : decide ((p : Int) + 1 > 0) = true := decide_eq_true (by omega)
            have hpz : (0 : Int) < (p : Int) + 1 := by omega
            have hzz : (((p + 1 : Nat)) : Int) = (p : Int) + 1 := by omega
            have hwp : IntKind.i64.wrap ((p : Int) + 1 - 1) = (p : Int) := by rw [IntKind.wrap_i64]; omega
            have hwp2 : IntKind.i64.wrap (p : Int) = (p : Int) := by rw [IntKind.wrap_i64]; omega
            have hp0 : (0 : Int) ≤ (p : Int) := by omega
            have hpi : (p : Int) < (i : Int) := by omega
            have hin : (i : Int) < (n : Int) := by omega
            obtain ⟨ga, rfl⟩ : ∃ ga, oa = some ⟨ga, 0, none⟩ := by
              rcases HF.out.2.2 with ⟨-, h, -⟩ | ⟨g, h, -⟩
              · omega
              · exact ⟨g, h⟩
            obtain ⟨c0, c1, c2, c3, c4, c5⟩ := HC.out _ (HB.out.trans (HB2.out.mono HB.out.size))
            have hA := HO.out.keep HB2.out
            rw [← hlen] at hA
            obtain ⟨z0, z1, z2, z3, z4, z5⟩ := eys_six hA.at p (by omega)
            simp only [Nat.zero_add] at z0 z1 z2 z3 z4 z5
            have HZ := Lib.hid (show ltE y A[p] = ltE y A[p + 1 - 1]! by rw [Nat.add_sub_cancel, getElem!_pos A p (by omega)])
            generalize A[p] = z at z0 z1 z2 z3 z4 z5 HZ
            have HAc := Lib.hid (fun w => HAh.out y z w)
            have HLt := Lib.hid (ltE_ahead y z)
            have HBx := Lib.hid HB2.out
            have hgz := (hA.lt (k := ga) rfl).2
            have hbz : b < wr.heap.size := by have := (HB.out.trans (HB2.out.mono HB.out.size)).size; have := HBz.out; omega
            clear hA
            go_wp2_with fail
            have hyy : wr.heap.size ≤ wr.heap.size := Nat.le_refl _
            go_region_held3 (fun w' => (∀ b o, b < wr.heap.size → w'.cell? ⟨b, o, none⟩ = wr.cell? ⟨b, o, none⟩) ∧ Below wr.heap.size wr w') (first | with_reducible assumption | with_reducible exact keepS_here _ | with_reducible exact keepS_here2 _ | with_reducible exact keepS_call (by assumption) (by assumption) | with_reducible exact keepS_alloc (by assumption) _ | with_reducible exact keepS_allocD (by assumption) _ | with_reducible exact keepS_realloc (by assumption) (by assumption) | with_reducible exact keepS_set4 (by assumption) (by assumption))
              (first | (go_at_call 8; ((with_reducible refine (HAc.out _).mono ?_); rintro e w4 ⟨rfl, hb4⟩)))
            all_goals
              obtain ⟨-, hS4⟩ := ‹_ ∧ Below wr.heap.size wr _›
              have HS4 := Lib.hid (HBx.out.trans (hS4.mono HBx.out.size))
              clear hS4
              cases hab : aheadB y z with
              | true =>
                have HV := Lib.hid (show ltE y A[p]! = true by have := HZ.out; rw [HLt.out, hab] at this; exact this.symm)
                clear hab
                go_wp2_with fail
                go_roundw
                case measure => simp [intOf]; try omega
                case rel => exact ⟨p, by omega, by first | rfl | go_num, fun _ => HV.out, HS4.out⟩
              | false =>
                have HV := Lib.hid (show ltE y A[p + 1 - 1]! = false by have := HZ.out; rw [HLt.out, hab] at this; exact this.symm)
                clear hab
                go_wp2_with fail
                go_meet
                exact ⟨p + 1, hk, by first | rfl | go_num, ⟨fun _ => HV.out, HK.out⟩, HS4.out⟩
      case rest =>
        obtain ⟨k, hk, rfl, HK, HB2⟩ := hcut
        have HA2 := Lib.hid (HP.out k (by omega) (fun h => HK.out.1 h) (fun h => HK.out.2 (by omega)))
        have HBW := Lib.hid (HB.out.trans (HB2.out.mono HB.out.size))
        have hin : (i : Int) < (n : Int) := by omega
        have hkz : (k : Int) ≤ (i : Int) := by omega
        rcases HF.out.2.2 with ⟨rfl, hi0, hoc0⟩ | ⟨ga, rfl, -, -⟩
        · subst hi0 hoc0
          obtain rfl : k = 0 := by omega
          obtain rfl : A = [] := List.eq_nil_of_length_eq_zero hlen
          obtain ⟨i0, hii, -⟩ := info_parts ey_info
          have hrun := step_app_nil (w := wc) (base := wc.heap.size) (sz := 6) (n := 0) (xs := []) 56 Tryz.underlying56 hii (World.ownsRow_nil _ _ _ _) none 0
          obtain ⟨g2, cap2, W2, hrun2, o2, m2, -⟩ := (OEy.nil wc wc.heap.size).app y (by decide) (Nat.le_refl _)
          simp only [List.length_nil, Nat.zero_add, List.nil_append] at hrun2 o2
          have hrun3 := step_app_nil (w := W2) 56 Tryz.underlying56 hii (show W2.ownsRow wc.heap.size 23 6 (.slice (some ⟨g2, 0, none⟩) 1 cap2) 1 ([y].flatMap eyC) from o2) none 0
          obtain ⟨c0, c1, c2, c3, c4, c5⟩ := HC.out _ HBW.out
          simp only [Nat.zero_mul, Nat.add_zero] at c0 c1 c2 c3 c4 c5
          have HO2 := Lib.hid (And.intro o2 (m2.below (fun k hk => by cases hk) (Nat.le_refl _)))
          clear o2 m2 hii
          go_upto_region 10 with (at_builtin; refine wpList_app_run rfl rfl rfl rfl hrun ?_)
          clear hrun
          go_upto_region 11 with (at_builtin; refine wpList_app_run rfl rfl rfl rfl hrun2 ?_)
          clear hrun2
          go_wp2_with (at_builtin; refine wpList_app_run rfl rfl rfl rfl hrun3 ?_)
          exact ⟨⟨1, by omega, rfl, by rw [show isort ltE (l.take 1) = [y] from HA2e.out.trans HA2.out]; exact OEy.base HO2.out.1 HBW.out.size, HBW.out.trans (HO2.out.2.mono HBW.out.size)⟩, by simp [intOf]; omega⟩
        · have hA := HO.out.keep HB2.out
          obtain ⟨a1, k1, W1, r1, o1, m1, b1⟩ := OEy.part (OEy.nil wc wc.heap.size) hA 0 k oc (by omega) (by decide) (by omega) (Nat.le_refl _)
          rw [Nat.zero_mul] at r1
          simp only [List.length_nil, Nat.zero_add, List.drop_zero, List.nil_append] at r1 o1 b1
          have hB1 : Below wc.heap.size wc W1 := m1.below (fun k hk => by cases hk) (Nat.le_refl _)
          have hlk : (A.take k).length = k := by rw [List.length_take]; omega
          obtain ⟨g2, k2, W2, r2, o2, m2, b2⟩ := OEy.app o1 y (by omega) hB1.size
          rw [hlk] at r2 o2
          have hB2 : Below wc.heap.size wc W2 := hB1.trans (m2.below (fun j hj => by rcases b1 j hj with h | h; (· cases h); exact h) hB1.size)
          obtain ⟨a3, k3, W3, r3, o3, m3, -⟩ := OEy.part o2 (hA.keep hB2) k (i - k) (oc - k) (by omega) (by rw [List.length_append, hlk]; simp; omega) (by omega) hB2.size
          have hB3 : Below wc.heap.size wc W3 := hB2.trans (m3.below (fun j hj => (o2.lt hj).1) hB2.size)
          have hll : (A.take k ++ [y]).length = k + 1 := by rw [List.length_append, hlk]; rfl
          have hdt : (A.drop k).take (i - k) = A.drop k := List.take_of_length_le (by rw [List.length_drop]; omega)
          rw [hll] at r3 o3
          rw [hdt] at o3
          have hoci := HF.out.1
          have r3b : (Builtin.append_ #[56, 56] 56 #[.slice (some ⟨g2, 0, none⟩) (k + 1) k2, .slice (if oc = k then some ⟨ga, 0, none⟩ else some ⟨ga, k * 6, none⟩) (i - k) (oc - k)]).run Tryz.prog W2 = .ok (.slice a3 (k + 1 + (i - k)) k3) W3 := by
            split
            · rename_i hq
              obtain ⟨i0, hii, -⟩ := info_parts ey_info
              have h0 : i - k = 0 := by omega
              rw [h0] at r3 ⊢
              have ho : W2.ownsRow wc.heap.size 23 6 (.slice (some ⟨g2, 0, none⟩) (k + 1) k2) (A.take k ++ [y]).length ((A.take k ++ [y]).flatMap eyC) := o2
              exact (step_app_nil (w := W2) 56 Tryz.underlying56 hii ho (some ⟨ga, 0, none⟩) (oc - k)).trans ((step_app_nil (w := W2) 56 Tryz.underlying56 hii ho (some ⟨ga, k * 6, none⟩) (oc - k)).symm.trans r3)
            · exact r3
          obtain ⟨c0, c1, c2, c3, c4, c5⟩ := HC.out _ (HBW.out.trans (hB1.mono HBW.out.size))
          have HO3 := Lib.hid (And.intro o3 (HBW.out.trans (hB3.mono HBW.out.size)))
          clear o1 o2 o3 m1 m2 m3 b1 b2 hB1 hB2 hB3 hA
          have hko : (k : Int) ≤ (oc : Int) := by have := HF.out.1; omega
          have hk0 : (0 : Int) ≤ (k : Int) := by omega
          go_upto_region 10 with (at_builtin; refine wpList_app_run rfl rfl rfl rfl r1 ?_)
          clear r1
          go_upto_region 11 with (at_builtin; refine wpList_app_run rfl rfl rfl rfl r2 ?_)
          clear r2 c0 c1 c2 c3 c4 c5
          go_wp2_with (at_builtin; refine wpList_app_run rfl rfl rfl rfl r3b ?_)
          go_roundw
          case measure => simp [intOf]; omega
          case rel => exact ⟨i + 1, by omega, by go_num, by rw [HA2e.out, HA2.out]; exact OEy.base HO3.out.1 HBW.out.size, HO3.out.2⟩
    · have hin : i = n := by omega
      subst hin
      have hTk : l.take i = l := List.take_of_length_le (by omega)
      rw [hTk] at HO
      go_wp2_with fail
      go_ret
      exact ⟨⟨_, rfl, HO.out⟩, HB.out⟩
end Go.Proofs.YtkkiglagdojnlaaGreatDoor

/- The reference's Pick (layer 38). -/
namespace Go.Proofs.YtkkiglagdojnlaaGreatDoor

open Go.RowKit Go.Shelf Go.Sort

set_option maxRecDepth 100000 in
set_option maxHeartbeats 2000000 in
theorem rpick_early (a : Option Addr) (n c : Nat) (now age quota : Int) (h : now < 0 ∨ age < 0 ∨ quota < 0) (w : World) :
    Calls Tryz.prog 25 #[.slice a n c, .int .i64 now, .int .i64 age, .int .i64 quota] w fun e w' => e = .returned (.slice none 0 0) ∧ Below w.heap.size w w' := by
  by_cases h1 : now < 0
  · go_enter Tryz.func25, Tryz.ntmps25
    go_wp2_with fail
    go_ret
    exact ⟨rfl, Below.refl _ _⟩
  · by_cases h2 : age < 0
    · go_enter Tryz.func25, Tryz.ntmps25
      go_wp2_with fail
      go_ret
      exact ⟨rfl, Below.refl _ _⟩
    · have h3 : quota < 0 := by omega
      go_enter Tryz.func25, Tryz.ntmps25
      go_wp2_with fail
      go_ret
      exact ⟨rfl, Below.refl _ _⟩
/-- what the rounds up to (k, i) have taken. -/
def rkO (now age : Int) (L : List Ey) (k i : Nat) : List Ey := if k = 0 then pkO now age (L.take i) else pkO now age L
def rkR (now age : Int) (L : List Ey) (k i : Nat) : List Ey := if k = 0 then [] else if k = 1 then pkR now age (L.take i) else if k = 2 then pkR now age L ++ pkD now age (L.take i) else restL now age L
theorem rk_next (now age : Int) (L : List Ey) (k : Nat) : rkO now age L (k + 1) 0 = rkO now age L k L.length ∧ rkR now age L (k + 1) 0 = rkR now age L k L.length := by
  unfold rkO rkR
  rcases (by omega : k = 0 ∨ k = 1 ∨ k = 2 ∨ 2 < k) with rfl | rfl | rfl | h
  · simp [pkR]
  · simp [pkD]
  · simp [restL_eq]
  · rw [if_neg (by omega), if_neg (by omega), if_neg (by omega), if_neg (by omega), if_neg (by omega), if_neg (by omega), if_neg (by omega), if_neg (by omega)]
    exact ⟨rfl, rfl⟩
/-- does entry y go into a row in round k? -/
def rkA (now age : Int) (k : Nat) (y : Ey) : Bool := decide (k = 0) && oldB now age y
def rkB (now age : Int) (k : Nat) (y : Ey) : Bool := (decide (k = 1) && !oldB now age y && decide (0 ≤ y.date)) || (decide (k = 2) && decide (y.date < 0))
theorem rk_step (now age : Int) (L : List Ey) (k i : Nat) (hi : i < L.length) (hk : k < 3) :
    rkO now age L k (i + 1) = rkO now age L k i ++ (if rkA now age k L[i] = true then [L[i]] else []) ∧ rkR now age L k (i + 1) = rkR now age L k i ++ (if rkB now age k L[i] = true then [L[i]] else []) := by
  obtain ⟨s1, s2, s3⟩ := pk_step now age (L.take i) L[i]
  have hT := take_next hi
  rw [← hT] at s1 s2 s3
  unfold rkO rkR rkA rkB
  cases ho : oldB now age L[i] with
  | true =>
    have hd : 0 ≤ L[i].date := by
      unfold oldB at ho
      simp only [Bool.and_eq_true, decide_eq_true_eq] at ho
      exact ho.1
    obtain ⟨e1, e2, e3, -⟩ := s1 ho
    rcases (by omega : k = 0 ∨ k = 1 ∨ k = 2) with rfl | rfl | rfl
    · simp [e1]
    · simp [e2]
    · simp [e3]
      omega
  | false =>
    by_cases hd : 0 ≤ L[i].date
    · obtain ⟨e1, e2, e3, -⟩ := s2 ho hd
      rcases (by omega : k = 0 ∨ k = 1 ∨ k = 2) with rfl | rfl | rfl
      · simp [e1]
      · simp [e2, hd]
      · simp [e3]
        omega
    · obtain ⟨e1, e2, e3, -⟩ := s3 ho hd
      rcases (by omega : k = 0 ∨ k = 1 ∨ k = 2) with rfl | rfl | rfl
      · simp [e1]
      · simp [e2, hd]
      · simp [e3]
        omega
theorem rk_len (now age : Int) (L : List Ey) (k i : Nat) (hl : L.length ≤ 30) : (rkO now age L k i).length ≤ 2000 ∧ (rkR now age L k i).length ≤ 2000 := by
  have h1 : ∀ (p : Ey → Bool) (M : List Ey), M.length ≤ 30 → (M.filter p).length ≤ 30 := fun p M h => Nat.le_trans (List.length_filter_le _ _) h
  have h2 : (L.take i).length ≤ 30 := by rw [List.length_take]; omega
  have h3 := rest_len now age L
  have a1 := h1 (oldB now age) _ h2
  have a2 := h1 (oldB now age) _ hl
  have a3 := h1 (fun y => !oldB now age y && decide (0 ≤ y.date)) _ h2
  have a4 := h1 (fun y => !oldB now age y && decide (0 ≤ y.date)) _ hl
  have a5 := h1 (fun y => !oldB now age y && !decide (0 ≤ y.date)) _ h2
  unfold rkO rkR pkO pkR pkD
  constructor
  · split <;> omega
  · split
    · simp
    · split
      · omega
      · split
        · rw [List.length_append]; omega
        · omega
theorem rk_sum (now age : Int) (L : List Ey) (k i : Nat) (h : SzOk L) (hl : L.length ≤ 30) : 0 ≤ sumE (rkR now age L k i) ∧ sumE (rkR now age L k i) ≤ 67553994410557440 := by
  have hs : SzOk (rkR now age L k i) := by
    refine h.sub fun y hy => ?_
    unfold rkR at hy
    split at hy
    · cases hy
    · split at hy
      · exact List.mem_of_mem_take (List.mem_filter.1 hy).1
      · split at hy
        · rcases List.mem_append.1 hy with hy | hy
          · exact (List.mem_filter.1 hy).1
          · exact List.mem_of_mem_take (List.mem_filter.1 hy).1
        · exact rest_mem y hy
  have h1 := sum_bd hs
  have h2 : (rkR now age L k i).length ≤ 60 := by
    have h2 : (L.take i).length ≤ 30 := by rw [List.length_take]; omega
    have h3 := rest_len now age L
    have a3 : (pkR now age (L.take i)).length ≤ 30 := Nat.le_trans (List.length_filter_le _ _) h2
    have a4 : (pkR now age L).length ≤ 30 := Nat.le_trans (List.length_filter_le _ _) hl
    have a5 : (pkD now age (L.take i)).length ≤ 30 := Nat.le_trans (List.length_filter_le _ _) h2
    unfold rkR
    split
    · simp
    · split
      · omega
      · split
        · rw [List.length_append]; omega
        · omega
  omega
end Go.Proofs.YtkkiglagdojnlaaGreatDoor
