/- Texts of the proof, part 16. -/
import Derived.Deep.CutBlock
import Derived.Deep.DeepCutAuto
import Derived.RegionTactic
import Derived.BigRegion
import Derived.Test.YtihdbncoijhihaaGreatCK13
import Derived.Test.YtihdbncoijhihaaGreatCK15
import Derived.Test.YtihdbncoijhihaaGreatCK12
set_option linter.unusedVariables false
set_option linter.unusedSimpArgs false
/- A trip (layer 15): name.Slash, one step. -/
namespace Go.Proofs.YtihdbncoijhihaaGreat

open Go.RowKit

set_option maxRecDepth 100000 in
set_option maxHeartbeats 1000000 in
theorem slash_any (s : ByteArray) (w : World) (hs : s.size ≤ 100000) :
    Calls Tryz.prog 172 #[.string s] w fun e w' => e = .returned (.bool (slashB s.data.toList)) ∧ w = w' := by
  have HT := Lib.hid (tail_any s w hs)
  have HS := Lib.hid (show slashB s.data.toList = (segL s.data.toList == [] || segL s.data.toList == [46] || segL s.data.toList == [46, 46]) from rfl)
  generalize segL s.data.toList = t at HT HS
  generalize slashB s.data.toList = b at HS
  have htl : (str t).toList = t := by rw [ba_list, str_list]
  by_cases h1 : t = []
  · subst h1
    have hb : b = true := by rw [HS.out]; rfl
    subst hb
    go_enter Tryz.func172, Tryz.ntmps172
    go_wp2_with (refine HT.out.mono ?_; rintro e w1 ⟨rfl, rfl⟩)
    go_ret
    exact ⟨rfl, rfl⟩
  · have n1 : t.isEmpty = false := by simpa using h1
    by_cases h2 : t = [46]
    · subst h2
      have hb : b = true := by rw [HS.out]; rfl
      subst hb
      go_enter Tryz.func172, Tryz.ntmps172
      go_wp2_with (refine HT.out.mono ?_; rintro e w1 ⟨rfl, rfl⟩)
      go_ret
      exact ⟨rfl, rfl⟩
    · have n2 : (t == [46]) = false := by simpa using h2
      by_cases h3 : t = [46, 46]
      · subst h3
        have hb : b = true := by rw [HS.out]; rfl
        subst hb
        go_enter Tryz.func172, Tryz.ntmps172
        go_wp2_with (refine HT.out.mono ?_; rintro e w1 ⟨rfl, rfl⟩)
        go_ret
        exact ⟨rfl, rfl⟩
      · have n3 : (t == [46, 46]) = false := by simpa using h3
        have hb : b = false := by rw [HS.out, n2, n3]; simpa using h1
        subst hb
        clear h1 h2 h3
        go_enter Tryz.func172, Tryz.ntmps172
        go_wp2_with (refine HT.out.mono ?_; rintro e w1 ⟨rfl, rfl⟩)
        go_ret
        exact ⟨rfl, rfl⟩
/-- a panic passes. -/
def PanicOk (Q : Exit → Act → World → Prop) : Prop := ∀ c d v a w, Q (.panic c) (Act.put a d v) w → Q (.panic c) a w
theorem pk_body {P : Program} {fn : Func} {R : Ending → World → Prop} : PanicOk (bodyPost P fn R) := body_panic
theorem pk_then {K : Act → World → Prop} {Q : Exit → Act → World → Prop} (h : PanicOk Q) : PanicOk (Exit.then K Q) := fun c d v a w hq => h c d v a w hq
theorem pk_block {i : Nat} {Q : Exit → Act → World → Prop} (h : PanicOk Q) : PanicOk (Exit.inBlock i Q) := fun c d v a w hq => h c d v a w hq
theorem pk_scope {Q : Exit → Act → World → Prop} (h : PanicOk Q) : PanicOk (Exit.noGoto Q) := fun c d v a w hq => h c d v a w hq
set_option maxRecDepth 100000 in
theorem keepS_set12 {W w : World} {B : Nat} {v0 v1 v2 v3 v4 v5 v6 v7 v8 v9 v10 v11 : Value} (h : (∀ b o, b < W.heap.size → w.cell? ⟨b, o, none⟩ = W.cell? ⟨b, o, none⟩) ∧ Below W.heap.size W w) (hB : W.heap.size ≤ B) :
    (∀ b o, b < W.heap.size → ((((((((((((w.setCell ⟨B, 0, none⟩ v0).setCell ⟨B, 1, none⟩ v1).setCell ⟨B, 2, none⟩ v2).setCell ⟨B, 3, none⟩ v3).setCell ⟨B, 4, none⟩ v4).setCell ⟨B, 5, none⟩ v5).setCell ⟨B, 6, none⟩ v6).setCell ⟨B, 7, none⟩ v7).setCell ⟨B, 8, none⟩ v8).setCell ⟨B, 9, none⟩ v9).setCell ⟨B, 10, none⟩ v10).setCell ⟨B, 11, none⟩ v11).cell? ⟨b, o, none⟩ = W.cell? ⟨b, o, none⟩) ∧
      Below W.heap.size W ((((((((((((w.setCell ⟨B, 0, none⟩ v0).setCell ⟨B, 1, none⟩ v1).setCell ⟨B, 2, none⟩ v2).setCell ⟨B, 3, none⟩ v3).setCell ⟨B, 4, none⟩ v4).setCell ⟨B, 5, none⟩ v5).setCell ⟨B, 6, none⟩ v6).setCell ⟨B, 7, none⟩ v7).setCell ⟨B, 8, none⟩ v8).setCell ⟨B, 9, none⟩ v9).setCell ⟨B, 10, none⟩ v10).setCell ⟨B, 11, none⟩ v11) :=
  keepS_of (below_set12 h.2 hB)
section

variable {w w' : World} {pw : Nat} {R : Rp} {S : Fs}

theorem step_gone {S : Fs} {c : Cr} {k : Int} {p : List UInt8} (h : S.get k = none) : S.step c k p = (0, 9) := by unfold Fs.step; rw [h]
theorem step_eq {S : Fs} {c : Cr} {k : Int} {p : List UInt8} {d : An} (h : S.get k = some d) : S.step c k p = if d.kind ≠ 1 then (0, 9) else if d.may c 1 = false then (0, 6) else if p = [46, 46] then (S.above k, 0) else if 255 < p.length then (0, 13) else (S.over (entFind d.ents (str p)), 0) := by
  unfold Fs.step; rw [h]
set_option maxRecDepth 100000 in
set_option maxHeartbeats 4000000 in
theorem step_any (h : WdAt w pw R S) {N : Nat} (hk : FsOk S N) (hN : N ≤ 999999) {Bt : Nat} (c : Cr) (k : Int) {ta : Option Addr} {tl tc : Nat} {hops : Int} {must : Bool}
    (hb : Blk w Bt #[.pointer (some ⟨pw, 0, none⟩), .int .i64 c.u, .int .i64 c.g, .int .i64 k, .slice ta tl tc, .int .i64 hops, .bool must] 271) (p : ByteArray) :
    Calls Tryz.prog 173 #[.pointer (some ⟨Bt, 0, none⟩), .string p] w fun e w' => e = .returned (.tuple #[.int .i64 (S.step c k p.data.toList).1, .int .i64 (S.step c k p.data.toList).2]) ∧ Below w.heap.size w w' := by
  have HW := Lib.hid h
  have HK := Lib.hid hk
  have HBT := Lib.hid hb
  have mixed : Tryz.prog.follows .mixedOrders = true := by kernel_rfl
  obtain ⟨bc, bf, bz⟩ := hb.facts
  obtain ⟨pc, -, pz⟩ := h.blk.facts
  have HBC := Lib.hid bc
  have HPC := Lib.hid pc
  clear h hk hb
  cases hg : S.get k with
  | none =>
    have HG := Lib.hid (fun w1 (hb1 : Below w.heap.size w w1) => wget_no (HW.out.keep hb1) hg)
    have HE := Lib.hid (step_gone (c := c) (p := p.data.toList) hg)
    unfold An.v an0 at HG
    clear hg
    go_enter Tryz.func173, Tryz.ntmps173
    go_upto_region 1 with fail
    go_cut [6, 7] (fun t6 t7 wx => ∃ Bd : Nat, t6 = .pointer (some ⟨Bd, 0, none⟩) ∧ t7 = .bool false ∧ Below w.heap.size w wx)
    case first =>
      go_wp2_with fail
      have hzz : w.heap.size ≤ w.heap.size := Nat.le_refl _
      go_region_held3 (fun w' => (∀ b o, b < w.heap.size → w'.cell? ⟨b, o, none⟩ = w.cell? ⟨b, o, none⟩) ∧ Below w.heap.size w w') (first | with_reducible exact keepS_set12 (by assumption) (by assumption) | (first | with_reducible assumption | with_reducible exact keepS_here _ | with_reducible exact keepS_here2 _ | with_reducible exact keepS_call (by assumption) (by assumption) | with_reducible exact keepS_alloc (by assumption) _ | with_reducible exact keepS_allocD (by assumption) _ | with_reducible exact keepS_realloc (by assumption) (by assumption) | with_reducible exact keepS_set4 (by assumption) (by assumption)))
        ((go_at_call 13; ((with_reducible refine (HG.out _ (And.right ‹(∀ b o, b < w.heap.size → _) ∧ Below w.heap.size w _›)).mono ?_); rintro e w4 ⟨rfl, hb5⟩; have hz5 := Nat.le_trans (And.right ‹(∀ b o, b < w.heap.size → _) ∧ Below w.heap.size w _›).size hb5.size; try (have hbq := new_drew hb5; obtain ⟨bqc, bqf, bqz⟩ := hbq.facts))))
      all_goals
        obtain ⟨-, hS4⟩ := ‹_ ∧ Below w.heap.size w _›
        have HS4 := Lib.hid hS4
        clear hS4
        go_wp2_with fail
        go_meet
        exact ⟨_, rfl, rfl, HS4.out⟩
    case rest =>
      obtain ⟨Bd, rfl, rfl, hS⟩ := hcut
      have HB := Lib.hid hS
      clear hS bc bf bz pc pz
      go_wp2_with fail
      go_ret2
      rw [HE.out]
      exact ⟨rfl, HB.out⟩
  | some d =>
    obtain ⟨ea, el, ec, he, hG⟩ := wget_fix HW.out hg
    have HE0 := Lib.hid he
    have HG := Lib.hid hG
    have HQ := Lib.hid (step_eq (c := c) (p := p.data.toList) hg)
    have HHG := Lib.hid hg
    have hfew : el ≤ 1000000 := by rw [← he.len]; exact Nat.le_trans (HK.out.get hg).1.few (by omega)
    have HFew := Lib.hid hfew
    unfold An.v at HG
    clear hg he hG hfew
    go_enter Tryz.func173, Tryz.ntmps173
    go_upto_region 1 with fail
    go_cut [6, 7] (fun t6 t7 wx => ∃ Bd : Nat, t6 = .pointer (some ⟨Bd, 0, none⟩) ∧ t7 = .bool true ∧ Blk wx Bd #[.int .i64 d.no, .int .i64 d.dev, .int .i64 d.kind, .int .i64 d.mode, .int .i64 d.uid, .int .i64 d.gid, .int .i64 d.mtime, .int .i64 d.ctime, .int .i64 d.links, .int .i64 d.up, .string d.data, .slice ea el ec] 49 ∧ Below w.heap.size w wx)
    case first =>
      go_wp2_with fail
      have hzz : w.heap.size ≤ w.heap.size := Nat.le_refl _
      go_region_held3 (fun w' => (∀ b o, b < w.heap.size → w'.cell? ⟨b, o, none⟩ = w.cell? ⟨b, o, none⟩) ∧ Below w.heap.size w w') (first | with_reducible exact keepS_set12 (by assumption) (by assumption) | (first | with_reducible assumption | with_reducible exact keepS_here _ | with_reducible exact keepS_here2 _ | with_reducible exact keepS_call (by assumption) (by assumption) | with_reducible exact keepS_alloc (by assumption) _ | with_reducible exact keepS_allocD (by assumption) _ | with_reducible exact keepS_realloc (by assumption) (by assumption) | with_reducible exact keepS_set4 (by assumption) (by assumption)))
        ((go_at_call 13; ((with_reducible refine (HG.out _ (And.right ‹(∀ b o, b < w.heap.size → _) ∧ Below w.heap.size w _›)).mono ?_); rintro e w4 ⟨rfl, hb5⟩; have hz5 := Nat.le_trans (And.right ‹(∀ b o, b < w.heap.size → _) ∧ Below w.heap.size w _›).size hb5.size; try (have hbq := new_drew hb5; obtain ⟨bqc, bqf, bqz⟩ := hbq.facts))))
      all_goals
        obtain ⟨-, hS4⟩ := ‹_ ∧ Below w.heap.size w _›
        have HS4 := Lib.hid hS4
        try (have HQ4 := Lib.hid hbq)
        clear hS4
        go_wp2_with fail
        go_meet
        exact ⟨_, rfl, rfl, by first | exact HQ4.out.set12 | exact Blk.new _ _ _, HS4.out⟩
    case rest =>
      obtain ⟨Bd, rfl, rfl, hDX, hbX⟩ := hcut
      generalize wc = X at hDX hbX ⊢
      have HBX := Lib.hid hbX
      have HDX := Lib.hid hDX
      have hTX := HBT.out.keep hbX
      clear bc bf bz
      obtain ⟨bc, bf, bz⟩ := hTX.facts
      obtain ⟨dc, df, dz⟩ := hDX.facts
      clear hbX hDX hTX pc
      by_cases h1 : d.kind = 1
      · have h1' : (d.kind != 1) = false := by simpa using h1
        have HQ1 := Lib.hid (HQ.out.trans (if_neg (by simp [h1])))
        have HNd := Lib.hid (fun w => pnode_any c d ea el ec 1 w)
        unfold Cr.v An.v at HNd
        clear h1 HQ
        go_wp2_with fail
        refine wp_region_lex 5 mixed (by kernel_rfl) (show PanicOk _ from by repeat (first | exact pk_body | refine pk_then ?_ | refine pk_block ?_)) ?_
        simp only [List.take_succ_cons, List.take_zero, List.drop_succ_cons, List.drop_zero]
        repeat still_step
        refine wpStill_nil ?_
        go_wp2_with fail
        refine (HNd.out _).mono ?_
        rintro e w2 ⟨rfl, hb2⟩
        have hb3 := HBX.out.drew.trans (hb2.mono HBX.out.size)
        have HB2 := Lib.hid hb3
        have hT2 := HBT.out.keep hb3
        have hD2 := HDX.out.drew.keep hb2
        have HD2 := Lib.hid hD2
        have pc2 : w2.cell? ⟨pw, 0, none⟩ = some (.pointer (some ⟨R.pt, 0, none⟩)) := (hb3.cell (p := ⟨pw, 0, none⟩) pz).trans (HPC.out 0)
        clear bc bf bz dc df dz hb2
        obtain ⟨bc, bf, bz⟩ := hT2.facts
        obtain ⟨dc, df, dz⟩ := hD2.facts
        clear hT2 hD2 hb3
        cases hm : d.may c 1 with
        | false =>
          have HE := Lib.hid (HQ1.out.trans (if_pos hm))
          clear hm
          go_wp2_with fail
          go_ret2
          rw [HE.out]
          exact ⟨rfl, HB2.out⟩
        | true =>
          have HQ2 := Lib.hid (HQ1.out.trans (if_neg (by rw [hm]; decide)))
          clear hm HQ1
          by_cases h2 : p.data.toList = [46, 46]
          · have h2' : p.toList = [46, 46] := by rw [ba_list]; exact h2
            have HE := Lib.hid (HQ2.out.trans (if_pos h2))
            have HAb := Lib.hid (fun w1 (hb1 : Below w.heap.size w w1) => wabove_any (HW.out.keep hb1) HK.out k)
            clear h2 HQ2
            go_wp2_with fail
            refine wp_region_lex 8 mixed (by kernel_rfl) (show PanicOk _ from by repeat (first | exact pk_body | refine pk_then ?_ | refine pk_block ?_)) ?_
            simp only [List.take_succ_cons, List.take_zero, List.drop_succ_cons, List.drop_zero]
            repeat still_step
            refine wpStill_nil ?_
            go_wp2_with fail
            refine (HAb.out _ HB2.out.drew).mono ?_
            rintro e w3 ⟨rfl, hb3⟩
            have HB3 := Lib.hid (HB2.out.drew.trans (hb3.mono HB2.out.size))
            clear hb3
            go_wp2_with fail
            go_ret2
            rw [HE.out]
            exact ⟨rfl, HB3.out⟩
          · have h2' : (p.toList == [46, 46]) = false := by rw [ba_list]; simpa using h2
            have HQ3 := Lib.hid (HQ2.out.trans (if_neg h2))
            have hpl : p.data.toList.length = p.size := Array.length_toList
            clear h2 HQ2
            by_cases h3 : 255 < p.size
            · have HE := Lib.hid (HQ3.out.trans (if_pos (by rw [hpl]; exact h3)))
              have h3' : (255 : Int) < (p.size : Int) := by omega
              clear hpl
              go_wp2_with fail
              go_ret2
              rw [HE.out]
              exact ⟨rfl, HB2.out⟩
            · have HE := Lib.hid (HQ3.out.trans (if_neg (by rw [hpl]; exact h3)))
              rw [str_of] at HE
              have h3' : ¬ (255 : Int) < (p.size : Int) := by omega
              have HF := Lib.hid (fun w1 (hb1 : Below w.heap.size w w1) => efind_any d.ents ea el ec p w1 (HE0.out.keep hb1) (HK.out.get HHG.out).1.rise HFew.out)
              have HOv := Lib.hid (fun w1 (hb1 : Below w.heap.size w w1) => wover_any (HW.out.keep hb1) HK.out.d1 (entFind d.ents p))
              clear hpl HQ3 h3
              generalize entFind d.ents p = f at HE HF HOv
              go_wp2_with fail
              have hzz : w2.heap.size ≤ w2.heap.size := Nat.le_refl _
              have hsz2 := HB2.out.size
              go_region_held3 (fun w' => (∀ b o, b < w2.heap.size → w'.cell? ⟨b, o, none⟩ = w2.cell? ⟨b, o, none⟩) ∧ Below w2.heap.size w2 w') (first | with_reducible assumption | with_reducible exact keepS_here _ | with_reducible exact keepS_here2 _ | with_reducible exact keepS_call (by assumption) (by assumption) | with_reducible exact keepS_alloc (by assumption) _ | with_reducible exact keepS_allocD (by assumption) _ | with_reducible exact keepS_realloc (by assumption) (by assumption) | with_reducible exact keepS_set4 (by assumption) (by assumption))
                ((first | (go_at_call 123; ((with_reducible refine (HF.out _ (HB2.out.trans ((And.right ‹(∀ b o, b < w2.heap.size → _) ∧ Below w2.heap.size w2 _›).mono hsz2))).mono ?_); rintro e w4 ⟨rfl, hb5⟩)) | (go_at_call 124; ((with_reducible refine (HOv.out _ (HB2.out.trans ((And.right ‹(∀ b o, b < w2.heap.size → _) ∧ Below w2.heap.size w2 _›).mono hsz2))).mono ?_); rintro e w4 ⟨rfl, hb5⟩))))
              all_goals
                obtain ⟨-, hS4⟩ := ‹_ ∧ Below w2.heap.size w2 _›
                have HB4 := Lib.hid (HB2.out.trans (hS4.mono hsz2))
                clear hS4
                go_wp2_with fail
                go_ret2
                rw [HE.out]
                exact ⟨rfl, HB4.out⟩
      · have h1' : (d.kind != 1) = true := by simpa using h1
        have HE := Lib.hid (HQ.out.trans (if_pos h1))
        clear h1
        go_wp2_with fail
        go_ret2
        rw [HE.out]
        exact ⟨rfl, HBX.out⟩
end

end Go.Proofs.YtihdbncoijhihaaGreat

/- The reference's tree (layer 14): Set, Add. -/
namespace Go.Proofs.YtihdbncoijhihaaGreat

open Go.RowKit

/-- what a method leaves of the rest. -/
structure Rf.Like (R R' : Rf) : Prop where
  now : R'.now = R.now
  cnt : R'.cnt = R.cnt
  pl : R'.pl = R.pl
  dd : R'.dd = R.dd
theorem Rf.Like.refl (R : Rf) : Rf.Like R R := ⟨rfl, rfl, rfl, rfl⟩
theorem Rf.Like.trans {A B C : Rf} (h : Rf.Like A B) (k : Rf.Like B C) : Rf.Like A C := ⟨k.now.trans h.now, k.cnt.trans h.cnt, k.pl.trans h.pl, k.dd.trans h.dd⟩
theorem map_put {S : Fs} (hn : Nums S) {G : List Gn} (hG : S.ns = G.map (·.a)) {i : Nat} (hi : i < G.length) {a : An} (hno : G[i].a.no = a.no) {y : Gn} (hy : y.a = a) : (S.set a).ns = (G.set i y).map (·.a) := by
  have hr := hn.rise
  rw [hG] at hr
  show (S.ns.map _) = _
  rw [hG]
  apply List.ext_getElem
  · simp
  · intro j h1 h2
    have hj : j < G.length := by simpa using h1
    simp only [List.getElem_map, List.getElem_set]
    by_cases hij : i = j
    · subst hij
      rw [if_pos rfl, hno]
      simp [hy]
    · rw [if_neg hij, if_neg]
      have key := List.pairwise_iff_getElem.1 hr
      simp only [List.length_map, List.getElem_map] at key
      simp only [beq_iff_eq]
      rcases Nat.lt_or_gt_of_ne hij with h | h
      · have := key i j (by simpa using hi) (by simpa using hj) h
        omega
      · have := key j i (by simpa using hj) (by simpa using hi) h
        omega
theorem putRow12 (w : World) (g o : Nat) (v0 v1 v2 v3 v4 v5 v6 v7 v8 v9 v10 v11 : Value) : putRow w g o [v0, v1, v2, v3, v4, v5, v6, v7, v8, v9, v10, v11] = (((((((((((w.setCell ⟨g, o, none⟩ v0).setCell ⟨g, o + 1, none⟩ v1).setCell ⟨g, o + 2, none⟩ v2).setCell ⟨g, o + 3, none⟩ v3).setCell ⟨g, o + 4, none⟩ v4).setCell ⟨g, o + 5, none⟩ v5).setCell ⟨g, o + 6, none⟩ v6).setCell ⟨g, o + 7, none⟩ v7).setCell ⟨g, o + 8, none⟩ v8).setCell ⟨g, o + 9, none⟩ v9).setCell ⟨g, o + 10, none⟩ v10).setCell ⟨g, o + 11, none⟩ v11 := rfl
section

variable {w w' : World} {pf : Nat} {R : Rf} {S : Fs}

theorem rf_apart {g : Nat} {e : TypeId} (hk : ∃ cur, w.heap[g]? = some (.cells cur e (0, 0))) {x : Nat} {vs : Array Value} {T : TypeId} (hx : Blk w x vs T) (hT : T ≠ e) : x ≠ g := by
  rintro rfl
  obtain ⟨cur, hc⟩ := hk
  unfold Blk at hx
  rw [hx] at hc
  injection hc with hc
  injection hc with _ hc
  exact hT hc
/-- a node is put in the place of another one. -/
theorem RfAt.put (h : RfAt w pf R S) (hn : Nums S) {g cap : Nat} (hv : R.nv = .slice (some ⟨g, 0, none⟩) R.G.length cap) {i : Nat} (hi : i < R.G.length) {a : An} {ea : Option Addr} {el ec : Nat} (hno : R.G[i].a.no = a.no) (he : EntsAt w ea el ec a.ents) :
    RfAt (putRow w g (i * 12) [.int .i64 a.no, .int .i64 a.dev, .int .i64 a.kind, .int .i64 a.mode, .int .i64 a.uid, .int .i64 a.gid, .int .i64 a.mtime, .int .i64 a.ctime, .int .i64 a.links, .int .i64 a.up, .string a.data, .slice ea el ec]) pf { R with G := R.G.set i ⟨a, ea, el, ec, 0⟩ } (S.set a) ∧ Mod (R.F pf) w (putRow w g (i * 12) [.int .i64 a.no, .int .i64 a.dev, .int .i64 a.kind, .int .i64 a.mode, .int .i64 a.uid, .int .i64 a.gid, .int .i64 a.mtime, .int .i64 a.ctime, .int .i64 a.links, .int .i64 a.up, .string a.data, .slice ea el ec]) := by
  have hgb : R.nv.ownBlock = some g := by rw [hv]; rfl
  have hm := putRow_mod (g := g) [.int .i64 a.no, .int .i64 a.dev, .int .i64 a.kind, .int .i64 a.mode, .int .i64 a.uid, .int .i64 a.gid, .int .i64 a.mtime, .int .i64 a.ctime, .int .i64 a.links, .int .i64 a.up, .string a.data, .slice ea el ec] w (i * 12)
  have hM : Mod (R.F pf) w (putRow w g (i * 12) [.int .i64 a.no, .int .i64 a.dev, .int .i64 a.kind, .int .i64 a.mode, .int .i64 a.uid, .int .i64 a.gid, .int .i64 a.mtime, .int .i64 a.ctime, .int .i64 a.links, .int .i64 a.up, .string a.data, .slice ea el ec]) := hm.mono (fun k hk => .inr (.inl (by rw [hk]; exact hgb)))
  obtain ⟨-, hcur⟩ := own_obj1 h.nds hgb
  have hst : Stp (R.F pf) (R.F pf) w (putRow w g (i * 12) [.int .i64 a.no, .int .i64 a.dev, .int .i64 a.kind, .int .i64 a.mode, .int .i64 a.uid, .int .i64 a.gid, .int .i64 a.mtime, .int .i64 a.ctime, .int .i64 a.links, .int .i64 a.up, .string a.data, .slice ea el ec]) := Stp.of_mod hM
  refine ⟨⟨h.blk.mod hm (rf_apart hcur h.blk (by decide)), ?_, own_mod h.devs hm (fun k hk e => ?_), map_put hn h.ns hi hno rfl, fun x hx => ?_⟩, hM⟩
  · show World.ownsRow _ 0 49 12 R.nv (R.G.set i _).length ((R.G.set i _).flatMap Gn.cs)
    rw [List.length_set]
    have h0 := h.nds
    rw [hv] at h0 ⊢
    exact own_put (enc := Gn.cs) (by omega) Gn.cs_len h0 i hi ⟨a, ea, el, ec, 0⟩
  · obtain ⟨-, cur2, hc2⟩ := own_obj1 h.devs e
    rw [hk] at hc2
    exact rf_apart hcur (show Blk w g cur2 229 from hc2) (by decide) rfl
  · rcases List.mem_or_eq_of_mem_set hx with hx | rfl
    · exact (h.ents x hx).rf h hst
    · exact he.rf h hst
set_option maxRecDepth 100000 in
set_option maxHeartbeats 2000000 in
theorem rset_any (h : RfAt w pf R S) (hn : Nums S) {a : An} {ea : Option Addr} {el ec : Nat} (he : EntsAt w ea el ec a.ents) {b : An} (hb : S.get a.no = some b) :
    Calls Tryz.prog 227 #[.pointer (some ⟨pf, 0, none⟩), a.v ea el ec] w fun e w' => e = .returned (.tuple #[]) ∧ ∃ R', RfAt w' pf R' (S.set a) ∧ Stp (R.F pf) (R'.F pf) w w' ∧ Rf.Like R R' ∧ R'.dv = R.dv := by
  rcases place_get h a.no with ⟨i, hi, hp, -, hno⟩ | ⟨-, hg2⟩
  · have hb0 := balloc (Below.refl w.heap.size w) (.cells #[.int .i64 a.no, .int .i64 a.dev, .int .i64 a.kind, .int .i64 a.mode, .int .i64 a.uid, .int .i64 a.gid, .int .i64 a.mtime, .int .i64 a.ctime, .int .i64 a.links, .int .i64 a.up, .string a.data, .slice ea el ec] 49)
    have hq0 := Blk.new w #[.int .i64 a.no, .int .i64 a.dev, .int .i64 a.kind, .int .i64 a.mode, .int .i64 a.uid, .int .i64 a.gid, .int .i64 a.mtime, .int .i64 a.ctime, .int .i64 a.links, .int .i64 a.up, .string a.data, .slice ea el ec] 49
    have HAt := Lib.hid (rat_any (h.keep ((Below.refl _ w).alloc (Nat.le_refl _) (.cells #[.int .i64 a.no, .int .i64 a.dev, .int .i64 a.kind, .int .i64 a.mode, .int .i64 a.uid, .int .i64 a.gid, .int .i64 a.mtime, .int .i64 a.ctime, .int .i64 a.links, .int .i64 a.up, .string a.data, .slice ea el ec] 49))) a.no)
    rw [hp] at HAt
    obtain ⟨g, cap, hnv, hcap, hcap2, hgl, hc, hfz, cur, hcur⟩ := h.nodeF (by omega)
    have HP := Lib.hid (fun w1 (hb : Below w.heap.size w w1) => (h.keep hb).put hn hnv hi hno (he.keep hb))
    obtain ⟨pc, -, pz⟩ := h.blk.facts
    rw [hnv] at pc
    have HCur := Lib.hid hcur
    obtain ⟨n, hn2⟩ : ∃ n, R.G.length = n := ⟨_, rfl⟩
    rw [hn2] at pc hcap
    have hin : i < n := by omega
    have HQ0 := Lib.hid hq0
    have HB0 := Lib.hid hb0
    have mixed : Tryz.prog.follows .mixedOrders = true := by kernel_rfl
    obtain ⟨y, y1, y2, y3, c0, c1, c2, c3, c4, c5, c6, c7, c8, c9, c10, c11⟩ : ∃ (y : An) (y1 : Option Addr) (y2 y3 : Nat), NdC w g (i * 12) y y1 y2 y3 := ⟨_, _, _, _, hc i hi⟩
    have HC := Lib.hid (fun w1 (hb : Below w.heap.size w w1) => And.intro (hb.cell (p := ⟨g, i * 12, none⟩) hgl) (fun j => hb.cell (p := ⟨g, i * 12 + j, none⟩) hgl))
    unfold An.v
    clear h hn he hb hp hnv hc hi hno hn2 hq0 hb0 hcur hfz
    go_enter Tryz.func227, Tryz.ntmps227
    have hq0 := HQ0.out
    obtain ⟨qc, qf, qz⟩ := hq0.facts
    clear hq0
    go_wp2_with fail
    refine HAt.out.mono ?_
    rintro e w1 ⟨rfl, hb1⟩
    have hq1 := HQ0.out.keep hb1
    have hb2 := bnext HB0.out hb1
    obtain ⟨d0, dd⟩ := HC.out w1 hb2
    rw [← d0] at c0
    rw [← dd 1] at c1
    rw [← dd 2] at c2
    rw [← dd 3] at c3
    rw [← dd 4] at c4
    rw [← dd 5] at c5
    rw [← dd 6] at c6
    rw [← dd 7] at c7
    rw [← dd 8] at c8
    rw [← dd 9] at c9
    rw [← dd 10] at c10
    rw [← dd 11] at c11
    have hg1 : g < w1.heap.size := Nat.lt_of_lt_of_le hgl hb2.size
    have hfz1 := (HCur.out.keep hb2).frozen
    have pc2 := fun i => (hb2.cell (p := ⟨pf, i, none⟩) pz).trans (pc i)
    have HB2 := Lib.hid hb2
    clear qc qf qz
    obtain ⟨qc, qf, qz⟩ := hq1.facts
    clear hq1 hb1 hb2 d0 dd pc
    go_wp2_with fail
    refine wp_region_lex 7 mixed (by kernel_rfl) (show PanicOk _ from by repeat (first | exact pk_body | refine pk_then ?_ | refine pk_block ?_ | refine pk_scope ?_)) ?_
    simp only [List.take_succ_cons, List.take_zero, List.drop_succ_cons, List.drop_zero]
    repeat still_step
    refine wpStill_nil ?_
    go_wp2_with fail
    go_end0
    obtain ⟨hR, hM⟩ := HP.out _ HB2.out
    rw [putRow12] at hR hM
    exact ⟨rfl, _, hR.keep ((Below.refl _ _).drew), (Stp.of_below HB2.out).trans (Stp.of_mod hM.drew), ⟨rfl, rfl, rfl, rfl⟩, rfl⟩
  · rw [hb] at hg2; cases hg2
end

end Go.Proofs.YtihdbncoijhihaaGreat

/- The reference's tree (layer 14): Add. -/
namespace Go.Proofs.YtihdbncoijhihaaGreat

open Go.RowKit

theorem node_info : (Tryz.prog.info? 49).map (fun i => (i.zero, i.size, i.bytes)) = some (some (.agg #[.int .i64 0, .int .i64 0, .int .i64 0, .int .i64 0, .int .i64 0, .int .i64 0, .int .i64 0, .int .i64 0, .int .i64 0, .int .i64 0, .string ByteArray.empty, .slice none 0 0]), 12, 120) := by kernel_rfl
theorem rdev_info : (Tryz.prog.info? 229).map (fun i => (i.zero, i.size, i.bytes)) = some (some (.agg #[.int .i64 0, .int .i64 0, .int .i64 0, .int .i64 0, .int .i64 0, .int .i64 0]), 6, 48) := by kernel_rfl
section

variable {w w' : World} {pf : Nat} {R : Rf} {S : Fs}

/-- a cell aside is written. -/
theorem RfAt.aside (h : RfAt w pf R S) {B : Nat} {vs : Array Value} {T : TypeId} (hB : Blk w B vs T) (hF : ¬ R.F pf B) (hT : T ≠ 146) (i : Nat) (v : Value) : RfAt (w.setCell ⟨B, i, none⟩ v) pf R S := by
  have hm : Mod (fun k => k = B) w (w.setCell ⟨B, i, none⟩ v) := (Mod.refl (fun k => k = B) w).setCell (a := ⟨B, i, none⟩) (.inl rfl) v
  refine h.turn (fun k hk => hm.block k (h.lt hk) (fun e => hF (e ▸ hk))) (fun b cur hc => hm.block b (Array.getElem?_eq_some_iff.1 hc).1 (fun e => ?_)) hm.size
  subst e
  unfold Blk at hB
  rw [hB] at hc
  injection hc with hc
  injection hc with _ hc
  exact hT hc
/-- another last number. -/
theorem RfAt.setLast (h : RfAt w pf R S) (v : Int) : RfAt (w.setCell ⟨pf, 2, none⟩ (.int .i64 v)) pf R { S with last := v } ∧ Mod (R.F pf) w (w.setCell ⟨pf, 2, none⟩ (.int .i64 v)) := by
  have hm : Mod (fun k => k = pf) w (w.setCell ⟨pf, 2, none⟩ (.int .i64 v)) := (Mod.refl (fun k => k = pf) w).setCell (a := ⟨pf, 2, none⟩) (.inl rfl) _
  have hM : Mod (R.F pf) w (w.setCell ⟨pf, 2, none⟩ (.int .i64 v)) := hm.mono (fun k hk => .inl hk)
  refine ⟨⟨h.blk.set 2 _, own_mod h.nds hm (fun k hk e => ?_), own_mod h.devs hm (fun k hk e => ?_), h.ns, fun x hx => (h.ents x hx).rf h (Stp.of_mod hM)⟩, hM⟩
  · obtain ⟨-, hc⟩ := own_obj1 h.nds e
    exact rf_apart hc h.blk (by decide) hk.symm
  · obtain ⟨-, hc⟩ := own_obj1 h.devs e
    exact rf_apart hc h.blk (by decide) hk.symm
/-- a node more. -/
theorem RfAt.appN (h : RfAt w pf R S) (hl : R.G.length ≤ 1000000) (ad : Addr) (y : Gn) (had : ∀ j u, (Gn.cs y)[j]? = some u → w.cell? (ad.add j) = some u) (he : EntsAt w y.ea y.el y.ec y.a.ents) :
    ∃ g cap W, (Builtin.append_ #[43, 43] 43 #[R.nv, .slice (some ad) 1 1]).run Tryz.prog w = .ok (.slice (some ⟨g, 0, none⟩) (R.G.length + 1) cap) W ∧
      RfAt (W.setCell ⟨pf, 0, none⟩ (.slice (some ⟨g, 0, none⟩) (R.G.length + 1) cap)) pf { R with nv := .slice (some ⟨g, 0, none⟩) (R.G.length + 1) cap, G := R.G ++ [y] } { S with ns := S.ns ++ [y.a] } ∧
      Stp (R.F pf) (Rf.F { R with nv := .slice (some ⟨g, 0, none⟩) (R.G.length + 1) cap, G := R.G ++ [y] } pf) w (W.setCell ⟨pf, 0, none⟩ (.slice (some ⟨g, 0, none⟩) (R.G.length + 1) cap)) ∧
      Blk W pf #[R.nv, R.dv, .int .i64 S.last, .int .i64 R.now, R.cnt, R.pl, R.dd] 46 ∧ Mod (fun k => R.nv.ownBlock = some k) w W := by
  obtain ⟨i0, hi, hz0, hz1, hz2⟩ := info_parts node_info
  obtain ⟨g, cap, W, h1, h2, h3, h4⟩ := step_app (43) Tryz.underlying43 hi hz0 hz1 hz2 rfl (by omega) h.nds ad 1 1 (Gn.cs y) rfl had (by intro u hu; simp [Gn.cs] at hu; rcases hu with rfl | rfl | rfl | rfl | rfl | rfl | rfl | rfl | rfl | rfl | rfl | rfl <;> rfl) (by omega) (by unfold maxLen; omega) (by omega) (Nat.zero_le _)
  have hM : Mod (R.F pf) w W := h3.mono (fun k hk => .inr (.inl hk))
  have hbW : Blk W pf #[R.nv, R.dv, .int .i64 S.last, .int .i64 R.now, R.cnt, R.pl, R.dd] 46 := h.blk.mod h3 (fun hk => by
    obtain ⟨-, hc⟩ := own_obj1 h.nds hk
    exact rf_apart hc h.blk (by decide) rfl)
  have hpg : pf ≠ g := by
    rintro rfl
    rcases h4 with h4 | h4
    · obtain ⟨-, hc⟩ := own_obj1 h.nds h4
      exact rf_apart hc h.blk (by decide) rfl
    · have := h.blk.lt; omega
  have hs2 : Stp (R.F pf) (R.F pf) w (W.setCell ⟨pf, 0, none⟩ (.slice (some ⟨g, 0, none⟩) (R.G.length + 1) cap)) := Stp.of_mod (hM.setCell (.inl (.inl rfl)) _)
  have hmp : Mod (fun k => k = pf) W (W.setCell ⟨pf, 0, none⟩ (.slice (some ⟨g, 0, none⟩) (R.G.length + 1) cap)) := (Mod.refl (fun k => k = pf) W).setCell (a := ⟨pf, 0, none⟩) (.inl rfl) _
  refine ⟨g, cap, W, h1, ⟨hbW.set 0 _, ?_, ?_, by rw [h.ns, List.map_append]; rfl, fun x hx => ?_⟩, ⟨hs2.mod, fun k hk => ?_⟩, hbW, h3⟩
  · show World.ownsRow _ 0 49 12 _ (R.G ++ [y]).length ((R.G ++ [y]).flatMap Gn.cs)
    rw [List.length_append, List.length_singleton, List.flatMap_append, List.flatMap_singleton]
    refine own_mod h2 hmp (fun k hk e => ?_)
    subst hk
    simp only [Value.ownBlock, Option.some.injEq] at e
    exact hpg e.symm
  · refine own_mod (own_mod h.devs h3 (fun k hk e => ?_)) hmp (fun k hk e => ?_)
    · obtain ⟨-, hc⟩ := own_obj1 h.nds hk
      obtain ⟨-, cur, hc2⟩ := own_obj1 h.devs e
      exact rf_apart hc (show Blk w k cur 229 from hc2) (by decide) rfl
    · obtain ⟨-, hc⟩ := own_obj1 h.devs e
      exact rf_apart hc h.blk (by decide) hk.symm
  · rcases List.mem_append.1 hx with hx | hx
    · exact (h.ents x hx).rf h hs2
    · rw [List.mem_singleton] at hx
      subst hx
      exact he.rf h hs2
  · rcases hk with hk | hk | hk
    · exact .inl (.inl hk)
    · simp only [Value.ownBlock, Option.some.injEq] at hk
      subst hk
      rcases h4 with h4 | h4
      · exact .inl (.inr (.inl h4))
      · exact .inr (by omega)
    · exact .inl (.inr (.inr hk))
set_option maxRecDepth 100000 in
set_option maxHeartbeats 4000000 in
theorem radd_any (h : RfAt w pf R S) {a : An} {ea : Option Addr} {el ec : Nat} (he : EntsAt w ea el ec a.ents) (hl0 : 0 ≤ S.last) (hl1 : S.last ≤ 1000000) (hgl : R.G.length ≤ 1000000) :
    Calls Tryz.prog 270 #[.pointer (some ⟨pf, 0, none⟩), a.v ea el ec] w fun e w' => e = .returned (.int .i64 (S.last + 1)) ∧ ∃ R', RfAt w' pf R' (S.add a) ∧ Stp (R.F pf) (R'.F pf) w w' ∧ Rf.Like R R' ∧ R'.dv = R.dv := by
  obtain ⟨h1, hM1⟩ := h.setLast (S.last + 1)
  have hb1 := (Below.refl _ (w.setCell ⟨pf, 2, none⟩ (.int .i64 (S.last + 1)))).alloc (Nat.le_refl _) (.cells #[.int .i64 (S.last + 1), .int .i64 a.dev, .int .i64 a.kind, .int .i64 a.mode, .int .i64 a.uid, .int .i64 a.gid, .int .i64 a.mtime, .int .i64 a.ctime, .int .i64 a.links, .int .i64 a.up, .string a.data, .slice ea el ec] 49)
  have h2 := h1.keep hb1
  have hq2 := Blk.new (w.setCell ⟨pf, 2, none⟩ (.int .i64 (S.last + 1))) #[.int .i64 (S.last + 1), .int .i64 a.dev, .int .i64 a.kind, .int .i64 a.mode, .int .i64 a.uid, .int .i64 a.gid, .int .i64 a.mtime, .int .i64 a.ctime, .int .i64 a.links, .int .i64 a.up, .string a.data, .slice ea el ec] 49
  rw [World.size_setCell] at hq2
  have hne : pf ≠ w.heap.size := fun e => by have := h.blk.lt; omega
  have hst := hM1.trans (Mod.of_below hb1)
  have he2 := he.rf h (Stp.of_mod hst)
  have hF : ¬ R.F pf w.heap.size := fun hk => absurd (h.lt hk) (by omega)
  have hsa : S.add a = { S with ns := S.ns ++ [{ a with no := S.last + 1 }], last := S.last + 1 } := rfl
  rw [hsa]
  obtain ⟨pc, pf1, pz⟩ := h.blk.facts
  obtain ⟨na, nc, hnv, hnc1, hnc2⟩ := h.nform
  have mixed : Tryz.prog.follows .mixedOrders = true := by kernel_rfl
  have HX2 := Lib.hid h2
  have HQ2 := Lib.hid hq2
  have HST := Lib.hid hst
  have HE2 := Lib.hid he2
  have hgl2 := hgl
  unfold An.v
  clear he h1 hM1 hb1 h2 hq2 hst he2 hsa
  have hB0 := Blk.new w #[.int .i64 a.no, .int .i64 a.dev, .int .i64 a.kind, .int .i64 a.mode, .int .i64 a.uid, .int .i64 a.gid, .int .i64 a.mtime, .int .i64 a.ctime, .int .i64 a.links, .int .i64 a.up, .string a.data, .slice ea el ec] 49
  obtain ⟨qc, qf, qz⟩ := hB0.facts
  clear hB0 h
  go_enter Tryz.func270, Tryz.ntmps270
  go_upto_region 3 with fail
  generalize (w.setCell ⟨pf, 2, none⟩ (.int .i64 (S.last + 1))).alloc (.cells #[.int .i64 (S.last + 1), .int .i64 a.dev, .int .i64 a.kind, .int .i64 a.mode, .int .i64 a.uid, .int .i64 a.gid, .int .i64 a.mtime, .int .i64 a.ctime, .int .i64 a.links, .int .i64 a.up, .string a.data, .slice ea el ec] 49) = X at HX2 HQ2 HST HE2 ⊢
  clear pc pf1 pz qc qf qz
  have hXz := HST.out.size
  have hb3 : Below X.heap.size X (X.alloc (.cells #[.int .i64 (S.last + 1), .int .i64 a.dev, .int .i64 a.kind, .int .i64 a.mode, .int .i64 a.uid, .int .i64 a.gid, .int .i64 a.mtime, .int .i64 a.ctime, .int .i64 a.links, .int .i64 a.up, .string a.data, .slice ea el ec] 49)).drew := ((Below.refl _ X).alloc (Nat.le_refl _) _).drew
  obtain ⟨g, cap, Y, hrun, hWY, hSY, hbY, hMY⟩ := (HX2.out.keep hb3).appN hgl ⟨X.heap.size, 0, none⟩ ⟨{ a with no := S.last + 1 }, ea, el, ec, 0⟩ (World.news_of_block ((Blk.new X #[.int .i64 (S.last + 1), .int .i64 a.dev, .int .i64 a.kind, .int .i64 a.mode, .int .i64 a.uid, .int .i64 a.gid, .int .i64 a.mtime, .int .i64 a.ctime, .int .i64 a.links, .int .i64 a.up, .string a.data, .slice ea el ec] 49).drew)) (HE2.out.keep hb3)
  have hq2 := HQ2.out
  obtain ⟨xc, xf, xz⟩ := HX2.out.blk.facts
  obtain ⟨yc, yf, yz⟩ := hbY.facts
  obtain ⟨qc, qf, qz⟩ := hq2.facts
  have hq3 : Blk Y w.heap.size #[.int .i64 (S.last + 1), .int .i64 a.dev, .int .i64 a.kind, .int .i64 a.mode, .int .i64 a.uid, .int .i64 a.gid, .int .i64 a.mtime, .int .i64 a.ctime, .int .i64 a.links, .int .i64 a.up, .string a.data, .slice ea el ec] 49 := (hq2.keep hb3).mod hMY (fun hk => hF (.inr (.inl hk)))
  obtain ⟨zc, zf, zz⟩ := hq3.facts
  have HWY := Lib.hid hWY
  have HSY := Lib.hid (((Stp.of_mod HST.out).trans (Stp.of_below hb3)).trans hSY)
  rw [hnv] at xc yc hrun
  clear hWY hSY hMY hbY hq2 hq3
  have HRun := Lib.hid hrun
  clear hrun
  go_cut [] (fun wx => wx = Y.setCell ⟨pf, 0, none⟩ (.slice (some ⟨g, 0, none⟩) (R.G.length + 1) cap))
  case first =>
    have hrun := HRun.out
    go_region_law_o (refine step_app_run rfl rfl rfl rfl hrun ?_)
    all_goals
      go_wp2_with fail
      go_meet
      rfl
  case rest =>
    subst hcut
    clear xc xf xz yc yf yz qc qf qz
    have hne2 : ¬ w.heap.size = pf := fun e => hne e.symm
    go_wp2_with fail
    go_ret
    exact ⟨rfl, _, HWY.out, HSY.out, ⟨rfl, rfl, rfl, rfl⟩, rfl⟩
end

end Go.Proofs.YtihdbncoijhihaaGreat
