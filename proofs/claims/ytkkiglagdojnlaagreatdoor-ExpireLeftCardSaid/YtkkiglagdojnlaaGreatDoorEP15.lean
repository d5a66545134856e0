/- Texts of the proof, part 15. -/
import Derived.Deep.CutBlock
import Derived.Deep.DeepCutAuto
import Derived.RegionTactic
import Derived.BigRegion
import Derived.Test.YtkkiglagdojnlaaGreatDoorEP12
import Derived.Test.YtkkiglagdojnlaaGreatDoorEP14
set_option linter.unusedVariables false
set_option linter.unusedSimpArgs false
/- A trip (layer 15): name.Slash, one step. -/
namespace Go.Proofs.YtkkiglagdojnlaaGreatDoor

open Go.RowKit

set_option maxRecDepth 100000 in
set_option maxHeartbeats 1000000 in
theorem slash_any (s : ByteArray) (w : World) (hs : s.size ≤ 100000) :
    Calls Tryz.prog 214 #[.string s] w fun e w' => e = .returned (.bool (slashB s.data.toList)) ∧ w = w' := by
  have HT := Lib.hid (tail_any s w hs)
  have HS := Lib.hid (show slashB s.data.toList = (segL s.data.toList == [] || segL s.data.toList == [46] || segL s.data.toList == [46, 46]) from rfl)
  generalize segL s.data.toList = t at HT HS
  generalize slashB s.data.toList = b at HS
  have htl : (str t).toList = t := by rw [ba_list, str_list]
  by_cases h1 : t = []
  · subst h1
    have hb : b = true := by rw [HS.out]; rfl
    subst hb
    go_enter Tryz.func214, Tryz.ntmps214
    go_wp2_with (refine HT.out.mono ?_; rintro e w1 ⟨rfl, rfl⟩)
    go_ret
    exact ⟨rfl, rfl⟩
  · have n1 : t.isEmpty = false := by simpa using h1
    by_cases h2 : t = [46]
    · subst h2
      have hb : b = true := by rw [HS.out]; rfl
      subst hb
      go_enter Tryz.func214, Tryz.ntmps214
      go_wp2_with (refine HT.out.mono ?_; rintro e w1 ⟨rfl, rfl⟩)
      go_ret
      exact ⟨rfl, rfl⟩
    · have n2 : (t == [46]) = false := by simpa using h2
      by_cases h3 : t = [46, 46]
      · subst h3
        have hb : b = true := by rw [HS.out]; rfl
        subst hb
        go_enter Tryz.func214, Tryz.ntmps214
        go_wp2_with (refine HT.out.mono ?_; rintro e w1 ⟨rfl, rfl⟩)
        go_ret
        exact ⟨rfl, rfl⟩
      · have n3 : (t == [46, 46]) = false := by simpa using h3
        have hb : b = false := by rw [HS.out, n2, n3]; simpa using h1
        subst hb
        clear h1 h2 h3
        go_enter Tryz.func214, Tryz.ntmps214
        go_wp2_with (refine HT.out.mono ?_; rintro e w1 ⟨rfl, rfl⟩)
        go_ret
        exact ⟨rfl, rfl⟩
/-- a panic passes. -/
def PanicOk (Q : Exit → Act → World → Prop) : Prop := ∀ c d v a w, Q (.panic c) (Act.put a d v) w → Q (.panic c) a w
theorem pk_body {P : Program} {fn : Func} {R : Ending → World → Prop} : PanicOk (bodyPost P fn R) := body_panic
theorem pk_then {K : Act → World → Prop} {Q : Exit → Act → World → Prop} (h : PanicOk Q) : PanicOk (Exit.then K Q) := fun c d v a w hq => h c d v a w hq
theorem pk_block {i : Nat} {Q : Exit → Act → World → Prop} (h : PanicOk Q) : PanicOk (Exit.inBlock i Q) := fun c d v a w hq => h c d v a w hq
theorem pk_scope {Q : Exit → Act → World → Prop} (h : PanicOk Q) : PanicOk (Exit.noGoto Q) := fun c d v a w hq => h c d v a w hq
set_option maxRecDepth 100000 in
theorem keepS_set12 {W w : World} {B : Nat} {v0 v1 v2 v3 v4 v5 v6 v7 v8 v9 v10 v11 : Value} (h : (∀ b o, b < W.heap.size → w.cell? ⟨b, o, none⟩ = W.cell? ⟨b, o, none⟩) ∧ Below W.heap.size W w) (hB : W.heap.size ≤ B) :
    (∀ b o, b < W.heap.size → ((((((((((((w.setCell ⟨B, 0, none⟩ v0).setCell ⟨B, 1, none⟩ v1).setCell ⟨B, 2, none⟩ v2).setCell ⟨B, 3, none⟩ v3).setCell ⟨B, 4, none⟩ v4).setCell ⟨B, 5, none⟩ v5).setCell ⟨B, 6, none⟩ v6).setCell ⟨B, 7, none⟩ v7).setCell ⟨B, 8, none⟩ v8).setCell ⟨B, 9, none⟩ v9).setCell ⟨B, 10, none⟩ v10).setCell ⟨B, 11, none⟩ v11).cell? ⟨b, o, none⟩ = W.cell? ⟨b, o, none⟩) ∧
      Below W.heap.size W ((((((((((((w.setCell ⟨B, 0, none⟩ v0).setCell ⟨B, 1, none⟩ v1).setCell ⟨B, 2, none⟩ v2).setCell ⟨B, 3, none⟩ v3).setCell ⟨B, 4, none⟩ v4).setCell ⟨B, 5, none⟩ v5).setCell ⟨B, 6, none⟩ v6).setCell ⟨B, 7, none⟩ v7).setCell ⟨B, 8, none⟩ v8).setCell ⟨B, 9, none⟩ v9).setCell ⟨B, 10, none⟩ v10).setCell ⟨B, 11, none⟩ v11) :=
  keepS_of (below_set12 h.2 hB)
section

variable {w w' : World} {pw : Nat} {R : Rp} {S : Fs}

theorem step_gone {S : Fs} {c : Cr} {k : Int} {p : List UInt8} (h : S.get k = none) : S.step c k p = (0, 9) := by unfold Fs.step; rw [h]
theorem step_eq {S : Fs} {c : Cr} {k : Int} {p : List UInt8} {d : An} (h : S.get k = some d) : S.step c k p = if d.kind ≠ 1 then (0, 9) else if d.may c 1 = false then (0, 6) else if p = [46, 46] then (S.above k, 0) else if 255 < p.length then (0, 13) else (S.over (entFind d.ents (str p)), 0) := by
  unfold Fs.step; rw [h]
set_option maxRecDepth 100000 in
set_option maxHeartbeats 4000000 in
theorem step_any (h : WdAt w pw R S) {N : Nat} (hk : FsOk S N) (hN : N ≤ 999999) {Bt : Nat} (c : Cr) (k : Int) {ta : Option Addr} {tl tc : Nat} {hops : Int} {must : Bool}
    (hb : Blk w Bt #[.pointer (some ⟨pw, 0, none⟩), .int .i64 c.u, .int .i64 c.g, .int .i64 k, .slice ta tl tc, .int .i64 hops, .bool must] 318) (p : ByteArray) :
    Calls Tryz.prog 215 #[.pointer (some ⟨Bt, 0, none⟩), .string p] w fun e w' => e = .returned (.tuple #[.int .i64 (S.step c k p.data.toList).1, .int .i64 (S.step c k p.data.toList).2]) ∧ Below w.heap.size w w' := by
  have HW := Lib.hid h
  have HK := Lib.hid hk
  have HBT := Lib.hid hb
  have mixed : Tryz.prog.follows .mixedOrders = true := by kernel_rfl
  obtain ⟨bc, bf, bz⟩ := hb.facts
  obtain ⟨pc, -, pz⟩ := h.blk.facts
  have HBC := Lib.hid bc
  have HPC := Lib.hid pc
  clear h hk hb
  cases hg : S.get k with
  | none =>
    have HG := Lib.hid (fun w1 (hb1 : Below w.heap.size w w1) => wget_no (HW.out.keep hb1) hg)
    have HE := Lib.hid (step_gone (c := c) (p := p.data.toList) hg)
    unfold An.v an0 at HG
    clear hg
    go_enter Tryz.func215, Tryz.ntmps215
    go_upto_region 1 with fail
    go_cut [6, 7] (fun t6 t7 wx => ∃ Bd : Nat, t6 = .pointer (some ⟨Bd, 0, none⟩) ∧ t7 = .bool false ∧ Below w.heap.size w wx)
    case first =>
      go_wp2_with fail
      have hzz : w.heap.size ≤ w.heap.size := Nat.le_refl _
      go_region_held3 (fun w' => (∀ b o, b < w.heap.size → w'.cell? ⟨b, o, none⟩ = w.cell? ⟨b, o, none⟩) ∧ Below w.heap.size w w') (first | with_reducible exact keepS_set12 (by assumption) (by assumption) | (first | with_reducible assumption | with_reducible exact keepS_here _ | with_reducible exact keepS_here2 _ | with_reducible exact keepS_call (by assumption) (by assumption) | with_reducible exact keepS_alloc (by assumption) _ | with_reducible exact keepS_allocD (by assumption) _ | with_reducible exact keepS_realloc (by assumption) (by assumption) | with_reducible exact keepS_set4 (by assumption) (by assumption)))
        ((go_at_call 144; ((with_reducible refine (HG.out _ (And.right ‹(∀ b o, b < w.heap.size → _) ∧ Below w.heap.size w _›)).mono ?_); rintro e w4 ⟨rfl, hb5⟩; have hz5 := Nat.le_trans (And.right ‹(∀ b o, b < w.heap.size → _) ∧ Below w.heap.size w _›).size hb5.size; try (have hbq := new_drew hb5; obtain ⟨bqc, bqf, bqz⟩ := hbq.facts))))
      all_goals
        obtain ⟨-, hS4⟩ := ‹_ ∧ Below w.heap.size w _›
        have HS4 := Lib.hid hS4
        clear hS4
        go_wp2_with fail
        go_meet
        exact ⟨_, rfl, rfl, HS4.out⟩
    case rest =>
      obtain ⟨Bd, rfl, rfl, hS⟩ := hcut
      have HB := Lib.hid hS
      clear hS bc bf bz pc pz
      go_wp2_with fail
      go_ret2
      rw [HE.out]
      exact ⟨rfl, HB.out⟩
  | some d =>
    obtain ⟨ea, el, ec, he, hG⟩ := wget_fix HW.out hg
    have HE0 := Lib.hid he
    have HG := Lib.hid hG
    have HQ := Lib.hid (step_eq (c := c) (p := p.data.toList) hg)
    have HHG := Lib.hid hg
    have hfew : el ≤ 1000000 := by rw [← he.len]; exact Nat.le_trans (HK.out.get hg).1.few (by omega)
    have HFew := Lib.hid hfew
    unfold An.v at HG
    clear hg he hG hfew
    go_enter Tryz.func215, Tryz.ntmps215
    go_upto_region 1 with fail
    go_cut [6, 7] (fun t6 t7 wx => ∃ Bd : Nat, t6 = .pointer (some ⟨Bd, 0, none⟩) ∧ t7 = .bool true ∧ Blk wx Bd #[.int .i64 d.no, .int .i64 d.dev, .int .i64 d.kind, .int .i64 d.mode, .int .i64 d.uid, .int .i64 d.gid, .int .i64 d.mtime, .int .i64 d.ctime, .int .i64 d.links, .int .i64 d.up, .string d.data, .slice ea el ec] 170 ∧ Below w.heap.size w wx)
    case first =>
      go_wp2_with fail
      have hzz : w.heap.size ≤ w.heap.size := Nat.le_refl _
      go_region_held3 (fun w' => (∀ b o, b < w.heap.size → w'.cell? ⟨b, o, none⟩ = w.cell? ⟨b, o, none⟩) ∧ Below w.heap.size w w') (first | with_reducible exact keepS_set12 (by assumption) (by assumption) | (first | with_reducible assumption | with_reducible exact keepS_here _ | with_reducible exact keepS_here2 _ | with_reducible exact keepS_call (by assumption) (by assumption) | with_reducible exact keepS_alloc (by assumption) _ | with_reducible exact keepS_allocD (by assumption) _ | with_reducible exact keepS_realloc (by assumption) (by assumption) | with_reducible exact keepS_set4 (by assumption) (by assumption)))
        ((go_at_call 144; ((with_reducible refine (HG.out _ (And.right ‹(∀ b o, b < w.heap.size → _) ∧ Below w.heap.size w _›)).mono ?_); rintro e w4 ⟨rfl, hb5⟩; have hz5 := Nat.le_trans (And.right ‹(∀ b o, b < w.heap.size → _) ∧ Below w.heap.size w _›).size hb5.size; try (have hbq := new_drew hb5; obtain ⟨bqc, bqf, bqz⟩ := hbq.facts))))
      all_goals
        obtain ⟨-, hS4⟩ := ‹_ ∧ Below w.heap.size w _›
        have HS4 := Lib.hid hS4
        try (have HQ4 := Lib.hid hbq)
        clear hS4
        go_wp2_with fail
        go_meet
        exact ⟨_, rfl, rfl, by first | exact HQ4.out.set12 | exact Blk.new _ _ _, HS4.out⟩
    case rest =>
      obtain ⟨Bd, rfl, rfl, hDX, hbX⟩ := hcut
      generalize wc = X at hDX hbX ⊢
      have HBX := Lib.hid hbX
      have HDX := Lib.hid hDX
      have hTX := HBT.out.keep hbX
      clear bc bf bz
      obtain ⟨bc, bf, bz⟩ := hTX.facts
      obtain ⟨dc, df, dz⟩ := hDX.facts
      clear hbX hDX hTX pc
      by_cases h1 : d.kind = 1
      · have h1' : (d.kind != 1) = false := by simpa using h1
        have HQ1 := Lib.hid (HQ.out.trans (if_neg (by simp [h1])))
        have HNd := Lib.hid (fun w => pnode_any c d ea el ec 1 w)
        unfold Cr.v An.v at HNd
        clear h1 HQ
        go_wp2_with fail
        refine wp_region_lex 5 mixed (by kernel_rfl) (show PanicOk _ from by repeat (first | exact pk_body | refine pk_then ?_ | refine pk_block ?_)) ?_
        simp only [List.take_succ_cons, List.take_zero, List.drop_succ_cons, List.drop_zero]
        repeat still_step
        refine wpStill_nil ?_
        go_wp2_with fail
        refine (HNd.out _).mono ?_
        rintro e w2 ⟨rfl, hb2⟩
        have hb3 := HBX.out.drew.trans (hb2.mono HBX.out.size)
        have HB2 := Lib.hid hb3
        have hT2 := HBT.out.keep hb3
        have hD2 := HDX.out.drew.keep hb2
        have HD2 := Lib.hid hD2
        have pc2 : w2.cell? ⟨pw, 0, none⟩ = some (.pointer (some ⟨R.pt, 0, none⟩)) := (hb3.cell (p := ⟨pw, 0, none⟩) pz).trans (HPC.out 0)
        clear bc bf bz dc df dz hb2
        obtain ⟨bc, bf, bz⟩ := hT2.facts
        obtain ⟨dc, df, dz⟩ := hD2.facts
        clear hT2 hD2 hb3
        cases hm : d.may c 1 with
        | false =>
          have HE := Lib.hid (HQ1.out.trans (if_pos hm))
          clear hm
          go_wp2_with fail
          go_ret2
          rw [HE.out]
          exact ⟨rfl, HB2.out⟩
        | true =>
          have HQ2 := Lib.hid (HQ1.out.trans (if_neg (by rw [hm]; decide)))
          clear hm HQ1
          by_cases h2 : p.data.toList = [46, 46]
          · have h2' : p.toList = [46, 46] := by rw [ba_list]; exact h2
            have HE := Lib.hid (HQ2.out.trans (if_pos h2))
            have HAb := Lib.hid (fun w1 (hb1 : Below w.heap.size w w1) => wabove_any (HW.out.keep hb1) HK.out k)
            clear h2 HQ2
            go_wp2_with fail
            refine wp_region_lex 8 mixed (by kernel_rfl) (show PanicOk _ from by repeat (first | exact pk_body | refine pk_then ?_ | refine pk_block ?_)) ?_
            simp only [List.take_succ_cons, List.take_zero, List.drop_succ_cons, List.drop_zero]
            repeat still_step
            refine wpStill_nil ?_
            go_wp2_with fail
            refine (HAb.out _ HB2.out.drew).mono ?_
            rintro e w3 ⟨rfl, hb3⟩
            have HB3 := Lib.hid (HB2.out.drew.trans (hb3.mono HB2.out.size))
            clear hb3
            go_wp2_with fail
            go_ret2
            rw [HE.out]
            exact ⟨rfl, HB3.out⟩
          · have h2' : (p.toList == [46, 46]) = false := by rw [ba_list]; simpa using h2
            have HQ3 := Lib.hid (HQ2.out.trans (if_neg h2))
            have hpl : p.data.toList.length = p.size := Array.length_toList
            clear h2 HQ2
            by_cases h3 : 255 < p.size
            · have HE := Lib.hid (HQ3.out.trans (if_pos (by rw [hpl]; exact h3)))
              have h3' : (255 : Int) < (p.size : Int) := by omega
              clear hpl
              go_wp2_with fail
              go_ret2
              rw [HE.out]
              exact ⟨rfl, HB2.out⟩
            · have HE := Lib.hid (HQ3.out.trans (if_neg (by rw [hpl]; exact h3)))
              rw [str_of] at HE
              have h3' : ¬ (255 : Int) < (p.size : Int) := by omega
              have HF := Lib.hid (fun w1 (hb1 : Below w.heap.size w w1) => efind_any d.ents ea el ec p w1 (HE0.out.keep hb1) (HK.out.get HHG.out).1.rise HFew.out)
              have HOv := Lib.hid (fun w1 (hb1 : Below w.heap.size w w1) => wover_any (HW.out.keep hb1) HK.out.d1 (entFind d.ents p))
              clear hpl HQ3 h3
              generalize entFind d.ents p = f at HE HF HOv
              go_wp2_with fail
              have hzz : w2.heap.size ≤ w2.heap.size := Nat.le_refl _
              have hsz2 := HB2.out.size
              go_region_held3 (fun w' => (∀ b o, b < w2.heap.size → w'.cell? ⟨b, o, none⟩ = w2.cell? ⟨b, o, none⟩) ∧ Below w2.heap.size w2 w') (first | with_reducible assumption | with_reducible exact keepS_here _ | with_reducible exact keepS_here2 _ | with_reducible exact keepS_call (by assumption) (by assumption) | with_reducible exact keepS_alloc (by assumption) _ | with_reducible exact keepS_allocD (by assumption) _ | with_reducible exact keepS_realloc (by assumption) (by assumption) | with_reducible exact keepS_set4 (by assumption) (by assumption))
                ((first | (go_at_call 145; ((with_reducible refine (HF.out _ (HB2.out.trans ((And.right ‹(∀ b o, b < w2.heap.size → _) ∧ Below w2.heap.size w2 _›).mono hsz2))).mono ?_); rintro e w4 ⟨rfl, hb5⟩)) | (go_at_call 134; ((with_reducible refine (HOv.out _ (HB2.out.trans ((And.right ‹(∀ b o, b < w2.heap.size → _) ∧ Below w2.heap.size w2 _›).mono hsz2))).mono ?_); rintro e w4 ⟨rfl, hb5⟩))))
              all_goals
                obtain ⟨-, hS4⟩ := ‹_ ∧ Below w2.heap.size w2 _›
                have HB4 := Lib.hid (HB2.out.trans (hS4.mono hsz2))
                clear hS4
                go_wp2_with fail
                go_ret2
                rw [HE.out]
                exact ⟨rfl, HB4.out⟩
      · have h1' : (d.kind != 1) = true := by simpa using h1
        have HE := Lib.hid (HQ.out.trans (if_pos h1))
        clear h1
        go_wp2_with fail
        go_ret2
        rw [HE.out]
        exact ⟨rfl, HBX.out⟩
end

end Go.Proofs.YtkkiglagdojnlaaGreatDoor

/- A node comes under one name more (layer 17): Hard. -/
namespace Go.Proofs.YtkkiglagdojnlaaGreatDoor

open Go.RowKit

section

variable {w w' : World} {pw : Nat} {R : Rp} {S : Fs}

theorem hard_no {S : Fs} {c : Cr} {now no dir : Int} {s : ByteArray} (h : S.placeE c dir s ≠ 0) : S.hard c now no dir s = (S, S.placeE c dir s) := by unfold Fs.hard; rw [if_pos h]
theorem hard_gone {S : Fs} {c : Cr} {now no dir : Int} {s : ByteArray} {d : An} (h : S.placeE c dir s = 0) (hg : S.get dir = some d) (hn : S.get no = none) : S.hard c now no dir s = (S, 5) := by
  unfold Fs.hard; rw [if_neg (by simp [h]), hg, hn]
theorem hard_eq {S : Fs} {c : Cr} {now no dir : Int} {s : ByteArray} {d n : An} (h : S.placeE c dir s = 0) (hg : S.get dir = some d) (hn : S.get no = some n) : S.hard c now no dir s =
    if n.kind = 1 then (S, 4) else if entFind d.ents s ≠ 0 then (S, 7) else if n.dev ≠ d.dev then (S, 11) else if 1000 ≤ n.links then (S, 18)
    else ((S.set { n with links := n.links + 1, ctime := now }).touch now dir (entPut d.ents s no), 0) := by
  unfold Fs.hard; rw [if_neg (by simp [h]), hg, hn]
theorem place_dir {S : Fs} {c : Cr} {dir : Int} {s : ByteArray} {d : An} (h : S.placeE c dir s = 0) (hg : S.get dir = some d) : d.kind = 1 := by
  unfold Fs.placeE at h
  rw [hg] at h
  simp only at h
  by_cases hk : d.kind = 1
  · exact hk
  · rw [if_pos hk] at h; cases h
set_option maxRecDepth 100000 in
set_option maxHeartbeats 4000000 in
theorem hard_any (h : WdAt w pw R S) {N : Nat} (hk : FsOk S N) (hN : N ≤ 999999) (c : Cr) (now no dir : Int) (s : ByteArray) (hs : s.size ≤ 9223372036854775807) :
    Calls Tryz.prog 168 #[.pointer (some ⟨pw, 0, none⟩), .agg #[.int .i64 c.u, .int .i64 c.g], .int .i64 now, .int .i64 no, .int .i64 dir, .string s] w fun e w' =>
      e = .returned (.int .i64 (S.hard c now no dir s).2) ∧ ∃ R', WdAt w' pw R' (S.hard c now no dir s).1 ∧ Stp (R.F pw) (R'.F pw) w w' := by
  have HP := Lib.hid (fun w1 (hb1 : Below w.heap.size w w1) => place_any (h.keep hb1) hk c dir s hs)
  have HW := Lib.hid h
  have HK := Lib.hid hk
  have mixed : Tryz.prog.follows .mixedOrders = true := by kernel_rfl
  obtain ⟨pc, -, pz⟩ := h.blk.facts
  have HPC := Lib.hid (fun w1 (hb1 : Below w.heap.size w w1) => show w1.cell? ⟨pw, 0, none⟩ = some (.pointer (some ⟨R.pt, 0, none⟩)) from (hb1.cell (p := ⟨pw, 0, none⟩) pz).trans (pc 0))
  clear h hk
  go_enter Tryz.func168, Tryz.ntmps168
  go_wp2_with fail
  refine (HP.out _ (balloc (Below.refl _ _) _)).mono ?_
  clear HP pc pz
  rintro e w1 ⟨⟨h0, rfl⟩ | ⟨h0, d, ea, el, ec, hg, rfl, he⟩, hb1⟩
  · have hbX := bnext (balloc (Below.refl w.heap.size w) _) hb1
    have HB := Lib.hid hbX
    have HC := Lib.hid (hard_no (now := now) (no := no) h0)
    have hz : (S.placeE c dir s == 0) = false := by simpa using h0
    generalize S.placeE c dir s = pe at HC hz ⊢
    unfold An.v an0
    clear h0 hb1 hbX
    go_wp2_with fail
    go_ret
    rw [HC.out]
    exact ⟨rfl, R, HW.out.keep (balloc HB.out _), Stp.of_below (balloc HB.out _)⟩
  · have hbX := balloc hb1 (.cells #[.int .i64 d.no, .int .i64 d.dev, .int .i64 d.kind, .int .i64 d.mode, .int .i64 d.uid, .int .i64 d.gid, .int .i64 d.mtime, .int .i64 d.ctime, .int .i64 d.links, .int .i64 d.up, .string d.data, .slice ea el ec] 170)
    have hDX := Blk.new w1 #[.int .i64 d.no, .int .i64 d.dev, .int .i64 d.kind, .int .i64 d.mode, .int .i64 d.uid, .int .i64 d.gid, .int .i64 d.mtime, .int .i64 d.ctime, .int .i64 d.links, .int .i64 d.up, .string d.data, .slice ea el ec] 170
    have hsz1 := hb1.size
    have HE := Lib.hid he
    have HG := Lib.hid hg
    have HKD := Lib.hid (place_dir h0 hg)
    have H0 := Lib.hid h0
    unfold An.v
    clear h0 hb1 he hg
    go_upto_region 2 with fail
    generalize w1.alloc (.cells #[.int .i64 d.no, .int .i64 d.dev, .int .i64 d.kind, .int .i64 d.mode, .int .i64 d.uid, .int .i64 d.gid, .int .i64 d.mtime, .int .i64 d.ctime, .int .i64 d.links, .int .i64 d.up, .string d.data, .slice ea el ec] 170) = X at hbX hDX ⊢
    have pcX := HPC.out X (bnext (balloc (Below.refl _ _) _) hbX)
    have HBX := Lib.hid hbX
    have HDX := Lib.hid hDX
    have hsX : w1.heap.size < X.heap.size := hDX.lt
    clear hbX hDX
    cases hn : S.get no with
    | none =>
      have HG0 := Lib.hid (wget_no (HW.out.keep (bnext (balloc (Below.refl _ _) _) HBX.out)) hn)
      have HZ := Lib.hid (hard_gone (now := now) H0.out HG.out hn)
      unfold An.v an0 at HG0
      clear hn
      go_wp2_with fail
      refine HG0.out.mono ?_
      rintro e w2 ⟨rfl, hb2⟩
      have HB := Lib.hid (balloc (HBX.out.trans (hb2.mono HBX.out.size)) (.cells #[.int .i64 0, .int .i64 0, .int .i64 0, .int .i64 0, .int .i64 0, .int .i64 0, .int .i64 0, .int .i64 0, .int .i64 0, .int .i64 0, .string ByteArray.empty, .slice none 0 0] 170))
      clear hb2
      go_wp2_with fail
      go_ret
      rw [HZ.out]
      exact ⟨rfl, R, HW.out.keep (bnext (balloc (Below.refl _ _) _) HB.out), Stp.of_below (bnext (balloc (Below.refl _ _) _) HB.out)⟩
    | some n =>
      obtain ⟨na, nl, nc, hne, hNG⟩ := wget_fix HW.out hn
      have HNG := Lib.hid (hNG X (bnext (balloc (Below.refl _ _) _) HBX.out))
      have HQ := Lib.hid (hard_eq (now := now) H0.out HG.out hn)
      have HHN := Lib.hid hn
      have HNE := Lib.hid hne
      unfold An.v at HNG
      clear hn hNG hne
      go_wp2_with fail
      refine HNG.out.mono ?_
      rintro e w2 ⟨rfl, hb2⟩
      have hbY := balloc (HBX.out.trans (hb2.mono HBX.out.size)) (.cells #[.int .i64 n.no, .int .i64 n.dev, .int .i64 n.kind, .int .i64 n.mode, .int .i64 n.uid, .int .i64 n.gid, .int .i64 n.mtime, .int .i64 n.ctime, .int .i64 n.links, .int .i64 n.up, .string n.data, .slice na nl nc] 170)
      have hDY := (HDX.out.keep hb2).old (.cells #[.int .i64 n.no, .int .i64 n.dev, .int .i64 n.kind, .int .i64 n.mode, .int .i64 n.uid, .int .i64 n.gid, .int .i64 n.mtime, .int .i64 n.ctime, .int .i64 n.links, .int .i64 n.up, .string n.data, .slice na nl nc] 170)
      have hNY := Blk.new w2 #[.int .i64 n.no, .int .i64 n.dev, .int .i64 n.kind, .int .i64 n.mode, .int .i64 n.uid, .int .i64 n.gid, .int .i64 n.mtime, .int .i64 n.ctime, .int .i64 n.links, .int .i64 n.up, .string n.data, .slice na nl nc] 170
      have hsz2 : (w.alloc (.cells #[.int .i64 c.u, .int .i64 c.g] 54)).heap.size ≤ w2.heap.size := by have := hb2.size; omega
      have hne : w2.heap.size ≠ w1.heap.size := by have := hb2.size; omega
      have hlk := (HK.out.get HHN.out).1.links
      clear hb2 pcX
      go_upto_region 5 with fail
      generalize w2.alloc (.cells #[.int .i64 n.no, .int .i64 n.dev, .int .i64 n.kind, .int .i64 n.mode, .int .i64 n.uid, .int .i64 n.gid, .int .i64 n.mtime, .int .i64 n.ctime, .int .i64 n.links, .int .i64 n.up, .string n.data, .slice na nl nc] 170) = Y at hbY hDY hNY ⊢
      obtain ⟨hdo, -, -, -⟩ := HK.out.get HG.out
      have heY := HE.out.keep hbY
      have hfew : el ≤ 1000000 := by rw [← HE.out.len]; exact Nat.le_trans hdo.few (by omega)
      have HF := Lib.hid (efind_any d.ents ea el ec s Y heY hdo.rise hfew)
      have HFew := Lib.hid hfew
      obtain ⟨kc, kf, kz⟩ := hNY.facts
      obtain ⟨dc, df, dz⟩ := hDY.facts
      have HBY := Lib.hid hbY
      have HDY := Lib.hid hDY
      have HNY := Lib.hid hNY
      clear hbY hDY hNY heY hdo hfew
      by_cases h1 : n.kind = 1
      · have h1' : (n.kind == 1) = true := by simpa using h1
        have HZ := Lib.hid (HQ.out.trans (if_pos h1))
        clear h1
        go_wp2_with fail
        go_ret
        rw [HZ.out]
        exact ⟨rfl, R, HW.out.keep (bnext (balloc (Below.refl _ _) _) HBY.out), Stp.of_below (bnext (balloc (Below.refl _ _) _) HBY.out)⟩
      have h1' : (n.kind == 1) = false := by simpa using h1
      have HQ1 := Lib.hid (HQ.out.trans (if_neg h1))
      have HK1 := Lib.hid h1
      clear h1 HQ
      go_wp2_with fail
      refine HF.out.mono ?_
      rintro e w3 ⟨rfl, hb3⟩
      have HB3 := Lib.hid (HBY.out.trans (hb3.mono HBY.out.size))
      have HD3 := Lib.hid (HDY.out.keep hb3)
      have HN3 := Lib.hid (HNY.out.keep hb3)
      have hD3 := HD3.out
      have hN3 := HN3.out
      clear hb3 kc kf kz dc df dz HF
      obtain ⟨kc, kf, kz⟩ := hN3.facts
      obtain ⟨dc, df, dz⟩ := hD3.facts
      clear hN3 hD3
      by_cases hf : entFind d.ents s = 0
      · have hfz : (entFind d.ents s != 0) = false := by simpa using hf
        have HQ2 := Lib.hid (HQ1.out.trans (if_neg (by simp [hf])))
        have HF0 := Lib.hid hf
        clear hf HQ1
        generalize entFind d.ents s = f at hfz ⊢
        by_cases h2 : n.dev = d.dev
        · have h2' : (n.dev != d.dev) = false := by simpa using h2
          have HQ3 := Lib.hid (HQ2.out.trans (if_neg (by simp [h2])))
          clear h2 HQ2
          by_cases h3 : 1000 ≤ n.links
          · have HZ := Lib.hid (HQ3.out.trans (if_pos h3))
            go_wp2_with fail
            go_ret
            rw [HZ.out]
            exact ⟨rfl, R, HW.out.keep (bnext (balloc (Below.refl _ _) _) HB3.out), Stp.of_below (bnext (balloc (Below.refl _ _) _) HB3.out)⟩
          · have HZ := Lib.hid (HQ3.out.trans (if_neg h3))
            clear HQ3
            go_wp2_with fail
            have hDZ := ((HD3.out.setOther ⟨w2.heap.size, 8, none⟩ (.int .i64 (n.links + 1)) hne).setOther ⟨w2.heap.size, 7, none⟩ (.int .i64 now) hne).drew
            have hNZ := (HN3.out.set 8 (.int .i64 (n.links + 1))).set 7 (.int .i64 now)
            have hbZ : Below (w.alloc (.cells #[.int .i64 c.u, .int .i64 c.g] 54)).heap.size (w.alloc (.cells #[.int .i64 c.u, .int .i64 c.g] 54)) ((w3.setCell ⟨w2.heap.size, 8, none⟩ (.int .i64 (n.links + 1))).setCell ⟨w2.heap.size, 7, none⟩ (.int .i64 now)) := (HB3.out.setCell hsz2 _).setCell hsz2 _
            generalize (w3.setCell ⟨w2.heap.size, 8, none⟩ (.int .i64 (n.links + 1))).setCell ⟨w2.heap.size, 7, none⟩ (.int .i64 now) = Z at hDZ hNZ hbZ ⊢
            obtain ⟨q0, q1, q2, q3, q4, q5, q6, q7, q8, q9, q10, q11⟩ := Blk.cells12 (x0 := .int .i64 n.no) hNZ
            have pc0 := HPC.out Z (bnext (balloc (Below.refl _ _) _) hbZ)
            have hWZ := HW.out.keep (bnext (balloc (Below.refl _ _) _) hbZ.drew)
            have HSet := Lib.hid (hWZ.setN { n with links := n.links + 1, ctime := now } (HNE.out.keep (bnext (balloc (Below.refl _ _) _) hbZ.drew)) (b := n) (by rw [show ({ n with links := n.links + 1, ctime := now } : An).no = n.no from rfl, an_no HHN.out]; exact HHN.out))
            have HWZ := Lib.hid hWZ
            have HEZ := Lib.hid (HE.out.keep hbZ.drew)
            have HDZ := Lib.hid hDZ
            have HBZ := Lib.hid hbZ
            unfold An.v at HSet
            clear hDZ hNZ hbZ hWZ kc kf kz dc df dz
            refine wp_region_lex 5 mixed (by kernel_rfl) then_panic ?_
            simp only [List.take_succ_cons, List.take_zero, List.drop_succ_cons, List.drop_zero]
            repeat still_step
            refine wpStill_nil ?_
            go_wp2_with fail
            refine HSet.out.mono ?_
            rintro e w5 ⟨rfl, R5, hR5, hS5, -, -⟩
            have hd5 := HDZ.out.wd HWZ.out hS5 rfl
            have he5 := HEZ.out.wd HWZ.out hS5
            have hg5 : (S.set { n with links := n.links + 1, ctime := now }).get dir = some d := by
              rw [an_set (a := { n with links := n.links + 1, ctime := now }) (b := n) (by rw [show ({ n with links := n.links + 1, ctime := now } : An).no = n.no from rfl, an_no HHN.out]; exact HHN.out), if_neg]
              · exact HG.out
              · intro hdn
                have : dir = no := hdn.trans (show n.no = no from an_no HHN.out)
                have h4 := HG.out
                rw [this, HHN.out] at h4
                injection h4 with h4
                exact HK1.out (by rw [h4]; exact HKD.out)
            have HPut := Lib.hid (eput_new d.ents ea el ec s no w5 he5 (HK.out.get HG.out).1.rise HFew.out (find_has (HK.out.get HG.out).1.nz HF0.out))
            have HTo := Lib.hid (fun l a n c w6 (hb6 : Below w5.heap.size w5 w6) (hl : EntsAt w6 a n c l) => touch_any (hR5.keep hb6) dir now d hg5 l a n c hl)
            have HST := Lib.hid ((Stp.of_below (bnext (balloc (Below.refl _ _) _) HBZ.out.drew)).trans hS5)
            obtain ⟨dc, df, dz⟩ := hd5.facts
            clear hd5 he5 hg5 hR5 hS5 pc0 q0 q1 q2 q3 q4 q5 q6 q7 q8 q9 q10 q11
            go_wp2_with fail
            refine HPut.out.mono ?_
            rintro e w6 ⟨⟨a', n', c', rfl, he6⟩, hb6⟩
            have HT := Lib.hid (HTo.out _ _ _ _ w6 hb6 he6)
            have HB6 := Lib.hid hb6
            clear he6 hb6 HTo HPut
            go_wp2_with fail
            refine HT.out.mono ?_
            rintro e w7 ⟨rfl, R7, hR7, hS7⟩
            have HR7 := Lib.hid (And.intro hR7 hS7)
            clear hR7 hS7 HT
            go_wp2_with fail
            go_ret
            rw [HZ.out]
            exact ⟨rfl, R7, HR7.out.1, (HST.out.trans (Stp.of_below HB6.out)).trans HR7.out.2⟩
        · have h2' : (n.dev != d.dev) = true := by simpa using h2
          have HZ := Lib.hid (HQ2.out.trans (if_pos h2))
          clear h2 HQ2
          go_wp2_with fail
          go_ret
          rw [HZ.out]
          exact ⟨rfl, R, HW.out.keep (bnext (balloc (Below.refl _ _) _) HB3.out), Stp.of_below (bnext (balloc (Below.refl _ _) _) HB3.out)⟩
      · have hfz : (entFind d.ents s != 0) = true := by simpa using hf
        have HZ := Lib.hid (HQ1.out.trans (if_pos hf))
        clear hf HQ1
        generalize entFind d.ents s = f at hfz ⊢
        go_wp2_with fail
        go_ret
        rw [HZ.out]
        exact ⟨rfl, R, HW.out.keep (bnext (balloc (Below.refl _ _) _) HB3.out), Stp.of_below (bnext (balloc (Below.refl _ _) _) HB3.out)⟩
end

end Go.Proofs.YtkkiglagdojnlaaGreatDoor

/- A tree with a clock, whose changes may fail (layer 21): how it lies; none, read, change. -/
namespace Go.Proofs.YtkkiglagdojnlaaGreatDoor

open Go.RowKit

def fltC (x : Int × Int) : List Value := [.int .i64 x.1, .int .i64 x.2]
theorem fltC_len (x : Int × Int) : (fltC x).length = 2 := rfl
def fltR (cs : List Value) (x : Int × Int) : Prop := cs = fltC x
/-- the tree Y lies at pf, its world at pw. -/
structure SyAt (w : World) (pf pw : Nat) (R : Rp) (pv : Value) (Y : Sy) : Prop where
  blk : Blk w pf #[.pointer (some ⟨pw, 0, none⟩), .int .i64 Y.now, .int .i64 Y.count, pv, .bool Y.dead] 105
  wd : WdAt w pw R Y.fs
  plan : w.ownsRow 0 168 2 pv Y.plan.length (Y.plan.flatMap fltC)
/-- the blocks that may turn. -/
def Rp.Y (R : Rp) (pf pw : Nat) (k : Nat) : Prop := k = pf ∨ R.F pw k
section

variable {w w' : World} {pf pw : Nat} {R : Rp} {pv : Value} {Y : Sy}

theorem SyAt.keep (h : SyAt w pf pw R pv Y) (hb : Below w.heap.size w w') : SyAt w' pf pw R pv Y :=
  ⟨h.blk.keep hb, h.wd.keep hb, own_below h.plan hb (Nat.le_refl _)⟩
theorem SyAt.apart (h : SyAt w pf pw R pv Y) {k : Nat} (hk : R.F pw k) : k ≠ pf := by
  rintro rfl
  obtain ⟨o, ho, hd⟩ := h.wd.kind hk
  have hb := h.blk
  unfold Blk at hb
  rw [hb] at ho
  injection ho with ho
  subst ho
  cases hd
theorem SyAt.plan_apart (h : SyAt w pf pw R pv Y) {k : Nat} (hk : R.Y pf pw k) : pv.ownBlock ≠ some k := by
  intro he
  obtain ⟨-, cur, hc⟩ := own_obj1 h.plan he
  rcases hk with rfl | hk
  · have hb := h.blk
    unfold Blk at hb
    rw [hb] at hc
    cases hc
  · obtain ⟨o, ho, hd⟩ := h.wd.kind hk
    rw [hc] at ho
    injection ho with ho
    subst ho
    cases hd
/-- the world has turned. -/
theorem SyAt.step (h : SyAt w pf pw R pv Y) {R' : Rp} {S : Fs} (hw : WdAt w' pw R' S) (hs : Stp (R.F pw) (R'.F pw) w w') : SyAt w' pf pw R' pv { Y with fs := S } :=
  ⟨h.blk.mod hs.mod (fun hk => h.apart hk rfl), hw, own_mod h.plan hs.mod (fun k hk => h.plan_apart (.inr hk))⟩
/-- the clock, the count, the plan, the dead mark have turned. -/
theorem SyAt.turnF (h : SyAt w pf pw R pv Y) (hm : Mod (fun k => k = pf) w w') {Z : Sy} (hz : Z.fs = Y.fs) (hp : Z.plan = Y.plan) (hb : Blk w' pf #[.pointer (some ⟨pw, 0, none⟩), .int .i64 Z.now, .int .i64 Z.count, pv, .bool Z.dead] 105) : SyAt w' pf pw R pv Z :=
  ⟨hb, by rw [hz]; exact h.wd.mod hm (fun k o hk ho => by
      subst hk
      have hb := h.blk
      unfold Blk at hb
      rw [hb] at ho
      injection ho with ho
      subst ho
      exact ⟨rfl, fun cur e => by cases e⟩),
    by rw [hp]; exact own_mod h.plan hm (fun k hk => h.plan_apart (.inl hk))⟩
theorem stpY {R R' : Rp} {pf pw : Nat} {w w' : World} (h : Stp (R.F pw) (R'.F pw) w w') : Stp (R.Y pf pw) (R'.Y pf pw) w w' :=
  ⟨h.mod.mono (fun k hk => .inr hk), fun k hk => hk.elim (fun e => .inl (.inl e)) (fun hk => (h.new k hk).imp .inr id)⟩
theorem stpF {R : Rp} {pf pw : Nat} {w w' : World} (h : Mod (fun k => k = pf) w w') : Stp (R.Y pf pw) (R.Y pf pw) w w' := Stp.of_mod (h.mono (fun k hk => .inl hk))
theorem snone_any (h : SyAt w pf pw R pv Y) :
    Calls Tryz.prog 74 #[.pointer (some ⟨pf, 0, none⟩)] w fun e w' => e = .returned (.bool false) ∧ w = w' := by
  obtain ⟨pc, -, -⟩ := h.blk.facts
  clear h
  go_enter Tryz.func74, Tryz.ntmps74
  go_wp2_with fail
  go_ret
  exact ⟨rfl, rfl⟩
theorem sread_any (h : SyAt w pf pw R pv Y) :
    Calls Tryz.prog 82 #[.pointer (some ⟨pf, 0, none⟩)] w fun e w' => e = .returned (.int .i64 (if Y.dead then 20 else 0)) ∧ w = w' := by
  have HN := Lib.hid (snone_any h)
  obtain ⟨pc, -, -⟩ := h.blk.facts
  clear h
  cases hd : Y.dead with
  | true =>
    rw [hd] at pc
    clear hd
    go_enter Tryz.func82, Tryz.ntmps82
    go_wp2_with (refine HN.out.mono ?_; rintro e w1 ⟨rfl, rfl⟩)
    go_ret
    exact ⟨rfl, rfl⟩
  | false =>
    rw [hd] at pc
    clear hd
    go_enter Tryz.func82, Tryz.ntmps82
    go_wp2_with (refine HN.out.mono ?_; rintro e w1 ⟨rfl, rfl⟩)
    go_ret
    exact ⟨rfl, rfl⟩
theorem change_dead (h : Y.dead = true) : Y.change = (Y, 20) := by unfold Sy.change; rw [if_pos h]
theorem change_none (h : Y.dead = false) (hf : ∀ x ∈ Y.plan, x.1 ≠ Y.count + 1) : Y.change = ({ Y with count := Y.count + 1 }, 0) := by
  unfold Sy.change
  rw [if_neg (by simp [h])]
  rw [List.find?_eq_none.2 (by simpa using hf)]
theorem change_at (h : Y.dead = false) {i : Nat} (hi : i < Y.plan.length) (hb : ∀ j (hj : j < Y.plan.length), j < i → Y.plan[j].1 ≠ Y.count + 1) (he : Y.plan[i].1 = Y.count + 1) :
    Y.change = ({ Y with count := Y.count + 1, dead := Y.plan[i].2 == 20 }, Y.plan[i].2) := by
  unfold Sy.change
  rw [if_neg (by simp [h])]
  have : Y.plan.find? (fun x => x.1 == Y.count + 1) = some Y.plan[i] := by
    rw [List.find?_eq_some_iff_getElem]
    exact ⟨by simpa using he, i, hi, rfl, fun j hj => by simpa using hb j (by omega) hj⟩
  rw [this]
set_option maxRecDepth 100000 in
set_option maxHeartbeats 2000000 in
theorem change_any (h : SyAt w pf pw R pv Y) (hc : 0 ≤ Y.count ∧ Y.count ≤ 4611686018427387904) (hl : Y.plan.length ≤ 1000000) :
    Calls Tryz.prog 41 #[.pointer (some ⟨pf, 0, none⟩)] w fun e w' => e = .returned (.int .i64 Y.change.2) ∧ SyAt w' pf pw R pv Y.change.1 ∧ Mod (fun k => k = pf) w w' := by
  have HR := Lib.hid (sread_any h)
  have HY := Lib.hid h
  obtain ⟨hc0, hc1⟩ := hc
  obtain ⟨pc, pf', pz⟩ := h.blk.facts
  cases hd : Y.dead with
  | true =>
    have HE := Lib.hid (change_dead hd)
    rw [hd] at HR
    clear h hd
    go_enter Tryz.func41, Tryz.ntmps41
    go_wp2_with (refine HR.out.mono ?_; rintro e w1 ⟨rfl, rfl⟩)
    go_ret
    rw [HE.out]
    exact ⟨rfl, HY.out, Mod.refl _ _⟩
  | false =>
    rw [hd] at HR pc
    have HD := Lib.hid hd
    obtain ⟨pa, pcap, rfl, hle, h63, hpf⟩ := own_form h.plan
    have hSl := own_slice (R := fltR) (by omega) fltC_len (fun _ => rfl) h.plan
    have HSl := Lib.hid hSl
    have HPf := Lib.hid hpf
    clear h hd hSl hpf
    go_enter Tryz.func41, Tryz.ntmps41
    have hB1 := HY.out.blk
    rw [HD.out] at hB1
    have HB1 := Lib.hid (hB1.set 2 (.int .i64 (Y.count + 1)))
    clear hB1
    go_wp2_with (refine HR.out.mono ?_; rintro e w1 ⟨rfl, rfl⟩)
    go_loopw [23] (fun t23 wr => ∃ k : Nat, k ≤ Y.plan.length ∧ t23 = .int .i64 k ∧ Blk wr pf #[.pointer (some ⟨pw, 0, none⟩), .int .i64 Y.now, .int .i64 (Y.count + 1), .slice pa Y.plan.length pcap, .bool false] 105 ∧ Mod (fun x => x = pf) w wr ∧ (∀ j (hj : j < Y.plan.length), j < k → Y.plan[j].1 ≠ Y.count + 1)) (fun t23 _ => Y.plan.length - (intOf t23).toNat)
    case atStart => exact ⟨0, Nat.zero_le _, rfl, HB1.out, (Mod.refl (fun x => x = pf) w).setCell (a := ⟨pf, 2, none⟩) (.inl rfl) _, fun j _ h => absurd h (Nat.not_lt_zero _)⟩
    case round =>
      obtain ⟨k, hk, rfl, hb, hm, hbef⟩ := hrel
      have HBw := Lib.hid hb
      have HMw := Lib.hid hm
      have HBe := Lib.hid hbef
      obtain ⟨bc, bf, bz⟩ := hb.facts
      have hpl := own_mod HY.out.plan hm (fun k hk => HY.out.plan_apart (.inl hk))
      clear hb hbef
      by_cases hlt : k < Y.plan.length
      · obtain ⟨-, -, -, h0 | ⟨b, off, he, hbl, hel⟩⟩ := own_slice (R := fltR) (by omega) fltC_len (fun _ => rfl) hpl
        · omega
        · subst he
          obtain ⟨cs, e1, e2, e3⟩ := hel k hlt
          unfold fltR at e2
          subst e2
          have c0 := e3 0 (by rw [fltC_len]; omega)
          have c1 := e3 1 (by rw [fltC_len]; omega)
          obtain ⟨fa, fw, hfe⟩ : ∃ fa fw, Y.plan[k] = (fa, fw) := ⟨_, _, rfl⟩
          have HFe := Lib.hid hfe
          have c0' : wr.cell? ⟨b, off + k * 2, none⟩ = some (.int .i64 fa) := by rw [hfe] at c0; exact c0
          have c1' : wr.cell? ⟨b, off + k * 2 + 1, none⟩ = some (.int .i64 fw) := by rw [hfe] at c1; exact c1
          have mixed : Tryz.prog.follows .mixedOrders = true := by kernel_rfl
          clear hel e1 e3 c0 c1 hpl hm hfe
          have hBX := HBw.out.old (.cells #[.int .i64 fa, .int .i64 fw] 168)
          have hMX := HMw.out.alloc (.cells #[.int .i64 fa, .int .i64 fw] 168)
          have hXX := Blk.new wr #[.int .i64 fa, .int .i64 fw] 168
          go_upto_region 8 with fail
          generalize wr.alloc (.cells #[.int .i64 fa, .int .i64 fw] 168) = X at hBX hMX hXX ⊢
          have HBX := Lib.hid hBX
          have HMX := Lib.hid hMX
          obtain ⟨xc, xf, xz⟩ := hXX.facts
          clear bc bf bz c0' c1'
          obtain ⟨bc, bf, bz⟩ := hBX.facts
          clear hBX hMX hXX
          refine wp_region_lex 6 mixed (by kernel_rfl) (show PanicOk _ from by repeat (first | exact pk_body | refine pk_then ?_ | refine pk_block ?_ | refine pk_scope ?_)) ?_
          simp only [List.take_succ_cons, List.take_zero, List.drop_succ_cons, List.drop_zero]
          repeat still_step
          refine wpStill_nil ?_
          by_cases he : fa = Y.count + 1
          · have HE := Lib.hid (change_at HD.out hlt HBe.out (by rw [HFe.out]; exact he))
            rw [HFe.out] at HE
            have heb : (fa == Y.count + 1) = true := by simpa using he
            clear he
            by_cases h20 : fw = 20
            · have h20' : (fw == 20) = true := by simpa using h20
              have HV := Lib.hid (show (fw == 20) = true from h20')
              clear h20
              go_wp2_with fail
              go_ret
              rw [HE.out]
              exact ⟨rfl, HY.out.turnF (HMX.out.drew.setCell (a := ⟨pf, 4, none⟩) (.inl rfl) _) rfl rfl (by dsimp only; rw [HV.out]; exact HBX.out.drew.set 4 _), HMX.out.drew.setCell (a := ⟨pf, 4, none⟩) (.inl rfl) _⟩
            · have h20' : (fw == 20) = false := by simpa using h20
              have HV := Lib.hid (show (fw == 20) = false from h20')
              clear h20
              go_wp2_with fail
              go_ret
              rw [HE.out]
              exact ⟨rfl, HY.out.turnF (HMX.out.drew.setCell (a := ⟨pf, 4, none⟩) (.inl rfl) _) rfl rfl (by dsimp only; rw [HV.out]; exact HBX.out.drew.set 4 _), HMX.out.drew.setCell (a := ⟨pf, 4, none⟩) (.inl rfl) _⟩
          · have heb : (fa == Y.count + 1) = false := by simpa using he
            have HN := Lib.hid he
            clear he
            go_wp2_with fail
            go_roundw
            case rel => exact ⟨k + 1, by omega, by go_num, HBX.out.drew, HMX.out.drew, fun j hj hlt2 => by
              by_cases hjk : j = k
              · subst hjk; rw [HFe.out]; exact HN.out
              · exact HBe.out j hj (by omega)⟩
            case measure => simp [intOf]; omega
      · obtain rfl : k = Y.plan.length := by omega
        have HE := Lib.hid (change_none HD.out (fun x hx => by obtain ⟨j, hj, rfl⟩ := List.mem_iff_getElem.1 hx; exact HBe.out j hj hj))
        clear hm hpl
        go_wp2_with fail
        go_ret
        rw [HE.out]
        exact ⟨rfl, HY.out.turnF HMw.out rfl rfl (by rw [HD.out]; exact HBw.out), HMw.out⟩
end

end Go.Proofs.YtkkiglagdojnlaaGreatDoor
