/- Texts of the proof, part 46. -/
import Derived.Test.YtihdbncoijhihaaGreatDoorTT45
import Derived.Test.YtihdbncoijhihaaGreatDoorTT20
set_option linter.unusedVariables false
set_option linter.unusedSimpArgs false
/- The reference's Operand (layer 29). -/
namespace Go.Proofs.YtihdbncoijhihaaGreatDoor

open Go.RowKit

set_option maxRecDepth 100000 in
set_option maxHeartbeats 1000000 in
theorem roperand_results {tmps : Array Value} {W : World} {B : Nat} {x : Fd} {e : Int} (hb : Blk W B #[.int .i64 x.dir, .string x.name, .int .i64 x.no, .bool x.slash] 58)
    (h8 : tmps.getD 6 undef = .pointer (some ⟨B, 0, none⟩)) (h9 : tmps.getD 7 undef = .int .i64 e) : (results Tryz.f20 tmps).run Tryz.prog W = .ok (.tuple #[x.v, .int .i64 e]) W := by
  have q0 := hb.cell 0
  have q1 := hb.cell 1
  have q2 := hb.cell 2
  have q3 := hb.cell 3
  rw [Array.getD_eq_getD_getElem?] at h8 h9
  simp [results, Tryz.results20, go_sem, Fd.v, h8, h9, q0, q1, q2, q3]
section

variable {w w' : World} {pf : Nat} {R : Rf} {S : Fs}

set_option maxRecDepth 100000 in
set_option maxHeartbeats 4000000 in
theorem roperand_any (h : RfAt w pf R S) {N : Nat} (hk : FsOk S N) (hl : S.ns.length ≤ 100000) (hd : R.dd = .bool false) (c : Cr) (path : ByteArray) (hp : path.size ≤ 100000) :
    Calls Tryz.prog 20 #[.pointer (some ⟨pf, 0, none⟩), .agg #[.int .i64 c.u, .int .i64 c.g], .string path] w fun e w' => e = .returned (.tuple #[(S.operandF c path).1.v, .int .i64 (S.operandF c path).2]) ∧ Below w.heap.size w w' := by
  have hRX : Blk ((w.alloc (.cells #[.int .i64 c.u, .int .i64 c.g] 27)).alloc (.cells #[.int .i64 0, .string ⟨#[]⟩, .int .i64 0, .bool false] 58)) (w.heap.size + 1) #[.int .i64 0, .string ⟨#[]⟩, .int .i64 0, .bool false] 58 := by
    have := Blk.new (w.alloc (.cells #[.int .i64 c.u, .int .i64 c.g] 27)) #[.int .i64 0, .string ⟨#[]⟩, .int .i64 0, .bool false] 58
    rwa [World.size_alloc] at this
  have hCX := (Blk.new w #[.int .i64 c.u, .int .i64 c.g] 27).old (.cells #[.int .i64 0, .string ⟨#[]⟩, .int .i64 0, .bool false] 58)
  have hbX := balloc (balloc (Below.refl w.heap.size w) (.cells #[.int .i64 c.u, .int .i64 c.g] 27)) (.cells #[.int .i64 0, .string ⟨#[]⟩, .int .i64 0, .bool false] 58)
  have HPa := Lib.hid (fun w => rpath_any path w hp)
  have HLa := Lib.hid (fun w => rlast_any path w hp)
  have HTh := Lib.hid (path_there S c path false)
  have HE0 := Lib.hid (show S.operandF c path = if pathE path ≠ 0 then (fd0, pathE path)
    else if lastL path.data.toList = [] then (fd0, 1)
    else if (S.path c path false).2 ≠ 0 then (fd0, (S.path c path false).2)
    else if (S.path c path false).1.no = 0 then (fd0, 5)
    else if (S.path c path false).1.name = ByteArray.empty then (fd0, 1)
    else if S.busy (S.path c path false).1.no = true ∨ S.isRoot (S.path c path false).1.no = true then (fd0, 16)
    else ((S.path c path false).1, 0) from rfl)
  have HF := Lib.hid (fun w1 (hb : Below w.heap.size w w1) => rfind21_any (h.keep hb) hk hd c path hp false)
  have HH := Lib.hid h
  have HK := Lib.hid hk
  generalize S.operandF c path = Z at HE0 ⊢
  generalize S.path c path false = rd at HE0 HF HTh
  generalize pathE path = pe at HPa HE0
  obtain ⟨la, hla⟩ : ∃ x, str (lastL path.data.toList) = x := ⟨_, rfl⟩
  rw [hla] at HLa
  have hle : lastL path.data.toList = [] ↔ la.toList = [] := by
    rw [← hla, ba_list, str_list]
  have HLe := Lib.hid hle
  clear h hk hd hla hle
  go_enter Tryz.func20, Tryz.ntmps20
  go_upto_region 1 with fail
  generalize (w.alloc (.cells #[.int .i64 c.u, .int .i64 c.g] 27)).alloc (.cells #[.int .i64 0, .string ⟨#[]⟩, .int .i64 0, .bool false] 58) = W0 at hRX hCX hbX ⊢
  have HRX := Lib.hid hRX
  have HCX := Lib.hid hCX
  have HBX := Lib.hid hbX
  clear hRX hCX hbX
  go_wp2_with fail
  refine (HPa.out _).mono ?_
  rintro e w1 ⟨rfl, rfl⟩
  by_cases hpe : pe = 0
  · have hpb : (pe != 0) = false := by simpa using hpe
    have HE1 := Lib.hid (HE0.out.trans (if_neg (by simpa using hpe)))
    clear hpe
    go_wp2_with fail
    refine (HLa.out _).mono ?_
    rintro e w2 ⟨rfl, hb2⟩
    have HB2 := Lib.hid (bnext HBX.out hb2)
    have HR2 := Lib.hid (HRX.out.keep hb2)
    have HC2 := Lib.hid (HCX.out.keep hb2)
    clear hb2
    by_cases hl0 : la.toList = []
    · have HE2 := Lib.hid (HE1.out.trans (if_pos (HLe.out.2 hl0)))
      have hlb : (la.toList == []) = true := by rw [hl0]; rfl
      obtain ⟨rc, rf, rz⟩ := HR2.out.facts
      clear hl0
      go_wp2_with (exact bodyPost_ret (roperand_results (x := fd0) (e := 1) HR2.out.set4 rfl rfl) rfl ⟨by rw [HE2.out], below_set4 HB2.out (Nat.le_succ _)⟩)
    · have HE2 := Lib.hid (HE1.out.trans (if_neg (fun e => hl0 (HLe.out.1 e))))
      have hlb : (la.toList == []) = false := by simpa using hl0
      have HF2 := Lib.hid (HF.out _ HB2.out)
      unfold Fd.v at HF2
      obtain ⟨cc, -, cz⟩ := HC2.out.facts
      clear hl0
      go_wp2_with fail
      refine HF2.out.mono ?_
      rintro e w3 ⟨rfl, hb3⟩
      have hR3 := (HR2.out.keep hb3).old (.cells #[.int .i64 rd.1.dir, .string rd.1.name, .int .i64 rd.1.no, .bool rd.1.slash] 58)
      have hX := Blk.new w3 #[.int .i64 rd.1.dir, .string rd.1.name, .int .i64 rd.1.no, .bool rd.1.slash] 58
      have hbX := balloc (bnext HB2.out hb3) (.cells #[.int .i64 rd.1.dir, .string rd.1.name, .int .i64 rd.1.no, .bool rd.1.slash] 58)
      clear hb3 cc cz
      go_upto_region 7 with fail
      generalize w3.alloc (.cells #[.int .i64 rd.1.dir, .string rd.1.name, .int .i64 rd.1.no, .bool rd.1.slash] 58) = X at hR3 hX hbX ⊢
      have HR3 := Lib.hid hR3
      have HX := Lib.hid hX
      have HB3 := Lib.hid hbX
      obtain ⟨rc, rf, rz⟩ := hR3.facts
      obtain ⟨xc, xf, xz⟩ := hX.facts
      clear hR3 hX hbX
      by_cases he : rd.2 = 0
      · have heb : (rd.2 != 0) = false := by simpa using he
        have HE3 := Lib.hid (HE2.out.trans (if_neg (by simpa using he)))
        clear he
        by_cases hno : rd.1.no = 0
        · have hnb : (rd.1.no == 0) = true := by simpa using hno
          have HE4 := Lib.hid (HE3.out.trans (if_pos hno))
          clear hno
          go_wp2_with (exact bodyPost_ret (roperand_results (x := fd0) (e := 5) HR3.out.set4 rfl rfl) rfl ⟨by rw [HE4.out], below_set4 HB3.out (Nat.le_succ _)⟩)
        · have hnb : (rd.1.no == 0) = false := by simpa using hno
          have HE4 := Lib.hid (HE3.out.trans (if_neg hno))
          by_cases hnm : rd.1.name = ByteArray.empty
          · have hmb : (rd.1.name.toList == []) = true := by rw [hnm, ba_list]; rfl
            have HE5 := Lib.hid (HE4.out.trans (if_pos hnm))
            clear hno hnm
            go_wp2_with (exact bodyPost_ret (roperand_results (x := fd0) (e := 1) HR3.out.set4 rfl rfl) rfl ⟨by rw [HE5.out], below_set4 HB3.out (Nat.le_succ _)⟩)
          · have hmb : (rd.1.name.toList == []) = false := by
              have g1 : ¬ rd.1.name.toList = [] := fun e => tl_ne' hnm (e.trans (by rw [ba_list]; rfl))
              simpa using g1
            have HE5 := Lib.hid (HE4.out.trans (if_neg hnm))
            obtain ⟨a, ha⟩ : ∃ a, S.get rd.1.no = some a := by
              rcases HTh.out with h1 | h1 | h1
              · exact absurd h1 hnm
              · exact absurd h1 hno
              · exact h1
            have hroot : S.isRoot rd.1.no = (S.root a.dev == rd.1.no) := by unfold Fs.isRoot; rw [ha]
            rw [hroot] at HE5
            have HRX3 := HH.out.keep HB3.out
            obtain ⟨da, dl, dc, -, hG⟩ := rgetZ_fix HRX3 rd.1.no
            rw [getZ_some ha] at hG
            unfold An.v at hG
            have HGe := Lib.hid hG
            have HBu := Lib.hid (fun w1 (hb : Below X.heap.size X w1) => rbusy_any (HRX3.keep hb) HK.out hl rd.1.no)
            have HRo := Lib.hid (fun w1 (hb : Below X.heap.size X w1) d => (rroot_any (HRX3.keep hb) d).mono fun e w' ⟨he, hw⟩ => show e = Ending.returned (.int .i64 (S.root d)) ∧ Below w1.heap.size w1 w' from ⟨he, by rw [hw]; exact Below.refl _ _⟩)
            obtain ⟨rb, hrb⟩ : ∃ b, (S.root a.dev == rd.1.no) = b := ⟨_, rfl⟩
            obtain ⟨bu, hbu⟩ : ∃ b, S.busy rd.1.no = b := ⟨_, rfl⟩
            rw [hrb, hbu] at HE5
            rw [hbu] at HBu
            have HX3 := Lib.hid HRX3
            clear hno hnm ha hroot HRX3 hG hbu
            cases bu with
            | true =>
              have HE6 := Lib.hid (HE5.out.trans (if_pos (.inl rfl)))
              go_wp2_with fail
              refine wp_region_held_drew (S := (fun w' => (∀ b o, b < X.heap.size → w'.cell? ⟨b, o, none⟩ = X.cell? ⟨b, o, none⟩) ∧ Below X.heap.size X w')) (by kernel_rfl) (keepS_here _) (fun hHeld => ?_)
              refine reg_take 0 40 (v := ?vb0) rfl rfl (by kernel_rfl) (by kernel_rfl) (by kernel_rfl) (fun _ _ _ h => h) rfl ?yb0 hHeld ?_
              case yb0 => (intro w hSw; (try dsimp only at hSw); go_simp; (try with_reducible rfl))
              simp only [List.setIfInBounds_toArray, List.set_cons_zero, List.set_cons_succ]
              refine reg_take 1 41 (v := ?vb1) rfl rfl (by kernel_rfl) (by kernel_rfl) (by kernel_rfl) (fun _ _ _ h => h) rfl ?yb1 hHeld ?_
              case yb1 => (intro w hSw; (try dsimp only at hSw); go_simp; (try with_reducible rfl))
              simp only [List.setIfInBounds_toArray, List.set_cons_zero, List.set_cons_succ]
              refine reg_take 2 42 (v := ?vb2) rfl rfl (by kernel_rfl) (by kernel_rfl) (by kernel_rfl) (fun _ _ _ h => h) rfl ?yb2 hHeld ?_
              case yb2 => (intro w hSw; (try dsimp only at hSw); go_simp; (try with_reducible rfl))
              simp only [List.setIfInBounds_toArray, List.set_cons_zero, List.set_cons_succ]
              refine reg_call 3 43 (R := fun v w' => v = .bool true ∧ Below X.drew.heap.size X.drew w') (by kernel_rfl) rfl rfl rfl ?xb3 ((HBu.out _ (hHeld).2).mono (fun e w' ⟨he, hb⟩ => ⟨_, he, rfl, hb⟩)) (fun v w' ⟨_, hb⟩ => keepS_call hHeld hb) ?_
              case xb3 => (go_simp; (try rfl))
              rintro _ wb1 ⟨rfl, hbb1⟩
              have hHeld1 := keepS_call hHeld hbb1
              simp only [List.setIfInBounds_toArray, List.set_cons_zero, List.set_cons_succ]
              refine reg_take 4 44 (v := ?vb4) rfl rfl (by kernel_rfl) (by kernel_rfl) (by kernel_rfl) (fun _ _ _ h => h) rfl ?yb4 hHeld1 ?_
              case yb4 => (intro w hSw; (try dsimp only at hSw); go_simp; (try with_reducible rfl))
              simp only [List.setIfInBounds_toArray, List.set_cons_zero, List.set_cons_succ]
              refine reg_skip 5 45 rfl rfl (by kernel_rfl) (by kernel_rfl) (by kernel_rfl) (fun _ _ _ h => h) rfl hHeld1 ?_
              simp only [List.setIfInBounds_toArray, List.set_cons_zero, List.set_cons_succ]
              refine reg_skip 6 46 rfl rfl (by kernel_rfl) (by kernel_rfl) (by kernel_rfl) (fun _ _ _ h => h) rfl hHeld1 ?_
              simp only [List.setIfInBounds_toArray, List.set_cons_zero, List.set_cons_succ]
              refine reg_skip 7 47 rfl rfl (by kernel_rfl) (by kernel_rfl) (by kernel_rfl) (fun _ _ _ h => h) rfl hHeld1 ?_
              simp only [List.setIfInBounds_toArray, List.set_cons_zero, List.set_cons_succ]
              refine reg_skip 8 48 rfl rfl (by kernel_rfl) (by kernel_rfl) (by kernel_rfl) (fun _ _ _ h => h) rfl hHeld1 ?_
              simp only [List.setIfInBounds_toArray, List.set_cons_zero, List.set_cons_succ]
              refine reg_skip 9 49 rfl rfl (by kernel_rfl) (by kernel_rfl) (by kernel_rfl) (fun _ _ _ h => h) rfl hHeld1 ?_
              simp only [List.setIfInBounds_toArray, List.set_cons_zero, List.set_cons_succ]
              refine reg_skip 10 50 rfl rfl (by kernel_rfl) (by kernel_rfl) (by kernel_rfl) (fun _ _ _ h => h) rfl hHeld1 ?_
              simp only [List.setIfInBounds_toArray, List.set_cons_zero, List.set_cons_succ]
              refine reg_skip 11 51 rfl rfl (by kernel_rfl) (by kernel_rfl) (by kernel_rfl) (fun _ _ _ h => h) rfl hHeld1 ?_
              simp only [List.setIfInBounds_toArray, List.set_cons_zero, List.set_cons_succ]
              refine reg_skip 12 52 rfl rfl (by kernel_rfl) (by kernel_rfl) (by kernel_rfl) (fun _ _ _ h => h) rfl hHeld1 ?_
              simp only [List.setIfInBounds_toArray, List.set_cons_zero, List.set_cons_succ]
              refine reg_skip 13 53 rfl rfl (by kernel_rfl) (by kernel_rfl) (by kernel_rfl) (fun _ _ _ h => h) rfl hHeld1 ?_
              simp only [List.setIfInBounds_toArray, List.set_cons_zero, List.set_cons_succ]
              refine reg_skip 14 54 rfl rfl (by kernel_rfl) (by kernel_rfl) (by kernel_rfl) (fun _ _ _ h => h) rfl hHeld1 ?_
              simp only [List.setIfInBounds_toArray, List.set_cons_zero, List.set_cons_succ]
              refine reg_take 15 55 (v := ?vb15) rfl rfl (by kernel_rfl) (by kernel_rfl) (by kernel_rfl) (fun _ _ _ h => h) rfl ?yb15 hHeld1 ?_
              case yb15 => (intro w hSw; (try dsimp only at hSw); go_simp; (try with_reducible rfl))
              simp only [List.setIfInBounds_toArray, List.set_cons_zero, List.set_cons_succ]
              refine wpAnyH_done (by kernel_rfl) ?_ _
              have hS : Below X.heap.size X _ := hHeld1.2
              have HS := Lib.hid hS
              have hR9 := HR3.out.keep hS
              clear rc rf rz
              obtain ⟨rc, rf, rz⟩ := hR9.facts
              have HR9 := Lib.hid hR9
              clear hS hR9
              go_wp2_with (exact bodyPost_ret (roperand_results (x := fd0) (e := 16) HR9.out.set4 rfl rfl) rfl ⟨by rw [HE6.out], below_set4 (bnext HB3.out HS.out) (Nat.le_succ _)⟩)
            | false =>
              go_wp2_with fail
              have hfd : ∀ (w : World), (Instr.field 109 (.agg #[.int .i64 a.no, .int .i64 a.dev, .int .i64 a.kind, .int .i64 a.mode, .int .i64 a.uid, .int .i64 a.gid, .int .i64 a.mtime, .int .i64 a.ctime, .int .i64 a.links, .int .i64 a.up, .string a.data, .slice da dl dc]) 1).run Tryz.prog w = .ok (.int .i64 a.dev) w := fun _ => by kernel_rfl
              refine wp_region_held_drew (S := (fun w' => (∀ b o, b < X.heap.size → w'.cell? ⟨b, o, none⟩ = X.cell? ⟨b, o, none⟩) ∧ Below X.heap.size X w')) (by kernel_rfl) (keepS_here _) (fun hHeld => ?_)
              refine reg_take 0 40 (v := ?u0) rfl rfl (by kernel_rfl) (by kernel_rfl) (by kernel_rfl) (fun _ _ _ h => h) rfl ?z0 hHeld ?_
              case z0 => (intro w hSw; (try dsimp only at hSw); go_simp; (try with_reducible rfl))
              simp only [List.setIfInBounds_toArray, List.set_cons_zero, List.set_cons_succ]
              refine reg_take 1 41 (v := ?u1) rfl rfl (by kernel_rfl) (by kernel_rfl) (by kernel_rfl) (fun _ _ _ h => h) rfl ?z1 hHeld ?_
              case z1 => (intro w hSw; (try dsimp only at hSw); go_simp; (try with_reducible rfl))
              simp only [List.setIfInBounds_toArray, List.set_cons_zero, List.set_cons_succ]
              refine reg_take 2 42 (v := ?u2) rfl rfl (by kernel_rfl) (by kernel_rfl) (by kernel_rfl) (fun _ _ _ h => h) rfl ?z2 hHeld ?_
              case z2 => (intro w hSw; (try dsimp only at hSw); go_simp; (try with_reducible rfl))
              simp only [List.setIfInBounds_toArray, List.set_cons_zero, List.set_cons_succ]
              refine reg_call 3 43 (R := fun v w' => v = .bool false ∧ Below X.drew.heap.size X.drew w') (by kernel_rfl) rfl rfl rfl ?x3 ((HBu.out _ hHeld.2).mono (fun e w' ⟨he, hb⟩ => ⟨_, he, rfl, hb⟩)) (fun v w' ⟨_, hb⟩ => keepS_call hHeld hb) ?_
              case x3 => (go_simp; (try rfl))
              rintro _ wc1 ⟨rfl, hbc1⟩
              have hH1 := keepS_call hHeld hbc1
              simp only [List.setIfInBounds_toArray, List.set_cons_zero, List.set_cons_succ]
              refine reg_take 4 44 (v := ?u4) rfl rfl (by kernel_rfl) (by kernel_rfl) (by kernel_rfl) (fun _ _ _ h => h) rfl ?z4 hH1 ?_
              case z4 => (intro w hSw; (try dsimp only at hSw); go_simp; (try with_reducible rfl))
              simp only [List.setIfInBounds_toArray, List.set_cons_zero, List.set_cons_succ]
              refine reg_take 5 45 (v := ?u5) rfl rfl (by kernel_rfl) (by kernel_rfl) (by kernel_rfl) (fun _ _ _ h => h) rfl ?z5 hH1 ?_
              case z5 => (intro w hSw; (try dsimp only at hSw); go_simp; (try with_reducible rfl))
              simp only [List.setIfInBounds_toArray, List.set_cons_zero, List.set_cons_succ]
              refine reg_take 6 46 (v := ?u6) rfl rfl (by kernel_rfl) (by kernel_rfl) (by kernel_rfl) (fun _ _ _ h => h) rfl ?z6 hH1 ?_
              case z6 => (intro w hSw; (try dsimp only at hSw); go_simp; (try with_reducible rfl))
              simp only [List.setIfInBounds_toArray, List.set_cons_zero, List.set_cons_succ]
              refine reg_take 7 47 (v := ?u7) rfl rfl (by kernel_rfl) (by kernel_rfl) (by kernel_rfl) (fun _ _ _ h => h) rfl ?z7 hH1 ?_
              case z7 => (intro w hSw; (try dsimp only at hSw); go_simp; (try with_reducible rfl))
              simp only [List.setIfInBounds_toArray, List.set_cons_zero, List.set_cons_succ]
              refine reg_take 8 48 (v := ?u8) rfl rfl (by kernel_rfl) (by kernel_rfl) (by kernel_rfl) (fun _ _ _ h => h) rfl ?z8 hH1 ?_
              case z8 => (intro w hSw; (try dsimp only at hSw); go_simp; (try with_reducible rfl))
              simp only [List.setIfInBounds_toArray, List.set_cons_zero, List.set_cons_succ]
              refine reg_take 12 52 (v := ?u12) rfl rfl (by kernel_rfl) (by kernel_rfl) (by kernel_rfl) (fun _ _ _ h => h) rfl ?z12 hH1 ?_
              case z12 => (intro w hSw; (try dsimp only at hSw); go_simp; (try with_reducible rfl))
              simp only [List.setIfInBounds_toArray, List.set_cons_zero, List.set_cons_succ]
              refine reg_take 13 53 (v := ?u13) rfl rfl (by kernel_rfl) (by kernel_rfl) (by kernel_rfl) (fun _ _ _ h => h) rfl ?z13 hH1 ?_
              case z13 => (intro w hSw; (try dsimp only at hSw); go_simp; (try with_reducible rfl))
              simp only [List.setIfInBounds_toArray, List.set_cons_zero, List.set_cons_succ]
              refine reg_call 9 49 (R := fun v w' => v = .agg #[.int .i64 a.no, .int .i64 a.dev, .int .i64 a.kind, .int .i64 a.mode, .int .i64 a.uid, .int .i64 a.gid, .int .i64 a.mtime, .int .i64 a.ctime, .int .i64 a.links, .int .i64 a.up, .string a.data, .slice da dl dc] ∧ Below wc1.heap.size wc1 w') (by kernel_rfl) rfl rfl rfl ?x9 ((HGe.out _ hH1.2).mono (fun e w' ⟨he, hb⟩ => ⟨_, he, rfl, hb⟩)) (fun v w' ⟨_, hb⟩ => keepS_call hH1 hb) ?_
              case x9 => (go_simp; (try rfl))
              rintro _ wc2 ⟨rfl, hbc2⟩
              have hH2 := keepS_call hH1 hbc2
              simp only [List.setIfInBounds_toArray, List.set_cons_zero, List.set_cons_succ]
              refine reg_take 10 50 (v := .int .i64 a.dev) rfl rfl (by kernel_rfl) (by kernel_rfl) (by kernel_rfl) (fun _ _ _ h => h) rfl ?z10 hH2 ?_
              case z10 => (intro w hSw; (try dsimp only at hSw); go_simp; (try with_reducible rfl))
              simp only [List.setIfInBounds_toArray, List.set_cons_zero, List.set_cons_succ]
              refine reg_call 11 51 (R := fun v w' => v = .int .i64 (S.root a.dev) ∧ Below wc2.heap.size wc2 w') (by kernel_rfl) rfl rfl rfl ?x11 ((HRo.out _ hH2.2 a.dev).mono (fun e w' ⟨he, hb⟩ => ⟨_, he, rfl, hb⟩)) (fun v w' ⟨_, hb⟩ => keepS_call hH2 hb) ?_
              case x11 => (go_simp; (try rfl))
              rintro _ wc3 ⟨rfl, hbc3⟩
              have hH3 := keepS_call hH2 hbc3
              simp only [List.setIfInBounds_toArray, List.set_cons_zero, List.set_cons_succ]
              refine reg_take 14 54 (v := ?u14) rfl rfl (by kernel_rfl) (by kernel_rfl) (by kernel_rfl) (fun _ _ _ h => h) rfl ?z14 hH3 ?_
              case z14 => (intro w hSw; (try dsimp only at hSw); go_simp; (try with_reducible rfl))
              simp only [List.setIfInBounds_toArray, List.set_cons_zero, List.set_cons_succ]
              refine reg_take 15 55 (v := ?u15) rfl rfl (by kernel_rfl) (by kernel_rfl) (by kernel_rfl) (fun _ _ _ h => h) rfl ?z15 hH3 ?_
              case z15 => (intro w hSw; (try dsimp only at hSw); go_simp; (try with_reducible rfl))
              simp only [List.setIfInBounds_toArray, List.set_cons_zero, List.set_cons_succ]
              refine wpAnyH_done (by kernel_rfl) ?_ _
              have hS : Below X.heap.size X _ := hH3.2
              have HS := Lib.hid hS
              have hR9 := HR3.out.keep hS
              have hX9 := HX.out.keep hS
              clear rc rf rz xc xf xz
              obtain ⟨rc, rf, rz⟩ := hR9.facts
              obtain ⟨xc, xf, xz⟩ := hX9.facts
              have HR9 := Lib.hid hR9
              clear hS hR9 hX9
              cases rb with
              | true =>
                have HE6 := Lib.hid (HE5.out.trans (if_pos (.inr rfl)))
                go_wp2_with (exact bodyPost_ret (roperand_results (x := fd0) (e := 16) HR9.out.set4 rfl rfl) rfl ⟨by rw [HE6.out], below_set4 (bnext HB3.out HS.out) (Nat.le_succ _)⟩)
              | false =>
                have HE6 := Lib.hid (HE5.out.trans (if_neg (by simp)))
                go_wp2_with (exact bodyPost_ret (roperand_results (x := rd.1) (e := 0) HR9.out.set4 rfl rfl) rfl ⟨by rw [HE6.out], below_set4 (bnext HB3.out HS.out) (Nat.le_succ _)⟩)
      · have heb : (rd.2 != 0) = true := by simpa using he
        have HE3 := Lib.hid (HE2.out.trans (if_pos he))
        clear he
        go_wp2_with (exact bodyPost_ret (roperand_results (x := fd0) (e := rd.2) HR3.out.set4 rfl rfl) rfl ⟨by rw [HE3.out], below_set4 HB3.out (Nat.le_succ _)⟩)
  · have hpb : (pe != 0) = true := by simpa using hpe
    have HE1 := Lib.hid (HE0.out.trans (if_pos hpe))
    obtain ⟨rc, rf, rz⟩ := HRX.out.facts
    clear hpe
    go_wp2_with (exact bodyPost_ret (roperand_results (x := fd0) (e := pe) HRX.out.set4 rfl rfl) rfl ⟨by rw [HE1.out], below_set4 HBX.out (Nat.le_succ _)⟩)
end

end Go.Proofs.YtihdbncoijhihaaGreatDoor
