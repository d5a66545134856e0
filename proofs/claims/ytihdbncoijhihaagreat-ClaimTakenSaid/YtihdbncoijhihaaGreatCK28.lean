/- Texts of the proof, part 28. -/
import Derived.Test.YtihdbncoijhihaaGreatCK27
set_option linter.unusedVariables false
set_option linter.unusedSimpArgs false
/- Trees that are to be (layer 22): an item comes. Printed by gen_node.py. -/
namespace Go.Proofs.YtihdbncoijhihaaGreat

open Go.RowKit

section

variable {S : Fs} {it : It} {x : Fd} {e : Int}

theorem node_err (hx : S.path c00 it.path false = (x, e)) (h : e ≠ 0) : nodeF S it = (S, 0) := by unfold nodeF; rw [hx]; simp only; rw [if_pos h]
theorem node_old (hx : S.path c00 it.path false = (x, e)) (h : e = 0) (h0 : x.no ≠ 0) (h1 : it.kind = 1) (h2 : S.kindOf x.no = 1) : nodeF S it = (S, x.no) := by unfold nodeF; rw [hx]; simp only; rw [if_neg (by simp [h]), if_pos h0, if_pos ⟨h1, h2⟩]
theorem node_had (hx : S.path c00 it.path false = (x, e)) (h : e = 0) (h0 : x.no ≠ 0) (h1 : ¬ (it.kind = 1 ∧ S.kindOf x.no = 1)) : nodeF S it = (S, 0) := by unfold nodeF; rw [hx]; simp only; rw [if_neg (by simp [h]), if_pos h0, if_neg h1]
theorem node_new (hx : S.path c00 it.path false = (x, e)) (h : e = 0) (h0 : x.no = 0) : nodeF S it =
    (if it.kind = 1 then ((S.mkdir c00 0 x.dir x.name 493).1, (S.mkdir c00 0 x.dir x.name 493).2.1)
  else if it.kind = 2 then ((S.file c00 0 x.dir x.name 420 it.data).1, (S.file c00 0 x.dir x.name 420 it.data).2.1)
  else if it.kind = 3 then ((S.sym c00 0 x.dir x.name it.data).1, (S.sym c00 0 x.dir x.name it.data).2.1)
  else if it.kind = 4 then
    (if (S.path c00 it.data false).2 = 0 then ((S.hard c00 0 (S.path c00 it.data false).1.no x.dir x.name).1, 0) else (S, 0))
  else (S, 0)) := by unfold nodeF; rw [hx]; simp only; rw [if_neg (by simp [h]), if_neg (by simp [h0])]
theorem stV_cells (S : Fs) (k : Int) : ∃ y0 y1 y2 y3 y4 y5 y6 y7 y8 y9 : Int, stV (S.get k) = .agg #[.int .i64 y0, .int .i64 y1, .int .i64 y2, .int .i64 y3, .int .i64 y4, .int .i64 y5, .int .i64 y6, .int .i64 y7, .int .i64 y8, .int .i64 y9] ∧ y2 = S.kindOf k := by
  unfold Fs.kindOf
  cases S.get k with
  | none => exact ⟨_, _, _, _, _, _, _, _, _, _, rfl, rfl⟩
  | some a => exact ⟨_, _, _, _, _, _, _, _, _, _, rfl, rfl⟩
end

section

variable {w w' : World} {pf pw : Nat} {R : Rp} {pv : Value} {Y : Sy}

set_option maxRecDepth 100000 in
set_option maxHeartbeats 8000000 in
theorem snode_any (h : SyAt w pf pw R pv Y) {N : Nat} (hk : FsOk Y.fs N) (hN : N ≤ 999990) (hc : Calm Y) (hcc : Y.count ≤ 4000000) (it : It) (hp : it.path.size ≤ 100000) (hd : it.data.size ≤ 100000) :
    Calls Tryz.prog 106 #[.pointer (some ⟨pf, 0, none⟩), .agg #[.string it.path, .int .i64 it.kind, .int .i64 it.mode, .int .i64 it.uid, .int .i64 it.gid, .int .i64 it.mtime, .string it.data]] w fun e w' => e = .returned (.int .i64 (nodeF Y.fs it).2) ∧ Became w w' pf pw R pv Y (nodeF Y.fs it).1 1 := by
  have HY := Lib.hid h
  have HK := Lib.hid hk
  have HC := Lib.hid hc
  have HF := Lib.hid (fun w1 (hb1 : Below w.heap.size w w1) => sfind_any (h.keep hb1) hk (by omega) hc.dead c00 it.path hp false)
  have HSz := Lib.hid (path_size hk c00 it.path (by omega) false)
  generalize hx : Y.fs.path c00 it.path false = x at HF HSz
  obtain ⟨⟨xd, xn, xk, xs⟩, xe⟩ := x
  have HPx := Lib.hid hx
  unfold Fd.v at HF
  obtain ⟨y0, y1, y2, y3, y4, y5, y6, y7, y8, y9, hst, hy2⟩ := stV_cells Y.fs xk
  have HSt := Lib.hid (fun w1 (hb1 : Below w.heap.size w w1) => sstat_any (h.keep hb1) hk hc.dead xk)
  rw [hst] at HSt
  have HKo := Lib.hid hy2
  have hI0 := Blk.new w #[.string it.path, .int .i64 it.kind, .int .i64 it.mode, .int .i64 it.uid, .int .i64 it.gid, .int .i64 it.mtime, .string it.data] 116
  have hb0 := balloc (Below.refl w.heap.size w) (.cells #[.string it.path, .int .i64 it.kind, .int .i64 it.mode, .int .i64 it.uid, .int .i64 it.gid, .int .i64 it.mtime, .string it.data] 116)
  clear h hk hc hx hst hy2
  go_enter Tryz.func106, Tryz.ntmps106
  go_wp2_with fail
  refine (HF.out _ hb0).mono ?_
  rintro e w1 ⟨rfl, hb1⟩
  have hIX := (hI0.keep hb1).old (.cells #[.int .i64 xd, .string xn, .int .i64 xk, .bool xs] 118)
  have hXX := Blk.new w1 #[.int .i64 xd, .string xn, .int .i64 xk, .bool xs] 118
  have hbX := balloc (bnext hb0 hb1) (.cells #[.int .i64 xd, .string xn, .int .i64 xk, .bool xs] 118)
  clear hI0 hb0 hb1
  go_upto_region 2 with fail
  generalize w1.alloc (.cells #[.int .i64 xd, .string xn, .int .i64 xk, .bool xs] 118) = X at hIX hXX hbX ⊢
  have HIX := Lib.hid hIX
  have HXX := Lib.hid hXX
  have HBX := Lib.hid hbX
  obtain ⟨xc, xf, xz⟩ := hXX.facts
  clear hIX hXX hbX
  go_wp2_with fail
  refine (HSt.out _ HBX.out).mono ?_
  rintro e w2 ⟨rfl, hb2⟩
  have hI2 := (HIX.out.keep hb2).old (.cells #[.int .i64 y0, .int .i64 y1, .int .i64 y2, .int .i64 y3, .int .i64 y4, .int .i64 y5, .int .i64 y6, .int .i64 y7, .int .i64 y8, .int .i64 y9] 91)
  have hX2 := (HXX.out.keep hb2).old (.cells #[.int .i64 y0, .int .i64 y1, .int .i64 y2, .int .i64 y3, .int .i64 y4, .int .i64 y5, .int .i64 y6, .int .i64 y7, .int .i64 y8, .int .i64 y9] 91)
  have hS2 := Blk.new w2 #[.int .i64 y0, .int .i64 y1, .int .i64 y2, .int .i64 y3, .int .i64 y4, .int .i64 y5, .int .i64 y6, .int .i64 y7, .int .i64 y8, .int .i64 y9] 91
  have hbZ := balloc (bnext HBX.out hb2) (.cells #[.int .i64 y0, .int .i64 y1, .int .i64 y2, .int .i64 y3, .int .i64 y4, .int .i64 y5, .int .i64 y6, .int .i64 y7, .int .i64 y8, .int .i64 y9] 91)
  clear hb2 xc xf xz
  go_upto_region 3 with fail
  generalize w2.alloc (.cells #[.int .i64 y0, .int .i64 y1, .int .i64 y2, .int .i64 y3, .int .i64 y4, .int .i64 y5, .int .i64 y6, .int .i64 y7, .int .i64 y8, .int .i64 y9] 91) = Z at hI2 hX2 hS2 hbZ ⊢
  have HI2 := Lib.hid hI2
  have HX2 := Lib.hid hX2
  have HBZ := Lib.hid hbZ
  have HYZ := Lib.hid (HY.out.keep hbZ)
  obtain ⟨ic, if', iz⟩ := hI2.facts
  obtain ⟨xc, xf, xz⟩ := hX2.facts
  obtain ⟨sc, sf, sz⟩ := hS2.facts
  clear hI2 hX2 hS2 hbZ
  by_cases he : xe = 0
  · have heb : (xe != 0) = false := by simpa using he
    subst he
    by_cases hno : xk = 0
    · have hnb : (xk != 0) = false := by simpa using hno
      have HN := Lib.hid (node_new HPx.out rfl hno)
      dsimp only at HN
      clear hno
      by_cases k1 : it.kind = 1
      · have k1b : (it.kind == 1) = true := by simpa using k1
        have HQ := Lib.hid k1
        clear k1
        have HE := Lib.hid (HN.out.trans (if_pos HQ.out))
        have HM := Lib.hid (smkdir_any HYZ.out HK.out (by omega) ⟨HC.out.c0, by omega⟩ (by rw [HC.out.plan]; exact Nat.zero_le _) c00 xd xn 493 (by have h9 : xn.size ≤ 1048576 := HSz.out; omega))
        rw [HC.out.op] at HM
        dsimp only at HM
        go_wp2_with fail
        refine HM.out.mono ?_
        rintro e w5 ⟨rfl, R5, hY5, hS5⟩
        have HX := Lib.hid (And.intro hY5 ((Stp.of_below (F := R.Y pf pw) HBZ.out).trans hS5))
        clear hY5 hS5
        go_wp2_with fail
        go_ret
        rw [HE.out]
        exact ⟨rfl, R5, _, HX.out.1, rfl, HC.out.next _, by show Y.count + 1 ≤ _; omega, HX.out.2⟩
      have k1b : (it.kind == 1) = false := by simpa using k1
      have HN1 := Lib.hid (HN.out.trans (if_neg k1))
      clear k1 HN
      by_cases k2 : it.kind = 2
      · have k2b : (it.kind == 2) = true := by simpa using k2
        have HQ := Lib.hid k2
        clear k2
        have HE := Lib.hid (HN1.out.trans (if_pos HQ.out))
        have HM := Lib.hid (screate_any HYZ.out HK.out (by omega) ⟨HC.out.c0, by omega⟩ (by rw [HC.out.plan]; exact Nat.zero_le _) c00 xd xn 420 it.data (by have h9 : xn.size ≤ 1048576 := HSz.out; omega) (by omega))
        rw [HC.out.op] at HM
        dsimp only at HM
        go_wp2_with fail
        refine HM.out.mono ?_
        rintro e w5 ⟨rfl, R5, hY5, hS5⟩
        have HX := Lib.hid (And.intro hY5 ((Stp.of_below (F := R.Y pf pw) HBZ.out).trans hS5))
        clear hY5 hS5
        go_wp2_with fail
        go_ret
        rw [HE.out]
        exact ⟨rfl, R5, _, HX.out.1, rfl, HC.out.next _, by show Y.count + 1 ≤ _; omega, HX.out.2⟩
      have k2b : (it.kind == 2) = false := by simpa using k2
      have HN2 := Lib.hid (HN1.out.trans (if_neg k2))
      clear k2 HN1
      by_cases k3 : it.kind = 3
      · have k3b : (it.kind == 3) = true := by simpa using k3
        have HQ := Lib.hid k3
        clear k3
        have HE := Lib.hid (HN2.out.trans (if_pos HQ.out))
        have HM := Lib.hid (ssym_any HYZ.out HK.out (by omega) ⟨HC.out.c0, by omega⟩ (by rw [HC.out.plan]; exact Nat.zero_le _) c00 xd xn it.data (by have h9 : xn.size ≤ 1048576 := HSz.out; omega) (by omega))
        rw [HC.out.op] at HM
        dsimp only at HM
        go_wp2_with fail
        refine HM.out.mono ?_
        rintro e w5 ⟨rfl, R5, hY5, hS5⟩
        have HX := Lib.hid (And.intro hY5 ((Stp.of_below (F := R.Y pf pw) HBZ.out).trans hS5))
        clear hY5 hS5
        go_wp2_with fail
        go_ret
        rw [HE.out]
        exact ⟨rfl, R5, _, HX.out.1, rfl, HC.out.next _, by show Y.count + 1 ≤ _; omega, HX.out.2⟩
      have k3b : (it.kind == 3) = false := by simpa using k3
      have HN3 := Lib.hid (HN2.out.trans (if_neg k3))
      clear k3 HN2
      by_cases k4 : it.kind = 4
      · have k4b : (it.kind == 4) = true := by simpa using k4
        have HN4 := Lib.hid (HN3.out.trans (if_pos k4))
        have HF2 := Lib.hid (sfind_any HYZ.out HK.out (by omega) HC.out.dead c00 it.data hd false)
        generalize Y.fs.path c00 it.data false = y at HF2 HN4
        obtain ⟨⟨yd, yn, yk, ys⟩, ye⟩ := y
        unfold Fd.v at HF2
        dsimp only at HN4
        clear k4 HN3
        go_wp2_with fail
        refine HF2.out.mono ?_
        rintro e w3 ⟨rfl, hb3⟩
        have hX3 := (HX2.out.keep hb3).old (.cells #[.int .i64 yd, .string yn, .int .i64 yk, .bool ys] 118)
        have hV3 := Blk.new w3 #[.int .i64 yd, .string yn, .int .i64 yk, .bool ys] 118
        have hbV := balloc (bnext HBZ.out hb3) (.cells #[.int .i64 yd, .string yn, .int .i64 yk, .bool ys] 118)
        clear hb3 ic if' iz xc xf xz sc sf sz
        go_upto_region 19 with fail
        generalize w3.alloc (.cells #[.int .i64 yd, .string yn, .int .i64 yk, .bool ys] 118) = V at hX3 hV3 hbV ⊢
        have HBV := Lib.hid hbV
        have HYV := Lib.hid (HY.out.keep hbV)
        obtain ⟨xc, xf, xz⟩ := hX3.facts
        obtain ⟨vc, vf, vz⟩ := hV3.facts
        clear hX3 hV3 hbV
        by_cases hye : ye = 0
        · have hyb : (ye == 0) = true := by simpa using hye
          have HE := Lib.hid (HN4.out.trans (if_pos hye))
          have HM := Lib.hid (slink_any HYV.out HK.out (by omega) ⟨HC.out.c0, by omega⟩ (by rw [HC.out.plan]; exact Nat.zero_le _) c00 yk xd xn (by have h9 : xn.size ≤ 1048576 := HSz.out; omega))
          rw [HC.out.opE] at HM
          dsimp only at HM
          clear hye
          go_wp2_with fail
          refine HM.out.mono ?_
          rintro e w5 ⟨rfl, R5, hY5, hS5⟩
          have HX := Lib.hid (And.intro hY5 ((Stp.of_below (F := R.Y pf pw) HBV.out).trans hS5))
          clear hY5 hS5
          go_wp2_with fail
          go_ret
          rw [HE.out]
          exact ⟨rfl, R5, _, HX.out.1, rfl, HC.out.next _, by show Y.count + 1 ≤ _; omega, HX.out.2⟩
        · have hyb : (ye == 0) = false := by simpa using hye
          have HE := Lib.hid (HN4.out.trans (if_neg hye))
          clear hye
          go_wp2_with fail
          go_ret
          rw [HE.out]
          exact ⟨rfl, (Became.same HY.out HC.out HBV.out).mono (by omega)⟩
      have k4b : (it.kind == 4) = false := by simpa using k4
      have HN4 := Lib.hid (HN3.out.trans (if_neg k4))
      clear k4 HN3
      have HE := Lib.hid (HN4.out)
      go_wp2_with fail
      go_ret
      rw [HE.out]
      exact ⟨rfl, (Became.same HY.out HC.out HBZ.out).mono (by omega)⟩
    · have hnb : (xk != 0) = true := by simpa using hno
      by_cases k1 : it.kind = 1
      · have k1b : (it.kind == 1) = true := by simpa using k1
        by_cases k2 : y2 = 1
        · have k2b : (y2 == 1) = true := by simpa using k2
          have HQ := Lib.hid (node_old HPx.out rfl hno k1 (by rw [← HKo.out]; exact k2))
          clear hno k1 k2
          have HE := Lib.hid (HQ.out)
          go_wp2_with fail
          go_ret
          rw [HE.out]
          exact ⟨rfl, (Became.same HY.out HC.out HBZ.out).mono (by omega)⟩
        · have k2b : (y2 == 1) = false := by simpa using k2
          have HQ := Lib.hid (node_had HPx.out rfl hno (fun h => k2 (by rw [HKo.out]; exact h.2)))
          clear hno k1 k2
          have HE := Lib.hid (HQ.out)
          go_wp2_with fail
          go_ret
          rw [HE.out]
          exact ⟨rfl, (Became.same HY.out HC.out HBZ.out).mono (by omega)⟩
      · have k1b : (it.kind == 1) = false := by simpa using k1
        have HQ := Lib.hid (node_had HPx.out rfl hno (fun h => k1 h.1))
        clear hno k1
        have HE := Lib.hid (HQ.out)
        go_wp2_with fail
        go_ret
        rw [HE.out]
        exact ⟨rfl, (Became.same HY.out HC.out HBZ.out).mono (by omega)⟩
  · have heb : (xe != 0) = true := by simpa using he
    have HQ := Lib.hid (node_err HPx.out he)
    clear he
    have HE := Lib.hid (HQ.out)
    go_wp2_with fail
    go_ret
    rw [HE.out]
    exact ⟨rfl, (Became.same HY.out HC.out HBZ.out).mono (by omega)⟩
end

end Go.Proofs.YtihdbncoijhihaaGreat
