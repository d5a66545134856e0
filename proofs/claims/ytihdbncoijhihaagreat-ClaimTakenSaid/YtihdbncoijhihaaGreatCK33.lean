/- Texts of the proof, part 33. -/
import Derived.Test.YtihdbncoijhihaaGreatCK32
set_option linter.unusedVariables false
set_option linter.unusedSimpArgs false
/- The reference's tree (layer 14): Owned, Mode, Owner, Time. -/
namespace Go.Proofs.YtihdbncoijhihaaGreat

open Go.RowKit

section

variable {w w' : World} {pf : Nat} {R : Rf} {S : Fs}

set_option maxRecDepth 100000 in
set_option maxHeartbeats 1000000 in
theorem rowned_no (h : RfAt w pf R S) (no : Int) (hg : S.get no = none) :
    Calls Tryz.prog 243 #[.pointer (some ⟨pf, 0, none⟩), .agg #[.int .i64 0, .int .i64 0], .int .i64 no] w fun e w' => e = .returned (.int .i64 5) ∧ Below w.heap.size w w' := by
  have hb0 := (Below.refl _ w).alloc (Nat.le_refl _) (.cells #[.int .i64 0, .int .i64 0] 67)
  have HG := Lib.hid (rget_no (h.keep hb0) hg)
  have HB0 := Lib.hid hb0
  unfold An.v an0 at HG
  clear h hg hb0
  go_enter Tryz.func243, Tryz.ntmps243
  go_wp2_with fail
  refine HG.out.mono ?_
  rintro e w1 ⟨rfl, hb1⟩
  have HB := Lib.hid (balloc (bnext HB0.out hb1) (.cells #[.int .i64 0, .int .i64 0, .int .i64 0, .int .i64 0, .int .i64 0, .int .i64 0, .int .i64 0, .int .i64 0, .int .i64 0, .int .i64 0, .string ByteArray.empty, .slice none 0 0] 49))
  clear hb1
  go_wp2_with fail
  go_ret
  exact ⟨rfl, HB.out⟩
set_option maxRecDepth 100000 in
set_option maxHeartbeats 1000000 in
theorem rowned_yes (h : RfAt w pf R S) {N : Nat} (hk : FsOk S N) (no : Int) {a : An} (hg : S.get no = some a) :
    Calls Tryz.prog 243 #[.pointer (some ⟨pf, 0, none⟩), .agg #[.int .i64 0, .int .i64 0], .int .i64 no] w fun e w' => e = .returned (.int .i64 0) ∧ Below w.heap.size w w' := by
  obtain ⟨-, hno, hn1, -⟩ := hk.get hg
  have hz : (a.no == 0) = false := by simp only [beq_eq_false_iff_ne, ne_eq]; omega
  have hb0 := (Below.refl _ w).alloc (Nat.le_refl _) (.cells #[.int .i64 0, .int .i64 0] 67)
  obtain ⟨ea, el, ec, -, hG⟩ := rget_yes (h.keep hb0) hg
  have HG := Lib.hid hG
  have HO := Lib.hid (fun w => rowns00_any a ea el ec w)
  have hc1 := Blk.new w #[.int .i64 0, .int .i64 0] 67
  have HC1 := Lib.hid hc1
  have HB0 := Lib.hid hb0
  unfold An.v at HG HO
  clear h hk hg hb0 hG hno hc1
  go_enter Tryz.func243, Tryz.ntmps243
  go_wp2_with fail
  refine HG.out.mono ?_
  rintro e w1 ⟨rfl, hb1⟩
  have hc2 := (HC1.out.keep hb1).old (.cells #[.int .i64 a.no, .int .i64 a.dev, .int .i64 a.kind, .int .i64 a.mode, .int .i64 a.uid, .int .i64 a.gid, .int .i64 a.mtime, .int .i64 a.ctime, .int .i64 a.links, .int .i64 a.up, .string a.data, .slice ea el ec] 49)
  have hd2 := Blk.new w1 #[.int .i64 a.no, .int .i64 a.dev, .int .i64 a.kind, .int .i64 a.mode, .int .i64 a.uid, .int .i64 a.gid, .int .i64 a.mtime, .int .i64 a.ctime, .int .i64 a.links, .int .i64 a.up, .string a.data, .slice ea el ec] 49
  have hbb := balloc (bnext HB0.out hb1) (.cells #[.int .i64 a.no, .int .i64 a.dev, .int .i64 a.kind, .int .i64 a.mode, .int .i64 a.uid, .int .i64 a.gid, .int .i64 a.mtime, .int .i64 a.ctime, .int .i64 a.links, .int .i64 a.up, .string a.data, .slice ea el ec] 49)
  go_upto_region 2 with fail
  generalize w1.alloc (.cells #[.int .i64 a.no, .int .i64 a.dev, .int .i64 a.kind, .int .i64 a.mode, .int .i64 a.uid, .int .i64 a.gid, .int .i64 a.mtime, .int .i64 a.ctime, .int .i64 a.links, .int .i64 a.up, .string a.data, .slice ea el ec] 49) = X at hc2 hd2 hbb ⊢
  have HBB := Lib.hid hbb
  obtain ⟨dc, -, -⟩ := hd2.facts
  obtain ⟨cc, -, -⟩ := hc2.facts
  clear hb1 hc2 hd2 hbb
  go_wp2_with fail
  refine (HO.out _).mono ?_
  rintro e w2 ⟨rfl, hb2⟩
  have HB2 := Lib.hid (bnext HBB.out hb2)
  clear hb2
  go_wp2_with fail
  go_ret
  exact ⟨rfl, HB2.out⟩
set_option maxRecDepth 100000 in
set_option maxHeartbeats 4000000 in
theorem rtime_any (h : RfAt w pf R S) {N : Nat} (hk : FsOk S N) (no : Int) (t : Int) :
    Calls Tryz.prog 181 #[.pointer (some ⟨pf, 0, none⟩), .agg #[.int .i64 0, .int .i64 0], .int .i64 no, .int .i64 t] w fun e w' => e = .returned (.int .i64 (S.utime c00 R.now no t).2) ∧ ∃ R', RfAt w' pf R' (S.utime c00 R.now no t).1 ∧ Stp (R.F pf) (R'.F pf) w w' ∧ Rf.Like R R' := by
  have hkeep : ∀ w2, Below w.heap.size w w2 → ∃ R', RfAt w2 pf R' S ∧ Stp (R.F pf) (R'.F pf) w w2 ∧ Rf.Like R R' := fun w2 hb => ⟨R, h.keep hb, Stp.of_below hb, Rf.Like.refl R⟩
  have HKp := Lib.hid hkeep
  have hb0 := (Below.refl _ w).alloc (Nat.le_refl _) (.cells #[.int .i64 0, .int .i64 0] 67)
  have HB0 := Lib.hid hb0
  cases hg : S.get no with
  | none =>
    have HQ := Lib.hid (show S.utime c00 R.now no t = (S, 5) by unfold Fs.utime; rw [hg])
    have HO := Lib.hid (rowned_no (h.keep hb0) no hg)
    clear h hk hg hkeep hb0
    go_enter Tryz.func181, Tryz.ntmps181
    go_wp2_with fail
    refine HO.out.mono ?_
    rintro e w1 ⟨rfl, hb1⟩
    have HB := Lib.hid (bnext HB0.out hb1)
    clear hb1
    go_wp2_with fail
    go_ret
    rw [HQ.out]
    exact ⟨rfl, HKp.out _ HB.out⟩
  | some a =>
    have hno := an_no hg
    have HO := Lib.hid (rowned_yes (h.keep hb0) hk no hg)
    obtain ⟨ea, el, ec, hE, hG⟩ := rget_fix h hg
    have HG := Lib.hid hG
    have HSet := Lib.hid (fun w1 (hb : Below w.heap.size w w1) => rset_any (h.keep hb) hk.nums (a := { a with mtime := t, ctime := R.now }) (hE.keep hb) (b := a) (by show S.get a.no = some a; rw [hno]; exact hg))
    have hc1 := Blk.new w #[.int .i64 0, .int .i64 0] 67
    have HC1 := Lib.hid hc1
    have HQ0 := Lib.hid (show S.utime c00 R.now no t = (if t < 0 ∨ 253402300799 < t then (S, 1) else (S.set { a with mtime := t, ctime := R.now }, 0)) by unfold Fs.utime; rw [hg]; rfl)
    obtain ⟨pc, -, pz⟩ := h.blk.facts
    unfold An.v at HG HSet
    generalize hnow : R.now = now at HQ0 HSet pc
    have HHk := Lib.hid h
    clear h hk hg hkeep hb0 hG hE hc1 hno hnow
    by_cases h1 : t < 0
    · have HQ := Lib.hid (HQ0.out.trans (if_pos (.inl h1)))
      go_enter Tryz.func181, Tryz.ntmps181
      go_wp2_with fail
      refine HO.out.mono ?_
      rintro e w1 ⟨rfl, hb1⟩
      have hc2 := HC1.out.keep hb1
      have hbb := bnext HB0.out hb1
      have HC2 := Lib.hid hc2
      have HBB := Lib.hid hbb
      obtain ⟨cc, -, -⟩ := hc2.facts
      have pc2 := (hbb.cell (p := ⟨pf, 3, none⟩) pz).trans (pc 3)
      clear hb1 hc2 hbb
      go_wp2_with fail
      go_ret
      rw [HQ.out]
      exact ⟨rfl, HKp.out _ HBB.out⟩
    · by_cases h2 : 253402300799 < t
      · have HQ := Lib.hid (HQ0.out.trans (if_pos (.inr h2)))
        go_enter Tryz.func181, Tryz.ntmps181
        go_wp2_with fail
        refine HO.out.mono ?_
        rintro e w1 ⟨rfl, hb1⟩
        have hc2 := HC1.out.keep hb1
        have hbb := bnext HB0.out hb1
        have HC2 := Lib.hid hc2
        have HBB := Lib.hid hbb
        obtain ⟨cc, -, -⟩ := hc2.facts
        have pc2 := (hbb.cell (p := ⟨pf, 3, none⟩) pz).trans (pc 3)
        clear hb1 hc2 hbb
        go_wp2_with fail
        go_ret
        rw [HQ.out]
        exact ⟨rfl, HKp.out _ HBB.out⟩
      · have HQ := Lib.hid (HQ0.out.trans (if_neg (by omega)))
        go_enter Tryz.func181, Tryz.ntmps181
        go_wp2_with fail
        refine HO.out.mono ?_
        rintro e w1 ⟨rfl, hb1⟩
        have hc2 := HC1.out.keep hb1
        have hbb := bnext HB0.out hb1
        have HC2 := Lib.hid hc2
        have HBB := Lib.hid hbb
        obtain ⟨cc, -, -⟩ := hc2.facts
        have pc2 := (hbb.cell (p := ⟨pf, 3, none⟩) pz).trans (pc 3)
        clear hb1 hc2 hbb
        go_wp2_with fail
        refine (HG.out _ HBB.out).mono ?_
        rintro e w2 ⟨rfl, hb2⟩
        have pc3 := (hb2.cell (p := ⟨pf, 3, none⟩) (Nat.lt_of_lt_of_le pz HBB.out.size)).trans pc2
        have hp1 : pf < w2.heap.size := Nat.lt_of_lt_of_le (Nat.lt_of_lt_of_le pz HBB.out.size) hb2.size
        have hbX := balloc (bnext HBB.out hb2) (.cells #[.int .i64 a.no, .int .i64 a.dev, .int .i64 a.kind, .int .i64 a.mode, .int .i64 a.uid, .int .i64 a.gid, .int .i64 t, .int .i64 now, .int .i64 a.links, .int .i64 a.up, .string a.data, .slice ea el ec] 49)
        have HS := Lib.hid (HSet.out _ hbX)
        have HBX := Lib.hid hbX
        clear hb2 hbX pc pc2
        go_wp2_with fail
        refine HS.out.mono ?_
        rintro e w5 ⟨rfl, R', hR1, hR2, hR3, -⟩
        have HR := Lib.hid (And.intro hR1 (And.intro hR2 hR3))
        clear hR1 hR2 hR3
        go_wp2_with fail
        go_ret
        rw [HQ.out]
        exact ⟨rfl, R', HR.out.1, (Stp.of_below HBX.out).trans HR.out.2.1, HR.out.2.2⟩
set_option maxRecDepth 100000 in
set_option maxHeartbeats 4000000 in
theorem rowner_any (h : RfAt w pf R S) {N : Nat} (hk : FsOk S N) (no : Int) (u g : Int) :
    Calls Tryz.prog 179 #[.pointer (some ⟨pf, 0, none⟩), .agg #[.int .i64 0, .int .i64 0], .int .i64 no, .int .i64 u, .int .i64 g] w fun e w' => e = .returned (.int .i64 (S.chown c00 R.now no u g).2) ∧ ∃ R', RfAt w' pf R' (S.chown c00 R.now no u g).1 ∧ Stp (R.F pf) (R'.F pf) w w' ∧ Rf.Like R R' := by
  have hkeep : ∀ w2, Below w.heap.size w w2 → ∃ R', RfAt w2 pf R' S ∧ Stp (R.F pf) (R'.F pf) w w2 ∧ Rf.Like R R' := fun w2 hb => ⟨R, h.keep hb, Stp.of_below hb, Rf.Like.refl R⟩
  have HKp := Lib.hid hkeep
  have hb0 := (Below.refl _ w).alloc (Nat.le_refl _) (.cells #[.int .i64 0, .int .i64 0] 67)
  have HB0 := Lib.hid hb0
  cases hg : S.get no with
  | none =>
    have HQ := Lib.hid (show S.chown c00 R.now no u g = (S, 5) by unfold Fs.chown; rw [hg])
    have HO := Lib.hid (rowned_no (h.keep hb0) no hg)
    clear h hk hg hkeep hb0
    go_enter Tryz.func179, Tryz.ntmps179
    go_wp2_with fail
    refine HO.out.mono ?_
    rintro e w1 ⟨rfl, hb1⟩
    have HB := Lib.hid (bnext HB0.out hb1)
    clear hb1
    go_wp2_with fail
    go_ret
    rw [HQ.out]
    exact ⟨rfl, HKp.out _ HB.out⟩
  | some a =>
    have hno := an_no hg
    have HO := Lib.hid (rowned_yes (h.keep hb0) hk no hg)
    obtain ⟨ea, el, ec, hE, hG⟩ := rget_fix h hg
    have HG := Lib.hid hG
    have HSet := Lib.hid (fun w1 (hb : Below w.heap.size w w1) => rset_any (h.keep hb) hk.nums (a := { a with uid := u, gid := g, ctime := R.now }) (hE.keep hb) (b := a) (by show S.get a.no = some a; rw [hno]; exact hg))
    have HFi := Lib.hid (fun w => rfineC_any u g w)
    have hc1 := Blk.new w #[.int .i64 0, .int .i64 0] 67
    have HC1 := Lib.hid hc1
    have HQ0 := Lib.hid (show S.chown c00 R.now no u g = (if idB u g = false then (S, 1) else (S.set { a with uid := u, gid := g, ctime := R.now }, 0)) by unfold Fs.chown; rw [hg]; rfl)
    obtain ⟨pc, -, pz⟩ := h.blk.facts
    unfold An.v at HG HSet
    generalize hnow : R.now = now at HQ0 HSet pc
    have HHk := Lib.hid h
    clear h hk hg hkeep hb0 hG hE hc1 hno hnow
    cases hid : idB u g with
    | false =>
      have HQ := Lib.hid (HQ0.out.trans (if_pos hid))
      rw [hid] at HFi
      clear hid
      go_enter Tryz.func179, Tryz.ntmps179
      go_wp2_with fail
      refine HO.out.mono ?_
      rintro e w1 ⟨rfl, hb1⟩
      have hc2 := HC1.out.keep hb1
      have hbb := bnext HB0.out hb1
      have HC2 := Lib.hid hc2
      have HBB := Lib.hid hbb
      obtain ⟨cc, -, -⟩ := hc2.facts
      have pc2 := (hbb.cell (p := ⟨pf, 3, none⟩) pz).trans (pc 3)
      clear hb1 hc2 hbb
      go_wp2_with fail
      refine (HFi.out _).mono ?_
      rintro e w3 ⟨rfl, hb3⟩
      have hbb3 := bnext HBB.out hb3
      have pc4 := (hbb3.cell (p := ⟨pf, 3, none⟩) pz).trans (pc 3)
      replace HBB := Lib.hid hbb3
      replace pc2 := pc4
      clear hb3 hbb3 pc4
      go_wp2_with fail
      go_ret
      rw [HQ.out]
      exact ⟨rfl, HKp.out _ HBB.out⟩
    | true =>
      have HQ := Lib.hid (HQ0.out.trans (if_neg (by rw [hid]; decide)))
      rw [hid] at HFi
      clear hid
      go_enter Tryz.func179, Tryz.ntmps179
      go_wp2_with fail
      refine HO.out.mono ?_
      rintro e w1 ⟨rfl, hb1⟩
      have hc2 := HC1.out.keep hb1
      have hbb := bnext HB0.out hb1
      have HC2 := Lib.hid hc2
      have HBB := Lib.hid hbb
      obtain ⟨cc, -, -⟩ := hc2.facts
      have pc2 := (hbb.cell (p := ⟨pf, 3, none⟩) pz).trans (pc 3)
      clear hb1 hc2 hbb
      go_wp2_with fail
      refine (HFi.out _).mono ?_
      rintro e w3 ⟨rfl, hb3⟩
      have hbb3 := bnext HBB.out hb3
      have pc4 := (hbb3.cell (p := ⟨pf, 3, none⟩) pz).trans (pc 3)
      replace HBB := Lib.hid hbb3
      replace pc2 := pc4
      clear hb3 hbb3 pc4
      go_wp2_with fail
      refine (HG.out _ HBB.out).mono ?_
      rintro e w2 ⟨rfl, hb2⟩
      have pc3 := (hb2.cell (p := ⟨pf, 3, none⟩) (Nat.lt_of_lt_of_le pz HBB.out.size)).trans pc2
      have hp1 : pf < w2.heap.size := Nat.lt_of_lt_of_le (Nat.lt_of_lt_of_le pz HBB.out.size) hb2.size
      have hbX := balloc (bnext HBB.out hb2) (.cells #[.int .i64 a.no, .int .i64 a.dev, .int .i64 a.kind, .int .i64 a.mode, .int .i64 u, .int .i64 g, .int .i64 a.mtime, .int .i64 now, .int .i64 a.links, .int .i64 a.up, .string a.data, .slice ea el ec] 49)
      have HS := Lib.hid (HSet.out _ hbX)
      have HBX := Lib.hid hbX
      clear hb2 hbX pc pc2
      go_wp2_with fail
      refine HS.out.mono ?_
      rintro e w5 ⟨rfl, R', hR1, hR2, hR3, -⟩
      have HR := Lib.hid (And.intro hR1 (And.intro hR2 hR3))
      clear hR1 hR2 hR3
      go_wp2_with fail
      go_ret
      rw [HQ.out]
      exact ⟨rfl, R', HR.out.1, (Stp.of_below HBX.out).trans HR.out.2.1, HR.out.2.2⟩
set_option maxRecDepth 100000 in
set_option maxHeartbeats 4000000 in
theorem rmode_any (h : RfAt w pf R S) {N : Nat} (hk : FsOk S N) (no : Int) (m : Int) :
    Calls Tryz.prog 180 #[.pointer (some ⟨pf, 0, none⟩), .agg #[.int .i64 0, .int .i64 0], .int .i64 no, .int .i64 m] w fun e w' => e = .returned (.int .i64 (S.chmod c00 R.now no m).2) ∧ ∃ R', RfAt w' pf R' (S.chmod c00 R.now no m).1 ∧ Stp (R.F pf) (R'.F pf) w w' ∧ Rf.Like R R' := by
  have hkeep : ∀ w2, Below w.heap.size w w2 → ∃ R', RfAt w2 pf R' S ∧ Stp (R.F pf) (R'.F pf) w w2 ∧ Rf.Like R R' := fun w2 hb => ⟨R, h.keep hb, Stp.of_below hb, Rf.Like.refl R⟩
  have HKp := Lib.hid hkeep
  have hb0 := (Below.refl _ w).alloc (Nat.le_refl _) (.cells #[.int .i64 0, .int .i64 0] 67)
  have HB0 := Lib.hid hb0
  cases hg : S.get no with
  | none =>
    have HQ := Lib.hid (show S.chmod c00 R.now no m = (S, 5) by unfold Fs.chmod; rw [hg])
    have HO := Lib.hid (rowned_no (h.keep hb0) no hg)
    clear h hk hg hkeep hb0
    go_enter Tryz.func180, Tryz.ntmps180
    go_wp2_with fail
    refine HO.out.mono ?_
    rintro e w1 ⟨rfl, hb1⟩
    have HB := Lib.hid (bnext HB0.out hb1)
    clear hb1
    go_wp2_with fail
    go_ret
    rw [HQ.out]
    exact ⟨rfl, HKp.out _ HB.out⟩
  | some a =>
    have hno := an_no hg
    have HO := Lib.hid (rowned_yes (h.keep hb0) hk no hg)
    obtain ⟨ea, el, ec, hE, hG⟩ := rget_fix h hg
    have HG := Lib.hid hG
    have HSet := Lib.hid (fun w1 (hb : Below w.heap.size w w1) => rset_any (h.keep hb) hk.nums (a := { a with mode := m, ctime := R.now }) (hE.keep hb) (b := a) (by show S.get a.no = some a; rw [hno]; exact hg))
    have hc1 := Blk.new w #[.int .i64 0, .int .i64 0] 67
    have HC1 := Lib.hid hc1
    have HQ0 := Lib.hid (show S.chmod c00 R.now no m = (if m < 0 ∨ 1023 < m ∨ a.kind = 3 then (S, 1) else (S.set { a with mode := m, ctime := R.now }, 0)) by unfold Fs.chmod; rw [hg]; rfl)
    obtain ⟨pc, -, pz⟩ := h.blk.facts
    unfold An.v at HG HSet
    generalize hnow : R.now = now at HQ0 HSet pc
    have HHk := Lib.hid h
    clear h hk hg hkeep hb0 hG hE hc1 hno hnow
    by_cases h1 : m < 0
    · have HQ := Lib.hid (HQ0.out.trans (if_pos (.inl h1)))
      go_enter Tryz.func180, Tryz.ntmps180
      go_wp2_with fail
      refine HO.out.mono ?_
      rintro e w1 ⟨rfl, hb1⟩
      have hc2 := HC1.out.keep hb1
      have hbb := bnext HB0.out hb1
      have HC2 := Lib.hid hc2
      have HBB := Lib.hid hbb
      obtain ⟨cc, -, -⟩ := hc2.facts
      have pc2 := (hbb.cell (p := ⟨pf, 3, none⟩) pz).trans (pc 3)
      clear hb1 hc2 hbb
      go_wp2_with fail
      refine (HG.out _ HBB.out).mono ?_
      rintro e w2 ⟨rfl, hb2⟩
      have HB9 := Lib.hid (balloc (bnext HBB.out hb2) (.cells #[.int .i64 a.no, .int .i64 a.dev, .int .i64 a.kind, .int .i64 a.mode, .int .i64 a.uid, .int .i64 a.gid, .int .i64 a.mtime, .int .i64 a.ctime, .int .i64 a.links, .int .i64 a.up, .string a.data, .slice ea el ec] 49))
      clear hb2
      go_wp2_with fail
      go_ret
      rw [HQ.out]
      exact ⟨rfl, HKp.out _ HB9.out⟩
    · by_cases h2 : 1023 < m
      · have HQ := Lib.hid (HQ0.out.trans (if_pos (.inr (.inl h2))))
        go_enter Tryz.func180, Tryz.ntmps180
        go_wp2_with fail
        refine HO.out.mono ?_
        rintro e w1 ⟨rfl, hb1⟩
        have hc2 := HC1.out.keep hb1
        have hbb := bnext HB0.out hb1
        have HC2 := Lib.hid hc2
        have HBB := Lib.hid hbb
        obtain ⟨cc, -, -⟩ := hc2.facts
        have pc2 := (hbb.cell (p := ⟨pf, 3, none⟩) pz).trans (pc 3)
        clear hb1 hc2 hbb
        go_wp2_with fail
        refine (HG.out _ HBB.out).mono ?_
        rintro e w2 ⟨rfl, hb2⟩
        have HB9 := Lib.hid (balloc (bnext HBB.out hb2) (.cells #[.int .i64 a.no, .int .i64 a.dev, .int .i64 a.kind, .int .i64 a.mode, .int .i64 a.uid, .int .i64 a.gid, .int .i64 a.mtime, .int .i64 a.ctime, .int .i64 a.links, .int .i64 a.up, .string a.data, .slice ea el ec] 49))
        clear hb2
        go_wp2_with fail
        go_ret
        rw [HQ.out]
        exact ⟨rfl, HKp.out _ HB9.out⟩
      · by_cases h3 : a.kind = 3
        · have HQ := Lib.hid (HQ0.out.trans (if_pos (.inr (.inr h3))))
          have q3 : (a.kind == 3) = true := by simpa using h3
          clear h3
          go_enter Tryz.func180, Tryz.ntmps180
          go_wp2_with fail
          refine HO.out.mono ?_
          rintro e w1 ⟨rfl, hb1⟩
          have hc2 := HC1.out.keep hb1
          have hbb := bnext HB0.out hb1
          have HC2 := Lib.hid hc2
          have HBB := Lib.hid hbb
          obtain ⟨cc, -, -⟩ := hc2.facts
          have pc2 := (hbb.cell (p := ⟨pf, 3, none⟩) pz).trans (pc 3)
          clear hb1 hc2 hbb
          go_wp2_with fail
          refine (HG.out _ HBB.out).mono ?_
          rintro e w2 ⟨rfl, hb2⟩
          have HB9 := Lib.hid (balloc (bnext HBB.out hb2) (.cells #[.int .i64 a.no, .int .i64 a.dev, .int .i64 a.kind, .int .i64 a.mode, .int .i64 a.uid, .int .i64 a.gid, .int .i64 a.mtime, .int .i64 a.ctime, .int .i64 a.links, .int .i64 a.up, .string a.data, .slice ea el ec] 49))
          clear hb2
          go_wp2_with fail
          go_ret
          rw [HQ.out]
          exact ⟨rfl, HKp.out _ HB9.out⟩
        · have HQ := Lib.hid (HQ0.out.trans (if_neg (by omega)))
          have q3 : (a.kind == 3) = false := by simpa using h3
          clear h3
          go_enter Tryz.func180, Tryz.ntmps180
          go_wp2_with fail
          refine HO.out.mono ?_
          rintro e w1 ⟨rfl, hb1⟩
          have hc2 := HC1.out.keep hb1
          have hbb := bnext HB0.out hb1
          have HC2 := Lib.hid hc2
          have HBB := Lib.hid hbb
          obtain ⟨cc, -, -⟩ := hc2.facts
          have pc2 := (hbb.cell (p := ⟨pf, 3, none⟩) pz).trans (pc 3)
          clear hb1 hc2 hbb
          go_wp2_with fail
          refine (HG.out _ HBB.out).mono ?_
          rintro e w2 ⟨rfl, hb2⟩
          have pc3 := (hb2.cell (p := ⟨pf, 3, none⟩) (Nat.lt_of_lt_of_le pz HBB.out.size)).trans pc2
          have hp1 : pf < w2.heap.size := Nat.lt_of_lt_of_le (Nat.lt_of_lt_of_le pz HBB.out.size) hb2.size
          have hbX := balloc (bnext HBB.out hb2) (.cells #[.int .i64 a.no, .int .i64 a.dev, .int .i64 a.kind, .int .i64 m, .int .i64 a.uid, .int .i64 a.gid, .int .i64 a.mtime, .int .i64 now, .int .i64 a.links, .int .i64 a.up, .string a.data, .slice ea el ec] 49)
          have HS := Lib.hid (HSet.out _ hbX)
          have HBX := Lib.hid hbX
          clear hb2 hbX pc pc2
          go_wp2_with fail
          refine HS.out.mono ?_
          rintro e w5 ⟨rfl, R', hR1, hR2, hR3, -⟩
          have HR := Lib.hid (And.intro hR1 (And.intro hR2 hR3))
          clear hR1 hR2 hR3
          go_wp2_with fail
          go_ret
          rw [HQ.out]
          exact ⟨rfl, R', HR.out.1, (Stp.of_below HBX.out).trans HR.out.2.1, HR.out.2.2⟩
end

end Go.Proofs.YtihdbncoijhihaaGreat
