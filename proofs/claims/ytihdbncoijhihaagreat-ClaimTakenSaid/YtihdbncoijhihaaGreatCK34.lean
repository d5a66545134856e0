/- Texts of the proof, part 34. -/
import Derived.Deep.CutBlock
import Derived.Deep.DeepCutAuto
import Derived.RegionTactic
import Derived.BigRegion
import Derived.Deep.QuietTactic
import Derived.BigQuiet
import Derived.WalkSmall
import Derived.Test.YtihdbncoijhihaaGreatCK33
import Derived.Test.YtihdbncoijhihaaGreatCK29
import Derived.Test.YtihdbncoijhihaaGreatCK25
import Derived.Test.YtihdbncoijhihaaGreatCK12
import Derived.Test.YtihdbncoijhihaaGreatCK26
import Derived.Test.YtihdbncoijhihaaGreatCK7
set_option linter.unusedVariables false
set_option linter.unusedSimpArgs false
/- The reference's tree (layer 14): Hard. -/
namespace Go.Proofs.YtihdbncoijhihaaGreat

open Go.RowKit

section

variable {w w' : World} {pf : Nat} {R : Rf} {S : Fs}

/-- Get, whatever the number. -/
theorem rgetZ_fix (h : RfAt w pf R S) (k : Int) : ∃ ea el ec, EntsAt w ea el ec (S.getZ k).ents ∧ ∀ w1, Below w.heap.size w w1 →
    Calls Tryz.prog 67 #[.pointer (some ⟨pf, 0, none⟩), .int .i64 k] w1 fun e w' => e = .returned ((S.getZ k).v ea el ec) ∧ Below w1.heap.size w1 w' := by
  cases hg : S.get k with
  | none =>
    rw [getZ_none hg]
    exact ⟨none, 0, 0, EntsAt.nil w, fun w1 hb => rget_no (h.keep hb) hg⟩
  | some a =>
    rw [getZ_some hg]
    exact rget_fix h hg
/-- Place, whatever the directory. -/
theorem rplaceZ (h : RfAt w pf R S) {N : Nat} (hk : FsOk S N) (dir : Int) (s : ByteArray) (hs : s.size ≤ 100000) : ∃ dz ea el ec, EntsAt w ea el ec dz.ents ∧ (S.placeE c00 dir s = 0 → S.get dir = some dz) ∧
    Calls Tryz.prog 220 #[.pointer (some ⟨pf, 0, none⟩), .agg #[.int .i64 0, .int .i64 0], .int .i64 dir, .string s] w fun e w' => e = .returned (.tuple #[dz.v ea el ec, .int .i64 (S.placeE c00 dir s)]) ∧ Below w.heap.size w w' := by
  cases hg : S.get dir with
  | none =>
    have hp : S.placeE c00 dir s = 5 := by unfold Fs.placeE; rw [hg]
    have hq := rplace_none h dir s hg
    rw [← hp] at hq
    exact ⟨an0, none, 0, 0, EntsAt.nil w, (fun e => absurd (hp.symm.trans e) (by decide)), hq⟩
  | some d =>
    obtain ⟨ea, el, ec, hE, hP⟩ := rplace_some h hk dir s hs d hg
    by_cases hp : S.placeE c00 dir s = 0
    · refine ⟨d, ea, el, ec, hE, (fun _ => rfl), hP.mono ?_⟩
      rintro e w1 ⟨⟨h1, -⟩ | ⟨-, rfl⟩, hb⟩
      · exact absurd hp h1
      · exact ⟨by rw [hp], hb⟩
    · refine ⟨an0, none, 0, 0, EntsAt.nil w, (fun e => absurd e hp), hP.mono ?_⟩
      rintro e w1 ⟨⟨-, rfl⟩ | ⟨h1, -⟩, hb⟩
      · exact ⟨rfl, hb⟩
      · exact absurd h1 hp
theorem getZ_no {S : Fs} {N : Nat} (hk : FsOk S N) (k : Int) : ((S.getZ k).no == 0) = (S.get k).isNone := by
  cases hg : S.get k with
  | none => rw [getZ_none hg]; rfl
  | some a =>
    rw [getZ_some hg]
    obtain ⟨-, h1, h2, -⟩ := hk.get hg
    simp only [Option.isNone_some, beq_eq_false_iff_ne, ne_eq]
    omega
set_option maxRecDepth 100000 in
set_option maxHeartbeats 4000000 in
theorem rhard_any (h : RfAt w pf R S) {N : Nat} (hk : FsOk S N) (hN : N ≤ 100000) (no dir : Int) (s : ByteArray) (hs : s.size ≤ 100000) :
    Calls Tryz.prog 242 #[.pointer (some ⟨pf, 0, none⟩), .agg #[.int .i64 0, .int .i64 0], .int .i64 no, .int .i64 dir, .string s] w fun e w' => e = .returned (.int .i64 (S.hard c00 R.now no dir s).2) ∧ ∃ R', RfAt w' pf R' (S.hard c00 R.now no dir s).1 ∧ Stp (R.F pf) (R'.F pf) w w' ∧ Rf.Like R R' := by
  have hkeep : ∀ w2, Below w.heap.size w w2 → ∃ R', RfAt w2 pf R' S ∧ Stp (R.F pf) (R'.F pf) w w2 ∧ Rf.Like R R' := fun w2 hb => ⟨R, h.keep hb, Stp.of_below hb, Rf.Like.refl R⟩
  have HKp := Lib.hid hkeep
  have hb0 := (Below.refl _ w).alloc (Nat.le_refl _) (.cells #[.int .i64 0, .int .i64 0] 67)
  have HB0 := Lib.hid hb0
  obtain ⟨dz, da, dl, dc, hE, hdz, hP⟩ := rplaceZ (h.keep hb0) hk dir s hs
  obtain ⟨na, nl, nc, hNE, hG⟩ := rgetZ_fix h no
  have hnz := getZ_no hk no
  have HP := Lib.hid hP
  have HG := Lib.hid hG
  have HE := Lib.hid hE
  have HDl := Lib.hid hE.len
  have HF := Lib.hid (show ∀ k, w.heap.size ≤ k → ¬ R.F pf k from fun k hk hf => by have := h.lt hf; omega)
  have HH := Lib.hid h
  by_cases hpe : S.placeE c00 dir s = 0
  · have hgd := hdz hpe
    obtain ⟨hdo, hdn, -, -⟩ := hk.get hgd
    cases hgn : S.get no with
    | none =>
      have HQ := Lib.hid (show S.hard c00 R.now no dir s = (S, 5) by unfold Fs.hard; rw [if_neg (by simpa using hpe), hgd, hgn])
      rw [hgn] at hnz
      have hnz2 : ((S.getZ no).no == 0) = true := hnz
      rw [hpe] at HP
      unfold An.v at HP HG
      generalize S.getZ no = nd at HG hnz2 hNE
      clear h hk hkeep hb0 hE hdz hP hG hnz hgd hdo hdn hgn hpe hNE
      go_enter Tryz.func242, Tryz.ntmps242
      go_wp2_with fail
      refine HP.out.mono ?_
      rintro e w1 ⟨rfl, hb1⟩
      have hbb := balloc (bnext HB0.out hb1) (.cells #[.int .i64 dz.no, .int .i64 dz.dev, .int .i64 dz.kind, .int .i64 dz.mode, .int .i64 dz.uid, .int .i64 dz.gid, .int .i64 dz.mtime, .int .i64 dz.ctime, .int .i64 dz.links, .int .i64 dz.up, .string dz.data, .slice da dl dc] 49)
      have HBB := Lib.hid hbb
      clear hb1 hbb
      go_wp2_with fail
      refine (HG.out _ HBB.out).mono ?_
      rintro e w2 ⟨rfl, hb2⟩
      have HB2 := Lib.hid (balloc (bnext HBB.out hb2) (.cells #[.int .i64 nd.no, .int .i64 nd.dev, .int .i64 nd.kind, .int .i64 nd.mode, .int .i64 nd.uid, .int .i64 nd.gid, .int .i64 nd.mtime, .int .i64 nd.ctime, .int .i64 nd.links, .int .i64 nd.up, .string nd.data, .slice na nl nc] 49))
      clear hb2
      go_wp2_with fail
      go_ret
      rw [HQ.out]
      exact ⟨rfl, HKp.out _ HB2.out⟩
    | some n =>
      rw [getZ_some hgn] at hnz hG HG hNE
      rw [hgn] at hnz
      have hnz2 : (n.no == 0) = false := hnz
      have hnn := an_no hgn
      have hel : dl ≤ 100000 := by have := hdo.few; have := HDl.out; omega
      have HQ0 := Lib.hid (show S.hard c00 R.now no dir s = if n.kind = 1 then (S, 4) else if entFind dz.ents s ≠ 0 then (S, 7) else if n.dev ≠ dz.dev then (S, 11) else if 1000 ≤ n.links then (S, 18) else ((S.set { n with links := n.links + 1, ctime := R.now }).touch R.now dir (entPut dz.ents s no), 0) by unfold Fs.hard; rw [if_neg (by simpa using hpe), hgd, hgn])
      have HSet := Lib.hid (fun w1 (hb : Below w.heap.size w w1) => rset_any (h.keep hb) hk.nums (a := { n with links := n.links + 1, ctime := R.now }) (hNE.keep hb) (b := n) (by show S.get n.no = some n; rw [hnn]; exact hgn))
      have HNm := Lib.hid (hk.nums.set { n with links := n.links + 1, ctime := R.now })
      have HGd := Lib.hid (show n.kind ≠ 1 → (S.set { n with links := n.links + 1, ctime := R.now }).get dir = some dz from fun hk1 => by
        rw [an_set (b := n) (by show S.get n.no = some n; rw [hnn]; exact hgn), if_neg]
        · exact hgd
        · intro e
          have e2 : dir = no := e.trans hnn
          rw [e2, hgn] at hgd
          injection hgd with hgd
          subst hgd
          have h5 := hpe
          unfold Fs.placeE at h5
          rw [e2, hgn] at h5
          simp only at h5
          rw [if_pos hk1] at h5
          cases h5)
      have hlk : -9223372036854775808 ≤ n.links ∧ n.links ≤ 1000 := by
        have := (hk.get hgn).1.links
        omega
      obtain ⟨pc, -, pz⟩ := h.blk.facts
      rw [hpe] at HP
      unfold An.v at HP HG HSet
      generalize hnow : R.now = now at HQ0 HSet HNm HGd pc
      have HNow := Lib.hid hnow
      clear h hk hkeep hb0 hE hdz hP hG hnz hgd hdo hdn hgn hpe hNE hnn hnow
      go_enter Tryz.func242, Tryz.ntmps242
      go_wp2_with fail
      refine HP.out.mono ?_
      rintro e w1 ⟨rfl, hb1⟩
      have hbb := balloc (bnext HB0.out hb1) (.cells #[.int .i64 dz.no, .int .i64 dz.dev, .int .i64 dz.kind, .int .i64 dz.mode, .int .i64 dz.uid, .int .i64 dz.gid, .int .i64 dz.mtime, .int .i64 dz.ctime, .int .i64 dz.links, .int .i64 dz.up, .string dz.data, .slice da dl dc] 49)
      have hd1 := Blk.new w1 #[.int .i64 dz.no, .int .i64 dz.dev, .int .i64 dz.kind, .int .i64 dz.mode, .int .i64 dz.uid, .int .i64 dz.gid, .int .i64 dz.mtime, .int .i64 dz.ctime, .int .i64 dz.links, .int .i64 dz.up, .string dz.data, .slice da dl dc] 49
      have hE1 := (HE.out.keep hb1).keep ((Below.refl _ w1).alloc (Nat.le_refl _) (.cells #[.int .i64 dz.no, .int .i64 dz.dev, .int .i64 dz.kind, .int .i64 dz.mode, .int .i64 dz.uid, .int .i64 dz.gid, .int .i64 dz.mtime, .int .i64 dz.ctime, .int .i64 dz.links, .int .i64 dz.up, .string dz.data, .slice da dl dc] 49))
      have hD0 : w.heap.size ≤ w1.heap.size := (bnext HB0.out hb1).size
      go_upto_region 2 with fail
      generalize w1.alloc (.cells #[.int .i64 dz.no, .int .i64 dz.dev, .int .i64 dz.kind, .int .i64 dz.mode, .int .i64 dz.uid, .int .i64 dz.gid, .int .i64 dz.mtime, .int .i64 dz.ctime, .int .i64 dz.links, .int .i64 dz.up, .string dz.data, .slice da dl dc] 49) = X at hbb hd1 hE1 ⊢
      generalize w1.heap.size = D at hd1 hD0 ⊢
      have HBB := Lib.hid hbb
      have HX := Lib.hid (And.intro hd1 hE1)
      clear hb1 hbb hd1 hE1
      go_wp2_with fail
      refine (HG.out _ HBB.out).mono ?_
      rintro e w2 ⟨rfl, hb2⟩
      have hd2 := (HX.out.1.keep hb2).old (.cells #[.int .i64 n.no, .int .i64 n.dev, .int .i64 n.kind, .int .i64 n.mode, .int .i64 n.uid, .int .i64 n.gid, .int .i64 n.mtime, .int .i64 n.ctime, .int .i64 n.links, .int .i64 n.up, .string n.data, .slice na nl nc] 49)
      have hE2 := (HX.out.2.keep hb2).keep ((Below.refl _ w2).alloc (Nat.le_refl _) (.cells #[.int .i64 n.no, .int .i64 n.dev, .int .i64 n.kind, .int .i64 n.mode, .int .i64 n.uid, .int .i64 n.gid, .int .i64 n.mtime, .int .i64 n.ctime, .int .i64 n.links, .int .i64 n.up, .string n.data, .slice na nl nc] 49))
      have hb3 := balloc (bnext HBB.out hb2) (.cells #[.int .i64 n.no, .int .i64 n.dev, .int .i64 n.kind, .int .i64 n.mode, .int .i64 n.uid, .int .i64 n.gid, .int .i64 n.mtime, .int .i64 n.ctime, .int .i64 n.links, .int .i64 n.up, .string n.data, .slice na nl nc] 49)
      have hn2 := Blk.new w2 #[.int .i64 n.no, .int .i64 n.dev, .int .i64 n.kind, .int .i64 n.mode, .int .i64 n.uid, .int .i64 n.gid, .int .i64 n.mtime, .int .i64 n.ctime, .int .i64 n.links, .int .i64 n.up, .string n.data, .slice na nl nc] 49
      have hN0 : w.heap.size ≤ w2.heap.size := (bnext HBB.out hb2).size
      have hDN : D < w2.heap.size := Nat.lt_of_lt_of_le HX.out.1.lt hb2.size
      go_upto_region 3 with fail
      generalize w2.alloc (.cells #[.int .i64 n.no, .int .i64 n.dev, .int .i64 n.kind, .int .i64 n.mode, .int .i64 n.uid, .int .i64 n.gid, .int .i64 n.mtime, .int .i64 n.ctime, .int .i64 n.links, .int .i64 n.up, .string n.data, .slice na nl nc] 49) = Z at hd2 hE2 hb3 hn2 ⊢
      generalize w2.heap.size = M at hn2 hN0 hDN ⊢
      have HZ := Lib.hid (And.intro hd2 (And.intro hE2 (And.intro hb3 hn2)))
      have HFd := Lib.hid (rfind_any dz.ents da dl dc s Z hE2)
      have HBZ := Lib.hid hb3
      obtain ⟨dcc, dcf, dcz⟩ := hd2.facts
      obtain ⟨ncc, ncf, ncz⟩ := hn2.facts
      clear hb2 hd2 hE2 hb3 hn2
      by_cases h1 : n.kind = 1
      · have HQ := Lib.hid (HQ0.out.trans (if_pos h1))
        have q1 : (n.kind == 1) = true := by simpa using h1
        clear h1
        go_wp2_with fail
        go_ret
        rw [HQ.out]
        exact ⟨rfl, HKp.out _ HBZ.out⟩
      · have HQ1 := Lib.hid (HQ0.out.trans (if_neg h1))
        have q1 : (n.kind == 1) = false := by simpa using h1
        have HGd2 := Lib.hid (HGd.out h1)
        clear h1
        go_wp2_with fail
        refine HFd.out.mono ?_
        rintro e w4 ⟨rfl, hb4⟩
        obtain ⟨hd2, hE2, hb3, hn2⟩ := HZ.out
        have hd4 := hd2.keep hb4
        have hn4 := hn2.keep hb4
        have hE4 := hE2.keep hb4
        have hbw := bnext hb3 hb4
        have HW4 := Lib.hid (And.intro hd4 (And.intro hn4 (And.intro hE4 hbw)))
        clear dcc dcf dcz ncc ncf ncz
        obtain ⟨dcc, dcf, dcz⟩ := hd4.facts
        obtain ⟨ncc, ncf, ncz⟩ := hn4.facts
        clear hb4 hd2 hE2 hb3 hn2 hd4 hn4 hE4 hbw
        by_cases h2 : entFind dz.ents s = 0
        · have HQ2 := Lib.hid (HQ1.out.trans (if_neg (by simpa using h2)))
          have q2 : (entFind dz.ents s != 0) = false := by simpa using h2
          clear h2
          by_cases h3 : n.dev = dz.dev
          · have HQ3 := Lib.hid (HQ2.out.trans (if_neg (by simpa using h3)))
            have q3 : (n.dev != dz.dev) = false := by simpa using h3
            clear h3
            by_cases h4 : 1000 ≤ n.links
            · have HQ := Lib.hid (HQ3.out.trans (if_pos h4))
              go_wp2_with fail
              go_ret
              rw [HQ.out]
              exact ⟨rfl, HKp.out _ HW4.out.2.2.2⟩
            · have HQ := Lib.hid (HQ3.out.trans (if_neg h4))
              obtain ⟨hd4, hn4, hE4, hbw⟩ := HW4.out
              have pc3 := (hbw.cell (p := ⟨pf, 3, none⟩) pz).trans (pc 3)
              have hp1 : ¬ pf = M := by omega
              have hp2 : ¬ M = pf := by omega
              have hp3 : ¬ D = M := by omega
              have hp4 : ¬ M = D := by omega
              have hm := ((Mod.refl (fun k => k = M) w4).setCell (a := ⟨M, 8, none⟩) (.inl rfl) (.int .i64 (n.links + 1))).setCell (a := ⟨M, 7, none⟩) (.inl rfl) (.int .i64 now)
              have hn5 := (hn4.set 8 (.int .i64 (n.links + 1))).set 7 (.int .i64 now)
              have hd5 := hd4.mod hm (by omega)
              have hE5 := hE4.turn (fun b cur hc => hm.block b (Array.getElem?_eq_some_iff.1 hc).1 (fun e => by
                subst e
                unfold Blk at hn4
                rw [hn4] at hc
                injection hc with hc
                injection hc with _ hc
                revert hc; decide)) hm.size
              have hbY := hm.below (B := w.heap.size) (fun k hk => by omega) hbw.size
              have HY := Lib.hid (And.intro hd5 (And.intro hn5 (And.intro hE5 (hbw.trans hbY))))
              clear hd4 hn4 hE4 hbw hm hn5 hd5 hE5 hbY
              go_upto_region 17 with fail
              generalize (w4.setCell ⟨M, 8, none⟩ (.int .i64 (n.links + 1))).setCell ⟨M, 7, none⟩ (.int .i64 now) = Y at HY ⊢
              obtain ⟨hd5, hn5, hE5, hbY⟩ := HY.out
              have HS := Lib.hid (HSet.out Y hbY)
              have HBY := Lib.hid hbY
              have hhY := HH.out.keep hbY
              clear dcc dcf dcz ncc ncf ncz pc3
              obtain ⟨ncc, ncf, ncz⟩ := hn5.facts
              clear hn5 hbY
              go_wp2_with fail
              refine HS.out.mono ?_
              rintro e w6 ⟨rfl, R6, hR6, hS6, hL6, -⟩
              have hd6 := hd5.mod hS6.mod (HF.out D hD0)
              have hE6 := hE5.rf hhY hS6
              have HR6 := Lib.hid (And.intro hR6 (And.intro ((Stp.of_below HBY.out).trans hS6) hL6))
              obtain ⟨dcc, dcf, dcz⟩ := hd6.facts
              have HPu := Lib.hid (rput_any dz.ents da dl dc s no w6 hE6 (by omega))
              clear hR6 hS6 hL6 hd6 hE6 hd5 hE5 hhY ncc ncf ncz
              go_wp2_with fail
              refine HPu.out.mono ?_
              rintro e w7 ⟨⟨a7, n7, c7, rfl, hE7⟩, hb7⟩
              have HTo := Lib.hid (rtouch_any (HR6.out.1.keep hb7) HNm.out dir HGd2.out hE7)
              rw [HR6.out.2.2.now, HNow.out] at HTo
              have HB7 := Lib.hid hb7
              clear hE7 hb7 dcc dcf dcz
              go_wp2_with fail
              refine HTo.out.mono ?_
              rintro e w8 ⟨rfl, R8, hR8, hS8, hL8⟩
              have HR8 := Lib.hid (And.intro hR8 (And.intro ((HR6.out.2.1.trans (Stp.of_below HB7.out)).trans hS8) (HR6.out.2.2.trans hL8)))
              clear hR8 hS8 hL8
              go_wp2_with fail
              go_ret
              rw [HQ.out]
              exact ⟨rfl, R8, HR8.out⟩
          · have HQ := Lib.hid (HQ2.out.trans (if_pos (by simpa using h3)))
            have q3 : (n.dev != dz.dev) = true := by simpa using h3
            clear h3
            go_wp2_with fail
            go_ret
            rw [HQ.out]
            exact ⟨rfl, HKp.out _ HW4.out.2.2.2⟩
        · have HQ := Lib.hid (HQ1.out.trans (if_pos (by simpa using h2)))
          have q2 : (entFind dz.ents s != 0) = true := by simpa using h2
          clear h2
          go_wp2_with fail
          go_ret
          rw [HQ.out]
          exact ⟨rfl, HKp.out _ HW4.out.2.2.2⟩
  · have HQ := Lib.hid (show S.hard c00 R.now no dir s = (S, S.placeE c00 dir s) by unfold Fs.hard; rw [if_pos hpe])
    generalize S.placeE c00 dir s = pe at HQ HP hpe
    have hpb : (pe != 0) = true := by simpa using hpe
    unfold An.v at HP HG
    generalize S.getZ no = nd at HG hNE
    clear h hk hkeep hb0 hE hdz hP hG hnz hpe hNE
    go_enter Tryz.func242, Tryz.ntmps242
    go_wp2_with fail
    refine HP.out.mono ?_
    rintro e w1 ⟨rfl, hb1⟩
    have hbb := balloc (bnext HB0.out hb1) (.cells #[.int .i64 dz.no, .int .i64 dz.dev, .int .i64 dz.kind, .int .i64 dz.mode, .int .i64 dz.uid, .int .i64 dz.gid, .int .i64 dz.mtime, .int .i64 dz.ctime, .int .i64 dz.links, .int .i64 dz.up, .string dz.data, .slice da dl dc] 49)
    have HBB := Lib.hid hbb
    clear hb1 hbb
    go_wp2_with fail
    refine (HG.out _ HBB.out).mono ?_
    rintro e w2 ⟨rfl, hb2⟩
    have HB2 := Lib.hid (balloc (bnext HBB.out hb2) (.cells #[.int .i64 nd.no, .int .i64 nd.dev, .int .i64 nd.kind, .int .i64 nd.mode, .int .i64 nd.uid, .int .i64 nd.gid, .int .i64 nd.mtime, .int .i64 nd.ctime, .int .i64 nd.links, .int .i64 nd.up, .string nd.data, .slice na nl nc] 49))
    clear hb2
    go_wp2_with fail
    go_ret
    rw [HQ.out]
    exact ⟨rfl, HKp.out _ HB2.out⟩
end

end Go.Proofs.YtihdbncoijhihaaGreat

/- The rows of a tree, as the reference tells them: ref22.Below. -/
namespace Go.Proofs.YtihdbncoijhihaaGreat

open Go.RowKit

def lenV : Value → Nat | .slice _ n _ => n | _ => 0
section

variable {w w' : World} {pf : Nat} {R : Rf} {S : Fs}

end

end Go.Proofs.YtihdbncoijhihaaGreat

/- Rows of a tree lie in order, purely. -/
namespace Go.Proofs.YtihdbncoijhihaaGreat

open Go.RowKit

structure GoodN (p : List UInt8) : Prop where
  ne : p ≠ []
  n1 : p ≠ [46]
  n2 : p ≠ [46, 46]
  no : ∀ x ∈ p, x ≠ 47
  chk : checkE (str p) = 0
def pthL (ns : List (List UInt8)) : List UInt8 := 47 :: Lib.join ns [47]
def pth (ns : List (List UInt8)) : ByteArray := str (pthL ns)
/-- what lies where. -/
def OrdR (a b : List (List UInt8)) : Prop := a ≠ b ∧ ∀ p x y, a = p ++ [x] → b = p ++ [y] → Op.bytesLess x y = true
structure OrdSt (S : Fs) (vis : List (List (List UInt8) × An)) (td : List (List (List UInt8) × Int)) : Prop where
  vgood : ∀ y ∈ vis, ∀ p ∈ y.1, GoodN p
  tgood : ∀ y ∈ td, ∀ p ∈ y.1, GoodN p
  par : ∀ (i : Nat) (y : List (List UInt8) × An), vis[i]? = some y → ∀ p x, y.1 = p ++ [x] → ∃ (k : Nat) (z : List (List UInt8) × An), k < i ∧ vis[k]? = some z ∧ z.1 = p ∧ z.2.kind = 1
  tpar : ∀ y ∈ td, ∀ p x, y.1 = p ++ [x] → ∃ z ∈ vis, z.1 = p ∧ z.2.kind = 1
  ord : (vis.map (·.1) ++ td.map (·.1)).Pairwise OrdR
  get : ∀ y ∈ vis, S.get y.2.no = some y.2
def kidsN (ns : List (List UInt8)) (n : An) : List (List (List UInt8) × Int) := n.ents.map fun e => (ns ++ [e.name.data.toList], e.no)
end Go.Proofs.YtihdbncoijhihaaGreat

/- The way to each row of a planted tree, purely. -/
namespace Go.Proofs.YtihdbncoijhihaaGreat

open Go.RowKit

inductive Way (S : Fs) : List (List UInt8) → Int → Prop
  | top : Way S [] 1
  | down {ns : List (List UInt8)} {d : Int} {a : An} {e : En} (h : Way S ns d) (hg : S.get d = some a) (he : e ∈ a.ents) : Way S (ns ++ [e.name.data.toList]) (S.over e.no)
structure Grown (S : Fs) (N : Nat) : Prop where
  ok : FsOk S N
  pl : Pl S
  tr : Tr S
  nm : Nm S
  wy : Wy S
section

variable {S : Fs} {N : Nat}

theorem over_cases (S : Fs) (k : Int) : S.over k = k ∨ ∃ (i : Nat) (hi : i < S.ds.length), S.ds[i].over = k ∧ k ≠ 0 ∧ S.over k = S.ds[i].root := by
  unfold Fs.over
  split
  · rename_i hk
    split
    · rename_i d hd
      obtain ⟨i, hi, hid⟩ := List.mem_iff_getElem.1 (List.mem_of_find?_eq_some hd)
      subst hid
      refine .inr ⟨i, hi, by simpa using List.find?_some hd, by omega, rfl⟩
    · exact .inl rfl
  · exact .inl rfl
theorem entFind_mem {l : List En} (h : Rise l) {e : En} (he : e ∈ l) : entFind l e.name = e.no := by
  induction l with
  | nil => cases he
  | cons y l ih =>
    unfold Rise at h
    rw [List.pairwise_cons] at h
    unfold entFind
    rw [List.find?_cons]
    by_cases hy : y.name = e.name
    · rw [show decide (y.name = e.name) = true by simpa using hy]
      rcases List.mem_cons.1 he with rfl | he
      · rfl
      · have := h.1 e he
        rw [hy, ltB_irrefl] at this
        cases this
    · rw [show decide (y.name = e.name) = false by simpa using hy]
      rcases List.mem_cons.1 he with rfl | he
      · exact absurd rfl hy
      · exact ih h.2 he
end

end Go.Proofs.YtihdbncoijhihaaGreat
