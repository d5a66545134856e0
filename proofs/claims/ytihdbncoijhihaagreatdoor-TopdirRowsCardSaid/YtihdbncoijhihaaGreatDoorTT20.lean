/- Texts of the proof, part 20. -/
import Derived.Test.YtihdbncoijhihaaGreatDoorTT19
import Derived.Test.YtihdbncoijhihaaGreatDoorTT6
import Derived.Test.YtihdbncoijhihaaGreatDoorTT7
set_option linter.unusedVariables false
set_option linter.unusedSimpArgs false
/- The reference's tree (layer 14): New, Mount. -/
namespace Go.Proofs.YtihdbncoijhihaaGreatDoor

open Go.RowKit

def rf0 : Rf := ⟨.slice none 0 0, .slice none 0 0, [], 0, .int .i64 0, .slice none 0 0, .bool false⟩
set_option maxRecDepth 100000 in
set_option maxHeartbeats 1000000 in
theorem rnew_any (b n : Int) (hlim : limB b n = true) (w : World) :
    Calls Tryz.prog 138 #[.int .i64 b, .int .i64 n] w fun e w' => ∃ pf R', e = .returned (.pointer (some ⟨pf, 0, none⟩)) ∧ RfAt w' pf R' (fs0.addRoot 0 b n) ∧ (∀ k, R'.F pf k → w.heap.size ≤ k) ∧ Rf.Like rf0 R' ∧ Below w.heap.size w w' := by
  have hb0 := (Below.refl _ w).alloc (Nat.le_refl _) (.cells #[.slice none 0 0, .slice none 0 0, .int .i64 0, .int .i64 0, .int .i64 0, .slice none 0 0, .bool false] 44)
  have h0 : RfAt (w.alloc (.cells #[.slice none 0 0, .slice none 0 0, .int .i64 0, .int .i64 0, .int .i64 0, .slice none 0 0, .bool false] 44)) w.heap.size rf0 fs0 :=
    ⟨Blk.new w _ _, World.ownsRow_nil _ _ _ _, World.ownsRow_nil _ _ _ _, rfl, fun g hg => by cases hg⟩
  have HRt := Lib.hid (rrootN_any h0 ⟨List.Pairwise.nil, fun x hx => by simp [fs0] at hx⟩ (by decide) (by decide) (by decide) (by decide) 0 b n)
  have HLm := Lib.hid (fun w => limits_any b n w)
  rw [hlim] at HLm
  have HB0 := Lib.hid hb0
  clear h0 hb0 hlim
  go_enter Tryz.func138, Tryz.ntmps138
  go_wp2_with fail
  refine (HLm.out _).mono ?_
  rintro e w1 ⟨rfl, rfl⟩
  go_wp2_with fail
  refine HRt.out.mono ?_
  rintro e w2 ⟨rfl, R', hR, hS, hL⟩
  have HX := Lib.hid (And.intro hR (And.intro hS hL))
  clear hR hS hL
  go_wp2_with fail
  go_ret
  have hF : ∀ k, rf0.F w.heap.size k → w.heap.size ≤ k := fun k hk => by
    rcases hk with rfl | hk | hk
    · exact Nat.le_refl _
    · cases hk
    · cases hk
  exact ⟨_, R', rfl, HX.out.1, HX.out.2.1.above hF (by simp), HX.out.2.2, HB0.out.trans (HX.out.2.1.below hF (by simp))⟩
section

variable {w w' : World} {pf : Nat} {R : Rf} {S : Fs}

set_option maxRecDepth 100000 in
set_option maxHeartbeats 4000000 in
theorem rmount_any (h : RfAt w pf R S) {N : Nat} (hk : FsOk S N) (hN : N ≤ 100000) (hgl : S.ns.length ≤ 100000) (no b n : Int) :
    Calls Tryz.prog 204 #[.pointer (some ⟨pf, 0, none⟩), .int .i64 no, .int .i64 b, .int .i64 n] w fun e w' => e = .returned (.tuple #[.int .i64 (S.mount no b n).2.1, .int .i64 (S.mount no b n).2.2]) ∧ ∃ R', RfAt w' pf R' (S.mount no b n).1 ∧ Stp (R.F pf) (R'.F pf) w w' ∧ Rf.Like R R' := by
  have hkeep : ∀ w2, Below w.heap.size w w2 → ∃ R', RfAt w2 pf R' S ∧ Stp (R.F pf) (R'.F pf) w w2 ∧ Rf.Like R R' := fun w2 hb => ⟨R, h.keep hb, Stp.of_below hb, Rf.Like.refl R⟩
  have HKp := Lib.hid hkeep
  have HW := Lib.hid h
  have HK := Lib.hid hk
  cases hg : S.get no with
  | none =>
    have HM := Lib.hid (show S.mount no b n = (S, 0, 5) by unfold Fs.mount; rw [hg])
    have HG := Lib.hid (rget_no h hg)
    unfold An.v an0 at HG
    clear h hk hg hkeep
    go_enter Tryz.func204, Tryz.ntmps204
    go_wp2_with fail
    refine HG.out.mono ?_
    rintro e w1 ⟨rfl, hb1⟩
    have HB := Lib.hid (balloc hb1 (.cells #[.int .i64 0, .int .i64 0, .int .i64 0, .int .i64 0, .int .i64 0, .int .i64 0, .int .i64 0, .int .i64 0, .int .i64 0, .int .i64 0, .string ByteArray.empty, .slice none 0 0] 109))
    clear hb1
    go_wp2_with fail
    go_ret2
    rw [HM.out]
    exact ⟨rfl, HKp.out _ HB.out⟩
  | some a =>
    obtain ⟨hao, hno, h1, -⟩ := hk.get hg
    obtain ⟨ea, el, ec, -, hgc⟩ := rget_yes h hg
    have HG := Lib.hid hgc
    unfold An.v at HG
    have hz : (a.no == 0) = false := by simp only [beq_eq_false_iff_ne, ne_eq]; omega
    have HM := Lib.hid (show S.mount no b n = if a.kind ≠ 1 then (S, 0, 9) else if S.over no ≠ no ∨ S.root a.dev = no then (S, 0, 16) else if 8 ≤ S.ds.length ∨ limB b n = false then (S, 0, 3) else (S.addRoot no b n, S.last + 1, 0) by unfold Fs.mount; rw [hg])
    have HRo := Lib.hid (fun w1 (hb1 : Below w.heap.size w w1) => rroot_any (h.keep hb1) a.dev)
    have HOv := Lib.hid (fun w1 (hb1 : Below w.heap.size w w1) => rover_any (h.keep hb1) no)
    have HLm := Lib.hid (fun w => limits_any b n w)
    obtain ⟨da, dc, hdv, hdc1, hdc2⟩ := h.dform
    obtain ⟨pc, -, pz⟩ := h.blk.facts
    rw [hdv] at pc
    generalize hov : S.over no = ov at HM HOv
    generalize hrt : S.root a.dev = rt at HM HRo
    have hb0 : ∀ w1, Below w.heap.size w w1 → Below w.heap.size w (w1.alloc (.cells #[.int .i64 a.no, .int .i64 a.dev, .int .i64 a.kind, .int .i64 a.mode, .int .i64 a.uid, .int .i64 a.gid, .int .i64 a.mtime, .int .i64 a.ctime, .int .i64 a.links, .int .i64 a.up, .string a.data, .slice ea el ec] 109)) := fun w1 hb => balloc hb _
    have HB0 := Lib.hid hb0
    have HRt := Lib.hid (fun w1 (hb1 : Below w.heap.size w w1) (hd : S.ds.length ≤ 7) => rrootN_any (h.keep hb1) hk.nums hk.l0 (by have := hk.lN; omega) hgl hd no b n)
    obtain ⟨m, hm⟩ : ∃ m, S.ds.length = m := ⟨_, rfl⟩
    rw [hm] at pc HM HRt
    clear h hk hg hgc hao hkeep hno hov hrt hdv hm hb0 h1 hdc1
    go_enter Tryz.func204, Tryz.ntmps204
    go_wp2_with fail
    refine HG.out.mono ?_
    rintro e w1 ⟨rfl, hb1⟩
    have hbX := HB0.out w1 hb1
    have hB1 := Blk.new w1 #[.int .i64 a.no, .int .i64 a.dev, .int .i64 a.kind, .int .i64 a.mode, .int .i64 a.uid, .int .i64 a.gid, .int .i64 a.mtime, .int .i64 a.ctime, .int .i64 a.links, .int .i64 a.up, .string a.data, .slice ea el ec] 109
    go_upto_region 2 with fail
    generalize w1.alloc (.cells #[.int .i64 a.no, .int .i64 a.dev, .int .i64 a.kind, .int .i64 a.mode, .int .i64 a.uid, .int .i64 a.gid, .int .i64 a.mtime, .int .i64 a.ctime, .int .i64 a.links, .int .i64 a.up, .string a.data, .slice ea el ec] 109) = X at hbX hB1 ⊢
    have HBX := Lib.hid hbX
    obtain ⟨qc, qf, qz⟩ := hB1.facts
    have pc2 := fun i => (hbX.cell (p := ⟨pf, i, none⟩) pz).trans (pc i)
    clear hb1 hbX hB1 pc
    by_cases h1 : a.kind = 1
    · have q1 : (a.kind == 1) = true := by simpa using h1
      have q2 : (a.kind != 1) = false := by simpa using h1
      have HM1 := Lib.hid (HM.out.trans (if_neg (by simpa using h1)))
      clear h1
      by_cases h2 : ov = no
      · by_cases h3 : rt = no
        · have HM2 := Lib.hid (HM1.out.trans (if_pos (.inr h3)))
          have q3 : (ov != no) = false := by simpa using h2
          have q4 : (rt == no) = true := by simpa using h3
          clear h2 h3
          go_wp2_with fail
          refine (HOv.out _ HBX.out).mono ?_
          rintro e w2 ⟨rfl, rfl⟩
          go_wp2_with fail
          refine (HRo.out _ HBX.out).mono ?_
          rintro e w2 ⟨rfl, rfl⟩
          go_wp2_with fail
          go_ret2
          rw [HM2.out]
          exact ⟨rfl, HKp.out _ HBX.out⟩
        · have HM2 := Lib.hid (HM1.out.trans (if_neg (by rintro (h | h); exact h h2; exact h3 h)))
          have q3 : (ov != no) = false := by simpa using h2
          have q4 : (rt == no) = false := by simpa using h3
          clear h2 h3
          by_cases h4 : 8 ≤ m
          · have HM3 := Lib.hid (HM2.out.trans (if_pos (.inl h4)))
            have q5 : (8 : Int) ≤ (m : Int) := by omega
            clear h4
            go_wp2_with fail
            refine (HOv.out _ HBX.out).mono ?_
            rintro e w2 ⟨rfl, rfl⟩
            go_wp2_with fail
            refine (HRo.out _ HBX.out).mono ?_
            rintro e w2 ⟨rfl, rfl⟩
            go_wp2_with fail
            go_ret2
            rw [HM3.out]
            exact ⟨rfl, HKp.out _ HBX.out⟩
          · have q5 : ¬ (8 : Int) ≤ (m : Int) := by omega
            have HM7 := Lib.hid (show m ≤ 7 by omega)
            cases hl : limB b n with
            | false =>
              have HM3 := Lib.hid (HM2.out.trans (if_pos (.inr hl)))
              rw [hl] at HLm
              clear h4 hl
              go_wp2_with fail
              refine (HOv.out _ HBX.out).mono ?_
              rintro e w2 ⟨rfl, rfl⟩
              go_wp2_with fail
              refine (HRo.out _ HBX.out).mono ?_
              rintro e w2 ⟨rfl, rfl⟩
              go_wp2_with fail
              refine (HLm.out _).mono ?_
              rintro e w2 ⟨rfl, rfl⟩
              go_wp2_with fail
              go_ret2
              rw [HM3.out]
              exact ⟨rfl, HKp.out _ HBX.out⟩
            | true =>
              have HM3 := Lib.hid (HM2.out.trans (if_neg (by rintro (h | h); exact h4 h; rw [hl] at h; cases h)))
              rw [hl] at HLm
              clear h4 hl
              go_wp2_with fail
              refine (HOv.out _ HBX.out).mono ?_
              rintro e w2 ⟨rfl, rfl⟩
              go_wp2_with fail
              refine (HRo.out _ HBX.out).mono ?_
              rintro e w2 ⟨rfl, rfl⟩
              go_wp2_with fail
              refine (HLm.out _).mono ?_
              rintro e w2 ⟨rfl, rfl⟩
              go_wp2_with fail
              refine (HRt.out _ HBX.out HM7.out).mono ?_
              rintro e w3 ⟨rfl, R', hR, hS, hL⟩
              have HF := Lib.hid (And.intro hR (And.intro ((Stp.of_below HBX.out).trans hS) hL))
              clear hR hS hL
              go_wp2_with fail
              go_ret2
              rw [HM3.out]
              exact ⟨rfl, R', HF.out.1, HF.out.2.1, HF.out.2.2⟩
      · have HM2 := Lib.hid (HM1.out.trans (if_pos (.inl h2)))
        have q3 : (ov != no) = true := by simpa using h2
        clear h2
        go_wp2_with fail
        refine (HOv.out _ HBX.out).mono ?_
        rintro e w2 ⟨rfl, rfl⟩
        go_wp2_with fail
        go_ret2
        rw [HM2.out]
        exact ⟨rfl, HKp.out _ HBX.out⟩
    · have q1 : (a.kind == 1) = false := by simpa using h1
      have q2 : (a.kind != 1) = true := by simpa using h1
      have HM1 := Lib.hid (HM.out.trans (if_pos (by simpa using h1)))
      clear h1
      go_wp2_with fail
      go_ret2
      rw [HM1.out]
      exact ⟨rfl, HKp.out _ HBX.out⟩
end

end Go.Proofs.YtihdbncoijhihaaGreatDoor

/- The reference's tree (layer 14): Above. -/
namespace Go.Proofs.YtihdbncoijhihaaGreatDoor

open Go.RowKit

section

variable {w w' : World} {pf : Nat} {R : Rf} {S : Fs}

set_option maxRecDepth 100000 in
set_option maxHeartbeats 4000000 in
theorem rabove_any (h : RfAt w pf R S) {N : Nat} (hk : FsOk S N) (no : Int) :
    Calls Tryz.prog 75 #[.pointer (some ⟨pf, 0, none⟩), .int .i64 no] w fun e w' => e = .returned (.int .i64 (S.above no)) ∧ Below w.heap.size w w' := by
  have mixed : Tryz.prog.follows .mixedOrders = true := by kernel_rfl
  cases hg : S.get no with
  | none =>
    have HA := Lib.hid (above_none hg)
    have HG := Lib.hid (rget_no h hg)
    unfold An.v an0 at HG
    clear h hk hg
    go_enter Tryz.func75, Tryz.ntmps75
    go_wp2_with fail
    refine HG.out.mono ?_
    rintro e w1 ⟨rfl, hb1⟩
    have HB := Lib.hid (balloc hb1 (.cells #[.int .i64 0, .int .i64 0, .int .i64 0, .int .i64 0, .int .i64 0, .int .i64 0, .int .i64 0, .int .i64 0, .int .i64 0, .int .i64 0, .string ByteArray.empty, .slice none 0 0] 109))
    clear hb1
    go_wp2_with fail
    go_ret
    rw [HA.out]
    exact ⟨rfl, HB.out⟩
  | some a =>
    obtain ⟨hao, hno, hn1, -⟩ := hk.get hg
    obtain ⟨ea, el, ec, -, hgc⟩ := rget_yes h hg
    have HG := Lib.hid hgc
    unfold An.v at HG
    have HA := Lib.hid (show S.above no = if a.kind ≠ 1 then 0 else if S.root a.dev = no ∧ 1 < a.dev then (match S.dev a.dev with | none => 0 | some v => match S.get v.over with | none => 0 | some b => b.up) else a.up by unfold Fs.above; rw [hg]; rfl)
    have HRo := Lib.hid (fun w1 (hb1 : Below w.heap.size w w1) => rroot_any (h.keep hb1) a.dev)
    have HB0 := Lib.hid (show ∀ w1, Below w.heap.size w w1 → Below w.heap.size w (w1.alloc (.cells #[.int .i64 a.no, .int .i64 a.dev, .int .i64 a.kind, .int .i64 a.mode, .int .i64 a.uid, .int .i64 a.gid, .int .i64 a.mtime, .int .i64 a.ctime, .int .i64 a.links, .int .i64 a.up, .string a.data, .slice ea el ec] 109)) from fun w1 hb => balloc hb _)
    obtain ⟨v, hv, hrv, -, -⟩ := root_of hk hao.dev.1 hao.dev.2
    obtain ⟨g, cap, hdv, hle, h63, hgl, hc, -, -⟩ := h.devF hk.d1
    obtain ⟨pc, -, pz⟩ := h.blk.facts
    rw [hdv] at pc
    obtain ⟨k, hkd⟩ : ∃ k : Nat, a.dev = (k : Int) + 1 := ⟨(a.dev - 1).toNat, by have := hao.dev.1; omega⟩
    have hkl : k < S.ds.length := by have := hao.dev.2; omega
    have hvk : S.ds[k] = v := by
      unfold Fs.dev at hv
      rw [if_pos (by omega), hkd, show ((k : Int) + 1 - 1).toNat = k by omega, List.getElem?_eq_getElem hkl] at hv
      simpa using hv
    have cc := (hc k hkl).c1
    rw [hvk] at cc
    rw [hv] at HA
    have HGv := Lib.hid (fun w1 (hb1 : Below w.heap.size w w1) => And.intro (fun (hgv : S.get v.over = none) => rget_no (h.keep hb1) hgv) (fun b (hgv : S.get v.over = some b) => rget_yes (h.keep hb1) hgv))
    have HGp := Lib.hid pc
    generalize hrt : S.root a.dev = rt at HA HRo
    have hkl2 : k < S.ds.length := hkl
    generalize S.ds.length = m at pc hle hkl2
    clear h hg hgc hao hrv hv hc hdv hvk hkl hrt hk hno HGp
    rw [hkd] at HG HRo HA HB0
    have hkm : (k : Int) + 1 ≤ (m : Int) := by omega
    go_enter Tryz.func75, Tryz.ntmps75
    go_wp2_with fail
    refine HG.out.mono ?_
    rintro e w1 ⟨rfl, hb1⟩
    have hbX := HB0.out w1 hb1
    have hB1 := Blk.new w1 #[.int .i64 a.no, .int .i64 ((k : Int) + 1), .int .i64 a.kind, .int .i64 a.mode, .int .i64 a.uid, .int .i64 a.gid, .int .i64 a.mtime, .int .i64 a.ctime, .int .i64 a.links, .int .i64 a.up, .string a.data, .slice ea el ec] 109
    go_upto_region 2 with fail
    generalize w1.alloc (.cells #[.int .i64 a.no, .int .i64 ((k : Int) + 1), .int .i64 a.kind, .int .i64 a.mode, .int .i64 a.uid, .int .i64 a.gid, .int .i64 a.mtime, .int .i64 a.ctime, .int .i64 a.links, .int .i64 a.up, .string a.data, .slice ea el ec] 109) = X at hbX hB1 ⊢
    have HBX := Lib.hid hbX
    have HB1 := Lib.hid hB1
    have hw1 := hb1.size
    obtain ⟨qc, qf, qz⟩ := hB1.facts
    have pc2 := fun i => (hbX.cell (p := ⟨pf, i, none⟩) pz).trans (pc i)
    have cc2 := (hbX.cell (p := ⟨g, k * 6 + 1, none⟩) hgl).trans cc
    have hgl2 : g < X.heap.size := Nat.lt_of_lt_of_le hgl hbX.size
    clear hb1 hbX hB1 pc cc
    by_cases h1 : a.kind = 1
    · have q1 : (a.kind == 1) = true := by simpa using h1
      have q2 : (a.kind != 1) = false := by simpa using h1
      have HA1 := Lib.hid (HA.out.trans (if_neg (by simpa using h1)))
      clear h1
      by_cases h2 : 1 < (k : Int) + 1
      · by_cases h3 : rt = no
        · have HA2 := Lib.hid (HA1.out.trans (if_pos ⟨h3, h2⟩))
          have q3 : (rt == no) = true := by simpa using h3
          clear h3
          go_wp2_with fail
          refine (HRo.out _ HBX.out).mono ?_
          rintro e w2 ⟨rfl, rfl⟩
          go_wp2_with fail
          have hwr1 : IntKind.i64.wrap ((k : Int) + 1 - 1) = (k : Int) := by simp [IntKind.wrap, IntKind.bits, IntKind.signed]; omega
          have hwr2 : IntKind.i64.wrap (k : Int) = (k : Int) := by simp [IntKind.wrap, IntKind.bits, IntKind.signed]; omega
          have hk0 : (0 : Int) ≤ (k : Int) ∧ (k : Int) < (m : Int) ∧ ((k : Int)).toNat = k := by omega
          obtain ⟨hk1, hk2, hk3⟩ := hk0
          refine wp_region_lex 11 mixed (by kernel_rfl) (show PanicOk _ from by repeat (first | exact pk_body | refine pk_then ?_ | refine pk_block ?_ | refine pk_scope ?_)) ?_
          simp only [List.take_succ_cons, List.take_zero, List.drop_succ_cons, List.drop_zero]
          repeat still_step
          refine wpStill_nil ?_
          cases hgv : S.get v.over with
          | none =>
            have HC := Lib.hid (((HGv.out _ HBX.out.drew).1 hgv))
            unfold An.v an0 at HC
            have HA3 := Lib.hid (show S.above no = 0 by rw [HA2.out, hgv])
            clear hgv qc qf qz pc2 cc2
            go_wp2_with fail
            refine HC.out.mono ?_
            rintro e w3 ⟨rfl, hb3⟩
            have hB3 := (HB1.out.drew).keep hb3
            obtain ⟨qc, qf, qz⟩ := hB3.facts
            have HB3 := Lib.hid (HBX.out.drew.trans (hb3.mono (by have := HBX.out.size; simpa using this)))
            clear hb3 hB3
            go_wp2_with fail
            go_ret
            rw [HA3.out]
            exact ⟨rfl, below_set12 HB3.out hw1⟩
          | some b =>
            obtain ⟨fa, fl, fc, -, hcb⟩ := (HGv.out _ HBX.out.drew).2 b hgv
            have HC := Lib.hid hcb
            unfold An.v at HC
            have HA3 := Lib.hid (show S.above no = b.up by rw [HA2.out, hgv])
            clear hgv hcb qc qf qz pc2 cc2
            go_wp2_with fail
            refine HC.out.mono ?_
            rintro e w3 ⟨rfl, hb3⟩
            have hB3 := (HB1.out.drew).keep hb3
            obtain ⟨qc, qf, qz⟩ := hB3.facts
            have HB3 := Lib.hid (HBX.out.drew.trans (hb3.mono (by have := HBX.out.size; simpa using this)))
            clear hb3 hB3
            go_wp2_with fail
            go_ret
            rw [HA3.out]
            exact ⟨rfl, below_set12 HB3.out hw1⟩
        · have HA2 := Lib.hid (HA1.out.trans (if_neg (fun h => h3 h.1)))
          have q3 : (rt == no) = false := by simpa using h3
          clear h3
          go_wp2_with fail
          refine (HRo.out _ HBX.out).mono ?_
          rintro e w2 ⟨rfl, rfl⟩
          go_wp2_with fail
          go_ret
          rw [HA2.out]
          exact ⟨rfl, HBX.out⟩
      · have HA2 := Lib.hid (HA1.out.trans (if_neg (fun h => h2 h.2)))
        go_wp2_with fail
        go_ret
        rw [HA2.out]
        exact ⟨rfl, HBX.out⟩
    · have q1 : (a.kind == 1) = false := by simpa using h1
      have q2 : (a.kind != 1) = true := by simpa using h1
      have HA1 := Lib.hid (HA.out.trans (if_pos (by simpa using h1)))
      clear h1
      go_wp2_with fail
      go_ret
      rw [HA1.out]
      exact ⟨rfl, HBX.out⟩
end

end Go.Proofs.YtihdbncoijhihaaGreatDoor

/- The reference's tree (layer 14): Within, Busy. -/
namespace Go.Proofs.YtihdbncoijhihaaGreatDoor

open Go.RowKit

section

variable {w w' : World} {pf : Nat} {R : Rf} {S : Fs}

set_option maxRecDepth 100000 in
set_option maxHeartbeats 2000000 in
theorem rwithin_any (h : RfAt w pf R S) {N : Nat} (hk : FsOk S N) (hl : S.ns.length ≤ 100000) (no base : Int) :
    Calls Tryz.prog 107 #[.pointer (some ⟨pf, 0, none⟩), .int .i64 no, .int .i64 base] w fun e w' => e = .returned (.bool (S.within no base)) ∧ Below w.heap.size w w' := by
  obtain ⟨na, nc, hnv, hn1, hn2⟩ := h.nform
  have hlen := h.len
  have HW := Lib.hid h
  have HS := Lib.hid (show S.within no base = S.withinN base (S.ns.length + 1) no from rfl)
  have HA := Lib.hid (fun w1 (hb1 : Below w.heap.size w w1) x => rabove_any (h.keep hb1) hk x)
  have hb := h.blk
  rw [hnv] at hb
  have HB := Lib.hid hb
  rw [← hlen] at HB hn1
  generalize S.ns.length = n at HB hn1 HS hl
  generalize S.within no base = out at HS ⊢
  clear h hk hnv hlen hb
  go_enter Tryz.func107, Tryz.ntmps107
  go_wp2_with fail
  go_loopw [1, 7] (fun t1 t7 wr => ∃ (k : Nat) (x : Int), k ≤ n + 1 ∧ t1 = .int .i64 x ∧ t7 = .int .i64 k ∧ out = S.withinN base (n + 1 - k) x ∧ Below w.heap.size w wr) (fun _ t7 _ => n + 1 - (intOf t7).toNat)
  case atStart => exact ⟨0, no, Nat.zero_le _, rfl, rfl, HS.out, Below.refl _ _⟩
  case round =>
    obtain ⟨k, x, hk1, rfl, rfl, hE, hbw⟩ := hrel
    have HE := Lib.hid hE
    have HBw := Lib.hid hbw
    obtain ⟨bc, -, -⟩ := (HB.out.keep hbw).facts
    clear hE hbw
    by_cases hlt : k ≤ n
    · have hlt2 : (k : Int) ≤ (n : Int) := by omega
      have HE2 := Lib.hid (show out = if x = 0 then false else if x = base then true else S.withinN base (n + 1 - (k + 1)) (S.above x) by
        rw [HE.out, show n + 1 - k = (n + 1 - (k + 1)) + 1 by omega]; rfl)
      by_cases h0 : x = 0
      · have p0 : (x != 0) = false := by simpa using h0
        have HO := Lib.hid (HE2.out.trans (if_pos h0))
        clear h0
        go_wp2_with fail
        go_ret
        rw [HO.out]
        exact ⟨rfl, HBw.out⟩
      · have p0 : (x != 0) = true := by simpa using h0
        have HO0 := Lib.hid (HE2.out.trans (if_neg h0))
        clear h0
        by_cases h1 : x = base
        · have p1 : (x == base) = true := by simpa using h1
          have HO := Lib.hid (HO0.out.trans (if_pos h1))
          clear h1
          go_wp2_with fail
          go_ret
          rw [HO.out]
          exact ⟨rfl, HBw.out⟩
        · have p1 : (x == base) = false := by simpa using h1
          have HO := Lib.hid (HO0.out.trans (if_neg h1))
          have HAx := Lib.hid (HA.out wr HBw.out x)
          clear h1
          go_wp2_with fail
          refine HAx.out.mono ?_
          rintro e w1 ⟨rfl, hb1⟩
          have HB1 := Lib.hid (bnext HBw.out hb1)
          clear hb1
          go_wp2_with fail
          go_roundw
          case rel => exact ⟨k + 1, S.above x, by omega, rfl, by go_num, HO.out, HB1.out⟩
          case measure => simp [intOf]; omega
    · have hkn : k = n + 1 := by omega
      subst hkn
      have hgt : ¬ ((n : Int) + 1 ≤ (n : Int)) := by omega
      have HO := Lib.hid (show out = false by rw [HE.out, Nat.sub_self]; rfl)
      go_wp2_with fail
      go_ret
      rw [HO.out]
      exact ⟨rfl, HBw.out⟩
theorem busy_drop {S : Fs} {no : Int} {k : Nat} (hk : k < S.ds.length) : (S.ds.drop k).any (fun d => S.within d.over no) = (S.within S.ds[k].over no || (S.ds.drop (k + 1)).any (fun d => S.within d.over no)) := by
  rw [List.drop_eq_getElem_cons hk, List.any_cons]
set_option maxRecDepth 100000 in
set_option maxHeartbeats 2000000 in
theorem rbusy_any (h : RfAt w pf R S) {N : Nat} (hk : FsOk S N) (hl : S.ns.length ≤ 100000) (no : Int) :
    Calls Tryz.prog 91 #[.pointer (some ⟨pf, 0, none⟩), .int .i64 no] w fun e w' => e = .returned (.bool (S.busy no)) ∧ Below w.heap.size w w' := by
  obtain ⟨g, cap, hdv, hle, h63, hgl, hc, -, -⟩ := h.devF hk.d1
  have hd1 := hk.d1
  have hd8 := hk.d8
  have HS := Lib.hid (show S.busy no = (S.ds.drop 1).any (fun d => S.within d.over no) from rfl)
  have HA := Lib.hid (fun w1 (hb1 : Below w.heap.size w w1) x => rwithin_any (h.keep hb1) hk hl x no)
  have hb := h.blk
  rw [hdv] at hb
  have HB := Lib.hid hb
  have HC := Lib.hid (fun k (hk : k < S.ds.length) => (hc k hk).c1)
  have HD := Lib.hid (fun k (hk : k < S.ds.length) => busy_drop (S := S) (no := no) hk)
  obtain ⟨m, hm⟩ : ∃ m, S.ds.length = m := ⟨_, rfl⟩
  have HM := Lib.hid hm
  rw [hm] at HB hle hd1 hd8
  generalize S.busy no = out at HS ⊢
  clear h hk hdv hb hc hm
  go_enter Tryz.func91, Tryz.ntmps91
  go_wp2_with fail
  go_loopw [5] (fun t5 wr => ∃ (k : Nat), 1 ≤ k ∧ k ≤ m ∧ t5 = .int .i64 k ∧ out = (S.ds.drop k).any (fun d => S.within d.over no) ∧ Below w.heap.size w wr) (fun t5 _ => m - (intOf t5).toNat)
  case atStart => exact ⟨1, Nat.le_refl _, hd1, rfl, HS.out, Below.refl _ _⟩
  case round =>
    obtain ⟨k, hk1, hk2, rfl, hE, hbw⟩ := hrel
    have HE := Lib.hid hE
    have HBw := Lib.hid hbw
    obtain ⟨bc, -, -⟩ := (HB.out.keep hbw).facts
    clear hE
    by_cases hlt : k < m
    · have hkl : k < S.ds.length := by rw [HM.out]; exact hlt
      have cc := (hbw.cell (p := ⟨g, k * 6 + 1, none⟩) hgl).trans (HC.out k hkl)
      have HE2 := Lib.hid (HE.out.trans (HD.out k hkl))
      have HAx := Lib.hid (HA.out wr HBw.out S.ds[k].over)
      generalize S.ds[k].over = ov at cc HE2 HAx
      clear hbw hkl
      cases hwn : S.within ov no with
      | true =>
        rw [hwn] at HE2 HAx
        have HO := Lib.hid (show out = true from HE2.out)
        go_wp2_with fail
        refine HAx.out.mono ?_
        rintro e w1 ⟨rfl, hb1⟩
        have HB1 := Lib.hid (bnext HBw.out hb1)
        clear hb1
        go_wp2_with fail
        go_ret
        rw [HO.out]
        exact ⟨rfl, HB1.out⟩
      | false =>
        rw [hwn] at HE2 HAx
        have HO := Lib.hid (show out = (S.ds.drop (k + 1)).any (fun d => S.within d.over no) by rw [HE2.out]; rfl)
        go_wp2_with fail
        refine HAx.out.mono ?_
        rintro e w1 ⟨rfl, hb1⟩
        have HB1 := Lib.hid (bnext HBw.out hb1)
        clear hb1
        go_wp2_with fail
        go_roundw
        case rel => exact ⟨k + 1, by omega, by omega, by go_num, HO.out, HB1.out⟩
        case measure => simp [intOf]; omega
    · obtain rfl : k = m := by omega
      have HO := Lib.hid (show out = false by rw [HE.out, ← HM.out, List.drop_length]; rfl)
      clear hbw
      go_wp2_with fail
      go_ret
      rw [HO.out]
      exact ⟨rfl, HBw.out⟩
end

end Go.Proofs.YtihdbncoijhihaaGreatDoor
