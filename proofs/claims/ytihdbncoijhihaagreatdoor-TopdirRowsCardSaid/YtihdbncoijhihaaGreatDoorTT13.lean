/- Texts of the proof, part 13. -/
import Derived.Test.YtihdbncoijhihaaGreatDoorTT12
import Derived.Test.YtihdbncoijhihaaGreatDoorTT9
import Derived.Test.YtihdbncoijhihaaGreatDoorTT5
set_option linter.unusedVariables false
set_option linter.unusedSimpArgs false
/- Mounts (layer 14): Mount, New. -/
namespace Go.Proofs.YtihdbncoijhihaaGreatDoor

open Go.RowKit

section

variable {w w' : World} {pw : Nat} {R : Rp} {S : Fs}

theorem root_new {S : Fs} {N : Nat} (over b n : Int) : (S.addRoot over b n).root ((S.ds.length : Int) + 1) = S.last + 1 := by
  unfold Fs.root Fs.addRoot
  simp
  omega
theorem ds_new (S : Fs) (over b n : Int) : (S.addRoot over b n).ds.length = S.ds.length + 1 := by unfold Fs.addRoot; simp
set_option maxRecDepth 100000 in
set_option maxHeartbeats 2000000 in
theorem wmount_any (h : WdAt w pw R S) {N : Nat} (hk : FsOk S N) (hN : N ≤ 1000000) (k b n : Int) :
    Calls Tryz.prog 195 #[.pointer (some ⟨pw, 0, none⟩), .int .i64 k, .int .i64 b, .int .i64 n] w fun e w' => e = .returned (.tuple #[.int .i64 (S.mount k b n).2.1, .int .i64 (S.mount k b n).2.2]) ∧ ∃ R', WdAt w' pw R' (S.mount k b n).1 ∧ Stp (R.F pw) (R'.F pw) w w' := by
  have HW0 := Lib.hid h
  have HNo := Lib.hid (wnone_any h hk.d1)
  obtain ⟨pc, -, pz⟩ := h.blk.facts
  cases hg : S.get k with
  | none =>
    have HM := Lib.hid (show S.mount k b n = (S, 0, 5) by unfold Fs.mount; rw [hg])
    have HG := Lib.hid (wget_no h hg)
    unfold An.v an0 at HG
    clear h hk hg
    go_enter Tryz.func195, Tryz.ntmps195
    go_wp2_with fail
    refine HNo.out.mono ?_
    rintro e w1 ⟨rfl, rfl⟩
    go_wp2_with fail
    refine HG.out.mono ?_
    rintro e w1 ⟨rfl, hb1⟩
    go_wp2_with fail
    go_ret2
    rw [HM.out]
    exact ⟨rfl, R, HW0.out.keep (balloc hb1 _), Stp.of_below (balloc hb1 _)⟩
  | some a =>
    obtain ⟨hao, hno, hk1, -⟩ := hk.get hg
    obtain ⟨ea, el, ec, -, hgc⟩ := wget_yes h hg
    have HG := Lib.hid hgc
    unfold An.v at HG
    by_cases hkd : a.kind = 1
    · have q1 : (a.kind == 1) = true := by simpa using hkd
      have q2 : (a.kind != 1) = false := by simpa using hkd
      have HOv := Lib.hid (fun w1 (hb1 : Below w.heap.size w w1) => wover_any (h.keep hb1) hk.d1 k)
      have HRt := Lib.hid (fun w1 (hb1 : Below w.heap.size w w1) => wroot_any (h.keep hb1) hk.d1 a.dev)
      have HMo := Lib.hid (fun (hx : S.over k ≠ k ∨ S.root a.dev = k) => show S.mount k b n = (S, 0, 16) by unfold Fs.mount; rw [hg]; simp only; rw [if_neg (by simpa using hkd), if_pos hx])
      have HMn := Lib.hid (fun (hx : ¬ (S.over k ≠ k ∨ S.root a.dev = k)) (hy : 8 ≤ S.ds.length ∨ limB b n = false) => show S.mount k b n = (S, 0, 3) by unfold Fs.mount; rw [hg]; simp only; rw [if_neg (by simpa using hkd), if_neg hx, if_pos hy])
      have HMy := Lib.hid (fun (hx : ¬ (S.over k ≠ k ∨ S.root a.dev = k)) (hy : ¬ (8 ≤ S.ds.length ∨ limB b n = false)) => show S.mount k b n = (S.addRoot k b n, S.last + 1, 0) by unfold Fs.mount; rw [hg]; simp only; rw [if_neg (by simpa using hkd), if_neg hx, if_neg hy])
      have HK := Lib.hid hk
      clear h hg hkd hao hno hgc
      generalize S.over k = ov at HOv HMo HMn HMy
      generalize S.root a.dev = rt at HRt HMo HMn HMy
      obtain ⟨g, cap, hdv, -, -, -, -, -, -⟩ := HW0.out.devF hk.d1
      rw [hdv] at pc
      clear hk hdv
      by_cases h1 : ov = k
      · by_cases h2 : rt = k
        · have HM := Lib.hid (HMo.out (.inr h2))
          have q3 : (ov != k) = false := by simpa using h1
          have q4 : (rt == k) = true := by simpa using h2
          clear h1 h2
          go_enter Tryz.func195, Tryz.ntmps195
          go_wp2_with fail
          refine HNo.out.mono ?_
          rintro e w1 ⟨rfl, rfl⟩
          go_wp2_with fail
          refine HG.out.mono ?_
          rintro e w1 ⟨rfl, hb1⟩
          have hb2 := balloc hb1 (.cells #[.int .i64 a.no, .int .i64 a.dev, .int .i64 a.kind, .int .i64 a.mode, .int .i64 a.uid, .int .i64 a.gid, .int .i64 a.mtime, .int .i64 a.ctime, .int .i64 a.links, .int .i64 a.up, .string a.data, .slice ea el ec] 109)
          have B1 := Blk.new w1 #[.int .i64 a.no, .int .i64 a.dev, .int .i64 a.kind, .int .i64 a.mode, .int .i64 a.uid, .int .i64 a.gid, .int .i64 a.mtime, .int .i64 a.ctime, .int .i64 a.links, .int .i64 a.up, .string a.data, .slice ea el ec] 109
          go_wp2_with fail
          refine (HOv.out _ hb2).mono ?_
          rintro e w2 ⟨rfl, hb3⟩
          obtain ⟨bc, -, -⟩ := (B1.keep hb3).facts
          have hb4 := bnext hb2 hb3
          go_wp2_with fail
          refine (HRt.out _ hb4).mono ?_
          rintro e w3 ⟨rfl, rfl⟩
          go_wp2_with fail
          go_ret2
          rw [HM.out]
          exact ⟨rfl, R, HW0.out.keep hb4, Stp.of_below hb4⟩
        · have hx : ¬ (ov ≠ k ∨ rt = k) := by rintro (h | h); exact h h1; exact h2 h
          have q3 : (ov != k) = false := by simpa using h1
          have q4 : (rt == k) = false := by simpa using h2
          have HMn := Lib.hid (HMn.out hx)
          have HMy := Lib.hid (HMy.out hx)
          clear h1 h2 hx
          go_enter Tryz.func195, Tryz.ntmps195
          go_wp2_with fail
          refine HNo.out.mono ?_
          rintro e w1 ⟨rfl, rfl⟩
          go_wp2_with fail
          refine HG.out.mono ?_
          rintro e w1 ⟨rfl, hb1⟩
          have hb2 := balloc hb1 (.cells #[.int .i64 a.no, .int .i64 a.dev, .int .i64 a.kind, .int .i64 a.mode, .int .i64 a.uid, .int .i64 a.gid, .int .i64 a.mtime, .int .i64 a.ctime, .int .i64 a.links, .int .i64 a.up, .string a.data, .slice ea el ec] 109)
          have B1 := Blk.new w1 #[.int .i64 a.no, .int .i64 a.dev, .int .i64 a.kind, .int .i64 a.mode, .int .i64 a.uid, .int .i64 a.gid, .int .i64 a.mtime, .int .i64 a.ctime, .int .i64 a.links, .int .i64 a.up, .string a.data, .slice ea el ec] 109
          go_wp2_with fail
          refine (HOv.out _ hb2).mono ?_
          rintro e w2 ⟨rfl, hb3⟩
          obtain ⟨bc, -, -⟩ := (B1.keep hb3).facts
          have hb4 := bnext hb2 hb3
          go_wp2_with fail
          refine (HRt.out _ hb4).mono ?_
          rintro e w3 ⟨rfl, rfl⟩
          have HB4 := Lib.hid hb4
          have pc1 : w2.cell? ⟨pw, 1, none⟩ = _ := (hb4.cell (p := ⟨pw, 1, none⟩) pz).trans (pc 1)
          have HW2 := Lib.hid (HW0.out.keep hb4)
          clear pc B1 bc hb1 hb2 hb3 hb4
          by_cases h8 : 8 ≤ S.ds.length
          · have HM := Lib.hid (HMn.out (.inl h8))
            have h8' : (8 : Int) ≤ (S.ds.length : Int) := by omega
            generalize S.ds.length = m at pc1 h8'
            clear h8
            go_wp2_with fail
            go_ret2
            rw [HM.out]
            exact ⟨rfl, R, HW2.out, Stp.of_below HB4.out⟩
          · have h8' : ¬ (8 : Int) ≤ (S.ds.length : Int) := by omega
            by_cases hlim : limB b n = true
            · have HM := Lib.hid (HMy.out (by rintro (h | h); exact h8 h; rw [hlim] at h; cases h))
              have HAd := Lib.hid (wadd_any HW2.out HK.out.nums HK.out.l0 (by have := HK.out.lN; omega) (by omega) k b n hlim)
              have HRn := Lib.hid (root_new (S := S) (N := 0) k b n)
              have HDn := Lib.hid (ds_new S k b n)
              have HDp := Lib.hid (show 0 < (S.addRoot k b n).ds.length by rw [ds_new]; omega)
              generalize S.addRoot k b n = S' at HM HAd HRn HDn HDp
              generalize S.ds.length = m at pc1 h8' HRn HDn
              clear h8
              go_wp2_with fail
              refine HAd.out.mono ?_
              rintro e w4 ⟨rfl, R', hR1, hR2⟩
              have HR := Lib.hid (And.intro hR1 ((Stp.of_below HB4.out).trans hR2))
              have hrt := wroot_any hR1 HDp.out ((m : Int) + 1)
              rw [HRn.out] at hrt
              have HRT := Lib.hid hrt
              obtain ⟨g', cap', hdv', -, -, -, -, -, -⟩ := hR1.devF HDp.out
              obtain ⟨rc, -, -⟩ := hR1.blk.facts
              rw [hdv', HDn.out] at rc
              clear hR1 hR2 hrt hdv'
              go_wp2_with fail
              refine HRT.out.mono ?_
              rintro e w5 ⟨rfl, rfl⟩
              go_wp2_with fail
              go_ret2
              rw [HM.out]
              exact ⟨rfl, R', HR.out.1, HR.out.2⟩
            · have hlim' : limB b n = false := by simpa using hlim
              have HM := Lib.hid (HMn.out (.inr hlim'))
              have HAd := Lib.hid (wadd_no k b n hlim' w2 pw)
              generalize S.ds.length = m at pc1 h8'
              clear h8 hlim hlim'
              go_wp2_with fail
              refine HAd.out.mono ?_
              rintro e w4 ⟨rfl, hb5⟩
              have HB5 := Lib.hid hb5
              clear hb5
              go_wp2_with fail
              go_ret2
              rw [HM.out]
              exact ⟨rfl, R, HW2.out.keep HB5.out, Stp.of_below (bnext HB4.out HB5.out)⟩
      · have HM := Lib.hid (HMo.out (.inl h1))
        have q3 : (ov != k) = true := by simpa using h1
        clear h1
        go_enter Tryz.func195, Tryz.ntmps195
        go_wp2_with fail
        refine HNo.out.mono ?_
        rintro e w1 ⟨rfl, rfl⟩
        go_wp2_with fail
        refine HG.out.mono ?_
        rintro e w1 ⟨rfl, hb1⟩
        have hb2 := balloc hb1 (.cells #[.int .i64 a.no, .int .i64 a.dev, .int .i64 a.kind, .int .i64 a.mode, .int .i64 a.uid, .int .i64 a.gid, .int .i64 a.mtime, .int .i64 a.ctime, .int .i64 a.links, .int .i64 a.up, .string a.data, .slice ea el ec] 109)
        go_wp2_with fail
        refine (HOv.out _ hb2).mono ?_
        rintro e w2 ⟨rfl, hb3⟩
        have hb4 := bnext hb2 hb3
        go_wp2_with fail
        go_ret2
        rw [HM.out]
        exact ⟨rfl, R, HW0.out.keep hb4, Stp.of_below hb4⟩
    · have q1 : (a.kind != 1) = true := by simpa using hkd
      have HM := Lib.hid (show S.mount k b n = (S, 0, 9) by unfold Fs.mount; rw [hg]; simp only; rw [if_pos hkd])
      clear h hk hg hkd hao hno hgc
      go_enter Tryz.func195, Tryz.ntmps195
      go_wp2_with fail
      refine HNo.out.mono ?_
      rintro e w1 ⟨rfl, rfl⟩
      go_wp2_with fail
      refine HG.out.mono ?_
      rintro e w1 ⟨rfl, hb1⟩
      go_wp2_with fail
      go_ret2
      rw [HM.out]
      exact ⟨rfl, R, HW0.out.keep (balloc hb1 _), Stp.of_below (balloc hb1 _)⟩

set_option maxRecDepth 100000 in
set_option maxHeartbeats 1000000 in
/-- New, where the limits may be. -/
theorem wnew_yes (b n : Int) (hlim : limB b n = true) (w : World) :
    Calls Tryz.prog 193 #[.int .i64 b, .int .i64 n] w fun e w' => ∃ pw R, e = .returned (.tuple #[.pointer (some ⟨pw, 0, none⟩), .int .i64 0]) ∧ WdAt w' pw R (fs0.addRoot 0 b n) ∧ Below w.heap.size w w' ∧ ∀ k, R.F pw k → w.heap.size ≤ k := by
  have HN := Lib.hid (new_table w)
  go_enter Tryz.func193, Tryz.ntmps193
  go_wp2_with fail
  refine HN.out.mono ?_
  rintro e w1 ⟨rfl, hT, hb1⟩
  have hb2 := balloc hb1 (.cells #[.pointer (some ⟨w.heap.size + 1, 0, none⟩), .slice none 0 0] 196)
  have hW : WdAt (w1.alloc (.cells #[.pointer (some ⟨w.heap.size + 1, 0, none⟩), .slice none 0 0] 196)) w1.heap.size ⟨w.heap.size + 1, w.heap.size, .slice none 0 0, [], 0⟩ fs0 :=
    ⟨Blk.new _ _ _, hT.keep ((Below.refl _ _).alloc (Nat.le_refl _) _), World.ownsRow_nil _ _ _ _, rfl, fun g hg => by cases hg⟩
  have hF : ∀ k, Rp.F ⟨w.heap.size + 1, w.heap.size, .slice none 0 0, [], 0⟩ w1.heap.size k → w.heap.size ≤ k := by
    rintro k (hk | hk | hk | hk)
    · have := hb1.size; omega
    · simp only at hk; omega
    · simp only at hk; omega
    · cases hk
  have HAd := Lib.hid (wadd_any hW ⟨List.Pairwise.nil, fun x hx => by cases hx⟩ (by decide) (by decide) (by decide) 0 b n hlim)
  have HF := Lib.hid hF
  have HB2 := Lib.hid hb2
  clear hT hb1 hb2 hW hF
  go_wp2_with fail
  refine HAd.out.mono ?_
  rintro e w4 ⟨rfl, R', hR1, hR2⟩
  have HR := Lib.hid (And.intro hR1 hR2)
  clear hR1 hR2
  go_wp2_with fail
  go_ret2
  exact ⟨_, R', rfl, HR.out.1, HB2.out.trans (HR.out.2.below HF.out HB2.out.size), HR.out.2.above HF.out HB2.out.size⟩
end

end Go.Proofs.YtihdbncoijhihaaGreatDoor

/- Who may do what (layer 10). -/
namespace Go.Proofs.YtihdbncoijhihaaGreatDoor

open Go.RowKit

set_option maxHeartbeats 400000 in
theorem pmay_any (cu cg uid gid mode want : Int) (w : World) :
    Calls Tryz.prog 166 #[.agg #[.int .i64 cu, .int .i64 cg], .int .i64 uid, .int .i64 gid, .int .i64 mode, .int .i64 want] w fun e w' => e = .returned (.bool (permB cu cg uid gid mode want)) ∧ Below w.heap.size w w' := by
  unfold permB
  by_cases h0 : cu = 0
  · subst h0
    rw [if_pos rfl]
    go_enter Tryz.func166, Tryz.ntmps166
    go_wp2
    go_ret
    exact ⟨rfl, by go_grown⟩
  · rw [if_neg h0]
    have q0 : (cu == 0) = false := by simpa using h0
    by_cases h1 : cu = uid
    · subst h1
      rw [if_pos rfl]
      go_enter Tryz.func166, Tryz.ntmps166
      go_wp2
      go_ret
      exact ⟨rfl, by go_grown⟩
    · rw [if_neg h1]
      have q1 : (cu == uid) = false := by simpa using h1
      by_cases h2 : cg = gid
      · subst h2
        rw [if_pos rfl]
        clear h0 h1
        go_enter Tryz.func166, Tryz.ntmps166
        go_wp2
        go_ret
        exact ⟨rfl, by go_grown⟩
      · rw [if_neg h2]
        have q2 : (cg == gid) = false := by simpa using h2
        clear h0 h1 h2
        go_enter Tryz.func166, Tryz.ntmps166
        go_wp2
        go_ret
        exact ⟨rfl, by go_grown⟩
def Cr.v (c : Cr) : Value := .agg #[.int .i64 c.u, .int .i64 c.g]
set_option maxRecDepth 100000 in
set_option maxHeartbeats 400000 in
theorem pnode_any (c : Cr) (a : An) (ea : Option Addr) (el ec : Nat) (want : Int) (w : World) :
    Calls Tryz.prog 99 #[c.v, a.v ea el ec, .int .i64 want] w fun e w' => e = .returned (.bool (a.may c want)) ∧ Below w.heap.size w w' := by
  unfold Cr.v An.v An.may
  go_enter Tryz.func99, Tryz.ntmps99
  go_wp2_with fail
  refine (pmay_any _ _ _ _ _ _ _).mono ?_
  rintro e w1 ⟨rfl, hb1⟩
  go_wp2_with fail
  go_ret
  exact ⟨rfl, bnext (balloc (balloc (Below.refl _ _) _) _) hb1⟩
set_option maxRecDepth 100000 in
set_option maxHeartbeats 400000 in
theorem powns_any (c : Cr) (a : An) (ea : Option Addr) (el ec : Nat) (w : World) :
    Calls Tryz.prog 294 #[c.v, a.v ea el ec] w fun e w' => e = .returned (.bool (ownsB c a)) ∧ Below w.heap.size w w' := by
  unfold Cr.v An.v ownsB
  go_enter Tryz.func294, Tryz.ntmps294
  go_wp2
  all_goals (go_ret; exact ⟨by first | rfl | simp [*], balloc (balloc (Below.refl _ _) _) _⟩)
set_option maxHeartbeats 400000 in
theorem pfine_any (u g : Int) (w : World) :
    Calls Tryz.prog 255 #[.agg #[.int .i64 u, .int .i64 g]] w fun e w' => e = .returned (.bool (idB u g)) ∧ Below w.heap.size w w' := by
  unfold idB
  go_enter Tryz.func255, Tryz.ntmps255
  go_wp2
  all_goals (go_ret; exact ⟨by simp [*]; try omega, by go_grown⟩)
end Go.Proofs.YtihdbncoijhihaaGreatDoor

/- Whether a text may be a path: name.Path, ragpickerref02.Path, and the notes' paths (layer 39). -/
namespace Go.Proofs.YtihdbncoijhihaaGreatDoor

open Go.RowKit

theorem pathE_nil {s : ByteArray} (h : s.size = 0) : pathE s = 5 := by
  unfold pathE
  rw [if_pos (List.eq_nil_of_length_eq_zero (by rw [Array.length_toList]; exact h))]
theorem pathE_head {s : ByteArray} (h : 0 < s.size) (h2 : s[0] ≠ 47) : pathE s = 1 := by
  have hd : s.data.toList.head? = some s[0] := by
    have hl : 0 < s.data.toList.length := by simpa using h
    rw [List.head?_eq_getElem?, List.getElem?_eq_getElem hl]
    rfl
  unfold pathE
  rw [if_neg (by intro e; rw [e] at hd; cases hd), if_pos (.inl (by rw [hd]; intro e; exact h2 (Option.some.inj e)))]
theorem pathE_rest {s : ByteArray} (h : 0 < s.size) (h2 : s[0] = 47) : pathE s = if hasB s 0 = true then 1 else if 4096 < s.size then 13 else 0 := by
  have hd : s.data.toList.head? = some s[0] := by
    have hl : 0 < s.data.toList.length := by simpa using h
    rw [List.head?_eq_getElem?, List.getElem?_eq_getElem hl]
    rfl
  unfold pathE hasB
  rw [if_neg (by intro e; rw [e] at hd; cases hd), hd, h2]
  simp

theorem contains_any (s : ByteArray) (w : World) :
    Calls Tryz.prog 156 #[.string s, .string (ByteArray.mk #[0])] w fun e w' => e = .returned (.bool (hasB s 0)) ∧ w = w' := by
  refine (Tryz.strings_Contains_one s 0 w).mono ?_
  rintro e w' ⟨rfl, rfl⟩
  refine ⟨ret_bool ?_, rfl⟩
  unfold hasB
  rw [decide_eq_decide]
  exact idx_pos 0 _

set_option maxRecDepth 100000 in
set_option maxHeartbeats 400000 in
theorem npath_any (s : ByteArray) (w : World) (hs : s.size ≤ 100000) :
    Calls Tryz.prog 84 #[.string s] w fun e w' => e = .returned (.int .i64 (pathE s)) ∧ w = w' := by
  rcases Nat.eq_zero_or_pos s.size with h0 | hpos
  · have HE := Lib.hid (pathE_nil h0)
    have hn : s.toList = [] := by rw [ba_list]; exact List.eq_nil_of_length_eq_zero (by rw [Array.length_toList]; exact h0)
    clear h0
    go_enter Tryz.func84, Tryz.ntmps84
    go_wp2_with fail
    go_ret
    exact ⟨by rw [HE.out]; rfl, rfl⟩
  · have hn : ¬ s.toList = [] := by
      rw [ba_list]; intro e
      have : s.data.toList.length = s.size := Array.length_toList
      rw [e] at this; simp at this; omega
    have hn2 : s.toList.isEmpty = false := by simpa using hn
    by_cases h47 : s[0] = 47
    · have hr := Lib.hid (pathE_rest hpos h47)
      have hc1 : ((s[0].toNat : Int) == 47) = true := by rw [h47]; rfl
      have hc2 : ((s[0].toNat : Int) != 47) = false := by rw [bne, hc1]; rfl
      clear h47
      have hc := Lib.hid (contains_any s)
      generalize hasB s 0 = b at hr hc
      cases b
      · by_cases hlen : 4096 < s.size
        · have hE := Lib.hid (show pathE s = 13 by rw [hr.out]; simp [hlen])
          go_enter Tryz.func84, Tryz.ntmps84
          go_wp2_with (go_at_call 156; refine (hc.out _).mono ?_; rintro e w1 ⟨rfl, rfl⟩)
          go_ret
          exact ⟨by rw [hE.out]; rfl, rfl⟩
        · have hE := Lib.hid (show pathE s = 0 by rw [hr.out]; simp [hlen])
          go_enter Tryz.func84, Tryz.ntmps84
          go_wp2_with (go_at_call 156; refine (hc.out _).mono ?_; rintro e w1 ⟨rfl, rfl⟩)
          go_ret
          exact ⟨by rw [hE.out]; rfl, rfl⟩
      · have hE := Lib.hid (show pathE s = 1 by rw [hr.out]; rfl)
        go_enter Tryz.func84, Tryz.ntmps84
        go_wp2_with (go_at_call 156; refine (hc.out _).mono ?_; rintro e w1 ⟨rfl, rfl⟩)
        go_ret
        exact ⟨by rw [hE.out]; rfl, rfl⟩
    · have hE := Lib.hid (pathE_head hpos h47)
      have hc1 : ((s[0].toNat : Int) == 47) = false := by
        simp only [beq_eq_false_iff_ne, ne_eq]
        intro h
        exact h47 (by rw [u8_eq]; show s[0].toNat = 47; omega)
      have hc2 : ((s[0].toNat : Int) != 47) = true := by rw [bne, hc1]; rfl
      clear h47
      go_enter Tryz.func84, Tryz.ntmps84
      go_wp2_with fail
      go_ret
      exact ⟨by rw [hE.out]; rfl, rfl⟩
end Go.Proofs.YtihdbncoijhihaaGreatDoor

/- A name, whether it may be (layer 2). -/
namespace Go.Proofs.YtihdbncoijhihaaGreatDoor

open Go.RowKit

theorem contains47_any (s : ByteArray) (w : World) :
    Calls Tryz.prog 156 #[.string s, .string (ByteArray.mk #[47])] w fun e w' => e = .returned (.bool (hasB s 47)) ∧ w = w' := by
  refine (Tryz.strings_Contains_one s 47 w).mono ?_
  rintro e w' ⟨rfl, rfl⟩
  refine ⟨ret_bool ?_, rfl⟩
  unfold hasB
  rw [decide_eq_decide]
  exact idx_pos 47 _
set_option maxRecDepth 100000 in
set_option maxHeartbeats 1000000 in
theorem ncheck_any (s : ByteArray) (w : World) (hs : s.size ≤ 9223372036854775807) :
    Calls Tryz.prog 80 #[.string s] w fun e w' => e = .returned (.int .i64 (checkE s)) ∧ w = w' := by
  have hl : s.toList = s.data.toList := ba_list s
  have HC := Lib.hid (show checkE s = if s.toList = [] ∨ s.toList = [46] ∨ s.toList = [46, 46] ∨ hasB s 47 = true ∨ hasB s 0 = true then 1 else if 255 < s.size then 13 else 0 by
    unfold checkE hasB; rw [hl]; simp only [decide_eq_true_eq])
  have H47 := Lib.hid (contains47_any s)
  have H0 := Lib.hid (contains_any s)
  generalize hasB s 47 = b47 at HC H47
  generalize hasB s 0 = b0 at HC H0
  clear hl
  by_cases h1 : s.toList = []
  · have HE := Lib.hid (HC.out.trans (if_pos (.inl h1)))
    go_enter Tryz.func80, Tryz.ntmps80
    go_wp2_with fail
    go_ret
    exact ⟨by rw [HE.out]; rfl, rfl⟩
  · have h1' : s.toList.isEmpty = false := by simpa using h1
    by_cases h2 : s.toList = [46]
    · have HE := Lib.hid (HC.out.trans (if_pos (.inr (.inl h2))))
      go_enter Tryz.func80, Tryz.ntmps80
      go_wp2_with fail
      go_ret
      exact ⟨by rw [HE.out]; rfl, rfl⟩
    · have h2' : (s.toList == [46]) = false := by simpa using h2
      by_cases h3 : s.toList = [46, 46]
      · have HE := Lib.hid (HC.out.trans (if_pos (.inr (.inr (.inl h3)))))
        go_enter Tryz.func80, Tryz.ntmps80
        go_wp2_with fail
        go_ret
        exact ⟨by rw [HE.out]; rfl, rfl⟩
      · have h3' : (s.toList == [46, 46]) = false := by simpa using h3
        cases b47
        · cases b0
          · have HE := Lib.hid (HC.out.trans (if_neg (by simp [h1, h2, h3])))
            by_cases h4 : 255 < s.size
            · have HE2 := Lib.hid (HE.out.trans (if_pos h4))
              have h4' : (255 : Int) < (s.size : Int) := by omega
              go_enter Tryz.func80, Tryz.ntmps80
              go_wp2_with (first | (go_at_call 156; ((with_reducible refine (H47.out _).mono ?_); rintro e w1 ⟨rfl, rfl⟩)) | (go_at_call 156; ((with_reducible refine (H0.out _).mono ?_); rintro e w1 ⟨rfl, rfl⟩)))
              go_ret
              exact ⟨by rw [HE2.out]; rfl, rfl⟩
            · have HE2 := Lib.hid (HE.out.trans (if_neg h4))
              have h4' : ¬ (255 : Int) < (s.size : Int) := by omega
              go_enter Tryz.func80, Tryz.ntmps80
              go_wp2_with (first | (go_at_call 156; ((with_reducible refine (H47.out _).mono ?_); rintro e w1 ⟨rfl, rfl⟩)) | (go_at_call 156; ((with_reducible refine (H0.out _).mono ?_); rintro e w1 ⟨rfl, rfl⟩)))
              go_ret
              exact ⟨by rw [HE2.out]; rfl, rfl⟩
          · have HE := Lib.hid (HC.out.trans (if_pos (by simp)))
            go_enter Tryz.func80, Tryz.ntmps80
            go_wp2_with (first | (go_at_call 156; ((with_reducible refine (H47.out _).mono ?_); rintro e w1 ⟨rfl, rfl⟩)) | (go_at_call 156; ((with_reducible refine (H0.out _).mono ?_); rintro e w1 ⟨rfl, rfl⟩)))
            go_ret
            exact ⟨by rw [HE.out]; rfl, rfl⟩
        · have HE := Lib.hid (HC.out.trans (if_pos (by simp)))
          go_enter Tryz.func80, Tryz.ntmps80
          go_wp2_with (go_at_call 156; ((with_reducible refine (H47.out _).mono ?_); rintro e w1 ⟨rfl, rfl⟩))
          go_ret
          exact ⟨by rw [HE.out]; rfl, rfl⟩
end Go.Proofs.YtihdbncoijhihaaGreatDoor
