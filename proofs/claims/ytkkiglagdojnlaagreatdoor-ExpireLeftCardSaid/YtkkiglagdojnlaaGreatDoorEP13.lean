/- Texts of the proof, part 13. -/
import Derived.Test.YtkkiglagdojnlaaGreatDoorEP12
import Derived.Test.YtkkiglagdojnlaaGreatDoorEP4
set_option linter.unusedVariables false
set_option linter.unusedSimpArgs false
/- Mounts (layer 14): Mount, New. -/
namespace Go.Proofs.YtkkiglagdojnlaaGreatDoor

open Go.RowKit

section

variable {w w' : World} {pw : Nat} {R : Rp} {S : Fs}

theorem root_new {S : Fs} {N : Nat} (over b n : Int) : (S.addRoot over b n).root ((S.ds.length : Int) + 1) = S.last + 1 := by
  unfold Fs.root Fs.addRoot
  simp
  omega
theorem ds_new (S : Fs) (over b n : Int) : (S.addRoot over b n).ds.length = S.ds.length + 1 := by unfold Fs.addRoot; simp
set_option maxRecDepth 100000 in
set_option maxHeartbeats 2000000 in
theorem wmount_any (h : WdAt w pw R S) {N : Nat} (hk : FsOk S N) (hN : N ≤ 1000000) (k b n : Int) :
    Calls Tryz.prog 107 #[.pointer (some ⟨pw, 0, none⟩), .int .i64 k, .int .i64 b, .int .i64 n] w fun e w' => e = .returned (.tuple #[.int .i64 (S.mount k b n).2.1, .int .i64 (S.mount k b n).2.2]) ∧ ∃ R', WdAt w' pw R' (S.mount k b n).1 ∧ Stp (R.F pw) (R'.F pw) w w' := by
  have HW0 := Lib.hid h
  have HNo := Lib.hid (wnone_any h hk.d1)
  obtain ⟨pc, -, pz⟩ := h.blk.facts
  cases hg : S.get k with
  | none =>
    have HM := Lib.hid (show S.mount k b n = (S, 0, 5) by unfold Fs.mount; rw [hg])
    have HG := Lib.hid (wget_no h hg)
    unfold An.v an0 at HG
    clear h hk hg
    go_enter Tryz.func107, Tryz.ntmps107
    go_wp2_with fail
    refine HNo.out.mono ?_
    rintro e w1 ⟨rfl, rfl⟩
    go_wp2_with fail
    refine HG.out.mono ?_
    rintro e w1 ⟨rfl, hb1⟩
    go_wp2_with fail
    go_ret2
    rw [HM.out]
    exact ⟨rfl, R, HW0.out.keep (balloc hb1 _), Stp.of_below (balloc hb1 _)⟩
  | some a =>
    obtain ⟨hao, hno, hk1, -⟩ := hk.get hg
    obtain ⟨ea, el, ec, -, hgc⟩ := wget_yes h hg
    have HG := Lib.hid hgc
    unfold An.v at HG
    by_cases hkd : a.kind = 1
    · have q1 : (a.kind == 1) = true := by simpa using hkd
      have q2 : (a.kind != 1) = false := by simpa using hkd
      have HOv := Lib.hid (fun w1 (hb1 : Below w.heap.size w w1) => wover_any (h.keep hb1) hk.d1 k)
      have HRt := Lib.hid (fun w1 (hb1 : Below w.heap.size w w1) => wroot_any (h.keep hb1) hk.d1 a.dev)
      have HMo := Lib.hid (fun (hx : S.over k ≠ k ∨ S.root a.dev = k) => show S.mount k b n = (S, 0, 16) by unfold Fs.mount; rw [hg]; simp only; rw [if_neg (by simpa using hkd), if_pos hx])
      have HMn := Lib.hid (fun (hx : ¬ (S.over k ≠ k ∨ S.root a.dev = k)) (hy : 8 ≤ S.ds.length ∨ limB b n = false) => show S.mount k b n = (S, 0, 3) by unfold Fs.mount; rw [hg]; simp only; rw [if_neg (by simpa using hkd), if_neg hx, if_pos hy])
      have HMy := Lib.hid (fun (hx : ¬ (S.over k ≠ k ∨ S.root a.dev = k)) (hy : ¬ (8 ≤ S.ds.length ∨ limB b n = false)) => show S.mount k b n = (S.addRoot k b n, S.last + 1, 0) by unfold Fs.mount; rw [hg]; simp only; rw [if_neg (by simpa using hkd), if_neg hx, if_neg hy])
      have HK := Lib.hid hk
      clear h hg hkd hao hno hgc
      generalize S.over k = ov at HOv HMo HMn HMy
      generalize S.root a.dev = rt at HRt HMo HMn HMy
      obtain ⟨g, cap, hdv, -, -, -, -, -, -⟩ := HW0.out.devF hk.d1
      rw [hdv] at pc
      clear hk hdv
      by_cases h1 : ov = k
      · by_cases h2 : rt = k
        · have HM := Lib.hid (HMo.out (.inr h2))
          have q3 : (ov != k) = false := by simpa using h1
          have q4 : (rt == k) = true := by simpa using h2
          clear h1 h2
          go_enter Tryz.func107, Tryz.ntmps107
          go_wp2_with fail
          refine HNo.out.mono ?_
          rintro e w1 ⟨rfl, rfl⟩
          go_wp2_with fail
          refine HG.out.mono ?_
          rintro e w1 ⟨rfl, hb1⟩
          have hb2 := balloc hb1 (.cells #[.int .i64 a.no, .int .i64 a.dev, .int .i64 a.kind, .int .i64 a.mode, .int .i64 a.uid, .int .i64 a.gid, .int .i64 a.mtime, .int .i64 a.ctime, .int .i64 a.links, .int .i64 a.up, .string a.data, .slice ea el ec] 170)
          have B1 := Blk.new w1 #[.int .i64 a.no, .int .i64 a.dev, .int .i64 a.kind, .int .i64 a.mode, .int .i64 a.uid, .int .i64 a.gid, .int .i64 a.mtime, .int .i64 a.ctime, .int .i64 a.links, .int .i64 a.up, .string a.data, .slice ea el ec] 170
          go_wp2_with fail
          refine (HOv.out _ hb2).mono ?_
          rintro e w2 ⟨rfl, hb3⟩
          obtain ⟨bc, -, -⟩ := (B1.keep hb3).facts
          have hb4 := bnext hb2 hb3
          go_wp2_with fail
          refine (HRt.out _ hb4).mono ?_
          rintro e w3 ⟨rfl, rfl⟩
          go_wp2_with fail
          go_ret2
          rw [HM.out]
          exact ⟨rfl, R, HW0.out.keep hb4, Stp.of_below hb4⟩
        · have hx : ¬ (ov ≠ k ∨ rt = k) := by rintro (h | h); exact h h1; exact h2 h
          have q3 : (ov != k) = false := by simpa using h1
          have q4 : (rt == k) = false := by simpa using h2
          have HMn := Lib.hid (HMn.out hx)
          have HMy := Lib.hid (HMy.out hx)
          clear h1 h2 hx
          go_enter Tryz.func107, Tryz.ntmps107
          go_wp2_with fail
          refine HNo.out.mono ?_
          rintro e w1 ⟨rfl, rfl⟩
          go_wp2_with fail
          refine HG.out.mono ?_
          rintro e w1 ⟨rfl, hb1⟩
          have hb2 := balloc hb1 (.cells #[.int .i64 a.no, .int .i64 a.dev, .int .i64 a.kind, .int .i64 a.mode, .int .i64 a.uid, .int .i64 a.gid, .int .i64 a.mtime, .int .i64 a.ctime, .int .i64 a.links, .int .i64 a.up, .string a.data, .slice ea el ec] 170)
          have B1 := Blk.new w1 #[.int .i64 a.no, .int .i64 a.dev, .int .i64 a.kind, .int .i64 a.mode, .int .i64 a.uid, .int .i64 a.gid, .int .i64 a.mtime, .int .i64 a.ctime, .int .i64 a.links, .int .i64 a.up, .string a.data, .slice ea el ec] 170
          go_wp2_with fail
          refine (HOv.out _ hb2).mono ?_
          rintro e w2 ⟨rfl, hb3⟩
          obtain ⟨bc, -, -⟩ := (B1.keep hb3).facts
          have hb4 := bnext hb2 hb3
          go_wp2_with fail
          refine (HRt.out _ hb4).mono ?_
          rintro e w3 ⟨rfl, rfl⟩
          have HB4 := Lib.hid hb4
          have pc1 : w2.cell? ⟨pw, 1, none⟩ = _ := (hb4.cell (p := ⟨pw, 1, none⟩) pz).trans (pc 1)
          have HW2 := Lib.hid (HW0.out.keep hb4)
          clear pc B1 bc hb1 hb2 hb3 hb4
          by_cases h8 : 8 ≤ S.ds.length
          · have HM := Lib.hid (HMn.out (.inl h8))
            have h8' : (8 : Int) ≤ (S.ds.length : Int) := by omega
            generalize S.ds.length = m at pc1 h8'
            clear h8
            go_wp2_with fail
            go_ret2
            rw [HM.out]
            exact ⟨rfl, R, HW2.out, Stp.of_below HB4.out⟩
          · have h8' : ¬ (8 : Int) ≤ (S.ds.length : Int) := by omega
            by_cases hlim : limB b n = true
            · have HM := Lib.hid (HMy.out (by rintro (h | h); exact h8 h; rw [hlim] at h; cases h))
              have HAd := Lib.hid (wadd_any HW2.out HK.out.nums HK.out.l0 (by have := HK.out.lN; omega) (by omega) k b n hlim)
              have HRn := Lib.hid (root_new (S := S) (N := 0) k b n)
              have HDn := Lib.hid (ds_new S k b n)
              have HDp := Lib.hid (show 0 < (S.addRoot k b n).ds.length by rw [ds_new]; omega)
              generalize S.addRoot k b n = S' at HM HAd HRn HDn HDp
              generalize S.ds.length = m at pc1 h8' HRn HDn
              clear h8
              go_wp2_with fail
              refine HAd.out.mono ?_
              rintro e w4 ⟨rfl, R', hR1, hR2⟩
              have HR := Lib.hid (And.intro hR1 ((Stp.of_below HB4.out).trans hR2))
              have hrt := wroot_any hR1 HDp.out ((m : Int) + 1)
              rw [HRn.out] at hrt
              have HRT := Lib.hid hrt
              obtain ⟨g', cap', hdv', -, -, -, -, -, -⟩ := hR1.devF HDp.out
              obtain ⟨rc, -, -⟩ := hR1.blk.facts
              rw [hdv', HDn.out] at rc
              clear hR1 hR2 hrt hdv'
              go_wp2_with fail
              refine HRT.out.mono ?_
              rintro e w5 ⟨rfl, rfl⟩
              go_wp2_with fail
              go_ret2
              rw [HM.out]
              exact ⟨rfl, R', HR.out.1, HR.out.2⟩
            · have hlim' : limB b n = false := by simpa using hlim
              have HM := Lib.hid (HMn.out (.inr hlim'))
              have HAd := Lib.hid (wadd_no k b n hlim' w2 pw)
              generalize S.ds.length = m at pc1 h8'
              clear h8 hlim hlim'
              go_wp2_with fail
              refine HAd.out.mono ?_
              rintro e w4 ⟨rfl, hb5⟩
              have HB5 := Lib.hid hb5
              clear hb5
              go_wp2_with fail
              go_ret2
              rw [HM.out]
              exact ⟨rfl, R, HW2.out.keep HB5.out, Stp.of_below (bnext HB4.out HB5.out)⟩
      · have HM := Lib.hid (HMo.out (.inl h1))
        have q3 : (ov != k) = true := by simpa using h1
        clear h1
        go_enter Tryz.func107, Tryz.ntmps107
        go_wp2_with fail
        refine HNo.out.mono ?_
        rintro e w1 ⟨rfl, rfl⟩
        go_wp2_with fail
        refine HG.out.mono ?_
        rintro e w1 ⟨rfl, hb1⟩
        have hb2 := balloc hb1 (.cells #[.int .i64 a.no, .int .i64 a.dev, .int .i64 a.kind, .int .i64 a.mode, .int .i64 a.uid, .int .i64 a.gid, .int .i64 a.mtime, .int .i64 a.ctime, .int .i64 a.links, .int .i64 a.up, .string a.data, .slice ea el ec] 170)
        go_wp2_with fail
        refine (HOv.out _ hb2).mono ?_
        rintro e w2 ⟨rfl, hb3⟩
        have hb4 := bnext hb2 hb3
        go_wp2_with fail
        go_ret2
        rw [HM.out]
        exact ⟨rfl, R, HW0.out.keep hb4, Stp.of_below hb4⟩
    · have q1 : (a.kind != 1) = true := by simpa using hkd
      have HM := Lib.hid (show S.mount k b n = (S, 0, 9) by unfold Fs.mount; rw [hg]; simp only; rw [if_pos hkd])
      clear h hk hg hkd hao hno hgc
      go_enter Tryz.func107, Tryz.ntmps107
      go_wp2_with fail
      refine HNo.out.mono ?_
      rintro e w1 ⟨rfl, rfl⟩
      go_wp2_with fail
      refine HG.out.mono ?_
      rintro e w1 ⟨rfl, hb1⟩
      go_wp2_with fail
      go_ret2
      rw [HM.out]
      exact ⟨rfl, R, HW0.out.keep (balloc hb1 _), Stp.of_below (balloc hb1 _)⟩

set_option maxRecDepth 100000 in
set_option maxHeartbeats 1000000 in
/-- New, where the limits may be. -/
theorem wnew_yes (b n : Int) (hlim : limB b n = true) (w : World) :
    Calls Tryz.prog 105 #[.int .i64 b, .int .i64 n] w fun e w' => ∃ pw R, e = .returned (.tuple #[.pointer (some ⟨pw, 0, none⟩), .int .i64 0]) ∧ WdAt w' pw R (fs0.addRoot 0 b n) ∧ Below w.heap.size w w' ∧ ∀ k, R.F pw k → w.heap.size ≤ k := by
  have HN := Lib.hid (new_table w)
  go_enter Tryz.func105, Tryz.ntmps105
  go_wp2_with fail
  refine HN.out.mono ?_
  rintro e w1 ⟨rfl, hT, hb1⟩
  have hb2 := balloc hb1 (.cells #[.pointer (some ⟨w.heap.size + 1, 0, none⟩), .slice none 0 0] 222)
  have hW : WdAt (w1.alloc (.cells #[.pointer (some ⟨w.heap.size + 1, 0, none⟩), .slice none 0 0] 222)) w1.heap.size ⟨w.heap.size + 1, w.heap.size, .slice none 0 0, [], 0⟩ fs0 :=
    ⟨Blk.new _ _ _, hT.keep ((Below.refl _ _).alloc (Nat.le_refl _) _), World.ownsRow_nil _ _ _ _, rfl, fun g hg => by cases hg⟩
  have hF : ∀ k, Rp.F ⟨w.heap.size + 1, w.heap.size, .slice none 0 0, [], 0⟩ w1.heap.size k → w.heap.size ≤ k := by
    rintro k (hk | hk | hk | hk)
    · have := hb1.size; omega
    · simp only at hk; omega
    · simp only at hk; omega
    · cases hk
  have HAd := Lib.hid (wadd_any hW ⟨List.Pairwise.nil, fun x hx => by cases hx⟩ (by decide) (by decide) (by decide) 0 b n hlim)
  have HF := Lib.hid hF
  have HB2 := Lib.hid hb2
  clear hT hb1 hb2 hW hF
  go_wp2_with fail
  refine HAd.out.mono ?_
  rintro e w4 ⟨rfl, R', hR1, hR2⟩
  have HR := Lib.hid (And.intro hR1 hR2)
  clear hR1 hR2
  go_wp2_with fail
  go_ret2
  exact ⟨_, R', rfl, HR.out.1, HB2.out.trans (HR.out.2.below HF.out HB2.out.size), HR.out.2.above HF.out HB2.out.size⟩
end

end Go.Proofs.YtkkiglagdojnlaaGreatDoor

/- Who may do what (layer 10). -/
namespace Go.Proofs.YtkkiglagdojnlaaGreatDoor

open Go.RowKit

set_option maxHeartbeats 400000 in
theorem pmay_any (cu cg uid gid mode want : Int) (w : World) :
    Calls Tryz.prog 210 #[.agg #[.int .i64 cu, .int .i64 cg], .int .i64 uid, .int .i64 gid, .int .i64 mode, .int .i64 want] w fun e w' => e = .returned (.bool (permB cu cg uid gid mode want)) ∧ Below w.heap.size w w' := by
  unfold permB
  by_cases h0 : cu = 0
  · subst h0
    rw [if_pos rfl]
    go_enter Tryz.func210, Tryz.ntmps210
    go_wp2
    go_ret
    exact ⟨rfl, by go_grown⟩
  · rw [if_neg h0]
    have q0 : (cu == 0) = false := by simpa using h0
    by_cases h1 : cu = uid
    · subst h1
      rw [if_pos rfl]
      go_enter Tryz.func210, Tryz.ntmps210
      go_wp2
      go_ret
      exact ⟨rfl, by go_grown⟩
    · rw [if_neg h1]
      have q1 : (cu == uid) = false := by simpa using h1
      by_cases h2 : cg = gid
      · subst h2
        rw [if_pos rfl]
        clear h0 h1
        go_enter Tryz.func210, Tryz.ntmps210
        go_wp2
        go_ret
        exact ⟨rfl, by go_grown⟩
      · rw [if_neg h2]
        have q2 : (cg == gid) = false := by simpa using h2
        clear h0 h1 h2
        go_enter Tryz.func210, Tryz.ntmps210
        go_wp2
        go_ret
        exact ⟨rfl, by go_grown⟩
def Cr.v (c : Cr) : Value := .agg #[.int .i64 c.u, .int .i64 c.g]
set_option maxRecDepth 100000 in
set_option maxHeartbeats 400000 in
theorem pnode_any (c : Cr) (a : An) (ea : Option Addr) (el ec : Nat) (want : Int) (w : World) :
    Calls Tryz.prog 158 #[c.v, a.v ea el ec, .int .i64 want] w fun e w' => e = .returned (.bool (a.may c want)) ∧ Below w.heap.size w w' := by
  unfold Cr.v An.v An.may
  go_enter Tryz.func158, Tryz.ntmps158
  go_wp2_with fail
  refine (pmay_any _ _ _ _ _ _ _).mono ?_
  rintro e w1 ⟨rfl, hb1⟩
  go_wp2_with fail
  go_ret
  exact ⟨rfl, bnext (balloc (balloc (Below.refl _ _) _) _) hb1⟩
set_option maxRecDepth 100000 in
set_option maxHeartbeats 400000 in
theorem powns_any (c : Cr) (a : An) (ea : Option Addr) (el ec : Nat) (w : World) :
    Calls Tryz.prog 200 #[c.v, a.v ea el ec] w fun e w' => e = .returned (.bool (ownsB c a)) ∧ Below w.heap.size w w' := by
  unfold Cr.v An.v ownsB
  go_enter Tryz.func200, Tryz.ntmps200
  go_wp2
  all_goals (go_ret; exact ⟨by first | rfl | simp [*], balloc (balloc (Below.refl _ _) _) _⟩)
set_option maxHeartbeats 400000 in
theorem pfine_any (u g : Int) (w : World) :
    Calls Tryz.prog 170 #[.agg #[.int .i64 u, .int .i64 g]] w fun e w' => e = .returned (.bool (idB u g)) ∧ Below w.heap.size w w' := by
  unfold idB
  go_enter Tryz.func170, Tryz.ntmps170
  go_wp2
  all_goals (go_ret; exact ⟨by simp [*]; try omega, by go_grown⟩)
end Go.Proofs.YtkkiglagdojnlaaGreatDoor

/- Whether a text may be a path: name.Path, ragpickerref02.Path, and the notes' paths (layer 39). -/
namespace Go.Proofs.YtkkiglagdojnlaaGreatDoor

open Go.RowKit

theorem pathE_nil {s : ByteArray} (h : s.size = 0) : pathE s = 5 := by
  unfold pathE
  rw [if_pos (List.eq_nil_of_length_eq_zero (by rw [Array.length_toList]; exact h))]
theorem pathE_head {s : ByteArray} (h : 0 < s.size) (h2 : s[0] ≠ 47) : pathE s = 1 := by
  have hd : s.data.toList.head? = some s[0] := by
    have hl : 0 < s.data.toList.length := by simpa using h
    rw [List.head?_eq_getElem?, List.getElem?_eq_getElem hl]
    rfl
  unfold pathE
  rw [if_neg (by intro e; rw [e] at hd; cases hd), if_pos (.inl (by rw [hd]; intro e; exact h2 (Option.some.inj e)))]
theorem pathE_rest {s : ByteArray} (h : 0 < s.size) (h2 : s[0] = 47) : pathE s = if hasB s 0 = true then 1 else if 4096 < s.size then 13 else 0 := by
  have hd : s.data.toList.head? = some s[0] := by
    have hl : 0 < s.data.toList.length := by simpa using h
    rw [List.head?_eq_getElem?, List.getElem?_eq_getElem hl]
    rfl
  unfold pathE hasB
  rw [if_neg (by intro e; rw [e] at hd; cases hd), hd, h2]
  simp

theorem contains_any (s : ByteArray) (w : World) :
    Calls Tryz.prog 120 #[.string s, .string (ByteArray.mk #[0])] w fun e w' => e = .returned (.bool (hasB s 0)) ∧ w = w' := by
  refine (Tryz.strings_Contains_one s 0 w).mono ?_
  rintro e w' ⟨rfl, rfl⟩
  refine ⟨ret_bool ?_, rfl⟩
  unfold hasB
  rw [decide_eq_decide]
  exact idx_pos 0 _

set_option maxRecDepth 100000 in
set_option maxHeartbeats 400000 in
theorem npath_any (s : ByteArray) (w : World) (hs : s.size ≤ 100000) :
    Calls Tryz.prog 70 #[.string s] w fun e w' => e = .returned (.int .i64 (pathE s)) ∧ w = w' := by
  rcases Nat.eq_zero_or_pos s.size with h0 | hpos
  · have HE := Lib.hid (pathE_nil h0)
    have hn : s.toList = [] := by rw [ba_list]; exact List.eq_nil_of_length_eq_zero (by rw [Array.length_toList]; exact h0)
    clear h0
    go_enter Tryz.func70, Tryz.ntmps70
    go_wp2_with fail
    go_ret
    exact ⟨by rw [HE.out]; rfl, rfl⟩
  · have hn : ¬ s.toList = [] := by
      rw [ba_list]; intro e
      have : s.data.toList.length = s.size := Array.length_toList
      rw [e] at this; simp at this; omega
    have hn2 : s.toList.isEmpty = false := by simpa using hn
    by_cases h47 : s[0] = 47
    · have hr := Lib.hid (pathE_rest hpos h47)
      have hc1 : ((s[0].toNat : Int) == 47) = true := by rw [h47]; rfl
      have hc2 : ((s[0].toNat : Int) != 47) = false := by rw [bne, hc1]; rfl
      clear h47
      have hc := Lib.hid (contains_any s)
      generalize hasB s 0 = b at hr hc
      cases b
      · by_cases hlen : 4096 < s.size
        · have hE := Lib.hid (show pathE s = 13 by rw [hr.out]; simp [hlen])
          go_enter Tryz.func70, Tryz.ntmps70
          go_wp2_with (go_at_call 120; refine (hc.out _).mono ?_; rintro e w1 ⟨rfl, rfl⟩)
          go_ret
          exact ⟨by rw [hE.out]; rfl, rfl⟩
        · have hE := Lib.hid (show pathE s = 0 by rw [hr.out]; simp [hlen])
          go_enter Tryz.func70, Tryz.ntmps70
          go_wp2_with (go_at_call 120; refine (hc.out _).mono ?_; rintro e w1 ⟨rfl, rfl⟩)
          go_ret
          exact ⟨by rw [hE.out]; rfl, rfl⟩
      · have hE := Lib.hid (show pathE s = 1 by rw [hr.out]; rfl)
        go_enter Tryz.func70, Tryz.ntmps70
        go_wp2_with (go_at_call 120; refine (hc.out _).mono ?_; rintro e w1 ⟨rfl, rfl⟩)
        go_ret
        exact ⟨by rw [hE.out]; rfl, rfl⟩
    · have hE := Lib.hid (pathE_head hpos h47)
      have hc1 : ((s[0].toNat : Int) == 47) = false := by
        simp only [beq_eq_false_iff_ne, ne_eq]
        intro h
        exact h47 (by rw [u8_eq]; show s[0].toNat = 47; omega)
      have hc2 : ((s[0].toNat : Int) != 47) = true := by rw [bne, hc1]; rfl
      clear h47
      go_enter Tryz.func70, Tryz.ntmps70
      go_wp2_with fail
      go_ret
      exact ⟨by rw [hE.out]; rfl, rfl⟩
end Go.Proofs.YtkkiglagdojnlaaGreatDoor

/- A name, whether it may be (layer 2). -/
namespace Go.Proofs.YtkkiglagdojnlaaGreatDoor

open Go.RowKit

theorem contains47_any (s : ByteArray) (w : World) :
    Calls Tryz.prog 120 #[.string s, .string (ByteArray.mk #[47])] w fun e w' => e = .returned (.bool (hasB s 47)) ∧ w = w' := by
  refine (Tryz.strings_Contains_one s 47 w).mono ?_
  rintro e w' ⟨rfl, rfl⟩
  refine ⟨ret_bool ?_, rfl⟩
  unfold hasB
  rw [decide_eq_decide]
  exact idx_pos 47 _
set_option maxRecDepth 100000 in
set_option maxHeartbeats 1000000 in
theorem ncheck_any (s : ByteArray) (w : World) (hs : s.size ≤ 9223372036854775807) :
    Calls Tryz.prog 71 #[.string s] w fun e w' => e = .returned (.int .i64 (checkE s)) ∧ w = w' := by
  have hl : s.toList = s.data.toList := ba_list s
  have HC := Lib.hid (show checkE s = if s.toList = [] ∨ s.toList = [46] ∨ s.toList = [46, 46] ∨ hasB s 47 = true ∨ hasB s 0 = true then 1 else if 255 < s.size then 13 else 0 by
    unfold checkE hasB; rw [hl]; simp only [decide_eq_true_eq])
  have H47 := Lib.hid (contains47_any s)
  have H0 := Lib.hid (contains_any s)
  generalize hasB s 47 = b47 at HC H47
  generalize hasB s 0 = b0 at HC H0
  clear hl
  by_cases h1 : s.toList = []
  · have HE := Lib.hid (HC.out.trans (if_pos (.inl h1)))
    go_enter Tryz.func71, Tryz.ntmps71
    go_wp2_with fail
    go_ret
    exact ⟨by rw [HE.out]; rfl, rfl⟩
  · have h1' : s.toList.isEmpty = false := by simpa using h1
    by_cases h2 : s.toList = [46]
    · have HE := Lib.hid (HC.out.trans (if_pos (.inr (.inl h2))))
      go_enter Tryz.func71, Tryz.ntmps71
      go_wp2_with fail
      go_ret
      exact ⟨by rw [HE.out]; rfl, rfl⟩
    · have h2' : (s.toList == [46]) = false := by simpa using h2
      by_cases h3 : s.toList = [46, 46]
      · have HE := Lib.hid (HC.out.trans (if_pos (.inr (.inr (.inl h3)))))
        go_enter Tryz.func71, Tryz.ntmps71
        go_wp2_with fail
        go_ret
        exact ⟨by rw [HE.out]; rfl, rfl⟩
      · have h3' : (s.toList == [46, 46]) = false := by simpa using h3
        cases b47
        · cases b0
          · have HE := Lib.hid (HC.out.trans (if_neg (by simp [h1, h2, h3])))
            by_cases h4 : 255 < s.size
            · have HE2 := Lib.hid (HE.out.trans (if_pos h4))
              have h4' : (255 : Int) < (s.size : Int) := by omega
              go_enter Tryz.func71, Tryz.ntmps71
              go_wp2_with (first | (go_at_call 120; ((with_reducible refine (H47.out _).mono ?_); rintro e w1 ⟨rfl, rfl⟩)) | (go_at_call 120; ((with_reducible refine (H0.out _).mono ?_); rintro e w1 ⟨rfl, rfl⟩)))
              go_ret
              exact ⟨by rw [HE2.out]; rfl, rfl⟩
            · have HE2 := Lib.hid (HE.out.trans (if_neg h4))
              have h4' : ¬ (255 : Int) < (s.size : Int) := by omega
              go_enter Tryz.func71, Tryz.ntmps71
              go_wp2_with (first | (go_at_call 120; ((with_reducible refine (H47.out _).mono ?_); rintro e w1 ⟨rfl, rfl⟩)) | (go_at_call 120; ((with_reducible refine (H0.out _).mono ?_); rintro e w1 ⟨rfl, rfl⟩)))
              go_ret
              exact ⟨by rw [HE2.out]; rfl, rfl⟩
          · have HE := Lib.hid (HC.out.trans (if_pos (by simp)))
            go_enter Tryz.func71, Tryz.ntmps71
            go_wp2_with (first | (go_at_call 120; ((with_reducible refine (H47.out _).mono ?_); rintro e w1 ⟨rfl, rfl⟩)) | (go_at_call 120; ((with_reducible refine (H0.out _).mono ?_); rintro e w1 ⟨rfl, rfl⟩)))
            go_ret
            exact ⟨by rw [HE.out]; rfl, rfl⟩
        · have HE := Lib.hid (HC.out.trans (if_pos (by simp)))
          go_enter Tryz.func71, Tryz.ntmps71
          go_wp2_with (go_at_call 120; ((with_reducible refine (H47.out _).mono ?_); rintro e w1 ⟨rfl, rfl⟩))
          go_ret
          exact ⟨by rw [HE.out]; rfl, rfl⟩
end Go.Proofs.YtkkiglagdojnlaaGreatDoor

/- A directory in which names come and go (layer 17): Place, Touch. -/
namespace Go.Proofs.YtkkiglagdojnlaaGreatDoor

open Go.RowKit

theorem Blk.row {w : World} {B : Nat} {xs vs : List Value} {T : TypeId} (h : Blk w B xs.toArray T) (hl : xs.length = vs.length) : Blk (putRow w B 0 vs) B vs.toArray T := by
  have h1 := putRow_blk vs w 0 _ h
  have h2 := setAll_head vs xs [] hl
  rw [List.append_nil, List.append_nil] at h2
  rw [List.toList_toArray, h2] at h1
  exact h1
set_option maxRecDepth 100000 in
theorem Blk.set12 {w : World} {B : Nat} {x0 x1 x2 x3 x4 x5 x6 x7 x8 x9 x10 x11 v0 v1 v2 v3 v4 v5 v6 v7 v8 v9 v10 v11 : Value} {T : TypeId} (h : Blk w B #[x0, x1, x2, x3, x4, x5, x6, x7, x8, x9, x10, x11] T) : Blk ((((((((((((w.setCell ⟨B, 0, none⟩ v0).setCell ⟨B, 1, none⟩ v1).setCell ⟨B, 2, none⟩ v2).setCell ⟨B, 3, none⟩ v3).setCell ⟨B, 4, none⟩ v4).setCell ⟨B, 5, none⟩ v5).setCell ⟨B, 6, none⟩ v6).setCell ⟨B, 7, none⟩ v7).setCell ⟨B, 8, none⟩ v8).setCell ⟨B, 9, none⟩ v9).setCell ⟨B, 10, none⟩ v10).setCell ⟨B, 11, none⟩ v11) B #[v0, v1, v2, v3, v4, v5, v6, v7, v8, v9, v10, v11] T :=
  Blk.row (xs := [x0, x1, x2, x3, x4, x5, x6, x7, x8, x9, x10, x11]) (vs := [v0, v1, v2, v3, v4, v5, v6, v7, v8, v9, v10, v11]) h rfl
theorem below_row {N : Nat} {w0 : World} {B : Nat} (hB : N ≤ B) : ∀ (vs : List Value) (w : World) (o : Nat), Below N w0 w → Below N w0 (putRow w B o vs)
  | [], _, _, h => h
  | v :: vs, w, o, h => by unfold putRow; exact below_row hB vs _ _ (h.setCell hB v)
set_option maxRecDepth 100000 in
theorem below_set12 {N : Nat} {w0 w : World} {B : Nat} {v0 v1 v2 v3 v4 v5 v6 v7 v8 v9 v10 v11 : Value} (h : Below N w0 w) (hB : N ≤ B) : Below N w0 ((((((((((((w.setCell ⟨B, 0, none⟩ v0).setCell ⟨B, 1, none⟩ v1).setCell ⟨B, 2, none⟩ v2).setCell ⟨B, 3, none⟩ v3).setCell ⟨B, 4, none⟩ v4).setCell ⟨B, 5, none⟩ v5).setCell ⟨B, 6, none⟩ v6).setCell ⟨B, 7, none⟩ v7).setCell ⟨B, 8, none⟩ v8).setCell ⟨B, 9, none⟩ v9).setCell ⟨B, 10, none⟩ v10).setCell ⟨B, 11, none⟩ v11) :=
  below_row hB [v0, v1, v2, v3, v4, v5, v6, v7, v8, v9, v10, v11] w 0 h
theorem Blk.cells12 {w : World} {B : Nat} {x0 x1 x2 x3 x4 x5 x6 x7 x8 x9 x10 x11 : Value} {T : TypeId} (h : Blk w B #[x0, x1, x2, x3, x4, x5, x6, x7, x8, x9, x10, x11] T) :
    w.cell? ⟨B, 0, none⟩ = some (x0) ∧ w.cell? ⟨B, 1, none⟩ = some (x1) ∧ w.cell? ⟨B, 2, none⟩ = some (x2) ∧ w.cell? ⟨B, 3, none⟩ = some (x3) ∧ w.cell? ⟨B, 4, none⟩ = some (x4) ∧ w.cell? ⟨B, 5, none⟩ = some (x5) ∧ w.cell? ⟨B, 6, none⟩ = some (x6) ∧ w.cell? ⟨B, 7, none⟩ = some (x7) ∧ w.cell? ⟨B, 8, none⟩ = some (x8) ∧ w.cell? ⟨B, 9, none⟩ = some (x9) ∧ w.cell? ⟨B, 10, none⟩ = some (x10) ∧ w.cell? ⟨B, 11, none⟩ = some (x11) :=
  ⟨h.cell 0, h.cell 1, h.cell 2, h.cell 3, h.cell 4, h.cell 5, h.cell 6, h.cell 7, h.cell 8, h.cell 9, h.cell 10, h.cell 11⟩
set_option maxRecDepth 100000 in
set_option maxHeartbeats 1000000 in
theorem place_results {tmps : Array Value} {W : World} {B : Nat} {a : An} {ea : Option Addr} {el ec : Nat} {e : Int} (hb : Blk W B #[.int .i64 a.no, .int .i64 a.dev, .int .i64 a.kind, .int .i64 a.mode, .int .i64 a.uid, .int .i64 a.gid, .int .i64 a.mtime, .int .i64 a.ctime, .int .i64 a.links, .int .i64 a.up, .string a.data, .slice ea el ec] 170)
    (h8 : tmps.getD 8 undef = .pointer (some ⟨B, 0, none⟩)) (h9 : tmps.getD 9 undef = .int .i64 e) : (results Tryz.f143 tmps).run Tryz.prog W = .ok (.tuple #[a.v ea el ec, .int .i64 e]) W := by
  obtain ⟨q0, q1, q2, q3, q4, q5, q6, q7, q8, q9, q10, q11⟩ := hb.cells12
  rw [Array.getD_eq_getD_getElem?] at h8 h9
  simp [results, Tryz.results143, go_sem, An.v, h8, h9, q0, q1, q2, q3, q4, q5, q6, q7, q8, q9, q10, q11]
section

variable {w w' : World} {pw : Nat} {R : Rp} {S : Fs}

set_option maxRecDepth 100000 in
set_option maxHeartbeats 1000000 in
theorem place_none (h : WdAt w pw R S) {N : Nat} (hk : FsOk S N) (c : Cr) (dir : Int) (s : ByteArray) (hs : s.size ≤ 9223372036854775807) (hg : S.get dir = none) :
    Calls Tryz.prog 143 #[.pointer (some ⟨pw, 0, none⟩), .agg #[.int .i64 c.u, .int .i64 c.g], .int .i64 dir, .string s] w fun e w' => e = .returned (.tuple #[an0.v none 0 0, .int .i64 5]) ∧ Below w.heap.size w w' := by
  have HDv := Lib.hid (fun w1 (hb1 : Below w.heap.size w w1) => wdevs_any (h.keep hb1) hk.d1)
  have hnz := hk.d1
  generalize S.ds.length = n at HDv hnz
  have hz : ((n : Int) == 0) = false := by simp; omega
  have HG := Lib.hid (fun w1 (hb1 : Below w.heap.size w w1) => wget_no (h.keep hb1) hg)
  have HCk := Lib.hid (fun w => ncheck_any s w hs)
  obtain ⟨pc, -, pz⟩ := h.blk.facts
  unfold An.v an0 at HG
  generalize checkE s = ce at HCk
  clear h hk hg
  go_enter Tryz.func143, Tryz.ntmps143
  go_wp2_with fail
  refine (HDv.out _ (balloc (balloc (Below.refl _ _) _) _)).mono ?_
  rintro e w1 ⟨rfl, rfl⟩
  go_wp2_with fail
  refine (HG.out _ (balloc (balloc (Below.refl _ _) _) _)).mono ?_
  rintro e w1 ⟨rfl, hb1⟩
  have hb2 := bnext (balloc (balloc (Below.refl w.heap.size w) _) _) hb1
  have hR : Blk w1 (w.heap.size + 1) #[.int .i64 0, .int .i64 0, .int .i64 0, .int .i64 0, .int .i64 0, .int .i64 0, .int .i64 0, .int .i64 0, .int .i64 0, .int .i64 0, .string ⟨#[]⟩, .slice none 0 0] 170 := by
    have := ((Blk.new (w.alloc (.cells #[.int .i64 c.u, .int .i64 c.g] 54)) #[.int .i64 0, .int .i64 0, .int .i64 0, .int .i64 0, .int .i64 0, .int .i64 0, .int .i64 0, .int .i64 0, .int .i64 0, .int .i64 0, .string ⟨#[]⟩, .slice none 0 0] 170).keep hb1)
    rwa [World.size_alloc] at this
  have hRX := hR.old (.cells #[.int .i64 0, .int .i64 0, .int .i64 0, .int .i64 0, .int .i64 0, .int .i64 0, .int .i64 0, .int .i64 0, .int .i64 0, .int .i64 0, .string ByteArray.empty, .slice none 0 0] 170)
  have hbX := balloc hb2 (.cells #[.int .i64 0, .int .i64 0, .int .i64 0, .int .i64 0, .int .i64 0, .int .i64 0, .int .i64 0, .int .i64 0, .int .i64 0, .int .i64 0, .string ByteArray.empty, .slice none 0 0] 170)
  clear hR hb1 hb2 pc
  go_wp2_with fail
  generalize w1.alloc (.cells #[.int .i64 0, .int .i64 0, .int .i64 0, .int .i64 0, .int .i64 0, .int .i64 0, .int .i64 0, .int .i64 0, .int .i64 0, .int .i64 0, .string ByteArray.empty, .slice none 0 0] 170) = X at hRX hbX ⊢
  refine (HCk.out _).mono ?_
  rintro e w2 ⟨rfl, rfl⟩
  have HRX := Lib.hid hRX
  have HBX := Lib.hid hbX
  obtain ⟨rc, rf, rz⟩ := hRX.facts
  clear hRX hbX
  go_wp2_with fail
  exact bodyPost_ret (place_results (a := an0) HRX.out.set12 rfl rfl) rfl ⟨rfl, below_set12 HBX.out (Nat.le_succ _)⟩
/-- the directory is there: Get, and what lies beside it. -/
theorem wget_fix (h : WdAt w pw R S) {k : Int} {a : An} (hg : S.get k = some a) : ∃ ea el ec, EntsAt w ea el ec a.ents ∧ ∀ w1, Below w.heap.size w w1 →
    Calls Tryz.prog 144 #[.pointer (some ⟨R.pt, 0, none⟩), .int .i64 k] w1 fun e w' => e = .returned (.tuple #[a.v ea el ec, .bool true]) ∧ Below w1.heap.size w1 w' := by
  obtain ⟨g, -, rfl, hf, he⟩ := G_of h hg
  exact ⟨g.ea, g.el, g.ec, he, fun w1 hb1 => get_yes g.nd k w1 R.pt R.pm S.last _ R.clk (h.keep hb1).tab hf⟩
set_option maxRecDepth 100000 in
set_option maxHeartbeats 2000000 in
theorem place_some (h : WdAt w pw R S) {N : Nat} (hk : FsOk S N) (c : Cr) (dir : Int) (s : ByteArray) (hs : s.size ≤ 9223372036854775807) (d : An) (hg : S.get dir = some d) :
    Calls Tryz.prog 143 #[.pointer (some ⟨pw, 0, none⟩), .agg #[.int .i64 c.u, .int .i64 c.g], .int .i64 dir, .string s] w fun e w' => ((S.placeE c dir s ≠ 0 ∧ e = .returned (.tuple #[an0.v none 0 0, .int .i64 (S.placeE c dir s)])) ∨ (S.placeE c dir s = 0 ∧ ∃ ea el ec, e = .returned (.tuple #[d.v ea el ec, .int .i64 0]) ∧ EntsAt w ea el ec d.ents)) ∧ Below w.heap.size w w' := by
  have HDv := Lib.hid (fun w1 (hb1 : Below w.heap.size w w1) => wdevs_any (h.keep hb1) hk.d1)
  have hnz := hk.d1
  generalize S.ds.length = n at HDv hnz
  have hz : ((n : Int) == 0) = false := by simp; omega
  obtain ⟨ea, el, ec, he, hG⟩ := wget_fix h hg
  have HE := Lib.hid he
  have HG := Lib.hid hG
  unfold An.v at HG
  have HCk := Lib.hid (fun w => ncheck_any s w hs)
  have HPl := Lib.hid (show S.placeE c dir s = if d.kind ≠ 1 then 9 else if checkE s ≠ 0 then checkE s else if d.may c 3 = false then 6 else 0 by unfold Fs.placeE; rw [hg])
  have HNd := Lib.hid (fun w => pnode_any c d ea el ec 3 w)
  unfold Cr.v An.v at HNd
  obtain ⟨pc, -, pz⟩ := h.blk.facts
  generalize checkE s = ce at HCk HPl
  generalize S.placeE c dir s = pe at HPl ⊢
  generalize d.may c 3 = my at HPl HNd
  clear h hk hg he hG
  go_enter Tryz.func143, Tryz.ntmps143
  go_wp2_with fail
  refine (HDv.out _ (balloc (balloc (Below.refl _ _) _) _)).mono ?_
  rintro e w1 ⟨rfl, rfl⟩
  go_wp2_with fail
  refine (HG.out _ (balloc (balloc (Below.refl _ _) _) _)).mono ?_
  rintro e w1 ⟨rfl, hb1⟩
  have hb2 := bnext (balloc (balloc (Below.refl w.heap.size w) _) _) hb1
  have hR : Blk w1 (w.heap.size + 1) #[.int .i64 0, .int .i64 0, .int .i64 0, .int .i64 0, .int .i64 0, .int .i64 0, .int .i64 0, .int .i64 0, .int .i64 0, .int .i64 0, .string ⟨#[]⟩, .slice none 0 0] 170 := by
    have := ((Blk.new (w.alloc (.cells #[.int .i64 c.u, .int .i64 c.g] 54)) #[.int .i64 0, .int .i64 0, .int .i64 0, .int .i64 0, .int .i64 0, .int .i64 0, .int .i64 0, .int .i64 0, .int .i64 0, .int .i64 0, .string ⟨#[]⟩, .slice none 0 0] 170).keep hb1)
    rwa [World.size_alloc] at this
  have hCr : Blk w1 w.heap.size #[.int .i64 c.u, .int .i64 c.g] 54 := ((Blk.new w #[.int .i64 c.u, .int .i64 c.g] 54).old (.cells #[.int .i64 0, .int .i64 0, .int .i64 0, .int .i64 0, .int .i64 0, .int .i64 0, .int .i64 0, .int .i64 0, .int .i64 0, .int .i64 0, .string ⟨#[]⟩, .slice none 0 0] 170)).keep hb1
  have hRX := hR.old (.cells #[.int .i64 d.no, .int .i64 d.dev, .int .i64 d.kind, .int .i64 d.mode, .int .i64 d.uid, .int .i64 d.gid, .int .i64 d.mtime, .int .i64 d.ctime, .int .i64 d.links, .int .i64 d.up, .string d.data, .slice ea el ec] 170)
  have hCX := hCr.old (.cells #[.int .i64 d.no, .int .i64 d.dev, .int .i64 d.kind, .int .i64 d.mode, .int .i64 d.uid, .int .i64 d.gid, .int .i64 d.mtime, .int .i64 d.ctime, .int .i64 d.links, .int .i64 d.up, .string d.data, .slice ea el ec] 170)
  have hDX := Blk.new w1 #[.int .i64 d.no, .int .i64 d.dev, .int .i64 d.kind, .int .i64 d.mode, .int .i64 d.uid, .int .i64 d.gid, .int .i64 d.mtime, .int .i64 d.ctime, .int .i64 d.links, .int .i64 d.up, .string d.data, .slice ea el ec] 170
  have hbX := balloc hb2 (.cells #[.int .i64 d.no, .int .i64 d.dev, .int .i64 d.kind, .int .i64 d.mode, .int .i64 d.uid, .int .i64 d.gid, .int .i64 d.mtime, .int .i64 d.ctime, .int .i64 d.links, .int .i64 d.up, .string d.data, .slice ea el ec] 170)
  clear hR hCr hb1 hb2 pc
  go_wp2_with fail
  generalize w1.alloc (.cells #[.int .i64 d.no, .int .i64 d.dev, .int .i64 d.kind, .int .i64 d.mode, .int .i64 d.uid, .int .i64 d.gid, .int .i64 d.mtime, .int .i64 d.ctime, .int .i64 d.links, .int .i64 d.up, .string d.data, .slice ea el ec] 170) = X at hRX hCX hDX hbX ⊢
  refine (HCk.out _).mono ?_
  rintro e w2 ⟨rfl, rfl⟩
  have HRX := Lib.hid hRX
  have HBX := Lib.hid hbX
  have HDX := Lib.hid hDX
  have HCX := Lib.hid hCX
  obtain ⟨rc, rf, rz⟩ := hRX.facts
  obtain ⟨dc, df, dz⟩ := hDX.facts
  obtain ⟨cc, -, -⟩ := hCX.facts
  clear hRX hbX hDX hCX
  by_cases h1 : d.kind = 1
  · have q1 : (d.kind == 1) = true := by simpa using h1
    have q2 : (d.kind != 1) = false := by simpa using h1
    by_cases h2 : ce = 0
    · have q3 : (ce != 0) = false := by simpa using h2
      cases my
      · have HE6 := Lib.hid (show pe = 6 by rw [HPl.out]; simp [h1, h2])
        clear h1 h2
        go_wp2_with fail
        refine (HNd.out _).mono ?_
        rintro e w5 ⟨rfl, hb5⟩
        have hRX5 := HRX.out.keep hb5
        have hBX5 := HBX.out.trans (hb5.mono HBX.out.size)
        have HRX5 := Lib.hid hRX5
        have HBX5 := Lib.hid hBX5
        clear rc rf rz dc df dz cc
        obtain ⟨rc, rf, rz⟩ := hRX5.facts
        clear hRX5 hBX5 hb5
        go_wp2_with fail
        exact bodyPost_ret (place_results (a := an0) HRX5.out.set12 rfl rfl) rfl ⟨.inl ⟨by rw [HE6.out]; decide, by rw [HE6.out]⟩, below_set12 HBX5.out (Nat.le_succ _)⟩
      · have HE0 := Lib.hid (show pe = 0 by rw [HPl.out]; simp [h1, h2])
        clear h1 h2
        go_wp2_with fail
        refine (HNd.out _).mono ?_
        rintro e w5 ⟨rfl, hb5⟩
        have hRX5 := HRX.out.keep hb5
        have hDX5 := HDX.out.keep hb5
        have hBX5 := HBX.out.trans (hb5.mono HBX.out.size)
        have HRX5 := Lib.hid hRX5
        have HBX5 := Lib.hid hBX5
        clear rc rf rz dc df dz cc
        obtain ⟨rc, rf, rz⟩ := hRX5.facts
        obtain ⟨dc, -, -⟩ := hDX5.facts
        clear hRX5 hBX5 hb5 hDX5
        go_wp2_with fail
        exact bodyPost_ret (place_results (a := d) (ea := ea) (el := el) (ec := ec) HRX5.out.set12 rfl rfl) rfl ⟨.inr ⟨HE0.out, ea, el, ec, rfl, HE.out⟩, below_set12 HBX5.out (Nat.le_succ _)⟩
    · have q3 : (ce != 0) = true := by simpa using h2
      have HEc := Lib.hid (show pe = ce ∧ ce ≠ 0 by refine ⟨?_, h2⟩; rw [HPl.out]; simp [h1, h2])
      clear h1 h2
      go_wp2_with fail
      exact bodyPost_ret (place_results (a := an0) HRX.out.set12 rfl rfl) rfl ⟨.inl ⟨by rw [HEc.out.1]; exact HEc.out.2, by rw [HEc.out.1]⟩, below_set12 HBX.out (Nat.le_succ _)⟩
  · have q2 : (d.kind != 1) = true := by simpa using h1
    have HE9 := Lib.hid (show pe = 9 by rw [HPl.out]; simp [h1])
    clear h1
    go_wp2_with fail
    exact bodyPost_ret (place_results (a := an0) HRX.out.set12 rfl rfl) rfl ⟨.inl ⟨by rw [HE9.out]; decide, by rw [HE9.out]⟩, below_set12 HBX.out (Nat.le_succ _)⟩
end

end Go.Proofs.YtkkiglagdojnlaaGreatDoor

/- A directory has other names (layer 17): Touch. -/
namespace Go.Proofs.YtkkiglagdojnlaaGreatDoor

open Go.RowKit

section

variable {w w' : World} {pw : Nat} {R : Rp} {S : Fs}

theorem body_panic {P : Program} {fn : Func} {R : Ending → World → Prop} : ∀ c d v a w, bodyPost P fn R (.panic c) (Act.put a d v) w → bodyPost P fn R (.panic c) a w :=
  fun c d v a w h => by
    have h' : (Act.put a d v).defers = [] ∧ R (.panicked c) w := h
    exact show a.defers = [] ∧ R (.panicked c) w from ⟨by rw [← h'.1]; cases d <;> rfl, h'.2⟩
set_option maxRecDepth 100000 in
set_option maxHeartbeats 2000000 in
theorem touch_any (h : WdAt w pw R S) (dir now : Int) (d : An) (hg : S.get dir = some d) (l : List En) (a : Option Addr) (n c : Nat) (hl : EntsAt w a n c l) :
    Calls Tryz.prog 148 #[.pointer (some ⟨pw, 0, none⟩), .int .i64 dir, .int .i64 now, .slice a n c] w fun e w' => e = .returned (.tuple #[]) ∧ ∃ R', WdAt w' pw R' (S.touch now dir l) ∧ Stp (R.F pw) (R'.F pw) w w' := by
  obtain ⟨ea, el, ec, he, hG⟩ := wget_fix h hg
  have HG := Lib.hid (hG w (Below.refl _ _))
  unfold An.v at HG
  have HT := Lib.hid (show S.touch now dir l = S.set { d with ents := l, mtime := now, ctime := now } by unfold Fs.touch; rw [hg])
  have hno := an_no hg
  have HSet := Lib.hid (fun w1 (hb1 : Below w.heap.size w w1) => (h.keep hb1).setN { d with ents := l, mtime := now, ctime := now } (hl.keep hb1) (b := d) (by rw [show ({ d with ents := l, mtime := now, ctime := now } : An).no = d.no from rfl, hno]; exact hg))
  unfold An.v at HSet
  obtain ⟨pc, -, pz⟩ := h.blk.facts
  have mixed : Tryz.prog.follows .mixedOrders = true := by kernel_rfl
  clear h hg he hG hno hl
  go_enter Tryz.func148, Tryz.ntmps148
  go_wp2_with fail
  refine HG.out.mono ?_
  rintro e w1 ⟨rfl, hb1⟩
  have pc0 : (w1.alloc (.cells #[.int .i64 d.no, .int .i64 d.dev, .int .i64 d.kind, .int .i64 d.mode, .int .i64 d.uid, .int .i64 d.gid, .int .i64 now, .int .i64 now, .int .i64 d.links, .int .i64 d.up, .string d.data, .slice a n c] 170)).cell? ⟨pw, 0, none⟩ = _ := ((balloc hb1 (.cells #[.int .i64 d.no, .int .i64 d.dev, .int .i64 d.kind, .int .i64 d.mode, .int .i64 d.uid, .int .i64 d.gid, .int .i64 now, .int .i64 now, .int .i64 d.links, .int .i64 d.up, .string d.data, .slice a n c] 170)).cell (p := ⟨pw, 0, none⟩) pz).trans (pc 0)
  have hB := Blk.new w1 #[.int .i64 d.no, .int .i64 d.dev, .int .i64 d.kind, .int .i64 d.mode, .int .i64 d.uid, .int .i64 d.gid, .int .i64 now, .int .i64 now, .int .i64 d.links, .int .i64 d.up, .string d.data, .slice a n c] 170
  have hbX := balloc hb1 (.cells #[.int .i64 d.no, .int .i64 d.dev, .int .i64 d.kind, .int .i64 d.mode, .int .i64 d.uid, .int .i64 d.gid, .int .i64 now, .int .i64 now, .int .i64 d.links, .int .i64 d.up, .string d.data, .slice a n c] 170)
  clear pc hb1
  go_wp2_with fail
  generalize w1.alloc (.cells #[.int .i64 d.no, .int .i64 d.dev, .int .i64 d.kind, .int .i64 d.mode, .int .i64 d.uid, .int .i64 d.gid, .int .i64 now, .int .i64 now, .int .i64 d.links, .int .i64 d.up, .string d.data, .slice a n c] 170) = X at pc0 hB hbX ⊢
  obtain ⟨bc, -, bz⟩ := hB.facts
  have HS := Lib.hid (HSet.out _ hbX.drew)
  have HX := Lib.hid hbX
  clear hB hbX
  refine wp_region_lex 5 mixed (by kernel_rfl) body_panic ?_
  simp only [List.take_succ_cons, List.take_zero, List.drop_succ_cons, List.drop_zero]
  repeat still_step
  refine wpStill_nil ?_
  go_wp2_with fail
  refine HS.out.mono ?_
  rintro e w5 ⟨rfl, R', hR1, hR2, -, -⟩
  have HR := Lib.hid (And.intro hR1 hR2)
  clear hR1 hR2
  go_wp2_with fail
  go_end0
  rw [HT.out]
  exact ⟨rfl, R', HR.out.1, (Stp.of_below HX.out.drew).trans HR.out.2⟩
end

end Go.Proofs.YtkkiglagdojnlaaGreatDoor
