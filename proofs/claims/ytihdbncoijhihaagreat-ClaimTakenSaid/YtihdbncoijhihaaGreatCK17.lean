/- Texts of the proof, part 17. -/
import Derived.Deep.CutBlock
import Derived.Deep.DeepCutAuto
import Derived.RegionTactic
import Derived.BigRegion
import Derived.Deep.QuietTactic
import Derived.BigQuiet
import Derived.WalkSmall
import Derived.Test.YtihdbncoijhihaaGreatCK16
import Derived.Test.YtihdbncoijhihaaGreatCK11
import Derived.Test.YtihdbncoijhihaaGreatCK6
import Derived.Test.YtihdbncoijhihaaGreatCK9
set_option linter.unusedVariables false
set_option linter.unusedSimpArgs false
/- The reference's tree (layer 14): Root, Over, root. -/
namespace Go.Proofs.YtihdbncoijhihaaGreat

open Go.RowKit

section

variable {w w' : World} {pf : Nat} {R : Rf} {S : Fs}

/-- a mount more. -/
theorem RfAt.appD (h : RfAt w pf R S) (hl : S.ds.length ≤ 1000) (ad : Addr) (y : Dv) (had : ∀ j u, (Dv.cs y)[j]? = some u → w.cell? (ad.add j) = some u) :
    ∃ g cap W, (Builtin.append_ #[44, 44] 44 #[R.dv, .slice (some ad) 1 1]).run Tryz.prog w = .ok (.slice (some ⟨g, 0, none⟩) (S.ds.length + 1) cap) W ∧
      RfAt (W.setCell ⟨pf, 1, none⟩ (.slice (some ⟨g, 0, none⟩) (S.ds.length + 1) cap)) pf { R with dv := .slice (some ⟨g, 0, none⟩) (S.ds.length + 1) cap } { S with ds := S.ds ++ [y] } ∧
      Stp (R.F pf) (Rf.F { R with dv := .slice (some ⟨g, 0, none⟩) (S.ds.length + 1) cap } pf) w (W.setCell ⟨pf, 1, none⟩ (.slice (some ⟨g, 0, none⟩) (S.ds.length + 1) cap)) ∧
      Blk W pf #[R.nv, R.dv, .int .i64 S.last, .int .i64 R.now, R.cnt, R.pl, R.dd] 46 ∧ Mod (fun k => R.dv.ownBlock = some k) w W := by
  obtain ⟨i0, hi, hz0, hz1, hz2⟩ := info_parts rdev_info
  obtain ⟨g, cap, W, h1, h2, h3, h4⟩ := step_app (44) Tryz.underlying44 hi hz0 hz1 hz2 rfl (by omega) h.devs ad 1 1 (Dv.cs y) rfl had (by intro u hu; simp [Dv.cs] at hu; rcases hu with rfl | rfl | rfl | rfl | rfl | rfl <;> rfl) (by omega) (by unfold maxLen; omega) (by omega) (Nat.zero_le _)
  have hM : Mod (R.F pf) w W := h3.mono (fun k hk => .inr (.inr hk))
  have hbW : Blk W pf #[R.nv, R.dv, .int .i64 S.last, .int .i64 R.now, R.cnt, R.pl, R.dd] 46 := h.blk.mod h3 (fun hk => by
    obtain ⟨-, hc⟩ := own_obj1 h.devs hk
    exact rf_apart hc h.blk (by decide) rfl)
  have hpg : pf ≠ g := by
    rintro rfl
    rcases h4 with h4 | h4
    · obtain ⟨-, hc⟩ := own_obj1 h.devs h4
      exact rf_apart hc h.blk (by decide) rfl
    · have := h.blk.lt; omega
  have hs2 : Stp (R.F pf) (R.F pf) w (W.setCell ⟨pf, 1, none⟩ (.slice (some ⟨g, 0, none⟩) (S.ds.length + 1) cap)) := Stp.of_mod (hM.setCell (.inl (.inl rfl)) _)
  have hmp : Mod (fun k => k = pf) W (W.setCell ⟨pf, 1, none⟩ (.slice (some ⟨g, 0, none⟩) (S.ds.length + 1) cap)) := (Mod.refl (fun k => k = pf) W).setCell (a := ⟨pf, 1, none⟩) (.inl rfl) _
  refine ⟨g, cap, W, h1, ⟨hbW.set 1 _, ?_, ?_, h.ns, fun x hx => (h.ents x hx).rf h hs2⟩, ⟨hs2.mod, fun k hk => ?_⟩, hbW, h3⟩
  · refine own_mod (own_mod h.nds h3 (fun k hk e => ?_)) hmp (fun k hk e => ?_)
    · obtain ⟨-, hc⟩ := own_obj1 h.devs hk
      obtain ⟨-, cur, hc2⟩ := own_obj1 h.nds e
      exact rf_apart hc (show Blk w k cur 49 from hc2) (by decide) rfl
    · obtain ⟨-, hc⟩ := own_obj1 h.nds e
      exact rf_apart hc h.blk (by decide) hk.symm
  · show World.ownsRow _ 0 229 6 _ (S.ds ++ [y]).length ((S.ds ++ [y]).flatMap Dv.cs)
    rw [List.length_append, List.length_singleton, List.flatMap_append, List.flatMap_singleton]
    refine own_mod h2 hmp (fun k hk e => ?_)
    subst hk
    simp only [Value.ownBlock, Option.some.injEq] at e
    exact hpg e.symm
  · rcases hk with hk | hk | hk
    · exact .inl (.inl hk)
    · exact .inl (.inr (.inl hk))
    · simp only [Value.ownBlock, Option.some.injEq] at hk
      subst hk
      rcases h4 with h4 | h4
      · exact .inl (.inr (.inr h4))
      · exact .inr (by omega)
set_option maxRecDepth 100000 in
set_option maxHeartbeats 1000000 in
theorem rroot_any (h : RfAt w pf R S) (d : Int) :
    Calls Tryz.prog 66 #[.pointer (some ⟨pf, 0, none⟩), .int .i64 d] w fun e w' => e = .returned (.int .i64 (S.root d)) ∧ w' = w := by
  obtain ⟨da, dc, hdv, hdc1, hdc2⟩ := h.dform
  obtain ⟨pc, -, pz⟩ := h.blk.facts
  by_cases h1 : 1 ≤ d
  · by_cases h2 : d ≤ S.ds.length
    · obtain ⟨k, rfl⟩ : ∃ k : Nat, d = (k : Int) + 1 := ⟨(d - 1).toNat, by omega⟩
      have hk : k < S.ds.length := by omega
      have hr : S.root ((k : Int) + 1) = S.ds[k].root := by
        unfold Fs.root
        rw [if_pos ⟨h1, h2⟩, show ((k : Int) + 1 - 1).toNat = k by omega, List.getElem?_eq_getElem hk]
      rw [hr]
      obtain ⟨g, cap, hdv, hle, h63, hg, hc, -, -⟩ := h.devF (by omega)
      rw [hdv] at pc
      have hcc := (hc _ hk).c0
      clear hc hr h
      generalize S.ds[k] = v at hcc ⊢
      generalize S.ds.length = n at pc hle h2 hk
      go_enter Tryz.func66, Tryz.ntmps66
      go_wp2
      go_ret
      exact ⟨rfl, rfl⟩
    · rw [root_no (by omega)]
      have h2' : (S.ds.length : Int) < d := by omega
      rw [hdv] at pc
      clear h
      generalize S.ds.length = n at pc h2 h2'
      go_enter Tryz.func66, Tryz.ntmps66
      go_wp2
      go_ret
      exact ⟨rfl, rfl⟩
  · rw [root_no (by omega)]
    have h1' : d < 1 := by omega
    clear h
    go_enter Tryz.func66, Tryz.ntmps66
    go_wp2
    go_ret
    exact ⟨rfl, rfl⟩
set_option maxRecDepth 100000 in
set_option maxHeartbeats 1000000 in
theorem rover_any (h : RfAt w pf R S) (no : Int) :
    Calls Tryz.prog 118 #[.pointer (some ⟨pf, 0, none⟩), .int .i64 no] w fun e w' => e = .returned (.int .i64 (S.over no)) ∧ w' = w := by
  have HW := Lib.hid h
  obtain ⟨da, dc, hdv, hdc1, hdc2⟩ := h.dform
  have HDv := Lib.hid hdv
  obtain ⟨pc, -, pz⟩ := h.blk.facts
  rw [hdv] at pc
  have HO1 := Lib.hid (fun h0 => over_at S no h0)
  have HO2 := Lib.hid (over_none S no)
  have HO3 := Lib.hid (show ¬ 0 < no → S.over no = no from fun h0 => by unfold Fs.over; rw [if_neg h0])
  obtain ⟨n, hn⟩ : ∃ n, S.ds.length = n := ⟨_, rfl⟩
  have HNn := Lib.hid hn
  rw [hn] at pc hdc1
  generalize S.over no = out at HO1 HO2 HO3 ⊢
  clear h hdv hn
  go_enter Tryz.func118, Tryz.ntmps118
  go_wp2_with fail
  go_loopw [5] (fun t5 wr => ∃ k : Nat, k ≤ n ∧ t5 = .int .i64 k ∧ (∀ j (hj : j < S.ds.length), j < k → 0 < no → S.ds[j].over ≠ no) ∧ wr = w) (fun t5 _ => n - (intOf t5).toNat)
  case atStart => exact ⟨0, Nat.zero_le _, rfl, fun j _ h => absurd h (Nat.not_lt_zero _), rfl⟩
  case round =>
    obtain ⟨k, hk, rfl, hno, rfl⟩ := hrel
    have HNo := Lib.hid hno
    clear hno
    by_cases hlt : k < n
    · have hkl : k < S.ds.length := by rw [HNn.out]; exact hlt
      obtain ⟨g, cap, hdv2, -, -, hg, hc, -, -⟩ := HW.out.devF (by omega)
      have he := HDv.out.symm.trans hdv2
      injection he with he1 he2 he3
      subst he1
      obtain ⟨c0, c1, -, -, -, -⟩ := hc k hkl
      have HOk := Lib.hid (fun h0 => HO1.out h0 k hkl)
      clear hc hdv2 he2 he3
      by_cases h0 : 0 < no
      · by_cases hq : S.ds[k].over = no
        · have HR := Lib.hid (HOk.out h0 (fun j hj hjk => HNo.out j hj hjk h0) hq)
          have hqb : (S.ds[k].over == no) = true := by simpa using hq
          generalize S.ds[k] = v at c0 c1 hqb HR
          clear hq
          go_wp2_with fail
          go_ret
          exact ⟨by rw [HR.out]; rfl, rfl⟩
        · have hqb : (S.ds[k].over == no) = false := by simpa using hq
          have HNo2 := Lib.hid (show ∀ j (hj : j < S.ds.length), j < k + 1 → 0 < no → S.ds[j].over ≠ no from fun j hj hjk h0 => by
            by_cases e : j = k
            · subst e; exact hq
            · exact HNo.out j hj (by omega) h0)
          generalize S.ds[k] = v at c0 c1 hqb
          clear hq
          go_wp2_with fail
          go_roundw
          case rel => exact ⟨k + 1, by omega, by go_num, HNo2.out, by trivial⟩
          case measure => simp [intOf]; omega
      · have HNo2 := Lib.hid (show ∀ j (hj : j < S.ds.length), j < k + 1 → 0 < no → S.ds[j].over ≠ no from fun j hj hjk h1 => absurd h1 h0)
        clear c0 c1
        go_wp2_with fail
        go_roundw
        case rel => exact ⟨k + 1, by omega, by go_num, HNo2.out, by trivial⟩
        case measure => simp [intOf]; omega
    · obtain rfl : k = n := by omega
      have HR := Lib.hid (show out = no by
        by_cases h0 : 0 < no
        · exact HO2.out (fun j hj => HNo.out j hj (by rw [← HNn.out]; exact hj) h0)
        · exact HO3.out (by omega))
      go_wp2_with fail
      go_ret
      exact ⟨by rw [HR.out]; rfl, rfl⟩
end

end Go.Proofs.YtihdbncoijhihaaGreat

/- The reference's tree (layer 14): a mount's root; New. -/
namespace Go.Proofs.YtihdbncoijhihaaGreat

open Go.RowKit

section

variable {w w' : World} {pf : Nat} {R : Rf} {S : Fs}

theorem addRoot_ref (S : Fs) (hn : Nums S) (over b n : Int) :
    { ((S.add (rootN S)).set { rootN S with no := S.last + 1, up := S.last + 1 }) with ds := S.ds ++ [⟨S.last + 1, over, 1, 1, b, n⟩] } = S.addRoot over b n := by
  unfold Fs.addRoot Fs.set Fs.add
  simp only [List.map_append, List.map_cons, List.map_nil]
  congr 1
  congr 1
  · conv => rhs; rw [← List.map_id S.ns]
    apply List.map_congr_left
    intro x hx
    have := hn.low x hx
    simp only [id_eq]
    rw [if_neg]
    simp; omega
  · simp [rootN]
set_option maxRecDepth 100000 in
set_option maxHeartbeats 4000000 in
theorem rrootN_any (h : RfAt w pf R S) (hn : Nums S) (hl0 : 0 ≤ S.last) (hl1 : S.last ≤ 100000) (hgl : S.ns.length ≤ 100000) (hd : S.ds.length ≤ 7) (over b n : Int) :
    Calls Tryz.prog 238 #[.pointer (some ⟨pf, 0, none⟩), .int .i64 over, .int .i64 b, .int .i64 n] w fun e w' => e = .returned (.int .i64 (S.last + 1)) ∧ ∃ R', RfAt w' pf R' (S.addRoot over b n) ∧ Stp (R.F pf) (R'.F pf) w w' ∧ Rf.Like R R' := by
  have hlen := h.len
  obtain ⟨da, dc, hdv, hdc1, hdc2⟩ := h.dform
  obtain ⟨pc, -, pz⟩ := h.blk.facts
  rw [hdv] at pc
  obtain ⟨m, hm⟩ : ∃ m, S.ds.length = m := ⟨_, rfl⟩
  have Hm := Lib.hid hm
  obtain ⟨S2, hS2⟩ : ∃ S2, S.add (rootN S) = S2 := ⟨_, rfl⟩
  obtain ⟨a5, ha5⟩ : ∃ a5 : An, { rootN S with no := S.last + 1 } = a5 := ⟨_, rfl⟩
  obtain ⟨a6, ha6⟩ : ∃ a6 : An, { rootN S with no := S.last + 1, up := S.last + 1 } = a6 := ⟨_, rfl⟩
  have HAdd := Lib.hid (show Calls Tryz.prog 270 #[.pointer (some ⟨pf, 0, none⟩), .agg #[.int .i64 0, .int .i64 ((m : Int) + 1), .int .i64 1, .int .i64 493, .int .i64 0, .int .i64 0, .int .i64 0, .int .i64 0, .int .i64 1, .int .i64 0, .string ByteArray.empty, .slice none 0 0]] w fun e w' => e = .returned (.int .i64 (S.last + 1)) ∧ ∃ R', RfAt w' pf R' S2 ∧ Stp (R.F pf) (R'.F pf) w w' ∧ Rf.Like R R' ∧ R'.dv = R.dv by
    rw [← hm, ← hS2]
    exact radd_any h (a := rootN S) (EntsAt.nil w) hl0 (by omega) (by omega))
  have HGet := Lib.hid (show S2.get (S.last + 1) = some a5 by rw [← hS2, ← ha5, an_add hn]; exact if_pos rfl)
  have HV5 := Lib.hid (fun (ea : Option Addr) (el ec : Nat) => show a5.v ea el ec = .agg #[.int .i64 (S.last + 1), .int .i64 ((m : Int) + 1), .int .i64 1, .int .i64 493, .int .i64 0, .int .i64 0, .int .i64 0, .int .i64 0, .int .i64 1, .int .i64 0, .string ByteArray.empty, .slice ea el ec] by rw [← ha5, ← hm]; rfl)
  have HV6 := Lib.hid (fun (ea : Option Addr) (el ec : Nat) => show a6.v ea el ec = .agg #[.int .i64 (S.last + 1), .int .i64 ((m : Int) + 1), .int .i64 1, .int .i64 493, .int .i64 0, .int .i64 0, .int .i64 0, .int .i64 0, .int .i64 1, .int .i64 (S.last + 1), .string ByteArray.empty, .slice ea el ec] by rw [← ha6, ← hm]; rfl)
  have HA6 := Lib.hid (show a6.no = S.last + 1 ∧ a6.ents = a5.ents by rw [← ha6, ← ha5]; exact ⟨rfl, rfl⟩)
  have HEq := Lib.hid (show { (S2.set a6) with ds := (S2.set a6).ds ++ [⟨S.last + 1, over, 1, 1, b, n⟩] } = S.addRoot over b n by rw [← hS2, ← ha6]; exact addRoot_ref S hn over b n)
  have HDk := Lib.hid (show (S2.set a6).ds.length = m by rw [← hS2, ← hm]; rfl)
  have HN2 := Lib.hid (show Nums S2 by rw [← hS2]; exact hn.add hl0 (rootN S))
  have hmm : (m : Int) ≤ 7 := by omega
  rw [hm] at pc
  clear h hm hS2 ha5 ha6 hlen hgl
  go_enter Tryz.func238, Tryz.ntmps238
  go_wp2_with fail
  refine HAdd.out.mono ?_
  rintro e w5 ⟨rfl, R5, hR1, hR2, hR3, hR4⟩
  have HR5 := Lib.hid (And.intro hR1 (And.intro hR2 (And.intro hR3 hR4)))
  obtain ⟨ea, el, ec, hE, hG⟩ := rget_yes hR1 HGet.out
  rw [HV5.out] at hG
  have HG := Lib.hid hG
  have HE := Lib.hid hE
  clear hR1 hR2 hR3 hR4 hG hE pc
  go_wp2_with fail
  refine HG.out.mono ?_
  rintro e w6 ⟨rfl, hb6⟩
  have hbX := balloc hb6 (.cells #[.int .i64 (S.last + 1), .int .i64 ((m : Int) + 1), .int .i64 1, .int .i64 493, .int .i64 0, .int .i64 0, .int .i64 0, .int .i64 0, .int .i64 1, .int .i64 (S.last + 1), .string ByteArray.empty, .slice ea el ec] 49)
  have HSet := Lib.hid (rset_any (HR5.out.1.keep hbX) HN2.out (a := a6) (ea := ea) (el := el) (ec := ec) (by rw [HA6.out.2]; exact HE.out.keep hbX) (b := a5) (by rw [HA6.out.1]; exact HGet.out))
  rw [HV6.out] at HSet
  have HB6 := Lib.hid hb6
  have HBX := Lib.hid hbX
  clear hb6 hbX
  go_wp2_with fail
  refine HSet.out.mono ?_
  rintro e w7 ⟨rfl, R7, hR7, hS7, hL7, hd7⟩
  obtain ⟨xc, xf, xz⟩ := hR7.blk.facts
  have hdv7 : R7.dv = .slice da m dc := by rw [hd7, HR5.out.2.2.2, hdv, Hm.out]
  rw [hdv7] at xc
  have hb8 : Below w7.heap.size w7 (w7.alloc (.cells #[.int .i64 (S.last + 1), .int .i64 over, .int .i64 1, .int .i64 1, .int .i64 b, .int .i64 n] 229)) := (Below.refl _ w7).alloc (Nat.le_refl _) _
  obtain ⟨g, cap, Y, hrun, hWY, hSY, hbY, hMY⟩ := (hR7.keep hb8).appD (by rw [HDk.out]; omega) ⟨w7.heap.size, 0, none⟩ ⟨S.last + 1, over, 1, 1, b, n⟩ (World.news_of_block (Blk.new w7 #[.int .i64 (S.last + 1), .int .i64 over, .int .i64 1, .int .i64 1, .int .i64 b, .int .i64 n] 229))
  obtain ⟨yc, yf, yz⟩ := hbY.facts
  rw [HDk.out, hdv7] at hrun
  rw [hdv7] at yc
  rw [HEq.out] at hWY
  rw [HDk.out] at hWY hSY
  have HF := Lib.hid (And.intro hWY (And.intro ((((HR5.out.2.1.trans (Stp.of_below HBX.out)).trans hS7).trans (Stp.of_below hb8)).trans hSY) (HR5.out.2.2.1.trans hL7)))
  have HR := Lib.hid hrun
  clear hR7 hS7 hL7 hd7 hb8 hWY hSY hbY hMY hrun
  go_wp2_with (at_builtin; refine wpList_app_run rfl rfl rfl rfl HR.out ?_)
  go_ret
  exact ⟨rfl, _, HF.out.1, HF.out.2.1, ⟨HF.out.2.2.now, HF.out.2.2.cnt, HF.out.2.2.pl, HF.out.2.2.dd⟩⟩
end

end Go.Proofs.YtihdbncoijhihaaGreat

/- The reference's tree (layer 14): New, Mount. -/
namespace Go.Proofs.YtihdbncoijhihaaGreat

open Go.RowKit

def rf0 : Rf := ⟨.slice none 0 0, .slice none 0 0, [], 0, .int .i64 0, .slice none 0 0, .bool false⟩
set_option maxRecDepth 100000 in
set_option maxHeartbeats 1000000 in
theorem rnew_any (b n : Int) (hlim : limB b n = true) (w : World) :
    Calls Tryz.prog 176 #[.int .i64 b, .int .i64 n] w fun e w' => ∃ pf R', e = .returned (.pointer (some ⟨pf, 0, none⟩)) ∧ RfAt w' pf R' (fs0.addRoot 0 b n) ∧ (∀ k, R'.F pf k → w.heap.size ≤ k) ∧ Rf.Like rf0 R' ∧ Below w.heap.size w w' := by
  have hb0 := (Below.refl _ w).alloc (Nat.le_refl _) (.cells #[.slice none 0 0, .slice none 0 0, .int .i64 0, .int .i64 0, .int .i64 0, .slice none 0 0, .bool false] 46)
  have h0 : RfAt (w.alloc (.cells #[.slice none 0 0, .slice none 0 0, .int .i64 0, .int .i64 0, .int .i64 0, .slice none 0 0, .bool false] 46)) w.heap.size rf0 fs0 :=
    ⟨Blk.new w _ _, World.ownsRow_nil _ _ _ _, World.ownsRow_nil _ _ _ _, rfl, fun g hg => by cases hg⟩
  have HRt := Lib.hid (rrootN_any h0 ⟨List.Pairwise.nil, fun x hx => by simp [fs0] at hx⟩ (by decide) (by decide) (by decide) (by decide) 0 b n)
  have HLm := Lib.hid (fun w => limits_any b n w)
  rw [hlim] at HLm
  have HB0 := Lib.hid hb0
  clear h0 hb0 hlim
  go_enter Tryz.func176, Tryz.ntmps176
  go_wp2_with fail
  refine (HLm.out _).mono ?_
  rintro e w1 ⟨rfl, rfl⟩
  go_wp2_with fail
  refine HRt.out.mono ?_
  rintro e w2 ⟨rfl, R', hR, hS, hL⟩
  have HX := Lib.hid (And.intro hR (And.intro hS hL))
  clear hR hS hL
  go_wp2_with fail
  go_ret
  have hF : ∀ k, rf0.F w.heap.size k → w.heap.size ≤ k := fun k hk => by
    rcases hk with rfl | hk | hk
    · exact Nat.le_refl _
    · cases hk
    · cases hk
  exact ⟨_, R', rfl, HX.out.1, HX.out.2.1.above hF (by simp), HX.out.2.2, HB0.out.trans (HX.out.2.1.below hF (by simp))⟩
section

variable {w w' : World} {pf : Nat} {R : Rf} {S : Fs}

set_option maxRecDepth 100000 in
set_option maxHeartbeats 4000000 in
theorem rmount_any (h : RfAt w pf R S) {N : Nat} (hk : FsOk S N) (hN : N ≤ 100000) (hgl : S.ns.length ≤ 100000) (no b n : Int) :
    Calls Tryz.prog 240 #[.pointer (some ⟨pf, 0, none⟩), .int .i64 no, .int .i64 b, .int .i64 n] w fun e w' => e = .returned (.tuple #[.int .i64 (S.mount no b n).2.1, .int .i64 (S.mount no b n).2.2]) ∧ ∃ R', RfAt w' pf R' (S.mount no b n).1 ∧ Stp (R.F pf) (R'.F pf) w w' ∧ Rf.Like R R' := by
  have hkeep : ∀ w2, Below w.heap.size w w2 → ∃ R', RfAt w2 pf R' S ∧ Stp (R.F pf) (R'.F pf) w w2 ∧ Rf.Like R R' := fun w2 hb => ⟨R, h.keep hb, Stp.of_below hb, Rf.Like.refl R⟩
  have HKp := Lib.hid hkeep
  have HW := Lib.hid h
  have HK := Lib.hid hk
  cases hg : S.get no with
  | none =>
    have HM := Lib.hid (show S.mount no b n = (S, 0, 5) by unfold Fs.mount; rw [hg])
    have HG := Lib.hid (rget_no h hg)
    unfold An.v an0 at HG
    clear h hk hg hkeep
    go_enter Tryz.func240, Tryz.ntmps240
    go_wp2_with fail
    refine HG.out.mono ?_
    rintro e w1 ⟨rfl, hb1⟩
    have HB := Lib.hid (balloc hb1 (.cells #[.int .i64 0, .int .i64 0, .int .i64 0, .int .i64 0, .int .i64 0, .int .i64 0, .int .i64 0, .int .i64 0, .int .i64 0, .int .i64 0, .string ByteArray.empty, .slice none 0 0] 49))
    clear hb1
    go_wp2_with fail
    go_ret2
    rw [HM.out]
    exact ⟨rfl, HKp.out _ HB.out⟩
  | some a =>
    obtain ⟨hao, hno, h1, -⟩ := hk.get hg
    obtain ⟨ea, el, ec, -, hgc⟩ := rget_yes h hg
    have HG := Lib.hid hgc
    unfold An.v at HG
    have hz : (a.no == 0) = false := by simp only [beq_eq_false_iff_ne, ne_eq]; omega
    have HM := Lib.hid (show S.mount no b n = if a.kind ≠ 1 then (S, 0, 9) else if S.over no ≠ no ∨ S.root a.dev = no then (S, 0, 16) else if 8 ≤ S.ds.length ∨ limB b n = false then (S, 0, 3) else (S.addRoot no b n, S.last + 1, 0) by unfold Fs.mount; rw [hg])
    have HRo := Lib.hid (fun w1 (hb1 : Below w.heap.size w w1) => rroot_any (h.keep hb1) a.dev)
    have HOv := Lib.hid (fun w1 (hb1 : Below w.heap.size w w1) => rover_any (h.keep hb1) no)
    have HLm := Lib.hid (fun w => limits_any b n w)
    obtain ⟨da, dc, hdv, hdc1, hdc2⟩ := h.dform
    obtain ⟨pc, -, pz⟩ := h.blk.facts
    rw [hdv] at pc
    generalize hov : S.over no = ov at HM HOv
    generalize hrt : S.root a.dev = rt at HM HRo
    have hb0 : ∀ w1, Below w.heap.size w w1 → Below w.heap.size w (w1.alloc (.cells #[.int .i64 a.no, .int .i64 a.dev, .int .i64 a.kind, .int .i64 a.mode, .int .i64 a.uid, .int .i64 a.gid, .int .i64 a.mtime, .int .i64 a.ctime, .int .i64 a.links, .int .i64 a.up, .string a.data, .slice ea el ec] 49)) := fun w1 hb => balloc hb _
    have HB0 := Lib.hid hb0
    have HRt := Lib.hid (fun w1 (hb1 : Below w.heap.size w w1) (hd : S.ds.length ≤ 7) => rrootN_any (h.keep hb1) hk.nums hk.l0 (by have := hk.lN; omega) hgl hd no b n)
    obtain ⟨m, hm⟩ : ∃ m, S.ds.length = m := ⟨_, rfl⟩
    rw [hm] at pc HM HRt
    clear h hk hg hgc hao hkeep hno hov hrt hdv hm hb0 h1 hdc1
    go_enter Tryz.func240, Tryz.ntmps240
    go_wp2_with fail
    refine HG.out.mono ?_
    rintro e w1 ⟨rfl, hb1⟩
    have hbX := HB0.out w1 hb1
    have hB1 := Blk.new w1 #[.int .i64 a.no, .int .i64 a.dev, .int .i64 a.kind, .int .i64 a.mode, .int .i64 a.uid, .int .i64 a.gid, .int .i64 a.mtime, .int .i64 a.ctime, .int .i64 a.links, .int .i64 a.up, .string a.data, .slice ea el ec] 49
    go_upto_region 2 with fail
    generalize w1.alloc (.cells #[.int .i64 a.no, .int .i64 a.dev, .int .i64 a.kind, .int .i64 a.mode, .int .i64 a.uid, .int .i64 a.gid, .int .i64 a.mtime, .int .i64 a.ctime, .int .i64 a.links, .int .i64 a.up, .string a.data, .slice ea el ec] 49) = X at hbX hB1 ⊢
    have HBX := Lib.hid hbX
    obtain ⟨qc, qf, qz⟩ := hB1.facts
    have pc2 := fun i => (hbX.cell (p := ⟨pf, i, none⟩) pz).trans (pc i)
    clear hb1 hbX hB1 pc
    by_cases h1 : a.kind = 1
    · have q1 : (a.kind == 1) = true := by simpa using h1
      have q2 : (a.kind != 1) = false := by simpa using h1
      have HM1 := Lib.hid (HM.out.trans (if_neg (by simpa using h1)))
      clear h1
      by_cases h2 : ov = no
      · by_cases h3 : rt = no
        · have HM2 := Lib.hid (HM1.out.trans (if_pos (.inr h3)))
          have q3 : (ov != no) = false := by simpa using h2
          have q4 : (rt == no) = true := by simpa using h3
          clear h2 h3
          go_wp2_with fail
          refine (HOv.out _ HBX.out).mono ?_
          rintro e w2 ⟨rfl, rfl⟩
          go_wp2_with fail
          refine (HRo.out _ HBX.out).mono ?_
          rintro e w2 ⟨rfl, rfl⟩
          go_wp2_with fail
          go_ret2
          rw [HM2.out]
          exact ⟨rfl, HKp.out _ HBX.out⟩
        · have HM2 := Lib.hid (HM1.out.trans (if_neg (by rintro (h | h); exact h h2; exact h3 h)))
          have q3 : (ov != no) = false := by simpa using h2
          have q4 : (rt == no) = false := by simpa using h3
          clear h2 h3
          by_cases h4 : 8 ≤ m
          · have HM3 := Lib.hid (HM2.out.trans (if_pos (.inl h4)))
            have q5 : (8 : Int) ≤ (m : Int) := by omega
            clear h4
            go_wp2_with fail
            refine (HOv.out _ HBX.out).mono ?_
            rintro e w2 ⟨rfl, rfl⟩
            go_wp2_with fail
            refine (HRo.out _ HBX.out).mono ?_
            rintro e w2 ⟨rfl, rfl⟩
            go_wp2_with fail
            go_ret2
            rw [HM3.out]
            exact ⟨rfl, HKp.out _ HBX.out⟩
          · have q5 : ¬ (8 : Int) ≤ (m : Int) := by omega
            have HM7 := Lib.hid (show m ≤ 7 by omega)
            cases hl : limB b n with
            | false =>
              have HM3 := Lib.hid (HM2.out.trans (if_pos (.inr hl)))
              rw [hl] at HLm
              clear h4 hl
              go_wp2_with fail
              refine (HOv.out _ HBX.out).mono ?_
              rintro e w2 ⟨rfl, rfl⟩
              go_wp2_with fail
              refine (HRo.out _ HBX.out).mono ?_
              rintro e w2 ⟨rfl, rfl⟩
              go_wp2_with fail
              refine (HLm.out _).mono ?_
              rintro e w2 ⟨rfl, rfl⟩
              go_wp2_with fail
              go_ret2
              rw [HM3.out]
              exact ⟨rfl, HKp.out _ HBX.out⟩
            | true =>
              have HM3 := Lib.hid (HM2.out.trans (if_neg (by rintro (h | h); exact h4 h; rw [hl] at h; cases h)))
              rw [hl] at HLm
              clear h4 hl
              go_wp2_with fail
              refine (HOv.out _ HBX.out).mono ?_
              rintro e w2 ⟨rfl, rfl⟩
              go_wp2_with fail
              refine (HRo.out _ HBX.out).mono ?_
              rintro e w2 ⟨rfl, rfl⟩
              go_wp2_with fail
              refine (HLm.out _).mono ?_
              rintro e w2 ⟨rfl, rfl⟩
              go_wp2_with fail
              refine (HRt.out _ HBX.out HM7.out).mono ?_
              rintro e w3 ⟨rfl, R', hR, hS, hL⟩
              have HF := Lib.hid (And.intro hR (And.intro ((Stp.of_below HBX.out).trans hS) hL))
              clear hR hS hL
              go_wp2_with fail
              go_ret2
              rw [HM3.out]
              exact ⟨rfl, R', HF.out.1, HF.out.2.1, HF.out.2.2⟩
      · have HM2 := Lib.hid (HM1.out.trans (if_pos (.inl h2)))
        have q3 : (ov != no) = true := by simpa using h2
        clear h2
        go_wp2_with fail
        refine (HOv.out _ HBX.out).mono ?_
        rintro e w2 ⟨rfl, rfl⟩
        go_wp2_with fail
        go_ret2
        rw [HM2.out]
        exact ⟨rfl, HKp.out _ HBX.out⟩
    · have q1 : (a.kind == 1) = false := by simpa using h1
      have q2 : (a.kind != 1) = true := by simpa using h1
      have HM1 := Lib.hid (HM.out.trans (if_pos (by simpa using h1)))
      clear h1
      go_wp2_with fail
      go_ret2
      rw [HM1.out]
      exact ⟨rfl, HKp.out _ HBX.out⟩
end

end Go.Proofs.YtihdbncoijhihaaGreat

/- The reference's tree (layer 14): Above. -/
namespace Go.Proofs.YtihdbncoijhihaaGreat

open Go.RowKit

section

variable {w w' : World} {pf : Nat} {R : Rf} {S : Fs}

set_option maxRecDepth 100000 in
set_option maxHeartbeats 4000000 in
theorem rabove_any (h : RfAt w pf R S) {N : Nat} (hk : FsOk S N) (no : Int) :
    Calls Tryz.prog 153 #[.pointer (some ⟨pf, 0, none⟩), .int .i64 no] w fun e w' => e = .returned (.int .i64 (S.above no)) ∧ Below w.heap.size w w' := by
  have mixed : Tryz.prog.follows .mixedOrders = true := by kernel_rfl
  cases hg : S.get no with
  | none =>
    have HA := Lib.hid (above_none hg)
    have HG := Lib.hid (rget_no h hg)
    unfold An.v an0 at HG
    clear h hk hg
    go_enter Tryz.func153, Tryz.ntmps153
    go_wp2_with fail
    refine HG.out.mono ?_
    rintro e w1 ⟨rfl, hb1⟩
    have HB := Lib.hid (balloc hb1 (.cells #[.int .i64 0, .int .i64 0, .int .i64 0, .int .i64 0, .int .i64 0, .int .i64 0, .int .i64 0, .int .i64 0, .int .i64 0, .int .i64 0, .string ByteArray.empty, .slice none 0 0] 49))
    clear hb1
    go_wp2_with fail
    go_ret
    rw [HA.out]
    exact ⟨rfl, HB.out⟩
  | some a =>
    obtain ⟨hao, hno, hn1, -⟩ := hk.get hg
    obtain ⟨ea, el, ec, -, hgc⟩ := rget_yes h hg
    have HG := Lib.hid hgc
    unfold An.v at HG
    have HA := Lib.hid (show S.above no = if a.kind ≠ 1 then 0 else if S.root a.dev = no ∧ 1 < a.dev then (match S.dev a.dev with | none => 0 | some v => match S.get v.over with | none => 0 | some b => b.up) else a.up by unfold Fs.above; rw [hg]; rfl)
    have HRo := Lib.hid (fun w1 (hb1 : Below w.heap.size w w1) => rroot_any (h.keep hb1) a.dev)
    have HB0 := Lib.hid (show ∀ w1, Below w.heap.size w w1 → Below w.heap.size w (w1.alloc (.cells #[.int .i64 a.no, .int .i64 a.dev, .int .i64 a.kind, .int .i64 a.mode, .int .i64 a.uid, .int .i64 a.gid, .int .i64 a.mtime, .int .i64 a.ctime, .int .i64 a.links, .int .i64 a.up, .string a.data, .slice ea el ec] 49)) from fun w1 hb => balloc hb _)
    obtain ⟨v, hv, hrv, -, -⟩ := root_of hk hao.dev.1 hao.dev.2
    obtain ⟨g, cap, hdv, hle, h63, hgl, hc, -, -⟩ := h.devF hk.d1
    obtain ⟨pc, -, pz⟩ := h.blk.facts
    rw [hdv] at pc
    obtain ⟨k, hkd⟩ : ∃ k : Nat, a.dev = (k : Int) + 1 := ⟨(a.dev - 1).toNat, by have := hao.dev.1; omega⟩
    have hkl : k < S.ds.length := by have := hao.dev.2; omega
    have hvk : S.ds[k] = v := by
      unfold Fs.dev at hv
      rw [if_pos (by omega), hkd, show ((k : Int) + 1 - 1).toNat = k by omega, List.getElem?_eq_getElem hkl] at hv
      simpa using hv
    have cc := (hc k hkl).c1
    rw [hvk] at cc
    rw [hv] at HA
    have HGv := Lib.hid (fun w1 (hb1 : Below w.heap.size w w1) => And.intro (fun (hgv : S.get v.over = none) => rget_no (h.keep hb1) hgv) (fun b (hgv : S.get v.over = some b) => rget_yes (h.keep hb1) hgv))
    have HGp := Lib.hid pc
    generalize hrt : S.root a.dev = rt at HA HRo
    have hkl2 : k < S.ds.length := hkl
    generalize S.ds.length = m at pc hle hkl2
    clear h hg hgc hao hrv hv hc hdv hvk hkl hrt hk hno HGp
    rw [hkd] at HG HRo HA HB0
    have hkm : (k : Int) + 1 ≤ (m : Int) := by omega
    go_enter Tryz.func153, Tryz.ntmps153
    go_wp2_with fail
    refine HG.out.mono ?_
    rintro e w1 ⟨rfl, hb1⟩
    have hbX := HB0.out w1 hb1
    have hB1 := Blk.new w1 #[.int .i64 a.no, .int .i64 ((k : Int) + 1), .int .i64 a.kind, .int .i64 a.mode, .int .i64 a.uid, .int .i64 a.gid, .int .i64 a.mtime, .int .i64 a.ctime, .int .i64 a.links, .int .i64 a.up, .string a.data, .slice ea el ec] 49
    go_upto_region 2 with fail
    generalize w1.alloc (.cells #[.int .i64 a.no, .int .i64 ((k : Int) + 1), .int .i64 a.kind, .int .i64 a.mode, .int .i64 a.uid, .int .i64 a.gid, .int .i64 a.mtime, .int .i64 a.ctime, .int .i64 a.links, .int .i64 a.up, .string a.data, .slice ea el ec] 49) = X at hbX hB1 ⊢
    have HBX := Lib.hid hbX
    have HB1 := Lib.hid hB1
    have hw1 := hb1.size
    obtain ⟨qc, qf, qz⟩ := hB1.facts
    have pc2 := fun i => (hbX.cell (p := ⟨pf, i, none⟩) pz).trans (pc i)
    have cc2 := (hbX.cell (p := ⟨g, k * 6 + 1, none⟩) hgl).trans cc
    have hgl2 : g < X.heap.size := Nat.lt_of_lt_of_le hgl hbX.size
    clear hb1 hbX hB1 pc cc
    by_cases h1 : a.kind = 1
    · have q1 : (a.kind == 1) = true := by simpa using h1
      have q2 : (a.kind != 1) = false := by simpa using h1
      have HA1 := Lib.hid (HA.out.trans (if_neg (by simpa using h1)))
      clear h1
      by_cases h2 : 1 < (k : Int) + 1
      · by_cases h3 : rt = no
        · have HA2 := Lib.hid (HA1.out.trans (if_pos ⟨h3, h2⟩))
          have q3 : (rt == no) = true := by simpa using h3
          clear h3
          go_wp2_with fail
          refine (HRo.out _ HBX.out).mono ?_
          rintro e w2 ⟨rfl, rfl⟩
          go_wp2_with fail
          have hwr1 : IntKind.i64.wrap ((k : Int) + 1 - 1) = (k : Int) := by simp [IntKind.wrap, IntKind.bits, IntKind.signed]; omega
          have hwr2 : IntKind.i64.wrap (k : Int) = (k : Int) := by simp [IntKind.wrap, IntKind.bits, IntKind.signed]; omega
          have hk0 : (0 : Int) ≤ (k : Int) ∧ (k : Int) < (m : Int) ∧ ((k : Int)).toNat = k := by omega
          obtain ⟨hk1, hk2, hk3⟩ := hk0
          refine wp_region_lex 11 mixed (by kernel_rfl) (show PanicOk _ from by repeat (first | exact pk_body | refine pk_then ?_ | refine pk_block ?_ | refine pk_scope ?_)) ?_
          simp only [List.take_succ_cons, List.take_zero, List.drop_succ_cons, List.drop_zero]
          repeat still_step
          refine wpStill_nil ?_
          cases hgv : S.get v.over with
          | none =>
            have HC := Lib.hid (((HGv.out _ HBX.out.drew).1 hgv))
            unfold An.v an0 at HC
            have HA3 := Lib.hid (show S.above no = 0 by rw [HA2.out, hgv])
            clear hgv qc qf qz pc2 cc2
            go_wp2_with fail
            refine HC.out.mono ?_
            rintro e w3 ⟨rfl, hb3⟩
            have hB3 := (HB1.out.drew).keep hb3
            obtain ⟨qc, qf, qz⟩ := hB3.facts
            have HB3 := Lib.hid (HBX.out.drew.trans (hb3.mono (by have := HBX.out.size; simpa using this)))
            clear hb3 hB3
            go_wp2_with fail
            go_ret
            rw [HA3.out]
            exact ⟨rfl, below_set12 HB3.out hw1⟩
          | some b =>
            obtain ⟨fa, fl, fc, -, hcb⟩ := (HGv.out _ HBX.out.drew).2 b hgv
            have HC := Lib.hid hcb
            unfold An.v at HC
            have HA3 := Lib.hid (show S.above no = b.up by rw [HA2.out, hgv])
            clear hgv hcb qc qf qz pc2 cc2
            go_wp2_with fail
            refine HC.out.mono ?_
            rintro e w3 ⟨rfl, hb3⟩
            have hB3 := (HB1.out.drew).keep hb3
            obtain ⟨qc, qf, qz⟩ := hB3.facts
            have HB3 := Lib.hid (HBX.out.drew.trans (hb3.mono (by have := HBX.out.size; simpa using this)))
            clear hb3 hB3
            go_wp2_with fail
            go_ret
            rw [HA3.out]
            exact ⟨rfl, below_set12 HB3.out hw1⟩
        · have HA2 := Lib.hid (HA1.out.trans (if_neg (fun h => h3 h.1)))
          have q3 : (rt == no) = false := by simpa using h3
          clear h3
          go_wp2_with fail
          refine (HRo.out _ HBX.out).mono ?_
          rintro e w2 ⟨rfl, rfl⟩
          go_wp2_with fail
          go_ret
          rw [HA2.out]
          exact ⟨rfl, HBX.out⟩
      · have HA2 := Lib.hid (HA1.out.trans (if_neg (fun h => h2 h.2)))
        go_wp2_with fail
        go_ret
        rw [HA2.out]
        exact ⟨rfl, HBX.out⟩
    · have q1 : (a.kind == 1) = false := by simpa using h1
      have q2 : (a.kind != 1) = true := by simpa using h1
      have HA1 := Lib.hid (HA.out.trans (if_pos (by simpa using h1)))
      clear h1
      go_wp2_with fail
      go_ret
      rw [HA1.out]
      exact ⟨rfl, HBX.out⟩
end

end Go.Proofs.YtihdbncoijhihaaGreat

/- The reference's tree (layer 14): Within, Busy. -/
namespace Go.Proofs.YtihdbncoijhihaaGreat

open Go.RowKit

section

variable {w w' : World} {pf : Nat} {R : Rf} {S : Fs}

end

end Go.Proofs.YtihdbncoijhihaaGreat

/- The reference's tree (layer 14): Where. -/
namespace Go.Proofs.YtihdbncoijhihaaGreat

open Go.RowKit

/-- what Where tells. -/
def whereV (o : Option ByteArray) : Value := .tuple #[.string (o.getD ByteArray.empty), .bool o.isSome]
def nmOf (l : List En) (no : Int) : ByteArray := (entName l no).getD ByteArray.empty
section

variable {w w' : World} {pf : Nat} {R : Rf} {S : Fs}

end

end Go.Proofs.YtihdbncoijhihaaGreat

/- Where directories lie (layer 14): ents.Name; Use, Within, Busy of a world. -/
namespace Go.Proofs.YtihdbncoijhihaaGreat

open Go.RowKit

theorem entName_drop {es : List En} {no : Int} {k : Nat} (hk : k < es.length) : entName (es.drop k) no = if es[k].no = no then some es[k].name else entName (es.drop (k + 1)) no := by
  rw [List.drop_eq_getElem_cons hk, entName_cons]
set_option maxRecDepth 100000 in
set_option maxHeartbeats 1000000 in
theorem ename_any (es : List En) (a : Option Addr) (n c : Nat) (no : Int) (w : World) (he : EntsAt w a n c es) :
    Calls Tryz.prog 183 #[.slice a n c, .int .i64 no] w fun e w' => e = .returned (whereV (entName es no)) ∧ Below w.heap.size w w' := by
  have hl := he.len
  subst hl
  have hc1 := he.sl.2.1
  have hc2 := he.sl.2.2.1
  have HE := Lib.hid he
  have HS := Lib.hid (show entName es no = entName (es.drop 0) no from rfl)
  generalize entName es no = out at HS ⊢
  clear he
  go_enter Tryz.func183, Tryz.ntmps183
  go_wp2_with fail
  go_loopw [10] (fun t10 wr => ∃ k : Nat, k ≤ es.length ∧ t10 = .int .i64 k ∧ out = entName (es.drop k) no ∧ Below w.heap.size w wr) (fun t10 _ => es.length - (intOf t10).toNat)
  case atStart => exact ⟨0, Nat.zero_le _, rfl, HS.out, Below.refl _ _⟩
  case round =>
    obtain ⟨k, hk, rfl, hf, hb⟩ := hrel
    by_cases hlt : k < es.length
    · have he2 := HE.out.keep hb
      obtain ⟨b, off, rfl, hbl⟩ := he2.some_of (by omega)
      obtain ⟨c0, c1⟩ := he2.cell k hlt
      rw [entName_drop hlt] at hf
      have HF := Lib.hid hf
      have HB := Lib.hid hb
      generalize es[k] = x at c0 c1 HF
      clear hf hb he2
      by_cases hx : x.no = no
      · have HR := Lib.hid (HF.out.trans (if_pos hx))
        have hq : (x.no == no) = true := by simpa using hx
        clear hx
        go_wp2_with fail
        go_ret2
        exact ⟨by rw [HR.out]; rfl, balloc HB.out _⟩
      · have HR := Lib.hid (HF.out.trans (if_neg hx))
        have hq : (x.no == no) = false := by simpa using hx
        clear hx
        go_wp2_with fail
        go_roundw
        case measure => simp [intOf]; omega
        case rel => exact ⟨k + 1, by omega, by go_num, HR.out, balloc HB.out _⟩
    · obtain rfl : k = es.length := by omega
      rw [List.drop_length] at hf
      have HR := Lib.hid (show out = none from hf)
      have HB := Lib.hid hb
      clear hf hb
      go_wp2_with fail
      go_ret2
      exact ⟨by rw [HR.out]; rfl, HB.out⟩
section

variable {w w' : World} {pw : Nat} {R : Rp} {S : Fs}

/-- what a mount uses. -/
def useV (S : Fs) (d : Int) : Value := match S.dev d with
  | some v => .agg #[.int .i64 v.b, .int .i64 v.n, .int .i64 v.mb, .int .i64 v.mn]
  | none => .agg #[.int .i64 0, .int .i64 0, .int .i64 0, .int .i64 0]
end

end Go.Proofs.YtihdbncoijhihaaGreat
