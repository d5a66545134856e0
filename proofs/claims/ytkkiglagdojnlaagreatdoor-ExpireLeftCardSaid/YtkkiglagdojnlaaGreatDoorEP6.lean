/- Texts of the proof, part 6. -/
import Derived.Deep.CutBlock
import Derived.Deep.DeepCutAuto
import Derived.RegionTactic
import Derived.BigRegion
import Derived.Deep.LoopGhost
import Derived.Test.YtkkiglagdojnlaaGreatDoorEP5
import Derived.Test.YtkkiglagdojnlaaGreatDoorEP4
set_option linter.unusedVariables false
set_option linter.unusedSimpArgs false
/- Mounts (layer 14): Over, Above; a node's look-up in a world. -/
namespace Go.Proofs.YtkkiglagdojnlaaGreatDoor

open Go.RowKit

section

variable {w w' : World} {pw : Nat} {R : Rp} {S : Fs}

theorem G_of (h : WdAt w pw R S) {k : Int} {a : An} (hg : S.get k = some a) : ∃ g ∈ R.G, g.a = a ∧ findNd (R.G.map Gn.e) k = some g.nd ∧ EntsAt w g.ea g.el g.ec a.ents := by
  rw [get_G h] at hg
  cases hf : R.G.find? (fun g => g.a.no == k) with
  | none => rw [hf] at hg; cases hg
  | some g =>
    rw [hf] at hg
    simp only [Option.map_some, Option.some.injEq] at hg
    have hm := List.mem_of_find?_eq_some hf
    refine ⟨g, hm, hg, ?_, ?_⟩
    · rw [findNd_G, hf]; rfl
    · rw [← hg]; exact h.ents g hm
theorem G_no (h : WdAt w pw R S) {k : Int} (hg : S.get k = none) : findNd (R.G.map Gn.e) k = none := by
  rw [get_G h] at hg
  rw [findNd_G]
  cases hf : R.G.find? (fun g => g.a.no == k) with
  | none => rfl
  | some g => rw [hf] at hg; cases hg
/-- Get, where the node is there. -/
theorem wget_yes (h : WdAt w pw R S) {k : Int} {a : An} (hg : S.get k = some a) : ∃ ea el ec, EntsAt w ea el ec a.ents ∧
    Calls Tryz.prog 144 #[.pointer (some ⟨R.pt, 0, none⟩), .int .i64 k] w fun e w' => e = .returned (.tuple #[a.v ea el ec, .bool true]) ∧ Below w.heap.size w w' := by
  obtain ⟨g, -, rfl, hf, he⟩ := G_of h hg
  exact ⟨g.ea, g.el, g.ec, he, get_yes g.nd k w R.pt R.pm S.last _ R.clk h.tab hf⟩
theorem wget_no (h : WdAt w pw R S) {k : Int} (hg : S.get k = none) :
    Calls Tryz.prog 144 #[.pointer (some ⟨R.pt, 0, none⟩), .int .i64 k] w fun e w' => e = .returned (.tuple #[an0.v none 0 0, .bool false]) ∧ Below w.heap.size w w' :=
  get_no k w R.pt R.pm S.last _ R.clk h.tab (G_no h hg)

theorem over_at (S : Fs) (k : Int) (hk : 0 < k) (i : Nat) (hi : i < S.ds.length) (h1 : ∀ j (hj : j < S.ds.length), j < i → S.ds[j].over ≠ k) (h2 : S.ds[i].over = k) : S.over k = S.ds[i].root := by
  unfold Fs.over
  rw [if_pos hk]
  have : S.ds.find? (fun d => d.over == k) = some S.ds[i] := by
    rw [List.find?_eq_some_iff_getElem]
    exact ⟨by simpa using h2, i, hi, rfl, fun j hj => by simpa using h1 j (by omega) hj⟩
  rw [this]
theorem over_none (S : Fs) (k : Int) (h1 : ∀ j (hj : j < S.ds.length), S.ds[j].over ≠ k) : S.over k = k := by
  unfold Fs.over
  split
  · have : S.ds.find? (fun d => d.over == k) = none := by
      rw [List.find?_eq_none]
      intro d hd
      obtain ⟨j, hj, rfl⟩ := List.mem_iff_getElem.1 hd
      simpa using h1 j hj
    rw [this]
  · rfl
set_option maxRecDepth 100000 in
set_option maxHeartbeats 1000000 in
theorem wover_any (h : WdAt w pw R S) (hd : 0 < S.ds.length) (no : Int) :
    Calls Tryz.prog 134 #[.pointer (some ⟨pw, 0, none⟩), .int .i64 no] w fun e w' => e = .returned (.int .i64 (S.over no)) ∧ Below w.heap.size w w' := by
  have HN := Lib.hid (wnone_any h hd)
  obtain ⟨g, cap, hv, hle, h63, hg, hc, -, -⟩ := h.devF hd
  obtain ⟨pc, -, -⟩ := h.blk.facts
  rw [hv] at pc
  have HC := Lib.hid hc
  clear h hv hc
  by_cases h0 : 0 < no
  · have HO1 := Lib.hid (over_at S no h0)
    have HO2 := Lib.hid (over_none S no)
    obtain ⟨n, hn⟩ : ∃ n, S.ds.length = n := ⟨_, rfl⟩
    have HNn := Lib.hid hn
    rw [hn] at pc hle hd
    generalize S.over no = out at HO1 HO2 ⊢
    clear hn
    go_enter Tryz.func134, Tryz.ntmps134
    go_wp2_with fail
    refine HN.out.mono ?_
    rintro e w1 ⟨rfl, rfl⟩
    go_wp2_with fail
    go_loopw [19] (fun i wr => ∃ k : Nat, k ≤ n ∧ i = .int .i64 k ∧ (∀ j (hj : j < S.ds.length), j < k → S.ds[j].over ≠ no) ∧ Below w.heap.size w wr) (fun i _ => n - (intOf i).toNat)
    case atStart => exact ⟨0, Nat.zero_le _, rfl, fun j _ h => absurd h (Nat.not_lt_zero _), Below.refl _ _⟩
    case round =>
      obtain ⟨k, hk, rfl, hno, hB⟩ := hrel
      have HNo := Lib.hid hno
      have HB := Lib.hid hB
      clear hno hB
      by_cases hlt : k < n
      · have hkl : k < S.ds.length := by rw [HNn.out]; exact hlt
        obtain ⟨c0, c1, c2, c3, c4, c5⟩ := HC.out k hkl
        rw [← HB.out.cell (p := ⟨g, k * 6, none⟩) hg] at c0
        rw [← HB.out.cell (p := ⟨g, k * 6 + 1, none⟩) hg] at c1
        rw [← HB.out.cell (p := ⟨g, k * 6 + 2, none⟩) hg] at c2
        rw [← HB.out.cell (p := ⟨g, k * 6 + 3, none⟩) hg] at c3
        rw [← HB.out.cell (p := ⟨g, k * 6 + 4, none⟩) hg] at c4
        rw [← HB.out.cell (p := ⟨g, k * 6 + 5, none⟩) hg] at c5
        by_cases hov : S.ds[k].over = no
        · have HE := Lib.hid (HO1.out k hkl HNo.out hov)
          have hq : (S.ds[k].over == no) = true := by simpa using hov
          clear hov
          generalize S.ds[k] = v at c0 c1 c2 c3 c4 c5 hq HE
          go_wp2_with fail
          go_ret
          exact ⟨by rw [HE.out]; rfl, balloc HB.out _⟩
        · have hq : (S.ds[k].over == no) = false := by simpa using hov
          have HNo2 := Lib.hid (show ∀ j (hj : j < S.ds.length), j < k + 1 → S.ds[j].over ≠ no from fun j hj hjk => by
            by_cases e : j = k
            · subst e; exact hov
            · exact HNo.out j hj (by omega))
          clear hov
          generalize S.ds[k] = v at c0 c1 c2 c3 c4 c5 hq
          go_wp2_with fail
          go_roundw
          case rel => exact ⟨k + 1, by omega, by go_num, HNo2.out, balloc HB.out _⟩
          case measure => simp [intOf]; omega
      · obtain rfl : k = n := by omega
        have HE := Lib.hid (HO2.out (fun j hj => HNo.out j hj (by rw [← HNn.out]; exact hj)))
        go_wp2_with fail
        go_ret
        exact ⟨by rw [HE.out]; rfl, HB.out⟩
  · have hO : S.over no = no := by unfold Fs.over; rw [if_neg h0]
    rw [hO]
    generalize S.ds.length = n at pc hle hd
    go_enter Tryz.func134, Tryz.ntmps134
    go_wp2_with fail
    refine HN.out.mono ?_
    rintro e w1 ⟨rfl, rfl⟩
    go_wp2_with fail
    go_ret
    exact ⟨rfl, Below.refl _ _⟩

set_option maxRecDepth 100000 in
set_option maxHeartbeats 1000000 in
theorem wabove_any (h : WdAt w pw R S) {N : Nat} (hk : FsOk S N) (no : Int) :
    Calls Tryz.prog 188 #[.pointer (some ⟨pw, 0, none⟩), .int .i64 no] w fun e w' => e = .returned (.int .i64 (S.above no)) ∧ Below w.heap.size w w' := by
  have HW := Lib.hid h
  have HK := Lib.hid hk
  have HN := Lib.hid (wnone_any h hk.d1)
  obtain ⟨pc, -, -⟩ := h.blk.facts
  have mixed : Tryz.prog.follows .mixedOrders = true := by kernel_rfl
  cases hg : S.get no with
  | none =>
    have HA := Lib.hid (show S.above no = 0 by unfold Fs.above; rw [hg])
    have HG := Lib.hid (wget_no h hg)
    unfold An.v an0 at HG
    clear h hk hg
    go_enter Tryz.func188, Tryz.ntmps188
    go_wp2_with fail
    refine HN.out.mono ?_
    rintro e w1 ⟨rfl, rfl⟩
    go_wp2_with fail
    refine HG.out.mono ?_
    rintro e w1 ⟨rfl, hb1⟩
    go_wp2_with fail
    go_ret
    exact ⟨by rw [HA.out]; rfl, balloc hb1 _⟩
  | some a =>
    obtain ⟨hao, -, h1, -⟩ := hk.get hg
    obtain ⟨ea, el, ec, -, hgc⟩ := wget_yes h hg
    have HG := Lib.hid hgc
    unfold An.v at HG
    by_cases hkd : a.kind = 1
    · by_cases hr : S.root a.dev = no ∧ 1 < a.dev
      · obtain ⟨v, hv, hrv, -, -⟩ := root_of hk hao.dev.1 hao.dev.2
        obtain ⟨g, cap, hdv, hle, h63, hgl, hc, -, -⟩ := h.devF hk.d1
        rw [hdv] at pc
        obtain ⟨k, hkd2⟩ : ∃ k : Nat, a.dev = (k : Int) + 1 := ⟨(a.dev - 1).toNat, by have := hao.dev.1; omega⟩
        have hkl : k < S.ds.length := by have := hao.dev.2; omega
        have hvk : S.ds[k] = v := by
          unfold Fs.dev at hv
          rw [if_pos (by omega), hkd2, show ((k : Int) + 1 - 1).toNat = k by omega, List.getElem?_eq_getElem hkl] at hv
          simpa using hv
        have cc := (hc k hkl).c1
        rw [hvk] at cc
        have hrt : S.root a.dev = no := hr.1
        have HR := Lib.hid (fun w1 (hb1 : Below w.heap.size w w1) => wroot_any (h.keep hb1) hk.d1 a.dev)
        rw [hrt] at HR
        have HA := Lib.hid (show S.above no = (match S.get v.over with | none => 0 | some b => b.up) by
          unfold Fs.above
          rw [hg]
          simp only
          rw [if_neg (by simpa using hkd), if_pos hr, hv]
          rfl)
        have h3 : 1 < a.dev := hr.2
        have hgd := hao.dev.1
        have hpz := h.blk.lt
        rw [hkd2] at h3 HG HR
        obtain ⟨n, hn⟩ : ∃ n, S.ds.length = n := ⟨_, rfl⟩
        rw [hn] at pc hle
        have hkn : k < n := by omega
        have hk1 : (a.kind == 1) = true := by simpa using hkd
        have hk2 : (a.kind != 1) = false := by simpa using hkd
        have HD := Lib.hid (fun w1 (hb1 : Below w.heap.size w w1) => And.intro (fun (hgv : S.get v.over = none) => wget_no (h.keep hb1) hgv) (fun b (hgv : S.get v.over = some b) => wget_yes (h.keep hb1) hgv))
        clear h hk hg hao hgc hc hv hrv hr hrt hdv hvk hn hkd2 hgd hkl hkd
        go_enter Tryz.func188, Tryz.ntmps188
        go_wp2_with fail
        refine HN.out.mono ?_
        rintro e w1 ⟨rfl, rfl⟩
        go_wp2_with fail
        refine HG.out.mono ?_
        rintro e w1 ⟨rfl, hb1⟩
        have B1 := Blk.new w1 #[.int .i64 a.no, .int .i64 ((k : Int) + 1), .int .i64 a.kind, .int .i64 a.mode, .int .i64 a.uid, .int .i64 a.gid, .int .i64 a.mtime, .int .i64 a.ctime, .int .i64 a.links, .int .i64 a.up, .string a.data, .slice ea el ec] 170
        have hb2 := balloc hb1 (.cells #[.int .i64 a.no, .int .i64 ((k : Int) + 1), .int .i64 a.kind, .int .i64 a.mode, .int .i64 a.uid, .int .i64 a.gid, .int .i64 a.mtime, .int .i64 a.ctime, .int .i64 a.links, .int .i64 a.up, .string a.data, .slice ea el ec] 170)
        have hr1 := HR.out _ hb2
        go_wp2_with fail
        refine hr1.mono ?_
        rintro e w2 ⟨rfl, rfl⟩
        generalize w1.alloc (.cells #[.int .i64 a.no, .int .i64 ((k : Int) + 1), .int .i64 a.kind, .int .i64 a.mode, .int .i64 a.uid, .int .i64 a.gid, .int .i64 a.mtime, .int .i64 a.ctime, .int .i64 a.links, .int .i64 a.up, .string a.data, .slice ea el ec] 170) = W at B1 hb2 hr1 ⊢
        have hBn := hb1.size
        generalize w1.heap.size = Bn at B1 hBn ⊢
        obtain ⟨bc, bf, bz⟩ := B1.facts
        rw [← hb2.cell (p := ⟨g, k * 6 + 1, none⟩) hgl] at cc
        have HP1 := Lib.hid (hb2.cell (p := ⟨pw, 0, none⟩) hpz)
        have pc0 : W.cell? ⟨pw, 0, none⟩ = _ := (hb2.cell (p := ⟨pw, 0, none⟩) hpz).trans (pc 0)
        have pc1 : W.cell? ⟨pw, 1, none⟩ = _ := (hb2.cell (p := ⟨pw, 1, none⟩) hpz).trans (pc 1)
        go_wp2_with fail
        have hw1 : IntKind.i64.wrap ((k : Int) + 1 - 1) = (k : Int) := by rw [IntKind.wrap_i64]; omega
        have hw2 : IntKind.i64.wrap (k : Int) = (k : Int) := by rw [IntKind.wrap_i64]; omega
        have hb3 : (k : Int) < (n : Int) := by omega
        have hb4 : (0 : Int) ≤ (k : Int) := by omega
        refine wp_region_lex 14 mixed (by kernel_rfl) then_panic ?_
        simp only [List.take_succ_cons, List.take_zero, List.drop_succ_cons, List.drop_zero]
        repeat still_step
        refine wpStill_nil ?_
        cases hgv : S.get v.over with
        | none =>
          rw [hgv] at HA
          have HC := Lib.hid (((HD.out W.drew hb2.drew).1 hgv))
          unfold An.v an0 at HC
          clear hgv HD
          go_wp2_with fail
          refine HC.out.mono ?_
          rintro e w2 ⟨rfl, hb3⟩
          obtain ⟨bc3, bf3, bz3⟩ := (B1.drew.keep hb3).facts
          have hb4 := bnext hb2.drew hb3
          go_wp2_with fail
          go_ret
          exact ⟨by rw [HA.out]; rfl, by (repeat (refine Below.setCell ?_ hBn _)); exact hb4⟩
        | some b =>
          rw [hgv] at HA
          obtain ⟨ea2, el2, ec2, -, hgc2⟩ := (HD.out W.drew hb2.drew).2 b hgv
          have HC := Lib.hid hgc2
          unfold An.v at HC
          clear hgv HD hgc2
          go_wp2_with fail
          refine HC.out.mono ?_
          rintro e w2 ⟨rfl, hb3⟩
          obtain ⟨bc3, bf3, bz3⟩ := (B1.drew.keep hb3).facts
          have hb4 := bnext hb2.drew hb3
          go_wp2_with fail
          go_ret
          exact ⟨by rw [HA.out]; rfl, by (repeat (refine Below.setCell ?_ hBn _)); exact hb4⟩
      · have HA := Lib.hid (show S.above no = a.up by unfold Fs.above; rw [hg]; simp only; rw [if_neg (by simpa using hkd), if_neg hr])
        have HR := Lib.hid (fun w1 (hb1 : Below w.heap.size w w1) => wroot_any (h.keep hb1) hk.d1 a.dev)
        have hk1 : (a.kind == 1) = true := by simpa using hkd
        have hk2 : (a.kind != 1) = false := by simpa using hkd
        clear h hk hg hao hgc hkd
        obtain ⟨rt, hrt⟩ : ∃ rt, S.root a.dev = rt := ⟨_, rfl⟩
        rw [hrt] at HR hr
        by_cases h2 : rt = no
        · have h3 : ¬ 1 < a.dev := fun h3 => hr ⟨h2, h3⟩
          have h4 : (rt == no) = true := by simpa using h2
          clear hr h2 hrt
          go_enter Tryz.func188, Tryz.ntmps188
          go_wp2_with fail
          refine HN.out.mono ?_
          rintro e w1 ⟨rfl, rfl⟩
          go_wp2_with fail
          refine HG.out.mono ?_
          rintro e w1 ⟨rfl, hb1⟩
          have hr1 := HR.out _ (balloc hb1 (.cells #[.int .i64 a.no, .int .i64 a.dev, .int .i64 a.kind, .int .i64 a.mode, .int .i64 a.uid, .int .i64 a.gid, .int .i64 a.mtime, .int .i64 a.ctime, .int .i64 a.links, .int .i64 a.up, .string a.data, .slice ea el ec] 170))
          go_wp2_with fail
          refine hr1.mono ?_
          rintro e w2 ⟨rfl, rfl⟩
          go_wp2_with fail
          go_ret
          exact ⟨by rw [HA.out]; rfl, balloc hb1 _⟩
        · have h4 : (rt == no) = false := by simpa using h2
          clear hr h2 hrt
          go_enter Tryz.func188, Tryz.ntmps188
          go_wp2_with fail
          refine HN.out.mono ?_
          rintro e w1 ⟨rfl, rfl⟩
          go_wp2_with fail
          refine HG.out.mono ?_
          rintro e w1 ⟨rfl, hb1⟩
          have hr1 := HR.out _ (balloc hb1 (.cells #[.int .i64 a.no, .int .i64 a.dev, .int .i64 a.kind, .int .i64 a.mode, .int .i64 a.uid, .int .i64 a.gid, .int .i64 a.mtime, .int .i64 a.ctime, .int .i64 a.links, .int .i64 a.up, .string a.data, .slice ea el ec] 170))
          go_wp2_with fail
          refine hr1.mono ?_
          rintro e w2 ⟨rfl, rfl⟩
          go_wp2_with fail
          go_ret
          exact ⟨by rw [HA.out]; rfl, balloc hb1 _⟩
    · have HA := Lib.hid (show S.above no = 0 by unfold Fs.above; rw [hg]; simp only; rw [if_pos hkd])
      clear h hk hg hao hgc
      go_enter Tryz.func188, Tryz.ntmps188
      go_wp2_with fail
      refine HN.out.mono ?_
      rintro e w1 ⟨rfl, rfl⟩
      go_wp2_with fail
      refine HG.out.mono ?_
      rintro e w1 ⟨rfl, hb1⟩
      go_wp2_with fail
      go_ret
      exact ⟨by rw [HA.out]; rfl, balloc hb1 _⟩
end

end Go.Proofs.YtkkiglagdojnlaaGreatDoor

/- Mounts (layer 14): Make. -/
namespace Go.Proofs.YtkkiglagdojnlaaGreatDoor

open Go.RowKit

/-- one cell of an own row. -/
theorem own_cell1 {w : World} {base sz n g cap : Nat} {e : TypeId} {xs : List Value} (h : w.ownsRow base e sz (.slice (some ⟨g, 0, none⟩) n cap) n xs) (j : Nat) (hj : j < xs.length) (v : Value) :
    (w.setCell ⟨g, j, none⟩ v).ownsRow base e sz (.slice (some ⟨g, 0, none⟩) n cap) n (xs.set j v) := by
  rcases h.2 with ⟨hv, -⟩ | ⟨g', cap', cur, hv, hb, hg, h1, h2, h3, h4⟩
  · cases hv
  · injection hv with e1 e2 e3
    injection e1 with e1
    injection e1 with e1
    subst e1 e3
    refine ⟨by rw [List.length_set]; exact h.1, .inr ⟨g, cap, _, rfl, hb, Blk.set hg j v, h1, h2, by rw [Array.size_setIfInBounds]; exact h3, ?_⟩⟩
    rw [Array.toList_setIfInBounds, List.take_set, h4]
section

variable {w w' : World} {pw : Nat} {R : Rp} {S : Fs}

theorem flat_len' (ds : List Dv) : (ds.flatMap Dv.cs).length = ds.length * 6 := flat_len Dv.cs_len ds
/-- a mount uses more, or less. -/
theorem WdAt.setQ (h : WdAt w pw R S) {g cap : Nat} (hdv : R.dv = .slice (some ⟨g, 0, none⟩) S.ds.length cap) {k : Nat} (hk : k < S.ds.length) (v : Dv) (hv : S.ds[k] = v) (b n : Int) :
    WdAt ((((w.setCell ⟨g, k * 6 + 2, none⟩ (.int .i64 b)).setCell ⟨g, k * 6 + 3, none⟩ (.int .i64 n)).setCell ⟨g, k * 6 + 4, none⟩ (.int .i64 v.mb)).setCell ⟨g, k * 6 + 5, none⟩ (.int .i64 v.mn)) pw R
      (S.setDev ((k : Int) + 1) { v with b := b, n := n }) ∧
    Mod (fun x => x = g) w ((((w.setCell ⟨g, k * 6 + 2, none⟩ (.int .i64 b)).setCell ⟨g, k * 6 + 3, none⟩ (.int .i64 n)).setCell ⟨g, k * 6 + 4, none⟩ (.int .i64 v.mb)).setCell ⟨g, k * 6 + 5, none⟩ (.int .i64 v.mn)) := by
  have hm : Mod (fun x => x = g) w ((((w.setCell ⟨g, k * 6 + 2, none⟩ (.int .i64 b)).setCell ⟨g, k * 6 + 3, none⟩ (.int .i64 n)).setCell ⟨g, k * 6 + 4, none⟩ (.int .i64 v.mb)).setCell ⟨g, k * 6 + 5, none⟩ (.int .i64 v.mn)) :=
    ((((Mod.refl (fun x => x = g) w).setCell (a := ⟨g, k * 6 + 2, none⟩) (.inl rfl) _).setCell (a := ⟨g, k * 6 + 3, none⟩) (.inl rfl) _).setCell (a := ⟨g, k * 6 + 4, none⟩) (.inl rfl) _).setCell (a := ⟨g, k * 6 + 5, none⟩) (.inl rfl) _
  refine ⟨?_, hm⟩
  obtain ⟨g', cap', hdv', -, -, -, -, -, cur, hcur⟩ := h.devF (by omega)
  have e := hdv.symm.trans hdv'
  injection e with e
  injection e with e
  injection e with e
  subst e
  have hne : ∀ (x : Nat) (vs : Array Value) (T : TypeId), Blk w x vs T → T ≠ 226 → x ≠ g := by
    rintro x vs T hx hT rfl
    unfold Blk at hx hcur
    rw [hcur] at hx
    injection hx with hx
    injection hx with _ hx
    exact hT hx.symm
  have h1 := hne _ _ _ h.blk (by decide)
  have h2 := hne _ _ _ h.tab.blk (by decide)
  have h3 : R.pm ≠ g := by
    rintro e
    have hm := h.tab.map
    unfold MapB at hm
    rw [e] at hm
    unfold Blk at hcur
    rw [hcur] at hm
    cases hm
  have hl : (S.setDev ((k : Int) + 1) { v with b := b, n := n }).ds = S.ds.set k { v with b := b, n := n } := by
    unfold Fs.setDev
    rw [show ((k : Int) + 1 - 1).toNat = k by omega]
  refine ⟨h.blk.mod hm h1, ⟨h.tab.blk.mod hm h2, (hm.block _ h.tab.map.lt h3).trans h.tab.map, h.tab.once, h.tab.low⟩, ?_, h.ns, fun x hx => (h.ents x hx).turn (fun bk cr hc => hm.block bk (Array.getElem?_eq_some_iff.1 hc).1 (hne bk cr _ hc (by decide))) hm.size⟩
  rw [hl, List.length_set]
  have h0 := h.devs
  rw [hdv] at h0 ⊢
  have hkl : k * 6 + 5 < (S.ds.flatMap Dv.cs).length := by rw [flat_len']; omega
  have p1 := own_cell1 h0 (k * 6 + 2) (by omega) (.int .i64 b)
  have p2 := own_cell1 p1 (k * 6 + 3) (by rw [List.length_set]; omega) (.int .i64 n)
  have p3 := own_cell1 p2 (k * 6 + 4) (by rw [List.length_set, List.length_set]; omega) (.int .i64 v.mb)
  have p4 := own_cell1 p3 (k * 6 + 5) (by rw [List.length_set, List.length_set, List.length_set]; omega) (.int .i64 v.mn)
  have hs := setAll_flat Dv.cs_len ({ v with b := b, n := n } : Dv) S.ds k hk
  rw [← hs]
  have c0 : (S.ds.flatMap Dv.cs)[k * 6]? = some (.int .i64 v.root) := by
    have := flat_get Dv.cs_len S.ds k 0 hk (by omega)
    rw [Nat.add_zero] at this
    rw [this, hv]; rfl
  have c1 : (S.ds.flatMap Dv.cs)[k * 6 + 1]? = some (.int .i64 v.over) := by
    rw [flat_get Dv.cs_len S.ds k 1 hk (by omega), hv]; rfl
  have e0 : (S.ds.flatMap Dv.cs).set (k * 6) (.int .i64 v.root) = S.ds.flatMap Dv.cs := by
    have hlt : k * 6 < (S.ds.flatMap Dv.cs).length := by omega
    rw [List.getElem?_eq_getElem hlt] at c0
    injection c0 with c0
    rw [← c0, List.set_getElem_self]
  have e1 : (S.ds.flatMap Dv.cs).set (k * 6 + 1) (.int .i64 v.over) = S.ds.flatMap Dv.cs := by
    have hlt : k * 6 + 1 < (S.ds.flatMap Dv.cs).length := by omega
    rw [List.getElem?_eq_getElem hlt] at c1
    injection c1 with c1
    rw [← c1, List.set_getElem_self]
  show World.ownsRow _ 0 226 6 _ _ ((((((((S.ds.flatMap Dv.cs).set (k * 6) (.int .i64 v.root)).set (k * 6 + 1) (.int .i64 v.over)).set (k * 6 + 2) (.int .i64 b)).set (k * 6 + 3) (.int .i64 n)).set (k * 6 + 4) (.int .i64 v.mb)).set (k * 6 + 5) (.int .i64 v.mn)))
  rw [e0, e1]
  exact p4
/-- a node comes. -/
theorem WdAt.addN (h : WdAt w pw R S) (a : An) {ea : Option Addr} {el ec : Nat} (he : EntsAt w ea el ec a.ents) (hl0 : 0 ≤ S.last) (hl1 : S.last ≤ 1000000) :
    Calls Tryz.prog 205 #[.pointer (some ⟨R.pt, 0, none⟩), a.v ea el ec] w fun e w' => e = .returned (.int .i64 (S.last + 1)) ∧ ∃ R', WdAt w' pw R' (S.add a) ∧ Stp (R.F pw) (R'.F pw) w w' ∧ R'.pt = R.pt ∧ R'.dv = R.dv := by
  refine (add_any (a.nd ea el ec) w R.pt R.pm S.last _ R.clk h.tab hl0 hl1).mono ?_
  rintro e w' ⟨rfl, hT, hM⟩
  have hM' : Mod (R.F pw) w w' := hM.mono (fun k hk => hk.elim (fun e => .inr (.inl e)) (fun e => .inr (.inr (.inl e))))
  have hst : Stp (R.F pw) (R.F pw) w w' := Stp.of_mod hM'
  have hnw : pw ≠ R.pt := by
    intro e
    have h1 := h.blk
    have h2 := h.tab.blk
    rw [e] at h1
    unfold Blk at h1 h2
    rw [h1] at h2
    injection h2 with h2
    injection h2 with _ h2
    revert h2; decide
  have hnm : pw ≠ R.pm := by
    intro e
    have h1 := h.blk
    have h2 := h.tab.map
    rw [e] at h1
    unfold Blk at h1; unfold MapB at h2
    rw [h1] at h2
    cases h2
  refine ⟨rfl, ⟨R.pt, R.pm, R.dv, R.G ++ [⟨{ a with no := S.last + 1 }, ea, el, ec, R.clk⟩], R.clk + 1⟩, ⟨h.blk.mod hM (fun e => e.elim hnw hnm), ?_, ?_, ?_, ?_⟩, ⟨hM', fun k hk => .inl hk⟩, rfl, rfl⟩
  · show Tab w' R.pt R.pm (S.last + 1) ((R.G ++ [_]).map Gn.e) (R.clk + 1)
    rw [List.map_append]
    exact hT
  · refine ⟨h.devs.1, h.devs.2.imp id fun ⟨g, cap, cur, h1, h2, hg, h3⟩ => ⟨g, cap, cur, h1, h2, (hM.block g (Array.getElem?_eq_some_iff.1 hg).1 ?_).trans hg, h3⟩⟩
    rintro (e | e)
    · subst e
      have h2 := h.tab.blk
      unfold Blk at h2
      rw [hg] at h2
      injection h2 with h2
      injection h2 with _ h2
      revert h2; decide
    · subst e
      have h2 := h.tab.map
      unfold MapB at h2
      rw [hg] at h2
      cases h2
  · show S.ns ++ [_] = (R.G ++ [_]).map (fun g : Gn => g.a)
    rw [List.map_append, ← h.ns]
    rfl
  · intro g hg
    rcases List.mem_append.1 hg with hg | hg
    · exact (h.ents g hg).wd h hst
    · simp only [List.mem_cons, List.not_mem_nil, or_false] at hg
      subst hg
      exact he.wd h hst
end

end Go.Proofs.YtkkiglagdojnlaaGreatDoor

/- Mounts (layer 14): a node comes on its mount. -/
namespace Go.Proofs.YtkkiglagdojnlaaGreatDoor

open Go.RowKit

section

variable {w w' : World} {pw : Nat} {R : Rp} {S : Fs}

theorem make_none {S : Fs} {a : An} (h : S.root a.dev = 0) : S.make a = (S, 0, 1) := by unfold Fs.make; rw [if_pos h]
theorem make_err {S : Fs} {a : An} {v : Dv} (h : S.root a.dev ≠ 0) (hv : S.dev a.dev = some v) (he : tkE v.b v.n v.mb v.mn (blkI a.kind a.data.size) 1 ≠ 0) : S.make a = (S, 0, tkE v.b v.n v.mb v.mn (blkI a.kind a.data.size) 1) := by
  unfold Fs.make; rw [if_neg h, hv]; simp only; rw [if_neg he]
theorem make_ok {S : Fs} {a : An} {v : Dv} (h : S.root a.dev ≠ 0) (hv : S.dev a.dev = some v) (he : tkE v.b v.n v.mb v.mn (blkI a.kind a.data.size) 1 = 0) :
    S.make a = ((S.setDev a.dev { v with b := v.b + blkI a.kind a.data.size, n := v.n + 1 }).add a, S.last + 1, 0) := by
  unfold Fs.make; rw [if_neg h, hv]; simp only; rw [if_pos he]
set_option maxRecDepth 100000 in
set_option maxHeartbeats 1000000 in
theorem wmake_none (h : WdAt w pw R S) (hd : 0 < S.ds.length) (a : An) (ea : Option Addr) (el ec : Nat) (hr : S.root a.dev = 0) :
    Calls Tryz.prog 150 #[.pointer (some ⟨pw, 0, none⟩), a.v ea el ec] w fun e w' => e = .returned (.tuple #[.int .i64 0, .int .i64 1]) ∧ Below w.heap.size w w' := by
  have HR := Lib.hid (wroot_any (h.keep ((Below.refl _ w).alloc (Nat.le_refl _) (.cells #[.int .i64 a.no, .int .i64 a.dev, .int .i64 a.kind, .int .i64 a.mode, .int .i64 a.uid, .int .i64 a.gid, .int .i64 a.mtime, .int .i64 a.ctime, .int .i64 a.links, .int .i64 a.up, .string a.data, .slice ea el ec] 170))) hd a.dev)
  rw [hr] at HR
  unfold An.v
  clear h hd hr
  go_enter Tryz.func150, Tryz.ntmps150
  go_wp2_with fail
  refine HR.out.mono ?_
  rintro e w1 ⟨rfl, rfl⟩
  go_wp2_with fail
  go_ret2
  exact ⟨rfl, balloc (Below.refl _ _) _⟩
set_option maxRecDepth 100000 in
set_option maxHeartbeats 2000000 in
theorem wmake_mid (h : WdAt w pw R S) {k : Nat} (hk : k < S.ds.length) (a : An) (ea : Option Addr) (el ec : Nat) (he : EntsAt w ea el ec a.ents) (hdev : a.dev = (k : Int) + 1) (hr : S.root a.dev ≠ 0) (hs : a.data.size ≤ 9223372036854775807) (hl0 : 0 ≤ S.last) (hl1 : S.last ≤ 1000000) :
    Calls Tryz.prog 150 #[.pointer (some ⟨pw, 0, none⟩), a.v ea el ec] w fun e w' => e = .returned (.tuple #[.int .i64 (S.make a).2.1, .int .i64 (S.make a).2.2]) ∧ ∃ R', WdAt w' pw R' (S.make a).1 ∧ Stp (R.F pw) (R'.F pw) w w' := by
  have HR := Lib.hid (wroot_any (h.keep ((Below.refl _ w).alloc (Nat.le_refl _) (.cells #[.int .i64 a.no, .int .i64 a.dev, .int .i64 a.kind, .int .i64 a.mode, .int .i64 a.uid, .int .i64 a.gid, .int .i64 a.mtime, .int .i64 a.ctime, .int .i64 a.links, .int .i64 a.up, .string a.data, .slice ea el ec] 170))) (by omega) a.dev)
  obtain ⟨g, cap, hdv, hle, h63, hgl, hc, hfg, -⟩ := h.devF (by omega)
  obtain ⟨c0, c1, c2, c3, c4, c5⟩ := hc k hk
  obtain ⟨v, hv⟩ : ∃ v, S.ds[k] = v := ⟨_, rfl⟩
  rw [hv] at c0 c1 c2 c3 c4 c5
  obtain ⟨pc, -, pz⟩ := h.blk.facts
  rw [hdv] at pc
  obtain ⟨rt, hrt⟩ : ∃ rt, S.root a.dev = rt := ⟨_, rfl⟩
  have hrn := hr
  rw [hrt] at HR hr
  have hdv2 : S.dev a.dev = some v := by
    unfold Fs.dev
    rw [if_pos (by omega), hdev, show ((k : Int) + 1 - 1).toNat = k by omega, List.getElem?_eq_getElem hk, hv]
  obtain ⟨n, hn⟩ : ∃ n, S.ds.length = n := ⟨_, rfl⟩
  have hkn : k < n := by omega
  rw [hn] at pc hle
  have hr2 : (rt == 0) = false := by simpa using hr
  have hT := fun w => take_any v.b v.n v.mb v.mn (blkI a.kind a.data.size) 1 w
  unfold tkV at hT
  have HB := Lib.hid (fun w => blocks_any a.kind a.data.size (by omega) w)
  have HM1 := Lib.hid (fun (he0 : tkE v.b v.n v.mb v.mn (blkI a.kind a.data.size) 1 ≠ 0) => make_err hrn hdv2 he0)
  have HM2 := Lib.hid (fun (he0 : tkE v.b v.n v.mb v.mn (blkI a.kind a.data.size) 1 = 0) => make_ok hrn hdv2 he0)
  have HQ := Lib.hid (fun (he0 : tkE v.b v.n v.mb v.mn (blkI a.kind a.data.size) 1 = 0) => show tkB v.b v.n v.mb v.mn (blkI a.kind a.data.size) 1 = v.b + blkI a.kind a.data.size ∧ tkN v.b v.n v.mb v.mn (blkI a.kind a.data.size) 1 = v.n + 1 by unfold tkB tkN; rw [if_pos he0, if_pos he0]; exact ⟨rfl, rfl⟩)
  have HW0 := Lib.hid h
  have HE0 := Lib.hid he
  have HDv := Lib.hid hdv
  have HV := Lib.hid (show ∃ hk : k < S.ds.length, S.ds[k] = v from ⟨hk, hv⟩)
  have Hdev := Lib.hid hdev
  unfold An.v
  rw [hdev] at HR ⊢
  have B1 := Blk.new w #[.int .i64 a.no, .int .i64 ((k : Int) + 1), .int .i64 a.kind, .int .i64 a.mode, .int .i64 a.uid, .int .i64 a.gid, .int .i64 a.mtime, .int .i64 a.ctime, .int .i64 a.links, .int .i64 a.up, .string a.data, .slice ea el ec] 170
  have hb1 := (Below.refl w.heap.size w).alloc (Nat.le_refl _) (.cells #[.int .i64 a.no, .int .i64 ((k : Int) + 1), .int .i64 a.kind, .int .i64 a.mode, .int .i64 a.uid, .int .i64 a.gid, .int .i64 a.mtime, .int .i64 a.ctime, .int .i64 a.links, .int .i64 a.up, .string a.data, .slice ea el ec] 170)
  clear h hr hrn hrt hn hv hc hdv hdv2 he hk hdev c0 c1
  generalize blkI a.kind a.data.size = bk at hT HB HM1 HM2 HQ
  generalize tkE v.b v.n v.mb v.mn bk 1 = e0 at hT HM1 HM2 HQ
  generalize tkB v.b v.n v.mb v.mn bk 1 = qb at hT HQ
  generalize tkN v.b v.n v.mb v.mn bk 1 = qn at hT HQ
  have HT := Lib.hid hT
  clear hT
  go_enter Tryz.func150, Tryz.ntmps150
  go_wp2_with fail
  refine HR.out.mono ?_
  rintro e w1 ⟨rfl, rfl⟩
  generalize w.alloc (.cells #[.int .i64 a.no, .int .i64 ((k : Int) + 1), .int .i64 a.kind, .int .i64 a.mode, .int .i64 a.uid, .int .i64 a.gid, .int .i64 a.mtime, .int .i64 a.ctime, .int .i64 a.links, .int .i64 a.up, .string a.data, .slice ea el ec] 170) = W at B1 hb1 ⊢
  obtain ⟨Bn, hBn⟩ : ∃ Bn, w.heap.size = Bn := ⟨_, rfl⟩
  rw [hBn] at B1 ⊢
  obtain ⟨bc, bf, bz⟩ := B1.facts
  rw [← hb1.cell (p := ⟨g, k * 6 + 2, none⟩) hgl] at c2
  rw [← hb1.cell (p := ⟨g, k * 6 + 3, none⟩) hgl] at c3
  rw [← hb1.cell (p := ⟨g, k * 6 + 4, none⟩) hgl] at c4
  rw [← hb1.cell (p := ⟨g, k * 6 + 5, none⟩) hgl] at c5
  have pc1 : W.cell? ⟨pw, 1, none⟩ = _ := (hb1.cell (p := ⟨pw, 1, none⟩) pz).trans (pc 1)
  have hgW : g < W.heap.size := Nat.lt_of_lt_of_le hgl hb1.size
  have hpW : pw < W.heap.size := Nat.lt_of_lt_of_le pz hb1.size
  have HW := Lib.hid hb1
  have HB1 := Lib.hid B1
  have HBn := Lib.hid hBn
  clear pc hb1 B1 hBn
  go_upto_region 3 with (fail)
  go_cut [6, 7] (fun t6 t7 wx => ∃ Bq : Nat, t6 = .pointer (some ⟨Bq, 0, none⟩) ∧ t7 = .int .i64 e0 ∧ Blk wx Bq #[.int .i64 qb, .int .i64 qn, .int .i64 v.mb, .int .i64 v.mn] 224 ∧ Below W.heap.size W wx)
  case first =>
    go_wp2_with fail
    have hw1 : IntKind.i64.wrap ((k : Int) + 1 - 1) = (k : Int) := by rw [IntKind.wrap_i64]; omega
    have hw2 : IntKind.i64.wrap (k : Int) = (k : Int) := by rw [IntKind.wrap_i64]; omega
    have hb3 : (k : Int) < (n : Int) := by omega
    have hb4 : (0 : Int) ≤ (k : Int) := by omega
    have hzz : W.heap.size ≤ W.heap.size := Nat.le_refl _
    go_region_held3 (fun w' => (∀ b o, b < W.heap.size → w'.cell? ⟨b, o, none⟩ = W.cell? ⟨b, o, none⟩) ∧ Below W.heap.size W w') (first | with_reducible assumption | with_reducible exact keepS_here _ | with_reducible exact keepS_here2 _ | with_reducible exact keepS_call (by assumption) (by assumption) | with_reducible exact keepS_alloc (by assumption) _ | with_reducible exact keepS_allocD (by assumption) _ | with_reducible exact keepS_realloc (by assumption) (by assumption) | with_reducible exact keepS_set4 (by assumption) (by assumption))
      (first | (go_at_call 204; ((with_reducible refine (HB.out _).mono ?_); rintro e w4 ⟨rfl, rfl⟩)) | (go_at_call 203; ((with_reducible refine (HT.out _).mono ?_); rintro e w4 ⟨rfl, hb5⟩; have hz5 := Nat.le_trans (And.right ‹(∀ b o, b < W.heap.size → _) ∧ Below W.heap.size W _›).size hb5.size; try (have hbq := new_drew hb5; obtain ⟨bqc, bqf, bqz⟩ := hbq.facts))))
    all_goals
      obtain ⟨-, hS4⟩ := ‹_ ∧ Below W.heap.size W _›
      have HS4 := Lib.hid hS4
      try (have HQ4 := Lib.hid hbq)
      clear hS4
      go_wp2_with fail
      go_meet
      exact ⟨_, rfl, rfl, by first | exact HQ4.out.set4 | exact Blk.new _ _ _, HS4.out⟩
  case rest =>
    obtain ⟨Bq, rfl, rfl, hQ, hS⟩ := hcut
    have HS := Lib.hid hS
    have HWc := Lib.hid (show Below w.heap.size w wc from HW.out.trans (hS.mono HW.out.size))
    by_cases h0 : e0 = 0
    · obtain ⟨hk, hv⟩ := HV.out
      obtain ⟨rfl, rfl⟩ := HQ.out h0
      have HMk := Lib.hid (HM2.out h0)
      subst h0
      obtain ⟨qc, qf, qz⟩ := hQ.facts
      have pcw : wc.cell? ⟨pw, 1, none⟩ = _ := (hS.cell (p := ⟨pw, 1, none⟩) hpW).trans pc1
      have bcw : wc.cell? ⟨Bn, 1, none⟩ = _ := (hS.cell (p := ⟨Bn, 1, none⟩) bz).trans (bc 1)
      rw [← hS.cell (p := ⟨g, k * 6 + 2, none⟩) hgW] at c2
      rw [← hS.cell (p := ⟨g, k * 6 + 3, none⟩) hgW] at c3
      rw [← hS.cell (p := ⟨g, k * 6 + 4, none⟩) hgW] at c4
      rw [← hS.cell (p := ⟨g, k * 6 + 5, none⟩) hgW] at c5
      have hfw : ∀ i, wc.frozen? ⟨g, i, none⟩ = false := fun i => (HWc.out.frozen (p := ⟨g, i, none⟩) hgl).trans (hfg i)
      have hWd := HW0.out.keep HWc.out
      obtain ⟨hWq, hMq⟩ := hWd.setQ HDv.out hk v hv (v.b + bk) (v.n + 1)
      have hgF : R.F pw g := .inr (.inr (.inr (by rw [HDv.out]; rfl)))
      have hStq : Stp (R.F pw) (R.F pw) wc _ := Stp.of_mod (hMq.mono (fun x hx => by rw [hx]; exact hgF))
      have HEq := Lib.hid ((HE0.out.keep HWc.out).wd hWd hStq)
      have hBq := (HB1.out.keep hS).wd hWd hStq rfl
      have HWq := Lib.hid hWq
      have HSt := Lib.hid ((Stp.of_below HWc.out).trans hStq)
      clear hWd hWq hMq hStq pc1 hfg
      go_wp2_with fail
      have mixed : Tryz.prog.follows .mixedOrders = true := by kernel_rfl
      have hw1 : IntKind.i64.wrap ((k : Int) + 1 - 1) = (k : Int) := by rw [IntKind.wrap_i64]; omega
      have hw2 : IntKind.i64.wrap (k : Int) = (k : Int) := by rw [IntKind.wrap_i64]; omega
      have hb3 : (k : Int) < (n : Int) := by omega
      have hb4 : (0 : Int) ≤ (k : Int) := by omega
      refine wp_region_lex 8 mixed (by kernel_rfl) then_panic ?_
      simp only [List.take_succ_cons, List.take_zero, List.drop_succ_cons, List.drop_zero]
      repeat still_step
      refine wpStill_nil ?_
      go_wp2_with fail
      generalize (((wc.setCell ⟨g, k * 6 + 2, none⟩ (.int .i64 (v.b + bk))).setCell ⟨g, k * 6 + 3, none⟩ (.int .i64 (v.n + 1))).setCell ⟨g, k * 6 + 4, none⟩ (.int .i64 v.mb)).setCell ⟨g, k * 6 + 5, none⟩ (.int .i64 v.mn) = X at HEq hBq HWq HSt ⊢
      obtain ⟨xc, -, xz⟩ := HWq.out.blk.facts
      obtain ⟨bc, bf, bz⟩ := hBq.facts
      clear c2 c3 c4 c5 hfw pcw bcw qc qf qz
      refine wp_region_lex 5 mixed (by kernel_rfl) then_panic ?_
      simp only [List.take_succ_cons, List.take_zero, List.drop_succ_cons, List.drop_zero]
      repeat still_step
      refine wpStill_nil ?_
      have hXd : Below X.heap.size X X.drew.drew := ((Below.refl _ X).drew).drew
      have hAdd := (HWq.out.keep hXd).addN a (HEq.out.keep hXd) hl0 hl1
      unfold An.v at hAdd
      rw [Hdev.out] at hAdd
      have HAdd := Lib.hid hAdd
      clear hAdd
      go_wp2_with fail
      refine HAdd.out.mono ?_
      rintro e w5 ⟨rfl, R', hR1, hR2, -, -⟩
      have HR' := Lib.hid (And.intro hR1 hR2)
      clear hR1 hR2
      go_wp2_with fail
      go_ret2
      rw [HMk.out]
      refine ⟨rfl, R', ?_, (HSt.out.trans (Stp.of_below hXd)).trans HR'.out.2⟩
      rw [Hdev.out]
      exact HR'.out.1
    · have HMk := Lib.hid (HM1.out h0)
      have he2 : (e0 != 0) = true := by simpa using h0
      clear h0
      go_wp2_with fail
      go_ret2
      rw [HMk.out]
      exact ⟨rfl, R, HW0.out.keep HWc.out, Stp.of_below HWc.out⟩
end

end Go.Proofs.YtkkiglagdojnlaaGreatDoor

/- A node of a world is another one: Set; a world's first mount. -/
namespace Go.Proofs.YtkkiglagdojnlaaGreatDoor

open Go.RowKit

theorem own_obj1 {w : World} {base sz n k : Nat} {e : TypeId} {v : Value} {xs : List Value} (h : w.ownsRow base e sz v n xs) (hk : v.ownBlock = some k) : base ≤ k ∧ ∃ cur, w.heap[k]? = some (.cells cur e (0, 0)) := by
  rcases h.2 with ⟨rfl, -⟩ | ⟨g, cap, cur, rfl, hb, hg, -⟩
  · cases hk
  · simp only [Value.ownBlock, Option.some.injEq] at hk
    subst hk
    exact ⟨hb, cur, hg⟩
section

variable {w w' : World} {pw : Nat} {R : Rp} {S : Fs}

/-- blocks of the table's alone turned. -/
theorem WdAt.tabStep (h : WdAt w pw R S) (hM : Mod (fun k => k = R.pt ∨ k = R.pm) w w') : Stp (R.F pw) (R.F pw) w w' ∧ Blk w' pw #[.pointer (some ⟨R.pt, 0, none⟩), R.dv] 222 ∧ w'.ownsRow 0 226 6 R.dv S.ds.length (S.ds.flatMap Dv.cs) := by
  have hM' : Mod (R.F pw) w w' := hM.mono (fun k hk => hk.elim (fun e => .inr (.inl e)) (fun e => .inr (.inr (.inl e))))
  have hap : ∀ (x : Nat) (vs : Array Value) (T : TypeId), Blk w x vs T → T ≠ 300 → ¬ (x = R.pt ∨ x = R.pm) := by
    rintro x vs T hx hT (rfl | rfl)
    · have h2 := h.tab.blk
      unfold Blk at hx h2
      rw [hx] at h2
      injection h2 with h2
      injection h2 with _ h2
      exact hT h2
    · have h2 := h.tab.map
      unfold MapB at h2
      unfold Blk at hx
      rw [hx] at h2
      cases h2
  refine ⟨Stp.of_mod hM', h.blk.mod hM (hap _ _ _ h.blk (by decide)), ⟨h.devs.1, h.devs.2.imp id fun ⟨g, cap, cur, h1, h2, hg, h3⟩ => ⟨g, cap, cur, h1, h2, (hM.block g (Array.getElem?_eq_some_iff.1 hg).1 (hap _ _ _ hg (by decide))).trans hg, h3⟩⟩⟩
def Gn.put (a : An) (ea : Option Addr) (el ec : Nat) (g : Gn) : Gn := if g.a.no == a.no then ⟨a, ea, el, ec, g.clk⟩ else g
theorem WdAt.setN (h : WdAt w pw R S) (a : An) {ea : Option Addr} {el ec : Nat} (he : EntsAt w ea el ec a.ents) {b : An} (hb : S.get a.no = some b) :
    Calls Tryz.prog 160 #[.pointer (some ⟨R.pt, 0, none⟩), a.v ea el ec] w fun e w' => e = .returned (.bool true) ∧ ∃ R', WdAt w' pw R' (S.set a) ∧ Stp (R.F pw) (R'.F pw) w w' ∧ R'.pt = R.pt ∧ R'.dv = R.dv := by
  obtain ⟨g0, -, -, hf, -⟩ := G_of h hb
  refine (set_yes g0.nd (a.nd ea el ec) w R.pt R.pm S.last _ R.clk h.tab hf).mono ?_
  rintro e w' ⟨rfl, hT, hM⟩
  obtain ⟨hst, hblk, hdv⟩ := h.tabStep hM
  refine ⟨rfl, ⟨R.pt, R.pm, R.dv, R.G.map (Gn.put a ea el ec), R.clk⟩, ⟨hblk, ?_, hdv, ?_, ?_⟩, ⟨hst.mod, fun k hk => .inl hk⟩, rfl, rfl⟩
  · show Tab w' R.pt R.pm S.last ((R.G.map (Gn.put a ea el ec)).map Gn.e) R.clk
    have e : (R.G.map (Gn.put a ea el ec)).map Gn.e = (R.G.map Gn.e).map fun x => if x.1.no == (a.nd ea el ec).no then (a.nd ea el ec, x.2) else x := by
      rw [List.map_map, List.map_map]
      apply List.map_congr_left
      intro g _
      simp only [Function.comp_apply, Gn.put]
      show Gn.e (if (g.a.no == a.no) = true then _ else g) = if (g.a.no == a.no) = true then _ else _
      split
      · rfl
      · rfl
    rw [e]
    exact hT
  · show (S.ns.map _) = (R.G.map (Gn.put a ea el ec)).map (fun g : Gn => g.a)
    rw [h.ns, List.map_map, List.map_map]
    apply List.map_congr_left
    intro g _
    simp only [Function.comp_apply, Gn.put]
    split <;> rfl
  · intro g hg
    obtain ⟨g1, hg1, rfl⟩ := List.mem_map.1 hg
    unfold Gn.put
    split
    · exact he.wd h hst
    · exact (h.ents g1 hg1).wd h hst
theorem dev_info : (Tryz.prog.info? 226).map (fun i => (i.zero, i.size, i.bytes)) = some (some (.agg #[.int .i64 0, .int .i64 0, .int .i64 0, .int .i64 0, .int .i64 0, .int .i64 0]), 6, 48) := by kernel_rfl
/-- a mount more, its root not yet there. -/
def Fs.addDev (S : Fs) (over b n : Int) : Fs := { S with ds := S.ds ++ [⟨0, over, 1, 1, b, n⟩] }
theorem WdAt.app (h : WdAt w pw R S) (hl : S.ds.length ≤ 100) (ad : Addr) (over b n : Int) (had : ∀ j u, (Dv.cs ⟨0, over, 1, 1, b, n⟩)[j]? = some u → w.cell? (ad.add j) = some u) :
    ∃ g cap W, (Builtin.append_ #[220, 220] 220 #[R.dv, .slice (some ad) 1 1]).run Tryz.prog w = .ok (.slice (some ⟨g, 0, none⟩) (S.ds.length + 1) cap) W ∧
      WdAt (W.setCell ⟨pw, 1, none⟩ (.slice (some ⟨g, 0, none⟩) (S.ds.length + 1) cap)) pw { R with dv := .slice (some ⟨g, 0, none⟩) (S.ds.length + 1) cap } (S.addDev over b n) ∧
      Stp (R.F pw) (Rp.F { R with dv := .slice (some ⟨g, 0, none⟩) (S.ds.length + 1) cap } pw) w (W.setCell ⟨pw, 1, none⟩ (.slice (some ⟨g, 0, none⟩) (S.ds.length + 1) cap)) ∧
      Blk W pw #[.pointer (some ⟨R.pt, 0, none⟩), R.dv] 222 ∧ Mod (fun k => R.dv.ownBlock = some k) w W := by
  obtain ⟨i0, hi, hz0, hz1, hz2⟩ := info_parts dev_info
  obtain ⟨g, cap, W, h1, h2, h3, h4⟩ := step_app (220) Tryz.underlying220 hi hz0 hz1 hz2 rfl (by omega) h.devs ad 1 1 (Dv.cs ⟨0, over, 1, 1, b, n⟩) rfl had (by intro u hu; simp [Dv.cs] at hu; rcases hu with rfl | rfl | rfl | rfl | rfl <;> rfl) (by omega) (by unfold maxLen; omega) (by omega) (Nat.zero_le _)
  have hM : Mod (R.F pw) w W := h3.mono (fun k hk => .inr (.inr (.inr hk)))
  have hap : ∀ (x : Nat) (vs : Array Value) (T : TypeId), Blk w x vs T → T ≠ 226 → ¬ (R.dv.ownBlock = some x) := by
    intro x vs T hx hT hk
    obtain ⟨-, cur, hc⟩ := own_obj1 h.devs hk
    unfold Blk at hx
    rw [hx] at hc
    injection hc with hc
    injection hc with _ hc
    exact hT hc
  have hbW : Blk W pw #[.pointer (some ⟨R.pt, 0, none⟩), R.dv] 222 := h.blk.mod h3 (hap _ _ _ h.blk (by decide))
  have hpg : pw ≠ g := by
    rintro rfl
    rcases h4 with h4 | h4
    · exact hap _ _ _ h.blk (by decide) h4
    · have := h.blk.lt; omega
  have hmap : ¬ (R.dv.ownBlock = some R.pm) := fun hk => by
    obtain ⟨-, cur, hc⟩ := own_obj1 h.devs hk
    have := h.tab.map
    unfold MapB at this
    rw [hc] at this
    cases this
  have hs2 : Stp (R.F pw) (R.F pw) w (W.setCell ⟨pw, 1, none⟩ (.slice (some ⟨g, 0, none⟩) (S.ds.length + 1) cap)) := Stp.of_mod (hM.setCell (.inl (.inl rfl)) _)
  have hnt : pw ≠ R.pt := fun e => by
    have h1 := h.blk; have h2 := h.tab.blk
    rw [e] at h1; unfold Blk at h1 h2
    rw [h1] at h2; injection h2 with h2; injection h2 with _ h2
    revert h2; decide
  have hnm : pw ≠ R.pm := fun e => by
    have h1 := h.blk; have h2 := h.tab.map
    rw [e] at h1; unfold Blk at h1; unfold MapB at h2
    rw [h1] at h2; cases h2
  refine ⟨g, cap, W, h1, ⟨?_, ⟨?_, ?_, h.tab.once, h.tab.low⟩, ?_, h.ns, fun x hx => (h.ents x hx).wd h hs2⟩, ⟨hs2.mod, fun k hk => ?_⟩, hbW, h3⟩
  · exact hbW.set 1 _
  · exact (h.tab.blk.mod h3 (hap _ _ _ h.tab.blk (by decide))).setOther _ _ hnt
  · exact MapB.setOther ((h3.block _ h.tab.map.lt hmap).trans h.tab.map) _ _ hnm
  · show World.ownsRow _ 0 226 6 _ (S.ds ++ [_]).length ((S.ds ++ [_]).flatMap Dv.cs)
    rw [List.length_append, List.length_singleton, List.flatMap_append, List.flatMap_singleton]
    refine own_mod h2 ((Mod.refl (fun k => k = pw) W).setCell (a := ⟨pw, 1, none⟩) (.inl rfl) _) (fun k hk e => ?_)
    subst hk
    simp only [Value.ownBlock, Option.some.injEq] at e
    exact hpg e.symm
  · rcases hk with hk | hk | hk | hk
    · exact .inl (.inl hk)
    · exact .inl (.inr (.inl hk))
    · exact .inl (.inr (.inr (.inl hk)))
    · simp only [Value.ownBlock, Option.some.injEq] at hk
      subst hk
      rcases h4 with h4 | h4
      · exact .inl (.inr (.inr (.inr h4)))
      · exact .inr (by omega)
end

end Go.Proofs.YtkkiglagdojnlaaGreatDoor

/- How the reference (layer 14) lays a tree of nodes in memory; what turns and what stays. -/
namespace Go.Proofs.YtkkiglagdojnlaaGreatDoor

open Go.RowKit

def Gn.cs (g : Gn) : List Value := [.int .i64 g.a.no, .int .i64 g.a.dev, .int .i64 g.a.kind, .int .i64 g.a.mode, .int .i64 g.a.uid, .int .i64 g.a.gid, .int .i64 g.a.mtime, .int .i64 g.a.ctime, .int .i64 g.a.links, .int .i64 g.a.up, .string g.a.data, .slice g.ea g.el g.ec]
/-- where the reference's tree lies. -/
structure Rf where
  nv : Value
  dv : Value
  G : List Gn
  now : Int
  cnt : Value
  pl : Value
  dd : Value
/-- the blocks that its methods write. -/
def Rf.F (R : Rf) (pf k : Nat) : Prop := k = pf ∨ R.nv.ownBlock = some k ∨ R.dv.ownBlock = some k
/-- the tree S lies at pf, as R says. -/
structure RfAt (w : World) (pf : Nat) (R : Rf) (S : Fs) : Prop where
  blk : Blk w pf #[R.nv, R.dv, .int .i64 S.last, .int .i64 R.now, R.cnt, R.pl, R.dd] 52
  nds : w.ownsRow 0 170 12 R.nv R.G.length (R.G.flatMap Gn.cs)
  devs : w.ownsRow 0 320 6 R.dv S.ds.length (S.ds.flatMap Dv.cs)
  ns : S.ns = R.G.map (·.a)
  ents : ∀ g ∈ R.G, EntsAt w g.ea g.el g.ec g.a.ents
def rfKind (o : Obj) : Bool := match o with
  | .cells _ t _ => t == 52 || t == 170 || t == 320
  | _ => false
section

variable {w w' : World} {pf : Nat} {R : Rf} {S : Fs}

/-- the place of a node. -/
def placeN (G : List Gn) (no : Int) : Int := match G.findIdx? (fun g => g.a.no == no) with | some i => i | none => -1
/-- a node's cells. -/
structure NdC (w : World) (g o : Nat) (a : An) (ea : Option Addr) (el ec : Nat) : Prop where
  c0 : w.cell? ⟨g, o, none⟩ = some (.int .i64 a.no)
  c1 : w.cell? ⟨g, o + 1, none⟩ = some (.int .i64 a.dev)
  c2 : w.cell? ⟨g, o + 2, none⟩ = some (.int .i64 a.kind)
  c3 : w.cell? ⟨g, o + 3, none⟩ = some (.int .i64 a.mode)
  c4 : w.cell? ⟨g, o + 4, none⟩ = some (.int .i64 a.uid)
  c5 : w.cell? ⟨g, o + 5, none⟩ = some (.int .i64 a.gid)
  c6 : w.cell? ⟨g, o + 6, none⟩ = some (.int .i64 a.mtime)
  c7 : w.cell? ⟨g, o + 7, none⟩ = some (.int .i64 a.ctime)
  c8 : w.cell? ⟨g, o + 8, none⟩ = some (.int .i64 a.links)
  c9 : w.cell? ⟨g, o + 9, none⟩ = some (.int .i64 a.up)
  c10 : w.cell? ⟨g, o + 10, none⟩ = some (.string a.data)
  c11 : w.cell? ⟨g, o + 11, none⟩ = some (.slice ea el ec)
end

/-- a number's node; the empty one, if it is not there. -/
def Fs.getZ (S : Fs) (k : Int) : An := (S.get k).getD an0
end Go.Proofs.YtkkiglagdojnlaaGreatDoor

/- Names in a directory (layer 11): how they are held against each other; where a name is, or would be. -/
namespace Go.Proofs.YtkkiglagdojnlaaGreatDoor

open Go.RowKit

def cmpB (a b : ByteArray) : Int := if ltB a b = true then -1 else if ltB b a = true then 1 else 0
theorem cmpB_lt (a b : ByteArray) : (cmpB a b < 0) = (ltB a b = true) := by
  unfold cmpB
  cases h : ltB a b
  · simp; split <;> omega
  · simp
theorem cmpB_eq (a b : ByteArray) : (cmpB a b = 0) = (a = b) := by
  unfold cmpB
  cases h : ltB a b
  · cases k : ltB b a
    · simp [ltB_total h k]
    · simp [(ltB_ne k).symm]
  · simp [ltB_ne h]

set_option maxHeartbeats 400000 in
theorem compare_any (a b : ByteArray) (w : World) :
    Calls Tryz.prog 28 #[.string a, .string b] w fun e w' => e = .returned (.int .i64 (cmpB a b)) ∧ w = w' := by
  unfold cmpB
  cases h : ltB a b
  · cases k : ltB b a
    · obtain rfl : a = b := ltB_total h k
      rw [← ltB_mk] at h
      clear k
      go_enter Tryz.func28, Tryz.ntmps28
      go_wp2
      go_ret
      exact ⟨rfl, rfl⟩
    · have hne : ¬ a.toList = b.toList := fun e => by
        rw [ByteArray.toList_eq, ByteArray.toList_eq] at e
        rw [ba_eq e, ltB_irrefl] at k
        cases k
      have hq : (a.toList == b.toList) = false := by simpa using hne
      rw [← ltB_mk] at h
      clear k
      go_enter Tryz.func28, Tryz.ntmps28
      go_wp2
      go_ret
      exact ⟨rfl, rfl⟩
  · rw [← ltB_mk] at h
    go_enter Tryz.func28, Tryz.ntmps28
    go_wp2
    go_ret
    exact ⟨rfl, rfl⟩

set_option maxHeartbeats 400000 in
theorem by_any (x : En) (n : ByteArray) (w : World) :
    Calls Tryz.prog 199 #[.agg #[.string x.name, .int .i64 x.no], .string n] w fun e w' => e = .returned (.int .i64 (cmpB x.name n)) ∧ Below w.heap.size w w' := by
  go_enter Tryz.func199, Tryz.ntmps199
  go_wp2_with (go_at_call 28; refine (compare_any _ _ _).mono ?_; rintro e w1 ⟨rfl, rfl⟩)
  go_ret
  exact ⟨rfl, by go_grown⟩
end Go.Proofs.YtkkiglagdojnlaaGreatDoor
