/- Texts of the proof, part 48. -/
import Derived.Deep.CutBlock
import Derived.Deep.DeepCutAuto
import Derived.RegionTactic
import Derived.BigRegion
import Derived.Deep.QuietTactic
import Derived.BigQuiet
import Derived.WalkSmall
import Derived.Test.YtihdbncoijhihaaGreatLK47
import Derived.Test.YtihdbncoijhihaaGreatLK40
import Derived.Test.YtihdbncoijhihaaGreatLK28
import Derived.Test.YtihdbncoijhihaaGreatLK13
import Derived.Test.YtihdbncoijhihaaGreatLK29
import Derived.Test.YtihdbncoijhihaaGreatLK8
import Derived.Test.YtihdbncoijhihaaGreatLK20
import Derived.Test.YtihdbncoijhihaaGreatLK14
import Derived.Test.YtihdbncoijhihaaGreatLK3
set_option linter.unusedVariables false
set_option linter.unusedSimpArgs false
/- The rows of a tree, as the reference tells them: ref22.Below. -/
namespace Go.Proofs.YtihdbncoijhihaaGreat

open Go.RowKit

def lenV : Value → Nat | .slice _ n _ => n | _ => 0
theorem idx_step (nos : List Int) (k : Int) (j : Nat) (hj : j < nos.length) : j + (nos.drop j).idxOf k = if nos[j] = k then j else (j + 1) + (nos.drop (j + 1)).idxOf k := by
  rw [List.drop_eq_getElem_cons hj, List.idxOf_cons]
  by_cases h : nos[j] = k
  · rw [if_pos h, h]; simp
  · rw [if_neg h, show (nos[j] == k) = false by simpa using h]
    simp only [cond_false]
    omega
theorem kids_take (p : ByteArray) (n : An) (j : Nat) (hj : j < n.ents.length) : (kidsL p n).take (j + 1) = (kidsL p n).take j ++ [⟨belowB p n.ents[j].name, n.ents[j].no⟩] := by
  have hl : j < (kidsL p n).length := by unfold kidsL; rw [List.length_map]; exact hj
  rw [List.take_succ_eq_append_getElem hl]
  simp [kidsL]
/-- what `len` of the rounds left gets smaller by. -/
theorem row_less {o t F : Nat} (ho : o + 1 ≤ F) {t' : Nat} (ht : t' ≤ F) : (F + 1 - (o + 1)) * (F + 1) + t' < (F + 1 - o) * (F + 1) + (t + 1) := by
  obtain ⟨u, hu⟩ : ∃ u, F + 1 - o = u + 1 := ⟨F - o, by omega⟩
  rw [show F + 1 - (o + 1) = u by omega, hu, Nat.succ_mul]
  omega
section

variable {w w' : World} {pf : Nat} {R : Rf} {S : Fs}

set_option maxRecDepth 100000 in
set_option maxHeartbeats 8000000 in
theorem rrows_any (h : RfAt w pf R S) {N : Nat} (hk : FsOk S N) (hp : Pl S) (ht : Tr S) (hF : S.rowsF N ≤ 10000) (hN : N ≤ 100) (no : Int) (p : ByteArray) (hs : p.size ≤ 10000) :
    Calls Tryz.prog 59 #[.pointer (some ⟨pf, 0, none⟩), .int .i64 no, .string p] w fun e w' => ∃ v, e = .returned v ∧ OR w' w.heap.size v (S.rows N no p) ∧ Below w.heap.size w w' := by
  have HH := Lib.hid h
  have HK := Lib.hid (And.intro hk (And.intro hp ht))
  have HR0 := Lib.hid (show S.rows N no p = S.rowsN (S.rowsF N) [⟨p, no⟩] [] [] from rfl)
  have HT0 := Lib.hid (TrSt.start S N no p)
  have hl1 : (S.last.toNat : Int) = S.last ∧ S.last ≤ N := ⟨by have := hk.l0; omega, hk.lN⟩
  have HL1 := Lib.hid hl1
  generalize S.rows N no p = Z at HR0 ⊢
  clear h hk hp ht hl1
  have hb0 := balloc (Below.refl w.heap.size w) (.cells #[.string p, .int .i64 no] 146)
  have hO0 : OE (w.alloc (.cells #[.string p, .int .i64 no] 146)) w.heap.size (.slice (some ⟨w.heap.size, 0, none⟩) 1 1) [⟨p, no⟩] := ⟨rfl, .inr ⟨w.heap.size, 1, #[.string p, .int .i64 no], rfl, Nat.le_refl _, Blk.new _ _ _, Nat.le_refl _, by unfold maxLen; omega, rfl, rfl⟩⟩
  go_enter Tryz.func59, Tryz.ntmps59
  go_upto_region 4 with fail
  generalize w.alloc (.cells #[.string p, .int .i64 no] 146) = X0 at hb0 hO0 ⊢
  have HB0 := Lib.hid hb0
  have HO0 := Lib.hid hO0
  clear hb0 hO0
  go_loopw [7, 8, 9] (fun t7 t8 t9 wr => ∃ (todo : List En) (nos : List Int) (out : List Rw) (f : Nat) (ta : Option Addr) (tn tc : Nat), t9 = .slice ta tn tc ∧ lenV t7 = out.length ∧ RB w.heap.size wr t7 t8 ta tn tc out nos todo ∧ TrSt S N (S.over no) p.size todo nos f ∧ out.length = nos.length ∧ out.length + f ≤ S.rowsF N ∧ Z = S.rowsN f todo nos out ∧ Below w.heap.size w wr) (fun t7 _ t9 _ => (S.rowsF N + 1 - lenV t7) * (S.rowsF N + 1) + lenV t9)
  case atStart =>
    exact ⟨_, [], [], _, _, _, _, rfl, rfl, ⟨OR.nil _ _, ⟨rfl, .inl ⟨rfl, rfl⟩⟩, HO0.out.at⟩, HT0.out, rfl, by simp, HR0.out, HB0.out⟩
  case round =>
    obtain ⟨todo, nos, out, f, ta, tn, tc, rfl, hlo, hRB, hT, hon, hf, hZ, hbw⟩ := hrel
    have htn := hRB.t.len
    have HRB := Lib.hid hRB
    have HTS := Lib.hid hT
    have HZ := Lib.hid hZ
    have HBw := Lib.hid hbw
    have HO := Lib.hid (And.intro hlo (And.intro hon hf))
    clear hlo hon hf hZ
    cases todo with
    | nil =>
      obtain rfl : tn = 0 := by simpa using htn.symm
      have HE := Lib.hid (HZ.out.trans (rows_nil _ _ _ _))
      clear hRB hT hbw htn
      go_wp2_with fail
      go_ret
      exact ⟨_, rfl, by rw [HE.out]; exact HRB.out.o, HBw.out⟩
    | cons x todo =>
      obtain ⟨m, rfl⟩ : ∃ m, tn = m + 1 := ⟨todo.length, by simpa using htn.symm⟩
      obtain ⟨f, rfl⟩ := hT.pos
      obtain ⟨b, off, rfl, hbl⟩ := hRB.t.some_of (Nat.succ_pos m)
      obtain ⟨c1, c2⟩ := hRB.t.cell 0 (by simp)
      rw [Nat.zero_mul, Nat.add_zero, List.getElem_cons_zero] at c1 c2
      have htc1 : m + 1 ≤ tc := hRB.t.sl.2.1
      have htc2 : tc ≤ 9223372036854775807 := hRB.t.sl.2.2.1
      have HLm := Lib.hid (show todo.length = m by simpa using htn)
      have hm : m ≤ 10000 := by
        have h1 := hT.fuel
        have h2 := HO.out.2.2
        simp at h1 htn
        omega
      have hxs : x.name.size ≤ 50000 := by
        have h1 := hT.size x (by simp)
        have h2 : (if S.isDir (S.over x.no) then (S.over x.no).toNat else S.last.toNat + 1) ≤ 101 := by
          obtain ⟨h3, h4⟩ := HL1.out
          split
          · rename_i hd
            obtain ⟨q, hq, -⟩ := isDir_some hd
            have := (HK.out.1.get hq).2.2.2
            omega
          · omega
        omega
      have hX := Blk.new wr #[.string x.name, .int .i64 x.no] 146
      have hbX := balloc hbw (.cells #[.string x.name, .int .i64 x.no] 146)
      have hRX := hRB.keep ((Below.refl _ wr).alloc (Nat.le_refl _) (.cells #[.string x.name, .int .i64 x.no] 146))
      go_upto_region 6 with fail
      generalize wr.alloc (.cells #[.string x.name, .int .i64 x.no] 146) = X at hX hbX hRX ⊢
      have HX := Lib.hid hX
      have HBX := Lib.hid hbX
      have HRX := Lib.hid hRX
      clear hRB hT hbw c1 c2 hX hbX hRX htn
      go_cut [9] (fun t9 wx => ∃ (ta2 : Option Addr) (tc2 : Nat), t9 = .slice ta2 m tc2 ∧ EntsAt X ta2 m tc2 todo ∧ wx = X)
      case first =>
        by_cases h1 : tc = 1
        · obtain rfl : m = 0 := by omega
          subst h1
          go_wp2_with fail
          go_meet
          exact ⟨_, _, rfl, (by have h := HRX.out.t.tail rfl; simpa using h), rfl⟩
        · have h1a : ¬ (tc : Int) = 1 := by omega
          have HS3 := Lib.hid (show EntsAt X (some ⟨b, off + 2, none⟩) m (tc - 1) todo from by have h := HRX.out.t.tail rfl; rw [if_neg h1] at h; exact h)
          go_wp2_with fail
          go_meet
          exact ⟨_, _, rfl, HS3.out, rfl⟩
      case rest =>
        obtain ⟨ta2, tc2, rfl, hE2, hwc⟩ := hcut
        subst hwc
        have HT2 := Lib.hid hE2
        clear hE2 htc1 htc2 hbl
        obtain ⟨xc, xf, xz⟩ := HX.out.facts
        have HOv := Lib.hid (rover_any (HH.out.keep HBX.out) x.no)
        obtain ⟨ea, el, ec, hEn, hG⟩ := rgetZ_fix HH.out (S.over x.no)
        have HG := Lib.hid (hG _ HBX.out)
        have HEn := Lib.hid hEn
        have hnz := getZ_no HK.out.1 (S.over x.no)
        obtain ⟨n, hn⟩ : ∃ n, S.getZ (S.over x.no) = n := ⟨_, rfl⟩
        rw [hn] at HG HEn hnz
        unfold An.v at HG
        have HN := Lib.hid hn
        obtain ⟨k, hk⟩ : ∃ k, S.over x.no = k := ⟨_, rfl⟩
        rw [hk] at HOv HG hnz HN
        have HKk := Lib.hid hk
        clear hG hEn hn hk
        go_wp2_with fail
        refine HOv.out.mono ?_
        rintro e w3 ⟨rfl, rfl⟩
        go_wp2_with fail
        refine HG.out.mono ?_
        rintro e w4 ⟨rfl, hb4⟩
        have hN := Blk.new w4 #[.int .i64 n.no, .int .i64 n.dev, .int .i64 n.kind, .int .i64 n.mode, .int .i64 n.uid, .int .i64 n.gid, .int .i64 n.mtime, .int .i64 n.ctime, .int .i64 n.links, .int .i64 n.up, .string n.data, .slice ea el ec] 49
        have hbY := balloc hb4 (.cells #[.int .i64 n.no, .int .i64 n.dev, .int .i64 n.kind, .int .i64 n.mode, .int .i64 n.uid, .int .i64 n.gid, .int .i64 n.mtime, .int .i64 n.ctime, .int .i64 n.links, .int .i64 n.up, .string n.data, .slice ea el ec] 49)
        go_upto_region 8 with fail
        generalize w4.alloc (.cells #[.int .i64 n.no, .int .i64 n.dev, .int .i64 n.kind, .int .i64 n.mode, .int .i64 n.uid, .int .i64 n.gid, .int .i64 n.mtime, .int .i64 n.ctime, .int .i64 n.links, .int .i64 n.up, .string n.data, .slice ea el ec] 49) = Y at hN hbY ⊢
        have HNd := Lib.hid hN
        have HBY := Lib.hid (bnext HBX.out hbY)
        have HXY := Lib.hid (HX.out.keep hbY)
        have HRY := Lib.hid (show RB w.heap.size Y u7 u8 ta2 m tc2 out nos todo from ⟨own_keep HRX.out.o hbY, own_keep HRX.out.n hbY, HT2.out.keep hbY⟩)
        obtain ⟨nc, nf, nz⟩ := hN.facts
        clear xc xf xz hb4 hN hbY
        cases hg : S.get k with
        | none =>
          rw [hg] at hnz
          have hz1 : (n.no == 0) = true := hnz
          have HE := Lib.hid (HZ.out.trans (rows_none (by rw [HKk.out]; exact hg) _ _ _ _))
          have HT3 := Lib.hid (HTS.out.none (by rw [HKk.out]; exact hg))
          clear hg hnz
          go_wp2_with fail
          go_roundw
          case measure => simp [lenV]
          case rel => exact ⟨todo, nos, out, f, ta2, m, tc2, rfl, HO.out.1, HRY.out, HT3.out, HO.out.2.1, by have := HO.out.2.2; omega, HE.out, HBY.out⟩
        | some n2 =>
          have hnn : n2 = n := by rw [← HN.out, getZ_some hg]
          subst hnn
          rw [hg] at hnz
          have hz1 : (n2.no == 0) = false := hnz
          have HE := Lib.hid (HZ.out.trans (rows_some (by rw [HKk.out]; exact hg) _ _ _ _))
          have HT3 := Lib.hid (HTS.out.some HK.out.1 HK.out.2.1 HK.out.2.2 (by rw [HKk.out]; exact hg))
          have hdat := Lib.hid (And.intro (HK.out.1.get hg).1 (HK.out.2.1.names n2 (an_mem hg)))
          clear hg hnz
          obtain ⟨oa, oc, hu7, ho1, ho2, -⟩ := own_form HRY.out.o
          subst hu7
          obtain ⟨va, vc, hu8, hv1, hv2, hvf⟩ := own_form HRY.out.n
          subst hu8
          have hon : nos.length ≤ 10000 := by
            have := HO.out.2
            omega
          have hoo : out.length ≤ 10000 := by
            have := HO.out.2
            omega
          go_wp2_with fail
          go_loopw [12, 13] (fun t12 t13 w2 => ∃ j : Nat, j ≤ nos.length ∧ t12 = .int .i64 ((j + (nos.drop j).idxOf n2.no : Nat) : Int) ∧ t13 = .int .i64 ((j : Int) - 1) ∧ Below Y.heap.size Y w2) (fun _ t13 _ => (intOf t13 + 1).toNat)
          case atStart => exact ⟨nos.length, Nat.le_refl _, by rw [List.drop_length, List.idxOf_nil, Nat.add_zero, HO.out.2.1], rfl, Below.refl _ _⟩
          case round =>
            obtain ⟨j, hj, rfl, rfl, hb2⟩ := hrel
            clear nc nf nz
            obtain ⟨nc, nf, nz⟩ := (HNd.out.keep hb2).facts
            have HB2 := Lib.hid hb2
            rcases Nat.eq_zero_or_pos j with rfl | hj0
            · rw [List.drop_zero, Nat.zero_add]
              have hbw2 := HBY.out.trans (hb2.mono HBY.out.size)
              have hR2 := HRY.out.keep hb2
              have hx2 := HXY.out.keep hb2
              have hn2 := HNd.out.keep hb2
              have he2 := HEn.out.keepB hbw2 (Nat.le_refl _)
              obtain ⟨g2, cap2, W3, hrun2, hO2, hM2⟩ := OI.app hR2.n n2.no (by omega) hbw2.size
              have hR3 := hR2.pushN hM2 hO2
              have hx3 := own_blk hR2.n (by decide) hx2 hM2
              have hn3 := own_blk hR2.n (by decide) hn2 hM2
              have he3 := own_ents hR2.n (by decide) hM2 he2
              have hb3 := hbw2.trans (hR2.belowN hM2 hbw2.size)
              obtain ⟨g3, cap3, W4, hrun3, hO3, hM3⟩ := OR.app hR3.o (n2.rw x.name (nos.idxOf n2.no)) (by omega) hb3.size
              have hR4 := hR3.pushO hM3 hO3
              have hx4 := own_blk hR3.o (by decide) hx3 hM3
              have hn4 := own_blk hR3.o (by decide) hn3 hM3
              have he4 := own_ents hR3.o (by decide) hM3 he3
              have hb4 := hb3.trans (hR3.belowO hM3 hb3.size)
              simp only [rwC, An.rw] at hrun3
              have HR2 := Lib.hid hrun2
              have HR3 := Lib.hid hrun3
              have HRB4 := Lib.hid hR4
              have HX4 := Lib.hid hx4
              have HN4 := Lib.hid hn4
              have HE4 := Lib.hid he4
              have HB4 := Lib.hid hb4
              obtain ⟨x3, xf3, xz3⟩ := hx3.facts
              obtain ⟨n3, nf3, nz3⟩ := hn3.facts
              clear hb2 hbw2 hR2 hx2 hn2 he2 hrun2 hO2 hM2 hR3 hx3 hn3 he3 hb3 hrun3 hO3 hM3 hR4 hx4 hn4 he4 hb4 hj hvf
              obtain ⟨fi, hfi⟩ : ∃ y, nos.idxOf n2.no = y := ⟨_, rfl⟩
              rw [hfi] at HR3 HRB4 ⊢
              have HFi := Lib.hid hfi
              clear hfi
              go_wp2_with (at_builtin; first | refine wpList_app_run rfl rfl rfl rfl HR2.out ?_ | refine wpList_app_run rfl rfl rfl rfl HR3.out ?_)
              clear x3 xf3 xz3 n3 nf3 nz3 nc nf nz
              have hel := HE4.out.len
              have hec1 := HE4.out.sl.2.1
              have hec2 := HE4.out.sl.2.2.1
              have HEl := Lib.hid hel
              have hel2 : el ≤ 1000 := by have := hdat.out.1.few; omega
              clear hel
              go_loopw [14, 15] (fun t14 t15 w3 => ∃ j : Nat, j ≤ el ∧ t15 = .int .i64 j ∧ OE w3 W4.heap.size t14 ((kidsL x.name n2).take j) ∧ Below W4.heap.size W4 w3) (fun _ t15 _ => el - (intOf t15).toNat)
              case atStart => exact ⟨0, Nat.zero_le _, rfl, ⟨rfl, .inl ⟨rfl, rfl⟩⟩, Below.refl _ _⟩
              case round =>
                obtain ⟨j, hj, rfl, hO5, hb5⟩ := hrel
                obtain ⟨x3, xf3, xz3⟩ := (HX4.out.keep hb5).facts
                obtain ⟨n3, nf3, nz3⟩ := (HN4.out.keep hb5).facts
                have HB5 := Lib.hid hb5
                have HO5 := Lib.hid hO5
                by_cases hjl : j < el
                · have he5 := HE4.out
                  obtain ⟨eb, eoff, rfl, hebl⟩ := he5.some_of (by omega)
                  have hj2 : j < n2.ents.length := by rw [HEl.out]; exact hjl
                  obtain ⟨c1, c2⟩ := he5.cell j hj2
                  have HKt := Lib.hid (kids_take x.name n2 j hj2)
                  have hns := (hdat.out.2 _ (List.getElem_mem hj2)).2
                  have HBl := Lib.hid (fun w9 => rbelow_any x.name n2.ents[j].name w9 (by omega) (by omega))
                  have htl : ((kidsL x.name n2).take j).length = j := by
                    rw [List.length_take]
                    unfold kidsL
                    rw [List.length_map]
                    omega
                  generalize n2.ents[j] = e9 at c1 c2 HKt HBl
                  obtain ⟨bn, hbn⟩ : ∃ y, belowB x.name e9.name = y := ⟨_, rfl⟩
                  rw [hbn] at HBl HKt
                  obtain ⟨ig, icap, W9, hrun9, hO9, hB9⟩ := hO5.app1d ⟨bn, e9.no⟩ (by omega) hb5.size
                  rw [htl] at hrun9 hO9
                  obtain ⟨ia, ic, rfl, hi1, hi2, -⟩ := own_form hO5
                  rw [htl] at hi1 hrun9 ⊢
                  have HO9 := Lib.hid hO9
                  have HB9 := Lib.hid hB9
                  have hS0 : (∀ b o, b < W4.heap.size → wr.drew.cell? ⟨b, o, none⟩ = W4.cell? ⟨b, o, none⟩) ∧ Below W4.heap.size W4 wr.drew := keepS_of hb5.drew
                  have hS9 : (∀ b o, b < W4.heap.size → W9.cell? ⟨b, o, none⟩ = W4.cell? ⟨b, o, none⟩) ∧ Below W4.heap.size W4 W9 := keepS_of (hb5.trans hB9)
                  clear hO5 hb5 hns hbn hO9 hB9 he5
                  have mixed : Tryz.prog.follows .mixedOrders = true := by kernel_rfl
                  go_upto_region 21 with fail
                  clear x3 xf3 xz3 n3 nf3 nz3
                  obtain ⟨x3, xf3, xz3⟩ := HX4.out.facts
                  obtain ⟨n3, nf3, nz3⟩ := HN4.out.facts
                  go_region_held3 (fun w' => (∀ b o, b < W4.heap.size → w'.cell? ⟨b, o, none⟩ = W4.cell? ⟨b, o, none⟩) ∧ Below W4.heap.size W4 w') (first | with_reducible assumption | with_reducible exact keepS_here _ | with_reducible exact keepS_here2 _ | with_reducible exact keepS_call (by assumption) (by assumption) | with_reducible exact keepS_alloc (by assumption) _ | with_reducible exact keepS_allocD (by assumption) _ | with_reducible exact keepS_realloc (by assumption) (by assumption) | with_reducible exact keepS_set4 (by assumption) (by assumption))
                    (first
                      | (refine step_app_run rfl rfl rfl rfl hrun9 ?_)
                      | (go_at_call 119; ((with_reducible refine (HBl.out _).mono ?_); rintro e w9 ⟨rfl, rfl⟩)))
                  all_goals
                    go_wp2_with fail
                    go_roundw
                    case measure => simp [intOf]; omega
                    case rel => exact ⟨j + 1, by omega, by go_num, by rw [HKt.out]; exact HO9.out, HB5.out.trans HB9.out⟩
                · obtain rfl : j = el := by omega
                  have hkl : (kidsL x.name n2).length = j := by
                    unfold kidsL
                    rw [List.length_map]
                    exact HEl.out
                  rw [List.take_of_length_le (by omega)] at hO5
                  obtain ⟨a', n', c', W, hrun, hE9, hB9⟩ := oe_app hO5 (HRB4.out.t.keep hb5) (by rw [hkl, HLm.out]; omega) hb5.size
                  have hbW := hb5.trans hB9
                  have HRW := Lib.hid (show RB w.heap.size W (.slice (some ⟨g3, 0, none⟩) (out.length + 1) cap3) (.slice (some ⟨g2, 0, none⟩) (nos.length + 1) cap2) a' n' c' (out ++ [n2.rw x.name fi]) (nos ++ [n2.no]) (kidsL x.name n2 ++ todo) from ⟨own_keep HRB4.out.o hbW, own_keep HRB4.out.n hbW, hE9⟩)
                  have HBW := Lib.hid (HB4.out.trans (hbW.mono HB4.out.size))
                  have HR := Lib.hid hrun
                  have HLn := Lib.hid hE9.len
                  clear hO5 hb5 hrun hE9 hB9 hbW hkl
                  go_wp2_with (at_builtin; refine wpList_app_run rfl rfl rfl rfl HR.out ?_)
                  have hf1 := HO.out.2.2
                  have hf2 := HT3.out.fuel
                  rw [HLn.out] at hf2
                  go_roundw
                  case measure =>
                    simp only [lenV]
                    exact row_less (by omega) (by omega)
                  case rel => exact ⟨_, _, _, f, a', n', c', rfl, by simp [lenV], HRW.out, HT3.out, by rw [List.length_append, List.length_append, HO.out.2.1]; rfl, by rw [List.length_append, List.length_singleton]; omega, by rw [← HFi.out]; exact HE.out, HBW.out⟩
            · obtain ⟨j, rfl⟩ : ∃ i, j = i + 1 := ⟨j - 1, by omega⟩
              have hjl : j < nos.length := by omega
              obtain ⟨g, rfl, -, -⟩ : ∃ g, va = some ⟨g, 0, none⟩ ∧ w.heap.size ≤ g ∧ g < Y.heap.size := by
                rcases hvf with ⟨-, h0, -⟩ | h
                · omega
                · exact h
              have hcl := OI.cell (own_keep HRY.out.n hb2) j hjl
              have HST := Lib.hid (idx_step nos n2.no j hjl)
              have hjj : ((j + 1 : Nat) : Int) - 1 = (j : Int) := by omega
              rw [hjj]
              have hji : (j : Int) < (nos.length : Int) := by omega
              generalize nos[j] = q at hcl HST
              clear hb2 hvf
              by_cases hq : q = n2.no
              · have hcmp : (q == n2.no) = true := by simpa using hq
                have HS2 := Lib.hid (HST.out.trans (if_pos hq))
                clear hq
                go_upto_region 13 with fail
                go_quiet (fail)
                go_wp2_with fail
                go_roundw
                case measure => simp [intOf]
                case rel => exact ⟨j, by omega, by rw [HS2.out], rfl, below_drewN HB2.out _⟩
              · have hcmp : (q == n2.no) = false := by simpa using hq
                have HS2 := Lib.hid (HST.out.trans (if_neg hq))
                clear hq
                go_upto_region 13 with fail
                go_quiet (fail)
                go_wp2_with fail
                go_roundw
                case measure => simp [intOf]
                case rel => exact ⟨j, by omega, by rw [HS2.out], rfl, below_drewN HB2.out _⟩
end

end Go.Proofs.YtihdbncoijhihaaGreat

/- Rows of a tree lie in order, purely. -/
namespace Go.Proofs.YtihdbncoijhihaaGreat

open Go.RowKit

structure GoodN (p : List UInt8) : Prop where
  ne : p ≠ []
  n1 : p ≠ [46]
  n2 : p ≠ [46, 46]
  no : ∀ x ∈ p, x ≠ 47
  chk : checkE (str p) = 0
theorem good_of {s : ByteArray} (h : checkE s = 0) : GoodN s.data.toList := by
  have h0 := h
  unfold checkE at h
  split at h
  · cases h
  · rename_i hn
    simp only [not_or] at hn
    exact ⟨hn.1, hn.2.1, hn.2.2.1, fun x hx e => hn.2.2.2.1 (by rw [← e]; exact hx), by rw [str_of]; exact h0⟩
def pthL (ns : List (List UInt8)) : List UInt8 := 47 :: Lib.join ns [47]
def pth (ns : List (List UInt8)) : ByteArray := str (pthL ns)
theorem pthL_snoc (ns : List (List UInt8)) (p : List UInt8) : pthL (ns ++ [p]) = (if ns = [] then [] else pthL ns) ++ 47 :: p := by
  unfold pthL
  cases ns with
  | nil => rw [List.nil_append, join_one, if_pos rfl, List.nil_append]
  | cons y r => rw [join_snoc, if_neg (by simp), List.cons_append]
theorem pthL_trim {ns : List (List UInt8)} (h : ∀ p ∈ ns, GoodN p) : trimL (pthL ns) = if ns = [] then [] else pthL ns := by
  by_cases hn : ns = []
  · subst hn; rfl
  · rw [if_neg hn]
    obtain ⟨x, h1, h2⟩ := join_last hn (fun p hp => ⟨(h p hp).ne, (h p hp).no⟩)
    refine trimL_last (x := x) ?_ h2
    unfold pthL
    rw [List.getLast?_cons, h1]
    rfl
theorem below_pth {ns : List (List UInt8)} (h : ∀ p ∈ ns, GoodN p) (s : ByteArray) : belowB (pth ns) s = pth (ns ++ [s.data.toList]) := by
  unfold belowB pth
  rw [str_list, pthL_trim h, pthL_snoc]
/-- what lies where. -/
def OrdR (a b : List (List UInt8)) : Prop := a ≠ b ∧ ∀ p x y, a = p ++ [x] → b = p ++ [y] → Op.bytesLess x y = true
structure OrdSt (S : Fs) (vis : List (List (List UInt8) × An)) (td : List (List (List UInt8) × Int)) : Prop where
  vgood : ∀ y ∈ vis, ∀ p ∈ y.1, GoodN p
  tgood : ∀ y ∈ td, ∀ p ∈ y.1, GoodN p
  par : ∀ (i : Nat) (y : List (List UInt8) × An), vis[i]? = some y → ∀ p x, y.1 = p ++ [x] → ∃ (k : Nat) (z : List (List UInt8) × An), k < i ∧ vis[k]? = some z ∧ z.1 = p ∧ z.2.kind = 1
  tpar : ∀ y ∈ td, ∀ p x, y.1 = p ++ [x] → ∃ z ∈ vis, z.1 = p ∧ z.2.kind = 1
  ord : (vis.map (·.1) ++ td.map (·.1)).Pairwise OrdR
  get : ∀ y ∈ vis, S.get y.2.no = some y.2
def kidsN (ns : List (List UInt8)) (n : An) : List (List (List UInt8) × Int) := n.ents.map fun e => (ns ++ [e.name.data.toList], e.no)
end Go.Proofs.YtihdbncoijhihaaGreat

/- The way to each row of a planted tree, purely. -/
namespace Go.Proofs.YtihdbncoijhihaaGreat

open Go.RowKit

inductive Way (S : Fs) : List (List UInt8) → Int → Prop
  | top : Way S [] 1
  | down {ns : List (List UInt8)} {d : Int} {a : An} {e : En} (h : Way S ns d) (hg : S.get d = some a) (he : e ∈ a.ents) : Way S (ns ++ [e.name.data.toList]) (S.over e.no)
structure Grown (S : Fs) (N : Nat) : Prop where
  ok : FsOk S N
  pl : Pl S
  tr : Tr S
  nm : Nm S
  wy : Wy S
section

variable {S : Fs} {N : Nat}

theorem one_dev (h : Grown S N) {a : An} (ha : S.get 1 = some a) : a.dev = 1 ∧ S.root a.dev = a.no := by
  have hd1 : 0 < S.ds.length := h.ok.d1
  obtain ⟨r, h1, h2, h3⟩ := h.tr.rts 0 h.ok.d1
  obtain ⟨-, h4⟩ := dev_at (S := S) (i := 0) h.ok.d1
  have h5 : S.root 1 = S.ds[0].root := h4
  rw [← h5, h.pl.top, ha] at h1
  injection h1 with h1
  subst h1
  have h6 : a.dev = 1 := by omega
  exact ⟨h6, by rw [h6, h.pl.top, an_no ha]⟩
theorem over_cases (S : Fs) (k : Int) : S.over k = k ∨ ∃ (i : Nat) (hi : i < S.ds.length), S.ds[i].over = k ∧ k ≠ 0 ∧ S.over k = S.ds[i].root := by
  unfold Fs.over
  split
  · rename_i hk
    split
    · rename_i d hd
      obtain ⟨i, hi, hid⟩ := List.mem_iff_getElem.1 (List.mem_of_find?_eq_some hd)
      subst hid
      refine .inr ⟨i, hi, by simpa using List.find?_some hd, by omega, rfl⟩
    · exact .inl rfl
  · exact .inl rfl
theorem over_one (h : Grown S N) : S.over 1 = 1 := by
  rcases over_cases S 1 with h1 | ⟨i, hi, h2, -, -⟩
  · exact h1
  · obtain ⟨b, hb, hr⟩ := h.wy.mp S.ds[i] (List.getElem_mem hi) (by rw [h2]; decide)
    rw [h2] at hb
    exact absurd (one_dev h hb).2 hr
theorem nm_good (h : Grown S N) {d : Int} {a : An} (hg : S.get d = some a) {e : En} (he : e ∈ a.ents) : GoodN e.name.data.toList ∧ e.name.size ≤ 255 := by
  have hc := h.nm a (an_mem hg) e he
  refine ⟨good_of hc, ?_⟩
  unfold checkE at hc
  split at hc
  · cases hc
  · split at hc
    · cases hc
    · omega
theorem way_good (h : Grown S N) {ns : List (List UInt8)} {no : Int} (hw : Way S ns no) : ∀ p ∈ ns, GoodN p := by
  induction hw with
  | top => intro p hp; cases hp
  | down _ hg he ih =>
    intro p hp
    rcases List.mem_append.1 hp with hp | hp
    · exact ih p hp
    · simp at hp
      subst hp
      exact (nm_good h hg he).1
end

end Go.Proofs.YtihdbncoijhihaaGreat

/- Where rows of a planted tree lie, purely. -/
namespace Go.Proofs.YtihdbncoijhihaaGreat

open Go.RowKit

section

variable {S : Fs} {N : Nat}

end

end Go.Proofs.YtihdbncoijhihaaGreat

/- Each row of a planted tree is an operand, or a mount's root or above one, purely. -/
namespace Go.Proofs.YtihdbncoijhihaaGreat

open Go.RowKit

def Rw.pk (r : Rw) : ByteArray × Int := (r.path, r.kind)
def tdW (td : List (List (List UInt8) × Int)) : List En := td.map fun q => ⟨pth q.1, q.2⟩
def kidsW (ns : List (List UInt8)) (n : An) : List (List (List UInt8) × Int) := n.ents.map fun e => (ns ++ [e.name.data.toList], e.no)
theorem kids_tdW {ns : List (List UInt8)} (h : ∀ p ∈ ns, GoodN p) (n : An) (td : List (List (List UInt8) × Int)) : kidsL (pth ns) n ++ tdW td = tdW (kidsW ns n ++ td) := by
  unfold tdW kidsL kidsW
  rw [List.map_append, List.map_map]
  congr 1
  refine List.map_congr_left fun e he => ?_
  rw [below_pth h]
  rfl
section

variable {S : Fs} {N : Nat}

theorem kidsW_way {ns : List (List UInt8)} {n : An} (hw : Way S ns n.no) (hg : S.get n.no = some n) : ∀ y ∈ kidsW ns n, y.1 ≠ [] ∧ Way S y.1 (S.over y.2) := by
  intro y hy
  unfold kidsW at hy
  obtain ⟨e, he, rfl⟩ := List.mem_map.1 hy
  exact ⟨by simp, Way.down hw hg he⟩
theorem rowsN_way (h : Grown S N) : ∀ (f : Nat) (td : List (List (List UInt8) × Int)) (nos : List Int) (out : List Rw), (∀ y ∈ td, y.1 ≠ [] ∧ Way S y.1 (S.over y.2)) →
    ∃ more : List (List (List UInt8) × An), (∀ y ∈ more, y.1 ≠ [] ∧ Way S y.1 y.2.no ∧ S.get y.2.no = some y.2) ∧ (S.rowsN f (tdW td) nos out).map Rw.pk = out.map Rw.pk ++ more.map (fun y => (pth y.1, y.2.kind))
  | 0, _, _, out, _ => ⟨[], fun y hy => (by cases hy), by rw [List.map_nil, List.append_nil]; rfl⟩
  | f + 1, [], nos, out, _ => ⟨[], fun y hy => (by cases hy), by rw [List.map_nil, List.append_nil]; rfl⟩
  | f + 1, x :: td, nos, out, ht => by
    obtain ⟨hx1, hxw⟩ := ht x List.mem_cons_self
    have hxg := way_good h hxw
    cases hg : S.get (S.over x.2) with
    | none =>
      obtain ⟨m, h1, h2⟩ := rowsN_way h f td nos out (fun y hy => ht y (List.mem_cons_of_mem _ hy))
      refine ⟨m, h1, ?_⟩
      rw [← h2]
      exact congrArg _ (rows_none (x := ⟨pth x.1, x.2⟩) hg f _ _ _)
    | some n =>
      have hno := an_no hg
      rw [← hno] at hxw
      have hg2 : S.get n.no = some n := by rw [hno]; exact hg
      obtain ⟨m, h1, h2⟩ := rowsN_way h f (kidsW x.1 n ++ td) (nos ++ [n.no]) (out ++ [n.rw (pth x.1) (nos.idxOf n.no)]) (fun y hy => by
        rcases List.mem_append.1 hy with hy | hy
        · exact kidsW_way hxw hg2 y hy
        · exact ht y (List.mem_cons_of_mem _ hy))
      refine ⟨(x.1, n) :: m, fun y hy => ?_, ?_⟩
      · rcases List.mem_cons.1 hy with rfl | hy
        · exact ⟨hx1, hxw, hg2⟩
        · exact h1 y hy
      · rw [← kids_tdW hxg, List.map_append, List.append_assoc] at h2
        exact (congrArg _ (rows_some (x := ⟨pth x.1, x.2⟩) hg f _ _ _)).trans h2
theorem rows_pos (h : Grown S N) : 0 < (S.rows N 1 (ByteArray.mk #[47])).length := by
  obtain ⟨a, ha, hak⟩ := h.pl.one
  have ha2 : S.get (S.over 1) = some a := by rw [over_one h]; exact ha
  have hno := an_no ha
  have hg2 : S.get a.no = some a := by rw [hno]; exact ha
  have hw : Way S [] a.no := by rw [hno]; exact Way.top
  obtain ⟨m, h2, h3⟩ := rowsN_way h ((N + 1) * S.ns.length) (kidsW [] a) [a.no] [a.rw (pth []) (([] : List Int).idxOf a.no)] (kidsW_way hw hg2)
  have h4 : S.rows N 1 (ByteArray.mk #[47]) = S.rowsN ((N + 1) * S.ns.length) (tdW (kidsW [] a)) [a.no] [a.rw (pth []) (([] : List Int).idxOf a.no)] := by
    have hk := kids_tdW (ns := []) (fun p hp => by cases hp) a []
    rw [List.append_nil] at hk
    rw [← hk]
    unfold Fs.rows Fs.rowsF
    rw [show 1 + (N + 1) * S.ns.length = (N + 1) * S.ns.length + 1 by omega]
    exact rows_some (x := ⟨pth [], 1⟩) ha2 _ _ _ _
  rw [← h4] at h3
  have hl := congrArg List.length h3
  rw [List.length_map, List.length_append, List.length_map, List.length_map, List.length_singleton] at hl
  omega
end

end Go.Proofs.YtihdbncoijhihaaGreat

/- Clean paths: ragpickerref03.Clean. -/
namespace Go.Proofs.YtihdbncoijhihaaGreat

open Go.RowKit

end Go.Proofs.YtihdbncoijhihaaGreat

/- Clean paths: track.Clean. -/
namespace Go.Proofs.YtihdbncoijhihaaGreat

open Go.RowKit Go.Shelf

attribute [local go_sem] Oper.semAt_some

/-- between two rounds: the parts so far; whether the path begins at the top. -/
structure CC (w : World) (base : Nat) (wh : Bool) (pre : List (List UInt8)) (W : World) : Prop where
  whole : Blk W w.heap.size #[.bool wh] 4
  box : ∃ v, Blk W (w.heap.size + 1) #[v] 61 ∧ OS W base v (clL wh pre)
  below : Below w.heap.size w W
end Go.Proofs.YtihdbncoijhihaaGreat

/- Rows of some alone: the reference's Inside; Join and Rel of both. -/
namespace Go.Proofs.YtihdbncoijhihaaGreat

open Go.RowKit

end Go.Proofs.YtihdbncoijhihaaGreat

/- The statement TopdirRows's function. -/
namespace Go.Proofs.YtihdbncoijhihaaGreat

open Go.RowKit Go.Shelf

attribute [local go_sem] Oper.semAt_some

theorem rrowsB_any {w : World} {pf : Nat} {Rr : Rf} {S : Fs} (h : RfAt w pf Rr S) {N : Nat} (hk : FsOk S N) (hp : Pl S) (ht : Tr S) (hF : S.rowsF N ≤ 10000) (hN : N ≤ 100) :
    Calls Tryz.prog 14 #[.pointer (some ⟨pf, 0, none⟩)] w fun e w' => ∃ v, e = .returned v ∧ OR w' w.heap.size v (S.rows N 1 (ByteArray.mk #[47])) ∧ Below w.heap.size w w' := by
  have HE := Lib.hid (rrows_any h hk hp ht hF hN 1 (ByteArray.mk #[47]) (by decide))
  clear h hk hp ht
  go_enter Tryz.func14, Tryz.ntmps14
  go_wp2_with fail
  refine HE.out.mono ?_
  rintro e w1 ⟨v, rfl, ho, hb⟩
  go_wp2_with fail
  go_ret
  exact ⟨v, rfl, ho, hb⟩
end Go.Proofs.YtihdbncoijhihaaGreat
