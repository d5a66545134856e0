/- Texts of the proof, part 21. -/
import Derived.Deep.CutBlock
import Derived.Deep.DeepCutAuto
import Derived.RegionTactic
import Derived.BigRegion
import Derived.Test.YtaojpbgaengdpaaST20
set_option linter.unusedVariables false
set_option linter.unusedSimpArgs false
/- Mounts (layer 14): a node comes on its mount. -/
namespace Go.Proofs.Ytaojpbgaengdpaa

open Go.RowKit

section

variable {w w' : World} {pw : Nat} {R : Rp} {S : Fs}

theorem make_none {S : Fs} {a : An} (h : S.root a.dev = 0) : S.make a = (S, 0, 1) := by unfold Fs.make; rw [if_pos h]
theorem make_err {S : Fs} {a : An} {v : Dv} (h : S.root a.dev ≠ 0) (hv : S.dev a.dev = some v) (he : tkE v.b v.n v.mb v.mn (blkI a.kind a.data.size) 1 ≠ 0) : S.make a = (S, 0, tkE v.b v.n v.mb v.mn (blkI a.kind a.data.size) 1) := by
  unfold Fs.make; rw [if_neg h, hv]; simp only; rw [if_neg he]
theorem make_ok {S : Fs} {a : An} {v : Dv} (h : S.root a.dev ≠ 0) (hv : S.dev a.dev = some v) (he : tkE v.b v.n v.mb v.mn (blkI a.kind a.data.size) 1 = 0) :
    S.make a = ((S.setDev a.dev { v with b := v.b + blkI a.kind a.data.size, n := v.n + 1 }).add a, S.last + 1, 0) := by
  unfold Fs.make; rw [if_neg h, hv]; simp only; rw [if_pos he]
set_option maxRecDepth 100000 in
set_option maxHeartbeats 1000000 in
theorem wmake_none (h : WdAt w pw R S) (hd : 0 < S.ds.length) (a : An) (ea : Option Addr) (el ec : Nat) (hr : S.root a.dev = 0) :
    Calls Try.prog 77 #[.pointer (some ⟨pw, 0, none⟩), a.v ea el ec] w fun e w' => e = .returned (.tuple #[.int .i64 0, .int .i64 1]) ∧ Below w.heap.size w w' := by
  have HR := Lib.hid (wroot_any (h.keep ((Below.refl _ w).alloc (Nat.le_refl _) (.cells #[.int .i64 a.no, .int .i64 a.dev, .int .i64 a.kind, .int .i64 a.mode, .int .i64 a.uid, .int .i64 a.gid, .int .i64 a.mtime, .int .i64 a.ctime, .int .i64 a.links, .int .i64 a.up, .string a.data, .slice ea el ec] 97))) hd a.dev)
  rw [hr] at HR
  unfold An.v
  clear h hd hr
  go_enter Try.func77, Try.ntmps77
  go_wp2_with fail
  refine HR.out.mono ?_
  rintro e w1 ⟨rfl, rfl⟩
  go_wp2_with fail
  go_ret2
  exact ⟨rfl, balloc (Below.refl _ _) _⟩
set_option maxRecDepth 100000 in
set_option maxHeartbeats 2000000 in
theorem wmake_mid (h : WdAt w pw R S) {k : Nat} (hk : k < S.ds.length) (a : An) (ea : Option Addr) (el ec : Nat) (he : EntsAt w ea el ec a.ents) (hdev : a.dev = (k : Int) + 1) (hr : S.root a.dev ≠ 0) (hs : a.data.size ≤ 9223372036854775807) (hl0 : 0 ≤ S.last) (hl1 : S.last ≤ 1000000) :
    Calls Try.prog 77 #[.pointer (some ⟨pw, 0, none⟩), a.v ea el ec] w fun e w' => e = .returned (.tuple #[.int .i64 (S.make a).2.1, .int .i64 (S.make a).2.2]) ∧ ∃ R', WdAt w' pw R' (S.make a).1 ∧ Stp (R.F pw) (R'.F pw) w w' := by
  have HR := Lib.hid (wroot_any (h.keep ((Below.refl _ w).alloc (Nat.le_refl _) (.cells #[.int .i64 a.no, .int .i64 a.dev, .int .i64 a.kind, .int .i64 a.mode, .int .i64 a.uid, .int .i64 a.gid, .int .i64 a.mtime, .int .i64 a.ctime, .int .i64 a.links, .int .i64 a.up, .string a.data, .slice ea el ec] 97))) (by omega) a.dev)
  obtain ⟨g, cap, hdv, hle, h63, hgl, hc, hfg, -⟩ := h.devF (by omega)
  obtain ⟨c0, c1, c2, c3, c4, c5⟩ := hc k hk
  obtain ⟨v, hv⟩ : ∃ v, S.ds[k] = v := ⟨_, rfl⟩
  rw [hv] at c0 c1 c2 c3 c4 c5
  obtain ⟨pc, -, pz⟩ := h.blk.facts
  rw [hdv] at pc
  obtain ⟨rt, hrt⟩ : ∃ rt, S.root a.dev = rt := ⟨_, rfl⟩
  have hrn := hr
  rw [hrt] at HR hr
  have hdv2 : S.dev a.dev = some v := by
    unfold Fs.dev
    rw [if_pos (by omega), hdev, show ((k : Int) + 1 - 1).toNat = k by omega, List.getElem?_eq_getElem hk, hv]
  obtain ⟨n, hn⟩ : ∃ n, S.ds.length = n := ⟨_, rfl⟩
  have hkn : k < n := by omega
  rw [hn] at pc hle
  have hr2 : (rt == 0) = false := by simpa using hr
  have hT := fun w => take_any v.b v.n v.mb v.mn (blkI a.kind a.data.size) 1 w
  unfold tkV at hT
  have HB := Lib.hid (fun w => blocks_any a.kind a.data.size (by omega) w)
  have HM1 := Lib.hid (fun (he0 : tkE v.b v.n v.mb v.mn (blkI a.kind a.data.size) 1 ≠ 0) => make_err hrn hdv2 he0)
  have HM2 := Lib.hid (fun (he0 : tkE v.b v.n v.mb v.mn (blkI a.kind a.data.size) 1 = 0) => make_ok hrn hdv2 he0)
  have HQ := Lib.hid (fun (he0 : tkE v.b v.n v.mb v.mn (blkI a.kind a.data.size) 1 = 0) => show tkB v.b v.n v.mb v.mn (blkI a.kind a.data.size) 1 = v.b + blkI a.kind a.data.size ∧ tkN v.b v.n v.mb v.mn (blkI a.kind a.data.size) 1 = v.n + 1 by unfold tkB tkN; rw [if_pos he0, if_pos he0]; exact ⟨rfl, rfl⟩)
  have HW0 := Lib.hid h
  have HE0 := Lib.hid he
  have HDv := Lib.hid hdv
  have HV := Lib.hid (show ∃ hk : k < S.ds.length, S.ds[k] = v from ⟨hk, hv⟩)
  have Hdev := Lib.hid hdev
  unfold An.v
  rw [hdev] at HR ⊢
  have B1 := Blk.new w #[.int .i64 a.no, .int .i64 ((k : Int) + 1), .int .i64 a.kind, .int .i64 a.mode, .int .i64 a.uid, .int .i64 a.gid, .int .i64 a.mtime, .int .i64 a.ctime, .int .i64 a.links, .int .i64 a.up, .string a.data, .slice ea el ec] 97
  have hb1 := (Below.refl w.heap.size w).alloc (Nat.le_refl _) (.cells #[.int .i64 a.no, .int .i64 ((k : Int) + 1), .int .i64 a.kind, .int .i64 a.mode, .int .i64 a.uid, .int .i64 a.gid, .int .i64 a.mtime, .int .i64 a.ctime, .int .i64 a.links, .int .i64 a.up, .string a.data, .slice ea el ec] 97)
  clear h hr hrn hrt hn hv hc hdv hdv2 he hk hdev c0 c1
  generalize blkI a.kind a.data.size = bk at hT HB HM1 HM2 HQ
  generalize tkE v.b v.n v.mb v.mn bk 1 = e0 at hT HM1 HM2 HQ
  generalize tkB v.b v.n v.mb v.mn bk 1 = qb at hT HQ
  generalize tkN v.b v.n v.mb v.mn bk 1 = qn at hT HQ
  have HT := Lib.hid hT
  clear hT
  go_enter Try.func77, Try.ntmps77
  go_wp2_with fail
  refine HR.out.mono ?_
  rintro e w1 ⟨rfl, rfl⟩
  generalize w.alloc (.cells #[.int .i64 a.no, .int .i64 ((k : Int) + 1), .int .i64 a.kind, .int .i64 a.mode, .int .i64 a.uid, .int .i64 a.gid, .int .i64 a.mtime, .int .i64 a.ctime, .int .i64 a.links, .int .i64 a.up, .string a.data, .slice ea el ec] 97) = W at B1 hb1 ⊢
  obtain ⟨Bn, hBn⟩ : ∃ Bn, w.heap.size = Bn := ⟨_, rfl⟩
  rw [hBn] at B1 ⊢
  obtain ⟨bc, bf, bz⟩ := B1.facts
  rw [← hb1.cell (p := ⟨g, k * 6 + 2, none⟩) hgl] at c2
  rw [← hb1.cell (p := ⟨g, k * 6 + 3, none⟩) hgl] at c3
  rw [← hb1.cell (p := ⟨g, k * 6 + 4, none⟩) hgl] at c4
  rw [← hb1.cell (p := ⟨g, k * 6 + 5, none⟩) hgl] at c5
  have pc1 : W.cell? ⟨pw, 1, none⟩ = _ := (hb1.cell (p := ⟨pw, 1, none⟩) pz).trans (pc 1)
  have hgW : g < W.heap.size := Nat.lt_of_lt_of_le hgl hb1.size
  have hpW : pw < W.heap.size := Nat.lt_of_lt_of_le pz hb1.size
  have HW := Lib.hid hb1
  have HB1 := Lib.hid B1
  have HBn := Lib.hid hBn
  clear pc hb1 B1 hBn
  go_upto_region 3 with (fail)
  go_cut [6, 7] (fun t6 t7 wx => ∃ Bq : Nat, t6 = .pointer (some ⟨Bq, 0, none⟩) ∧ t7 = .int .i64 e0 ∧ Blk wx Bq #[.int .i64 qb, .int .i64 qn, .int .i64 v.mb, .int .i64 v.mn] 120 ∧ Below W.heap.size W wx)
  case first =>
    go_wp2_with fail
    have hw1 : IntKind.i64.wrap ((k : Int) + 1 - 1) = (k : Int) := by rw [IntKind.wrap_i64]; omega
    have hw2 : IntKind.i64.wrap (k : Int) = (k : Int) := by rw [IntKind.wrap_i64]; omega
    have hb3 : (k : Int) < (n : Int) := by omega
    have hb4 : (0 : Int) ≤ (k : Int) := by omega
    have hzz : W.heap.size ≤ W.heap.size := Nat.le_refl _
    go_region_held3 (fun w' => (∀ b o, b < W.heap.size → w'.cell? ⟨b, o, none⟩ = W.cell? ⟨b, o, none⟩) ∧ Below W.heap.size W w') (first | with_reducible assumption | with_reducible exact keepS_here _ | with_reducible exact keepS_here2 _ | with_reducible exact keepS_call (by assumption) (by assumption) | with_reducible exact keepS_alloc (by assumption) _ | with_reducible exact keepS_allocD (by assumption) _ | with_reducible exact keepS_realloc (by assumption) (by assumption) | with_reducible exact keepS_set4 (by assumption) (by assumption))
      (first | (go_at_call 85; ((with_reducible refine (HB.out _).mono ?_); rintro e w4 ⟨rfl, rfl⟩)) | (go_at_call 64; ((with_reducible refine (HT.out _).mono ?_); rintro e w4 ⟨rfl, hb5⟩; have hz5 := Nat.le_trans (And.right ‹(∀ b o, b < W.heap.size → _) ∧ Below W.heap.size W _›).size hb5.size; try (have hbq := new_drew hb5; obtain ⟨bqc, bqf, bqz⟩ := hbq.facts))))
    all_goals
      obtain ⟨-, hS4⟩ := ‹_ ∧ Below W.heap.size W _›
      have HS4 := Lib.hid hS4
      try (have HQ4 := Lib.hid hbq)
      clear hS4
      go_wp2_with fail
      go_meet
      exact ⟨_, rfl, rfl, by first | exact HQ4.out.set4 | exact Blk.new _ _ _, HS4.out⟩
  case rest =>
    obtain ⟨Bq, rfl, rfl, hQ, hS⟩ := hcut
    have HS := Lib.hid hS
    have HWc := Lib.hid (show Below w.heap.size w wc from HW.out.trans (hS.mono HW.out.size))
    by_cases h0 : e0 = 0
    · obtain ⟨hk, hv⟩ := HV.out
      obtain ⟨rfl, rfl⟩ := HQ.out h0
      have HMk := Lib.hid (HM2.out h0)
      subst h0
      obtain ⟨qc, qf, qz⟩ := hQ.facts
      have pcw : wc.cell? ⟨pw, 1, none⟩ = _ := (hS.cell (p := ⟨pw, 1, none⟩) hpW).trans pc1
      have bcw : wc.cell? ⟨Bn, 1, none⟩ = _ := (hS.cell (p := ⟨Bn, 1, none⟩) bz).trans (bc 1)
      rw [← hS.cell (p := ⟨g, k * 6 + 2, none⟩) hgW] at c2
      rw [← hS.cell (p := ⟨g, k * 6 + 3, none⟩) hgW] at c3
      rw [← hS.cell (p := ⟨g, k * 6 + 4, none⟩) hgW] at c4
      rw [← hS.cell (p := ⟨g, k * 6 + 5, none⟩) hgW] at c5
      have hfw : ∀ i, wc.frozen? ⟨g, i, none⟩ = false := fun i => (HWc.out.frozen (p := ⟨g, i, none⟩) hgl).trans (hfg i)
      have hWd := HW0.out.keep HWc.out
      obtain ⟨hWq, hMq⟩ := hWd.setQ HDv.out hk v hv (v.b + bk) (v.n + 1)
      have hgF : R.F pw g := .inr (.inr (.inr (by rw [HDv.out]; rfl)))
      have hStq : Stp (R.F pw) (R.F pw) wc _ := Stp.of_mod (hMq.mono (fun x hx => by rw [hx]; exact hgF))
      have HEq := Lib.hid ((HE0.out.keep HWc.out).wd hWd hStq)
      have hBq := (HB1.out.keep hS).wd hWd hStq rfl
      have HWq := Lib.hid hWq
      have HSt := Lib.hid ((Stp.of_below HWc.out).trans hStq)
      clear hWd hWq hMq hStq pc1 hfg
      go_wp2_with fail
      have mixed : Try.prog.follows .mixedOrders = true := by kernel_rfl
      have hw1 : IntKind.i64.wrap ((k : Int) + 1 - 1) = (k : Int) := by rw [IntKind.wrap_i64]; omega
      have hw2 : IntKind.i64.wrap (k : Int) = (k : Int) := by rw [IntKind.wrap_i64]; omega
      have hb3 : (k : Int) < (n : Int) := by omega
      have hb4 : (0 : Int) ≤ (k : Int) := by omega
      refine wp_region_lex 8 mixed (by kernel_rfl) then_panic ?_
      simp only [List.take_succ_cons, List.take_zero, List.drop_succ_cons, List.drop_zero]
      repeat still_step
      refine wpStill_nil ?_
      go_wp2_with fail
      generalize (((wc.setCell ⟨g, k * 6 + 2, none⟩ (.int .i64 (v.b + bk))).setCell ⟨g, k * 6 + 3, none⟩ (.int .i64 (v.n + 1))).setCell ⟨g, k * 6 + 4, none⟩ (.int .i64 v.mb)).setCell ⟨g, k * 6 + 5, none⟩ (.int .i64 v.mn) = X at HEq hBq HWq HSt ⊢
      obtain ⟨xc, -, xz⟩ := HWq.out.blk.facts
      obtain ⟨bc, bf, bz⟩ := hBq.facts
      clear c2 c3 c4 c5 hfw pcw bcw qc qf qz
      refine wp_region_lex 5 mixed (by kernel_rfl) then_panic ?_
      simp only [List.take_succ_cons, List.take_zero, List.drop_succ_cons, List.drop_zero]
      repeat still_step
      refine wpStill_nil ?_
      have hXd : Below X.heap.size X X.drew.drew := ((Below.refl _ X).drew).drew
      have hAdd := (HWq.out.keep hXd).addN a (HEq.out.keep hXd) hl0 hl1
      unfold An.v at hAdd
      rw [Hdev.out] at hAdd
      have HAdd := Lib.hid hAdd
      clear hAdd
      go_wp2_with fail
      refine HAdd.out.mono ?_
      rintro e w5 ⟨rfl, R', hR1, hR2, -, -⟩
      have HR' := Lib.hid (And.intro hR1 hR2)
      clear hR1 hR2
      go_wp2_with fail
      go_ret2
      rw [HMk.out]
      refine ⟨rfl, R', ?_, (HSt.out.trans (Stp.of_below hXd)).trans HR'.out.2⟩
      rw [Hdev.out]
      exact HR'.out.1
    · have HMk := Lib.hid (HM1.out h0)
      have he2 : (e0 != 0) = true := by simpa using h0
      clear h0
      go_wp2_with fail
      go_ret2
      rw [HMk.out]
      exact ⟨rfl, R, HW0.out.keep HWc.out, Stp.of_below HWc.out⟩
end

end Go.Proofs.Ytaojpbgaengdpaa
