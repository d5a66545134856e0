/- Texts of the proof, part 34. -/
import Derived.Deep.CutBlock
import Derived.Deep.DeepCutAuto
import Derived.RegionTactic
import Derived.BigRegion
import Derived.Test.YtaojpbgaengdpaaGreatPL19
set_option linter.unusedVariables false
set_option linter.unusedSimpArgs false
/- A node is read (layer 18): Stat, open, Read. -/
namespace Go.Proofs.YtaojpbgaengdpaaGreat

open Go.RowKit

/-- what Stat tells of a node. -/
def stV : Option An → Value
  | none => .agg #[.int .i64 0, .int .i64 0, .int .i64 0, .int .i64 0, .int .i64 0, .int .i64 0, .int .i64 0, .int .i64 0, .int .i64 0, .int .i64 0]
  | some n => .agg #[.int .i64 n.no, .int .i64 n.dev, .int .i64 n.kind, .int .i64 n.mode, .int .i64 n.uid, .int .i64 n.gid, .int .i64 n.links, .int .i64 n.data.size, .int .i64 n.mtime, .int .i64 n.ctime]
def noneE : Option An → Int
  | none => 5
  | some _ => 0
set_option maxRecDepth 100000 in
theorem Blk.set10 {w : World} {B : Nat} {x0 x1 x2 x3 x4 x5 x6 x7 x8 x9 v0 v1 v2 v3 v4 v5 v6 v7 v8 v9 : Value} {T : TypeId} (h : Blk w B #[x0, x1, x2, x3, x4, x5, x6, x7, x8, x9] T) : Blk ((((((((((w.setCell ⟨B, 0, none⟩ v0).setCell ⟨B, 1, none⟩ v1).setCell ⟨B, 2, none⟩ v2).setCell ⟨B, 3, none⟩ v3).setCell ⟨B, 4, none⟩ v4).setCell ⟨B, 5, none⟩ v5).setCell ⟨B, 6, none⟩ v6).setCell ⟨B, 7, none⟩ v7).setCell ⟨B, 8, none⟩ v8).setCell ⟨B, 9, none⟩ v9) B #[v0, v1, v2, v3, v4, v5, v6, v7, v8, v9] T :=
  Blk.row (xs := [x0, x1, x2, x3, x4, x5, x6, x7, x8, x9]) (vs := [v0, v1, v2, v3, v4, v5, v6, v7, v8, v9]) h rfl
set_option maxRecDepth 100000 in
theorem below_set10 {N : Nat} {w0 w : World} {B : Nat} {v0 v1 v2 v3 v4 v5 v6 v7 v8 v9 : Value} (h : Below N w0 w) (hB : N ≤ B) : Below N w0 ((((((((((w.setCell ⟨B, 0, none⟩ v0).setCell ⟨B, 1, none⟩ v1).setCell ⟨B, 2, none⟩ v2).setCell ⟨B, 3, none⟩ v3).setCell ⟨B, 4, none⟩ v4).setCell ⟨B, 5, none⟩ v5).setCell ⟨B, 6, none⟩ v6).setCell ⟨B, 7, none⟩ v7).setCell ⟨B, 8, none⟩ v8).setCell ⟨B, 9, none⟩ v9) :=
  below_row hB [v0, v1, v2, v3, v4, v5, v6, v7, v8, v9] w 0 h
set_option maxRecDepth 100000 in
set_option maxHeartbeats 1000000 in
theorem stat_results {tmps : Array Value} {W : World} {B : Nat} {y0 y1 y2 y3 y4 y5 y6 y7 y8 y9 e : Int} (hb : Blk W B #[.int .i64 y0, .int .i64 y1, .int .i64 y2, .int .i64 y3, .int .i64 y4, .int .i64 y5, .int .i64 y6, .int .i64 y7, .int .i64 y8, .int .i64 y9] 57)
    (h8 : tmps.getD 4 undef = .pointer (some ⟨B, 0, none⟩)) (h9 : tmps.getD 5 undef = .int .i64 e) : (results Tryz.f42 tmps).run Tryz.prog W = .ok (.tuple #[.agg #[.int .i64 y0, .int .i64 y1, .int .i64 y2, .int .i64 y3, .int .i64 y4, .int .i64 y5, .int .i64 y6, .int .i64 y7, .int .i64 y8, .int .i64 y9], .int .i64 e]) W := by
  have q0 := hb.cell 0
  have q1 := hb.cell 1
  have q2 := hb.cell 2
  have q3 := hb.cell 3
  have q4 := hb.cell 4
  have q5 := hb.cell 5
  have q6 := hb.cell 6
  have q7 := hb.cell 7
  have q8 := hb.cell 8
  have q9 := hb.cell 9
  rw [Array.getD_eq_getD_getElem?] at h8 h9
  simp [results, Tryz.results42, go_sem, h8, h9, q0, q1, q2, q3, q4, q5, q6, q7, q8, q9]
set_option maxRecDepth 100000 in
set_option maxHeartbeats 1000000 in
theorem open_results {tmps : Array Value} {W : World} {B : Nat} {a : An} {ea : Option Addr} {el ec : Nat} {e : Int} (hb : Blk W B #[.int .i64 a.no, .int .i64 a.dev, .int .i64 a.kind, .int .i64 a.mode, .int .i64 a.uid, .int .i64 a.gid, .int .i64 a.mtime, .int .i64 a.ctime, .int .i64 a.links, .int .i64 a.up, .string a.data, .slice ea el ec] 110)
    (h8 : tmps.getD 10 undef = .pointer (some ⟨B, 0, none⟩)) (h9 : tmps.getD 11 undef = .int .i64 e) : (results Tryz.f89 tmps).run Tryz.prog W = .ok (.tuple #[a.v ea el ec, .int .i64 e]) W := by
  obtain ⟨q0, q1, q2, q3, q4, q5, q6, q7, q8, q9, q10, q11⟩ := hb.cells12
  rw [Array.getD_eq_getD_getElem?] at h8 h9
  simp [results, Tryz.results89, go_sem, An.v, h8, h9, q0, q1, q2, q3, q4, q5, q6, q7, q8, q9, q10, q11]
/-- the error of open. -/
def Fs.openE (S : Fs) (c : Cr) (no kind want : Int) : Int := match S.get no with
  | none => 5
  | some n => if n.kind = kind then (if n.may c want = true then 0 else 6) else if kind = 1 then 9 else if n.kind = 1 then 8 else 1
def Fs.read (S : Fs) (c : Cr) (no : Int) : ByteArray × Int := if S.openE c no 2 4 = 0 then (match S.get no with | none => (ByteArray.empty, 0) | some n => (n.data, 0)) else (ByteArray.empty, S.openE c no 2 4)
section

variable {w w' : World} {pw : Nat} {R : Rp} {S : Fs}

set_option maxRecDepth 100000 in
set_option maxHeartbeats 1000000 in
theorem stat_any (h : WdAt w pw R S) {N : Nat} (hk : FsOk S N) (no : Int) :
    Calls Tryz.prog 42 #[.pointer (some ⟨pw, 0, none⟩), .int .i64 no] w fun e w' => e = .returned (.tuple #[stV (S.get no), .int .i64 (noneE (S.get no))]) ∧ Below w.heap.size w w' := by
  have HDv := Lib.hid (fun w1 (hb1 : Below w.heap.size w w1) => wdevs_any (h.keep hb1) hk.d1)
  have hnz := hk.d1
  generalize S.ds.length = n at HDv hnz
  have hz : ((n : Int) == 0) = false := by simp; omega
  obtain ⟨pc, -, pz⟩ := h.blk.facts
  have hRX := Blk.new w #[.int .i64 0, .int .i64 0, .int .i64 0, .int .i64 0, .int .i64 0, .int .i64 0, .int .i64 0, .int .i64 0, .int .i64 0, .int .i64 0] 57
  have hbX := balloc (Below.refl w.heap.size w) (.cells #[.int .i64 0, .int .i64 0, .int .i64 0, .int .i64 0, .int .i64 0, .int .i64 0, .int .i64 0, .int .i64 0, .int .i64 0, .int .i64 0] 57)
  cases hg : S.get no with
  | none =>
    have HG := Lib.hid (fun w1 (hb1 : Below w.heap.size w w1) => wget_no (h.keep hb1) hg)
    unfold An.v an0 at HG
    unfold stV noneE
    clear h hk hg
    go_enter Tryz.func42, Tryz.ntmps42
    go_wp2_with fail
    refine (HDv.out _ hbX).mono ?_
    rintro e w1 ⟨rfl, rfl⟩
    generalize w.alloc (.cells #[.int .i64 0, .int .i64 0, .int .i64 0, .int .i64 0, .int .i64 0, .int .i64 0, .int .i64 0, .int .i64 0, .int .i64 0, .int .i64 0] 57) = W0 at hRX hbX ⊢
    have HRX := Lib.hid hRX
    have HBX := Lib.hid hbX
    have pc0 : W0.cell? ⟨pw, 0, none⟩ = some (.pointer (some ⟨R.pt, 0, none⟩)) := (hbX.cell (p := ⟨pw, 0, none⟩) pz).trans (pc 0)
    clear hRX hbX pc
    go_wp2_with fail
    refine (HG.out _ HBX.out).mono ?_
    rintro e w1 ⟨rfl, hb1⟩
    have hRY := (HRX.out.keep hb1).old (.cells #[.int .i64 0, .int .i64 0, .int .i64 0, .int .i64 0, .int .i64 0, .int .i64 0, .int .i64 0, .int .i64 0, .int .i64 0, .int .i64 0, .string ByteArray.empty, .slice none 0 0] 110)
    have hbY := balloc (HBX.out.trans (hb1.mono HBX.out.size)) (.cells #[.int .i64 0, .int .i64 0, .int .i64 0, .int .i64 0, .int .i64 0, .int .i64 0, .int .i64 0, .int .i64 0, .int .i64 0, .int .i64 0, .string ByteArray.empty, .slice none 0 0] 110)
    clear hb1
    go_upto_region 4 with fail
    generalize w1.alloc (.cells #[.int .i64 0, .int .i64 0, .int .i64 0, .int .i64 0, .int .i64 0, .int .i64 0, .int .i64 0, .int .i64 0, .int .i64 0, .int .i64 0, .string ByteArray.empty, .slice none 0 0] 110) = Y at hRY hbY ⊢
    have HRY := Lib.hid hRY
    have HBY := Lib.hid hbY
    obtain ⟨rc, rf, rz⟩ := hRY.facts
    clear hRY hbY
    go_wp2_with fail
    exact bodyPost_ret (stat_results HRY.out.set10 rfl rfl) rfl ⟨rfl, below_set10 HBY.out (Nat.le_refl _)⟩
  | some d =>
    obtain ⟨ea, el, ec, he, hG⟩ := wget_fix h hg
    have HG := Lib.hid hG
    unfold An.v at HG
    unfold stV noneE
    clear h hk hg hG he
    go_enter Tryz.func42, Tryz.ntmps42
    go_wp2_with fail
    refine (HDv.out _ hbX).mono ?_
    rintro e w1 ⟨rfl, rfl⟩
    generalize w.alloc (.cells #[.int .i64 0, .int .i64 0, .int .i64 0, .int .i64 0, .int .i64 0, .int .i64 0, .int .i64 0, .int .i64 0, .int .i64 0, .int .i64 0] 57) = W0 at hRX hbX ⊢
    have HRX := Lib.hid hRX
    have HBX := Lib.hid hbX
    have pc0 : W0.cell? ⟨pw, 0, none⟩ = some (.pointer (some ⟨R.pt, 0, none⟩)) := (hbX.cell (p := ⟨pw, 0, none⟩) pz).trans (pc 0)
    clear hRX hbX pc
    go_wp2_with fail
    refine (HG.out _ HBX.out).mono ?_
    rintro e w1 ⟨rfl, hb1⟩
    have hRY := (HRX.out.keep hb1).old (.cells #[.int .i64 d.no, .int .i64 d.dev, .int .i64 d.kind, .int .i64 d.mode, .int .i64 d.uid, .int .i64 d.gid, .int .i64 d.mtime, .int .i64 d.ctime, .int .i64 d.links, .int .i64 d.up, .string d.data, .slice ea el ec] 110)
    have hbY := balloc (HBX.out.trans (hb1.mono HBX.out.size)) (.cells #[.int .i64 d.no, .int .i64 d.dev, .int .i64 d.kind, .int .i64 d.mode, .int .i64 d.uid, .int .i64 d.gid, .int .i64 d.mtime, .int .i64 d.ctime, .int .i64 d.links, .int .i64 d.up, .string d.data, .slice ea el ec] 110)
    have hDY := Blk.new w1 #[.int .i64 d.no, .int .i64 d.dev, .int .i64 d.kind, .int .i64 d.mode, .int .i64 d.uid, .int .i64 d.gid, .int .i64 d.mtime, .int .i64 d.ctime, .int .i64 d.links, .int .i64 d.up, .string d.data, .slice ea el ec] 110
    clear hb1
    go_upto_region 4 with fail
    generalize w1.alloc (.cells #[.int .i64 d.no, .int .i64 d.dev, .int .i64 d.kind, .int .i64 d.mode, .int .i64 d.uid, .int .i64 d.gid, .int .i64 d.mtime, .int .i64 d.ctime, .int .i64 d.links, .int .i64 d.up, .string d.data, .slice ea el ec] 110) = Y at hRY hbY hDY ⊢
    have HRY := Lib.hid hRY
    have HBY := Lib.hid hbY
    obtain ⟨rc, rf, rz⟩ := hRY.facts
    obtain ⟨dc, df, dz⟩ := hDY.facts
    clear hRY hbY hDY
    go_wp2_with fail
    exact bodyPost_ret (stat_results HRY.out.set10 rfl rfl) rfl ⟨rfl, below_set10 HBY.out (Nat.le_refl _)⟩
set_option maxRecDepth 100000 in
set_option maxHeartbeats 2000000 in
theorem open_any (h : WdAt w pw R S) {N : Nat} (hk : FsOk S N) (c : Cr) (no kind want : Int) :
    Calls Tryz.prog 89 #[.pointer (some ⟨pw, 0, none⟩), .agg #[.int .i64 c.u, .int .i64 c.g], .int .i64 no, .int .i64 kind, .int .i64 want] w fun e w' => ((S.openE c no kind want ≠ 0 ∧ e = .returned (.tuple #[an0.v none 0 0, .int .i64 (S.openE c no kind want)])) ∨ (S.openE c no kind want = 0 ∧ ∃ d ea el ec, S.get no = some d ∧ e = .returned (.tuple #[d.v ea el ec, .int .i64 0]) ∧ EntsAt w ea el ec d.ents)) ∧ Below w.heap.size w w' := by
  have HDv := Lib.hid (fun w1 (hb1 : Below w.heap.size w w1) => wdevs_any (h.keep hb1) hk.d1)
  have hnz := hk.d1
  generalize S.ds.length = n at HDv hnz
  have hz : ((n : Int) == 0) = false := by simp; omega
  obtain ⟨pc, -, pz⟩ := h.blk.facts
  have hRX : Blk ((w.alloc (.cells #[.int .i64 c.u, .int .i64 c.g] 55)).alloc (.cells #[.int .i64 0, .int .i64 0, .int .i64 0, .int .i64 0, .int .i64 0, .int .i64 0, .int .i64 0, .int .i64 0, .int .i64 0, .int .i64 0, .string ⟨#[]⟩, .slice none 0 0] 110)) (w.heap.size + 1) #[.int .i64 0, .int .i64 0, .int .i64 0, .int .i64 0, .int .i64 0, .int .i64 0, .int .i64 0, .int .i64 0, .int .i64 0, .int .i64 0, .string ⟨#[]⟩, .slice none 0 0] 110 := by
    have := Blk.new (w.alloc (.cells #[.int .i64 c.u, .int .i64 c.g] 55)) #[.int .i64 0, .int .i64 0, .int .i64 0, .int .i64 0, .int .i64 0, .int .i64 0, .int .i64 0, .int .i64 0, .int .i64 0, .int .i64 0, .string ⟨#[]⟩, .slice none 0 0] 110
    rwa [World.size_alloc] at this
  have hCX := (Blk.new w #[.int .i64 c.u, .int .i64 c.g] 55).old (.cells #[.int .i64 0, .int .i64 0, .int .i64 0, .int .i64 0, .int .i64 0, .int .i64 0, .int .i64 0, .int .i64 0, .int .i64 0, .int .i64 0, .string ⟨#[]⟩, .slice none 0 0] 110)
  have hbX := balloc (balloc (Below.refl w.heap.size w) (.cells #[.int .i64 c.u, .int .i64 c.g] 55)) (.cells #[.int .i64 0, .int .i64 0, .int .i64 0, .int .i64 0, .int .i64 0, .int .i64 0, .int .i64 0, .int .i64 0, .int .i64 0, .int .i64 0, .string ⟨#[]⟩, .slice none 0 0] 110)
  cases hg : S.get no with
  | none =>
    have HE := Lib.hid (show S.openE c no kind want = 5 by unfold Fs.openE; rw [hg])
    have HG := Lib.hid (fun w1 (hb1 : Below w.heap.size w w1) => wget_no (h.keep hb1) hg)
    unfold An.v an0 at HG
    generalize S.openE c no kind want = oe at HE ⊢
    clear h hk hg
    go_enter Tryz.func89, Tryz.ntmps89
    go_wp2_with fail
    refine (HDv.out _ hbX).mono ?_
    rintro e w1 ⟨rfl, rfl⟩
    generalize (w.alloc (.cells #[.int .i64 c.u, .int .i64 c.g] 55)).alloc (.cells #[.int .i64 0, .int .i64 0, .int .i64 0, .int .i64 0, .int .i64 0, .int .i64 0, .int .i64 0, .int .i64 0, .int .i64 0, .int .i64 0, .string ⟨#[]⟩, .slice none 0 0] 110) = W0 at hRX hCX hbX ⊢
    have HRX := Lib.hid hRX
    have HBX := Lib.hid hbX
    have pc0 : W0.cell? ⟨pw, 0, none⟩ = some (.pointer (some ⟨R.pt, 0, none⟩)) := (hbX.cell (p := ⟨pw, 0, none⟩) pz).trans (pc 0)
    clear hRX hbX pc hCX
    go_wp2_with fail
    refine (HG.out _ HBX.out).mono ?_
    rintro e w1 ⟨rfl, hb1⟩
    have hRY := (HRX.out.keep hb1).old (.cells #[.int .i64 0, .int .i64 0, .int .i64 0, .int .i64 0, .int .i64 0, .int .i64 0, .int .i64 0, .int .i64 0, .int .i64 0, .int .i64 0, .string ByteArray.empty, .slice none 0 0] 110)
    have hbY := balloc (HBX.out.trans (hb1.mono HBX.out.size)) (.cells #[.int .i64 0, .int .i64 0, .int .i64 0, .int .i64 0, .int .i64 0, .int .i64 0, .int .i64 0, .int .i64 0, .int .i64 0, .int .i64 0, .string ByteArray.empty, .slice none 0 0] 110)
    clear hb1
    go_upto_region 4 with fail
    generalize w1.alloc (.cells #[.int .i64 0, .int .i64 0, .int .i64 0, .int .i64 0, .int .i64 0, .int .i64 0, .int .i64 0, .int .i64 0, .int .i64 0, .int .i64 0, .string ByteArray.empty, .slice none 0 0] 110) = Y at hRY hbY ⊢
    have HRY := Lib.hid hRY
    have HBY := Lib.hid hbY
    obtain ⟨rc, rf, rz⟩ := hRY.facts
    clear hRY hbY
    go_wp2_with fail
    exact bodyPost_ret (open_results (a := an0) HRY.out.set12 rfl rfl) rfl ⟨.inl ⟨by rw [HE.out]; decide, by rw [HE.out]⟩, below_set12 HBY.out (Nat.le_succ _)⟩
  | some d =>
    obtain ⟨ea, el, ec, he, hG⟩ := wget_fix h hg
    have HG := Lib.hid hG
    have HE0 := Lib.hid he
    have HQ := Lib.hid (show S.openE c no kind want = if d.kind = kind then (if d.may c want = true then 0 else 6) else if kind = 1 then 9 else if d.kind = 1 then 8 else 1 by unfold Fs.openE; rw [hg])
    have HNd := Lib.hid (fun w => pnode_any c d ea el ec want w)
    unfold Cr.v An.v at HNd
    unfold An.v at HG
    generalize S.openE c no kind want = oe at HQ ⊢
    clear h hk hg hG he
    go_enter Tryz.func89, Tryz.ntmps89
    go_wp2_with fail
    refine (HDv.out _ hbX).mono ?_
    rintro e w1 ⟨rfl, rfl⟩
    generalize (w.alloc (.cells #[.int .i64 c.u, .int .i64 c.g] 55)).alloc (.cells #[.int .i64 0, .int .i64 0, .int .i64 0, .int .i64 0, .int .i64 0, .int .i64 0, .int .i64 0, .int .i64 0, .int .i64 0, .int .i64 0, .string ⟨#[]⟩, .slice none 0 0] 110) = W0 at hRX hCX hbX ⊢
    have HRX := Lib.hid hRX
    have HBX := Lib.hid hbX
    have HCX := Lib.hid hCX
    have pc0 : W0.cell? ⟨pw, 0, none⟩ = some (.pointer (some ⟨R.pt, 0, none⟩)) := (hbX.cell (p := ⟨pw, 0, none⟩) pz).trans (pc 0)
    clear hRX hbX pc hCX
    go_wp2_with fail
    refine (HG.out _ HBX.out).mono ?_
    rintro e w1 ⟨rfl, hb1⟩
    have hRY := (HRX.out.keep hb1).old (.cells #[.int .i64 d.no, .int .i64 d.dev, .int .i64 d.kind, .int .i64 d.mode, .int .i64 d.uid, .int .i64 d.gid, .int .i64 d.mtime, .int .i64 d.ctime, .int .i64 d.links, .int .i64 d.up, .string d.data, .slice ea el ec] 110)
    have hCY := (HCX.out.keep hb1).old (.cells #[.int .i64 d.no, .int .i64 d.dev, .int .i64 d.kind, .int .i64 d.mode, .int .i64 d.uid, .int .i64 d.gid, .int .i64 d.mtime, .int .i64 d.ctime, .int .i64 d.links, .int .i64 d.up, .string d.data, .slice ea el ec] 110)
    have hbY := balloc (HBX.out.trans (hb1.mono HBX.out.size)) (.cells #[.int .i64 d.no, .int .i64 d.dev, .int .i64 d.kind, .int .i64 d.mode, .int .i64 d.uid, .int .i64 d.gid, .int .i64 d.mtime, .int .i64 d.ctime, .int .i64 d.links, .int .i64 d.up, .string d.data, .slice ea el ec] 110)
    have hDY := Blk.new w1 #[.int .i64 d.no, .int .i64 d.dev, .int .i64 d.kind, .int .i64 d.mode, .int .i64 d.uid, .int .i64 d.gid, .int .i64 d.mtime, .int .i64 d.ctime, .int .i64 d.links, .int .i64 d.up, .string d.data, .slice ea el ec] 110
    clear hb1
    go_upto_region 4 with fail
    generalize w1.alloc (.cells #[.int .i64 d.no, .int .i64 d.dev, .int .i64 d.kind, .int .i64 d.mode, .int .i64 d.uid, .int .i64 d.gid, .int .i64 d.mtime, .int .i64 d.ctime, .int .i64 d.links, .int .i64 d.up, .string d.data, .slice ea el ec] 110) = Y at hRY hbY hDY hCY ⊢
    have HRY := Lib.hid hRY
    have HBY := Lib.hid hbY
    have HDY := Lib.hid hDY
    obtain ⟨rc, rf, rz⟩ := hRY.facts
    obtain ⟨dc, df, dz⟩ := hDY.facts
    obtain ⟨cc, -, -⟩ := hCY.facts
    clear hRY hbY hDY hCY
    by_cases h1 : d.kind = kind
    · have h1' : (d.kind == kind) = true := by simpa using h1
      have HQ1 := Lib.hid (HQ.out.trans (if_pos h1))
      clear h1 HQ
      go_wp2_with fail
      refine (HNd.out _).mono ?_
      rintro e w5 ⟨rfl, hb5⟩
      have hRZ := HRY.out.keep hb5
      have hDZ := HDY.out.keep hb5
      have HRZ := Lib.hid hRZ
      have HBZ := Lib.hid (HBY.out.trans (hb5.mono HBY.out.size))
      clear rc rf rz dc df dz cc hb5
      obtain ⟨rc, rf, rz⟩ := hRZ.facts
      obtain ⟨dc, df, dz⟩ := hDZ.facts
      clear hRZ hDZ
      cases hm : d.may c want with
      | true =>
        have HE := Lib.hid (HQ1.out.trans (if_pos hm))
        clear hm
        go_wp2_with fail
        exact bodyPost_ret (open_results (a := d) (ea := ea) (el := el) (ec := ec) HRZ.out.set12 rfl rfl) rfl ⟨.inr ⟨HE.out, d, ea, el, ec, rfl, rfl, HE0.out⟩, below_set12 HBZ.out (Nat.le_succ _)⟩
      | false =>
        have HE := Lib.hid (HQ1.out.trans (if_neg (by rw [hm]; decide)))
        clear hm
        go_wp2_with fail
        exact bodyPost_ret (open_results (a := an0) HRZ.out.set12 rfl rfl) rfl ⟨.inl ⟨by rw [HE.out]; decide, by rw [HE.out]⟩, below_set12 HBZ.out (Nat.le_succ _)⟩
    · have h1' : (d.kind == kind) = false := by simpa using h1
      have HQ1 := Lib.hid (HQ.out.trans (if_neg h1))
      clear h1 HQ
      by_cases h2 : kind = 1
      · have h2' : (kind == 1) = true := by simpa using h2
        have HE := Lib.hid (HQ1.out.trans (if_pos h2))
        clear h2
        go_wp2_with fail
        exact bodyPost_ret (open_results (a := an0) HRY.out.set12 rfl rfl) rfl ⟨.inl ⟨by rw [HE.out]; decide, by rw [HE.out]⟩, below_set12 HBY.out (Nat.le_succ _)⟩
      · have h2' : (kind == 1) = false := by simpa using h2
        have HQ2 := Lib.hid (HQ1.out.trans (if_neg h2))
        clear h2 HQ1
        by_cases h3 : d.kind = 1
        · have h3' : (d.kind == 1) = true := by simpa using h3
          have HE := Lib.hid (HQ2.out.trans (if_pos h3))
          clear h3
          go_wp2_with fail
          exact bodyPost_ret (open_results (a := an0) HRY.out.set12 rfl rfl) rfl ⟨.inl ⟨by rw [HE.out]; decide, by rw [HE.out]⟩, below_set12 HBY.out (Nat.le_succ _)⟩
        · have h3' : (d.kind == 1) = false := by simpa using h3
          have HE := Lib.hid (HQ2.out.trans (if_neg h3))
          clear h3
          go_wp2_with fail
          exact bodyPost_ret (open_results (a := an0) HRY.out.set12 rfl rfl) rfl ⟨.inl ⟨by rw [HE.out]; decide, by rw [HE.out]⟩, below_set12 HBY.out (Nat.le_succ _)⟩
set_option maxRecDepth 100000 in
set_option maxHeartbeats 1000000 in
theorem pread_any (h : WdAt w pw R S) {N : Nat} (hk : FsOk S N) (c : Cr) (no : Int) :
    Calls Tryz.prog 43 #[.pointer (some ⟨pw, 0, none⟩), .agg #[.int .i64 c.u, .int .i64 c.g], .int .i64 no] w fun e w' => e = .returned (.tuple #[.string (S.read c no).1, .int .i64 (S.read c no).2]) ∧ Below w.heap.size w w' := by
  have HO := Lib.hid (fun w1 (hb1 : Below w.heap.size w w1) => open_any (h.keep hb1) hk c no 2 4)
  have HR := Lib.hid (show S.read c no = if S.openE c no 2 4 = 0 then (match S.get no with | none => (ByteArray.empty, 0) | some n => (n.data, 0)) else (ByteArray.empty, S.openE c no 2 4) from rfl)
  generalize S.read c no = rd at HR ⊢
  clear h hk
  go_enter Tryz.func43, Tryz.ntmps43
  go_wp2_with fail
  refine (HO.out _ (balloc (Below.refl _ _) _)).mono ?_
  rintro e w1 ⟨⟨h0, rfl⟩ | ⟨h0, d, ea, el, ec, hg, rfl, -⟩, hb1⟩
  · have HB := Lib.hid (bnext (balloc (Below.refl w.heap.size w) _) hb1)
    have HE := Lib.hid (HR.out.trans (if_neg h0))
    generalize S.openE c no 2 4 = oe at HE ⊢
    unfold An.v an0
    clear h0 hb1
    go_wp2_with fail
    go_ret2
    rw [HE.out]
    exact ⟨rfl, balloc HB.out _⟩
  · have HB := Lib.hid (bnext (balloc (Below.refl w.heap.size w) _) hb1)
    have HE := Lib.hid (show rd = (d.data, 0) by rw [HR.out, if_pos h0, hg])
    unfold An.v
    clear h0 hb1 hg
    go_wp2_with fail
    go_ret2
    rw [HE.out]
    exact ⟨rfl, balloc HB.out _⟩
end

end Go.Proofs.YtaojpbgaengdpaaGreat
