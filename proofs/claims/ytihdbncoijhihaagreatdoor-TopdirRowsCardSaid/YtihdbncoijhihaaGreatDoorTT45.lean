/- Texts of the proof, part 45. -/
import Derived.OrdersHeld
import Derived.Test.YtihdbncoijhihaaGreatDoorTT44
import Derived.Test.YtihdbncoijhihaaGreatDoorTT8
import Derived.Test.YtihdbncoijhihaaGreatDoorTT21
import Derived.Test.YtihdbncoijhihaaGreatDoorTT26
import Derived.Test.YtihdbncoijhihaaGreatDoorTT29
import Derived.Test.YtihdbncoijhihaaGreatDoorTT1
set_option linter.unusedVariables false
set_option linter.unusedSimpArgs false
/- The reference's Stat, Find, Top and Path (layers 21, 24). (printed by gen_topa.py) -/
namespace Go.Proofs.YtihdbncoijhihaaGreatDoor

open Go.RowKit

set_option maxRecDepth 100000 in
set_option maxHeartbeats 1000000 in
theorem rstat_results {tmps : Array Value} {W : World} {B : Nat} {y0 y1 y2 y3 y4 y5 y6 y7 y8 y9 e : Int} (hb : Blk W B #[.int .i64 y0, .int .i64 y1, .int .i64 y2, .int .i64 y3, .int .i64 y4, .int .i64 y5, .int .i64 y6, .int .i64 y7, .int .i64 y8, .int .i64 y9] 172)
    (h8 : tmps.getD 4 undef = .pointer (some ⟨B, 0, none⟩)) (h9 : tmps.getD 5 undef = .int .i64 e) : (results Tryz.f155 tmps).run Tryz.prog W = .ok (.tuple #[.agg #[.int .i64 y0, .int .i64 y1, .int .i64 y2, .int .i64 y3, .int .i64 y4, .int .i64 y5, .int .i64 y6, .int .i64 y7, .int .i64 y8, .int .i64 y9], .int .i64 e]) W := by
  have q0 := hb.cell 0
  have q1 := hb.cell 1
  have q2 := hb.cell 2
  have q3 := hb.cell 3
  have q4 := hb.cell 4
  have q5 := hb.cell 5
  have q6 := hb.cell 6
  have q7 := hb.cell 7
  have q8 := hb.cell 8
  have q9 := hb.cell 9
  rw [Array.getD_eq_getD_getElem?] at h8 h9
  simp [results, Tryz.results155, go_sem, h8, h9, q0, q1, q2, q3, q4, q5, q6, q7, q8, q9]

set_option maxRecDepth 100000 in
set_option maxHeartbeats 1000000 in
theorem rstat21_results {tmps : Array Value} {W : World} {B : Nat} {y0 y1 y2 y3 y4 y5 y6 y7 y8 y9 e : Int} (hb : Blk W B #[.int .i64 y0, .int .i64 y1, .int .i64 y2, .int .i64 y3, .int .i64 y4, .int .i64 y5, .int .i64 y6, .int .i64 y7, .int .i64 y8, .int .i64 y9] 172)
    (h8 : tmps.getD 4 undef = .pointer (some ⟨B, 0, none⟩)) (h9 : tmps.getD 5 undef = .int .i64 e) : (results Tryz.f79 tmps).run Tryz.prog W = .ok (.tuple #[.agg #[.int .i64 y0, .int .i64 y1, .int .i64 y2, .int .i64 y3, .int .i64 y4, .int .i64 y5, .int .i64 y6, .int .i64 y7, .int .i64 y8, .int .i64 y9], .int .i64 e]) W := by
  have q0 := hb.cell 0
  have q1 := hb.cell 1
  have q2 := hb.cell 2
  have q3 := hb.cell 3
  have q4 := hb.cell 4
  have q5 := hb.cell 5
  have q6 := hb.cell 6
  have q7 := hb.cell 7
  have q8 := hb.cell 8
  have q9 := hb.cell 9
  rw [Array.getD_eq_getD_getElem?] at h8 h9
  simp [results, Tryz.results79, go_sem, h8, h9, q0, q1, q2, q3, q4, q5, q6, q7, q8, q9]

set_option maxRecDepth 100000 in
set_option maxHeartbeats 1000000 in
theorem rfind21_results {tmps : Array Value} {W : World} {B : Nat} {x : Fd} {e : Int} (hb : Blk W B #[.int .i64 x.dir, .string x.name, .int .i64 x.no, .bool x.slash] 58)
    (h8 : tmps.getD 8 undef = .pointer (some ⟨B, 0, none⟩)) (h9 : tmps.getD 9 undef = .int .i64 e) : (results Tryz.f90 tmps).run Tryz.prog W = .ok (.tuple #[x.v, .int .i64 e]) W := by
  have q0 := hb.cell 0
  have q1 := hb.cell 1
  have q2 := hb.cell 2
  have q3 := hb.cell 3
  rw [Array.getD_eq_getD_getElem?] at h8 h9
  simp [results, Tryz.results90, go_sem, Fd.v, h8, h9, q0, q1, q2, q3]

section

variable {w w' : World} {pf : Nat} {R : Rf} {S : Fs}

set_option maxRecDepth 100000 in
set_option maxHeartbeats 2000000 in
theorem rstat_any (h : RfAt w pf R S) {N : Nat} (hk : FsOk S N) (no : Int) :
    Calls Tryz.prog 155 #[.pointer (some ⟨pf, 0, none⟩), .int .i64 no] w fun e w' => e = .returned (.tuple #[stV (S.get no), .int .i64 (noneE (S.get no))]) ∧ Below w.heap.size w w' := by
  have hRX := Blk.new w #[.int .i64 0, .int .i64 0, .int .i64 0, .int .i64 0, .int .i64 0, .int .i64 0, .int .i64 0, .int .i64 0, .int .i64 0, .int .i64 0] 172
  have hbX := balloc (Below.refl w.heap.size w) (.cells #[.int .i64 0, .int .i64 0, .int .i64 0, .int .i64 0, .int .i64 0, .int .i64 0, .int .i64 0, .int .i64 0, .int .i64 0, .int .i64 0] 172)
  have HRX := Lib.hid hRX
  have HBX := Lib.hid hbX
  obtain ⟨da, dl, dc, -, hG⟩ := rgetZ_fix h no
  have HG := Lib.hid (hG _ hbX)
  have hnz := getZ_no hk no
  have HZ := Lib.hid (fun a (hg : S.get no = some a) => getZ_some hg)
  unfold An.v at HG
  obtain ⟨n, hn⟩ : ∃ n, S.getZ no = n := ⟨_, rfl⟩
  rw [hn] at HG hnz
  have HN := Lib.hid hn
  have hdl : n.data.size ≤ 9223372036854775807 := by
    rw [← hn]
    unfold Fs.getZ
    cases hg : S.get no with
    | none => show (0 : Nat) ≤ _; omega
    | some a => have := (hk.get hg).1.data; show a.data.size ≤ _; omega
  clear h hk hRX hbX hG hn
  go_enter Tryz.func155, Tryz.ntmps155
  go_wp2_with fail
  refine HG.out.mono ?_
  rintro e w4 ⟨rfl, hb4⟩
  have hd4 := Blk.new w4 #[.int .i64 n.no, .int .i64 n.dev, .int .i64 n.kind, .int .i64 n.mode, .int .i64 n.uid, .int .i64 n.gid, .int .i64 n.mtime, .int .i64 n.ctime, .int .i64 n.links, .int .i64 n.up, .string n.data, .slice da dl dc] 109
  have hr4 := (HRX.out.keep hb4).old (.cells #[.int .i64 n.no, .int .i64 n.dev, .int .i64 n.kind, .int .i64 n.mode, .int .i64 n.uid, .int .i64 n.gid, .int .i64 n.mtime, .int .i64 n.ctime, .int .i64 n.links, .int .i64 n.up, .string n.data, .slice da dl dc] 109)
  have hb5 := balloc (bnext HBX.out hb4) (.cells #[.int .i64 n.no, .int .i64 n.dev, .int .i64 n.kind, .int .i64 n.mode, .int .i64 n.uid, .int .i64 n.gid, .int .i64 n.mtime, .int .i64 n.ctime, .int .i64 n.links, .int .i64 n.up, .string n.data, .slice da dl dc] 109)
  clear hb4
  go_upto_region 2 with fail
  generalize w4.alloc (.cells #[.int .i64 n.no, .int .i64 n.dev, .int .i64 n.kind, .int .i64 n.mode, .int .i64 n.uid, .int .i64 n.gid, .int .i64 n.mtime, .int .i64 n.ctime, .int .i64 n.links, .int .i64 n.up, .string n.data, .slice da dl dc] 109) = X at hd4 hr4 hb5 ⊢
  obtain ⟨nc, nf, nz⟩ := hd4.facts
  obtain ⟨rc, rf, rz⟩ := hr4.facts
  have HR4 := Lib.hid hr4
  have HB5 := Lib.hid hb5
  clear hd4 hr4 hb5
  cases hg : S.get no with
  | none =>
    rw [hg] at hnz
    have hnz2 : (n.no == 0) = true := hnz
    have HG := Lib.hid hg
    clear hnz hg
    go_wp2_with (exact bodyPost_ret (rstat_results HR4.out.set10 rfl rfl) rfl ⟨by rw [HG.out]; rfl, below_set10 HB5.out (Nat.le_refl _)⟩)
  | some a =>
    have hna : n = a := by rw [← HN.out, HZ.out a hg]
    subst hna
    rw [hg] at hnz
    have hnz2 : (n.no == 0) = false := hnz
    have HG := Lib.hid hg
    clear hnz hg
    go_wp2_with (exact bodyPost_ret (rstat_results HR4.out.set10 rfl rfl) rfl ⟨by rw [HG.out]; rfl, below_set10 HB5.out (Nat.le_refl _)⟩)
set_option maxRecDepth 100000 in
set_option maxHeartbeats 2000000 in
theorem rstat21_any (h : RfAt w pf R S) {N : Nat} (hk : FsOk S N) (hd : R.dd = .bool false) (no : Int) :
    Calls Tryz.prog 79 #[.pointer (some ⟨pf, 0, none⟩), .int .i64 no] w fun e w' => e = .returned (.tuple #[stV (S.get no), .int .i64 (noneE (S.get no))]) ∧ Below w.heap.size w w' := by
  have hRX := Blk.new w #[.int .i64 0, .int .i64 0, .int .i64 0, .int .i64 0, .int .i64 0, .int .i64 0, .int .i64 0, .int .i64 0, .int .i64 0, .int .i64 0] 172
  have hbX := balloc (Below.refl w.heap.size w) (.cells #[.int .i64 0, .int .i64 0, .int .i64 0, .int .i64 0, .int .i64 0, .int .i64 0, .int .i64 0, .int .i64 0, .int .i64 0, .int .i64 0] 172)
  have HRX := Lib.hid hRX
  have HBX := Lib.hid hbX
  have HX := h.keep ((Below.refl w.heap.size w).alloc (Nat.le_refl _) (.cells #[.int .i64 0, .int .i64 0, .int .i64 0, .int .i64 0, .int .i64 0, .int .i64 0, .int .i64 0, .int .i64 0, .int .i64 0, .int .i64 0] 172))
  have HS := Lib.hid (rstat_any HX hk no)
  have hblk := HX.blk
  rw [hd] at hblk
  obtain ⟨pc, pf', pz⟩ := hblk.facts
  clear h hk hd HX hRX hbX hblk
  cases hg : S.get no with
  | none =>
    rw [hg] at HS
    unfold stV noneE at HS ⊢
    go_enter Tryz.func79, Tryz.ntmps79
    go_wp2_with fail
    refine HS.out.mono ?_
    rintro e w4 ⟨rfl, hb4⟩
    have hr4 := HRX.out.keep hb4
    obtain ⟨rc, rf, rz⟩ := hr4.facts
    have HR4 := Lib.hid hr4
    have HB5 := Lib.hid (bnext HBX.out hb4)
    clear hb4 hr4 pc pf' pz
    go_wp2_with (exact bodyPost_ret (rstat21_results HR4.out.set10 rfl rfl) rfl ⟨rfl, below_set10 HB5.out (Nat.le_refl _)⟩)
  | some a =>
    rw [hg] at HS
    unfold stV noneE at HS ⊢
    go_enter Tryz.func79, Tryz.ntmps79
    go_wp2_with fail
    refine HS.out.mono ?_
    rintro e w4 ⟨rfl, hb4⟩
    have hr4 := HRX.out.keep hb4
    obtain ⟨rc, rf, rz⟩ := hr4.facts
    have HR4 := Lib.hid hr4
    have HB5 := Lib.hid (bnext HBX.out hb4)
    clear hb4 hr4 pc pf' pz
    go_wp2_with (exact bodyPost_ret (rstat21_results HR4.out.set10 rfl rfl) rfl ⟨rfl, below_set10 HB5.out (Nat.le_refl _)⟩)
set_option maxRecDepth 100000 in
set_option maxHeartbeats 2000000 in
theorem rfind21_any (h : RfAt w pf R S) {N : Nat} (hk : FsOk S N) (hd : R.dd = .bool false) (c : Cr) (path : ByteArray) (hp : path.size ≤ 100000) (f : Bool) :
    Calls Tryz.prog 90 #[.pointer (some ⟨pf, 0, none⟩), .agg #[.int .i64 c.u, .int .i64 c.g], .string path, .bool f] w fun e w' => e = .returned (.tuple #[(S.path c path f).1.v, .int .i64 (S.path c path f).2]) ∧ Below w.heap.size w w' := by
  have hRX : Blk ((w.alloc (.cells #[.int .i64 c.u, .int .i64 c.g] 27)).alloc (.cells #[.int .i64 0, .string ⟨#[]⟩, .int .i64 0, .bool false] 58)) (w.heap.size + 1) #[.int .i64 0, .string ⟨#[]⟩, .int .i64 0, .bool false] 58 := by
    have := Blk.new (w.alloc (.cells #[.int .i64 c.u, .int .i64 c.g] 27)) #[.int .i64 0, .string ⟨#[]⟩, .int .i64 0, .bool false] 58
    rwa [World.size_alloc] at this
  have hCX := (Blk.new w #[.int .i64 c.u, .int .i64 c.g] 27).old (.cells #[.int .i64 0, .string ⟨#[]⟩, .int .i64 0, .bool false] 58)
  have hbX := balloc (balloc (Below.refl w.heap.size w) (.cells #[.int .i64 c.u, .int .i64 c.g] 27)) (.cells #[.int .i64 0, .string ⟨#[]⟩, .int .i64 0, .bool false] 58)
  have HX := h.keep hbX
  have HS := Lib.hid (rpathC_any HX hk c path hp f)
  have hblk := HX.blk
  rw [hd] at hblk
  obtain ⟨pc, pf', pz⟩ := hblk.facts
  obtain ⟨cc, -, cz⟩ := hCX.facts
  have HRX := Lib.hid hRX
  have HBX := Lib.hid hbX
  generalize S.path c path f = rd at HS ⊢
  unfold Fd.v at HS
  clear h hk hd HX hRX hbX hblk hCX
  go_enter Tryz.func90, Tryz.ntmps90
  go_wp2_with fail
  refine HS.out.mono ?_
  rintro e w4 ⟨rfl, hb4⟩
  have hr4 := HRX.out.keep hb4
  obtain ⟨rc, rf, rz⟩ := hr4.facts
  have HR4 := Lib.hid hr4
  have HB5 := Lib.hid (bnext HBX.out hb4)
  clear hb4 hr4 pc pf' pz cc cz
  go_wp2_with (exact bodyPost_ret (rfind21_results HR4.out.set4 rfl rfl) rfl ⟨rfl, below_set4 HB5.out (Nat.le_succ _)⟩)
set_option maxRecDepth 100000 in
set_option maxHeartbeats 2000000 in
theorem rtop_any (h : RfAt w pf R S) {N : Nat} (hk : FsOk S N) (hp : Pl S) (hl : S.ns.length ≤ 100000) (hd : R.dd = .bool false) (no : Int) :
    Calls Tryz.prog 16 #[.pointer (some ⟨pf, 0, none⟩), .int .i64 no] w fun e w' => e = .returned (.tuple #[.int .i64 (S.topF no).1, .string (S.topF no).2.1, .int .i64 (S.topF no).2.2]) ∧ Below w.heap.size w w' := by
  have HS := Lib.hid (rstat21_any h hk hd no)
  have HRo := Lib.hid (fun w1 (hb : Below w.heap.size w w1) d => rroot_any (h.keep hb) d)
  have HWh := Lib.hid (fun w1 (hb : Below w.heap.size w w1) d => rwhere_any (h.keep hb) hk hp hl d)
  have HZ0 := Lib.hid (fun h => topF_none (S := S) (no := no) h)
  have HZ1 := Lib.hid (fun a h h2 => topF_gone (S := S) (no := no) (a := a) h h2)
  have HZ2 := Lib.hid (fun a s h h2 => topF_some (S := S) (no := no) (a := a) (s := s) h h2)
  generalize S.topF no = Z at HZ0 HZ1 HZ2 ⊢
  clear h hk hp hd
  cases hg : S.get no with
  | none =>
    rw [hg] at HS
    have HZ := Lib.hid (HZ0.out hg)
    unfold stV noneE at HS
    clear hg
    go_enter Tryz.func16, Tryz.ntmps16
    go_wp2_with fail
    refine HS.out.mono ?_
    rintro e w1 ⟨rfl, hb1⟩
    have HB1 := Lib.hid (balloc hb1 (.cells #[.int .i64 0, .int .i64 0, .int .i64 0, .int .i64 0, .int .i64 0, .int .i64 0, .int .i64 0, .int .i64 0, .int .i64 0, .int .i64 0] 172))
    clear hb1
    go_wp2_with fail
    go_ret3
    exact ⟨by rw [HZ.out]; rfl, HB1.out⟩
  | some a =>
    rw [hg] at HS
    have HG := Lib.hid hg
    unfold stV noneE at HS
    clear hg
    go_enter Tryz.func16, Tryz.ntmps16
    go_wp2_with fail
    refine HS.out.mono ?_
    rintro e w1 ⟨rfl, hb1⟩
    have hX := Blk.new w1 #[.int .i64 a.no, .int .i64 a.dev, .int .i64 a.kind, .int .i64 a.mode, .int .i64 a.uid, .int .i64 a.gid, .int .i64 a.links, .int .i64 a.data.size, .int .i64 a.mtime, .int .i64 a.ctime] 172
    have hbX := balloc hb1 (.cells #[.int .i64 a.no, .int .i64 a.dev, .int .i64 a.kind, .int .i64 a.mode, .int .i64 a.uid, .int .i64 a.gid, .int .i64 a.links, .int .i64 a.data.size, .int .i64 a.mtime, .int .i64 a.ctime] 172)
    go_upto_region 2 with fail
    generalize w1.alloc (.cells #[.int .i64 a.no, .int .i64 a.dev, .int .i64 a.kind, .int .i64 a.mode, .int .i64 a.uid, .int .i64 a.gid, .int .i64 a.links, .int .i64 a.data.size, .int .i64 a.mtime, .int .i64 a.ctime] 172) = X at hX hbX ⊢
    have HX := Lib.hid hX
    have HBX := Lib.hid hbX
    obtain ⟨xc, xf, xz⟩ := hX.facts
    clear hb1 hX hbX
    go_wp2_with fail
    refine (HRo.out _ HBX.out _).mono ?_
    rintro e w2 ⟨rfl, rfl⟩
    go_wp2_with fail
    refine (HWh.out _ HBX.out _).mono ?_
    rintro e w3 ⟨rfl, hb3⟩
    have HX3 := Lib.hid (HX.out.keep hb3)
    have HB3 := Lib.hid (bnext HBX.out hb3)
    unfold whereV
    clear hb3 xc xf xz
    obtain ⟨xc, xf, xz⟩ := HX3.out.facts
    cases hpl : S.place_ (S.root a.dev) with
    | none =>
      have HZ := Lib.hid (HZ1.out _ HG.out hpl)
      clear hpl
      go_wp2_with fail
      go_ret3
      exact ⟨by rw [HZ.out]; rfl, HB3.out⟩
    | some s =>
      have HZ := Lib.hid (HZ2.out _ _ HG.out hpl)
      clear hpl
      go_wp2_with fail
      refine (HRo.out _ HB3.out _).mono ?_
      rintro e w4 ⟨rfl, rfl⟩
      go_wp2_with fail
      go_ret3
      exact ⟨by rw [HZ.out]; rfl, HB3.out⟩
set_option maxRecDepth 100000 in
set_option maxHeartbeats 2000000 in
theorem rpath24_any (h : RfAt w pf R S) {N : Nat} (hk : FsOk S N) (hp : Pl S) (hl : S.ns.length ≤ 100000) (hd : R.dd = .bool false) (dir : Int) (n : ByteArray) (hn : n.size ≤ 100000) (hpz : ∀ s, S.place_ dir = some s → s.size ≤ 100000) :
    Calls Tryz.prog 18 #[.pointer (some ⟨pf, 0, none⟩), .int .i64 dir, .string n] w fun e w' => e = .returned (.tuple #[.string (S.pathF dir n).1, .int .i64 (S.pathF dir n).2]) ∧ Below w.heap.size w w' := by
  have HC := Lib.hid (rcheck_any n w hn)
  have HS := Lib.hid (rstat21_any h hk hd dir)
  have HWh := Lib.hid (fun w1 (hb : Below w.heap.size w w1) d => rwhere_any (h.keep hb) hk hp hl d)
  have HPz := Lib.hid hpz
  have HZ0 := Lib.hid (fun h => pathF_chk (S := S) (dir := dir) (n := n) h)
  have HZ1 := Lib.hid (fun h h2 => pathF_none (S := S) (dir := dir) (n := n) h h2)
  have HZ2 := Lib.hid (fun a h h2 h3 => pathF_kind (S := S) (dir := dir) (n := n) (a := a) h h2 h3)
  have HZ3 := Lib.hid (fun a h h2 h3 h4 => pathF_gone (S := S) (dir := dir) (n := n) (a := a) h h2 h3 h4)
  have HZ4 := Lib.hid (fun a s h h2 h3 h4 => pathF_some (S := S) (dir := dir) (n := n) (a := a) (s := s) h h2 h3 h4)
  generalize S.pathF dir n = Z at HZ0 HZ1 HZ2 HZ3 HZ4 ⊢
  clear h hk hp hd hpz
  by_cases hc : checkE n = 0
  · have HHc := Lib.hid hc
    rw [hc] at HC
    clear hc
    cases hg : S.get dir with
    | none =>
      rw [hg] at HS
      have HZ := Lib.hid (HZ1.out HHc.out hg)
      unfold stV noneE at HS
      clear hg
      go_enter Tryz.func18, Tryz.ntmps18
      go_wp2_with fail
      refine HC.out.mono ?_
      rintro e w0 ⟨rfl, rfl⟩
      go_wp2_with fail
      refine HS.out.mono ?_
      rintro e w1 ⟨rfl, hb1⟩
      have HB1 := Lib.hid (balloc hb1 (.cells #[.int .i64 0, .int .i64 0, .int .i64 0, .int .i64 0, .int .i64 0, .int .i64 0, .int .i64 0, .int .i64 0, .int .i64 0, .int .i64 0] 172))
      clear hb1
      go_wp2_with fail
      go_ret2
      exact ⟨by rw [HZ.out]; rfl, HB1.out⟩
    | some a =>
      rw [hg] at HS
      have HG := Lib.hid hg
      unfold stV noneE at HS
      clear hg
      go_enter Tryz.func18, Tryz.ntmps18
      go_wp2_with fail
      refine HC.out.mono ?_
      rintro e w0 ⟨rfl, rfl⟩
      go_wp2_with fail
      refine HS.out.mono ?_
      rintro e w1 ⟨rfl, hb1⟩
      have hX := Blk.new w1 #[.int .i64 a.no, .int .i64 a.dev, .int .i64 a.kind, .int .i64 a.mode, .int .i64 a.uid, .int .i64 a.gid, .int .i64 a.links, .int .i64 a.data.size, .int .i64 a.mtime, .int .i64 a.ctime] 172
      have hbX := balloc hb1 (.cells #[.int .i64 a.no, .int .i64 a.dev, .int .i64 a.kind, .int .i64 a.mode, .int .i64 a.uid, .int .i64 a.gid, .int .i64 a.links, .int .i64 a.data.size, .int .i64 a.mtime, .int .i64 a.ctime] 172)
      go_upto_region 5 with fail
      generalize w1.alloc (.cells #[.int .i64 a.no, .int .i64 a.dev, .int .i64 a.kind, .int .i64 a.mode, .int .i64 a.uid, .int .i64 a.gid, .int .i64 a.links, .int .i64 a.data.size, .int .i64 a.mtime, .int .i64 a.ctime] 172) = X at hX hbX ⊢
      have HBX := Lib.hid hbX
      obtain ⟨xc, xf, xz⟩ := hX.facts
      clear hb1 hX hbX
      by_cases hkd : a.kind = 1
      · have hk1 : (a.kind != 1) = false := by simpa using hkd
        have HKd := Lib.hid hkd
        clear hkd
        go_wp2_with fail
        refine (HWh.out _ HBX.out _).mono ?_
        rintro e w3 ⟨rfl, hb3⟩
        have HB3 := Lib.hid (bnext HBX.out hb3)
        unfold whereV
        clear hb3 xc xf xz
        cases hpl : S.place_ dir with
        | none =>
          have HZ := Lib.hid (HZ3.out _ HHc.out HG.out HKd.out hpl)
          clear hpl
          go_wp2_with fail
          go_ret2
          exact ⟨by rw [HZ.out]; rfl, HB3.out⟩
        | some s =>
          have hs := HPz.out s hpl
          have hz0 := HZ4.out _ _ HHc.out HG.out HKd.out hpl
          have HBl := Lib.hid (fun w => rbelow_any s n w hs hn)
          obtain ⟨t, ht⟩ : ∃ t, belowB s n = t := ⟨_, rfl⟩
          rw [ht] at HBl hz0
          have HZ := Lib.hid hz0
          clear hpl ht hz0
          go_wp2_with fail
          refine (HBl.out _).mono ?_
          rintro e w4 ⟨rfl, rfl⟩
          by_cases hz : 4096 < t.size
          · have hz2 : (4096 : Int) < (t.size : Int) := by omega
            have HZz := Lib.hid (HZ.out.trans (if_pos hz))
            go_wp2_with fail
            go_ret2
            exact ⟨by rw [HZz.out]; rfl, HB3.out⟩
          · have hz2 : ¬ (4096 : Int) < (t.size : Int) := by omega
            have HZz := Lib.hid (HZ.out.trans (if_neg hz))
            go_wp2_with fail
            go_ret2
            exact ⟨by rw [HZz.out]; rfl, HB3.out⟩
      · have hk1 : (a.kind != 1) = true := by simpa using hkd
        have HZ := Lib.hid (HZ2.out _ HHc.out HG.out hkd)
        clear hkd
        go_wp2_with fail
        go_ret2
        exact ⟨by rw [HZ.out]; rfl, HBX.out⟩
  · have HZ := Lib.hid (HZ0.out hc)
    have hcb : (checkE n != 0) = true := by simpa using hc
    generalize checkE n = ce at HC hcb HZ
    clear hc
    go_enter Tryz.func18, Tryz.ntmps18
    go_wp2_with fail
    refine HC.out.mono ?_
    rintro e w0 ⟨rfl, rfl⟩
    go_wp2_with fail
    go_ret2
    exact ⟨by rw [HZ.out]; rfl, Below.refl _ _⟩
end

end Go.Proofs.YtihdbncoijhihaaGreatDoor

/- A region that draws its order, taken by hand: the slot that an operation writes is named. No program in sight. -/
namespace Go.Proofs.YtihdbncoijhihaaGreatDoor

open Go

section

variable {P : Program} {ops : Array Oper} {Q : Exit → Act → World → Prop} {md : Region.Mode} {S : World → Prop}

theorem reg_take (i d : Nat) {oi : Oper} {v : Value} {fuel : Nat} {listed : Array Bool} {tmps : Array Value} {defers : List Deferred} {w : World} (hi : ops[i]? = some oi) (hd : oi.dst = some d)
    (hs : Region.noSelect ops = true) (hf : Region.free md ops listed i = true) (hr : (Region.ready md ops listed).contains i = true)
    (hQ : ∀ c a w, Q (.panic c) (a.put oi.dst v) w → Q (.panic c) a w) (hw : Region.wanted oi (yielded ops tmps) = true) (hy : ∀ w, S w → (execOp (Act.eval { tmps, defers }) oi).run P w = .ok (.value v) w) (hS : S w)
    (h : wpAnyH P md ops Q S fuel (listed.setIfInBounds i true) { tmps := tmps.setIfInBounds d v, defers } w) : wpAnyH P md ops Q S (fuel + 1) listed { tmps, defers } w :=
  wpAnyH_take hi hs hf hr hQ (Or.inl ⟨hw, hy⟩) hS (by rw [hd]; exact h)
theorem reg_skip (i d : Nat) {oi : Oper} {fuel : Nat} {listed : Array Bool} {tmps : Array Value} {defers : List Deferred} {w : World} (hi : ops[i]? = some oi) (hd : oi.dst = some d)
    (hs : Region.noSelect ops = true) (hf : Region.free md ops listed i = true) (hr : (Region.ready md ops listed).contains i = true)
    (hQ : ∀ c a w, Q (.panic c) (a.put oi.dst undef) w → Q (.panic c) a w) (hw : Region.wanted oi (yielded ops tmps) = false) (hS : S w)
    (h : wpAnyH P md ops Q S fuel (listed.setIfInBounds i true) { tmps := tmps.setIfInBounds d undef, defers } w) : wpAnyH P md ops Q S (fuel + 1) listed { tmps, defers } w :=
  wpAnyH_take hi hs hf hr hQ (Or.inr ⟨hw, rfl⟩) hS (by rw [hd]; exact h)
/-- a call that comes up alone. -/
theorem reg_call (i d : Nat) {oi : Oper} {fuel : Nat} {listed : Array Bool} {tmps : Array Value} {defers : List Deferred} {w : World} (hr : Region.ready md ops listed = [i]) (hi : ops[i]? = some oi) (hd : oi.dst = some d)
    (hw : Region.wanted oi (yielded ops tmps) = true) {f : FuncId} {args : Array Value} (he : (execOp (Act.eval { tmps, defers }) oi).run P w = .ok (.enter f args) w) {R : Value → World → Prop}
    (hc : Calls P f args w fun e w' => ∃ v, e = .returned v ∧ R v w') (hS : ∀ v w', R v w' → S w')
    (h : ∀ v w', R v w' → wpAnyH P md ops Q S fuel (listed.setIfInBounds i true) { tmps := tmps.setIfInBounds d v, defers } w') : wpAnyH P md ops Q S (fuel + 1) listed { tmps, defers } w := by
  refine wpAnyH_ready hr (by simp) (AllReadyH.cons hi (fun K hK => ?_) AllReadyH.nil)
  rw [if_pos hw]
  unfold Oper.wp
  rw [he]
  refine hc.mono ?_
  rintro e w' ⟨v, rfl, hR⟩
  have := h v w' hR
  refine hK.out _ _ (hS v w' hR) (fun _ => ?_)
  rw [hd]
  exact this
end

end Go.Proofs.YtihdbncoijhihaaGreatDoor
