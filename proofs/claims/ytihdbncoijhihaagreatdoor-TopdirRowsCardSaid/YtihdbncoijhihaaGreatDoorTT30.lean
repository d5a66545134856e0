/- Texts of the proof, part 30. -/
import Derived.Test.YtihdbncoijhihaaGreatDoorTT8
import Derived.Test.YtihdbncoijhihaaGreatDoorTT22
import Derived.Test.YtihdbncoijhihaaGreatDoorTT21
import Derived.Test.YtihdbncoijhihaaGreatDoorTT29
import Derived.Test.YtihdbncoijhihaaGreatDoorTT1
import Derived.Test.YtihdbncoijhihaaGreatDoorTT15
set_option linter.unusedVariables false
set_option linter.unusedSimpArgs false
/- The tops of mounts, paths of names, operands (layer 29): topdir.Top, Path, Operand. (printed by gen_topc.py) -/
namespace Go.Proofs.YtihdbncoijhihaaGreatDoor

open Go.RowKit

set_option maxRecDepth 100000 in
set_option maxHeartbeats 1000000 in
theorem toperand_results {tmps : Array Value} {W : World} {B : Nat} {x : Fd} {e : Int} (hb : Blk W B #[.int .i64 x.dir, .string x.name, .int .i64 x.no, .bool x.slash] 58)
    (h8 : tmps.getD 6 undef = .pointer (some ⟨B, 0, none⟩)) (h9 : tmps.getD 7 undef = .int .i64 e) : (results Tryz.f19 tmps).run Tryz.prog W = .ok (.tuple #[x.v, .int .i64 e]) W := by
  have q0 := hb.cell 0
  have q1 := hb.cell 1
  have q2 := hb.cell 2
  have q3 := hb.cell 3
  rw [Array.getD_eq_getD_getElem?] at h8 h9
  simp [results, Tryz.results19, go_sem, Fd.v, h8, h9, q0, q1, q2, q3]
section

variable {w w' : World} {pf pw : Nat} {R : Rp} {pv : Value} {Y : Sy}

set_option maxRecDepth 100000 in
set_option maxHeartbeats 2000000 in
theorem ttop_any (h : SyAt w pf pw R pv Y) {N : Nat} (hk : FsOk Y.fs N) (hp : Pl Y.fs) (hl : Y.fs.ns.length ≤ 100000) (hd : Y.dead = false) (no : Int) :
    Calls Tryz.prog 15 #[.pointer (some ⟨pf, 0, none⟩), .int .i64 no] w fun e w' => e = .returned (.tuple #[.int .i64 (Y.fs.topF no).1, .string (Y.fs.topF no).2.1, .int .i64 (Y.fs.topF no).2.2]) ∧ Below w.heap.size w w' := by
  have HS := Lib.hid (sstat_any h hk hd no)
  have HRo := Lib.hid (fun w1 (hb : Below w.heap.size w w1) d => wroot_any (h.wd.keep hb) hk.d1 d)
  have HWh := Lib.hid (fun w1 (hb : Below w.heap.size w w1) d => wwhere_any (h.wd.keep hb) hk hp hl d)
  obtain ⟨pc, -, pz⟩ := h.blk.facts
  have HPC := Lib.hid (fun w1 (hb1 : Below w.heap.size w w1) => show w1.cell? ⟨pf, 0, none⟩ = some (.pointer (some ⟨pw, 0, none⟩)) from (hb1.cell (p := ⟨pf, 0, none⟩) pz).trans (pc 0))
  have mixed : Tryz.prog.follows .mixedOrders = true := by kernel_rfl
  obtain ⟨S, hS⟩ : ∃ S, Y.fs = S := ⟨_, rfl⟩
  rw [hS] at HS HRo HWh ⊢
  have HZ0 := Lib.hid (fun h => topF_none (S := S) (no := no) h)
  have HZ1 := Lib.hid (fun a h h2 => topF_gone (S := S) (no := no) (a := a) h h2)
  have HZ2 := Lib.hid (fun a s h h2 => topF_some (S := S) (no := no) (a := a) (s := s) h h2)
  generalize S.topF no = Z at HZ0 HZ1 HZ2 ⊢
  clear h hk hp hd hS pc pz hl
  cases hg : S.get no with
  | none =>
    rw [hg] at HS
    have HZ := Lib.hid (HZ0.out hg)
    unfold stV noneE at HS
    clear hg
    go_enter Tryz.func15, Tryz.ntmps15
    go_wp2_with fail
    refine HS.out.mono ?_
    rintro e w1 ⟨rfl, hb1⟩
    have HB1 := Lib.hid (balloc hb1 (.cells #[.int .i64 0, .int .i64 0, .int .i64 0, .int .i64 0, .int .i64 0, .int .i64 0, .int .i64 0, .int .i64 0, .int .i64 0, .int .i64 0] 172))
    clear hb1
    go_wp2_with fail
    go_ret3
    exact ⟨by rw [HZ.out]; rfl, HB1.out⟩
  | some a =>
    rw [hg] at HS
    have HG := Lib.hid hg
    unfold stV noneE at HS
    clear hg
    go_enter Tryz.func15, Tryz.ntmps15
    go_wp2_with fail
    refine HS.out.mono ?_
    rintro e w1 ⟨rfl, hb1⟩
    have hX := Blk.new w1 #[.int .i64 a.no, .int .i64 a.dev, .int .i64 a.kind, .int .i64 a.mode, .int .i64 a.uid, .int .i64 a.gid, .int .i64 a.links, .int .i64 a.data.size, .int .i64 a.mtime, .int .i64 a.ctime] 172
    have hbX := balloc hb1 (.cells #[.int .i64 a.no, .int .i64 a.dev, .int .i64 a.kind, .int .i64 a.mode, .int .i64 a.uid, .int .i64 a.gid, .int .i64 a.links, .int .i64 a.data.size, .int .i64 a.mtime, .int .i64 a.ctime] 172)
    go_upto_region 2 with fail
    generalize w1.alloc (.cells #[.int .i64 a.no, .int .i64 a.dev, .int .i64 a.kind, .int .i64 a.mode, .int .i64 a.uid, .int .i64 a.gid, .int .i64 a.links, .int .i64 a.data.size, .int .i64 a.mtime, .int .i64 a.ctime] 172) = X at hX hbX ⊢
    have HX := Lib.hid hX
    have HBX := Lib.hid hbX
    obtain ⟨xc, xf, xz⟩ := hX.facts
    have pc0 := HPC.out _ hbX
    clear hb1 hX hbX
    go_wp2_with fail
    refine wp_region_lex 6 mixed (by kernel_rfl) (show PanicOk _ from by repeat (first | exact pk_body | refine pk_then ?_ | refine pk_block ?_ | refine pk_scope ?_)) ?_
    simp only [List.take_succ_cons, List.take_zero, List.drop_succ_cons, List.drop_zero]
    repeat still_step
    refine wpStill_nil ?_
    go_wp2_with fail
    refine (HRo.out _ HBX.out.drew _).mono ?_
    rintro e w2 ⟨rfl, rfl⟩
    clear xc xf xz pc0
    have pc0 := HPC.out _ HBX.out.drew
    go_wp2_with fail
    refine (HWh.out _ HBX.out.drew _).mono ?_
    rintro e w3 ⟨rfl, hb3⟩
    have HB3 := Lib.hid (bnext HBX.out.drew hb3)
    unfold whereV
    clear hb3 pc0
    cases hpl : S.place_ (S.root a.dev) with
    | none =>
      have HZ := Lib.hid (HZ1.out _ HG.out hpl)
      clear hpl
      go_wp2_with fail
      go_ret3
      exact ⟨by rw [HZ.out]; rfl, HB3.out⟩
    | some s =>
      have HZ := Lib.hid (HZ2.out _ _ HG.out hpl)
      clear hpl
      go_wp2_with fail
      go_ret3
      exact ⟨by rw [HZ.out]; rfl, HB3.out⟩
set_option maxRecDepth 100000 in
set_option maxHeartbeats 2000000 in
theorem tpath_any (h : SyAt w pf pw R pv Y) {N : Nat} (hk : FsOk Y.fs N) (hp : Pl Y.fs) (hl : Y.fs.ns.length ≤ 100000) (hd : Y.dead = false) (dir : Int) (n : ByteArray) (hn : n.size ≤ 100000) (hpz : ∀ s, Y.fs.place_ dir = some s → s.size ≤ 100000) :
    Calls Tryz.prog 17 #[.pointer (some ⟨pf, 0, none⟩), .int .i64 dir, .string n] w fun e w' => e = .returned (.tuple #[.string (Y.fs.pathF dir n).1, .int .i64 (Y.fs.pathF dir n).2]) ∧ Below w.heap.size w w' := by
  have HC := Lib.hid (ncheck_any n w (by omega))
  have HS := Lib.hid (sstat_any h hk hd dir)
  have HWh := Lib.hid (fun w1 (hb : Below w.heap.size w w1) d => wwhere_any (h.wd.keep hb) hk hp hl d)
  have HPz := Lib.hid hpz
  obtain ⟨pc, -, pz⟩ := h.blk.facts
  have HPC := Lib.hid (fun w1 (hb1 : Below w.heap.size w w1) => show w1.cell? ⟨pf, 0, none⟩ = some (.pointer (some ⟨pw, 0, none⟩)) from (hb1.cell (p := ⟨pf, 0, none⟩) pz).trans (pc 0))
  obtain ⟨S, hS⟩ : ∃ S, Y.fs = S := ⟨_, rfl⟩
  rw [hS] at HS HWh HPz ⊢
  have HZ0 := Lib.hid (fun h => pathF_chk (S := S) (dir := dir) (n := n) h)
  have HZ1 := Lib.hid (fun h h2 => pathF_none (S := S) (dir := dir) (n := n) h h2)
  have HZ2 := Lib.hid (fun a h h2 h3 => pathF_kind (S := S) (dir := dir) (n := n) (a := a) h h2 h3)
  have HZ3 := Lib.hid (fun a h h2 h3 h4 => pathF_gone (S := S) (dir := dir) (n := n) (a := a) h h2 h3 h4)
  have HZ4 := Lib.hid (fun a s h h2 h3 h4 => pathF_some (S := S) (dir := dir) (n := n) (a := a) (s := s) h h2 h3 h4)
  generalize S.pathF dir n = Z at HZ0 HZ1 HZ2 HZ3 HZ4 ⊢
  clear h hk hp hd hS pc pz hl hpz
  by_cases hc : checkE n = 0
  · have HHc := Lib.hid hc
    rw [hc] at HC
    clear hc
    cases hg : S.get dir with
    | none =>
      rw [hg] at HS
      have HZ := Lib.hid (HZ1.out HHc.out hg)
      unfold stV noneE at HS
      clear hg
      go_enter Tryz.func17, Tryz.ntmps17
      go_wp2_with fail
      refine HC.out.mono ?_
      rintro e w0 ⟨rfl, rfl⟩
      go_wp2_with fail
      refine HS.out.mono ?_
      rintro e w1 ⟨rfl, hb1⟩
      have HB1 := Lib.hid (balloc hb1 (.cells #[.int .i64 0, .int .i64 0, .int .i64 0, .int .i64 0, .int .i64 0, .int .i64 0, .int .i64 0, .int .i64 0, .int .i64 0, .int .i64 0] 172))
      clear hb1
      go_wp2_with fail
      go_ret2
      exact ⟨by rw [HZ.out]; rfl, HB1.out⟩
    | some a =>
      rw [hg] at HS
      have HG := Lib.hid hg
      unfold stV noneE at HS
      clear hg
      go_enter Tryz.func17, Tryz.ntmps17
      go_wp2_with fail
      refine HC.out.mono ?_
      rintro e w0 ⟨rfl, rfl⟩
      go_wp2_with fail
      refine HS.out.mono ?_
      rintro e w1 ⟨rfl, hb1⟩
      have hX := Blk.new w1 #[.int .i64 a.no, .int .i64 a.dev, .int .i64 a.kind, .int .i64 a.mode, .int .i64 a.uid, .int .i64 a.gid, .int .i64 a.links, .int .i64 a.data.size, .int .i64 a.mtime, .int .i64 a.ctime] 172
      have hbX := balloc hb1 (.cells #[.int .i64 a.no, .int .i64 a.dev, .int .i64 a.kind, .int .i64 a.mode, .int .i64 a.uid, .int .i64 a.gid, .int .i64 a.links, .int .i64 a.data.size, .int .i64 a.mtime, .int .i64 a.ctime] 172)
      go_upto_region 5 with fail
      generalize w1.alloc (.cells #[.int .i64 a.no, .int .i64 a.dev, .int .i64 a.kind, .int .i64 a.mode, .int .i64 a.uid, .int .i64 a.gid, .int .i64 a.links, .int .i64 a.data.size, .int .i64 a.mtime, .int .i64 a.ctime] 172) = X at hX hbX ⊢
      have HBX := Lib.hid hbX
      obtain ⟨xc, xf, xz⟩ := hX.facts
      have pc0 := HPC.out _ hbX
      clear hb1 hX hbX
      by_cases hkd : a.kind = 1
      · have hk1 : (a.kind != 1) = false := by simpa using hkd
        have HKd := Lib.hid hkd
        clear hkd
        go_wp2_with fail
        refine (HWh.out _ HBX.out _).mono ?_
        rintro e w3 ⟨rfl, hb3⟩
        have HB3 := Lib.hid (bnext HBX.out hb3)
        unfold whereV
        clear hb3 xc xf xz pc0
        cases hpl : S.place_ dir with
        | none =>
          have HZ := Lib.hid (HZ3.out _ HHc.out HG.out HKd.out hpl)
          clear hpl
          go_wp2_with fail
          go_ret2
          exact ⟨by rw [HZ.out]; rfl, HB3.out⟩
        | some s =>
          have hs := HPz.out s hpl
          have hz0 := HZ4.out _ _ HHc.out HG.out HKd.out hpl
          have HBl := Lib.hid (fun w => tbelow_any s n w hs hn)
          obtain ⟨t, ht⟩ : ∃ t, belowB s n = t := ⟨_, rfl⟩
          rw [ht] at HBl hz0
          have HZ := Lib.hid hz0
          clear hpl ht hz0
          go_wp2_with fail
          refine (HBl.out _).mono ?_
          rintro e w4 ⟨rfl, rfl⟩
          by_cases hz : 4096 < t.size
          · have hz2 : (4096 : Int) < (t.size : Int) := by omega
            have HZz := Lib.hid (HZ.out.trans (if_pos hz))
            go_wp2_with fail
            go_ret2
            exact ⟨by rw [HZz.out]; rfl, HB3.out⟩
          · have hz2 : ¬ (4096 : Int) < (t.size : Int) := by omega
            have HZz := Lib.hid (HZ.out.trans (if_neg hz))
            go_wp2_with fail
            go_ret2
            exact ⟨by rw [HZz.out]; rfl, HB3.out⟩
      · have hk1 : (a.kind != 1) = true := by simpa using hkd
        have HZ := Lib.hid (HZ2.out _ HHc.out HG.out hkd)
        clear hkd
        go_wp2_with fail
        go_ret2
        exact ⟨by rw [HZ.out]; rfl, HBX.out⟩
  · have HZ := Lib.hid (HZ0.out hc)
    have hcb : (checkE n != 0) = true := by simpa using hc
    generalize checkE n = ce at HC hcb HZ
    clear hc
    go_enter Tryz.func17, Tryz.ntmps17
    go_wp2_with fail
    refine HC.out.mono ?_
    rintro e w0 ⟨rfl, rfl⟩
    go_wp2_with fail
    go_ret2
    exact ⟨by rw [HZ.out]; rfl, Below.refl _ _⟩
set_option maxRecDepth 100000 in
set_option maxHeartbeats 4000000 in
theorem toperand_any (h : SyAt w pf pw R pv Y) {N : Nat} (hk : FsOk Y.fs N) (hN : N ≤ 999999) (hpl : Pl Y.fs) (hd : Y.dead = false) (c : Cr) (path : ByteArray) (hp : path.size ≤ 100000) :
    Calls Tryz.prog 19 #[.pointer (some ⟨pf, 0, none⟩), .agg #[.int .i64 c.u, .int .i64 c.g], .string path] w fun e w' => e = .returned (.tuple #[(Y.fs.operandF c path).1.v, .int .i64 (Y.fs.operandF c path).2]) ∧ Below w.heap.size w w' := by
  have hRX : Blk ((w.alloc (.cells #[.int .i64 c.u, .int .i64 c.g] 27)).alloc (.cells #[.int .i64 0, .string ⟨#[]⟩, .int .i64 0, .bool false] 58)) (w.heap.size + 1) #[.int .i64 0, .string ⟨#[]⟩, .int .i64 0, .bool false] 58 := by
    have := Blk.new (w.alloc (.cells #[.int .i64 c.u, .int .i64 c.g] 27)) #[.int .i64 0, .string ⟨#[]⟩, .int .i64 0, .bool false] 58
    rwa [World.size_alloc] at this
  have hCX := (Blk.new w #[.int .i64 c.u, .int .i64 c.g] 27).old (.cells #[.int .i64 0, .string ⟨#[]⟩, .int .i64 0, .bool false] 58)
  have hbX := balloc (balloc (Below.refl w.heap.size w) (.cells #[.int .i64 c.u, .int .i64 c.g] 27)) (.cells #[.int .i64 0, .string ⟨#[]⟩, .int .i64 0, .bool false] 58)
  have HPa := Lib.hid (fun w => npath_any path w hp)
  have HLa := Lib.hid (fun w => last_any path w hp)
  obtain ⟨S, hS⟩ : ∃ S, Y.fs = S := ⟨_, rfl⟩
  have HTh := Lib.hid (path_there S c path false)
  have HE0 := Lib.hid (show S.operandF c path = if pathE path ≠ 0 then (fd0, pathE path)
    else if lastL path.data.toList = [] then (fd0, 1)
    else if (S.path c path false).2 ≠ 0 then (fd0, (S.path c path false).2)
    else if (S.path c path false).1.no = 0 then (fd0, 5)
    else if (S.path c path false).1.name = ByteArray.empty then (fd0, 1)
    else if S.busy (S.path c path false).1.no = true ∨ S.isRoot (S.path c path false).1.no = true then (fd0, 16)
    else ((S.path c path false).1, 0) from rfl)
  have HF := Lib.hid (fun w1 (hb : Below w.heap.size w w1) => sfind_any (h.keep hb) hk hN hd c path hp false)
  have HSt := Lib.hid (fun w1 (hb : Below w.heap.size w w1) no => sstat_any (h.keep hb) hk hd no)
  have HBu0 := Lib.hid (fun w1 (hb : Below w.heap.size w w1) no => wbusy_any (h.wd.keep hb) hk hpl no)
  have HRo := Lib.hid (fun w1 (hb : Below w.heap.size w w1) d => wroot_any (h.wd.keep hb) hk.d1 d)
  obtain ⟨pc, -, pz⟩ := h.blk.facts
  have HPl := Lib.hid (show pf < w.heap.size from pz)
  have HPC := Lib.hid (fun w1 (hb1 : Below w.heap.size w w1) => show w1.cell? ⟨pf, 0, none⟩ = some (.pointer (some ⟨pw, 0, none⟩)) from (hb1.cell (p := ⟨pf, 0, none⟩) pz).trans (pc 0))
  have mixed : Tryz.prog.follows .mixedOrders = true := by kernel_rfl
  rw [hS] at HF HSt HBu0 HRo ⊢
  generalize S.operandF c path = Z at HE0 ⊢
  generalize S.path c path false = rd at HE0 HF HTh
  generalize pathE path = pe at HPa HE0
  obtain ⟨la, hla⟩ : ∃ x, str (lastL path.data.toList) = x := ⟨_, rfl⟩
  rw [hla] at HLa
  have hle : lastL path.data.toList = [] ↔ la.toList = [] := by
    rw [← hla, ba_list, str_list]
  have HLe := Lib.hid hle
  clear h hk hd hla hle pc pz hS hpl
  go_enter Tryz.func19, Tryz.ntmps19
  go_upto_region 1 with fail
  generalize (w.alloc (.cells #[.int .i64 c.u, .int .i64 c.g] 27)).alloc (.cells #[.int .i64 0, .string ⟨#[]⟩, .int .i64 0, .bool false] 58) = W0 at hRX hCX hbX ⊢
  have HRX := Lib.hid hRX
  have HBX := Lib.hid hbX
  obtain ⟨cc, -, cz⟩ := hCX.facts
  clear hRX hCX hbX
  go_wp2_with fail
  refine (HPa.out _).mono ?_
  rintro e w1 ⟨rfl, rfl⟩
  by_cases hpe : pe = 0
  · have hpb : (pe != 0) = false := by simpa using hpe
    have HE1 := Lib.hid (HE0.out.trans (if_neg (by simpa using hpe)))
    clear hpe
    go_wp2_with fail
    refine (HLa.out _).mono ?_
    rintro e w2 ⟨rfl, rfl⟩
    by_cases hl0 : la.toList = []
    · have HE2 := Lib.hid (HE1.out.trans (if_pos (HLe.out.2 hl0)))
      have hlb : (la.toList == []) = true := by rw [hl0]; rfl
      obtain ⟨rc, rf, rz⟩ := HRX.out.facts
      clear hl0
      go_wp2_with (exact bodyPost_ret (toperand_results (x := fd0) (e := 1) HRX.out.set4 rfl rfl) rfl ⟨by rw [HE2.out], below_set4 HBX.out (Nat.le_succ _)⟩)
    · have HE2 := Lib.hid (HE1.out.trans (if_neg (fun e => hl0 (HLe.out.1 e))))
      have hlb : (la.toList == []) = false := by simpa using hl0
      have HF2 := Lib.hid (HF.out _ HBX.out)
      unfold Fd.v at HF2
      clear hl0
      go_wp2_with fail
      refine HF2.out.mono ?_
      rintro e w3 ⟨rfl, hb3⟩
      have hR3 := (HRX.out.keep hb3).old (.cells #[.int .i64 rd.1.dir, .string rd.1.name, .int .i64 rd.1.no, .bool rd.1.slash] 58)
      have hX := Blk.new w3 #[.int .i64 rd.1.dir, .string rd.1.name, .int .i64 rd.1.no, .bool rd.1.slash] 58
      have hbX := balloc (bnext HBX.out hb3) (.cells #[.int .i64 rd.1.dir, .string rd.1.name, .int .i64 rd.1.no, .bool rd.1.slash] 58)
      clear hb3 cc cz
      go_upto_region 7 with fail
      generalize w3.alloc (.cells #[.int .i64 rd.1.dir, .string rd.1.name, .int .i64 rd.1.no, .bool rd.1.slash] 58) = X at hR3 hX hbX ⊢
      have HR3 := Lib.hid hR3
      have HX := Lib.hid hX
      have HB3 := Lib.hid hbX
      obtain ⟨rc, rf, rz⟩ := hR3.facts
      obtain ⟨xc, xf, xz⟩ := hX.facts
      have pc0 := HPC.out _ hbX
      clear hR3 hX hbX
      by_cases he : rd.2 = 0
      · have heb : (rd.2 != 0) = false := by simpa using he
        have HE3 := Lib.hid (HE2.out.trans (if_neg (by simpa using he)))
        clear he
        by_cases hno : rd.1.no = 0
        · have hnb : (rd.1.no == 0) = true := by simpa using hno
          have HE4 := Lib.hid (HE3.out.trans (if_pos hno))
          clear hno
          go_wp2_with (exact bodyPost_ret (toperand_results (x := fd0) (e := 5) HR3.out.set4 rfl rfl) rfl ⟨by rw [HE4.out], below_set4 HB3.out (Nat.le_succ _)⟩)
        · have hnb : (rd.1.no == 0) = false := by simpa using hno
          have HE4 := Lib.hid (HE3.out.trans (if_neg hno))
          by_cases hnm : rd.1.name = ByteArray.empty
          · have hmb : (rd.1.name.toList == []) = true := by rw [hnm, ba_list]; rfl
            have HE5 := Lib.hid (HE4.out.trans (if_pos hnm))
            clear hno hnm
            go_wp2_with (exact bodyPost_ret (toperand_results (x := fd0) (e := 1) HR3.out.set4 rfl rfl) rfl ⟨by rw [HE5.out], below_set4 HB3.out (Nat.le_succ _)⟩)
          · have hmb : (rd.1.name.toList == []) = false := by
              have g1 : ¬ rd.1.name.toList = [] := fun e => tl_ne' hnm (e.trans (by rw [ba_list]; rfl))
              simpa using g1
            have HE5 := Lib.hid (HE4.out.trans (if_neg hnm))
            obtain ⟨a, ha⟩ : ∃ a, S.get rd.1.no = some a := by
              rcases HTh.out with h1 | h1 | h1
              · exact absurd h1 hnm
              · exact absurd h1 hno
              · exact h1
            have hroot : S.isRoot rd.1.no = (S.root a.dev == rd.1.no) := by unfold Fs.isRoot; rw [ha]
            rw [hroot] at HE5
            have HSt2 := Lib.hid (fun w1 (hb : Below w.heap.size w w1) => HSt.out w1 hb rd.1.no)
            rw [ha] at HSt2
            unfold stV noneE at HSt2
            obtain ⟨rb, hrb⟩ : ∃ b, (S.root a.dev == rd.1.no) = b := ⟨_, rfl⟩
            obtain ⟨bu, hbu⟩ : ∃ b, S.busy rd.1.no = b := ⟨_, rfl⟩
            have HBu := Lib.hid (fun w1 (hb : Below w.heap.size w w1) => HBu0.out w1 hb rd.1.no)
            rw [hrb, hbu] at HE5
            rw [hbu] at HBu
            clear hno hnm ha hroot hbu
            go_wp2_with fail
            refine wp_region_lex 6 mixed (by kernel_rfl) (show PanicOk _ from by repeat (first | exact pk_body | refine pk_then ?_ | refine pk_block ?_ | refine pk_scope ?_)) ?_
            simp only [List.take_succ_cons, List.take_zero, List.drop_succ_cons, List.drop_zero]
            repeat still_step
            refine wpStill_nil ?_
            go_wp2_with fail
            refine (HBu.out _ HB3.out.drew).mono ?_
            rintro e w5 ⟨rfl, hb5⟩
            have HR5 := Lib.hid (HR3.out.drew.keep hb5)
            have HX5 := Lib.hid (HX.out.drew.keep hb5)
            have HB5 := Lib.hid (bnext HB3.out.drew hb5)
            clear hb5 rc rf rz xc xf xz pc0
            obtain ⟨rc, rf, rz⟩ := HR5.out.facts
            obtain ⟨xc, xf, xz⟩ := HX5.out.facts
            cases bu with
            | true =>
              have HE6 := Lib.hid (HE5.out.trans (if_pos (.inl rfl)))
              go_wp2_with (exact bodyPost_ret (toperand_results (x := fd0) (e := 16) HR5.out.set4 rfl rfl) rfl ⟨by rw [HE6.out], below_set4 HB5.out (Nat.le_succ _)⟩)
            | false =>
              go_wp2_with fail
              refine (HSt2.out _ HB5.out).mono ?_
              rintro e w6 ⟨rfl, hb6⟩
              have hR6 := (HR5.out.keep hb6).old (.cells #[.int .i64 a.no, .int .i64 a.dev, .int .i64 a.kind, .int .i64 a.mode, .int .i64 a.uid, .int .i64 a.gid, .int .i64 a.links, .int .i64 a.data.size, .int .i64 a.mtime, .int .i64 a.ctime] 172)
              have hX6 := (HX5.out.keep hb6).old (.cells #[.int .i64 a.no, .int .i64 a.dev, .int .i64 a.kind, .int .i64 a.mode, .int .i64 a.uid, .int .i64 a.gid, .int .i64 a.links, .int .i64 a.data.size, .int .i64 a.mtime, .int .i64 a.ctime] 172)
              have hS6 := Blk.new w6 #[.int .i64 a.no, .int .i64 a.dev, .int .i64 a.kind, .int .i64 a.mode, .int .i64 a.uid, .int .i64 a.gid, .int .i64 a.links, .int .i64 a.data.size, .int .i64 a.mtime, .int .i64 a.ctime] 172
              have hb7 := balloc (bnext HB5.out hb6) (.cells #[.int .i64 a.no, .int .i64 a.dev, .int .i64 a.kind, .int .i64 a.mode, .int .i64 a.uid, .int .i64 a.gid, .int .i64 a.links, .int .i64 a.data.size, .int .i64 a.mtime, .int .i64 a.ctime] 172)
              clear hb6 rc rf rz xc xf xz
              go_upto_region 16 with fail
              generalize w6.alloc (.cells #[.int .i64 a.no, .int .i64 a.dev, .int .i64 a.kind, .int .i64 a.mode, .int .i64 a.uid, .int .i64 a.gid, .int .i64 a.links, .int .i64 a.data.size, .int .i64 a.mtime, .int .i64 a.ctime] 172) = V at hR6 hX6 hS6 hb7 ⊢
              have HR6 := Lib.hid hR6
              have HX6 := Lib.hid hX6
              have HB7 := Lib.hid hb7
              obtain ⟨xc, xf, xz⟩ := hX6.facts
              obtain ⟨sc, sf, sz⟩ := hS6.facts
              have pc0 := HPC.out _ hb7
              clear hR6 hX6 hS6 hb7
              have HRo2 := Lib.hid (fun w1 (hb : Below V.heap.size V w1) d => (HRo.out w1 (bnext HB7.out hb) d).mono fun e w' ⟨he, hw⟩ => show e = Ending.returned (.int .i64 (S.root d)) ∧ Below w1.heap.size w1 w' from ⟨he, by rw [← hw]; exact Below.refl _ _⟩)
              have hpv : pf < V.heap.size := Nat.lt_of_lt_of_le HPl.out HB7.out.size
              go_region_held3 (fun w' => (∀ b o, b < V.heap.size → w'.cell? ⟨b, o, none⟩ = V.cell? ⟨b, o, none⟩) ∧ Below V.heap.size V w') (first | with_reducible assumption | with_reducible exact keepS_here _ | with_reducible exact keepS_here2 _ | with_reducible exact keepS_call (by assumption) (by assumption) | with_reducible exact keepS_alloc (by assumption) _ | with_reducible exact keepS_allocD (by assumption) _ | with_reducible exact keepS_realloc (by assumption) (by assumption) | with_reducible exact keepS_set4 (by assumption) (by assumption))
                ((go_at_call 77; ((with_reducible refine (HRo2.out _ (And.right (by assumption)) _).mono ?_); rintro e w7 ⟨rfl, hb8⟩)))
              all_goals
               have hS : Below V.heap.size V _ := And.right (by assumption)
               have hR8 := HR6.out.keep hS
               have hX8 := HX6.out.keep hS
               have hB8 := bnext HB7.out hS
               have HR8 := Lib.hid hR8
               have HB8 := Lib.hid hB8
               clear xc xf xz sc sf sz pc0
               obtain ⟨xc, xf, xz⟩ := hX8.facts
               obtain ⟨rc, rf, rz⟩ := hR8.facts
               clear hR8 hX8 hB8 hS
               cases rb with
               | true =>
                 have HE6 := Lib.hid (HE5.out.trans (if_pos (.inr rfl)))
                 go_wp2_with (exact bodyPost_ret (toperand_results (x := fd0) (e := 16) HR8.out.set4 rfl rfl) rfl ⟨by rw [HE6.out], below_set4 HB8.out (Nat.le_succ _)⟩)
               | false =>
                 have HE6 := Lib.hid (HE5.out.trans (if_neg (by simp)))
                 go_wp2_with (exact bodyPost_ret (toperand_results (x := rd.1) (e := 0) HR8.out.set4 rfl rfl) rfl ⟨by rw [HE6.out], below_set4 HB8.out (Nat.le_succ _)⟩)
      · have heb : (rd.2 != 0) = true := by simpa using he
        have HE3 := Lib.hid (HE2.out.trans (if_pos he))
        clear he
        go_wp2_with (exact bodyPost_ret (toperand_results (x := fd0) (e := rd.2) HR3.out.set4 rfl rfl) rfl ⟨by rw [HE3.out], below_set4 HB3.out (Nat.le_succ _)⟩)
  · have hpb : (pe != 0) = true := by simpa using hpe
    have HE1 := Lib.hid (HE0.out.trans (if_pos hpe))
    obtain ⟨rc, rf, rz⟩ := HRX.out.facts
    clear hpe
    go_wp2_with (exact bodyPost_ret (toperand_results (x := fd0) (e := pe) HRX.out.set4 rfl rfl) rfl ⟨by rw [HE1.out], below_set4 HBX.out (Nat.le_succ _)⟩)
end

end Go.Proofs.YtihdbncoijhihaaGreatDoor

/- The tops of all mounts (layer 29): topdir.All. -/
namespace Go.Proofs.YtihdbncoijhihaaGreatDoor

open Go.RowKit Go.Shelf

attribute [local go_sem] Oper.semAt_some

def Fs.topAt (S : Fs) (d : Nat) : Option (Int × ByteArray) := (S.place_ (S.root ((d : Int) + 1))).map fun s => (S.root ((d : Int) + 1), s)
def Fs.topsK (S : Fs) (k : Nat) : List (Int × ByteArray) := (List.range k).filterMap S.topAt
def Fs.topsL (S : Fs) : List (Int × ByteArray) := S.topsK S.ds.length
theorem topsK_succ (S : Fs) (k : Nat) : S.topsK (k + 1) = S.topsK k ++ (S.topAt k).toList := by
  unfold Fs.topsK
  rw [List.range_succ, List.filterMap_append]
  cases h : S.topAt k <;> simp [h]
theorem topsK_prefix (S : Fs) {k n : Nat} (h : k ≤ n) : S.topsK k <+: S.topsK n := by
  induction n with
  | zero => have : k = 0 := by omega
            subst this; exact List.prefix_refl _
  | succ n ih =>
    by_cases hk : k = n + 1
    · subst hk; exact List.prefix_refl _
    · refine (ih (by omega)).trans ?_
      rw [topsK_succ]
      exact List.prefix_append _ _
theorem all_any (pf : Nat) (w : World) :
    Calls Tryz.prog 74 #[.pointer (some ⟨pf, 0, none⟩)] w fun e w' => e = .returned (.func (.func 145) #[] #[.pointer (some ⟨w.heap.size, 0, none⟩)]) ∧ w' = w.alloc (.cells #[.pointer (some ⟨pf, 0, none⟩)] 33) := by
  go_enter Tryz.func74, Tryz.ntmps74
  go_wp2_with fail
  go_ret
  exact ⟨rfl, rfl⟩
set_option maxRecDepth 100000 in
set_option maxHeartbeats 2000000 in
theorem all_stops {pf pw : Nat} {R : Rp} {pv : Value} {Y : Sy} (n : Nat) (hn : 1 ≤ n) (Bs : Nat) (w : World) (hs : Blk w Bs #[.pointer (some ⟨pf, 0, none⟩)] 33) (h : SyAt w pf pw R pv Y) {N : Nat} (hk : FsOk Y.fs N) (hp : Pl Y.fs) (hl : Y.fs.ns.length ≤ 100000) :
    SeqB w.heap.size Fence.wide n Tryz.prog 145 #[.pointer (some ⟨Bs, 0, none⟩)] (fun x : Int × ByteArray => #[.int .i64 x.1, .string x.2])
      (fun xs => xs = Y.fs.topsL) (fun pre => True) (fun pre x => (pre ++ [x]) <+: Y.fs.topsL) w := fun L J Jx W hW hWs hJ hJx hY h0 => by
  have Hs := Lib.hid (fun w1 (hb : Below w.heap.size w w1) => (hs.keep hb).facts)
  have HDv := Lib.hid (fun w1 (hb : Below w.heap.size w w1) => wdevs_any (h.wd.keep hb) hk.d1)
  have HRo := Lib.hid (fun w1 (hb : Below w.heap.size w w1) d => wroot_any (h.wd.keep hb) hk.d1 d)
  have HWh := Lib.hid (fun w1 (hb : Below w.heap.size w w1) d => wwhere_any (h.wd.keep hb) hk hp hl d)
  obtain ⟨pc, -, pz⟩ := h.blk.facts
  have HPC := Lib.hid (fun w1 (hb1 : Below w.heap.size w w1) => show w1.cell? ⟨pf, 0, none⟩ = some (.pointer (some ⟨pw, 0, none⟩)) from (hb1.cell (p := ⟨pf, 0, none⟩) pz).trans (pc 0))
  obtain ⟨S, hS⟩ : ∃ S, Y.fs = S := ⟨_, rfl⟩
  have hd8 := hk.d8
  rw [hS] at HDv HRo HWh hY hd8 ⊢
  have HY := Lib.hid hY
  have HJ := Lib.hid hJ
  have HW := Lib.hid hW
  obtain ⟨sc, -, sz⟩ := Hs.out _ hW
  have pc0 := HPC.out _ hW
  clear hs hW hWs hY hJ hJx h hk hp pc pz hS
  refine callsIn_of_wp Tryz.func145 rfl trivial ?_ rfl
  simp only [Tryz.ntmps145, List.size_toArray, List.length_cons, List.length_nil, Nat.reduceAdd, Nat.reduceSub, Array.replicate_succ, Array.replicate_zero, List.push_toArray, List.append_toArray, List.nil_append, List.cons_append]
  gi_wp2
  refine ⟨trivial, callsIn_wide.2 ((HDv.out _ HW.out).mono ?_)⟩
  rintro e w1 ⟨rfl, rfl⟩
  gi_wp2
  gi_loopw [21] (fun t21 wr => ∃ k : Nat, k ≤ S.ds.length ∧ t21 = .int .i64 k ∧ J (S.topsK k) wr ∧ Below w.heap.size w wr ∧ W.heap.size ≤ wr.heap.size) (fun t21 _ => S.ds.length - (intOf t21).toNat)
  case atStart => exact ⟨0, Nat.zero_le _, rfl, h0, HW.out, Nat.le_refl _⟩
  case round =>
    obtain ⟨k, hk, rfl, hJp, hb, hsz⟩ := hrel
    clear sc sz pc0 h0
    have HJp := Lib.hid hJp
    have HB := Lib.hid hb
    by_cases hkl : k < S.ds.length
    · obtain ⟨sc, -, sz⟩ := Hs.out _ hb
      have pc0 := HPC.out _ hb
      have HT := Lib.hid (topsK_succ S k)
      have HPr := Lib.hid (topsK_prefix S (show k + 1 ≤ S.ds.length by omega))
      have HAt := Lib.hid (show S.topAt k = (S.place_ (S.root ((k : Int) + 1))).map fun s => (S.root ((k : Int) + 1), s) from rfl)
      clear hJp hb
      gi_wp2
      refine ⟨trivial, callsIn_wide.2 ((HRo.out _ HB.out _).mono ?_)⟩
      rintro e w2 ⟨rfl, rfl⟩
      gi_wp2
      refine ⟨trivial, callsIn_wide.2 ((HWh.out _ HB.out _).mono ?_)⟩
      rintro e w3 ⟨rfl, hb3⟩
      have HJ3 := Lib.hid (HJ.out _ _ _ HJp.out (Turn.of_below hb3))
      have HB3 := Lib.hid (bnext HB.out hb3)
      have hsz3 : W.heap.size ≤ w3.heap.size := Nat.le_trans hsz hb3.size
      unfold whereV
      clear hb3 sc sz pc0
      cases hpl : S.place_ (S.root ((k : Int) + 1)) with
      | none =>
        rw [hpl] at HAt
        have HK := Lib.hid (show S.topsK (k + 1) = S.topsK k by rw [HT.out, HAt.out]; simp)
        clear hpl
        gi_wp2
        refine ⟨fun f hf => (by cases hf), ?_⟩
        gi_wp2
        go_roundw
        case rel => exact ⟨k + 1, by omega, by go_num, by rw [HK.out]; exact HJ3.out, HB3.out, hsz3⟩
        case measure => simp [intOf]; omega
      | some s =>
        rw [hpl] at HAt
        have HK := Lib.hid (show S.topsK (k + 1) = S.topsK k ++ [(S.root ((k : Int) + 1), s)] by rw [HT.out, HAt.out]; rfl)
        obtain ⟨fn, tmps, assign, body, hy, hR⟩ := HY.out _ (S.root ((k : Int) + 1), s) _ HJ3.out (by rw [← HK.out]; exact HPr.out)
        have HR := Lib.hid hR
        clear hpl hR
        gi_wp2
        refine HR.out.mono ?_
        rintro e W3 (⟨rfl, hJ3, hk3⟩ | ⟨rfl, hJx3⟩)
        · have HJ4 := Lib.hid hJ3
          have HB4 := Lib.hid (HB3.out.trans hk3)
          have hsz4 : W.heap.size ≤ W3.heap.size := Nat.le_trans hsz3 hk3.size
          clear hJ3 hk3 hy
          gi_wp2
          go_roundw
          case rel => exact ⟨k + 1, by omega, by go_num, by rw [HK.out]; exact HJ4.out, HB4.out, hsz4⟩
          case measure => simp [intOf]; omega
        · have HJx := Lib.hid hJx3
          clear hJx3 hy
          gi_wp2
          exact bodyPost_ret (results_none rfl _ _ _) rfl ⟨⟨_, rfl⟩, .inr ⟨_, trivial, HJx.out⟩⟩
    · obtain rfl : k = S.ds.length := by omega
      clear hJp hb
      gi_wp2
      go_end0
      exact ⟨⟨_, rfl⟩, .inl ⟨_, rfl, HJp.out⟩⟩
end Go.Proofs.YtihdbncoijhihaaGreatDoor
