/- Texts of the proof, part 21. -/
import Derived.Deep.CutBlock
import Derived.Deep.DeepCutAuto
import Derived.RegionTactic
import Derived.BigRegion
import Derived.Test.YtaojpbgaengdpaaGreatDoorDU19
import Derived.Test.YtaojpbgaengdpaaGreatDoorDU20
import Derived.Test.YtaojpbgaengdpaaGreatDoorDU17
set_option linter.unusedVariables false
set_option linter.unusedSimpArgs false
/- A tree whose changes may fail (layer 21): the methods that change. Printed by gen_sys.py. -/
namespace Go.Proofs.YtaojpbgaengdpaaGreatDoor

open Go.RowKit

theorem change_fs (Y : Sy) : Y.change.1.fs = Y.fs ∧ Y.change.1.now = Y.now ∧ Y.change.1.plan = Y.plan := by
  unfold Sy.change
  split
  · exact ⟨rfl, rfl, rfl⟩
  · split <;> exact ⟨rfl, rfl, rfl⟩
/-- a change, if it goes. -/
def Sy.op (Y : Sy) (g : Fs → Int → Fs × Int × Int) : Sy × Int × Int :=
  if Y.change.2 ≠ 0 then (Y.change.1, 0, Y.change.2) else ({ Y.change.1 with fs := (g Y.fs Y.now).1 }, (g Y.fs Y.now).2)
def Sy.opE (Y : Sy) (g : Fs → Int → Fs × Int) : Sy × Int :=
  if Y.change.2 ≠ 0 then (Y.change.1, Y.change.2) else ({ Y.change.1 with fs := (g Y.fs Y.now).1 }, (g Y.fs Y.now).2)
section

variable {w w' : World} {pf pw : Nat} {R : Rp} {pv : Value} {Y : Sy}

set_option maxRecDepth 100000 in
set_option maxHeartbeats 1000000 in
theorem smkdir_any (h : SyAt w pf pw R pv Y) {N : Nat} (hk : FsOk Y.fs N) (hN : N ≤ 999999) (hc : 0 ≤ Y.count ∧ Y.count ≤ 4611686018427387904) (hl : Y.plan.length ≤ 1000000) (c : Cr) (dir : Int) (s : ByteArray) (mode : Int) (hs : s.size ≤ 9223372036854775807) :
    Calls Tryz.prog 60 #[.pointer (some ⟨pf, 0, none⟩), .agg #[.int .i64 c.u, .int .i64 c.g], .int .i64 dir, .string s, .int .i64 mode] w fun e w' =>
      e = .returned (.tuple #[.int .i64 (Y.op (fun S now => S.mkdir c now dir s mode)).2.1, .int .i64 (Y.op (fun S now => S.mkdir c now dir s mode)).2.2]) ∧ ∃ R', SyAt w' pf pw R' pv (Y.op (fun S now => S.mkdir c now dir s mode)).1 ∧ Stp (R.Y pf pw) (R'.Y pf pw) w w' := by
  have HY := Lib.hid h
  have HC := Lib.hid (change_any (h.keep ((Below.refl _ w).alloc (Nat.le_refl _) (.cells #[.int .i64 c.u, .int .i64 c.g] 70))) hc hl)
  obtain ⟨hf1, hf2, hf3⟩ := change_fs Y
  have HF := Lib.hid (And.intro hf1 hf2)
  have hpf := h.blk.lt
  have hk1 : FsOk Y.change.1.fs N := by rw [hf1]; exact hk
  have mixed : Tryz.prog.follows .mixedOrders = true := by kernel_rfl
  clear h hk hf1 hf2 hf3
  go_enter Tryz.func60, Tryz.ntmps60
  go_wp2_with fail
  refine HC.out.mono ?_
  rintro e w1 ⟨rfl, hY1, hm1⟩
  have HS1 := Lib.hid ((stpY (Stp.of_below (F := R.F pw) (balloc (Below.refl w.heap.size w) (.cells #[.int .i64 c.u, .int .i64 c.g] 70)))).trans (stpF (pw := pw) (R := R) hm1))
  by_cases h0 : Y.change.2 = 0
  · have h0b : (Y.change.2 == 0) = true := by simpa using h0
    have HE := Lib.hid (show Y.op (fun S now => S.mkdir c now dir s mode) = _ from if_neg (by simp [h0]))
    have hcr := (Blk.new w #[.int .i64 c.u, .int .i64 c.g] 70).mod hm1 (by omega)
    obtain ⟨cc, -, cz⟩ := hcr.facts
    obtain ⟨pc, -, pz⟩ := hY1.blk.facts
    have HD := Lib.hid (dir_any (hY1.wd.keep (Below.refl _ w1).drew) hk1 hN c Y.change.1.now dir s hs mode)
    have HY1 := Lib.hid hY1
    clear h0 hcr hY1 hm1
    go_wp2_with fail
    refine wp_region_lex 12 mixed (by kernel_rfl) (show PanicOk _ from by repeat (first | exact pk_body | refine pk_then ?_ | refine pk_block ?_ | refine pk_scope ?_)) ?_
    simp only [List.take_succ_cons, List.take_zero, List.drop_succ_cons, List.drop_zero]
    repeat still_step
    refine wpStill_nil ?_
    go_wp2_with fail
    refine HD.out.mono ?_
    rintro e w5 ⟨rfl, R5, hR5, hS5⟩
    have HY5 := Lib.hid ((HY1.out.keep (Below.refl _ w1).drew).step hR5 hS5)
    have HS5 := Lib.hid ((HS1.out.trans (stpY (Stp.of_below (F := R.F pw) (Below.refl _ w1).drew))).trans (stpY hS5))
    clear hR5 hS5
    go_wp2_with fail
    go_ret2
    rw [HE.out, HF.out.1.symm, HF.out.2.symm]
    exact ⟨rfl, R5, HY5.out, HS5.out⟩
  · have h0b : (Y.change.2 == 0) = false := by simpa using h0
    have HE := Lib.hid (show Y.op (fun S now => S.mkdir c now dir s mode) = _ from if_pos h0)
    have HY1 := Lib.hid hY1
    clear hY1 h0 hm1
    generalize Y.change.2 = ce at HE h0b ⊢
    go_wp2_with fail
    go_ret2
    rw [HE.out]
    exact ⟨rfl, R, HY1.out, HS1.out⟩
set_option maxRecDepth 100000 in
set_option maxHeartbeats 1000000 in
theorem screate_any (h : SyAt w pf pw R pv Y) {N : Nat} (hk : FsOk Y.fs N) (hN : N ≤ 999999) (hc : 0 ≤ Y.count ∧ Y.count ≤ 4611686018427387904) (hl : Y.plan.length ≤ 1000000) (c : Cr) (dir : Int) (s : ByteArray) (mode : Int) (data : ByteArray) (hs : s.size ≤ 9223372036854775807) (hdata : data.size ≤ 9223372036854775807) :
    Calls Tryz.prog 63 #[.pointer (some ⟨pf, 0, none⟩), .agg #[.int .i64 c.u, .int .i64 c.g], .int .i64 dir, .string s, .int .i64 mode, .string data] w fun e w' =>
      e = .returned (.tuple #[.int .i64 (Y.op (fun S now => S.file c now dir s mode data)).2.1, .int .i64 (Y.op (fun S now => S.file c now dir s mode data)).2.2]) ∧ ∃ R', SyAt w' pf pw R' pv (Y.op (fun S now => S.file c now dir s mode data)).1 ∧ Stp (R.Y pf pw) (R'.Y pf pw) w w' := by
  have HY := Lib.hid h
  have HC := Lib.hid (change_any (h.keep ((Below.refl _ w).alloc (Nat.le_refl _) (.cells #[.int .i64 c.u, .int .i64 c.g] 70))) hc hl)
  obtain ⟨hf1, hf2, hf3⟩ := change_fs Y
  have HF := Lib.hid (And.intro hf1 hf2)
  have hpf := h.blk.lt
  have hk1 : FsOk Y.change.1.fs N := by rw [hf1]; exact hk
  have mixed : Tryz.prog.follows .mixedOrders = true := by kernel_rfl
  clear h hk hf1 hf2 hf3
  go_enter Tryz.func63, Tryz.ntmps63
  go_wp2_with fail
  refine HC.out.mono ?_
  rintro e w1 ⟨rfl, hY1, hm1⟩
  have HS1 := Lib.hid ((stpY (Stp.of_below (F := R.F pw) (balloc (Below.refl w.heap.size w) (.cells #[.int .i64 c.u, .int .i64 c.g] 70)))).trans (stpF (pw := pw) (R := R) hm1))
  by_cases h0 : Y.change.2 = 0
  · have h0b : (Y.change.2 == 0) = true := by simpa using h0
    have HE := Lib.hid (show Y.op (fun S now => S.file c now dir s mode data) = _ from if_neg (by simp [h0]))
    have hcr := (Blk.new w #[.int .i64 c.u, .int .i64 c.g] 70).mod hm1 (by omega)
    obtain ⟨cc, -, cz⟩ := hcr.facts
    obtain ⟨pc, -, pz⟩ := hY1.blk.facts
    have HD := Lib.hid (file_any (hY1.wd.keep (Below.refl _ w1).drew) hk1 hN c Y.change.1.now dir s hs mode data hdata)
    have HY1 := Lib.hid hY1
    clear h0 hcr hY1 hm1
    go_wp2_with fail
    refine wp_region_lex 13 mixed (by kernel_rfl) (show PanicOk _ from by repeat (first | exact pk_body | refine pk_then ?_ | refine pk_block ?_ | refine pk_scope ?_)) ?_
    simp only [List.take_succ_cons, List.take_zero, List.drop_succ_cons, List.drop_zero]
    repeat still_step
    refine wpStill_nil ?_
    go_wp2_with fail
    refine HD.out.mono ?_
    rintro e w5 ⟨rfl, R5, hR5, hS5⟩
    have HY5 := Lib.hid ((HY1.out.keep (Below.refl _ w1).drew).step hR5 hS5)
    have HS5 := Lib.hid ((HS1.out.trans (stpY (Stp.of_below (F := R.F pw) (Below.refl _ w1).drew))).trans (stpY hS5))
    clear hR5 hS5
    go_wp2_with fail
    go_ret2
    rw [HE.out, HF.out.1.symm, HF.out.2.symm]
    exact ⟨rfl, R5, HY5.out, HS5.out⟩
  · have h0b : (Y.change.2 == 0) = false := by simpa using h0
    have HE := Lib.hid (show Y.op (fun S now => S.file c now dir s mode data) = _ from if_pos h0)
    have HY1 := Lib.hid hY1
    clear hY1 h0 hm1
    generalize Y.change.2 = ce at HE h0b ⊢
    go_wp2_with fail
    go_ret2
    rw [HE.out]
    exact ⟨rfl, R, HY1.out, HS1.out⟩
set_option maxRecDepth 100000 in
set_option maxHeartbeats 1000000 in
theorem ssym_any (h : SyAt w pf pw R pv Y) {N : Nat} (hk : FsOk Y.fs N) (hN : N ≤ 999999) (hc : 0 ≤ Y.count ∧ Y.count ≤ 4611686018427387904) (hl : Y.plan.length ≤ 1000000) (c : Cr) (dir : Int) (s : ByteArray) (text : ByteArray) (hs : s.size ≤ 9223372036854775807) (htext : text.size ≤ 9223372036854775807) :
    Calls Tryz.prog 64 #[.pointer (some ⟨pf, 0, none⟩), .agg #[.int .i64 c.u, .int .i64 c.g], .int .i64 dir, .string s, .string text] w fun e w' =>
      e = .returned (.tuple #[.int .i64 (Y.op (fun S now => S.sym c now dir s text)).2.1, .int .i64 (Y.op (fun S now => S.sym c now dir s text)).2.2]) ∧ ∃ R', SyAt w' pf pw R' pv (Y.op (fun S now => S.sym c now dir s text)).1 ∧ Stp (R.Y pf pw) (R'.Y pf pw) w w' := by
  have HY := Lib.hid h
  have HC := Lib.hid (change_any (h.keep ((Below.refl _ w).alloc (Nat.le_refl _) (.cells #[.int .i64 c.u, .int .i64 c.g] 70))) hc hl)
  obtain ⟨hf1, hf2, hf3⟩ := change_fs Y
  have HF := Lib.hid (And.intro hf1 hf2)
  have hpf := h.blk.lt
  have hk1 : FsOk Y.change.1.fs N := by rw [hf1]; exact hk
  have mixed : Tryz.prog.follows .mixedOrders = true := by kernel_rfl
  clear h hk hf1 hf2 hf3
  go_enter Tryz.func64, Tryz.ntmps64
  go_wp2_with fail
  refine HC.out.mono ?_
  rintro e w1 ⟨rfl, hY1, hm1⟩
  have HS1 := Lib.hid ((stpY (Stp.of_below (F := R.F pw) (balloc (Below.refl w.heap.size w) (.cells #[.int .i64 c.u, .int .i64 c.g] 70)))).trans (stpF (pw := pw) (R := R) hm1))
  by_cases h0 : Y.change.2 = 0
  · have h0b : (Y.change.2 == 0) = true := by simpa using h0
    have HE := Lib.hid (show Y.op (fun S now => S.sym c now dir s text) = _ from if_neg (by simp [h0]))
    have hcr := (Blk.new w #[.int .i64 c.u, .int .i64 c.g] 70).mod hm1 (by omega)
    obtain ⟨cc, -, cz⟩ := hcr.facts
    obtain ⟨pc, -, pz⟩ := hY1.blk.facts
    have HD := Lib.hid (sym_any (hY1.wd.keep (Below.refl _ w1).drew) hk1 hN c Y.change.1.now dir s hs text htext)
    have HY1 := Lib.hid hY1
    clear h0 hcr hY1 hm1
    go_wp2_with fail
    refine wp_region_lex 12 mixed (by kernel_rfl) (show PanicOk _ from by repeat (first | exact pk_body | refine pk_then ?_ | refine pk_block ?_ | refine pk_scope ?_)) ?_
    simp only [List.take_succ_cons, List.take_zero, List.drop_succ_cons, List.drop_zero]
    repeat still_step
    refine wpStill_nil ?_
    go_wp2_with fail
    refine HD.out.mono ?_
    rintro e w5 ⟨rfl, R5, hR5, hS5⟩
    have HY5 := Lib.hid ((HY1.out.keep (Below.refl _ w1).drew).step hR5 hS5)
    have HS5 := Lib.hid ((HS1.out.trans (stpY (Stp.of_below (F := R.F pw) (Below.refl _ w1).drew))).trans (stpY hS5))
    clear hR5 hS5
    go_wp2_with fail
    go_ret2
    rw [HE.out, HF.out.1.symm, HF.out.2.symm]
    exact ⟨rfl, R5, HY5.out, HS5.out⟩
  · have h0b : (Y.change.2 == 0) = false := by simpa using h0
    have HE := Lib.hid (show Y.op (fun S now => S.sym c now dir s text) = _ from if_pos h0)
    have HY1 := Lib.hid hY1
    clear hY1 h0 hm1
    generalize Y.change.2 = ce at HE h0b ⊢
    go_wp2_with fail
    go_ret2
    rw [HE.out]
    exact ⟨rfl, R, HY1.out, HS1.out⟩
set_option maxRecDepth 100000 in
set_option maxHeartbeats 1000000 in
theorem slink_any (h : SyAt w pf pw R pv Y) {N : Nat} (hk : FsOk Y.fs N) (hN : N ≤ 999999) (hc : 0 ≤ Y.count ∧ Y.count ≤ 4611686018427387904) (hl : Y.plan.length ≤ 1000000) (c : Cr) (no : Int) (dir : Int) (s : ByteArray) (hs : s.size ≤ 9223372036854775807) :
    Calls Tryz.prog 65 #[.pointer (some ⟨pf, 0, none⟩), .agg #[.int .i64 c.u, .int .i64 c.g], .int .i64 no, .int .i64 dir, .string s] w fun e w' =>
      e = .returned (.int .i64 (Y.opE (fun S now => S.hard c now no dir s)).2) ∧ ∃ R', SyAt w' pf pw R' pv (Y.opE (fun S now => S.hard c now no dir s)).1 ∧ Stp (R.Y pf pw) (R'.Y pf pw) w w' := by
  have HY := Lib.hid h
  have HC := Lib.hid (change_any (h.keep ((Below.refl _ w).alloc (Nat.le_refl _) (.cells #[.int .i64 c.u, .int .i64 c.g] 70))) hc hl)
  obtain ⟨hf1, hf2, hf3⟩ := change_fs Y
  have HF := Lib.hid (And.intro hf1 hf2)
  have hpf := h.blk.lt
  have hk1 : FsOk Y.change.1.fs N := by rw [hf1]; exact hk
  have mixed : Tryz.prog.follows .mixedOrders = true := by kernel_rfl
  clear h hk hf1 hf2 hf3
  go_enter Tryz.func65, Tryz.ntmps65
  go_wp2_with fail
  refine HC.out.mono ?_
  rintro e w1 ⟨rfl, hY1, hm1⟩
  have HS1 := Lib.hid ((stpY (Stp.of_below (F := R.F pw) (balloc (Below.refl w.heap.size w) (.cells #[.int .i64 c.u, .int .i64 c.g] 70)))).trans (stpF (pw := pw) (R := R) hm1))
  by_cases h0 : Y.change.2 = 0
  · have h0b : (Y.change.2 == 0) = true := by simpa using h0
    have HE := Lib.hid (show Y.opE (fun S now => S.hard c now no dir s) = _ from if_neg (by simp [h0]))
    have hcr := (Blk.new w #[.int .i64 c.u, .int .i64 c.g] 70).mod hm1 (by omega)
    obtain ⟨cc, -, cz⟩ := hcr.facts
    obtain ⟨pc, -, pz⟩ := hY1.blk.facts
    have HD := Lib.hid (hard_any (hY1.wd.keep (Below.refl _ w1).drew) hk1 hN c Y.change.1.now no dir s hs)
    have HY1 := Lib.hid hY1
    clear h0 hcr hY1 hm1
    go_wp2_with fail
    refine wp_region_lex 12 mixed (by kernel_rfl) (show PanicOk _ from by repeat (first | exact pk_body | refine pk_then ?_ | refine pk_block ?_ | refine pk_scope ?_)) ?_
    simp only [List.take_succ_cons, List.take_zero, List.drop_succ_cons, List.drop_zero]
    repeat still_step
    refine wpStill_nil ?_
    go_wp2_with fail
    refine HD.out.mono ?_
    rintro e w5 ⟨rfl, R5, hR5, hS5⟩
    have HY5 := Lib.hid ((HY1.out.keep (Below.refl _ w1).drew).step hR5 hS5)
    have HS5 := Lib.hid ((HS1.out.trans (stpY (Stp.of_below (F := R.F pw) (Below.refl _ w1).drew))).trans (stpY hS5))
    clear hR5 hS5
    go_wp2_with fail
    go_ret
    rw [HE.out, HF.out.1.symm, HF.out.2.symm]
    exact ⟨rfl, R5, HY5.out, HS5.out⟩
  · have h0b : (Y.change.2 == 0) = false := by simpa using h0
    have HE := Lib.hid (show Y.opE (fun S now => S.hard c now no dir s) = _ from if_pos h0)
    have HY1 := Lib.hid hY1
    clear hY1 h0 hm1
    generalize Y.change.2 = ce at HE h0b ⊢
    go_wp2_with fail
    go_ret
    rw [HE.out]
    exact ⟨rfl, R, HY1.out, HS1.out⟩
set_option maxRecDepth 100000 in
set_option maxHeartbeats 1000000 in
theorem schmod_any (h : SyAt w pf pw R pv Y) {N : Nat} (hk : FsOk Y.fs N) (hN : N ≤ 999999) (hc : 0 ≤ Y.count ∧ Y.count ≤ 4611686018427387904) (hl : Y.plan.length ≤ 1000000) (c : Cr) (no : Int) (mode : Int)  :
    Calls Tryz.prog 29 #[.pointer (some ⟨pf, 0, none⟩), .agg #[.int .i64 c.u, .int .i64 c.g], .int .i64 no, .int .i64 mode] w fun e w' =>
      e = .returned (.int .i64 (Y.opE (fun S now => S.chmod c now no mode)).2) ∧ ∃ R', SyAt w' pf pw R' pv (Y.opE (fun S now => S.chmod c now no mode)).1 ∧ Stp (R.Y pf pw) (R'.Y pf pw) w w' := by
  have HY := Lib.hid h
  have HC := Lib.hid (change_any (h.keep ((Below.refl _ w).alloc (Nat.le_refl _) (.cells #[.int .i64 c.u, .int .i64 c.g] 70))) hc hl)
  obtain ⟨hf1, hf2, hf3⟩ := change_fs Y
  have HF := Lib.hid (And.intro hf1 hf2)
  have hpf := h.blk.lt
  have hk1 : FsOk Y.change.1.fs N := by rw [hf1]; exact hk
  have mixed : Tryz.prog.follows .mixedOrders = true := by kernel_rfl
  clear h hk hf1 hf2 hf3
  go_enter Tryz.func29, Tryz.ntmps29
  go_wp2_with fail
  refine HC.out.mono ?_
  rintro e w1 ⟨rfl, hY1, hm1⟩
  have HS1 := Lib.hid ((stpY (Stp.of_below (F := R.F pw) (balloc (Below.refl w.heap.size w) (.cells #[.int .i64 c.u, .int .i64 c.g] 70)))).trans (stpF (pw := pw) (R := R) hm1))
  by_cases h0 : Y.change.2 = 0
  · have h0b : (Y.change.2 == 0) = true := by simpa using h0
    have HE := Lib.hid (show Y.opE (fun S now => S.chmod c now no mode) = _ from if_neg (by simp [h0]))
    have hcr := (Blk.new w #[.int .i64 c.u, .int .i64 c.g] 70).mod hm1 (by omega)
    obtain ⟨cc, -, cz⟩ := hcr.facts
    obtain ⟨pc, -, pz⟩ := hY1.blk.facts
    have HD := Lib.hid (mode_any (hY1.wd.keep (Below.refl _ w1).drew) hk1 c Y.change.1.now no mode)
    have HY1 := Lib.hid hY1
    clear h0 hcr hY1 hm1
    go_wp2_with fail
    refine wp_region_lex 11 mixed (by kernel_rfl) (show PanicOk _ from by repeat (first | exact pk_body | refine pk_then ?_ | refine pk_block ?_ | refine pk_scope ?_)) ?_
    simp only [List.take_succ_cons, List.take_zero, List.drop_succ_cons, List.drop_zero]
    repeat still_step
    refine wpStill_nil ?_
    go_wp2_with fail
    refine HD.out.mono ?_
    rintro e w5 ⟨rfl, R5, hR5, hS5⟩
    have HY5 := Lib.hid ((HY1.out.keep (Below.refl _ w1).drew).step hR5 hS5)
    have HS5 := Lib.hid ((HS1.out.trans (stpY (Stp.of_below (F := R.F pw) (Below.refl _ w1).drew))).trans (stpY hS5))
    clear hR5 hS5
    go_wp2_with fail
    go_ret
    rw [HE.out, HF.out.1.symm, HF.out.2.symm]
    exact ⟨rfl, R5, HY5.out, HS5.out⟩
  · have h0b : (Y.change.2 == 0) = false := by simpa using h0
    have HE := Lib.hid (show Y.opE (fun S now => S.chmod c now no mode) = _ from if_pos h0)
    have HY1 := Lib.hid hY1
    clear hY1 h0 hm1
    generalize Y.change.2 = ce at HE h0b ⊢
    go_wp2_with fail
    go_ret
    rw [HE.out]
    exact ⟨rfl, R, HY1.out, HS1.out⟩
set_option maxRecDepth 100000 in
set_option maxHeartbeats 1000000 in
theorem schown_any (h : SyAt w pf pw R pv Y) {N : Nat} (hk : FsOk Y.fs N) (hN : N ≤ 999999) (hc : 0 ≤ Y.count ∧ Y.count ≤ 4611686018427387904) (hl : Y.plan.length ≤ 1000000) (c : Cr) (no : Int) (uid : Int) (gid : Int)  :
    Calls Tryz.prog 28 #[.pointer (some ⟨pf, 0, none⟩), .agg #[.int .i64 c.u, .int .i64 c.g], .int .i64 no, .int .i64 uid, .int .i64 gid] w fun e w' =>
      e = .returned (.int .i64 (Y.opE (fun S now => S.chown c now no uid gid)).2) ∧ ∃ R', SyAt w' pf pw R' pv (Y.opE (fun S now => S.chown c now no uid gid)).1 ∧ Stp (R.Y pf pw) (R'.Y pf pw) w w' := by
  have HY := Lib.hid h
  have HC := Lib.hid (change_any (h.keep ((Below.refl _ w).alloc (Nat.le_refl _) (.cells #[.int .i64 c.u, .int .i64 c.g] 70))) hc hl)
  obtain ⟨hf1, hf2, hf3⟩ := change_fs Y
  have HF := Lib.hid (And.intro hf1 hf2)
  have hpf := h.blk.lt
  have hk1 : FsOk Y.change.1.fs N := by rw [hf1]; exact hk
  have mixed : Tryz.prog.follows .mixedOrders = true := by kernel_rfl
  clear h hk hf1 hf2 hf3
  go_enter Tryz.func28, Tryz.ntmps28
  go_wp2_with fail
  refine HC.out.mono ?_
  rintro e w1 ⟨rfl, hY1, hm1⟩
  have HS1 := Lib.hid ((stpY (Stp.of_below (F := R.F pw) (balloc (Below.refl w.heap.size w) (.cells #[.int .i64 c.u, .int .i64 c.g] 70)))).trans (stpF (pw := pw) (R := R) hm1))
  by_cases h0 : Y.change.2 = 0
  · have h0b : (Y.change.2 == 0) = true := by simpa using h0
    have HE := Lib.hid (show Y.opE (fun S now => S.chown c now no uid gid) = _ from if_neg (by simp [h0]))
    have hcr := (Blk.new w #[.int .i64 c.u, .int .i64 c.g] 70).mod hm1 (by omega)
    obtain ⟨cc, -, cz⟩ := hcr.facts
    obtain ⟨pc, -, pz⟩ := hY1.blk.facts
    have HD := Lib.hid (owner_any (hY1.wd.keep (Below.refl _ w1).drew) hk1 c Y.change.1.now no uid gid)
    have HY1 := Lib.hid hY1
    clear h0 hcr hY1 hm1
    go_wp2_with fail
    refine wp_region_lex 12 mixed (by kernel_rfl) (show PanicOk _ from by repeat (first | exact pk_body | refine pk_then ?_ | refine pk_block ?_ | refine pk_scope ?_)) ?_
    simp only [List.take_succ_cons, List.take_zero, List.drop_succ_cons, List.drop_zero]
    repeat still_step
    refine wpStill_nil ?_
    go_wp2_with fail
    refine HD.out.mono ?_
    rintro e w5 ⟨rfl, R5, hR5, hS5⟩
    have HY5 := Lib.hid ((HY1.out.keep (Below.refl _ w1).drew).step hR5 hS5)
    have HS5 := Lib.hid ((HS1.out.trans (stpY (Stp.of_below (F := R.F pw) (Below.refl _ w1).drew))).trans (stpY hS5))
    clear hR5 hS5
    go_wp2_with fail
    go_ret
    rw [HE.out, HF.out.1.symm, HF.out.2.symm]
    exact ⟨rfl, R5, HY5.out, HS5.out⟩
  · have h0b : (Y.change.2 == 0) = false := by simpa using h0
    have HE := Lib.hid (show Y.opE (fun S now => S.chown c now no uid gid) = _ from if_pos h0)
    have HY1 := Lib.hid hY1
    clear hY1 h0 hm1
    generalize Y.change.2 = ce at HE h0b ⊢
    go_wp2_with fail
    go_ret
    rw [HE.out]
    exact ⟨rfl, R, HY1.out, HS1.out⟩
set_option maxRecDepth 100000 in
set_option maxHeartbeats 1000000 in
theorem sutime_any (h : SyAt w pf pw R pv Y) {N : Nat} (hk : FsOk Y.fs N) (hN : N ≤ 999999) (hc : 0 ≤ Y.count ∧ Y.count ≤ 4611686018427387904) (hl : Y.plan.length ≤ 1000000) (c : Cr) (no : Int) (t : Int)  :
    Calls Tryz.prog 30 #[.pointer (some ⟨pf, 0, none⟩), .agg #[.int .i64 c.u, .int .i64 c.g], .int .i64 no, .int .i64 t] w fun e w' =>
      e = .returned (.int .i64 (Y.opE (fun S now => S.utime c now no t)).2) ∧ ∃ R', SyAt w' pf pw R' pv (Y.opE (fun S now => S.utime c now no t)).1 ∧ Stp (R.Y pf pw) (R'.Y pf pw) w w' := by
  have HY := Lib.hid h
  have HC := Lib.hid (change_any (h.keep ((Below.refl _ w).alloc (Nat.le_refl _) (.cells #[.int .i64 c.u, .int .i64 c.g] 70))) hc hl)
  obtain ⟨hf1, hf2, hf3⟩ := change_fs Y
  have HF := Lib.hid (And.intro hf1 hf2)
  have hpf := h.blk.lt
  have hk1 : FsOk Y.change.1.fs N := by rw [hf1]; exact hk
  have mixed : Tryz.prog.follows .mixedOrders = true := by kernel_rfl
  clear h hk hf1 hf2 hf3
  go_enter Tryz.func30, Tryz.ntmps30
  go_wp2_with fail
  refine HC.out.mono ?_
  rintro e w1 ⟨rfl, hY1, hm1⟩
  have HS1 := Lib.hid ((stpY (Stp.of_below (F := R.F pw) (balloc (Below.refl w.heap.size w) (.cells #[.int .i64 c.u, .int .i64 c.g] 70)))).trans (stpF (pw := pw) (R := R) hm1))
  by_cases h0 : Y.change.2 = 0
  · have h0b : (Y.change.2 == 0) = true := by simpa using h0
    have HE := Lib.hid (show Y.opE (fun S now => S.utime c now no t) = _ from if_neg (by simp [h0]))
    have hcr := (Blk.new w #[.int .i64 c.u, .int .i64 c.g] 70).mod hm1 (by omega)
    obtain ⟨cc, -, cz⟩ := hcr.facts
    obtain ⟨pc, -, pz⟩ := hY1.blk.facts
    have HD := Lib.hid (time_any (hY1.wd.keep (Below.refl _ w1).drew) hk1 c Y.change.1.now no t)
    have HY1 := Lib.hid hY1
    clear h0 hcr hY1 hm1
    go_wp2_with fail
    refine wp_region_lex 11 mixed (by kernel_rfl) (show PanicOk _ from by repeat (first | exact pk_body | refine pk_then ?_ | refine pk_block ?_ | refine pk_scope ?_)) ?_
    simp only [List.take_succ_cons, List.take_zero, List.drop_succ_cons, List.drop_zero]
    repeat still_step
    refine wpStill_nil ?_
    go_wp2_with fail
    refine HD.out.mono ?_
    rintro e w5 ⟨rfl, R5, hR5, hS5⟩
    have HY5 := Lib.hid ((HY1.out.keep (Below.refl _ w1).drew).step hR5 hS5)
    have HS5 := Lib.hid ((HS1.out.trans (stpY (Stp.of_below (F := R.F pw) (Below.refl _ w1).drew))).trans (stpY hS5))
    clear hR5 hS5
    go_wp2_with fail
    go_ret
    rw [HE.out, HF.out.1.symm, HF.out.2.symm]
    exact ⟨rfl, R5, HY5.out, HS5.out⟩
  · have h0b : (Y.change.2 == 0) = false := by simpa using h0
    have HE := Lib.hid (show Y.opE (fun S now => S.utime c now no t) = _ from if_pos h0)
    have HY1 := Lib.hid hY1
    clear hY1 h0 hm1
    generalize Y.change.2 = ce at HE h0b ⊢
    go_wp2_with fail
    go_ret
    rw [HE.out]
    exact ⟨rfl, R, HY1.out, HS1.out⟩
end

end Go.Proofs.YtaojpbgaengdpaaGreatDoor

/- A node is read (layer 18): Stat, open, Read. -/
namespace Go.Proofs.YtaojpbgaengdpaaGreatDoor

open Go.RowKit

/-- what Stat tells of a node. -/
def stV : Option An → Value
  | none => .agg #[.int .i64 0, .int .i64 0, .int .i64 0, .int .i64 0, .int .i64 0, .int .i64 0, .int .i64 0, .int .i64 0, .int .i64 0, .int .i64 0]
  | some n => .agg #[.int .i64 n.no, .int .i64 n.dev, .int .i64 n.kind, .int .i64 n.mode, .int .i64 n.uid, .int .i64 n.gid, .int .i64 n.links, .int .i64 n.data.size, .int .i64 n.mtime, .int .i64 n.ctime]
def noneE : Option An → Int
  | none => 5
  | some _ => 0
set_option maxRecDepth 100000 in
theorem Blk.set10 {w : World} {B : Nat} {x0 x1 x2 x3 x4 x5 x6 x7 x8 x9 v0 v1 v2 v3 v4 v5 v6 v7 v8 v9 : Value} {T : TypeId} (h : Blk w B #[x0, x1, x2, x3, x4, x5, x6, x7, x8, x9] T) : Blk ((((((((((w.setCell ⟨B, 0, none⟩ v0).setCell ⟨B, 1, none⟩ v1).setCell ⟨B, 2, none⟩ v2).setCell ⟨B, 3, none⟩ v3).setCell ⟨B, 4, none⟩ v4).setCell ⟨B, 5, none⟩ v5).setCell ⟨B, 6, none⟩ v6).setCell ⟨B, 7, none⟩ v7).setCell ⟨B, 8, none⟩ v8).setCell ⟨B, 9, none⟩ v9) B #[v0, v1, v2, v3, v4, v5, v6, v7, v8, v9] T :=
  Blk.row (xs := [x0, x1, x2, x3, x4, x5, x6, x7, x8, x9]) (vs := [v0, v1, v2, v3, v4, v5, v6, v7, v8, v9]) h rfl
set_option maxRecDepth 100000 in
theorem below_set10 {N : Nat} {w0 w : World} {B : Nat} {v0 v1 v2 v3 v4 v5 v6 v7 v8 v9 : Value} (h : Below N w0 w) (hB : N ≤ B) : Below N w0 ((((((((((w.setCell ⟨B, 0, none⟩ v0).setCell ⟨B, 1, none⟩ v1).setCell ⟨B, 2, none⟩ v2).setCell ⟨B, 3, none⟩ v3).setCell ⟨B, 4, none⟩ v4).setCell ⟨B, 5, none⟩ v5).setCell ⟨B, 6, none⟩ v6).setCell ⟨B, 7, none⟩ v7).setCell ⟨B, 8, none⟩ v8).setCell ⟨B, 9, none⟩ v9) :=
  below_row hB [v0, v1, v2, v3, v4, v5, v6, v7, v8, v9] w 0 h
set_option maxRecDepth 100000 in
set_option maxHeartbeats 1000000 in
theorem stat_results {tmps : Array Value} {W : World} {B : Nat} {y0 y1 y2 y3 y4 y5 y6 y7 y8 y9 e : Int} (hb : Blk W B #[.int .i64 y0, .int .i64 y1, .int .i64 y2, .int .i64 y3, .int .i64 y4, .int .i64 y5, .int .i64 y6, .int .i64 y7, .int .i64 y8, .int .i64 y9] 118)
    (h8 : tmps.getD 4 undef = .pointer (some ⟨B, 0, none⟩)) (h9 : tmps.getD 5 undef = .int .i64 e) : (results Tryz.f98 tmps).run Tryz.prog W = .ok (.tuple #[.agg #[.int .i64 y0, .int .i64 y1, .int .i64 y2, .int .i64 y3, .int .i64 y4, .int .i64 y5, .int .i64 y6, .int .i64 y7, .int .i64 y8, .int .i64 y9], .int .i64 e]) W := by
  have q0 := hb.cell 0
  have q1 := hb.cell 1
  have q2 := hb.cell 2
  have q3 := hb.cell 3
  have q4 := hb.cell 4
  have q5 := hb.cell 5
  have q6 := hb.cell 6
  have q7 := hb.cell 7
  have q8 := hb.cell 8
  have q9 := hb.cell 9
  rw [Array.getD_eq_getD_getElem?] at h8 h9
  simp [results, Tryz.results98, go_sem, h8, h9, q0, q1, q2, q3, q4, q5, q6, q7, q8, q9]
/-- the error of open. -/
def Fs.openE (S : Fs) (c : Cr) (no kind want : Int) : Int := match S.get no with
  | none => 5
  | some n => if n.kind = kind then (if n.may c want = true then 0 else 6) else if kind = 1 then 9 else if n.kind = 1 then 8 else 1
def Fs.read (S : Fs) (c : Cr) (no : Int) : ByteArray × Int := if S.openE c no 2 4 = 0 then (match S.get no with | none => (ByteArray.empty, 0) | some n => (n.data, 0)) else (ByteArray.empty, S.openE c no 2 4)
section

variable {w w' : World} {pw : Nat} {R : Rp} {S : Fs}

set_option maxRecDepth 100000 in
set_option maxHeartbeats 1000000 in
theorem stat_any (h : WdAt w pw R S) {N : Nat} (hk : FsOk S N) (no : Int) :
    Calls Tryz.prog 98 #[.pointer (some ⟨pw, 0, none⟩), .int .i64 no] w fun e w' => e = .returned (.tuple #[stV (S.get no), .int .i64 (noneE (S.get no))]) ∧ Below w.heap.size w w' := by
  have HDv := Lib.hid (fun w1 (hb1 : Below w.heap.size w w1) => wdevs_any (h.keep hb1) hk.d1)
  have hnz := hk.d1
  generalize S.ds.length = n at HDv hnz
  have hz : ((n : Int) == 0) = false := by simp; omega
  obtain ⟨pc, -, pz⟩ := h.blk.facts
  have hRX := Blk.new w #[.int .i64 0, .int .i64 0, .int .i64 0, .int .i64 0, .int .i64 0, .int .i64 0, .int .i64 0, .int .i64 0, .int .i64 0, .int .i64 0] 118
  have hbX := balloc (Below.refl w.heap.size w) (.cells #[.int .i64 0, .int .i64 0, .int .i64 0, .int .i64 0, .int .i64 0, .int .i64 0, .int .i64 0, .int .i64 0, .int .i64 0, .int .i64 0] 118)
  cases hg : S.get no with
  | none =>
    have HG := Lib.hid (fun w1 (hb1 : Below w.heap.size w w1) => wget_no (h.keep hb1) hg)
    unfold An.v an0 at HG
    unfold stV noneE
    clear h hk hg
    go_enter Tryz.func98, Tryz.ntmps98
    go_wp2_with fail
    refine (HDv.out _ hbX).mono ?_
    rintro e w1 ⟨rfl, rfl⟩
    generalize w.alloc (.cells #[.int .i64 0, .int .i64 0, .int .i64 0, .int .i64 0, .int .i64 0, .int .i64 0, .int .i64 0, .int .i64 0, .int .i64 0, .int .i64 0] 118) = W0 at hRX hbX ⊢
    have HRX := Lib.hid hRX
    have HBX := Lib.hid hbX
    have pc0 : W0.cell? ⟨pw, 0, none⟩ = some (.pointer (some ⟨R.pt, 0, none⟩)) := (hbX.cell (p := ⟨pw, 0, none⟩) pz).trans (pc 0)
    clear hRX hbX pc
    go_wp2_with fail
    refine (HG.out _ HBX.out).mono ?_
    rintro e w1 ⟨rfl, hb1⟩
    have hRY := (HRX.out.keep hb1).old (.cells #[.int .i64 0, .int .i64 0, .int .i64 0, .int .i64 0, .int .i64 0, .int .i64 0, .int .i64 0, .int .i64 0, .int .i64 0, .int .i64 0, .string ByteArray.empty, .slice none 0 0] 86)
    have hbY := balloc (HBX.out.trans (hb1.mono HBX.out.size)) (.cells #[.int .i64 0, .int .i64 0, .int .i64 0, .int .i64 0, .int .i64 0, .int .i64 0, .int .i64 0, .int .i64 0, .int .i64 0, .int .i64 0, .string ByteArray.empty, .slice none 0 0] 86)
    clear hb1
    go_upto_region 4 with fail
    generalize w1.alloc (.cells #[.int .i64 0, .int .i64 0, .int .i64 0, .int .i64 0, .int .i64 0, .int .i64 0, .int .i64 0, .int .i64 0, .int .i64 0, .int .i64 0, .string ByteArray.empty, .slice none 0 0] 86) = Y at hRY hbY ⊢
    have HRY := Lib.hid hRY
    have HBY := Lib.hid hbY
    obtain ⟨rc, rf, rz⟩ := hRY.facts
    clear hRY hbY
    go_wp2_with fail
    exact bodyPost_ret (stat_results HRY.out.set10 rfl rfl) rfl ⟨rfl, below_set10 HBY.out (Nat.le_refl _)⟩
  | some d =>
    obtain ⟨ea, el, ec, he, hG⟩ := wget_fix h hg
    have HG := Lib.hid hG
    unfold An.v at HG
    unfold stV noneE
    clear h hk hg hG he
    go_enter Tryz.func98, Tryz.ntmps98
    go_wp2_with fail
    refine (HDv.out _ hbX).mono ?_
    rintro e w1 ⟨rfl, rfl⟩
    generalize w.alloc (.cells #[.int .i64 0, .int .i64 0, .int .i64 0, .int .i64 0, .int .i64 0, .int .i64 0, .int .i64 0, .int .i64 0, .int .i64 0, .int .i64 0] 118) = W0 at hRX hbX ⊢
    have HRX := Lib.hid hRX
    have HBX := Lib.hid hbX
    have pc0 : W0.cell? ⟨pw, 0, none⟩ = some (.pointer (some ⟨R.pt, 0, none⟩)) := (hbX.cell (p := ⟨pw, 0, none⟩) pz).trans (pc 0)
    clear hRX hbX pc
    go_wp2_with fail
    refine (HG.out _ HBX.out).mono ?_
    rintro e w1 ⟨rfl, hb1⟩
    have hRY := (HRX.out.keep hb1).old (.cells #[.int .i64 d.no, .int .i64 d.dev, .int .i64 d.kind, .int .i64 d.mode, .int .i64 d.uid, .int .i64 d.gid, .int .i64 d.mtime, .int .i64 d.ctime, .int .i64 d.links, .int .i64 d.up, .string d.data, .slice ea el ec] 86)
    have hbY := balloc (HBX.out.trans (hb1.mono HBX.out.size)) (.cells #[.int .i64 d.no, .int .i64 d.dev, .int .i64 d.kind, .int .i64 d.mode, .int .i64 d.uid, .int .i64 d.gid, .int .i64 d.mtime, .int .i64 d.ctime, .int .i64 d.links, .int .i64 d.up, .string d.data, .slice ea el ec] 86)
    have hDY := Blk.new w1 #[.int .i64 d.no, .int .i64 d.dev, .int .i64 d.kind, .int .i64 d.mode, .int .i64 d.uid, .int .i64 d.gid, .int .i64 d.mtime, .int .i64 d.ctime, .int .i64 d.links, .int .i64 d.up, .string d.data, .slice ea el ec] 86
    clear hb1
    go_upto_region 4 with fail
    generalize w1.alloc (.cells #[.int .i64 d.no, .int .i64 d.dev, .int .i64 d.kind, .int .i64 d.mode, .int .i64 d.uid, .int .i64 d.gid, .int .i64 d.mtime, .int .i64 d.ctime, .int .i64 d.links, .int .i64 d.up, .string d.data, .slice ea el ec] 86) = Y at hRY hbY hDY ⊢
    have HRY := Lib.hid hRY
    have HBY := Lib.hid hbY
    obtain ⟨rc, rf, rz⟩ := hRY.facts
    obtain ⟨dc, df, dz⟩ := hDY.facts
    clear hRY hbY hDY
    go_wp2_with fail
    exact bodyPost_ret (stat_results HRY.out.set10 rfl rfl) rfl ⟨rfl, below_set10 HBY.out (Nat.le_refl _)⟩
end

end Go.Proofs.YtaojpbgaengdpaaGreatDoor
