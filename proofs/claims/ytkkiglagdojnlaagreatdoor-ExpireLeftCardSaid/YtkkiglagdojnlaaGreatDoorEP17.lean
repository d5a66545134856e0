/- Texts of the proof, part 17. -/
import Derived.Deep.CutBlock
import Derived.Deep.DeepCutAuto
import Derived.RegionTactic
import Derived.BigRegion
import Derived.Test.YtkkiglagdojnlaaGreatDoorEP15
import Derived.Test.YtkkiglagdojnlaaGreatDoorEP16
import Derived.Test.YtkkiglagdojnlaaGreatDoorEP14
set_option linter.unusedVariables false
set_option linter.unusedSimpArgs false
/- A tree whose changes may fail (layer 21): the methods that change. Printed by gen_sys.py. -/
namespace Go.Proofs.YtkkiglagdojnlaaGreatDoor

open Go.RowKit

theorem change_fs (Y : Sy) : Y.change.1.fs = Y.fs ∧ Y.change.1.now = Y.now ∧ Y.change.1.plan = Y.plan := by
  unfold Sy.change
  split
  · exact ⟨rfl, rfl, rfl⟩
  · split <;> exact ⟨rfl, rfl, rfl⟩
/-- a change, if it goes. -/
def Sy.op (Y : Sy) (g : Fs → Int → Fs × Int × Int) : Sy × Int × Int :=
  if Y.change.2 ≠ 0 then (Y.change.1, 0, Y.change.2) else ({ Y.change.1 with fs := (g Y.fs Y.now).1 }, (g Y.fs Y.now).2)
def Sy.opE (Y : Sy) (g : Fs → Int → Fs × Int) : Sy × Int :=
  if Y.change.2 ≠ 0 then (Y.change.1, Y.change.2) else ({ Y.change.1 with fs := (g Y.fs Y.now).1 }, (g Y.fs Y.now).2)
section

variable {w w' : World} {pf pw : Nat} {R : Rp} {pv : Value} {Y : Sy}

set_option maxRecDepth 100000 in
set_option maxHeartbeats 1000000 in
theorem smkdir_any (h : SyAt w pf pw R pv Y) {N : Nat} (hk : FsOk Y.fs N) (hN : N ≤ 999999) (hc : 0 ≤ Y.count ∧ Y.count ≤ 4611686018427387904) (hl : Y.plan.length ≤ 1000000) (c : Cr) (dir : Int) (s : ByteArray) (mode : Int) (hs : s.size ≤ 9223372036854775807) :
    Calls Tryz.prog 36 #[.pointer (some ⟨pf, 0, none⟩), .agg #[.int .i64 c.u, .int .i64 c.g], .int .i64 dir, .string s, .int .i64 mode] w fun e w' =>
      e = .returned (.tuple #[.int .i64 (Y.op (fun S now => S.mkdir c now dir s mode)).2.1, .int .i64 (Y.op (fun S now => S.mkdir c now dir s mode)).2.2]) ∧ ∃ R', SyAt w' pf pw R' pv (Y.op (fun S now => S.mkdir c now dir s mode)).1 ∧ Stp (R.Y pf pw) (R'.Y pf pw) w w' := by
  have HY := Lib.hid h
  have HC := Lib.hid (change_any (h.keep ((Below.refl _ w).alloc (Nat.le_refl _) (.cells #[.int .i64 c.u, .int .i64 c.g] 54))) hc hl)
  obtain ⟨hf1, hf2, hf3⟩ := change_fs Y
  have HF := Lib.hid (And.intro hf1 hf2)
  have hpf := h.blk.lt
  have hk1 : FsOk Y.change.1.fs N := by rw [hf1]; exact hk
  have mixed : Tryz.prog.follows .mixedOrders = true := by kernel_rfl
  clear h hk hf1 hf2 hf3
  go_enter Tryz.func36, Tryz.ntmps36
  go_wp2_with fail
  refine HC.out.mono ?_
  rintro e w1 ⟨rfl, hY1, hm1⟩
  have HS1 := Lib.hid ((stpY (Stp.of_below (F := R.F pw) (balloc (Below.refl w.heap.size w) (.cells #[.int .i64 c.u, .int .i64 c.g] 54)))).trans (stpF (pw := pw) (R := R) hm1))
  by_cases h0 : Y.change.2 = 0
  · have h0b : (Y.change.2 == 0) = true := by simpa using h0
    have HE := Lib.hid (show Y.op (fun S now => S.mkdir c now dir s mode) = _ from if_neg (by simp [h0]))
    have hcr := (Blk.new w #[.int .i64 c.u, .int .i64 c.g] 54).mod hm1 (by omega)
    obtain ⟨cc, -, cz⟩ := hcr.facts
    obtain ⟨pc, -, pz⟩ := hY1.blk.facts
    have HD := Lib.hid (dir_any (hY1.wd.keep (Below.refl _ w1).drew) hk1 hN c Y.change.1.now dir s hs mode)
    have HY1 := Lib.hid hY1
    clear h0 hcr hY1 hm1
    go_wp2_with fail
    refine wp_region_lex 12 mixed (by kernel_rfl) (show PanicOk _ from by repeat (first | exact pk_body | refine pk_then ?_ | refine pk_block ?_ | refine pk_scope ?_)) ?_
    simp only [List.take_succ_cons, List.take_zero, List.drop_succ_cons, List.drop_zero]
    repeat still_step
    refine wpStill_nil ?_
    go_wp2_with fail
    refine HD.out.mono ?_
    rintro e w5 ⟨rfl, R5, hR5, hS5⟩
    have HY5 := Lib.hid ((HY1.out.keep (Below.refl _ w1).drew).step hR5 hS5)
    have HS5 := Lib.hid ((HS1.out.trans (stpY (Stp.of_below (F := R.F pw) (Below.refl _ w1).drew))).trans (stpY hS5))
    clear hR5 hS5
    go_wp2_with fail
    go_ret2
    rw [HE.out, HF.out.1.symm, HF.out.2.symm]
    exact ⟨rfl, R5, HY5.out, HS5.out⟩
  · have h0b : (Y.change.2 == 0) = false := by simpa using h0
    have HE := Lib.hid (show Y.op (fun S now => S.mkdir c now dir s mode) = _ from if_pos h0)
    have HY1 := Lib.hid hY1
    clear hY1 h0 hm1
    generalize Y.change.2 = ce at HE h0b ⊢
    go_wp2_with fail
    go_ret2
    rw [HE.out]
    exact ⟨rfl, R, HY1.out, HS1.out⟩
set_option maxRecDepth 100000 in
set_option maxHeartbeats 1000000 in
theorem screate_any (h : SyAt w pf pw R pv Y) {N : Nat} (hk : FsOk Y.fs N) (hN : N ≤ 999999) (hc : 0 ≤ Y.count ∧ Y.count ≤ 4611686018427387904) (hl : Y.plan.length ≤ 1000000) (c : Cr) (dir : Int) (s : ByteArray) (mode : Int) (data : ByteArray) (hs : s.size ≤ 9223372036854775807) (hdata : data.size ≤ 9223372036854775807) :
    Calls Tryz.prog 17 #[.pointer (some ⟨pf, 0, none⟩), .agg #[.int .i64 c.u, .int .i64 c.g], .int .i64 dir, .string s, .int .i64 mode, .string data] w fun e w' =>
      e = .returned (.tuple #[.int .i64 (Y.op (fun S now => S.file c now dir s mode data)).2.1, .int .i64 (Y.op (fun S now => S.file c now dir s mode data)).2.2]) ∧ ∃ R', SyAt w' pf pw R' pv (Y.op (fun S now => S.file c now dir s mode data)).1 ∧ Stp (R.Y pf pw) (R'.Y pf pw) w w' := by
  have HY := Lib.hid h
  have HC := Lib.hid (change_any (h.keep ((Below.refl _ w).alloc (Nat.le_refl _) (.cells #[.int .i64 c.u, .int .i64 c.g] 54))) hc hl)
  obtain ⟨hf1, hf2, hf3⟩ := change_fs Y
  have HF := Lib.hid (And.intro hf1 hf2)
  have hpf := h.blk.lt
  have hk1 : FsOk Y.change.1.fs N := by rw [hf1]; exact hk
  have mixed : Tryz.prog.follows .mixedOrders = true := by kernel_rfl
  clear h hk hf1 hf2 hf3
  go_enter Tryz.func17, Tryz.ntmps17
  go_wp2_with fail
  refine HC.out.mono ?_
  rintro e w1 ⟨rfl, hY1, hm1⟩
  have HS1 := Lib.hid ((stpY (Stp.of_below (F := R.F pw) (balloc (Below.refl w.heap.size w) (.cells #[.int .i64 c.u, .int .i64 c.g] 54)))).trans (stpF (pw := pw) (R := R) hm1))
  by_cases h0 : Y.change.2 = 0
  · have h0b : (Y.change.2 == 0) = true := by simpa using h0
    have HE := Lib.hid (show Y.op (fun S now => S.file c now dir s mode data) = _ from if_neg (by simp [h0]))
    have hcr := (Blk.new w #[.int .i64 c.u, .int .i64 c.g] 54).mod hm1 (by omega)
    obtain ⟨cc, -, cz⟩ := hcr.facts
    obtain ⟨pc, -, pz⟩ := hY1.blk.facts
    have HD := Lib.hid (file_any (hY1.wd.keep (Below.refl _ w1).drew) hk1 hN c Y.change.1.now dir s hs mode data hdata)
    have HY1 := Lib.hid hY1
    clear h0 hcr hY1 hm1
    go_wp2_with fail
    refine wp_region_lex 13 mixed (by kernel_rfl) (show PanicOk _ from by repeat (first | exact pk_body | refine pk_then ?_ | refine pk_block ?_ | refine pk_scope ?_)) ?_
    simp only [List.take_succ_cons, List.take_zero, List.drop_succ_cons, List.drop_zero]
    repeat still_step
    refine wpStill_nil ?_
    go_wp2_with fail
    refine HD.out.mono ?_
    rintro e w5 ⟨rfl, R5, hR5, hS5⟩
    have HY5 := Lib.hid ((HY1.out.keep (Below.refl _ w1).drew).step hR5 hS5)
    have HS5 := Lib.hid ((HS1.out.trans (stpY (Stp.of_below (F := R.F pw) (Below.refl _ w1).drew))).trans (stpY hS5))
    clear hR5 hS5
    go_wp2_with fail
    go_ret2
    rw [HE.out, HF.out.1.symm, HF.out.2.symm]
    exact ⟨rfl, R5, HY5.out, HS5.out⟩
  · have h0b : (Y.change.2 == 0) = false := by simpa using h0
    have HE := Lib.hid (show Y.op (fun S now => S.file c now dir s mode data) = _ from if_pos h0)
    have HY1 := Lib.hid hY1
    clear hY1 h0 hm1
    generalize Y.change.2 = ce at HE h0b ⊢
    go_wp2_with fail
    go_ret2
    rw [HE.out]
    exact ⟨rfl, R, HY1.out, HS1.out⟩
set_option maxRecDepth 100000 in
set_option maxHeartbeats 1000000 in
theorem ssym_any (h : SyAt w pf pw R pv Y) {N : Nat} (hk : FsOk Y.fs N) (hN : N ≤ 999999) (hc : 0 ≤ Y.count ∧ Y.count ≤ 4611686018427387904) (hl : Y.plan.length ≤ 1000000) (c : Cr) (dir : Int) (s : ByteArray) (text : ByteArray) (hs : s.size ≤ 9223372036854775807) (htext : text.size ≤ 9223372036854775807) :
    Calls Tryz.prog 108 #[.pointer (some ⟨pf, 0, none⟩), .agg #[.int .i64 c.u, .int .i64 c.g], .int .i64 dir, .string s, .string text] w fun e w' =>
      e = .returned (.tuple #[.int .i64 (Y.op (fun S now => S.sym c now dir s text)).2.1, .int .i64 (Y.op (fun S now => S.sym c now dir s text)).2.2]) ∧ ∃ R', SyAt w' pf pw R' pv (Y.op (fun S now => S.sym c now dir s text)).1 ∧ Stp (R.Y pf pw) (R'.Y pf pw) w w' := by
  have HY := Lib.hid h
  have HC := Lib.hid (change_any (h.keep ((Below.refl _ w).alloc (Nat.le_refl _) (.cells #[.int .i64 c.u, .int .i64 c.g] 54))) hc hl)
  obtain ⟨hf1, hf2, hf3⟩ := change_fs Y
  have HF := Lib.hid (And.intro hf1 hf2)
  have hpf := h.blk.lt
  have hk1 : FsOk Y.change.1.fs N := by rw [hf1]; exact hk
  have mixed : Tryz.prog.follows .mixedOrders = true := by kernel_rfl
  clear h hk hf1 hf2 hf3
  go_enter Tryz.func108, Tryz.ntmps108
  go_wp2_with fail
  refine HC.out.mono ?_
  rintro e w1 ⟨rfl, hY1, hm1⟩
  have HS1 := Lib.hid ((stpY (Stp.of_below (F := R.F pw) (balloc (Below.refl w.heap.size w) (.cells #[.int .i64 c.u, .int .i64 c.g] 54)))).trans (stpF (pw := pw) (R := R) hm1))
  by_cases h0 : Y.change.2 = 0
  · have h0b : (Y.change.2 == 0) = true := by simpa using h0
    have HE := Lib.hid (show Y.op (fun S now => S.sym c now dir s text) = _ from if_neg (by simp [h0]))
    have hcr := (Blk.new w #[.int .i64 c.u, .int .i64 c.g] 54).mod hm1 (by omega)
    obtain ⟨cc, -, cz⟩ := hcr.facts
    obtain ⟨pc, -, pz⟩ := hY1.blk.facts
    have HD := Lib.hid (sym_any (hY1.wd.keep (Below.refl _ w1).drew) hk1 hN c Y.change.1.now dir s hs text htext)
    have HY1 := Lib.hid hY1
    clear h0 hcr hY1 hm1
    go_wp2_with fail
    refine wp_region_lex 12 mixed (by kernel_rfl) (show PanicOk _ from by repeat (first | exact pk_body | refine pk_then ?_ | refine pk_block ?_ | refine pk_scope ?_)) ?_
    simp only [List.take_succ_cons, List.take_zero, List.drop_succ_cons, List.drop_zero]
    repeat still_step
    refine wpStill_nil ?_
    go_wp2_with fail
    refine HD.out.mono ?_
    rintro e w5 ⟨rfl, R5, hR5, hS5⟩
    have HY5 := Lib.hid ((HY1.out.keep (Below.refl _ w1).drew).step hR5 hS5)
    have HS5 := Lib.hid ((HS1.out.trans (stpY (Stp.of_below (F := R.F pw) (Below.refl _ w1).drew))).trans (stpY hS5))
    clear hR5 hS5
    go_wp2_with fail
    go_ret2
    rw [HE.out, HF.out.1.symm, HF.out.2.symm]
    exact ⟨rfl, R5, HY5.out, HS5.out⟩
  · have h0b : (Y.change.2 == 0) = false := by simpa using h0
    have HE := Lib.hid (show Y.op (fun S now => S.sym c now dir s text) = _ from if_pos h0)
    have HY1 := Lib.hid hY1
    clear hY1 h0 hm1
    generalize Y.change.2 = ce at HE h0b ⊢
    go_wp2_with fail
    go_ret2
    rw [HE.out]
    exact ⟨rfl, R, HY1.out, HS1.out⟩
set_option maxRecDepth 100000 in
set_option maxHeartbeats 1000000 in
theorem slink_any (h : SyAt w pf pw R pv Y) {N : Nat} (hk : FsOk Y.fs N) (hN : N ≤ 999999) (hc : 0 ≤ Y.count ∧ Y.count ≤ 4611686018427387904) (hl : Y.plan.length ≤ 1000000) (c : Cr) (no : Int) (dir : Int) (s : ByteArray) (hs : s.size ≤ 9223372036854775807) :
    Calls Tryz.prog 109 #[.pointer (some ⟨pf, 0, none⟩), .agg #[.int .i64 c.u, .int .i64 c.g], .int .i64 no, .int .i64 dir, .string s] w fun e w' =>
      e = .returned (.int .i64 (Y.opE (fun S now => S.hard c now no dir s)).2) ∧ ∃ R', SyAt w' pf pw R' pv (Y.opE (fun S now => S.hard c now no dir s)).1 ∧ Stp (R.Y pf pw) (R'.Y pf pw) w w' := by
  have HY := Lib.hid h
  have HC := Lib.hid (change_any (h.keep ((Below.refl _ w).alloc (Nat.le_refl _) (.cells #[.int .i64 c.u, .int .i64 c.g] 54))) hc hl)
  obtain ⟨hf1, hf2, hf3⟩ := change_fs Y
  have HF := Lib.hid (And.intro hf1 hf2)
  have hpf := h.blk.lt
  have hk1 : FsOk Y.change.1.fs N := by rw [hf1]; exact hk
  have mixed : Tryz.prog.follows .mixedOrders = true := by kernel_rfl
  clear h hk hf1 hf2 hf3
  go_enter Tryz.func109, Tryz.ntmps109
  go_wp2_with fail
  refine HC.out.mono ?_
  rintro e w1 ⟨rfl, hY1, hm1⟩
  have HS1 := Lib.hid ((stpY (Stp.of_below (F := R.F pw) (balloc (Below.refl w.heap.size w) (.cells #[.int .i64 c.u, .int .i64 c.g] 54)))).trans (stpF (pw := pw) (R := R) hm1))
  by_cases h0 : Y.change.2 = 0
  · have h0b : (Y.change.2 == 0) = true := by simpa using h0
    have HE := Lib.hid (show Y.opE (fun S now => S.hard c now no dir s) = _ from if_neg (by simp [h0]))
    have hcr := (Blk.new w #[.int .i64 c.u, .int .i64 c.g] 54).mod hm1 (by omega)
    obtain ⟨cc, -, cz⟩ := hcr.facts
    obtain ⟨pc, -, pz⟩ := hY1.blk.facts
    have HD := Lib.hid (hard_any (hY1.wd.keep (Below.refl _ w1).drew) hk1 hN c Y.change.1.now no dir s hs)
    have HY1 := Lib.hid hY1
    clear h0 hcr hY1 hm1
    go_wp2_with fail
    refine wp_region_lex 12 mixed (by kernel_rfl) (show PanicOk _ from by repeat (first | exact pk_body | refine pk_then ?_ | refine pk_block ?_ | refine pk_scope ?_)) ?_
    simp only [List.take_succ_cons, List.take_zero, List.drop_succ_cons, List.drop_zero]
    repeat still_step
    refine wpStill_nil ?_
    go_wp2_with fail
    refine HD.out.mono ?_
    rintro e w5 ⟨rfl, R5, hR5, hS5⟩
    have HY5 := Lib.hid ((HY1.out.keep (Below.refl _ w1).drew).step hR5 hS5)
    have HS5 := Lib.hid ((HS1.out.trans (stpY (Stp.of_below (F := R.F pw) (Below.refl _ w1).drew))).trans (stpY hS5))
    clear hR5 hS5
    go_wp2_with fail
    go_ret
    rw [HE.out, HF.out.1.symm, HF.out.2.symm]
    exact ⟨rfl, R5, HY5.out, HS5.out⟩
  · have h0b : (Y.change.2 == 0) = false := by simpa using h0
    have HE := Lib.hid (show Y.opE (fun S now => S.hard c now no dir s) = _ from if_pos h0)
    have HY1 := Lib.hid hY1
    clear hY1 h0 hm1
    generalize Y.change.2 = ce at HE h0b ⊢
    go_wp2_with fail
    go_ret
    rw [HE.out]
    exact ⟨rfl, R, HY1.out, HS1.out⟩
set_option maxRecDepth 100000 in
set_option maxHeartbeats 1000000 in
theorem schmod_any (h : SyAt w pf pw R pv Y) {N : Nat} (hk : FsOk Y.fs N) (hN : N ≤ 999999) (hc : 0 ≤ Y.count ∧ Y.count ≤ 4611686018427387904) (hl : Y.plan.length ≤ 1000000) (c : Cr) (no : Int) (mode : Int)  :
    Calls Tryz.prog 61 #[.pointer (some ⟨pf, 0, none⟩), .agg #[.int .i64 c.u, .int .i64 c.g], .int .i64 no, .int .i64 mode] w fun e w' =>
      e = .returned (.int .i64 (Y.opE (fun S now => S.chmod c now no mode)).2) ∧ ∃ R', SyAt w' pf pw R' pv (Y.opE (fun S now => S.chmod c now no mode)).1 ∧ Stp (R.Y pf pw) (R'.Y pf pw) w w' := by
  have HY := Lib.hid h
  have HC := Lib.hid (change_any (h.keep ((Below.refl _ w).alloc (Nat.le_refl _) (.cells #[.int .i64 c.u, .int .i64 c.g] 54))) hc hl)
  obtain ⟨hf1, hf2, hf3⟩ := change_fs Y
  have HF := Lib.hid (And.intro hf1 hf2)
  have hpf := h.blk.lt
  have hk1 : FsOk Y.change.1.fs N := by rw [hf1]; exact hk
  have mixed : Tryz.prog.follows .mixedOrders = true := by kernel_rfl
  clear h hk hf1 hf2 hf3
  go_enter Tryz.func61, Tryz.ntmps61
  go_wp2_with fail
  refine HC.out.mono ?_
  rintro e w1 ⟨rfl, hY1, hm1⟩
  have HS1 := Lib.hid ((stpY (Stp.of_below (F := R.F pw) (balloc (Below.refl w.heap.size w) (.cells #[.int .i64 c.u, .int .i64 c.g] 54)))).trans (stpF (pw := pw) (R := R) hm1))
  by_cases h0 : Y.change.2 = 0
  · have h0b : (Y.change.2 == 0) = true := by simpa using h0
    have HE := Lib.hid (show Y.opE (fun S now => S.chmod c now no mode) = _ from if_neg (by simp [h0]))
    have hcr := (Blk.new w #[.int .i64 c.u, .int .i64 c.g] 54).mod hm1 (by omega)
    obtain ⟨cc, -, cz⟩ := hcr.facts
    obtain ⟨pc, -, pz⟩ := hY1.blk.facts
    have HD := Lib.hid (mode_any (hY1.wd.keep (Below.refl _ w1).drew) hk1 c Y.change.1.now no mode)
    have HY1 := Lib.hid hY1
    clear h0 hcr hY1 hm1
    go_wp2_with fail
    refine wp_region_lex 11 mixed (by kernel_rfl) (show PanicOk _ from by repeat (first | exact pk_body | refine pk_then ?_ | refine pk_block ?_ | refine pk_scope ?_)) ?_
    simp only [List.take_succ_cons, List.take_zero, List.drop_succ_cons, List.drop_zero]
    repeat still_step
    refine wpStill_nil ?_
    go_wp2_with fail
    refine HD.out.mono ?_
    rintro e w5 ⟨rfl, R5, hR5, hS5⟩
    have HY5 := Lib.hid ((HY1.out.keep (Below.refl _ w1).drew).step hR5 hS5)
    have HS5 := Lib.hid ((HS1.out.trans (stpY (Stp.of_below (F := R.F pw) (Below.refl _ w1).drew))).trans (stpY hS5))
    clear hR5 hS5
    go_wp2_with fail
    go_ret
    rw [HE.out, HF.out.1.symm, HF.out.2.symm]
    exact ⟨rfl, R5, HY5.out, HS5.out⟩
  · have h0b : (Y.change.2 == 0) = false := by simpa using h0
    have HE := Lib.hid (show Y.opE (fun S now => S.chmod c now no mode) = _ from if_pos h0)
    have HY1 := Lib.hid hY1
    clear hY1 h0 hm1
    generalize Y.change.2 = ce at HE h0b ⊢
    go_wp2_with fail
    go_ret
    rw [HE.out]
    exact ⟨rfl, R, HY1.out, HS1.out⟩
set_option maxRecDepth 100000 in
set_option maxHeartbeats 1000000 in
theorem schown_any (h : SyAt w pf pw R pv Y) {N : Nat} (hk : FsOk Y.fs N) (hN : N ≤ 999999) (hc : 0 ≤ Y.count ∧ Y.count ≤ 4611686018427387904) (hl : Y.plan.length ≤ 1000000) (c : Cr) (no : Int) (uid : Int) (gid : Int)  :
    Calls Tryz.prog 60 #[.pointer (some ⟨pf, 0, none⟩), .agg #[.int .i64 c.u, .int .i64 c.g], .int .i64 no, .int .i64 uid, .int .i64 gid] w fun e w' =>
      e = .returned (.int .i64 (Y.opE (fun S now => S.chown c now no uid gid)).2) ∧ ∃ R', SyAt w' pf pw R' pv (Y.opE (fun S now => S.chown c now no uid gid)).1 ∧ Stp (R.Y pf pw) (R'.Y pf pw) w w' := by
  have HY := Lib.hid h
  have HC := Lib.hid (change_any (h.keep ((Below.refl _ w).alloc (Nat.le_refl _) (.cells #[.int .i64 c.u, .int .i64 c.g] 54))) hc hl)
  obtain ⟨hf1, hf2, hf3⟩ := change_fs Y
  have HF := Lib.hid (And.intro hf1 hf2)
  have hpf := h.blk.lt
  have hk1 : FsOk Y.change.1.fs N := by rw [hf1]; exact hk
  have mixed : Tryz.prog.follows .mixedOrders = true := by kernel_rfl
  clear h hk hf1 hf2 hf3
  go_enter Tryz.func60, Tryz.ntmps60
  go_wp2_with fail
  refine HC.out.mono ?_
  rintro e w1 ⟨rfl, hY1, hm1⟩
  have HS1 := Lib.hid ((stpY (Stp.of_below (F := R.F pw) (balloc (Below.refl w.heap.size w) (.cells #[.int .i64 c.u, .int .i64 c.g] 54)))).trans (stpF (pw := pw) (R := R) hm1))
  by_cases h0 : Y.change.2 = 0
  · have h0b : (Y.change.2 == 0) = true := by simpa using h0
    have HE := Lib.hid (show Y.opE (fun S now => S.chown c now no uid gid) = _ from if_neg (by simp [h0]))
    have hcr := (Blk.new w #[.int .i64 c.u, .int .i64 c.g] 54).mod hm1 (by omega)
    obtain ⟨cc, -, cz⟩ := hcr.facts
    obtain ⟨pc, -, pz⟩ := hY1.blk.facts
    have HD := Lib.hid (owner_any (hY1.wd.keep (Below.refl _ w1).drew) hk1 c Y.change.1.now no uid gid)
    have HY1 := Lib.hid hY1
    clear h0 hcr hY1 hm1
    go_wp2_with fail
    refine wp_region_lex 12 mixed (by kernel_rfl) (show PanicOk _ from by repeat (first | exact pk_body | refine pk_then ?_ | refine pk_block ?_ | refine pk_scope ?_)) ?_
    simp only [List.take_succ_cons, List.take_zero, List.drop_succ_cons, List.drop_zero]
    repeat still_step
    refine wpStill_nil ?_
    go_wp2_with fail
    refine HD.out.mono ?_
    rintro e w5 ⟨rfl, R5, hR5, hS5⟩
    have HY5 := Lib.hid ((HY1.out.keep (Below.refl _ w1).drew).step hR5 hS5)
    have HS5 := Lib.hid ((HS1.out.trans (stpY (Stp.of_below (F := R.F pw) (Below.refl _ w1).drew))).trans (stpY hS5))
    clear hR5 hS5
    go_wp2_with fail
    go_ret
    rw [HE.out, HF.out.1.symm, HF.out.2.symm]
    exact ⟨rfl, R5, HY5.out, HS5.out⟩
  · have h0b : (Y.change.2 == 0) = false := by simpa using h0
    have HE := Lib.hid (show Y.opE (fun S now => S.chown c now no uid gid) = _ from if_pos h0)
    have HY1 := Lib.hid hY1
    clear hY1 h0 hm1
    generalize Y.change.2 = ce at HE h0b ⊢
    go_wp2_with fail
    go_ret
    rw [HE.out]
    exact ⟨rfl, R, HY1.out, HS1.out⟩
set_option maxRecDepth 100000 in
set_option maxHeartbeats 1000000 in
theorem sutime_any (h : SyAt w pf pw R pv Y) {N : Nat} (hk : FsOk Y.fs N) (hN : N ≤ 999999) (hc : 0 ≤ Y.count ∧ Y.count ≤ 4611686018427387904) (hl : Y.plan.length ≤ 1000000) (c : Cr) (no : Int) (t : Int)  :
    Calls Tryz.prog 62 #[.pointer (some ⟨pf, 0, none⟩), .agg #[.int .i64 c.u, .int .i64 c.g], .int .i64 no, .int .i64 t] w fun e w' =>
      e = .returned (.int .i64 (Y.opE (fun S now => S.utime c now no t)).2) ∧ ∃ R', SyAt w' pf pw R' pv (Y.opE (fun S now => S.utime c now no t)).1 ∧ Stp (R.Y pf pw) (R'.Y pf pw) w w' := by
  have HY := Lib.hid h
  have HC := Lib.hid (change_any (h.keep ((Below.refl _ w).alloc (Nat.le_refl _) (.cells #[.int .i64 c.u, .int .i64 c.g] 54))) hc hl)
  obtain ⟨hf1, hf2, hf3⟩ := change_fs Y
  have HF := Lib.hid (And.intro hf1 hf2)
  have hpf := h.blk.lt
  have hk1 : FsOk Y.change.1.fs N := by rw [hf1]; exact hk
  have mixed : Tryz.prog.follows .mixedOrders = true := by kernel_rfl
  clear h hk hf1 hf2 hf3
  go_enter Tryz.func62, Tryz.ntmps62
  go_wp2_with fail
  refine HC.out.mono ?_
  rintro e w1 ⟨rfl, hY1, hm1⟩
  have HS1 := Lib.hid ((stpY (Stp.of_below (F := R.F pw) (balloc (Below.refl w.heap.size w) (.cells #[.int .i64 c.u, .int .i64 c.g] 54)))).trans (stpF (pw := pw) (R := R) hm1))
  by_cases h0 : Y.change.2 = 0
  · have h0b : (Y.change.2 == 0) = true := by simpa using h0
    have HE := Lib.hid (show Y.opE (fun S now => S.utime c now no t) = _ from if_neg (by simp [h0]))
    have hcr := (Blk.new w #[.int .i64 c.u, .int .i64 c.g] 54).mod hm1 (by omega)
    obtain ⟨cc, -, cz⟩ := hcr.facts
    obtain ⟨pc, -, pz⟩ := hY1.blk.facts
    have HD := Lib.hid (time_any (hY1.wd.keep (Below.refl _ w1).drew) hk1 c Y.change.1.now no t)
    have HY1 := Lib.hid hY1
    clear h0 hcr hY1 hm1
    go_wp2_with fail
    refine wp_region_lex 11 mixed (by kernel_rfl) (show PanicOk _ from by repeat (first | exact pk_body | refine pk_then ?_ | refine pk_block ?_ | refine pk_scope ?_)) ?_
    simp only [List.take_succ_cons, List.take_zero, List.drop_succ_cons, List.drop_zero]
    repeat still_step
    refine wpStill_nil ?_
    go_wp2_with fail
    refine HD.out.mono ?_
    rintro e w5 ⟨rfl, R5, hR5, hS5⟩
    have HY5 := Lib.hid ((HY1.out.keep (Below.refl _ w1).drew).step hR5 hS5)
    have HS5 := Lib.hid ((HS1.out.trans (stpY (Stp.of_below (F := R.F pw) (Below.refl _ w1).drew))).trans (stpY hS5))
    clear hR5 hS5
    go_wp2_with fail
    go_ret
    rw [HE.out, HF.out.1.symm, HF.out.2.symm]
    exact ⟨rfl, R5, HY5.out, HS5.out⟩
  · have h0b : (Y.change.2 == 0) = false := by simpa using h0
    have HE := Lib.hid (show Y.opE (fun S now => S.utime c now no t) = _ from if_pos h0)
    have HY1 := Lib.hid hY1
    clear hY1 h0 hm1
    generalize Y.change.2 = ce at HE h0b ⊢
    go_wp2_with fail
    go_ret
    rw [HE.out]
    exact ⟨rfl, R, HY1.out, HS1.out⟩
end

end Go.Proofs.YtkkiglagdojnlaaGreatDoor

/- A node is read (layer 18): Stat, open, Read. -/
namespace Go.Proofs.YtkkiglagdojnlaaGreatDoor

open Go.RowKit

/-- what Stat tells of a node. -/
def stV : Option An → Value
  | none => .agg #[.int .i64 0, .int .i64 0, .int .i64 0, .int .i64 0, .int .i64 0, .int .i64 0, .int .i64 0, .int .i64 0, .int .i64 0, .int .i64 0]
  | some n => .agg #[.int .i64 n.no, .int .i64 n.dev, .int .i64 n.kind, .int .i64 n.mode, .int .i64 n.uid, .int .i64 n.gid, .int .i64 n.links, .int .i64 n.data.size, .int .i64 n.mtime, .int .i64 n.ctime]
def noneE : Option An → Int
  | none => 5
  | some _ => 0
set_option maxRecDepth 100000 in
theorem Blk.set10 {w : World} {B : Nat} {x0 x1 x2 x3 x4 x5 x6 x7 x8 x9 v0 v1 v2 v3 v4 v5 v6 v7 v8 v9 : Value} {T : TypeId} (h : Blk w B #[x0, x1, x2, x3, x4, x5, x6, x7, x8, x9] T) : Blk ((((((((((w.setCell ⟨B, 0, none⟩ v0).setCell ⟨B, 1, none⟩ v1).setCell ⟨B, 2, none⟩ v2).setCell ⟨B, 3, none⟩ v3).setCell ⟨B, 4, none⟩ v4).setCell ⟨B, 5, none⟩ v5).setCell ⟨B, 6, none⟩ v6).setCell ⟨B, 7, none⟩ v7).setCell ⟨B, 8, none⟩ v8).setCell ⟨B, 9, none⟩ v9) B #[v0, v1, v2, v3, v4, v5, v6, v7, v8, v9] T :=
  Blk.row (xs := [x0, x1, x2, x3, x4, x5, x6, x7, x8, x9]) (vs := [v0, v1, v2, v3, v4, v5, v6, v7, v8, v9]) h rfl
set_option maxRecDepth 100000 in
theorem below_set10 {N : Nat} {w0 w : World} {B : Nat} {v0 v1 v2 v3 v4 v5 v6 v7 v8 v9 : Value} (h : Below N w0 w) (hB : N ≤ B) : Below N w0 ((((((((((w.setCell ⟨B, 0, none⟩ v0).setCell ⟨B, 1, none⟩ v1).setCell ⟨B, 2, none⟩ v2).setCell ⟨B, 3, none⟩ v3).setCell ⟨B, 4, none⟩ v4).setCell ⟨B, 5, none⟩ v5).setCell ⟨B, 6, none⟩ v6).setCell ⟨B, 7, none⟩ v7).setCell ⟨B, 8, none⟩ v8).setCell ⟨B, 9, none⟩ v9) :=
  below_row hB [v0, v1, v2, v3, v4, v5, v6, v7, v8, v9] w 0 h
set_option maxRecDepth 100000 in
set_option maxHeartbeats 1000000 in
theorem stat_results {tmps : Array Value} {W : World} {B : Nat} {y0 y1 y2 y3 y4 y5 y6 y7 y8 y9 e : Int} (hb : Blk W B #[.int .i64 y0, .int .i64 y1, .int .i64 y2, .int .i64 y3, .int .i64 y4, .int .i64 y5, .int .i64 y6, .int .i64 y7, .int .i64 y8, .int .i64 y9] 120)
    (h8 : tmps.getD 4 undef = .pointer (some ⟨B, 0, none⟩)) (h9 : tmps.getD 5 undef = .int .i64 e) : (results Tryz.f102 tmps).run Tryz.prog W = .ok (.tuple #[.agg #[.int .i64 y0, .int .i64 y1, .int .i64 y2, .int .i64 y3, .int .i64 y4, .int .i64 y5, .int .i64 y6, .int .i64 y7, .int .i64 y8, .int .i64 y9], .int .i64 e]) W := by
  have q0 := hb.cell 0
  have q1 := hb.cell 1
  have q2 := hb.cell 2
  have q3 := hb.cell 3
  have q4 := hb.cell 4
  have q5 := hb.cell 5
  have q6 := hb.cell 6
  have q7 := hb.cell 7
  have q8 := hb.cell 8
  have q9 := hb.cell 9
  rw [Array.getD_eq_getD_getElem?] at h8 h9
  simp [results, Tryz.results102, go_sem, h8, h9, q0, q1, q2, q3, q4, q5, q6, q7, q8, q9]
/-- the error of open. -/
def Fs.openE (S : Fs) (c : Cr) (no kind want : Int) : Int := match S.get no with
  | none => 5
  | some n => if n.kind = kind then (if n.may c want = true then 0 else 6) else if kind = 1 then 9 else if n.kind = 1 then 8 else 1
def Fs.read (S : Fs) (c : Cr) (no : Int) : ByteArray × Int := if S.openE c no 2 4 = 0 then (match S.get no with | none => (ByteArray.empty, 0) | some n => (n.data, 0)) else (ByteArray.empty, S.openE c no 2 4)
section

variable {w w' : World} {pw : Nat} {R : Rp} {S : Fs}

set_option maxRecDepth 100000 in
set_option maxHeartbeats 1000000 in
theorem stat_any (h : WdAt w pw R S) {N : Nat} (hk : FsOk S N) (no : Int) :
    Calls Tryz.prog 102 #[.pointer (some ⟨pw, 0, none⟩), .int .i64 no] w fun e w' => e = .returned (.tuple #[stV (S.get no), .int .i64 (noneE (S.get no))]) ∧ Below w.heap.size w w' := by
  have HDv := Lib.hid (fun w1 (hb1 : Below w.heap.size w w1) => wdevs_any (h.keep hb1) hk.d1)
  have hnz := hk.d1
  generalize S.ds.length = n at HDv hnz
  have hz : ((n : Int) == 0) = false := by simp; omega
  obtain ⟨pc, -, pz⟩ := h.blk.facts
  have hRX := Blk.new w #[.int .i64 0, .int .i64 0, .int .i64 0, .int .i64 0, .int .i64 0, .int .i64 0, .int .i64 0, .int .i64 0, .int .i64 0, .int .i64 0] 120
  have hbX := balloc (Below.refl w.heap.size w) (.cells #[.int .i64 0, .int .i64 0, .int .i64 0, .int .i64 0, .int .i64 0, .int .i64 0, .int .i64 0, .int .i64 0, .int .i64 0, .int .i64 0] 120)
  cases hg : S.get no with
  | none =>
    have HG := Lib.hid (fun w1 (hb1 : Below w.heap.size w w1) => wget_no (h.keep hb1) hg)
    unfold An.v an0 at HG
    unfold stV noneE
    clear h hk hg
    go_enter Tryz.func102, Tryz.ntmps102
    go_wp2_with fail
    refine (HDv.out _ hbX).mono ?_
    rintro e w1 ⟨rfl, rfl⟩
    generalize w.alloc (.cells #[.int .i64 0, .int .i64 0, .int .i64 0, .int .i64 0, .int .i64 0, .int .i64 0, .int .i64 0, .int .i64 0, .int .i64 0, .int .i64 0] 120) = W0 at hRX hbX ⊢
    have HRX := Lib.hid hRX
    have HBX := Lib.hid hbX
    have pc0 : W0.cell? ⟨pw, 0, none⟩ = some (.pointer (some ⟨R.pt, 0, none⟩)) := (hbX.cell (p := ⟨pw, 0, none⟩) pz).trans (pc 0)
    clear hRX hbX pc
    go_wp2_with fail
    refine (HG.out _ HBX.out).mono ?_
    rintro e w1 ⟨rfl, hb1⟩
    have hRY := (HRX.out.keep hb1).old (.cells #[.int .i64 0, .int .i64 0, .int .i64 0, .int .i64 0, .int .i64 0, .int .i64 0, .int .i64 0, .int .i64 0, .int .i64 0, .int .i64 0, .string ByteArray.empty, .slice none 0 0] 170)
    have hbY := balloc (HBX.out.trans (hb1.mono HBX.out.size)) (.cells #[.int .i64 0, .int .i64 0, .int .i64 0, .int .i64 0, .int .i64 0, .int .i64 0, .int .i64 0, .int .i64 0, .int .i64 0, .int .i64 0, .string ByteArray.empty, .slice none 0 0] 170)
    clear hb1
    go_upto_region 4 with fail
    generalize w1.alloc (.cells #[.int .i64 0, .int .i64 0, .int .i64 0, .int .i64 0, .int .i64 0, .int .i64 0, .int .i64 0, .int .i64 0, .int .i64 0, .int .i64 0, .string ByteArray.empty, .slice none 0 0] 170) = Y at hRY hbY ⊢
    have HRY := Lib.hid hRY
    have HBY := Lib.hid hbY
    obtain ⟨rc, rf, rz⟩ := hRY.facts
    clear hRY hbY
    go_wp2_with fail
    exact bodyPost_ret (stat_results HRY.out.set10 rfl rfl) rfl ⟨rfl, below_set10 HBY.out (Nat.le_refl _)⟩
  | some d =>
    obtain ⟨ea, el, ec, he, hG⟩ := wget_fix h hg
    have HG := Lib.hid hG
    unfold An.v at HG
    unfold stV noneE
    clear h hk hg hG he
    go_enter Tryz.func102, Tryz.ntmps102
    go_wp2_with fail
    refine (HDv.out _ hbX).mono ?_
    rintro e w1 ⟨rfl, rfl⟩
    generalize w.alloc (.cells #[.int .i64 0, .int .i64 0, .int .i64 0, .int .i64 0, .int .i64 0, .int .i64 0, .int .i64 0, .int .i64 0, .int .i64 0, .int .i64 0] 120) = W0 at hRX hbX ⊢
    have HRX := Lib.hid hRX
    have HBX := Lib.hid hbX
    have pc0 : W0.cell? ⟨pw, 0, none⟩ = some (.pointer (some ⟨R.pt, 0, none⟩)) := (hbX.cell (p := ⟨pw, 0, none⟩) pz).trans (pc 0)
    clear hRX hbX pc
    go_wp2_with fail
    refine (HG.out _ HBX.out).mono ?_
    rintro e w1 ⟨rfl, hb1⟩
    have hRY := (HRX.out.keep hb1).old (.cells #[.int .i64 d.no, .int .i64 d.dev, .int .i64 d.kind, .int .i64 d.mode, .int .i64 d.uid, .int .i64 d.gid, .int .i64 d.mtime, .int .i64 d.ctime, .int .i64 d.links, .int .i64 d.up, .string d.data, .slice ea el ec] 170)
    have hbY := balloc (HBX.out.trans (hb1.mono HBX.out.size)) (.cells #[.int .i64 d.no, .int .i64 d.dev, .int .i64 d.kind, .int .i64 d.mode, .int .i64 d.uid, .int .i64 d.gid, .int .i64 d.mtime, .int .i64 d.ctime, .int .i64 d.links, .int .i64 d.up, .string d.data, .slice ea el ec] 170)
    have hDY := Blk.new w1 #[.int .i64 d.no, .int .i64 d.dev, .int .i64 d.kind, .int .i64 d.mode, .int .i64 d.uid, .int .i64 d.gid, .int .i64 d.mtime, .int .i64 d.ctime, .int .i64 d.links, .int .i64 d.up, .string d.data, .slice ea el ec] 170
    clear hb1
    go_upto_region 4 with fail
    generalize w1.alloc (.cells #[.int .i64 d.no, .int .i64 d.dev, .int .i64 d.kind, .int .i64 d.mode, .int .i64 d.uid, .int .i64 d.gid, .int .i64 d.mtime, .int .i64 d.ctime, .int .i64 d.links, .int .i64 d.up, .string d.data, .slice ea el ec] 170) = Y at hRY hbY hDY ⊢
    have HRY := Lib.hid hRY
    have HBY := Lib.hid hbY
    obtain ⟨rc, rf, rz⟩ := hRY.facts
    obtain ⟨dc, df, dz⟩ := hDY.facts
    clear hRY hbY hDY
    go_wp2_with fail
    exact bodyPost_ret (stat_results HRY.out.set10 rfl rfl) rfl ⟨rfl, below_set10 HBY.out (Nat.le_refl _)⟩
end

end Go.Proofs.YtkkiglagdojnlaaGreatDoor

/- A tree with a clock (layer 21): New, Plan, Wake, Stat, Read. -/
namespace Go.Proofs.YtkkiglagdojnlaaGreatDoor

open Go.RowKit

theorem own_low {w : World} {base base' sz n : Nat} {e : TypeId} {v : Value} {xs : List Value} (h : w.ownsRow base e sz v n xs) (hb : base' ≤ base) : w.ownsRow base' e sz v n xs :=
  ⟨h.1, h.2.imp id fun ⟨g, cap, cur, hv, hg, rest⟩ => ⟨g, cap, cur, hv, Nat.le_trans hb hg, rest⟩⟩
theorem flt_info : (Tryz.prog.info? 168).map (fun i => (i.zero, i.size, i.bytes)) = some (some (.agg #[.int .i64 0, .int .i64 0]), 2, 16) := by kernel_rfl
theorem slice_cell2 {w : World} {b off n c : Nat} {l : List (Int × Int)} (h : SliceAt w 2 fltR (some ⟨b, off, none⟩) n c l) (j : Nat) (u : Value) (hu : (l.flatMap fltC)[j]? = some u) : w.cell? (Addr.add ⟨b, off, none⟩ j) = some u := by
  obtain ⟨hl, -, -, h0 | ⟨b', off', he, hb, hel⟩⟩ := h
  · rw [show l = [] from List.eq_nil_of_length_eq_zero (by omega)] at hu; simp at hu
  · injection he with he
    injection he with e1 e2
    subst e1 e2
    have hjl : j < l.length * 2 := by
      have := (List.getElem?_eq_some_iff.1 hu).1
      rwa [flat_len fltC_len] at this
    have hk : j / 2 < l.length := by omega
    obtain ⟨cs, h1, h2, h3⟩ := hel (j / 2) hk
    unfold fltR at h2
    subst h2
    have h4 := h3 (j % 2) (by rw [fltC_len]; omega)
    have h5 : off + j / 2 * 2 + j % 2 = off + j := by omega
    rw [h5] at h4
    have h6 : (l.flatMap fltC)[j]? = (fltC l[j / 2])[j % 2]? := by
      clear h4 h3 hu h1 hel hjl h5 hl hb
      induction l generalizing j with
      | nil => simp at hk
      | cons x l ih =>
        rw [List.flatMap_cons]
        by_cases hj : j < 2
        · rw [List.getElem?_append_left (by rw [fltC_len]; exact hj)]
          have e1 : j / 2 = 0 := by omega
          have e2 : j % 2 = j := by omega
          simp [e1, e2]
        · rw [List.getElem?_append_right (by rw [fltC_len]; omega), fltC_len]
          have hk' : (j - 2) / 2 < l.length := by simp only [List.length_cons] at hk; omega
          rw [ih (j - 2) hk']
          have e1 : j / 2 = (j - 2) / 2 + 1 := by omega
          have e2 : j % 2 = (j - 2) % 2 := by omega
          simp [e1, e2]
    rw [h6, List.getElem?_eq_getElem (by rw [fltC_len]; omega)] at hu
    injection hu with hu
    rw [← hu, ← h4]
    by_cases hz : j = 0
    · subst hz; simp [Addr.add]
    · simp [Addr.add, hz]
section

variable {w w' : World} {pf pw : Nat} {R : Rp} {pv : Value} {Y : Sy}

/-- a tree anew. -/
def sy0 (b n : Int) : Sy := ⟨fs0.addRoot 0 b n, 0, 0, [], false⟩
theorem snew_any (b n : Int) (hlim : limB b n = true) (w : World) :
    Calls Tryz.prog 56 #[.int .i64 b, .int .i64 n] w fun e w' => ∃ pf pw R, e = .returned (.tuple #[.pointer (some ⟨pf, 0, none⟩), .int .i64 0]) ∧ SyAt w' pf pw R (.slice none 0 0) (sy0 b n) ∧ Below w.heap.size w w' ∧ ∀ k, R.Y pf pw k → w.heap.size ≤ k := by
  have HN := Lib.hid (wnew_yes b n hlim w)
  clear hlim
  go_enter Tryz.func56, Tryz.ntmps56
  go_wp2_with fail
  refine HN.out.mono ?_
  rintro e w1 ⟨pw, R, rfl, hW, hb, hF⟩
  have HX := Lib.hid (And.intro hW (And.intro hb hF))
  clear hW hb hF
  go_wp2_with fail
  go_ret2
  obtain ⟨hW, hb, hF⟩ := HX.out
  refine ⟨w1.heap.size, pw, R, rfl, ⟨Blk.new _ _ _, hW.keep ((Below.refl _ _).alloc (Nat.le_refl _) _), ⟨rfl, .inl ⟨rfl, rfl⟩⟩⟩, balloc hb _, fun k hk => ?_⟩
  rcases hk with rfl | hk
  · exact hb.size
  · exact hF k hk
/-- what append of faults to none makes. -/
theorem flt_app {W : World} {a : Option Addr} {n c : Nat} {l : List (Int × Int)} (hl : SliceAt W 2 fltR a n c l) (hn : l.length ≤ 1000000) :
    ∃ v W', (Builtin.append_ #[34, 34] 34 #[.slice none 0 0, .slice a n c]).run Tryz.prog W = .ok v W' ∧ W'.ownsRow W.heap.size 168 2 v l.length (l.flatMap fltC) ∧ Below W.heap.size W W' := by
  obtain ⟨i0, hi, hz0, hz1, hz2⟩ := info_parts flt_info
  have hln := hl.1
  have hnil : W.ownsRow W.heap.size 168 2 (.slice none 0 0) 0 [] := ⟨rfl, .inl ⟨rfl, rfl⟩⟩
  by_cases h0 : n = 0
  · subst h0
    rw [show l = [] from List.eq_nil_of_length_eq_zero (by omega)]
    exact ⟨_, W, step_app_nil _ Tryz.underlying34 hi hnil a c, hnil, Below.refl _ _⟩
  · obtain ⟨b, off, rfl⟩ : ∃ b off, a = some ⟨b, off, none⟩ := by
      obtain ⟨-, -, -, h | ⟨b, off, h, -⟩⟩ := hl
      · exact absurd h h0
      · exact ⟨b, off, h⟩
    obtain ⟨g, cap, W', h1, h2, h3, h4⟩ := step_app 34 Tryz.underlying34 hi hz0 hz1 hz2 rfl (by omega) hnil ⟨b, off, none⟩ n c (l.flatMap fltC) (by rw [flat_len fltC_len, hln]) (fun j u hu => slice_cell2 hl j u hu)
      (by intro u hu; obtain ⟨y, -, hy⟩ := List.mem_flatMap.1 hu; simp [fltC] at hy; rcases hy with rfl | rfl <;> rfl) (by omega) (by unfold maxLen; omega) (by omega) (Nat.le_refl _)
    refine ⟨_, W', h1, ?_, h3.below (fun k hk => by cases hk) (Nat.le_refl _)⟩
    rw [hln]
    rw [List.nil_append, Nat.zero_add] at h2
    rw [Nat.zero_add]
    exact h2
set_option maxRecDepth 100000 in
set_option maxHeartbeats 1000000 in
theorem splan_any (h : SyAt w pf pw R pv Y) {a : Option Addr} {n c : Nat} {l : List (Int × Int)} (hl : SliceAt w 2 fltR a n c l) (hpa : ∀ b off, a = some ⟨b, off, none⟩ → b ≠ pf) (hn : l.length ≤ 1000000) :
    Calls Tryz.prog 73 #[.pointer (some ⟨pf, 0, none⟩), .slice a n c] w fun e w' => e = .returned (.tuple #[]) ∧ ∃ pv', SyAt w' pf pw R pv' { Y with count := 0, plan := l } ∧ Mod (fun k => k = pf) w w' := by
  have HN := Lib.hid (snone_any h)
  have HY := Lib.hid h
  have hl1 : SliceAt (w.setCell ⟨pf, 2, none⟩ (.int .i64 0)) 2 fltR a n c l := by
    refine ⟨hl.1, hl.2.1, hl.2.2.1, hl.2.2.2.imp id ?_⟩
    rintro ⟨b, off, rfl, hlt, hel⟩
    have hq := Below.heap_setCell w ⟨pf, 2, none⟩ (.int .i64 0) b (hpa b off rfl)
    refine ⟨b, off, rfl, by simpa [World.setCell] using hlt, fun i hi => ?_⟩
    obtain ⟨cs, h1, h2, h3⟩ := hel i hi
    refine ⟨cs, h1, h2, fun j hj => ?_⟩
    rw [← h3 j hj]
    simp only [World.cell?, hq]
  obtain ⟨v, W, hrun, hown, hbW⟩ := flt_app hl1 hn
  obtain ⟨a1, c1, rfl, -, -, -⟩ := own_form hown
  have hB1 := h.blk.set 2 (.int .i64 0)
  have hBW := hB1.keep hbW
  have HR := Lib.hid hrun
  have HX := Lib.hid (And.intro hown (And.intro hbW hBW))
  obtain ⟨pc, pf', pz⟩ := h.blk.facts
  obtain ⟨qc, qf, qz⟩ := hBW.facts
  clear h hl hl1 hrun hown hbW hB1 hBW
  go_enter Tryz.func73, Tryz.ntmps73
  go_wp2_with (first | (go_at_call 74; ((with_reducible refine HN.out.mono ?_); rintro e w1 ⟨rfl, rfl⟩)) | (at_builtin; refine wpList_app_run rfl rfl rfl rfl HR.out ?_))
  go_end0
  obtain ⟨hown, hbW, hBW⟩ := HX.out
  have hm1 := (Mod.refl (fun k => k = pf) w).setCell (a := ⟨pf, 2, none⟩) (.inl rfl) (.int .i64 0)
  have hm := (hm1.trans (Mod.of_below hbW)).setCell (a := ⟨pf, 3, none⟩) (.inl rfl) (.slice a1 l.length c1)
  have hlt : pf < (w.setCell ⟨pf, 2, none⟩ (.int .i64 0)).heap.size := by simpa [World.setCell] using HY.out.blk.lt
  refine ⟨rfl, .slice a1 l.length c1, ⟨hBW.set 3 _, HY.out.wd.mod hm (fun k o hk ho => ?_), ?_⟩, hm⟩
  · subst hk
    have hb := HY.out.blk
    unfold Blk at hb
    rw [hb] at ho
    injection ho with ho
    subst ho
    exact ⟨rfl, fun cur e => by cases e⟩
  · refine own_low (own_mod hown ((Mod.refl (fun k => k = pf) W).setCell (a := ⟨pf, 3, none⟩) (.inl rfl) _) (fun k hk he => ?_)) (Nat.zero_le _)
    subst hk
    have := (own_obj1 hown he).1
    omega
/-- a plan that is none. -/
def Sy.wake (Y : Sy) : Sy := { Y with count := 0, plan := [], dead := false }
set_option maxRecDepth 100000 in
set_option maxHeartbeats 1000000 in
theorem swake_any (h : SyAt w pf pw R pv Y) :
    Calls Tryz.prog 63 #[.pointer (some ⟨pf, 0, none⟩)] w fun e w' => e = .returned (.tuple #[]) ∧ ∃ pv', SyAt w' pf pw R pv' Y.wake ∧ Mod (fun k => k = pf) w w' := by
  have HN := Lib.hid (snone_any h)
  have hm1 := (Mod.refl (fun k => k = pf) w).setCell (a := ⟨pf, 4, none⟩) (.inl rfl) (.bool false)
  have hY1 := h.turnF hm1 (Z := { Y with dead := false }) rfl rfl (h.blk.set 4 (.bool false))
  have HP := Lib.hid (splan_any hY1 (a := none) (n := 0) (c := 0) (l := []) ⟨rfl, Nat.le_refl _, by omega, .inl rfl⟩ (fun b off h => by cases h) (Nat.zero_le _))
  have HM := Lib.hid hm1
  obtain ⟨pc, pf', pz⟩ := h.blk.facts
  clear h hm1 hY1
  go_enter Tryz.func63, Tryz.ntmps63
  go_wp2_with fail
  refine HN.out.mono ?_
  rintro e w1 ⟨rfl, rfl⟩
  go_wp2_with fail
  refine HP.out.mono ?_
  rintro e w2 ⟨rfl, pv', hY2, hm2⟩
  have HX := Lib.hid (And.intro hY2 hm2)
  clear hY2 hm2
  go_wp2_with fail
  go_end0
  exact ⟨rfl, pv', HX.out.1, HM.out.trans HX.out.2⟩
end

end Go.Proofs.YtkkiglagdojnlaaGreatDoor

/- A tree with a clock (layer 21): Stat, Read. -/
namespace Go.Proofs.YtkkiglagdojnlaaGreatDoor

open Go.RowKit

set_option maxRecDepth 100000 in
set_option maxHeartbeats 1000000 in
theorem sstat_results {tmps : Array Value} {W : World} {B : Nat} {y0 y1 y2 y3 y4 y5 y6 y7 y8 y9 e : Int} (hb : Blk W B #[.int .i64 y0, .int .i64 y1, .int .i64 y2, .int .i64 y3, .int .i64 y4, .int .i64 y5, .int .i64 y6, .int .i64 y7, .int .i64 y8, .int .i64 y9] 120)
    (h8 : tmps.getD 4 undef = .pointer (some ⟨B, 0, none⟩)) (h9 : tmps.getD 5 undef = .int .i64 e) : (results Tryz.f50 tmps).run Tryz.prog W = .ok (.tuple #[.agg #[.int .i64 y0, .int .i64 y1, .int .i64 y2, .int .i64 y3, .int .i64 y4, .int .i64 y5, .int .i64 y6, .int .i64 y7, .int .i64 y8, .int .i64 y9], .int .i64 e]) W := by
  have q0 := hb.cell 0
  have q1 := hb.cell 1
  have q2 := hb.cell 2
  have q3 := hb.cell 3
  have q4 := hb.cell 4
  have q5 := hb.cell 5
  have q6 := hb.cell 6
  have q7 := hb.cell 7
  have q8 := hb.cell 8
  have q9 := hb.cell 9
  rw [Array.getD_eq_getD_getElem?] at h8 h9
  simp [results, Tryz.results50, go_sem, h8, h9, q0, q1, q2, q3, q4, q5, q6, q7, q8, q9]
section

variable {w w' : World} {pf pw : Nat} {R : Rp} {pv : Value} {Y : Sy}

set_option maxRecDepth 100000 in
set_option maxHeartbeats 1000000 in
theorem sstat_any (h : SyAt w pf pw R pv Y) {N : Nat} (hk : FsOk Y.fs N) (hd : Y.dead = false) (no : Int) :
    Calls Tryz.prog 50 #[.pointer (some ⟨pf, 0, none⟩), .int .i64 no] w fun e w' => e = .returned (.tuple #[stV (Y.fs.get no), .int .i64 (noneE (Y.fs.get no))]) ∧ Below w.heap.size w w' := by
  have hRX := Blk.new w #[.int .i64 0, .int .i64 0, .int .i64 0, .int .i64 0, .int .i64 0, .int .i64 0, .int .i64 0, .int .i64 0, .int .i64 0, .int .i64 0] 120
  have hbX := balloc (Below.refl w.heap.size w) (.cells #[.int .i64 0, .int .i64 0, .int .i64 0, .int .i64 0, .int .i64 0, .int .i64 0, .int .i64 0, .int .i64 0, .int .i64 0, .int .i64 0] 120)
  have HR := Lib.hid (fun w1 (hb1 : Below w.heap.size w w1) => sread_any (h.keep hb1))
  rw [hd] at HR
  have HS := Lib.hid (fun w1 (hb1 : Below w.heap.size w w1) => stat_any (h.wd.keep hb1) hk no)
  obtain ⟨pc, -, pz⟩ := h.blk.facts
  have HPC := Lib.hid (fun w1 (hb1 : Below w.heap.size w w1) => show w1.cell? ⟨pf, 0, none⟩ = some (.pointer (some ⟨pw, 0, none⟩)) from (hb1.cell (p := ⟨pf, 0, none⟩) pz).trans (pc 0))
  clear h hk hd pc pz
  cases hg : Y.fs.get no with
  | none =>
    rw [hg] at HS
    unfold stV noneE at HS ⊢
    clear hg
    go_enter Tryz.func50, Tryz.ntmps50
    go_wp2_with fail
    refine (HR.out _ hbX).mono ?_
    rintro e w1 ⟨rfl, rfl⟩
    generalize w.alloc (.cells #[.int .i64 0, .int .i64 0, .int .i64 0, .int .i64 0, .int .i64 0, .int .i64 0, .int .i64 0, .int .i64 0, .int .i64 0, .int .i64 0] 120) = W0 at hRX hbX ⊢
    have HRX := Lib.hid hRX
    have HBX := Lib.hid hbX
    have pc0 := HPC.out _ hbX
    clear hRX hbX
    go_wp2_with fail
    refine (HS.out _ HBX.out).mono ?_
    rintro e w1 ⟨rfl, hb1⟩
    have hRY := HRX.out.keep hb1
    have HRY := Lib.hid hRY
    have HBY := Lib.hid (HBX.out.trans (hb1.mono HBX.out.size))
    obtain ⟨rc, rf, rz⟩ := hRY.facts
    clear hRY hb1
    go_wp2_with fail
    exact bodyPost_ret (sstat_results HRY.out.set10 rfl rfl) rfl ⟨rfl, below_set10 HBY.out (Nat.le_refl _)⟩
  | some d =>
    rw [hg] at HS
    unfold stV noneE at HS ⊢
    clear hg
    go_enter Tryz.func50, Tryz.ntmps50
    go_wp2_with fail
    refine (HR.out _ hbX).mono ?_
    rintro e w1 ⟨rfl, rfl⟩
    generalize w.alloc (.cells #[.int .i64 0, .int .i64 0, .int .i64 0, .int .i64 0, .int .i64 0, .int .i64 0, .int .i64 0, .int .i64 0, .int .i64 0, .int .i64 0] 120) = W0 at hRX hbX ⊢
    have HRX := Lib.hid hRX
    have HBX := Lib.hid hbX
    have pc0 := HPC.out _ hbX
    clear hRX hbX
    go_wp2_with fail
    refine (HS.out _ HBX.out).mono ?_
    rintro e w1 ⟨rfl, hb1⟩
    have hRY := HRX.out.keep hb1
    have HRY := Lib.hid hRY
    have HBY := Lib.hid (HBX.out.trans (hb1.mono HBX.out.size))
    obtain ⟨rc, rf, rz⟩ := hRY.facts
    clear hRY hb1
    go_wp2_with fail
    exact bodyPost_ret (sstat_results HRY.out.set10 rfl rfl) rfl ⟨rfl, below_set10 HBY.out (Nat.le_refl _)⟩
end

end Go.Proofs.YtkkiglagdojnlaaGreatDoor
