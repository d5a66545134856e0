/- Texts of the proof, part 47. -/
import Derived.Test.YtaojpbgaengdpaaST44
import Derived.Test.YtaojpbgaengdpaaST46
set_option linter.unusedVariables false
set_option linter.unusedSimpArgs false
/- Trees that are to be (layer 22): a mount comes. -/
namespace Go.Proofs.Ytaojpbgaengdpaa

open Go.RowKit

section

variable {w w' : World} {pf pw : Nat} {R : Rp} {pv : Value} {Y : Sy}

/-- a block of another kind turns. -/
theorem SyAt.other (h : SyAt w pf pw R pv Y) {B : Nat} {vs : Array Value} {T : TypeId} (hb : Blk w B vs T) (hT : wdKind (.cells #[] T (0, 0)) = false) (h1 : T ≠ 34) (h2 : T ≠ 138) (h3 : T ≠ 110) (hm : Mod (fun k => k = B) w w') : SyAt w' pf pw R pv Y := by
  unfold Blk at hb
  refine ⟨h.blk.mod hm (fun e => ?_), h.wd.mod hm (fun k o hk ho => ?_), own_mod h.plan hm (fun k hk he => ?_)⟩
  · subst e
    have hq := h.blk
    unfold Blk at hq
    rw [hb] at hq
    injection hq with hq
    injection hq with hq e
    exact h1 e
  · subst hk
    rw [hb] at ho
    injection ho with ho
    subst ho
    exact ⟨hT, fun cur e => by injection e with e1 e2; exact h2 e2⟩
  · subst hk
    obtain ⟨-, cur, hc⟩ := own_obj1 h.plan he
    rw [hb] at hc
    injection hc with hc
    injection hc with hc e
    exact h3 e
theorem Stp.newCell {F F' : Nat → Prop} (h : Stp F F' w w') {B : Nat} (hB : w.heap.size ≤ B) (i : Nat) (v : Value) : Stp F F' w (w'.setCell ⟨B, i, none⟩ v) :=
  ⟨h.mod.setCell (a := ⟨B, i, none⟩) (.inr hB) v, h.new⟩
theorem mount_err {S : Fs} {m : Mt} (h : (S.path c00 m.path false).2 ≠ 0) : mountF S m = S := by unfold mountF; rw [if_pos h]
theorem mount_new {S : Fs} {m : Mt} (h : (S.path c00 m.path false).2 = 0) (h0 : (S.path c00 m.path false).1.no = 0) (he : (S.mkdir c00 0 (S.path c00 m.path false).1.dir (S.path c00 m.path false).1.name 493).2.2 = 0) :
    mountF S m = ((S.mkdir c00 0 (S.path c00 m.path false).1.dir (S.path c00 m.path false).1.name 493).1.mount (S.mkdir c00 0 (S.path c00 m.path false).1.dir (S.path c00 m.path false).1.name 493).2.1 m.b m.n).1 := by
  unfold mountF; rw [if_neg (by simp [h]), if_pos h0]; simp only; rw [if_neg (by simp [he])]
theorem mount_full {S : Fs} {m : Mt} (h : (S.path c00 m.path false).2 = 0) (h0 : (S.path c00 m.path false).1.no = 0) (he : (S.mkdir c00 0 (S.path c00 m.path false).1.dir (S.path c00 m.path false).1.name 493).2.2 ≠ 0) :
    mountF S m = (S.mkdir c00 0 (S.path c00 m.path false).1.dir (S.path c00 m.path false).1.name 493).1 := by
  unfold mountF; rw [if_neg (by simp [h]), if_pos h0]; simp only; rw [if_pos he]
theorem mount_old {S : Fs} {m : Mt} (h : (S.path c00 m.path false).2 = 0) (h0 : (S.path c00 m.path false).1.no ≠ 0) : mountF S m = (S.mount (S.path c00 m.path false).1.no m.b m.n).1 := by
  unfold mountF; rw [if_neg (by simp [h]), if_neg h0]
set_option maxRecDepth 100000 in
set_option maxHeartbeats 2000000 in
theorem smount_any (h : SyAt w pf pw R pv Y) {N : Nat} (hk : FsOk Y.fs N) (hN : N ≤ 999990) (hc : Calm Y) (hcc : Y.count ≤ 4000000) (m : Mt) (hp : m.path.size ≤ 100000) :
    Calls Try.prog 13 #[.pointer (some ⟨pf, 0, none⟩), .agg #[.string m.path, .int .i64 m.b, .int .i64 m.n]] w fun e w' => e = .returned (.tuple #[]) ∧ Became w w' pf pw R pv Y (mountF Y.fs m) 1 := by
  have HY := Lib.hid h
  have HK := Lib.hid hk
  have HC := Lib.hid hc
  have HF := Lib.hid (fun w1 (hb1 : Below w.heap.size w w1) => sfind_any (h.keep hb1) hk (by omega) hc.dead c00 m.path hp false)
  have HSz := Lib.hid (path_size hk c00 m.path (by omega) false)
  have mixed : Try.prog.follows .mixedOrders = true := by kernel_rfl
  have HE1 := Lib.hid (mount_err (S := Y.fs) (m := m))
  have HE2 := Lib.hid (mount_new (S := Y.fs) (m := m))
  have HE3 := Lib.hid (mount_full (S := Y.fs) (m := m))
  have HE4 := Lib.hid (mount_old (S := Y.fs) (m := m))
  generalize mountF Y.fs m = Z at HE1 HE2 HE3 HE4 ⊢
  generalize Y.fs.path c00 m.path false = x at HF HSz HE1 HE2 HE3 HE4
  obtain ⟨⟨xd, xn, xk, xs⟩, xe⟩ := x
  unfold Fd.v at HF
  have hM0 := Blk.new w #[.string m.path, .int .i64 m.b, .int .i64 m.n] 41
  have hb0 := balloc (Below.refl w.heap.size w) (.cells #[.string m.path, .int .i64 m.b, .int .i64 m.n] 41)
  clear h hk hc
  go_enter Try.func13, Try.ntmps13
  go_wp2_with fail
  refine (HF.out _ hb0).mono ?_
  rintro e w1 ⟨rfl, hb1⟩
  have hMX := (hM0.keep hb1).old (.cells #[.int .i64 xd, .string xn, .int .i64 xk, .bool xs] 45)
  have hXX := Blk.new w1 #[.int .i64 xd, .string xn, .int .i64 xk, .bool xs] 45
  have hbX := balloc (bnext hb0 hb1) (.cells #[.int .i64 xd, .string xn, .int .i64 xk, .bool xs] 45)
  have hlw : w.heap.size < w1.heap.size := by have := hb1.size; simp at this; omega
  clear hM0 hb0 hb1
  go_upto_region 2 with fail
  generalize w1.alloc (.cells #[.int .i64 xd, .string xn, .int .i64 xk, .bool xs] 45) = X at hMX hXX hbX ⊢
  have HMX := Lib.hid hMX
  have HXX := Lib.hid hXX
  have HBX := Lib.hid hbX
  obtain ⟨xc, xf, xz⟩ := hXX.facts
  obtain ⟨mc, mf, mz⟩ := hMX.facts
  have hYX := HY.out.keep hbX
  have HYX := Lib.hid hYX
  obtain ⟨pc, -, pz⟩ := hYX.blk.facts
  clear hMX hXX hbX hYX
  by_cases he : xe = 0
  · have heb : (xe == 0) = true := by simpa using he
    subst he
    by_cases hno : xk = 0
    · have hnb : (xk == 0) = true := by simpa using hno
      have HM := Lib.hid (smkdir_any HYX.out HK.out (by omega) ⟨HC.out.c0, by omega⟩ (by rw [HC.out.plan]; exact Nat.zero_le _) c00 xd xn 493 (by have h9 : xn.size ≤ 1048576 := HSz.out; omega))
      rw [HC.out.op] at HM
      have HE2a := Lib.hid (HE2.out rfl hno)
      have HE3a := Lib.hid (HE3.out rfl hno)
      dsimp only at HE2a HE3a HM
      have HOk := Lib.hid (mkdir_ok HK.out c00 0 xd xn 493)
      clear HE1 HE2 HE3 HE4 hno
      generalize Y.fs.mkdir c00 0 xd xn 493 = q at HM HE2a HE3a HOk
      obtain ⟨S1, n1, e1⟩ := q
      dsimp only at HM HE2a HE3a HOk
      go_wp2_with fail
      refine HM.out.mono ?_
      rintro e w3 ⟨rfl, R3, hY3, hS3⟩
      have hM3 := HMX.out.sy HYX.out hS3 rfl (by decide)
      have hX3 := HXX.out.sy HYX.out hS3 rfl (by decide)
      have HX3 := Lib.hid hX3
      have HM3 := Lib.hid hM3
      have HY3 := Lib.hid hY3
      have HS3 := Lib.hid ((Stp.of_below HBX.out).trans hS3)
      clear xc xf xz mc mf mz pc pz
      obtain ⟨xc, xf, xz⟩ := hX3.facts
      clear hM3 hX3 hY3 hS3
      go_upto_region 4 with fail
      have hY4 := HY3.out.other (HX3.out) rfl (by decide) (by decide) (by decide) ((Mod.refl (fun k => k = w1.heap.size) w3).setCell (a := ⟨w1.heap.size, 2, none⟩) (.inl rfl) (.int .i64 n1))
      have hX4 := HX3.out.set 2 (.int .i64 n1)
      have hne : w1.heap.size ≠ w.heap.size := by have := HX3.out.lt; have := HMX.out.lt; have := hlw; omega
      have hM4 := HM3.out.setOther ⟨w1.heap.size, 2, none⟩ (.int .i64 n1) hne
      have hS4 : Stp (R.Y pf pw) (R3.Y pf pw) w (w3.setCell ⟨w1.heap.size, 2, none⟩ (.int .i64 n1)) := HS3.out.newCell (show w.heap.size ≤ w1.heap.size by have := hlw; omega) _ _
      generalize w3.setCell ⟨w1.heap.size, 2, none⟩ (.int .i64 n1) = W4 at hY4 hX4 hM4 hS4 ⊢
      have HY4 := Lib.hid hY4
      have HS4 := Lib.hid hS4
      clear xc xf xz
      obtain ⟨xc, xf, xz⟩ := hX4.facts
      obtain ⟨mc, mf, mz⟩ := hM4.facts
      obtain ⟨pc, -, pz⟩ := hY4.blk.facts
      clear hY4 hX4 hM4 hS4
      by_cases he1 : e1 = 0
      · have he1b : (e1 == 0) = true := by simpa using he1
        have HE := Lib.hid (HE2a.out he1)
        have HMt := Lib.hid (wmount_any (HY4.out.wd.keep (Below.refl _ W4).drew) HOk.out (by omega) n1 m.b m.n)
        subst he1
        go_wp2_with fail
        refine wp_region_lex 10 mixed (by kernel_rfl) (show PanicOk _ from by repeat (first | exact pk_body | refine pk_then ?_ | refine pk_block ?_ | refine pk_scope ?_)) ?_
        simp only [List.take_succ_cons, List.take_zero, List.drop_succ_cons, List.drop_zero]
        repeat still_step
        refine wpStill_nil ?_
        go_wp2_with fail
        refine HMt.out.mono ?_
        rintro e w5 ⟨rfl, R5, hR5, hS5⟩
        have HX := Lib.hid (And.intro ((HY4.out.keep (Below.refl _ W4).drew).step hR5 hS5) ((HS4.out.trans (stpY (Stp.of_below (F := R3.F pw) (Below.refl _ W4).drew))).trans (stpY hS5)))
        clear hR5 hS5
        go_wp2_with fail
        go_end0
        rw [HE.out]
        exact ⟨rfl, R5, _, HX.out.1, rfl, (HC.out.next S1).fs _, by show Y.count + 1 ≤ _; omega, HX.out.2⟩
      · have he1b : (e1 == 0) = false := by simpa using he1
        have HE := Lib.hid (HE3a.out he1)
        clear he1
        go_wp2_with fail
        go_end0
        rw [HE.out]
        exact ⟨rfl, R3, _, HY4.out, rfl, HC.out.next S1, by show Y.count + 1 ≤ _; omega, HS4.out⟩
    · have hnb : (xk == 0) = false := by simpa using hno
      have HE := Lib.hid (HE4.out rfl hno)
      have HMt := Lib.hid (wmount_any (HYX.out.wd.keep (Below.refl _ X).drew) HK.out (by omega) xk m.b m.n)
      clear HE1 HE2 HE3 HE4 hno
      go_wp2_with fail
      refine wp_region_lex 10 mixed (by kernel_rfl) (show PanicOk _ from by repeat (first | exact pk_body | refine pk_then ?_ | refine pk_block ?_ | refine pk_scope ?_)) ?_
      simp only [List.take_succ_cons, List.take_zero, List.drop_succ_cons, List.drop_zero]
      repeat still_step
      refine wpStill_nil ?_
      go_wp2_with fail
      refine HMt.out.mono ?_
      rintro e w5 ⟨rfl, R5, hR5, hS5⟩
      have HX := Lib.hid (And.intro ((HYX.out.keep (Below.refl _ X).drew).step hR5 hS5) (((Stp.of_below (F := R.Y pf pw) HBX.out).trans (Stp.of_below (F := R.Y pf pw) (Below.refl _ X).drew)).trans (stpY hS5)))
      clear hR5 hS5
      go_wp2_with fail
      go_end0
      rw [HE.out]
      exact ⟨rfl, R5, _, HX.out.1, rfl, HC.out.fs _, by show Y.count ≤ _; omega, HX.out.2⟩
  · have heb : (xe == 0) = false := by simpa using he
    have HE := Lib.hid (HE1.out he)
    clear he
    go_wp2_with fail
    go_end0
    rw [HE.out]
    exact ⟨rfl, (Became.same HY.out HC.out HBX.out).mono (by omega)⟩
end

end Go.Proofs.Ytaojpbgaengdpaa
