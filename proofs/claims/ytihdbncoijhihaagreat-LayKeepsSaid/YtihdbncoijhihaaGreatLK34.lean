/- Texts of the proof, part 34. -/
import Derived.Test.YtihdbncoijhihaaGreatLK28
import Derived.Test.YtihdbncoijhihaaGreatLK33
set_option linter.unusedVariables false
set_option linter.unusedSimpArgs false
/- Trees that are to be (layer 22): a mount comes. -/
namespace Go.Proofs.YtihdbncoijhihaaGreat

open Go.RowKit

section

variable {w w' : World} {pf pw : Nat} {R : Rp} {pv : Value} {Y : Sy}

/-- a block of another kind turns. -/
theorem SyAt.other (h : SyAt w pf pw R pv Y) {B : Nat} {vs : Array Value} {T : TypeId} (hb : Blk w B vs T) (hT : wdKind (.cells #[] T (0, 0)) = false) (h1 : T ≠ 54) (h2 : T ≠ 146) (h3 : T ≠ 242) (hm : Mod (fun k => k = B) w w') : SyAt w' pf pw R pv Y := by
  unfold Blk at hb
  refine ⟨h.blk.mod hm (fun e => ?_), h.wd.mod hm (fun k o hk ho => ?_), own_mod h.plan hm (fun k hk he => ?_)⟩
  · subst e
    have hq := h.blk
    unfold Blk at hq
    rw [hb] at hq
    injection hq with hq
    injection hq with hq e
    exact h1 e
  · subst hk
    rw [hb] at ho
    injection ho with ho
    subst ho
    exact ⟨hT, fun cur e => by injection e with e1 e2; exact h2 e2⟩
  · subst hk
    obtain ⟨-, cur, hc⟩ := own_obj1 h.plan he
    rw [hb] at hc
    injection hc with hc
    injection hc with hc e
    exact h3 e
theorem Stp.newCell {F F' : Nat → Prop} (h : Stp F F' w w') {B : Nat} (hB : w.heap.size ≤ B) (i : Nat) (v : Value) : Stp F F' w (w'.setCell ⟨B, i, none⟩ v) :=
  ⟨h.mod.setCell (a := ⟨B, i, none⟩) (.inr hB) v, h.new⟩
theorem mount_err {S : Fs} {m : Mt} (h : (S.path c00 m.path false).2 ≠ 0) : mountF S m = S := by unfold mountF; rw [if_pos h]
theorem mount_new {S : Fs} {m : Mt} (h : (S.path c00 m.path false).2 = 0) (h0 : (S.path c00 m.path false).1.no = 0) (he : (S.mkdir c00 0 (S.path c00 m.path false).1.dir (S.path c00 m.path false).1.name 493).2.2 = 0) :
    mountF S m = ((S.mkdir c00 0 (S.path c00 m.path false).1.dir (S.path c00 m.path false).1.name 493).1.mount (S.mkdir c00 0 (S.path c00 m.path false).1.dir (S.path c00 m.path false).1.name 493).2.1 m.b m.n).1 := by
  unfold mountF; rw [if_neg (by simp [h]), if_pos h0]; simp only; rw [if_neg (by simp [he])]
theorem mount_full {S : Fs} {m : Mt} (h : (S.path c00 m.path false).2 = 0) (h0 : (S.path c00 m.path false).1.no = 0) (he : (S.mkdir c00 0 (S.path c00 m.path false).1.dir (S.path c00 m.path false).1.name 493).2.2 ≠ 0) :
    mountF S m = (S.mkdir c00 0 (S.path c00 m.path false).1.dir (S.path c00 m.path false).1.name 493).1 := by
  unfold mountF; rw [if_neg (by simp [h]), if_pos h0]; simp only; rw [if_pos he]
theorem mount_old {S : Fs} {m : Mt} (h : (S.path c00 m.path false).2 = 0) (h0 : (S.path c00 m.path false).1.no ≠ 0) : mountF S m = (S.mount (S.path c00 m.path false).1.no m.b m.n).1 := by
  unfold mountF; rw [if_neg (by simp [h]), if_neg h0]
set_option maxRecDepth 100000 in
set_option maxHeartbeats 2000000 in
theorem smount_any (h : SyAt w pf pw R pv Y) {N : Nat} (hk : FsOk Y.fs N) (hN : N ≤ 999990) (hc : Calm Y) (hcc : Y.count ≤ 4000000) (m : Mt) (hp : m.path.size ≤ 100000) :
    Calls Tryz.prog 105 #[.pointer (some ⟨pf, 0, none⟩), .agg #[.string m.path, .int .i64 m.b, .int .i64 m.n]] w fun e w' => e = .returned (.tuple #[]) ∧ Became w w' pf pw R pv Y (mountF Y.fs m) 1 := by
  have HY := Lib.hid h
  have HK := Lib.hid hk
  have HC := Lib.hid hc
  have HF := Lib.hid (fun w1 (hb1 : Below w.heap.size w w1) => sfind_any (h.keep hb1) hk (by omega) hc.dead c00 m.path hp false)
  have HSz := Lib.hid (path_size hk c00 m.path (by omega) false)
  have mixed : Tryz.prog.follows .mixedOrders = true := by kernel_rfl
  have HE1 := Lib.hid (mount_err (S := Y.fs) (m := m))
  have HE2 := Lib.hid (mount_new (S := Y.fs) (m := m))
  have HE3 := Lib.hid (mount_full (S := Y.fs) (m := m))
  have HE4 := Lib.hid (mount_old (S := Y.fs) (m := m))
  generalize mountF Y.fs m = Z at HE1 HE2 HE3 HE4 ⊢
  generalize Y.fs.path c00 m.path false = x at HF HSz HE1 HE2 HE3 HE4
  obtain ⟨⟨xd, xn, xk, xs⟩, xe⟩ := x
  unfold Fd.v at HF
  have hM0 := Blk.new w #[.string m.path, .int .i64 m.b, .int .i64 m.n] 114
  have hb0 := balloc (Below.refl w.heap.size w) (.cells #[.string m.path, .int .i64 m.b, .int .i64 m.n] 114)
  clear h hk hc
  go_enter Tryz.func105, Tryz.ntmps105
  go_wp2_with fail
  refine (HF.out _ hb0).mono ?_
  rintro e w1 ⟨rfl, hb1⟩
  have hMX := (hM0.keep hb1).old (.cells #[.int .i64 xd, .string xn, .int .i64 xk, .bool xs] 118)
  have hXX := Blk.new w1 #[.int .i64 xd, .string xn, .int .i64 xk, .bool xs] 118
  have hbX := balloc (bnext hb0 hb1) (.cells #[.int .i64 xd, .string xn, .int .i64 xk, .bool xs] 118)
  have hlw : w.heap.size < w1.heap.size := by have := hb1.size; simp at this; omega
  clear hM0 hb0 hb1
  go_upto_region 2 with fail
  generalize w1.alloc (.cells #[.int .i64 xd, .string xn, .int .i64 xk, .bool xs] 118) = X at hMX hXX hbX ⊢
  have HMX := Lib.hid hMX
  have HXX := Lib.hid hXX
  have HBX := Lib.hid hbX
  obtain ⟨xc, xf, xz⟩ := hXX.facts
  obtain ⟨mc, mf, mz⟩ := hMX.facts
  have hYX := HY.out.keep hbX
  have HYX := Lib.hid hYX
  obtain ⟨pc, -, pz⟩ := hYX.blk.facts
  clear hMX hXX hbX hYX
  by_cases he : xe = 0
  · have heb : (xe == 0) = true := by simpa using he
    subst he
    by_cases hno : xk = 0
    · have hnb : (xk == 0) = true := by simpa using hno
      have HM := Lib.hid (smkdir_any HYX.out HK.out (by omega) ⟨HC.out.c0, by omega⟩ (by rw [HC.out.plan]; exact Nat.zero_le _) c00 xd xn 493 (by have h9 : xn.size ≤ 1048576 := HSz.out; omega))
      rw [HC.out.op] at HM
      have HE2a := Lib.hid (HE2.out rfl hno)
      have HE3a := Lib.hid (HE3.out rfl hno)
      dsimp only at HE2a HE3a HM
      have HOk := Lib.hid (mkdir_ok HK.out c00 0 xd xn 493)
      clear HE1 HE2 HE3 HE4 hno
      generalize Y.fs.mkdir c00 0 xd xn 493 = q at HM HE2a HE3a HOk
      obtain ⟨S1, n1, e1⟩ := q
      dsimp only at HM HE2a HE3a HOk
      go_wp2_with fail
      refine HM.out.mono ?_
      rintro e w3 ⟨rfl, R3, hY3, hS3⟩
      have hM3 := HMX.out.sy HYX.out hS3 rfl (by decide)
      have hX3 := HXX.out.sy HYX.out hS3 rfl (by decide)
      have HX3 := Lib.hid hX3
      have HM3 := Lib.hid hM3
      have HY3 := Lib.hid hY3
      have HS3 := Lib.hid ((Stp.of_below HBX.out).trans hS3)
      clear xc xf xz mc mf mz pc pz
      obtain ⟨xc, xf, xz⟩ := hX3.facts
      clear hM3 hX3 hY3 hS3
      go_upto_region 4 with fail
      have hY4 := HY3.out.other (HX3.out) rfl (by decide) (by decide) (by decide) ((Mod.refl (fun k => k = w1.heap.size) w3).setCell (a := ⟨w1.heap.size, 2, none⟩) (.inl rfl) (.int .i64 n1))
      have hX4 := HX3.out.set 2 (.int .i64 n1)
      have hne : w1.heap.size ≠ w.heap.size := by have := HX3.out.lt; have := HMX.out.lt; have := hlw; omega
      have hM4 := HM3.out.setOther ⟨w1.heap.size, 2, none⟩ (.int .i64 n1) hne
      have hS4 : Stp (R.Y pf pw) (R3.Y pf pw) w (w3.setCell ⟨w1.heap.size, 2, none⟩ (.int .i64 n1)) := HS3.out.newCell (show w.heap.size ≤ w1.heap.size by have := hlw; omega) _ _
      generalize w3.setCell ⟨w1.heap.size, 2, none⟩ (.int .i64 n1) = W4 at hY4 hX4 hM4 hS4 ⊢
      have HY4 := Lib.hid hY4
      have HS4 := Lib.hid hS4
      clear xc xf xz
      obtain ⟨xc, xf, xz⟩ := hX4.facts
      obtain ⟨mc, mf, mz⟩ := hM4.facts
      obtain ⟨pc, -, pz⟩ := hY4.blk.facts
      clear hY4 hX4 hM4 hS4
      by_cases he1 : e1 = 0
      · have he1b : (e1 == 0) = true := by simpa using he1
        have HE := Lib.hid (HE2a.out he1)
        have HMt := Lib.hid (wmount_any (HY4.out.wd.keep (Below.refl _ W4).drew) HOk.out (by omega) n1 m.b m.n)
        subst he1
        go_wp2_with fail
        refine wp_region_lex 10 mixed (by kernel_rfl) (show PanicOk _ from by repeat (first | exact pk_body | refine pk_then ?_ | refine pk_block ?_ | refine pk_scope ?_)) ?_
        simp only [List.take_succ_cons, List.take_zero, List.drop_succ_cons, List.drop_zero]
        repeat still_step
        refine wpStill_nil ?_
        go_wp2_with fail
        refine HMt.out.mono ?_
        rintro e w5 ⟨rfl, R5, hR5, hS5⟩
        have HX := Lib.hid (And.intro ((HY4.out.keep (Below.refl _ W4).drew).step hR5 hS5) ((HS4.out.trans (stpY (Stp.of_below (F := R3.F pw) (Below.refl _ W4).drew))).trans (stpY hS5)))
        clear hR5 hS5
        go_wp2_with fail
        go_end0
        rw [HE.out]
        exact ⟨rfl, R5, _, HX.out.1, rfl, (HC.out.next S1).fs _, by show Y.count + 1 ≤ _; omega, HX.out.2⟩
      · have he1b : (e1 == 0) = false := by simpa using he1
        have HE := Lib.hid (HE3a.out he1)
        clear he1
        go_wp2_with fail
        go_end0
        rw [HE.out]
        exact ⟨rfl, R3, _, HY4.out, rfl, HC.out.next S1, by show Y.count + 1 ≤ _; omega, HS4.out⟩
    · have hnb : (xk == 0) = false := by simpa using hno
      have HE := Lib.hid (HE4.out rfl hno)
      have HMt := Lib.hid (wmount_any (HYX.out.wd.keep (Below.refl _ X).drew) HK.out (by omega) xk m.b m.n)
      clear HE1 HE2 HE3 HE4 hno
      go_wp2_with fail
      refine wp_region_lex 10 mixed (by kernel_rfl) (show PanicOk _ from by repeat (first | exact pk_body | refine pk_then ?_ | refine pk_block ?_ | refine pk_scope ?_)) ?_
      simp only [List.take_succ_cons, List.take_zero, List.drop_succ_cons, List.drop_zero]
      repeat still_step
      refine wpStill_nil ?_
      go_wp2_with fail
      refine HMt.out.mono ?_
      rintro e w5 ⟨rfl, R5, hR5, hS5⟩
      have HX := Lib.hid (And.intro ((HYX.out.keep (Below.refl _ X).drew).step hR5 hS5) (((Stp.of_below (F := R.Y pf pw) HBX.out).trans (Stp.of_below (F := R.Y pf pw) (Below.refl _ X).drew)).trans (stpY hS5)))
      clear hR5 hS5
      go_wp2_with fail
      go_end0
      rw [HE.out]
      exact ⟨rfl, R5, _, HX.out.1, rfl, HC.out.fs _, by show Y.count ≤ _; omega, HX.out.2⟩
  · have heb : (xe == 0) = false := by simpa using he
    have HE := Lib.hid (HE1.out he)
    clear he
    go_wp2_with fail
    go_end0
    rw [HE.out]
    exact ⟨rfl, (Became.same HY.out HC.out HBX.out).mono (by omega)⟩
end

end Go.Proofs.YtihdbncoijhihaaGreat

/- Cans are made ready (layer 31): lay.Ready. -/
namespace Go.Proofs.YtihdbncoijhihaaGreat

open Go.RowKit

theorem boxes3 (w : World) (a b c : Array Value) (A B C : TypeId) : Blk (((w.alloc (.cells a A)).alloc (.cells b B)).alloc (.cells c C)) w.heap.size a A ∧ Blk (((w.alloc (.cells a A)).alloc (.cells b B)).alloc (.cells c C)) (w.heap.size + 1) b B ∧ Blk (((w.alloc (.cells a A)).alloc (.cells b B)).alloc (.cells c C)) (w.heap.size + 1 + 1) c C ∧ Below w.heap.size w (((w.alloc (.cells a A)).alloc (.cells b B)).alloc (.cells c C)) := by
  refine ⟨((Blk.new w a A).old _).old _, ?_, ?_, balloc (balloc (balloc (Below.refl w.heap.size w) _) _) _⟩
  · have := (Blk.new (w.alloc (.cells a A)) b B).old (.cells c C)
    rwa [World.size_alloc] at this
  · have := Blk.new ((w.alloc (.cells a A)).alloc (.cells b B)) c C
    rwa [World.size_alloc, World.size_alloc] at this
section

variable {w w' w'' : World} {pf pw : Nat} {R R' : Rp} {pv : Value} {Y Z : Sy}

/-- a can's box aside is filled. -/
theorem Goes.set7 (h : Goes w w' pf pw R pv Z) {B : Nat} {vs : Array Value} (hB : Blk w' B vs 38) (hw : w.heap.size ≤ B) (v0 v1 v2 v3 v4 v5 v6 : Value) :
    Goes w (((((((w'.setCell ⟨B, 0, none⟩ v0).setCell ⟨B, 1, none⟩ v1).setCell ⟨B, 2, none⟩ v2).setCell ⟨B, 3, none⟩ v3).setCell ⟨B, 4, none⟩ v4).setCell ⟨B, 5, none⟩ v5).setCell ⟨B, 6, none⟩ v6) pf pw R pv Z := by
  obtain ⟨R', h1, h2⟩ := h
  have hm : Mod (fun k => k = B) w' (((((((w'.setCell ⟨B, 0, none⟩ v0).setCell ⟨B, 1, none⟩ v1).setCell ⟨B, 2, none⟩ v2).setCell ⟨B, 3, none⟩ v3).setCell ⟨B, 4, none⟩ v4).setCell ⟨B, 5, none⟩ v5).setCell ⟨B, 6, none⟩ v6) :=
    (((((((Mod.refl (fun k => k = B) w').setCell (a := ⟨B, 0, none⟩) (.inl rfl) v0).setCell (a := ⟨B, 1, none⟩) (.inl rfl) v1).setCell (a := ⟨B, 2, none⟩) (.inl rfl) v2).setCell (a := ⟨B, 3, none⟩) (.inl rfl) v3).setCell (a := ⟨B, 4, none⟩) (.inl rfl) v4).setCell (a := ⟨B, 5, none⟩) (.inl rfl) v5).setCell (a := ⟨B, 6, none⟩) (.inl rfl) v6
  exact ⟨R', h1.other hB (by decide) (by decide) (by decide) (by decide) hm, ((((((h2.newCell hw 0 v0).newCell hw 1 v1).newCell hw 2 v2).newCell hw 3 v3).newCell hw 4 v4).newCell hw 5 v5).newCell hw 6 v6⟩
theorem lready_results {tmps : Array Value} {W : World} {B : Nat} {x : Cn} {e : Int} (hb : Blk W B #[.string x.path, .int .i64 x.dir, .int .i64 x.info, .int .i64 x.files, .int .i64 x.out, .int .i64 x.way, .string x.top] 38)
    (h8 : tmps.getD 6 undef = .pointer (some ⟨B, 0, none⟩)) (h9 : tmps.getD 7 undef = .int .i64 e) : (results Tryz.f56 tmps).run Tryz.prog W = .ok (.tuple #[x.v, .int .i64 e]) W := by
  have q0 := hb.cell 0
  have q1 := hb.cell 1
  have q2 := hb.cell 2
  have q3 := hb.cell 3
  have q4 := hb.cell 4
  have q5 := hb.cell 5
  have q6 := hb.cell 6
  rw [Array.getD_eq_getD_getElem?] at h8 h9
  simp [results, Tryz.results56, go_sem, Cn.v, h8, h9, q0, q1, q2, q3, q4, q5, q6]
theorem part_at (k : Nat) (hk : k < 4) : ∃ s, partNs.drop k = s :: partNs.drop (k + 1) ∧ s.size ≤ 9223372036854775807 ∧ ∀ w, (Instr.index 216 (.agg #[.string (ByteArray.mk #[105, 110, 102, 111]), .string (ByteArray.mk #[102, 105, 108, 101, 115]), .string (ByteArray.mk #[101, 120, 112, 117, 110, 103, 101, 100]), .string (ByteArray.mk #[109, 111, 118, 105, 110, 103])]) (.int .i64 k)).run Tryz.prog w = .ok (.string s) w := by
  rcases (by omega : k = 0 ∨ k = 1 ∨ k = 2 ∨ k = 3) with rfl | rfl | rfl | rfl
  · exact ⟨_, rfl, by decide, fun w => (part_idx _ _ _ _ w).1⟩
  · exact ⟨_, rfl, by decide, fun w => (part_idx _ _ _ _ w).2.1⟩
  · exact ⟨_, rfl, by decide, fun w => (part_idx _ _ _ _ w).2.2.1⟩
  · exact ⟨_, rfl, by decide, fun w => (part_idx _ _ _ _ w).2.2.2⟩
set_option maxRecDepth 100000 in
set_option maxHeartbeats 8000000 in
theorem lready_any (h : SyAt w pf pw R pv Y) {N : Nat} (hk : SyOk Y N) (hN : N ≤ 99000) (u : Us) (p : Plc) (hn : p.name.size ≤ 9223372036854775807) :
    Calls Tryz.prog 56 #[.pointer (some ⟨pf, 0, none⟩), .agg #[.int .i64 u.u, .int .i64 u.g, .string u.data], .agg #[.int .i64 p.dir, .string p.name, .string p.top]] w fun e w' =>
      e = .returned (.tuple #[(Y.readyF u p).2.1.v, .int .i64 (Y.readyF u p).2.2]) ∧ Goes w w' pf pw R pv (Y.readyF u p).1 := by
  obtain ⟨hUX, hPX, hRX, hbX⟩ := boxes3 w #[.int .i64 u.u, .int .i64 u.g, .string u.data] #[.int .i64 p.dir, .string p.name, .string p.top] #[.string ⟨#[]⟩, .int .i64 0, .int .i64 0, .int .i64 0, .int .i64 0, .int .i64 0, .string ⟨#[]⟩] 27 131 38
  have hD := fun w1 (hb1 : Below w.heap.size w w1) => ldir_any (h.keep hb1) hk (by omega) u p.dir p.name hn
  have HH := Lib.hid (fun w1 (hb1 : Below w.heap.size w w1) => h.keep hb1)
  have HR := Lib.hid (show Y.readyF u p = if (Y.dirF u p.dir p.name).2.2 ≠ 0 then ((Y.dirF u p.dir p.name).1, cn0, (Y.dirF u p.dir p.name).2.2) else if ((Y.dirF u p.dir p.name).1.dirsF u (Y.dirF u p.dir p.name).2.1 partNs).2 ≠ 0 then (((Y.dirF u p.dir p.name).1.dirsF u (Y.dirF u p.dir p.name).2.1 partNs).1, cn0, ((Y.dirF u p.dir p.name).1.dirsF u (Y.dirF u p.dir p.name).2.1 partNs).2) else (((Y.dirF u p.dir p.name).1.dirsF u (Y.dirF u p.dir p.name).2.1 partNs).1, ((Y.dirF u p.dir p.name).1.dirsF u (Y.dirF u p.dir p.name).2.1 partNs).1.fs.openF ((Y.dirF u p.dir p.name).1.dirsF u (Y.dirF u p.dir p.name).2.1 partNs).1.dead u p) from rfl)
  have HK1 := Lib.hid (hk.dirF u p.dir p.name)
  have HP3 := Lib.hid (part_at)
  generalize Y.readyF u p = rd at HR ⊢
  generalize Y.dirF u p.dir p.name = r at HR HK1 hD
  obtain ⟨Y1, no, e1⟩ := r
  dsimp only at HR HK1 hD
  have HD := Lib.hid hD
  clear h hk hD
  go_enter Tryz.func56, Tryz.ntmps56
  go_upto_region 1 with fail
  generalize ((w.alloc (.cells #[.int .i64 u.u, .int .i64 u.g, .string u.data] 27)).alloc (.cells #[.int .i64 p.dir, .string p.name, .string p.top] 131)).alloc (.cells #[.string ⟨#[]⟩, .int .i64 0, .int .i64 0, .int .i64 0, .int .i64 0, .int .i64 0, .string ⟨#[]⟩] 38) = W0 at hUX hPX hRX hbX ⊢
  have HB0 := Lib.hid hbX
  have HW0 := Lib.hid (And.intro hUX (And.intro hPX hRX))
  obtain ⟨uc, uf, uz⟩ := hUX.facts
  obtain ⟨qc, qf, qz⟩ := hPX.facts
  clear hUX hPX hRX hbX
  go_wp2_with fail
  refine (HD.out _ HB0.out).mono ?_
  rintro e w1 ⟨rfl, R1, hY1, hS1⟩
  have hy0 := HH.out _ HB0.out
  have hU1 := HW0.out.1.sy hy0 hS1 (by decide) (by decide)
  have hP1 := HW0.out.2.1.sy hy0 hS1 (by decide) (by decide)
  have hR1 := HW0.out.2.2.sy hy0 hS1 (by decide) (by decide)
  have HG1 := Lib.hid (show Goes w w1 pf pw R pv Y1 from ⟨R1, hY1, (Stp.of_below HB0.out).trans hS1⟩)
  have HB1 := Lib.hid (And.intro hU1 (And.intro hP1 hR1))
  obtain ⟨rc, rf, rz⟩ := hR1.facts
  clear hy0 hY1 hS1 hU1 hP1 hR1 uc uf uz qc qf qz
  by_cases h0 : e1 = 0
  · have h0b : (e1 != 0) = false := by simpa using h0
    have HE := Lib.hid (HR.out.trans (if_neg (by simpa using h0)))
    subst h0
    clear rc rf rz
    go_wp2_with fail
    go_loopw [29] (fun t29 wr => ∃ (k : Nat) (Z : Sy), k ≤ 4 ∧ t29 = .int .i64 k ∧ Y1.dirsF u no partNs = Z.dirsF u no (partNs.drop k) ∧ SyOk Z (N + 1 + k) ∧ Goes w wr pf pw R pv Z ∧ Blk wr w.heap.size #[.int .i64 u.u, .int .i64 u.g, .string u.data] 27 ∧ Blk wr (w.heap.size + 1) #[.int .i64 p.dir, .string p.name, .string p.top] 131 ∧ Blk wr (w.heap.size + 1 + 1) #[.string ⟨#[]⟩, .int .i64 0, .int .i64 0, .int .i64 0, .int .i64 0, .int .i64 0, .string ⟨#[]⟩] 38) (fun t29 _ => 4 - (intOf t29).toNat)
    case atStart => exact ⟨0, Y1, by omega, rfl, rfl, HK1.out, HG1.out, HB1.out.1, HB1.out.2.1, HB1.out.2.2⟩
    case round =>
      obtain ⟨k, Z, hk, rfl, hd, hok, hg, hu, hp, hr⟩ := hrel
      obtain ⟨Rk, hYk, hSk⟩ := hg
      have HU := Lib.hid (And.intro hYk (And.intro hSk (And.intro hu (And.intro hp hr))))
      by_cases hlt : k < 4
      · obtain ⟨s, hs1, hs2, hix⟩ := HP3.out k hlt
        have HDk := Lib.hid (ldir_any hYk hok (by omega) u no s hs2)
        have HOK2 := Lib.hid (hok.dirF u no s)
        have HDr := Lib.hid (show Y1.dirsF u no partNs = if (Z.dirF u no s).2.2 ≠ 0 then ((Z.dirF u no s).1, (Z.dirF u no s).2.2) else (Z.dirF u no s).1.dirsF u no (partNs.drop (k + 1)) by rw [hd, hs1]; rfl)
        generalize Z.dirF u no s = r at HDk HOK2 HDr
        obtain ⟨Z2, n2, e2⟩ := r
        dsimp only at HDk HOK2 HDr
        obtain ⟨uc, uf, uz⟩ := hu.facts
        clear hYk hSk hu hp hr hd hok hs1
        go_wp2_with fail
        refine HDk.out.mono ?_
        rintro e w2 ⟨rfl, R2, hY2, hS2⟩
        obtain ⟨hYk, hSk, hu, hp, hr⟩ := HU.out
        have hu2 := hu.sy hYk hS2 (by decide) (by decide)
        have hp2 := hp.sy hYk hS2 (by decide) (by decide)
        have hr2 := hr.sy hYk hS2 (by decide) (by decide)
        have HG2 := Lib.hid (show Goes w w2 pf pw R pv Z2 from ⟨R2, hY2, hSk.trans hS2⟩)
        have HB2 := Lib.hid (And.intro hu2 (And.intro hp2 hr2))
        obtain ⟨rc, rf, rz⟩ := hr2.facts
        clear hYk hSk hu hp hr hu2 hp2 hr2 hY2 hS2 uc uf uz hix
        by_cases h2 : e2 = 0
        · have h2b : (e2 != 0) = false := by simpa using h2
          have HD2 := Lib.hid (HDr.out.trans (if_neg (by simpa using h2)))
          subst h2
          clear rc rf rz
          go_wp2_with fail
          go_roundw
          case measure => simp [intOf]; omega
          case rel => exact ⟨k + 1, Z2, by omega, by go_num, HD2.out, HOK2.out, HG2.out, HB2.out.1, HB2.out.2.1, HB2.out.2.2⟩
        · have h2b : (e2 != 0) = true := by simpa using h2
          have HD2 := Lib.hid (HDr.out.trans (if_pos h2))
          have HE2 := Lib.hid (HE.out.trans (if_pos (by rw [HD2.out]; exact h2)))
          clear h2
          go_wp2_with (exact bodyPost_ret (lready_results (x := cn0) (e := e2) HB2.out.2.2.set7 rfl rfl) rfl ⟨by rw [HE2.out, HD2.out], by rw [HE2.out, HD2.out]; exact HG2.out.set7 HB2.out.2.2 (by omega) _ _ _ _ _ _ _⟩)
      · obtain rfl : k = 4 := by omega
        have hd4 : Y1.dirsF u no partNs = (Z, 0) := hd
        have HE3 := Lib.hid (show rd = (Z, Z.fs.openF Z.dead u p) by rw [HE.out, hd4]; rfl)
        have hlen : Z.fs.ns.length ≤ 100000 := by
          have h1 := hok.fine.pl.len
          have h2 := hok.fine.ok.lN
          omega
        have HOp := Lib.hid (copen_any hYk hok.fine.ok (by omega) hok.fine.pl hlen u p)
        unfold Cn.v at HOp
        generalize Z.fs.openF Z.dead u p = o at HOp HE3
        obtain ⟨x, e3⟩ := o
        dsimp only at HOp
        obtain ⟨uc, uf, uz⟩ := hu.facts
        obtain ⟨qc, qf, qz⟩ := hp.facts
        clear hYk hSk hu hp hr hd hok hd4 hlen
        go_wp2_with fail
        refine HOp.out.mono ?_
        rintro e w2 ⟨rfl, hb2⟩
        obtain ⟨hYk, hSk, hu, hp, hr⟩ := HU.out
        have hr2 := hr.keep hb2
        have HG2 := Lib.hid (show Goes w w2 pf pw R pv Z from ⟨Rk, hYk.keep hb2, hSk.trans (Stp.of_below hb2)⟩)
        have HB2 := Lib.hid hr2
        obtain ⟨rc, rf, rz⟩ := hr2.facts
        clear hYk hSk hu hp hr hr2 hb2 uc uf uz qc qf qz
        go_wp2_with (exact bodyPost_ret (lready_results (x := x) (e := e3) HB2.out.set7 rfl rfl) rfl ⟨by rw [HE3.out], by rw [HE3.out]; exact HG2.out.set7 HB2.out (by omega) _ _ _ _ _ _ _⟩)
  · have h0b : (e1 != 0) = true := by simpa using h0
    have HE := Lib.hid (HR.out.trans (if_pos h0))
    clear h0
    go_wp2_with (exact bodyPost_ret (lready_results (x := cn0) (e := e1) HB1.out.2.2.set7 rfl rfl) rfl ⟨by rw [HE.out], by rw [HE.out]; exact HG1.out.set7 HB1.out.2.2 (by omega) _ _ _ _ _ _ _⟩)
end

end Go.Proofs.YtihdbncoijhihaaGreat

/- Trees that are to be (layer 22): an item comes. Printed by gen_node.py. -/
namespace Go.Proofs.YtihdbncoijhihaaGreat

open Go.RowKit

section

variable {S : Fs} {it : It} {x : Fd} {e : Int}

theorem node_err (hx : S.path c00 it.path false = (x, e)) (h : e ≠ 0) : nodeF S it = (S, 0) := by unfold nodeF; rw [hx]; simp only; rw [if_pos h]
theorem node_old (hx : S.path c00 it.path false = (x, e)) (h : e = 0) (h0 : x.no ≠ 0) (h1 : it.kind = 1) (h2 : S.kindOf x.no = 1) : nodeF S it = (S, x.no) := by unfold nodeF; rw [hx]; simp only; rw [if_neg (by simp [h]), if_pos h0, if_pos ⟨h1, h2⟩]
theorem node_had (hx : S.path c00 it.path false = (x, e)) (h : e = 0) (h0 : x.no ≠ 0) (h1 : ¬ (it.kind = 1 ∧ S.kindOf x.no = 1)) : nodeF S it = (S, 0) := by unfold nodeF; rw [hx]; simp only; rw [if_neg (by simp [h]), if_pos h0, if_neg h1]
theorem node_new (hx : S.path c00 it.path false = (x, e)) (h : e = 0) (h0 : x.no = 0) : nodeF S it =
    (if it.kind = 1 then ((S.mkdir c00 0 x.dir x.name 493).1, (S.mkdir c00 0 x.dir x.name 493).2.1)
  else if it.kind = 2 then ((S.file c00 0 x.dir x.name 420 it.data).1, (S.file c00 0 x.dir x.name 420 it.data).2.1)
  else if it.kind = 3 then ((S.sym c00 0 x.dir x.name it.data).1, (S.sym c00 0 x.dir x.name it.data).2.1)
  else if it.kind = 4 then
    (if (S.path c00 it.data false).2 = 0 then ((S.hard c00 0 (S.path c00 it.data false).1.no x.dir x.name).1, 0) else (S, 0))
  else (S, 0)) := by unfold nodeF; rw [hx]; simp only; rw [if_neg (by simp [h]), if_neg (by simp [h0])]
theorem stV_cells (S : Fs) (k : Int) : ∃ y0 y1 y2 y3 y4 y5 y6 y7 y8 y9 : Int, stV (S.get k) = .agg #[.int .i64 y0, .int .i64 y1, .int .i64 y2, .int .i64 y3, .int .i64 y4, .int .i64 y5, .int .i64 y6, .int .i64 y7, .int .i64 y8, .int .i64 y9] ∧ y2 = S.kindOf k := by
  unfold Fs.kindOf
  cases S.get k with
  | none => exact ⟨_, _, _, _, _, _, _, _, _, _, rfl, rfl⟩
  | some a => exact ⟨_, _, _, _, _, _, _, _, _, _, rfl, rfl⟩
end

section

variable {w w' : World} {pf pw : Nat} {R : Rp} {pv : Value} {Y : Sy}

set_option maxRecDepth 100000 in
set_option maxHeartbeats 8000000 in
theorem snode_any (h : SyAt w pf pw R pv Y) {N : Nat} (hk : FsOk Y.fs N) (hN : N ≤ 999990) (hc : Calm Y) (hcc : Y.count ≤ 4000000) (it : It) (hp : it.path.size ≤ 100000) (hd : it.data.size ≤ 100000) :
    Calls Tryz.prog 106 #[.pointer (some ⟨pf, 0, none⟩), .agg #[.string it.path, .int .i64 it.kind, .int .i64 it.mode, .int .i64 it.uid, .int .i64 it.gid, .int .i64 it.mtime, .string it.data]] w fun e w' => e = .returned (.int .i64 (nodeF Y.fs it).2) ∧ Became w w' pf pw R pv Y (nodeF Y.fs it).1 1 := by
  have HY := Lib.hid h
  have HK := Lib.hid hk
  have HC := Lib.hid hc
  have HF := Lib.hid (fun w1 (hb1 : Below w.heap.size w w1) => sfind_any (h.keep hb1) hk (by omega) hc.dead c00 it.path hp false)
  have HSz := Lib.hid (path_size hk c00 it.path (by omega) false)
  generalize hx : Y.fs.path c00 it.path false = x at HF HSz
  obtain ⟨⟨xd, xn, xk, xs⟩, xe⟩ := x
  have HPx := Lib.hid hx
  unfold Fd.v at HF
  obtain ⟨y0, y1, y2, y3, y4, y5, y6, y7, y8, y9, hst, hy2⟩ := stV_cells Y.fs xk
  have HSt := Lib.hid (fun w1 (hb1 : Below w.heap.size w w1) => sstat_any (h.keep hb1) hk hc.dead xk)
  rw [hst] at HSt
  have HKo := Lib.hid hy2
  have hI0 := Blk.new w #[.string it.path, .int .i64 it.kind, .int .i64 it.mode, .int .i64 it.uid, .int .i64 it.gid, .int .i64 it.mtime, .string it.data] 116
  have hb0 := balloc (Below.refl w.heap.size w) (.cells #[.string it.path, .int .i64 it.kind, .int .i64 it.mode, .int .i64 it.uid, .int .i64 it.gid, .int .i64 it.mtime, .string it.data] 116)
  clear h hk hc hx hst hy2
  go_enter Tryz.func106, Tryz.ntmps106
  go_wp2_with fail
  refine (HF.out _ hb0).mono ?_
  rintro e w1 ⟨rfl, hb1⟩
  have hIX := (hI0.keep hb1).old (.cells #[.int .i64 xd, .string xn, .int .i64 xk, .bool xs] 118)
  have hXX := Blk.new w1 #[.int .i64 xd, .string xn, .int .i64 xk, .bool xs] 118
  have hbX := balloc (bnext hb0 hb1) (.cells #[.int .i64 xd, .string xn, .int .i64 xk, .bool xs] 118)
  clear hI0 hb0 hb1
  go_upto_region 2 with fail
  generalize w1.alloc (.cells #[.int .i64 xd, .string xn, .int .i64 xk, .bool xs] 118) = X at hIX hXX hbX ⊢
  have HIX := Lib.hid hIX
  have HXX := Lib.hid hXX
  have HBX := Lib.hid hbX
  obtain ⟨xc, xf, xz⟩ := hXX.facts
  clear hIX hXX hbX
  go_wp2_with fail
  refine (HSt.out _ HBX.out).mono ?_
  rintro e w2 ⟨rfl, hb2⟩
  have hI2 := (HIX.out.keep hb2).old (.cells #[.int .i64 y0, .int .i64 y1, .int .i64 y2, .int .i64 y3, .int .i64 y4, .int .i64 y5, .int .i64 y6, .int .i64 y7, .int .i64 y8, .int .i64 y9] 91)
  have hX2 := (HXX.out.keep hb2).old (.cells #[.int .i64 y0, .int .i64 y1, .int .i64 y2, .int .i64 y3, .int .i64 y4, .int .i64 y5, .int .i64 y6, .int .i64 y7, .int .i64 y8, .int .i64 y9] 91)
  have hS2 := Blk.new w2 #[.int .i64 y0, .int .i64 y1, .int .i64 y2, .int .i64 y3, .int .i64 y4, .int .i64 y5, .int .i64 y6, .int .i64 y7, .int .i64 y8, .int .i64 y9] 91
  have hbZ := balloc (bnext HBX.out hb2) (.cells #[.int .i64 y0, .int .i64 y1, .int .i64 y2, .int .i64 y3, .int .i64 y4, .int .i64 y5, .int .i64 y6, .int .i64 y7, .int .i64 y8, .int .i64 y9] 91)
  clear hb2 xc xf xz
  go_upto_region 3 with fail
  generalize w2.alloc (.cells #[.int .i64 y0, .int .i64 y1, .int .i64 y2, .int .i64 y3, .int .i64 y4, .int .i64 y5, .int .i64 y6, .int .i64 y7, .int .i64 y8, .int .i64 y9] 91) = Z at hI2 hX2 hS2 hbZ ⊢
  have HI2 := Lib.hid hI2
  have HX2 := Lib.hid hX2
  have HBZ := Lib.hid hbZ
  have HYZ := Lib.hid (HY.out.keep hbZ)
  obtain ⟨ic, if', iz⟩ := hI2.facts
  obtain ⟨xc, xf, xz⟩ := hX2.facts
  obtain ⟨sc, sf, sz⟩ := hS2.facts
  clear hI2 hX2 hS2 hbZ
  by_cases he : xe = 0
  · have heb : (xe != 0) = false := by simpa using he
    subst he
    by_cases hno : xk = 0
    · have hnb : (xk != 0) = false := by simpa using hno
      have HN := Lib.hid (node_new HPx.out rfl hno)
      dsimp only at HN
      clear hno
      by_cases k1 : it.kind = 1
      · have k1b : (it.kind == 1) = true := by simpa using k1
        have HQ := Lib.hid k1
        clear k1
        have HE := Lib.hid (HN.out.trans (if_pos HQ.out))
        have HM := Lib.hid (smkdir_any HYZ.out HK.out (by omega) ⟨HC.out.c0, by omega⟩ (by rw [HC.out.plan]; exact Nat.zero_le _) c00 xd xn 493 (by have h9 : xn.size ≤ 1048576 := HSz.out; omega))
        rw [HC.out.op] at HM
        dsimp only at HM
        go_wp2_with fail
        refine HM.out.mono ?_
        rintro e w5 ⟨rfl, R5, hY5, hS5⟩
        have HX := Lib.hid (And.intro hY5 ((Stp.of_below (F := R.Y pf pw) HBZ.out).trans hS5))
        clear hY5 hS5
        go_wp2_with fail
        go_ret
        rw [HE.out]
        exact ⟨rfl, R5, _, HX.out.1, rfl, HC.out.next _, by show Y.count + 1 ≤ _; omega, HX.out.2⟩
      have k1b : (it.kind == 1) = false := by simpa using k1
      have HN1 := Lib.hid (HN.out.trans (if_neg k1))
      clear k1 HN
      by_cases k2 : it.kind = 2
      · have k2b : (it.kind == 2) = true := by simpa using k2
        have HQ := Lib.hid k2
        clear k2
        have HE := Lib.hid (HN1.out.trans (if_pos HQ.out))
        have HM := Lib.hid (screate_any HYZ.out HK.out (by omega) ⟨HC.out.c0, by omega⟩ (by rw [HC.out.plan]; exact Nat.zero_le _) c00 xd xn 420 it.data (by have h9 : xn.size ≤ 1048576 := HSz.out; omega) (by omega))
        rw [HC.out.op] at HM
        dsimp only at HM
        go_wp2_with fail
        refine HM.out.mono ?_
        rintro e w5 ⟨rfl, R5, hY5, hS5⟩
        have HX := Lib.hid (And.intro hY5 ((Stp.of_below (F := R.Y pf pw) HBZ.out).trans hS5))
        clear hY5 hS5
        go_wp2_with fail
        go_ret
        rw [HE.out]
        exact ⟨rfl, R5, _, HX.out.1, rfl, HC.out.next _, by show Y.count + 1 ≤ _; omega, HX.out.2⟩
      have k2b : (it.kind == 2) = false := by simpa using k2
      have HN2 := Lib.hid (HN1.out.trans (if_neg k2))
      clear k2 HN1
      by_cases k3 : it.kind = 3
      · have k3b : (it.kind == 3) = true := by simpa using k3
        have HQ := Lib.hid k3
        clear k3
        have HE := Lib.hid (HN2.out.trans (if_pos HQ.out))
        have HM := Lib.hid (ssym_any HYZ.out HK.out (by omega) ⟨HC.out.c0, by omega⟩ (by rw [HC.out.plan]; exact Nat.zero_le _) c00 xd xn it.data (by have h9 : xn.size ≤ 1048576 := HSz.out; omega) (by omega))
        rw [HC.out.op] at HM
        dsimp only at HM
        go_wp2_with fail
        refine HM.out.mono ?_
        rintro e w5 ⟨rfl, R5, hY5, hS5⟩
        have HX := Lib.hid (And.intro hY5 ((Stp.of_below (F := R.Y pf pw) HBZ.out).trans hS5))
        clear hY5 hS5
        go_wp2_with fail
        go_ret
        rw [HE.out]
        exact ⟨rfl, R5, _, HX.out.1, rfl, HC.out.next _, by show Y.count + 1 ≤ _; omega, HX.out.2⟩
      have k3b : (it.kind == 3) = false := by simpa using k3
      have HN3 := Lib.hid (HN2.out.trans (if_neg k3))
      clear k3 HN2
      by_cases k4 : it.kind = 4
      · have k4b : (it.kind == 4) = true := by simpa using k4
        have HN4 := Lib.hid (HN3.out.trans (if_pos k4))
        have HF2 := Lib.hid (sfind_any HYZ.out HK.out (by omega) HC.out.dead c00 it.data hd false)
        generalize Y.fs.path c00 it.data false = y at HF2 HN4
        obtain ⟨⟨yd, yn, yk, ys⟩, ye⟩ := y
        unfold Fd.v at HF2
        dsimp only at HN4
        clear k4 HN3
        go_wp2_with fail
        refine HF2.out.mono ?_
        rintro e w3 ⟨rfl, hb3⟩
        have hX3 := (HX2.out.keep hb3).old (.cells #[.int .i64 yd, .string yn, .int .i64 yk, .bool ys] 118)
        have hV3 := Blk.new w3 #[.int .i64 yd, .string yn, .int .i64 yk, .bool ys] 118
        have hbV := balloc (bnext HBZ.out hb3) (.cells #[.int .i64 yd, .string yn, .int .i64 yk, .bool ys] 118)
        clear hb3 ic if' iz xc xf xz sc sf sz
        go_upto_region 19 with fail
        generalize w3.alloc (.cells #[.int .i64 yd, .string yn, .int .i64 yk, .bool ys] 118) = V at hX3 hV3 hbV ⊢
        have HBV := Lib.hid hbV
        have HYV := Lib.hid (HY.out.keep hbV)
        obtain ⟨xc, xf, xz⟩ := hX3.facts
        obtain ⟨vc, vf, vz⟩ := hV3.facts
        clear hX3 hV3 hbV
        by_cases hye : ye = 0
        · have hyb : (ye == 0) = true := by simpa using hye
          have HE := Lib.hid (HN4.out.trans (if_pos hye))
          have HM := Lib.hid (slink_any HYV.out HK.out (by omega) ⟨HC.out.c0, by omega⟩ (by rw [HC.out.plan]; exact Nat.zero_le _) c00 yk xd xn (by have h9 : xn.size ≤ 1048576 := HSz.out; omega))
          rw [HC.out.opE] at HM
          dsimp only at HM
          clear hye
          go_wp2_with fail
          refine HM.out.mono ?_
          rintro e w5 ⟨rfl, R5, hY5, hS5⟩
          have HX := Lib.hid (And.intro hY5 ((Stp.of_below (F := R.Y pf pw) HBV.out).trans hS5))
          clear hY5 hS5
          go_wp2_with fail
          go_ret
          rw [HE.out]
          exact ⟨rfl, R5, _, HX.out.1, rfl, HC.out.next _, by show Y.count + 1 ≤ _; omega, HX.out.2⟩
        · have hyb : (ye == 0) = false := by simpa using hye
          have HE := Lib.hid (HN4.out.trans (if_neg hye))
          clear hye
          go_wp2_with fail
          go_ret
          rw [HE.out]
          exact ⟨rfl, (Became.same HY.out HC.out HBV.out).mono (by omega)⟩
      have k4b : (it.kind == 4) = false := by simpa using k4
      have HN4 := Lib.hid (HN3.out.trans (if_neg k4))
      clear k4 HN3
      have HE := Lib.hid (HN4.out)
      go_wp2_with fail
      go_ret
      rw [HE.out]
      exact ⟨rfl, (Became.same HY.out HC.out HBZ.out).mono (by omega)⟩
    · have hnb : (xk != 0) = true := by simpa using hno
      by_cases k1 : it.kind = 1
      · have k1b : (it.kind == 1) = true := by simpa using k1
        by_cases k2 : y2 = 1
        · have k2b : (y2 == 1) = true := by simpa using k2
          have HQ := Lib.hid (node_old HPx.out rfl hno k1 (by rw [← HKo.out]; exact k2))
          clear hno k1 k2
          have HE := Lib.hid (HQ.out)
          go_wp2_with fail
          go_ret
          rw [HE.out]
          exact ⟨rfl, (Became.same HY.out HC.out HBZ.out).mono (by omega)⟩
        · have k2b : (y2 == 1) = false := by simpa using k2
          have HQ := Lib.hid (node_had HPx.out rfl hno (fun h => k2 (by rw [HKo.out]; exact h.2)))
          clear hno k1 k2
          have HE := Lib.hid (HQ.out)
          go_wp2_with fail
          go_ret
          rw [HE.out]
          exact ⟨rfl, (Became.same HY.out HC.out HBZ.out).mono (by omega)⟩
      · have k1b : (it.kind == 1) = false := by simpa using k1
        have HQ := Lib.hid (node_had HPx.out rfl hno (fun h => k1 h.1))
        clear hno k1
        have HE := Lib.hid (HQ.out)
        go_wp2_with fail
        go_ret
        rw [HE.out]
        exact ⟨rfl, (Became.same HY.out HC.out HBZ.out).mono (by omega)⟩
  · have heb : (xe != 0) = true := by simpa using he
    have HQ := Lib.hid (node_err HPx.out he)
    clear he
    have HE := Lib.hid (HQ.out)
    go_wp2_with fail
    go_ret
    rw [HE.out]
    exact ⟨rfl, (Became.same HY.out HC.out HBZ.out).mono (by omega)⟩
end

end Go.Proofs.YtihdbncoijhihaaGreat
