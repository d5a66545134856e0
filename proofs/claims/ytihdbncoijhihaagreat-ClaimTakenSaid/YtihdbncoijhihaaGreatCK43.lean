/- Texts of the proof, part 43. -/
import Derived.OrdersHeld
import Derived.Deep.RegionHeld3
import Derived.Test.YtihdbncoijhihaaGreatCK27
import Derived.Test.YtihdbncoijhihaaGreatCK42
import Derived.Test.YtihdbncoijhihaaGreatCK1
import Derived.Test.YtihdbncoijhihaaGreatCK13
import Derived.Test.YtihdbncoijhihaaGreatCK4
set_option linter.unusedVariables false
set_option linter.unusedSimpArgs false
/- Cans are made ready (layer 31): lay.Dir. -/
namespace Go.Proofs.YtihdbncoijhihaaGreat

open Go.RowKit

section

variable {w w' : World} {pf pw : Nat} {R : Rp} {pv : Value} {Y : Sy}

set_option maxRecDepth 100000 in
set_option maxHeartbeats 4000000 in
theorem ldir_any (h : SyAt w pf pw R pv Y) {N : Nat} (hk : SyOk Y N) (hN : N ≤ 900000) (u : Us) (dir : Int) (n : ByteArray) (hn : n.size ≤ 9223372036854775807) :
    Calls Tryz.prog 116 #[.pointer (some ⟨pf, 0, none⟩), .agg #[.int .i64 u.u, .int .i64 u.g, .string u.data], .int .i64 dir, .string n] w fun e w' =>
      e = .returned (.tuple #[.int .i64 (Y.dirF u dir n).2.1, .int .i64 (Y.dirF u dir n).2.2]) ∧ Goes w w' pf pw R pv (Y.dirF u dir n).1 := by
  obtain ⟨u, g, t⟩ := u
  dsimp only
  have hX := Blk.new w #[.int .i64 u, .int .i64 g, .string t] 27
  have hbX := balloc (Below.refl w.heap.size w) (.cells #[.int .i64 u, .int .i64 g, .string t] 27)
  have HC := Lib.hid (ccred_any u g t)
  have HO := Lib.hid (fun w1 (hb1 : Below w.heap.size w w1) => cown_any (h.keep hb1) hk.fine.ok (by omega) u g t dir n)
  have HM := Lib.hid (fun w1 (hb1 : Below w.heap.size w w1) => smkdir_any (h.keep hb1) hk.fine.ok (by omega) ⟨hk.c0, by have := hk.cN; omega⟩ (by have := hk.pl; omega) ⟨u, g⟩ dir n 448 hn)
  have HG := Lib.hid (fun w1 (hb1 : Below w.heap.size w w1) => Goes.of h hb1)
  have HR := Lib.hid (show Y.dirF ⟨u, g, t⟩ dir n = if (Y.fs.ownF Y.dead ⟨u, g⟩ dir n).2 = 0 ∧ (Y.fs.ownF Y.dead ⟨u, g⟩ dir n).1 = 0 then Y.op (fun S now => S.mkdir ⟨u, g⟩ now dir n 448) else (Y, Y.fs.ownF Y.dead ⟨u, g⟩ dir n) from rfl)
  generalize Y.dirF ⟨u, g, t⟩ dir n = rd at HR ⊢
  generalize Y.fs.ownF Y.dead ⟨u, g⟩ dir n = r at HR HO
  generalize Y.op (fun S now => S.mkdir ⟨u, g⟩ now dir n 448) = q at HR HM
  obtain ⟨no, e1⟩ := r
  dsimp only at HR HO
  clear h hk
  go_enter Tryz.func116, Tryz.ntmps116
  go_upto_region 1 with fail
  generalize w.alloc (.cells #[.int .i64 u, .int .i64 g, .string t] 27) = W0 at hX hbX ⊢
  have HX := Lib.hid hX
  have HBX := Lib.hid hbX
  obtain ⟨xc, xf, xz⟩ := hX.facts
  clear hX hbX
  go_wp2_with fail
  refine (HO.out _ HBX.out).mono ?_
  rintro e w1 ⟨rfl, hb1⟩
  have HB1 := Lib.hid (bnext HBX.out hb1)
  have HX1 := Lib.hid (HX.out.keep hb1)
  clear hb1 xc xf xz
  by_cases h0 : e1 = 0
  · by_cases h1 : no = 0
    · have HE := Lib.hid (HR.out.trans (if_pos ⟨h0, h1⟩))
      subst h0 h1
      obtain ⟨xc, xf, xz⟩ := HX1.out.facts
      go_wp2_with fail
      refine (HC.out _).mono ?_
      rintro e w2 ⟨rfl, hb2⟩
      have HB2 := Lib.hid (bnext HB1.out hb2)
      clear hb2 xc xf xz
      go_wp2_with fail
      refine (HM.out _ HB2.out).mono ?_
      rintro e w3 ⟨rfl, R3, hY3, hS3⟩
      have HG3 := Lib.hid (show Goes w w3 pf pw R pv q.1 from ⟨R3, hY3, (Stp.of_below HB2.out).trans hS3⟩)
      clear hY3 hS3
      go_wp2_with fail
      go_ret2
      rw [HE.out]
      exact ⟨rfl, HG3.out⟩
    · have h1b : (no == 0) = false := by simpa using h1
      have HE := Lib.hid (HR.out.trans (if_neg (fun h => h1 h.2)))
      subst h0
      clear h1
      go_wp2_with fail
      go_ret2
      rw [HE.out]
      exact ⟨rfl, HG.out _ HB1.out⟩
  · have h0b : (e1 == 0) = false := by simpa using h0
    have HE := Lib.hid (HR.out.trans (if_neg (fun h => h0 h.1)))
    clear h0
    go_wp2_with fail
    go_ret2
    rw [HE.out]
    exact ⟨rfl, HG.out _ HB1.out⟩
end

end Go.Proofs.YtihdbncoijhihaaGreat

/- Cans are made ready (layer 31): lay.Ready. -/
namespace Go.Proofs.YtihdbncoijhihaaGreat

open Go.RowKit

theorem boxes3 (w : World) (a b c : Array Value) (A B C : TypeId) : Blk (((w.alloc (.cells a A)).alloc (.cells b B)).alloc (.cells c C)) w.heap.size a A ∧ Blk (((w.alloc (.cells a A)).alloc (.cells b B)).alloc (.cells c C)) (w.heap.size + 1) b B ∧ Blk (((w.alloc (.cells a A)).alloc (.cells b B)).alloc (.cells c C)) (w.heap.size + 1 + 1) c C ∧ Below w.heap.size w (((w.alloc (.cells a A)).alloc (.cells b B)).alloc (.cells c C)) := by
  refine ⟨((Blk.new w a A).old _).old _, ?_, ?_, balloc (balloc (balloc (Below.refl w.heap.size w) _) _) _⟩
  · have := (Blk.new (w.alloc (.cells a A)) b B).old (.cells c C)
    rwa [World.size_alloc] at this
  · have := Blk.new ((w.alloc (.cells a A)).alloc (.cells b B)) c C
    rwa [World.size_alloc, World.size_alloc] at this
section

variable {w w' w'' : World} {pf pw : Nat} {R R' : Rp} {pv : Value} {Y Z : Sy}

/-- a can's box aside is filled. -/
theorem Goes.set7 (h : Goes w w' pf pw R pv Z) {B : Nat} {vs : Array Value} (hB : Blk w' B vs 38) (hw : w.heap.size ≤ B) (v0 v1 v2 v3 v4 v5 v6 : Value) :
    Goes w (((((((w'.setCell ⟨B, 0, none⟩ v0).setCell ⟨B, 1, none⟩ v1).setCell ⟨B, 2, none⟩ v2).setCell ⟨B, 3, none⟩ v3).setCell ⟨B, 4, none⟩ v4).setCell ⟨B, 5, none⟩ v5).setCell ⟨B, 6, none⟩ v6) pf pw R pv Z := by
  obtain ⟨R', h1, h2⟩ := h
  have hm : Mod (fun k => k = B) w' (((((((w'.setCell ⟨B, 0, none⟩ v0).setCell ⟨B, 1, none⟩ v1).setCell ⟨B, 2, none⟩ v2).setCell ⟨B, 3, none⟩ v3).setCell ⟨B, 4, none⟩ v4).setCell ⟨B, 5, none⟩ v5).setCell ⟨B, 6, none⟩ v6) :=
    (((((((Mod.refl (fun k => k = B) w').setCell (a := ⟨B, 0, none⟩) (.inl rfl) v0).setCell (a := ⟨B, 1, none⟩) (.inl rfl) v1).setCell (a := ⟨B, 2, none⟩) (.inl rfl) v2).setCell (a := ⟨B, 3, none⟩) (.inl rfl) v3).setCell (a := ⟨B, 4, none⟩) (.inl rfl) v4).setCell (a := ⟨B, 5, none⟩) (.inl rfl) v5).setCell (a := ⟨B, 6, none⟩) (.inl rfl) v6
  exact ⟨R', h1.other hB (by decide) (by decide) (by decide) (by decide) hm, ((((((h2.newCell hw 0 v0).newCell hw 1 v1).newCell hw 2 v2).newCell hw 3 v3).newCell hw 4 v4).newCell hw 5 v5).newCell hw 6 v6⟩
theorem lready_results {tmps : Array Value} {W : World} {B : Nat} {x : Cn} {e : Int} (hb : Blk W B #[.string x.path, .int .i64 x.dir, .int .i64 x.info, .int .i64 x.files, .int .i64 x.out, .int .i64 x.way, .string x.top] 38)
    (h8 : tmps.getD 6 undef = .pointer (some ⟨B, 0, none⟩)) (h9 : tmps.getD 7 undef = .int .i64 e) : (results Tryz.f56 tmps).run Tryz.prog W = .ok (.tuple #[x.v, .int .i64 e]) W := by
  have q0 := hb.cell 0
  have q1 := hb.cell 1
  have q2 := hb.cell 2
  have q3 := hb.cell 3
  have q4 := hb.cell 4
  have q5 := hb.cell 5
  have q6 := hb.cell 6
  rw [Array.getD_eq_getD_getElem?] at h8 h9
  simp [results, Tryz.results56, go_sem, Cn.v, h8, h9, q0, q1, q2, q3, q4, q5, q6]
theorem part_at (k : Nat) (hk : k < 4) : ∃ s, partNs.drop k = s :: partNs.drop (k + 1) ∧ s.size ≤ 9223372036854775807 ∧ ∀ w, (Instr.index 216 (.agg #[.string (ByteArray.mk #[105, 110, 102, 111]), .string (ByteArray.mk #[102, 105, 108, 101, 115]), .string (ByteArray.mk #[101, 120, 112, 117, 110, 103, 101, 100]), .string (ByteArray.mk #[109, 111, 118, 105, 110, 103])]) (.int .i64 k)).run Tryz.prog w = .ok (.string s) w := by
  rcases (by omega : k = 0 ∨ k = 1 ∨ k = 2 ∨ k = 3) with rfl | rfl | rfl | rfl
  · exact ⟨_, rfl, by decide, fun w => (part_idx _ _ _ _ w).1⟩
  · exact ⟨_, rfl, by decide, fun w => (part_idx _ _ _ _ w).2.1⟩
  · exact ⟨_, rfl, by decide, fun w => (part_idx _ _ _ _ w).2.2.1⟩
  · exact ⟨_, rfl, by decide, fun w => (part_idx _ _ _ _ w).2.2.2⟩
set_option maxRecDepth 100000 in
set_option maxHeartbeats 8000000 in
theorem lready_any (h : SyAt w pf pw R pv Y) {N : Nat} (hk : SyOk Y N) (hN : N ≤ 99000) (u : Us) (p : Plc) (hn : p.name.size ≤ 9223372036854775807) :
    Calls Tryz.prog 56 #[.pointer (some ⟨pf, 0, none⟩), .agg #[.int .i64 u.u, .int .i64 u.g, .string u.data], .agg #[.int .i64 p.dir, .string p.name, .string p.top]] w fun e w' =>
      e = .returned (.tuple #[(Y.readyF u p).2.1.v, .int .i64 (Y.readyF u p).2.2]) ∧ Goes w w' pf pw R pv (Y.readyF u p).1 := by
  obtain ⟨hUX, hPX, hRX, hbX⟩ := boxes3 w #[.int .i64 u.u, .int .i64 u.g, .string u.data] #[.int .i64 p.dir, .string p.name, .string p.top] #[.string ⟨#[]⟩, .int .i64 0, .int .i64 0, .int .i64 0, .int .i64 0, .int .i64 0, .string ⟨#[]⟩] 27 131 38
  have hD := fun w1 (hb1 : Below w.heap.size w w1) => ldir_any (h.keep hb1) hk (by omega) u p.dir p.name hn
  have HH := Lib.hid (fun w1 (hb1 : Below w.heap.size w w1) => h.keep hb1)
  have HR := Lib.hid (show Y.readyF u p = if (Y.dirF u p.dir p.name).2.2 ≠ 0 then ((Y.dirF u p.dir p.name).1, cn0, (Y.dirF u p.dir p.name).2.2) else if ((Y.dirF u p.dir p.name).1.dirsF u (Y.dirF u p.dir p.name).2.1 partNs).2 ≠ 0 then (((Y.dirF u p.dir p.name).1.dirsF u (Y.dirF u p.dir p.name).2.1 partNs).1, cn0, ((Y.dirF u p.dir p.name).1.dirsF u (Y.dirF u p.dir p.name).2.1 partNs).2) else (((Y.dirF u p.dir p.name).1.dirsF u (Y.dirF u p.dir p.name).2.1 partNs).1, ((Y.dirF u p.dir p.name).1.dirsF u (Y.dirF u p.dir p.name).2.1 partNs).1.fs.openF ((Y.dirF u p.dir p.name).1.dirsF u (Y.dirF u p.dir p.name).2.1 partNs).1.dead u p) from rfl)
  have HK1 := Lib.hid (hk.dirF u p.dir p.name)
  have HP3 := Lib.hid (part_at)
  generalize Y.readyF u p = rd at HR ⊢
  generalize Y.dirF u p.dir p.name = r at HR HK1 hD
  obtain ⟨Y1, no, e1⟩ := r
  dsimp only at HR HK1 hD
  have HD := Lib.hid hD
  clear h hk hD
  go_enter Tryz.func56, Tryz.ntmps56
  go_upto_region 1 with fail
  generalize ((w.alloc (.cells #[.int .i64 u.u, .int .i64 u.g, .string u.data] 27)).alloc (.cells #[.int .i64 p.dir, .string p.name, .string p.top] 131)).alloc (.cells #[.string ⟨#[]⟩, .int .i64 0, .int .i64 0, .int .i64 0, .int .i64 0, .int .i64 0, .string ⟨#[]⟩] 38) = W0 at hUX hPX hRX hbX ⊢
  have HB0 := Lib.hid hbX
  have HW0 := Lib.hid (And.intro hUX (And.intro hPX hRX))
  obtain ⟨uc, uf, uz⟩ := hUX.facts
  obtain ⟨qc, qf, qz⟩ := hPX.facts
  clear hUX hPX hRX hbX
  go_wp2_with fail
  refine (HD.out _ HB0.out).mono ?_
  rintro e w1 ⟨rfl, R1, hY1, hS1⟩
  have hy0 := HH.out _ HB0.out
  have hU1 := HW0.out.1.sy hy0 hS1 (by decide) (by decide)
  have hP1 := HW0.out.2.1.sy hy0 hS1 (by decide) (by decide)
  have hR1 := HW0.out.2.2.sy hy0 hS1 (by decide) (by decide)
  have HG1 := Lib.hid (show Goes w w1 pf pw R pv Y1 from ⟨R1, hY1, (Stp.of_below HB0.out).trans hS1⟩)
  have HB1 := Lib.hid (And.intro hU1 (And.intro hP1 hR1))
  obtain ⟨rc, rf, rz⟩ := hR1.facts
  clear hy0 hY1 hS1 hU1 hP1 hR1 uc uf uz qc qf qz
  by_cases h0 : e1 = 0
  · have h0b : (e1 != 0) = false := by simpa using h0
    have HE := Lib.hid (HR.out.trans (if_neg (by simpa using h0)))
    subst h0
    clear rc rf rz
    go_wp2_with fail
    go_loopw [29] (fun t29 wr => ∃ (k : Nat) (Z : Sy), k ≤ 4 ∧ t29 = .int .i64 k ∧ Y1.dirsF u no partNs = Z.dirsF u no (partNs.drop k) ∧ SyOk Z (N + 1 + k) ∧ Goes w wr pf pw R pv Z ∧ Blk wr w.heap.size #[.int .i64 u.u, .int .i64 u.g, .string u.data] 27 ∧ Blk wr (w.heap.size + 1) #[.int .i64 p.dir, .string p.name, .string p.top] 131 ∧ Blk wr (w.heap.size + 1 + 1) #[.string ⟨#[]⟩, .int .i64 0, .int .i64 0, .int .i64 0, .int .i64 0, .int .i64 0, .string ⟨#[]⟩] 38) (fun t29 _ => 4 - (intOf t29).toNat)
    case atStart => exact ⟨0, Y1, by omega, rfl, rfl, HK1.out, HG1.out, HB1.out.1, HB1.out.2.1, HB1.out.2.2⟩
    case round =>
      obtain ⟨k, Z, hk, rfl, hd, hok, hg, hu, hp, hr⟩ := hrel
      obtain ⟨Rk, hYk, hSk⟩ := hg
      have HU := Lib.hid (And.intro hYk (And.intro hSk (And.intro hu (And.intro hp hr))))
      by_cases hlt : k < 4
      · obtain ⟨s, hs1, hs2, hix⟩ := HP3.out k hlt
        have HDk := Lib.hid (ldir_any hYk hok (by omega) u no s hs2)
        have HOK2 := Lib.hid (hok.dirF u no s)
        have HDr := Lib.hid (show Y1.dirsF u no partNs = if (Z.dirF u no s).2.2 ≠ 0 then ((Z.dirF u no s).1, (Z.dirF u no s).2.2) else (Z.dirF u no s).1.dirsF u no (partNs.drop (k + 1)) by rw [hd, hs1]; rfl)
        generalize Z.dirF u no s = r at HDk HOK2 HDr
        obtain ⟨Z2, n2, e2⟩ := r
        dsimp only at HDk HOK2 HDr
        obtain ⟨uc, uf, uz⟩ := hu.facts
        clear hYk hSk hu hp hr hd hok hs1
        go_wp2_with fail
        refine HDk.out.mono ?_
        rintro e w2 ⟨rfl, R2, hY2, hS2⟩
        obtain ⟨hYk, hSk, hu, hp, hr⟩ := HU.out
        have hu2 := hu.sy hYk hS2 (by decide) (by decide)
        have hp2 := hp.sy hYk hS2 (by decide) (by decide)
        have hr2 := hr.sy hYk hS2 (by decide) (by decide)
        have HG2 := Lib.hid (show Goes w w2 pf pw R pv Z2 from ⟨R2, hY2, hSk.trans hS2⟩)
        have HB2 := Lib.hid (And.intro hu2 (And.intro hp2 hr2))
        obtain ⟨rc, rf, rz⟩ := hr2.facts
        clear hYk hSk hu hp hr hu2 hp2 hr2 hY2 hS2 uc uf uz hix
        by_cases h2 : e2 = 0
        · have h2b : (e2 != 0) = false := by simpa using h2
          have HD2 := Lib.hid (HDr.out.trans (if_neg (by simpa using h2)))
          subst h2
          clear rc rf rz
          go_wp2_with fail
          go_roundw
          case measure => simp [intOf]; omega
          case rel => exact ⟨k + 1, Z2, by omega, by go_num, HD2.out, HOK2.out, HG2.out, HB2.out.1, HB2.out.2.1, HB2.out.2.2⟩
        · have h2b : (e2 != 0) = true := by simpa using h2
          have HD2 := Lib.hid (HDr.out.trans (if_pos h2))
          have HE2 := Lib.hid (HE.out.trans (if_pos (by rw [HD2.out]; exact h2)))
          clear h2
          go_wp2_with (exact bodyPost_ret (lready_results (x := cn0) (e := e2) HB2.out.2.2.set7 rfl rfl) rfl ⟨by rw [HE2.out, HD2.out], by rw [HE2.out, HD2.out]; exact HG2.out.set7 HB2.out.2.2 (by omega) _ _ _ _ _ _ _⟩)
      · obtain rfl : k = 4 := by omega
        have hd4 : Y1.dirsF u no partNs = (Z, 0) := hd
        have HE3 := Lib.hid (show rd = (Z, Z.fs.openF Z.dead u p) by rw [HE.out, hd4]; rfl)
        have hlen : Z.fs.ns.length ≤ 100000 := by
          have h1 := hok.fine.pl.len
          have h2 := hok.fine.ok.lN
          omega
        have HOp := Lib.hid (copen_any hYk hok.fine.ok (by omega) hok.fine.pl hlen u p)
        unfold Cn.v at HOp
        generalize Z.fs.openF Z.dead u p = o at HOp HE3
        obtain ⟨x, e3⟩ := o
        dsimp only at HOp
        obtain ⟨uc, uf, uz⟩ := hu.facts
        obtain ⟨qc, qf, qz⟩ := hp.facts
        clear hYk hSk hu hp hr hd hok hd4 hlen
        go_wp2_with fail
        refine HOp.out.mono ?_
        rintro e w2 ⟨rfl, hb2⟩
        obtain ⟨hYk, hSk, hu, hp, hr⟩ := HU.out
        have hr2 := hr.keep hb2
        have HG2 := Lib.hid (show Goes w w2 pf pw R pv Z from ⟨Rk, hYk.keep hb2, hSk.trans (Stp.of_below hb2)⟩)
        have HB2 := Lib.hid hr2
        obtain ⟨rc, rf, rz⟩ := hr2.facts
        clear hYk hSk hu hp hr hr2 hb2 uc uf uz qc qf qz
        go_wp2_with (exact bodyPost_ret (lready_results (x := x) (e := e3) HB2.out.set7 rfl rfl) rfl ⟨by rw [HE3.out], by rw [HE3.out]; exact HG2.out.set7 HB2.out (by omega) _ _ _ _ _ _ _⟩)
  · have h0b : (e1 != 0) = true := by simpa using h0
    have HE := Lib.hid (HR.out.trans (if_pos h0))
    clear h0
    go_wp2_with (exact bodyPost_ret (lready_results (x := cn0) (e := e1) HB1.out.2.2.set7 rfl rfl) rfl ⟨by rw [HE.out], by rw [HE.out]; exact HG1.out.set7 HB1.out.2.2 (by omega) _ _ _ _ _ _ _⟩)
end

end Go.Proofs.YtihdbncoijhihaaGreat

/- A region that draws its order, taken by hand: the slot that an operation writes is named. No program in sight. -/
namespace Go.Proofs.YtihdbncoijhihaaGreat

open Go

section

variable {P : Program} {ops : Array Oper} {Q : Exit → Act → World → Prop} {md : Region.Mode} {S : World → Prop}

theorem reg_take (i d : Nat) {oi : Oper} {v : Value} {fuel : Nat} {listed : Array Bool} {tmps : Array Value} {defers : List Deferred} {w : World} (hi : ops[i]? = some oi) (hd : oi.dst = some d)
    (hs : Region.noSelect ops = true) (hf : Region.free md ops listed i = true) (hr : (Region.ready md ops listed).contains i = true)
    (hQ : ∀ c a w, Q (.panic c) (a.put oi.dst v) w → Q (.panic c) a w) (hw : Region.wanted oi (yielded ops tmps) = true) (hy : ∀ w, S w → (execOp (Act.eval { tmps, defers }) oi).run P w = .ok (.value v) w) (hS : S w)
    (h : wpAnyH P md ops Q S fuel (listed.setIfInBounds i true) { tmps := tmps.setIfInBounds d v, defers } w) : wpAnyH P md ops Q S (fuel + 1) listed { tmps, defers } w :=
  wpAnyH_take hi hs hf hr hQ (Or.inl ⟨hw, hy⟩) hS (by rw [hd]; exact h)
/-- a call that comes up alone. -/
theorem reg_call (i d : Nat) {oi : Oper} {fuel : Nat} {listed : Array Bool} {tmps : Array Value} {defers : List Deferred} {w : World} (hr : Region.ready md ops listed = [i]) (hi : ops[i]? = some oi) (hd : oi.dst = some d)
    (hw : Region.wanted oi (yielded ops tmps) = true) {f : FuncId} {args : Array Value} (he : (execOp (Act.eval { tmps, defers }) oi).run P w = .ok (.enter f args) w) {R : Value → World → Prop}
    (hc : Calls P f args w fun e w' => ∃ v, e = .returned v ∧ R v w') (hS : ∀ v w', R v w' → S w')
    (h : ∀ v w', R v w' → wpAnyH P md ops Q S fuel (listed.setIfInBounds i true) { tmps := tmps.setIfInBounds d v, defers } w') : wpAnyH P md ops Q S (fuel + 1) listed { tmps, defers } w := by
  refine wpAnyH_ready hr (by simp) (AllReadyH.cons hi (fun K hK => ?_) AllReadyH.nil)
  rw [if_pos hw]
  unfold Oper.wp
  rw [he]
  refine hc.mono ?_
  rintro e w' ⟨v, rfl, hR⟩
  have := h v w' hR
  refine hK.out _ _ (hS v w' hR) (fun _ => ?_)
  rw [hd]
  exact this
end

end Go.Proofs.YtihdbncoijhihaaGreat

/- A region that draws its order inside a round of a range over a function: by the laws for regions outside. No program in sight. -/
namespace Go.Proofs.YtihdbncoijhihaaGreat

open Go

section

variable {P : Program} {ops : Array Oper} {md : Region.Mode} {l : Nat} {n : Nat} {Q : Exit → Act → World → Prop}

theorem rowsIn_of {row : String} {args : Array Value} {w : World} {R : Value → World → Prop} (h : Rows P row args w R) : RowsIn Fence.wide n P row args w R :=
  fun c cs _ => let ⟨v, w', r, s⟩ := h c cs; ⟨v, w', r, stepsIn_wide.2 s⟩
theorem operIn_of {o : Oper} (hd : ∀ c, o.op ≠ .defer c) {a : Act} {w : World} {K K' : Act → World → Prop} (hK : ∀ a w, K a w → K' a w) (h : o.wp P a w K Q) : o.wpIn (Fence.wide.inRound l) n P a w K' Q := by
  unfold Oper.wp at h
  unfold Oper.wpIn
  refine ⟨fun _ _ => trivial, ?_⟩
  rw [Fence.inRound_round, Oper.semAt_some l _ o hd]
  generalize (execOp a.eval o).run P w = r at *
  cases r with
  | ok m w' =>
    cases m with
    | value v => exact hK _ _ h
    | skip => exact hK _ _ h
    | defer d => exact hK _ _ h
    | enter f args =>
      refine ⟨fun h => by simp [Fence.wide] at h, ?_⟩
      refine CallsIn.inRound l (callsIn_wide.2 (Calls.mono h fun e w'' he => ?_))
      cases e with
      | returned v => exact hK _ _ he
      | panicked c => exact he
      | outgrown => exact he
    | row row args =>
      refine ⟨fun h => by simp [Fence.wide] at h, ?_⟩
      exact (rowsIn_of h).mono fun v w'' hv => hK _ _ hv
    | _ => exact h.elim
  | halt x w' =>
    cases x with
    | panic v => exact h
    | _ => exact h.elim
theorem anyIn_of (hd : noDefer ops = true) (hno : ¬ LetsOut Q) : ∀ (fuel : Nat) (listed : Array Bool) (a : Act) (w : World), wpAny P md ops Q fuel listed a w → wpAnyIn (Fence.wide.inRound l) n P md ops Q fuel listed a w
  | 0, _, _, _, h => h
  | fuel + 1, listed, a, w, h => by
    refine ⟨h.1, fun i hi => ?_⟩
    have h2 := h.2 i hi
    unfold wpOp at h2
    unfold wpOpIn
    cases ho : ops[i]? with
    | none => rw [ho] at h2; exact anyIn_of hd hno fuel _ _ _ h2
    | some o =>
      rw [ho] at h2
      simp only at h2 ⊢
      split
      · rename_i hw
        rw [if_pos hw] at h2
        rcases h2 with h2 | ⟨-, h2⟩
        · exact operIn_of (noDefer_spec hd ho) (fun a w h => anyIn_of hd hno fuel _ a w h) h2
        · exact absurd h2 hno
      · rename_i hw
        rw [if_neg hw] at h2
        exact ⟨fun _ _ => trivial, anyIn_of hd hno fuel _ _ _ h2⟩
/-- such a region, S being kept. -/
theorem wpIn_region_held_round {S : World → Prop} {id : Nat} {a : Act} {w : World} (hm : P.follows .mixedOrders = true) (hd : noDefer ops = true) (hno : ¬ LetsOut Q) (hS : S w.drew)
    (h : S w.drew → wpAnyH P .any ops Q S ops.size (Array.replicate ops.size false) a w.drew) : (Code.region id ops true).wpIn (Fence.wide.inRound l) n P Q a w :=
  wpIn_region_any hm (anyIn_of hd hno _ _ _ _ (wpAny_of_held _ _ _ _ (h hS)))
section

variable {S : World → Prop} {oi : Oper} {fuel : Nat} {listed : Array Bool} {tmps : Array Value} {defers : List Deferred} {w W : World} {v : Value}

/-- an operation that comes up alone, whose run is known. -/
theorem reg_alone (i d : Nat) (hr : Region.ready md ops listed = [i]) (hi : ops[i]? = some oi) (hd : oi.dst = some d) (hw : Region.wanted oi (yielded ops tmps) = true)
    (he : (execOp (Act.eval { tmps, defers }) oi).run P w = .ok (.value v) W) (hS : S W) (h : wpAnyH P md ops Q S fuel (listed.setIfInBounds i true) { tmps := tmps.setIfInBounds d v, defers } W) : wpAnyH P md ops Q S (fuel + 1) listed { tmps, defers } w := by
  refine wpAnyH_ready hr (by simp) (AllReadyH.cons hi (fun K hK => ?_) AllReadyH.nil)
  rw [if_pos hw]
  unfold Oper.wp
  rw [he]
  refine hK.out _ _ hS (fun _ => ?_)
  rw [hd]
  exact h
/-- a store that comes up alone. -/
theorem reg_store (i : Nat) (hr : Region.ready md ops listed = [i]) (hi : ops[i]? = some oi) (hd : oi.dst = none) (hw : Region.wanted oi (yielded ops tmps) = true)
    (he : (execOp (Act.eval { tmps, defers }) oi).run P w = .ok (.skip) W) (hS : S W) (h : wpAnyH P md ops Q S fuel (listed.setIfInBounds i true) { tmps, defers } W) : wpAnyH P md ops Q S (fuel + 1) listed { tmps, defers } w := by
  refine wpAnyH_ready hr (by simp) (AllReadyH.cons hi (fun K hK => ?_) AllReadyH.nil)
  rw [if_pos hw]
  unfold Oper.wp
  rw [he]
  refine hK.out _ _ hS (fun _ => ?_)
  rw [hd]
  exact h
end

end

end Go.Proofs.YtihdbncoijhihaaGreat

/- A region that draws its order, taken by hand, on: a make beside a call; S made stronger on the way. No program in sight. -/
namespace Go.Proofs.YtihdbncoijhihaaGreat

open Go

section

variable {P : Program} {ops : Array Oper} {Q : Exit → Act → World → Prop} {md : Region.Mode} {S : World → Prop}

end

end Go.Proofs.YtihdbncoijhihaaGreat
