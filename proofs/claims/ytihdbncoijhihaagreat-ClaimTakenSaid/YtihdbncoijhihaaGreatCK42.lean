/- Texts of the proof, part 42. -/
import Derived.Test.YtihdbncoijhihaaGreatCK41
import Derived.Test.YtihdbncoijhihaaGreatCK7
import Derived.Test.YtihdbncoijhihaaGreatCK39
import Derived.Test.YtihdbncoijhihaaGreatCK18
import Derived.Test.YtihdbncoijhihaaGreatCK36
set_option linter.unusedVariables false
set_option linter.unusedSimpArgs false
/- Trash cans (layer 30): rows of cans; has, Open. -/
namespace Go.Proofs.YtihdbncoijhihaaGreat

open Go.RowKit

/-- a thing of a slice, cell by cell. -/
theorem slice_row {α : Type} {enc : α → List Value} {w : World} {sz n c : Nat} {a : Option Addr} {l : List α} (hl : ∀ x, (enc x).length = sz) (h : SliceAt w sz (fun cs x => cs = enc x) a n c l) (k : Nat) (hk : k < l.length) :
    ∃ b off, a = some ⟨b, off, none⟩ ∧ b < w.heap.size ∧ ∀ j (hj : j < sz), w.cell? ⟨b, off + k * sz + j, none⟩ = some ((enc l[k])[j]'(by rw [hl]; exact hj)) := by
  obtain ⟨h1, -, -, h0 | ⟨b, off, he, hb, hel⟩⟩ := h
  · omega
  · obtain ⟨cs, k1, k2, k3⟩ := hel k hk
    subst k2
    exact ⟨b, off, he, hb, fun j hj => k3 j (by rw [hl]; exact hj)⟩
def cnC (x : Cn) : List Value := [.string x.path, .int .i64 x.dir, .int .i64 x.info, .int .i64 x.files, .int .i64 x.out, .int .i64 x.way, .string x.top]
def cnQ (cs : List Value) (x : Cn) : Prop := cs = cnC x
def Cn.v (x : Cn) : Value := .agg #[.string x.path, .int .i64 x.dir, .int .i64 x.info, .int .i64 x.files, .int .i64 x.out, .int .i64 x.way, .string x.top]
/-- cans of the call's own. -/
def OCn (w : World) (base : Nat) (v : Value) (l : List Cn) : Prop := w.ownsRow base 38 7 v l.length (l.flatMap cnC)
set_option maxHeartbeats 4000000 in
theorem Blk.set7 {w : World} {B : Nat} {x0 x1 x2 x3 x4 x5 x6 v0 v1 v2 v3 v4 v5 v6 : Value} {T : TypeId} (h : Blk w B #[x0, x1, x2, x3, x4, x5, x6] T) : Blk (((((((w.setCell ⟨B, 0, none⟩ v0).setCell ⟨B, 1, none⟩ v1).setCell ⟨B, 2, none⟩ v2).setCell ⟨B, 3, none⟩ v3).setCell ⟨B, 4, none⟩ v4).setCell ⟨B, 5, none⟩ v5).setCell ⟨B, 6, none⟩ v6) B #[v0, v1, v2, v3, v4, v5, v6] T :=
  ((((((h.set 0 v0).set 1 v1).set 2 v2).set 3 v3).set 4 v4).set 5 v5).set 6 v6
theorem below_set7 {N : Nat} {w0 w : World} {B : Nat} {v0 v1 v2 v3 v4 v5 v6 : Value} (h : Below N w0 w) (hB : N ≤ B) : Below N w0 (((((((w.setCell ⟨B, 0, none⟩ v0).setCell ⟨B, 1, none⟩ v1).setCell ⟨B, 2, none⟩ v2).setCell ⟨B, 3, none⟩ v3).setCell ⟨B, 4, none⟩ v4).setCell ⟨B, 5, none⟩ v5).setCell ⟨B, 6, none⟩ v6) :=
  ((((((h.setCell hB v0).setCell hB v1).setCell hB v2).setCell hB v3).setCell hB v4).setCell hB v5).setCell hB v6
set_option maxRecDepth 100000 in
set_option maxHeartbeats 1000000 in
theorem copen_results {tmps : Array Value} {W : World} {B : Nat} {x : Cn} {e : Int} (hb : Blk W B #[.string x.path, .int .i64 x.dir, .int .i64 x.info, .int .i64 x.files, .int .i64 x.out, .int .i64 x.way, .string x.top] 38)
    (h8 : tmps.getD 6 undef = .pointer (some ⟨B, 0, none⟩)) (h9 : tmps.getD 7 undef = .int .i64 e) : (results Tryz.f90 tmps).run Tryz.prog W = .ok (.tuple #[x.v, .int .i64 e]) W := by
  have q0 := hb.cell 0
  have q1 := hb.cell 1
  have q2 := hb.cell 2
  have q3 := hb.cell 3
  have q4 := hb.cell 4
  have q5 := hb.cell 5
  have q6 := hb.cell 6
  rw [Array.getD_eq_getD_getElem?] at h8 h9
  simp [results, Tryz.results90, go_sem, Cn.v, h8, h9, q0, q1, q2, q3, q4, q5, q6]
theorem part_idx (s0 s1 s2 s3 : ByteArray) (w : World) : (Instr.index 216 (.agg #[.string s0, .string s1, .string s2, .string s3]) (.int .i64 0)).run Tryz.prog w = .ok (.string s0) w ∧ (Instr.index 216 (.agg #[.string s0, .string s1, .string s2, .string s3]) (.int .i64 1)).run Tryz.prog w = .ok (.string s1) w ∧
    (Instr.index 216 (.agg #[.string s0, .string s1, .string s2, .string s3]) (.int .i64 2)).run Tryz.prog w = .ok (.string s2) w ∧ (Instr.index 216 (.agg #[.string s0, .string s1, .string s2, .string s3]) (.int .i64 3)).run Tryz.prog w = .ok (.string s3) w := by
  refine ⟨?_, ?_, ?_, ?_⟩ <;> first | kernel_rfl | rfl
/-- between two parts: what is known, and what is left. -/
inductive OpSt (S : Fs) (d : Bool) (c : Cr) (dir : Int) (top : ByteArray) (rd : Cn × Int) : Value → Value → Value → Value → Value → Prop
  | s0 : rd = S.openK4 d c dir top → OpSt S d c dir top rd (.int .i64 0) (.int .i64 0) (.int .i64 0) (.int .i64 0) (.int .i64 0)
  | s1 (i : Int) : rd = S.openK3 d c dir top i → OpSt S d c dir top rd (.int .i64 1) (.int .i64 i) (.int .i64 0) (.int .i64 0) (.int .i64 0)
  | s2 (i f : Int) : rd = S.openK2 d c dir top i f → OpSt S d c dir top rd (.int .i64 2) (.int .i64 i) (.int .i64 f) (.int .i64 0) (.int .i64 0)
  | s3 (i f o : Int) : rd = S.openK1 d c dir top i f o → OpSt S d c dir top rd (.int .i64 3) (.int .i64 i) (.int .i64 f) (.int .i64 o) (.int .i64 0)
  | s4 (i f o y : Int) : rd = S.openK0 dir top i f o y → OpSt S d c dir top rd (.int .i64 4) (.int .i64 i) (.int .i64 f) (.int .i64 o) (.int .i64 y)
section

variable {w w' : World} {pf pw : Nat} {R : Rp} {pv : Value} {Y : Sy}

set_option maxRecDepth 100000 in
set_option maxHeartbeats 8000000 in
theorem copen_any (h : SyAt w pf pw R pv Y) {N : Nat} (hk : FsOk Y.fs N) (hN : N ≤ 999999) (hp : Pl Y.fs) (hl : Y.fs.ns.length ≤ 100000) (u : Us) (p : Plc) :
    Calls Tryz.prog 90 #[.pointer (some ⟨pf, 0, none⟩), .agg #[.int .i64 u.u, .int .i64 u.g, .string u.data], .agg #[.int .i64 p.dir, .string p.name, .string p.top]] w fun e w' => e = .returned (.tuple #[(Y.fs.openF Y.dead u p).1.v, .int .i64 (Y.fs.openF Y.dead u p).2]) ∧ Below w.heap.size w w' := by
  have HO := Lib.hid (fun w1 (hb1 : Below w.heap.size w w1) dir n => cown_any (h.keep hb1) hk hN u.u u.g u.data dir n)
  have HWh := Lib.hid (fun w1 (hb1 : Below w.heap.size w w1) d => wwhere_any (h.wd.keep hb1) hk hp hl d)
  obtain ⟨pc, -, pz⟩ := h.blk.facts
  have HPC := Lib.hid (fun w1 (hb1 : Below w.heap.size w w1) => show w1.cell? ⟨pf, 0, none⟩ = some (.pointer (some ⟨pw, 0, none⟩)) from (hb1.cell (p := ⟨pf, 0, none⟩) pz).trans (pc 0))
  obtain ⟨S, hS⟩ : ∃ S, Y.fs = S := ⟨_, rfl⟩
  obtain ⟨b, hd⟩ : ∃ b, Y.dead = b := ⟨_, rfl⟩
  rw [hS, hd] at HO
  rw [hS] at HWh
  rw [hS, hd]
  have HR := Lib.hid (show S.openF b u p = if (thereV (S.ownF b ⟨u.u, u.g⟩ p.dir p.name)).2 ≠ 0 then (cn0, (thereV (S.ownF b ⟨u.u, u.g⟩ p.dir p.name)).2) else S.openK4 b ⟨u.u, u.g⟩ (thereV (S.ownF b ⟨u.u, u.g⟩ p.dir p.name)).1 p.top from rfl)
  generalize S.openF b u p = rd at HR ⊢
  have hUX := ((Blk.new w #[.int .i64 u.u, .int .i64 u.g, .string u.data] 27).old (.cells #[.int .i64 p.dir, .string p.name, .string p.top] 131)).old (.cells #[.string ⟨#[]⟩, .int .i64 0, .int .i64 0, .int .i64 0, .int .i64 0, .int .i64 0, .string ⟨#[]⟩] 38)
  have hPX : Blk (((w.alloc (.cells #[.int .i64 u.u, .int .i64 u.g, .string u.data] 27)).alloc (.cells #[.int .i64 p.dir, .string p.name, .string p.top] 131)).alloc (.cells #[.string ⟨#[]⟩, .int .i64 0, .int .i64 0, .int .i64 0, .int .i64 0, .int .i64 0, .string ⟨#[]⟩] 38)) (w.heap.size + 1) #[.int .i64 p.dir, .string p.name, .string p.top] 131 := by
    have := (Blk.new (w.alloc (.cells #[.int .i64 u.u, .int .i64 u.g, .string u.data] 27)) #[.int .i64 p.dir, .string p.name, .string p.top] 131).old (.cells #[.string ⟨#[]⟩, .int .i64 0, .int .i64 0, .int .i64 0, .int .i64 0, .int .i64 0, .string ⟨#[]⟩] 38)
    rwa [World.size_alloc] at this
  have hRX : Blk (((w.alloc (.cells #[.int .i64 u.u, .int .i64 u.g, .string u.data] 27)).alloc (.cells #[.int .i64 p.dir, .string p.name, .string p.top] 131)).alloc (.cells #[.string ⟨#[]⟩, .int .i64 0, .int .i64 0, .int .i64 0, .int .i64 0, .int .i64 0, .string ⟨#[]⟩] 38)) (w.heap.size + 1 + 1) #[.string ⟨#[]⟩, .int .i64 0, .int .i64 0, .int .i64 0, .int .i64 0, .int .i64 0, .string ⟨#[]⟩] 38 := by
    have := Blk.new ((w.alloc (.cells #[.int .i64 u.u, .int .i64 u.g, .string u.data] 27)).alloc (.cells #[.int .i64 p.dir, .string p.name, .string p.top] 131)) #[.string ⟨#[]⟩, .int .i64 0, .int .i64 0, .int .i64 0, .int .i64 0, .int .i64 0, .string ⟨#[]⟩] 38
    rwa [World.size_alloc, World.size_alloc] at this
  have hbX := balloc (balloc (balloc (Below.refl w.heap.size w) (.cells #[.int .i64 u.u, .int .i64 u.g, .string u.data] 27)) (.cells #[.int .i64 p.dir, .string p.name, .string p.top] 131)) (.cells #[.string ⟨#[]⟩, .int .i64 0, .int .i64 0, .int .i64 0, .int .i64 0, .int .i64 0, .string ⟨#[]⟩] 38)
  clear h hk hS hd pc pz hp hl
  go_enter Tryz.func90, Tryz.ntmps90
  go_upto_region 1 with fail
  generalize ((w.alloc (.cells #[.int .i64 u.u, .int .i64 u.g, .string u.data] 27)).alloc (.cells #[.int .i64 p.dir, .string p.name, .string p.top] 131)).alloc (.cells #[.string ⟨#[]⟩, .int .i64 0, .int .i64 0, .int .i64 0, .int .i64 0, .int .i64 0, .string ⟨#[]⟩] 38) = W0 at hUX hPX hRX hbX ⊢
  have HB0 := Lib.hid hbX
  have HU0 := Lib.hid hUX
  have HP0 := Lib.hid hPX
  have HR0 := Lib.hid hRX
  obtain ⟨uc, uf, uz⟩ := hUX.facts
  obtain ⟨qc, qf, qz⟩ := hPX.facts
  clear hUX hPX hRX hbX
  have HO1 := Lib.hid (HO.out _ HB0.out p.dir p.name)
  generalize S.ownF b ⟨u.u, u.g⟩ p.dir p.name = r at HO1 HR
  obtain ⟨no, e1⟩ := r
  dsimp only at HO1
  go_wp2_with fail
  refine HO1.out.mono ?_
  rintro e w1 ⟨rfl, hb1⟩
  have HB1 := Lib.hid (bnext HB0.out hb1)
  have HU1 := Lib.hid (HU0.out.keep hb1)
  have HP1 := Lib.hid (HP0.out.keep hb1)
  have HR1 := Lib.hid (HR0.out.keep hb1)
  have hwz := HB0.out.size
  obtain ⟨rc, rf, rz⟩ := HR1.out.facts
  clear hb1 uc uf uz qc qf qz
  by_cases h0 : e1 = 0
  · subst h0
    by_cases hn : no = 0
    · subst hn
      have HE := Lib.hid (show rd = (cn0, 5) by rw [HR.out, thereV_z]; rfl)
      go_wp2_with (exact bodyPost_ret (copen_results (x := cn0) (e := 5) HR1.out.set7 rfl rfl) rfl ⟨by rw [HE.out], below_set7 HB1.out (by omega)⟩)
    · have hn' : (no == 0) = false := by simpa using hn
      have HE := Lib.hid (show rd = S.openK4 b ⟨u.u, u.g⟩ no p.top by rw [HR.out, thereV_0 hn, if_neg (by simp)])
      clear HR HO1
      go_upto_region 7 with fail
      have hAX := Blk.new w1 #[.int .i64 0, .int .i64 0, .int .i64 0, .int .i64 0] 252
      have hbA := balloc (Below.refl w1.heap.size w1) (.cells #[.int .i64 0, .int .i64 0, .int .i64 0, .int .i64 0] 252)
      generalize w1.alloc (.cells #[.int .i64 0, .int .i64 0, .int .i64 0, .int .i64 0] 252) = W2 at hAX hbA ⊢
      have HA := Lib.hid (And.intro hAX hbA)
      have hne1 : w.heap.size + 1 + 1 ≠ w1.heap.size := by
        have := HR1.out.lt
        omega
      clear hAX hbA rc rf rz hwz
      go_wp2_with fail
      go_loopw [36] (fun t36 wr => ∃ v0 v1 v2 v3, OpSt S b ⟨u.u, u.g⟩ no p.top rd t36 v0 v1 v2 v3 ∧ Blk wr w1.heap.size #[v0, v1, v2, v3] 252 ∧ Below w1.heap.size w1 wr) (fun t36 _ => 4 - (intOf t36).toNat)
      case atStart => exact ⟨_, _, _, _, .s0 HE.out, HA.out.1, HA.out.2⟩
      case round =>
        obtain ⟨v0, v1, v2, v3, hst, hba, hbr⟩ := hrel
        have HAr := Lib.hid hba
        have HBr := Lib.hid hbr
        have HBW := Lib.hid (HB1.out.trans (hbr.mono HB1.out.size))
        have hU := HU1.out.keepB hbr HU1.out.lt
        have hP := HP1.out.keepB hbr HP1.out.lt
        have hR := HR1.out.keepB hbr HR1.out.lt
        have HRr := Lib.hid hR
        have HPr := Lib.hid hP
        obtain ⟨uc, uf, uz⟩ := hU.facts
        obtain ⟨ac, af, az⟩ := hba.facts
        clear hba hbr hU hP hR
        cases hst with
        | s0 hE =>
          have HE1 := Lib.hid hE
          have HOk := Lib.hid (HO.out _ HBW.out no nInfo)
          have hix := fun w => (part_idx nInfo nFiles nOut nWay w).1
          unfold Fs.openK4 at HE1
          generalize S.ownF b ⟨u.u, u.g⟩ no nInfo = r at HOk HE1
          obtain ⟨n1, e1⟩ := r
          dsimp only at HOk HE1
          unfold nInfo nFiles nOut nWay at hix
          unfold nInfo at HOk
          clear hE
          go_wp2_with fail
          refine HOk.out.mono ?_
          rintro e w2 ⟨rfl, hb2⟩
          have hA2 := HAr.out.keep hb2
          have hR2 := HRr.out.keep hb2
          have hB2 := bnext HBr.out hb2
          have HA2 := Lib.hid hA2
          have HB2 := Lib.hid hB2
          have HR3 := Lib.hid (hR2.setOther ⟨w1.heap.size, 0, none⟩ (.int .i64 n1) hne1.symm)
          have HB3 := Lib.hid (show Below w1.heap.size w1 (w2.setCell ⟨w1.heap.size, 0, none⟩ (.int .i64 n1)) from hB2.setCell (Nat.le_refl _) _)
          obtain ⟨ac, af, az⟩ := hA2.facts
          obtain ⟨rc, rf, rz⟩ := hR2.facts
          clear hb2 hA2 hR2 hB2 uc uf uz
          by_cases h0 : e1 = 0
          · subst h0
            by_cases hn1 : n1 = 0
            · subst hn1
              have HE2 := Lib.hid (show rd = (cn0, 5) by rw [HE1.out, thereV_z]; rfl)
              go_wp2_with (exact bodyPost_ret (copen_results (x := cn0) (e := 5) HR3.out.set7 rfl rfl) rfl ⟨by rw [HE2.out], below_set7 (HB1.out.trans (HB3.out.mono HB1.out.size)) (by omega)⟩)
            · have hn1' : (n1 == 0) = false := by simpa using hn1
              have HE2 := Lib.hid (show rd = S.openK3 b ⟨u.u, u.g⟩ no p.top n1 by rw [HE1.out, thereV_0 hn1, if_neg (by simp)])
              clear HE1 hn1
              go_wp2_with fail
              go_roundw
              case measure => simp [intOf]
              case rel => exact ⟨_, _, _, _, .s1 n1 HE2.out, HA2.out.set 0 _, HB3.out⟩
          · have h0' : (e1 == 0) = false := by simpa using h0
            have h0'' : (e1 != 0) = true := by simpa using h0
            have HE2 := Lib.hid (show rd = (cn0, e1) by rw [HE1.out, thereV_e n1 h0, if_pos h0])
            clear h0
            go_wp2_with (exact bodyPost_ret (copen_results (x := cn0) (e := e1) HR3.out.set7 rfl rfl) rfl ⟨by rw [HE2.out], below_set7 (HB1.out.trans (HB3.out.mono HB1.out.size)) (by omega)⟩)
        | s1 i0 hE =>
          have HE1 := Lib.hid hE
          have HOk := Lib.hid (HO.out _ HBW.out no nFiles)
          have hix := fun w => (part_idx nInfo nFiles nOut nWay w).2.1
          unfold Fs.openK3 at HE1
          generalize S.ownF b ⟨u.u, u.g⟩ no nFiles = r at HOk HE1
          obtain ⟨n1, e1⟩ := r
          dsimp only at HOk HE1
          unfold nInfo nFiles nOut nWay at hix
          unfold nFiles at HOk
          clear hE
          go_wp2_with fail
          refine HOk.out.mono ?_
          rintro e w2 ⟨rfl, hb2⟩
          have hA2 := HAr.out.keep hb2
          have hR2 := HRr.out.keep hb2
          have hB2 := bnext HBr.out hb2
          have HA2 := Lib.hid hA2
          have HB2 := Lib.hid hB2
          have HR3 := Lib.hid (hR2.setOther ⟨w1.heap.size, 1, none⟩ (.int .i64 n1) hne1.symm)
          have HB3 := Lib.hid (show Below w1.heap.size w1 (w2.setCell ⟨w1.heap.size, 1, none⟩ (.int .i64 n1)) from hB2.setCell (Nat.le_refl _) _)
          obtain ⟨ac, af, az⟩ := hA2.facts
          obtain ⟨rc, rf, rz⟩ := hR2.facts
          clear hb2 hA2 hR2 hB2 uc uf uz
          by_cases h0 : e1 = 0
          · subst h0
            by_cases hn1 : n1 = 0
            · subst hn1
              have HE2 := Lib.hid (show rd = (cn0, 5) by rw [HE1.out, thereV_z]; rfl)
              go_wp2_with (exact bodyPost_ret (copen_results (x := cn0) (e := 5) HR3.out.set7 rfl rfl) rfl ⟨by rw [HE2.out], below_set7 (HB1.out.trans (HB3.out.mono HB1.out.size)) (by omega)⟩)
            · have hn1' : (n1 == 0) = false := by simpa using hn1
              have HE2 := Lib.hid (show rd = S.openK2 b ⟨u.u, u.g⟩ no p.top i0 n1 by rw [HE1.out, thereV_0 hn1, if_neg (by simp)])
              clear HE1 hn1
              go_wp2_with fail
              go_roundw
              case measure => simp [intOf]
              case rel => exact ⟨_, _, _, _, .s2 i0 n1 HE2.out, HA2.out.set 1 _, HB3.out⟩
          · have h0' : (e1 == 0) = false := by simpa using h0
            have h0'' : (e1 != 0) = true := by simpa using h0
            have HE2 := Lib.hid (show rd = (cn0, e1) by rw [HE1.out, thereV_e n1 h0, if_pos h0])
            clear h0
            go_wp2_with (exact bodyPost_ret (copen_results (x := cn0) (e := e1) HR3.out.set7 rfl rfl) rfl ⟨by rw [HE2.out], below_set7 (HB1.out.trans (HB3.out.mono HB1.out.size)) (by omega)⟩)
        | s2 i0 f0 hE =>
          have HE1 := Lib.hid hE
          have HOk := Lib.hid (HO.out _ HBW.out no nOut)
          have hix := fun w => (part_idx nInfo nFiles nOut nWay w).2.2.1
          unfold Fs.openK2 at HE1
          generalize S.ownF b ⟨u.u, u.g⟩ no nOut = r at HOk HE1
          obtain ⟨n1, e1⟩ := r
          dsimp only at HOk HE1
          unfold nInfo nFiles nOut nWay at hix
          unfold nOut at HOk
          clear hE
          go_wp2_with fail
          refine HOk.out.mono ?_
          rintro e w2 ⟨rfl, hb2⟩
          have hA2 := HAr.out.keep hb2
          have hR2 := HRr.out.keep hb2
          have hB2 := bnext HBr.out hb2
          have HA2 := Lib.hid hA2
          have HB2 := Lib.hid hB2
          have HR3 := Lib.hid (hR2.setOther ⟨w1.heap.size, 2, none⟩ (.int .i64 n1) hne1.symm)
          have HB3 := Lib.hid (show Below w1.heap.size w1 (w2.setCell ⟨w1.heap.size, 2, none⟩ (.int .i64 n1)) from hB2.setCell (Nat.le_refl _) _)
          obtain ⟨ac, af, az⟩ := hA2.facts
          obtain ⟨rc, rf, rz⟩ := hR2.facts
          clear hb2 hA2 hR2 hB2 uc uf uz
          by_cases h0 : e1 = 0
          · subst h0
            have HE2 := Lib.hid (show rd = S.openK1 b ⟨u.u, u.g⟩ no p.top i0 f0 n1 by rw [HE1.out, if_neg (by simp)])
            clear HE1
            cases hz : (n1 == 0) with
            | true =>
              go_wp2_with fail
              go_roundw
              case measure => simp [intOf]
              case rel => exact ⟨_, _, _, _, .s3 i0 f0 n1 HE2.out, HA2.out.set 2 _, HB3.out⟩
            | false =>
              go_wp2_with fail
              go_roundw
              case measure => simp [intOf]
              case rel => exact ⟨_, _, _, _, .s3 i0 f0 n1 HE2.out, HA2.out.set 2 _, HB3.out⟩
          · have h0' : (e1 == 0) = false := by simpa using h0
            have h0'' : (e1 != 0) = true := by simpa using h0
            have HE2 := Lib.hid (show rd = (cn0, e1) by rw [HE1.out, if_pos h0])
            clear h0
            go_wp2_with (exact bodyPost_ret (copen_results (x := cn0) (e := e1) HR3.out.set7 rfl rfl) rfl ⟨by rw [HE2.out], below_set7 (HB1.out.trans (HB3.out.mono HB1.out.size)) (by omega)⟩)
        | s3 i0 f0 o0 hE =>
          have HE1 := Lib.hid hE
          have HOk := Lib.hid (HO.out _ HBW.out no nWay)
          have hix := fun w => (part_idx nInfo nFiles nOut nWay w).2.2.2
          unfold Fs.openK1 at HE1
          generalize S.ownF b ⟨u.u, u.g⟩ no nWay = r at HOk HE1
          obtain ⟨n1, e1⟩ := r
          dsimp only at HOk HE1
          unfold nInfo nFiles nOut nWay at hix
          unfold nWay at HOk
          clear hE
          go_wp2_with fail
          refine HOk.out.mono ?_
          rintro e w2 ⟨rfl, hb2⟩
          have hA2 := HAr.out.keep hb2
          have hR2 := HRr.out.keep hb2
          have hB2 := bnext HBr.out hb2
          have HA2 := Lib.hid hA2
          have HB2 := Lib.hid hB2
          have HR3 := Lib.hid (hR2.setOther ⟨w1.heap.size, 3, none⟩ (.int .i64 n1) hne1.symm)
          have HB3 := Lib.hid (show Below w1.heap.size w1 (w2.setCell ⟨w1.heap.size, 3, none⟩ (.int .i64 n1)) from hB2.setCell (Nat.le_refl _) _)
          obtain ⟨ac, af, az⟩ := hA2.facts
          obtain ⟨rc, rf, rz⟩ := hR2.facts
          clear hb2 hA2 hR2 hB2 uc uf uz
          by_cases h0 : e1 = 0
          · subst h0
            have HE2 := Lib.hid (show rd = S.openK0 no p.top i0 f0 o0 n1 by rw [HE1.out, if_neg (by simp)])
            clear HE1
            cases hz : (n1 == 0) with
            | true =>
              go_wp2_with fail
              go_roundw
              case measure => simp [intOf]
              case rel => exact ⟨_, _, _, _, .s4 i0 f0 o0 n1 HE2.out, HA2.out.set 3 _, HB3.out⟩
            | false =>
              go_wp2_with fail
              go_roundw
              case measure => simp [intOf]
              case rel => exact ⟨_, _, _, _, .s4 i0 f0 o0 n1 HE2.out, HA2.out.set 3 _, HB3.out⟩
          · have h0' : (e1 == 0) = false := by simpa using h0
            have h0'' : (e1 != 0) = true := by simpa using h0
            have HE2 := Lib.hid (show rd = (cn0, e1) by rw [HE1.out, if_pos h0])
            clear h0
            go_wp2_with (exact bodyPost_ret (copen_results (x := cn0) (e := e1) HR3.out.set7 rfl rfl) rfl ⟨by rw [HE2.out], below_set7 (HB1.out.trans (HB3.out.mono HB1.out.size)) (by omega)⟩)
        | s4 i0 f0 o0 y0 hE =>
          have HE1 := Lib.hid hE
          have HWk := Lib.hid (HWh.out _ HBW.out no)
          have pc0 := HPC.out _ HBW.out
          unfold Fs.openK0 at HE1
          unfold whereV at HWk
          clear hE uc uf uz ac af az
          cases hpl : S.place_ no with
          | none =>
            rw [hpl] at HE1 HWk
            clear hpl
            go_wp2_with fail
            refine HWk.out.mono ?_
            rintro e w2 ⟨rfl, hb2⟩
            have hR2 := HRr.out.keep hb2
            have HR2 := Lib.hid hR2
            have HB2 := Lib.hid (bnext HBW.out hb2)
            obtain ⟨rc, rf, rz⟩ := hR2.facts
            clear hb2 hR2 pc0
            go_wp2_with (exact bodyPost_ret (copen_results (x := cn0) (e := 5) HR2.out.set7 rfl rfl) rfl ⟨by rw [HE1.out], below_set7 HB2.out (by omega)⟩)
          | some s =>
            rw [hpl] at HE1 HWk
            clear hpl
            go_wp2_with fail
            refine HWk.out.mono ?_
            rintro e w2 ⟨rfl, hb2⟩
            have hR2 := HRr.out.keep hb2
            have hA2 := HAr.out.keep hb2
            have hP2 := HPr.out.keep hb2
            have HR2 := Lib.hid hR2
            have HB2 := Lib.hid (bnext HBW.out hb2)
            obtain ⟨rc, rf, rz⟩ := hR2.facts
            obtain ⟨ac, af, az⟩ := hA2.facts
            obtain ⟨qc, qf, qz⟩ := hP2.facts
            clear hb2 hR2 hA2 hP2 pc0
            go_wp2_with (exact bodyPost_ret (copen_results (x := ⟨s, no, i0, f0, o0, y0, p.top⟩) (e := 0) HR2.out.set7 rfl rfl) rfl ⟨by rw [HE1.out], below_set7 HB2.out (by omega)⟩)
  · have h0' : (e1 == 0) = false := by simpa using h0
    have h0'' : (e1 != 0) = true := by simpa using h0
    have HE := Lib.hid (show rd = (cn0, e1) by rw [HR.out, thereV_e no h0, if_pos h0])
    clear h0
    go_wp2_with (exact bodyPost_ret (copen_results (x := cn0) (e := e1) HR1.out.set7 rfl rfl) rfl ⟨by rw [HE.out], below_set7 HB1.out (by omega)⟩)
end

end Go.Proofs.YtihdbncoijhihaaGreat

/- A case of the cans' statements (layer 30): is it not too great, and what it plants, at an instant; cans are the same. -/
namespace Go.Proofs.YtihdbncoijhihaaGreat

open Go.RowKit Go.Shelf

attribute [local go_sem] Oper.semAt_some

def few30 (ms : List Mt) (is : List It) (dt pt tx : ByteArray) (pl : List (Int × Int)) : Bool := decide (few22 ms is 30 = true ∧ dt.size ≤ 300 ∧ pt.size ≤ 300 ∧ tx.size ≤ 300 ∧ pl.length ≤ 4)
theorem few30_of {ms : List Mt} {is : List It} {dt pt tx : ByteArray} {pl : List (Int × Int)} (h : few30 ms is dt pt tx pl = true) : few22 ms is 30 = true ∧ dt.size ≤ 300 ∧ pt.size ≤ 300 ∧ tx.size ≤ 300 ∧ pl.length ≤ 4 := of_decide_eq_true h
set_option maxRecDepth 100000 in
set_option maxHeartbeats 4000000 in
theorem few30_any (w : World) {ma : Option Addr} {mn mc : Nat} {ia : Option Addr} {il ic : Nat} {ms : List Mt} {is : List It} (h : SdAt w ma mn mc ia il ic ms is) (u g : Int) (dt pt tx : ByteArray) (no now : Int) {pa : Option Addr} {pn pc : Nat} {pl : List (Int × Int)} (hpl : pl.length = pn) :
    Calls Tryz.prog 9 #[.agg #[.slice ma mn mc, .slice ia il ic, .int .i64 u, .int .i64 g, .string dt, .string pt, .string tx, .int .i64 no, .int .i64 now, .slice pa pn pc]] w fun e w' => e = .returned (.bool (few30 ms is dt pt tx pl)) ∧ Below w.heap.size w w' := by
  have hB := Blk.new w #[.slice ma mn mc, .slice ia il ic, .int .i64 u, .int .i64 g, .string dt, .string pt, .string tx, .int .i64 no, .int .i64 now, .slice pa pn pc] 30
  have hb := balloc (Below.refl w.heap.size w) (.cells #[.slice ma mn mc, .slice ia il ic, .int .i64 u, .int .i64 g, .string dt, .string pt, .string tx, .int .i64 no, .int .i64 now, .slice pa pn pc] 30)
  have HF := Lib.hid (few22_any _ (h.keep ((Below.refl _ w).alloc (Nat.le_refl _) (.cells #[.slice ma mn mc, .slice ia il ic, .int .i64 u, .int .i64 g, .string dt, .string pt, .string tx, .int .i64 no, .int .i64 now, .slice pa pn pc] 30))) 30)
  have HE := Lib.hid (show few30 ms is dt pt tx pl = decide (few22 ms is 30 = true ∧ dt.size ≤ 300 ∧ pt.size ≤ 300 ∧ tx.size ≤ 300 ∧ pl.length ≤ 4) from rfl)
  rw [hpl] at HE
  generalize few30 ms is dt pt tx pl = fb at HE ⊢
  clear h hpl
  go_enter Tryz.func9, Tryz.ntmps9
  go_wp2_with fail
  refine HF.out.mono ?_
  rintro e w1 ⟨rfl, hb1⟩
  have hB1 := hB.keep hb1
  have HB := Lib.hid (bnext hb hb1)
  obtain ⟨bc, bf, bz⟩ := hB1.facts
  clear hB hb hb1 hB1
  cases hf : few22 ms is 30 with
  | false =>
    rw [hf] at HE
    have HG := Lib.hid (show fb = false by rw [HE.out]; simp)
    clear hf
    go_wp2_with fail
    go_ret
    exact ⟨by rw [HG.out]; (try rfl), HB.out⟩
  | true =>
    rw [hf] at HE
    clear hf
    by_cases h1 : dt.size ≤ 300
    · have h1' : (dt.size : Int) ≤ 300 := by omega
      by_cases h2 : pt.size ≤ 300
      · have h2' : (pt.size : Int) ≤ 300 := by omega
        by_cases h3 : tx.size ≤ 300
        · have h3' : (tx.size : Int) ≤ 300 := by omega
          by_cases hp : pn ≤ 4
          · have hp1 : (pn : Int) ≤ 4 := by omega
            have HG := Lib.hid (show fb = true by rw [HE.out]; simp [h1, h2, h3, hp])
            go_wp2_with fail
            go_ret
            exact ⟨by rw [HG.out]; (try rfl), HB.out⟩
          · have hp1 : ¬ (pn : Int) ≤ 4 := by omega
            have HD := Lib.hid (decide_eq_false hp1)
            have HG := Lib.hid (show fb = false by rw [HE.out]; simp [h1, h2, h3, hp])
            go_wp2_with fail
            go_ret
            refine ⟨?_, HB.out⟩
            rw [HG.out]
            show Ending.returned (.bool (decide ((pn : Int) ≤ 4))) = _
            rw [HD.out]
        · have h3' : ¬ (tx.size : Int) ≤ 300 := by omega
          have HG := Lib.hid (show fb = false by rw [HE.out]; simp [h3])
          go_wp2_with fail
          go_ret
          exact ⟨by rw [HG.out]; (try rfl), HB.out⟩
      · have h2' : ¬ (pt.size : Int) ≤ 300 := by omega
        have HG := Lib.hid (show fb = false by rw [HE.out]; simp [h2])
        go_wp2_with fail
        go_ret
        exact ⟨by rw [HG.out]; (try rfl), HB.out⟩
    · have h1' : ¬ (dt.size : Int) ≤ 300 := by omega
      have HG := Lib.hid (show fb = false by rw [HE.out]; simp [h1])
      go_wp2_with fail
      go_ret
      exact ⟨by rw [HG.out]; (try rfl), HB.out⟩
section

variable {w w' : World} {pf pw : Nat} {R : Rp} {pv : Value} {Y : Sy}

set_option maxRecDepth 100000 in
set_option maxHeartbeats 2000000 in
theorem stick_any (h : SyAt w pf pw R pv Y) (hy : 0 ≤ Y.now) (n : Int) (h0 : 0 ≤ n) (h1 : n ≤ 253402300799 - Y.now) :
    Calls Tryz.prog 52 #[.pointer (some ⟨pf, 0, none⟩), .int .i64 n] w fun e w' => e = .returned (.int .i64 0) ∧ SyAt w' pf pw R pv { Y with now := Y.now + n } ∧ Mod (fun k => k = pf) w w' := by
  have HN := Lib.hid (snone_any h)
  have HY := Lib.hid h
  obtain ⟨pc, pf', pz⟩ := h.blk.facts
  have hw : IntKind.i64.wrap (Y.now + n) = Y.now + n := by simp [IntKind.wrap, IntKind.bits, IntKind.signed]; omega
  have hw2 : IntKind.i64.wrap (253402300799 - Y.now) = 253402300799 - Y.now := by simp [IntKind.wrap, IntKind.bits, IntKind.signed]; omega
  have h2 : ¬ n < 0 := by omega
  have h3 : ¬ 253402300799 - Y.now < n := by omega
  clear h
  go_enter Tryz.func52, Tryz.ntmps52
  go_wp2_with fail
  refine HN.out.mono ?_
  rintro e w1 ⟨rfl, rfl⟩
  go_wp2_with fail
  go_ret
  exact ⟨rfl, HY.out.turnF ((Mod.refl (fun k => k = pf) w).setCell (a := ⟨pf, 1, none⟩) (.inl rfl) _) rfl rfl (HY.out.blk.set 1 _), (Mod.refl (fun k => k = pf) w).setCell (a := ⟨pf, 1, none⟩) (.inl rfl) _⟩
end

/-- another instant. -/
theorem RfAt.setNow {w : World} {pf : Nat} {R : Rf} {S : Fs} (h : RfAt w pf R S) (v : Int) : RfAt (w.setCell ⟨pf, 3, none⟩ (.int .i64 v)) pf { R with now := v } S := by
  have hm : Mod (fun k => k = pf) w (w.setCell ⟨pf, 3, none⟩ (.int .i64 v)) := (Mod.refl (fun k => k = pf) w).setCell (a := ⟨pf, 3, none⟩) (.inl rfl) _
  have hM : Mod (R.F pf) w (w.setCell ⟨pf, 3, none⟩ (.int .i64 v)) := hm.mono (fun k hk => .inl hk)
  refine ⟨h.blk.set 3 _, own_mod h.nds hm (fun k hk e => ?_), own_mod h.devs hm (fun k hk e => ?_), h.ns, fun x hx => (h.ents x hx).rf h (Stp.of_mod hM)⟩
  · obtain ⟨-, hc⟩ := own_obj1 h.nds e
    exact rf_apart hc h.blk (by decide) hk.symm
  · obtain ⟨-, hc⟩ := own_obj1 h.devs e
    exact rf_apart hc h.blk (by decide) hk.symm
def nowI (n : Int) : Int := if 0 ≤ n ∧ n ≤ 253402300799 then n else 0
/-- what both plant, with a plan, at an instant. -/
structure Both30 (w0 w : World) (S : Fs) (nw : Int) (pl : List (Int × Int)) (vp : Value) (p1 q1 : Nat) (R1 : Rp) (v1 : Value) (pf : Nat) (R2 : Rf) : Prop where
  y : SyAt w p1 q1 R1 v1 ⟨S, nw, 0, pl, false⟩
  r : RfAt w pf R2 S
  now : R2.now = nw
  cnt : R2.cnt = .int .i64 0
  plan : R2.pl = vp
  dd : R2.dd = .bool false
  f1 : ∀ k, R1.Y p1 q1 k → w0.heap.size ≤ k
  f2 : ∀ k, R2.F pf k → w0.heap.size ≤ k
  below : Below w0.heap.size w0 w
set_option maxRecDepth 100000 in
set_option maxHeartbeats 4000000 in
theorem both30_any (w : World) {ma : Option Addr} {mn mc : Nat} {ia : Option Addr} {il ic : Nat} {ms : List Mt} {is : List It} (h : SdAt w ma mn mc ia il ic ms is) (u g : Int) (dt pt tx : ByteArray) (no now : Int) {pa : Option Addr} {pn pc : Nat} {pl : List (Int × Int)} (hpl : SliceAt w 2 fltR pa pn pc pl) (hf : few30 ms is dt pt tx pl = true) :
    Calls Tryz.prog 11 #[.agg #[.slice ma mn mc, .slice ia il ic, .int .i64 u, .int .i64 g, .string dt, .string pt, .string tx, .int .i64 no, .int .i64 now, .slice pa pn pc]] w fun e w' => ∃ p1 q1 R1 v1 pf R2, e = .returned (.tuple #[.pointer (some ⟨p1, 0, none⟩), .pointer (some ⟨pf, 0, none⟩)]) ∧ Both30 w w' (plantF ms is) (nowI now) pl (.slice pa pn pc) p1 q1 R1 v1 pf R2 := by
  obtain ⟨hf2, -, -, -, hp4⟩ := few30_of hf
  have hf24 : few24 ms is ⟨#[]⟩ pl = true := decide_eq_true ⟨hf2, by decide, hp4⟩
  have hX := Blk.new w #[.slice ma mn mc, .slice ia il ic, .int .i64 u, .int .i64 g, .string dt, .string pt, .string tx, .int .i64 no, .int .i64 now, .slice pa pn pc] 30
  have hbX := balloc (Below.refl w.heap.size w) (.cells #[.slice ma mn mc, .slice ia il ic, .int .i64 u, .int .i64 g, .string dt, .string pt, .string tx, .int .i64 no, .int .i64 now, .slice pa pn pc] 30)
  have HBo := Lib.hid (both24_any _ (h.keep ((Below.refl _ w).alloc (Nat.le_refl _) (.cells #[.slice ma mn mc, .slice ia il ic, .int .i64 u, .int .i64 g, .string dt, .string pt, .string tx, .int .i64 no, .int .i64 now, .slice pa pn pc] 30))) 0 0 0 0 ⟨#[]⟩ (SliceAt.below hpl ((Below.refl _ w).alloc (Nat.le_refl _) (.cells #[.slice ma mn mc, .slice ia il ic, .int .i64 u, .int .i64 g, .string dt, .string pt, .string tx, .int .i64 no, .int .i64 now, .slice pa pn pc] 30)) (Nat.le_refl _)) false hf24)
  generalize plantF ms is = S at HBo ⊢
  clear h hpl hf hf2 hp4 hf24
  go_enter Tryz.func11, Tryz.ntmps11
  go_upto_region 1 with fail
  generalize w.alloc (.cells #[.slice ma mn mc, .slice ia il ic, .int .i64 u, .int .i64 g, .string dt, .string pt, .string tx, .int .i64 no, .int .i64 now, .slice pa pn pc] 30) = w1 at hX hbX HBo ⊢
  have HX := Lib.hid hX
  have HB1 := Lib.hid hbX
  obtain ⟨xc, xf, xz⟩ := hX.facts
  clear hX hbX
  go_wp2_with fail
  refine HBo.out.mono ?_
  rintro e w2 ⟨p1, q1, R1, v1, pf, R2, rfl, hBo⟩
  have HB := Lib.hid hBo
  have HX2 := Lib.hid (HX.out.keep hBo.below)
  have hs1 := HB1.out.size
  have HW := Lib.hid (HB1.out.trans (hBo.below.mono hs1))
  clear hBo xc xf xz
  obtain ⟨xc, xf, xz⟩ := HX2.out.facts
  by_cases hn : 0 ≤ now ∧ now ≤ 253402300799
  · obtain ⟨h0, h1⟩ := hn
    have HE := Lib.hid (show nowI now = now from if_pos ⟨h0, h1⟩)
    have HT := Lib.hid (stick_any HB.out.y (Int.le_refl 0) now h0 (by show now ≤ 253402300799 - 0; omega))
    dsimp only at HT
    have hz : (0 : Int) + now = now := by omega
    rw [hz] at HT
    go_wp2_with fail
    refine HT.out.mono ?_
    rintro e w3 ⟨rfl, hY3, hm3⟩
    have hne : p1 ≠ pf := by
      rintro rfl
      have h1 := HB.out.y.blk
      have h2 := HB.out.r.blk
      unfold Blk at h1 h2
      rw [h1] at h2
      injection h2 with h2
      injection h2 with e1 e2 e3
      revert e2
      decide
    have hR3 : RfAt w3 pf R2 S := HB.out.r.mod hm3 (fun k o hk ho => by
      subst hk
      have h1 := HB.out.y.blk
      unfold Blk at h1
      rw [h1] at ho
      injection ho with ho
      subst ho
      exact ⟨rfl, fun cur e => by injection e with e1 e2; revert e2; decide⟩)
    have hX3 := HX2.out.mod hm3 (show ¬ w.heap.size = p1 by have := HX.out.lt; have := HB.out.f1 p1 (.inl rfl); omega)
    have HY := Lib.hid (And.intro hY3 (And.intro hR3 hm3))
    obtain ⟨gc, gf, gz⟩ := hR3.blk.facts
    clear hY3 hm3 hR3 xc xf xz
    obtain ⟨xc, xf, xz⟩ := hX3.facts
    clear hX3
    go_wp2_with fail
    go_ret2
    rw [HE.out]
    have hm4 : Mod (fun k => k = pf) w3 (w3.setCell ⟨pf, 3, none⟩ (.int .i64 now)) := (Mod.refl (fun k => k = pf) w3).setCell (a := ⟨pf, 3, none⟩) (.inl rfl) _
    have hp1 := HB.out.f1 p1 (.inl rfl)
    have hpf := HB.out.f2 pf (.inl rfl)
    have hs2 := HB.out.below.size
    have hs3 := HY.out.2.2.size
    have hsw := HB1.out.size
    refine ⟨p1, q1, R1, v1, pf, { R2 with now := now }, rfl, ⟨HY.out.1.other HY.out.2.1.blk rfl (by decide) (by decide) (by decide) hm4, HY.out.2.1.setNow now, rfl, HB.out.cnt, HB.out.plan, HB.out.dd, fun k hk => Nat.le_trans hsw (HB.out.f1 k hk), fun k hk => Nat.le_trans hsw (HB.out.f2 k hk), ?_⟩⟩
    exact HW.out.trans ((HY.out.2.2.below (fun k hk => by omega) (by omega)).trans (hm4.below (fun k hk => by omega) (by omega)))
  · have HE := Lib.hid (show nowI now = 0 from if_neg hn)
    have hfin : Both30 w w2 S (nowI now) pl (.slice pa pn pc) p1 q1 R1 v1 pf R2 := by
      rw [HE.out]
      exact ⟨HB.out.y, HB.out.r, HB.out.now, HB.out.cnt, HB.out.plan, HB.out.dd, fun k hk => Nat.le_trans hs1 (HB.out.f1 k hk), fun k hk => Nat.le_trans hs1 (HB.out.f2 k hk), HW.out⟩
    have HFin := Lib.hid hfin
    clear hfin
    by_cases h0 : 0 ≤ now
    · have h1 : ¬ now ≤ 253402300799 := fun h => hn ⟨h0, h⟩
      clear hn
      go_wp2_with fail
      go_ret2
      first | exact ⟨p1, q1, R1, v1, pf, R2, rfl, HFin.out⟩ | exact ⟨p1, q1, R1, v1, pf, rfl, R2, HFin.out⟩
    · clear hn
      go_wp2_with fail
      go_ret2
      first | exact ⟨p1, q1, R1, v1, pf, R2, rfl, HFin.out⟩ | exact ⟨p1, q1, R1, v1, pf, rfl, R2, HFin.out⟩
end Go.Proofs.YtihdbncoijhihaaGreat

/- ragpickerlaw13.Same at one node that lies in two places. -/
namespace Go.Proofs.YtihdbncoijhihaaGreat

open Go.RowKit

end Go.Proofs.YtihdbncoijhihaaGreat

/- ragpickerlaw14.Alike: the program's tree and the reference's, where both hold the same. -/
namespace Go.Proofs.YtihdbncoijhihaaGreat

open Go.RowKit

section

variable {w w' : World} {pw pf : Nat} {R : Rp} {Q : Rf} {S : Fs}

end

end Go.Proofs.YtihdbncoijhihaaGreat

/- Cans' statements (layer 30): a tree is the document's, cans are the same. -/
namespace Go.Proofs.YtihdbncoijhihaaGreat

open Go.RowKit Go.Shelf

section

variable {w w' : World} {pf pw : Nat} {R : Rp} {pv : Value} {Y : Sy}

set_option maxRecDepth 100000 in
set_option maxHeartbeats 1000000 in
theorem sdead_any (h : SyAt w pf pw R pv Y) :
    Calls Tryz.prog 57 #[.pointer (some ⟨pf, 0, none⟩)] w fun e w' => e = .returned (.bool Y.dead) ∧ w = w' := by
  have HN := Lib.hid (snone_any h)
  obtain ⟨pc, -, pz⟩ := h.blk.facts
  clear h
  go_enter Tryz.func57, Tryz.ntmps57
  go_wp2_with fail
  refine HN.out.mono ?_
  rintro e w1 ⟨rfl, rfl⟩
  go_wp2_with fail
  go_ret
  exact ⟨rfl, rfl⟩
end

end Go.Proofs.YtihdbncoijhihaaGreat
