/- Texts of the proof, part 33. -/
import Derived.Test.YtihdbncoijhihaaGreatLK32
import Derived.Test.YtihdbncoijhihaaGreatLK8
import Derived.Test.YtihdbncoijhihaaGreatLK30
import Derived.Test.YtihdbncoijhihaaGreatLK25
import Derived.Test.YtihdbncoijhihaaGreatLK5
set_option linter.unusedVariables false
set_option linter.unusedSimpArgs false
/- Trash cans (layer 30): rows of cans; has, Open. -/
namespace Go.Proofs.YtihdbncoijhihaaGreat

open Go.RowKit

/-- a thing of a slice, cell by cell. -/
theorem slice_row {α : Type} {enc : α → List Value} {w : World} {sz n c : Nat} {a : Option Addr} {l : List α} (hl : ∀ x, (enc x).length = sz) (h : SliceAt w sz (fun cs x => cs = enc x) a n c l) (k : Nat) (hk : k < l.length) :
    ∃ b off, a = some ⟨b, off, none⟩ ∧ b < w.heap.size ∧ ∀ j (hj : j < sz), w.cell? ⟨b, off + k * sz + j, none⟩ = some ((enc l[k])[j]'(by rw [hl]; exact hj)) := by
  obtain ⟨h1, -, -, h0 | ⟨b, off, he, hb, hel⟩⟩ := h
  · omega
  · obtain ⟨cs, k1, k2, k3⟩ := hel k hk
    subst k2
    exact ⟨b, off, he, hb, fun j hj => k3 j (by rw [hl]; exact hj)⟩
def cnC (x : Cn) : List Value := [.string x.path, .int .i64 x.dir, .int .i64 x.info, .int .i64 x.files, .int .i64 x.out, .int .i64 x.way, .string x.top]
def cnQ (cs : List Value) (x : Cn) : Prop := cs = cnC x
def Cn.v (x : Cn) : Value := .agg #[.string x.path, .int .i64 x.dir, .int .i64 x.info, .int .i64 x.files, .int .i64 x.out, .int .i64 x.way, .string x.top]
/-- cans of the call's own. -/
def OCn (w : World) (base : Nat) (v : Value) (l : List Cn) : Prop := w.ownsRow base 38 7 v l.length (l.flatMap cnC)
set_option maxHeartbeats 4000000 in
theorem Blk.set7 {w : World} {B : Nat} {x0 x1 x2 x3 x4 x5 x6 v0 v1 v2 v3 v4 v5 v6 : Value} {T : TypeId} (h : Blk w B #[x0, x1, x2, x3, x4, x5, x6] T) : Blk (((((((w.setCell ⟨B, 0, none⟩ v0).setCell ⟨B, 1, none⟩ v1).setCell ⟨B, 2, none⟩ v2).setCell ⟨B, 3, none⟩ v3).setCell ⟨B, 4, none⟩ v4).setCell ⟨B, 5, none⟩ v5).setCell ⟨B, 6, none⟩ v6) B #[v0, v1, v2, v3, v4, v5, v6] T :=
  ((((((h.set 0 v0).set 1 v1).set 2 v2).set 3 v3).set 4 v4).set 5 v5).set 6 v6
theorem below_set7 {N : Nat} {w0 w : World} {B : Nat} {v0 v1 v2 v3 v4 v5 v6 : Value} (h : Below N w0 w) (hB : N ≤ B) : Below N w0 (((((((w.setCell ⟨B, 0, none⟩ v0).setCell ⟨B, 1, none⟩ v1).setCell ⟨B, 2, none⟩ v2).setCell ⟨B, 3, none⟩ v3).setCell ⟨B, 4, none⟩ v4).setCell ⟨B, 5, none⟩ v5).setCell ⟨B, 6, none⟩ v6) :=
  ((((((h.setCell hB v0).setCell hB v1).setCell hB v2).setCell hB v3).setCell hB v4).setCell hB v5).setCell hB v6
set_option maxRecDepth 100000 in
set_option maxHeartbeats 1000000 in
theorem copen_results {tmps : Array Value} {W : World} {B : Nat} {x : Cn} {e : Int} (hb : Blk W B #[.string x.path, .int .i64 x.dir, .int .i64 x.info, .int .i64 x.files, .int .i64 x.out, .int .i64 x.way, .string x.top] 38)
    (h8 : tmps.getD 6 undef = .pointer (some ⟨B, 0, none⟩)) (h9 : tmps.getD 7 undef = .int .i64 e) : (results Tryz.f90 tmps).run Tryz.prog W = .ok (.tuple #[x.v, .int .i64 e]) W := by
  have q0 := hb.cell 0
  have q1 := hb.cell 1
  have q2 := hb.cell 2
  have q3 := hb.cell 3
  have q4 := hb.cell 4
  have q5 := hb.cell 5
  have q6 := hb.cell 6
  rw [Array.getD_eq_getD_getElem?] at h8 h9
  simp [results, Tryz.results90, go_sem, Cn.v, h8, h9, q0, q1, q2, q3, q4, q5, q6]
theorem part_idx (s0 s1 s2 s3 : ByteArray) (w : World) : (Instr.index 216 (.agg #[.string s0, .string s1, .string s2, .string s3]) (.int .i64 0)).run Tryz.prog w = .ok (.string s0) w ∧ (Instr.index 216 (.agg #[.string s0, .string s1, .string s2, .string s3]) (.int .i64 1)).run Tryz.prog w = .ok (.string s1) w ∧
    (Instr.index 216 (.agg #[.string s0, .string s1, .string s2, .string s3]) (.int .i64 2)).run Tryz.prog w = .ok (.string s2) w ∧ (Instr.index 216 (.agg #[.string s0, .string s1, .string s2, .string s3]) (.int .i64 3)).run Tryz.prog w = .ok (.string s3) w := by
  refine ⟨?_, ?_, ?_, ?_⟩ <;> first | kernel_rfl | rfl
/-- between two parts: what is known, and what is left. -/
inductive OpSt (S : Fs) (d : Bool) (c : Cr) (dir : Int) (top : ByteArray) (rd : Cn × Int) : Value → Value → Value → Value → Value → Prop
  | s0 : rd = S.openK4 d c dir top → OpSt S d c dir top rd (.int .i64 0) (.int .i64 0) (.int .i64 0) (.int .i64 0) (.int .i64 0)
  | s1 (i : Int) : rd = S.openK3 d c dir top i → OpSt S d c dir top rd (.int .i64 1) (.int .i64 i) (.int .i64 0) (.int .i64 0) (.int .i64 0)
  | s2 (i f : Int) : rd = S.openK2 d c dir top i f → OpSt S d c dir top rd (.int .i64 2) (.int .i64 i) (.int .i64 f) (.int .i64 0) (.int .i64 0)
  | s3 (i f o : Int) : rd = S.openK1 d c dir top i f o → OpSt S d c dir top rd (.int .i64 3) (.int .i64 i) (.int .i64 f) (.int .i64 o) (.int .i64 0)
  | s4 (i f o y : Int) : rd = S.openK0 dir top i f o y → OpSt S d c dir top rd (.int .i64 4) (.int .i64 i) (.int .i64 f) (.int .i64 o) (.int .i64 y)
section

variable {w w' : World} {pf pw : Nat} {R : Rp} {pv : Value} {Y : Sy}

set_option maxRecDepth 100000 in
set_option maxHeartbeats 8000000 in
theorem copen_any (h : SyAt w pf pw R pv Y) {N : Nat} (hk : FsOk Y.fs N) (hN : N ≤ 999999) (hp : Pl Y.fs) (hl : Y.fs.ns.length ≤ 100000) (u : Us) (p : Plc) :
    Calls Tryz.prog 90 #[.pointer (some ⟨pf, 0, none⟩), .agg #[.int .i64 u.u, .int .i64 u.g, .string u.data], .agg #[.int .i64 p.dir, .string p.name, .string p.top]] w fun e w' => e = .returned (.tuple #[(Y.fs.openF Y.dead u p).1.v, .int .i64 (Y.fs.openF Y.dead u p).2]) ∧ Below w.heap.size w w' := by
  have HO := Lib.hid (fun w1 (hb1 : Below w.heap.size w w1) dir n => cown_any (h.keep hb1) hk hN u.u u.g u.data dir n)
  have HWh := Lib.hid (fun w1 (hb1 : Below w.heap.size w w1) d => wwhere_any (h.wd.keep hb1) hk hp hl d)
  obtain ⟨pc, -, pz⟩ := h.blk.facts
  have HPC := Lib.hid (fun w1 (hb1 : Below w.heap.size w w1) => show w1.cell? ⟨pf, 0, none⟩ = some (.pointer (some ⟨pw, 0, none⟩)) from (hb1.cell (p := ⟨pf, 0, none⟩) pz).trans (pc 0))
  obtain ⟨S, hS⟩ : ∃ S, Y.fs = S := ⟨_, rfl⟩
  obtain ⟨b, hd⟩ : ∃ b, Y.dead = b := ⟨_, rfl⟩
  rw [hS, hd] at HO
  rw [hS] at HWh
  rw [hS, hd]
  have HR := Lib.hid (show S.openF b u p = if (thereV (S.ownF b ⟨u.u, u.g⟩ p.dir p.name)).2 ≠ 0 then (cn0, (thereV (S.ownF b ⟨u.u, u.g⟩ p.dir p.name)).2) else S.openK4 b ⟨u.u, u.g⟩ (thereV (S.ownF b ⟨u.u, u.g⟩ p.dir p.name)).1 p.top from rfl)
  generalize S.openF b u p = rd at HR ⊢
  have hUX := ((Blk.new w #[.int .i64 u.u, .int .i64 u.g, .string u.data] 27).old (.cells #[.int .i64 p.dir, .string p.name, .string p.top] 131)).old (.cells #[.string ⟨#[]⟩, .int .i64 0, .int .i64 0, .int .i64 0, .int .i64 0, .int .i64 0, .string ⟨#[]⟩] 38)
  have hPX : Blk (((w.alloc (.cells #[.int .i64 u.u, .int .i64 u.g, .string u.data] 27)).alloc (.cells #[.int .i64 p.dir, .string p.name, .string p.top] 131)).alloc (.cells #[.string ⟨#[]⟩, .int .i64 0, .int .i64 0, .int .i64 0, .int .i64 0, .int .i64 0, .string ⟨#[]⟩] 38)) (w.heap.size + 1) #[.int .i64 p.dir, .string p.name, .string p.top] 131 := by
    have := (Blk.new (w.alloc (.cells #[.int .i64 u.u, .int .i64 u.g, .string u.data] 27)) #[.int .i64 p.dir, .string p.name, .string p.top] 131).old (.cells #[.string ⟨#[]⟩, .int .i64 0, .int .i64 0, .int .i64 0, .int .i64 0, .int .i64 0, .string ⟨#[]⟩] 38)
    rwa [World.size_alloc] at this
  have hRX : Blk (((w.alloc (.cells #[.int .i64 u.u, .int .i64 u.g, .string u.data] 27)).alloc (.cells #[.int .i64 p.dir, .string p.name, .string p.top] 131)).alloc (.cells #[.string ⟨#[]⟩, .int .i64 0, .int .i64 0, .int .i64 0, .int .i64 0, .int .i64 0, .string ⟨#[]⟩] 38)) (w.heap.size + 1 + 1) #[.string ⟨#[]⟩, .int .i64 0, .int .i64 0, .int .i64 0, .int .i64 0, .int .i64 0, .string ⟨#[]⟩] 38 := by
    have := Blk.new ((w.alloc (.cells #[.int .i64 u.u, .int .i64 u.g, .string u.data] 27)).alloc (.cells #[.int .i64 p.dir, .string p.name, .string p.top] 131)) #[.string ⟨#[]⟩, .int .i64 0, .int .i64 0, .int .i64 0, .int .i64 0, .int .i64 0, .string ⟨#[]⟩] 38
    rwa [World.size_alloc, World.size_alloc] at this
  have hbX := balloc (balloc (balloc (Below.refl w.heap.size w) (.cells #[.int .i64 u.u, .int .i64 u.g, .string u.data] 27)) (.cells #[.int .i64 p.dir, .string p.name, .string p.top] 131)) (.cells #[.string ⟨#[]⟩, .int .i64 0, .int .i64 0, .int .i64 0, .int .i64 0, .int .i64 0, .string ⟨#[]⟩] 38)
  clear h hk hS hd pc pz hp hl
  go_enter Tryz.func90, Tryz.ntmps90
  go_upto_region 1 with fail
  generalize ((w.alloc (.cells #[.int .i64 u.u, .int .i64 u.g, .string u.data] 27)).alloc (.cells #[.int .i64 p.dir, .string p.name, .string p.top] 131)).alloc (.cells #[.string ⟨#[]⟩, .int .i64 0, .int .i64 0, .int .i64 0, .int .i64 0, .int .i64 0, .string ⟨#[]⟩] 38) = W0 at hUX hPX hRX hbX ⊢
  have HB0 := Lib.hid hbX
  have HU0 := Lib.hid hUX
  have HP0 := Lib.hid hPX
  have HR0 := Lib.hid hRX
  obtain ⟨uc, uf, uz⟩ := hUX.facts
  obtain ⟨qc, qf, qz⟩ := hPX.facts
  clear hUX hPX hRX hbX
  have HO1 := Lib.hid (HO.out _ HB0.out p.dir p.name)
  generalize S.ownF b ⟨u.u, u.g⟩ p.dir p.name = r at HO1 HR
  obtain ⟨no, e1⟩ := r
  dsimp only at HO1
  go_wp2_with fail
  refine HO1.out.mono ?_
  rintro e w1 ⟨rfl, hb1⟩
  have HB1 := Lib.hid (bnext HB0.out hb1)
  have HU1 := Lib.hid (HU0.out.keep hb1)
  have HP1 := Lib.hid (HP0.out.keep hb1)
  have HR1 := Lib.hid (HR0.out.keep hb1)
  have hwz := HB0.out.size
  obtain ⟨rc, rf, rz⟩ := HR1.out.facts
  clear hb1 uc uf uz qc qf qz
  by_cases h0 : e1 = 0
  · subst h0
    by_cases hn : no = 0
    · subst hn
      have HE := Lib.hid (show rd = (cn0, 5) by rw [HR.out, thereV_z]; rfl)
      go_wp2_with (exact bodyPost_ret (copen_results (x := cn0) (e := 5) HR1.out.set7 rfl rfl) rfl ⟨by rw [HE.out], below_set7 HB1.out (by omega)⟩)
    · have hn' : (no == 0) = false := by simpa using hn
      have HE := Lib.hid (show rd = S.openK4 b ⟨u.u, u.g⟩ no p.top by rw [HR.out, thereV_0 hn, if_neg (by simp)])
      clear HR HO1
      go_upto_region 7 with fail
      have hAX := Blk.new w1 #[.int .i64 0, .int .i64 0, .int .i64 0, .int .i64 0] 252
      have hbA := balloc (Below.refl w1.heap.size w1) (.cells #[.int .i64 0, .int .i64 0, .int .i64 0, .int .i64 0] 252)
      generalize w1.alloc (.cells #[.int .i64 0, .int .i64 0, .int .i64 0, .int .i64 0] 252) = W2 at hAX hbA ⊢
      have HA := Lib.hid (And.intro hAX hbA)
      have hne1 : w.heap.size + 1 + 1 ≠ w1.heap.size := by
        have := HR1.out.lt
        omega
      clear hAX hbA rc rf rz hwz
      go_wp2_with fail
      go_loopw [36] (fun t36 wr => ∃ v0 v1 v2 v3, OpSt S b ⟨u.u, u.g⟩ no p.top rd t36 v0 v1 v2 v3 ∧ Blk wr w1.heap.size #[v0, v1, v2, v3] 252 ∧ Below w1.heap.size w1 wr) (fun t36 _ => 4 - (intOf t36).toNat)
      case atStart => exact ⟨_, _, _, _, .s0 HE.out, HA.out.1, HA.out.2⟩
      case round =>
        obtain ⟨v0, v1, v2, v3, hst, hba, hbr⟩ := hrel
        have HAr := Lib.hid hba
        have HBr := Lib.hid hbr
        have HBW := Lib.hid (HB1.out.trans (hbr.mono HB1.out.size))
        have hU := HU1.out.keepB hbr HU1.out.lt
        have hP := HP1.out.keepB hbr HP1.out.lt
        have hR := HR1.out.keepB hbr HR1.out.lt
        have HRr := Lib.hid hR
        have HPr := Lib.hid hP
        obtain ⟨uc, uf, uz⟩ := hU.facts
        obtain ⟨ac, af, az⟩ := hba.facts
        clear hba hbr hU hP hR
        cases hst with
        | s0 hE =>
          have HE1 := Lib.hid hE
          have HOk := Lib.hid (HO.out _ HBW.out no nInfo)
          have hix := fun w => (part_idx nInfo nFiles nOut nWay w).1
          unfold Fs.openK4 at HE1
          generalize S.ownF b ⟨u.u, u.g⟩ no nInfo = r at HOk HE1
          obtain ⟨n1, e1⟩ := r
          dsimp only at HOk HE1
          unfold nInfo nFiles nOut nWay at hix
          unfold nInfo at HOk
          clear hE
          go_wp2_with fail
          refine HOk.out.mono ?_
          rintro e w2 ⟨rfl, hb2⟩
          have hA2 := HAr.out.keep hb2
          have hR2 := HRr.out.keep hb2
          have hB2 := bnext HBr.out hb2
          have HA2 := Lib.hid hA2
          have HB2 := Lib.hid hB2
          have HR3 := Lib.hid (hR2.setOther ⟨w1.heap.size, 0, none⟩ (.int .i64 n1) hne1.symm)
          have HB3 := Lib.hid (show Below w1.heap.size w1 (w2.setCell ⟨w1.heap.size, 0, none⟩ (.int .i64 n1)) from hB2.setCell (Nat.le_refl _) _)
          obtain ⟨ac, af, az⟩ := hA2.facts
          obtain ⟨rc, rf, rz⟩ := hR2.facts
          clear hb2 hA2 hR2 hB2 uc uf uz
          by_cases h0 : e1 = 0
          · subst h0
            by_cases hn1 : n1 = 0
            · subst hn1
              have HE2 := Lib.hid (show rd = (cn0, 5) by rw [HE1.out, thereV_z]; rfl)
              go_wp2_with (exact bodyPost_ret (copen_results (x := cn0) (e := 5) HR3.out.set7 rfl rfl) rfl ⟨by rw [HE2.out], below_set7 (HB1.out.trans (HB3.out.mono HB1.out.size)) (by omega)⟩)
            · have hn1' : (n1 == 0) = false := by simpa using hn1
              have HE2 := Lib.hid (show rd = S.openK3 b ⟨u.u, u.g⟩ no p.top n1 by rw [HE1.out, thereV_0 hn1, if_neg (by simp)])
              clear HE1 hn1
              go_wp2_with fail
              go_roundw
              case measure => simp [intOf]
              case rel => exact ⟨_, _, _, _, .s1 n1 HE2.out, HA2.out.set 0 _, HB3.out⟩
          · have h0' : (e1 == 0) = false := by simpa using h0
            have h0'' : (e1 != 0) = true := by simpa using h0
            have HE2 := Lib.hid (show rd = (cn0, e1) by rw [HE1.out, thereV_e n1 h0, if_pos h0])
            clear h0
            go_wp2_with (exact bodyPost_ret (copen_results (x := cn0) (e := e1) HR3.out.set7 rfl rfl) rfl ⟨by rw [HE2.out], below_set7 (HB1.out.trans (HB3.out.mono HB1.out.size)) (by omega)⟩)
        | s1 i0 hE =>
          have HE1 := Lib.hid hE
          have HOk := Lib.hid (HO.out _ HBW.out no nFiles)
          have hix := fun w => (part_idx nInfo nFiles nOut nWay w).2.1
          unfold Fs.openK3 at HE1
          generalize S.ownF b ⟨u.u, u.g⟩ no nFiles = r at HOk HE1
          obtain ⟨n1, e1⟩ := r
          dsimp only at HOk HE1
          unfold nInfo nFiles nOut nWay at hix
          unfold nFiles at HOk
          clear hE
          go_wp2_with fail
          refine HOk.out.mono ?_
          rintro e w2 ⟨rfl, hb2⟩
          have hA2 := HAr.out.keep hb2
          have hR2 := HRr.out.keep hb2
          have hB2 := bnext HBr.out hb2
          have HA2 := Lib.hid hA2
          have HB2 := Lib.hid hB2
          have HR3 := Lib.hid (hR2.setOther ⟨w1.heap.size, 1, none⟩ (.int .i64 n1) hne1.symm)
          have HB3 := Lib.hid (show Below w1.heap.size w1 (w2.setCell ⟨w1.heap.size, 1, none⟩ (.int .i64 n1)) from hB2.setCell (Nat.le_refl _) _)
          obtain ⟨ac, af, az⟩ := hA2.facts
          obtain ⟨rc, rf, rz⟩ := hR2.facts
          clear hb2 hA2 hR2 hB2 uc uf uz
          by_cases h0 : e1 = 0
          · subst h0
            by_cases hn1 : n1 = 0
            · subst hn1
              have HE2 := Lib.hid (show rd = (cn0, 5) by rw [HE1.out, thereV_z]; rfl)
              go_wp2_with (exact bodyPost_ret (copen_results (x := cn0) (e := 5) HR3.out.set7 rfl rfl) rfl ⟨by rw [HE2.out], below_set7 (HB1.out.trans (HB3.out.mono HB1.out.size)) (by omega)⟩)
            · have hn1' : (n1 == 0) = false := by simpa using hn1
              have HE2 := Lib.hid (show rd = S.openK2 b ⟨u.u, u.g⟩ no p.top i0 n1 by rw [HE1.out, thereV_0 hn1, if_neg (by simp)])
              clear HE1 hn1
              go_wp2_with fail
              go_roundw
              case measure => simp [intOf]
              case rel => exact ⟨_, _, _, _, .s2 i0 n1 HE2.out, HA2.out.set 1 _, HB3.out⟩
          · have h0' : (e1 == 0) = false := by simpa using h0
            have h0'' : (e1 != 0) = true := by simpa using h0
            have HE2 := Lib.hid (show rd = (cn0, e1) by rw [HE1.out, thereV_e n1 h0, if_pos h0])
            clear h0
            go_wp2_with (exact bodyPost_ret (copen_results (x := cn0) (e := e1) HR3.out.set7 rfl rfl) rfl ⟨by rw [HE2.out], below_set7 (HB1.out.trans (HB3.out.mono HB1.out.size)) (by omega)⟩)
        | s2 i0 f0 hE =>
          have HE1 := Lib.hid hE
          have HOk := Lib.hid (HO.out _ HBW.out no nOut)
          have hix := fun w => (part_idx nInfo nFiles nOut nWay w).2.2.1
          unfold Fs.openK2 at HE1
          generalize S.ownF b ⟨u.u, u.g⟩ no nOut = r at HOk HE1
          obtain ⟨n1, e1⟩ := r
          dsimp only at HOk HE1
          unfold nInfo nFiles nOut nWay at hix
          unfold nOut at HOk
          clear hE
          go_wp2_with fail
          refine HOk.out.mono ?_
          rintro e w2 ⟨rfl, hb2⟩
          have hA2 := HAr.out.keep hb2
          have hR2 := HRr.out.keep hb2
          have hB2 := bnext HBr.out hb2
          have HA2 := Lib.hid hA2
          have HB2 := Lib.hid hB2
          have HR3 := Lib.hid (hR2.setOther ⟨w1.heap.size, 2, none⟩ (.int .i64 n1) hne1.symm)
          have HB3 := Lib.hid (show Below w1.heap.size w1 (w2.setCell ⟨w1.heap.size, 2, none⟩ (.int .i64 n1)) from hB2.setCell (Nat.le_refl _) _)
          obtain ⟨ac, af, az⟩ := hA2.facts
          obtain ⟨rc, rf, rz⟩ := hR2.facts
          clear hb2 hA2 hR2 hB2 uc uf uz
          by_cases h0 : e1 = 0
          · subst h0
            have HE2 := Lib.hid (show rd = S.openK1 b ⟨u.u, u.g⟩ no p.top i0 f0 n1 by rw [HE1.out, if_neg (by simp)])
            clear HE1
            cases hz : (n1 == 0) with
            | true =>
              go_wp2_with fail
              go_roundw
              case measure => simp [intOf]
              case rel => exact ⟨_, _, _, _, .s3 i0 f0 n1 HE2.out, HA2.out.set 2 _, HB3.out⟩
            | false =>
              go_wp2_with fail
              go_roundw
              case measure => simp [intOf]
              case rel => exact ⟨_, _, _, _, .s3 i0 f0 n1 HE2.out, HA2.out.set 2 _, HB3.out⟩
          · have h0' : (e1 == 0) = false := by simpa using h0
            have h0'' : (e1 != 0) = true := by simpa using h0
            have HE2 := Lib.hid (show rd = (cn0, e1) by rw [HE1.out, if_pos h0])
            clear h0
            go_wp2_with (exact bodyPost_ret (copen_results (x := cn0) (e := e1) HR3.out.set7 rfl rfl) rfl ⟨by rw [HE2.out], below_set7 (HB1.out.trans (HB3.out.mono HB1.out.size)) (by omega)⟩)
        | s3 i0 f0 o0 hE =>
          have HE1 := Lib.hid hE
          have HOk := Lib.hid (HO.out _ HBW.out no nWay)
          have hix := fun w => (part_idx nInfo nFiles nOut nWay w).2.2.2
          unfold Fs.openK1 at HE1
          generalize S.ownF b ⟨u.u, u.g⟩ no nWay = r at HOk HE1
          obtain ⟨n1, e1⟩ := r
          dsimp only at HOk HE1
          unfold nInfo nFiles nOut nWay at hix
          unfold nWay at HOk
          clear hE
          go_wp2_with fail
          refine HOk.out.mono ?_
          rintro e w2 ⟨rfl, hb2⟩
          have hA2 := HAr.out.keep hb2
          have hR2 := HRr.out.keep hb2
          have hB2 := bnext HBr.out hb2
          have HA2 := Lib.hid hA2
          have HB2 := Lib.hid hB2
          have HR3 := Lib.hid (hR2.setOther ⟨w1.heap.size, 3, none⟩ (.int .i64 n1) hne1.symm)
          have HB3 := Lib.hid (show Below w1.heap.size w1 (w2.setCell ⟨w1.heap.size, 3, none⟩ (.int .i64 n1)) from hB2.setCell (Nat.le_refl _) _)
          obtain ⟨ac, af, az⟩ := hA2.facts
          obtain ⟨rc, rf, rz⟩ := hR2.facts
          clear hb2 hA2 hR2 hB2 uc uf uz
          by_cases h0 : e1 = 0
          · subst h0
            have HE2 := Lib.hid (show rd = S.openK0 no p.top i0 f0 o0 n1 by rw [HE1.out, if_neg (by simp)])
            clear HE1
            cases hz : (n1 == 0) with
            | true =>
              go_wp2_with fail
              go_roundw
              case measure => simp [intOf]
              case rel => exact ⟨_, _, _, _, .s4 i0 f0 o0 n1 HE2.out, HA2.out.set 3 _, HB3.out⟩
            | false =>
              go_wp2_with fail
              go_roundw
              case measure => simp [intOf]
              case rel => exact ⟨_, _, _, _, .s4 i0 f0 o0 n1 HE2.out, HA2.out.set 3 _, HB3.out⟩
          · have h0' : (e1 == 0) = false := by simpa using h0
            have h0'' : (e1 != 0) = true := by simpa using h0
            have HE2 := Lib.hid (show rd = (cn0, e1) by rw [HE1.out, if_pos h0])
            clear h0
            go_wp2_with (exact bodyPost_ret (copen_results (x := cn0) (e := e1) HR3.out.set7 rfl rfl) rfl ⟨by rw [HE2.out], below_set7 (HB1.out.trans (HB3.out.mono HB1.out.size)) (by omega)⟩)
        | s4 i0 f0 o0 y0 hE =>
          have HE1 := Lib.hid hE
          have HWk := Lib.hid (HWh.out _ HBW.out no)
          have pc0 := HPC.out _ HBW.out
          unfold Fs.openK0 at HE1
          unfold whereV at HWk
          clear hE uc uf uz ac af az
          cases hpl : S.place_ no with
          | none =>
            rw [hpl] at HE1 HWk
            clear hpl
            go_wp2_with fail
            refine HWk.out.mono ?_
            rintro e w2 ⟨rfl, hb2⟩
            have hR2 := HRr.out.keep hb2
            have HR2 := Lib.hid hR2
            have HB2 := Lib.hid (bnext HBW.out hb2)
            obtain ⟨rc, rf, rz⟩ := hR2.facts
            clear hb2 hR2 pc0
            go_wp2_with (exact bodyPost_ret (copen_results (x := cn0) (e := 5) HR2.out.set7 rfl rfl) rfl ⟨by rw [HE1.out], below_set7 HB2.out (by omega)⟩)
          | some s =>
            rw [hpl] at HE1 HWk
            clear hpl
            go_wp2_with fail
            refine HWk.out.mono ?_
            rintro e w2 ⟨rfl, hb2⟩
            have hR2 := HRr.out.keep hb2
            have hA2 := HAr.out.keep hb2
            have hP2 := HPr.out.keep hb2
            have HR2 := Lib.hid hR2
            have HB2 := Lib.hid (bnext HBW.out hb2)
            obtain ⟨rc, rf, rz⟩ := hR2.facts
            obtain ⟨ac, af, az⟩ := hA2.facts
            obtain ⟨qc, qf, qz⟩ := hP2.facts
            clear hb2 hR2 hA2 hP2 pc0
            go_wp2_with (exact bodyPost_ret (copen_results (x := ⟨s, no, i0, f0, o0, y0, p.top⟩) (e := 0) HR2.out.set7 rfl rfl) rfl ⟨by rw [HE1.out], below_set7 HB2.out (by omega)⟩)
  · have h0' : (e1 == 0) = false := by simpa using h0
    have h0'' : (e1 != 0) = true := by simpa using h0
    have HE := Lib.hid (show rd = (cn0, e1) by rw [HR.out, thereV_e no h0, if_pos h0])
    clear h0
    go_wp2_with (exact bodyPost_ret (copen_results (x := cn0) (e := e1) HR1.out.set7 rfl rfl) rfl ⟨by rw [HE.out], below_set7 HB1.out (by omega)⟩)
end

end Go.Proofs.YtihdbncoijhihaaGreat

/- Cans are made ready (layer 31): lay.Dir. -/
namespace Go.Proofs.YtihdbncoijhihaaGreat

open Go.RowKit

section

variable {w w' : World} {pf pw : Nat} {R : Rp} {pv : Value} {Y : Sy}

set_option maxRecDepth 100000 in
set_option maxHeartbeats 4000000 in
theorem ldir_any (h : SyAt w pf pw R pv Y) {N : Nat} (hk : SyOk Y N) (hN : N ≤ 900000) (u : Us) (dir : Int) (n : ByteArray) (hn : n.size ≤ 9223372036854775807) :
    Calls Tryz.prog 116 #[.pointer (some ⟨pf, 0, none⟩), .agg #[.int .i64 u.u, .int .i64 u.g, .string u.data], .int .i64 dir, .string n] w fun e w' =>
      e = .returned (.tuple #[.int .i64 (Y.dirF u dir n).2.1, .int .i64 (Y.dirF u dir n).2.2]) ∧ Goes w w' pf pw R pv (Y.dirF u dir n).1 := by
  obtain ⟨u, g, t⟩ := u
  dsimp only
  have hX := Blk.new w #[.int .i64 u, .int .i64 g, .string t] 27
  have hbX := balloc (Below.refl w.heap.size w) (.cells #[.int .i64 u, .int .i64 g, .string t] 27)
  have HC := Lib.hid (ccred_any u g t)
  have HO := Lib.hid (fun w1 (hb1 : Below w.heap.size w w1) => cown_any (h.keep hb1) hk.fine.ok (by omega) u g t dir n)
  have HM := Lib.hid (fun w1 (hb1 : Below w.heap.size w w1) => smkdir_any (h.keep hb1) hk.fine.ok (by omega) ⟨hk.c0, by have := hk.cN; omega⟩ (by have := hk.pl; omega) ⟨u, g⟩ dir n 448 hn)
  have HG := Lib.hid (fun w1 (hb1 : Below w.heap.size w w1) => Goes.of h hb1)
  have HR := Lib.hid (show Y.dirF ⟨u, g, t⟩ dir n = if (Y.fs.ownF Y.dead ⟨u, g⟩ dir n).2 = 0 ∧ (Y.fs.ownF Y.dead ⟨u, g⟩ dir n).1 = 0 then Y.op (fun S now => S.mkdir ⟨u, g⟩ now dir n 448) else (Y, Y.fs.ownF Y.dead ⟨u, g⟩ dir n) from rfl)
  generalize Y.dirF ⟨u, g, t⟩ dir n = rd at HR ⊢
  generalize Y.fs.ownF Y.dead ⟨u, g⟩ dir n = r at HR HO
  generalize Y.op (fun S now => S.mkdir ⟨u, g⟩ now dir n 448) = q at HR HM
  obtain ⟨no, e1⟩ := r
  dsimp only at HR HO
  clear h hk
  go_enter Tryz.func116, Tryz.ntmps116
  go_upto_region 1 with fail
  generalize w.alloc (.cells #[.int .i64 u, .int .i64 g, .string t] 27) = W0 at hX hbX ⊢
  have HX := Lib.hid hX
  have HBX := Lib.hid hbX
  obtain ⟨xc, xf, xz⟩ := hX.facts
  clear hX hbX
  go_wp2_with fail
  refine (HO.out _ HBX.out).mono ?_
  rintro e w1 ⟨rfl, hb1⟩
  have HB1 := Lib.hid (bnext HBX.out hb1)
  have HX1 := Lib.hid (HX.out.keep hb1)
  clear hb1 xc xf xz
  by_cases h0 : e1 = 0
  · by_cases h1 : no = 0
    · have HE := Lib.hid (HR.out.trans (if_pos ⟨h0, h1⟩))
      subst h0 h1
      obtain ⟨xc, xf, xz⟩ := HX1.out.facts
      go_wp2_with fail
      refine (HC.out _).mono ?_
      rintro e w2 ⟨rfl, hb2⟩
      have HB2 := Lib.hid (bnext HB1.out hb2)
      clear hb2 xc xf xz
      go_wp2_with fail
      refine (HM.out _ HB2.out).mono ?_
      rintro e w3 ⟨rfl, R3, hY3, hS3⟩
      have HG3 := Lib.hid (show Goes w w3 pf pw R pv q.1 from ⟨R3, hY3, (Stp.of_below HB2.out).trans hS3⟩)
      clear hY3 hS3
      go_wp2_with fail
      go_ret2
      rw [HE.out]
      exact ⟨rfl, HG3.out⟩
    · have h1b : (no == 0) = false := by simpa using h1
      have HE := Lib.hid (HR.out.trans (if_neg (fun h => h1 h.2)))
      subst h0
      clear h1
      go_wp2_with fail
      go_ret2
      rw [HE.out]
      exact ⟨rfl, HG.out _ HB1.out⟩
  · have h0b : (e1 == 0) = false := by simpa using h0
    have HE := Lib.hid (HR.out.trans (if_neg (fun h => h0 h.1)))
    clear h0
    go_wp2_with fail
    go_ret2
    rw [HE.out]
    exact ⟨rfl, HG.out _ HB1.out⟩
end

end Go.Proofs.YtihdbncoijhihaaGreat

/- Trees that are to be (layer 22): how a seed lies; Limits. -/
namespace Go.Proofs.YtihdbncoijhihaaGreat

open Go.RowKit

def mtC (m : Mt) : List Value := [.string m.path, .int .i64 m.b, .int .i64 m.n]
theorem mtC_len (m : Mt) : (mtC m).length = 3 := rfl
def mtR (cs : List Value) (m : Mt) : Prop := cs = mtC m
def itC (x : It) : List Value := [.string x.path, .int .i64 x.kind, .int .i64 x.mode, .int .i64 x.uid, .int .i64 x.gid, .int .i64 x.mtime, .string x.data]
theorem itC_len (x : It) : (itC x).length = 7 := rfl
def itR (cs : List Value) (x : It) : Prop := cs = itC x
theorem SliceAt.keep {α : Type} {w w' : World} {sz n c : Nat} {Rl : List Value → α → Prop} {a : Option Addr} {xs : List α} (h : SliceAt w sz Rl a n c xs) (hb : Below w.heap.size w w') : SliceAt w' sz Rl a n c xs := h.below hb (Nat.le_refl _)
/-- a seed: where its mounts and items lie. -/
structure SdAt (w : World) (ma : Option Addr) (mn mc : Nat) (ia : Option Addr) (il ic : Nat) (ms : List Mt) (is : List It) : Prop where
  m : SliceAt w 3 mtR ma mn mc ms
  i : SliceAt w 7 itR ia il ic is
theorem SdAt.keep {w w' : World} {ma : Option Addr} {mn mc : Nat} {ia : Option Addr} {il ic : Nat} {ms : List Mt} {is : List It} (h : SdAt w ma mn mc ia il ic ms is) (hb : Below w.heap.size w w') : SdAt w' ma mn mc ia il ic ms is := ⟨h.m.keep hb, h.i.keep hb⟩
theorem mt_cells {w : World} {b off n c : Nat} {ms : List Mt} (h : SliceAt w 3 mtR (some ⟨b, off, none⟩) n c ms) (k : Nat) (hk : k < ms.length) :
    w.cell? ⟨b, off + k * 3, none⟩ = some (.string ms[k].path) ∧ w.cell? ⟨b, off + k * 3 + 1, none⟩ = some (.int .i64 ms[k].b) ∧ w.cell? ⟨b, off + k * 3 + 2, none⟩ = some (.int .i64 ms[k].n) := by
  obtain ⟨hl, -, -, h0 | ⟨b', off', he, hb, hel⟩⟩ := h
  · omega
  · injection he with he
    injection he with e1 e2
    subst e1 e2
    obtain ⟨cs, h1, h2, h3⟩ := hel k hk
    unfold mtR at h2
    subst h2
    exact ⟨h3 0 (by rw [mtC_len]; omega), h3 1 (by rw [mtC_len]; omega), h3 2 (by rw [mtC_len]; omega)⟩
theorem it_cells {w : World} {b off n c : Nat} {is : List It} (h : SliceAt w 7 itR (some ⟨b, off, none⟩) n c is) (k : Nat) (hk : k < is.length) :
    w.cell? ⟨b, off + k * 7, none⟩ = some (.string is[k].path) ∧ w.cell? ⟨b, off + k * 7 + 1, none⟩ = some (.int .i64 is[k].kind) ∧ w.cell? ⟨b, off + k * 7 + 2, none⟩ = some (.int .i64 is[k].mode) ∧
    w.cell? ⟨b, off + k * 7 + 3, none⟩ = some (.int .i64 is[k].uid) ∧ w.cell? ⟨b, off + k * 7 + 4, none⟩ = some (.int .i64 is[k].gid) ∧ w.cell? ⟨b, off + k * 7 + 5, none⟩ = some (.int .i64 is[k].mtime) ∧ w.cell? ⟨b, off + k * 7 + 6, none⟩ = some (.string is[k].data) := by
  obtain ⟨hl, -, -, h0 | ⟨b', off', he, hb, hel⟩⟩ := h
  · omega
  · injection he with he
    injection he with e1 e2
    subst e1 e2
    obtain ⟨cs, h1, h2, h3⟩ := hel k hk
    unfold itR at h2
    subst h2
    exact ⟨h3 0 (by rw [itC_len]; omega), h3 1 (by rw [itC_len]; omega), h3 2 (by rw [itC_len]; omega), h3 3 (by rw [itC_len]; omega), h3 4 (by rw [itC_len]; omega), h3 5 (by rw [itC_len]; omega), h3 6 (by rw [itC_len]; omega)⟩
theorem slice_some {α : Type} {w : World} {sz n c : Nat} {Rl : List Value → α → Prop} {a : Option Addr} {xs : List α} (h : SliceAt w sz Rl a n c xs) (hn : 0 < n) : ∃ b off, a = some ⟨b, off, none⟩ ∧ b < w.heap.size := by
  obtain ⟨-, -, -, h0 | ⟨b, off, he, hb, -⟩⟩ := h
  · omega
  · exact ⟨b, off, he, hb⟩
theorem limitsF_drop {ms : List Mt} {k : Nat} (hk : k < ms.length) : limitsF (ms.drop k) = if ms[k].path = topB ∧ limB ms[k].b ms[k].n = true then (ms[k].b, ms[k].n) else limitsF (ms.drop (k + 1)) := by
  rw [List.drop_eq_getElem_cons hk, limitsF]
set_option maxRecDepth 100000 in
set_option maxHeartbeats 2000000 in
theorem slimits_any (w : World) {ma : Option Addr} {mn mc : Nat} {ia : Option Addr} {il ic : Nat} {ms : List Mt} {is : List It} (h : SdAt w ma mn mc ia il ic ms is) :
    Calls Tryz.prog 104 #[.agg #[.slice ma mn mc, .slice ia il ic]] w fun e w' => e = .returned (.tuple #[.int .i64 (limitsF ms).1, .int .i64 (limitsF ms).2]) ∧ Below w.heap.size w w' := by
  have HS := Lib.hid h
  have hln := h.m.1
  have hmc := h.m.2.1
  have hmx := h.m.2.2.1
  clear h
  go_enter Tryz.func104, Tryz.ntmps104
  go_wp2_with fail
  go_loopw [9] (fun t9 wr => ∃ k : Nat, k ≤ ms.length ∧ t9 = .int .i64 k ∧ limitsF ms = limitsF (ms.drop k) ∧ Below w.heap.size w wr) (fun t9 _ => ms.length - (intOf t9).toNat)
  case atStart => exact ⟨0, Nat.zero_le _, rfl, rfl, balloc (Below.refl _ _) _⟩
  case round =>
    obtain ⟨k, hk, rfl, hE, hb⟩ := hrel
    have HE := Lib.hid hE
    have HB := Lib.hid hb
    clear hE
    by_cases hlt : k < ms.length
    · obtain ⟨b, off, rfl, hbl⟩ := slice_some HS.out.m (by omega)
      obtain ⟨c0, c1, c2⟩ := mt_cells (HS.out.m.below hb (Nat.le_refl _)) k hlt
      have HQ := Lib.hid (limitsF_drop hlt)
      generalize ms[k] = m at c0 c1 c2 HQ
      obtain ⟨mp, mb, mk⟩ := m
      have hX := Blk.new wr #[.string mp, .int .i64 mb, .int .i64 mk] 114
      have hbX := balloc hb (.cells #[.string mp, .int .i64 mb, .int .i64 mk] 114)
      clear hb
      go_upto_region 4 with fail
      generalize wr.alloc (.cells #[.string mp, .int .i64 mb, .int .i64 mk] 114) = X at hX hbX ⊢
      have HX := Lib.hid hX
      have HBX := Lib.hid hbX
      obtain ⟨xc, xf, xz⟩ := hX.facts
      clear hX hbX c0 c1 c2
      by_cases h1 : mp = topB
      · have h1' : mp.toList = [47] := by rw [h1, ba_list]; rfl
        have HP := Lib.hid h1
        clear h1
        by_cases h2 : mb < 1
        · skip
          have HN := Lib.hid (HE.out.trans (HQ.out.trans (if_neg (fun h => by have h9 : 1 ≤ mb := (lim_of h.2).1; omega))))
          go_wp2_with fail
          go_roundw
          case rel => exact ⟨k + 1, by omega, by go_num, HN.out, HBX.out⟩
          case measure => simp [intOf]; omega
        by_cases h3 : 1073741824 < mb
        · skip
          have HN := Lib.hid (HE.out.trans (HQ.out.trans (if_neg (fun h => by have h9 : mb ≤ 1073741824 := (lim_of h.2).2.1; omega))))
          go_wp2_with fail
          go_roundw
          case rel => exact ⟨k + 1, by omega, by go_num, HN.out, HBX.out⟩
          case measure => simp [intOf]; omega
        by_cases h4 : mk < 1
        · skip
          have HN := Lib.hid (HE.out.trans (HQ.out.trans (if_neg (fun h => by have h9 : 1 ≤ mk := (lim_of h.2).2.2.1; omega))))
          go_wp2_with fail
          go_roundw
          case rel => exact ⟨k + 1, by omega, by go_num, HN.out, HBX.out⟩
          case measure => simp [intOf]; omega
        by_cases h5 : 65536 < mk
        · skip
          have HN := Lib.hid (HE.out.trans (HQ.out.trans (if_neg (fun h => by have h9 : mk ≤ 65536 := (lim_of h.2).2.2.2; omega))))
          go_wp2_with fail
          go_roundw
          case rel => exact ⟨k + 1, by omega, by go_num, HN.out, HBX.out⟩
          case measure => simp [intOf]; omega
        have HN := Lib.hid (HE.out.trans (HQ.out.trans (if_pos ⟨HP.out, lim_mk mb mk (by omega) (by omega) (by omega) (by omega)⟩)))
        have mixed : Tryz.prog.follows .mixedOrders = true := by kernel_rfl
        go_wp2_with fail
        go_region
        all_goals
          go_wp2_with fail
          go_ret2
          rw [HN.out]
          exact ⟨rfl, HBX.out.drew⟩
      · have h1' : (mp.toList == [47]) = false := by
          rw [ba_list]
          simp only [beq_eq_false_iff_ne, ne_eq]
          exact fun e => h1 (ba_eq e)
        have HN := Lib.hid (HE.out.trans (HQ.out.trans (if_neg (fun h => h1 h.1))))
        go_wp2_with fail
        go_roundw
        case rel => exact ⟨k + 1, by omega, by go_num, HN.out, HBX.out⟩
        case measure => simp [intOf]; omega
    · obtain rfl : k = ms.length := by omega
      have HE2 := Lib.hid (show limitsF ms = (65536, 65536) by rw [HE.out, List.drop_length]; rfl)
      clear hb
      go_wp2_with fail
      go_ret2
      rw [HE2.out]
      exact ⟨rfl, HB.out⟩
end Go.Proofs.YtihdbncoijhihaaGreat
