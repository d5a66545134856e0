/- Texts of the proof, part 42. -/
import Derived.Test.YtihdbncoijhihaaGreatDoorTT34
import Derived.Test.YtihdbncoijhihaaGreatDoorTT41
import Derived.Test.YtihdbncoijhihaaGreatDoorTT26
import Derived.Test.YtihdbncoijhihaaGreatDoorTT30
import Derived.Test.YtihdbncoijhihaaGreatDoorTT31
set_option linter.unusedVariables false
set_option linter.unusedSimpArgs false
/- A case of the tree's statements (layer 24): is it not too great, and what it plants, with a plan. -/
namespace Go.Proofs.YtihdbncoijhihaaGreatDoor

open Go.RowKit Go.Shelf

attribute [local go_sem] Oper.semAt_some

def few24 (ms : List Mt) (is : List It) (nm : ByteArray) (pl : List (Int × Int)) : Bool := decide (few22 ms is 30 = true ∧ nm.size ≤ 300 ∧ pl.length ≤ 4)
theorem few24_of {ms : List Mt} {is : List It} {nm : ByteArray} {pl : List (Int × Int)} (h : few24 ms is nm pl = true) : few22 ms is 30 = true ∧ nm.size ≤ 300 ∧ pl.length ≤ 4 := of_decide_eq_true h
set_option maxRecDepth 100000 in
set_option maxHeartbeats 2000000 in
theorem few24_any (w : World) {ma : Option Addr} {mn mc : Nat} {ia : Option Addr} {il ic : Nat} {ms : List Mt} {is : List It} (h : SdAt w ma mn mc ia il ic ms is) (u g at' to' : Int) (nm : ByteArray) {pa : Option Addr} {pn pc : Nat} {pl : List (Int × Int)} (hpl : pl.length = pn) (ke : Bool) :
    Calls Tryz.prog 9 #[.agg #[.slice ma mn mc, .slice ia il ic, .int .i64 u, .int .i64 g, .int .i64 at', .int .i64 to', .string nm, .slice pa pn pc, .bool ke]] w fun e w' => e = .returned (.bool (few24 ms is nm pl)) ∧ Below w.heap.size w w' := by
  have hB := Blk.new w #[.slice ma mn mc, .slice ia il ic, .int .i64 u, .int .i64 g, .int .i64 at', .int .i64 to', .string nm, .slice pa pn pc, .bool ke] 30
  have hb := balloc (Below.refl w.heap.size w) (.cells #[.slice ma mn mc, .slice ia il ic, .int .i64 u, .int .i64 g, .int .i64 at', .int .i64 to', .string nm, .slice pa pn pc, .bool ke] 30)
  have HF := Lib.hid (few22_any _ (h.keep ((Below.refl _ w).alloc (Nat.le_refl _) (.cells #[.slice ma mn mc, .slice ia il ic, .int .i64 u, .int .i64 g, .int .i64 at', .int .i64 to', .string nm, .slice pa pn pc, .bool ke] 30))) 30)
  have HE := Lib.hid (show few24 ms is nm pl = decide (few22 ms is 30 = true ∧ nm.size ≤ 300 ∧ pl.length ≤ 4) from rfl)
  rw [hpl] at HE
  generalize few24 ms is nm pl = fb at HE ⊢
  clear h hpl
  go_enter Tryz.func9, Tryz.ntmps9
  go_wp2_with fail
  refine HF.out.mono ?_
  rintro e w1 ⟨rfl, hb1⟩
  have hB1 := hB.keep hb1
  have HB := Lib.hid (bnext hb hb1)
  obtain ⟨bc, bf, bz⟩ := hB1.facts
  clear hB hb hb1 hB1
  cases hf : few22 ms is 30 with
  | false =>
    rw [hf] at HE
    have HG := Lib.hid (show fb = false by rw [HE.out]; simp)
    clear hf
    go_wp2_with fail
    go_ret
    exact ⟨by rw [HG.out]; (try rfl), HB.out⟩
  | true =>
    rw [hf] at HE
    clear hf
    by_cases hn : nm.size ≤ 300
    · have hn1 : (nm.size : Int) ≤ 300 := by omega
      by_cases hp : pn ≤ 4
      · have hp1 : (pn : Int) ≤ 4 := by omega
        have HG := Lib.hid (show fb = true by rw [HE.out]; simp [hn, hp])
        go_wp2_with fail
        go_ret
        exact ⟨by rw [HG.out]; (try rfl), HB.out⟩
      · have hp1 : ¬ (pn : Int) ≤ 4 := by omega
        have HD := Lib.hid (decide_eq_false hp1)
        have HG := Lib.hid (show fb = false by rw [HE.out]; simp [hn, hp])
        go_wp2_with fail
        go_ret
        refine ⟨?_, HB.out⟩
        rw [HG.out]
        show Ending.returned (.bool (decide ((pn : Int) ≤ 4))) = _
        rw [HD.out]
    · have hn1 : ¬ (nm.size : Int) ≤ 300 := by omega
      have HG := Lib.hid (show fb = false by rw [HE.out]; simp [hn])
      go_wp2_with fail
      go_ret
      exact ⟨by rw [HG.out]; (try rfl), HB.out⟩
section

variable {w w' : World} {pf pw : Nat} {R : Rp} {pv : Value} {Y : Sy}

set_option maxRecDepth 100000 in
set_option maxHeartbeats 1000000 in
theorem splan2_any (h : SyAt w pf pw R pv Y) {a : Option Addr} {n c : Nat} {l : List (Int × Int)} (hl1 : SliceAt (w.setCell ⟨pf, 2, none⟩ (.int .i64 0)) 2 fltR a n c l) (hn : l.length ≤ 1000000) :
    Calls Tryz.prog 73 #[.pointer (some ⟨pf, 0, none⟩), .slice a n c] w fun e w' => e = .returned (.tuple #[]) ∧ ∃ pv', SyAt w' pf pw R pv' { Y with count := 0, plan := l } ∧ Mod (fun k => k = pf) w w' := by
  have HN := Lib.hid (snone_any h)
  have HY := Lib.hid h
  obtain ⟨v, W, hrun, hown, hbW⟩ := flt_app hl1 hn
  obtain ⟨a1, c1, rfl, -, -, -⟩ := own_form hown
  have hB1 := h.blk.set 2 (.int .i64 0)
  have hBW := hB1.keep hbW
  have HR := Lib.hid hrun
  have HX := Lib.hid (And.intro hown (And.intro hbW hBW))
  obtain ⟨pc, pf', pz⟩ := h.blk.facts
  obtain ⟨qc, qf, qz⟩ := hBW.facts
  clear h hl1 hrun hown hbW hB1 hBW
  go_enter Tryz.func73, Tryz.ntmps73
  go_wp2_with (first | (go_at_call 144; ((with_reducible refine HN.out.mono ?_); rintro e w1 ⟨rfl, rfl⟩)) | (at_builtin; refine wpList_app_run rfl rfl rfl rfl HR.out ?_))
  go_end0
  obtain ⟨hown, hbW, hBW⟩ := HX.out
  have hm1 := (Mod.refl (fun k => k = pf) w).setCell (a := ⟨pf, 2, none⟩) (.inl rfl) (.int .i64 0)
  have hm := (hm1.trans (Mod.of_below hbW)).setCell (a := ⟨pf, 3, none⟩) (.inl rfl) (.slice a1 l.length c1)
  have hlt : pf < (w.setCell ⟨pf, 2, none⟩ (.int .i64 0)).heap.size := by simpa [World.setCell] using HY.out.blk.lt
  refine ⟨rfl, .slice a1 l.length c1, ⟨hBW.set 3 _, HY.out.wd.mod hm (fun k o hk ho => ?_), ?_⟩, hm⟩
  · subst hk
    have hb := HY.out.blk
    unfold Blk at hb
    rw [hb] at ho
    injection ho with ho
    subst ho
    exact ⟨rfl, fun cur e => by cases e⟩
  · refine own_low (own_mod hown ((Mod.refl (fun k => k = pf) W).setCell (a := ⟨pf, 3, none⟩) (.inl rfl) _) (fun k hk he => ?_)) (Nat.zero_le _)
    subst hk
    have := (own_obj1 hown he).1
    omega
end

/-- another plan. -/
theorem RfAt.setPl {w : World} {pf : Nat} {R : Rf} {S : Fs} (h : RfAt w pf R S) (v : Value) : RfAt (w.setCell ⟨pf, 5, none⟩ v) pf { R with pl := v } S := by
  have hm : Mod (fun k => k = pf) w (w.setCell ⟨pf, 5, none⟩ v) := (Mod.refl (fun k => k = pf) w).setCell (a := ⟨pf, 5, none⟩) (.inl rfl) _
  have hM : Mod (R.F pf) w (w.setCell ⟨pf, 5, none⟩ v) := hm.mono (fun k hk => .inl hk)
  refine ⟨h.blk.set 5 _, own_mod h.nds hm (fun k hk e => ?_), own_mod h.devs hm (fun k hk e => ?_), h.ns, fun x hx => (h.ents x hx).rf h (Stp.of_mod hM)⟩
  · obtain ⟨-, hc⟩ := own_obj1 h.nds e
    exact rf_apart hc h.blk (by decide) hk.symm
  · obtain ⟨-, hc⟩ := own_obj1 h.devs e
    exact rf_apart hc h.blk (by decide) hk.symm
/-- what both plant, with a plan. -/
structure Both (w0 w : World) (S : Fs) (pl : List (Int × Int)) (vp : Value) (p1 q1 : Nat) (R1 : Rp) (v1 : Value) (pf : Nat) (R2 : Rf) : Prop where
  y : SyAt w p1 q1 R1 v1 ⟨S, 0, 0, pl, false⟩
  r : RfAt w pf R2 S
  now : R2.now = 0
  cnt : R2.cnt = .int .i64 0
  plan : R2.pl = vp
  dd : R2.dd = .bool false
  f1 : ∀ k, R1.Y p1 q1 k → w0.heap.size ≤ k
  f2 : ∀ k, R2.F pf k → w0.heap.size ≤ k
  below : Below w0.heap.size w0 w
set_option maxRecDepth 100000 in
set_option maxHeartbeats 4000000 in
theorem both24_any (w : World) {ma : Option Addr} {mn mc : Nat} {ia : Option Addr} {il ic : Nat} {ms : List Mt} {is : List It} (h : SdAt w ma mn mc ia il ic ms is) (u g at' to' : Int) (nm : ByteArray) {pa : Option Addr} {pn pc : Nat} {pl : List (Int × Int)} (hpl : SliceAt w 2 fltR pa pn pc pl) (ke : Bool) (hf : few24 ms is nm pl = true) :
    Calls Tryz.prog 11 #[.agg #[.slice ma mn mc, .slice ia il ic, .int .i64 u, .int .i64 g, .int .i64 at', .int .i64 to', .string nm, .slice pa pn pc, .bool ke]] w fun e w' => ∃ p1 q1 R1 v1 pf R2, e = .returned (.tuple #[.pointer (some ⟨p1, 0, none⟩), .pointer (some ⟨pf, 0, none⟩)]) ∧ Both w w' (plantF ms is) pl (.slice pa pn pc) p1 q1 R1 v1 pf R2 := by
  obtain ⟨hf2, -, hp4⟩ := few24_of hf
  obtain ⟨hm10, hi30, hmp, hip⟩ := few22_of hf2
  have hil : is.length ≤ 30 := by omega
  have hM : ∀ m ∈ ms, m.path.size ≤ 100000 := fun m hm => Nat.le_trans (hmp m hm) (by omega)
  have hI : ∀ x ∈ is, x.path.size ≤ 100000 ∧ x.data.size ≤ 100000 := fun x hx => by
    have := hip x hx
    omega
  have hX := Blk.new w #[.slice ma mn mc, .slice ia il ic, .int .i64 u, .int .i64 g, .int .i64 at', .int .i64 to', .string nm, .slice pa pn pc, .bool ke] 30
  have hbX := balloc (Below.refl w.heap.size w) (.cells #[.slice ma mn mc, .slice ia il ic, .int .i64 u, .int .i64 g, .int .i64 at', .int .i64 to', .string nm, .slice pa pn pc, .bool ke] 30)
  have HS := Lib.hid h
  have HQ := Lib.hid hpl
  have HL4 := Lib.hid hp4
  obtain ⟨S, hS⟩ : ∃ S, plantF ms is = S := ⟨_, rfl⟩
  rw [hS]
  clear h hpl hf hf2 hp4 hmp hip
  go_enter Tryz.func11, Tryz.ntmps11
  go_upto_region 1 with fail
  generalize w.alloc (.cells #[.slice ma mn mc, .slice ia il ic, .int .i64 u, .int .i64 g, .int .i64 at', .int .i64 to', .string nm, .slice pa pn pc, .bool ke] 30) = w1 at hX hbX ⊢
  have HBw := Lib.hid hbX
  have HX := Lib.hid hX
  obtain ⟨bc, bf, bz⟩ := hX.facts
  have HP1 := Lib.hid (fun wr (hb : Below w1.heap.size w1 wr) => plant_any wr (HS.out.keep (HBw.out.trans (hb.mono HBw.out.size))) (by omega) (by omega) hM hI)
  have HP2 := Lib.hid (fun wr (hb : Below w1.heap.size w1 wr) => (rplant22K_any wr (HS.out.keep (HBw.out.trans (hb.mono HBw.out.size))) (by omega) (by omega) hM hI).mono
    (fun e w' ⟨pf, R, h1, h2, h3, h4, h5⟩ => (⟨pf, R, h1, h2, fun k hk => Nat.le_trans hb.size (h3 k hk), h4, h5⟩ : ∃ pf R, e = Ending.returned (.pointer (some ⟨pf, 0, none⟩)) ∧ RfAt w' pf R (plantF ms is) ∧ (∀ k, R.F pf k → w1.heap.size ≤ k) ∧ Rf.Like rf0 R ∧ Below wr.heap.size wr w')))
  rw [hS] at HP1 HP2
  clear hX hbX hm10 hil hM hI hi30
  go_cut [4, 5] (fun t4 t5 wx => ∃ p1 q1 R1 v1 pf R2, t4 = .pointer (some ⟨p1, 0, none⟩) ∧ t5 = .pointer (some ⟨pf, 0, none⟩) ∧ SyAt wx p1 q1 R1 v1 ⟨S, 0, 0, [], false⟩ ∧ (∀ k, R1.Y p1 q1 k → w1.heap.size ≤ k) ∧ RfAt wx pf R2 S ∧ (∀ k, R2.F pf k → w1.heap.size ≤ k) ∧ Rf.Like rf0 R2 ∧ Below w1.heap.size w1 wx)
  case first =>
    go_region_held3 (fun w' => (∀ b o, b < w1.heap.size → w'.cell? ⟨b, o, none⟩ = w1.cell? ⟨b, o, none⟩) ∧ Below w1.heap.size w1 w') (first | with_reducible assumption | with_reducible exact keepS_here _ | with_reducible exact keepS_here2 _ | with_reducible exact keepS_call (by assumption) (by assumption) | with_reducible exact keepS_alloc (by assumption) _ | with_reducible exact keepS_allocD (by assumption) _ | with_reducible exact keepS_realloc (by assumption) (by assumption) | with_reducible exact keepS_set4 (by assumption) (by assumption))
      ((first
        | (go_at_call 71; ((with_reducible refine (HP1.out _ (And.right (by assumption))).mono ?_); rintro e w4 ⟨p1, q1, R1, v1, Y1, rfl, hY1, rfl, hf1, hb4⟩; have HY1 := Lib.hid (And.intro hY1 hf1); clear hY1 hf1))
        | (go_at_call 72; ((with_reducible refine (HP2.out _ (And.right (by assumption))).mono ?_); rintro e w5 ⟨pf, R2, rfl, hR2, hf2, hlk, hb5⟩; have HY2 := Lib.hid (And.intro (HY1.out.1.keep hb5) (And.intro hR2 (And.intro hf2 hlk))); clear hR2 hf2 hlk))))
    all_goals
      have hbz : Below w1.heap.size w1 w5 := And.right (by assumption)
      have HBZ := Lib.hid hbz
      go_wp2_with fail
      go_meet
      exact ⟨p1, q1, R1, v1, pf, R2, rfl, rfl, HY2.out.1, HY1.out.2, HY2.out.2.1, HY2.out.2.2.1, HY2.out.2.2.2, HBZ.out⟩
  case rest =>
    obtain ⟨p1, q1, R1, v1, pf, R2, rfl, rfl, hY1, hf1, hR2, hf2, hlk, hbw⟩ := hcut
    generalize wc = wb at hY1 hR2 hbw ⊢
    have hbw0 := HBw.out.trans (hbw.mono HBw.out.size)
    have hp1w : w1.heap.size ≤ p1 := hf1 p1 (.inl rfl)
    have hpfw : w1.heap.size ≤ pf := hf2 pf (.inl rfl)
    have hw1 : w.heap.size ≤ w1.heap.size := HBw.out.size
    have hne : p1 ≠ pf := by
      rintro rfl
      have h1 := hY1.blk
      have h2 := hR2.blk
      unfold Blk at h1 h2
      rw [h1] at h2
      injection h2 with h2
      injection h2 with e1 e2 e3
      revert e2
      decide
    have HXb := Lib.hid (HX.out.keep hbw)
    have HPn := Lib.hid (splan2_any hY1 (HQ.out.below (hbw0.trans ⟨rfl, rfl, rfl, by simp, fun k hk => Below.heap_setCell _ _ _ k (by simp only; omega)⟩) (Nat.le_refl _)) (by have := HL4.out; omega))
    obtain ⟨cc, cf, cz⟩ := (HX.out.keep hbw).facts
    have HZ := Lib.hid (And.intro hf1 (And.intro hf2 (And.intro hlk (And.intro hR2 (And.intro hY1 hbw0)))))
    clear hY1 hf1 hR2 hf2 hlk hbw hbw0 bc bf bz
    go_wp2_with fail
    refine HPn.out.mono ?_
    rintro e w2 ⟨rfl, pv', hY2, hm2⟩
    obtain ⟨hf1, hf2, hlk, hR2, hY1, hbw0⟩ := HZ.out
    have hR3 : RfAt w2 pf R2 S := hR2.mod hm2 (fun k o hk ho => by
      subst hk
      have h1 := hY1.blk
      unfold Blk at h1
      rw [h1] at ho
      injection ho with ho
      subst ho
      exact ⟨rfl, fun cur e => by injection e with e1 e2; revert e2; decide⟩)
    have hX3 := HXb.out.mod hm2 (show ¬ w.heap.size = p1 by have := HX.out.lt; omega)
    obtain ⟨dc, df, dz⟩ := hX3.facts
    obtain ⟨gc, gf, gz⟩ := hR3.blk.facts
    have HT := Lib.hid (And.intro hY2 (And.intro hR3 hm2))
    clear hf1 hf2 hlk hR2 hY1 hbw0 hY2 hR3 hm2 hX3 cc cf cz
    go_wp2_with fail
    go_ret2
    obtain ⟨hf1, hf2, hlk, -, -, hbw0⟩ := HZ.out
    obtain ⟨hY2, hR3, hm2⟩ := HT.out
    have hm3 : Mod (fun k => k = pf) w2 (w2.setCell ⟨pf, 5, none⟩ (.slice pa pn pc)) := (Mod.refl (fun k => k = pf) w2).setCell (a := ⟨pf, 5, none⟩) (.inl rfl) _
    have hl2 := hm2.size
    have hl3 := hm3.size
    have hwb := hbw0.size
    refine ⟨p1, q1, R1, pv', pf, { R2 with pl := .slice pa pn pc }, rfl, ⟨hY2.other hR3.blk rfl (by decide) (by decide) (by decide) hm3, hR3.setPl _, hlk.now, hlk.cnt, rfl, hlk.dd, fun k hk => Nat.le_trans hw1 (hf1 k hk), fun k hk => Nat.le_trans hw1 (hf2 k hk), ?_⟩⟩
    exact hbw0.trans ((hm2.below (fun k hk => by omega) hwb).trans (hm3.below (fun k hk => by omega) (by omega)))
end Go.Proofs.YtihdbncoijhihaaGreatDoor

/- Chapter 29's example; how long a directory's path may be. -/
namespace Go.Proofs.YtihdbncoijhihaaGreatDoor

open Go.RowKit Go.Shelf

attribute [local go_sem] Oper.semAt_some

theorem whereN_size {S : Fs} (h : Pl S) : ∀ (n : Nat) (no : Int) (s t : ByteArray), S.whereN n no s = some t → t.size ≤ s.size + 256 * n + 1
  | 0, _, _, _, e => by cases e
  | n + 1, no, s, t, e => by
    unfold Fs.whereN at e
    by_cases h1 : no = 1
    · rw [if_pos h1] at e
      injection e with e
      subst e
      split
      · show (1 : Nat) ≤ _; omega
      · omega
    · rw [if_neg h1] at e
      cases hn : entName (S.entsOf (S.above no)) (S.child no) with
      | none => rw [hn] at e; cases e
      | some nm =>
        rw [hn] at e
        have h2 := whereN_size h n _ _ _ e
        have h3 : nm.size ≤ 255 := by
          obtain ⟨x, hx, rfl⟩ := entName_mem hn
          unfold Fs.entsOf at hx
          cases hg : S.get (S.above no) with
          | none => rw [hg] at hx; cases hx
          | some a => rw [hg] at hx; exact (h.names a (an_mem hg) x hx).2
        rw [ByteArray.size_append, ByteArray.size_append] at h2
        have h4 : topB.size = 1 := rfl
        omega
theorem place_size {S : Fs} (h : Pl S) {no : Int} {s : ByteArray} (hs : S.place_ no = some s) : s.size ≤ 256 * S.ns.length + 257 := by
  have h1 : s.size ≤ 0 + 256 * (S.ns.length + 1) + 1 := whereN_size h (S.ns.length + 1) no ByteArray.empty s hs
  rw [Nat.zero_add, Nat.mul_add, Nat.add_assoc] at h1
  exact h1
def m29 : ByteArray := ByteArray.mk #[47, 109]
def x29 : ByteArray := ByteArray.mk #[47, 109, 47, 120]
def y29 : ByteArray := ByteArray.mk #[47, 109, 47, 46, 46, 47, 109, 47, 120]
def ms29 : List Mt := [⟨m29, 9, 9⟩]
def is29 : List It := [⟨x29, 2, 0, 0, 0, 0, ⟨#[]⟩⟩]
theorem op29a : (plantF ms29 is29).operandF ⟨0, 0⟩ (ByteArray.mk #[47]) = (fd0, 1) := by kernel_rfl
theorem op29b : (plantF ms29 is29).operandF ⟨0, 0⟩ m29 = (fd0, 16) := by kernel_rfl
theorem op29c : (plantF ms29 is29).operandF ⟨0, 0⟩ y29 = (⟨3, ByteArray.mk #[120], 4, false⟩, 0) := by kernel_rfl
theorem tp29 : (plantF ms29 is29).topF 4 = (3, m29, 0) := by kernel_rfl
theorem pt29 : (plantF ms29 is29).pathF 3 (ByteArray.mk #[120]) = (x29, 0) := by kernel_rfl
theorem tl29 : (Fs.topNo (plantF ms29 is29).topsL).length = 2 := by kernel_rfl
theorem ns29 : (plantF ms29 is29).ns.length = 4 := by kernel_rfl
theorem ds29 : (plantF ms29 is29).ds.length = 2 := by kernel_rfl
theorem sd29 {w : World} {b c : Nat} (h : Blk w b #[.string (ByteArray.mk #[47, 109]), .int .i64 9, .int .i64 9] 159) (h' : Blk w c #[.string (ByteArray.mk #[47, 109, 47, 120]), .int .i64 2, .int .i64 0, .int .i64 0, .int .i64 0, .int .i64 0, .string (ByteArray.mk #[])] 161) : SdAt w (some ⟨b, 0, none⟩) 1 1 (some ⟨c, 0, none⟩) 1 1 ms29 is29 := by
  refine ⟨⟨rfl, Nat.le_refl _, by omega, .inr ⟨b, 0, rfl, h.lt, fun i hi => ⟨mtC ms29[i], rfl, rfl, fun j hj => ?_⟩⟩⟩, ⟨rfl, Nat.le_refl _, by omega, .inr ⟨c, 0, rfl, h'.lt, fun i hi => ⟨itC is29[i], rfl, rfl, fun j hj => ?_⟩⟩⟩⟩
  · rw [mtC_len] at hj
    rw [h.cell]
    have hi3 : i < 1 := hi
    match i, hi3 with
    | 0, _ => match j, hj with
      | 0, _ => rfl
      | 1, _ => rfl
      | 2, _ => rfl
  · rw [itC_len] at hj
    rw [h'.cell]
    have hi3 : i < 1 := hi
    match i, hi3 with
    | 0, _ => match j, hj with
      | 0, _ => rfl
      | 1, _ => rfl
      | 2, _ => rfl
      | 3, _ => rfl
      | 4, _ => rfl
      | 5, _ => rfl
      | 6, _ => rfl
set_option maxRecDepth 100000 in
set_option maxHeartbeats 4000000 in
theorem awake29_any (w : World) :
    Calls Tryz.prog 10 #[] w fun e w' => e = .returned (.bool true) ∧ Below w.heap.size w w' := by
  have hX0 := Blk.new w #[.string (ByteArray.mk #[47, 109]), .int .i64 9, .int .i64 9] 159
  have hb0 := balloc (Below.refl w.heap.size w) (.cells #[.string (ByteArray.mk #[47, 109]), .int .i64 9, .int .i64 9] 159)
  have hX := Blk.new (w.alloc (.cells #[.string (ByteArray.mk #[47, 109]), .int .i64 9, .int .i64 9] 159)) #[.string (ByteArray.mk #[47, 109, 47, 120]), .int .i64 2, .int .i64 0, .int .i64 0, .int .i64 0, .int .i64 0, .string (ByteArray.mk #[])] 161
  have hb := balloc hb0 (.cells #[.string (ByteArray.mk #[47, 109, 47, 120]), .int .i64 2, .int .i64 0, .int .i64 0, .int .i64 0, .int .i64 0, .string (ByteArray.mk #[])] 161)
  have hY0 := hX0.old (.cells #[.string (ByteArray.mk #[47, 109, 47, 120]), .int .i64 2, .int .i64 0, .int .i64 0, .int .i64 0, .int .i64 0, .string (ByteArray.mk #[])] 161)
  have HPl := Lib.hid (plant_any _ (sd29 hY0 hX) (by show (1 : Nat) ≤ _; omega) (by show (1 : Nat) ≤ _; omega) (fun m hm => by
    have : ∀ x ∈ ms29, x.path.size ≤ 100000 := by decide
    exact this m hm) (fun x hx => by
    have : ∀ x ∈ is29, x.path.size ≤ 100000 ∧ x.data.size ≤ 100000 := by decide
    exact this x hx))
  have HOk := Lib.hid (plant_ok ms29 is29)
  have HPp := Lib.hid (plant_pl ms29 is29)
  have HB := Lib.hid hb
  have hz : (w.alloc (.cells #[.string (ByteArray.mk #[47, 109]), .int .i64 9, .int .i64 9] 159)).heap.size = w.heap.size + 1 := by simp
  rw [hz] at HPl
  clear hX0 hb0 hX hb hY0 hz
  go_enter Tryz.func10, Tryz.ntmps10
  go_wp2_with fail
  refine HPl.out.mono ?_
  rintro e w1 ⟨pf, pw, R, pv, Y, rfl, hY, rfl, -, hb1⟩
  have HB1 := Lib.hid (bnext HB.out hb1)
  have HOp := Lib.hid (fun w2 (hb : Below w1.heap.size w1 w2) p (hp : p.size ≤ 100000) => toperand_any (hY.keep hb) HOk.out (by show (4 : Nat) ≤ _; omega) HPp.out rfl ⟨0, 0⟩ p hp)
  have HTp := Lib.hid (fun w2 (hb : Below w1.heap.size w1 w2) => ttop_any (hY.keep hb) HOk.out HPp.out (by show (plantF ms29 is29).ns.length ≤ _; rw [ns29]; omega) rfl 4)
  have HPt := Lib.hid (fun w2 (hb : Below w1.heap.size w1 w2) => tpath_any (hY.keep hb) HOk.out HPp.out (by show (plantF ms29 is29).ns.length ≤ _; rw [ns29]; omega) rfl 3 (ByteArray.mk #[120]) (by decide) (fun s hs => by
    have h1 := place_size HPp.out hs
    rw [ns29] at h1
    omega))
  have HTo := Lib.hid (fun w2 (hb : Below w1.heap.size w1 w2) => tops_any (hY.keep hb) HOk.out HPp.out (by show (plantF ms29 is29).ns.length ≤ _; rw [ns29]; omega) (by show (plantF ms29 is29).ds.length ≤ _; rw [ds29]; omega))
  have HO1 := Lib.hid (fun w2 hb => HOp.out w2 hb (ByteArray.mk #[47]) (by decide))
  have HO2 := Lib.hid (fun w2 hb => HOp.out w2 hb m29 (by decide))
  have HO3 := Lib.hid (fun w2 hb => HOp.out w2 hb y29 (by decide))
  dsimp only at HO1 HO2 HO3 HTp HPt HTo
  rw [op29a] at HO1
  rw [op29b] at HO2
  rw [op29c] at HO3
  rw [tp29] at HTp
  rw [pt29] at HPt
  have hl2 := tl29
  obtain ⟨L, hL⟩ : ∃ L, Fs.topNo (plantF ms29 is29).topsL = L := ⟨_, rfl⟩
  rw [hL] at HTo hl2
  have hl3 : (L.length : Int) = 2 := by omega
  dsimp only [Fd.v, fd0] at HO1 HO2 HO3
  unfold m29 at HO2 HTp
  unfold y29 at HO3
  unfold x29 at HPt
  have HR0 := Lib.hid (Below.refl w1.heap.size w1)
  clear hY hb1 HOk HPp HPl HB HOp hL
  go_wp2_with fail
  refine (HO1.out _ HR0.out).mono ?_
  rintro e w2 ⟨rfl, hb2⟩
  have HB2 := Lib.hid hb2
  clear hb2
  go_wp2_with fail
  refine (HO2.out _ (balloc HB2.out _)).mono ?_
  rintro e w3 ⟨rfl, hb3⟩
  have HB3 := Lib.hid (bnext (balloc HB2.out _) hb3)
  clear hb3
  go_wp2_with fail
  refine (HO3.out _ (balloc HB3.out _)).mono ?_
  rintro e w4 ⟨rfl, hb4⟩
  have hX4 := Blk.new w4 #[.int .i64 3, .string (ByteArray.mk #[120]), .int .i64 4, .bool false] 58
  have hb5 := balloc (bnext (balloc HB3.out _) hb4) (.cells #[.int .i64 3, .string (ByteArray.mk #[120]), .int .i64 4, .bool false] 58)
  have HB5 := Lib.hid hb5
  have HX4 := Lib.hid hX4
  obtain ⟨xc, xf, xz⟩ := hX4.facts
  clear hb4 hb5 hX4
  go_wp2_with fail
  refine (HTp.out _ HB5.out).mono ?_
  rintro e w6 ⟨rfl, hb6⟩
  have HB6 := Lib.hid (bnext HB5.out hb6)
  obtain ⟨yc, yf, yz⟩ := (HX4.out.keep hb6).facts
  clear hb6 xc xf xz
  go_wp2_with fail
  refine (HPt.out _ HB6.out).mono ?_
  rintro e w7 ⟨rfl, hb7⟩
  have HB7 := Lib.hid (bnext HB6.out hb7)
  clear hb7 yc yf yz
  go_wp2_with fail
  refine (HTo.out _ HB7.out).mono ?_
  rintro e w8 ⟨va, vb, rfl, hva, hvb, hb8⟩
  have HB8 := Lib.hid (bnext HB1.out (bnext HB7.out hb8))
  obtain ⟨oa, oc, rfl, -, -, -⟩ := own_form hva
  clear hb8 hva hvb
  go_wp2_with fail
  go_ret
  exact ⟨rfl, HB8.out⟩
end Go.Proofs.YtihdbncoijhihaaGreatDoor
