/- Texts of the proof, part 44. -/
import Derived.Test.YtihdbncoijhihaaGreatLK43
import Derived.Test.YtihdbncoijhihaaGreatLK33
import Derived.Test.YtihdbncoijhihaaGreatLK21
set_option linter.unusedVariables false
set_option linter.unusedSimpArgs false
/- A case of the cans' statements (layer 30): is it not too great, and what it plants, at an instant; cans are the same. -/
namespace Go.Proofs.YtihdbncoijhihaaGreat

open Go.RowKit Go.Shelf

attribute [local go_sem] Oper.semAt_some

def few30 (ms : List Mt) (is : List It) (dt pt tx : ByteArray) (pl : List (Int × Int)) : Bool := decide (few22 ms is 30 = true ∧ dt.size ≤ 300 ∧ pt.size ≤ 300 ∧ tx.size ≤ 300 ∧ pl.length ≤ 4)
theorem few30_of {ms : List Mt} {is : List It} {dt pt tx : ByteArray} {pl : List (Int × Int)} (h : few30 ms is dt pt tx pl = true) : few22 ms is 30 = true ∧ dt.size ≤ 300 ∧ pt.size ≤ 300 ∧ tx.size ≤ 300 ∧ pl.length ≤ 4 := of_decide_eq_true h
set_option maxRecDepth 100000 in
set_option maxHeartbeats 4000000 in
theorem few30_any (w : World) {ma : Option Addr} {mn mc : Nat} {ia : Option Addr} {il ic : Nat} {ms : List Mt} {is : List It} (h : SdAt w ma mn mc ia il ic ms is) (u g : Int) (dt pt tx : ByteArray) (no now : Int) {pa : Option Addr} {pn pc : Nat} {pl : List (Int × Int)} (hpl : pl.length = pn) :
    Calls Tryz.prog 9 #[.agg #[.slice ma mn mc, .slice ia il ic, .int .i64 u, .int .i64 g, .string dt, .string pt, .string tx, .int .i64 no, .int .i64 now, .slice pa pn pc]] w fun e w' => e = .returned (.bool (few30 ms is dt pt tx pl)) ∧ Below w.heap.size w w' := by
  have hB := Blk.new w #[.slice ma mn mc, .slice ia il ic, .int .i64 u, .int .i64 g, .string dt, .string pt, .string tx, .int .i64 no, .int .i64 now, .slice pa pn pc] 30
  have hb := balloc (Below.refl w.heap.size w) (.cells #[.slice ma mn mc, .slice ia il ic, .int .i64 u, .int .i64 g, .string dt, .string pt, .string tx, .int .i64 no, .int .i64 now, .slice pa pn pc] 30)
  have HF := Lib.hid (few22_any _ (h.keep ((Below.refl _ w).alloc (Nat.le_refl _) (.cells #[.slice ma mn mc, .slice ia il ic, .int .i64 u, .int .i64 g, .string dt, .string pt, .string tx, .int .i64 no, .int .i64 now, .slice pa pn pc] 30))) 30)
  have HE := Lib.hid (show few30 ms is dt pt tx pl = decide (few22 ms is 30 = true ∧ dt.size ≤ 300 ∧ pt.size ≤ 300 ∧ tx.size ≤ 300 ∧ pl.length ≤ 4) from rfl)
  rw [hpl] at HE
  generalize few30 ms is dt pt tx pl = fb at HE ⊢
  clear h hpl
  go_enter Tryz.func9, Tryz.ntmps9
  go_wp2_with fail
  refine HF.out.mono ?_
  rintro e w1 ⟨rfl, hb1⟩
  have hB1 := hB.keep hb1
  have HB := Lib.hid (bnext hb hb1)
  obtain ⟨bc, bf, bz⟩ := hB1.facts
  clear hB hb hb1 hB1
  cases hf : few22 ms is 30 with
  | false =>
    rw [hf] at HE
    have HG := Lib.hid (show fb = false by rw [HE.out]; simp)
    clear hf
    go_wp2_with fail
    go_ret
    exact ⟨by rw [HG.out]; (try rfl), HB.out⟩
  | true =>
    rw [hf] at HE
    clear hf
    by_cases h1 : dt.size ≤ 300
    · have h1' : (dt.size : Int) ≤ 300 := by omega
      by_cases h2 : pt.size ≤ 300
      · have h2' : (pt.size : Int) ≤ 300 := by omega
        by_cases h3 : tx.size ≤ 300
        · have h3' : (tx.size : Int) ≤ 300 := by omega
          by_cases hp : pn ≤ 4
          · have hp1 : (pn : Int) ≤ 4 := by omega
            have HG := Lib.hid (show fb = true by rw [HE.out]; simp [h1, h2, h3, hp])
            go_wp2_with fail
            go_ret
            exact ⟨by rw [HG.out]; (try rfl), HB.out⟩
          · have hp1 : ¬ (pn : Int) ≤ 4 := by omega
            have HD := Lib.hid (decide_eq_false hp1)
            have HG := Lib.hid (show fb = false by rw [HE.out]; simp [h1, h2, h3, hp])
            go_wp2_with fail
            go_ret
            refine ⟨?_, HB.out⟩
            rw [HG.out]
            show Ending.returned (.bool (decide ((pn : Int) ≤ 4))) = _
            rw [HD.out]
        · have h3' : ¬ (tx.size : Int) ≤ 300 := by omega
          have HG := Lib.hid (show fb = false by rw [HE.out]; simp [h3])
          go_wp2_with fail
          go_ret
          exact ⟨by rw [HG.out]; (try rfl), HB.out⟩
      · have h2' : ¬ (pt.size : Int) ≤ 300 := by omega
        have HG := Lib.hid (show fb = false by rw [HE.out]; simp [h2])
        go_wp2_with fail
        go_ret
        exact ⟨by rw [HG.out]; (try rfl), HB.out⟩
    · have h1' : ¬ (dt.size : Int) ≤ 300 := by omega
      have HG := Lib.hid (show fb = false by rw [HE.out]; simp [h1])
      go_wp2_with fail
      go_ret
      exact ⟨by rw [HG.out]; (try rfl), HB.out⟩
section

variable {w w' : World} {pf pw : Nat} {R : Rp} {pv : Value} {Y : Sy}

set_option maxRecDepth 100000 in
set_option maxHeartbeats 2000000 in
theorem stick_any (h : SyAt w pf pw R pv Y) (hy : 0 ≤ Y.now) (n : Int) (h0 : 0 ≤ n) (h1 : n ≤ 253402300799 - Y.now) :
    Calls Tryz.prog 52 #[.pointer (some ⟨pf, 0, none⟩), .int .i64 n] w fun e w' => e = .returned (.int .i64 0) ∧ SyAt w' pf pw R pv { Y with now := Y.now + n } ∧ Mod (fun k => k = pf) w w' := by
  have HN := Lib.hid (snone_any h)
  have HY := Lib.hid h
  obtain ⟨pc, pf', pz⟩ := h.blk.facts
  have hw : IntKind.i64.wrap (Y.now + n) = Y.now + n := by simp [IntKind.wrap, IntKind.bits, IntKind.signed]; omega
  have hw2 : IntKind.i64.wrap (253402300799 - Y.now) = 253402300799 - Y.now := by simp [IntKind.wrap, IntKind.bits, IntKind.signed]; omega
  have h2 : ¬ n < 0 := by omega
  have h3 : ¬ 253402300799 - Y.now < n := by omega
  clear h
  go_enter Tryz.func52, Tryz.ntmps52
  go_wp2_with fail
  refine HN.out.mono ?_
  rintro e w1 ⟨rfl, rfl⟩
  go_wp2_with fail
  go_ret
  exact ⟨rfl, HY.out.turnF ((Mod.refl (fun k => k = pf) w).setCell (a := ⟨pf, 1, none⟩) (.inl rfl) _) rfl rfl (HY.out.blk.set 1 _), (Mod.refl (fun k => k = pf) w).setCell (a := ⟨pf, 1, none⟩) (.inl rfl) _⟩
end

/-- another instant. -/
theorem RfAt.setNow {w : World} {pf : Nat} {R : Rf} {S : Fs} (h : RfAt w pf R S) (v : Int) : RfAt (w.setCell ⟨pf, 3, none⟩ (.int .i64 v)) pf { R with now := v } S := by
  have hm : Mod (fun k => k = pf) w (w.setCell ⟨pf, 3, none⟩ (.int .i64 v)) := (Mod.refl (fun k => k = pf) w).setCell (a := ⟨pf, 3, none⟩) (.inl rfl) _
  have hM : Mod (R.F pf) w (w.setCell ⟨pf, 3, none⟩ (.int .i64 v)) := hm.mono (fun k hk => .inl hk)
  refine ⟨h.blk.set 3 _, own_mod h.nds hm (fun k hk e => ?_), own_mod h.devs hm (fun k hk e => ?_), h.ns, fun x hx => (h.ents x hx).rf h (Stp.of_mod hM)⟩
  · obtain ⟨-, hc⟩ := own_obj1 h.nds e
    exact rf_apart hc h.blk (by decide) hk.symm
  · obtain ⟨-, hc⟩ := own_obj1 h.devs e
    exact rf_apart hc h.blk (by decide) hk.symm
def nowI (n : Int) : Int := if 0 ≤ n ∧ n ≤ 253402300799 then n else 0
/-- what both plant, with a plan, at an instant. -/
structure Both30 (w0 w : World) (S : Fs) (nw : Int) (pl : List (Int × Int)) (vp : Value) (p1 q1 : Nat) (R1 : Rp) (v1 : Value) (pf : Nat) (R2 : Rf) : Prop where
  y : SyAt w p1 q1 R1 v1 ⟨S, nw, 0, pl, false⟩
  r : RfAt w pf R2 S
  now : R2.now = nw
  cnt : R2.cnt = .int .i64 0
  plan : R2.pl = vp
  dd : R2.dd = .bool false
  f1 : ∀ k, R1.Y p1 q1 k → w0.heap.size ≤ k
  f2 : ∀ k, R2.F pf k → w0.heap.size ≤ k
  below : Below w0.heap.size w0 w
set_option maxRecDepth 100000 in
set_option maxHeartbeats 4000000 in
theorem both30_any (w : World) {ma : Option Addr} {mn mc : Nat} {ia : Option Addr} {il ic : Nat} {ms : List Mt} {is : List It} (h : SdAt w ma mn mc ia il ic ms is) (u g : Int) (dt pt tx : ByteArray) (no now : Int) {pa : Option Addr} {pn pc : Nat} {pl : List (Int × Int)} (hpl : SliceAt w 2 fltR pa pn pc pl) (hf : few30 ms is dt pt tx pl = true) :
    Calls Tryz.prog 11 #[.agg #[.slice ma mn mc, .slice ia il ic, .int .i64 u, .int .i64 g, .string dt, .string pt, .string tx, .int .i64 no, .int .i64 now, .slice pa pn pc]] w fun e w' => ∃ p1 q1 R1 v1 pf R2, e = .returned (.tuple #[.pointer (some ⟨p1, 0, none⟩), .pointer (some ⟨pf, 0, none⟩)]) ∧ Both30 w w' (plantF ms is) (nowI now) pl (.slice pa pn pc) p1 q1 R1 v1 pf R2 := by
  obtain ⟨hf2, -, -, -, hp4⟩ := few30_of hf
  have hf24 : few24 ms is ⟨#[]⟩ pl = true := decide_eq_true ⟨hf2, by decide, hp4⟩
  have hX := Blk.new w #[.slice ma mn mc, .slice ia il ic, .int .i64 u, .int .i64 g, .string dt, .string pt, .string tx, .int .i64 no, .int .i64 now, .slice pa pn pc] 30
  have hbX := balloc (Below.refl w.heap.size w) (.cells #[.slice ma mn mc, .slice ia il ic, .int .i64 u, .int .i64 g, .string dt, .string pt, .string tx, .int .i64 no, .int .i64 now, .slice pa pn pc] 30)
  have HBo := Lib.hid (both24_any _ (h.keep ((Below.refl _ w).alloc (Nat.le_refl _) (.cells #[.slice ma mn mc, .slice ia il ic, .int .i64 u, .int .i64 g, .string dt, .string pt, .string tx, .int .i64 no, .int .i64 now, .slice pa pn pc] 30))) 0 0 0 0 ⟨#[]⟩ (SliceAt.below hpl ((Below.refl _ w).alloc (Nat.le_refl _) (.cells #[.slice ma mn mc, .slice ia il ic, .int .i64 u, .int .i64 g, .string dt, .string pt, .string tx, .int .i64 no, .int .i64 now, .slice pa pn pc] 30)) (Nat.le_refl _)) false hf24)
  generalize plantF ms is = S at HBo ⊢
  clear h hpl hf hf2 hp4 hf24
  go_enter Tryz.func11, Tryz.ntmps11
  go_upto_region 1 with fail
  generalize w.alloc (.cells #[.slice ma mn mc, .slice ia il ic, .int .i64 u, .int .i64 g, .string dt, .string pt, .string tx, .int .i64 no, .int .i64 now, .slice pa pn pc] 30) = w1 at hX hbX HBo ⊢
  have HX := Lib.hid hX
  have HB1 := Lib.hid hbX
  obtain ⟨xc, xf, xz⟩ := hX.facts
  clear hX hbX
  go_wp2_with fail
  refine HBo.out.mono ?_
  rintro e w2 ⟨p1, q1, R1, v1, pf, R2, rfl, hBo⟩
  have HB := Lib.hid hBo
  have HX2 := Lib.hid (HX.out.keep hBo.below)
  have hs1 := HB1.out.size
  have HW := Lib.hid (HB1.out.trans (hBo.below.mono hs1))
  clear hBo xc xf xz
  obtain ⟨xc, xf, xz⟩ := HX2.out.facts
  by_cases hn : 0 ≤ now ∧ now ≤ 253402300799
  · obtain ⟨h0, h1⟩ := hn
    have HE := Lib.hid (show nowI now = now from if_pos ⟨h0, h1⟩)
    have HT := Lib.hid (stick_any HB.out.y (Int.le_refl 0) now h0 (by show now ≤ 253402300799 - 0; omega))
    dsimp only at HT
    have hz : (0 : Int) + now = now := by omega
    rw [hz] at HT
    go_wp2_with fail
    refine HT.out.mono ?_
    rintro e w3 ⟨rfl, hY3, hm3⟩
    have hne : p1 ≠ pf := by
      rintro rfl
      have h1 := HB.out.y.blk
      have h2 := HB.out.r.blk
      unfold Blk at h1 h2
      rw [h1] at h2
      injection h2 with h2
      injection h2 with e1 e2 e3
      revert e2
      decide
    have hR3 : RfAt w3 pf R2 S := HB.out.r.mod hm3 (fun k o hk ho => by
      subst hk
      have h1 := HB.out.y.blk
      unfold Blk at h1
      rw [h1] at ho
      injection ho with ho
      subst ho
      exact ⟨rfl, fun cur e => by injection e with e1 e2; revert e2; decide⟩)
    have hX3 := HX2.out.mod hm3 (show ¬ w.heap.size = p1 by have := HX.out.lt; have := HB.out.f1 p1 (.inl rfl); omega)
    have HY := Lib.hid (And.intro hY3 (And.intro hR3 hm3))
    obtain ⟨gc, gf, gz⟩ := hR3.blk.facts
    clear hY3 hm3 hR3 xc xf xz
    obtain ⟨xc, xf, xz⟩ := hX3.facts
    clear hX3
    go_wp2_with fail
    go_ret2
    rw [HE.out]
    have hm4 : Mod (fun k => k = pf) w3 (w3.setCell ⟨pf, 3, none⟩ (.int .i64 now)) := (Mod.refl (fun k => k = pf) w3).setCell (a := ⟨pf, 3, none⟩) (.inl rfl) _
    have hp1 := HB.out.f1 p1 (.inl rfl)
    have hpf := HB.out.f2 pf (.inl rfl)
    have hs2 := HB.out.below.size
    have hs3 := HY.out.2.2.size
    have hsw := HB1.out.size
    refine ⟨p1, q1, R1, v1, pf, { R2 with now := now }, rfl, ⟨HY.out.1.other HY.out.2.1.blk rfl (by decide) (by decide) (by decide) hm4, HY.out.2.1.setNow now, rfl, HB.out.cnt, HB.out.plan, HB.out.dd, fun k hk => Nat.le_trans hsw (HB.out.f1 k hk), fun k hk => Nat.le_trans hsw (HB.out.f2 k hk), ?_⟩⟩
    exact HW.out.trans ((HY.out.2.2.below (fun k hk => by omega) (by omega)).trans (hm4.below (fun k hk => by omega) (by omega)))
  · have HE := Lib.hid (show nowI now = 0 from if_neg hn)
    have hfin : Both30 w w2 S (nowI now) pl (.slice pa pn pc) p1 q1 R1 v1 pf R2 := by
      rw [HE.out]
      exact ⟨HB.out.y, HB.out.r, HB.out.now, HB.out.cnt, HB.out.plan, HB.out.dd, fun k hk => Nat.le_trans hs1 (HB.out.f1 k hk), fun k hk => Nat.le_trans hs1 (HB.out.f2 k hk), HW.out⟩
    have HFin := Lib.hid hfin
    clear hfin
    by_cases h0 : 0 ≤ now
    · have h1 : ¬ now ≤ 253402300799 := fun h => hn ⟨h0, h⟩
      clear hn
      go_wp2_with fail
      go_ret2
      first | exact ⟨p1, q1, R1, v1, pf, R2, rfl, HFin.out⟩ | exact ⟨p1, q1, R1, v1, pf, rfl, R2, HFin.out⟩
    · clear hn
      go_wp2_with fail
      go_ret2
      first | exact ⟨p1, q1, R1, v1, pf, R2, rfl, HFin.out⟩ | exact ⟨p1, q1, R1, v1, pf, rfl, R2, HFin.out⟩
end Go.Proofs.YtihdbncoijhihaaGreat

/- ragpickerlaw13.Same at one node that lies in two places. -/
namespace Go.Proofs.YtihdbncoijhihaaGreat

open Go.RowKit

set_option maxRecDepth 100000 in
theorem en_eq (s : ByteArray) (k : Int) (w : World) : (Op.equalIn 10000 146 (.agg #[.string s, .int .i64 k]) (.agg #[.string s, .int .i64 k])).run Tryz.prog w = .ok true w := by
  have u1 := Tryz.underlying9
  have u2 := Tryz.underlying3
  have a1 := Tryz.isAgg9
  have z1 := Tryz.sizeOf9
  have a2 := Tryz.isAgg3
  have z2 := Tryz.sizeOf3
  have hS : Tryz.prog.underlying 146 = some (.struct (Tryz.prog.fieldsOf 146)) := by kernel_rfl
  have hp : Tryz.prog.stoodInHeld 146 = false := by kernel_rfl
  rw [show (10000 : Nat) = 9999 + 1 from rfl, run_equalIn_agg w 9999 146 _ _ hS hp]
  simp only [Program.fieldsOf, Tryz.underlying146]
  go_simp
set_option maxRecDepth 100000 in
theorem en_neq (s : ByteArray) (k : Int) (w : World) : (binOp .neq 146 (.agg #[.string s, .int .i64 k]) (.agg #[.string s, .int .i64 k])).run Tryz.prog w = .ok (.bool false) w := by
  rw [run_neq_struct, en_eq]
  rfl
set_option maxRecDepth 100000 in
theorem sp_eq (b n mb mn : Int) (w : World) : (Op.equalIn 10000 212 (.agg #[.int .i64 b, .int .i64 n, .int .i64 mb, .int .i64 mn]) (.agg #[.int .i64 b, .int .i64 n, .int .i64 mb, .int .i64 mn])).run Tryz.prog w = .ok true w := by
  have u2 := Tryz.underlying3
  have a2 := Tryz.isAgg3
  have z2 := Tryz.sizeOf3
  have hS : Tryz.prog.underlying 212 = some (.struct (Tryz.prog.fieldsOf 212)) := by kernel_rfl
  have hp : Tryz.prog.stoodInHeld 212 = false := by kernel_rfl
  rw [show (10000 : Nat) = 9999 + 1 from rfl, run_equalIn_agg w 9999 212 _ _ hS hp]
  simp only [Program.fieldsOf, Tryz.underlying212]
  go_simp
set_option maxRecDepth 100000 in
theorem sp_neq (b n mb mn : Int) (w : World) : (binOp .neq 212 (.agg #[.int .i64 b, .int .i64 n, .int .i64 mb, .int .i64 mn]) (.agg #[.int .i64 b, .int .i64 n, .int .i64 mb, .int .i64 mn])).run Tryz.prog w = .ok (.bool false) w := by
  rw [run_neq_struct, sp_eq]
  rfl
set_option maxRecDepth 100000 in
set_option maxHeartbeats 2000000 in
theorem sameN_any (a : An) {ea fa : Option Addr} {el ec fl fc : Nat} (w : World) (he : EntsAt w ea el ec a.ents) (hf : EntsAt w fa fl fc a.ents) :
    Calls Tryz.prog 195 #[.agg #[.int .i64 a.no, .int .i64 a.dev, .int .i64 a.kind, .int .i64 a.mode, .int .i64 a.uid, .int .i64 a.gid, .int .i64 a.mtime, .int .i64 a.ctime, .int .i64 a.links, .int .i64 a.up, .string a.data, .slice ea el ec], .agg #[.int .i64 a.no, .int .i64 a.dev, .int .i64 a.kind, .int .i64 a.mode, .int .i64 a.uid, .int .i64 a.gid, .int .i64 a.mtime, .int .i64 a.ctime, .int .i64 a.links, .int .i64 a.up, .string a.data, .slice fa fl fc]] w fun e w' => e = .returned (.bool true) ∧ Below w.heap.size w w' := by
  have h1 := he.len
  have h2 := hf.len
  subst h1 h2
  have hlen : a.ents.length ≤ 9223372036854775807 := by have := he.sl.2.1; have := he.sl.2.2.1; omega
  have q0 := (Blk.new w #[.int .i64 a.no, .int .i64 a.dev, .int .i64 a.kind, .int .i64 a.mode, .int .i64 a.uid, .int .i64 a.gid, .int .i64 a.mtime, .int .i64 a.ctime, .int .i64 a.links, .int .i64 a.up, .string a.data, .slice ea a.ents.length ec] 49).old (.cells #[.int .i64 a.no, .int .i64 a.dev, .int .i64 a.kind, .int .i64 a.mode, .int .i64 a.uid, .int .i64 a.gid, .int .i64 a.mtime, .int .i64 a.ctime, .int .i64 a.links, .int .i64 a.up, .string a.data, .slice fa a.ents.length fc] 49)
  have q1 := Blk.new (w.alloc (.cells #[.int .i64 a.no, .int .i64 a.dev, .int .i64 a.kind, .int .i64 a.mode, .int .i64 a.uid, .int .i64 a.gid, .int .i64 a.mtime, .int .i64 a.ctime, .int .i64 a.links, .int .i64 a.up, .string a.data, .slice ea a.ents.length ec] 49)) #[.int .i64 a.no, .int .i64 a.dev, .int .i64 a.kind, .int .i64 a.mode, .int .i64 a.uid, .int .i64 a.gid, .int .i64 a.mtime, .int .i64 a.ctime, .int .i64 a.links, .int .i64 a.up, .string a.data, .slice fa a.ents.length fc] 49
  have hB := balloc (balloc (Below.refl w.heap.size w) (.cells #[.int .i64 a.no, .int .i64 a.dev, .int .i64 a.kind, .int .i64 a.mode, .int .i64 a.uid, .int .i64 a.gid, .int .i64 a.mtime, .int .i64 a.ctime, .int .i64 a.links, .int .i64 a.up, .string a.data, .slice ea a.ents.length ec] 49)) (.cells #[.int .i64 a.no, .int .i64 a.dev, .int .i64 a.kind, .int .i64 a.mode, .int .i64 a.uid, .int .i64 a.gid, .int .i64 a.mtime, .int .i64 a.ctime, .int .i64 a.links, .int .i64 a.up, .string a.data, .slice fa a.ents.length fc] 49)
  have HE := Lib.hid he
  have HF := Lib.hid hf
  rw [World.size_alloc] at q1
  clear he hf
  obtain ⟨es, hes⟩ : ∃ es, a.ents = es := ⟨_, rfl⟩
  rw [hes] at HE HF hlen q0 q1 hB ⊢
  clear hes
  go_enter Tryz.func195, Tryz.ntmps195
  go_wp2_with fail
  generalize (w.alloc (.cells #[.int .i64 a.no, .int .i64 a.dev, .int .i64 a.kind, .int .i64 a.mode, .int .i64 a.uid, .int .i64 a.gid, .int .i64 a.mtime, .int .i64 a.ctime, .int .i64 a.links, .int .i64 a.up, .string a.data, .slice ea es.length ec] 49)).alloc (.cells #[.int .i64 a.no, .int .i64 a.dev, .int .i64 a.kind, .int .i64 a.mode, .int .i64 a.uid, .int .i64 a.gid, .int .i64 a.mtime, .int .i64 a.ctime, .int .i64 a.links, .int .i64 a.up, .string a.data, .slice fa es.length fc] 49) = W at q0 q1 hB ⊢
  have Q0 := Lib.hid q0
  have Q1 := Lib.hid q1
  have HB := Lib.hid hB
  clear hB
  obtain ⟨c0, -, z0⟩ := q0.facts
  obtain ⟨c1, -, z1⟩ := q1.facts
  clear q0 q1
  go_loopw [5] (fun t5 wr => ∃ k : Nat, k ≤ es.length ∧ t5 = .int .i64 k ∧ Below W.heap.size W wr) (fun t5 _ => es.length - (intOf t5).toNat)
  case atStart => exact ⟨0, Nat.zero_le _, rfl, Below.refl _ _⟩
  case round =>
    obtain ⟨k, hk, rfl, hb⟩ := hrel
    have Hb := Lib.hid hb
    have HBb := Lib.hid (HB.out.trans (hb.mono HB.out.size))
    clear c0 z0 c1 z1
    obtain ⟨c0, -, z0⟩ := (Q0.out.keep hb).facts
    obtain ⟨c1, -, z1⟩ := (Q1.out.keep hb).facts
    clear hb
    by_cases hlt : k < es.length
    · have he := HE.out.keep HBb.out
      have hf := HF.out.keep HBb.out
      obtain ⟨b, off, rfl, hbl⟩ := he.some_of (by omega)
      obtain ⟨b2, off2, rfl, hbl2⟩ := hf.some_of (by omega)
      obtain ⟨d0, d1⟩ := he.cell k hlt
      obtain ⟨d2, d3⟩ := hf.cell k hlt
      generalize es[k] = x at d0 d1 d2 d3
      have hnq := en_neq x.name x.no
      have hk2 : (k : Int) < (es.length : Int) := by omega
      clear he hf
      go_wp2_with fail
      go_quiet (fail)
      go_wp2_with fail
      go_roundw
      case measure => simp [intOf]; omega
      case rel => exact ⟨k + 1, by omega, by go_num, below_drewN Hb.out _⟩
    · obtain rfl : k = es.length := by omega
      go_wp2_with fail
      go_ret
      exact ⟨rfl, HBb.out⟩
end Go.Proofs.YtihdbncoijhihaaGreat
