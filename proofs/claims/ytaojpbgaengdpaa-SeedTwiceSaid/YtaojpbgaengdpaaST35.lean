/- Texts of the proof, part 35. -/
import Derived.Test.YtaojpbgaengdpaaST33
import Derived.Test.YtaojpbgaengdpaaST34
import Derived.Test.YtaojpbgaengdpaaST23
set_option linter.unusedVariables false
set_option linter.unusedSimpArgs false
/- A tree with a clock, whose changes may fail (layer 21): how it lies; none, read, change. -/
namespace Go.Proofs.Ytaojpbgaengdpaa

open Go.RowKit

def fltC (x : Int × Int) : List Value := [.int .i64 x.1, .int .i64 x.2]
theorem fltC_len (x : Int × Int) : (fltC x).length = 2 := rfl
def fltR (cs : List Value) (x : Int × Int) : Prop := cs = fltC x
/-- the tree Y lies at pf, its world at pw. -/
structure SyAt (w : World) (pf pw : Nat) (R : Rp) (pv : Value) (Y : Sy) : Prop where
  blk : Blk w pf #[.pointer (some ⟨pw, 0, none⟩), .int .i64 Y.now, .int .i64 Y.count, pv, .bool Y.dead] 34
  wd : WdAt w pw R Y.fs
  plan : w.ownsRow 0 110 2 pv Y.plan.length (Y.plan.flatMap fltC)
/-- the blocks that may turn. -/
def Rp.Y (R : Rp) (pf pw : Nat) (k : Nat) : Prop := k = pf ∨ R.F pw k
section

variable {w w' : World} {pf pw : Nat} {R : Rp} {pv : Value} {Y : Sy}

theorem SyAt.keep (h : SyAt w pf pw R pv Y) (hb : Below w.heap.size w w') : SyAt w' pf pw R pv Y :=
  ⟨h.blk.keep hb, h.wd.keep hb, own_below h.plan hb (Nat.le_refl _)⟩
theorem SyAt.apart (h : SyAt w pf pw R pv Y) {k : Nat} (hk : R.F pw k) : k ≠ pf := by
  rintro rfl
  obtain ⟨o, ho, hd⟩ := h.wd.kind hk
  have hb := h.blk
  unfold Blk at hb
  rw [hb] at ho
  injection ho with ho
  subst ho
  cases hd
theorem SyAt.plan_apart (h : SyAt w pf pw R pv Y) {k : Nat} (hk : R.Y pf pw k) : pv.ownBlock ≠ some k := by
  intro he
  obtain ⟨-, cur, hc⟩ := own_obj1 h.plan he
  rcases hk with rfl | hk
  · have hb := h.blk
    unfold Blk at hb
    rw [hb] at hc
    cases hc
  · obtain ⟨o, ho, hd⟩ := h.wd.kind hk
    rw [hc] at ho
    injection ho with ho
    subst ho
    cases hd
/-- the world has turned. -/
theorem SyAt.step (h : SyAt w pf pw R pv Y) {R' : Rp} {S : Fs} (hw : WdAt w' pw R' S) (hs : Stp (R.F pw) (R'.F pw) w w') : SyAt w' pf pw R' pv { Y with fs := S } :=
  ⟨h.blk.mod hs.mod (fun hk => h.apart hk rfl), hw, own_mod h.plan hs.mod (fun k hk => h.plan_apart (.inr hk))⟩
/-- the clock, the count, the plan, the dead mark have turned. -/
theorem SyAt.turnF (h : SyAt w pf pw R pv Y) (hm : Mod (fun k => k = pf) w w') {Z : Sy} (hz : Z.fs = Y.fs) (hp : Z.plan = Y.plan) (hb : Blk w' pf #[.pointer (some ⟨pw, 0, none⟩), .int .i64 Z.now, .int .i64 Z.count, pv, .bool Z.dead] 34) : SyAt w' pf pw R pv Z :=
  ⟨hb, by rw [hz]; exact h.wd.mod hm (fun k o hk ho => by
      subst hk
      have hb := h.blk
      unfold Blk at hb
      rw [hb] at ho
      injection ho with ho
      subst ho
      exact ⟨rfl, fun cur e => by cases e⟩),
    by rw [hp]; exact own_mod h.plan hm (fun k hk => h.plan_apart (.inl hk))⟩
theorem stpY {R R' : Rp} {pf pw : Nat} {w w' : World} (h : Stp (R.F pw) (R'.F pw) w w') : Stp (R.Y pf pw) (R'.Y pf pw) w w' :=
  ⟨h.mod.mono (fun k hk => .inr hk), fun k hk => hk.elim (fun e => .inl (.inl e)) (fun hk => (h.new k hk).imp .inr id)⟩
theorem stpF {R : Rp} {pf pw : Nat} {w w' : World} (h : Mod (fun k => k = pf) w w') : Stp (R.Y pf pw) (R.Y pf pw) w w' := Stp.of_mod (h.mono (fun k hk => .inl hk))
theorem snone_any (h : SyAt w pf pw R pv Y) :
    Calls Try.prog 33 #[.pointer (some ⟨pf, 0, none⟩)] w fun e w' => e = .returned (.bool false) ∧ w = w' := by
  obtain ⟨pc, -, -⟩ := h.blk.facts
  clear h
  go_enter Try.func33, Try.ntmps33
  go_wp2_with fail
  go_ret
  exact ⟨rfl, rfl⟩
theorem sread_any (h : SyAt w pf pw R pv Y) :
    Calls Try.prog 19 #[.pointer (some ⟨pf, 0, none⟩)] w fun e w' => e = .returned (.int .i64 (if Y.dead then 20 else 0)) ∧ w = w' := by
  have HN := Lib.hid (snone_any h)
  obtain ⟨pc, -, -⟩ := h.blk.facts
  clear h
  cases hd : Y.dead with
  | true =>
    rw [hd] at pc
    clear hd
    go_enter Try.func19, Try.ntmps19
    go_wp2_with (refine HN.out.mono ?_; rintro e w1 ⟨rfl, rfl⟩)
    go_ret
    exact ⟨rfl, rfl⟩
  | false =>
    rw [hd] at pc
    clear hd
    go_enter Try.func19, Try.ntmps19
    go_wp2_with (refine HN.out.mono ?_; rintro e w1 ⟨rfl, rfl⟩)
    go_ret
    exact ⟨rfl, rfl⟩
theorem change_dead (h : Y.dead = true) : Y.change = (Y, 20) := by unfold Sy.change; rw [if_pos h]
theorem change_none (h : Y.dead = false) (hf : ∀ x ∈ Y.plan, x.1 ≠ Y.count + 1) : Y.change = ({ Y with count := Y.count + 1 }, 0) := by
  unfold Sy.change
  rw [if_neg (by simp [h])]
  rw [List.find?_eq_none.2 (by simpa using hf)]
theorem change_at (h : Y.dead = false) {i : Nat} (hi : i < Y.plan.length) (hb : ∀ j (hj : j < Y.plan.length), j < i → Y.plan[j].1 ≠ Y.count + 1) (he : Y.plan[i].1 = Y.count + 1) :
    Y.change = ({ Y with count := Y.count + 1, dead := Y.plan[i].2 == 20 }, Y.plan[i].2) := by
  unfold Sy.change
  rw [if_neg (by simp [h])]
  have : Y.plan.find? (fun x => x.1 == Y.count + 1) = some Y.plan[i] := by
    rw [List.find?_eq_some_iff_getElem]
    exact ⟨by simpa using he, i, hi, rfl, fun j hj => by simpa using hb j (by omega) hj⟩
  rw [this]
set_option maxRecDepth 100000 in
set_option maxHeartbeats 2000000 in
theorem change_any (h : SyAt w pf pw R pv Y) (hc : 0 ≤ Y.count ∧ Y.count ≤ 4611686018427387904) (hl : Y.plan.length ≤ 1000000) :
    Calls Try.prog 29 #[.pointer (some ⟨pf, 0, none⟩)] w fun e w' => e = .returned (.int .i64 Y.change.2) ∧ SyAt w' pf pw R pv Y.change.1 ∧ Mod (fun k => k = pf) w w' := by
  have HR := Lib.hid (sread_any h)
  have HY := Lib.hid h
  obtain ⟨hc0, hc1⟩ := hc
  obtain ⟨pc, pf', pz⟩ := h.blk.facts
  cases hd : Y.dead with
  | true =>
    have HE := Lib.hid (change_dead hd)
    rw [hd] at HR
    clear h hd
    go_enter Try.func29, Try.ntmps29
    go_wp2_with (refine HR.out.mono ?_; rintro e w1 ⟨rfl, rfl⟩)
    go_ret
    rw [HE.out]
    exact ⟨rfl, HY.out, Mod.refl _ _⟩
  | false =>
    rw [hd] at HR pc
    have HD := Lib.hid hd
    obtain ⟨pa, pcap, rfl, hle, h63, hpf⟩ := own_form h.plan
    have hSl := own_slice (R := fltR) (by omega) fltC_len (fun _ => rfl) h.plan
    have HSl := Lib.hid hSl
    have HPf := Lib.hid hpf
    clear h hd hSl hpf
    go_enter Try.func29, Try.ntmps29
    have hB1 := HY.out.blk
    rw [HD.out] at hB1
    have HB1 := Lib.hid (hB1.set 2 (.int .i64 (Y.count + 1)))
    clear hB1
    go_wp2_with (refine HR.out.mono ?_; rintro e w1 ⟨rfl, rfl⟩)
    go_loopw [23] (fun t23 wr => ∃ k : Nat, k ≤ Y.plan.length ∧ t23 = .int .i64 k ∧ Blk wr pf #[.pointer (some ⟨pw, 0, none⟩), .int .i64 Y.now, .int .i64 (Y.count + 1), .slice pa Y.plan.length pcap, .bool false] 34 ∧ Mod (fun x => x = pf) w wr ∧ (∀ j (hj : j < Y.plan.length), j < k → Y.plan[j].1 ≠ Y.count + 1)) (fun t23 _ => Y.plan.length - (intOf t23).toNat)
    case atStart => exact ⟨0, Nat.zero_le _, rfl, HB1.out, (Mod.refl (fun x => x = pf) w).setCell (a := ⟨pf, 2, none⟩) (.inl rfl) _, fun j _ h => absurd h (Nat.not_lt_zero _)⟩
    case round =>
      obtain ⟨k, hk, rfl, hb, hm, hbef⟩ := hrel
      have HBw := Lib.hid hb
      have HMw := Lib.hid hm
      have HBe := Lib.hid hbef
      obtain ⟨bc, bf, bz⟩ := hb.facts
      have hpl := own_mod HY.out.plan hm (fun k hk => HY.out.plan_apart (.inl hk))
      clear hb hbef
      by_cases hlt : k < Y.plan.length
      · obtain ⟨-, -, -, h0 | ⟨b, off, he, hbl, hel⟩⟩ := own_slice (R := fltR) (by omega) fltC_len (fun _ => rfl) hpl
        · omega
        · subst he
          obtain ⟨cs, e1, e2, e3⟩ := hel k hlt
          unfold fltR at e2
          subst e2
          have c0 := e3 0 (by rw [fltC_len]; omega)
          have c1 := e3 1 (by rw [fltC_len]; omega)
          obtain ⟨fa, fw, hfe⟩ : ∃ fa fw, Y.plan[k] = (fa, fw) := ⟨_, _, rfl⟩
          have HFe := Lib.hid hfe
          have c0' : wr.cell? ⟨b, off + k * 2, none⟩ = some (.int .i64 fa) := by rw [hfe] at c0; exact c0
          have c1' : wr.cell? ⟨b, off + k * 2 + 1, none⟩ = some (.int .i64 fw) := by rw [hfe] at c1; exact c1
          have mixed : Try.prog.follows .mixedOrders = true := by kernel_rfl
          clear hel e1 e3 c0 c1 hpl hm hfe
          have hBX := HBw.out.old (.cells #[.int .i64 fa, .int .i64 fw] 110)
          have hMX := HMw.out.alloc (.cells #[.int .i64 fa, .int .i64 fw] 110)
          have hXX := Blk.new wr #[.int .i64 fa, .int .i64 fw] 110
          go_upto_region 8 with fail
          generalize wr.alloc (.cells #[.int .i64 fa, .int .i64 fw] 110) = X at hBX hMX hXX ⊢
          have HBX := Lib.hid hBX
          have HMX := Lib.hid hMX
          obtain ⟨xc, xf, xz⟩ := hXX.facts
          clear bc bf bz c0' c1'
          obtain ⟨bc, bf, bz⟩ := hBX.facts
          clear hBX hMX hXX
          refine wp_region_lex 6 mixed (by kernel_rfl) (show PanicOk _ from by repeat (first | exact pk_body | refine pk_then ?_ | refine pk_block ?_ | refine pk_scope ?_)) ?_
          simp only [List.take_succ_cons, List.take_zero, List.drop_succ_cons, List.drop_zero]
          repeat still_step
          refine wpStill_nil ?_
          by_cases he : fa = Y.count + 1
          · have HE := Lib.hid (change_at HD.out hlt HBe.out (by rw [HFe.out]; exact he))
            rw [HFe.out] at HE
            have heb : (fa == Y.count + 1) = true := by simpa using he
            clear he
            by_cases h20 : fw = 20
            · have h20' : (fw == 20) = true := by simpa using h20
              have HV := Lib.hid (show (fw == 20) = true from h20')
              clear h20
              go_wp2_with fail
              go_ret
              rw [HE.out]
              exact ⟨rfl, HY.out.turnF (HMX.out.drew.setCell (a := ⟨pf, 4, none⟩) (.inl rfl) _) rfl rfl (by dsimp only; rw [HV.out]; exact HBX.out.drew.set 4 _), HMX.out.drew.setCell (a := ⟨pf, 4, none⟩) (.inl rfl) _⟩
            · have h20' : (fw == 20) = false := by simpa using h20
              have HV := Lib.hid (show (fw == 20) = false from h20')
              clear h20
              go_wp2_with fail
              go_ret
              rw [HE.out]
              exact ⟨rfl, HY.out.turnF (HMX.out.drew.setCell (a := ⟨pf, 4, none⟩) (.inl rfl) _) rfl rfl (by dsimp only; rw [HV.out]; exact HBX.out.drew.set 4 _), HMX.out.drew.setCell (a := ⟨pf, 4, none⟩) (.inl rfl) _⟩
          · have heb : (fa == Y.count + 1) = false := by simpa using he
            have HN := Lib.hid he
            clear he
            go_wp2_with fail
            go_roundw
            case rel => exact ⟨k + 1, by omega, by go_num, HBX.out.drew, HMX.out.drew, fun j hj hlt2 => by
              by_cases hjk : j = k
              · subst hjk; rw [HFe.out]; exact HN.out
              · exact HBe.out j hj (by omega)⟩
            case measure => simp [intOf]; omega
      · obtain rfl : k = Y.plan.length := by omega
        have HE := Lib.hid (change_none HD.out (fun x hx => by obtain ⟨j, hj, rfl⟩ := List.mem_iff_getElem.1 hx; exact HBe.out j hj hj))
        clear hm hpl
        go_wp2_with fail
        go_ret
        rw [HE.out]
        exact ⟨rfl, HY.out.turnF HMw.out rfl rfl (by rw [HD.out]; exact HBw.out), HMw.out⟩
end

end Go.Proofs.Ytaojpbgaengdpaa
