/- Texts of the proof, part 39. -/
import Derived.Test.YtihdbncoijhihaaGreatCK38
import Derived.Test.YtihdbncoijhihaaGreatCK6
import Derived.Test.YtihdbncoijhihaaGreatCK29
import Derived.Test.YtihdbncoijhihaaGreatCK36
import Derived.Test.YtihdbncoijhihaaGreatCK22
import Derived.Test.YtihdbncoijhihaaGreatCK25
set_option linter.unusedVariables false
set_option linter.unusedSimpArgs false
/- Trees that are to be (layer 22), as the reference has them: Plant. -/
namespace Go.Proofs.YtihdbncoijhihaaGreat

open Go.RowKit

section

variable {w w' : World} {pf : Nat} {R R' : Rf} {S : Fs}

/-- numbers stay where a tree turns. -/
theorem OI.rf {base : Nat} {v : Value} {l : List Int} (ho : OI w base v l) (h : RfAt w pf R S) {F' : Nat → Prop} (hs : Stp (R.F pf) F' w w') : OI w' base v l :=
  own_mod ho hs.mod (fun k hk he => by
    obtain ⟨-, cur, hc⟩ := own_obj1 ho he
    obtain ⟨o, h1, hd⟩ := h.kind hk
    rw [hc] at h1
    injection h1 with h1
    subst h1
    rw [show rfKind (.cells cur 3 (0, 0)) = false from rfl] at hd
    cases hd)
/-- the tree stays where numbers turn. -/
theorem RfAt.oi (h : RfAt w pf R S) {base : Nat} {v : Value} {l : List Int} (ho : OI w base v l) (hm : Mod (fun j => v.ownBlock = some j) w w') : RfAt w' pf R S :=
  h.mod hm (fun k o hk hk2 => by
    obtain ⟨-, cur, hc⟩ := own_obj1 ho hk
    rw [hc] at hk2
    injection hk2 with hk2
    subst hk2
    exact ⟨rfl, fun cur e => by cases e⟩)
/-- between the steps of Plant. -/
structure PlRf (w wr : World) (pf : Nat) (S : Fs) : Prop where
  st : ∃ R, RfAt wr pf R S ∧ Rf.Like rf0 R ∧ ∀ k, R.F pf k → w.heap.size ≤ k
  below : Below w.heap.size w wr
theorem PlRf.keep {wr : World} (h : PlRf w wr pf S) (hb : Below wr.heap.size wr w') : PlRf w w' pf S := by
  obtain ⟨⟨R, h1, h2, h3⟩, h6⟩ := h
  exact ⟨⟨R, h1.keep hb, h2, h3⟩, bnext h6 hb⟩
theorem PlRf.of {wr : World} (hb : Below w.heap.size w wr) (hl : Rf.Like rf0 R) (hF : ∀ k, R.F pf k → w.heap.size ≤ k) (hR : RfAt w' pf R' S) (hS : Stp (R.F pf) (R'.F pf) wr w') (hL : Rf.Like R R') : PlRf w w' pf S :=
  ⟨⟨R', hR, hl.trans hL, hS.above hF hb.size⟩, hb.trans (hS.below hF hb.size)⟩
theorem PlRf.oi {wr : World} (h : PlRf w wr pf S) {v : Value} {l : List Int} (ho : OI wr w.heap.size v l) (hm : Mod (fun j => v.ownBlock = some j) wr w') : PlRf w w' pf S := by
  obtain ⟨⟨R, h1, h2, h3⟩, h6⟩ := h
  exact ⟨⟨R, h1.oi ho hm, h2, h3⟩, h6.trans (hm.below (fun k hk => (own_obj1 ho hk).1) h6.size)⟩
theorem pl_small {N : Nat} (h : FsOk S N) (hp : Pl S) : S.ns.length ≤ N := by
  have h1 := hp.len
  have h2 := h.lN
  omega
theorem itemF_eq (S : Fs) (it : It) : itemF S it = if (nodeF S it).2 ≠ 0 then ((((nodeF S it).1.chown c00 0 (nodeF S it).2 it.uid it.gid).1.chmod c00 0 (nodeF S it).2 it.mode).1, (nodeF S it).2) else nodeF S it := rfl
end

set_option maxRecDepth 100000 in
set_option maxHeartbeats 8000000 in
theorem rplant22K_any (w : World) {ma : Option Addr} {mn mc : Nat} {ia : Option Addr} {il ic : Nat} {ms : List Mt} {is : List It} (h : SdAt w ma mn mc ia il ic ms is) (hml : ms.length ≤ 10000) (hil : is.length ≤ 10000)
    (hmp : ∀ m ∈ ms, m.path.size ≤ 100000) (hip : ∀ x ∈ is, x.path.size ≤ 100000 ∧ x.data.size ≤ 100000) :
    Calls Tryz.prog 112 #[.agg #[.slice ma mn mc, .slice ia il ic]] w fun e w' => ∃ pf R, e = .returned (.pointer (some ⟨pf, 0, none⟩)) ∧ RfAt w' pf R (plantF ms is) ∧ (∀ k, R.F pf k → w.heap.size ≤ k) ∧ Rf.Like rf0 R ∧ Below w.heap.size w w' := by
  have HS := Lib.hid h
  have HL := Lib.hid (rlimits22_any (w.alloc (.cells #[.slice ma mn mc, .slice ia il ic] 25)) (h.keep ((Below.refl _ w).alloc (Nat.le_refl _) _)))
  have HN := Lib.hid (fun w => rnew_any (limitsF ms).1 (limitsF ms).2 (limits_ok ms) w)
  have HMp := Lib.hid hmp
  have HIp := Lib.hid hip
  have hln := h.m.1
  have hli := h.i.1
  subst hln hli
  have hB0 := Blk.new w #[.slice ma ms.length mc, .slice ia is.length ic] 25
  have hb0 := balloc (Below.refl w.heap.size w) (.cells #[.slice ma ms.length mc, .slice ia is.length ic] 25)
  have HPl := Lib.hid (show plantF ms is = timesF (itemsF (mountsF (fs0.addRoot 0 (limitsF ms).1 (limitsF ms).2) ms) is).1 (is.zip (itemsF (mountsF (fs0.addRoot 0 (limitsF ms).1 (limitsF ms).2) ms) is).2) from rfl)
  have HOk := Lib.hid (And.intro (FsOk.new (limitsF ms).1 (limitsF ms).2) (Pl.new (limitsF ms).1 (limitsF ms).2))
  generalize fs0.addRoot 0 (limitsF ms).1 (limitsF ms).2 = S0 at HN HPl HOk
  generalize (limitsF ms).1 = lb at HL HN
  generalize (limitsF ms).2 = ln at HL HN
  clear h hmp hip
  go_enter Tryz.func112, Tryz.ntmps112
  go_wp2_with fail
  refine HL.out.mono ?_
  rintro e w1 ⟨rfl, hb1⟩
  have hB1 := hB0.keep hb1
  have hbw1 := bnext hb0 hb1
  clear hB0 hb0 hb1
  go_wp2_with fail
  refine (HN.out _).mono ?_
  rintro e w2 ⟨pf, R0, rfl, hR0, hF0, hL0, hb2⟩
  have hB2 := hB1.keep hb2
  have hP0 : PlRf w w2 pf S0 := ⟨⟨R0, hR0, hL0, fun k hk => Nat.le_trans hbw1.size (hF0 k hk)⟩, bnext hbw1 hb2⟩
  have HP0 := Lib.hid hP0
  have HB2 := Lib.hid hB2
  obtain ⟨bc, bf, bz⟩ := hB2.facts
  clear hB1 hbw1 hR0 hL0 hb2 hF0 hB2 hP0
  go_wp2_with fail
  go_loopw [6] (fun t6 wr => ∃ k : Nat, k ≤ ms.length ∧ t6 = .int .i64 k ∧ PlRf w wr pf (mountsF S0 (ms.take k)) ∧ Blk wr w.heap.size #[.slice ma ms.length mc, .slice ia is.length ic] 25) (fun t6 _ => ms.length - (intOf t6).toNat)
  case atStart => exact ⟨0, Nat.zero_le _, rfl, HP0.out, HB2.out⟩
  case round =>
    obtain ⟨k, hk, rfl, hP, hB⟩ := hrel
    have HP := Lib.hid hP
    have HB := Lib.hid hB
    clear bc bf bz
    obtain ⟨bc, bf, bz⟩ := hB.facts
    have hbw := hP.below
    clear hP hB
    by_cases hlt : k < ms.length
    · obtain ⟨b, off, rfl, hbl⟩ := slice_some HS.out.m (by omega)
      obtain ⟨c0, c1, c2⟩ := mt_cells (HS.out.m.below hbw (Nat.le_refl _)) k hlt
      have HQ := Lib.hid (show mountsF S0 (ms.take (k + 1)) = if ms[k].path = topB then mountsF S0 (ms.take k) else mountF (mountsF S0 (ms.take k)) ms[k] by rw [List.take_succ_eq_append_getElem hlt, mountsF_snoc])
      have HMk := Lib.hid (HMp.out ms[k] (List.getElem_mem hlt))
      have HOkk := Lib.hid (show FsOk (mountsF S0 (ms.take k)) (1 + 2 * k) ∧ Pl (mountsF S0 (ms.take k)) by
        have := mountsF_ok HOk.out.1 (ms.take k)
        rw [List.length_take, Nat.min_eq_left hk] at this
        exact ⟨this, HOk.out.2.mountsF HOk.out.1 _⟩)
      generalize ms[k] = m at c0 c1 c2 HQ HMk
      generalize hS2 : mountsF S0 (ms.take (k + 1)) = S2 at HQ
      have HS2 := Lib.hid hS2
      clear hS2
      generalize hSk : mountsF S0 (ms.take k) = Sk at HQ HP HOkk
      have HSk := Lib.hid hSk
      clear hSk hbw
      by_cases h1 : m.path = topB
      · have h1b : m.path.toList = [47] := by rw [h1, ba_list]; rfl
        have HE := Lib.hid (HQ.out.trans (if_pos h1))
        clear h1
        go_wp2_with fail
        go_roundw
        case rel => exact ⟨k + 1, by omega, by go_num, by rw [show mountsF S0 (ms.take (k + 1)) = Sk from by rw [HS2.out]; exact HE.out]; exact HP.out, HB.out⟩
        case measure => simp [intOf]; omega
      · have h1b : (m.path.toList == [47]) = false := by
          rw [ba_list]
          simp only [beq_eq_false_iff_ne, ne_eq]
          exact fun e => h1 (ba_eq e)
        have HE := Lib.hid (HQ.out.trans (if_neg h1))
        obtain ⟨⟨R, hR, hlk, hF⟩, hbw⟩ := HP.out
        have HM := Lib.hid (rmount22_any hR HOkk.out.1 (by omega) (by have := pl_small HOkk.out.1 HOkk.out.2; omega) hlk.now m HMk.out)
        have HW := Lib.hid (And.intro hR (And.intro hlk (And.intro hF hbw)))
        clear h1 hR hlk hF hbw
        go_wp2_with fail
        refine HM.out.mono ?_
        rintro e w5 ⟨rfl, R5, hR5, hS5, hL5⟩
        obtain ⟨hR, hlk, hF, hbw⟩ := HW.out
        have HB5 := Lib.hid (HB.out.rf hR hS5 rfl)
        have HP5 := Lib.hid (PlRf.of hbw hlk hF hR5 hS5 hL5)
        clear hR5 hS5 hL5 hR hlk hF hbw
        go_wp2_with fail
        go_roundw
        case rel => exact ⟨k + 1, by omega, by go_num, by rw [show mountsF S0 (ms.take (k + 1)) = mountF Sk m from by rw [HS2.out]; exact HE.out]; exact HP5.out, HB5.out⟩
        case measure => simp [intOf]; omega
    · obtain rfl : k = ms.length := by omega
      rw [List.take_length] at HP
      have HOk1 := Lib.hid (And.intro (mountsF_ok HOk.out.1 ms) (HOk.out.2.mountsF HOk.out.1 ms))
      generalize mountsF S0 ms = S1 at HP HOk1 HPl
      have HO0 := Lib.hid (show OI wr w.heap.size (.slice none 0 0) [] from World.ownsRow_nil _ _ _ _)
      clear hbw
      go_wp2_with fail
      go_loopw [8, 7] (fun t8 t7 wr => ∃ (k : Nat) (a : Option Addr) (c : Nat), k ≤ is.length ∧ t8 = .int .i64 k ∧ t7 = .slice a k c ∧ OI wr w.heap.size (.slice a k c) (itemsF S1 (is.take k)).2 ∧ PlRf w wr pf (itemsF S1 (is.take k)).1 ∧ Blk wr w.heap.size #[.slice ma ms.length mc, .slice ia is.length ic] 25) (fun t8 _ _ => is.length - (intOf t8).toNat)
      case atStart => exact ⟨0, _, _, Nat.zero_le _, rfl, rfl, HO0.out, HP.out, HB.out⟩
      case round =>
        obtain ⟨k, a, c, hk, rfl, rfl, hO, hP, hB⟩ := hrel
        have HO := Lib.hid hO
        have HP := Lib.hid hP
        have HB := Lib.hid hB
        clear bc bf bz
        obtain ⟨bc, bf, bz⟩ := hB.facts
        have hbw := hP.below
        clear hP hB hO
        by_cases hlt : k < is.length
        · obtain ⟨b, off, rfl, hbl⟩ := slice_some HS.out.i (by omega)
          obtain ⟨c0, c1, c2, c3, c4, c5, c6⟩ := it_cells (HS.out.i.below hbw (Nat.le_refl _)) k hlt
          have HQ := Lib.hid (show itemsF S1 (is.take (k + 1)) = ((itemF (itemsF S1 (is.take k)).1 is[k]).1, (itemsF S1 (is.take k)).2 ++ [(itemF (itemsF S1 (is.take k)).1 is[k]).2]) by rw [List.take_succ_eq_append_getElem hlt, itemsF_snoc])
          have HMk := Lib.hid (HIp.out is[k] (List.getElem_mem hlt))
          have HOkk := Lib.hid (show FsOk (itemsF S1 (is.take k)).1 (1 + 2 * ms.length + k) ∧ Pl (itemsF S1 (is.take k)).1 by
            have := itemsF_ok HOk1.out.1 (is.take k)
            rw [List.length_take, Nat.min_eq_left hk] at this
            exact ⟨this, HOk1.out.2.itemsF HOk1.out.1 _⟩)
          have HLk := Lib.hid (show (itemsF S1 (is.take k)).2.length = k by rw [itemsF_len, List.length_take, Nat.min_eq_left hk])
          generalize is[k] = it at c0 c1 c2 c3 c4 c5 c6 HQ HMk
          generalize itemsF S1 (is.take k) = Sk at HQ HP HOkk HO HLk
          obtain ⟨Sk, Lk⟩ := Sk
          have hX := Blk.new wr #[.string it.path, .int .i64 it.kind, .int .i64 it.mode, .int .i64 it.uid, .int .i64 it.gid, .int .i64 it.mtime, .string it.data] 116
          have hbX := (Below.refl _ wr).alloc (Nat.le_refl _) (.cells #[.string it.path, .int .i64 it.kind, .int .i64 it.mode, .int .i64 it.uid, .int .i64 it.gid, .int .i64 it.mtime, .string it.data] 116)
          clear hbw
          go_upto_region 13 with fail
          generalize wr.alloc (.cells #[.string it.path, .int .i64 it.kind, .int .i64 it.mode, .int .i64 it.uid, .int .i64 it.gid, .int .i64 it.mtime, .string it.data] 116) = X at hX hbX ⊢
          have HBX := Lib.hid (HB.out.keep hbX)
          have HPX := Lib.hid (HP.out.keep hbX)
          have HOX := Lib.hid (own_below HO.out hbX (Nat.le_refl _))
          have HIX := Lib.hid hX
          obtain ⟨xc, xf, xz⟩ := hX.facts
          obtain ⟨⟨R, hR, hlk, hF⟩, hbw⟩ := HPX.out
          have HM := Lib.hid (rnode22_any hR HOkk.out.1 (by omega) (by have := pl_small HOkk.out.1 HOkk.out.2; omega) hlk.now it HMk.out.1 HMk.out.2)
          have HW := Lib.hid (And.intro hR (And.intro hlk (And.intro hF hbw)))
          have HOk5 := Lib.hid (nodeF_ok HOkk.out.1 it)
          have HIt := Lib.hid (itemF_eq Sk it)
          clear hX hbX c0 c1 c2 c3 c4 c5 c6 hR hlk hF hbw
          go_wp2_with fail
          refine HM.out.mono ?_
          clear HM
          rintro e w5 ⟨rfl, R5, hR5, hS5, hL5⟩
          generalize nodeF Sk it = nd at hR5 HOk5 HIt ⊢
          obtain ⟨S5, no⟩ := nd
          dsimp only at hR5 HOk5 HIt ⊢
          obtain ⟨hR, hlk, hF, hbw⟩ := HW.out
          have hP5 := PlRf.of hbw hlk hF hR5 hS5 hL5
          have hB5 := HBX.out.rf hR hS5 rfl
          have hI5 := HIX.out.rf hR hS5 rfl
          have hO5 : OI w5 w.heap.size (.slice a Lk.length c) Lk := by rw [HLk.out]; exact OI.rf (l := Lk) HOX.out hR hS5
          obtain ⟨g, cap, W, hrun, hOW, hmW⟩ := hO5.app no (by rw [HLk.out]; omega) hP5.below.size
          have hPW := hP5.oi hO5 hmW
          have hBW := hB5.oi hO5 hmW (by decide)
          have hIW := hI5.oi hO5 hmW (by decide)
          rw [HLk.out] at hrun hOW
          have HRun := Lib.hid hrun
          have HPW := Lib.hid hPW
          have HBW := Lib.hid hBW
          have HIW := Lib.hid hIW
          have HOW := Lib.hid hOW
          clear xc xf xz hP5 hR5 hS5 hL5 hR hlk hF hbw hB5 hI5 hO5 hrun hOW hmW hPW hBW
          obtain ⟨xc, xf, xz⟩ := hIW.facts
          clear hIW
          by_cases hno : no = 0
          · have hnb : (no != 0) = false := by simpa using hno
            have HE := Lib.hid (HIt.out.trans (if_neg (by simp [hno])))
            clear hno
            go_wp2_with (at_builtin; refine wpList_app_run rfl rfl rfl rfl HRun.out ?_)
            go_roundw
            case rel =>
              refine ⟨k + 1, _, cap, by omega, by go_num, rfl, ?_, ?_, HBW.out⟩
              · rw [HQ.out, HE.out]; exact HOW.out
              · rw [HQ.out, HE.out]; exact HPW.out
            case measure => simp [intOf]; omega
          · have hnb : (no != 0) = true := by simpa using hno
            have HE := Lib.hid (HIt.out.trans (if_pos hno))
            clear hno
            obtain ⟨⟨R, hR, hlk, hF⟩, hbw⟩ := HPW.out
            have hnow := hlk.now
            have HM := Lib.hid (rowner_any hR HOk5.out no it.uid it.gid)
            rw [show R.now = 0 from hnow] at HM
            have HW := Lib.hid (And.intro hR (And.intro hlk (And.intro hF hbw)))
            clear hR hlk hF hbw hnow
            go_wp2_with (at_builtin; refine wpList_app_run rfl rfl rfl rfl HRun.out ?_)
            refine HM.out.mono ?_
            clear HM
            rintro e w6 ⟨rfl, R6, hR6, hS6, hL6⟩
            obtain ⟨hR, hlk, hF, hbw⟩ := HW.out
            have hB6 := HBW.out.rf hR hS6 rfl
            have hI6 := HIW.out.rf hR hS6 rfl
            have hO6 := OI.rf HOW.out hR hS6
            have hP6 := PlRf.of hbw hlk hF hR6 hS6 hL6
            have HP6 := Lib.hid hP6
            have HB6 := Lib.hid hB6
            have HI6 := Lib.hid hI6
            have HO6 := Lib.hid hO6
            clear xc xf xz hP6 hB6 hR6 hS6 hL6 hR hlk hF hbw hO6
            obtain ⟨xc, xf, xz⟩ := hI6.facts
            clear hI6 HW
            obtain ⟨⟨R, hR, hlk, hF⟩, hbw⟩ := HP6.out
            have hnow := hlk.now
            have HM := Lib.hid (rmode_any hR (chown_ok HOk5.out c00 0 no it.uid it.gid) no it.mode)
            rw [show R.now = 0 from hnow] at HM
            have HW := Lib.hid (And.intro hR (And.intro hlk (And.intro hF hbw)))
            clear hR hlk hF hbw hnow
            go_wp2_with fail
            refine HM.out.mono ?_
            clear HM
            rintro e w7 ⟨rfl, R7, hR7, hS7, hL7⟩
            obtain ⟨hR, hlk, hF, hbw⟩ := HW.out
            have HB7 := Lib.hid (HB6.out.rf hR hS7 rfl)
            have HO7 := Lib.hid (OI.rf HO6.out hR hS7)
            have HP7 := Lib.hid (PlRf.of hbw hlk hF hR7 hS7 hL7)
            clear hR7 hS7 hL7 hR hlk hF hbw
            go_wp2_with fail
            go_roundw
            case rel =>
              refine ⟨k + 1, _, cap, by omega, by go_num, rfl, ?_, ?_, HB7.out⟩
              · rw [HQ.out, HE.out]; exact HO7.out
              · rw [HQ.out, HE.out]; exact HP7.out
            case measure => simp [intOf]; omega
        · obtain rfl : k = is.length := by omega
          rw [List.take_length] at HP HO
          have HOk2 := Lib.hid (itemsF_ok HOk1.out.1 is)
          have HLm := Lib.hid (itemsF_len S1 is)
          generalize itemsF S1 is = q at HP HO HOk2 HPl HLm
          obtain ⟨S2, made⟩ := q
          dsimp only at HPl
          have hml2 : made.length = is.length := HLm.out
          clear hbw
          go_wp2_with fail
          go_loopw [11] (fun t11 wr => ∃ k : Nat, k ≤ is.length ∧ t11 = .int .i64 k ∧ OI wr w.heap.size (.slice a is.length c) made ∧ PlRf w wr pf (timesF S2 ((is.zip made).take k)) ∧ Blk wr w.heap.size #[.slice ma ms.length mc, .slice ia is.length ic] 25) (fun t11 _ => is.length - (intOf t11).toNat)
          case atStart => exact ⟨0, Nat.zero_le _, rfl, HO.out, HP.out, HB.out⟩
          case round =>
            obtain ⟨k, hk, rfl, hO, hP, hB⟩ := hrel
            have HO3 := Lib.hid hO
            have HP3 := Lib.hid hP
            have HB3 := Lib.hid hB
            clear bc bf bz
            obtain ⟨bc, bf, bz⟩ := hB.facts
            have hbw := hP.below
            clear hP hO hB
            by_cases hlt : k < is.length
            · obtain ⟨b, off, rfl, hbl⟩ := slice_some HS.out.i (by omega)
              obtain ⟨c0, c1, c2, c3, c4, c5, c6⟩ := it_cells (HS.out.i.below hbw (Nat.le_refl _)) k hlt
              have hkm : k < made.length := by omega
              obtain ⟨g, rfl⟩ : ∃ g, a = some ⟨g, 0, none⟩ := by
                obtain ⟨a1, c1, e1, -, -, hf⟩ := own_form HO3.out
                injection e1 with e1 e2 e3
                rcases hf with ⟨-, h0, -⟩ | ⟨g, hg, -, -⟩
                · omega
                · exact ⟨g, e1.trans hg⟩
              have hO4 : OI wr w.heap.size (.slice (some ⟨g, 0, none⟩) made.length c) made := by rw [hml2]; exact HO3.out
              have hgl := (own_frozen hO4).2.2
              have hmc : wr.cell? ⟨g, k, none⟩ = some (.int .i64 made[k]) := hO4.cell k hkm
              have HQ := Lib.hid (show timesF S2 ((is.zip made).take (k + 1)) = if made[k] ≠ 0 then ((timesF S2 ((is.zip made).take k)).utime c00 0 made[k] is[k].mtime).1 else timesF S2 ((is.zip made).take k) by
                rw [List.take_succ_eq_append_getElem (by rw [List.length_zip]; omega), timesF_snoc, List.getElem_zip])
              have HOkk := Lib.hid (timesF_ok HOk2.out ((is.zip made).take k))
              generalize is[k] = it at c0 c1 c2 c3 c4 c5 c6 HQ
              generalize made[k] = no at hmc HQ
              generalize timesF S2 ((is.zip made).take k) = Sk at HQ HP3 HOkk
              clear hbw hO4
              have HMl := Lib.hid hml2
              clear hml2
              by_cases hno : no = 0
              · have hnb : (no != 0) = false := by simpa using hno
                have HE := Lib.hid (HQ.out.trans (if_neg (by simp [hno])))
                clear hno
                go_wp2_with fail
                go_roundw
                case rel => exact ⟨k + 1, by omega, by go_num, HO3.out, by rw [HE.out]; exact HP3.out, HB3.out⟩
                case measure => simp [intOf]; omega
              · have hnb : (no != 0) = true := by simpa using hno
                have HE := Lib.hid (HQ.out.trans (if_pos hno))
                have mixed : Tryz.prog.follows .mixedOrders = true := by kernel_rfl
                obtain ⟨⟨R, hR, hlk, hF⟩, hbw⟩ := HP3.out
                have hnow := hlk.now
                have HM := Lib.hid (rtime_any (hR.keep (Below.refl _ wr).drew) HOkk.out no it.mtime)
                rw [show R.now = 0 from hnow] at HM
                have HW := Lib.hid (And.intro hR (And.intro hlk (And.intro hF hbw)))
                clear hno hR hlk hF hbw hnow
                go_wp2_with fail
                refine wp_region_lex 12 mixed (by kernel_rfl) (show PanicOk _ from by repeat (first | exact pk_body | refine pk_then ?_ | refine pk_block ?_ | refine pk_scope ?_)) ?_
                simp only [List.take_succ_cons, List.take_zero, List.drop_succ_cons, List.drop_zero]
                repeat still_step
                refine wpStill_nil ?_
                go_wp2_with fail
                refine HM.out.mono ?_
                clear HM
                rintro e w7 ⟨rfl, R7, hR7, hS7, hL7⟩
                obtain ⟨hR, hlk, hF, hbw⟩ := HW.out
                have hXd : Below wr.heap.size wr wr.drew := (Below.refl _ wr).drew
                have HO7 := Lib.hid (OI.rf (own_below HO3.out hXd (Nat.le_refl _)) (hR.keep hXd) hS7)
                have HB7 := Lib.hid ((HB3.out.keep hXd).rf (hR.keep hXd) hS7 rfl)
                have HP7 := Lib.hid (PlRf.of hbw.drew hlk hF hR7 hS7 hL7)
                clear hR7 hS7 hL7 hR hlk hF hbw hXd
                go_wp2_with fail
                go_roundw
                case rel => exact ⟨k + 1, by omega, by go_num, HO7.out, by rw [HE.out]; exact HP7.out, HB7.out⟩
                case measure => simp [intOf]; omega
            · obtain rfl : k = is.length := by omega
              rw [List.take_of_length_le (by rw [List.length_zip]; omega), ← HPl.out] at HP3
              obtain ⟨⟨R, hR, hlk, hF⟩, hbw⟩ := HP3.out
              have HX := Lib.hid (show ∃ R, RfAt wr pf R (plantF ms is) ∧ (∀ k, R.F pf k → w.heap.size ≤ k) ∧ Rf.Like rf0 R ∧ Below w.heap.size w wr from ⟨R, hR, hF, hlk, hbw⟩)
              clear hR hlk hF hbw
              go_wp2_with fail
              go_ret
              obtain ⟨R, h1, h2, h3, h4⟩ := HX.out
              exact ⟨pf, R, rfl, h1, h2, h3, h4⟩
end Go.Proofs.YtihdbncoijhihaaGreat

/- A case of the tree's statements (layer 24): is it not too great, and what it plants, with a plan. -/
namespace Go.Proofs.YtihdbncoijhihaaGreat

open Go.RowKit Go.Shelf

attribute [local go_sem] Oper.semAt_some

def few24 (ms : List Mt) (is : List It) (nm : ByteArray) (pl : List (Int × Int)) : Bool := decide (few22 ms is 30 = true ∧ nm.size ≤ 300 ∧ pl.length ≤ 4)
theorem few24_of {ms : List Mt} {is : List It} {nm : ByteArray} {pl : List (Int × Int)} (h : few24 ms is nm pl = true) : few22 ms is 30 = true ∧ nm.size ≤ 300 ∧ pl.length ≤ 4 := of_decide_eq_true h
section

variable {w w' : World} {pf pw : Nat} {R : Rp} {pv : Value} {Y : Sy}

set_option maxRecDepth 100000 in
set_option maxHeartbeats 1000000 in
theorem splan2_any (h : SyAt w pf pw R pv Y) {a : Option Addr} {n c : Nat} {l : List (Int × Int)} (hl1 : SliceAt (w.setCell ⟨pf, 2, none⟩ (.int .i64 0)) 2 fltR a n c l) (hn : l.length ≤ 1000000) :
    Calls Tryz.prog 113 #[.pointer (some ⟨pf, 0, none⟩), .slice a n c] w fun e w' => e = .returned (.tuple #[]) ∧ ∃ pv', SyAt w' pf pw R pv' { Y with count := 0, plan := l } ∧ Mod (fun k => k = pf) w w' := by
  have HN := Lib.hid (snone_any h)
  have HY := Lib.hid h
  obtain ⟨v, W, hrun, hown, hbW⟩ := flt_app hl1 hn
  obtain ⟨a1, c1, rfl, -, -, -⟩ := own_form hown
  have hB1 := h.blk.set 2 (.int .i64 0)
  have hBW := hB1.keep hbW
  have HR := Lib.hid hrun
  have HX := Lib.hid (And.intro hown (And.intro hbW hBW))
  obtain ⟨pc, pf', pz⟩ := h.blk.facts
  obtain ⟨qc, qf, qz⟩ := hBW.facts
  clear h hl1 hrun hown hbW hB1 hBW
  go_enter Tryz.func113, Tryz.ntmps113
  go_wp2_with (first | (go_at_call 84; ((with_reducible refine HN.out.mono ?_); rintro e w1 ⟨rfl, rfl⟩)) | (at_builtin; refine wpList_app_run rfl rfl rfl rfl HR.out ?_))
  go_end0
  obtain ⟨hown, hbW, hBW⟩ := HX.out
  have hm1 := (Mod.refl (fun k => k = pf) w).setCell (a := ⟨pf, 2, none⟩) (.inl rfl) (.int .i64 0)
  have hm := (hm1.trans (Mod.of_below hbW)).setCell (a := ⟨pf, 3, none⟩) (.inl rfl) (.slice a1 l.length c1)
  have hlt : pf < (w.setCell ⟨pf, 2, none⟩ (.int .i64 0)).heap.size := by simpa [World.setCell] using HY.out.blk.lt
  refine ⟨rfl, .slice a1 l.length c1, ⟨hBW.set 3 _, HY.out.wd.mod hm (fun k o hk ho => ?_), ?_⟩, hm⟩
  · subst hk
    have hb := HY.out.blk
    unfold Blk at hb
    rw [hb] at ho
    injection ho with ho
    subst ho
    exact ⟨rfl, fun cur e => by cases e⟩
  · refine own_low (own_mod hown ((Mod.refl (fun k => k = pf) W).setCell (a := ⟨pf, 3, none⟩) (.inl rfl) _) (fun k hk he => ?_)) (Nat.zero_le _)
    subst hk
    have := (own_obj1 hown he).1
    omega
end

/-- another plan. -/
theorem RfAt.setPl {w : World} {pf : Nat} {R : Rf} {S : Fs} (h : RfAt w pf R S) (v : Value) : RfAt (w.setCell ⟨pf, 5, none⟩ v) pf { R with pl := v } S := by
  have hm : Mod (fun k => k = pf) w (w.setCell ⟨pf, 5, none⟩ v) := (Mod.refl (fun k => k = pf) w).setCell (a := ⟨pf, 5, none⟩) (.inl rfl) _
  have hM : Mod (R.F pf) w (w.setCell ⟨pf, 5, none⟩ v) := hm.mono (fun k hk => .inl hk)
  refine ⟨h.blk.set 5 _, own_mod h.nds hm (fun k hk e => ?_), own_mod h.devs hm (fun k hk e => ?_), h.ns, fun x hx => (h.ents x hx).rf h (Stp.of_mod hM)⟩
  · obtain ⟨-, hc⟩ := own_obj1 h.nds e
    exact rf_apart hc h.blk (by decide) hk.symm
  · obtain ⟨-, hc⟩ := own_obj1 h.devs e
    exact rf_apart hc h.blk (by decide) hk.symm
/-- what both plant, with a plan. -/
structure Both (w0 w : World) (S : Fs) (pl : List (Int × Int)) (vp : Value) (p1 q1 : Nat) (R1 : Rp) (v1 : Value) (pf : Nat) (R2 : Rf) : Prop where
  y : SyAt w p1 q1 R1 v1 ⟨S, 0, 0, pl, false⟩
  r : RfAt w pf R2 S
  now : R2.now = 0
  cnt : R2.cnt = .int .i64 0
  plan : R2.pl = vp
  dd : R2.dd = .bool false
  f1 : ∀ k, R1.Y p1 q1 k → w0.heap.size ≤ k
  f2 : ∀ k, R2.F pf k → w0.heap.size ≤ k
  below : Below w0.heap.size w0 w
set_option maxRecDepth 100000 in
set_option maxHeartbeats 4000000 in
theorem both24_any (w : World) {ma : Option Addr} {mn mc : Nat} {ia : Option Addr} {il ic : Nat} {ms : List Mt} {is : List It} (h : SdAt w ma mn mc ia il ic ms is) (u g at' to' : Int) (nm : ByteArray) {pa : Option Addr} {pn pc : Nat} {pl : List (Int × Int)} (hpl : SliceAt w 2 fltR pa pn pc pl) (ke : Bool) (hf : few24 ms is nm pl = true) :
    Calls Tryz.prog 51 #[.agg #[.slice ma mn mc, .slice ia il ic, .int .i64 u, .int .i64 g, .int .i64 at', .int .i64 to', .string nm, .slice pa pn pc, .bool ke]] w fun e w' => ∃ p1 q1 R1 v1 pf R2, e = .returned (.tuple #[.pointer (some ⟨p1, 0, none⟩), .pointer (some ⟨pf, 0, none⟩)]) ∧ Both w w' (plantF ms is) pl (.slice pa pn pc) p1 q1 R1 v1 pf R2 := by
  obtain ⟨hf2, -, hp4⟩ := few24_of hf
  obtain ⟨hm10, hi30, hmp, hip⟩ := few22_of hf2
  have hil : is.length ≤ 30 := by omega
  have hM : ∀ m ∈ ms, m.path.size ≤ 100000 := fun m hm => Nat.le_trans (hmp m hm) (by omega)
  have hI : ∀ x ∈ is, x.path.size ≤ 100000 ∧ x.data.size ≤ 100000 := fun x hx => by
    have := hip x hx
    omega
  have hX := Blk.new w #[.slice ma mn mc, .slice ia il ic, .int .i64 u, .int .i64 g, .int .i64 at', .int .i64 to', .string nm, .slice pa pn pc, .bool ke] 123
  have hbX := balloc (Below.refl w.heap.size w) (.cells #[.slice ma mn mc, .slice ia il ic, .int .i64 u, .int .i64 g, .int .i64 at', .int .i64 to', .string nm, .slice pa pn pc, .bool ke] 123)
  have HS := Lib.hid h
  have HQ := Lib.hid hpl
  have HL4 := Lib.hid hp4
  obtain ⟨S, hS⟩ : ∃ S, plantF ms is = S := ⟨_, rfl⟩
  rw [hS]
  clear h hpl hf hf2 hp4 hmp hip
  go_enter Tryz.func51, Tryz.ntmps51
  go_upto_region 1 with fail
  generalize w.alloc (.cells #[.slice ma mn mc, .slice ia il ic, .int .i64 u, .int .i64 g, .int .i64 at', .int .i64 to', .string nm, .slice pa pn pc, .bool ke] 123) = w1 at hX hbX ⊢
  have HBw := Lib.hid hbX
  have HX := Lib.hid hX
  obtain ⟨bc, bf, bz⟩ := hX.facts
  have HP1 := Lib.hid (fun wr (hb : Below w1.heap.size w1 wr) => plant_any wr (HS.out.keep (HBw.out.trans (hb.mono HBw.out.size))) (by omega) (by omega) hM hI)
  have HP2 := Lib.hid (fun wr (hb : Below w1.heap.size w1 wr) => (rplant22K_any wr (HS.out.keep (HBw.out.trans (hb.mono HBw.out.size))) (by omega) (by omega) hM hI).mono
    (fun e w' ⟨pf, R, h1, h2, h3, h4, h5⟩ => (⟨pf, R, h1, h2, fun k hk => Nat.le_trans hb.size (h3 k hk), h4, h5⟩ : ∃ pf R, e = Ending.returned (.pointer (some ⟨pf, 0, none⟩)) ∧ RfAt w' pf R (plantF ms is) ∧ (∀ k, R.F pf k → w1.heap.size ≤ k) ∧ Rf.Like rf0 R ∧ Below wr.heap.size wr w')))
  rw [hS] at HP1 HP2
  clear hX hbX hm10 hil hM hI hi30
  go_cut [4, 5] (fun t4 t5 wx => ∃ p1 q1 R1 v1 pf R2, t4 = .pointer (some ⟨p1, 0, none⟩) ∧ t5 = .pointer (some ⟨pf, 0, none⟩) ∧ SyAt wx p1 q1 R1 v1 ⟨S, 0, 0, [], false⟩ ∧ (∀ k, R1.Y p1 q1 k → w1.heap.size ≤ k) ∧ RfAt wx pf R2 S ∧ (∀ k, R2.F pf k → w1.heap.size ≤ k) ∧ Rf.Like rf0 R2 ∧ Below w1.heap.size w1 wx)
  case first =>
    go_region_held3 (fun w' => (∀ b o, b < w1.heap.size → w'.cell? ⟨b, o, none⟩ = w1.cell? ⟨b, o, none⟩) ∧ Below w1.heap.size w1 w') (first | with_reducible assumption | with_reducible exact keepS_here _ | with_reducible exact keepS_here2 _ | with_reducible exact keepS_call (by assumption) (by assumption) | with_reducible exact keepS_alloc (by assumption) _ | with_reducible exact keepS_allocD (by assumption) _ | with_reducible exact keepS_realloc (by assumption) (by assumption) | with_reducible exact keepS_set4 (by assumption) (by assumption))
      ((first
        | (go_at_call 49; ((with_reducible refine (HP1.out _ (And.right (by assumption))).mono ?_); rintro e w4 ⟨p1, q1, R1, v1, Y1, rfl, hY1, rfl, hf1, hb4⟩; have HY1 := Lib.hid (And.intro hY1 hf1); clear hY1 hf1))
        | (go_at_call 112; ((with_reducible refine (HP2.out _ (And.right (by assumption))).mono ?_); rintro e w5 ⟨pf, R2, rfl, hR2, hf2, hlk, hb5⟩; have HY2 := Lib.hid (And.intro (HY1.out.1.keep hb5) (And.intro hR2 (And.intro hf2 hlk))); clear hR2 hf2 hlk))))
    all_goals
      have hbz : Below w1.heap.size w1 w5 := And.right (by assumption)
      have HBZ := Lib.hid hbz
      go_wp2_with fail
      go_meet
      exact ⟨p1, q1, R1, v1, pf, R2, rfl, rfl, HY2.out.1, HY1.out.2, HY2.out.2.1, HY2.out.2.2.1, HY2.out.2.2.2, HBZ.out⟩
  case rest =>
    obtain ⟨p1, q1, R1, v1, pf, R2, rfl, rfl, hY1, hf1, hR2, hf2, hlk, hbw⟩ := hcut
    generalize wc = wb at hY1 hR2 hbw ⊢
    have hbw0 := HBw.out.trans (hbw.mono HBw.out.size)
    have hp1w : w1.heap.size ≤ p1 := hf1 p1 (.inl rfl)
    have hpfw : w1.heap.size ≤ pf := hf2 pf (.inl rfl)
    have hw1 : w.heap.size ≤ w1.heap.size := HBw.out.size
    have hne : p1 ≠ pf := by
      rintro rfl
      have h1 := hY1.blk
      have h2 := hR2.blk
      unfold Blk at h1 h2
      rw [h1] at h2
      injection h2 with h2
      injection h2 with e1 e2 e3
      revert e2
      decide
    have HXb := Lib.hid (HX.out.keep hbw)
    have HPn := Lib.hid (splan2_any hY1 (HQ.out.below (hbw0.trans ⟨rfl, rfl, rfl, by simp, fun k hk => Below.heap_setCell _ _ _ k (by simp only; omega)⟩) (Nat.le_refl _)) (by have := HL4.out; omega))
    obtain ⟨cc, cf, cz⟩ := (HX.out.keep hbw).facts
    have HZ := Lib.hid (And.intro hf1 (And.intro hf2 (And.intro hlk (And.intro hR2 (And.intro hY1 hbw0)))))
    clear hY1 hf1 hR2 hf2 hlk hbw hbw0 bc bf bz
    go_wp2_with fail
    refine HPn.out.mono ?_
    rintro e w2 ⟨rfl, pv', hY2, hm2⟩
    obtain ⟨hf1, hf2, hlk, hR2, hY1, hbw0⟩ := HZ.out
    have hR3 : RfAt w2 pf R2 S := hR2.mod hm2 (fun k o hk ho => by
      subst hk
      have h1 := hY1.blk
      unfold Blk at h1
      rw [h1] at ho
      injection ho with ho
      subst ho
      exact ⟨rfl, fun cur e => by injection e with e1 e2; revert e2; decide⟩)
    have hX3 := HXb.out.mod hm2 (show ¬ w.heap.size = p1 by have := HX.out.lt; omega)
    obtain ⟨dc, df, dz⟩ := hX3.facts
    obtain ⟨gc, gf, gz⟩ := hR3.blk.facts
    have HT := Lib.hid (And.intro hY2 (And.intro hR3 hm2))
    clear hf1 hf2 hlk hR2 hY1 hbw0 hY2 hR3 hm2 hX3 cc cf cz
    go_wp2_with fail
    go_ret2
    obtain ⟨hf1, hf2, hlk, -, -, hbw0⟩ := HZ.out
    obtain ⟨hY2, hR3, hm2⟩ := HT.out
    have hm3 : Mod (fun k => k = pf) w2 (w2.setCell ⟨pf, 5, none⟩ (.slice pa pn pc)) := (Mod.refl (fun k => k = pf) w2).setCell (a := ⟨pf, 5, none⟩) (.inl rfl) _
    have hl2 := hm2.size
    have hl3 := hm3.size
    have hwb := hbw0.size
    refine ⟨p1, q1, R1, pv', pf, { R2 with pl := .slice pa pn pc }, rfl, ⟨hY2.other hR3.blk rfl (by decide) (by decide) (by decide) hm3, hR3.setPl _, hlk.now, hlk.cnt, rfl, hlk.dd, fun k hk => Nat.le_trans hw1 (hf1 k hk), fun k hk => Nat.le_trans hw1 (hf2 k hk), ?_⟩⟩
    exact hbw0.trans ((hm2.below (fun k hk => by omega) hwb).trans (hm3.below (fun k hk => by omega) (by omega)))
end Go.Proofs.YtihdbncoijhihaaGreat
