/- Texts of the proof, part 21. -/
import Derived.OrdersHeld
import Derived.Deep.RegionHeld3
import Derived.Test.YtkkiglagdojnlaaGreatDoorEP20
import Derived.Test.YtkkiglagdojnlaaGreatDoorEP11
import Derived.Test.YtkkiglagdojnlaaGreatDoorEP2
import Derived.Test.YtkkiglagdojnlaaGreatDoorEP12
import Derived.Test.YtkkiglagdojnlaaGreatDoorEP3
set_option linter.unusedVariables false
set_option linter.unusedSimpArgs false
/- Trees that are to be (layer 22): Plant. -/
namespace Go.Proofs.YtkkiglagdojnlaaGreatDoor

open Go.RowKit

def encI (k : Int) : List Value := [.int .i64 k]
theorem encI_len (k : Int) : (encI k).length = 1 := rfl
/-- numbers of the call's own. -/
def OI (w : World) (base : Nat) (v : Value) (l : List Int) : Prop := w.ownsRow base 3 1 v l.length (l.flatMap encI)
theorem int_info : (Tryz.prog.info? 3).map (fun i => (i.zero, i.size, i.bytes)) = some (some (.int .i64 0), 1, 8) := by kernel_rfl
theorem OI.app {w : World} {base : Nat} {v : Value} {l : List Int} (h : OI w base v l) (k : Int) (hl : l.length ≤ 1000000) (hb : base ≤ w.heap.size) :
    ∃ g cap W, (Builtin.append_ #[125, 125] 125 #[v, .slice (some ⟨w.heap.size, 0, none⟩) 1 1]).run Tryz.prog (w.alloc (.cells #[.int .i64 k] 3)) = .ok (.slice (some ⟨g, 0, none⟩) (l.length + 1) cap) W ∧
      OI W base (.slice (some ⟨g, 0, none⟩) (l.length + 1) cap) (l ++ [k]) ∧ Mod (fun j => v.ownBlock = some j) w W := by
  obtain ⟨i0, hi, hz0, hz1, hz2⟩ := info_parts int_info
  have ho := World.ownsRow.alloc h (.cells #[.int .i64 k] 3)
  obtain ⟨g, cap, W, h1, h2, h3, h4⟩ := step_app 125 Tryz.underlying125 hi hz0 hz1 hz2 rfl (by omega) ho ⟨w.heap.size, 0, none⟩ 1 1 [.int .i64 k] rfl (World.news_of_block (Blk.new w #[.int .i64 k] 3)) (by intro u hu; simp at hu; subst hu; rfl) (by omega) (by unfold maxLen; omega) (by omega) (by simp; omega)
  refine ⟨g, cap, W, h1, ?_, ((Mod.refl (fun j => v.ownBlock = some j) w).alloc (.cells #[.int .i64 k] 3)).trans h3⟩
  unfold OI
  rw [List.length_append, List.length_singleton, List.flatMap_append]
  exact h2
theorem OI.cell {w : World} {base g cap : Nat} {l : List Int} (h : OI w base (.slice (some ⟨g, 0, none⟩) l.length cap) l) (k : Nat) (hk : k < l.length) : w.cell? ⟨g, k, none⟩ = some (.int .i64 l[k]) := by
  obtain ⟨-, -, -, h0 | ⟨b, off, he, hb, hel⟩⟩ := own_slice (R := fun cs x => cs = encI x) (by omega) encI_len (fun _ => rfl) h
  · omega
  · injection he with he
    injection he with e1 e2
    subst e1 e2
    obtain ⟨cs, h1, h2, h3⟩ := hel k hk
    subst h2
    have := h3 0 (by simp [encI])
    simpa [encI] using this
section

variable {w w' : World} {pf pw : Nat} {R : Rp} {pv : Value} {Y : Sy}

/-- numbers stay where a tree turns. -/
theorem OI.sy {base : Nat} {v : Value} {l : List Int} (ho : OI w base v l) (h : SyAt w pf pw R pv Y) {F' : Nat → Prop} (hs : Stp (R.Y pf pw) F' w w') : OI w' base v l :=
  own_mod ho hs.mod (fun k hk he => by
    obtain ⟨-, cur, hc⟩ := own_obj1 ho he
    have hb : Blk w k cur 3 := hc
    rcases hk with rfl | hk
    · have h1 := h.blk
      unfold Blk at hb h1
      rw [hb] at h1
      cases h1
    · obtain ⟨o, ho, hd⟩ := h.wd.kind hk
      rw [hc] at ho
      injection ho with ho
      subst ho
      cases hd)
/-- the tree stays where numbers turn. -/
theorem SyAt.oi (h : SyAt w pf pw R pv Y) {base : Nat} {v : Value} {l : List Int} (ho : OI w base v l) (hm : Mod (fun j => v.ownBlock = some j) w w') : SyAt w' pf pw R pv Y := by
  refine ⟨h.blk.mod hm (fun e => ?_), h.wd.mod hm (fun k o hk hk2 => ?_), own_mod h.plan hm (fun k hk he => ?_)⟩
  · obtain ⟨-, cur, hc⟩ := own_obj1 ho e
    have hq := h.blk
    unfold Blk at hq
    rw [hc] at hq
    cases hq
  · obtain ⟨-, cur, hc⟩ := own_obj1 ho hk
    rw [hc] at hk2
    injection hk2 with hk2
    subst hk2
    exact ⟨rfl, fun cur e => by cases e⟩
  · obtain ⟨-, cur, hc⟩ := own_obj1 ho hk
    obtain ⟨-, cur2, hc2⟩ := own_obj1 h.plan he
    rw [hc] at hc2
    cases hc2
/-- between the steps of Plant. -/
structure PlSt (w wr : World) (pf pw : Nat) (pv : Value) (S : Fs) (n : Int) : Prop where
  st : ∃ R Y, SyAt wr pf pw R pv Y ∧ Y.fs = S ∧ Calm Y ∧ Y.count ≤ n ∧ ∀ k, R.Y pf pw k → w.heap.size ≤ k
  below : Below w.heap.size w wr
theorem PlSt.keep {wr : World} {S : Fs} {n : Int} (h : PlSt w wr pf pw pv S n) (hb : Below wr.heap.size wr w') : PlSt w w' pf pw pv S n := by
  obtain ⟨⟨R, Y, h1, h2, h3, h4, h5⟩, h6⟩ := h
  exact ⟨⟨R, Y, h1.keep hb, h2, h3, h4, h5⟩, bnext h6 hb⟩
theorem PlSt.mono {wr : World} {S : Fs} {n n' : Int} (h : PlSt w wr pf pw pv S n) (hn : n ≤ n') : PlSt w wr pf pw pv S n' := by
  obtain ⟨⟨R, Y, h1, h2, h3, h4, h5⟩, h6⟩ := h
  exact ⟨⟨R, Y, h1, h2, h3, by omega, h5⟩, h6⟩
theorem PlSt.of {wr : World} {S : Fs} {n d : Int} (hb : Below w.heap.size w wr) (hc : Y.count ≤ n) (hF : ∀ k, R.Y pf pw k → w.heap.size ≤ k) (h : Became wr w' pf pw R pv Y S d) : PlSt w w' pf pw pv S (n + d) := by
  obtain ⟨R', Z, h1, h2, h3, h4, h5⟩ := h
  refine ⟨⟨R', Z, h1, h2, h3, by omega, fun k hk => ?_⟩, hb.trans (h5.below hF hb.size)⟩
  exact h5.above hF hb.size k hk
end

theorem PlSt.oi {w wr w' : World} {pf pw : Nat} {pv : Value} {S : Fs} {n : Int} (h : PlSt w wr pf pw pv S n) {v : Value} {l : List Int} (ho : OI wr w.heap.size v l) (hm : Mod (fun j => v.ownBlock = some j) wr w') : PlSt w w' pf pw pv S n := by
  obtain ⟨⟨R, Y, h1, h2, h3, h4, h5⟩, h6⟩ := h
  exact ⟨⟨R, Y, h1.oi ho hm, h2, h3, h4, h5⟩, h6.trans (hm.below (fun k hk => (own_obj1 ho hk).1) h6.size)⟩
theorem Blk.oi {w w' : World} {B base : Nat} {vs : Array Value} {T : TypeId} {v : Value} {l : List Int} (hb : Blk w B vs T) (ho : OI w base v l) (hm : Mod (fun j => v.ownBlock = some j) w w') (hT : T ≠ 3) : Blk w' B vs T :=
  hb.mod hm (fun he => by
    obtain ⟨-, cur, hc⟩ := own_obj1 ho he
    unfold Blk at hb
    rw [hb] at hc
    injection hc with hc
    injection hc with hc e
    exact hT e)
theorem mountsF_snoc (S : Fs) (l : List Mt) (m : Mt) : mountsF S (l ++ [m]) = if m.path = topB then mountsF S l else mountF (mountsF S l) m := by
  rw [mountsF_app]; rfl
theorem itemsF_snoc (S : Fs) (l : List It) (x : It) : itemsF S (l ++ [x]) = ((itemF (itemsF S l).1 x).1, (itemsF S l).2 ++ [(itemF (itemsF S l).1 x).2]) := by
  rw [itemsF_app]; rfl
theorem timesF_snoc (S : Fs) (l : List (It × Int)) (x : It × Int) : timesF S (l ++ [x]) = if x.2 ≠ 0 then ((timesF S l).utime c00 0 x.2 x.1.mtime).1 else timesF S l := by
  rw [timesF_app]; rfl
set_option maxRecDepth 100000 in
set_option maxHeartbeats 8000000 in
theorem plant_any (w : World) {ma : Option Addr} {mn mc : Nat} {ia : Option Addr} {il ic : Nat} {ms : List Mt} {is : List It} (h : SdAt w ma mn mc ia il ic ms is) (hml : ms.length ≤ 100000) (hil : is.length ≤ 100000)
    (hmp : ∀ m ∈ ms, m.path.size ≤ 100000) (hip : ∀ x ∈ is, x.path.size ≤ 100000 ∧ x.data.size ≤ 100000) :
    Calls Tryz.prog 29 #[.agg #[.slice ma mn mc, .slice ia il ic]] w fun e w' => ∃ pf pw R pv Y, e = .returned (.pointer (some ⟨pf, 0, none⟩)) ∧ SyAt w' pf pw R pv Y ∧ Y = ⟨plantF ms is, 0, 0, [], false⟩ ∧ (∀ k, R.Y pf pw k → w.heap.size ≤ k) ∧ Below w.heap.size w w' := by
  have HS := Lib.hid h
  have HL := Lib.hid (slimits_any (w.alloc (.cells #[.slice ma mn mc, .slice ia il ic] 31)) (h.keep ((Below.refl _ w).alloc (Nat.le_refl _) _)))
  have HN := Lib.hid (fun w => snew_any (limitsF ms).1 (limitsF ms).2 (limits_ok ms) w)
  have HMp := Lib.hid hmp
  have HIp := Lib.hid hip
  have hln := h.m.1
  have hli := h.i.1
  subst hln hli
  have hB0 := Blk.new w #[.slice ma ms.length mc, .slice ia is.length ic] 31
  have hb0 := balloc (Below.refl w.heap.size w) (.cells #[.slice ma ms.length mc, .slice ia is.length ic] 31)
  have HPl := Lib.hid (show plantF ms is = timesF (itemsF (mountsF (fs0.addRoot 0 (limitsF ms).1 (limitsF ms).2) ms) is).1 (is.zip (itemsF (mountsF (fs0.addRoot 0 (limitsF ms).1 (limitsF ms).2) ms) is).2) from rfl)
  have HOk := Lib.hid (FsOk.new (limitsF ms).1 (limitsF ms).2)
  unfold sy0 at HN
  generalize fs0.addRoot 0 (limitsF ms).1 (limitsF ms).2 = S0 at HN HPl HOk
  generalize (limitsF ms).1 = lb at HL HN
  generalize (limitsF ms).2 = ln at HL HN
  clear h hmp hip
  go_enter Tryz.func29, Tryz.ntmps29
  go_wp2_with fail
  refine HL.out.mono ?_
  rintro e w1 ⟨rfl, hb1⟩
  have hB1 := hB0.keep hb1
  have hbw1 := bnext hb0 hb1
  clear hB0 hb0 hb1
  go_wp2_with fail
  refine (HN.out _).mono ?_
  rintro e w2 ⟨pf, pw, R0, rfl, hY0, hb2, hF0⟩
  have hB2 := hB1.keep hb2
  have hP0 : PlSt w w2 pf pw (.slice none 0 0) S0 0 := ⟨⟨R0, _, hY0, rfl, ⟨rfl, rfl, rfl, by show (0 : Int) ≤ 0; omega⟩, by show (0 : Int) ≤ 0; omega, fun k hk => Nat.le_trans hbw1.size (hF0 k hk)⟩, bnext hbw1 hb2⟩
  have HP0 := Lib.hid hP0
  have HB2 := Lib.hid hB2
  obtain ⟨bc, bf, bz⟩ := hB2.facts
  clear hB1 hbw1 hY0 hb2 hF0 hB2 hP0
  go_wp2_with fail
  go_loopw [26] (fun t26 wr => ∃ k : Nat, k ≤ ms.length ∧ t26 = .int .i64 k ∧ PlSt w wr pf pw (.slice none 0 0) (mountsF S0 (ms.take k)) k ∧ Blk wr w.heap.size #[.slice ma ms.length mc, .slice ia is.length ic] 31) (fun t26 _ => ms.length - (intOf t26).toNat)
  case atStart => exact ⟨0, Nat.zero_le _, rfl, HP0.out, HB2.out⟩
  case round =>
    obtain ⟨k, hk, rfl, hP, hB⟩ := hrel
    have HP := Lib.hid hP
    have HB := Lib.hid hB
    clear bc bf bz
    obtain ⟨bc, bf, bz⟩ := hB.facts
    have hbw := hP.below
    clear hP hB
    by_cases hlt : k < ms.length
    · obtain ⟨b, off, rfl, hbl⟩ := slice_some HS.out.m (by omega)
      obtain ⟨c0, c1, c2⟩ := mt_cells (HS.out.m.below hbw (Nat.le_refl _)) k hlt
      have HQ := Lib.hid (show mountsF S0 (ms.take (k + 1)) = if ms[k].path = topB then mountsF S0 (ms.take k) else mountF (mountsF S0 (ms.take k)) ms[k] by rw [List.take_succ_eq_append_getElem hlt, mountsF_snoc])
      have HMk := Lib.hid (HMp.out ms[k] (List.getElem_mem hlt))
      have HOkk := Lib.hid (show FsOk (mountsF S0 (ms.take k)) (1 + 2 * k) by
        have := mountsF_ok HOk.out (ms.take k)
        rwa [List.length_take, Nat.min_eq_left hk] at this)
      generalize ms[k] = m at c0 c1 c2 HQ HMk
      generalize hS2 : mountsF S0 (ms.take (k + 1)) = S2 at HQ
      have HS2 := Lib.hid hS2
      clear hS2
      generalize hSk : mountsF S0 (ms.take k) = Sk at HQ HP HOkk
      have HSk := Lib.hid hSk
      have hX := Blk.new wr #[.string m.path, .int .i64 m.b, .int .i64 m.n] 133
      have hbX := (Below.refl _ wr).alloc (Nat.le_refl _) (.cells #[.string m.path, .int .i64 m.b, .int .i64 m.n] 133)
      clear hSk hbw
      go_upto_region 7 with fail
      generalize wr.alloc (.cells #[.string m.path, .int .i64 m.b, .int .i64 m.n] 133) = X at hX hbX ⊢
      have HBX := Lib.hid (HB.out.keep hbX)
      have HPX := Lib.hid (HP.out.keep hbX)
      obtain ⟨xc, xf, xz⟩ := hX.facts
      clear hX hbX c0 c1 c2
      by_cases h1 : m.path = topB
      · have h1b : m.path.toList = [47] := by rw [h1, ba_list]; rfl
        have HE := Lib.hid (HQ.out.trans (if_pos h1))
        clear h1
        go_wp2_with fail
        go_roundw
        case rel => exact ⟨k + 1, by omega, by go_num, by rw [show mountsF S0 (ms.take (k + 1)) = Sk from by rw [HS2.out]; exact HE.out]; exact HPX.out.mono (by omega), HBX.out⟩
        case measure => simp [intOf]; omega
      · have h1b : (m.path.toList == [47]) = false := by
          rw [ba_list]
          simp only [beq_eq_false_iff_ne, ne_eq]
          exact fun e => h1 (ba_eq e)
        have HE := Lib.hid (HQ.out.trans (if_neg h1))
        obtain ⟨⟨R, Y, hY, hfs, hcl, hcn, hF⟩, hbw⟩ := HPX.out
        have HM := Lib.hid (smount_any hY (N := 1 + 2 * k) (by rw [hfs]; exact HOkk.out) (by omega) hcl (by omega) m HMk.out)
        rw [hfs] at HM
        have HW := Lib.hid (And.intro hY (And.intro hcn (And.intro hF hbw)))
        clear h1 hY hfs hcl hcn hF hbw
        go_wp2_with fail
        refine HM.out.mono ?_
        rintro e w5 ⟨rfl, hBec⟩
        obtain ⟨hY, hcn, hF, hbw⟩ := HW.out
        have hP5 := PlSt.of hbw hcn hF hBec
        obtain ⟨R', Z, -, -, -, -, z5⟩ := hBec
        have HB5 := Lib.hid (HBX.out.sy hY z5 rfl (by decide))
        have HP5 := Lib.hid hP5
        clear hP5 z5 hY hcn hF hbw
        go_wp2_with fail
        go_roundw
        case rel => exact ⟨k + 1, by omega, by go_num, by rw [show mountsF S0 (ms.take (k + 1)) = mountF Sk m from by rw [HS2.out]; exact HE.out]; exact HP5.out.mono (by omega), HB5.out⟩
        case measure => simp [intOf]; omega
    · obtain rfl : k = ms.length := by omega
      rw [List.take_length] at HP
      have HOk1 := Lib.hid (mountsF_ok HOk.out ms)
      generalize mountsF S0 ms = S1 at HP HOk1 HPl
      have hO0 : OI (wr.alloc (.cells #[] 3)) w.heap.size (.slice (some ⟨wr.heap.size, 0, none⟩) 0 0) [] := ⟨rfl, .inr ⟨wr.heap.size, 0, #[], rfl, HP.out.below.size, Blk.new _ _ _, Nat.le_refl _, by unfold maxLen; omega, rfl, rfl⟩⟩
      have hP1 := HP.out.keep ((Below.refl _ wr).alloc (Nat.le_refl _) (.cells #[] 3))
      have hB1 := HB.out.old (.cells #[] 3)
      have HO0 := Lib.hid hO0
      have HP1 := Lib.hid hP1
      have HB1 := Lib.hid hB1
      clear hO0 hP1 hB1 hbw
      go_wp2_with fail
      generalize wr.alloc (.cells #[] 3) = W1 at HO0 HP1 HB1 ⊢
      generalize wr.heap.size = hmade at HO0 ⊢
      go_loopw [41, 7] (fun t41 t7 wr => ∃ (k : Nat) (a : Option Addr) (c : Nat), k ≤ is.length ∧ t41 = .int .i64 k ∧ t7 = .slice a k c ∧ OI wr w.heap.size (.slice a k c) (itemsF S1 (is.take k)).2 ∧ PlSt w wr pf pw (.slice none 0 0) (itemsF S1 (is.take k)).1 (ms.length + 3 * k) ∧ Blk wr w.heap.size #[.slice ma ms.length mc, .slice ia is.length ic] 31) (fun t41 _ _ => is.length - (intOf t41).toNat)
      case atStart => exact ⟨0, _, _, Nat.zero_le _, rfl, rfl, HO0.out, HP1.out.mono (by omega), HB1.out⟩
      case round =>
        obtain ⟨k, a, c, hk, rfl, rfl, hO, hP, hB⟩ := hrel
        have HO := Lib.hid hO
        have HP := Lib.hid hP
        have HB := Lib.hid hB
        clear bc bf bz
        obtain ⟨bc, bf, bz⟩ := hB.facts
        have hbw := hP.below
        clear hP hB hO
        by_cases hlt : k < is.length
        · obtain ⟨b, off, rfl, hbl⟩ := slice_some HS.out.i (by omega)
          obtain ⟨c0, c1, c2, c3, c4, c5, c6⟩ := it_cells (HS.out.i.below hbw (Nat.le_refl _)) k hlt
          have HQ := Lib.hid (show itemsF S1 (is.take (k + 1)) = ((itemF (itemsF S1 (is.take k)).1 is[k]).1, (itemsF S1 (is.take k)).2 ++ [(itemF (itemsF S1 (is.take k)).1 is[k]).2]) by rw [List.take_succ_eq_append_getElem hlt, itemsF_snoc])
          have HMk := Lib.hid (HIp.out is[k] (List.getElem_mem hlt))
          have HOkk := Lib.hid (show FsOk (itemsF S1 (is.take k)).1 (1 + 2 * ms.length + k) by
            have := itemsF_ok HOk1.out (is.take k)
            rwa [List.length_take, Nat.min_eq_left hk] at this)
          have HLk := Lib.hid (show (itemsF S1 (is.take k)).2.length = k by rw [itemsF_len, List.length_take, Nat.min_eq_left hk])
          generalize is[k] = it at c0 c1 c2 c3 c4 c5 c6 HQ HMk
          generalize itemsF S1 (is.take k) = Sk at HQ HP HOkk HO HLk
          obtain ⟨Sk, Lk⟩ := Sk
          have hX := Blk.new wr #[.string it.path, .int .i64 it.kind, .int .i64 it.mode, .int .i64 it.uid, .int .i64 it.gid, .int .i64 it.mtime, .string it.data] 78
          have hbX := (Below.refl _ wr).alloc (Nat.le_refl _) (.cells #[.string it.path, .int .i64 it.kind, .int .i64 it.mode, .int .i64 it.uid, .int .i64 it.gid, .int .i64 it.mtime, .string it.data] 78)
          clear hbw
          go_upto_region 14 with fail
          generalize wr.alloc (.cells #[.string it.path, .int .i64 it.kind, .int .i64 it.mode, .int .i64 it.uid, .int .i64 it.gid, .int .i64 it.mtime, .string it.data] 78) = X at hX hbX ⊢
          have HBX := Lib.hid (HB.out.keep hbX)
          have HPX := Lib.hid (HP.out.keep hbX)
          have HOX := Lib.hid (own_below HO.out hbX (Nat.le_refl _))
          have HIX := Lib.hid hX
          obtain ⟨xc, xf, xz⟩ := hX.facts
          obtain ⟨⟨R, Y, hY, hfs, hcl, hcn, hF⟩, hbw⟩ := HPX.out
          have HM := Lib.hid (snode_any hY (N := 1 + 2 * ms.length + k) (by rw [hfs]; exact HOkk.out) (by omega) hcl (by omega) it HMk.out.1 HMk.out.2)
          rw [hfs] at HM
          have HW := Lib.hid (And.intro hY (And.intro hcn (And.intro hF hbw)))
          have HOk5 := Lib.hid (nodeF_ok HOkk.out it)
          have HIt := Lib.hid (show itemF Sk it = if (nodeF Sk it).2 ≠ 0 then ((((nodeF Sk it).1.chown c00 0 (nodeF Sk it).2 it.uid it.gid).1.chmod c00 0 (nodeF Sk it).2 it.mode).1, (nodeF Sk it).2) else nodeF Sk it from rfl)
          clear hX hbX c0 c1 c2 c3 c4 c5 c6 hY hfs hcl hcn hF hbw
          go_wp2_with fail
          refine HM.out.mono ?_
          clear HM
          rintro e w5 ⟨rfl, hBec⟩
          generalize nodeF Sk it = nd at hBec HOk5 HIt ⊢
          obtain ⟨S5, no⟩ := nd
          dsimp only at hBec HOk5 HIt ⊢
          obtain ⟨hY, hcn, hF, hbw⟩ := HW.out
          have hP5 := PlSt.of hbw hcn hF hBec
          obtain ⟨R', Z, -, -, -, -, z5⟩ := hBec
          have hB5 := HBX.out.sy hY z5 rfl (by decide)
          have hI5 := HIX.out.sy hY z5 rfl (by decide)
          have hO5 : OI w5 w.heap.size (.slice a Lk.length c) Lk := by rw [HLk.out]; exact OI.sy (l := Lk) HOX.out hY z5
          obtain ⟨g, cap, W, hrun, hOW, hmW⟩ := hO5.app no (by rw [HLk.out]; omega) hP5.below.size
          have hPW := hP5.oi hO5 hmW
          have hBW := hB5.oi hO5 hmW (by decide)
          have hIW := hI5.oi hO5 hmW (by decide)
          rw [HLk.out] at hrun hOW
          have HRun := Lib.hid hrun
          have HPW := Lib.hid hPW
          have HBW := Lib.hid hBW
          have HIW := Lib.hid hIW
          have HOW := Lib.hid hOW
          clear xc xf xz hP5 z5 hY hcn hF hbw hB5 hI5 hO5 hrun hOW hmW hPW hBW
          obtain ⟨xc, xf, xz⟩ := hIW.facts
          clear hIW
          by_cases hno : no = 0
          · have hnb : (no != 0) = false := by simpa using hno
            have HE := Lib.hid (HIt.out.trans (if_neg (by simp [hno])))
            clear hno
            go_wp2_with (at_builtin; refine wpList_app_run rfl rfl rfl rfl HRun.out ?_)
            go_roundw
            case rel =>
              refine ⟨k + 1, _, cap, by omega, by go_num, rfl, ?_, ?_, HBW.out⟩
              · rw [HQ.out, HE.out]; exact HOW.out
              · rw [HQ.out, HE.out]; exact HPW.out.mono (by omega)
            case measure => simp [intOf]; omega
          · have hnb : (no != 0) = true := by simpa using hno
            have HE := Lib.hid (HIt.out.trans (if_pos hno))
            clear hno
            obtain ⟨⟨R, Y, hY, hfs, hcl, hcn, hF⟩, hbw⟩ := HPW.out
            have HM := Lib.hid (schown_any hY (N := 1 + 2 * ms.length + k + 1) (by rw [hfs]; exact HOk5.out) (by omega) ⟨hcl.c0, by omega⟩ (by rw [hcl.plan]; exact Nat.zero_le _) c00 no it.uid it.gid)
            rw [hcl.opE, hfs] at HM
            have HW := Lib.hid (And.intro hY (And.intro hcn (And.intro hF (And.intro hbw hcl))))
            clear hY hfs hcl hcn hF hbw
            go_wp2_with (at_builtin; refine wpList_app_run rfl rfl rfl rfl HRun.out ?_)
            refine HM.out.mono ?_
            clear HM
            rintro e w6 ⟨rfl, R6, hY6, hS6⟩
            obtain ⟨hY, hcn, hF, hbw, hcl⟩ := HW.out
            have hB6 := HBW.out.sy hY hS6 rfl (by decide)
            have hI6 := HIW.out.sy hY hS6 rfl (by decide)
            have hO6 := OI.sy HOW.out hY hS6
            have hP6 := PlSt.of hbw hcn hF (⟨R6, _, hY6, rfl, hcl.next _, (by show Y.count + 1 ≤ Y.count + 1; omega), hS6⟩ : Became W w6 pf pw R (.slice none 0 0) Y _ 1)
            have HP6 := Lib.hid hP6
            have HB6 := Lib.hid hB6
            have HI6 := Lib.hid hI6
            have HO6 := Lib.hid hO6
            clear xc xf xz hP6 hB6 hY6 hS6 hY hcn hF hbw hcl hO6
            obtain ⟨xc, xf, xz⟩ := hI6.facts
            clear hI6 HW
            obtain ⟨⟨R, Y, hY, hfs, hcl, hcn, hF⟩, hbw⟩ := HP6.out
            have HM := Lib.hid (schmod_any hY (N := 1 + 2 * ms.length + k + 1) (by rw [hfs]; exact chown_ok HOk5.out _ _ _ _ _) (by omega) ⟨hcl.c0, by omega⟩ (by rw [hcl.plan]; exact Nat.zero_le _) c00 no it.mode)
            rw [hcl.opE, hfs] at HM
            have HW := Lib.hid (And.intro hY (And.intro hcn (And.intro hF (And.intro hbw hcl))))
            clear hY hfs hcl hcn hF hbw
            go_wp2_with fail
            refine HM.out.mono ?_
            clear HM
            rintro e w7 ⟨rfl, R7, hY7, hS7⟩
            obtain ⟨hY, hcn, hF, hbw, hcl⟩ := HW.out
            have HB7 := Lib.hid (HB6.out.sy hY hS7 rfl (by decide))
            have HO7 := Lib.hid (OI.sy HO6.out hY hS7)
            have HP7 := Lib.hid (PlSt.of hbw hcn hF (⟨R7, _, hY7, rfl, hcl.next _, (by show Y.count + 1 ≤ Y.count + 1; omega), hS7⟩ : Became w6 w7 pf pw R (.slice none 0 0) Y _ 1))
            clear hY7 hS7 hY hcn hF hbw hcl
            go_wp2_with fail
            go_roundw
            case rel =>
              refine ⟨k + 1, _, cap, by omega, by go_num, rfl, ?_, ?_, HB7.out⟩
              · rw [HQ.out, HE.out]; exact HO7.out
              · rw [HQ.out, HE.out]; exact HP7.out.mono (by omega)
            case measure => simp [intOf]; omega
        · obtain rfl : k = is.length := by omega
          rw [List.take_length] at HP HO
          have HOk2 := Lib.hid (itemsF_ok HOk1.out is)
          have HLm := Lib.hid (itemsF_len S1 is)
          generalize itemsF S1 is = q at HP HO HOk2 HPl HLm
          obtain ⟨S2, made⟩ := q
          dsimp only at HPl
          have hml2 : made.length = is.length := HLm.out
          clear hbw
          go_wp2_with fail
          go_loopw [72] (fun t72 wr => ∃ k : Nat, k ≤ is.length ∧ t72 = .int .i64 k ∧ OI wr w.heap.size (.slice a is.length c) made ∧ PlSt w wr pf pw (.slice none 0 0) (timesF S2 ((is.zip made).take k)) (ms.length + 3 * is.length + k)) (fun t72 _ => is.length - (intOf t72).toNat)
          case atStart => exact ⟨0, Nat.zero_le _, rfl, HO.out, HP.out.mono (by omega)⟩
          case round =>
            obtain ⟨k, hk, rfl, hO, hP⟩ := hrel
            have HO3 := Lib.hid hO
            have HP3 := Lib.hid hP
            have hbw := hP.below
            clear hP hO bc bf bz
            by_cases hlt : k < is.length
            · obtain ⟨b, off, rfl, hbl⟩ := slice_some HS.out.i (by omega)
              obtain ⟨c0, c1, c2, c3, c4, c5, c6⟩ := it_cells (HS.out.i.below hbw (Nat.le_refl _)) k hlt
              have hkm : k < made.length := by omega
              obtain ⟨g, rfl⟩ : ∃ g, a = some ⟨g, 0, none⟩ := by
                obtain ⟨a1, c1, e1, -, -, hf⟩ := own_form HO3.out
                injection e1 with e1 e2 e3
                rcases hf with ⟨-, h0, -⟩ | ⟨g, hg, -, -⟩
                · omega
                · exact ⟨g, e1.trans hg⟩
              have hO4 : OI wr w.heap.size (.slice (some ⟨g, 0, none⟩) made.length c) made := by rw [hml2]; exact HO3.out
              have hgl := (own_frozen hO4).2.2
              have hmc : wr.cell? ⟨g, k, none⟩ = some (.int .i64 made[k]) := hO4.cell k hkm
              have HQ := Lib.hid (show timesF S2 ((is.zip made).take (k + 1)) = if made[k] ≠ 0 then ((timesF S2 ((is.zip made).take k)).utime c00 0 made[k] is[k].mtime).1 else timesF S2 ((is.zip made).take k) by
                rw [List.take_succ_eq_append_getElem (by rw [List.length_zip]; omega), timesF_snoc, List.getElem_zip])
              have HOkk := Lib.hid (timesF_ok HOk2.out ((is.zip made).take k))
              generalize is[k] = it at c0 c1 c2 c3 c4 c5 c6 HQ
              generalize made[k] = no at hmc HQ
              generalize timesF S2 ((is.zip made).take k) = Sk at HQ HP3 HOkk
              have hX := Blk.new wr #[.string it.path, .int .i64 it.kind, .int .i64 it.mode, .int .i64 it.uid, .int .i64 it.gid, .int .i64 it.mtime, .string it.data] 78
              have hbX := (Below.refl _ wr).alloc (Nat.le_refl _) (.cells #[.string it.path, .int .i64 it.kind, .int .i64 it.mode, .int .i64 it.uid, .int .i64 it.gid, .int .i64 it.mtime, .string it.data] 78)
              clear hbw hO4
              have HMl := Lib.hid hml2
              clear hml2
              go_upto_region 23 with fail
              have hmc2 := (hbX.cell (p := ⟨g, k, none⟩) hgl).trans hmc
              have HOX := Lib.hid (own_below HO3.out hbX (Nat.le_refl _))
              generalize wr.alloc (.cells #[.string it.path, .int .i64 it.kind, .int .i64 it.mode, .int .i64 it.uid, .int .i64 it.gid, .int .i64 it.mtime, .string it.data] 78) = X at hX hbX hmc2 HOX ⊢
              have HPX := Lib.hid (HP3.out.keep hbX)
              obtain ⟨xc, xf, xz⟩ := hX.facts
              clear hX hbX c0 c1 c2 c3 c4 c5 c6 hmc
              by_cases hno : no = 0
              · have hnb : (no != 0) = false := by simpa using hno
                have HE := Lib.hid (HQ.out.trans (if_neg (by simp [hno])))
                clear hno
                go_wp2_with fail
                go_roundw
                case rel => exact ⟨k + 1, by omega, by go_num, HOX.out, by rw [HE.out]; exact HPX.out.mono (by omega)⟩
                case measure => simp [intOf]; omega
              · have hnb : (no != 0) = true := by simpa using hno
                have HE := Lib.hid (HQ.out.trans (if_pos hno))
                have mixed : Tryz.prog.follows .mixedOrders = true := by kernel_rfl
                obtain ⟨⟨R, Y, hY, hfs, hcl, hcn, hF⟩, hbw⟩ := HPX.out
                have HM := Lib.hid (sutime_any (hY.keep (Below.refl _ X).drew) (N := 1 + 2 * ms.length + is.length) (by rw [hfs]; exact HOkk.out) (by omega) ⟨hcl.c0, by omega⟩ (by rw [hcl.plan]; exact Nat.zero_le _) c00 no it.mtime)
                rw [hcl.opE, hfs] at HM
                have HW := Lib.hid (And.intro hY (And.intro hcn (And.intro hF (And.intro hbw hcl))))
                clear hno hY hfs hcl hcn hF hbw
                go_wp2_with fail
                refine wp_region_lex 8 mixed (by kernel_rfl) (show PanicOk _ from by repeat (first | exact pk_body | refine pk_then ?_ | refine pk_block ?_ | refine pk_scope ?_)) ?_
                simp only [List.take_succ_cons, List.take_zero, List.drop_succ_cons, List.drop_zero]
                repeat still_step
                refine wpStill_nil ?_
                go_wp2_with fail
                refine HM.out.mono ?_
                clear HM
                rintro e w7 ⟨rfl, R7, hY7, hS7⟩
                obtain ⟨hY, hcn, hF, hbw, hcl⟩ := HW.out
                have hXd : Below X.heap.size X X.drew := (Below.refl _ X).drew
                have HO7 := Lib.hid (OI.sy (own_below HOX.out hXd (Nat.le_refl _)) (hY.keep hXd) hS7)
                have HP7 := Lib.hid (PlSt.of (hbw.drew) hcn hF (⟨R7, _, hY7, rfl, hcl.next _, (by show Y.count + 1 ≤ Y.count + 1; omega), hS7⟩ : Became X.drew w7 pf pw R (.slice none 0 0) Y _ 1))
                clear hY7 hS7 hY hcn hF hbw hcl hXd
                go_wp2_with fail
                go_roundw
                case rel => exact ⟨k + 1, by omega, by go_num, HO7.out, by rw [HE.out]; exact HP7.out.mono (by omega)⟩
                case measure => simp [intOf]; omega
            · obtain rfl : k = is.length := by omega
              rw [List.take_of_length_le (by rw [List.length_zip]; omega), ← HPl.out] at HP3
              obtain ⟨⟨R, Y, hY, hfs, hcl, hcn, hF⟩, hbw⟩ := HP3.out
              have HM := Lib.hid (swake_any hY)
              have HW := Lib.hid (And.intro hfs (And.intro hcl (And.intro hF hbw)))
              have HY := Lib.hid hY
              clear hY hfs hcl hcn hF hbw
              go_wp2_with fail
              refine HM.out.mono ?_
              rintro e w7 ⟨rfl, pv7, hY7, hm7⟩
              obtain ⟨hfs, hcl, hF, hbw⟩ := HW.out
              have HX := Lib.hid (show ∃ R pv Y, SyAt w7 pf pw R pv Y ∧ Y = ⟨plantF ms is, 0, 0, [], false⟩ ∧ (∀ k, R.Y pf pw k → w.heap.size ≤ k) ∧ Below w.heap.size w w7 from
                ⟨R, pv7, _, hY7, (by unfold Sy.wake; rw [hfs, hcl.now]), hF, hbw.trans (hm7.below (fun k hk => by rw [hk]; exact hF pf (.inl rfl)) hbw.size)⟩)
              clear hfs hcl hF hbw hY7 hm7
              go_wp2_with fail
              go_ret
              obtain ⟨R, pv, Y, h1, h2, h3, h4⟩ := HX.out
              exact ⟨pf, pw, R, pv, Y, rfl, h1, h2, h3, h4⟩
end Go.Proofs.YtkkiglagdojnlaaGreatDoor

/- ragpickerlaw38.awake. -/
namespace Go.Proofs.YtkkiglagdojnlaaGreatDoor

open Go.RowKit Go.Shelf Go.Sort

def eA38 : Ey := ⟨ByteArray.empty, ⟨#[97]⟩, ByteArray.empty, 1, 5, false⟩
def eB38 : Ey := ⟨ByteArray.empty, ⟨#[98]⟩, ByteArray.empty, 2, 6, false⟩
def eC38 : Ey := ⟨ByteArray.empty, ⟨#[99]⟩, ByteArray.empty, 3, 7, false⟩
def l38 : List Ey := [eA38, eB38, eC38]
theorem pick38 : pickF l38 10 8 8 = [eA38, eB38] := by kernel_rfl
def C38 : Array Value := #[.string ByteArray.empty, .string (ByteArray.mk #[97]), .string ByteArray.empty, .int .i64 1, .int .i64 5, .bool false, .string ByteArray.empty, .string (ByteArray.mk #[98]), .string ByteArray.empty, .int .i64 2, .int .i64 6, .bool false, .string ByteArray.empty, .string (ByteArray.mk #[99]), .string ByteArray.empty, .int .i64 3, .int .i64 7, .bool false]
theorem at38 {w : World} {b : Nat} (h : Blk w b C38 23) : SliceAt w 6 eyQ (some ⟨b, 0, none⟩) 3 3 l38 := by
  refine ⟨rfl, Nat.le_refl _, by omega, .inr ⟨b, 0, rfl, h.lt, fun i hi => ⟨eyC l38[i], rfl, rfl, fun j hj => ?_⟩⟩⟩
  rw [eyC_len] at hj
  rw [h.cell]
  have hi3 : i < 3 := hi
  match i, hi3 with
  | 0, _ => match j, hj with
    | 0, _ => rfl
    | 1, _ => rfl
    | 2, _ => rfl
    | 3, _ => rfl
    | 4, _ => rfl
    | 5, _ => rfl
  | 1, _ => match j, hj with
    | 0, _ => rfl
    | 1, _ => rfl
    | 2, _ => rfl
    | 3, _ => rfl
    | 4, _ => rfl
    | 5, _ => rfl
  | 2, _ => match j, hj with
    | 0, _ => rfl
    | 1, _ => rfl
    | 2, _ => rfl
    | 3, _ => rfl
    | 4, _ => rfl
    | 5, _ => rfl
theorem szok38 : SzOk l38 := by
  intro y hy
  simp only [l38, List.mem_cons, List.not_mem_nil, or_false] at hy
  rcases hy with rfl | rfl | rfl <;> exact ⟨by decide, by decide, by decide⟩
theorem sd38 (w : World) : SdAt w none 0 0 none 0 0 [] [] := ⟨⟨rfl, Nat.le_refl _, by omega, .inl rfl⟩, ⟨rfl, Nat.le_refl _, by omega, .inl rfl⟩⟩
set_option maxRecDepth 100000 in
set_option maxHeartbeats 2000000 in
theorem awake38_any (w : World) :
    Calls Tryz.prog 22 #[] w fun e w' => e = .returned (.bool true) ∧ Below w.heap.size w w' := by
  have hX := at38 (Blk.new w C38 23)
  have hbX := balloc (Below.refl w.heap.size w) (.cells C38 23)
  have HPk := Lib.hid (pick_any l38 _ _ _ _ hX (by omega) szok38 10 8 8 (by omega))
  have HB := Lib.hid hbX
  have HX := Lib.hid hX
  have HPl := Lib.hid (fun w1 => plant_any w1 (sd38 w1) (by show (0 : Nat) ≤ _; omega) (by show (0 : Nat) ≤ _; omega) (fun m hm => by cases hm) (fun m hm => by cases hm))
  clear hX hbX
  go_enter Tryz.func22, Tryz.ntmps22
  go_upto_region 2 with fail
  show Code.wp Tryz.prog _ _ _ (w.alloc (.cells C38 23))
  generalize w.alloc (.cells C38 23) = W0 at HPk HB HX ⊢
  go_wp2_with fail
  refine HPk.out.mono ?_
  rw [pick38]
  rintro e w1 ⟨⟨a, c, rfl, hA⟩, hb1⟩
  have HA := Lib.hid hA
  have HX1 := Lib.hid (SliceAt.below HX.out hb1 (Nat.le_refl _))
  have HB1 := Lib.hid (bnext HB.out hb1)
  clear hA hb1
  go_wp2_with fail
  refine (HPl.out _).mono ?_
  rintro e w2 ⟨pf, pw, R, pv, Y, rfl, -, -, -, hb2⟩
  have HA2 := Lib.hid (SliceAt.below HA.out hb2 (Nat.le_refl _))
  have HX2 := Lib.hid (SliceAt.below HX1.out hb2 (Nat.le_refl _))
  have HB2 := Lib.hid (bnext HB1.out hb2)
  clear hb2
  go_wp2_with fail
  refine (exprun_early _ 0 0 _ _).mono ?_
  rintro e w3 ⟨rfl, hb3⟩
  have hA3 := SliceAt.below HA2.out hb3 (Nat.le_refl _)
  have hX3 := SliceAt.below HX2.out hb3 (Nat.le_refl _)
  have HB3 := Lib.hid (bnext HB2.out hb3)
  have HX3 := Lib.hid hX3
  obtain ⟨b, off, rfl, -⟩ := eys_some hA3 (by decide)
  obtain ⟨y0, y1, y2, y3, y4, y5⟩ := eys_six hA3 0 (by decide)
  obtain ⟨z0, z1, z2, z3, z4, z5⟩ := eys_six hA3 1 (by decide)
  obtain ⟨x0, x1, x2, x3, x4, x5⟩ := eys_six hX3 0 (by decide)
  have HO1 := Lib.hid (fun w => (show Calls Tryz.prog 23 #[.agg #[.string ByteArray.empty, .string (ByteArray.mk #[97]), .string ByteArray.empty, .int .i64 1, .int .i64 5, .bool false], .int .i64 10, .int .i64 8] w fun e w' => e = .returned (.bool true) ∧ Below w.heap.size w w' from expOld_any eA38 10 8 (by omega) (by omega) (by decide) (by omega) w))
  have HO2 := Lib.hid (fun w => (show Calls Tryz.prog 23 #[.agg #[.string ByteArray.empty, .string (ByteArray.mk #[98]), .string ByteArray.empty, .int .i64 2, .int .i64 6, .bool false], .int .i64 10, .int .i64 8] w fun e w' => e = .returned (.bool false) ∧ Below w.heap.size w w' from expOld_any eB38 10 8 (by omega) (by omega) (by decide) (by omega) w))
  clear hA3 hX3 hb3
  simp only [l38, eA38, eB38, List.getElem_cons_zero, List.getElem_cons_succ, Nat.zero_mul, Nat.one_mul, Nat.zero_add, Nat.add_zero, List.length_cons, List.length_nil] at y0 y1 y2 y3 y4 y5 z0 z1 z2 z3 z4 z5 x0 x1 x2 x3 x4 x5
  go_wp2_with fail
  refine (HO1.out _).mono ?_
  rintro e w4 ⟨rfl, hb4⟩
  have hX4 := SliceAt.below HX3.out hb4 (Nat.le_refl _)
  have HB4 := Lib.hid (bnext HB3.out hb4)
  clear y0 y1 y2 y3 y4 y5 z0 z1 z2 z3 z4 z5 x0 x1 x2 x3 x4 x5
  obtain ⟨x0, x1, x2, x3, x4, x5⟩ := eys_six hX4 1 (by decide)
  clear hX4 hb4
  simp only [l38, eA38, eB38, List.getElem_cons_zero, List.getElem_cons_succ, Nat.zero_mul, Nat.one_mul, Nat.zero_add, Nat.add_zero] at x0 x1 x2 x3 x4 x5
  go_wp2_with fail
  refine (HO2.out _).mono ?_
  rintro e w5 ⟨rfl, hb5⟩
  have HB5 := Lib.hid (bnext HB4.out hb5)
  clear hb5
  go_wp2_with fail
  go_ret
  exact ⟨rfl, HB5.out⟩
end Go.Proofs.YtkkiglagdojnlaaGreatDoor

/- A region that draws its order, taken by hand: the slot that an operation writes is named. No program in sight. -/
namespace Go.Proofs.YtkkiglagdojnlaaGreatDoor

open Go

section

variable {P : Program} {ops : Array Oper} {Q : Exit → Act → World → Prop} {md : Region.Mode} {S : World → Prop}

/-- a call that comes up alone. -/
theorem reg_call (i d : Nat) {oi : Oper} {fuel : Nat} {listed : Array Bool} {tmps : Array Value} {defers : List Deferred} {w : World} (hr : Region.ready md ops listed = [i]) (hi : ops[i]? = some oi) (hd : oi.dst = some d)
    (hw : Region.wanted oi (yielded ops tmps) = true) {f : FuncId} {args : Array Value} (he : (execOp (Act.eval { tmps, defers }) oi).run P w = .ok (.enter f args) w) {R : Value → World → Prop}
    (hc : Calls P f args w fun e w' => ∃ v, e = .returned v ∧ R v w') (hS : ∀ v w', R v w' → S w')
    (h : ∀ v w', R v w' → wpAnyH P md ops Q S fuel (listed.setIfInBounds i true) { tmps := tmps.setIfInBounds d v, defers } w') : wpAnyH P md ops Q S (fuel + 1) listed { tmps, defers } w := by
  refine wpAnyH_ready hr (by simp) (AllReadyH.cons hi (fun K hK => ?_) AllReadyH.nil)
  rw [if_pos hw]
  unfold Oper.wp
  rw [he]
  refine hc.mono ?_
  rintro e w' ⟨v, rfl, hR⟩
  have := h v w' hR
  refine hK.out _ _ (hS v w' hR) (fun _ => ?_)
  rw [hd]
  exact this
end

end Go.Proofs.YtkkiglagdojnlaaGreatDoor

/- A region that draws its order, taken by hand, on: a make beside a call; S made stronger on the way. No program in sight. -/
namespace Go.Proofs.YtkkiglagdojnlaaGreatDoor

open Go

section

variable {P : Program} {ops : Array Oper} {Q : Exit → Act → World → Prop} {md : Region.Mode} {S : World → Prop}

end

end Go.Proofs.YtkkiglagdojnlaaGreatDoor

/- A region that draws its order inside a round of a range over a function: by the laws for regions outside. No program in sight. -/
namespace Go.Proofs.YtkkiglagdojnlaaGreatDoor

open Go

section

variable {P : Program} {ops : Array Oper} {md : Region.Mode} {l : Nat} {n : Nat} {Q : Exit → Act → World → Prop}

section

variable {S : World → Prop} {oi : Oper} {fuel : Nat} {listed : Array Bool} {tmps : Array Value} {defers : List Deferred} {w W : World} {v : Value}

end

end

end Go.Proofs.YtkkiglagdojnlaaGreatDoor

/- A region that draws its order, taken by hand, on: a call, and a make beside it. No program in sight. -/
namespace Go.Proofs.YtkkiglagdojnlaaGreatDoor

open Go.RowKit

section

variable {P : Program} {ops : Array Oper} {Q : Exit → Act → World → Prop} {md : Region.Mode} {S : World → Prop}

end

end Go.Proofs.YtkkiglagdojnlaaGreatDoor

/- A region that draws its order, taken by hand, on: several operations that only read, at once. No program in sight. -/
namespace Go.Proofs.YtkkiglagdojnlaaGreatDoor

open Go

section

variable {P : Program} {ops : Array Oper} {Q : Exit → Act → World → Prop} {md : Region.Mode} {S : World → Prop}

/-- may they be taken, one behind the other? -/
def takesB (md : Region.Mode) (ops : Array Oper) : List (Nat × Nat) → Array Bool → Bool
  | [], _ => true
  | (i, d) :: l, listed => (match ops[i]? with | some o => decide (o.dst = some d) | none => false) && Region.free md ops listed i && (Region.ready md ops listed).contains i && takesB md ops l (listed.setIfInBounds i true)
def takesL : List (Nat × Nat) → Array Bool → Array Bool
  | [], x => x
  | (i, _) :: l, x => takesL l (x.setIfInBounds i true)
/-- what they yield, one behind the other. -/
def Takes (P : Program) (ops : Array Oper) (S : World → Prop) (defers : List Deferred) : List (Nat × Nat) → Array Value → (Array Value → Prop) → Prop
  | [], t, K => K t
  | (i, d) :: l, t, K => ∃ oi v, ops[i]? = some oi ∧ ((Region.wanted oi (yielded ops t) = true ∧ ∀ w, S w → (execOp (Act.eval { tmps := t, defers }) oi).run P w = .ok (.value v) w) ∨ (Region.wanted oi (yielded ops t) = false ∧ v = undef)) ∧ Takes P ops S defers l (t.setIfInBounds d v) K
theorem takes_cons {defers : List Deferred} {i d : Nat} {l : List (Nat × Nat)} {t : Array Value} {K : Array Value → Prop} {oi : Oper} {v : Value} (h0 : ops[i]? = some oi) (hw : Region.wanted oi (yielded ops t) = true)
    (hy : ∀ w, S w → (execOp (Act.eval { tmps := t, defers }) oi).run P w = .ok (.value v) w) (h : Takes P ops S defers l (t.setIfInBounds d v) K) : Takes P ops S defers ((i, d) :: l) t K := ⟨oi, v, h0, .inl ⟨hw, hy⟩, h⟩
theorem takes_skip {defers : List Deferred} {i d : Nat} {l : List (Nat × Nat)} {t : Array Value} {K : Array Value → Prop} {oi : Oper} (h0 : ops[i]? = some oi) (hw : Region.wanted oi (yielded ops t) = false)
    (h : Takes P ops S defers l (t.setIfInBounds d undef) K) : Takes P ops S defers ((i, d) :: l) t K := ⟨oi, undef, h0, .inr ⟨hw, rfl⟩, h⟩
theorem takes_nil {defers : List Deferred} {t : Array Value} {K : Array Value → Prop} (h : K t) : Takes P ops S defers [] t K := h
theorem reg_takesL (hs : Region.noSelect ops = true) (hQ : ∀ c a (d : Nat) v w, Q (.panic c) (Act.put a (some d) v) w → Q (.panic c) a w) {defers : List Deferred} {w : World} (hS : S w) {fuel : Nat} :
    ∀ (l : List (Nat × Nat)) (listed : Array Bool) (t : Array Value), takesB md ops l listed = true → Takes P ops S defers l t (fun t' => wpAnyH P md ops Q S fuel (takesL l listed) { tmps := t', defers } w) → wpAnyH P md ops Q S (fuel + l.length) listed { tmps := t, defers } w
  | [], _, _, _, h => h
  | (i, d) :: l, listed, t, hB, h => by
    obtain ⟨oi, v, h0, hv, h⟩ := h
    simp only [takesB, h0, Bool.and_eq_true, decide_eq_true_eq] at hB
    obtain ⟨⟨⟨hd, hf⟩, hr⟩, hB⟩ := hB
    refine wpAnyH_take h0 hs hf hr (fun c a w => ?_) hv hS ?_
    · rw [hd]; exact hQ c a d v w
    · rw [hd]; exact reg_takesL hs hQ hS l _ _ hB h
/-- several that only read, at once: (number, slot). -/
theorem reg_takes (n : Nat) (l : List (Nat × Nat)) {listed : Array Bool} {tmps : Array Value} {defers : List Deferred} {w : World} {fuel : Nat} (hB : takesB md ops l listed = true) (hs : Region.noSelect ops = true) (hn : l.length = n)
    (hQ : ∀ c a (d : Nat) v w, Q (.panic c) (Act.put a (some d) v) w → Q (.panic c) a w) (hS : S w) (h : Takes P ops S defers l tmps (fun t' => wpAnyH P md ops Q S fuel (takesL l listed) { tmps := t', defers } w)) :
    wpAnyH P md ops Q S (fuel + n) listed { tmps, defers } w := by
  subst hn
  exact reg_takesL hs hQ hS l listed tmps hB h
end

end Go.Proofs.YtkkiglagdojnlaaGreatDoor
