/- Texts of the proof, part 4. -/
import Derived.Test.YtaojpbgaengdpaaGreatDoorDO3
import Derived.Test.YtaojpbgaengdpaaGreatDoorDO1
set_option linter.unusedVariables false
set_option linter.unusedSimpArgs false
/- The reference's But. -/
namespace Go.Proofs.YtaojpbgaengdpaaGreatDoor

open Go.RowKit

theorem own_base {w : World} {base base' : Nat} {e : TypeId} {sz n : Nat} {v : Value} {xs : List Value} (h : w.ownsRow base' e sz v n xs) (hb : base ≤ base') : w.ownsRow base e sz v n xs :=
  ⟨h.1, h.2.imp id (fun ⟨g, cap, cur, hv, hg, rest⟩ => ⟨g, cap, cur, hv, Nat.le_trans hb hg, rest⟩)⟩
set_option maxRecDepth 100000 in
set_option maxHeartbeats 4000000 in
theorem rbut_any (w : World) {a pa : Option Addr} {n c pn pc : Nat} {l : List Rw} {ps : List ByteArray} (hA : SliceAt w 10 rwQ a n c l) (hl : n ≤ 10000) (hP : SliceAt w 1 pxR pa pn pc ps) (hp : ∀ p ∈ ps, p.size ≤ 100000) (hr : ∀ r ∈ l, r.path.size ≤ 1000000) :
    Calls Tryz.prog 20 #[.slice a n c, .slice pa pn pc] w fun e w' => ∃ v, e = .returned v ∧ OR w' w.heap.size v (butL l ps) ∧ Below w.heap.size w w' := by
  obtain rfl := hA.1
  obtain rfl := hP.1
  have HA := Lib.hid hA
  have HP := Lib.hid hP
  have HPs := Lib.hid hp
  have HRs := Lib.hid hr
  have hpl : ps.length ≤ 9223372036854775807 := Nat.le_trans hP.2.1 hP.2.2.1
  have HO0 := Lib.hid (show OR w w.heap.size (.slice none 0 0) ((l.take 0).filter (keepB ps)) from OR.nil w w.heap.size)
  have HE := Lib.hid (show butL l ps = anewL ((l.take l.length).filter (keepB ps)) by rw [List.take_length]; rfl)
  generalize butL l ps = Z at HE ⊢
  clear hA hP hp hr
  go_enter Tryz.func20, Tryz.ntmps20
  go_wp2_with fail
  go_loopw [5, 6] (fun t5 t6 wr => ∃ k : Nat, k ≤ l.length ∧ t6 = .int .i64 k ∧ OR wr w.heap.size t5 ((l.take k).filter (keepB ps)) ∧ Below w.heap.size w wr) (fun _ t6 _ => l.length - (intOf t6).toNat)
  case atStart => exact ⟨0, Nat.zero_le _, rfl, HO0.out, Below.refl _ _⟩
  case round =>
    obtain ⟨k, hk, rfl, hO, hb⟩ := hrel
    have HO := Lib.hid hO
    have HB := Lib.hid hb
    by_cases hlt : k < l.length
    · have HStep := Lib.hid (keep_step hlt (keepB ps))
      have hlen : ((l.take k).filter (keepB ps)).length ≤ 10000 := by
        have h1 := List.length_filter_le (keepB ps) (l.take k)
        rw [List.length_take] at h1
        omega
      have HRp := Lib.hid (HRs.out _ (List.getElem_mem hlt))
      obtain ⟨ba, oa, rfl, -⟩ := rowsAt_some HA.out (by omega)
      have HC := Lib.hid (fun w3 (hb : Below w.heap.size w w3) => rows_cell (HA.out.below hb (Nat.le_refl _)) k hlt)
      obtain ⟨r, hr⟩ : ∃ r, l[k] = r := ⟨_, rfl⟩
      rw [hr] at HC HStep HRp
      clear hr hO hb
      go_wp2_with fail
      go_loopw [7, 8] (fun t7 t8 w2 => ∃ j : Nat, j ≤ ps.length ∧ t8 = .int .i64 j ∧ t7 = .bool ((ps.take j).all (fun p => !insideB p r.path)) ∧ Below wr.heap.size wr w2) (fun _ t8 _ => ps.length - (intOf t8).toNat)
      case atStart => exact ⟨0, Nat.zero_le _, rfl, rfl, Below.refl _ _⟩
      case round =>
        obtain ⟨j, hj, rfl, rfl, hb2⟩ := hrel
        have HB2 := Lib.hid hb2
        have HBw := Lib.hid (bnext HB.out hb2)
        clear hb2
        by_cases hlt2 : j < ps.length
        · have hPX := HP.out.below HBw.out (Nat.le_refl _)
          obtain ⟨pb, po, rfl, -⟩ := px_some hPX (by omega)
          have hpc := px_cell hPX j hlt2
          obtain ⟨c0, -, -, -, -, -, -, -, -, -⟩ := HC.out _ HBw.out
          have HI := Lib.hid (fun w3 => rinside_any ps[j] r.path w3 (HPs.out _ (List.getElem_mem _)) (Nat.le_trans HRp.out (by omega)))
          have HSt := Lib.hid (show (ps.take (j + 1)).all (fun p => !insideB p r.path) = ((ps.take j).all (fun p => !insideB p r.path) && !insideB ps[j] r.path) by
            rw [List.take_succ_eq_append_getElem hlt2, List.all_append]; simp)
          generalize ps[j] = q at hpc HI HSt
          clear hPX
          cases hal : (ps.take j).all (fun p => !insideB p r.path) with
          | true =>
            have HAl := Lib.hid hal
            clear hal
            go_wp2_with fail
            go_quiet ((go_at_call 55; exact Calls.quiet_of_same (HI.out _)))
            go_wp2_with fail
            go_roundw
            case measure => simp [intOf]; omega
            case rel => exact ⟨j + 1, by omega, by go_num, by rw [HSt.out, HAl.out]; rfl, below_drewN HB2.out _⟩
          | false =>
            have HAl := Lib.hid hal
            clear hal
            go_wp2_with fail
            go_quiet (fail)
            go_wp2_with fail
            go_roundw
            case measure => simp [intOf]; omega
            case rel => exact ⟨j + 1, by omega, by go_num, by rw [HSt.out, HAl.out]; rfl, below_drewN HB2.out _⟩
        · obtain rfl : j = ps.length := by omega
          rw [List.take_length]
          have HK := Lib.hid (show ps.all (fun p => !insideB p r.path) = keepB ps r from rfl)
          rw [HK.out]
          cases hkp : keepB ps r with
          | true =>
            have HZ := Lib.hid (show (l.take (k + 1)).filter (keepB ps) = (l.take k).filter (keepB ps) ++ [r] by rw [HStep.out, if_pos hkp])
            obtain ⟨c0, c1, c2, c3, c4, c5, c6, c7, c8, c9⟩ := HC.out _ HBw.out
            have hO2 := own_keep HO.out HB2.out
            obtain ⟨oo, oc, ht3, ho1, ho2, -⟩ := own_form hO2
            subst ht3
            obtain ⟨g9, cap9, W9, hrun9, hO9, hm9⟩ := OR.app hO2 r (by omega) HBw.out.size
            simp only [rwC] at hrun9
            have HR9 := Lib.hid hrun9
            have HO9 := Lib.hid hO9
            have HB9 := Lib.hid (HBw.out.trans (hm9.below (fun _ hk => (own_obj1 hO2 hk).1) HBw.out.size))
            clear hkp hrun9 hO9 hm9 hO2
            go_wp2_with (at_builtin; refine wpList_app_run rfl rfl rfl rfl HR9.out ?_)
            go_roundw
            case measure => simp [intOf]; omega
            case rel => exact ⟨k + 1, by omega, by go_num, by rw [HZ.out]; exact HO9.out, HB9.out⟩
          | false =>
            have HZ := Lib.hid (show (l.take (k + 1)).filter (keepB ps) = (l.take k).filter (keepB ps) by rw [HStep.out, if_neg (by rw [hkp]; simp)])
            clear hkp
            go_wp2_with fail
            go_roundw
            case measure => simp [intOf]; omega
            case rel => exact ⟨k + 1, by omega, by go_num, by rw [HZ.out]; exact own_keep HO.out HB2.out, HBw.out⟩
    · obtain rfl : k = l.length := by omega
      have hkl : ((l.take l.length).filter (keepB ps)).length ≤ 10000 := by
        have := List.length_filter_le (keepB ps) (l.take l.length)
        rw [List.length_take] at this
        omega
      obtain ⟨kept, hkept⟩ : ∃ y, (l.take l.length).filter (keepB ps) = y := ⟨_, rfl⟩
      rw [hkept] at hO HE hkl
      obtain ⟨oo, oc, ht3, ho1, ho2, -⟩ := own_form hO
      subst ht3
      have HN := Lib.hid (ranew_any wr (OR.at hO) hkl)
      clear hO hb HO0 HP HA HO hkept
      go_wp2_with fail
      refine HN.out.mono ?_
      rintro e w3 ⟨v, rfl, ho, hb3⟩
      have HV := Lib.hid (own_base ho HB.out.size)
      have HB3 := Lib.hid (bnext HB.out hb3)
      clear ho hb3
      go_wp2_with fail
      go_ret
      exact ⟨_, rfl, by rw [HE.out]; exact HV.out, HB3.out⟩
end Go.Proofs.YtaojpbgaengdpaaGreatDoor

/- Rows of some alone: dump.At. -/
namespace Go.Proofs.YtaojpbgaengdpaaGreatDoor

open Go.RowKit

def atR (p tg : ByteArray) (r : Rw) : Option Rw := if (relB p r.path).2 = true then some { r with path := joinB tg (relB p r.path).1 } else none
def atL (l : List Rw) (p tg : ByteArray) : List Rw := anewL (l.filterMap (atR p tg))
theorem at_step {l : List Rw} {k : Nat} (hk : k < l.length) (f : Rw → Option Rw) : (l.take (k + 1)).filterMap f = (l.take k).filterMap f ++ (f l[k]).toList := by
  rw [List.take_succ_eq_append_getElem hk, List.filterMap_append]
  cases h : f l[k] <;> simp [h]
theorem rel_size (a b : ByteArray) : (relB a b).1.size ≤ b.size + 2 := by
  have h1 := clean_size b
  unfold relB
  split
  · simp only
    split
    · show (1 : Nat) ≤ _
      omega
    · rw [str_size, List.length_drop]
      have h2 : (cleanB b).data.toList.length = (cleanB b).size := Array.length_toList
      omega
  · show (0 : Nat) ≤ _
    omega
set_option maxRecDepth 100000 in
set_option maxHeartbeats 4000000 in
theorem dat_any (w : World) {a : Option Addr} {n c : Nat} {l : List Rw} (hA : SliceAt w 10 rwQ a n c l) (hl : n ≤ 10000) (p tg : ByteArray) (hp : p.size ≤ 30000) (ht : tg.size ≤ 30000) (hr : ∀ r ∈ l, r.path.size ≤ 30000) :
    Calls Tryz.prog 17 #[.slice a n c, .string p, .string tg] w fun e w' => ∃ v, e = .returned v ∧ OR w' w.heap.size v (atL l p tg) ∧ Below w.heap.size w w' := by
  obtain rfl := hA.1
  have HA := Lib.hid hA
  have HRs := Lib.hid hr
  have hmm := @run_makeMap Tryz.prog
  have hM0 := Lib.hid (show AB w.heap.size (w.alloc (.map #[] 0)) w.heap.size (.slice none 0 0) (anewL ((l.take 0).filterMap (atR p tg))) (((l.take 0).filterMap (atR p tg)).map Rw.first) from
    ⟨OR.nil _ _, [], 0, World.alloc_heap_new _ _, FirstOf.nil⟩)
  have hB0 := Lib.hid (balloc (Below.refl w.heap.size w) (.map #[] 0))
  have HE := Lib.hid (show atL l p tg = anewL ((l.take l.length).filterMap (atR p tg)) by rw [List.take_length]; rfl)
  generalize atL l p tg = Z at HE ⊢
  clear hA hr
  go_enter Tryz.func17, Tryz.ntmps17
  go_wp2_with fail
  clear hmm
  go_loopw [7, 18] (fun t7 t18 wr => ∃ k : Nat, k ≤ l.length ∧ t18 = .int .i64 k ∧ AB w.heap.size wr w.heap.size t7 (anewL ((l.take k).filterMap (atR p tg))) (((l.take k).filterMap (atR p tg)).map Rw.first) ∧ Below w.heap.size w wr) (fun _ t18 _ => l.length - (intOf t18).toNat)
  case atStart => exact ⟨0, Nat.zero_le _, rfl, hM0.out, hB0.out⟩
  case round =>
    obtain ⟨k, hk, rfl, hD, hb⟩ := hrel
    have HD := Lib.hid hD
    have HB := Lib.hid hb
    by_cases hlt : k < l.length
    · have hA2 := HA.out.below hb (Nat.le_refl _)
      obtain ⟨ba, oa, rfl, -⟩ := rowsAt_some hA2 (by omega)
      obtain ⟨c0, c1, c2, c3, c4, c5, c6, c7, c8, c9⟩ := rows_cell hA2 k hlt
      have HStep := Lib.hid (at_step hlt (atR p tg))
      have hlen : ((l.take k).filterMap (atR p tg)).length ≤ 10000 := by
        have h1 := List.length_filterMap_le (atR p tg) (l.take k)
        rw [List.length_take] at h1
        omega
      have hrp := HRs.out _ (List.getElem_mem hlt)
      generalize (l.take k).filterMap (atR p tg) = kept at HD hD HStep hlen
      obtain ⟨r, hr⟩ : ∃ r, l[k] = r := ⟨_, rfl⟩
      rw [hr] at c0 c1 c2 c3 c4 c5 c6 c7 c8 c9 HStep hrp
      obtain ⟨oo, oc, ht5, ho1, ho2, -⟩ := own_form hD.o
      rw [anewL_len] at ht5 ho1
      subst ht5
      have hX := Blk.new wr (rwC r).toArray 47
      have hbX := balloc hb (.cells (rwC r).toArray 47)
      have hDX := hD.keep ((Below.refl _ wr).alloc (Nat.le_refl _) (.cells (rwC r).toArray 47))
      have hne : (Value.slice oo kept.length oc).ownBlock ≠ some wr.heap.size := fun he => by
        obtain ⟨-, cur, hc⟩ := own_obj1 hD.o he
        have := (Array.getElem?_eq_some_iff.1 hc).1
        omega
      have HNe := Lib.hid hne
      have hbw : w.heap.size ≤ wr.heap.size := HB.out.size
      simp only [rwC] at hX hbX hDX
      clear hD hA2 hb hne hr
      go_upto_region 6 with fail
      generalize wr.alloc (.cells #[.string r.path, .int .i64 r.kind, .int .i64 r.mode, .int .i64 r.uid, .int .i64 r.gid, .int .i64 r.mtime, .int .i64 r.ctime, .int .i64 r.dev, .int .i64 r.first, .string r.data] 47) = X at hX hbX hDX ⊢
      generalize wr.heap.size = bx at hX HNe hbw ⊢
      have HX0 := Lib.hid hX
      have HBX0 := Lib.hid hbX
      have HDX0 := Lib.hid hDX
      obtain ⟨xc, xf, xz⟩ := hX.facts
      have HRl := Lib.hid (trel_any p r.path X (by omega) (by omega))
      have hrs := rel_size p r.path
      have HAt := Lib.hid (show atR p tg r = if (relB p r.path).2 = true then some { r with path := joinB tg (relB p r.path).1 } else none from rfl)
      obtain ⟨sf, hsf⟩ : ∃ x, (relB p r.path).1 = x := ⟨_, rfl⟩
      obtain ⟨sb, hsb⟩ : ∃ x, (relB p r.path).2 = x := ⟨_, rfl⟩
      rw [hsf] at HRl hrs HAt
      rw [hsb] at HRl HAt
      clear hsf hsb
      have HJn := Lib.hid (fun w => tjoin_any tg sf w (by omega) (by omega))
      generalize joinB tg sf = jn at HJn HAt
      clear c0 c1 c2 c3 c4 c5 c6 c7 c8 c9 hX hDX hbX
      go_wp2_with fail
      refine HRl.out.mono ?_
      rintro e w1 ⟨rfl, hb1⟩
      have HX := Lib.hid (HX0.out.keep hb1)
      have HDX := Lib.hid (HDX0.out.keep hb1)
      have HBX := Lib.hid (bnext HBX0.out hb1)
      clear hb1 xc xf xz HX0 HDX0 HBX0
      obtain ⟨xc, xf, xz⟩ := HX.out.facts
      cases sb with
      | false =>
        have HK := Lib.hid (show (l.take (k + 1)).filterMap (atR p tg) = kept by rw [HStep.out, HAt.out, if_neg (by simp)]; simp)
        go_wp2_with fail
        go_roundw
        case measure => simp [intOf]; omega
        case rel => exact ⟨k + 1, by omega, by go_num, by rw [HK.out]; exact HDX.out, HBX.out⟩
      | true =>
          have HK := Lib.hid (show (l.take (k + 1)).filterMap (atR p tg) = kept ++ [{ r with path := jn }] by rw [HStep.out, HAt.out, if_pos rfl]; rfl)
          have HAn := Lib.hid (anewL_snoc kept { r with path := jn })
          have hkl : (kept.map Rw.first).length = kept.length := List.length_map _
          obtain ⟨fs, hfs⟩ : ∃ fs, kept.map Rw.first = fs := ⟨_, rfl⟩
          rw [hfs] at HDX HAn hkl
          dsimp only at HAn
          have HMp := Lib.hid (show (kept ++ [{ r with path := jn }]).map Rw.first = fs ++ [r.first] by rw [List.map_append, hfs]; rfl)
          clear hfs
          by_cases hin : r.first ∈ fs
          · have hlk := HDX.out.yes hin
            have HD1 := HDX.out.old hin
            rw [← idx_snoc fs r.first r.first hin] at hlk
            obtain ⟨fi, hfi⟩ : ∃ fi, (fs ++ [r.first]).idxOf r.first = fi := ⟨_, rfl⟩
            rw [hfi] at hlk HAn
            have hXb := HX.out.set 8 (.int .i64 (fi : Nat))
            have hDb := HD1.box HX.out HNe.out 8 (.int .i64 (fi : Nat))
            have hbs : Below w.heap.size w (w1.setCell ⟨bx, 8, none⟩ (.int .i64 (fi : Nat))) := below_box HBX.out hbw HBX.out.size 8 _
            clear hin hfi HD1
            go_upto_region 13 with fail
            generalize w1.setCell ⟨bx, 8, none⟩ (.int .i64 (fi : Nat)) = Q at hXb hDb hbs ⊢
            simp only [List.setIfInBounds_toArray, List.set_cons_zero, List.set_cons_succ] at hXb
            have HXQ := Lib.hid hXb
            have HDQ := Lib.hid hDb
            have HBQ := Lib.hid hbs
            clear hXb hDb hbs xc xf xz
            go_wp2_with fail
            refine (HJn.out _).mono ?_
            rintro e w2 ⟨rfl, hb2⟩
            have hX2 := HXQ.out.keep hb2
            have hD2 := HDQ.out.keep hb2
            have hB2 := bnext HBQ.out hb2
            obtain ⟨xc, xf, xz⟩ := hX2.facts
            have hXc := hX2.set 0 (.string jn)
            have hDc := hD2.box hX2 HNe.out 0 (.string jn)
            have hBc := below_box hB2 hbw hB2.size (b := bx) 0 (.string jn)
            clear hX2 hD2 hB2 hb2
            go_upto_region 14 with fail
            generalize w2.setCell ⟨bx, 0, none⟩ (.string jn) = Q2 at hXc hDc hBc ⊢
            simp only [List.setIfInBounds_toArray, List.set_cons_zero, List.set_cons_succ] at hXc
            obtain ⟨qc, qf, qz⟩ := hXc.facts
            obtain ⟨g9, cap9, W9, hrun9, hD9, hb9⟩ := hDc.row (({ r with path := jn } : Rw).to (fi : Nat)) (by rw [anewL_len]; omega) hBc.size
            simp only [rwC, Rw.to] at hrun9
            rw [anewL_len] at hrun9 hD9
            have HR9 := Lib.hid hrun9
            have HD9 := Lib.hid hD9
            have HB9 := Lib.hid (hBc.trans hb9)
            clear hrun9 hD9 hb9 hDc hBc hXc xc xf xz
            go_wp2_with (at_builtin; refine wpList_app_run rfl rfl rfl rfl HR9.out ?_)
            go_roundw
            case measure => simp [intOf]; omega
            case rel => exact ⟨k + 1, by omega, by go_num, by rw [HK.out, HAn.out, HMp.out]; exact HD9.out, HB9.out⟩
          · have hlk := HDX.out.no hin
            obtain ⟨W2, hup, HD1, hB2, hbel⟩ := HDX.out.new hin (Nat.le_refl _) HBX.out.size
            have hid : (fs ++ [r.first]).idxOf r.first = kept.length := by
              rw [List.idxOf_append, if_neg hin, ← hkl]
              simp
            rw [hid] at HAn
            rw [hkl] at hup
            have HB2w := Lib.hid (HBX.out.trans hbel)
            have hXb := (hB2 _ _ _ HX.out).set 8 (.int .i64 (kept.length : Nat))
            have hDb := HD1.box (hB2 _ _ _ HX.out) HNe.out 8 (.int .i64 (kept.length : Nat))
            have hbs : Below w.heap.size w (W2.setCell ⟨bx, 8, none⟩ (.int .i64 (kept.length : Nat))) := below_box HB2w.out hbw HB2w.out.size 8 _
            obtain ⟨yc, yf, yz⟩ := (hB2 _ _ _ HX.out).facts
            clear hin HD1 hB2 hbel hid
            go_upto_region 13 with fail
            generalize W2.setCell ⟨bx, 8, none⟩ (.int .i64 (kept.length : Nat)) = Q at hXb hDb hbs ⊢
            simp only [List.setIfInBounds_toArray, List.set_cons_zero, List.set_cons_succ] at hXb
            have HXQ := Lib.hid hXb
            have HDQ := Lib.hid hDb
            have HBQ := Lib.hid hbs
            clear hXb hDb hbs xc xf xz yc yf yz
            go_wp2_with fail
            refine (HJn.out _).mono ?_
            rintro e w2 ⟨rfl, hb2⟩
            have hX2 := HXQ.out.keep hb2
            have hD2 := HDQ.out.keep hb2
            have hB2 := bnext HBQ.out hb2
            obtain ⟨xc, xf, xz⟩ := hX2.facts
            have hXc := hX2.set 0 (.string jn)
            have hDc := hD2.box hX2 HNe.out 0 (.string jn)
            have hBc := below_box hB2 hbw hB2.size (b := bx) 0 (.string jn)
            clear hX2 hD2 hB2 hb2
            go_upto_region 14 with fail
            generalize w2.setCell ⟨bx, 0, none⟩ (.string jn) = Q2 at hXc hDc hBc ⊢
            simp only [List.setIfInBounds_toArray, List.set_cons_zero, List.set_cons_succ] at hXc
            obtain ⟨qc, qf, qz⟩ := hXc.facts
            obtain ⟨g9, cap9, W9, hrun9, hD9, hb9⟩ := hDc.row (({ r with path := jn } : Rw).to (kept.length : Nat)) (by rw [anewL_len]; omega) hBc.size
            simp only [rwC, Rw.to] at hrun9
            rw [anewL_len] at hrun9 hD9
            have HR9 := Lib.hid hrun9
            have HD9 := Lib.hid hD9
            have HB9 := Lib.hid (hBc.trans hb9)
            clear hrun9 hD9 hb9 hDc hBc hXc xc xf xz
            go_wp2_with (at_builtin; refine wpList_app_run rfl rfl rfl rfl HR9.out ?_)
            go_roundw
            case measure => simp [intOf]; omega
            case rel => exact ⟨k + 1, by omega, by go_num, by rw [HK.out, HAn.out, HMp.out]; exact HD9.out, HB9.out⟩
    · obtain rfl : k = l.length := by omega
      rw [← HE.out] at HD
      clear hD hb
      go_wp2_with fail
      go_ret
      exact ⟨_, rfl, HD.out.o, HB.out⟩
end Go.Proofs.YtaojpbgaengdpaaGreatDoor

/- Rows of a tree lie in order, purely: what the rows are. -/
namespace Go.Proofs.YtaojpbgaengdpaaGreatDoor

open Go.RowKit

abbrev VisT := List (List (List UInt8) × An)
def mkOut (vis : VisT) : List Rw := vis.map fun y => y.2.rw (pth y.1) ((vis.map (·.2.no)).idxOf y.2.no : Nat)
theorem mkOut_len (vis : VisT) : (mkOut vis).length = vis.length := List.length_map _
theorem mkOut_snoc (vis : VisT) (ns : List (List UInt8)) (n : An) : mkOut (vis ++ [(ns, n)]) = mkOut vis ++ [n.rw (pth ns) ((vis.map (·.2.no)).idxOf n.no : Nat)] := by
  unfold mkOut
  rw [List.map_append, List.map_append]
  congr 1
  · refine List.map_congr_left fun y hy => ?_
    have := idx_snoc (vis.map (·.2.no)) n.no y.2.no (List.mem_map.2 ⟨y, hy, rfl⟩)
    rw [List.map_cons, List.map_nil]
    show y.2.rw (pth y.1) (((vis.map (·.2.no)) ++ [n.no]).idxOf y.2.no : Nat) = _
    rw [this]
  · simp only [List.map_cons, List.map_nil]
    by_cases h : n.no ∈ vis.map (·.2.no)
    · rw [idx_snoc _ _ _ h]
    · rw [List.idxOf_append, if_neg h, List.idxOf_eq_length h]
      simp
def tdL (td : List (List (List UInt8) × Int)) : List En := td.map fun q => ⟨pth q.1, q.2⟩
theorem kids_td {ns : List (List UInt8)} (h : ∀ p ∈ ns, GoodN p) (n : An) (td : List (List (List UInt8) × Int)) : kidsL (pth ns) n ++ tdL td = tdL (kidsN ns n ++ td) := by
  unfold tdL kidsL kidsN
  rw [List.map_append, List.map_map]
  congr 1
  refine List.map_congr_left fun e he => ?_
  rw [below_pth h]
  rfl
theorem rowsN_ord {S : Fs} {N : Nat} (hk : FsOk S N) (ht : Tr S) (hn : Nm S) : ∀ (f : Nat) (vis : VisT) (td : List (List (List UInt8) × Int)), OrdSt S vis td →
    ∃ vis' : VisT, OrdSt S vis' [] ∧ S.rowsN f (tdL td) (vis.map (·.2.no)) (mkOut vis) = mkOut vis' ∧ vis <+: vis'
  | 0, vis, td, h => ⟨vis, h.stop, rfl, List.prefix_refl _⟩
  | f + 1, vis, [], h => ⟨vis, h, rfl, List.prefix_refl _⟩
  | f + 1, vis, x :: td, h => by
    have hxg := h.tgood x List.mem_cons_self
    cases hg : S.get (S.over x.2) with
    | none =>
      obtain ⟨v, h1, h2, h3⟩ := rowsN_ord hk ht hn f vis td h.drop
      refine ⟨v, h1, ?_, h3⟩
      rw [← h2]
      exact rows_none (x := ⟨pth x.1, x.2⟩) hg f _ _ _
    | some n =>
      obtain ⟨v, h1, h2, h3⟩ := rowsN_ord hk ht hn f _ _ (h.step hk ht hn hg)
      refine ⟨v, h1, ?_, (List.prefix_append _ _).trans h3⟩
      rw [← h2, ← kids_td hxg, mkOut_snoc, List.map_append]
      exact rows_some (x := ⟨pth x.1, x.2⟩) hg f _ _ _
theorem over_some {S : Fs} (ht : Tr S) {k : Int} {a : An} (h : S.get k = some a) : ∃ r, S.get (S.over k) = some r := by
  unfold Fs.over
  split
  · split
    · rename_i d hd
      obtain ⟨i, hi, hid⟩ := List.mem_iff_getElem.1 (List.mem_of_find?_eq_some hd)
      subst hid
      obtain ⟨r, hr, -⟩ := ht.rts i hi
      exact ⟨r, hr⟩
    · exact ⟨a, h⟩
  · exact ⟨a, h⟩
theorem rows_ord {S : Fs} {N : Nat} (hk : FsOk S N) (hp : Pl S) (ht : Tr S) (hn : Nm S) : ∃ vis : VisT, OrdSt S vis [] ∧ S.rows N 1 (ByteArray.mk #[47]) = mkOut vis ∧ vis ≠ [] := by
  obtain ⟨a, ha, -⟩ := hp.one
  obtain ⟨r, hr⟩ := over_some ht ha
  have hst := OrdSt.start S 1
  obtain ⟨v, h1, h2, h3⟩ := rowsN_ord hk ht hn ((N + 1) * S.ns.length) _ _ (hst.step hk ht hn hr)
  refine ⟨v, h1, ?_, ?_⟩
  · rw [← h2, ← kids_td (fun p hp => by cases hp), mkOut_snoc, List.map_append]
    unfold Fs.rows Fs.rowsF
    rw [show 1 + (N + 1) * S.ns.length = (N + 1) * S.ns.length + 1 by omega]
    exact rows_some (x := ⟨pth [], 1⟩) hr _ _ _ _
  · rintro rfl
    simp at h3
theorem rows_size {S : Fs} {N : Nat} (hk : FsOk S N) (hp : Pl S) (ht : Tr S) {s0 : Int} {B : Nat} : ∀ (f : Nat) (todo : List En) (nos : List Int) (out : List Rw), TrSt S N s0 B todo nos f → (∀ r ∈ out, r.path.size ≤ B + 256 * (S.last.toNat + 1)) →
    ∀ r ∈ S.rowsN f todo nos out, r.path.size ≤ B + 256 * (S.last.toNat + 1)
  | 0, _, _, _, _, h => h
  | f + 1, [], _, _, _, h => h
  | f + 1, x :: todo, nos, out, hT, h => by
    cases hg : S.get (S.over x.no) with
    | none =>
      rw [rows_none hg]
      exact rows_size hk hp ht f _ _ _ (hT.none hg) h
    | some n =>
      rw [rows_some hg]
      refine rows_size hk hp ht f _ _ _ (hT.some hk hp ht hg) (fun r hr => ?_)
      rcases List.mem_append.1 hr with hr | hr
      · exact h r hr
      · simp at hr
        subst hr
        have h1 := hT.size x List.mem_cons_self
        have h2 := (hk.get hg).2.2
        have h3 : (if S.isDir (S.over x.no) then (S.over x.no).toNat else S.last.toNat + 1) ≤ S.last.toNat + 1 := by
          split
          · omega
          · omega
        have h4 : 256 * (if S.isDir (S.over x.no) then (S.over x.no).toNat else S.last.toNat + 1) ≤ 256 * (S.last.toNat + 1) := Nat.mul_le_mul_left _ h3
        show x.name.size ≤ _
        omega
/-- told from the top on, they are the same. -/
theorem at_path {ns : List (List UInt8)} (h : ∀ p ∈ ns, GoodN p) (r : Rw) (hr : r.path = pth ns) : atR (ByteArray.mk #[47]) (ByteArray.mk #[47]) r = some r := by
  have h47 : cleanB (ByteArray.mk #[47]) = ByteArray.mk #[47] := cleanB_pth (ns := []) (fun p hp => by cases hp)
  have hrel : relB (ByteArray.mk #[47]) (pth ns) = (if ByteArray.mk #[47] = pth ns then ptB else str (Lib.join ns [47]), true) := by
    unfold relB
    rw [h47, cleanB_pth h, if_pos]
    · have : str ((pth ns).data.toList.drop ((trimL (ByteArray.mk #[47]).data.toList).length + 1)) = str (Lib.join ns [47]) := by
        show str ((pth ns).data.toList.drop 1) = _
        unfold pth
        rw [str_list]
        rfl
      rw [this]
    · refine ⟨rfl, ?_, ?_⟩
      · unfold pth
        rw [str_list]
        rfl
      · unfold insideB pth
        rw [str_list]
        rw [Bool.or_eq_true_iff]
        right
        unfold Lib.hasPrefix pthL
        show List.isPrefixOf [47] (47 :: _) = true
        simp [List.isPrefixOf]
  unfold atR
  rw [hr, hrel, if_pos rfl]
  congr 1
  have hj : joinB (ByteArray.mk #[47]) (if ByteArray.mk #[47] = pth ns then ptB else str (Lib.join ns [47])) = pth ns := by
    cases ns with
    | nil => decide +kernel
    | cons x l =>
      have hne : ¬ ByteArray.mk #[47] = pth (x :: l) := by
        intro e
        have := pth_inj (a := []) (b := x :: l) (fun p hp => by cases hp) h e
        cases this
      rw [if_neg hne]
      have hx := h x (by simp)
      have hw : wholeB (Lib.join (x :: l) [47]) = false := by
        obtain ⟨y, q, rfl⟩ := List.exists_cons_of_ne_nil hx.ne
        rw [Lib.join_cons]
        unfold wholeB
        have := hx.no y (by simp)
        simpa using this
      unfold joinB
      rw [str_list, if_neg]
      · unfold cleanB
        rw [show (ByteArray.mk #[47] ++ ByteArray.mk #[47] ++ str (Lib.join (x :: l) [47])) = str (47 :: 47 :: Lib.join (x :: l) [47]) by
          rw [show ByteArray.mk #[47] = str [47] from rfl, str_append, str_append]
          rfl, str_list]
        unfold cleanL
        have hp1 := parts_app [] (47 :: Lib.join (x :: l) [47]) (by simp)
        have hp2 := parts_pth h
        unfold pthL at hp2
        rw [if_pos (.inl rfl), List.nil_append, List.nil_append, hp2] at hp1
        rw [hp1, clL_good _ _ h]
        rfl
      · rintro (e | e)
        · rw [hw] at e; cases e
        · exact absurd e (by decide)
  rw [hj, ← hr]
theorem idx_map {α β : Type} [DecidableEq α] [DecidableEq β] (g : α → β) (k : α) : ∀ l : List α, (∀ x ∈ l, g x = g k → x = k) → (l.map g).idxOf (g k) = l.idxOf k
  | [], _ => rfl
  | x :: l, h => by
    rw [List.map_cons, List.idxOf_cons, List.idxOf_cons, idx_map g k l (fun y hy => h y (List.mem_cons_of_mem _ hy))]
    by_cases e : x = k
    · subst e; simp
    · have e2 : ¬ g x = g k := fun e2 => e (h x List.mem_cons_self e2)
      rw [show (x == k) = false by simpa using e, show (g x == g k) = false by simpa using e2]
theorem idx_inj {nos : List Int} {x y : Int} (hx : x ∈ nos) (h : nos.idxOf x = nos.idxOf y) : x = y := by
  have h1 := List.idxOf_lt_length_of_mem hx
  have h2 : nos[nos.idxOf x] = x := List.getElem_idxOf h1
  have h3 : nos[nos.idxOf y]'(by rw [← h]; exact h1) = y := List.getElem_idxOf _
  rw [← h2, ← h3]
  congr 1
theorem at_same {S : Fs} {vis : VisT} (h : OrdSt S vis []) : atL (mkOut vis) (ByteArray.mk #[47]) (ByteArray.mk #[47]) = mkOut vis := by
  have h1 : (mkOut vis).filterMap (atR (ByteArray.mk #[47]) (ByteArray.mk #[47])) = mkOut vis := by
    have key : ∀ l : List Rw, (∀ r ∈ l, atR (ByteArray.mk #[47]) (ByteArray.mk #[47]) r = some r) → l.filterMap (atR (ByteArray.mk #[47]) (ByteArray.mk #[47])) = l := by
      intro l
      induction l with
      | nil => intro _; rfl
      | cons r l ih =>
        intro hl
        rw [List.filterMap_cons, hl r List.mem_cons_self, ih (fun q hq => hl q (List.mem_cons_of_mem _ hq))]
    refine key _ (fun r hr => ?_)
    unfold mkOut at hr
    obtain ⟨y, hy, rfl⟩ := List.mem_map.1 hr
    exact at_path (h.vgood y hy) _ rfl
  unfold atL
  rw [h1]
  unfold anewL
  have h2 : ∀ r ∈ mkOut vis, r.to (((mkOut vis).map Rw.first).idxOf r.first : Nat) = r := by
    intro r hr
    have hfs : (mkOut vis).map Rw.first = (vis.map (·.2.no)).map fun k => ((vis.map (·.2.no)).idxOf k : Int) := by
      unfold mkOut
      rw [List.map_map, List.map_map]
      rfl
    unfold mkOut at hr
    obtain ⟨y, hy, rfl⟩ := List.mem_map.1 hr
    have hmem : y.2.no ∈ vis.map (·.2.no) := List.mem_map.2 ⟨y, hy, rfl⟩
    have h3 := idx_map (fun k => ((vis.map (·.2.no)).idxOf k : Int)) y.2.no (vis.map (·.2.no)) (fun x hx e => idx_inj hx (by
      have : (((vis.map (·.2.no)).idxOf x : Nat) : Int) = ((vis.map (·.2.no)).idxOf y.2.no : Nat) := e
      omega))
    rw [hfs]
    show (y.2.rw (pth y.1) _).to _ = _
    unfold Rw.to An.rw
    simp only
    rw [h3]
  refine (List.map_congr_left h2).trans ?_
  exact List.map_id' _
end Go.Proofs.YtaojpbgaengdpaaGreatDoor
