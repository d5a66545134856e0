/- Texts of the proof, part 3. -/
import Derived.Test.YtaojpbgaengdpaaGreatDoorDP2
import Derived.Test.YtaojpbgaengdpaaGreatDoorDU37
set_option linter.unusedVariables false
set_option linter.unusedSimpArgs false
/- The reference's Rel; Firsts told anew. -/
namespace Go.Proofs.YtaojpbgaengdpaaGreatDoor

open Go.RowKit

theorem u8_is' {x : UInt8} (h : x = 47) : ((x.toNat : Int) != 47) = false := by rw [h]; rfl
theorem u8_isnt' {x : UInt8} (h : x ≠ 47) : ((x.toNat : Int) != 47) = true := by
  have := u8_isnt h
  simp only [bne, this]
  rfl
theorem clean_pos (a : ByteArray) : 0 < (cleanB a).size := by
  unfold cleanB
  rw [str_size]
  exact List.length_pos_iff.2 (clean_ne _)
theorem inside_le {x y : ByteArray} (h : insideB x y = true) (hxy : ¬ x = y) : (str (trimL x.data.toList)).size + 1 ≤ y.size := by
  unfold insideB at h
  rw [decide_eq_false hxy, Bool.false_or] at h
  have h1 := (List.isPrefixOf_iff_prefix.1 (by unfold Lib.hasPrefix at h; exact h)).length_le
  rw [List.length_append, List.length_singleton] at h1
  have h2 : y.data.toList.length = y.size := Array.length_toList
  rw [str_size]
  omega
set_option maxRecDepth 100000 in
set_option maxHeartbeats 1000000 in
theorem rrel_any (a b : ByteArray) (w : World) (ha : a.size ≤ 90000) (hb : b.size ≤ 90000) :
    Calls Tryz.prog 51 #[.string a, .string b] w fun e w' => e = .returned (.tuple #[.string (relB a b).1, .bool (relB a b).2]) ∧ Below w.heap.size w w' := by
  have HA := Lib.hid (fun w => rclean_any a w (by omega))
  have HB := Lib.hid (fun w => rclean_any b w (by omega))
  have hsa := clean_size a
  have hsb := clean_size b
  have hpa := clean_pos a
  have hpb := clean_pos b
  have HR := Lib.hid (show relB a b = if wholeB (cleanB a).data.toList = true ∧ wholeB (cleanB b).data.toList = true ∧ insideB (cleanB a) (cleanB b) = true then
    (if cleanB a = cleanB b then ptB else str ((cleanB b).data.toList.drop ((trimL (cleanB a).data.toList).length + 1)), true)
    else (ByteArray.empty, false) from rfl)
  generalize relB a b = R at HR ⊢
  generalize cleanB a = x at HA HR hsa hpa
  generalize cleanB b = y at HB HR hsb hpb
  have HI := Lib.hid (fun w => rinside_any x y w (by omega) (by omega))
  have HT := Lib.hid (fun w => rcut_any x w (by omega))
  go_enter Tryz.func51, Tryz.ntmps51
  go_wp2_with fail
  refine (HA.out _).mono ?_
  rintro e w1 ⟨rfl, hb1⟩
  have HB1 := Lib.hid hb1
  clear hb1
  go_wp2_with fail
  refine (HB.out _).mono ?_
  rintro e w2 ⟨rfl, hb2⟩
  have HB2 := Lib.hid (bnext HB1.out hb2)
  clear hb2
  rcases whole_key x with ⟨hwx, hpx, hx⟩ | ⟨hwx, hx⟩
  · have hx1 := u8_is' hx
    have HWx := Lib.hid hwx
    clear hwx hx
    rcases whole_key y with ⟨hwy, hpy, hy⟩ | ⟨hwy, hy⟩
    · have hy1 := u8_is' hy
      have HWy := Lib.hid hwy
      clear hwy hy
      go_wp2_with fail
      refine (HI.out _).mono ?_
      rintro e w5 ⟨rfl, rfl⟩
      cases hin : insideB x y with
      | false =>
        have HRr := Lib.hid (show R = (ByteArray.empty, false) by rw [HR.out, if_neg]; rintro ⟨-, -, h⟩; rw [hin] at h; cases h)
        clear hin hx1 hy1
        go_wp2_with fail
        go_ret2
        exact ⟨by rw [HRr.out]; rfl, HB2.out⟩
      | true =>
        have HRr := Lib.hid (show R = (if x = y then ptB else str (y.data.toList.drop ((trimL x.data.toList).length + 1)), true) by rw [HR.out, if_pos ⟨HWx.out, HWy.out, hin⟩])
        have HIn := Lib.hid hin
        clear hin hx1 hy1
        by_cases hxy : x = y
        · rw [if_pos hxy] at HRr
          subst hxy
          go_wp2_with fail
          go_ret2
          exact ⟨by rw [HRr.out]; rfl, HB2.out⟩
        · rw [if_neg hxy] at HRr
          have hle := inside_le HIn.out hxy
          have g1 := tl_ne hxy
          have g2 : (x.toList == y.toList) = false := by simpa using g1
          clear hxy
          go_wp2_with fail
          refine (HT.out _).mono ?_
          rintro e w6 ⟨rfl, rfl⟩
          have Hex := Lib.hid (show y.extract ((str (trimL x.data.toList)).size + 1) y.size = str (y.data.toList.drop ((trimL x.data.toList).length + 1)) by
            rw [← str_of (y.extract ((str (trimL x.data.toList)).size + 1) y.size), ByteArray.data_extract, Array.toList_extract, List.extract_eq_take_drop, str_size]
            congr 1
            refine List.take_of_length_le ?_
            rw [List.length_drop]
            have h2 : y.data.toList.length = y.size := Array.length_toList
            omega)
          obtain ⟨q, hq⟩ : ∃ q, str (y.data.toList.drop ((trimL x.data.toList).length + 1)) = q := ⟨_, rfl⟩
          rw [hq] at Hex HRr
          obtain ⟨u, hu⟩ : ∃ u, str (trimL x.data.toList) = u := ⟨_, rfl⟩
          rw [hu] at hle Hex
          rw [hu]
          have hu1 : ¬ 9223372036854775807 < u.size + 1 := by omega
          have hu2 : (u.size : Int) + 1 ≤ (y.size : Int) := by omega
          clear hu hq
          go_wp2_with fail
          go_ret2
          exact ⟨by rw [HRr.out, ← Hex.out]; rfl, HB2.out⟩
    · have hy1 := u8_isnt' (hy hpb)
      have HRr := Lib.hid (show R = (ByteArray.empty, false) by rw [HR.out, if_neg]; rintro ⟨-, h, -⟩; rw [hwy] at h; cases h)
      clear hwy hy
      go_wp2_with fail
      go_ret2
      exact ⟨by rw [HRr.out]; rfl, HB2.out⟩
  · have hx1 := u8_isnt' (hx hpa)
    have HRr := Lib.hid (show R = (ByteArray.empty, false) by rw [HR.out, if_neg]; rintro ⟨h, -⟩; rw [hwx] at h; cases h)
    clear hwx hx
    go_wp2_with fail
    go_ret2
    exact ⟨by rw [HRr.out]; rfl, HB2.out⟩
end Go.Proofs.YtaojpbgaengdpaaGreatDoor

/- Firsts told anew, by the reference. -/
namespace Go.Proofs.YtaojpbgaengdpaaGreatDoor

open Go.RowKit

theorem anewL_take {l : List Rw} {k : Nat} (hk : k < l.length) : (anewL l).take (k + 1) = (anewL l).take k ++ [l[k].to ((l.map Rw.first).idxOf l[k].first : Nat)] := by
  have hk2 : k < (anewL l).length := by rw [anewL_len]; exact hk
  rw [List.take_succ_eq_append_getElem hk2]
  simp [anewL]
/-- the first place from m on. -/
def fromD (fs : List Int) (m : Nat) (x : Int) : Nat := m + (fs.drop m).idxOf x
theorem fromD_zero (fs : List Int) (x : Int) : fromD fs 0 x = fs.idxOf x := by unfold fromD; simp
theorem fromD_hit {fs : List Int} {k : Nat} {x : Int} (hk : k < fs.length) (h : fs[k] = x) : fromD fs k x = k := by
  unfold fromD
  rw [idx_step fs x k hk, if_pos h]
theorem fromD_miss {fs : List Int} {k : Nat} {x : Int} (hk : k < fs.length) (h : fs[k] ≠ x) : fromD fs k x = fromD fs (k + 1) x := by
  unfold fromD
  rw [idx_step fs x k hk, if_neg h]
theorem OR.box {w : World} {B : Nat} {vo : Value} {l : List Rw} (h : OR w B vo l) {b : Nat} {vs : Array Value} {T : TypeId} (hb : Blk w b vs T) (hne : vo.ownBlock ≠ some b) (i : Nat) (v : Value) : OR (w.setCell ⟨b, i, none⟩ v) B vo l := by
  have hm : Mod (fun k => k = b) w (w.setCell ⟨b, i, none⟩ v) := (Mod.refl (fun k => k = b) w).setCell (a := ⟨b, i, none⟩) (.inl rfl) _
  exact own_mod h hm (fun k hk he => hne (by rw [he, hk]))
theorem below_box {N : Nat} {w0 w : World} (h : Below N w0 w) {b : Nat} (hb : N ≤ b) (hN : N ≤ w.heap.size) (i : Nat) (v : Value) : Below N w0 (w.setCell ⟨b, i, none⟩ v) :=
  h.trans (((Mod.refl (fun k => k = b) w).setCell (a := ⟨b, i, none⟩) (.inl rfl) v).below (fun k hk => by rw [hk]; exact hb) hN)
def rwV (r : Rw) : Array Value := #[.string r.path, .int .i64 r.kind, .int .i64 r.mode, .int .i64 r.uid, .int .i64 r.gid, .int .i64 r.mtime, .int .i64 r.ctime, .int .i64 r.dev, .int .i64 r.first, .string r.data]
theorem rw_box {w : World} {bx : Nat} {r : Rw} {v v' : Int} (h : Blk w bx (rwV (r.to v)) 47) : Blk (w.setCell ⟨bx, 8, none⟩ (.int .i64 v')) bx (rwV (r.to v')) 47 := h.set 8 (.int .i64 v')
set_option maxRecDepth 100000 in
set_option maxHeartbeats 4000000 in
theorem ranew_any (w : World) {a : Option Addr} {n c : Nat} {l : List Rw} (hA : SliceAt w 10 rwQ a n c l) (hl : n ≤ 10000) :
    Calls Tryz.prog 53 #[.slice a n c] w fun e w' => ∃ v, e = .returned v ∧ OR w' w.heap.size v (anewL l) ∧ Below w.heap.size w w' := by
  obtain rfl := hA.1
  have HA := Lib.hid hA
  have HE := Lib.hid (show anewL l = (anewL l).take l.length by rw [← anewL_len l, List.take_length])
  have HO0 := Lib.hid (OR.nil w w.heap.size)
  clear hA
  go_enter Tryz.func53, Tryz.ntmps53
  go_wp2_with fail
  go_loopw [3, 4] (fun t3 t4 wr => ∃ k : Nat, k ≤ l.length ∧ t4 = .int .i64 k ∧ OR wr w.heap.size t3 ((anewL l).take k) ∧ Below w.heap.size w wr) (fun _ t4 _ => l.length - (intOf t4).toNat)
  case atStart => exact ⟨0, Nat.zero_le _, rfl, HO0.out, Below.refl _ _⟩
  case round =>
    obtain ⟨k, hk, rfl, hO, hb⟩ := hrel
    have HO := Lib.hid hO
    have HB := Lib.hid hb
    by_cases hlt : k < l.length
    · have hA2 := HA.out.below hb (Nat.le_refl _)
      obtain ⟨ba, oa, rfl, -⟩ := rowsAt_some hA2 (by omega)
      obtain ⟨c0, c1, c2, c3, c4, c5, c6, c7, c8, c9⟩ := rows_cell hA2 k hlt
      have HStep := Lib.hid (anewL_take hlt)
      have HFst := Lib.hid (fun (j : Nat) (hj : j < l.length) => show (l.map Rw.first)[j]'(by rw [List.length_map]; exact hj) = l[j].first by rw [List.getElem_map])
      have hlk : ((anewL l).take k).length = k := by rw [List.length_take, anewL_len]; omega
      have HRk := Lib.hid (show l[k] = l[k] from rfl)
      obtain ⟨r, hr⟩ : ∃ r, l[k] = r := ⟨_, rfl⟩
      rw [hr] at c0 c1 c2 c3 c4 c5 c6 c7 c8 c9 HStep
      have HR := Lib.hid hr
      obtain ⟨oo, oc, ht3, ho1, ho2, -⟩ := own_form hO
      rw [hlk] at ht3
      subst ht3
      have hX := Blk.new wr (rwV r) 47
      have hbX := balloc hb (.cells (rwV r) 47)
      have hOX := own_keep hO ((Below.refl _ wr).alloc (Nat.le_refl _) (.cells (rwV r) 47))
      have hne : (Value.slice oo k oc).ownBlock ≠ some wr.heap.size := fun he => by
        obtain ⟨-, cur, hc⟩ := own_obj1 hO he
        have := (Array.getElem?_eq_some_iff.1 hc).1
        omega
      have HNe := Lib.hid hne
      have hbw : w.heap.size ≤ wr.heap.size := HB.out.size
      simp only [rwV] at hX hbX hOX
      clear hO hA2 hb hne hr
      go_upto_region 6 with fail
      generalize wr.alloc (.cells #[.string r.path, .int .i64 r.kind, .int .i64 r.mode, .int .i64 r.uid, .int .i64 r.gid, .int .i64 r.mtime, .int .i64 r.ctime, .int .i64 r.dev, .int .i64 r.first, .string r.data] 47) = X at hX hbX hOX ⊢
      generalize wr.heap.size = bx at hX HNe hbw ⊢
      have HX := Lib.hid hX
      have HBX := Lib.hid hbX
      have HOX := Lib.hid hOX
      clear c0 c1 c2 c3 c4 c5 c6 c7 c8 c9 hX hOX hbX
      go_wp2_with fail
      go_loopw [6] (fun t6 w2 => ∃ (m : Nat) (v : Int), m ≤ k + 1 ∧ t6 = .int .i64 ((m : Int) - 1) ∧ (m = k + 1 ∨ v = (fromD (l.map Rw.first) m r.first : Nat)) ∧ Blk w2 bx (rwV (r.to v)) 47 ∧ OR w2 w.heap.size (.slice oo k oc) ((anewL l).take k) ∧ Below w.heap.size w w2) (fun t6 _ => (intOf t6 + 1).toNat)
      case atStart => exact ⟨k + 1, r.first, Nat.le_refl _, by go_num, .inl rfl, HX.out, HOX.out, HBX.out⟩
      case round =>
        obtain ⟨m, v, hm, rfl, hv, hX2, hO2, hb2⟩ := hrel
        have HV := Lib.hid hv
        have HX2 := Lib.hid hX2
        have HO2 := Lib.hid hO2
        have HB2 := Lib.hid hb2
        clear hv hX2 hO2 hb2
        cases m with
        | zero =>
          have HVv := Lib.hid (show v = ((l.map Rw.first).idxOf r.first : Nat) by
            rcases HV.out with h | h
            · omega
            · rw [h, fromD_zero])
          have hX2 := HX2.out
          simp only [rwV, Rw.to] at hX2
          obtain ⟨xc, xf, xz⟩ := hX2.facts
          obtain ⟨g9, cap9, W9, hrun9, hO9, hm9⟩ := HO2.out.app (r.to v) (by rw [hlk]; omega) HB2.out.size
          simp only [rwC, Rw.to] at hrun9
          rw [hlk] at hrun9 hO9
          have HR9 := Lib.hid hrun9
          have HO9 := Lib.hid (show OR W9 w.heap.size (.slice (some ⟨g9, 0, none⟩) (k + 1) cap9) ((anewL l).take (k + 1)) by rw [HStep.out, ← HVv.out]; exact hO9)
          have HB9 := Lib.hid (HB2.out.trans (hm9.below (fun _ hk => (own_obj1 HO2.out hk).1) HB2.out.size))
          clear hX2 hrun9 hO9 hm9
          go_wp2_with (at_builtin; refine wpList_app_run rfl rfl rfl rfl HR9.out ?_)
          go_roundw
          case measure => simp [intOf]; omega
          case rel => exact ⟨k + 1, by omega, by go_num, HO9.out, HB9.out⟩
        | succ j =>
          have hjl : j < l.length := by omega
          have hA3 := HA.out.below HB2.out (Nat.le_refl _)
          obtain ⟨-, -, -, -, -, -, -, -, d8, -⟩ := rows_cell hA3 j hjl
          obtain ⟨-, -, -, -, -, -, -, -, e8, -⟩ := rows_cell hA3 k hlt
          rw [HR.out] at e8
          obtain ⟨xc, xf, xz⟩ := HX2.out.facts
          have HJ := Lib.hid (HFst.out j hjl)
          have hcast : (((j + 1 : Nat) : Int) - 1) = (j : Int) := by omega
          rw [hcast]
          clear hA3
          by_cases hh : l[j].first = r.first
          · rw [hh] at d8
            have HHit := Lib.hid (show fromD (l.map Rw.first) j r.first = j from fromD_hit (by rw [List.length_map]; exact hjl) (HJ.out.trans hh))
            clear hh
            go_wp2_with fail
            go_quiet (fail)
            go_wp2_with fail
            go_roundw
            case measure => simp [intOf]
            case rel => exact ⟨j, j, by omega, by go_num, .inr (by rw [HHit.out]), rw_box (HX2.out.keep (below_drewN (Below.refl _ _) _)), OR.box (own_keep HO2.out (below_drewN (Below.refl _ _) _)) (HX2.out.keep (below_drewN (Below.refl _ _) _)) HNe.out 8 _, below_box (below_drewN HB2.out _) hbw (below_drewN HB2.out _).size 8 _⟩
          · have hh2 : (l[j].first == r.first) = false := by simpa using hh
            have HMiss := Lib.hid (show fromD (l.map Rw.first) j r.first = fromD (l.map Rw.first) (j + 1) r.first from fromD_miss (by rw [List.length_map]; exact hjl) (fun e => hh (HJ.out.symm.trans e)))
            have HNj := Lib.hid (show j ≠ k by
              rintro rfl
              exact hh (by rw [HR.out]))
            clear hh
            go_wp2_with fail
            go_quiet (fail)
            go_wp2_with fail
            go_roundw
            case measure => simp [intOf]
            case rel =>
              refine ⟨j, v, by omega, by go_num, .inr ?_, HX2.out.keep (below_drewN (Below.refl _ _) _), own_keep HO2.out (below_drewN (Below.refl _ _) _), below_drewN HB2.out _⟩
              rcases HV.out with h | h
              · have := HNj.out
                omega
              · rw [h, HMiss.out]
    · obtain rfl : k = l.length := by omega
      clear hO hb
      go_wp2_with fail
      go_ret
      exact ⟨_, rfl, by rw [HE.out]; exact HO.out, HB.out⟩
end Go.Proofs.YtaojpbgaengdpaaGreatDoor

/- The reference's But. -/
namespace Go.Proofs.YtaojpbgaengdpaaGreatDoor

open Go.RowKit

theorem own_base {w : World} {base base' : Nat} {e : TypeId} {sz n : Nat} {v : Value} {xs : List Value} (h : w.ownsRow base' e sz v n xs) (hb : base ≤ base') : w.ownsRow base e sz v n xs :=
  ⟨h.1, h.2.imp id (fun ⟨g, cap, cur, hv, hg, rest⟩ => ⟨g, cap, cur, hv, Nat.le_trans hb hg, rest⟩)⟩
set_option maxRecDepth 100000 in
set_option maxHeartbeats 4000000 in
theorem rbut_any (w : World) {a pa : Option Addr} {n c pn pc : Nat} {l : List Rw} {ps : List ByteArray} (hA : SliceAt w 10 rwQ a n c l) (hl : n ≤ 10000) (hP : SliceAt w 1 pxR pa pn pc ps) (hp : ∀ p ∈ ps, p.size ≤ 100000) (hr : ∀ r ∈ l, r.path.size ≤ 1000000) :
    Calls Tryz.prog 20 #[.slice a n c, .slice pa pn pc] w fun e w' => ∃ v, e = .returned v ∧ OR w' w.heap.size v (butL l ps) ∧ Below w.heap.size w w' := by
  obtain rfl := hA.1
  obtain rfl := hP.1
  have HA := Lib.hid hA
  have HP := Lib.hid hP
  have HPs := Lib.hid hp
  have HRs := Lib.hid hr
  have hpl : ps.length ≤ 9223372036854775807 := Nat.le_trans hP.2.1 hP.2.2.1
  have HO0 := Lib.hid (show OR w w.heap.size (.slice none 0 0) ((l.take 0).filter (keepB ps)) from OR.nil w w.heap.size)
  have HE := Lib.hid (show butL l ps = anewL ((l.take l.length).filter (keepB ps)) by rw [List.take_length]; rfl)
  generalize butL l ps = Z at HE ⊢
  clear hA hP hp hr
  go_enter Tryz.func20, Tryz.ntmps20
  go_wp2_with fail
  go_loopw [5, 6] (fun t5 t6 wr => ∃ k : Nat, k ≤ l.length ∧ t6 = .int .i64 k ∧ OR wr w.heap.size t5 ((l.take k).filter (keepB ps)) ∧ Below w.heap.size w wr) (fun _ t6 _ => l.length - (intOf t6).toNat)
  case atStart => exact ⟨0, Nat.zero_le _, rfl, HO0.out, Below.refl _ _⟩
  case round =>
    obtain ⟨k, hk, rfl, hO, hb⟩ := hrel
    have HO := Lib.hid hO
    have HB := Lib.hid hb
    by_cases hlt : k < l.length
    · have HStep := Lib.hid (keep_step hlt (keepB ps))
      have hlen : ((l.take k).filter (keepB ps)).length ≤ 10000 := by
        have h1 := List.length_filter_le (keepB ps) (l.take k)
        rw [List.length_take] at h1
        omega
      have HRp := Lib.hid (HRs.out _ (List.getElem_mem hlt))
      obtain ⟨ba, oa, rfl, -⟩ := rowsAt_some HA.out (by omega)
      have HC := Lib.hid (fun w3 (hb : Below w.heap.size w w3) => rows_cell (HA.out.below hb (Nat.le_refl _)) k hlt)
      obtain ⟨r, hr⟩ : ∃ r, l[k] = r := ⟨_, rfl⟩
      rw [hr] at HC HStep HRp
      clear hr hO hb
      go_wp2_with fail
      go_loopw [7, 8] (fun t7 t8 w2 => ∃ j : Nat, j ≤ ps.length ∧ t8 = .int .i64 j ∧ t7 = .bool ((ps.take j).all (fun p => !insideB p r.path)) ∧ Below wr.heap.size wr w2) (fun _ t8 _ => ps.length - (intOf t8).toNat)
      case atStart => exact ⟨0, Nat.zero_le _, rfl, rfl, Below.refl _ _⟩
      case round =>
        obtain ⟨j, hj, rfl, rfl, hb2⟩ := hrel
        have HB2 := Lib.hid hb2
        have HBw := Lib.hid (bnext HB.out hb2)
        clear hb2
        by_cases hlt2 : j < ps.length
        · have hPX := HP.out.below HBw.out (Nat.le_refl _)
          obtain ⟨pb, po, rfl, -⟩ := px_some hPX (by omega)
          have hpc := px_cell hPX j hlt2
          obtain ⟨c0, -, -, -, -, -, -, -, -, -⟩ := HC.out _ HBw.out
          have HI := Lib.hid (fun w3 => rinside_any ps[j] r.path w3 (HPs.out _ (List.getElem_mem _)) (Nat.le_trans HRp.out (by omega)))
          have HSt := Lib.hid (show (ps.take (j + 1)).all (fun p => !insideB p r.path) = ((ps.take j).all (fun p => !insideB p r.path) && !insideB ps[j] r.path) by
            rw [List.take_succ_eq_append_getElem hlt2, List.all_append]; simp)
          generalize ps[j] = q at hpc HI HSt
          clear hPX
          cases hal : (ps.take j).all (fun p => !insideB p r.path) with
          | true =>
            have HAl := Lib.hid hal
            clear hal
            go_wp2_with fail
            go_quiet ((go_at_call 55; exact Calls.quiet_of_same (HI.out _)))
            go_wp2_with fail
            go_roundw
            case measure => simp [intOf]; omega
            case rel => exact ⟨j + 1, by omega, by go_num, by rw [HSt.out, HAl.out]; rfl, below_drewN HB2.out _⟩
          | false =>
            have HAl := Lib.hid hal
            clear hal
            go_wp2_with fail
            go_quiet (fail)
            go_wp2_with fail
            go_roundw
            case measure => simp [intOf]; omega
            case rel => exact ⟨j + 1, by omega, by go_num, by rw [HSt.out, HAl.out]; rfl, below_drewN HB2.out _⟩
        · obtain rfl : j = ps.length := by omega
          rw [List.take_length]
          have HK := Lib.hid (show ps.all (fun p => !insideB p r.path) = keepB ps r from rfl)
          rw [HK.out]
          cases hkp : keepB ps r with
          | true =>
            have HZ := Lib.hid (show (l.take (k + 1)).filter (keepB ps) = (l.take k).filter (keepB ps) ++ [r] by rw [HStep.out, if_pos hkp])
            obtain ⟨c0, c1, c2, c3, c4, c5, c6, c7, c8, c9⟩ := HC.out _ HBw.out
            have hO2 := own_keep HO.out HB2.out
            obtain ⟨oo, oc, ht3, ho1, ho2, -⟩ := own_form hO2
            subst ht3
            obtain ⟨g9, cap9, W9, hrun9, hO9, hm9⟩ := OR.app hO2 r (by omega) HBw.out.size
            simp only [rwC] at hrun9
            have HR9 := Lib.hid hrun9
            have HO9 := Lib.hid hO9
            have HB9 := Lib.hid (HBw.out.trans (hm9.below (fun _ hk => (own_obj1 hO2 hk).1) HBw.out.size))
            clear hkp hrun9 hO9 hm9 hO2
            go_wp2_with (at_builtin; refine wpList_app_run rfl rfl rfl rfl HR9.out ?_)
            go_roundw
            case measure => simp [intOf]; omega
            case rel => exact ⟨k + 1, by omega, by go_num, by rw [HZ.out]; exact HO9.out, HB9.out⟩
          | false =>
            have HZ := Lib.hid (show (l.take (k + 1)).filter (keepB ps) = (l.take k).filter (keepB ps) by rw [HStep.out, if_neg (by rw [hkp]; simp)])
            clear hkp
            go_wp2_with fail
            go_roundw
            case measure => simp [intOf]; omega
            case rel => exact ⟨k + 1, by omega, by go_num, by rw [HZ.out]; exact own_keep HO.out HB2.out, HBw.out⟩
    · obtain rfl : k = l.length := by omega
      have hkl : ((l.take l.length).filter (keepB ps)).length ≤ 10000 := by
        have := List.length_filter_le (keepB ps) (l.take l.length)
        rw [List.length_take] at this
        omega
      obtain ⟨kept, hkept⟩ : ∃ y, (l.take l.length).filter (keepB ps) = y := ⟨_, rfl⟩
      rw [hkept] at hO HE hkl
      obtain ⟨oo, oc, ht3, ho1, ho2, -⟩ := own_form hO
      subst ht3
      have HN := Lib.hid (ranew_any wr (OR.at hO) hkl)
      clear hO hb HO0 HP HA HO hkept
      go_wp2_with fail
      refine HN.out.mono ?_
      rintro e w3 ⟨v, rfl, ho, hb3⟩
      have HV := Lib.hid (own_base ho HB.out.size)
      have HB3 := Lib.hid (bnext HB.out hb3)
      clear ho hb3
      go_wp2_with fail
      go_ret
      exact ⟨_, rfl, by rw [HE.out]; exact HV.out, HB3.out⟩
end Go.Proofs.YtaojpbgaengdpaaGreatDoor

/- Rows of some alone: dump.At. -/
namespace Go.Proofs.YtaojpbgaengdpaaGreatDoor

open Go.RowKit

def atR (p tg : ByteArray) (r : Rw) : Option Rw := if (relB p r.path).2 = true then some { r with path := joinB tg (relB p r.path).1 } else none
def atL (l : List Rw) (p tg : ByteArray) : List Rw := anewL (l.filterMap (atR p tg))
theorem at_step {l : List Rw} {k : Nat} (hk : k < l.length) (f : Rw → Option Rw) : (l.take (k + 1)).filterMap f = (l.take k).filterMap f ++ (f l[k]).toList := by
  rw [List.take_succ_eq_append_getElem hk, List.filterMap_append]
  cases h : f l[k] <;> simp [h]
theorem rel_size (a b : ByteArray) : (relB a b).1.size ≤ b.size + 2 := by
  have h1 := clean_size b
  unfold relB
  split
  · simp only
    split
    · show (1 : Nat) ≤ _
      omega
    · rw [str_size, List.length_drop]
      have h2 : (cleanB b).data.toList.length = (cleanB b).size := Array.length_toList
      omega
  · show (0 : Nat) ≤ _
    omega
set_option maxRecDepth 100000 in
set_option maxHeartbeats 4000000 in
theorem dat_any (w : World) {a : Option Addr} {n c : Nat} {l : List Rw} (hA : SliceAt w 10 rwQ a n c l) (hl : n ≤ 10000) (p tg : ByteArray) (hp : p.size ≤ 30000) (ht : tg.size ≤ 30000) (hr : ∀ r ∈ l, r.path.size ≤ 30000) :
    Calls Tryz.prog 17 #[.slice a n c, .string p, .string tg] w fun e w' => ∃ v, e = .returned v ∧ OR w' w.heap.size v (atL l p tg) ∧ Below w.heap.size w w' := by
  obtain rfl := hA.1
  have HA := Lib.hid hA
  have HRs := Lib.hid hr
  have hmm := @run_makeMap Tryz.prog
  have hM0 := Lib.hid (show AB w.heap.size (w.alloc (.map #[] 0)) w.heap.size (.slice none 0 0) (anewL ((l.take 0).filterMap (atR p tg))) (((l.take 0).filterMap (atR p tg)).map Rw.first) from
    ⟨OR.nil _ _, [], 0, World.alloc_heap_new _ _, FirstOf.nil⟩)
  have hB0 := Lib.hid (balloc (Below.refl w.heap.size w) (.map #[] 0))
  have HE := Lib.hid (show atL l p tg = anewL ((l.take l.length).filterMap (atR p tg)) by rw [List.take_length]; rfl)
  generalize atL l p tg = Z at HE ⊢
  clear hA hr
  go_enter Tryz.func17, Tryz.ntmps17
  go_wp2_with fail
  clear hmm
  go_loopw [7, 18] (fun t7 t18 wr => ∃ k : Nat, k ≤ l.length ∧ t18 = .int .i64 k ∧ AB w.heap.size wr w.heap.size t7 (anewL ((l.take k).filterMap (atR p tg))) (((l.take k).filterMap (atR p tg)).map Rw.first) ∧ Below w.heap.size w wr) (fun _ t18 _ => l.length - (intOf t18).toNat)
  case atStart => exact ⟨0, Nat.zero_le _, rfl, hM0.out, hB0.out⟩
  case round =>
    obtain ⟨k, hk, rfl, hD, hb⟩ := hrel
    have HD := Lib.hid hD
    have HB := Lib.hid hb
    by_cases hlt : k < l.length
    · have hA2 := HA.out.below hb (Nat.le_refl _)
      obtain ⟨ba, oa, rfl, -⟩ := rowsAt_some hA2 (by omega)
      obtain ⟨c0, c1, c2, c3, c4, c5, c6, c7, c8, c9⟩ := rows_cell hA2 k hlt
      have HStep := Lib.hid (at_step hlt (atR p tg))
      have hlen : ((l.take k).filterMap (atR p tg)).length ≤ 10000 := by
        have h1 := List.length_filterMap_le (atR p tg) (l.take k)
        rw [List.length_take] at h1
        omega
      have hrp := HRs.out _ (List.getElem_mem hlt)
      generalize (l.take k).filterMap (atR p tg) = kept at HD hD HStep hlen
      obtain ⟨r, hr⟩ : ∃ r, l[k] = r := ⟨_, rfl⟩
      rw [hr] at c0 c1 c2 c3 c4 c5 c6 c7 c8 c9 HStep hrp
      obtain ⟨oo, oc, ht5, ho1, ho2, -⟩ := own_form hD.o
      rw [anewL_len] at ht5 ho1
      subst ht5
      have hX := Blk.new wr (rwC r).toArray 47
      have hbX := balloc hb (.cells (rwC r).toArray 47)
      have hDX := hD.keep ((Below.refl _ wr).alloc (Nat.le_refl _) (.cells (rwC r).toArray 47))
      have hne : (Value.slice oo kept.length oc).ownBlock ≠ some wr.heap.size := fun he => by
        obtain ⟨-, cur, hc⟩ := own_obj1 hD.o he
        have := (Array.getElem?_eq_some_iff.1 hc).1
        omega
      have HNe := Lib.hid hne
      have hbw : w.heap.size ≤ wr.heap.size := HB.out.size
      simp only [rwC] at hX hbX hDX
      clear hD hA2 hb hne hr
      go_upto_region 6 with fail
      generalize wr.alloc (.cells #[.string r.path, .int .i64 r.kind, .int .i64 r.mode, .int .i64 r.uid, .int .i64 r.gid, .int .i64 r.mtime, .int .i64 r.ctime, .int .i64 r.dev, .int .i64 r.first, .string r.data] 47) = X at hX hbX hDX ⊢
      generalize wr.heap.size = bx at hX HNe hbw ⊢
      have HX0 := Lib.hid hX
      have HBX0 := Lib.hid hbX
      have HDX0 := Lib.hid hDX
      obtain ⟨xc, xf, xz⟩ := hX.facts
      have HRl := Lib.hid (trel_any p r.path X (by omega) (by omega))
      have hrs := rel_size p r.path
      have HAt := Lib.hid (show atR p tg r = if (relB p r.path).2 = true then some { r with path := joinB tg (relB p r.path).1 } else none from rfl)
      obtain ⟨sf, hsf⟩ : ∃ x, (relB p r.path).1 = x := ⟨_, rfl⟩
      obtain ⟨sb, hsb⟩ : ∃ x, (relB p r.path).2 = x := ⟨_, rfl⟩
      rw [hsf] at HRl hrs HAt
      rw [hsb] at HRl HAt
      clear hsf hsb
      have HJn := Lib.hid (fun w => tjoin_any tg sf w (by omega) (by omega))
      generalize joinB tg sf = jn at HJn HAt
      clear c0 c1 c2 c3 c4 c5 c6 c7 c8 c9 hX hDX hbX
      go_wp2_with fail
      refine HRl.out.mono ?_
      rintro e w1 ⟨rfl, hb1⟩
      have HX := Lib.hid (HX0.out.keep hb1)
      have HDX := Lib.hid (HDX0.out.keep hb1)
      have HBX := Lib.hid (bnext HBX0.out hb1)
      clear hb1 xc xf xz HX0 HDX0 HBX0
      obtain ⟨xc, xf, xz⟩ := HX.out.facts
      cases sb with
      | false =>
        have HK := Lib.hid (show (l.take (k + 1)).filterMap (atR p tg) = kept by rw [HStep.out, HAt.out, if_neg (by simp)]; simp)
        go_wp2_with fail
        go_roundw
        case measure => simp [intOf]; omega
        case rel => exact ⟨k + 1, by omega, by go_num, by rw [HK.out]; exact HDX.out, HBX.out⟩
      | true =>
          have HK := Lib.hid (show (l.take (k + 1)).filterMap (atR p tg) = kept ++ [{ r with path := jn }] by rw [HStep.out, HAt.out, if_pos rfl]; rfl)
          have HAn := Lib.hid (anewL_snoc kept { r with path := jn })
          have hkl : (kept.map Rw.first).length = kept.length := List.length_map _
          obtain ⟨fs, hfs⟩ : ∃ fs, kept.map Rw.first = fs := ⟨_, rfl⟩
          rw [hfs] at HDX HAn hkl
          dsimp only at HAn
          have HMp := Lib.hid (show (kept ++ [{ r with path := jn }]).map Rw.first = fs ++ [r.first] by rw [List.map_append, hfs]; rfl)
          clear hfs
          by_cases hin : r.first ∈ fs
          · have hlk := HDX.out.yes hin
            have HD1 := HDX.out.old hin
            rw [← idx_snoc fs r.first r.first hin] at hlk
            obtain ⟨fi, hfi⟩ : ∃ fi, (fs ++ [r.first]).idxOf r.first = fi := ⟨_, rfl⟩
            rw [hfi] at hlk HAn
            have hXb := HX.out.set 8 (.int .i64 (fi : Nat))
            have hDb := HD1.box HX.out HNe.out 8 (.int .i64 (fi : Nat))
            have hbs : Below w.heap.size w (w1.setCell ⟨bx, 8, none⟩ (.int .i64 (fi : Nat))) := below_box HBX.out hbw HBX.out.size 8 _
            clear hin hfi HD1
            go_upto_region 13 with fail
            generalize w1.setCell ⟨bx, 8, none⟩ (.int .i64 (fi : Nat)) = Q at hXb hDb hbs ⊢
            simp only [List.setIfInBounds_toArray, List.set_cons_zero, List.set_cons_succ] at hXb
            have HXQ := Lib.hid hXb
            have HDQ := Lib.hid hDb
            have HBQ := Lib.hid hbs
            clear hXb hDb hbs xc xf xz
            go_wp2_with fail
            refine (HJn.out _).mono ?_
            rintro e w2 ⟨rfl, hb2⟩
            have hX2 := HXQ.out.keep hb2
            have hD2 := HDQ.out.keep hb2
            have hB2 := bnext HBQ.out hb2
            obtain ⟨xc, xf, xz⟩ := hX2.facts
            have hXc := hX2.set 0 (.string jn)
            have hDc := hD2.box hX2 HNe.out 0 (.string jn)
            have hBc := below_box hB2 hbw hB2.size (b := bx) 0 (.string jn)
            clear hX2 hD2 hB2 hb2
            go_upto_region 14 with fail
            generalize w2.setCell ⟨bx, 0, none⟩ (.string jn) = Q2 at hXc hDc hBc ⊢
            simp only [List.setIfInBounds_toArray, List.set_cons_zero, List.set_cons_succ] at hXc
            obtain ⟨qc, qf, qz⟩ := hXc.facts
            obtain ⟨g9, cap9, W9, hrun9, hD9, hb9⟩ := hDc.row (({ r with path := jn } : Rw).to (fi : Nat)) (by rw [anewL_len]; omega) hBc.size
            simp only [rwC, Rw.to] at hrun9
            rw [anewL_len] at hrun9 hD9
            have HR9 := Lib.hid hrun9
            have HD9 := Lib.hid hD9
            have HB9 := Lib.hid (hBc.trans hb9)
            clear hrun9 hD9 hb9 hDc hBc hXc xc xf xz
            go_wp2_with (at_builtin; refine wpList_app_run rfl rfl rfl rfl HR9.out ?_)
            go_roundw
            case measure => simp [intOf]; omega
            case rel => exact ⟨k + 1, by omega, by go_num, by rw [HK.out, HAn.out, HMp.out]; exact HD9.out, HB9.out⟩
          · have hlk := HDX.out.no hin
            obtain ⟨W2, hup, HD1, hB2, hbel⟩ := HDX.out.new hin (Nat.le_refl _) HBX.out.size
            have hid : (fs ++ [r.first]).idxOf r.first = kept.length := by
              rw [List.idxOf_append, if_neg hin, ← hkl]
              simp
            rw [hid] at HAn
            rw [hkl] at hup
            have HB2w := Lib.hid (HBX.out.trans hbel)
            have hXb := (hB2 _ _ _ HX.out).set 8 (.int .i64 (kept.length : Nat))
            have hDb := HD1.box (hB2 _ _ _ HX.out) HNe.out 8 (.int .i64 (kept.length : Nat))
            have hbs : Below w.heap.size w (W2.setCell ⟨bx, 8, none⟩ (.int .i64 (kept.length : Nat))) := below_box HB2w.out hbw HB2w.out.size 8 _
            obtain ⟨yc, yf, yz⟩ := (hB2 _ _ _ HX.out).facts
            clear hin HD1 hB2 hbel hid
            go_upto_region 13 with fail
            generalize W2.setCell ⟨bx, 8, none⟩ (.int .i64 (kept.length : Nat)) = Q at hXb hDb hbs ⊢
            simp only [List.setIfInBounds_toArray, List.set_cons_zero, List.set_cons_succ] at hXb
            have HXQ := Lib.hid hXb
            have HDQ := Lib.hid hDb
            have HBQ := Lib.hid hbs
            clear hXb hDb hbs xc xf xz yc yf yz
            go_wp2_with fail
            refine (HJn.out _).mono ?_
            rintro e w2 ⟨rfl, hb2⟩
            have hX2 := HXQ.out.keep hb2
            have hD2 := HDQ.out.keep hb2
            have hB2 := bnext HBQ.out hb2
            obtain ⟨xc, xf, xz⟩ := hX2.facts
            have hXc := hX2.set 0 (.string jn)
            have hDc := hD2.box hX2 HNe.out 0 (.string jn)
            have hBc := below_box hB2 hbw hB2.size (b := bx) 0 (.string jn)
            clear hX2 hD2 hB2 hb2
            go_upto_region 14 with fail
            generalize w2.setCell ⟨bx, 0, none⟩ (.string jn) = Q2 at hXc hDc hBc ⊢
            simp only [List.setIfInBounds_toArray, List.set_cons_zero, List.set_cons_succ] at hXc
            obtain ⟨qc, qf, qz⟩ := hXc.facts
            obtain ⟨g9, cap9, W9, hrun9, hD9, hb9⟩ := hDc.row (({ r with path := jn } : Rw).to (kept.length : Nat)) (by rw [anewL_len]; omega) hBc.size
            simp only [rwC, Rw.to] at hrun9
            rw [anewL_len] at hrun9 hD9
            have HR9 := Lib.hid hrun9
            have HD9 := Lib.hid hD9
            have HB9 := Lib.hid (hBc.trans hb9)
            clear hrun9 hD9 hb9 hDc hBc hXc xc xf xz
            go_wp2_with (at_builtin; refine wpList_app_run rfl rfl rfl rfl HR9.out ?_)
            go_roundw
            case measure => simp [intOf]; omega
            case rel => exact ⟨k + 1, by omega, by go_num, by rw [HK.out, HAn.out, HMp.out]; exact HD9.out, HB9.out⟩
    · obtain rfl : k = l.length := by omega
      rw [← HE.out] at HD
      clear hD hb
      go_wp2_with fail
      go_ret
      exact ⟨_, rfl, HD.out.o, HB.out⟩
end Go.Proofs.YtaojpbgaengdpaaGreatDoor
