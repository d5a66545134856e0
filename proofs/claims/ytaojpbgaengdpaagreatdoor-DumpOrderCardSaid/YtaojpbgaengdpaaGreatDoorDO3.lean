/- Texts of the proof, part 3. -/
import Derived.Test.YtaojpbgaengdpaaGreatDoorDO1
import Derived.Test.YtaojpbgaengdpaaGreatDoorDO2
import Derived.Test.YtaojpbgaengdpaaGreatDoorDU37
set_option linter.unusedVariables false
set_option linter.unusedSimpArgs false
/- Rows of some alone: the reference's Inside; Join and Rel of both. -/
namespace Go.Proofs.YtaojpbgaengdpaaGreatDoor

open Go.RowKit

theorem trim_size (b : ByteArray) : (str (trimL b.data.toList)).size ≤ b.size := by
  rw [str_size]
  have h1 := trimL_len b.data.toList
  have h2 : b.data.toList.length = b.size := Array.length_toList
  omega
set_option maxRecDepth 100000 in
set_option maxHeartbeats 2000000 in
theorem rinside_any (b s : ByteArray) (w : World) (hb : b.size ≤ 100000) (hs : s.size ≤ 9223372036854775807) :
    Calls Tryz.prog 55 #[.string b, .string s] w fun e w' => e = .returned (.bool (insideB b s)) ∧ w' = w := by
  have HT := Lib.hid (rcut_any b w hb)
  have hz : (str (trimL b.data.toList)).size ≤ 100000 := Nat.le_trans (trim_size b) hb
  by_cases hbs : s = b
  · have HR := Lib.hid (show insideB b s = true by unfold insideB; rw [decide_eq_true hbs.symm]; rfl)
    subst hbs
    generalize insideB s s = r at HR ⊢
    generalize str (trimL s.data.toList) = t at HT hz
    have h1 : ¬ 9223372036854775807 < t.size + 1 := by omega
    go_enter Tryz.func55, Tryz.ntmps55
    go_wp2_with fail
    refine HT.out.mono ?_
    rintro e w1 ⟨rfl, rfl⟩
    go_wp2_with fail
    go_ret
    exact ⟨ret_bool HR.out.symm, rfl⟩
  · have HR := Lib.hid (show insideB b s = (decide ((str (trimL b.data.toList) ++ ByteArray.mk #[47]).size ≤ s.size) && ((s.extract 0 (str (trimL b.data.toList) ++ ByteArray.mk #[47]).size).toList == (str (trimL b.data.toList) ++ ByteArray.mk #[47]).toList)) by
      rw [Lib.hasPrefix_raw]
      unfold insideB
      rw [decide_eq_false (fun e => hbs e.symm), show ByteArray.mk #[47] = str [47] from rfl, str_append, str_list]
      rfl)
    have g1 := tl_ne hbs
    have g2 : (s.toList == b.toList) = false := by simpa using g1
    generalize insideB b s = r at HR ⊢
    generalize str (trimL b.data.toList) = t at HT HR hz
    have h1 : ¬ 9223372036854775807 < t.size + 1 := by omega
    have hts : (t ++ ByteArray.mk #[47]).size ≤ 100001 := by
      rw [ByteArray.size_append]
      show t.size + 1 ≤ _
      omega
    clear hbs
    go_enter Tryz.func55, Tryz.ntmps55
    go_wp2_with fail
    refine HT.out.mono ?_
    rintro e w1 ⟨rfl, rfl⟩
    go_upto_region 2 with fail
    generalize t ++ ByteArray.mk #[47] = u at HR hts ⊢
    by_cases hle : u.size ≤ s.size
    · have hle2 : (u.size : Int) ≤ (s.size : Int) := by omega
      rw [decide_eq_true hle, Bool.true_and] at HR
      obtain ⟨v, hv⟩ : ∃ v, ((s.extract 0 u.size).toList == u.toList) = v := ⟨_, rfl⟩
      rw [hv] at HR
      clear hle
      go_wp2_with fail
      go_ret
      exact ⟨ret_bool HR.out.symm, rfl⟩
    · have hle2 : ¬ (u.size : Int) ≤ (s.size : Int) := by omega
      rw [decide_eq_false hle, Bool.false_and] at HR
      clear hle
      go_wp2_with fail
      go_ret
      exact ⟨ret_bool HR.out.symm, rfl⟩
set_option maxRecDepth 100000 in
set_option maxHeartbeats 400000 in
theorem tjoin_any (a b : ByteArray) (w : World) (ha : a.size ≤ 40000) (hb : b.size ≤ 40000) :
    Calls Tryz.prog 50 #[.string a, .string b] w fun e w' => e = .returned (.string (joinB a b)) ∧ Below w.heap.size w w' := by
  have HP := Lib.hid (Tryz.strings_HasPrefix b (ByteArray.mk #[47]) w)
  rw [show (ByteArray.mk #[47]).data.toList = [47] from rfl, prefix_whole] at HP
  have HC := Lib.hid (fun w => clean_any b w (by omega))
  have HC2 := Lib.hid (fun w => clean_any (a ++ ByteArray.mk #[47] ++ b) w (by
    rw [ByteArray.size_append, ByteArray.size_append]
    show a.size + 1 + b.size ≤ _
    omega))
  have h1 : ¬ 9223372036854775807 < a.size + 1 := by omega
  have h2 : ¬ 9223372036854775807 < (a ++ ByteArray.mk #[47]).size + b.size := by
    rw [ByteArray.size_append]
    show ¬ 9223372036854775807 < a.size + 1 + b.size
    omega
  cases hw : wholeB b.data.toList with
  | true =>
    have HJ := Lib.hid (show joinB a b = cleanB b by unfold joinB; rw [if_pos (.inl hw)])
    generalize joinB a b = z at HJ ⊢
    rw [hw] at HP
    clear hw
    go_enter Tryz.func50, Tryz.ntmps50
    go_wp2_with fail
    refine HP.out.mono ?_
    rintro e w1 ⟨rfl, rfl⟩
    go_wp2_with fail
    refine (HC.out _).mono ?_
    rintro e w2 ⟨rfl, hb2⟩
    go_wp2_with fail
    go_ret
    exact ⟨by rw [HJ.out]; rfl, hb2⟩
  | false =>
    rw [hw] at HP
    by_cases hae : a = ByteArray.empty
    · have HJ := Lib.hid (show joinB a b = cleanB b by unfold joinB; rw [if_pos (.inr hae)])
      generalize joinB a b = z at HJ ⊢
      subst hae
      clear hw
      go_enter Tryz.func50, Tryz.ntmps50
      go_wp2_with fail
      refine HP.out.mono ?_
      rintro e w1 ⟨rfl, rfl⟩
      go_wp2_with fail
      refine (HC.out _).mono ?_
      rintro e w2 ⟨rfl, hb2⟩
      go_wp2_with fail
      go_ret
      exact ⟨by rw [HJ.out]; rfl, hb2⟩
    · have HJ := Lib.hid (show joinB a b = cleanB (a ++ ByteArray.mk #[47] ++ b) by
        unfold joinB
        rw [if_neg]
        rintro (h | h)
        · rw [hw] at h; cases h
        · exact hae h)
      generalize joinB a b = z at HJ ⊢
      have g1 : ¬ a.toList = [] := fun e => tl_ne hae (e.trans (by rw [ba_list]; rfl))
      have g2 : (a.toList == []) = false := by simpa using g1
      clear hw hae
      go_enter Tryz.func50, Tryz.ntmps50
      go_wp2_with fail
      refine HP.out.mono ?_
      rintro e w1 ⟨rfl, rfl⟩
      go_wp2_with fail
      refine (HC2.out _).mono ?_
      rintro e w2 ⟨rfl, hb2⟩
      go_wp2_with fail
      go_ret
      exact ⟨by rw [HJ.out]; rfl, hb2⟩
theorem whole_key (s : ByteArray) : wholeB s.data.toList = true ∧ (∃ h : 0 < s.size, s[0] = 47) ∨ wholeB s.data.toList = false ∧ ∀ h : 0 < s.size, s[0] ≠ 47 := by
  have h0 : wholeB s.data.toList = (decide (0 < s.size) && (if h : 0 < s.size then decide (s[0] = 47) else false)) := by
    obtain ⟨⟨l⟩⟩ := s
    cases l with
    | nil => rfl
    | cons x l => rfl
  rw [h0]
  by_cases h : 0 < s.size
  · by_cases h2 : s[0] = 47
    · exact .inl ⟨by simp [h, h2], h, h2⟩
    · exact .inr ⟨by simp [h, h2], fun _ => h2⟩
  · exact .inr ⟨by simp [h], fun h' => absurd h' h⟩
theorem u8_is {x : UInt8} (h : x = 47) : ((x.toNat : Int) == 47) = true := by rw [h]; rfl
theorem u8_isnt {x : UInt8} (h : x ≠ 47) : ((x.toNat : Int) == 47) = false := by
  simp only [beq_eq_false_iff_ne, ne_eq]
  intro h2
  exact h (by rw [u8_eq]; show x.toNat = 47; omega)
set_option maxRecDepth 100000 in
set_option maxHeartbeats 1000000 in
theorem rjoin_any (a b : ByteArray) (w : World) (ha : a.size ≤ 40000) (hb : b.size ≤ 40000) :
    Calls Tryz.prog 52 #[.string a, .string b] w fun e w' => e = .returned (.string (joinB a b)) ∧ Below w.heap.size w w' := by
  have HC := Lib.hid (fun w => rclean_any b w (by omega))
  have HC2 := Lib.hid (fun w => rclean_any (a ++ ByteArray.mk #[47] ++ b) w (by
    rw [ByteArray.size_append, ByteArray.size_append]
    show a.size + 1 + b.size ≤ _
    omega))
  have h1 : ¬ 9223372036854775807 < a.size + 1 := by omega
  have h2 : ¬ 9223372036854775807 < (a ++ ByteArray.mk #[47]).size + b.size := by
    rw [ByteArray.size_append]
    show ¬ 9223372036854775807 < a.size + 1 + b.size
    omega
  by_cases hae : a = ByteArray.empty
  · have HJ := Lib.hid (show joinB a b = cleanB b by unfold joinB; rw [if_pos (.inr hae)])
    generalize joinB a b = z at HJ ⊢
    subst hae
    go_enter Tryz.func52, Tryz.ntmps52
    go_wp2_with fail
    refine (HC.out _).mono ?_
    rintro e w2 ⟨rfl, hb2⟩
    go_wp2_with fail
    go_ret
    exact ⟨by rw [HJ.out]; rfl, hb2⟩
  · have g1 : ¬ a.toList = [] := fun e => tl_ne hae (e.trans (by rw [ba_list]; rfl))
    have g2 : (a.toList == []) = false := by simpa using g1
    rcases whole_key b with ⟨hw, hpos, h47⟩ | ⟨hw, hno⟩
    · have HJ := Lib.hid (show joinB a b = cleanB b by unfold joinB; rw [if_pos (.inl hw)])
      generalize joinB a b = z at HJ ⊢
      have hp2 : (0 : Int) < (b.size : Int) := by omega
      have hc := u8_is h47
      clear hw hae h47
      go_enter Tryz.func52, Tryz.ntmps52
      go_wp2_with fail
      refine (HC.out _).mono ?_
      rintro e w2 ⟨rfl, hb2⟩
      go_wp2_with fail
      go_ret
      exact ⟨by rw [HJ.out]; rfl, hb2⟩
    · have HJ := Lib.hid (show joinB a b = cleanB (a ++ ByteArray.mk #[47] ++ b) by
        unfold joinB
        rw [if_neg]
        rintro (h | h)
        · rw [hw] at h; cases h
        · exact hae h)
      generalize joinB a b = z at HJ ⊢
      by_cases hpos : 0 < b.size
      · have hp2 : (0 : Int) < (b.size : Int) := by omega
        have hc := u8_isnt (hno hpos)
        clear hw hae hno
        go_enter Tryz.func52, Tryz.ntmps52
        go_wp2_with fail
        refine (HC2.out _).mono ?_
        rintro e w2 ⟨rfl, hb2⟩
        go_wp2_with fail
        go_ret
        exact ⟨by rw [HJ.out]; rfl, hb2⟩
      · have hp2 : ¬ (0 : Int) < (b.size : Int) := by omega
        clear hw hae hno
        go_enter Tryz.func52, Tryz.ntmps52
        go_wp2_with fail
        refine (HC2.out _).mono ?_
        rintro e w2 ⟨rfl, hb2⟩
        go_wp2_with fail
        go_ret
        exact ⟨by rw [HJ.out]; rfl, hb2⟩
set_option maxRecDepth 100000 in
set_option maxHeartbeats 1000000 in
theorem trel_any (a b : ByteArray) (w : World) (ha : a.size ≤ 90000) (hb : b.size ≤ 90000) :
    Calls Tryz.prog 49 #[.string a, .string b] w fun e w' => e = .returned (.tuple #[.string (relB a b).1, .bool (relB a b).2]) ∧ Below w.heap.size w w' := by
  have HA := Lib.hid (fun w => clean_any a w (by omega))
  have HB := Lib.hid (fun w => clean_any b w (by omega))
  have hsa := clean_size a
  have hsb := clean_size b
  have HW1 := Lib.hid (fun (h : wholeB (cleanB a).data.toList = true) => (show CleanW (cleanB a).data.toList by unfold cleanB at h ⊢; rw [str_list] at h ⊢; exact (clean_whole h).2))
  have HW2 := Lib.hid (fun (h : wholeB (cleanB b).data.toList = true) => (show CleanW (cleanB b).data.toList by unfold cleanB at h ⊢; rw [str_list] at h ⊢; exact (clean_whole h).2))
  have HR := Lib.hid (show relB a b = if wholeB (cleanB a).data.toList = true ∧ wholeB (cleanB b).data.toList = true ∧ insideB (cleanB a) (cleanB b) = true then
    (if cleanB a = cleanB b then ptB else str ((cleanB b).data.toList.drop ((trimL (cleanB a).data.toList).length + 1)), true)
    else (ByteArray.empty, false) from rfl)
  generalize relB a b = R at HR ⊢
  generalize cleanB a = x at HA HW1 HR hsa
  generalize cleanB b = y at HB HW2 HR hsb
  have HP := Lib.hid (fun (s : ByteArray) w => Tryz.strings_HasPrefix s (ByteArray.mk #[47]) w)
  simp only [prefix_whole] at HP
  have HI := Lib.hid (fun w => tinside_any x y w (by omega))
  have HT := Lib.hid (fun w => show Calls Tryz.prog 85 #[.string x, .string (ByteArray.mk #[47])] w fun e w' => e = .returned (.string (str (trimL x.data.toList))) ∧ w' = w from by
    refine (Tryz.strings_TrimRight_one x 47 (by decide) w (by omega)).mono ?_
    rintro e w' ⟨rfl, rfl⟩
    exact ⟨rfl, rfl⟩)
  have HTp := Lib.hid (fun (s : ByteArray) w => Tryz.strings_TrimPrefix s (ByteArray.mk #[47]) w)
  go_enter Tryz.func49, Tryz.ntmps49
  go_wp2_with fail
  refine (HA.out _).mono ?_
  rintro e w1 ⟨rfl, hb1⟩
  have HB1 := Lib.hid hb1
  clear hb1
  go_wp2_with fail
  refine (HB.out _).mono ?_
  rintro e w2 ⟨rfl, hb2⟩
  have HB2 := Lib.hid (bnext HB1.out hb2)
  clear hb2
  go_wp2_with fail
  refine (HP.out _ _).mono ?_
  rintro e w3 ⟨rfl, rfl⟩
  cases hwx : wholeB x.data.toList with
  | false =>
    have HRr := Lib.hid (show R = (ByteArray.empty, false) by rw [HR.out, if_neg]; rintro ⟨h, -⟩; rw [hwx] at h; cases h)
    clear hwx
    go_wp2_with fail
    go_ret2
    exact ⟨by rw [HRr.out]; rfl, HB2.out⟩
  | true =>
    have HX := Lib.hid (HW1.out hwx)
    have HWx := Lib.hid hwx
    clear hwx
    go_wp2_with fail
    refine (HP.out _ _).mono ?_
    rintro e w4 ⟨rfl, rfl⟩
    cases hwy : wholeB y.data.toList with
    | false =>
      have HRr := Lib.hid (show R = (ByteArray.empty, false) by rw [HR.out, if_neg]; rintro ⟨-, h, -⟩; rw [hwy] at h; cases h)
      clear hwy
      go_wp2_with fail
      go_ret2
      exact ⟨by rw [HRr.out]; rfl, HB2.out⟩
    | true =>
      have HY := Lib.hid (HW2.out hwy)
      have HWy := Lib.hid hwy
      clear hwy
      go_wp2_with fail
      refine (HI.out _).mono ?_
      rintro e w5 ⟨rfl, rfl⟩
      cases hin : insideB x y with
      | false =>
        have HRr := Lib.hid (show R = (ByteArray.empty, false) by rw [HR.out, if_neg]; rintro ⟨-, -, h⟩; rw [hin] at h; cases h)
        clear hin
        go_wp2_with fail
        go_ret2
        exact ⟨by rw [HRr.out]; rfl, HB2.out⟩
      | true =>
        have HRr := Lib.hid (show R = (if x = y then ptB else str (y.data.toList.drop ((trimL x.data.toList).length + 1)), true) by rw [HR.out, if_pos ⟨HWx.out, HWy.out, hin⟩])
        have hle : (str (trimL x.data.toList)).size ≤ y.size := by
          rw [str_size]
          unfold insideB at hin
          rcases Bool.or_eq_true_iff.1 hin with h | h
          · have := of_decide_eq_true h
            subst this
            have h1 := trimL_len x.data.toList
            have h2 : x.data.toList.length = x.size := Array.length_toList
            omega
          · have h1 := (List.isPrefixOf_iff_prefix.1 (by unfold Lib.hasPrefix at h; exact h)).length_le
            rw [List.length_append, List.length_singleton] at h1
            have h2 : y.data.toList.length = y.size := Array.length_toList
            omega
        have HIn := Lib.hid hin
        have hlx : (str (trimL x.data.toList)).size = (trimL x.data.toList).length := by rw [str_size]
        have Hex := Lib.hid (show (y.extract (str (trimL x.data.toList)).size y.size).data.toList = y.data.toList.drop (trimL x.data.toList).length by
          rw [hlx, ByteArray.data_extract, Array.toList_extract, List.extract_eq_take_drop]
          refine List.take_of_length_le ?_
          rw [List.length_drop]
          have h2 : y.data.toList.length = y.size := Array.length_toList
          omega)
        have hle2 : ((str (trimL x.data.toList)).size : Int) ≤ (y.size : Int) := by omega
        clear hin hlx
        go_wp2_with fail
        refine (HT.out _).mono ?_
        rintro e w6 ⟨rfl, rfl⟩
        obtain ⟨u, hu⟩ : ∃ u, str (trimL x.data.toList) = u := ⟨_, rfl⟩
        rw [hu] at hle hle2 Hex
        rw [hu]
        clear hu
        go_wp2_with fail
        refine (HTp.out _ _).mono ?_
        rintro e w7 ⟨rfl, rfl⟩
        by_cases hxy : x = y
        · have hz : Lib.trimPrefix (y.extract u.size y.size).data.toList [47] = [] := by
            rw [Hex.out, ← hxy]
            exact rel_same HX.out
          rw [hz, show (ByteArray.mk ([] : List UInt8).toArray) = ByteArray.empty from rfl]
          rw [if_pos hxy] at HRr
          clear hz hxy
          go_wp2_with fail
          go_ret2
          exact ⟨by rw [HRr.out]; rfl, HB2.out⟩
        · obtain ⟨hz, hz2⟩ := rel_in HX.out HY.out (fun e => hxy (by rw [← str_of x, ← str_of y, e])) (by
            have h := HIn.out
            unfold insideB at h
            rw [decide_eq_false hxy, Bool.false_or] at h
            exact h)
          rw [← Hex.out] at hz
          rw [if_neg hxy] at HRr
          obtain ⟨r, hr⟩ : ∃ r, y.data.toList.drop ((trimL x.data.toList).length + 1) = r := ⟨_, rfl⟩
          rw [hr] at hz hz2 HRr
          rw [hz]
          have hq : ((str r).toList == []) = false := by
            rw [ba_list, str_list]
            simpa using hz2
          clear hz hz2 hr hxy
          generalize hg : str r = q at HRr hq
          rw [show (ByteArray.mk r.toArray) = q from hg]
          clear hg
          go_wp2_with fail
          go_ret2
          exact ⟨by rw [HRr.out]; rfl, HB2.out⟩
end Go.Proofs.YtaojpbgaengdpaaGreatDoor

/- The reference's Rel; Firsts told anew. -/
namespace Go.Proofs.YtaojpbgaengdpaaGreatDoor

open Go.RowKit

theorem u8_is' {x : UInt8} (h : x = 47) : ((x.toNat : Int) != 47) = false := by rw [h]; rfl
theorem u8_isnt' {x : UInt8} (h : x ≠ 47) : ((x.toNat : Int) != 47) = true := by
  have := u8_isnt h
  simp only [bne, this]
  rfl
theorem clean_pos (a : ByteArray) : 0 < (cleanB a).size := by
  unfold cleanB
  rw [str_size]
  exact List.length_pos_iff.2 (clean_ne _)
theorem inside_le {x y : ByteArray} (h : insideB x y = true) (hxy : ¬ x = y) : (str (trimL x.data.toList)).size + 1 ≤ y.size := by
  unfold insideB at h
  rw [decide_eq_false hxy, Bool.false_or] at h
  have h1 := (List.isPrefixOf_iff_prefix.1 (by unfold Lib.hasPrefix at h; exact h)).length_le
  rw [List.length_append, List.length_singleton] at h1
  have h2 : y.data.toList.length = y.size := Array.length_toList
  rw [str_size]
  omega
set_option maxRecDepth 100000 in
set_option maxHeartbeats 1000000 in
theorem rrel_any (a b : ByteArray) (w : World) (ha : a.size ≤ 90000) (hb : b.size ≤ 90000) :
    Calls Tryz.prog 51 #[.string a, .string b] w fun e w' => e = .returned (.tuple #[.string (relB a b).1, .bool (relB a b).2]) ∧ Below w.heap.size w w' := by
  have HA := Lib.hid (fun w => rclean_any a w (by omega))
  have HB := Lib.hid (fun w => rclean_any b w (by omega))
  have hsa := clean_size a
  have hsb := clean_size b
  have hpa := clean_pos a
  have hpb := clean_pos b
  have HR := Lib.hid (show relB a b = if wholeB (cleanB a).data.toList = true ∧ wholeB (cleanB b).data.toList = true ∧ insideB (cleanB a) (cleanB b) = true then
    (if cleanB a = cleanB b then ptB else str ((cleanB b).data.toList.drop ((trimL (cleanB a).data.toList).length + 1)), true)
    else (ByteArray.empty, false) from rfl)
  generalize relB a b = R at HR ⊢
  generalize cleanB a = x at HA HR hsa hpa
  generalize cleanB b = y at HB HR hsb hpb
  have HI := Lib.hid (fun w => rinside_any x y w (by omega) (by omega))
  have HT := Lib.hid (fun w => rcut_any x w (by omega))
  go_enter Tryz.func51, Tryz.ntmps51
  go_wp2_with fail
  refine (HA.out _).mono ?_
  rintro e w1 ⟨rfl, hb1⟩
  have HB1 := Lib.hid hb1
  clear hb1
  go_wp2_with fail
  refine (HB.out _).mono ?_
  rintro e w2 ⟨rfl, hb2⟩
  have HB2 := Lib.hid (bnext HB1.out hb2)
  clear hb2
  rcases whole_key x with ⟨hwx, hpx, hx⟩ | ⟨hwx, hx⟩
  · have hx1 := u8_is' hx
    have HWx := Lib.hid hwx
    clear hwx hx
    rcases whole_key y with ⟨hwy, hpy, hy⟩ | ⟨hwy, hy⟩
    · have hy1 := u8_is' hy
      have HWy := Lib.hid hwy
      clear hwy hy
      go_wp2_with fail
      refine (HI.out _).mono ?_
      rintro e w5 ⟨rfl, rfl⟩
      cases hin : insideB x y with
      | false =>
        have HRr := Lib.hid (show R = (ByteArray.empty, false) by rw [HR.out, if_neg]; rintro ⟨-, -, h⟩; rw [hin] at h; cases h)
        clear hin hx1 hy1
        go_wp2_with fail
        go_ret2
        exact ⟨by rw [HRr.out]; rfl, HB2.out⟩
      | true =>
        have HRr := Lib.hid (show R = (if x = y then ptB else str (y.data.toList.drop ((trimL x.data.toList).length + 1)), true) by rw [HR.out, if_pos ⟨HWx.out, HWy.out, hin⟩])
        have HIn := Lib.hid hin
        clear hin hx1 hy1
        by_cases hxy : x = y
        · rw [if_pos hxy] at HRr
          subst hxy
          go_wp2_with fail
          go_ret2
          exact ⟨by rw [HRr.out]; rfl, HB2.out⟩
        · rw [if_neg hxy] at HRr
          have hle := inside_le HIn.out hxy
          have g1 := tl_ne hxy
          have g2 : (x.toList == y.toList) = false := by simpa using g1
          clear hxy
          go_wp2_with fail
          refine (HT.out _).mono ?_
          rintro e w6 ⟨rfl, rfl⟩
          have Hex := Lib.hid (show y.extract ((str (trimL x.data.toList)).size + 1) y.size = str (y.data.toList.drop ((trimL x.data.toList).length + 1)) by
            rw [← str_of (y.extract ((str (trimL x.data.toList)).size + 1) y.size), ByteArray.data_extract, Array.toList_extract, List.extract_eq_take_drop, str_size]
            congr 1
            refine List.take_of_length_le ?_
            rw [List.length_drop]
            have h2 : y.data.toList.length = y.size := Array.length_toList
            omega)
          obtain ⟨q, hq⟩ : ∃ q, str (y.data.toList.drop ((trimL x.data.toList).length + 1)) = q := ⟨_, rfl⟩
          rw [hq] at Hex HRr
          obtain ⟨u, hu⟩ : ∃ u, str (trimL x.data.toList) = u := ⟨_, rfl⟩
          rw [hu] at hle Hex
          rw [hu]
          have hu1 : ¬ 9223372036854775807 < u.size + 1 := by omega
          have hu2 : (u.size : Int) + 1 ≤ (y.size : Int) := by omega
          clear hu hq
          go_wp2_with fail
          go_ret2
          exact ⟨by rw [HRr.out, ← Hex.out]; rfl, HB2.out⟩
    · have hy1 := u8_isnt' (hy hpb)
      have HRr := Lib.hid (show R = (ByteArray.empty, false) by rw [HR.out, if_neg]; rintro ⟨-, h, -⟩; rw [hwy] at h; cases h)
      clear hwy hy
      go_wp2_with fail
      go_ret2
      exact ⟨by rw [HRr.out]; rfl, HB2.out⟩
  · have hx1 := u8_isnt' (hx hpa)
    have HRr := Lib.hid (show R = (ByteArray.empty, false) by rw [HR.out, if_neg]; rintro ⟨h, -⟩; rw [hwx] at h; cases h)
    clear hwx hx
    go_wp2_with fail
    go_ret2
    exact ⟨by rw [HRr.out]; rfl, HB2.out⟩
end Go.Proofs.YtaojpbgaengdpaaGreatDoor

/- Firsts told anew, by the reference. -/
namespace Go.Proofs.YtaojpbgaengdpaaGreatDoor

open Go.RowKit

theorem anewL_take {l : List Rw} {k : Nat} (hk : k < l.length) : (anewL l).take (k + 1) = (anewL l).take k ++ [l[k].to ((l.map Rw.first).idxOf l[k].first : Nat)] := by
  have hk2 : k < (anewL l).length := by rw [anewL_len]; exact hk
  rw [List.take_succ_eq_append_getElem hk2]
  simp [anewL]
/-- the first place from m on. -/
def fromD (fs : List Int) (m : Nat) (x : Int) : Nat := m + (fs.drop m).idxOf x
theorem fromD_zero (fs : List Int) (x : Int) : fromD fs 0 x = fs.idxOf x := by unfold fromD; simp
theorem fromD_hit {fs : List Int} {k : Nat} {x : Int} (hk : k < fs.length) (h : fs[k] = x) : fromD fs k x = k := by
  unfold fromD
  rw [idx_step fs x k hk, if_pos h]
theorem fromD_miss {fs : List Int} {k : Nat} {x : Int} (hk : k < fs.length) (h : fs[k] ≠ x) : fromD fs k x = fromD fs (k + 1) x := by
  unfold fromD
  rw [idx_step fs x k hk, if_neg h]
theorem OR.box {w : World} {B : Nat} {vo : Value} {l : List Rw} (h : OR w B vo l) {b : Nat} {vs : Array Value} {T : TypeId} (hb : Blk w b vs T) (hne : vo.ownBlock ≠ some b) (i : Nat) (v : Value) : OR (w.setCell ⟨b, i, none⟩ v) B vo l := by
  have hm : Mod (fun k => k = b) w (w.setCell ⟨b, i, none⟩ v) := (Mod.refl (fun k => k = b) w).setCell (a := ⟨b, i, none⟩) (.inl rfl) _
  exact own_mod h hm (fun k hk he => hne (by rw [he, hk]))
theorem below_box {N : Nat} {w0 w : World} (h : Below N w0 w) {b : Nat} (hb : N ≤ b) (hN : N ≤ w.heap.size) (i : Nat) (v : Value) : Below N w0 (w.setCell ⟨b, i, none⟩ v) :=
  h.trans (((Mod.refl (fun k => k = b) w).setCell (a := ⟨b, i, none⟩) (.inl rfl) v).below (fun k hk => by rw [hk]; exact hb) hN)
def rwV (r : Rw) : Array Value := #[.string r.path, .int .i64 r.kind, .int .i64 r.mode, .int .i64 r.uid, .int .i64 r.gid, .int .i64 r.mtime, .int .i64 r.ctime, .int .i64 r.dev, .int .i64 r.first, .string r.data]
theorem rw_box {w : World} {bx : Nat} {r : Rw} {v v' : Int} (h : Blk w bx (rwV (r.to v)) 47) : Blk (w.setCell ⟨bx, 8, none⟩ (.int .i64 v')) bx (rwV (r.to v')) 47 := h.set 8 (.int .i64 v')
set_option maxRecDepth 100000 in
set_option maxHeartbeats 4000000 in
theorem ranew_any (w : World) {a : Option Addr} {n c : Nat} {l : List Rw} (hA : SliceAt w 10 rwQ a n c l) (hl : n ≤ 10000) :
    Calls Tryz.prog 53 #[.slice a n c] w fun e w' => ∃ v, e = .returned v ∧ OR w' w.heap.size v (anewL l) ∧ Below w.heap.size w w' := by
  obtain rfl := hA.1
  have HA := Lib.hid hA
  have HE := Lib.hid (show anewL l = (anewL l).take l.length by rw [← anewL_len l, List.take_length])
  have HO0 := Lib.hid (OR.nil w w.heap.size)
  clear hA
  go_enter Tryz.func53, Tryz.ntmps53
  go_wp2_with fail
  go_loopw [3, 4] (fun t3 t4 wr => ∃ k : Nat, k ≤ l.length ∧ t4 = .int .i64 k ∧ OR wr w.heap.size t3 ((anewL l).take k) ∧ Below w.heap.size w wr) (fun _ t4 _ => l.length - (intOf t4).toNat)
  case atStart => exact ⟨0, Nat.zero_le _, rfl, HO0.out, Below.refl _ _⟩
  case round =>
    obtain ⟨k, hk, rfl, hO, hb⟩ := hrel
    have HO := Lib.hid hO
    have HB := Lib.hid hb
    by_cases hlt : k < l.length
    · have hA2 := HA.out.below hb (Nat.le_refl _)
      obtain ⟨ba, oa, rfl, -⟩ := rowsAt_some hA2 (by omega)
      obtain ⟨c0, c1, c2, c3, c4, c5, c6, c7, c8, c9⟩ := rows_cell hA2 k hlt
      have HStep := Lib.hid (anewL_take hlt)
      have HFst := Lib.hid (fun (j : Nat) (hj : j < l.length) => show (l.map Rw.first)[j]'(by rw [List.length_map]; exact hj) = l[j].first by rw [List.getElem_map])
      have hlk : ((anewL l).take k).length = k := by rw [List.length_take, anewL_len]; omega
      have HRk := Lib.hid (show l[k] = l[k] from rfl)
      obtain ⟨r, hr⟩ : ∃ r, l[k] = r := ⟨_, rfl⟩
      rw [hr] at c0 c1 c2 c3 c4 c5 c6 c7 c8 c9 HStep
      have HR := Lib.hid hr
      obtain ⟨oo, oc, ht3, ho1, ho2, -⟩ := own_form hO
      rw [hlk] at ht3
      subst ht3
      have hX := Blk.new wr (rwV r) 47
      have hbX := balloc hb (.cells (rwV r) 47)
      have hOX := own_keep hO ((Below.refl _ wr).alloc (Nat.le_refl _) (.cells (rwV r) 47))
      have hne : (Value.slice oo k oc).ownBlock ≠ some wr.heap.size := fun he => by
        obtain ⟨-, cur, hc⟩ := own_obj1 hO he
        have := (Array.getElem?_eq_some_iff.1 hc).1
        omega
      have HNe := Lib.hid hne
      have hbw : w.heap.size ≤ wr.heap.size := HB.out.size
      simp only [rwV] at hX hbX hOX
      clear hO hA2 hb hne hr
      go_upto_region 6 with fail
      generalize wr.alloc (.cells #[.string r.path, .int .i64 r.kind, .int .i64 r.mode, .int .i64 r.uid, .int .i64 r.gid, .int .i64 r.mtime, .int .i64 r.ctime, .int .i64 r.dev, .int .i64 r.first, .string r.data] 47) = X at hX hbX hOX ⊢
      generalize wr.heap.size = bx at hX HNe hbw ⊢
      have HX := Lib.hid hX
      have HBX := Lib.hid hbX
      have HOX := Lib.hid hOX
      clear c0 c1 c2 c3 c4 c5 c6 c7 c8 c9 hX hOX hbX
      go_wp2_with fail
      go_loopw [6] (fun t6 w2 => ∃ (m : Nat) (v : Int), m ≤ k + 1 ∧ t6 = .int .i64 ((m : Int) - 1) ∧ (m = k + 1 ∨ v = (fromD (l.map Rw.first) m r.first : Nat)) ∧ Blk w2 bx (rwV (r.to v)) 47 ∧ OR w2 w.heap.size (.slice oo k oc) ((anewL l).take k) ∧ Below w.heap.size w w2) (fun t6 _ => (intOf t6 + 1).toNat)
      case atStart => exact ⟨k + 1, r.first, Nat.le_refl _, by go_num, .inl rfl, HX.out, HOX.out, HBX.out⟩
      case round =>
        obtain ⟨m, v, hm, rfl, hv, hX2, hO2, hb2⟩ := hrel
        have HV := Lib.hid hv
        have HX2 := Lib.hid hX2
        have HO2 := Lib.hid hO2
        have HB2 := Lib.hid hb2
        clear hv hX2 hO2 hb2
        cases m with
        | zero =>
          have HVv := Lib.hid (show v = ((l.map Rw.first).idxOf r.first : Nat) by
            rcases HV.out with h | h
            · omega
            · rw [h, fromD_zero])
          have hX2 := HX2.out
          simp only [rwV, Rw.to] at hX2
          obtain ⟨xc, xf, xz⟩ := hX2.facts
          obtain ⟨g9, cap9, W9, hrun9, hO9, hm9⟩ := HO2.out.app (r.to v) (by rw [hlk]; omega) HB2.out.size
          simp only [rwC, Rw.to] at hrun9
          rw [hlk] at hrun9 hO9
          have HR9 := Lib.hid hrun9
          have HO9 := Lib.hid (show OR W9 w.heap.size (.slice (some ⟨g9, 0, none⟩) (k + 1) cap9) ((anewL l).take (k + 1)) by rw [HStep.out, ← HVv.out]; exact hO9)
          have HB9 := Lib.hid (HB2.out.trans (hm9.below (fun _ hk => (own_obj1 HO2.out hk).1) HB2.out.size))
          clear hX2 hrun9 hO9 hm9
          go_wp2_with (at_builtin; refine wpList_app_run rfl rfl rfl rfl HR9.out ?_)
          go_roundw
          case measure => simp [intOf]; omega
          case rel => exact ⟨k + 1, by omega, by go_num, HO9.out, HB9.out⟩
        | succ j =>
          have hjl : j < l.length := by omega
          have hA3 := HA.out.below HB2.out (Nat.le_refl _)
          obtain ⟨-, -, -, -, -, -, -, -, d8, -⟩ := rows_cell hA3 j hjl
          obtain ⟨-, -, -, -, -, -, -, -, e8, -⟩ := rows_cell hA3 k hlt
          rw [HR.out] at e8
          obtain ⟨xc, xf, xz⟩ := HX2.out.facts
          have HJ := Lib.hid (HFst.out j hjl)
          have hcast : (((j + 1 : Nat) : Int) - 1) = (j : Int) := by omega
          rw [hcast]
          clear hA3
          by_cases hh : l[j].first = r.first
          · rw [hh] at d8
            have HHit := Lib.hid (show fromD (l.map Rw.first) j r.first = j from fromD_hit (by rw [List.length_map]; exact hjl) (HJ.out.trans hh))
            clear hh
            go_wp2_with fail
            go_quiet (fail)
            go_wp2_with fail
            go_roundw
            case measure => simp [intOf]
            case rel => exact ⟨j, j, by omega, by go_num, .inr (by rw [HHit.out]), rw_box (HX2.out.keep (below_drewN (Below.refl _ _) _)), OR.box (own_keep HO2.out (below_drewN (Below.refl _ _) _)) (HX2.out.keep (below_drewN (Below.refl _ _) _)) HNe.out 8 _, below_box (below_drewN HB2.out _) hbw (below_drewN HB2.out _).size 8 _⟩
          · have hh2 : (l[j].first == r.first) = false := by simpa using hh
            have HMiss := Lib.hid (show fromD (l.map Rw.first) j r.first = fromD (l.map Rw.first) (j + 1) r.first from fromD_miss (by rw [List.length_map]; exact hjl) (fun e => hh (HJ.out.symm.trans e)))
            have HNj := Lib.hid (show j ≠ k by
              rintro rfl
              exact hh (by rw [HR.out]))
            clear hh
            go_wp2_with fail
            go_quiet (fail)
            go_wp2_with fail
            go_roundw
            case measure => simp [intOf]
            case rel =>
              refine ⟨j, v, by omega, by go_num, .inr ?_, HX2.out.keep (below_drewN (Below.refl _ _) _), own_keep HO2.out (below_drewN (Below.refl _ _) _), below_drewN HB2.out _⟩
              rcases HV.out with h | h
              · have := HNj.out
                omega
              · rw [h, HMiss.out]
    · obtain rfl : k = l.length := by omega
      clear hO hb
      go_wp2_with fail
      go_ret
      exact ⟨_, rfl, by rw [HE.out]; exact HO.out, HB.out⟩
end Go.Proofs.YtaojpbgaengdpaaGreatDoor
