/- Texts of the proof, part 26. -/
import Derived.Test.YtaojpbgaengdpaaST7
import Derived.Test.YtaojpbgaengdpaaST25
set_option linter.unusedVariables false
set_option linter.unusedSimpArgs false
/- Whether a text may be a path: name.Path, ragpickerref02.Path, and the notes' paths (layer 39). -/
namespace Go.Proofs.Ytaojpbgaengdpaa

open Go.RowKit

theorem pathE_nil {s : ByteArray} (h : s.size = 0) : pathE s = 5 := by
  unfold pathE
  rw [if_pos (List.eq_nil_of_length_eq_zero (by rw [Array.length_toList]; exact h))]
theorem pathE_head {s : ByteArray} (h : 0 < s.size) (h2 : s[0] ≠ 47) : pathE s = 1 := by
  have hd : s.data.toList.head? = some s[0] := by
    have hl : 0 < s.data.toList.length := by simpa using h
    rw [List.head?_eq_getElem?, List.getElem?_eq_getElem hl]
    rfl
  unfold pathE
  rw [if_neg (by intro e; rw [e] at hd; cases hd), if_pos (.inl (by rw [hd]; intro e; exact h2 (Option.some.inj e)))]
theorem pathE_rest {s : ByteArray} (h : 0 < s.size) (h2 : s[0] = 47) : pathE s = if hasB s 0 = true then 1 else if 4096 < s.size then 13 else 0 := by
  have hd : s.data.toList.head? = some s[0] := by
    have hl : 0 < s.data.toList.length := by simpa using h
    rw [List.head?_eq_getElem?, List.getElem?_eq_getElem hl]
    rfl
  unfold pathE hasB
  rw [if_neg (by intro e; rw [e] at hd; cases hd), hd, h2]
  simp

theorem contains_any (s : ByteArray) (w : World) :
    Calls Try.prog 56 #[.string s, .string (ByteArray.mk #[0])] w fun e w' => e = .returned (.bool (hasB s 0)) ∧ w = w' := by
  refine (Try.strings_Contains_one s 0 w).mono ?_
  rintro e w' ⟨rfl, rfl⟩
  refine ⟨ret_bool ?_, rfl⟩
  unfold hasB
  rw [decide_eq_decide]
  exact idx_pos 0 _

set_option maxRecDepth 100000 in
set_option maxHeartbeats 400000 in
theorem npath_any (s : ByteArray) (w : World) (hs : s.size ≤ 100000) :
    Calls Try.prog 36 #[.string s] w fun e w' => e = .returned (.int .i64 (pathE s)) ∧ w = w' := by
  rcases Nat.eq_zero_or_pos s.size with h0 | hpos
  · have HE := Lib.hid (pathE_nil h0)
    have hn : s.toList = [] := by rw [ba_list]; exact List.eq_nil_of_length_eq_zero (by rw [Array.length_toList]; exact h0)
    clear h0
    go_enter Try.func36, Try.ntmps36
    go_wp2_with fail
    go_ret
    exact ⟨by rw [HE.out]; rfl, rfl⟩
  · have hn : ¬ s.toList = [] := by
      rw [ba_list]; intro e
      have : s.data.toList.length = s.size := Array.length_toList
      rw [e] at this; simp at this; omega
    have hn2 : s.toList.isEmpty = false := by simpa using hn
    by_cases h47 : s[0] = 47
    · have hr := Lib.hid (pathE_rest hpos h47)
      have hc1 : ((s[0].toNat : Int) == 47) = true := by rw [h47]; rfl
      have hc2 : ((s[0].toNat : Int) != 47) = false := by rw [bne, hc1]; rfl
      clear h47
      have hc := Lib.hid (contains_any s)
      generalize hasB s 0 = b at hr hc
      cases b
      · by_cases hlen : 4096 < s.size
        · have hE := Lib.hid (show pathE s = 13 by rw [hr.out]; simp [hlen])
          go_enter Try.func36, Try.ntmps36
          go_wp2_with (go_at_call 56; refine (hc.out _).mono ?_; rintro e w1 ⟨rfl, rfl⟩)
          go_ret
          exact ⟨by rw [hE.out]; rfl, rfl⟩
        · have hE := Lib.hid (show pathE s = 0 by rw [hr.out]; simp [hlen])
          go_enter Try.func36, Try.ntmps36
          go_wp2_with (go_at_call 56; refine (hc.out _).mono ?_; rintro e w1 ⟨rfl, rfl⟩)
          go_ret
          exact ⟨by rw [hE.out]; rfl, rfl⟩
      · have hE := Lib.hid (show pathE s = 1 by rw [hr.out]; rfl)
        go_enter Try.func36, Try.ntmps36
        go_wp2_with (go_at_call 56; refine (hc.out _).mono ?_; rintro e w1 ⟨rfl, rfl⟩)
        go_ret
        exact ⟨by rw [hE.out]; rfl, rfl⟩
    · have hE := Lib.hid (pathE_head hpos h47)
      have hc1 : ((s[0].toNat : Int) == 47) = false := by
        simp only [beq_eq_false_iff_ne, ne_eq]
        intro h
        exact h47 (by rw [u8_eq]; show s[0].toNat = 47; omega)
      have hc2 : ((s[0].toNat : Int) != 47) = true := by rw [bne, hc1]; rfl
      clear h47
      go_enter Try.func36, Try.ntmps36
      go_wp2_with fail
      go_ret
      exact ⟨by rw [hE.out]; rfl, rfl⟩
end Go.Proofs.Ytaojpbgaengdpaa

/- A name, whether it may be (layer 2). -/
namespace Go.Proofs.Ytaojpbgaengdpaa

open Go.RowKit

theorem contains47_any (s : ByteArray) (w : World) :
    Calls Try.prog 56 #[.string s, .string (ByteArray.mk #[47])] w fun e w' => e = .returned (.bool (hasB s 47)) ∧ w = w' := by
  refine (Try.strings_Contains_one s 47 w).mono ?_
  rintro e w' ⟨rfl, rfl⟩
  refine ⟨ret_bool ?_, rfl⟩
  unfold hasB
  rw [decide_eq_decide]
  exact idx_pos 47 _
set_option maxRecDepth 100000 in
set_option maxHeartbeats 1000000 in
theorem ncheck_any (s : ByteArray) (w : World) (hs : s.size ≤ 9223372036854775807) :
    Calls Try.prog 78 #[.string s] w fun e w' => e = .returned (.int .i64 (checkE s)) ∧ w = w' := by
  have hl : s.toList = s.data.toList := ba_list s
  have HC := Lib.hid (show checkE s = if s.toList = [] ∨ s.toList = [46] ∨ s.toList = [46, 46] ∨ hasB s 47 = true ∨ hasB s 0 = true then 1 else if 255 < s.size then 13 else 0 by
    unfold checkE hasB; rw [hl]; simp only [decide_eq_true_eq])
  have H47 := Lib.hid (contains47_any s)
  have H0 := Lib.hid (contains_any s)
  generalize hasB s 47 = b47 at HC H47
  generalize hasB s 0 = b0 at HC H0
  clear hl
  by_cases h1 : s.toList = []
  · have HE := Lib.hid (HC.out.trans (if_pos (.inl h1)))
    go_enter Try.func78, Try.ntmps78
    go_wp2_with fail
    go_ret
    exact ⟨by rw [HE.out]; rfl, rfl⟩
  · have h1' : s.toList.isEmpty = false := by simpa using h1
    by_cases h2 : s.toList = [46]
    · have HE := Lib.hid (HC.out.trans (if_pos (.inr (.inl h2))))
      go_enter Try.func78, Try.ntmps78
      go_wp2_with fail
      go_ret
      exact ⟨by rw [HE.out]; rfl, rfl⟩
    · have h2' : (s.toList == [46]) = false := by simpa using h2
      by_cases h3 : s.toList = [46, 46]
      · have HE := Lib.hid (HC.out.trans (if_pos (.inr (.inr (.inl h3)))))
        go_enter Try.func78, Try.ntmps78
        go_wp2_with fail
        go_ret
        exact ⟨by rw [HE.out]; rfl, rfl⟩
      · have h3' : (s.toList == [46, 46]) = false := by simpa using h3
        cases b47
        · cases b0
          · have HE := Lib.hid (HC.out.trans (if_neg (by simp [h1, h2, h3])))
            by_cases h4 : 255 < s.size
            · have HE2 := Lib.hid (HE.out.trans (if_pos h4))
              have h4' : (255 : Int) < (s.size : Int) := by omega
              go_enter Try.func78, Try.ntmps78
              go_wp2_with (first | (go_at_call 56; ((with_reducible refine (H47.out _).mono ?_); rintro e w1 ⟨rfl, rfl⟩)) | (go_at_call 56; ((with_reducible refine (H0.out _).mono ?_); rintro e w1 ⟨rfl, rfl⟩)))
              go_ret
              exact ⟨by rw [HE2.out]; rfl, rfl⟩
            · have HE2 := Lib.hid (HE.out.trans (if_neg h4))
              have h4' : ¬ (255 : Int) < (s.size : Int) := by omega
              go_enter Try.func78, Try.ntmps78
              go_wp2_with (first | (go_at_call 56; ((with_reducible refine (H47.out _).mono ?_); rintro e w1 ⟨rfl, rfl⟩)) | (go_at_call 56; ((with_reducible refine (H0.out _).mono ?_); rintro e w1 ⟨rfl, rfl⟩)))
              go_ret
              exact ⟨by rw [HE2.out]; rfl, rfl⟩
          · have HE := Lib.hid (HC.out.trans (if_pos (by simp)))
            go_enter Try.func78, Try.ntmps78
            go_wp2_with (first | (go_at_call 56; ((with_reducible refine (H47.out _).mono ?_); rintro e w1 ⟨rfl, rfl⟩)) | (go_at_call 56; ((with_reducible refine (H0.out _).mono ?_); rintro e w1 ⟨rfl, rfl⟩)))
            go_ret
            exact ⟨by rw [HE.out]; rfl, rfl⟩
        · have HE := Lib.hid (HC.out.trans (if_pos (by simp)))
          go_enter Try.func78, Try.ntmps78
          go_wp2_with (go_at_call 56; ((with_reducible refine (H47.out _).mono ?_); rintro e w1 ⟨rfl, rfl⟩))
          go_ret
          exact ⟨by rw [HE.out]; rfl, rfl⟩
end Go.Proofs.Ytaojpbgaengdpaa
