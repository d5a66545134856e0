/- Contracts of ragpickerref01.Base and Dec, over this program: the digits. -/
import Derived.Test.YtojmbjkeckdilaaProg
import Derived.Test.YtojmbjkeckdilaaLib2
import Derived.Test.YtojmbjkeckdilaaDig
import Derived.Deep.LoopGhost
namespace Go.Proofs.Ytojmbjkeckdilaa
open Go.RowKit

theorem toNat_div {m b : Int} (hm : 0 ≤ m) (hb : 0 ≤ b) : (m / b).toNat = m.toNat / b.toNat := by
  obtain ⟨m, rfl⟩ := Int.eq_ofNat_of_zero_le hm
  obtain ⟨b, rfl⟩ := Int.eq_ofNat_of_zero_le hb
  rfl
theorem toNat_mod {m b : Int} (hm : 0 ≤ m) (hb : 0 ≤ b) : (m % b).toNat = m.toNat % b.toNat := by
  obtain ⟨m, rfl⟩ := Int.eq_ofNat_of_zero_le hm
  obtain ⟨b, rfl⟩ := Int.eq_ofNat_of_zero_le hb
  rfl
theorem u8_mod {b m : Int} (hb0 : 2 ≤ b) (hb1 : b ≤ 10) : 0 ≤ m % b ∧ m % b ≤ 9 := by
  have := Int.emod_nonneg m (show b ≠ 0 by omega)
  have := Int.emod_lt_of_pos m (show 0 < b by omega)
  omega

set_option maxRecDepth 100000 in
set_option maxHeartbeats 400000 in
theorem base_any (n b : Int) (w : World) (hn0 : 0 ≤ n) (hn1 : n ≤ 18446744073709551615) (hb0 : 2 ≤ b) (hb1 : b ≤ 10) :
    Calls Try.prog 40 #[.int .u64 n, .int .u64 b] w fun e w' => e = .returned (.string (str (dig b.toNat n.toNat))) ∧ Below w.heap.size w w' := by
  have kc := fun (w : World) (v : Int) => conv_one (P := Try.prog) Try.underlying22 Try.underlying5 Try.underlying9 w v 5
  go_enter Try.func40, Try.ntmps40
  go_wp2_with fail
  go_loopg [0, 5] n.toNat (fun g t0 t5 wr => ∃ (m : Int) (s : List UInt8) (k : Nat), 0 ≤ m ∧ m ≤ n ∧ g = m.toNat ∧ t0 = .int .u64 m ∧ t5 = .string (str s) ∧ s.length + k = 64 ∧ m < 2 ^ k ∧ dig b.toNat n.toNat = dig b.toNat m.toNat ++ s ∧ Below w.heap.size w wr)
  case atStart => exact ⟨n, [], 64, hn0, Int.le_refl _, rfl, rfl, rfl, rfl, by omega, by simp, Below.refl _ _⟩
  case round =>
    obtain ⟨m, s, k, hm0, hm1, hg, rfl, rfl, hs, hk, hd, hB⟩ := hrel
    have Hg := Lib.hid hg
    have Hd := Lib.hid hd
    have Hs := Lib.hid hs
    have Hk := Lib.hid hk
    have hsz : (str s).size ≤ 64 := by rw [str_size]; omega
    clear hg hd hs hk
    by_cases hlt : b ≤ m
    · obtain ⟨r0, r1⟩ := u8_mod (m := m) hb0 hb1
      have d0 : 0 ≤ m / b := Int.ediv_nonneg hm0 (by omega)
      have d1 : m / b ≤ m := Int.ediv_le_self _ hm0
      have hne : (b == 0) = false := by simp; omega
      have hsz1 : (str [UInt8.ofNat (48 + m % b).toNat]).size ≤ 1 := by rw [str_size]; simp
      have hlo : m / b < m := Int.ediv_lt_self_of_pos_of_ne_one (by omega) (by omega)
      go_wp2_with fail
      go_roundg (m / b).toNat
      case measure => rw [Hg.out]; omega
      case rel =>
        have hk := Hk.out
        have hs := Hs.out
        obtain ⟨k', rfl⟩ : ∃ k', k = k' + 1 := by
          cases k with
          | zero => simp at hk; omega
          | succ k' => exact ⟨k', rfl⟩
        refine ⟨m / b, UInt8.ofNat (48 + m % b).toNat :: s, k', d0, by omega, rfl, rfl, ?_, by simp; omega, ?_, ?_, balloc hB _⟩
        · rw [str_append]; rfl
        · have h2 : m / b ≤ m / 2 := by
            have h3 := Int.ediv_mul_le m (show b ≠ 0 by omega)
            have h4 : m / b * 2 ≤ m / b * b := Int.mul_le_mul_of_nonneg_left hb0 d0
            omega
          have h5 : (2 : Int) ^ (k' + 1) = 2 ^ k' * 2 := Int.pow_succ ..
          omega
        · rw [Hd.out, dig_step (b := b.toNat) (n := m.toNat) (by omega) (by omega), toNat_div hm0 (by omega), List.append_assoc]
          congr 2
          rw [← toNat_mod hm0 (by omega)]
          show _ = UInt8.ofNat (48 + m % b).toNat :: s
          rw [show (48 + m % b).toNat = 48 + (m % b).toNat by omega]
          rfl
    · have hsz2 : (str [UInt8.ofNat (48 + m).toNat]).size ≤ 1 := by rw [str_size]; simp
      go_wp2_with fail
      go_ret
      refine ⟨?_, balloc hB _⟩
      show Ending.returned (.string (str [UInt8.ofNat (48 + m).toNat] ++ str s)) = _
      rw [Hd.out, str_append, dig_small (by omega), show (48 + m).toNat = 48 + m.toNat by omega]

set_option maxRecDepth 100000 in
set_option maxHeartbeats 400000 in
theorem rdec_any (n : Int) (w : World) (h0 : -9223372036854775808 ≤ n) (h1 : n ≤ 9223372036854775807) :
    Calls Try.prog 37 #[.int .i64 n] w fun e w' => e = .returned (.string (str (decL n))) ∧ Below w.heap.size w w' := by
  by_cases hn : n < 0
  · have Hv := Lib.hid (show decL n = 45 :: dig 10 n.natAbs by unfold decL; rw [if_pos hn])
    have hsz := dig_len 10 (by decide) 19 n.natAbs (by have e : (10 : Nat) ^ (19 + 1) = 100000000000000000000 := by decide
                                                       rw [e]; omega)
    have hsz' : (str (dig 10 n.natAbs)).size ≤ 20 := by rw [str_size]; exact hsz
    clear hsz
    go_enter Try.func37, Try.ntmps37
    have Hw := Lib.hid (show IntKind.u64.wrap (-IntKind.u64.wrap n) = -n by rw [IntKind.wrap_u64, IntKind.wrap_u64]; omega)
    go_wp2_with fail
    rw [Hw.out]
    refine (base_any (-n) 10 _ (by omega) (by omega) (by decide) (by decide)).mono ?_
    rw [show dig (10 : Int).toNat (-n).toNat = dig 10 n.natAbs by rw [show (-n).toNat = n.natAbs by omega]; rfl]
    rintro e w1 ⟨rfl, hb1⟩
    go_wp2_with fail
    go_ret
    refine ⟨?_, hb1⟩
    rw [Hv.out]
    show Ending.returned (.string (str [45] ++ str _)) = _
    rw [str_append]
    rfl
  · have Hv := Lib.hid (show decL n = dig 10 n.toNat by unfold decL; rw [if_neg hn])
    go_enter Try.func37, Try.ntmps37
    go_wp2_with fail
    refine (base_any n 10 _ (by omega) (by omega) (by decide) (by decide)).mono ?_
    rintro e w1 ⟨rfl, hb1⟩
    go_wp2_with fail
    go_ret
    exact ⟨by rw [Hv.out]; rfl, hb1⟩
end Go.Proofs.Ytojmbjkeckdilaa
