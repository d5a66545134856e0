/- Contracts of num.digits and num.Dec, over this program: the digits. -/
import Derived.Test.YtojmbjkeckdilaaNumA
namespace Go.Proofs.Ytojmbjkeckdilaa
open Go.RowKit

theorem info_u8 : (Try.prog.info? 5).map (fun i => (i.zero, i.size, i.bytes)) = some (some (.int .u8 0), 1, 1) := by kernel_rfl

theorem dig_idx (r : Nat) (h : r < 10) (hb : r < (ByteArray.mk #[48, 49, 50, 51, 52, 53, 54, 55, 56, 57]).size) : ((ByteArray.mk #[48, 49, 50, 51, 52, 53, 54, 55, 56, 57])[r]'hb).toNat = 48 + r := by
  match r, h with
  | 0, _ => rfl
  | 1, _ => rfl
  | 2, _ => rfl
  | 3, _ => rfl
  | 4, _ => rfl
  | 5, _ => rfl
  | 6, _ => rfl
  | 7, _ => rfl
  | 8, _ => rfl
  | 9, _ => rfl

/-- digits of n, none of 0. -/
def digZ (b n : Nat) : List UInt8 := if n = 0 then [] else dig b n
theorem digZ_step {b n : Nat} (hb : 2 ≤ b) (hn : 0 < n) : digZ b n = digZ b (n / b) ++ [UInt8.ofNat (48 + n % b)] := by
  unfold digZ
  rw [if_neg (by omega)]
  by_cases h : n < b
  · rw [dig_small h, if_pos (Nat.div_eq_of_lt h), Nat.mod_eq_of_lt h]; rfl
  · have : 0 < n / b := Nat.div_pos (by omega) (by omega)
    rw [if_neg (by omega), dig_step hb (by omega)]

set_option maxRecDepth 100000 in
set_option maxHeartbeats 400000 in
theorem digits_any (n b : Int) (w : World) (hn0 : 0 ≤ n) (hn1 : n ≤ 18446744073709551615) (hb0 : 2 ≤ b) (hb1 : b ≤ 10) :
    Calls Try.prog 41 #[.int .u64 n, .int .u64 b] w fun e w' => e = .returned (.string (str (dig b.toNat n.toNat))) ∧ Below w.heap.size w w' := by
  by_cases hz : n = 0
  · subst hz
    have Hv := Lib.hid (show dig b.toNat (0 : Int).toNat = [48] by rw [dig_small (by omega)]; rfl)
    go_enter Try.func41, Try.ntmps41
    go_wp2_with fail
    go_ret
    exact ⟨by rw [Hv.out]; rfl, Below.refl _ _⟩
  · have hz0 : (n == 0) = false := by simpa using hz
    obtain ⟨i0, hi, hzz, hz1, hz2⟩ := info_parts info_u8
    go_enter Try.func41, Try.ntmps41
    go_wp2_with fail
    go_loopg [0, 5] n.toNat (fun g t0 t5 wr => ∃ (m : Int) (acc : List Int) (k : Nat), 0 ≤ m ∧ m ≤ n ∧ g = m.toNat ∧ t0 = .int .u64 m ∧ wr.ownsRow w.heap.size 5 1 t5 acc.length (acc.map (Value.int .u8)) ∧
      (∀ x ∈ acc, 48 ≤ x ∧ x ≤ 57) ∧ acc.length + k = 64 ∧ m < 2 ^ k ∧ digZ b.toNat n.toNat = digZ b.toNat m.toNat ++ (acc.map fun x => UInt8.ofNat x.toNat).reverse ∧ Below w.heap.size w wr)
    case atStart => exact ⟨n, [], 64, hn0, Int.le_refl _, rfl, rfl, World.ownsRow_nil _ _ _ _, by simp, rfl, by omega, by simp, Below.refl _ _⟩
    case round =>
      obtain ⟨m, acc, k, hm0, hm1, hg, rfl, hown, hac, hs, hk, hd, hB⟩ := hrel
      have Hg := Lib.hid hg
      have Hd := Lib.hid hd
      have Hs := Lib.hid hs
      have Hk := Lib.hid hk
      have Ha := Lib.hid hac
      clear hg hd hs hk hac
      by_cases hlt : 0 < m
      · obtain ⟨r0, r1⟩ := u8_mod (m := m) hb0 hb1
        have d0 : 0 ≤ m / b := Int.ediv_nonneg hm0 (by omega)
        have d1 : m / b ≤ m := Int.ediv_le_self _ hm0
        have hne : (b == 0) = false := by simp; omega
        have hidx : ∀ h, (((ByteArray.mk #[48, 49, 50, 51, 52, 53, 54, 55, 56, 57])[(m % b).toNat]'h).toNat : Int) = 48 + m % b := fun h => by
          rw [dig_idx _ (by omega)]; omega
        have hacc : acc.length + 1 ≤ 64 := by
          have hk := Hk.out
          have hs := Hs.out
          cases k with
          | zero => simp at hk; omega
          | succ k' => omega
        have hlo : m / b < m := Int.ediv_lt_self_of_pos_of_ne_one (by omega) (by omega)
        go_wp2_with (at_builtin; refine wpList_append_own _ rfl _ _ 22 rfl w.heap.size 5 i0 (.int .u8 0) 1 1 Try.underlying22 hi hzz hz1 hz2 rfl (by decide) _ _ _ rfl (hown.alloc _) ⟨wr.heap.size, 0, none⟩ 1 1 [.int .u8 (48 + m % b)] rfl rfl ?c1 ?c2 ?c3 ?c4 ?c5 ?_)
        case c1 => exact cell_one_new _ _ _
        case c2 => intro u hu; simp at hu; subst hu; rfl
        case c3 => unfold maxLen; omega
        case c4 => omega
        case c5 => have := hB.size; simp; omega
        intro v' w1 hown' hgrow _
        have hB1 : Below w.heap.size w w1 := (balloc hB _).grown hgrow (by have := hB.size; simp; omega) (fun k hk => ((hown.alloc (.cells #[.int .u8 (48 + m % b)] 5)).lt k hk).1)
        go_wp2_with fail
        go_roundg (m / b).toNat
        case measure => rw [Hg.out]; omega
        case rel =>
          have hk := Hk.out
          have hs := Hs.out
          obtain ⟨k', rfl⟩ : ∃ k', k = k' + 1 := by
            cases k with
            | zero => simp at hk; omega
            | succ k' => exact ⟨k', rfl⟩
          refine ⟨m / b, acc ++ [48 + m % b], k', d0, by omega, rfl, rfl, by simpa using hown', ?_, by simp; omega, ?_, ?_, hB1⟩
          · intro x hx
            rcases List.mem_append.1 hx with hx | hx
            · exact Ha.out x hx
            · simp at hx; omega
          · have h2 : m / b ≤ m / 2 := by
              have h3 := Int.ediv_mul_le m (show b ≠ 0 by omega)
              have h4 : m / b * 2 ≤ m / b * b := Int.mul_le_mul_of_nonneg_left hb0 d0
              omega
            have h5 : (2 : Int) ^ (k' + 1) = 2 ^ k' * 2 := Int.pow_succ ..
            omega
          · rw [Hd.out, digZ_step (b := b.toNat) (n := m.toNat) (by omega) (by omega), toNat_div hm0 (by omega), List.append_assoc]
            congr 1
            rw [← toNat_mod hm0 (by omega), List.map_append, List.reverse_append]
            show _ = UInt8.ofNat (48 + m % b).toNat :: _
            rw [show (48 + m % b).toNat = 48 + (m % b).toNat by omega]
            rfl
      · obtain rfl : m = 0 := by omega
        have hd0 : dig b.toNat n.toNat = (acc.map fun x => UInt8.ofNat x.toNat).reverse := by
          have h := Hd.out
          unfold digZ at h
          rw [if_neg (by omega)] at h
          simpa using h
        have hne : 0 < acc.length := by
          have h1 := dig_pos b.toNat n.toNat (by omega)
          rw [hd0] at h1
          simpa using h1
        obtain ⟨hl, hf⟩ := hown
        rcases hf with ⟨-, h⟩ | ⟨g, cap, cur, rfl, hg0, hh, hc1, hc2, hc3, hc4⟩
        · omega
        have hown : wr.ownsRow w.heap.size 5 1 (.slice (some ⟨g, 0, none⟩) acc.length cap) acc.length (acc.map (Value.int .u8)) := ⟨hl, .inr ⟨g, cap, cur, rfl, hg0, hh, hc1, hc2, hc3, hc4⟩⟩
        have Hd0 := Lib.hid hd0
        have hL : acc.length ≤ 64 := by have := Hs.out; omega
        clear hl hh hc1 hc3 hc4 hd0 Hd
        go_wp2_with fail
        go_loopg [6, 7] (acc.length + 1) (fun gg t6 t7 wr => ∃ (k j : Nat) (cr : List Int), gg + k = acc.length + 1 ∧ j + k + 1 = acc.length ∧ k ≤ j + 2 ∧ t6 = .int .i64 k ∧ t7 = .int .i64 j ∧
          wr.ownsRow w.heap.size 5 1 (.slice (some ⟨g, 0, none⟩) acc.length cap) acc.length (cr.map (Value.int .u8)) ∧ cr.length = acc.length ∧
          (∀ x, x < acc.length → cr.getD x 0 = if x < k ∨ j < x then acc.getD (acc.length - 1 - x) 0 else acc.getD x 0) ∧ Below w.heap.size w wr)
        case atStart => exact ⟨0, acc.length - 1, acc, by omega, by omega, by omega, rfl, by go_num, hown, rfl, fun x hx => by rw [if_neg (by omega)], hB⟩
        case round =>
          obtain ⟨k, j, cr, hg1, hkj, hk2, rfl, rfl, hown, hcl, hcr, hB⟩ := hrel
          have Hcr := Lib.hid hcr
          have Hcl := Lib.hid hcl
          have Hg1 := Lib.hid hg1
          have Hkj := Lib.hid hkj
          clear hcr hcl hg1
          by_cases hlt : k < j
          · have hck : wr.cell? ⟨g, k, none⟩ = some (.int .u8 (cr.getD k 0)) := by
              rw [hown.cellAt k (by omega), List.getElem?_map, List.getElem?_eq_getElem (by have := Hcl.out; omega), List.getD_eq_getElem?_getD, List.getElem?_eq_getElem (by have := Hcl.out; omega)]
              rfl
            have hcj : wr.cell? ⟨g, j, none⟩ = some (.int .u8 (cr.getD j 0)) := by
              rw [hown.cellAt j (by omega), List.getElem?_map, List.getElem?_eq_getElem (by have := Hcl.out; omega), List.getD_eq_getElem?_getD, List.getElem?_eq_getElem (by have := Hcl.out; omega)]
              rfl
            have hf := hown.frozenAt
            have hne : ¬ k = j := by omega
            have hne' : ¬ j = k := by omega
            have hkL : (k : Int) < acc.length := by omega
            have hjL : (j : Int) < acc.length := by omega
            have hj0 : (0 : Int) ≤ j := by omega
            have hk0 : (0 : Int) ≤ k := by omega
            have Hown := Lib.hid hown
            clear hown hkj
            generalize hu : cr.getD k 0 = u at hck
            generalize hv : cr.getD j 0 = v at hcj
            have Hu := Lib.hid hu
            have Hv := Lib.hid hv
            clear hu hv
            go_wp2_with fail
            go_region
            go_wp2_with fail
            go_roundg (gk - 1)
            case measure => have := Hg1.out; have := Hkj.out; omega
            case rel =>
              have hcr := Hcr.out
              have hcl := Hcl.out
              have hkj := Hkj.out
              have s1 := (Hown.out.stored k (.int .u8 v)).1
              have s2 := (s1.stored j (.int .u8 u)).1
              have hg := hg0
              refine ⟨k + 1, j - 1, (cr.set k v).set j u, by have := Hg1.out; omega, by omega, by omega, by go_num, by go_num, ?_, by simp [hcl], ?_, ?_⟩
              · rw [List.map_set, List.map_set]; exact s2
              · intro x hx
                have hx' := hcr x hx
                have hk' := hcr k (by omega)
                have hj' := hcr j (by omega)
                rw [if_neg (by omega), Hu.out] at hk'
                rw [if_neg (by omega), Hv.out] at hj'
                simp only [List.getD_eq_getElem?_getD] at hx' hk' hj' ⊢
                by_cases e1 : x = j
                · subst e1
                  rw [List.getElem?_set_self (by simp; omega), if_pos (by omega), show acc.length - 1 - x = k by omega]
                  exact hk'
                · rw [List.getElem?_set_ne (by omega)]
                  by_cases e2 : x = k
                  · subst e2
                    rw [List.getElem?_set_self (by omega), if_pos (by omega), show acc.length - 1 - x = j by omega]
                    exact hj'
                  · rw [List.getElem?_set_ne (by omega), hx']
                    by_cases e3 : x < k ∨ j < x
                    · rw [if_pos e3, if_pos (by omega)]
                    · rw [if_neg e3, if_neg (by omega)]
              · exact ((hB.setCell (p := ⟨g, k, none⟩) hg _).setCell (p := ⟨g, j, none⟩) hg _).drew
          · have hcr : cr = acc.reverse := by
              have hcl := Hcl.out
              apply List.ext_getElem (by simp [hcl])
              intro x h1 h2
              have hx := Hcr.out x (by omega)
              rw [List.getD_eq_getElem?_getD, List.getElem?_eq_getElem h1] at hx
              rw [List.getElem_reverse]
              by_cases e : x < k ∨ j < x
              · rw [if_pos e, List.getD_eq_getElem?_getD, List.getElem?_eq_getElem (by omega)] at hx
                exact hx
              · rw [if_neg e, List.getD_eq_getElem?_getD, List.getElem?_eq_getElem (by omega)] at hx
                have e2 : x = acc.length - 1 - x := by omega
                simp only [Option.getD_some] at hx
                rw [hx]
                congr 1
            have kc := conv_bytes (P := Try.prog) Try.underlying22 Try.underlying5 Try.underlying9 wr g 0 cap cr (by
              intro x hx
              have hcl := Hcl.out
              rw [Nat.zero_add, hown.cellAt x (by omega), List.getElem?_map, List.getElem?_eq_getElem hx]
              rfl)
            rw [Hcl.out] at kc
            have Hcr2 := Lib.hid hcr
            clear hcr
            go_wp2_with fail
            go_ret
            refine ⟨?_, hB⟩
            rw [Hd0.out, Hcr2.out, List.map_reverse]
            rfl
end Go.Proofs.Ytojmbjkeckdilaa
