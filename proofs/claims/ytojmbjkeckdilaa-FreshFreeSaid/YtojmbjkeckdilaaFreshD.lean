/- FreshFree answers true, over any list of strings. -/
import Derived.Test.YtojmbjkeckdilaaFreshC
namespace Go.Proofs.Ytojmbjkeckdilaa
open Go.RowKit Go.Shelf

theorem nodup_le {α : Type} [DecidableEq α] : ∀ (l xs : List α), l.Nodup → (∀ a ∈ l, a ∈ xs) → l.length ≤ xs.length
  | [], xs, _, _ => by simp
  | a :: l, xs, hn, hs => by
    rw [List.nodup_cons] at hn
    have h1 := nodup_le l (xs.erase a) hn.2 (fun b hb => by
      have hne : b ≠ a := fun e => hn.1 (e ▸ hb)
      exact (List.mem_erase_of_ne hne).2 (hs b (by simp [hb])))
    have h2 := List.length_erase_of_mem (hs a (by simp))
    have h3 : 0 < xs.length := List.length_pos_of_mem (hs a (by simp))
    simp; omega

/-- of forty names at most, not all that are tried are taken. -/
theorem free_some (base : ByteArray) (xs : List ByteArray) (hx : xs.length ≤ 40) (h : ∀ j < 1000, nthS base ((j : Nat) + 1) ∈ xs) : False := by
  have h1 := nodup_le ((List.range 41).map fun j => (nthS base ((j + 1 : Nat) + 1)).data.toList) (xs.map fun s => s.data.toList) (by
    rw [List.Nodup, List.pairwise_map]
    refine List.pairwise_lt_range.imp ?_
    intro i j hij e
    have := nthS_inj base _ _ (by omega) (by omega) (WideShapes.bytes_inj e)
    omega) (by
    intro a ha
    obtain ⟨j, hj, rfl⟩ := List.mem_map.1 ha
    exact List.mem_map.2 ⟨_, h (j + 1) (by have := List.mem_range.1 hj; omega), rfl⟩)
  simp at h1
  omega

set_option maxRecDepth 100000 in
set_option maxHeartbeats 2000000 in
theorem freshFree_any (base : ByteArray) (hs : base.size ≤ 9223372036854775807) (a : Option Addr) (len cap : Nat) (xs : List ByteArray) (w : World) (hz : SliceAt w 1 strR a len cap xs) :
    Calls Try.prog 7 #[.string base, .slice a len cap] w fun e w' => e = .returned (.bool true) ∧ Below w.heap.size w w' := by
  have hlen : len ≤ 9223372036854775807 := by obtain ⟨-, h2, h3, -⟩ := hz; omega
  by_cases hc : 300 < base.size ∨ 40 < len
  · have hd : (decide ((300 : Int) < base.size) || decide ((40 : Int) < len)) = true := by simp; omega
    go_enter Try.func7, Try.ntmps7
    go_wp2_with fail
    all_goals first | (exfalso; omega) | (refine (awake09_any _).mono ?_; rintro e w1 ⟨rfl, hb1⟩; go_wp2_with fail; go_ret; exact ⟨rfl, hb1⟩)
  · have h300 : ¬ (300 : Int) < base.size := by omega
    have h40 : ¬ (40 : Int) < len := by omega
    have Hxl := Lib.hid hz.1
    go_enter Try.func7, Try.ntmps7
    go_wp2_with fail
    refine (free_any base hs a len cap xs _ hz).mono ?_
    rintro e w1 ⟨hf, hb1⟩
    obtain ⟨m, hm, hm1, hm2, rfl⟩ | ⟨h, -⟩ := hf
    rotate_left
    · exact (free_some base xs (by rw [Hxl.out]; omega) h).elim
    have Hm1 := Lib.hid hm1
    have Hm2 := Lib.hid hm2
    clear hm1 hm2
    go_wp2_with fail
    go_loopg [7] 42 (fun g t7 wr => ∃ k : Nat, g + k = 42 ∧ k ≤ 41 ∧ t7 = .int .i64 ((k : Int) + 1) ∧ (∀ j < k, nthS base ((j : Nat) + 1) ∈ xs) ∧ Below w.heap.size w wr)
    case atStart => exact ⟨0, rfl, by omega, rfl, fun j hj => by omega, hb1⟩
    case round =>
      obtain ⟨k, hg, hk, rfl, hin, hB⟩ := hrel
      have Hg := Lib.hid hg
      have Hin := Lib.hid hin
      clear hg hin
      by_cases hlt : k < 41
      · go_wp2_with fail
        refine (rnth_any base ((k : Int) + 1) _ hs (by omega) (by omega)).mono ?_
        rintro e w2 ⟨rfl, hb2⟩
        have hB2 := bnext hB hb2
        have hz2 : SliceAt w2 1 strR a len cap xs := hz.below hB2 (Nat.le_refl _)
        go_wp2_with fail
        have Hb2 := Lib.hid hB2
        clear hb2 hB2 hB
        go_loop [9, 10] (fun t9 t10 => ∃ (i : Nat) (met : Bool), i ≤ len ∧ t9 = .bool met ∧ t10 = .int .i64 i ∧ (met = true ↔ nthS base ((k : Int) + 1) ∈ xs.take i)) (fun _ t10 => len - (intOf t10).toNat)
        case atStart => exact ⟨0, false, Nat.zero_le _, rfl, rfl, by simp⟩
        case round =>
          obtain ⟨i, met, hi, rfl, rfl, hmet⟩ := hrel
          have Hmet := Lib.hid hmet
          clear hmet
          by_cases hil : i < len
          · obtain ⟨-, -, -, h | ⟨bb, off, rfl, hbb, hel⟩⟩ := hz2
            · omega
            obtain ⟨cs, -, ⟨hcs, hss⟩, hcc⟩ := hel i (by have := Hxl.out; omega)
            have hck : w2.cell? ⟨bb, off + i, none⟩ = some (.string (xs[i]'(by have := Hxl.out; omega))) := by
              subst hcs
              have := hcc 0 (by simp)
              simpa using this
            have htake : xs.take (i + 1) = xs.take i ++ [xs[i]'(by have := Hxl.out; omega)] := List.take_succ_eq_append_getElem (by have := Hxl.out; omega)
            clear hcs hcc hel
            generalize xs[i]'(by have := Hxl.out; omega) = v at hck hss htake
            have Ht := Lib.hid htake
            clear htake
            cases met with
            | true =>
              go_wp2
              go_round
              case rel => exact ⟨i + 1, true, by omega, rfl, by go_num, by rw [Ht.out]; simp; exact .inl (Hmet.out.1 (by simp))⟩
              case measure => simp [intOf]; omega
            | false =>
              have hnot : nthS base ((k : Int) + 1) ∉ xs.take i := fun h => by have := Hmet.out.2 h; cases this
              have Hnot := Lib.hid hnot
              clear hnot
              by_cases he : v = nthS base ((k : Int) + 1)
              · have he1 := str_beq he
                have He := Lib.hid he
                clear he
                go_wp2
                go_round
                case rel => exact ⟨i + 1, true, by omega, rfl, by go_num, by rw [Ht.out, He.out]; simp⟩
                case measure => simp [intOf]; omega
              · have he1 := str_bne he
                have He := Lib.hid he
                clear he
                go_wp2
                go_round
                case rel => exact ⟨i + 1, false, by omega, rfl, by go_num, by rw [Ht.out]; simp; exact ⟨Hnot.out, fun h => He.out h.symm⟩⟩
                case measure => simp [intOf]; omega
          · obtain rfl : i = len := by omega
            cases met with
            | true =>
              go_wp2_with fail
              go_roundg (42 - (k + 1))
              case measure => have := Hg.out; omega
              case rel =>
                refine ⟨k + 1, by have := Hg.out; omega, by omega, by go_num, fun j hj => ?_, Hb2.out⟩
                by_cases e : j = k
                · subst e; exact List.mem_of_mem_take (Hmet.out.1 (by simp))
                · exact Hin.out j (by omega)
            | false =>
              have hnot : nthS base ((k : Nat) + 1) ∉ xs := fun h => by
                have := Hmet.out.2 (by rw [List.take_of_length_le (by rw [Hxl.out]; exact Nat.le_refl _)]; exact h)
                cases this
              have hkm : k = m := by
                rcases Nat.lt_trichotomy k m with h | h | h
                · exact absurd (Hm2.out k h) hnot
                · exact h
                · exact absurd (Hin.out m h) Hm1.out
              have he1 := str_beq (show nthS base ((m : Int) + 1) = nthS base ((k : Int) + 1) by rw [hkm])
              clear hkm hnot
              go_wp2_with fail
              refine (awake09_any _).mono ?_
              rintro e w3 ⟨rfl, hb3⟩
              go_wp2_with fail
              go_ret
              exact ⟨rfl, bnext Hb2.out hb3⟩
      · obtain rfl : k = 41 := by omega
        go_wp2_with fail
        refine (awake09_any _).mono ?_
        rintro e w2 ⟨rfl, hb2⟩
        go_wp2_with fail
        go_ret
        exact ⟨rfl, bnext hB hb2⟩
end Go.Proofs.Ytojmbjkeckdilaa
