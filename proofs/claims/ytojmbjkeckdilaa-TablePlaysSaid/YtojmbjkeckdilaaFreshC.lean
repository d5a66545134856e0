/- ragpickerlaw09.awake, FreshApart and FreshFree answer true. -/
import Derived.Test.YtojmbjkeckdilaaFreshB
namespace Go.Proofs.Ytojmbjkeckdilaa
open Go.RowKit Go.Shelf

theorem free_awake {e : Ending} (h : FreePost (ByteArray.mk #[97]) [ByteArray.mk #[97], ByteArray.mk #[97, 46, 50]] e) : e = .returned (.tuple #[.string (ByteArray.mk #[97, 46, 51]), .bool true]) := by
  have e1 : nthS (ByteArray.mk #[97]) ((0 : Nat) + 1) = ByteArray.mk #[97] := by decide +kernel
  have e2 : nthS (ByteArray.mk #[97]) ((1 : Nat) + 1) = ByteArray.mk #[97, 46, 50] := by decide +kernel
  have e3 : nthS (ByteArray.mk #[97]) ((2 : Nat) + 1) = ByteArray.mk #[97, 46, 51] := by decide +kernel
  have n3 : nthS (ByteArray.mk #[97]) ((2 : Nat) + 1) ∉ [ByteArray.mk #[97], ByteArray.mk #[97, 46, 50]] := by rw [e3]; simp
  rcases h with ⟨m, hm, h1, h2, rfl⟩ | ⟨h, -⟩
  · have : m = 2 := by
      rcases Nat.lt_trichotomy m 2 with h | h | h
      · rcases Nat.lt_succ_iff_lt_or_eq.1 h with h | h
        · obtain rfl : m = 0 := by omega
          rw [e1] at h1; simp at h1
        · subst h; rw [e2] at h1; simp at h1
      · exact h
      · exact absurd (h2 2 h) n3
    subst this
    rw [e3]
  · exact absurd (h 2 (by omega)) n3

set_option maxRecDepth 100000 in
set_option maxHeartbeats 1000000 in
theorem awake09_any (w : World) :
    Calls Try.prog 25 #[] w fun e w' => e = .returned (.bool true) ∧ Below w.heap.size w w' := by
  have hst := str_beq (rfl : ByteArray.mk #[97, 46, 51] = ByteArray.mk #[97, 46, 51])
  go_enter Try.func25, Try.ntmps25
  go_wp2_with fail
  have q := Blk.new w #[.string (ByteArray.mk #[97]), .string (ByteArray.mk #[97, 46, 50])] 9
  have hz : SliceAt (w.alloc (.cells #[.string (ByteArray.mk #[97]), .string (ByteArray.mk #[97, 46, 50])] 9)) 1 strR (some ⟨w.heap.size, 0, none⟩) 2 2 [ByteArray.mk #[97], ByteArray.mk #[97, 46, 50]] := by
    refine ⟨rfl, Nat.le_refl _, by omega, .inr ⟨w.heap.size, 0, rfl, by simp, fun i hi => ?_⟩⟩
    match i, hi with
    | 0, _ => exact ⟨[.string (ByteArray.mk #[97])], rfl, ⟨rfl, by show (ByteArray.mk #[97]).size ≤ _; decide⟩, fun j hj => by
        obtain rfl : j = 0 := by simpa using hj
        rw [q.cell]; rfl⟩
    | 1, _ => exact ⟨[.string (ByteArray.mk #[97, 46, 50])], rfl, ⟨rfl, by show (ByteArray.mk #[97, 46, 50]).size ≤ _; decide⟩, fun j hj => by
        obtain rfl : j = 0 := by simpa using hj
        rw [q.cell]; rfl⟩
  refine (free_any (ByteArray.mk #[97]) (by decide) _ _ _ _ _ hz).mono ?_
  rintro e w1 ⟨hf, hb1⟩
  obtain rfl := free_awake hf
  go_wp2_with fail
  go_ret
  exact ⟨rfl, bnext (balloc (Below.refl _ _) _) hb1⟩

/-! ### two names that are tried are unlike -/
theorem takeWhile_dot (l r : List UInt8) (h : ∀ c ∈ l, c ≠ 46) : (l ++ 46 :: r).takeWhile (fun c => c != 46) = l := by
  induction l with
  | nil => simp
  | cons c l ih =>
    have hc : (c != 46) = true := by simpa using h c (by simp)
    rw [List.cons_append, List.takeWhile_cons, if_pos hc, ih (fun d hd => h d (by simp [hd]))]
theorem tail_inj {x y d1 d2 : List UInt8} (h1 : ∀ c ∈ d1, c ≠ 46) (h2 : ∀ c ∈ d2, c ≠ 46) (h : x ++ 46 :: d1 = y ++ 46 :: d2) : d1 = d2 := by
  have e := congrArg (fun l => (l.reverse.takeWhile (fun c => c != 46)).reverse) h
  simp only [List.reverse_append, List.reverse_cons, List.append_assoc, List.cons_append, List.nil_append] at e
  rw [takeWhile_dot _ _ (by simpa using h1), takeWhile_dot _ _ (by simpa using h2)] at e
  simpa using e
theorem nthS_inj (base : ByteArray) (a b : Int) (ha : 2 ≤ a) (hb : 2 ≤ b) (h : nthS base a = nthS base b) : a = b := by
  unfold nthS tailL at h
  rw [if_neg (by omega), if_neg (by omega)] at h
  have h' := congrArg (fun s : ByteArray => s.data.toList) h
  simp only [Joins.data_append] at h'
  have hd : ∀ n : Int, 2 ≤ n → decL n = dig 10 n.toNat := fun n hn => by unfold decL; rw [if_neg (by omega)]
  have hs : ∀ l : List UInt8, (str l).data.toList = l := fun l => by simp [str]
  rw [hs, hs, hd a ha, hd b hb] at h'
  have hn : ∀ n, ∀ c ∈ dig 10 n, c ≠ 46 := fun n c hc e => by
    have := dig_bytes 10 (by decide) (by decide) n c hc
    subst e
    have e2 : (46 : UInt8).toNat = 46 := rfl
    omega
  have := dig_inj 10 (by decide) (by decide) (tail_inj (hn _) (hn _) h')
  omega

set_option maxRecDepth 100000 in
set_option maxHeartbeats 1000000 in
theorem apart_any (base : ByteArray) (hs : base.size ≤ 9223372036854775807) (a b : Int) (ha0 : 0 ≤ a) (ha1 : a ≤ 65535) (hb0 : 0 ≤ b) (hb1 : b ≤ 65535) (w : World) :
    Calls Try.prog 8 #[.string base, .int .u16 a, .int .u16 b] w fun e w' => e = .returned (.bool true) ∧ Below w.heap.size w w' := by
  by_cases hc : 300 < base.size ∨ a < 2 ∨ b < 2 ∨ a = b
  · have hd : (decide ((300 : Int) < base.size) || decide (a < 2) || decide (b < 2) || (a == b)) = true := by simp; omega
    go_enter Try.func8, Try.ntmps8
    go_wp2_with fail
    all_goals first | (exfalso; omega) | (refine (awake09_any _).mono ?_; rintro e w1 ⟨rfl, hb1⟩; go_wp2_with fail; go_ret; exact ⟨rfl, hb1⟩)
  · have hne : ¬ a = b := by omega
    have he := str_bne (fun h => hne (nthS_inj base a b (by omega) (by omega) h))
    have h300 : ¬ (300 : Int) < base.size := by omega
    have ha2 : ¬ a < 2 := by omega
    have hb2 : ¬ b < 2 := by omega
    have hab : (a == b) = false := by simpa using hne
    clear hc hne
    go_enter Try.func8, Try.ntmps8
    go_wp2_with fail
    refine (nth_any base a _ hs (by omega) (by omega)).mono ?_
    rintro e w1 ⟨rfl, hb1⟩
    go_wp2_with fail
    refine (nth_any base b _ hs (by omega) (by omega)).mono ?_
    rintro e w2 ⟨rfl, hb2⟩
    go_wp2_with fail
    refine (awake09_any _).mono ?_
    rintro e w3 ⟨rfl, hb3⟩
    go_wp2_with fail
    go_ret
    exact ⟨rfl, bnext (bnext hb1 hb2) hb3⟩
end Go.Proofs.Ytojmbjkeckdilaa
