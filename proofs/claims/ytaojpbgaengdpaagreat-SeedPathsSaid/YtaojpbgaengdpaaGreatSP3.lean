/- Texts of the proof, part 3. -/
import Derived.Test.YtaojpbgaengdpaaGreatSP2
set_option linter.unusedVariables false
set_option linter.unusedSimpArgs false
/- Contracts of ragpickerref12.Take, quota.New, quota.Blocks, ragpickerref12.Blocks and ragpickerref12.Limits, over this seat's program; no conditions but those written out. -/
namespace Go.Proofs.YtaojpbgaengdpaaGreat

open Go.RowKit

set_option maxHeartbeats 1000000 in
theorem rtake_any (b n mb mn x y : Int) (w : World) :
    Calls Tryz.prog 151 #[.agg #[.int .i64 b, .int .i64 n, .int .i64 mb, .int .i64 mn], .int .i64 x, .int .i64 y] w fun e w' => e = .returned (tkV b n mb mn x y) ∧ Below w.heap.size w w' := by
  by_cases hf : fineB b n mb mn = true
  · have hf' := hf
    unfold fineB at hf'
    simp only [decide_eq_true_eq] at hf'
    obtain ⟨f1, f2, f3, f4, f5, f6⟩ := hf'
    by_cases hx : x < -1073741824 ∨ 1073741824 < x ∨ y < -1073741824 ∨ 1073741824 < y
    · have hv := tkV_of b n mb mn x y 1 (by unfold tkE tkBad; rw [if_pos]; simp; omega) (by decide)
      have Hv := Lib.hid hv
      clear hv
      have hd : (decide (1073741824 < x) || decide (x < -1073741824) || decide (1073741824 < y) || decide (y < -1073741824)) = true := by simp; omega
      go_enter Tryz.func151, Tryz.ntmps151
      go_wp2_with (go_at_call 162; refine (rfine_any _ _ _ _ _).mono ?_; rintro e w' ⟨rfl, rfl⟩)
      all_goals (first | (exfalso; omega) | (go_returns; exact ⟨by rw [Hv.out], by go_grown⟩))
    · obtain ⟨x1, x2, y1, y2⟩ : -1073741824 ≤ x ∧ x ≤ 1073741824 ∧ -1073741824 ≤ y ∧ y ≤ 1073741824 := by omega
      clear hx
      have Hb := Lib.hid (tkBad_eq b n mb mn x y hf x1 x2 y1 y2)
      by_cases g1 : mn < n + y
      · have Hv := Lib.hid (tkV_of b n mb mn x y 15 (by unfold tkE; rw [Hb.out]; simp [g1]) (by decide))
        go_enter Tryz.func151, Tryz.ntmps151
        go_wp2_with (go_at_call 162; refine (rfine_any _ _ _ _ _).mono ?_; rintro e w' ⟨rfl, rfl⟩)
        go_returns; exact ⟨by rw [Hv.out], by go_grown⟩
      · by_cases g2 : mb < b + x
        · have Hv := Lib.hid (tkV_of b n mb mn x y 14 (by unfold tkE; rw [Hb.out]; simp [g1, g2]) (by decide))
          go_enter Tryz.func151, Tryz.ntmps151
          go_wp2_with (go_at_call 162; refine (rfine_any _ _ _ _ _).mono ?_; rintro e w' ⟨rfl, rfl⟩)
          go_returns; exact ⟨by rw [Hv.out], by go_grown⟩
        · by_cases g3 : fineB (b+x) (n+y) mb mn = true
          · have Hv := Lib.hid (tkV_ok b n mb mn x y (by unfold tkE; rw [Hb.out]; simp [g1, g2, g3]))
            have g3' := g3
            unfold fineB at g3'
            simp only [decide_eq_true_eq] at g3'
            obtain ⟨k1, k2, -⟩ := g3'
            go_enter Tryz.func151, Tryz.ntmps151
            go_wp2_with (go_at_call 162; refine (rfine_any _ _ _ _ _).mono ?_; rintro e w' ⟨rfl, rfl⟩)
            go_returns; exact ⟨by rw [Hv.out], by go_grown⟩
          · have Hv := Lib.hid (tkV_of b n mb mn x y 1 (by unfold tkE; rw [Hb.out]; simp [g1, g2, g3]) (by decide))
            have k : n + y < 0 ∨ b + x < 0 := by
              unfold fineB at g3
              simp only [decide_eq_true_eq] at g3
              omega
            clear g3
            by_cases k1 : n + y < 0
            · clear k
              go_enter Tryz.func151, Tryz.ntmps151
              go_wp2_with (go_at_call 162; refine (rfine_any _ _ _ _ _).mono ?_; rintro e w' ⟨rfl, rfl⟩)
              go_returns; exact ⟨by rw [Hv.out], by go_grown⟩
            · have k2 : b + x < 0 := by omega
              clear k
              go_enter Tryz.func151, Tryz.ntmps151
              go_wp2_with (go_at_call 162; refine (rfine_any _ _ _ _ _).mono ?_; rintro e w' ⟨rfl, rfl⟩)
              go_returns; exact ⟨by rw [Hv.out], by go_grown⟩
  · simp only [Bool.not_eq_true] at hf
    have Hv := Lib.hid (tkV_of b n mb mn x y 1 (by unfold tkE tkBad; simp [hf]) (by decide))
    go_enter Tryz.func151, Tryz.ntmps151
    go_wp2_with (go_at_call 162; refine (rfine_any _ _ _ _ _).mono ?_; rintro e w' ⟨rfl, rfl⟩)
    go_returns; exact ⟨by rw [Hv.out], by go_grown⟩

/-- may a mount have so much? -/
def limB (b n : Int) : Bool := decide (1 ≤ b ∧ b ≤ 1073741824 ∧ 1 ≤ n ∧ n ≤ 65536)
theorem lim_mk (b n : Int) (h1 : 1 ≤ b) (h2 : b ≤ 1073741824) (h3 : 1 ≤ n) (h4 : n ≤ 65536) : limB b n = true := by
  unfold limB; simp [h1, h2, h3, h4]
theorem lim_of {b n : Int} (h : limB b n = true) : 1 ≤ b ∧ b ≤ 1073741824 ∧ 1 ≤ n ∧ n ≤ 65536 := by
  unfold limB at h; simpa using h

set_option maxHeartbeats 400000 in
theorem limits_any (b n : Int) (w : World) :
    Calls Tryz.prog 35 #[.int .i64 b, .int .i64 n] w fun e w' => e = .returned (.bool (limB b n)) ∧ w = w' := by
  unfold limB
  go_enter Tryz.func35, Tryz.ntmps35
  go_wp2
  all_goals (go_ret; simp [*]; try omega)

set_option maxHeartbeats 400000 in
theorem new_yes (b n : Int) (h : limB b n = true) (w : World) :
    Calls Tryz.prog 126 #[.int .i64 b, .int .i64 n] w fun e w' => e = .returned (.tuple #[.agg #[.int .i64 0, .int .i64 0, .int .i64 b, .int .i64 n], .int .i64 0]) ∧ Below w.heap.size w w' := by
  obtain ⟨h1, h2, h3, h4⟩ := lim_of h
  clear h
  go_enter Tryz.func126, Tryz.ntmps126
  go_wp2
  go_returns; exact ⟨rfl, by go_grown⟩
set_option maxHeartbeats 400000 in
theorem new_no (b n : Int) (h : limB b n = false) (w : World) :
    Calls Tryz.prog 126 #[.int .i64 b, .int .i64 n] w fun e w' => e = .returned (.tuple #[.agg #[.int .i64 0, .int .i64 0, .int .i64 0, .int .i64 0], .int .i64 3]) ∧ Below w.heap.size w w' := by
  have hd : (decide (b < 1) || decide (1073741824 < b) || decide (n < 1) || decide (65536 < n)) = true := by
    unfold limB at h; simp at h ⊢; omega
  have hn : ¬ (1 ≤ b ∧ b ≤ 1073741824 ∧ 1 ≤ n ∧ n ≤ 65536) := by unfold limB at h; simpa using h
  clear h
  go_enter Tryz.func126, Tryz.ntmps126
  go_wp2
  all_goals (first | (exfalso; omega) | (go_returns; exact ⟨rfl, by go_grown⟩))

/-- how many blocks a node of a kind has. -/
def blkI (kind size : Int) : Int := if kind = 1 then 1 else if kind = 2 ∧ 0 < size then (size - 1) / 512 + 1 else 0
theorem blkI_bd (k s : Int) (h : s ≤ 9223372036854775807) : 0 ≤ blkI k s ∧ blkI k s ≤ 18014398509481984 := by unfold blkI; split <;> (try split) <;> omega

set_option maxHeartbeats 400000 in
theorem blocks_any (k s : Int) (hs : s ≤ 9223372036854775807) (w : World) :
    Calls Tryz.prog 158 #[.int .i64 k, .int .i64 s] w fun e w' => e = .returned (.int .i64 (blkI k s)) ∧ w = w' := by
  by_cases h1 : k = 1
  · have Hv := Lib.hid (show blkI k s = 1 by unfold blkI; rw [if_pos h1])
    subst h1
    go_enter Tryz.func158, Tryz.ntmps158
    go_wp2
    go_ret; exact ⟨by rw [Hv.out]; rfl, rfl⟩
  · have e1 : (k == 1) = false := by simpa using h1
    by_cases h2 : k = 2
    · subst h2
      by_cases h3 : 0 < s
      · have Hv := Lib.hid (show blkI 2 s = (s - 1) / 512 + 1 by unfold blkI; rw [if_neg h1, if_pos ⟨rfl, h3⟩])
        go_enter Tryz.func158, Tryz.ntmps158
        go_wp2
        go_ret; exact ⟨by rw [Hv.out]; rfl, rfl⟩
      · have Hv := Lib.hid (show blkI 2 s = 0 by unfold blkI; rw [if_neg h1, if_neg (by omega)])
        go_enter Tryz.func158, Tryz.ntmps158
        go_wp2
        go_ret; exact ⟨by rw [Hv.out]; rfl, rfl⟩
    · have e2 : (k == 2) = false := by simpa using h2
      have Hv := Lib.hid (show blkI k s = 0 by unfold blkI; rw [if_neg h1, if_neg (by omega)])
      clear h1 h2
      go_enter Tryz.func158, Tryz.ntmps158
      go_wp2
      go_ret; exact ⟨by rw [Hv.out]; rfl, rfl⟩

set_option maxHeartbeats 400000 in
theorem rblocks_any (k s : Int) (hs : s ≤ 2000000) (w : World) :
    Calls Tryz.prog 152 #[.int .i64 k, .int .i64 s] w fun e w' => e = .returned (.int .i64 (blkI k s)) ∧ w = w' := by
  by_cases h1 : k = 1
  · have Hv := Lib.hid (show blkI k s = 1 by unfold blkI; rw [if_pos h1])
    subst h1
    go_enter Tryz.func152, Tryz.ntmps152
    go_wp2
    go_ret; exact ⟨by rw [Hv.out]; rfl, rfl⟩
  · have e1 : (k == 1) = false := by simpa using h1
    by_cases h2 : k = 2
    · subst h2
      clear h1
      go_enter Tryz.func152, Tryz.ntmps152
      go_wp2
      go_loop [5] (fun t => ∃ n : Int, 0 ≤ n ∧ n ≤ 4000 ∧ (n = 0 ∨ 512 * (n - 1) < s) ∧ t = .int .i64 n) (fun t => (4000 - intOf t).toNat)
      case atStart => exact ⟨0, by omega, by omega, .inl rfl, rfl⟩
      case round =>
        obtain ⟨n, hn0, hn1, hn2, rfl⟩ := hrel
        by_cases hc : 512 * n < s
        · go_wp2
          go_round
          case rel => exact ⟨n + 1, by omega, by omega, .inr (by omega), rfl⟩
          case measure => simp [intOf]; omega
        · have Hv := Lib.hid (show blkI 2 s = n by unfold blkI; rw [if_neg (by decide)]; split <;> omega)
          go_wp2
          go_ret; exact ⟨by rw [Hv.out]; rfl, rfl⟩
    · have e2 : (k == 2) = false := by simpa using h2
      have Hv := Lib.hid (show blkI k s = 0 by unfold blkI; rw [if_neg h1, if_neg (by omega)])
      clear h1 h2
      go_enter Tryz.func152, Tryz.ntmps152
      go_wp2
      refine wp_loop_rounds 1 ?_
      rw [rounds_succ]
      go_wp2
      go_ret; exact ⟨by rw [Hv.out]; rfl, rfl⟩
end Go.Proofs.YtaojpbgaengdpaaGreat
