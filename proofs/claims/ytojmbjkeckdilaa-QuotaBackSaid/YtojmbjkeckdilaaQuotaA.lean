/- Contracts of quota.Fine, ragpickerref12.Fine and quota.Take, over this program; no condition. -/
import Derived.Test.YtojmbjkeckdilaaProg
import Derived.Test.YtojmbjkeckdilaaLib
namespace Go.Proofs.Ytojmbjkeckdilaa
open Go.RowKit

def fineB (b n mb mn : Int) : Bool := decide (0 ≤ b ∧ 0 ≤ n ∧ b ≤ mb ∧ n ≤ mn ∧ mb ≤ 1073741824 ∧ mn ≤ 65536)

set_option maxHeartbeats 400000 in
theorem fine_any (b n mb mn : Int) (w : World) :
    Calls Try.prog 21 #[.agg #[.int .i64 b, .int .i64 n, .int .i64 mb, .int .i64 mn]] w fun e w' => e = .returned (.bool (fineB b n mb mn)) ∧ w.alloc (.cells #[.int .i64 b, .int .i64 n, .int .i64 mb, .int .i64 mn] 33) = w' := by
  unfold fineB
  go_enter Try.func21, Try.ntmps21
  go_wp2
  all_goals (go_ret; simp [*]; try omega)

set_option maxHeartbeats 400000 in
theorem rfine_any (b n mb mn : Int) (w : World) :
    Calls Try.prog 22 #[.agg #[.int .i64 b, .int .i64 n, .int .i64 mb, .int .i64 mn]] w fun e w' => e = .returned (.bool (fineB b n mb mn)) ∧ w.alloc (.cells #[.int .i64 b, .int .i64 n, .int .i64 mb, .int .i64 mn] 33) = w' := by
  unfold fineB
  go_enter Try.func22, Try.ntmps22
  go_wp2
  all_goals (go_ret; simp [*]; try omega)

/-- what Take answers. -/
def tkBad (b n mb mn x y : Int) : Bool := !fineB b n mb mn || decide (x < -1073741824) || decide (1073741824 < x) || decide (y < -1073741824) || decide (1073741824 < y)
def tkE (b n mb mn x y : Int) : Int := if tkBad b n mb mn x y then 1 else if mn < n + y then 15 else if mb < b + x then 14 else if fineB (b+x) (n+y) mb mn then 0 else 1
def tkB (b n mb mn x y : Int) : Int := if tkE b n mb mn x y = 0 then b + x else b
def tkN (b n mb mn x y : Int) : Int := if tkE b n mb mn x y = 0 then n + y else n
def tkV (b n mb mn x y : Int) : Value := .tuple #[.agg #[.int .i64 (tkB b n mb mn x y), .int .i64 (tkN b n mb mn x y), .int .i64 mb, .int .i64 mn], .int .i64 (tkE b n mb mn x y)]


theorem tkBad_eq (b n mb mn x y : Int) (hf : fineB b n mb mn = true) (h1 : -1073741824 ≤ x) (h2 : x ≤ 1073741824) (h3 : -1073741824 ≤ y) (h4 : y ≤ 1073741824) : tkBad b n mb mn x y = false := by
  unfold tkBad; simp [hf]; omega
theorem tkV_of (b n mb mn x y e : Int) (h : tkE b n mb mn x y = e) (he : e ≠ 0) : tkV b n mb mn x y = .tuple #[.agg #[.int .i64 b, .int .i64 n, .int .i64 mb, .int .i64 mn], .int .i64 e] := by
  unfold tkV tkB tkN; rw [h]; simp [he]
theorem tkV_ok (b n mb mn x y : Int) (h : tkE b n mb mn x y = 0) : tkV b n mb mn x y = .tuple #[.agg #[.int .i64 (b+x), .int .i64 (n+y), .int .i64 mb, .int .i64 mn], .int .i64 0] := by
  unfold tkV tkB tkN; rw [h]; simp

set_option maxHeartbeats 1000000 in
theorem take_any (b n mb mn x y : Int) (w : World) :
    Calls Try.prog 15 #[.agg #[.int .i64 b, .int .i64 n, .int .i64 mb, .int .i64 mn], .int .i64 x, .int .i64 y] w fun e w' => e = .returned (tkV b n mb mn x y) ∧ Below w.heap.size w w' := by
  by_cases hf : fineB b n mb mn = true
  · have hf' := hf
    unfold fineB at hf'
    simp only [decide_eq_true_eq] at hf'
    obtain ⟨f1, f2, f3, f4, f5, f6⟩ := hf'
    by_cases hx : x < -1073741824 ∨ 1073741824 < x ∨ y < -1073741824 ∨ 1073741824 < y
    · have hv := tkV_of b n mb mn x y 1 (by unfold tkE tkBad; rw [if_pos]; simp; omega) (by decide)
      have Hv := Lib.hid hv
      clear hv
      have hd : (decide (x < -1073741824) || decide (1073741824 < x) || decide (y < -1073741824) || decide (1073741824 < y)) = true := by simp; omega
      go_enter Try.func15, Try.ntmps15
      go_wp2_with (go_at_call 21; refine (fine_any _ _ _ _ _).mono ?_; rintro e w' ⟨rfl, rfl⟩)
      all_goals (first | (exfalso; omega) | (go_returns; exact ⟨by rw [Hv.out], by go_grown⟩))
    · obtain ⟨x1, x2, y1, y2⟩ : -1073741824 ≤ x ∧ x ≤ 1073741824 ∧ -1073741824 ≤ y ∧ y ≤ 1073741824 := by omega
      clear hx
      have Hb := Lib.hid (tkBad_eq b n mb mn x y hf x1 x2 y1 y2)
      by_cases g1 : mn < n + y
      · have Hv := Lib.hid (tkV_of b n mb mn x y 15 (by unfold tkE; rw [Hb.out]; simp [g1]) (by decide))
        go_enter Try.func15, Try.ntmps15
        go_wp2_with (go_at_call 21; refine (fine_any _ _ _ _ _).mono ?_; rintro e w' ⟨rfl, rfl⟩)
        go_returns; exact ⟨by rw [Hv.out], by go_grown⟩
      · by_cases g2 : mb < b + x
        · have Hv := Lib.hid (tkV_of b n mb mn x y 14 (by unfold tkE; rw [Hb.out]; simp [g1, g2]) (by decide))
          go_enter Try.func15, Try.ntmps15
          go_wp2_with (go_at_call 21; refine (fine_any _ _ _ _ _).mono ?_; rintro e w' ⟨rfl, rfl⟩)
          go_returns; exact ⟨by rw [Hv.out], by go_grown⟩
        · by_cases g3 : fineB (b+x) (n+y) mb mn = true
          · have Hv := Lib.hid (tkV_ok b n mb mn x y (by unfold tkE; rw [Hb.out]; simp [g1, g2, g3]))
            go_enter Try.func15, Try.ntmps15
            go_wp2_with (go_at_call 21; refine (fine_any _ _ _ _ _).mono ?_; rintro e w' ⟨rfl, rfl⟩)
            go_returns; exact ⟨by rw [Hv.out], by go_grown⟩
          · have Hv := Lib.hid (tkV_of b n mb mn x y 1 (by unfold tkE; rw [Hb.out]; simp [g1, g2, g3]) (by decide))
            simp only [Bool.not_eq_true] at g3
            go_enter Try.func15, Try.ntmps15
            go_wp2_with (go_at_call 21; refine (fine_any _ _ _ _ _).mono ?_; rintro e w' ⟨rfl, rfl⟩)
            go_returns; exact ⟨by rw [Hv.out], by go_grown⟩
  · simp only [Bool.not_eq_true] at hf
    have Hv := Lib.hid (tkV_of b n mb mn x y 1 (by unfold tkE tkBad; simp [hf]) (by decide))
    go_enter Try.func15, Try.ntmps15
    go_wp2_with (go_at_call 21; refine (fine_any _ _ _ _ _).mono ?_; rintro e w' ⟨rfl, rfl⟩)
    go_returns; exact ⟨by rw [Hv.out], by go_grown⟩
end Go.Proofs.Ytojmbjkeckdilaa
