/- Texts of the proof, part 3. -/
import Derived.Shelf.Strings.Search1
import Derived.Shelf.Strings.Search2
import Derived.Shelf.Strings.Search3
import Derived.Shelf.LaysM
import Derived.Shelf.Strings.Shaped
import Derived.Shelf.Strings.LastIndex
import Derived.Test.YtaojpbgaengdpaaProg
import Derived.Test.YtaojpbgaengdpaaST1
set_option linter.unusedVariables false
set_option linter.unusedSimpArgs false
/- Contracts of quota.Fine, ragpickerref12.Fine and quota.Take, over this program; no condition. -/
namespace Go.Proofs.Ytaojpbgaengdpaa

open Go.RowKit

def fineB (b n mb mn : Int) : Bool := decide (0 ≤ b ∧ 0 ≤ n ∧ b ≤ mb ∧ n ≤ mn ∧ mb ≤ 1073741824 ∧ mn ≤ 65536)

set_option maxHeartbeats 400000 in
theorem fine_any (b n mb mn : Int) (w : World) :
    Calls Try.prog 76 #[.agg #[.int .i64 b, .int .i64 n, .int .i64 mb, .int .i64 mn]] w fun e w' => e = .returned (.bool (fineB b n mb mn)) ∧ w.alloc (.cells #[.int .i64 b, .int .i64 n, .int .i64 mb, .int .i64 mn] 120) = w' := by
  unfold fineB
  go_enter Try.func76, Try.ntmps76
  go_wp2
  all_goals (go_ret; simp [*]; try omega)

/-- what Take answers. -/
def tkBad (b n mb mn x y : Int) : Bool := !fineB b n mb mn || decide (x < -1073741824) || decide (1073741824 < x) || decide (y < -1073741824) || decide (1073741824 < y)
def tkE (b n mb mn x y : Int) : Int := if tkBad b n mb mn x y then 1 else if mn < n + y then 15 else if mb < b + x then 14 else if fineB (b+x) (n+y) mb mn then 0 else 1
def tkB (b n mb mn x y : Int) : Int := if tkE b n mb mn x y = 0 then b + x else b
def tkN (b n mb mn x y : Int) : Int := if tkE b n mb mn x y = 0 then n + y else n
def tkV (b n mb mn x y : Int) : Value := .tuple #[.agg #[.int .i64 (tkB b n mb mn x y), .int .i64 (tkN b n mb mn x y), .int .i64 mb, .int .i64 mn], .int .i64 (tkE b n mb mn x y)]


theorem tkBad_eq (b n mb mn x y : Int) (hf : fineB b n mb mn = true) (h1 : -1073741824 ≤ x) (h2 : x ≤ 1073741824) (h3 : -1073741824 ≤ y) (h4 : y ≤ 1073741824) : tkBad b n mb mn x y = false := by
  unfold tkBad; simp [hf]; omega
theorem tkV_of (b n mb mn x y e : Int) (h : tkE b n mb mn x y = e) (he : e ≠ 0) : tkV b n mb mn x y = .tuple #[.agg #[.int .i64 b, .int .i64 n, .int .i64 mb, .int .i64 mn], .int .i64 e] := by
  unfold tkV tkB tkN; rw [h]; simp [he]
theorem tkV_ok (b n mb mn x y : Int) (h : tkE b n mb mn x y = 0) : tkV b n mb mn x y = .tuple #[.agg #[.int .i64 (b+x), .int .i64 (n+y), .int .i64 mb, .int .i64 mn], .int .i64 0] := by
  unfold tkV tkB tkN; rw [h]; simp

set_option maxHeartbeats 1000000 in
theorem take_any (b n mb mn x y : Int) (w : World) :
    Calls Try.prog 64 #[.agg #[.int .i64 b, .int .i64 n, .int .i64 mb, .int .i64 mn], .int .i64 x, .int .i64 y] w fun e w' => e = .returned (tkV b n mb mn x y) ∧ Below w.heap.size w w' := by
  by_cases hf : fineB b n mb mn = true
  · have hf' := hf
    unfold fineB at hf'
    simp only [decide_eq_true_eq] at hf'
    obtain ⟨f1, f2, f3, f4, f5, f6⟩ := hf'
    by_cases hx : x < -1073741824 ∨ 1073741824 < x ∨ y < -1073741824 ∨ 1073741824 < y
    · have hv := tkV_of b n mb mn x y 1 (by unfold tkE tkBad; rw [if_pos]; simp; omega) (by decide)
      have Hv := Lib.hid hv
      clear hv
      have hd : (decide (x < -1073741824) || decide (1073741824 < x) || decide (y < -1073741824) || decide (1073741824 < y)) = true := by simp; omega
      go_enter Try.func64, Try.ntmps64
      go_wp2_with (go_at_call 76; refine (fine_any _ _ _ _ _).mono ?_; rintro e w' ⟨rfl, rfl⟩)
      all_goals (first | (exfalso; omega) | (go_returns; exact ⟨by rw [Hv.out], by go_grown⟩))
    · obtain ⟨x1, x2, y1, y2⟩ : -1073741824 ≤ x ∧ x ≤ 1073741824 ∧ -1073741824 ≤ y ∧ y ≤ 1073741824 := by omega
      clear hx
      have Hb := Lib.hid (tkBad_eq b n mb mn x y hf x1 x2 y1 y2)
      by_cases g1 : mn < n + y
      · have Hv := Lib.hid (tkV_of b n mb mn x y 15 (by unfold tkE; rw [Hb.out]; simp [g1]) (by decide))
        go_enter Try.func64, Try.ntmps64
        go_wp2_with (go_at_call 76; refine (fine_any _ _ _ _ _).mono ?_; rintro e w' ⟨rfl, rfl⟩)
        go_returns; exact ⟨by rw [Hv.out], by go_grown⟩
      · by_cases g2 : mb < b + x
        · have Hv := Lib.hid (tkV_of b n mb mn x y 14 (by unfold tkE; rw [Hb.out]; simp [g1, g2]) (by decide))
          go_enter Try.func64, Try.ntmps64
          go_wp2_with (go_at_call 76; refine (fine_any _ _ _ _ _).mono ?_; rintro e w' ⟨rfl, rfl⟩)
          go_returns; exact ⟨by rw [Hv.out], by go_grown⟩
        · by_cases g3 : fineB (b+x) (n+y) mb mn = true
          · have Hv := Lib.hid (tkV_ok b n mb mn x y (by unfold tkE; rw [Hb.out]; simp [g1, g2, g3]))
            go_enter Try.func64, Try.ntmps64
            go_wp2_with (go_at_call 76; refine (fine_any _ _ _ _ _).mono ?_; rintro e w' ⟨rfl, rfl⟩)
            go_returns; exact ⟨by rw [Hv.out], by go_grown⟩
          · have Hv := Lib.hid (tkV_of b n mb mn x y 1 (by unfold tkE; rw [Hb.out]; simp [g1, g2, g3]) (by decide))
            simp only [Bool.not_eq_true] at g3
            go_enter Try.func64, Try.ntmps64
            go_wp2_with (go_at_call 76; refine (fine_any _ _ _ _ _).mono ?_; rintro e w' ⟨rfl, rfl⟩)
            go_returns; exact ⟨by rw [Hv.out], by go_grown⟩
  · simp only [Bool.not_eq_true] at hf
    have Hv := Lib.hid (tkV_of b n mb mn x y 1 (by unfold tkE tkBad; simp [hf]) (by decide))
    go_enter Try.func64, Try.ntmps64
    go_wp2_with (go_at_call 76; refine (fine_any _ _ _ _ _).mono ?_; rintro e w' ⟨rfl, rfl⟩)
    go_returns; exact ⟨by rw [Hv.out], by go_grown⟩
end Go.Proofs.Ytaojpbgaengdpaa

/- Contracts of ragpickerref12.Take, quota.New, quota.Blocks, ragpickerref12.Blocks and ragpickerref12.Limits, over this seat's program; no conditions but those written out. -/
namespace Go.Proofs.Ytaojpbgaengdpaa

open Go.RowKit

/-- may a mount have so much? -/
def limB (b n : Int) : Bool := decide (1 ≤ b ∧ b ≤ 1073741824 ∧ 1 ≤ n ∧ n ≤ 65536)
theorem lim_mk (b n : Int) (h1 : 1 ≤ b) (h2 : b ≤ 1073741824) (h3 : 1 ≤ n) (h4 : n ≤ 65536) : limB b n = true := by
  unfold limB; simp [h1, h2, h3, h4]
theorem lim_of {b n : Int} (h : limB b n = true) : 1 ≤ b ∧ b ≤ 1073741824 ∧ 1 ≤ n ∧ n ≤ 65536 := by
  unfold limB at h; simpa using h

set_option maxHeartbeats 400000 in
theorem new_yes (b n : Int) (h : limB b n = true) (w : World) :
    Calls Try.prog 63 #[.int .i64 b, .int .i64 n] w fun e w' => e = .returned (.tuple #[.agg #[.int .i64 0, .int .i64 0, .int .i64 b, .int .i64 n], .int .i64 0]) ∧ Below w.heap.size w w' := by
  obtain ⟨h1, h2, h3, h4⟩ := lim_of h
  clear h
  go_enter Try.func63, Try.ntmps63
  go_wp2
  go_returns; exact ⟨rfl, by go_grown⟩
set_option maxHeartbeats 400000 in
theorem new_no (b n : Int) (h : limB b n = false) (w : World) :
    Calls Try.prog 63 #[.int .i64 b, .int .i64 n] w fun e w' => e = .returned (.tuple #[.agg #[.int .i64 0, .int .i64 0, .int .i64 0, .int .i64 0], .int .i64 3]) ∧ Below w.heap.size w w' := by
  have hd : (decide (b < 1) || decide (1073741824 < b) || decide (n < 1) || decide (65536 < n)) = true := by
    unfold limB at h; simp at h ⊢; omega
  have hn : ¬ (1 ≤ b ∧ b ≤ 1073741824 ∧ 1 ≤ n ∧ n ≤ 65536) := by unfold limB at h; simpa using h
  clear h
  go_enter Try.func63, Try.ntmps63
  go_wp2
  all_goals (first | (exfalso; omega) | (go_returns; exact ⟨rfl, by go_grown⟩))

/-- how many blocks a node of a kind has. -/
def blkI (kind size : Int) : Int := if kind = 1 then 1 else if kind = 2 ∧ 0 < size then (size - 1) / 512 + 1 else 0
theorem blkI_bd (k s : Int) (h : s ≤ 9223372036854775807) : 0 ≤ blkI k s ∧ blkI k s ≤ 18014398509481984 := by unfold blkI; split <;> (try split) <;> omega

set_option maxHeartbeats 400000 in
theorem blocks_any (k s : Int) (hs : s ≤ 9223372036854775807) (w : World) :
    Calls Try.prog 85 #[.int .i64 k, .int .i64 s] w fun e w' => e = .returned (.int .i64 (blkI k s)) ∧ w = w' := by
  by_cases h1 : k = 1
  · have Hv := Lib.hid (show blkI k s = 1 by unfold blkI; rw [if_pos h1])
    subst h1
    go_enter Try.func85, Try.ntmps85
    go_wp2
    go_ret; exact ⟨by rw [Hv.out]; rfl, rfl⟩
  · have e1 : (k == 1) = false := by simpa using h1
    by_cases h2 : k = 2
    · subst h2
      by_cases h3 : 0 < s
      · have Hv := Lib.hid (show blkI 2 s = (s - 1) / 512 + 1 by unfold blkI; rw [if_neg h1, if_pos ⟨rfl, h3⟩])
        go_enter Try.func85, Try.ntmps85
        go_wp2
        go_ret; exact ⟨by rw [Hv.out]; rfl, rfl⟩
      · have Hv := Lib.hid (show blkI 2 s = 0 by unfold blkI; rw [if_neg h1, if_neg (by omega)])
        go_enter Try.func85, Try.ntmps85
        go_wp2
        go_ret; exact ⟨by rw [Hv.out]; rfl, rfl⟩
    · have e2 : (k == 2) = false := by simpa using h2
      have Hv := Lib.hid (show blkI k s = 0 by unfold blkI; rw [if_neg h1, if_neg (by omega)])
      clear h1 h2
      go_enter Try.func85, Try.ntmps85
      go_wp2
      go_ret; exact ⟨by rw [Hv.out]; rfl, rfl⟩

end Go.Proofs.Ytaojpbgaengdpaa

/- DERIVED: THE SHELF's CONTRACTS AT THIS DUMP, IN PLAIN WORDS (tools/lay-plain.mjs out of 'TryShelfA.lean', which tools/lay-shelf.mjs wrote): THE SAME DECLARATIONS UNDER THE SAME NAMES: 'import', 'namespace', 'open', 'def', 'theorem' AND NOTHING ELSE: no command of the shelf's: FOR A HAND-IN. Each laying: the table of numbers ('.._ren') and one theorem, a field a fact of the dump's own or the kernel's comparison; each contract: ONE APPLICATION. -/
namespace Go.Proofs
open Go.Shelf
def Try.lays143_ren : Go.Shelf.Ren := ⟨fun | 143 => 71 | 219 => 82 | 217 => 89 | 225 => 90 | 224 => 91 | 267 => 92 | 266 => 95 | 314 => 96 | n => n, fun | 9 => 9 | 3 => 3 | 4 => 4 | 5 => 5 | 46 => 145 | 146 => 152 | 51 => 151 | n => n, fun | 1 => 0 | n => n⟩
theorem Try.lays143 : Go.Proofs.Lays.n143 Try.prog Try.lays143_ren := {
  mixed := by kernel_rfl
  f143 := Try.func71.trans (congrArg some (by kernel_rfl))
  f217 := Try.func89.trans (congrArg some (by kernel_rfl))
  f219 := Try.func82.trans (congrArg some (by kernel_rfl))
  f224 := Try.func91.trans (congrArg some (by kernel_rfl))
  f225 := Try.func90.trans (congrArg some (by kernel_rfl))
  f266 := Try.func95.trans (congrArg some (by kernel_rfl))
  f267 := Try.func92.trans (congrArg some (by kernel_rfl))
  f314 := Try.func96.trans (congrArg some (by kernel_rfl))
  t3 := Try.underlying3
  a3 := Try.isAgg3
  z3 := Try.sizeOf3
  v3 := Try.zeroValue3
  t4 := Try.underlying4
  a4 := Try.isAgg4
  z4 := Try.sizeOf4
  v4 := Try.zeroValue4
  t5 := Try.underlying5
  a5 := Try.isAgg5
  z5 := Try.sizeOf5
  v5 := Try.zeroValue5
  t9 := Try.underlying9
  a9 := Try.isAgg9
  z9 := Try.sizeOf9
  v9 := Try.zeroValue9
  t46 := Try.underlying145
  a46 := Try.isAgg145
  z46 := Try.sizeOf145
  v46 := Try.zeroValue145
  t51 := Try.underlying151
  a51 := Try.isAgg151
  z51 := Try.sizeOf151
  v51 := Try.zeroValue151
  t146 := Try.underlying152
  a146 := Try.isAgg152
  z146 := Try.sizeOf152
  v146 := Try.zeroValue152
  g1 := by kernel_rfl }
open Go.RowKit Go.Lib in
/-- strings.Index: "Index returns the index of the first instance of substr in s, or -1 if substr is not present in s.": AT A substr OF ONE BYTE c: IT RETURNS 'Lib.indexByte s c'; the world is as it was. (LAID: no walk: one application.) -/
theorem Try.strings_Index_one (s : ByteArray) (c : UInt8) (w : World) :
    Calls Try.prog 71 #[.string s, .string ⟨#[c]⟩] w fun e w' => e = .returned (.int .i64 (Lib.indexByte s.data.toList c)) ∧ w' = w := Any.strings_Index_one Try.lays143 s c w
def Try.lays144_ren : Go.Shelf.Ren := ⟨fun | 144 => 56 | 143 => 71 | 219 => 82 | 217 => 89 | 225 => 90 | 224 => 91 | 267 => 92 | 266 => 95 | 314 => 96 | n => n, fun | 9 => 9 | 4 => 4 | 3 => 3 | 5 => 5 | 46 => 145 | 146 => 152 | 51 => 151 | n => n, fun | 1 => 0 | n => n⟩
theorem Try.lays144 : Go.Proofs.Lays.n144 Try.prog Try.lays144_ren := {
  mixed := by kernel_rfl
  f143 := Try.func71.trans (congrArg some (by kernel_rfl))
  f144 := Try.func56.trans (congrArg some (by kernel_rfl))
  f217 := Try.func89.trans (congrArg some (by kernel_rfl))
  f219 := Try.func82.trans (congrArg some (by kernel_rfl))
  f224 := Try.func91.trans (congrArg some (by kernel_rfl))
  f225 := Try.func90.trans (congrArg some (by kernel_rfl))
  f266 := Try.func95.trans (congrArg some (by kernel_rfl))
  f267 := Try.func92.trans (congrArg some (by kernel_rfl))
  f314 := Try.func96.trans (congrArg some (by kernel_rfl))
  t3 := Try.underlying3
  a3 := Try.isAgg3
  z3 := Try.sizeOf3
  v3 := Try.zeroValue3
  t4 := Try.underlying4
  a4 := Try.isAgg4
  z4 := Try.sizeOf4
  v4 := Try.zeroValue4
  t5 := Try.underlying5
  a5 := Try.isAgg5
  z5 := Try.sizeOf5
  v5 := Try.zeroValue5
  t9 := Try.underlying9
  a9 := Try.isAgg9
  z9 := Try.sizeOf9
  v9 := Try.zeroValue9
  t46 := Try.underlying145
  a46 := Try.isAgg145
  z46 := Try.sizeOf145
  v46 := Try.zeroValue145
  t51 := Try.underlying151
  a51 := Try.isAgg151
  z51 := Try.sizeOf151
  v51 := Try.zeroValue151
  t146 := Try.underlying152
  a146 := Try.isAgg152
  z146 := Try.sizeOf152
  v146 := Try.zeroValue152
  g1 := by kernel_rfl }
open Go.RowKit Go.Lib in
/-- strings.Contains: "Contains reports whether substr is within s.": AT A substr OF ONE BYTE c: IT RETURNS 'decide (0 ≤ Lib.indexByte s c)'; the world is as it was. (LAID: no walk: one application.) -/
theorem Try.strings_Contains_one (s : ByteArray) (c : UInt8) (w : World) :
    Calls Try.prog 56 #[.string s, .string ⟨#[c]⟩] w fun e w' => e = .returned (.bool (decide (0 ≤ Lib.indexByte s.data.toList c))) ∧ w' = w := Any.strings_Contains_one Try.lays144 s c w
def Try.lays149_ren : Go.Shelf.Ren := ⟨fun | 149 => 72 | 222 => 83 | n => n, fun | 9 => 9 | 5 => 5 | 3 => 3 | 4 => 4 | n => n, fun | n => n⟩
theorem Try.lays149 : Go.Proofs.Lays.n149 Try.prog Try.lays149_ren := {
  mixed := by kernel_rfl
  f149 := Try.func72.trans (congrArg some (by kernel_rfl))
  f222 := Try.func83.trans (congrArg some (by kernel_rfl))
  t3 := Try.underlying3
  a3 := Try.isAgg3
  z3 := Try.sizeOf3
  v3 := Try.zeroValue3
  t4 := Try.underlying4
  a4 := Try.isAgg4
  z4 := Try.sizeOf4
  v4 := Try.zeroValue4
  t5 := Try.underlying5
  a5 := Try.isAgg5
  z5 := Try.sizeOf5
  v5 := Try.zeroValue5
  t9 := Try.underlying9
  a9 := Try.isAgg9
  z9 := Try.sizeOf9
  v9 := Try.zeroValue9 }
open Go.RowKit Go.Lib in
/-- strings.LastIndexByte: "LastIndexByte returns the index of the last instance of c in s, or -1 if c is not present in s." (LAID: no walk: one application.) -/
theorem Try.strings_LastIndexByte (s : ByteArray) (c : Int) (hs : s.size < 4611686018427387904) (w : World) :
    Calls Try.prog 72 #[.string s, .int .u8 c] w fun e w' => e = .returned (.int .i64 (Lib.lastIndexByte s c)) ∧ w' = w := Any.strings_LastIndexByte Try.lays149 s c hs w
end Go.Proofs
