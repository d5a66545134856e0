/- Texts of the proof, part 4. -/
import Derived.Shelf.Strings.Builder2
import Derived.Shelf.Strings.OnBuilder
import Derived.Shelf.Strings.Builder1
import Derived.Shelf.Strings.Trim
import Derived.Shelf.Small.Utf8
import Derived.Shelf.Small.Strs
import Derived.Shelf.Small.Wraps
import Derived.Shelf.Strings.BuilderF
import Derived.Shelf.Strings.BuilderK
import Derived.Shelf.Strings.Search1
import Derived.Shelf.Strings.Search2
import Derived.Shelf.Strings.Search3
import Derived.Shelf.Strings.Count
import Derived.Shelf.LaysM
import Derived.Shelf.Strings.Shaped
import Derived.Shelf.Strings.LastIndex
import Derived.Shelf.Strings.Prefix
import Derived.Shelf.Strings.Split
import Derived.Shelf.Strings.SplitShaped
import Derived.Shelf.Unicode.Decode
import Derived.Shelf.Strings.Runes
import Derived.Shelf.Strings.AsciiSet
import Derived.Shelf.Unicode.DecodeSlow
import Derived.Shelf.Unicode.DecodeAny
import Derived.Shelf.Unicode.DecodeLast
import Derived.Shelf.Strings.BuilderCap
import Derived.Ground.PaProg
import Derived.Shelf.Path.Small
import Derived.Laws.BitsAllLaws
import Derived.StillTailTactics
import Derived.Lib.LastIndexByte
import Derived.Test.YtkkiglagdojnlaaGreatDoorEP3
import Derived.Test.YtkkiglagdojnlaaGreatDoorProg
import Derived.Test.YtkkiglagdojnlaaGreatDoorEP1
import Derived.Test.YtkkiglagdojnlaaGreatDoorEP2
set_option linter.unusedVariables false
set_option linter.unusedSimpArgs false
/- Contracts of ragpickerref12.Take, quota.New, quota.Blocks, ragpickerref12.Blocks and ragpickerref12.Limits, over this seat's program; no conditions but those written out. -/
namespace Go.Proofs.YtkkiglagdojnlaaGreatDoor

open Go.RowKit

set_option maxHeartbeats 1000000 in
theorem rtake_any (b n mb mn x y : Int) (w : World) :
    Calls Tryz.prog 277 #[.agg #[.int .i64 b, .int .i64 n, .int .i64 mb, .int .i64 mn], .int .i64 x, .int .i64 y] w fun e w' => e = .returned (tkV b n mb mn x y) ∧ Below w.heap.size w w' := by
  by_cases hf : fineB b n mb mn = true
  · have hf' := hf
    unfold fineB at hf'
    simp only [decide_eq_true_eq] at hf'
    obtain ⟨f1, f2, f3, f4, f5, f6⟩ := hf'
    by_cases hx : x < -1073741824 ∨ 1073741824 < x ∨ y < -1073741824 ∨ 1073741824 < y
    · have hv := tkV_of b n mb mn x y 1 (by unfold tkE tkBad; rw [if_pos]; simp; omega) (by decide)
      have Hv := Lib.hid hv
      clear hv
      have hd : (decide (1073741824 < x) || decide (x < -1073741824) || decide (1073741824 < y) || decide (y < -1073741824)) = true := by simp; omega
      go_enter Tryz.func277, Tryz.ntmps277
      go_wp2_with (go_at_call 286; refine (rfine_any _ _ _ _ _).mono ?_; rintro e w' ⟨rfl, rfl⟩)
      all_goals (first | (exfalso; omega) | (go_returns; exact ⟨by rw [Hv.out], by go_grown⟩))
    · obtain ⟨x1, x2, y1, y2⟩ : -1073741824 ≤ x ∧ x ≤ 1073741824 ∧ -1073741824 ≤ y ∧ y ≤ 1073741824 := by omega
      clear hx
      have Hb := Lib.hid (tkBad_eq b n mb mn x y hf x1 x2 y1 y2)
      by_cases g1 : mn < n + y
      · have Hv := Lib.hid (tkV_of b n mb mn x y 15 (by unfold tkE; rw [Hb.out]; simp [g1]) (by decide))
        go_enter Tryz.func277, Tryz.ntmps277
        go_wp2_with (go_at_call 286; refine (rfine_any _ _ _ _ _).mono ?_; rintro e w' ⟨rfl, rfl⟩)
        go_returns; exact ⟨by rw [Hv.out], by go_grown⟩
      · by_cases g2 : mb < b + x
        · have Hv := Lib.hid (tkV_of b n mb mn x y 14 (by unfold tkE; rw [Hb.out]; simp [g1, g2]) (by decide))
          go_enter Tryz.func277, Tryz.ntmps277
          go_wp2_with (go_at_call 286; refine (rfine_any _ _ _ _ _).mono ?_; rintro e w' ⟨rfl, rfl⟩)
          go_returns; exact ⟨by rw [Hv.out], by go_grown⟩
        · by_cases g3 : fineB (b+x) (n+y) mb mn = true
          · have Hv := Lib.hid (tkV_ok b n mb mn x y (by unfold tkE; rw [Hb.out]; simp [g1, g2, g3]))
            have g3' := g3
            unfold fineB at g3'
            simp only [decide_eq_true_eq] at g3'
            obtain ⟨k1, k2, -⟩ := g3'
            go_enter Tryz.func277, Tryz.ntmps277
            go_wp2_with (go_at_call 286; refine (rfine_any _ _ _ _ _).mono ?_; rintro e w' ⟨rfl, rfl⟩)
            go_returns; exact ⟨by rw [Hv.out], by go_grown⟩
          · have Hv := Lib.hid (tkV_of b n mb mn x y 1 (by unfold tkE; rw [Hb.out]; simp [g1, g2, g3]) (by decide))
            have k : n + y < 0 ∨ b + x < 0 := by
              unfold fineB at g3
              simp only [decide_eq_true_eq] at g3
              omega
            clear g3
            by_cases k1 : n + y < 0
            · clear k
              go_enter Tryz.func277, Tryz.ntmps277
              go_wp2_with (go_at_call 286; refine (rfine_any _ _ _ _ _).mono ?_; rintro e w' ⟨rfl, rfl⟩)
              go_returns; exact ⟨by rw [Hv.out], by go_grown⟩
            · have k2 : b + x < 0 := by omega
              clear k
              go_enter Tryz.func277, Tryz.ntmps277
              go_wp2_with (go_at_call 286; refine (rfine_any _ _ _ _ _).mono ?_; rintro e w' ⟨rfl, rfl⟩)
              go_returns; exact ⟨by rw [Hv.out], by go_grown⟩
  · simp only [Bool.not_eq_true] at hf
    have Hv := Lib.hid (tkV_of b n mb mn x y 1 (by unfold tkE tkBad; simp [hf]) (by decide))
    go_enter Tryz.func277, Tryz.ntmps277
    go_wp2_with (go_at_call 286; refine (rfine_any _ _ _ _ _).mono ?_; rintro e w' ⟨rfl, rfl⟩)
    go_returns; exact ⟨by rw [Hv.out], by go_grown⟩

/-- may a mount have so much? -/
def limB (b n : Int) : Bool := decide (1 ≤ b ∧ b ≤ 1073741824 ∧ 1 ≤ n ∧ n ≤ 65536)
theorem lim_mk (b n : Int) (h1 : 1 ≤ b) (h2 : b ≤ 1073741824) (h3 : 1 ≤ n) (h4 : n ≤ 65536) : limB b n = true := by
  unfold limB; simp [h1, h2, h3, h4]
theorem lim_of {b n : Int} (h : limB b n = true) : 1 ≤ b ∧ b ≤ 1073741824 ∧ 1 ≤ n ∧ n ≤ 65536 := by
  unfold limB at h; simpa using h

set_option maxHeartbeats 400000 in
theorem new_yes (b n : Int) (h : limB b n = true) (w : World) :
    Calls Tryz.prog 212 #[.int .i64 b, .int .i64 n] w fun e w' => e = .returned (.tuple #[.agg #[.int .i64 0, .int .i64 0, .int .i64 b, .int .i64 n], .int .i64 0]) ∧ Below w.heap.size w w' := by
  obtain ⟨h1, h2, h3, h4⟩ := lim_of h
  clear h
  go_enter Tryz.func212, Tryz.ntmps212
  go_wp2
  go_returns; exact ⟨rfl, by go_grown⟩
set_option maxHeartbeats 400000 in
theorem new_no (b n : Int) (h : limB b n = false) (w : World) :
    Calls Tryz.prog 212 #[.int .i64 b, .int .i64 n] w fun e w' => e = .returned (.tuple #[.agg #[.int .i64 0, .int .i64 0, .int .i64 0, .int .i64 0], .int .i64 3]) ∧ Below w.heap.size w w' := by
  have hd : (decide (b < 1) || decide (1073741824 < b) || decide (n < 1) || decide (65536 < n)) = true := by
    unfold limB at h; simp at h ⊢; omega
  have hn : ¬ (1 ≤ b ∧ b ≤ 1073741824 ∧ 1 ≤ n ∧ n ≤ 65536) := by unfold limB at h; simpa using h
  clear h
  go_enter Tryz.func212, Tryz.ntmps212
  go_wp2
  all_goals (first | (exfalso; omega) | (go_returns; exact ⟨rfl, by go_grown⟩))

/-- how many blocks a node of a kind has. -/
def blkI (kind size : Int) : Int := if kind = 1 then 1 else if kind = 2 ∧ 0 < size then (size - 1) / 512 + 1 else 0
set_option maxHeartbeats 400000 in
theorem blocks_any (k s : Int) (hs : s ≤ 9223372036854775807) (w : World) :
    Calls Tryz.prog 204 #[.int .i64 k, .int .i64 s] w fun e w' => e = .returned (.int .i64 (blkI k s)) ∧ w = w' := by
  by_cases h1 : k = 1
  · have Hv := Lib.hid (show blkI k s = 1 by unfold blkI; rw [if_pos h1])
    subst h1
    go_enter Tryz.func204, Tryz.ntmps204
    go_wp2
    go_ret; exact ⟨by rw [Hv.out]; rfl, rfl⟩
  · have e1 : (k == 1) = false := by simpa using h1
    by_cases h2 : k = 2
    · subst h2
      by_cases h3 : 0 < s
      · have Hv := Lib.hid (show blkI 2 s = (s - 1) / 512 + 1 by unfold blkI; rw [if_neg h1, if_pos ⟨rfl, h3⟩])
        go_enter Tryz.func204, Tryz.ntmps204
        go_wp2
        go_ret; exact ⟨by rw [Hv.out]; rfl, rfl⟩
      · have Hv := Lib.hid (show blkI 2 s = 0 by unfold blkI; rw [if_neg h1, if_neg (by omega)])
        go_enter Tryz.func204, Tryz.ntmps204
        go_wp2
        go_ret; exact ⟨by rw [Hv.out]; rfl, rfl⟩
    · have e2 : (k == 2) = false := by simpa using h2
      have Hv := Lib.hid (show blkI k s = 0 by unfold blkI; rw [if_neg h1, if_neg (by omega)])
      clear h1 h2
      go_enter Tryz.func204, Tryz.ntmps204
      go_wp2
      go_ret; exact ⟨by rw [Hv.out]; rfl, rfl⟩

end Go.Proofs.YtkkiglagdojnlaaGreatDoor

/- DERIVED: THE SHELF's CONTRACTS AT THIS DUMP, IN PLAIN WORDS (tools/lay-plain.mjs out of 'TryzShelfA.lean', which tools/lay-shelf.mjs wrote): THE SAME DECLARATIONS UNDER THE SAME NAMES: 'import', 'namespace', 'open', 'def', 'theorem' AND NOTHING ELSE: no command of the shelf's: FOR A HAND-IN. Each laying: the table of numbers ('.._ren') and one theorem, a field a fact of the dump's own or the kernel's comparison; each contract: ONE APPLICATION. -/
namespace Go.Proofs
open Go.Shelf
def Tryz.lays170_ren : Go.Shelf.Ren := ⟨fun | 170 => 190 | n => n, fun | 70 => 175 | 3 => 3 | 0 => 0 | 72 => 178 | 37 => 176 | 5 => 5 | n => n, fun | n => n⟩
def Tryz.lays169_ren : Go.Shelf.Ren := ⟨fun | 169 => 96 | n => n, fun | 70 => 175 | 9 => 9 | 0 => 0 | 72 => 178 | 37 => 176 | 127 => 259 | 3 => 3 | 5 => 5 | n => n, fun | n => n⟩
def Tryz.lays143_ren : Go.Shelf.Ren := ⟨fun | 143 => 175 | 219 => 218 | 217 => 252 | 225 => 258 | 224 => 259 | 267 => 260 | 266 => 271 | 314 => 275 | n => n, fun | 9 => 9 | 3 => 3 | 4 => 4 | 5 => 5 | 46 => 48 | 146 => 350 | 51 => 349 | n => n, fun | 1 => 0 | n => n⟩
def Tryz.lays144_ren : Go.Shelf.Ren := ⟨fun | 144 => 120 | 143 => 175 | 219 => 218 | 217 => 252 | 225 => 258 | 224 => 259 | 267 => 260 | 266 => 271 | 314 => 275 | n => n, fun | 9 => 9 | 4 => 4 | 3 => 3 | 5 => 5 | 46 => 48 | 146 => 350 | 51 => 349 | n => n, fun | 1 => 0 | n => n⟩
theorem Tryz.lays144 : Go.Proofs.Lays.n144 Tryz.prog Tryz.lays144_ren := {
  mixed := by kernel_rfl
  f143 := Tryz.func175.trans (congrArg some (by kernel_rfl))
  f144 := Tryz.func120.trans (congrArg some (by kernel_rfl))
  f217 := Tryz.func252.trans (congrArg some (by kernel_rfl))
  f219 := Tryz.func218.trans (congrArg some (by kernel_rfl))
  f224 := Tryz.func259.trans (congrArg some (by kernel_rfl))
  f225 := Tryz.func258.trans (congrArg some (by kernel_rfl))
  f266 := Tryz.func271.trans (congrArg some (by kernel_rfl))
  f267 := Tryz.func260.trans (congrArg some (by kernel_rfl))
  f314 := Tryz.func275.trans (congrArg some (by kernel_rfl))
  t3 := Tryz.underlying3
  a3 := Tryz.isAgg3
  z3 := Tryz.sizeOf3
  v3 := Tryz.zeroValue3
  t4 := Tryz.underlying4
  a4 := Tryz.isAgg4
  z4 := Tryz.sizeOf4
  v4 := Tryz.zeroValue4
  t5 := Tryz.underlying5
  a5 := Tryz.isAgg5
  z5 := Tryz.sizeOf5
  v5 := Tryz.zeroValue5
  t9 := Tryz.underlying9
  a9 := Tryz.isAgg9
  z9 := Tryz.sizeOf9
  v9 := Tryz.zeroValue9
  t46 := Tryz.underlying48
  a46 := Tryz.isAgg48
  z46 := Tryz.sizeOf48
  v46 := Tryz.zeroValue48
  t51 := Tryz.underlying349
  a51 := Tryz.isAgg349
  z51 := Tryz.sizeOf349
  v51 := Tryz.zeroValue349
  t146 := Tryz.underlying350
  a146 := Tryz.isAgg350
  z146 := Tryz.sizeOf350
  v146 := Tryz.zeroValue350
  g1 := by kernel_rfl }
open Go.RowKit Go.Lib in
/-- strings.Contains: "Contains reports whether substr is within s.": AT A substr OF ONE BYTE c: IT RETURNS 'decide (0 ≤ Lib.indexByte s c)'; the world is as it was. (LAID: no walk: one application.) -/
theorem Tryz.strings_Contains_one (s : ByteArray) (c : UInt8) (w : World) :
    Calls Tryz.prog 120 #[.string s, .string ⟨#[c]⟩] w fun e w' => e = .returned (.bool (decide (0 ≤ Lib.indexByte s.data.toList c))) ∧ w' = w := Any.strings_Contains_one Tryz.lays144 s c w
def Tryz.lays149_ren : Go.Shelf.Ren := ⟨fun | 149 => 119 | 222 => 174 | n => n, fun | 9 => 9 | 5 => 5 | 3 => 3 | 4 => 4 | n => n, fun | n => n⟩
theorem Tryz.lays149 : Go.Proofs.Lays.n149 Tryz.prog Tryz.lays149_ren := {
  mixed := by kernel_rfl
  f149 := Tryz.func119.trans (congrArg some (by kernel_rfl))
  f222 := Tryz.func174.trans (congrArg some (by kernel_rfl))
  t3 := Tryz.underlying3
  a3 := Tryz.isAgg3
  z3 := Tryz.sizeOf3
  v3 := Tryz.zeroValue3
  t4 := Tryz.underlying4
  a4 := Tryz.isAgg4
  z4 := Tryz.sizeOf4
  v4 := Tryz.zeroValue4
  t5 := Tryz.underlying5
  a5 := Tryz.isAgg5
  z5 := Tryz.sizeOf5
  v5 := Tryz.zeroValue5
  t9 := Tryz.underlying9
  a9 := Tryz.isAgg9
  z9 := Tryz.sizeOf9
  v9 := Tryz.zeroValue9 }
open Go.RowKit Go.Lib in
/-- strings.LastIndexByte: "LastIndexByte returns the index of the last instance of c in s, or -1 if c is not present in s." (LAID: no walk: one application.) -/
theorem Tryz.strings_LastIndexByte (s : ByteArray) (c : Int) (hs : s.size < 4611686018427387904) (w : World) :
    Calls Tryz.prog 119 #[.string s, .int .u8 c] w fun e w' => e = .returned (.int .i64 (Lib.lastIndexByte s c)) ∧ w' = w := Any.strings_LastIndexByte Tryz.lays149 s c hs w
def Tryz.lays166_ren : Go.Shelf.Ren := ⟨fun | 166 => 93 | 240 => 152 | 276 => 208 | n => n, fun | 0 => 0 | 3 => 3 | 4 => 4 | 5 => 5 | 9 => 9 | 20 => 20 | 37 => 176 | 70 => 175 | 72 => 178 | 75 => 181 | 80 => 184 | 164 => 311 | n => n, fun n => n⟩
end Go.Proofs

/- Digits of a number, to a base; decimals; names that are tried (layer 9): plain facts. No program in sight. -/
namespace Go.Proofs.YtkkiglagdojnlaaGreatDoor

def str (l : List UInt8) : ByteArray := ⟨l.toArray⟩
theorem str_size (l : List UInt8) : (str l).size = l.length := by simp [str, ByteArray.size]
theorem str_of (s : ByteArray) : str s.data.toList = s := by
  unfold str
  cases s
  simp

def digF : Nat → Nat → Nat → List UInt8
  | 0, _, _ => []
  | f + 1, b, n => if n < b then [UInt8.ofNat (48 + n)] else digF f b (n / b) ++ [UInt8.ofNat (48 + n % b)]
/-- the digits of n to the base b. -/
def dig (b n : Nat) : List UInt8 := digF (n + 1) b n

/-- the number that digits tell. -/
def valD (b : Nat) (l : List UInt8) : Nat := l.foldl (fun a c => a * b + (c.toNat - 48)) 0
/-- a number as digits, with a minus ahead below 0. -/
def decL (n : Int) : List UInt8 := if n < 0 then 45 :: dig 10 n.natAbs else dig 10 n.toNat
theorem ba_ext {a b : ByteArray} (h : a.toList = b.toList) : a = b := by
  rw [ByteArray.toList_eq, ByteArray.toList_eq] at h
  cases a; cases b
  simp at h
  subst h; rfl
end Go.Proofs.YtkkiglagdojnlaaGreatDoor

/- Percent signs (layer 4), bytes: plain and digit, of the program and of the reference. -/
namespace Go.Proofs.YtkkiglagdojnlaaGreatDoor

open Go.RowKit

/-- does a byte stand for itself? -/
def plB (c : UInt8) : Bool := (97 ≤ c && c ≤ 122) || (65 ≤ c && c ≤ 90) || (48 ≤ c && c ≤ 57) || c == 45 || c == 46 || c == 95 || c == 126 || c == 47
/-- a digit's number to the base 16; -1: it is none. -/
def hexV (c : UInt8) : Int := if 48 ≤ c ∧ c ≤ 57 then c.toNat - 48 else if 97 ≤ c ∧ c ≤ 102 then c.toNat - 87 else if 65 ≤ c ∧ c ≤ 70 then c.toNat - 55 else -1

theorem u8_eq (a b : UInt8) : a = b ↔ a.toNat = b.toNat := UInt8.toNat_inj.symm

theorem ret_bool {a b : Bool} (h : a = b) : Ending.returned (.bool a) = .returned (.bool b) := by rw [h]
theorem idx_pos (c : UInt8) : ∀ (l : List UInt8), 0 ≤ Lib.indexByte l c ↔ c ∈ l
  | [] => by simp [Lib.indexByte]
  | b :: l => by
    have ih := idx_pos c l
    have hg := Lib.indexByte_ge l c
    unfold Lib.indexByte
    by_cases h : b = c
    · subst h; simp
    · have h1 : (b == c) = false := by simpa using h
      have h2 : ¬ c = b := fun e => h e.symm
      rw [h1]
      by_cases hm : Lib.indexByte l c = -1
      · have : ¬ c ∈ l := by rw [← ih, hm]; omega
        simp [hm, h2, this]
      · have hm1 : (Lib.indexByte l c == -1) = false := by simpa using hm
        rw [hm1]
        have : c ∈ l := by rw [← ih]; omega
        simp [this]
        omega

end Go.Proofs.YtkkiglagdojnlaaGreatDoor

/- Percent signs: Encode, of the program (a Builder) and of the reference. -/
namespace Go.Proofs.YtkkiglagdojnlaaGreatDoor

open Go.RowKit

def hexU (k : Nat) : UInt8 := UInt8.ofNat (if k < 10 then 48 + k else 55 + k)
def encB (c : UInt8) : List UInt8 := if plB c then [c] else [37, hexU (c.toNat / 16), hexU (c.toNat % 16)]
/-- a text with percent signs. -/
def encL (l : List UInt8) : List UInt8 := l.flatMap encB
/-- block b is a builder that holds l; its rows lie behind it. -/
def Bld (b : Nat) (l : List UInt8) (w : World) : Prop := Lib.IsBuilder 178 5 b b (Lib.byteCells l) w
end Go.Proofs.YtkkiglagdojnlaaGreatDoor

/- Percent signs: Encode of the reference. -/
namespace Go.Proofs.YtkkiglagdojnlaaGreatDoor

open Go.RowKit

end Go.Proofs.YtkkiglagdojnlaaGreatDoor

/- A text parted at a byte, piece by piece: ragpickerref02.Pieces. -/
namespace Go.Proofs.YtkkiglagdojnlaaGreatDoor

open Go.RowKit

theorem snoc_ind {α : Type} {P : List α → Prop} (h0 : P []) (h1 : ∀ l x, P l → P (l ++ [x])) (l : List α) : P l := by
  have key : ∀ r : List α, P r.reverse := by
    intro r
    induction r with
    | nil => exact h0
    | cons x r ih => rw [List.reverse_cons]; exact h1 _ _ ih
  have := key l.reverse
  rwa [List.reverse_reverse] at this

def splStep (c : UInt8) (acc : List (List UInt8)) (x : UInt8) : List (List UInt8) := if x = c then acc ++ [[]] else acc.set (acc.length - 1) (acc.getD (acc.length - 1) [] ++ [x])
/-- what stands between the bytes c. -/
def spl (c : UInt8) (l : List UInt8) : List (List UInt8) := l.foldl (splStep c) [[]]
theorem spl_snoc (c : UInt8) (l : List UInt8) (x : UInt8) : spl c (l ++ [x]) = splStep c (spl c l) x := by simp [spl]
theorem spl_len (c : UInt8) (l : List UInt8) : 0 < (spl c l).length ∧ (spl c l).length ≤ l.length + 1 := by
  refine snoc_ind (P := fun l => 0 < (spl c l).length ∧ (spl c l).length ≤ l.length + 1) (by simp [spl]) (fun l x ih => ?_) l
  rw [spl_snoc, List.length_append]
  unfold splStep
  split
  · simp; omega
  · simp; omega
theorem spl_size (c : UInt8) (l : List UInt8) : ∀ p ∈ spl c l, p.length ≤ l.length := by
  refine snoc_ind (P := fun l => ∀ p ∈ spl c l, p.length ≤ l.length) (by simp [spl]) (fun l x ih => ?_) l
  · intro p hp
    rw [spl_snoc] at hp
    unfold splStep at hp
    rw [List.length_append, List.length_singleton]
    split at hp
    · rcases List.mem_append.1 hp with h | h
      · have := ih p h; omega
      · simp at h; subst h; simp
    · rcases List.mem_or_eq_of_mem_set hp with h | rfl
      · have := ih p h; omega
      · rw [List.length_append, List.length_singleton]
        have hl := (spl_len c l).1
        rw [List.getD_eq_getElem?_getD, List.getElem?_eq_getElem (by omega)]
        have := ih _ (List.getElem_mem (l := spl c l) (n := (spl c l).length - 1) (by omega))
        simp only [Option.getD_some]; omega

/-- a text, as one cell. -/
def encS (l : List UInt8) : List Value := [.string (str l)]
theorem encS_len (l : List UInt8) : (encS l).length = 1 := rfl
/-- texts of the call's own. -/
def OS (w : World) (base : Nat) (v : Value) (ls : List (List UInt8)) : Prop := w.ownsRow base 9 1 v ls.length (ls.flatMap encS)
theorem str_info : (Tryz.prog.info? 9).map (fun i => (i.zero, i.size, i.bytes)) = some (some (.string ByteArray.empty), 1, 16) := by kernel_rfl
theorem own_frozen {w : World} {base g cap n sz : Nat} {e : TypeId} {xs : List Value} (h : w.ownsRow base e sz (.slice (some ⟨g, 0, none⟩) n cap) n xs) : (∀ i, w.frozen? ⟨g, i, none⟩ = false) ∧ base ≤ g ∧ g < w.heap.size := by
  rcases h.2 with ⟨hv, -⟩ | ⟨g', cap', cur, hv, hb, hg, -⟩
  · cases hv
  · injection hv with hv
    injection hv with hv
    injection hv with hv
    subst hv
    exact ⟨Blk.frozen (w := w) (vs := cur) hg, hb, (Array.getElem?_eq_some_iff.1 hg).1⟩

end Go.Proofs.YtkkiglagdojnlaaGreatDoor

/- Paths (layer 2): the last part, and whether a text may be a path: of the program and of the reference. -/
namespace Go.Proofs.YtkkiglagdojnlaaGreatDoor

open Go.RowKit

/-- what stands behind the last slash. -/
def segL (l : List UInt8) : List UInt8 := (l.reverse.takeWhile (· != 47)).reverse
/-- without the slashes at its end. -/
def trimL (l : List UInt8) : List UInt8 := (l.reverse.dropWhile (· == 47)).reverse
/-- the last part; nothing, if it is a point or two. -/
def lastL (l : List UInt8) : List UInt8 := if segL (trimL l) = [46] ∨ segL (trimL l) = [46, 46] then [] else segL (trimL l)
def pathE (s : ByteArray) : Int := if s.data.toList = [] then 5 else if s.data.toList.head? ≠ some 47 ∨ (0 : UInt8) ∈ s.data.toList then 1 else if 4096 < s.size then 13 else 0
def pathB (s : ByteArray) : Bool := pathE s == 0 && lastL s.data.toList != []

theorem segL_snoc (l : List UInt8) (x : UInt8) : segL (l ++ [x]) = if x = 47 then [] else segL l ++ [x] := by
  unfold segL
  rw [List.reverse_append, List.reverse_singleton, List.singleton_append, List.takeWhile_cons]
  by_cases h : x = 47
  · subst h; simp
  · have : (x != 47) = true := by simpa using h
    rw [this, if_neg h]
    simp
/-- is a byte in a text? -/
def hasB (s : ByteArray) (c : UInt8) : Bool := decide (c ∈ s.data.toList)

theorem segL_app (a b : List UInt8) (hb : ∀ x ∈ b, x ≠ 47) : segL (a ++ b) = segL a ++ b := by
  revert hb
  refine snoc_ind (P := fun b => (∀ x ∈ b, x ≠ 47) → segL (a ++ b) = segL a ++ b) (by simp) (fun b x ih hb => ?_) b
  rw [← List.append_assoc, segL_snoc, if_neg (hb x (by simp)), ih (fun y hy => hb y (List.mem_append_left _ hy)), List.append_assoc]
theorem seg_idx (s : ByteArray) : ∃ i : Nat, Lib.lastIndexByte s 47 = (i : Int) - 1 ∧ i ≤ s.size ∧ s.data.toList.drop i = segL s.data.toList := by
  have hg : ∀ j (h : j < s.size), s.data[j]! = s.data.toList[j]'(by simpa using h) := fun j h => by
    rw [getElem!_pos s.data j h]; rfl
  rcases Lib.lastIdx_spec s 47 s.size with ⟨h1, h2⟩ | ⟨i, hi, h1, h2, h3⟩
  · refine ⟨0, by unfold Lib.lastIndexByte; rw [h1]; rfl, Nat.zero_le _, ?_⟩
    have hb : ∀ x ∈ s.data.toList, x ≠ 47 := by
      intro x hx
      obtain ⟨j, hj, rfl⟩ := List.getElem_of_mem hx
      have hj' : j < s.size := by simpa using hj
      have := h2 j hj'
      rw [hg j hj'] at this
      intro e
      rw [e] at this
      exact this rfl
    have := segL_app [] s.data.toList hb
    rw [List.nil_append] at this
    rw [this]
    rfl
  · refine ⟨i + 1, by unfold Lib.lastIndexByte; rw [h1]; omega, hi, ?_⟩
    have hi' : i < s.data.toList.length := by simpa using hi
    have hb : ∀ x ∈ s.data.toList.drop (i + 1), x ≠ 47 := by
      intro x hx
      obtain ⟨j, hj, rfl⟩ := List.getElem_of_mem hx
      rw [List.length_drop] at hj
      have hj' : i + 1 + j < s.size := by
        have : s.data.toList.length = s.size := Array.length_toList
        omega
      have := h3 (i + 1 + j) (by omega) hj'
      rw [hg _ hj'] at this
      intro e
      rw [List.getElem_drop] at e
      rw [e] at this
      exact this rfl
    have h47 : s.data.toList[i] = 47 := by
      rw [hg i hi] at h2
      rw [u8_eq]
      show (s.data.toList[i]).toNat = 47
      omega
    have hsp : s.data.toList = (s.data.toList.take i ++ [47]) ++ s.data.toList.drop (i + 1) := by
      rw [← h47, ← List.take_succ_eq_append_getElem, List.take_append_drop]
    have h5 := segL_app (s.data.toList.take i ++ [47]) (s.data.toList.drop (i + 1)) hb
    rw [← hsp, segL_snoc, if_pos rfl, List.nil_append] at h5
    exact h5.symm

set_option maxRecDepth 100000 in
set_option maxHeartbeats 400000 in
theorem tail_any (s : ByteArray) (w : World) (hs : s.size ≤ 100000) :
    Calls Tryz.prog 256 #[.string s] w fun e w' => e = .returned (.string (str (segL s.data.toList))) ∧ w = w' := by
  obtain ⟨i, h1, h2, h3⟩ := seg_idx s
  have hc := Lib.hid (show ∀ w, Calls Tryz.prog 119 #[.string s, .int .u8 47] w fun e w' => e = .returned (.int .i64 ((i : Int) - 1)) ∧ w = w' from fun w => by
    refine (Tryz.strings_LastIndexByte s 47 (by omega) w).mono ?_
    rintro e w' ⟨rfl, rfl⟩
    exact ⟨by rw [h1], rfl⟩)
  have hx := Lib.hid (show s.extract i s.size = str (segL s.data.toList) by
    rw [← h3]
    apply ba_ext
    rw [ByteArray.toList_eq, ByteArray.toList_eq, ByteArray.data_extract]
    show (s.data.extract i s.data.size).toList = _
    rw [Array.toList_extract, List.extract_eq_take_drop]
    show List.take (s.data.size - i) (List.drop i s.data.toList) = List.drop i s.data.toList
    exact List.take_of_length_le (by rw [List.length_drop, Array.length_toList]; omega))
  clear h1 h3
  go_enter Tryz.func256, Tryz.ntmps256
  go_wp2_with (go_at_call 119; refine (hc.out _).mono ?_; rintro e w1 ⟨rfl, rfl⟩)
  go_ret
  exact ⟨by rw [← hx.out]; rfl, rfl⟩
end Go.Proofs.YtkkiglagdojnlaaGreatDoor

/- Paths (layer 2): Last, Path, of the program and of the reference; whether a text may be a path in a note. -/
namespace Go.Proofs.YtkkiglagdojnlaaGreatDoor

open Go.RowKit

theorem str_list (l : List UInt8) : (str l).data.toList = l := by simp [str]
theorem ba_list (t : ByteArray) : t.toList = t.data.toList := ByteArray.toList_eq t
end Go.Proofs.YtkkiglagdojnlaaGreatDoor

/- What the layers 10, 14, 15, 17, 20 and 21 compute over a tree of nodes, plainly. -/
namespace Go.Proofs.YtkkiglagdojnlaaGreatDoor

open Go.RowKit

/-- may somebody (cu, cg) do all that is wanted? -/
def permB (cu cg uid gid mode want : Int) : Bool :=
  if cu = 0 then true else
    (bits .and .i64 (bits .and .i64 (if cu = uid then mode / 64 else if cg = gid then mode / 8 else mode) want) 7 == bits .and .i64 want 7)
structure Cr where
  u : Int
  g : Int
def An.may (a : An) (c : Cr) (want : Int) : Bool := permB c.u c.g a.uid a.gid a.mode want
def ownsB (c : Cr) (a : An) : Bool := (c.u == 0) || (c.u == a.uid)
def idB (u g : Int) : Bool := decide (0 ≤ u ∧ u ≤ 2147483648 ∧ 0 ≤ g ∧ g ≤ 2147483648)

def Fs.dev (S : Fs) (d : Int) : Option Dv := if 1 ≤ d then S.ds[(d - 1).toNat]? else none
def Fs.setDev (S : Fs) (d : Int) (v : Dv) : Fs := { S with ds := S.ds.set (d - 1).toNat v }
/-- a mount's root comes. -/
def Fs.addRoot (S : Fs) (over blocks nodes : Int) : Fs :=
  { ns := S.ns ++ [{ an0 with no := S.last + 1, dev := S.ds.length + 1, kind := 1, mode := 493, links := 1, up := S.last + 1 }]
    ds := S.ds ++ [⟨S.last + 1, over, 1, 1, blocks, nodes⟩]
    last := S.last + 1 }
def fs0 : Fs := ⟨[], [], 0⟩
def Fs.mount (S : Fs) (k blocks nodes : Int) : Fs × Int × Int :=
  match S.get k with
  | none => (S, 0, 5)
  | some a =>
    if a.kind ≠ 1 then (S, 0, 9)
    else if S.over k ≠ k ∨ S.root a.dev = k then (S, 0, 16)
    else if 8 ≤ S.ds.length ∨ limB blocks nodes = false then (S, 0, 3)
    else (S.addRoot k blocks nodes, S.last + 1, 0)
def Fs.above (S : Fs) (k : Int) : Int :=
  match S.get k with
  | none => 0
  | some a =>
    if a.kind ≠ 1 then 0
    else if S.root a.dev = k ∧ 1 < a.dev then
      (match S.dev a.dev with
       | none => 0
       | some v => match S.get v.over with | none => 0 | some b => b.up)
    else a.up
/-- a node comes on its mount. -/
def Fs.make (S : Fs) (a : An) : Fs × Int × Int :=
  if S.root a.dev = 0 then (S, 0, 1) else
  match S.dev a.dev with
  | none => (S, 0, 1)
  | some v =>
    let e := tkE v.b v.n v.mb v.mn (blkI a.kind a.data.size) 1
    if e = 0 then (((S.setDev a.dev { v with b := v.b + blkI a.kind a.data.size, n := v.n + 1 }).add a), S.last + 1, 0)
    else (S, 0, e)

/-- what a text says between slashes. -/
def partsL (l : List UInt8) : List (List UInt8) := (spl 47 l).filter fun p => !(p == []) && !(p == [46])
def slashB (l : List UInt8) : Bool := segL l == [] || segL l == [46] || segL l == [46, 46]
structure Fd where
  dir : Int
  name : ByteArray
  no : Int
  slash : Bool
def fd0 : Fd := ⟨0, ByteArray.empty, 0, false⟩
/-- one step of a trip: the number, the error. -/
def Fs.step (S : Fs) (c : Cr) (at' : Int) (p : List UInt8) : Int × Int :=
  match S.get at' with
  | none => (0, 9)
  | some d =>
    if d.kind ≠ 1 then (0, 9)
    else if d.may c 1 = false then (0, 6)
    else if p = [46, 46] then (S.above at', 0)
    else if 255 < p.length then (0, 13)
    else (S.over (entFind d.ents (str p)), 0)
def Fs.seekL (S : Fs) (c : Cr) (follow : Bool) (k : Option (Int → Bool → List (List UInt8) → Fd × Int)) : List (List UInt8) → Int → Bool → Fd × Int
  | [], at', _ => (⟨0, ByteArray.empty, at', true⟩, 0)
  | p :: l, at', must =>
    let r := S.step c at' p
    if r.2 ≠ 0 then (fd0, r.2)
    else if p = [46, 46] then S.seekL c follow k l r.1 must
    else match S.get r.1 with
    | none => if l = [] then (⟨at', str p, 0, must⟩, 0) else (fd0, 5)
    | some n =>
      if n.kind = 3 ∧ (l ≠ [] ∨ must = true ∨ follow = true) then
        (match k with
         | none => (fd0, 12)
         | some k =>
           if n.data.data.toList = [] then (fd0, 5)
           else k (if n.data.data.toList.head? = some 47 then 1 else at') (if l = [] then must || slashB n.data.data.toList else must) (partsL n.data.data.toList ++ l))
      else if n.kind ≠ 1 ∧ (l ≠ [] ∨ must = true) then (fd0, 9)
      else if l = [] then (⟨at', str p, r.1, must⟩, 0)
      else S.seekL c follow k l r.1 must
def Fs.seekH (S : Fs) (c : Cr) (follow : Bool) : Nat → Int → Bool → List (List UInt8) → Fd × Int
  | 0, at', must, l => S.seekL c follow none l at' must
  | h + 1, at', must, l => S.seekL c follow (some (S.seekH c follow h)) l at' must
def Fs.path (S : Fs) (c : Cr) (s : ByteArray) (follow : Bool) : Fd × Int :=
  if pathE s ≠ 0 then (fd0, pathE s) else S.seekH c follow 8 1 (slashB s.data.toList) (partsL s.data.toList)

/-- the error of a name. -/
def checkE (s : ByteArray) : Int :=
  if s.data.toList = [] ∨ s.data.toList = [46] ∨ s.data.toList = [46, 46] ∨ (47 : UInt8) ∈ s.data.toList ∨ (0 : UInt8) ∈ s.data.toList then 1 else if 255 < s.size then 13 else 0
/-- a directory in which names may come and go: the error. -/
def Fs.placeE (S : Fs) (c : Cr) (dir : Int) (s : ByteArray) : Int :=
  match S.get dir with
  | none => 5
  | some d => if d.kind ≠ 1 then 9 else if checkE s ≠ 0 then checkE s else if d.may c 3 = false then 6 else 0
def Fs.touch (S : Fs) (now dir : Int) (l : List En) : Fs :=
  match S.get dir with
  | none => S
  | some d => S.set { d with ents := l, mtime := now, ctime := now }
def Fs.come (S : Fs) (c : Cr) (now dir : Int) (s : ByteArray) (a : An) : Fs × Int × Int :=
  if S.placeE c dir s ≠ 0 then (S, 0, S.placeE c dir s) else
  match S.get dir with
  | none => (S, 0, 5)
  | some d =>
    if entFind d.ents s ≠ 0 then (S, 0, 7)
    else
      let r := S.make { a with dev := d.dev, uid := c.u, gid := c.g, mtime := now, ctime := now, links := 1 }
      if r.2.2 ≠ 0 then (S, 0, r.2.2)
      else (r.1.touch now dir (entPut d.ents s r.2.1), r.2.1, 0)
def Fs.mkdir (S : Fs) (c : Cr) (now dir : Int) (s : ByteArray) (mode : Int) : Fs × Int × Int :=
  if mode < 0 ∨ 1023 < mode then (S, 0, 1) else S.come c now dir s { an0 with kind := 1, mode := mode, up := dir }
def Fs.file (S : Fs) (c : Cr) (now dir : Int) (s : ByteArray) (mode : Int) (data : ByteArray) : Fs × Int × Int :=
  if mode < 0 ∨ 1023 < mode then (S, 0, 1) else if 1048576 < data.size then (S, 0, 3) else S.come c now dir s { an0 with kind := 2, mode := mode, data := data }
def Fs.sym (S : Fs) (c : Cr) (now dir : Int) (s text : ByteArray) : Fs × Int × Int :=
  if text.data.toList = [] ∨ (0 : UInt8) ∈ text.data.toList then (S, 0, 1) else if 4096 < text.size then (S, 0, 13) else S.come c now dir s { an0 with kind := 3, mode := 511, data := text }
def Fs.hard (S : Fs) (c : Cr) (now no dir : Int) (s : ByteArray) : Fs × Int :=
  if S.placeE c dir s ≠ 0 then (S, S.placeE c dir s) else
  match S.get dir, S.get no with
  | some d, some n =>
    if n.kind = 1 then (S, 4)
    else if entFind d.ents s ≠ 0 then (S, 7)
    else if n.dev ≠ d.dev then (S, 11)
    else if 1000 ≤ n.links then (S, 18)
    else ((S.set { n with links := n.links + 1, ctime := now }).touch now dir (entPut d.ents s no), 0)
  | _, _ => (S, 5)
def Fs.chmod (S : Fs) (c : Cr) (now no mode : Int) : Fs × Int :=
  match S.get no with
  | none => (S, 5)
  | some n => if ownsB c n = false then (S, 4) else if mode < 0 ∨ 1023 < mode ∨ n.kind = 3 then (S, 1) else (S.set { n with mode := mode, ctime := now }, 0)
def Fs.chown (S : Fs) (c : Cr) (now no u g : Int) : Fs × Int :=
  match S.get no with
  | none => (S, 5)
  | some n => if ownsB c n = false then (S, 4) else if c.u ≠ 0 then (S, 4) else if idB u g = false then (S, 1) else (S.set { n with uid := u, gid := g, ctime := now }, 0)
def Fs.utime (S : Fs) (c : Cr) (now no t : Int) : Fs × Int :=
  match S.get no with
  | none => (S, 5)
  | some n => if ownsB c n = false then (S, 4) else if t < 0 ∨ 253402300799 < t then (S, 1) else (S.set { n with mtime := t, ctime := now }, 0)

/-- a tree with a clock, whose changes may fail. -/
structure Sy where
  fs : Fs
  now : Int
  count : Int
  plan : List (Int × Int)
  dead : Bool
/-- does the next change go? -/
def Sy.change (Y : Sy) : Sy × Int :=
  if Y.dead then (Y, 20) else
  match Y.plan.find? (fun x => x.1 == Y.count + 1) with
  | none => ({ Y with count := Y.count + 1 }, 0)
  | some x => ({ Y with count := Y.count + 1, dead := x.2 == 20 }, x.2)
end Go.Proofs.YtkkiglagdojnlaaGreatDoor

/- How the program lays a tree of nodes in memory: entries, nodes in the table, mounts; what turns and what stays. -/
namespace Go.Proofs.YtkkiglagdojnlaaGreatDoor

open Go.RowKit

def entC (x : En) : List Value := [.string x.name, .int .i64 x.no]
theorem entC_len (x : En) : (entC x).length = 2 := rfl
def entQ (cs : List Value) (x : En) : Prop := cs = entC x
/-- entries, as they lie. -/
structure EntsAt (w : World) (a : Option Addr) (n c : Nat) (es : List En) : Prop where
  sl : SliceAt w 2 entQ a n c es
  blk : ∀ p, a = some p → ∃ b off cur, p = ⟨b, off, none⟩ ∧ w.heap[b]? = some (.cells cur 97 (0, 0))
theorem EntsAt.nil (w : World) : EntsAt w none 0 0 [] := ⟨⟨rfl, Nat.le_refl _, by omega, .inl rfl⟩, fun p h => by cases h⟩
theorem EntsAt.len {w : World} {a : Option Addr} {n c : Nat} {es : List En} (h : EntsAt w a n c es) : es.length = n := h.sl.1
/-- what is not laid for entries may turn. -/
theorem EntsAt.turn {w w' : World} {a : Option Addr} {n c : Nat} {es : List En} (h : EntsAt w a n c es) (ht : ∀ (b : Nat) (cur : Array Value), w.heap[b]? = some (.cells cur 97 (0, 0)) → w'.heap[b]? = w.heap[b]?) (hs : w.heap.size ≤ w'.heap.size) : EntsAt w' a n c es := by
  refine ⟨⟨h.sl.1, h.sl.2.1, h.sl.2.2.1, h.sl.2.2.2.imp id ?_⟩, fun p hp => ?_⟩
  · rintro ⟨b, off, rfl, hb, hel⟩
    obtain ⟨b', off', cur, e, hblk⟩ := h.blk _ rfl
    injection e with e1 e2
    subst e1 e2
    refine ⟨b, off, rfl, Nat.lt_of_lt_of_le hb hs, fun i hi => ?_⟩
    obtain ⟨cs, h1, h2, h3⟩ := hel i hi
    refine ⟨cs, h1, h2, fun j hj => ?_⟩
    rw [← h3 j hj]
    simp only [World.cell?, ht _ _ hblk]
  · obtain ⟨b, off, cur, e, hblk⟩ := h.blk p hp
    exact ⟨b, off, cur, e, (ht _ _ hblk).trans hblk⟩
theorem EntsAt.keep {w w' : World} {a : Option Addr} {n c : Nat} {es : List En} (h : EntsAt w a n c es) (hb : Below w.heap.size w w') : EntsAt w' a n c es :=
  h.turn (fun b cur hc => hb.block b (Array.getElem?_eq_some_iff.1 hc).1) hb.size
theorem EntsAt.cell {w : World} {b off n c : Nat} {es : List En} (h : EntsAt w (some ⟨b, off, none⟩) n c es) (k : Nat) (hk : k < es.length) :
    w.cell? ⟨b, off + k * 2, none⟩ = some (.string es[k].name) ∧ w.cell? ⟨b, off + k * 2 + 1, none⟩ = some (.int .i64 es[k].no) := by
  obtain ⟨hl, -, -, h0 | ⟨b', off', he, hb, hel⟩⟩ := h.sl
  · omega
  · injection he with he
    injection he with e1 e2
    subst e1 e2
    obtain ⟨cs, h1, h2, h3⟩ := hel k hk
    subst h2
    exact ⟨h3 0 (by rw [entC_len]; omega), h3 1 (by rw [entC_len]; omega)⟩
theorem EntsAt.some_of {w : World} {a : Option Addr} {n c : Nat} {es : List En} (h : EntsAt w a n c es) (hn : 0 < n) : ∃ b off, a = some ⟨b, off, none⟩ ∧ b < w.heap.size := by
  obtain ⟨-, -, -, h0 | ⟨b', off', he, hb, -⟩⟩ := h.sl
  · omega
  · exact ⟨b', off', he, hb⟩

/-- a node's value. -/
def An.v (a : An) (ea : Option Addr) (el ec : Nat) : Value := .agg #[.int .i64 a.no, .int .i64 a.dev, .int .i64 a.kind, .int .i64 a.mode, .int .i64 a.uid, .int .i64 a.gid, .int .i64 a.mtime, .int .i64 a.ctime, .int .i64 a.links, .int .i64 a.up, .string a.data, .slice ea el ec]
def An.nd (a : An) (ea : Option Addr) (el ec : Nat) : Nd := ⟨a.no, a.dev, a.kind, a.mode, a.uid, a.gid, a.mtime, a.ctime, a.links, a.up, a.data, ea, el, ec⟩
structure Gn where
  a : An
  ea : Option Addr
  el : Nat
  ec : Nat
  clk : Nat
def Gn.nd (g : Gn) : Nd := g.a.nd g.ea g.el g.ec
def Gn.e (g : Gn) : Nd × Nat := (g.nd, g.clk)
def Dv.cs (d : Dv) : List Value := [.int .i64 d.root, .int .i64 d.over, .int .i64 d.b, .int .i64 d.n, .int .i64 d.mb, .int .i64 d.mn]
theorem Dv.cs_len (d : Dv) : d.cs.length = 6 := rfl
/-- where a world lies. -/
structure Rp where
  pt : Nat
  pm : Nat
  dv : Value
  G : List Gn
  clk : Nat
/-- the blocks that its methods write. -/
def Rp.F (R : Rp) (pw : Nat) (k : Nat) : Prop := k = pw ∨ k = R.pt ∨ k = R.pm ∨ R.dv.ownBlock = some k
/-- the tree S lies at pw, as R says. -/
structure WdAt (w : World) (pw : Nat) (R : Rp) (S : Fs) : Prop where
  blk : Blk w pw #[.pointer (some ⟨R.pt, 0, none⟩), R.dv] 222
  tab : Tab w R.pt R.pm S.last (R.G.map Gn.e) R.clk
  devs : w.ownsRow 0 226 6 R.dv S.ds.length (S.ds.flatMap Dv.cs)
  ns : S.ns = R.G.map (·.a)
  ents : ∀ g ∈ R.G, EntsAt w g.ea g.el g.ec g.a.ents
/-- from one world to the next one only such blocks have turned, and what it has more of them is new. -/
structure Stp (F F' : Nat → Prop) (w w' : World) : Prop where
  mod : Mod F w w'
  new : ∀ k, F' k → F k ∨ w.heap.size ≤ k
theorem Stp.of_below {F : Nat → Prop} {w w' : World} (h : Below w.heap.size w w') : Stp F F w w' := ⟨Mod.of_below h, fun _ h => .inl h⟩
theorem Stp.of_mod {F : Nat → Prop} {w w' : World} (h : Mod F w w') : Stp F F w w' := ⟨h, fun _ h => .inl h⟩
theorem Stp.trans {F F' F'' : Nat → Prop} {w w' w'' : World} (h : Stp F F' w w') (k : Stp F' F'' w' w'') : Stp F F'' w w'' :=
  ⟨⟨k.mod.os.trans h.mod.os, k.mod.tape.trans h.mod.tape, k.mod.output.trans h.mod.output, Nat.le_trans h.mod.size k.mod.size, fun i hi hs =>
      (k.mod.block i (Nat.lt_of_lt_of_le hi h.mod.size) (fun h' => (h.new i h').elim hs (fun hlt => by omega))).trans (h.mod.block i hi hs)⟩,
    fun i hi => (k.new i hi).elim (fun h' => h.new i h') (fun hlt => .inr (Nat.le_trans h.mod.size hlt))⟩
theorem Stp.below {F F' : Nat → Prop} {w w' : World} {N : Nat} (h : Stp F F' w w') (hF : ∀ k, F k → N ≤ k) (hN : N ≤ w.heap.size) : Below N w w' := h.mod.below hF hN
theorem Stp.above {F F' : Nat → Prop} {w w' : World} {N : Nat} (h : Stp F F' w w') (hF : ∀ k, F k → N ≤ k) (hN : N ≤ w.heap.size) : ∀ k, F' k → N ≤ k :=
  fun k hk => (h.new k hk).elim (hF k) (fun h' => Nat.le_trans hN h')
/-- such blocks are of these kinds. -/
def wdKind (o : Obj) : Bool := match o with
  | .cells _ t _ => t == 222 || t == 300 || t == 226
  | .map _ _ => true
  | _ => false
section

variable {w w' : World} {pw : Nat} {R : Rp} {S : Fs}

theorem WdAt.kind (h : WdAt w pw R S) {k : Nat} (hk : R.F pw k) : ∃ o, w.heap[k]? = some o ∧ wdKind o = true := by
  rcases hk with rfl | rfl | rfl | hk
  · exact ⟨_, h.blk, rfl⟩
  · exact ⟨_, h.tab.blk, rfl⟩
  · exact ⟨_, h.tab.map, rfl⟩
  · rcases h.devs.2 with ⟨h1, -⟩ | ⟨g, cap, cur, h1, -, hg, -⟩
    · rw [h1] at hk; cases hk
    · rw [h1] at hk
      simp only [Value.ownBlock, Option.some.injEq] at hk
      subst hk
      exact ⟨_, hg, rfl⟩
/-- entries stay where only a world's own blocks turn. -/
theorem EntsAt.wd {a : Option Addr} {n c : Nat} {es : List En} (he : EntsAt w a n c es) (h : WdAt w pw R S) {F' : Nat → Prop} (hs : Stp (R.F pw) F' w w') : EntsAt w' a n c es :=
  he.turn (fun b cur hc => hs.mod.block b (Array.getElem?_eq_some_iff.1 hc).1 (fun hk => by
    obtain ⟨o, ho, hd⟩ := h.kind hk
    rw [hc] at ho
    injection ho with ho
    subst ho
    rw [show wdKind (.cells cur 97 (0, 0)) = false from rfl] at hd
    cases hd)) hs.mod.size
/-- a block of another kind stays. -/
theorem Blk.wd {B : Nat} {vs : Array Value} {T : TypeId} (hb : Blk w B vs T) (h : WdAt w pw R S) {F' : Nat → Prop} (hs : Stp (R.F pw) F' w w') (hT : wdKind (.cells #[] T (0, 0)) = false) : Blk w' B vs T :=
  hb.mod hs.mod (fun hk => by
    obtain ⟨o, ho, hd⟩ := h.kind hk
    unfold Blk at hb
    rw [hb] at ho
    injection ho with ho
    subst ho
    rw [show wdKind (.cells vs T (0, 0)) = wdKind (.cells #[] T (0, 0)) from rfl, hT] at hd
    cases hd)
theorem WdAt.turn (h : WdAt w pw R S) (ht : ∀ (k : Nat) (o : Obj), w.heap[k]? = some o → (wdKind o = true ∨ ∃ cur, o = .cells cur 97 (0, 0)) → w'.heap[k]? = w.heap[k]?) (hs : w.heap.size ≤ w'.heap.size) : WdAt w' pw R S where
  blk := (ht _ _ h.blk (.inl rfl)).trans h.blk
  tab := ⟨(ht _ _ h.tab.blk (.inl rfl)).trans h.tab.blk, (ht _ _ h.tab.map (.inl rfl)).trans h.tab.map, h.tab.once, h.tab.low⟩
  devs := ⟨h.devs.1, h.devs.2.imp id fun ⟨g, cap, cur, h1, h2, hg, h3⟩ => ⟨g, cap, cur, h1, h2, (ht _ _ hg (.inl rfl)).trans hg, h3⟩⟩
  ns := h.ns
  ents := fun g hg => (h.ents g hg).turn (fun b cur hc => ht _ _ hc (.inr ⟨cur, rfl⟩)) hs
theorem WdAt.keep (h : WdAt w pw R S) (hb : Below w.heap.size w w') : WdAt w' pw R S :=
  h.turn (fun k o ho _ => hb.block k (Array.getElem?_eq_some_iff.1 ho).1) hb.size
/-- blocks of other kinds may turn. -/
theorem WdAt.mod (h : WdAt w pw R S) {F : Nat → Prop} (hm : Mod F w w') (hF : ∀ (k : Nat) (o : Obj), F k → w.heap[k]? = some o → wdKind o = false ∧ ∀ cur, o ≠ .cells cur 97 (0, 0)) : WdAt w' pw R S :=
  h.turn (fun k o ho hk => hm.block k (Array.getElem?_eq_some_iff.1 ho).1 (fun hf => by
    obtain ⟨h1, h2⟩ := hF k o hf ho
    rcases hk with hk | ⟨cur, hk⟩
    · rw [h1] at hk; cases hk
    · exact h2 cur hk)) hm.size
theorem findNd_G (G : List Gn) (k : Int) : findNd (G.map Gn.e) k = (G.find? (fun g => g.a.no == k)).map Gn.nd := by
  unfold findNd
  rw [List.find?_map]
  have : (fun x : Nd × Nat => x.1.no == k) ∘ Gn.e = fun g : Gn => g.a.no == k := rfl
  rw [this, Option.map_map]
  rfl
theorem get_G (h : WdAt w pw R S) (k : Int) : S.get k = (R.G.find? (fun g => g.a.no == k)).map (·.a) := by
  unfold Fs.get
  rw [h.ns, List.find?_map]
  rfl
end

end Go.Proofs.YtkkiglagdojnlaaGreatDoor
