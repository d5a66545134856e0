/- Texts of the proof, part 5. -/
import Derived.Shelf.Strings.Builder1
import Derived.Shelf.Strings.Builder2
import Derived.Shelf.Strings.OnBuilder
import Derived.Shelf.Strings.BuilderF
import Derived.Shelf.Strings.BuilderK
import Derived.Shelf.Strings.Builder2Cap
import Derived.Shelf.Strings.Search1
import Derived.Shelf.Strings.Search2
import Derived.Shelf.Strings.Search3
import Derived.Shelf.LaysM
import Derived.Shelf.Strings.Shaped
import Derived.Shelf.Strings.LastIndex
import Derived.Shelf.Strings.Prefix
import Derived.Shelf.Strings.BuilderCap
import Derived.Ground.PaProg
import Derived.Shelf.Path.Small
import Derived.Test.YtaojpbgaengdpaaGreatPL4
import Derived.Test.YtaojpbgaengdpaaGreatProg
set_option linter.unusedVariables false
set_option linter.unusedSimpArgs false
/- Contracts of ragpickerref12.Take, quota.New, quota.Blocks, ragpickerref12.Blocks and ragpickerref12.Limits, over this seat's program; no conditions but those written out. -/
namespace Go.Proofs.YtaojpbgaengdpaaGreat

open Go.RowKit

set_option maxHeartbeats 1000000 in
theorem rtake_any (b n mb mn x y : Int) (w : World) :
    Calls Tryz.prog 151 #[.agg #[.int .i64 b, .int .i64 n, .int .i64 mb, .int .i64 mn], .int .i64 x, .int .i64 y] w fun e w' => e = .returned (tkV b n mb mn x y) ∧ Below w.heap.size w w' := by
  by_cases hf : fineB b n mb mn = true
  · have hf' := hf
    unfold fineB at hf'
    simp only [decide_eq_true_eq] at hf'
    obtain ⟨f1, f2, f3, f4, f5, f6⟩ := hf'
    by_cases hx : x < -1073741824 ∨ 1073741824 < x ∨ y < -1073741824 ∨ 1073741824 < y
    · have hv := tkV_of b n mb mn x y 1 (by unfold tkE tkBad; rw [if_pos]; simp; omega) (by decide)
      have Hv := Lib.hid hv
      clear hv
      have hd : (decide (1073741824 < x) || decide (x < -1073741824) || decide (1073741824 < y) || decide (y < -1073741824)) = true := by simp; omega
      go_enter Tryz.func151, Tryz.ntmps151
      go_wp2_with (go_at_call 162; refine (rfine_any _ _ _ _ _).mono ?_; rintro e w' ⟨rfl, rfl⟩)
      all_goals (first | (exfalso; omega) | (go_returns; exact ⟨by rw [Hv.out], by go_grown⟩))
    · obtain ⟨x1, x2, y1, y2⟩ : -1073741824 ≤ x ∧ x ≤ 1073741824 ∧ -1073741824 ≤ y ∧ y ≤ 1073741824 := by omega
      clear hx
      have Hb := Lib.hid (tkBad_eq b n mb mn x y hf x1 x2 y1 y2)
      by_cases g1 : mn < n + y
      · have Hv := Lib.hid (tkV_of b n mb mn x y 15 (by unfold tkE; rw [Hb.out]; simp [g1]) (by decide))
        go_enter Tryz.func151, Tryz.ntmps151
        go_wp2_with (go_at_call 162; refine (rfine_any _ _ _ _ _).mono ?_; rintro e w' ⟨rfl, rfl⟩)
        go_returns; exact ⟨by rw [Hv.out], by go_grown⟩
      · by_cases g2 : mb < b + x
        · have Hv := Lib.hid (tkV_of b n mb mn x y 14 (by unfold tkE; rw [Hb.out]; simp [g1, g2]) (by decide))
          go_enter Tryz.func151, Tryz.ntmps151
          go_wp2_with (go_at_call 162; refine (rfine_any _ _ _ _ _).mono ?_; rintro e w' ⟨rfl, rfl⟩)
          go_returns; exact ⟨by rw [Hv.out], by go_grown⟩
        · by_cases g3 : fineB (b+x) (n+y) mb mn = true
          · have Hv := Lib.hid (tkV_ok b n mb mn x y (by unfold tkE; rw [Hb.out]; simp [g1, g2, g3]))
            have g3' := g3
            unfold fineB at g3'
            simp only [decide_eq_true_eq] at g3'
            obtain ⟨k1, k2, -⟩ := g3'
            go_enter Tryz.func151, Tryz.ntmps151
            go_wp2_with (go_at_call 162; refine (rfine_any _ _ _ _ _).mono ?_; rintro e w' ⟨rfl, rfl⟩)
            go_returns; exact ⟨by rw [Hv.out], by go_grown⟩
          · have Hv := Lib.hid (tkV_of b n mb mn x y 1 (by unfold tkE; rw [Hb.out]; simp [g1, g2, g3]) (by decide))
            have k : n + y < 0 ∨ b + x < 0 := by
              unfold fineB at g3
              simp only [decide_eq_true_eq] at g3
              omega
            clear g3
            by_cases k1 : n + y < 0
            · clear k
              go_enter Tryz.func151, Tryz.ntmps151
              go_wp2_with (go_at_call 162; refine (rfine_any _ _ _ _ _).mono ?_; rintro e w' ⟨rfl, rfl⟩)
              go_returns; exact ⟨by rw [Hv.out], by go_grown⟩
            · have k2 : b + x < 0 := by omega
              clear k
              go_enter Tryz.func151, Tryz.ntmps151
              go_wp2_with (go_at_call 162; refine (rfine_any _ _ _ _ _).mono ?_; rintro e w' ⟨rfl, rfl⟩)
              go_returns; exact ⟨by rw [Hv.out], by go_grown⟩
  · simp only [Bool.not_eq_true] at hf
    have Hv := Lib.hid (tkV_of b n mb mn x y 1 (by unfold tkE tkBad; simp [hf]) (by decide))
    go_enter Tryz.func151, Tryz.ntmps151
    go_wp2_with (go_at_call 162; refine (rfine_any _ _ _ _ _).mono ?_; rintro e w' ⟨rfl, rfl⟩)
    go_returns; exact ⟨by rw [Hv.out], by go_grown⟩

/-- may a mount have so much? -/
def limB (b n : Int) : Bool := decide (1 ≤ b ∧ b ≤ 1073741824 ∧ 1 ≤ n ∧ n ≤ 65536)
theorem lim_mk (b n : Int) (h1 : 1 ≤ b) (h2 : b ≤ 1073741824) (h3 : 1 ≤ n) (h4 : n ≤ 65536) : limB b n = true := by
  unfold limB; simp [h1, h2, h3, h4]
theorem lim_of {b n : Int} (h : limB b n = true) : 1 ≤ b ∧ b ≤ 1073741824 ∧ 1 ≤ n ∧ n ≤ 65536 := by
  unfold limB at h; simpa using h

set_option maxHeartbeats 400000 in
theorem limits_any (b n : Int) (w : World) :
    Calls Tryz.prog 35 #[.int .i64 b, .int .i64 n] w fun e w' => e = .returned (.bool (limB b n)) ∧ w = w' := by
  unfold limB
  go_enter Tryz.func35, Tryz.ntmps35
  go_wp2
  all_goals (go_ret; simp [*]; try omega)

set_option maxHeartbeats 400000 in
theorem new_yes (b n : Int) (h : limB b n = true) (w : World) :
    Calls Tryz.prog 126 #[.int .i64 b, .int .i64 n] w fun e w' => e = .returned (.tuple #[.agg #[.int .i64 0, .int .i64 0, .int .i64 b, .int .i64 n], .int .i64 0]) ∧ Below w.heap.size w w' := by
  obtain ⟨h1, h2, h3, h4⟩ := lim_of h
  clear h
  go_enter Tryz.func126, Tryz.ntmps126
  go_wp2
  go_returns; exact ⟨rfl, by go_grown⟩
set_option maxHeartbeats 400000 in
theorem new_no (b n : Int) (h : limB b n = false) (w : World) :
    Calls Tryz.prog 126 #[.int .i64 b, .int .i64 n] w fun e w' => e = .returned (.tuple #[.agg #[.int .i64 0, .int .i64 0, .int .i64 0, .int .i64 0], .int .i64 3]) ∧ Below w.heap.size w w' := by
  have hd : (decide (b < 1) || decide (1073741824 < b) || decide (n < 1) || decide (65536 < n)) = true := by
    unfold limB at h; simp at h ⊢; omega
  have hn : ¬ (1 ≤ b ∧ b ≤ 1073741824 ∧ 1 ≤ n ∧ n ≤ 65536) := by unfold limB at h; simpa using h
  clear h
  go_enter Tryz.func126, Tryz.ntmps126
  go_wp2
  all_goals (first | (exfalso; omega) | (go_returns; exact ⟨rfl, by go_grown⟩))

/-- how many blocks a node of a kind has. -/
def blkI (kind size : Int) : Int := if kind = 1 then 1 else if kind = 2 ∧ 0 < size then (size - 1) / 512 + 1 else 0
theorem blkI_bd (k s : Int) (h : s ≤ 9223372036854775807) : 0 ≤ blkI k s ∧ blkI k s ≤ 18014398509481984 := by unfold blkI; split <;> (try split) <;> omega

set_option maxHeartbeats 400000 in
theorem blocks_any (k s : Int) (hs : s ≤ 9223372036854775807) (w : World) :
    Calls Tryz.prog 158 #[.int .i64 k, .int .i64 s] w fun e w' => e = .returned (.int .i64 (blkI k s)) ∧ w = w' := by
  by_cases h1 : k = 1
  · have Hv := Lib.hid (show blkI k s = 1 by unfold blkI; rw [if_pos h1])
    subst h1
    go_enter Tryz.func158, Tryz.ntmps158
    go_wp2
    go_ret; exact ⟨by rw [Hv.out]; rfl, rfl⟩
  · have e1 : (k == 1) = false := by simpa using h1
    by_cases h2 : k = 2
    · subst h2
      by_cases h3 : 0 < s
      · have Hv := Lib.hid (show blkI 2 s = (s - 1) / 512 + 1 by unfold blkI; rw [if_neg h1, if_pos ⟨rfl, h3⟩])
        go_enter Tryz.func158, Tryz.ntmps158
        go_wp2
        go_ret; exact ⟨by rw [Hv.out]; rfl, rfl⟩
      · have Hv := Lib.hid (show blkI 2 s = 0 by unfold blkI; rw [if_neg h1, if_neg (by omega)])
        go_enter Tryz.func158, Tryz.ntmps158
        go_wp2
        go_ret; exact ⟨by rw [Hv.out]; rfl, rfl⟩
    · have e2 : (k == 2) = false := by simpa using h2
      have Hv := Lib.hid (show blkI k s = 0 by unfold blkI; rw [if_neg h1, if_neg (by omega)])
      clear h1 h2
      go_enter Tryz.func158, Tryz.ntmps158
      go_wp2
      go_ret; exact ⟨by rw [Hv.out]; rfl, rfl⟩

set_option maxHeartbeats 400000 in
theorem rblocks_any (k s : Int) (hs : s ≤ 2000000) (w : World) :
    Calls Tryz.prog 152 #[.int .i64 k, .int .i64 s] w fun e w' => e = .returned (.int .i64 (blkI k s)) ∧ w = w' := by
  by_cases h1 : k = 1
  · have Hv := Lib.hid (show blkI k s = 1 by unfold blkI; rw [if_pos h1])
    subst h1
    go_enter Tryz.func152, Tryz.ntmps152
    go_wp2
    go_ret; exact ⟨by rw [Hv.out]; rfl, rfl⟩
  · have e1 : (k == 1) = false := by simpa using h1
    by_cases h2 : k = 2
    · subst h2
      clear h1
      go_enter Tryz.func152, Tryz.ntmps152
      go_wp2
      go_loop [5] (fun t => ∃ n : Int, 0 ≤ n ∧ n ≤ 4000 ∧ (n = 0 ∨ 512 * (n - 1) < s) ∧ t = .int .i64 n) (fun t => (4000 - intOf t).toNat)
      case atStart => exact ⟨0, by omega, by omega, .inl rfl, rfl⟩
      case round =>
        obtain ⟨n, hn0, hn1, hn2, rfl⟩ := hrel
        by_cases hc : 512 * n < s
        · go_wp2
          go_round
          case rel => exact ⟨n + 1, by omega, by omega, .inr (by omega), rfl⟩
          case measure => simp [intOf]; omega
        · have Hv := Lib.hid (show blkI 2 s = n by unfold blkI; rw [if_neg (by decide)]; split <;> omega)
          go_wp2
          go_ret; exact ⟨by rw [Hv.out]; rfl, rfl⟩
    · have e2 : (k == 2) = false := by simpa using h2
      have Hv := Lib.hid (show blkI k s = 0 by unfold blkI; rw [if_neg h1, if_neg (by omega)])
      clear h1 h2
      go_enter Tryz.func152, Tryz.ntmps152
      go_wp2
      refine wp_loop_rounds 1 ?_
      rw [rounds_succ]
      go_wp2
      go_ret; exact ⟨by rw [Hv.out]; rfl, rfl⟩
end Go.Proofs.YtaojpbgaengdpaaGreat

/- DERIVED: THE SHELF's CONTRACTS AT THIS DUMP, IN PLAIN WORDS (tools/lay-plain.mjs out of 'TryzShelfA.lean', which tools/lay-shelf.mjs wrote): THE SAME DECLARATIONS UNDER THE SAME NAMES: 'import', 'namespace', 'open', 'def', 'theorem' AND NOTHING ELSE: no command of the shelf's: FOR A HAND-IN. Each laying: the table of numbers ('.._ren') and one theorem, a field a fact of the dump's own or the kernel's comparison; each contract: ONE APPLICATION. -/
namespace Go.Proofs
open Go.Shelf
def Tryz.lays170_ren : Go.Shelf.Ren := ⟨fun | 170 => 114 | n => n, fun | 70 => 168 | 3 => 3 | 0 => 0 | 72 => 171 | 37 => 169 | 5 => 5 | n => n, fun | n => n⟩
theorem Tryz.lays170 : Go.Proofs.Lays.n170 Tryz.prog Tryz.lays170_ren := {
  mixed := by kernel_rfl
  f170 := Tryz.func114.trans (congrArg some (by kernel_rfl))
  t0 := Tryz.underlying0
  a0 := Tryz.isAgg0
  z0 := Tryz.sizeOf0
  v0 := Tryz.zeroValue0
  t3 := Tryz.underlying3
  a3 := Tryz.isAgg3
  z3 := Tryz.sizeOf3
  v3 := Tryz.zeroValue3
  t37 := Tryz.underlying169
  a37 := Tryz.isAgg169
  z37 := Tryz.sizeOf169
  v37 := Tryz.zeroValue169
  t70 := Tryz.underlying168
  a70 := Tryz.isAgg168
  z70 := Tryz.sizeOf168
  v70 := Tryz.zeroValue168
  t72 := Tryz.underlying171
  a72 := Tryz.isAgg171
  z72 := Tryz.sizeOf171
  v72 := Tryz.zeroValue171 }
def Tryz.lays169_ren : Go.Shelf.Ren := ⟨fun | 169 => 115 | n => n, fun | 70 => 168 | 9 => 9 | 0 => 0 | 72 => 171 | 37 => 169 | 127 => 189 | 3 => 3 | 5 => 5 | n => n, fun | n => n⟩
theorem Tryz.lays169 : Go.Proofs.Lays.n169 Tryz.prog Tryz.lays169_ren := {
  mixed := by kernel_rfl
  f169 := Tryz.func115.trans (congrArg some (by kernel_rfl))
  t0 := Tryz.underlying0
  a0 := Tryz.isAgg0
  z0 := Tryz.sizeOf0
  v0 := Tryz.zeroValue0
  t3 := Tryz.underlying3
  a3 := Tryz.isAgg3
  z3 := Tryz.sizeOf3
  v3 := Tryz.zeroValue3
  t9 := Tryz.underlying9
  a9 := Tryz.isAgg9
  z9 := Tryz.sizeOf9
  v9 := Tryz.zeroValue9
  t37 := Tryz.underlying169
  a37 := Tryz.isAgg169
  z37 := Tryz.sizeOf169
  v37 := Tryz.zeroValue169
  t70 := Tryz.underlying168
  a70 := Tryz.isAgg168
  z70 := Tryz.sizeOf168
  v70 := Tryz.zeroValue168
  t72 := Tryz.underlying171
  a72 := Tryz.isAgg171
  z72 := Tryz.sizeOf171
  v72 := Tryz.zeroValue171
  t127 := Tryz.underlying189
  a127 := Tryz.isAgg189
  z127 := Tryz.sizeOf189
  v127 := Tryz.zeroValue189 }
theorem Tryz.Builder_Extra_169 : Builder.Extra Tryz.prog Tryz.lays169_ren := {
  sizeBuilder := by kernel_rfl
  liesBuilder := by kernel_rfl
  t5 := Tryz.underlying5
  a5 := Tryz.isAgg5
  z5 := Tryz.sizeOf5
  v5 := Tryz.zeroValue5
  infoByte := by kernel_rfl
  cellsByte := by kernel_rfl
  sizeByte := by kernel_rfl
  neB5 := by decide }
open Go.RowKit in
/-- (*strings.Builder).String: "String returns the accumulated string.": WHATEVER THE BUILDER HOLDS. (LAID: no walk: one application.) -/
theorem Tryz.Builder_String_any (B b : Nat) (l : List UInt8) (w : World) (h : Lib.IsBuilder 171 5 B b (Lib.byteCells l) w) (hBw : B ≤ w.heap.size) :
    Calls Tryz.prog 115 #[.pointer (some ⟨b, 0, none⟩)] w fun e w' => e = .returned (.string ⟨l.toArray⟩) ∧ Below B w w' := Any.Builder_String_any Tryz.lays169 Tryz.Builder_Extra_169 B b l w h hBw
def Tryz.lays156_ren : Go.Shelf.Ren := ⟨fun | 156 => 83 | 165 => 120 | 166 => 113 | 169 => 115 | 240 => 137 | 241 => 138 | 276 => 153 | 277 => 154 | n => n, fun | 31 => 41 | 9 => 9 | 3 => 3 | 4 => 4 | 0 => 0 | 20 => 20 | 72 => 171 | 76 => 174 | 70 => 168 | 37 => 169 | 75 => 173 | 127 => 189 | 164 => 203 | 5 => 5 | 80 => 176 | n => n, fun | n => n⟩
theorem Tryz.lays156 : Go.Proofs.Lays.n156 Tryz.prog Tryz.lays156_ren := {
  mixed := by kernel_rfl
  f156 := Tryz.func83.trans (congrArg some (by kernel_rfl))
  f165 := Tryz.func120.trans (congrArg some (by kernel_rfl))
  f166 := Tryz.func113.trans (congrArg some (by kernel_rfl))
  f169 := Tryz.func115.trans (congrArg some (by kernel_rfl))
  f240 := Tryz.func137.trans (congrArg some (by kernel_rfl))
  f241 := Tryz.func138.trans (congrArg some (by kernel_rfl))
  f276 := Tryz.func153.trans (congrArg some (by kernel_rfl))
  f277 := Tryz.func154.trans (congrArg some (by kernel_rfl))
  t0 := Tryz.underlying0
  a0 := Tryz.isAgg0
  z0 := Tryz.sizeOf0
  v0 := Tryz.zeroValue0
  t3 := Tryz.underlying3
  a3 := Tryz.isAgg3
  z3 := Tryz.sizeOf3
  v3 := Tryz.zeroValue3
  t4 := Tryz.underlying4
  a4 := Tryz.isAgg4
  z4 := Tryz.sizeOf4
  v4 := Tryz.zeroValue4
  t9 := Tryz.underlying9
  a9 := Tryz.isAgg9
  z9 := Tryz.sizeOf9
  v9 := Tryz.zeroValue9
  t20 := Tryz.underlying20
  a20 := Tryz.isAgg20
  z20 := Tryz.sizeOf20
  v20 := Tryz.zeroValue20
  t31 := Tryz.underlying41
  a31 := Tryz.isAgg41
  z31 := Tryz.sizeOf41
  v31 := Tryz.zeroValue41
  t37 := Tryz.underlying169
  a37 := Tryz.isAgg169
  z37 := Tryz.sizeOf169
  v37 := Tryz.zeroValue169
  t70 := Tryz.underlying168
  a70 := Tryz.isAgg168
  z70 := Tryz.sizeOf168
  v70 := Tryz.zeroValue168
  t72 := Tryz.underlying171
  a72 := Tryz.isAgg171
  z72 := Tryz.sizeOf171
  v72 := Tryz.zeroValue171
  t75 := Tryz.underlying173
  a75 := Tryz.isAgg173
  z75 := Tryz.sizeOf173
  v75 := Tryz.zeroValue173
  t76 := Tryz.underlying174
  a76 := Tryz.isAgg174
  z76 := Tryz.sizeOf174
  v76 := Tryz.zeroValue174
  t127 := Tryz.underlying189
  a127 := Tryz.isAgg189
  z127 := Tryz.sizeOf189
  v127 := Tryz.zeroValue189
  t164 := Tryz.underlying203
  a164 := Tryz.isAgg203
  z164 := Tryz.sizeOf203
  v164 := Tryz.zeroValue203 }
theorem Tryz.Builder_Extra_156 : Builder.Extra Tryz.prog Tryz.lays156_ren := {
  sizeBuilder := by kernel_rfl
  liesBuilder := by kernel_rfl
  t5 := Tryz.underlying5
  a5 := Tryz.isAgg5
  z5 := Tryz.sizeOf5
  v5 := Tryz.zeroValue5
  infoByte := by kernel_rfl
  cellsByte := by kernel_rfl
  sizeByte := by kernel_rfl
  neB5 := by decide }
open Go.RowKit in
/-- No element: the empty string; the world is as it was. (Whatever the slice's address and capacity: a nil slice too.) (LAID: no walk: one application.) -/
theorem Tryz.strings_Join_none (a : Option Addr) (c : Nat) (sep : ByteArray) (w : World) :
    Calls Tryz.prog 83 #[.slice a 0 c, .string sep] w fun e w' => e = .returned (.string ⟨#[]⟩) ∧ w' = w := Any.strings_Join_none Tryz.lays156 Tryz.Builder_Extra_156 a c sep w
open Go.RowKit in
/-- strings.Join: "Join concatenates the elements of its first argument to create a single string. The separator string sep is placed between elements in the resulting string.": HOWEVER MANY ELEMENTS. Below the heap's end the world is as it was. (LAID: no walk: one application.) -/
theorem Tryz.strings_Join (bk o c : Nat) (xs : List ByteArray) (sep : ByteArray) (w : World) (hcells : ∀ (j : Nat) x, xs[j]? = some x → w.cell? ⟨bk, o + j, none⟩ = some (.string x)) (hbk : bk < w.heap.size) (hN : xs.length ≤ 140737488355328) (hcap : xs.length ≤ c) (hlen : (Lib.join (xs.map (·.data.toList)) sep.data.toList).length ≤ 140737488355328) :
    Calls Tryz.prog 83 #[.slice (some ⟨bk, o, none⟩) xs.length c, .string sep] w fun e w' => e = .returned (.string ⟨(Lib.join (xs.map (·.data.toList)) sep.data.toList).toArray⟩) ∧ Below w.heap.size w w' := Any.strings_Join Tryz.lays156 Tryz.Builder_Extra_156 bk o c xs sep w hcells hbk hN hcap hlen
open Go.RowKit in
/-- (*strings.Builder).Len: "Len returns the number of accumulated bytes; b.Len() == len(b.String()).": the world is as it was. (THE FORM '_f': 'Lib.IsBuilderF'.) (LAID: no walk: one application.) -/
theorem Tryz.Builder_Len_f (B b : Nat) (bs : List Value) (w : World) (h : Lib.IsBuilderF 171 5 B b bs w) :
    Calls Tryz.prog 114 #[.pointer (some ⟨b, 0, none⟩)] w fun e w' => e = .returned (.int .i64 bs.length) ∧ w' = w := Any.Builder_Len_f Tryz.lays170 B b bs w h
open Go.RowKit in
/-- (*strings.Builder).String: "String returns the accumulated string.": OF A BUILDER THAT HOLDS AT LEAST ONE BYTE. ✋ THE MODEL FREEZES THOSE BYTES IN THE BUFFER (unsafe.String): a later write INTO them ends the model's run without an answer; a later append BEHIND them goes on. The statement's order of evaluation is drawn: one draw. THE FORM '_k': OVER 'Lib.IsBuilderF' (a builder that 'String()' may have read), AND WITH THE FRAME THAT REACHES ABOVE THE BUILDER: 'Lib.OthersKept': every block that is not b and is no row of uint8's stands as it stood: the iterator of a range among them. (LAID: no walk: one application.) -/
theorem Tryz.Builder_String_k (B b : Nat) (l : List UInt8) (w : World) (h : Lib.IsBuilderF 171 5 B b (Lib.byteCells l) w) (h0 : l ≠ []) :
    Calls Tryz.prog 115 #[.pointer (some ⟨b, 0, none⟩)] w fun e w' => e = .returned (.string ⟨l.toArray⟩) ∧ (Lib.IsBuilderF 171 5 B b (Lib.byteCells l) w' ∧ Below B w w' ∧ Lib.OthersKept 5 (some b) w w') := Any.Builder_String_k Tryz.lays169 Tryz.Builder_Extra_169 B b l w h h0
def Tryz.lays143_ren : Go.Shelf.Ren := ⟨fun | 143 => 139 | 219 => 155 | 217 => 163 | 225 => 164 | 224 => 165 | 267 => 166 | 266 => 169 | 314 => 170 | n => n, fun | 9 => 9 | 3 => 3 | 4 => 4 | 5 => 5 | 46 => 206 | 146 => 212 | 51 => 211 | n => n, fun | 1 => 0 | n => n⟩
theorem Tryz.lays143 : Go.Proofs.Lays.n143 Tryz.prog Tryz.lays143_ren := {
  mixed := by kernel_rfl
  f143 := Tryz.func139.trans (congrArg some (by kernel_rfl))
  f217 := Tryz.func163.trans (congrArg some (by kernel_rfl))
  f219 := Tryz.func155.trans (congrArg some (by kernel_rfl))
  f224 := Tryz.func165.trans (congrArg some (by kernel_rfl))
  f225 := Tryz.func164.trans (congrArg some (by kernel_rfl))
  f266 := Tryz.func169.trans (congrArg some (by kernel_rfl))
  f267 := Tryz.func166.trans (congrArg some (by kernel_rfl))
  f314 := Tryz.func170.trans (congrArg some (by kernel_rfl))
  t3 := Tryz.underlying3
  a3 := Tryz.isAgg3
  z3 := Tryz.sizeOf3
  v3 := Tryz.zeroValue3
  t4 := Tryz.underlying4
  a4 := Tryz.isAgg4
  z4 := Tryz.sizeOf4
  v4 := Tryz.zeroValue4
  t5 := Tryz.underlying5
  a5 := Tryz.isAgg5
  z5 := Tryz.sizeOf5
  v5 := Tryz.zeroValue5
  t9 := Tryz.underlying9
  a9 := Tryz.isAgg9
  z9 := Tryz.sizeOf9
  v9 := Tryz.zeroValue9
  t46 := Tryz.underlying206
  a46 := Tryz.isAgg206
  z46 := Tryz.sizeOf206
  v46 := Tryz.zeroValue206
  t51 := Tryz.underlying211
  a51 := Tryz.isAgg211
  z51 := Tryz.sizeOf211
  v51 := Tryz.zeroValue211
  t146 := Tryz.underlying212
  a146 := Tryz.isAgg212
  z146 := Tryz.sizeOf212
  v146 := Tryz.zeroValue212
  g1 := by kernel_rfl }
open Go.RowKit Go.Lib in
/-- strings.Index: "Index returns the index of the first instance of substr in s, or -1 if substr is not present in s.": AT A substr OF ONE BYTE c: IT RETURNS 'Lib.indexByte s c'; the world is as it was. (LAID: no walk: one application.) -/
theorem Tryz.strings_Index_one (s : ByteArray) (c : UInt8) (w : World) :
    Calls Tryz.prog 139 #[.string s, .string ⟨#[c]⟩] w fun e w' => e = .returned (.int .i64 (Lib.indexByte s.data.toList c)) ∧ w' = w := Any.strings_Index_one Tryz.lays143 s c w
def Tryz.lays144_ren : Go.Shelf.Ren := ⟨fun | 144 => 121 | 143 => 139 | 219 => 155 | 217 => 163 | 225 => 164 | 224 => 165 | 267 => 166 | 266 => 169 | 314 => 170 | n => n, fun | 9 => 9 | 4 => 4 | 3 => 3 | 5 => 5 | 46 => 206 | 146 => 212 | 51 => 211 | n => n, fun | 1 => 0 | n => n⟩
theorem Tryz.lays144 : Go.Proofs.Lays.n144 Tryz.prog Tryz.lays144_ren := {
  mixed := by kernel_rfl
  f143 := Tryz.func139.trans (congrArg some (by kernel_rfl))
  f144 := Tryz.func121.trans (congrArg some (by kernel_rfl))
  f217 := Tryz.func163.trans (congrArg some (by kernel_rfl))
  f219 := Tryz.func155.trans (congrArg some (by kernel_rfl))
  f224 := Tryz.func165.trans (congrArg some (by kernel_rfl))
  f225 := Tryz.func164.trans (congrArg some (by kernel_rfl))
  f266 := Tryz.func169.trans (congrArg some (by kernel_rfl))
  f267 := Tryz.func166.trans (congrArg some (by kernel_rfl))
  f314 := Tryz.func170.trans (congrArg some (by kernel_rfl))
  t3 := Tryz.underlying3
  a3 := Tryz.isAgg3
  z3 := Tryz.sizeOf3
  v3 := Tryz.zeroValue3
  t4 := Tryz.underlying4
  a4 := Tryz.isAgg4
  z4 := Tryz.sizeOf4
  v4 := Tryz.zeroValue4
  t5 := Tryz.underlying5
  a5 := Tryz.isAgg5
  z5 := Tryz.sizeOf5
  v5 := Tryz.zeroValue5
  t9 := Tryz.underlying9
  a9 := Tryz.isAgg9
  z9 := Tryz.sizeOf9
  v9 := Tryz.zeroValue9
  t46 := Tryz.underlying206
  a46 := Tryz.isAgg206
  z46 := Tryz.sizeOf206
  v46 := Tryz.zeroValue206
  t51 := Tryz.underlying211
  a51 := Tryz.isAgg211
  z51 := Tryz.sizeOf211
  v51 := Tryz.zeroValue211
  t146 := Tryz.underlying212
  a146 := Tryz.isAgg212
  z146 := Tryz.sizeOf212
  v146 := Tryz.zeroValue212
  g1 := by kernel_rfl }
open Go.RowKit Go.Lib in
/-- strings.Contains: "Contains reports whether substr is within s.": AT A substr OF ONE BYTE c: IT RETURNS 'decide (0 ≤ Lib.indexByte s c)'; the world is as it was. (LAID: no walk: one application.) -/
theorem Tryz.strings_Contains_one (s : ByteArray) (c : UInt8) (w : World) :
    Calls Tryz.prog 121 #[.string s, .string ⟨#[c]⟩] w fun e w' => e = .returned (.bool (decide (0 ≤ Lib.indexByte s.data.toList c))) ∧ w' = w := Any.strings_Contains_one Tryz.lays144 s c w
def Tryz.lays149_ren : Go.Shelf.Ren := ⟨fun | 149 => 140 | 222 => 156 | n => n, fun | 9 => 9 | 5 => 5 | 3 => 3 | 4 => 4 | n => n, fun | n => n⟩
theorem Tryz.lays149 : Go.Proofs.Lays.n149 Tryz.prog Tryz.lays149_ren := {
  mixed := by kernel_rfl
  f149 := Tryz.func140.trans (congrArg some (by kernel_rfl))
  f222 := Tryz.func156.trans (congrArg some (by kernel_rfl))
  t3 := Tryz.underlying3
  a3 := Tryz.isAgg3
  z3 := Tryz.sizeOf3
  v3 := Tryz.zeroValue3
  t4 := Tryz.underlying4
  a4 := Tryz.isAgg4
  z4 := Tryz.sizeOf4
  v4 := Tryz.zeroValue4
  t5 := Tryz.underlying5
  a5 := Tryz.isAgg5
  z5 := Tryz.sizeOf5
  v5 := Tryz.zeroValue5
  t9 := Tryz.underlying9
  a9 := Tryz.isAgg9
  z9 := Tryz.sizeOf9
  v9 := Tryz.zeroValue9 }
open Go.RowKit Go.Lib in
/-- strings.LastIndexByte: "LastIndexByte returns the index of the last instance of c in s, or -1 if c is not present in s." (LAID: no walk: one application.) -/
theorem Tryz.strings_LastIndexByte (s : ByteArray) (c : Int) (hs : s.size < 4611686018427387904) (w : World) :
    Calls Tryz.prog 140 #[.string s, .int .u8 c] w fun e w' => e = .returned (.int .i64 (Lib.lastIndexByte s c)) ∧ w' = w := Any.strings_LastIndexByte Tryz.lays149 s c hs w
def Tryz.lays99_ren : Go.Shelf.Ren := ⟨fun | 99 => 81 | 206 => 118 | n => n, fun | 9 => 9 | 4 => 4 | 3 => 3 | n => n, fun | n => n⟩
theorem Tryz.lays99 : Go.Proofs.Lays.n99 Tryz.prog Tryz.lays99_ren := {
  mixed := by kernel_rfl
  f99 := Tryz.func81.trans (congrArg some (by kernel_rfl))
  f206 := Tryz.func118.trans (congrArg some (by kernel_rfl))
  t3 := Tryz.underlying3
  a3 := Tryz.isAgg3
  z3 := Tryz.sizeOf3
  v3 := Tryz.zeroValue3
  t4 := Tryz.underlying4
  a4 := Tryz.isAgg4
  z4 := Tryz.sizeOf4
  v4 := Tryz.zeroValue4
  t9 := Tryz.underlying9
  a9 := Tryz.isAgg9
  z9 := Tryz.sizeOf9
  v9 := Tryz.zeroValue9 }
open Go.RowKit Go.Lib in
/-- strings.HasPrefix: "HasPrefix reports whether the string s begins with prefix.": IT RETURNS 'Lib.hasPrefix s prefix'; the world is as it was. (LAID: no walk: one application.) -/
theorem Tryz.strings_HasPrefix (s p : ByteArray) (w : World) :
    Calls Tryz.prog 81 #[.string s, .string p] w fun e w' => e = .returned (.bool (Lib.hasPrefix s.data.toList p.data.toList)) ∧ w' = w := Any.strings_HasPrefix Tryz.lays99 s p w
def Tryz.lays166_ren : Go.Shelf.Ren := ⟨fun | 166 => 113 | 240 => 137 | 276 => 153 | n => n, fun | 0 => 0 | 3 => 3 | 4 => 4 | 5 => 5 | 9 => 9 | 20 => 20 | 37 => 169 | 70 => 168 | 72 => 171 | 75 => 173 | 80 => 176 | 164 => 203 | n => n, fun n => n⟩
set_option maxRecDepth 100000 in
theorem Tryz.lays166 : Go.Proofs.Lays.n166 Tryz.prog Tryz.lays166_ren := {
  mixed := by kernel_rfl
  f166 := Tryz.func113.trans (congrArg some (by kernel_rfl))
  f240 := Tryz.func137.trans (congrArg some (by kernel_rfl))
  f276 := Tryz.func153.trans (congrArg some (by kernel_rfl))
  t0 := Tryz.underlying0
  a0 := Tryz.isAgg0
  z0 := Tryz.sizeOf0
  v0 := Tryz.zeroValue0
  t3 := Tryz.underlying3
  a3 := Tryz.isAgg3
  z3 := Tryz.sizeOf3
  v3 := Tryz.zeroValue3
  t4 := Tryz.underlying4
  a4 := Tryz.isAgg4
  z4 := Tryz.sizeOf4
  v4 := Tryz.zeroValue4
  t9 := Tryz.underlying9
  a9 := Tryz.isAgg9
  z9 := Tryz.sizeOf9
  v9 := Tryz.zeroValue9
  t20 := Tryz.underlying20
  a20 := Tryz.isAgg20
  z20 := Tryz.sizeOf20
  v20 := Tryz.zeroValue20
  t37 := Tryz.underlying169
  a37 := Tryz.isAgg169
  z37 := Tryz.sizeOf169
  v37 := Tryz.zeroValue169
  t70 := Tryz.underlying168
  a70 := Tryz.isAgg168
  z70 := Tryz.sizeOf168
  v70 := Tryz.zeroValue168
  t72 := Tryz.underlying171
  a72 := Tryz.isAgg171
  z72 := Tryz.sizeOf171
  v72 := Tryz.zeroValue171
  t75 := Tryz.underlying173
  a75 := Tryz.isAgg173
  z75 := Tryz.sizeOf173
  v75 := Tryz.zeroValue173
  t164 := Tryz.underlying203
  a164 := Tryz.isAgg203
  z164 := Tryz.sizeOf203
  v164 := Tryz.zeroValue203 }
theorem Tryz.Builder_Extra_166 : Builder.Extra Tryz.prog Tryz.lays166_ren := {
  sizeBuilder := by kernel_rfl
  liesBuilder := by kernel_rfl
  t5 := Tryz.underlying5
  a5 := Tryz.isAgg5
  z5 := Tryz.sizeOf5
  v5 := Tryz.zeroValue5
  infoByte := by kernel_rfl
  cellsByte := by kernel_rfl
  sizeByte := by kernel_rfl
  neB5 := by decide }
end Go.Proofs
