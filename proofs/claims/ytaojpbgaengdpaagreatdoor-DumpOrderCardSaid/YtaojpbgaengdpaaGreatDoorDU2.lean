/- Texts of the proof, part 2. -/
import Derived.Shelf.Strings.Builder1
import Derived.Shelf.Strings.Builder2
import Derived.Shelf.Strings.OnBuilder
import Derived.Shelf.Strings.Trim
import Derived.Shelf.Small.Utf8
import Derived.Shelf.Small.Strs
import Derived.Shelf.Strings.BuilderF
import Derived.Shelf.Strings.BuilderK
import Derived.Shelf.Strings.Builder2Cap
import Derived.Shelf.Strings.Search1
import Derived.Shelf.Strings.Search2
import Derived.Shelf.Strings.Search3
import Derived.Shelf.LaysM
import Derived.Shelf.Strings.Shaped
import Derived.Shelf.Strings.LastIndex
import Derived.Shelf.Strings.Prefix
import Derived.Shelf.Strings.Runes
import Derived.Shelf.Strings.AsciiSet
import Derived.Shelf.Unicode.DecodeSlow
import Derived.Shelf.Unicode.DecodeAny
import Derived.Shelf.Unicode.DecodeLast
import Derived.Shelf.Strings.BuilderCap
import Derived.Ground.PaProg
import Derived.Shelf.Path.Small
import Derived.Test.YtaojpbgaengdpaaGreatDoorDU1
import Derived.Test.YtaojpbgaengdpaaGreatDoorProg
set_option linter.unusedVariables false
set_option linter.unusedSimpArgs false
/- Contracts of ragpickerref12.Take, quota.New, quota.Blocks, ragpickerref12.Blocks and ragpickerref12.Limits, over this seat's program; no conditions but those written out. -/
namespace Go.Proofs.YtaojpbgaengdpaaGreatDoor

open Go.RowKit

set_option maxHeartbeats 1000000 in
theorem rtake_any (b n mb mn x y : Int) (w : World) :
    Calls Tryz.prog 165 #[.agg #[.int .i64 b, .int .i64 n, .int .i64 mb, .int .i64 mn], .int .i64 x, .int .i64 y] w fun e w' => e = .returned (tkV b n mb mn x y) ∧ Below w.heap.size w w' := by
  by_cases hf : fineB b n mb mn = true
  · have hf' := hf
    unfold fineB at hf'
    simp only [decide_eq_true_eq] at hf'
    obtain ⟨f1, f2, f3, f4, f5, f6⟩ := hf'
    by_cases hx : x < -1073741824 ∨ 1073741824 < x ∨ y < -1073741824 ∨ 1073741824 < y
    · have hv := tkV_of b n mb mn x y 1 (by unfold tkE tkBad; rw [if_pos]; simp; omega) (by decide)
      have Hv := Lib.hid hv
      clear hv
      have hd : (decide (1073741824 < x) || decide (x < -1073741824) || decide (1073741824 < y) || decide (y < -1073741824)) = true := by simp; omega
      go_enter Tryz.func165, Tryz.ntmps165
      go_wp2_with (go_at_call 180; refine (rfine_any _ _ _ _ _).mono ?_; rintro e w' ⟨rfl, rfl⟩)
      all_goals (first | (exfalso; omega) | (go_returns; exact ⟨by rw [Hv.out], by go_grown⟩))
    · obtain ⟨x1, x2, y1, y2⟩ : -1073741824 ≤ x ∧ x ≤ 1073741824 ∧ -1073741824 ≤ y ∧ y ≤ 1073741824 := by omega
      clear hx
      have Hb := Lib.hid (tkBad_eq b n mb mn x y hf x1 x2 y1 y2)
      by_cases g1 : mn < n + y
      · have Hv := Lib.hid (tkV_of b n mb mn x y 15 (by unfold tkE; rw [Hb.out]; simp [g1]) (by decide))
        go_enter Tryz.func165, Tryz.ntmps165
        go_wp2_with (go_at_call 180; refine (rfine_any _ _ _ _ _).mono ?_; rintro e w' ⟨rfl, rfl⟩)
        go_returns; exact ⟨by rw [Hv.out], by go_grown⟩
      · by_cases g2 : mb < b + x
        · have Hv := Lib.hid (tkV_of b n mb mn x y 14 (by unfold tkE; rw [Hb.out]; simp [g1, g2]) (by decide))
          go_enter Tryz.func165, Tryz.ntmps165
          go_wp2_with (go_at_call 180; refine (rfine_any _ _ _ _ _).mono ?_; rintro e w' ⟨rfl, rfl⟩)
          go_returns; exact ⟨by rw [Hv.out], by go_grown⟩
        · by_cases g3 : fineB (b+x) (n+y) mb mn = true
          · have Hv := Lib.hid (tkV_ok b n mb mn x y (by unfold tkE; rw [Hb.out]; simp [g1, g2, g3]))
            have g3' := g3
            unfold fineB at g3'
            simp only [decide_eq_true_eq] at g3'
            obtain ⟨k1, k2, -⟩ := g3'
            go_enter Tryz.func165, Tryz.ntmps165
            go_wp2_with (go_at_call 180; refine (rfine_any _ _ _ _ _).mono ?_; rintro e w' ⟨rfl, rfl⟩)
            go_returns; exact ⟨by rw [Hv.out], by go_grown⟩
          · have Hv := Lib.hid (tkV_of b n mb mn x y 1 (by unfold tkE; rw [Hb.out]; simp [g1, g2, g3]) (by decide))
            have k : n + y < 0 ∨ b + x < 0 := by
              unfold fineB at g3
              simp only [decide_eq_true_eq] at g3
              omega
            clear g3
            by_cases k1 : n + y < 0
            · clear k
              go_enter Tryz.func165, Tryz.ntmps165
              go_wp2_with (go_at_call 180; refine (rfine_any _ _ _ _ _).mono ?_; rintro e w' ⟨rfl, rfl⟩)
              go_returns; exact ⟨by rw [Hv.out], by go_grown⟩
            · have k2 : b + x < 0 := by omega
              clear k
              go_enter Tryz.func165, Tryz.ntmps165
              go_wp2_with (go_at_call 180; refine (rfine_any _ _ _ _ _).mono ?_; rintro e w' ⟨rfl, rfl⟩)
              go_returns; exact ⟨by rw [Hv.out], by go_grown⟩
  · simp only [Bool.not_eq_true] at hf
    have Hv := Lib.hid (tkV_of b n mb mn x y 1 (by unfold tkE tkBad; simp [hf]) (by decide))
    go_enter Tryz.func165, Tryz.ntmps165
    go_wp2_with (go_at_call 180; refine (rfine_any _ _ _ _ _).mono ?_; rintro e w' ⟨rfl, rfl⟩)
    go_returns; exact ⟨by rw [Hv.out], by go_grown⟩

/-- may a mount have so much? -/
def limB (b n : Int) : Bool := decide (1 ≤ b ∧ b ≤ 1073741824 ∧ 1 ≤ n ∧ n ≤ 65536)
theorem lim_mk (b n : Int) (h1 : 1 ≤ b) (h2 : b ≤ 1073741824) (h3 : 1 ≤ n) (h4 : n ≤ 65536) : limB b n = true := by
  unfold limB; simp [h1, h2, h3, h4]
theorem lim_of {b n : Int} (h : limB b n = true) : 1 ≤ b ∧ b ≤ 1073741824 ∧ 1 ≤ n ∧ n ≤ 65536 := by
  unfold limB at h; simpa using h

set_option maxHeartbeats 400000 in
theorem limits_any (b n : Int) (w : World) :
    Calls Tryz.prog 72 #[.int .i64 b, .int .i64 n] w fun e w' => e = .returned (.bool (limB b n)) ∧ w = w' := by
  unfold limB
  go_enter Tryz.func72, Tryz.ntmps72
  go_wp2
  all_goals (go_ret; simp [*]; try omega)

set_option maxHeartbeats 400000 in
theorem new_yes (b n : Int) (h : limB b n = true) (w : World) :
    Calls Tryz.prog 126 #[.int .i64 b, .int .i64 n] w fun e w' => e = .returned (.tuple #[.agg #[.int .i64 0, .int .i64 0, .int .i64 b, .int .i64 n], .int .i64 0]) ∧ Below w.heap.size w w' := by
  obtain ⟨h1, h2, h3, h4⟩ := lim_of h
  clear h
  go_enter Tryz.func126, Tryz.ntmps126
  go_wp2
  go_returns; exact ⟨rfl, by go_grown⟩
set_option maxHeartbeats 400000 in
theorem new_no (b n : Int) (h : limB b n = false) (w : World) :
    Calls Tryz.prog 126 #[.int .i64 b, .int .i64 n] w fun e w' => e = .returned (.tuple #[.agg #[.int .i64 0, .int .i64 0, .int .i64 0, .int .i64 0], .int .i64 3]) ∧ Below w.heap.size w w' := by
  have hd : (decide (b < 1) || decide (1073741824 < b) || decide (n < 1) || decide (65536 < n)) = true := by
    unfold limB at h; simp at h ⊢; omega
  have hn : ¬ (1 ≤ b ∧ b ≤ 1073741824 ∧ 1 ≤ n ∧ n ≤ 65536) := by unfold limB at h; simpa using h
  clear h
  go_enter Tryz.func126, Tryz.ntmps126
  go_wp2
  all_goals (first | (exfalso; omega) | (go_returns; exact ⟨rfl, by go_grown⟩))

/-- how many blocks a node of a kind has. -/
def blkI (kind size : Int) : Int := if kind = 1 then 1 else if kind = 2 ∧ 0 < size then (size - 1) / 512 + 1 else 0
theorem blkI_bd (k s : Int) (h : s ≤ 9223372036854775807) : 0 ≤ blkI k s ∧ blkI k s ≤ 18014398509481984 := by unfold blkI; split <;> (try split) <;> omega

set_option maxHeartbeats 400000 in
theorem blocks_any (k s : Int) (hs : s ≤ 9223372036854775807) (w : World) :
    Calls Tryz.prog 174 #[.int .i64 k, .int .i64 s] w fun e w' => e = .returned (.int .i64 (blkI k s)) ∧ w = w' := by
  by_cases h1 : k = 1
  · have Hv := Lib.hid (show blkI k s = 1 by unfold blkI; rw [if_pos h1])
    subst h1
    go_enter Tryz.func174, Tryz.ntmps174
    go_wp2
    go_ret; exact ⟨by rw [Hv.out]; rfl, rfl⟩
  · have e1 : (k == 1) = false := by simpa using h1
    by_cases h2 : k = 2
    · subst h2
      by_cases h3 : 0 < s
      · have Hv := Lib.hid (show blkI 2 s = (s - 1) / 512 + 1 by unfold blkI; rw [if_neg h1, if_pos ⟨rfl, h3⟩])
        go_enter Tryz.func174, Tryz.ntmps174
        go_wp2
        go_ret; exact ⟨by rw [Hv.out]; rfl, rfl⟩
      · have Hv := Lib.hid (show blkI 2 s = 0 by unfold blkI; rw [if_neg h1, if_neg (by omega)])
        go_enter Tryz.func174, Tryz.ntmps174
        go_wp2
        go_ret; exact ⟨by rw [Hv.out]; rfl, rfl⟩
    · have e2 : (k == 2) = false := by simpa using h2
      have Hv := Lib.hid (show blkI k s = 0 by unfold blkI; rw [if_neg h1, if_neg (by omega)])
      clear h1 h2
      go_enter Tryz.func174, Tryz.ntmps174
      go_wp2
      go_ret; exact ⟨by rw [Hv.out]; rfl, rfl⟩

set_option maxHeartbeats 400000 in
theorem rblocks_any (k s : Int) (hs : s ≤ 2000000) (w : World) :
    Calls Tryz.prog 166 #[.int .i64 k, .int .i64 s] w fun e w' => e = .returned (.int .i64 (blkI k s)) ∧ w = w' := by
  by_cases h1 : k = 1
  · have Hv := Lib.hid (show blkI k s = 1 by unfold blkI; rw [if_pos h1])
    subst h1
    go_enter Tryz.func166, Tryz.ntmps166
    go_wp2
    go_ret; exact ⟨by rw [Hv.out]; rfl, rfl⟩
  · have e1 : (k == 1) = false := by simpa using h1
    by_cases h2 : k = 2
    · subst h2
      clear h1
      go_enter Tryz.func166, Tryz.ntmps166
      go_wp2
      go_loop [5] (fun t => ∃ n : Int, 0 ≤ n ∧ n ≤ 4000 ∧ (n = 0 ∨ 512 * (n - 1) < s) ∧ t = .int .i64 n) (fun t => (4000 - intOf t).toNat)
      case atStart => exact ⟨0, by omega, by omega, .inl rfl, rfl⟩
      case round =>
        obtain ⟨n, hn0, hn1, hn2, rfl⟩ := hrel
        by_cases hc : 512 * n < s
        · go_wp2
          go_round
          case rel => exact ⟨n + 1, by omega, by omega, .inr (by omega), rfl⟩
          case measure => simp [intOf]; omega
        · have Hv := Lib.hid (show blkI 2 s = n by unfold blkI; rw [if_neg (by decide)]; split <;> omega)
          go_wp2
          go_ret; exact ⟨by rw [Hv.out]; rfl, rfl⟩
    · have e2 : (k == 2) = false := by simpa using h2
      have Hv := Lib.hid (show blkI k s = 0 by unfold blkI; rw [if_neg h1, if_neg (by omega)])
      clear h1 h2
      go_enter Tryz.func166, Tryz.ntmps166
      go_wp2
      refine wp_loop_rounds 1 ?_
      rw [rounds_succ]
      go_wp2
      go_ret; exact ⟨by rw [Hv.out]; rfl, rfl⟩
end Go.Proofs.YtaojpbgaengdpaaGreatDoor

/- DERIVED: THE SHELF's CONTRACTS AT THIS DUMP, IN PLAIN WORDS (tools/lay-plain.mjs out of 'TryzShelfA.lean', which tools/lay-shelf.mjs wrote): THE SAME DECLARATIONS UNDER THE SAME NAMES: 'import', 'namespace', 'open', 'def', 'theorem' AND NOTHING ELSE: no command of the shelf's: FOR A HAND-IN. Each laying: the table of numbers ('.._ren') and one theorem, a field a fact of the dump's own or the kernel's comparison; each contract: ONE APPLICATION. -/
namespace Go.Proofs
open Go.Shelf
def Tryz.lays156_ren : Go.Shelf.Ren := ⟨fun | 156 => 123 | 165 => 148 | 166 => 149 | 169 => 150 | 240 => 170 | 241 => 171 | 276 => 186 | 277 => 187 | n => n, fun | 31 => 51 | 9 => 9 | 3 => 3 | 4 => 4 | 0 => 0 | 20 => 20 | 72 => 207 | 76 => 211 | 70 => 204 | 37 => 205 | 75 => 210 | 127 => 227 | 164 => 235 | 5 => 5 | 80 => 213 | n => n, fun | n => n⟩
theorem Tryz.lays156 : Go.Proofs.Lays.n156 Tryz.prog Tryz.lays156_ren := {
  mixed := by kernel_rfl
  f156 := Tryz.func123.trans (congrArg some (by kernel_rfl))
  f165 := Tryz.func148.trans (congrArg some (by kernel_rfl))
  f166 := Tryz.func149.trans (congrArg some (by kernel_rfl))
  f169 := Tryz.func150.trans (congrArg some (by kernel_rfl))
  f240 := Tryz.func170.trans (congrArg some (by kernel_rfl))
  f241 := Tryz.func171.trans (congrArg some (by kernel_rfl))
  f276 := Tryz.func186.trans (congrArg some (by kernel_rfl))
  f277 := Tryz.func187.trans (congrArg some (by kernel_rfl))
  t0 := Tryz.underlying0
  a0 := Tryz.isAgg0
  z0 := Tryz.sizeOf0
  v0 := Tryz.zeroValue0
  t3 := Tryz.underlying3
  a3 := Tryz.isAgg3
  z3 := Tryz.sizeOf3
  v3 := Tryz.zeroValue3
  t4 := Tryz.underlying4
  a4 := Tryz.isAgg4
  z4 := Tryz.sizeOf4
  v4 := Tryz.zeroValue4
  t9 := Tryz.underlying9
  a9 := Tryz.isAgg9
  z9 := Tryz.sizeOf9
  v9 := Tryz.zeroValue9
  t20 := Tryz.underlying20
  a20 := Tryz.isAgg20
  z20 := Tryz.sizeOf20
  v20 := Tryz.zeroValue20
  t31 := Tryz.underlying51
  a31 := Tryz.isAgg51
  z31 := Tryz.sizeOf51
  v31 := Tryz.zeroValue51
  t37 := Tryz.underlying205
  a37 := Tryz.isAgg205
  z37 := Tryz.sizeOf205
  v37 := Tryz.zeroValue205
  t70 := Tryz.underlying204
  a70 := Tryz.isAgg204
  z70 := Tryz.sizeOf204
  v70 := Tryz.zeroValue204
  t72 := Tryz.underlying207
  a72 := Tryz.isAgg207
  z72 := Tryz.sizeOf207
  v72 := Tryz.zeroValue207
  t75 := Tryz.underlying210
  a75 := Tryz.isAgg210
  z75 := Tryz.sizeOf210
  v75 := Tryz.zeroValue210
  t76 := Tryz.underlying211
  a76 := Tryz.isAgg211
  z76 := Tryz.sizeOf211
  v76 := Tryz.zeroValue211
  t127 := Tryz.underlying227
  a127 := Tryz.isAgg227
  z127 := Tryz.sizeOf227
  v127 := Tryz.zeroValue227
  t164 := Tryz.underlying235
  a164 := Tryz.isAgg235
  z164 := Tryz.sizeOf235
  v164 := Tryz.zeroValue235 }
theorem Tryz.Builder_Extra_156 : Builder.Extra Tryz.prog Tryz.lays156_ren := {
  sizeBuilder := by kernel_rfl
  liesBuilder := by kernel_rfl
  t5 := Tryz.underlying5
  a5 := Tryz.isAgg5
  z5 := Tryz.sizeOf5
  v5 := Tryz.zeroValue5
  infoByte := by kernel_rfl
  cellsByte := by kernel_rfl
  sizeByte := by kernel_rfl
  neB5 := by decide }
open Go.RowKit in
/-- No element: the empty string; the world is as it was. (Whatever the slice's address and capacity: a nil slice too.) (LAID: no walk: one application.) -/
theorem Tryz.strings_Join_none (a : Option Addr) (c : Nat) (sep : ByteArray) (w : World) :
    Calls Tryz.prog 123 #[.slice a 0 c, .string sep] w fun e w' => e = .returned (.string ⟨#[]⟩) ∧ w' = w := Any.strings_Join_none Tryz.lays156 Tryz.Builder_Extra_156 a c sep w
open Go.RowKit in
/-- strings.Join: "Join concatenates the elements of its first argument to create a single string. The separator string sep is placed between elements in the resulting string.": HOWEVER MANY ELEMENTS. Below the heap's end the world is as it was. (LAID: no walk: one application.) -/
theorem Tryz.strings_Join (bk o c : Nat) (xs : List ByteArray) (sep : ByteArray) (w : World) (hcells : ∀ (j : Nat) x, xs[j]? = some x → w.cell? ⟨bk, o + j, none⟩ = some (.string x)) (hbk : bk < w.heap.size) (hN : xs.length ≤ 140737488355328) (hcap : xs.length ≤ c) (hlen : (Lib.join (xs.map (·.data.toList)) sep.data.toList).length ≤ 140737488355328) :
    Calls Tryz.prog 123 #[.slice (some ⟨bk, o, none⟩) xs.length c, .string sep] w fun e w' => e = .returned (.string ⟨(Lib.join (xs.map (·.data.toList)) sep.data.toList).toArray⟩) ∧ Below w.heap.size w w' := Any.strings_Join Tryz.lays156 Tryz.Builder_Extra_156 bk o c xs sep w hcells hbk hN hcap hlen
def Tryz.lays162_ren : Go.Shelf.Ren := ⟨fun | 162 => 85 | 232 => 117 | 227 => 118 | 234 => 119 | 236 => 120 | 228 => 144 | 271 => 145 | 151 => 146 | 120 => 167 | 197 => 168 | 152 => 169 | 260 => 181 | 137 => 182 | 119 => 183 | 224 => 184 | 225 => 185 | 217 => 189 | 266 => 193 | n => n, fun | 9 => 9 | 4 => 4 | 3 => 3 | 5 => 5 | 117 => 177 | 116 => 176 | 0 => 0 | 124 => 180 | 21 => 21 | 105 => 201 | 46 => 229 | 119 => 238 | 139 => 241 | 138 => 240 | n => n, fun | 3 => 1 | 4 => 2 | n => n⟩
theorem Tryz.lays162 : Go.Proofs.Lays.n162 Tryz.prog Tryz.lays162_ren := {
  mixed := by kernel_rfl
  f119 := Tryz.func183.trans (congrArg some (by kernel_rfl))
  f120 := Tryz.func167.trans (congrArg some (by kernel_rfl))
  f137 := Tryz.func182.trans (congrArg some (by kernel_rfl))
  f151 := Tryz.func146.trans (congrArg some (by kernel_rfl))
  f152 := Tryz.func169.trans (congrArg some (by kernel_rfl))
  f162 := Tryz.func85.trans (congrArg some (by kernel_rfl))
  f197 := Tryz.func168.trans (congrArg some (by kernel_rfl))
  f217 := Tryz.func189.trans (congrArg some (by kernel_rfl))
  f224 := Tryz.func184.trans (congrArg some (by kernel_rfl))
  f225 := Tryz.func185.trans (congrArg some (by kernel_rfl))
  f227 := Tryz.func118.trans (congrArg some (by kernel_rfl))
  f228 := Tryz.func144.trans (congrArg some (by kernel_rfl))
  f232 := Tryz.func117.trans (congrArg some (by kernel_rfl))
  f234 := Tryz.func119.trans (congrArg some (by kernel_rfl))
  f236 := Tryz.func120.trans (congrArg some (by kernel_rfl))
  f260 := Tryz.func181.trans (congrArg some (by kernel_rfl))
  f266 := Tryz.func193.trans (congrArg some (by kernel_rfl))
  f271 := Tryz.func145.trans (congrArg some (by kernel_rfl))
  t0 := Tryz.underlying0
  a0 := Tryz.isAgg0
  z0 := Tryz.sizeOf0
  v0 := Tryz.zeroValue0
  t3 := Tryz.underlying3
  a3 := Tryz.isAgg3
  z3 := Tryz.sizeOf3
  v3 := Tryz.zeroValue3
  t4 := Tryz.underlying4
  a4 := Tryz.isAgg4
  z4 := Tryz.sizeOf4
  v4 := Tryz.zeroValue4
  t5 := Tryz.underlying5
  a5 := Tryz.isAgg5
  z5 := Tryz.sizeOf5
  v5 := Tryz.zeroValue5
  t9 := Tryz.underlying9
  a9 := Tryz.isAgg9
  z9 := Tryz.sizeOf9
  v9 := Tryz.zeroValue9
  t21 := Tryz.underlying21
  a21 := Tryz.isAgg21
  z21 := Tryz.sizeOf21
  v21 := Tryz.zeroValue21
  t46 := Tryz.underlying229
  a46 := Tryz.isAgg229
  z46 := Tryz.sizeOf229
  v46 := Tryz.zeroValue229
  t105 := Tryz.underlying201
  a105 := Tryz.isAgg201
  z105 := Tryz.sizeOf201
  v105 := Tryz.zeroValue201
  t116 := Tryz.underlying176
  a116 := Tryz.isAgg176
  z116 := Tryz.sizeOf176
  t117 := Tryz.underlying177
  a117 := Tryz.isAgg177
  z117 := Tryz.sizeOf177
  v117 := Tryz.zeroValue177
  t119 := Tryz.underlying238
  a119 := Tryz.isAgg238
  z119 := Tryz.sizeOf238
  t124 := Tryz.underlying180
  a124 := Tryz.isAgg180
  z124 := Tryz.sizeOf180
  v124 := Tryz.zeroValue180
  t138 := Tryz.underlying240
  a138 := Tryz.isAgg240
  z138 := Tryz.sizeOf240
  v138 := Tryz.zeroValue240
  t139 := Tryz.underlying241
  a139 := Tryz.isAgg241
  z139 := Tryz.sizeOf241
  v139 := Tryz.zeroValue241
  g3 := by kernel_rfl
  g4 := by kernel_rfl }
open Go.RowKit in
/-- strings.TrimRight: "TrimRight returns a slice of the string s, with all trailing Unicode code points contained in cutset removed.": AT A cutset OF ONE ASCII BYTE. The world is as it was. (LAID: no walk: one application.) -/
theorem Tryz.strings_TrimRight_one (s : ByteArray) (c : UInt8) (hc : c.toNat < 128) (w : World) (hs : s.size ≤ 9223372036854775807) :
    Calls Tryz.prog 85 #[.string s, .string ⟨#[c]⟩] w fun e w' => e = .returned (.string ⟨(Lib.trimRightB s.data.toList c).toArray⟩) ∧ w' = w := Any.strings_TrimRight_one Tryz.lays162 s c hc w hs
def Tryz.lays143_ren : Go.Shelf.Ren := ⟨fun | 143 => 157 | 219 => 175 | 217 => 189 | 225 => 185 | 224 => 184 | 267 => 190 | 266 => 193 | 314 => 194 | n => n, fun | 9 => 9 | 3 => 3 | 4 => 4 | 5 => 5 | 46 => 229 | 146 => 243 | 51 => 242 | n => n, fun | 1 => 0 | n => n⟩
theorem Tryz.lays143 : Go.Proofs.Lays.n143 Tryz.prog Tryz.lays143_ren := {
  mixed := by kernel_rfl
  f143 := Tryz.func157.trans (congrArg some (by kernel_rfl))
  f217 := Tryz.func189.trans (congrArg some (by kernel_rfl))
  f219 := Tryz.func175.trans (congrArg some (by kernel_rfl))
  f224 := Tryz.func184.trans (congrArg some (by kernel_rfl))
  f225 := Tryz.func185.trans (congrArg some (by kernel_rfl))
  f266 := Tryz.func193.trans (congrArg some (by kernel_rfl))
  f267 := Tryz.func190.trans (congrArg some (by kernel_rfl))
  f314 := Tryz.func194.trans (congrArg some (by kernel_rfl))
  t3 := Tryz.underlying3
  a3 := Tryz.isAgg3
  z3 := Tryz.sizeOf3
  v3 := Tryz.zeroValue3
  t4 := Tryz.underlying4
  a4 := Tryz.isAgg4
  z4 := Tryz.sizeOf4
  v4 := Tryz.zeroValue4
  t5 := Tryz.underlying5
  a5 := Tryz.isAgg5
  z5 := Tryz.sizeOf5
  v5 := Tryz.zeroValue5
  t9 := Tryz.underlying9
  a9 := Tryz.isAgg9
  z9 := Tryz.sizeOf9
  v9 := Tryz.zeroValue9
  t46 := Tryz.underlying229
  a46 := Tryz.isAgg229
  z46 := Tryz.sizeOf229
  v46 := Tryz.zeroValue229
  t51 := Tryz.underlying242
  a51 := Tryz.isAgg242
  z51 := Tryz.sizeOf242
  v51 := Tryz.zeroValue242
  t146 := Tryz.underlying243
  a146 := Tryz.isAgg243
  z146 := Tryz.sizeOf243
  v146 := Tryz.zeroValue243
  g1 := by kernel_rfl }
open Go.RowKit Go.Lib in
/-- strings.Index: "Index returns the index of the first instance of substr in s, or -1 if substr is not present in s.": AT A substr OF ONE BYTE c: IT RETURNS 'Lib.indexByte s c'; the world is as it was. (LAID: no walk: one application.) -/
theorem Tryz.strings_Index_one (s : ByteArray) (c : UInt8) (w : World) :
    Calls Tryz.prog 157 #[.string s, .string ⟨#[c]⟩] w fun e w' => e = .returned (.int .i64 (Lib.indexByte s.data.toList c)) ∧ w' = w := Any.strings_Index_one Tryz.lays143 s c w
def Tryz.lays144_ren : Go.Shelf.Ren := ⟨fun | 144 => 136 | 143 => 157 | 219 => 175 | 217 => 189 | 225 => 185 | 224 => 184 | 267 => 190 | 266 => 193 | 314 => 194 | n => n, fun | 9 => 9 | 4 => 4 | 3 => 3 | 5 => 5 | 46 => 229 | 146 => 243 | 51 => 242 | n => n, fun | 1 => 0 | n => n⟩
theorem Tryz.lays144 : Go.Proofs.Lays.n144 Tryz.prog Tryz.lays144_ren := {
  mixed := by kernel_rfl
  f143 := Tryz.func157.trans (congrArg some (by kernel_rfl))
  f144 := Tryz.func136.trans (congrArg some (by kernel_rfl))
  f217 := Tryz.func189.trans (congrArg some (by kernel_rfl))
  f219 := Tryz.func175.trans (congrArg some (by kernel_rfl))
  f224 := Tryz.func184.trans (congrArg some (by kernel_rfl))
  f225 := Tryz.func185.trans (congrArg some (by kernel_rfl))
  f266 := Tryz.func193.trans (congrArg some (by kernel_rfl))
  f267 := Tryz.func190.trans (congrArg some (by kernel_rfl))
  f314 := Tryz.func194.trans (congrArg some (by kernel_rfl))
  t3 := Tryz.underlying3
  a3 := Tryz.isAgg3
  z3 := Tryz.sizeOf3
  v3 := Tryz.zeroValue3
  t4 := Tryz.underlying4
  a4 := Tryz.isAgg4
  z4 := Tryz.sizeOf4
  v4 := Tryz.zeroValue4
  t5 := Tryz.underlying5
  a5 := Tryz.isAgg5
  z5 := Tryz.sizeOf5
  v5 := Tryz.zeroValue5
  t9 := Tryz.underlying9
  a9 := Tryz.isAgg9
  z9 := Tryz.sizeOf9
  v9 := Tryz.zeroValue9
  t46 := Tryz.underlying229
  a46 := Tryz.isAgg229
  z46 := Tryz.sizeOf229
  v46 := Tryz.zeroValue229
  t51 := Tryz.underlying242
  a51 := Tryz.isAgg242
  z51 := Tryz.sizeOf242
  v51 := Tryz.zeroValue242
  t146 := Tryz.underlying243
  a146 := Tryz.isAgg243
  z146 := Tryz.sizeOf243
  v146 := Tryz.zeroValue243
  g1 := by kernel_rfl }
open Go.RowKit Go.Lib in
/-- strings.Contains: "Contains reports whether substr is within s.": AT A substr OF ONE BYTE c: IT RETURNS 'decide (0 ≤ Lib.indexByte s c)'; the world is as it was. (LAID: no walk: one application.) -/
theorem Tryz.strings_Contains_one (s : ByteArray) (c : UInt8) (w : World) :
    Calls Tryz.prog 136 #[.string s, .string ⟨#[c]⟩] w fun e w' => e = .returned (.bool (decide (0 ≤ Lib.indexByte s.data.toList c))) ∧ w' = w := Any.strings_Contains_one Tryz.lays144 s c w
def Tryz.lays149_ren : Go.Shelf.Ren := ⟨fun | 149 => 172 | 222 => 188 | n => n, fun | 9 => 9 | 5 => 5 | 3 => 3 | 4 => 4 | n => n, fun | n => n⟩
theorem Tryz.lays149 : Go.Proofs.Lays.n149 Tryz.prog Tryz.lays149_ren := {
  mixed := by kernel_rfl
  f149 := Tryz.func172.trans (congrArg some (by kernel_rfl))
  f222 := Tryz.func188.trans (congrArg some (by kernel_rfl))
  t3 := Tryz.underlying3
  a3 := Tryz.isAgg3
  z3 := Tryz.sizeOf3
  v3 := Tryz.zeroValue3
  t4 := Tryz.underlying4
  a4 := Tryz.isAgg4
  z4 := Tryz.sizeOf4
  v4 := Tryz.zeroValue4
  t5 := Tryz.underlying5
  a5 := Tryz.isAgg5
  z5 := Tryz.sizeOf5
  v5 := Tryz.zeroValue5
  t9 := Tryz.underlying9
  a9 := Tryz.isAgg9
  z9 := Tryz.sizeOf9
  v9 := Tryz.zeroValue9 }
open Go.RowKit Go.Lib in
/-- strings.LastIndexByte: "LastIndexByte returns the index of the last instance of c in s, or -1 if c is not present in s." (LAID: no walk: one application.) -/
theorem Tryz.strings_LastIndexByte (s : ByteArray) (c : Int) (hs : s.size < 4611686018427387904) (w : World) :
    Calls Tryz.prog 172 #[.string s, .int .u8 c] w fun e w' => e = .returned (.int .i64 (Lib.lastIndexByte s c)) ∧ w' = w := Any.strings_LastIndexByte Tryz.lays149 s c hs w
def Tryz.lays99_ren : Go.Shelf.Ren := ⟨fun | 99 => 90 | 206 => 124 | n => n, fun | 9 => 9 | 4 => 4 | 3 => 3 | n => n, fun | n => n⟩
theorem Tryz.lays99 : Go.Proofs.Lays.n99 Tryz.prog Tryz.lays99_ren := {
  mixed := by kernel_rfl
  f99 := Tryz.func90.trans (congrArg some (by kernel_rfl))
  f206 := Tryz.func124.trans (congrArg some (by kernel_rfl))
  t3 := Tryz.underlying3
  a3 := Tryz.isAgg3
  z3 := Tryz.sizeOf3
  v3 := Tryz.zeroValue3
  t4 := Tryz.underlying4
  a4 := Tryz.isAgg4
  z4 := Tryz.sizeOf4
  v4 := Tryz.zeroValue4
  t9 := Tryz.underlying9
  a9 := Tryz.isAgg9
  z9 := Tryz.sizeOf9
  v9 := Tryz.zeroValue9 }
open Go.RowKit Go.Lib in
/-- strings.HasPrefix: "HasPrefix reports whether the string s begins with prefix.": IT RETURNS 'Lib.hasPrefix s prefix'; the world is as it was. (LAID: no walk: one application.) -/
theorem Tryz.strings_HasPrefix (s p : ByteArray) (w : World) :
    Calls Tryz.prog 90 #[.string s, .string p] w fun e w' => e = .returned (.bool (Lib.hasPrefix s.data.toList p.data.toList)) ∧ w' = w := Any.strings_HasPrefix Tryz.lays99 s p w
def Tryz.lays101_ren : Go.Shelf.Ren := ⟨fun | 101 => 91 | 208 => 125 | 206 => 124 | n => n, fun | 9 => 9 | 4 => 4 | 3 => 3 | n => n, fun | n => n⟩
theorem Tryz.lays101 : Go.Proofs.Lays.n101 Tryz.prog Tryz.lays101_ren := {
  mixed := by kernel_rfl
  f101 := Tryz.func91.trans (congrArg some (by kernel_rfl))
  f206 := Tryz.func124.trans (congrArg some (by kernel_rfl))
  f208 := Tryz.func125.trans (congrArg some (by kernel_rfl))
  t3 := Tryz.underlying3
  a3 := Tryz.isAgg3
  z3 := Tryz.sizeOf3
  v3 := Tryz.zeroValue3
  t4 := Tryz.underlying4
  a4 := Tryz.isAgg4
  z4 := Tryz.sizeOf4
  v4 := Tryz.zeroValue4
  t9 := Tryz.underlying9
  a9 := Tryz.isAgg9
  z9 := Tryz.sizeOf9
  v9 := Tryz.zeroValue9 }
open Go.RowKit Go.Lib in
/-- strings.TrimPrefix: "TrimPrefix returns s without the provided leading prefix string. If s doesn't start with prefix, s is returned unchanged.": IT RETURNS 'Lib.trimPrefix s prefix'; the world is as it was. (LAID: no walk: one application.) -/
theorem Tryz.strings_TrimPrefix (s p : ByteArray) (w : World) :
    Calls Tryz.prog 91 #[.string s, .string p] w fun e w' => e = .returned (.string ⟨(Lib.trimPrefix s.data.toList p.data.toList).toArray⟩) ∧ w' = w := Any.strings_TrimPrefix Tryz.lays101 s p w
end Go.Proofs

/- Digits of a number, to a base; decimals; names that are tried (layer 9): plain facts. No program in sight. -/
namespace Go.Proofs.YtaojpbgaengdpaaGreatDoor

def str (l : List UInt8) : ByteArray := ⟨l.toArray⟩
theorem str_size (l : List UInt8) : (str l).size = l.length := by simp [str, ByteArray.size]
theorem str_append (a b : List UInt8) : str a ++ str b = str (a ++ b) := ByteArray.mk_append_mk a b
theorem str_inj {a b : List UInt8} (h : str a = str b) : a = b := by
  unfold str at h
  have h2 : a.toArray = b.toArray := by injection h
  simpa using congrArg Array.toList h2
theorem str_of (s : ByteArray) : str s.data.toList = s := by
  unfold str
  cases s
  simp

def digF : Nat → Nat → Nat → List UInt8
  | 0, _, _ => []
  | f + 1, b, n => if n < b then [UInt8.ofNat (48 + n)] else digF f b (n / b) ++ [UInt8.ofNat (48 + n % b)]
/-- the digits of n to the base b. -/
def dig (b n : Nat) : List UInt8 := digF (n + 1) b n

theorem digF_more (b : Nat) (hb : 2 ≤ b) : ∀ (f n : Nat), n < f → digF f b n = digF (n + 1) b n
  | 0, n, h => by omega
  | f + 1, n, h => by
    unfold digF
    by_cases hn : n < b
    · rw [if_pos hn, if_pos hn]
    · rw [if_neg hn, if_neg hn]
      have h0 : 0 < n := by omega
      have h1 : n / b < n := Nat.div_lt_self h0 (by omega)
      rw [digF_more b hb f (n / b) (by omega)]
      cases n with
      | zero => omega
      | succ m => rw [digF_more b hb (m + 1) ((m + 1) / b) h1]
theorem dig_small {b n : Nat} (h : n < b) : dig b n = [UInt8.ofNat (48 + n)] := by
  unfold dig digF; rw [if_pos h]
theorem dig_step {b n : Nat} (hb : 2 ≤ b) (h : b ≤ n) : dig b n = dig b (n / b) ++ [UInt8.ofNat (48 + n % b)] := by
  have h1 : n / b < n := Nat.div_lt_self (by omega) (by omega)
  unfold dig
  conv => lhs; unfold digF
  rw [if_neg (by omega), digF_more b hb n (n / b) h1]
theorem dig_len (b : Nat) (hb : 2 ≤ b) : ∀ (k n : Nat), n < b ^ (k + 1) → (dig b n).length ≤ k + 1
  | 0, n, h => by rw [dig_small (by simpa using h)]; simp
  | k + 1, n, h => by
    by_cases hn : n < b
    · rw [dig_small hn]; simp
    · rw [dig_step hb (by omega)]
      have : n / b < b ^ (k + 1) := by rw [Nat.div_lt_iff_lt_mul (by omega)]; rwa [Nat.pow_succ] at h
      have := dig_len b hb k (n / b) this
      simp; omega
theorem dig_pos (b n : Nat) (hb : 2 ≤ b) : 0 < (dig b n).length := by
  by_cases hn : n < b
  · rw [dig_small hn]; simp
  · rw [dig_step hb (by omega)]; simp
/-- every digit to a base of at most ten is one of 0 to 9. -/
theorem dig_bytes (b : Nat) (hb : 2 ≤ b) (hb' : b ≤ 10) (n : Nat) : ∀ c ∈ dig b n, 48 ≤ c.toNat ∧ c.toNat ≤ 57 := by
  induction n using Nat.strongRecOn with
  | _ n ih =>
    by_cases hn : n < b
    · rw [dig_small hn]
      simp only [List.mem_cons, List.not_mem_nil, or_false]
      rintro c rfl
      simp [UInt8.toNat_ofNat]
      omega
    · rw [dig_step hb (by omega)]
      intro c hc
      rcases List.mem_append.1 hc with hc | hc
      · exact ih (n / b) (Nat.div_lt_self (by omega) (by omega)) c hc
      · simp only [List.mem_cons, List.not_mem_nil, or_false] at hc
        subst hc
        have : n % b < b := Nat.mod_lt _ (by omega)
        simp [UInt8.toNat_ofNat]
        omega
/-- the number that digits tell. -/
def valD (b : Nat) (l : List UInt8) : Nat := l.foldl (fun a c => a * b + (c.toNat - 48)) 0
theorem valD_snoc (b : Nat) (l : List UInt8) (c : UInt8) : valD b (l ++ [c]) = valD b l * b + (c.toNat - 48) := by
  unfold valD; rw [List.foldl_append]; rfl
theorem valD_dig (b : Nat) (hb : 2 ≤ b) (hb' : b ≤ 10) (n : Nat) : valD b (dig b n) = n := by
  induction n using Nat.strongRecOn with
  | _ n ih =>
    by_cases hn : n < b
    · rw [dig_small hn]
      simp [valD, UInt8.toNat_ofNat]
      omega
    · rw [dig_step hb (by omega), valD_snoc, ih (n / b) (Nat.div_lt_self (by omega) (by omega))]
      have h1 : n % b < b := Nat.mod_lt _ (by omega)
      have h2 := Nat.div_add_mod n b
      have h3 : (UInt8.ofNat (48 + n % b)).toNat - 48 = n % b := by simp [UInt8.toNat_ofNat]; omega
      rw [h3, Nat.mul_comm]
      exact h2
theorem dig_inj (b : Nat) (hb : 2 ≤ b) (hb' : b ≤ 10) {n m : Nat} (h : dig b n = dig b m) : n = m := by
  rw [← valD_dig b hb hb' n, h, valD_dig b hb hb' m]

/-- a number as digits, with a minus ahead below 0. -/
def decL (n : Int) : List UInt8 := if n < 0 then 45 :: dig 10 n.natAbs else dig 10 n.toNat
theorem decL_len (n : Int) (h0 : -9223372036854775808 ≤ n) (h1 : n ≤ 9223372036854775807) : (decL n).length ≤ 21 ∧ 0 < (decL n).length := by
  unfold decL
  have e : (10 : Nat) ^ (19 + 1) = 100000000000000000000 := by decide
  split
  · have := dig_len 10 (by decide) 19 n.natAbs (by rw [e]; omega)
    simp; omega
  · have := dig_len 10 (by decide) 19 n.toNat (by rw [e]; omega)
    have := dig_pos 10 n.toNat (by decide)
    omega

theorem foldl_push (ns : List Int) : ∀ (s : List UInt8), ns.foldl (fun (r : ByteArray) n => r.push (UInt8.ofNat n.toNat)) (str s) = str (s ++ ns.map fun n => UInt8.ofNat n.toNat) := by
  induction ns with
  | nil => intro s; simp
  | cons n ns ih =>
    intro s
    rw [List.foldl_cons]
    have : (str s).push (UInt8.ofNat n.toNat) = str (s ++ [UInt8.ofNat n.toNat]) := by
      unfold str
      show ByteArray.mk (s.toArray.push _) = _
      simp
    rw [this, ih]
    simp
/-- string(b), b a slice of bytes whose cells are known. -/
theorem conv_bytes {P : Program} {src dst e : TypeId} (hs : P.underlying src = some (.slice e)) (he : P.underlying e = some (.int .u8)) (hd : P.underlying dst = some .string)
    (w : World) (B o c : Nat) (ns : List Int) (h : ∀ j, (hj : j < ns.length) → w.cell? ⟨B, o + j, none⟩ = some (.int .u8 ns[j])) :
    (convert src dst (.slice (some ⟨B, o, none⟩) ns.length c)).run P w = .ok (.string (str (ns.map fun n => UInt8.ofNat n.toNat))) w := by
  rw [run_convert_bytes_string w src dst e _ _ _ hs he hd]
  have hl : (loadCells ⟨B, o, none⟩ ns.length).run P w = .ok (ns.map (Value.int .u8)).toArray w := by
    have := run_loadCells_list (P := P) w ⟨B, o, none⟩ (ns.map (Value.int .u8)) (by
      intro j v hv
      have hj : j < ns.length := by
        have := (List.getElem?_eq_some_iff.1 hv).1
        simpa using this
      have ha : (⟨B, o, none⟩ : Addr).add j = ⟨B, o + j, none⟩ := by
        unfold Addr.add
        split
        · rename_i h0; subst h0; rfl
        · rfl
      rw [ha, h j hj]
      simpa [List.getElem?_eq_getElem hj] using hv)
    rwa [List.length_map] at this
  rw [run_bytesToString w _ _ _ ns hl]
  have := foldl_push ns []
  rw [show str [] = ByteArray.empty from rfl] at this
  rw [this, List.nil_append]
/-- string([]byte{v}). -/
theorem conv_one {P : Program} {src dst e : TypeId} (hs : P.underlying src = some (.slice e)) (he : P.underlying e = some (.int .u8)) (hd : P.underlying dst = some .string)
    (w : World) (v : Int) (E : TypeId) : (convert src dst (.slice (some ⟨w.heap.size, 0, none⟩) 1 1)).run P (w.alloc (.cells #[.int .u8 v] E)) = .ok (.string (str [UInt8.ofNat v.toNat])) (w.alloc (.cells #[.int .u8 v] E)) :=
  conv_bytes hs he hd (w.alloc (.cells #[.int .u8 v] E)) w.heap.size 0 1 [v] (by
    intro j hj
    simp only [List.length_cons, List.length_nil, Nat.zero_add, Nat.lt_one_iff] at hj
    subst hj
    simp)

theorem ba_ext {a b : ByteArray} (h : a.toList = b.toList) : a = b := by
  rw [ByteArray.toList_eq, ByteArray.toList_eq] at h
  cases a; cases b
  simp at h
  subst h; rfl
/-- the test of two strings, in the walk's own form. -/
theorem str_beq {a b : ByteArray} (h : a = b) : (a.toList == b.toList) = true := by subst h; simp
theorem str_bne {a b : ByteArray} (h : a ≠ b) : (a.toList == b.toList) = false := by
  simp only [beq_eq_false_iff_ne]
  exact fun e => h (ba_ext e)
end Go.Proofs.YtaojpbgaengdpaaGreatDoor
