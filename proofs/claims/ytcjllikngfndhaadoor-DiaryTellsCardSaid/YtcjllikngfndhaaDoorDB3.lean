/- Texts of the proof, part 3. -/
import Derived.Laws.BytesArg
import Derived.Deep.CutBlock
import Derived.Deep.DeepCutAuto
import Derived.RegionTactic
import Derived.BigRegion
import Derived.OrdersHeld
import Derived.Deep.RegionHeld3
import Derived.Test.YtcjllikngfndhaaDoorDB1
import Derived.Test.YtcjllikngfndhaaDoorDB2
/- Percent signs: a digit to the base 16, of the reference; its decoding. -/
namespace Go.Proofs.YtcjllikngfndhaaDoor

open Go.RowKit

/-- the reference's digit: 16 where there is none. -/
def hexR (c : UInt8) : Int := if hexV c = -1 then 16 else hexV c
def dgt (j : Nat) : Nat := if j < 10 then 48 + j else 87 + j
theorem hexV_eq (c : UInt8) : hexV c = if 48 ≤ c.toNat ∧ c.toNat ≤ 57 then (c.toNat : Int) - 48 else if 97 ≤ c.toNat ∧ c.toNat ≤ 102 then (c.toNat : Int) - 87 else if 65 ≤ c.toNat ∧ c.toNat ≤ 70 then (c.toNat : Int) - 55 else -1 := by
  unfold hexV
  simp only [u8_le]
  rfl
theorem hexV_cases (c : UInt8) : (48 ≤ c.toNat ∧ c.toNat ≤ 57 ∧ hexV c = (c.toNat : Int) - 48) ∨ (97 ≤ c.toNat ∧ c.toNat ≤ 102 ∧ hexV c = (c.toNat : Int) - 87) ∨ (65 ≤ c.toNat ∧ c.toNat ≤ 70 ∧ hexV c = (c.toNat : Int) - 55) ∨
    (hexV c = -1 ∧ ¬ (48 ≤ c.toNat ∧ c.toNat ≤ 57) ∧ ¬ (97 ≤ c.toNat ∧ c.toNat ≤ 102) ∧ ¬ (65 ≤ c.toNat ∧ c.toNat ≤ 70)) := by
  rw [hexV_eq]
  (repeat' split) <;> omega
theorem lowhex_idx (r : Nat) (h : r < 16) (hb : r < (ByteArray.mk #[48, 49, 50, 51, 52, 53, 54, 55, 56, 57, 97, 98, 99, 100, 101, 102]).size) : ((ByteArray.mk #[48, 49, 50, 51, 52, 53, 54, 55, 56, 57, 97, 98, 99, 100, 101, 102])[r]'hb).toNat = dgt r := by
  match r, h with
  | 0, _ => rfl
  | 1, _ => rfl
  | 2, _ => rfl
  | 3, _ => rfl
  | 4, _ => rfl
  | 5, _ => rfl
  | 6, _ => rfl
  | 7, _ => rfl
  | 8, _ => rfl
  | 9, _ => rfl
  | 10, _ => rfl
  | 11, _ => rfl
  | 12, _ => rfl
  | 13, _ => rfl
  | 14, _ => rfl
  | 15, _ => rfl
  | r + 16, h => exact absurd h (by omega)
theorem hexR_found (c : UInt8) (m k : Nat) (hm : m = if 65 ≤ c.toNat ∧ c.toNat ≤ 70 then c.toNat + 32 else c.toNat) (hk : k < 16) (h : dgt k = m) : hexR c = k := by
  have hv := hexV_cases c
  unfold hexR
  unfold dgt at h
  split at hm <;> split at h <;> split <;> omega
theorem hexR_none (c : UInt8) (m : Nat) (hm : m = if 65 ≤ c.toNat ∧ c.toNat ≤ 70 then c.toNat + 32 else c.toNat) (h : ∀ k, k < 16 → dgt k ≠ m) : hexR c = 16 := by
  have hv := hexV_cases c
  unfold hexR
  split
  · rfl
  · exfalso
    have h1 := h (hexV c).toNat (by omega)
    unfold dgt at h1
    split at hm <;> split at h1 <;> omega

set_option maxRecDepth 100000 in
set_option maxHeartbeats 1000000 in
theorem rdigit_any (c : UInt8) (w : World) :
    Calls Tryd.prog 77 #[.int .u8 c.toNat] w fun e w' => e = .returned (.int .i64 (hexR c)) ∧ w = w' := by
  have hc := u8_lt c
  have HF := Lib.hid (hexR_found c)
  have HN := Lib.hid (hexR_none c)
  generalize c.toNat = n at hc HF HN ⊢
  obtain ⟨m, hm⟩ : ∃ m, m = if 65 ≤ n ∧ n ≤ 70 then n + 32 else n := ⟨_, rfl⟩
  have Hm := Lib.hid hm
  rcases (show (65 ≤ n ∧ n ≤ 70 ∧ m = n + 32) ∨ (¬ (65 ≤ n ∧ n ≤ 70) ∧ m = n) by rw [hm]; split <;> omega) with ⟨h6, h7, h8⟩ | ⟨h6, h8⟩
  · clear hm
    have H8 := Lib.hid h8
    clear h8
    go_enter Tryd.func77, Tryd.ntmps77
    go_wp2_with fail
    go_loop [4] (fun t4 => ∃ k : Nat, k ≤ 16 ∧ t4 = .int .i64 k ∧ ∀ j, j < k → dgt j ≠ m) (fun t4 => 16 - (intOf t4).toNat)
    case atStart => exact ⟨0, by omega, rfl, fun j h => absurd h (Nat.not_lt_zero _)⟩
    case round =>
      obtain ⟨k, hk, rfl, hn⟩ := hrel
      have Hn := Lib.hid hn
      clear hn
      by_cases hlt : k < 16
      · have hx := lowhex_idx k hlt (by simpa [ByteArray.size] using hlt)
        by_cases he : dgt k = m
        · have HE := Lib.hid he
          have he1 : ((dgt k : Int) == (n : Int) + 32) = true := by
            rw [he, H8.out]; simp
          clear he
          go_wp2_with fail
          go_ret
          exact ⟨ret_int64 (by rw [HF.out m k Hm.out hlt HE.out]), rfl⟩
        · have HE := Lib.hid he
          have he1 : ((dgt k : Int) == (n : Int) + 32) = false := by
            simp only [beq_eq_false_iff_ne, ne_eq]
            intro h
            exact he (by have := H8.out; omega)
          clear he
          go_wp2_with fail
          go_round
          case measure => simp [intOf]; omega
          case rel =>
            refine ⟨k + 1, by omega, by go_num, fun j hj => ?_⟩
            by_cases e : j = k
            · subst e; exact HE.out
            · exact Hn.out j (by omega)
      · obtain rfl : k = 16 := by omega
        go_wp2_with fail
        go_ret
        exact ⟨ret_int64 (by rw [HN.out m Hm.out Hn.out]), rfl⟩
  · clear hm
    have H8 := Lib.hid h8
    clear h8
    by_cases h7 : 65 ≤ n
    · have h9 : 70 < n := by omega
      clear h6
      go_enter Tryd.func77, Tryd.ntmps77
      go_wp2_with fail
      go_loop [4] (fun t4 => ∃ k : Nat, k ≤ 16 ∧ t4 = .int .i64 k ∧ ∀ j, j < k → dgt j ≠ m) (fun t4 => 16 - (intOf t4).toNat)
      case atStart => exact ⟨0, by omega, rfl, fun j h => absurd h (Nat.not_lt_zero _)⟩
      case round =>
        obtain ⟨k, hk, rfl, hn⟩ := hrel
        have Hn := Lib.hid hn
        clear hn
        by_cases hlt : k < 16
        · have hx := lowhex_idx k hlt (by simpa [ByteArray.size] using hlt)
          by_cases he : dgt k = m
          · have HE := Lib.hid he
            have he1 : ((dgt k : Int) == (n : Int)) = true := by
              rw [he, H8.out]; simp
            clear he
            go_wp2_with fail
            go_ret
            exact ⟨ret_int64 (by rw [HF.out m k Hm.out hlt HE.out]), rfl⟩
          · have HE := Lib.hid he
            have he1 : ((dgt k : Int) == (n : Int)) = false := by
              simp only [beq_eq_false_iff_ne, ne_eq]
              intro h
              exact he (by have := H8.out; omega)
            clear he
            go_wp2_with fail
            go_round
            case measure => simp [intOf]; omega
            case rel =>
              refine ⟨k + 1, by omega, by go_num, fun j hj => ?_⟩
              by_cases e : j = k
              · subst e; exact HE.out
              · exact Hn.out j (by omega)
        · obtain rfl : k = 16 := by omega
          go_wp2_with fail
          go_ret
          exact ⟨ret_int64 (by rw [HN.out m Hm.out Hn.out]), rfl⟩
    · have h9 : n < 65 := by omega
      clear h6 h7
      go_enter Tryd.func77, Tryd.ntmps77
      go_wp2_with fail
      go_loop [4] (fun t4 => ∃ k : Nat, k ≤ 16 ∧ t4 = .int .i64 k ∧ ∀ j, j < k → dgt j ≠ m) (fun t4 => 16 - (intOf t4).toNat)
      case atStart => exact ⟨0, by omega, rfl, fun j h => absurd h (Nat.not_lt_zero _)⟩
      case round =>
        obtain ⟨k, hk, rfl, hn⟩ := hrel
        have Hn := Lib.hid hn
        clear hn
        by_cases hlt : k < 16
        · have hx := lowhex_idx k hlt (by simpa [ByteArray.size] using hlt)
          by_cases he : dgt k = m
          · have HE := Lib.hid he
            have he1 : ((dgt k : Int) == (n : Int)) = true := by
              rw [he, H8.out]; simp
            clear he
            go_wp2_with fail
            go_ret
            exact ⟨ret_int64 (by rw [HF.out m k Hm.out hlt HE.out]), rfl⟩
          · have HE := Lib.hid he
            have he1 : ((dgt k : Int) == (n : Int)) = false := by
              simp only [beq_eq_false_iff_ne, ne_eq]
              intro h
              exact he (by have := H8.out; omega)
            clear he
            go_wp2_with fail
            go_round
            case measure => simp [intOf]; omega
            case rel =>
              refine ⟨k + 1, by omega, by go_num, fun j hj => ?_⟩
              by_cases e : j = k
              · subst e; exact HE.out
              · exact Hn.out j (by omega)
        · obtain rfl : k = 16 := by omega
          go_wp2_with fail
          go_ret
          exact ⟨ret_int64 (by rw [HN.out m Hm.out Hn.out]), rfl⟩
end Go.Proofs.YtcjllikngfndhaaDoor

/- Percent signs: decoding in plain Lean; bytes of the call's own. -/
namespace Go.Proofs.YtcjllikngfndhaaDoor

open Go.RowKit

/-- a text without percent signs; none: it can't be. -/
def decP : List UInt8 → Option (List UInt8)
  | [] => some []
  | c :: l => if c ≠ 37 then (decP l).map (c :: ·) else match l with
    | a :: b :: r => if hexV a = -1 ∨ hexV b = -1 then none else (decP r).map (UInt8.ofNat (16 * hexV a + hexV b).toNat :: ·)
    | _ => none
theorem decP_plain {c : UInt8} (h : c ≠ 37) (l : List UInt8) : decP (c :: l) = (decP l).map (c :: ·) := by
  rcases l with _ | ⟨a, _ | ⟨b, r⟩⟩ <;> simp [decP, h]
theorem decP_two (a b : UInt8) (r : List UInt8) : decP (37 :: a :: b :: r) = if hexV a = -1 ∨ hexV b = -1 then none else (decP r).map (UInt8.ofNat (16 * hexV a + hexV b).toNat :: ·) := by simp [decP]
theorem decP_one (a : UInt8) : decP [37, a] = none := by simp [decP]
theorem decP_zero : decP [37] = none := by simp [decP]
/-- what is left behind place i, with what has come so far. -/
def decAt (s : ByteArray) (i : Nat) (o : List UInt8) : Prop := decP s.data.toList = (decP (s.data.toList.drop i)).map (o ++ ·)
theorem decAt_start (s : ByteArray) : decAt s 0 [] := by unfold decAt; simp
theorem drop_step (s : ByteArray) (i : Nat) (h : i < s.size) : s.data.toList.drop i = s[i] :: s.data.toList.drop (i + 1) := by
  rw [List.drop_eq_getElem_cons (by simpa using h)]; rfl
theorem decAt_end {s : ByteArray} {o : List UInt8} (h : decAt s s.size o) : decP s.data.toList = some o := by
  unfold decAt at h
  rw [h, List.drop_of_length_le (show s.data.toList.length ≤ s.size from Nat.le_of_eq Array.length_toList)]
  simp [decP]
theorem decAt_plain {s : ByteArray} {i : Nat} {o : List UInt8} (h : decAt s i o) (hi : i < s.size) (hc : s[i] ≠ 37) : decAt s (i + 1) (o ++ [s[i]]) := by
  unfold decAt at h ⊢
  rw [h, drop_step s i hi, decP_plain hc]
  cases decP (s.data.toList.drop (i + 1)) <;> simp
theorem decAt_short {s : ByteArray} {i : Nat} {o : List UInt8} (h : decAt s i o) (hi : i < s.size) (hc : s[i] = 37) (hs : s.size < i + 3) : decP s.data.toList = none := by
  unfold decAt at h
  rw [h, drop_step s i hi, hc]
  rcases hd : s.data.toList.drop (i + 1) with _ | ⟨a, _ | ⟨b, r⟩⟩
  · rw [decP_zero]; rfl
  · rw [decP_one]; rfl
  · exfalso
    have := congrArg List.length hd
    rw [List.length_drop, show s.data.toList.length = s.size from Array.length_toList] at this
    simp at this
    omega
theorem decAt_bad {s : ByteArray} {i : Nat} {o : List UInt8} (h : decAt s i o) (hi : i + 2 < s.size) (hc : s[i] = 37) (hs : hexV s[i + 1] = -1 ∨ hexV s[i + 2] = -1) : decP s.data.toList = none := by
  unfold decAt at h
  rw [h, drop_step s i (by omega), drop_step s (i + 1) (by omega), drop_step s (i + 2) hi, hc, decP_two, if_pos hs]
  rfl
theorem decAt_two {s : ByteArray} {i : Nat} {o : List UInt8} (h : decAt s i o) (hi : i + 2 < s.size) (hc : s[i] = 37) (h1 : hexV s[i + 1] ≠ -1) (h2 : hexV s[i + 2] ≠ -1) :
    decAt s (i + 3) (o ++ [UInt8.ofNat (16 * hexV s[i + 1] + hexV s[i + 2]).toNat]) := by
  unfold decAt at h ⊢
  rw [h, drop_step s i (by omega), drop_step s (i + 1) (by omega), drop_step s (i + 2) hi, hc, decP_two, if_neg (by rintro (e | e); exact h1 e; exact h2 e)]
  cases decP (s.data.toList.drop (i + 2 + 1)) <;> simp

/-- bytes of the call's own. -/
def OB (w : World) (base : Nat) (v : Value) (l : List UInt8) : Prop := w.ownsRow base 5 1 v l.length (Lib.byteCells l)
theorem info_u8d : (Tryd.prog.info? 5).map (fun i => (i.zero, i.size, i.bytes)) = some (some (.int .u8 0), 1, 1) := by kernel_rfl
theorem OB.app {w : World} {base : Nat} {v : Value} {l : List UInt8} (h : OB w base v l) (c : UInt8) (hl : l.length ≤ 1000000000) (hb : base ≤ w.heap.size) :
    ∃ g cap W, (Builtin.append_ #[53, 53] 53 #[v, .slice (some ⟨w.heap.size, 0, none⟩) 1 1]).run Tryd.prog (w.alloc (.cells #[.int .u8 c.toNat] 5)) = .ok (.slice (some ⟨g, 0, none⟩) (l.length + 1) cap) W ∧
      OB W base (.slice (some ⟨g, 0, none⟩) (l.length + 1) cap) (l ++ [c]) ∧ Below base w W := by
  obtain ⟨i0, hi, hz0, hz1, hz2⟩ := info_parts info_u8d
  have ho := World.ownsRow.alloc h (.cells #[.int .u8 c.toNat] 5)
  obtain ⟨g, cap, W, h1, h2, h3, h4⟩ := step_app 53 Tryd.underlying53 hi hz0 hz1 hz2 rfl (by omega) ho ⟨w.heap.size, 0, none⟩ 1 1 [.int .u8 c.toNat] rfl (World.news_of_block (Blk.new w #[.int .u8 c.toNat] 5)) (by intro u hu; simp at hu; subst hu; rfl) (by omega) (by unfold maxLen; omega) (by omega) (by simp; omega)
  refine ⟨g, cap, W, h1, ?_, ?_⟩
  · unfold OB
    rw [List.length_append, List.length_singleton]
    simpa [Lib.byteCells] using h2
  · refine (((Below.refl base w).alloc hb _)).trans (h3.below (fun k hk => (h.lt k hk).1) (by simp; omega))
theorem OB.nil (w : World) (base : Nat) : OB w base (.slice none 0 0) [] := World.ownsRow_nil _ _ _ _
set_option maxRecDepth 100000 in
theorem OB.conv {w : World} {base : Nat} {v : Value} {l : List UInt8} (h : OB w base v l) : (convert 53 9 v).run Tryd.prog w = .ok (.string (str l)) w := by
  rcases h.2 with ⟨rfl, h0⟩ | ⟨g, cap, cur, rfl, hb, hg, h1, h2, h3, h4⟩
  · have : l = [] := List.eq_nil_of_length_eq_zero h0
    subst this
    exact run_convert_bytes_nil w 53 5 Tryd.underlying53 Tryd.underlying5 0 0 9 Tryd.underlying9
  · have hcell := h.cells (g := g) rfl
    have := conv_bytes (P := Tryd.prog) (src := 53) (dst := 9) Tryd.underlying53 Tryd.underlying5 Tryd.underlying9 w g 0 cap (l.map fun c => (c.toNat : Int)) (by
      intro j hj
      have := hcell j (.int .u8 (l.map fun c => (c.toNat : Int))[j]) (by
        unfold Lib.byteCells
        rw [List.length_map] at hj
        simp [hj])
      rwa [addr_add] at this)
    rw [List.length_map, List.map_map] at this
    rw [this]
    congr 2
    congr 1
    rw [List.map_congr_left (g := id)]
    · simp
    · intro c _
      simp
theorem OB.appZ {w : World} {base : Nat} {v : Value} {l : List UInt8} (h : OB w base v l) (z : Int) (c : UInt8) (hz : z = c.toNat) (hl : l.length ≤ 1000000000) (hb : base ≤ w.heap.size) :
    ∃ g cap W, (Builtin.append_ #[53, 53] 53 #[v, .slice (some ⟨w.heap.size, 0, none⟩) 1 1]).run Tryd.prog (w.alloc (.cells #[.int .u8 z] 5)) = .ok (.slice (some ⟨g, 0, none⟩) (l.length + 1) cap) W ∧
      OB W base (.slice (some ⟨g, 0, none⟩) (l.length + 1) cap) (l ++ [c]) ∧ Below base w W := by
  subst hz
  exact h.app c hl hb
theorem ofInt_i64n (a : Nat) (ha : a < 9223372036854775808) : (BitVec.ofInt 64 (a : Int)).toNat = a := by
  rw [BitVec.ofInt_natCast, BitVec.toNat_ofNat]; exact Nat.mod_eq_of_lt (by omega)
theorem or_i64n (a b : Nat) (ha : a < 9223372036854775808) (hb : b < 9223372036854775808) : bits .or .i64 (a : Int) (b : Int) = ((a ||| b : Nat) : Int) := by
  have hx : a ||| b < 2 ^ 63 := Nat.or_lt_two_pow (by omega) (by omega)
  show IntKind.i64.wrap ((BitVec.ofInt 64 (a : Int) ||| BitVec.ofInt 64 (b : Int)).toNat : Int) = _
  rw [BitVec.toNat_or, ofInt_i64n a ha, ofInt_i64n b hb, IntKind.wrap_i64]
  omega
theorem or16 (A B : Int) (hA0 : 0 ≤ A) (hA1 : A ≤ 15) (hB0 : 0 ≤ B) (hB1 : B ≤ 15) : bits .or .i64 (A * 16) B = 16 * A + B := by
  obtain ⟨a, rfl⟩ : ∃ a : Nat, A = a := ⟨A.toNat, by omega⟩
  obtain ⟨b, rfl⟩ : ∃ b : Nat, B = b := ⟨B.toNat, by omega⟩
  have key : ∀ a, a < 16 → ∀ b, b < 16 → (a * 16 ||| b) = 16 * a + b := by decide
  have h := or_i64n (a * 16) b (by omega) (by omega)
  rw [key a (by omega) b (by omega)] at h
  rw [show ((a : Int) * 16) = ((a * 16 : Nat) : Int) by omega, h]
  omega
end Go.Proofs.YtcjllikngfndhaaDoor

/- Percent signs: Decode of the program. -/
namespace Go.Proofs.YtcjllikngfndhaaDoor

open Go.RowKit

def decRes : Option (List UInt8) → Value
  | some l => .tuple #[.string (str l), .int .i64 0]
  | none => .tuple #[.string ByteArray.empty, .int .i64 2]

theorem below_dr {N : Nat} (w : World) (n : Nat) : Below N w (w.drewN n) := ⟨rfl, rfl, rfl, Nat.le_refl _, fun _ _ => rfl⟩

set_option maxRecDepth 100000 in
set_option maxHeartbeats 1000000 in
theorem decode_any (s : ByteArray) (w : World) (hs : s.size ≤ 100000) :
    Calls Tryd.prog 42 #[.string s] w fun e w' => e = .returned (decRes (decP s.data.toList)) ∧ Below w.heap.size w w' := by
  go_enter Tryd.func42, Tryd.ntmps42
  go_wp2_with fail
  go_loopw [4, 5, 6, 7] (fun t4 t5 t6 t7 wr => ∃ (k : Nat) (o : List UInt8), k ≤ s.size ∧ t5 = .int .i64 k ∧ OB wr w.heap.size t4 o ∧ o.length ≤ k ∧ decAt s k o ∧ Below w.heap.size w wr) (fun _ t5 _ _ _ => s.size - (intOf t5).toNat)
  case atStart => exact ⟨0, [], Nat.zero_le _, rfl, OB.nil _ _, Nat.le_refl _, decAt_start s, Below.refl _ _⟩
  case round =>
    obtain ⟨k, o, hk, rfl, hO, hol, hd, hW⟩ := hrel
    have HO := Lib.hid hO
    have HD := Lib.hid hd
    have HW := Lib.hid hW
    clear hO hd hW
    by_cases hlt : k < s.size
    · by_cases hc : s[k] = 37
      · have hc1 : ((s[k].toNat : Int) == 37) = true := by rw [hc]; rfl
        have hc2 : ((s[k].toNat : Int) != 37) = false := by rw [bne, hc1]; rfl
        have HC := Lib.hid hc
        clear hc
        by_cases h3 : k + 2 < s.size
        · have hk1 : IntKind.i64.wrap ((k : Int) + 1) = (k : Int) + 1 := by simp [IntKind.wrap, IntKind.bits, IntKind.signed]; omega
          have hk2 : IntKind.i64.wrap ((k : Int) + 2) = (k : Int) + 2 := by simp [IntKind.wrap, IntKind.bits, IntKind.signed]; omega
          have hk3 : ((k : Int) + 1).toNat = k + 1 := by omega
          have hk4 : ((k : Int) + 2).toNat = k + 2 := by omega
          have hk5 : (0 : Int) ≤ (k : Int) + 1 := by omega
          have hk6 : (0 : Int) ≤ (k : Int) + 2 := by omega
          have hk7 : (k : Int) + 1 < (s.size : Int) := by omega
          have hk8 : (k : Int) + 2 < (s.size : Int) := by omega
          have hk9 : k + 1 < s.size := by omega
          have HKs := Lib.hid (And.intro hk1 hk2)
          clear hk1 hk2
          go_wp2_with fail
          obtain ⟨hk1, hk2⟩ := HKs.out
          go_quiet ((go_at_call 61; exact Calls.quiet_of_same ((hexdigit_any _ _).mono fun _ _ ⟨h1, h2⟩ => ⟨h1, h2.symm⟩)))
          have HV := Lib.hid (And.intro (hexV_cases s[k + 1]) (hexV_cases s[k + 2]))
          have HBad := Lib.hid (decAt_bad HD.out h3 HC.out)
          have HTwo := Lib.hid (decAt_two HD.out h3 HC.out)
          have uA := u8_lt s[k + 1]
          have uB := u8_lt s[k + 2]
          have hAr : hexV s[k + 1] = -1 ∨ (0 ≤ hexV s[k + 1] ∧ hexV s[k + 1] ≤ 15) := by have := HV.out.1; omega
          have hBr : hexV s[k + 2] = -1 ∨ (0 ≤ hexV s[k + 2] ∧ hexV s[k + 2] ≤ 15) := by have := HV.out.2; omega
          clear uA uB HV
          generalize hexV s[k + 1] = A at hAr HBad HTwo ⊢
          generalize hexV s[k + 2] = B at hBr HBad HTwo ⊢
          rcases hAr with rfl | ⟨hA0, hA1⟩
          · have HN := Lib.hid (HBad.out (.inl rfl))
            go_wp2_with fail
            go_ret2
            exact ⟨by rw [HN.out]; rfl, HW.out.trans (below_dr _ _)⟩
          · rcases hBr with rfl | ⟨hB0, hB1⟩
            · have HN := Lib.hid (HBad.out (.inr rfl))
              go_wp2_with fail
              go_ret2
              exact ⟨by rw [HN.out]; rfl, HW.out.trans (below_dr _ _)⟩
            · have HT := Lib.hid (HTwo.out (by omega) (by omega))
              have hor := or16 A B hA0 hA1 hB0 hB1
              have HOd : OB (wr.drewN nq) w.heap.size _ o := HO.out
              obtain ⟨g, cap, W, hrun, hO', hB'⟩ := HOd.appZ (16 * A + B) (UInt8.ofNat (16 * A + B).toNat) (by rw [UInt8.toNat_ofNat']; omega) (by omega) HW.out.size
              have HR := Lib.hid hrun
              have HX := Lib.hid (And.intro hO' hB')
              clear hrun hO' hB' HOd
              go_wp2_with (at_builtin; refine wpList_app_run rfl rfl rfl rfl HR.out ?_)
              go_roundw
              case measure => simp [intOf]; omega
              case rel => exact ⟨k + 3, _, by omega, by go_num, HX.out.1, by simp; omega, HT.out, HW.out.trans ((below_dr _ _).trans HX.out.2)⟩
        · have HN := Lib.hid (decAt_short HD.out hlt HC.out (by omega))
          go_wp2_with fail
          go_ret2
          exact ⟨by rw [HN.out]; rfl, HW.out⟩
      · have hc1 : ((s[k].toNat : Int) == 37) = false := by
          simp only [beq_eq_false_iff_ne, ne_eq]
          intro h
          exact hc (by rw [u8_eq]; show s[k].toNat = 37; omega)
        have hc2 : ((s[k].toNat : Int) != 37) = true := by rw [bne, hc1]; rfl
        obtain ⟨g, cap, W, hrun, hO', hB'⟩ := HO.out.app s[k] (by omega) HW.out.size
        have HR := Lib.hid hrun
        have HX := Lib.hid (And.intro hO' hB')
        have HC := Lib.hid hc
        clear hrun hO' hB' hc
        go_wp2_with (at_builtin; refine wpList_app_run rfl rfl rfl rfl HR.out ?_)
        go_roundw
        case measure => simp [intOf]; omega
        case rel => exact ⟨k + 1, o ++ [s[k]], by omega, by go_num, HX.out.1, by simp; omega, decAt_plain HD.out hlt HC.out, HW.out.trans HX.out.2⟩
    · obtain rfl : k = s.size := by omega
      have hcv := HO.out.conv
      have HE := Lib.hid (decAt_end HD.out)
      go_wp2_with fail
      go_ret2
      exact ⟨by rw [HE.out]; rfl, HW.out⟩
end Go.Proofs.YtcjllikngfndhaaDoor

/- The note of a line (layer 39), in plain Lean: of the program. -/
namespace Go.Proofs.YtcjllikngfndhaaDoor

open Go.RowKit

def numT (l : List UInt8) : Int := if l.head? = some 45 then -(valD 10 (l.drop 1) : Int) else (valD 10 l : Int)
/-- the number that a text tells. -/
def numC (l : List UInt8) : Option Int := if decL (numT l) = l ∧ -9223372036854775808 ≤ numT l ∧ numT l ≤ 9223372036854775807 then some (numT l) else none
theorem numC_decL (n : Int) (h0 : -9223372036854775808 ≤ n) (h1 : n ≤ 9223372036854775807) : numC (decL n) = some n := by
  have key : numT (decL n) = n := by
    unfold numT decL
    by_cases hn : n < 0
    · rw [if_pos hn, List.head?_cons, if_pos rfl, List.drop_succ_cons, List.drop_zero, valD_dig 10 (by omega) (by omega)]
      omega
    · rw [if_neg hn, if_neg, valD_dig 10 (by omega) (by omega)]
      · omega
      · intro e
        have := dig_bytes 10 (by omega) (by omega) n.toNat 45 (List.mem_of_head? e)
        exact absurd this.1 (by decide)
  unfold numC
  rw [key, if_pos ⟨rfl, h0, h1⟩]
theorem numC_ok (s : ByteArray) : NumOk s (numC s.data.toList) := by
  by_cases h : ∃ n : Int, str (decL n) = s ∧ -9223372036854775808 ≤ n ∧ n ≤ 9223372036854775807
  · obtain ⟨n, hn, h0, h1⟩ := h
    rw [list_of_str hn, numC_decL n h0 h1]
    exact ⟨hn, h0, h1⟩
  · have : numC s.data.toList = none := by
      unfold numC
      rw [if_neg]
      rintro ⟨h1, h2, h3⟩
      exact h ⟨_, by rw [h1, str_of], h2, h3⟩
    rw [this]
    exact fun n h0 h1 e => h ⟨n, e, h0, h1⟩
theorem numC_of {s : ByteArray} {r : Option Int} (h : NumOk s r) : r = numC s.data.toList := NumOk.one h (numC_ok s)
theorem numC_range {l : List UInt8} {n : Int} (h : numC l = some n) : -9223372036854775808 ≤ n ∧ n ≤ 9223372036854775807 ∧ decL n = l := by
  unfold numC at h
  split at h
  · rename_i hh
    injection h with h
    subst h
    exact ⟨hh.2.1, hh.2.2, hh.1⟩
  · cases h

def chk (x : Nt) : Option Nt := if mayB x then some x else none
/-- the note of a kind, with a number, of these words. -/
def mkN (k : List UInt8) (no : Int) : List (List UInt8) → Nt
  | [a, b] => if k = [109] then ⟨109, no, str a, str b, ByteArray.empty⟩ else if k = [99] then ⟨99, no, ByteArray.empty, str a, str b⟩ else ⟨0, 0, ByteArray.empty, ByteArray.empty, ByteArray.empty⟩
  | [a, b, c] => if k = [120] then ⟨120, no, str a, str b, str c⟩ else ⟨0, 0, ByteArray.empty, ByteArray.empty, ByteArray.empty⟩
  | _ => ⟨0, 0, ByteArray.empty, ByteArray.empty, ByteArray.empty⟩
def mkNote : List (List UInt8) → Option Nt
  | k :: n :: r => if r.length < 2 then none else match numC n with
    | some no => chk (mkN k no r)
    | none => none
  | _ => none
/-- the note of a line. -/
def noteL (l : List UInt8) : Option Nt := match (spl 32 l).mapM decP with
  | some ws => mkNote ws
  | none => none

theorem mapM_take {α β : Type} {f : α → Option β} (l : List α) (k : Nat) (hk : k < l.length) {ds : List β} (h : (l.take k).mapM f = some ds) : (l.take (k + 1)).mapM f = (f l[k]).map (fun y => ds ++ [y]) := by
  rw [List.take_succ_eq_append_getElem hk, List.mapM_append, h]
  simp only [List.mapM_cons, List.mapM_nil]
  cases f l[k] <;> rfl
theorem mapM_none {α β : Type} {f : α → Option β} (l : List α) (k : Nat) (h : (l.take k).mapM f = none) : l.mapM f = none := by
  rw [← List.take_append_drop k l, List.mapM_append, h]
  rfl
theorem mapM_len {α β : Type} {f : α → Option β} {l : List α} {r : List β} (h : l.mapM f = some r) : r.length = l.length := (mapM_get l r h).1
theorem decP_len : ∀ (n : Nat) (l o : List UInt8), l.length ≤ n → decP l = some o → o.length ≤ l.length
  | _, [], o, _, h => by simp [decP] at h; subst h; simp
  | 0, _ :: _, _, hn, _ => by simp at hn
  | n + 1, c :: l, o, hn, h => by
    by_cases hc : c = 37
    · subst hc
      rcases l with _ | ⟨a, _ | ⟨b, r⟩⟩
      · rw [decP_zero] at h; cases h
      · rw [decP_one] at h; cases h
      · rw [decP_two] at h
        split at h
        · cases h
        · cases hr : decP r with
          | none => rw [hr] at h; cases h
          | some p =>
            rw [hr] at h
            have := decP_len n r p (by simp at hn; omega) hr
            injection h with h
            subst h
            simp; omega
    · rw [decP_plain hc] at h
      cases hr : decP l with
      | none => rw [hr] at h; cases h
      | some p =>
        rw [hr] at h
        have := decP_len n l p (by simpa using hn) hr
        injection h with h
        subst h
        simp; omega
theorem words_size {l : List UInt8} {ws : List (List UInt8)} (h : (spl 32 l).mapM decP = some ws) : ∀ x ∈ ws, x.length ≤ l.length := by
  intro x hx
  obtain ⟨h1, h2⟩ := mapM_get _ _ h
  obtain ⟨i, hi, rfl⟩ := List.mem_iff_getElem.1 hx
  have h3 := h2 i (by omega)
  rw [List.getElem?_eq_getElem hi] at h3
  have h4 := decP_len _ _ _ (Nat.le_refl _) h3
  have h5 := spl_size 32 l _ (List.getElem_mem (l := spl 32 l) (n := i) (by omega))
  omega
end Go.Proofs.YtcjllikngfndhaaDoor

/- diary.note. -/
namespace Go.Proofs.YtcjllikngfndhaaDoor

open Go.RowKit

def Nt.zero : Nt := ⟨0, 0, ByteArray.empty, ByteArray.empty, ByteArray.empty⟩
theorem may_zero : mayB Nt.zero = false := rfl
/-- what note answers. -/
def NoteRes (l : List UInt8) (e : Ending) : Prop := ∃ x b, e = .returned (.tuple #[Nt.v x, .bool b]) ∧ noteL l = if b then some x else none
theorem noteRes_no {l : List UInt8} (x : Nt) (h : noteL l = none) : NoteRes l (.returned (.tuple #[Nt.v x, .bool false])) := ⟨x, false, rfl, h⟩

theorem OS.n_eq {w : World} {base g n cap : Nat} {ls : List (List UInt8)} (h : OS w base (.slice (some ⟨g, 0, none⟩) n cap) ls) : n = ls.length := by
  rcases h.2 with ⟨hv, -⟩ | ⟨g', cap', cur, hv, -⟩
  · cases hv
  · injection hv
theorem OS.cell2 {w : World} {base g n cap : Nat} {ls : List (List UInt8)} (h : OS w base (.slice (some ⟨g, 0, none⟩) n cap) ls) (k : Nat) (hk : k < ls.length) : w.cell? ⟨g, k, none⟩ = some (.string (str ls[k])) := by
  obtain rfl := h.n_eq
  exact h.cell k hk
theorem OS.put2 {w : World} {base g n cap : Nat} {ls : List (List UInt8)} (h : OS w base (.slice (some ⟨g, 0, none⟩) n cap) ls) (k : Nat) (hk : k < ls.length) (l : List UInt8) : OS (w.setCell ⟨g, k, none⟩ (.string (str l))) base (.slice (some ⟨g, 0, none⟩) n cap) (ls.set k l) := by
  obtain rfl := h.n_eq
  exact h.put k hk l
theorem OS.free {w : World} {base g n cap : Nat} {ls : List (List UInt8)} (h : OS w base (.slice (some ⟨g, 0, none⟩) n cap) ls) : (∀ i, w.frozen? ⟨g, i, none⟩ = false) ∧ base ≤ g ∧ g < w.heap.size := by
  obtain rfl := h.n_eq
  exact own_frozen h
theorem below_set5 {N : Nat} {w0 w : World} {B : Nat} {v0 v1 v2 v3 v4 : Value} (h : Below N w0 w) (hB : N ≤ B) :
    Below N w0 (((((w.setCell ⟨B, 0, none⟩ v0).setCell ⟨B, 1, none⟩ v1).setCell ⟨B, 2, none⟩ v2).setCell ⟨B, 3, none⟩ v3).setCell ⟨B, 4, none⟩ v4) := ((((h.setCell hB v0).setCell hB v1).setCell hB v2).setCell hB v3).setCell hB v4
theorem set_mid {α : Type} (ds ps : List α) (k : Nat) (hd : ds.length = k) (hk : k < ps.length) (t : α) : (ds ++ ps.drop k).set k t = (ds ++ [t]) ++ ps.drop (k + 1) := by
  rw [List.set_append_right _ _ (by omega), hd, Nat.sub_self, List.drop_eq_getElem_cons hk, List.set_cons_zero, List.append_assoc]
  rfl
theorem OS.keep {w w' : World} {base : Nat} {v : Value} {ls : List (List UInt8)} (h : OS w base v ls) (hb : Below w.heap.size w w') : OS w' base v ls := own_below h hb (Nat.le_refl _)

theorem k_of {k : List UInt8} {c : UInt8} (h : (str k).toList = [c]) : k = [c] := by rw [ba_list, str_list] at h; exact h
theorem k_no {k : List UInt8} {c : UInt8} (h : ¬ (str k).toList = [c]) : k ≠ [c] := fun e => h (by rw [ba_list, str_list]; exact e)
theorem mkN_zero {k : List UInt8} {no : Int} {a b : List UInt8} {r : List (List UInt8)} (h1 : ¬ (k = [109] ∧ r = [])) (h2 : ¬ (k = [99] ∧ r = [])) (h3 : ¬ (k = [120] ∧ r.length = 1)) : mkN k no (a :: b :: r) = Nt.zero := by
  rcases r with _ | ⟨c, _ | ⟨d, r⟩⟩
  · show (if k = [109] then _ else if k = [99] then _ else _) = _
    rw [if_neg (fun e => h1 ⟨e, rfl⟩), if_neg (fun e => h2 ⟨e, rfl⟩)]; rfl
  · show (if k = [120] then _ else _) = _
    rw [if_neg (fun e => h3 ⟨e, rfl⟩)]; rfl
  · rfl
theorem mkN_m (no : Int) (a b : List UInt8) : mkN [109] no [a, b] = ⟨109, no, str a, str b, ByteArray.empty⟩ := by simp [mkN]
theorem mkN_c (no : Int) (a b : List UInt8) : mkN [99] no [a, b] = ⟨99, no, ByteArray.empty, str a, str b⟩ := by simp [mkN]
theorem mkN_x (no : Int) (a b c : List UInt8) : mkN [120] no [a, b, c] = ⟨120, no, str a, str b, str c⟩ := by simp [mkN]
theorem len_of4 {r : List (List UInt8)} {n : Nat} (h : r.length + 1 + 1 + 1 + 1 = n) (hb : ((n : Int) == 4) = true) : r = [] := by
  rw [beq_iff_eq] at hb
  exact List.eq_nil_of_length_eq_zero (by omega)
theorem len_no4 {r : List (List UInt8)} {n : Nat} (h : r.length + 1 + 1 + 1 + 1 = n) (hb : ((n : Int) == 4) = false) : r ≠ [] := by
  rw [beq_eq_false_iff_ne] at hb
  rintro rfl
  exact hb (by simp at h; omega)
theorem len_of5 {r : List (List UInt8)} {n : Nat} (h : r.length + 1 + 1 + 1 + 1 = n) (hb : ((n : Int) == 5) = true) : ∃ c, r = [c] := by
  rw [beq_iff_eq] at hb
  exact List.length_eq_one_iff.1 (by omega)
theorem len_no5 {r : List (List UInt8)} {n : Nat} (h : r.length + 1 + 1 + 1 + 1 = n) (hb : ((n : Int) == 5) = false) : r.length ≠ 1 := by
  rw [beq_eq_false_iff_ne] at hb
  exact fun e => hb (by omega)
theorem Blk.set5 {w : World} {B : Nat} {x0 x1 x2 x3 x4 v0 v1 v2 v3 v4 : Value} {T : TypeId} (h : Blk w B #[x0, x1, x2, x3, x4] T) :
    Blk (((((w.setCell ⟨B, 0, none⟩ v0).setCell ⟨B, 1, none⟩ v1).setCell ⟨B, 2, none⟩ v2).setCell ⟨B, 3, none⟩ v3).setCell ⟨B, 4, none⟩ v4) B #[v0, v1, v2, v3, v4] T := ((((h.set 0 v0).set 1 v1).set 2 v2).set 3 v3).set 4 v4
theorem Blk.other5 {w : World} {B D : Nat} {vs : Array Value} {v0 v1 v2 v3 v4 : Value} {T : TypeId} (h : Blk w D vs T) (hne : B ≠ D) :
    Blk (((((w.setCell ⟨B, 0, none⟩ v0).setCell ⟨B, 1, none⟩ v1).setCell ⟨B, 2, none⟩ v2).setCell ⟨B, 3, none⟩ v3).setCell ⟨B, 4, none⟩ v4) D vs T := ((((h.setOther _ _ hne).setOther _ _ hne).setOther _ _ hne).setOther _ _ hne).setOther _ _ hne
def cellAt (w : World) (b i : Nat) : Value := (w.cell? ⟨b, i, none⟩).getD undef
/-- what note's last statement keeps: the note's block, the result's block. -/
structure TN (w : World) (B8 B2 : Nat) (x : Nt) (w' : World) : Prop where
  b8 : Blk w' B8 #[.int .u8 x.kind.toNat, .int .i64 x.no, .string x.src, .string x.dst, .string x.tmp] 29
  b2 : ∃ v0 v1 v2 v3 v4, Blk w' B2 #[v0, v1, v2, v3, v4] 29
  hw : Below w.heap.size w w'
  ne : B8 ≠ B2
  le : w.heap.size ≤ B2
theorem TN.all {w w' : World} {B8 B2 : Nat} {x : Nt} (h : TN w B8 B2 x w') : TN w B8 B2 x w' ∧ w'.cell? ⟨B8, 0, none⟩ = some (.int .u8 x.kind.toNat) ∧ w'.cell? ⟨B8, 1, none⟩ = some (.int .i64 x.no) ∧ w'.cell? ⟨B8, 2, none⟩ = some (.string x.src) ∧ w'.cell? ⟨B8, 3, none⟩ = some (.string x.dst) ∧ w'.cell? ⟨B8, 4, none⟩ = some (.string x.tmp) ∧ w'.cell? ⟨B2, 0, none⟩ = some (cellAt w' B2 0) ∧ w'.cell? ⟨B2, 1, none⟩ = some (cellAt w' B2 1) ∧ w'.cell? ⟨B2, 2, none⟩ = some (cellAt w' B2 2) ∧ w'.cell? ⟨B2, 3, none⟩ = some (cellAt w' B2 3) ∧ w'.cell? ⟨B2, 4, none⟩ = some (cellAt w' B2 4) ∧ (∀ i, w'.frozen? ⟨B2, i, none⟩ = false) ∧ B8 < w'.heap.size ∧ B2 < w'.heap.size := by
  obtain ⟨v0, v1, v2, v3, v4, hb⟩ := h.b2
  have h8 := h.b8
  unfold cellAt
  rw [hb.cell, hb.cell, hb.cell, hb.cell, hb.cell, h8.cell, h8.cell, h8.cell, h8.cell, h8.cell]
  exact ⟨h, rfl, rfl, rfl, rfl, rfl, rfl, rfl, rfl, rfl, rfl, hb.frozen, h8.lt, hb.lt⟩
theorem TN.drew {w p : World} {B8 B2 : Nat} {x : Nt} (h : TN w B8 B2 x p) : TN w B8 B2 x p.drew :=
  ⟨h.b8, h.b2, h.hw.drew, h.ne, h.le⟩
theorem TN.call {w p w' : World} {B8 B2 : Nat} {x : Nt} (h : TN w B8 B2 x p) (hb : Below p.heap.size p w') : TN w B8 B2 x w' := by
  obtain ⟨v0, v1, v2, v3, v4, h2⟩ := h.b2
  exact ⟨h.b8.keep hb, ⟨_, _, _, _, _, h2.keep hb⟩, bnext h.hw hb, h.ne, h.le⟩
theorem TN.store {w p : World} {B8 B2 : Nat} {x : Nt} {v0 v1 v2 v3 v4 : Value} (h : TN w B8 B2 x p) :
    TN w B8 B2 x (((((p.setCell ⟨B2, 0, none⟩ v0).setCell ⟨B2, 1, none⟩ v1).setCell ⟨B2, 2, none⟩ v2).setCell ⟨B2, 3, none⟩ v3).setCell ⟨B2, 4, none⟩ v4) := by
  obtain ⟨x0, x1, x2, x3, x4, h2⟩ := h.b2
  exact ⟨h.b8.other5 (Ne.symm h.ne), ⟨_, _, _, _, _, h2.set5⟩, below_set5 h.hw h.le, h.ne, h.le⟩
theorem note_results {tmps : Array Value} {W : World} {B2 : Nat} {x : Nt} {b : Bool} (hb : Blk W B2 #[.int .u8 x.kind.toNat, .int .i64 x.no, .string x.src, .string x.dst, .string x.tmp] 29)
    (h2 : tmps.getD 2 undef = .pointer (some ⟨B2, 0, none⟩)) (h3 : tmps.getD 3 undef = .bool b) : (results Tryd.f24 tmps).run Tryd.prog W = .ok (.tuple #[Nt.v x, .bool b]) W := by
  have q0 := hb.cell 0
  have q1 := hb.cell 1
  have q2 := hb.cell 2
  have q3 := hb.cell 3
  have q4 := hb.cell 4
  simp only [List.getElem?_toArray, List.getElem?_cons_zero, List.getElem?_cons_succ] at q0 q1 q2 q3 q4
  rw [Array.getD_eq_getD_getElem?] at h2 h3
  simp [results, Tryd.results24, go_sem, Nt.v, h2, h3, q0, q1, q2, q3, q4]
theorem mkN_ok {k : List UInt8} {no : Int} : ∀ {r : List (List UInt8)}, (∀ y ∈ r, y.length ≤ 100000) → -9223372036854775808 ≤ no → no ≤ 9223372036854775807 → (mkN k no r).Ok := by
  intro r h h0 h1
  have hz : Nt.Ok ⟨0, 0, ByteArray.empty, ByteArray.empty, ByteArray.empty⟩ := ⟨Nat.zero_le _, Nat.zero_le _, Nat.zero_le _, by decide, by decide⟩
  have hs : ∀ y ∈ r, (str y).size ≤ 100000 := fun y hy => by rw [str_size]; exact h y hy
  rcases r with _ | ⟨a, _ | ⟨b, _ | ⟨c, _ | ⟨d, r⟩⟩⟩⟩
  · exact hz
  · exact hz
  · have ha := hs a (by simp)
    have hb := hs b (by simp)
    show Nt.Ok (if _ then _ else if _ then _ else _)
    split
    · exact ⟨ha, hb, Nat.zero_le _, h0, h1⟩
    · split
      · exact ⟨Nat.zero_le _, ha, hb, h0, h1⟩
      · exact hz
  · show Nt.Ok (if _ then _ else _)
    split
    · exact ⟨hs a (by simp), hs b (by simp), hs c (by simp), h0, h1⟩
    · exact hz
  · exact hz
theorem numRes_form (r : Option Int) : ∃ v b, numRes r = .tuple #[.int .i64 v, .bool b] ∧ r = if b then some v else none := by
  cases r with
  | none => exact ⟨0, false, rfl, rfl⟩
  | some v => exact ⟨v, true, rfl, rfl⟩
set_option maxRecDepth 100000 in
set_option maxHeartbeats 4000000 in
theorem note_any (s : ByteArray) (w : World) (hs : s.size ≤ 100000) (hm : MaxL w) :
    Calls Tryd.prog 24 #[.string s] w fun e w' => NoteRes s.data.toList e ∧ Below w.heap.size w w' := by
  have HM := Lib.hid hm
  clear hm
  have hB0 := Blk.new w #[.int .u8 0, .int .i64 0, .string ByteArray.empty, .string ByteArray.empty, .string ByteArray.empty] 29
  have HB0 := Lib.hid hB0
  have HW0 := Lib.hid (balloc (Below.refl w.heap.size w) (.cells #[.int .u8 0, .int .i64 0, .string ByteArray.empty, .string ByteArray.empty, .string ByteArray.empty] 29))
  have hWs := HW0.out.size
  have HS := Lib.hid (split_any s 32 (w.alloc (.cells #[.int .u8 0, .int .i64 0, .string ByteArray.empty, .string ByteArray.empty, .string ByteArray.empty] 29)) hs (HM.out.keep HW0.out))
  clear hB0
  go_enter Tryd.func24, Tryd.ntmps24
  go_wp2_with (go_at_call 41; refine HS.out.mono ?_; rintro e w1 ⟨⟨g, cap, rfl, hO⟩, hb1⟩; have HO := Lib.hid hO; have HB1 := Lib.hid (HB0.out.keep hb1); have HW1 := Lib.hid (bnext HW0.out hb1); clear hO hb1)
  generalize hps : spl 32 s.data.toList = ps at HO ⊢
  have HPs := Lib.hid hps
  have hpl := (spl_len 32 s.data.toList).2
  have hpz : ∀ p ∈ ps, p.length ≤ 100000 := fun p hp => by
    have := spl_size 32 s.data.toList p (by rw [hps]; exact hp)
    have h2 : s.data.toList.length = s.size := Array.length_toList
    omega
  rw [hps] at hpl
  have hpl1 : ps.length ≤ 100001 := by
    have h2 : s.data.toList.length = s.size := Array.length_toList
    omega
  have HPz := Lib.hid hpz
  clear hps hpl hpz
  have HNone := Lib.hid (show ∀ k, (ps.take k).mapM decP = none → noteL s.data.toList = none from fun k h => by unfold noteL; rw [HPs.out, mapM_none ps k h])
  have HSome := Lib.hid (show ∀ ws, ps.mapM decP = some ws → noteL s.data.toList = mkNote ws from fun ws h => by unfold noteL; rw [HPs.out, h])
  clear HM HS
  have hbase : w.heap.size < (w.alloc (.cells #[.int .u8 0, .int .i64 0, .string ByteArray.empty, .string ByteArray.empty, .string ByteArray.empty] 29)).heap.size := by simp
  generalize (w.alloc (.cells #[.int .u8 0, .int .i64 0, .string ByteArray.empty, .string ByteArray.empty, .string ByteArray.empty] 29)).heap.size = base at HO hbase
  go_loopw [15] (fun t15 wr => ∃ (k : Nat) (ds : List (List UInt8)), k ≤ ps.length ∧ t15 = .int .i64 k ∧ (ps.take k).mapM decP = some ds ∧ OS wr base (.slice (some ⟨g, 0, none⟩) ps.length cap) (ds ++ ps.drop k) ∧ Blk wr w.heap.size #[.int .u8 0, .int .i64 0, .string ByteArray.empty, .string ByteArray.empty, .string ByteArray.empty] 29 ∧ Below w.heap.size w wr) (fun t15 _ => ps.length - (intOf t15).toNat)
  case atStart => exact ⟨0, [], Nat.zero_le _, rfl, rfl, HO.out, HB1.out, HW1.out⟩
  case round =>
    obtain ⟨k, ds, hk, rfl, hds, hO, hB, hW⟩ := hrel
    have HO := Lib.hid hO
    have HB := Lib.hid hB
    have HW := Lib.hid hW
    have HD := Lib.hid hds
    have hdl : ds.length = k := by rw [mapM_len hds, List.length_take]; omega
    have HDl := Lib.hid hdl
    have hbl := hB.lt
    obtain ⟨hfz, hg0, hg1⟩ := hO.free
    clear hB hW hds
    by_cases hlt : k < ps.length
    · have hcl := hO.cell2 k (by rw [List.length_append, List.length_drop]; omega)
      rw [List.getElem_append_right (by omega), List.getElem_drop] at hcl
      have hkk : (ps[k + (k - ds.length)]'(by omega)) = ps[k] := by congr 1; omega
      rw [hkk] at hcl
      have HDec := Lib.hid (fun w => decode_any (str ps[k]) w (by rw [str_size]; exact HPz.out _ (List.getElem_mem _)))
      have HT := Lib.hid (mapM_take (f := decP) ps k hlt HD.out)
      rw [str_list] at HDec
      generalize str ps[k] = pk at hcl HDec
      generalize decP ps[k] = r at HDec HT
      clear hO hdl hkk
      cases r with
      | none =>
        have HN := Lib.hid (HNone.out (k + 1) HT.out)
        simp only [decRes] at HDec
        clear hfz hg0
        go_wp2_with (go_at_call 42; refine (HDec.out _).mono ?_; rintro e w2 ⟨rfl, hb2⟩; have HB2 := Lib.hid (HB.out.keep hb2); have HW2 := Lib.hid (bnext HW.out hb2); have hB2 := HB2.out; obtain ⟨q0, qf, ql⟩ := hB2.facts; clear hb2 hB2)
        exact bodyPost_ret (v := .tuple #[Nt.v Nt.zero, .bool false]) (by simp [results, Tryd.results24, go_sem, Nt.v, Nt.zero, q0, ql]; rfl) rfl ⟨noteRes_no _ HN.out, below_set5 HW2.out (Nat.le_refl _)⟩
      | some t =>
        simp only [decRes] at HDec
        have HT2 := Lib.hid (show (ps.take (k + 1)).mapM decP = some (ds ++ [t]) from HT.out)
        have hbg : ¬ g = w.heap.size := by omega
        have HLen := Lib.hid (show k < (ds ++ ps.drop k).length by rw [List.length_append, List.length_drop, HDl.out]; omega)
        go_wp2_with (go_at_call 42; refine (HDec.out _).mono ?_; rintro e w2 ⟨rfl, hb2⟩; have HB2 := Lib.hid (HB.out.keep hb2); have HW2 := Lib.hid (bnext HW.out hb2); have HO2 := Lib.hid (HO.out.keep hb2); have hg2 := HO2.out.free; obtain ⟨hfz2, -, hgl2⟩ := hg2; obtain ⟨v2, hcl2⟩ : ∃ v, w2.cell? ⟨g, k, none⟩ = some v := ⟨_, HO2.out.cell2 k HLen.out⟩; clear hb2)
        go_roundw
        case measure => simp [intOf]; omega
        case rel => exact ⟨k + 1, ds ++ [t], by omega, by go_num, HT2.out, by rw [← set_mid ds ps k HDl.out hlt t]; exact HO2.out.put2 k HLen.out t, HB2.out.setOther _ _ hbg, HW2.out.setCell (show w.heap.size ≤ g by omega) _⟩
    · obtain rfl : k = ps.length := by omega
      have HMk := Lib.hid (HSome.out ds (by have := HD.out; rwa [List.take_length] at this))
      have HOd := Lib.hid (show OS wr base (.slice (some ⟨g, 0, none⟩) ps.length cap) ds by have := HO.out; rwa [List.drop_length, List.append_nil] at this)
      have hdl2 : ds.length = ps.length := hdl
      have HWords := Lib.hid (show (spl 32 s.data.toList).mapM decP = some ds by rw [HPs.out]; have := HD.out; rwa [List.take_length] at this)
      clear hdl hO hlt
      go_upto_region 11 with (fail)
      have HW1 := Lib.hid (balloc HW.out (.cells #[.int .u8 0, .int .i64 0, .string ByteArray.empty, .string ByteArray.empty, .string ByteArray.empty] 29))
      have HB1 := Lib.hid (HB.out.old (.cells #[.int .u8 0, .int .i64 0, .string ByteArray.empty, .string ByteArray.empty, .string ByteArray.empty] 29))
      have HB8 := Lib.hid (Blk.new wr #[.int .u8 0, .int .i64 0, .string ByteArray.empty, .string ByteArray.empty, .string ByteArray.empty] 29)
      have HO1 := Lib.hid (HOd.out.keep (w' := wr.alloc (.cells #[.int .u8 0, .int .i64 0, .string ByteArray.empty, .string ByteArray.empty, .string ByteArray.empty] 29)) (balloc (Below.refl _ _) _))
      have HNe := Lib.hid (show wr.heap.size ≠ w.heap.size ∧ wr.heap.size ≠ g ∧ g ≠ w.heap.size by omega)
      have hle8 : w.heap.size ≤ wr.heap.size := by omega
      show Code.wp Tryd.prog _ _ _ (wr.alloc (.cells #[.int .u8 0, .int .i64 0, .string ByteArray.empty, .string ByteArray.empty, .string ByteArray.empty] 29))
      generalize wr.alloc (.cells #[.int .u8 0, .int .i64 0, .string ByteArray.empty, .string ByteArray.empty, .string ByteArray.empty] 29) = W at HW1 HB1 HB8 HO1 ⊢
      generalize wr.heap.size = B8 at HB8 HNe hle8 ⊢
      generalize hB2 : w.heap.size = B2 at HB1 HNe hle8 ⊢
      clear HB HW HOd HD HO hfz hg0 hg1 hbl
      by_cases h4 : ps.length < 4
      · have HN := Lib.hid (show noteL s.data.toList = none by
          rw [HMk.out]
          rcases ds with _ | ⟨a, _ | ⟨b, r⟩⟩
          · rfl
          · rfl
          · exact if_pos (show r.length < 2 by simp at hdl2; omega))
        have h4i : (ps.length : Int) < 4 := by omega
        obtain ⟨q0, qf, ql⟩ := HB1.out.facts
        obtain ⟨r0, -, rl⟩ := HB8.out.facts
        clear h4 hdl2
        go_wp2_with fail
        refine bodyPost_ret (v := .tuple #[Nt.v Nt.zero, .bool false]) ?_ rfl ?_
        · simp [results, Tryd.results24, go_sem, Nt.v, Nt.zero, q0, ql]
        · exact ⟨noteRes_no _ HN.out, below_set5 HW1.out (Nat.le_of_eq hB2)⟩
      · obtain ⟨k0, n0, a, b, r, rfl⟩ : ∃ k0 n0 a b r, ds = k0 :: n0 :: a :: b :: r := by
          rcases ds with _ | ⟨a, _ | ⟨b, _ | ⟨c, _ | ⟨d, r⟩⟩⟩⟩
          · simp at hdl2; omega
          · simp at hdl2; omega
          · simp at hdl2; omega
          · simp at hdl2; omega
          · exact ⟨a, b, c, d, r, rfl⟩
        simp only [List.length_cons] at hdl2
        have c0 := HO1.out.cell2 0 (by simp)
        have c1 := HO1.out.cell2 1 (by simp)
        have c2 := HO1.out.cell2 2 (by simp)
        have c3 := HO1.out.cell2 3 (by simp)
        simp only [List.getElem_cons_zero, List.getElem_cons_succ] at c0 c1 c2 c3
        obtain ⟨-, -, hgl⟩ := HO1.out.free
        have Hsz := Lib.hid (show ∀ y ∈ (k0 :: n0 :: a :: b :: r), y.length ≤ 100000 from fun y hy => by
          have h1 := words_size (l := s.data.toList) (ws := k0 :: n0 :: a :: b :: r) HWords.out y hy
          have h2 : s.data.toList.length = s.size := Array.length_toList
          omega)
        have HPn := Lib.hid (fun w => num_any (str n0) w (by rw [str_size]; exact Hsz.out n0 (by simp)))
        have HLn := Lib.hid hdl2
        have h4i : (4 : Int) ≤ ps.length := by omega
        have h4n : 4 ≤ ps.length := by omega
        obtain ⟨q0, qf, ql⟩ := HB1.out.facts
        obtain ⟨r0, rf, rl⟩ := HB8.out.facts
        clear hdl2 h4 qf ql r0 rf rl q0
        go_upto_block 2 with (go_at_call 43; refine (HPn.out _).mono ?_; rintro e w2 ⟨⟨nr, rfl, hno⟩, hb2⟩; obtain ⟨no, nb, hnr, hnr1⟩ := numRes_form nr; rw [hnr]; have HNr := Lib.hid (And.intro hno hnr1); have HW2 := Lib.hid (bnext HW1.out hb2); have HB2 := Lib.hid (HB1.out.keep hb2); have HB82 := Lib.hid (HB8.out.keep hb2); have HO2 := Lib.hid (HO1.out.keep hb2); clear hno hnr1 hnr hb2)
        go_cut [] (fun wx => ∃ x : Nt, x = mkN k0 no (a :: b :: r) ∧ Blk wx B8 #[.int .u8 x.kind.toNat, .int .i64 x.no, .string x.src, .string x.dst, .string x.tmp] 29 ∧ Blk wx B2 #[.int .u8 0, .int .i64 0, .string ByteArray.empty, .string ByteArray.empty, .string ByteArray.empty] 29 ∧ Below w.heap.size w wx)
        case first =>
          have hO2 := HO2.out
          have hB82 := HB82.out
          obtain ⟨r0, rf, rl⟩ := hB82.facts
          obtain ⟨ofz, -, ogl⟩ := hO2.free
          have d0 := hO2.cell2 0 (by simp)
          have d2 := hO2.cell2 2 (by simp)
          have d3 := hO2.cell2 3 (by simp)
          simp only [List.getElem_cons_zero, List.getElem_cons_succ] at d0 d2 d3
          have HD4 := Lib.hid (fun (h : 4 < (k0 :: n0 :: a :: b :: r).length) => hO2.cell2 4 h)
          clear hO2 hB82 ofz c0 c1 c2 c3
          have hx2 : (2 : Int) < ps.length := by omega
          have hx3 : (3 : Int) < ps.length := by omega
          go_wp2_with fail
          · have hk := k_of ‹(str k0).toList = [109]›
            have hr := len_of4 HLn.out ‹((ps.length : Int) == 4) = true›
            subst hk hr
            refine wp_still_tail 8 (by kernel_rfl) (by kernel_rfl) ?_
            simp only [List.take_succ_cons, List.take_zero, List.drop_succ_cons, List.drop_zero]
            repeat still_step
            refine wpStill_nil ?_
            go_wp2_with fail
            go_meet
            exact ⟨⟨109, no, str a, str b, ByteArray.empty⟩, (mkN_m ..).symm, HB82.out.set5.drew, (HB2.out.other5 HNe.out.1).drew, (below_set5 HW2.out (by omega)).drew⟩
          · go_meet
            exact ⟨Nt.zero, (mkN_zero (fun h => len_no4 HLn.out ‹((ps.length : Int) == 4) = false› h.2) (fun h => absurd ((k_of ‹(str k0).toList = [109]›).symm.trans h.1) (by decide)) (fun h => absurd ((k_of ‹(str k0).toList = [109]›).symm.trans h.1) (by decide))).symm, HB82.out, HB2.out, HW2.out⟩
          · have hk := k_of ‹(str k0).toList = [99]›
            have hr := len_of4 HLn.out ‹((ps.length : Int) == 4) = true›
            subst hk hr
            refine wp_still_tail 8 (by kernel_rfl) (by kernel_rfl) ?_
            simp only [List.take_succ_cons, List.take_zero, List.drop_succ_cons, List.drop_zero]
            repeat still_step
            refine wpStill_nil ?_
            go_wp2_with fail
            go_meet
            exact ⟨⟨99, no, ByteArray.empty, str a, str b⟩, (mkN_c ..).symm, HB82.out.set5.drew, (HB2.out.other5 HNe.out.1).drew, (below_set5 HW2.out (by omega)).drew⟩
          · go_meet
            exact ⟨Nt.zero, (mkN_zero (fun h => k_no ‹¬ (str k0).toList = [109]› h.1) (fun h => len_no4 HLn.out ‹((ps.length : Int) == 4) = false› h.2) (fun h => absurd ((k_of ‹(str k0).toList = [99]›).symm.trans h.1) (by decide))).symm, HB82.out, HB2.out, HW2.out⟩
          · have hk := k_of ‹(str k0).toList = [120]›
            obtain ⟨c, hr⟩ := len_of5 HLn.out ‹((ps.length : Int) == 5) = true›
            have hx4 : (4 : Int) < ps.length := by have := ‹((ps.length : Int) == 5) = true›; rw [beq_iff_eq] at this; omega
            subst hk hr
            have d4 := HD4.out (by simp)
            simp only [List.getElem_cons_zero, List.getElem_cons_succ] at d4
            refine wp_still_tail 11 (by kernel_rfl) (by kernel_rfl) ?_
            simp only [List.take_succ_cons, List.take_zero, List.drop_succ_cons, List.drop_zero]
            repeat still_step
            refine wpStill_nil ?_
            go_wp2_with fail
            go_meet
            exact ⟨⟨120, no, str a, str b, str c⟩, (mkN_x ..).symm, HB82.out.set5.drew, (HB2.out.other5 HNe.out.1).drew, (below_set5 HW2.out (by omega)).drew⟩
          · go_meet
            exact ⟨Nt.zero, (mkN_zero (fun h => k_no ‹¬ (str k0).toList = [109]› h.1) (fun h => k_no ‹¬ (str k0).toList = [99]› h.1) (fun h => len_no5 HLn.out ‹((ps.length : Int) == 5) = false› h.2)).symm, HB82.out, HB2.out, HW2.out⟩
          · go_meet
            exact ⟨Nt.zero, (mkN_zero (fun h => k_no ‹¬ (str k0).toList = [109]› h.1) (fun h => k_no ‹¬ (str k0).toList = [99]› h.1) (fun h => k_no ‹¬ (str k0).toList = [120]› h.1)).symm, HB82.out, HB2.out, HW2.out⟩
        case rest =>
          obtain ⟨x, hx, hb8, hb2, hw⟩ := hcut
          have HX := Lib.hid hx
          have HB2c := Lib.hid hb2
          have HWc := Lib.hid hw
          have HB8c := Lib.hid hb8
          have e0 := hb8.cell 0
          have e1 := hb8.cell 1
          have e2 := hb8.cell 2
          have e3 := hb8.cell 3
          have e4 := hb8.cell 4
          simp only [List.getElem?_toArray, List.getElem?_cons_zero, List.getElem?_cons_succ] at e0 e1 e2 e3 e4
          have q0 := hb2.cell 0
          have q1 := hb2.cell 1
          have q2 := hb2.cell 2
          have q3 := hb2.cell 3
          have q4 := hb2.cell 4
          simp only [List.getElem?_toArray, List.getElem?_cons_zero, List.getElem?_cons_succ] at q0 q1 q2 q3 q4
          have hl8 := hb8.lt
          have hl2 := hb2.lt
          have hf2 := hb2.frozen
          clear hb8 hb2 hw hx c0 c1 c2 c3
          cases nb with
          | false =>
            have HN := Lib.hid (show noteL s.data.toList = none by
              have h1 := numC_of HNr.out.1
              rw [HNr.out.2, str_list] at h1
              rw [HMk.out]
              show (if (a :: b :: r).length < 2 then none else match numC n0 with | some no => chk (mkN k0 no (a :: b :: r)) | none => none) = none
              rw [← h1]
              simp)
            go_wp2_with fail
            have hT : TN w B8 B2 x wc := ⟨HB8c.out, ⟨_, _, _, _, _, HB2c.out⟩, HWc.out, HNe.out.1, by omega⟩
            go_region
            go_wp2_with fail
            exact bodyPost_ret (note_results (x := x) HB2c.out.set5.drew rfl rfl) rfl ⟨noteRes_no _ HN.out, (below_set5 HWc.out (by omega)).drew⟩
          | true =>
            have HOkx := Lib.hid (show x.Ok by
              have h1 := HNr.out.1
              rw [HNr.out.2] at h1
              rw [HX.out]
              exact mkN_ok (fun y hy => Hsz.out y (List.mem_cons_of_mem _ (List.mem_cons_of_mem _ hy))) h1.2.1 h1.2.2)
            have HN := Lib.hid (show noteL s.data.toList = if mayB x then some x else none by
              have h1 := numC_of HNr.out.1
              rw [HNr.out.2, str_list] at h1
              rw [HMk.out]
              show (if (a :: b :: r).length < 2 then none else match numC n0 with | some no => chk (mkN k0 no (a :: b :: r)) | none => none) = _
              rw [← h1, if_neg (by simp), HX.out]
              rfl)
            have hT : TN w B8 B2 x wc := ⟨HB8c.out, ⟨_, _, _, _, _, HB2c.out⟩, HWc.out, HNe.out.1, by omega⟩
            go_wp2_with fail
            go_region_held3 (fun w' => TN w B8 B2 x w' ∧ w'.cell? ⟨B8, 0, none⟩ = some (.int .u8 x.kind.toNat) ∧ w'.cell? ⟨B8, 1, none⟩ = some (.int .i64 x.no) ∧ w'.cell? ⟨B8, 2, none⟩ = some (.string x.src) ∧ w'.cell? ⟨B8, 3, none⟩ = some (.string x.dst) ∧ w'.cell? ⟨B8, 4, none⟩ = some (.string x.tmp) ∧ w'.cell? ⟨B2, 0, none⟩ = some (cellAt w' B2 0) ∧ w'.cell? ⟨B2, 1, none⟩ = some (cellAt w' B2 1) ∧ w'.cell? ⟨B2, 2, none⟩ = some (cellAt w' B2 2) ∧ w'.cell? ⟨B2, 3, none⟩ = some (cellAt w' B2 3) ∧ w'.cell? ⟨B2, 4, none⟩ = some (cellAt w' B2 4) ∧ (∀ i, w'.frozen? ⟨B2, i, none⟩ = false) ∧ B8 < w'.heap.size ∧ B2 < w'.heap.size)
              (first | with_reducible exact hT.drew.all | with_reducible exact (TN.call (And.left (by assumption)) (by assumption)).all | with_reducible exact (TN.store (And.left (by assumption))).all)
              (first | (go_at_call 7; refine (may_any x _ HOkx.out).mono ?_; rintro e w3 ⟨rfl, hb3⟩))
            go_wp2_with fail
            have hTN : TN w B8 B2 x w3 := hT.drew.call hb3
            exact bodyPost_ret (note_results (x := x) (HB2c.out.drew.keep hb3).set5 rfl rfl) rfl ⟨⟨x, _, rfl, HN.out⟩, below_set5 hTN.hw hTN.le⟩
end Go.Proofs.YtcjllikngfndhaaDoor

/- A region that draws its order, taken by hand: the slot that an operation writes is named. No program in sight. -/
namespace Go.Proofs.YtcjllikngfndhaaDoor

open Go

section

variable {P : Program} {ops : Array Oper} {Q : Exit → Act → World → Prop} {md : Region.Mode} {S : World → Prop}

theorem reg_take (i d : Nat) {oi : Oper} {v : Value} {fuel : Nat} {listed : Array Bool} {tmps : Array Value} {defers : List Deferred} {w : World} (hi : ops[i]? = some oi) (hd : oi.dst = some d)
    (hs : Region.noSelect ops = true) (hf : Region.free md ops listed i = true) (hr : (Region.ready md ops listed).contains i = true)
    (hQ : ∀ c a w, Q (.panic c) (a.put oi.dst v) w → Q (.panic c) a w) (hw : Region.wanted oi (yielded ops tmps) = true) (hy : ∀ w, S w → (execOp (Act.eval { tmps, defers }) oi).run P w = .ok (.value v) w) (hS : S w)
    (h : wpAnyH P md ops Q S fuel (listed.setIfInBounds i true) { tmps := tmps.setIfInBounds d v, defers } w) : wpAnyH P md ops Q S (fuel + 1) listed { tmps, defers } w :=
  wpAnyH_take hi hs hf hr hQ (Or.inl ⟨hw, hy⟩) hS (by rw [hd]; exact h)
theorem reg_skip (i d : Nat) {oi : Oper} {fuel : Nat} {listed : Array Bool} {tmps : Array Value} {defers : List Deferred} {w : World} (hi : ops[i]? = some oi) (hd : oi.dst = some d)
    (hs : Region.noSelect ops = true) (hf : Region.free md ops listed i = true) (hr : (Region.ready md ops listed).contains i = true)
    (hQ : ∀ c a w, Q (.panic c) (a.put oi.dst undef) w → Q (.panic c) a w) (hw : Region.wanted oi (yielded ops tmps) = false) (hS : S w)
    (h : wpAnyH P md ops Q S fuel (listed.setIfInBounds i true) { tmps := tmps.setIfInBounds d undef, defers } w) : wpAnyH P md ops Q S (fuel + 1) listed { tmps, defers } w :=
  wpAnyH_take hi hs hf hr hQ (Or.inr ⟨hw, rfl⟩) hS (by rw [hd]; exact h)
/-- a call that comes up alone. -/
theorem reg_call (i d : Nat) {oi : Oper} {fuel : Nat} {listed : Array Bool} {tmps : Array Value} {defers : List Deferred} {w : World} (hr : Region.ready md ops listed = [i]) (hi : ops[i]? = some oi) (hd : oi.dst = some d)
    (hw : Region.wanted oi (yielded ops tmps) = true) {f : FuncId} {args : Array Value} (he : (execOp (Act.eval { tmps, defers }) oi).run P w = .ok (.enter f args) w) {R : Value → World → Prop}
    (hc : Calls P f args w fun e w' => ∃ v, e = .returned v ∧ R v w') (hS : ∀ v w', R v w' → S w')
    (h : ∀ v w', R v w' → wpAnyH P md ops Q S fuel (listed.setIfInBounds i true) { tmps := tmps.setIfInBounds d v, defers } w') : wpAnyH P md ops Q S (fuel + 1) listed { tmps, defers } w := by
  refine wpAnyH_ready hr (by simp) (AllReadyH.cons hi (fun K hK => ?_) AllReadyH.nil)
  rw [if_pos hw]
  unfold Oper.wp
  rw [he]
  refine hc.mono ?_
  rintro e w' ⟨v, rfl, hR⟩
  have := h v w' hR
  refine hK.out _ _ (hS v w' hR) (fun _ => ?_)
  rw [hd]
  exact this
end

end Go.Proofs.YtcjllikngfndhaaDoor

/- A region that draws its order, taken by hand, on: a make beside a call; S made stronger on the way. No program in sight. -/
namespace Go.Proofs.YtcjllikngfndhaaDoor

open Go

section

variable {P : Program} {ops : Array Oper} {Q : Exit → Act → World → Prop} {md : Region.Mode} {S : World → Prop}

/-- S may be made stronger. -/
theorem anyH_mono {S' : World → Prop} (hS : ∀ w, S' w → S w) : ∀ (fuel : Nat) (listed : Array Bool) (a : Act) (w : World), wpAnyH P md ops Q S' fuel listed a w → wpAnyH P md ops Q S fuel listed a w
  | 0, _, _, _, h => h
  | fuel + 1, _, _, _, h => ⟨h.1, fun i hi => wpOp_mono (fun a' w' h' => ⟨hS _ h'.1, anyH_mono hS fuel _ a' w' h'.2⟩) (h.2 i hi)⟩
/-- an operation that comes up alone, whose run is known. -/
theorem reg_one (i d : Nat) {oi : Oper} {fuel : Nat} {listed : Array Bool} {tmps : Array Value} {defers : List Deferred} {w W : World} {v : Value} (hr : Region.ready md ops listed = [i]) (hi : ops[i]? = some oi) (hd : oi.dst = some d)
    (hw : Region.wanted oi (yielded ops tmps) = true) (he : (execOp (Act.eval { tmps, defers }) oi).run P w = .ok (.value v) W) (hS : S W)
    (h : wpAnyH P md ops Q S fuel (listed.setIfInBounds i true) { tmps := tmps.setIfInBounds d v, defers } W) : wpAnyH P md ops Q S (fuel + 1) listed { tmps, defers } w := by
  refine wpAnyH_ready hr (by simp) (AllReadyH.cons hi (fun K hK => ?_) AllReadyH.nil)
  rw [if_pos hw]
  unfold Oper.wp
  rw [he]
  refine hK.out _ _ hS (fun _ => ?_)
  rw [hd]
  exact h
/-- a make, and a call beside it. -/
theorem reg_make_call (i di j dj : Nat) {oi oj : Oper} {fuel : Nat} {listed : Array Bool} {tmps : Array Value} {defers : List Deferred} {w Wi : World} {vi : Value} (hr : Region.ready md ops listed = [i, j]) (hi : ops[i]? = some oi) (hj : ops[j]? = some oj)
    (hdi : oi.dst = some di) (hdj : oj.dst = some dj) (hwi : Region.wanted oi (yielded ops tmps) = true) (hwj : Region.wanted oj (yielded ops tmps) = true)
    (hei : (execOp (Act.eval { tmps, defers }) oi).run P w = .ok (.value vi) Wi) (hSi : S Wi) {f : FuncId} {args : Array Value} (hej : (execOp (Act.eval { tmps, defers }) oj).run P w = .ok (.enter f args) w) {R : Value → World → Prop}
    (hc : Calls P f args w fun e w' => ∃ v, e = .returned v ∧ R v w') (hSj : ∀ v w', R v w' → S w')
    (h1 : wpAnyH P md ops Q S fuel (listed.setIfInBounds i true) { tmps := tmps.setIfInBounds di vi, defers } Wi)
    (h2 : ∀ v w', R v w' → wpAnyH P md ops Q S fuel (listed.setIfInBounds j true) { tmps := tmps.setIfInBounds dj v, defers } w') : wpAnyH P md ops Q S (fuel + 1) listed { tmps, defers } w := by
  refine wpAnyH_ready hr (by simp) (AllReadyH.cons hi (fun K hK => ?_) (AllReadyH.cons hj (fun K hK => ?_) AllReadyH.nil))
  · rw [if_pos hwi]
    unfold Oper.wp
    rw [hei]
    refine hK.out _ _ hSi (fun _ => ?_)
    rw [hdi]
    exact h1
  · rw [if_pos hwj]
    unfold Oper.wp
    rw [hej]
    refine hc.mono ?_
    rintro e w' ⟨v, rfl, hR⟩
    have := h2 v w' hR
    refine hK.out _ _ (hSj v w' hR) (fun _ => ?_)
    rw [hdj]
    exact this
end

end Go.Proofs.YtcjllikngfndhaaDoor

/- Percent signs: Decode of the reference. -/
namespace Go.Proofs.YtcjllikngfndhaaDoor

open Go.RowKit

theorem hexR_cases (c : UInt8) : (hexR c = 16 ∧ hexV c = -1) ∨ (hexR c = hexV c ∧ 0 ≤ hexV c ∧ hexV c ≤ 15) := by
  have h := hexV_cases c
  have h1 := u8_lt c
  unfold hexR
  split <;> omega

set_option maxRecDepth 100000 in
set_option maxHeartbeats 1000000 in
theorem rdecode_any (s : ByteArray) (w : World) (hs : s.size ≤ 100000) :
    Calls Tryd.prog 64 #[.string s] w fun e w' => e = .returned (decRes (decP s.data.toList)) ∧ Below w.heap.size w w' := by
  go_enter Tryd.func64, Tryd.ntmps64
  go_wp2_with fail
  go_loopw [4, 5] (fun t4 t5 wr => ∃ (k : Nat) (o : List UInt8) (t : ByteArray), k ≤ s.size ∧ t5 = .int .i64 k ∧ t4 = .string t ∧ t = str o ∧ o.length ≤ k ∧ decAt s k o ∧ Below w.heap.size w wr) (fun _ t5 _ => s.size - (intOf t5).toNat)
  case atStart => exact ⟨0, [], _, Nat.zero_le _, rfl, rfl, rfl, Nat.le_refl _, decAt_start s, Below.refl _ _⟩
  case round =>
    obtain ⟨k, o, t, hk, rfl, rfl, ht, hol, hd, hW⟩ := hrel
    have hts : t.size ≤ 100000 := by rw [ht, str_size]; omega
    have HT := Lib.hid ht
    have HD := Lib.hid hd
    have HW := Lib.hid hW
    clear ht hd hW
    by_cases hlt : k < s.size
    · by_cases hc : s[k] = 37
      · have hc1 : ((s[k].toNat : Int) == 37) = true := by rw [hc]; rfl
        have hc2 : ((s[k].toNat : Int) != 37) = false := by rw [bne, hc1]; rfl
        have HC := Lib.hid hc
        clear hc
        by_cases h3 : k + 2 < s.size
        · have hk7 : (k : Int) + 1 < (s.size : Int) := by omega
          have hk8 : (k : Int) + 2 < (s.size : Int) := by omega
          have hk9 : k + 1 < s.size := by omega
          have hk3 : ((k : Int) + 1).toNat = k + 1 := by omega
          have hk4 : ((k : Int) + 2).toNat = k + 2 := by omega
          have HBad := Lib.hid (decAt_bad HD.out h3 HC.out)
          have HTwo := Lib.hid (decAt_two HD.out h3 HC.out)
          have hdA := Lib.hid (fun w => rdigit_any s[k + 1] w)
          have hdB := Lib.hid (fun w => rdigit_any s[k + 2] w)
          rcases hexR_cases s[k + 1] with ⟨hA, hA2⟩ | ⟨hA, hA0, hA1⟩
          · have HN := Lib.hid (HBad.out (.inl hA2))
            have HA := Lib.hid hA
            clear hA hA2
            rw [HA.out] at hdA
            go_wp2_with (go_at_call 77; refine (hdA.out _).mono ?_; rintro e w1 ⟨rfl, rfl⟩)
            go_ret2
            exact ⟨by rw [HN.out]; rfl, HW.out⟩
          · rw [hA] at hdA
            generalize hexV s[k + 1] = A at hA0 hA1 HBad HTwo hdA
            clear hA
            rcases hexR_cases s[k + 2] with ⟨hB, hB2⟩ | ⟨hB, hB0, hB1⟩
            · have HN := Lib.hid (HBad.out (.inr hB2))
              rw [hB] at hdB
              clear hB hB2
              go_wp2_with (first | (go_at_call 77; ((with_reducible refine (hdA.out _).mono ?_); rintro e w1 ⟨rfl, rfl⟩)) | (go_at_call 77; ((with_reducible refine (hdB.out _).mono ?_); rintro e w1 ⟨rfl, rfl⟩)))
              go_ret2
              exact ⟨by rw [HN.out]; rfl, HW.out⟩
            · rw [hB] at hdB
              generalize hexV s[k + 2] = B at hB0 hB1 HBad HTwo hdB
              clear hB HBad
              have HTT := Lib.hid (HTwo.out (by omega) (by omega))
              clear HTwo
              go_wp2_with (first | (go_at_call 77; ((with_reducible refine (hdA.out _).mono ?_); rintro e w1 ⟨rfl, rfl⟩)) | (go_at_call 77; ((with_reducible refine (hdB.out _).mono ?_); rintro e w1 ⟨rfl, rfl⟩)))
              have hk1 : IntKind.i64.wrap ((k : Int) + 1) = (k : Int) + 1 := by simp [IntKind.wrap, IntKind.bits, IntKind.signed]; omega
              have hk2 : IntKind.i64.wrap ((k : Int) + 2) = (k : Int) + 2 := by simp [IntKind.wrap, IntKind.bits, IntKind.signed]; omega
              have m1 : IntKind.i64.wrap (16 * A) = 16 * A := by simp [IntKind.wrap, IntKind.bits, IntKind.signed]; omega
              have m2 : IntKind.i64.wrap (16 * A + B) = 16 * A + B := by simp [IntKind.wrap, IntKind.bits, IntKind.signed]; omega
              have m3 : IntKind.u8.wrap (16 * A + B) = 16 * A + B := by simp [IntKind.wrap, IntKind.bits, IntKind.signed]; omega
              have hk5 : (0 : Int) ≤ (k : Int) + 1 := by omega
              have hk6 : (0 : Int) ≤ (k : Int) + 2 := by omega
              have hn1 : ¬ 9223372036854775807 < t.size + 1 := by omega
              have hss : (str [UInt8.ofNat (16 * A + B).toNat]).size = 1 := rfl
              have hcv : (convert 53 9 (.slice (some ⟨wr.heap.size, 0, none⟩) 1 1)).run Tryd.prog (wr.alloc (.cells #[.int .u8 (16 * A + B)] 5)).drew = .ok (.string (str [UInt8.ofNat (16 * A + B).toNat])) (wr.alloc (.cells #[.int .u8 (16 * A + B)] 5)).drew :=
                conv_one Tryd.underlying53 Tryd.underlying5 Tryd.underlying9 wr.drew (16 * A + B) 5
              refine wp_region_held_drew (S := fun _ => True) (by kernel_rfl) trivial (fun _ => ?_)
              refine reg_take 0 44 (v := ?v0) rfl rfl (by kernel_rfl) (by kernel_rfl) (by kernel_rfl) (fun _ _ _ h => h) rfl ?y0 trivial ?_
              case y0 => (intro w hSw; (try dsimp only at hSw); go_simp; (try with_reducible rfl))
              simp only [List.setIfInBounds_toArray, List.set_cons_zero, List.set_cons_succ]
              refine reg_take 1 45 (v := ?v1) rfl rfl (by kernel_rfl) (by kernel_rfl) (by kernel_rfl) (fun _ _ _ h => h) rfl ?y1 trivial ?_
              case y1 => (intro w hSw; (try dsimp only at hSw); go_simp; (try with_reducible rfl))
              simp only [List.setIfInBounds_toArray, List.set_cons_zero, List.set_cons_succ]
              refine reg_take 2 46 (v := ?v2) rfl rfl (by kernel_rfl) (by kernel_rfl) (by kernel_rfl) (fun _ _ _ h => h) rfl ?y2 trivial ?_
              case y2 => (intro w hSw; (try dsimp only at hSw); go_simp; (try with_reducible rfl))
              simp only [List.setIfInBounds_toArray, List.set_cons_zero, List.set_cons_succ]
              refine reg_take 3 47 (v := ?v3) rfl rfl (by kernel_rfl) (by kernel_rfl) (by kernel_rfl) (fun _ _ _ h => h) rfl ?y3 trivial ?_
              case y3 => (intro w hSw; (try dsimp only at hSw); go_simp; (try with_reducible rfl))
              simp only [List.setIfInBounds_toArray, List.set_cons_zero, List.set_cons_succ]
              refine reg_take 4 48 (v := ?v4) rfl rfl (by kernel_rfl) (by kernel_rfl) (by kernel_rfl) (fun _ _ _ h => h) rfl ?y4 trivial ?_
              case y4 => (intro w hSw; (try dsimp only at hSw); go_simp; (try with_reducible rfl))
              simp only [List.setIfInBounds_toArray, List.set_cons_zero, List.set_cons_succ]
              refine reg_take 7 51 (v := ?v7) rfl rfl (by kernel_rfl) (by kernel_rfl) (by kernel_rfl) (fun _ _ _ h => h) rfl ?y7 trivial ?_
              case y7 => (intro w hSw; (try dsimp only at hSw); go_simp; (try with_reducible rfl))
              simp only [List.setIfInBounds_toArray, List.set_cons_zero, List.set_cons_succ]
              refine reg_take 8 52 (v := ?v8) rfl rfl (by kernel_rfl) (by kernel_rfl) (by kernel_rfl) (fun _ _ _ h => h) rfl ?y8 trivial ?_
              case y8 => (intro w hSw; (try dsimp only at hSw); go_simp; (try with_reducible rfl))
              simp only [List.setIfInBounds_toArray, List.set_cons_zero, List.set_cons_succ]
              refine reg_take 9 53 (v := ?v9) rfl rfl (by kernel_rfl) (by kernel_rfl) (by kernel_rfl) (fun _ _ _ h => h) rfl ?y9 trivial ?_
              case y9 => (intro w hSw; (try dsimp only at hSw); go_simp; (try with_reducible rfl))
              simp only [List.setIfInBounds_toArray, List.set_cons_zero, List.set_cons_succ]
              refine reg_take 10 54 (v := ?v10) rfl rfl (by kernel_rfl) (by kernel_rfl) (by kernel_rfl) (fun _ _ _ h => h) rfl ?y10 trivial ?_
              case y10 => (intro w hSw; (try dsimp only at hSw); go_simp; (try with_reducible rfl))
              simp only [List.setIfInBounds_toArray, List.set_cons_zero, List.set_cons_succ]
              refine reg_call 5 49 (R := fun v w' => v = .int .i64 A ∧ wr.drew = w') (by kernel_rfl) rfl rfl rfl ?x5 ((hdA.out _).mono (fun e w' ⟨he, hb⟩ => ⟨_, he, rfl, hb⟩)) (fun _ _ _ => trivial) ?_
              case x5 => (go_simp; (try rfl))
              rintro _ _ ⟨rfl, rfl⟩
              simp only [List.setIfInBounds_toArray, List.set_cons_zero, List.set_cons_succ]
              refine reg_take 6 50 (v := ?v6) rfl rfl (by kernel_rfl) (by kernel_rfl) (by kernel_rfl) (fun _ _ _ h => h) rfl ?y6 trivial ?_
              case y6 => (intro w hSw; (try dsimp only at hSw); go_simp; (try with_reducible rfl))
              simp only [List.setIfInBounds_toArray, List.set_cons_zero, List.set_cons_succ]
              refine reg_call 11 55 (R := fun v w' => v = .int .i64 B ∧ wr.drew = w') (by kernel_rfl) rfl rfl rfl ?x11 ((hdB.out _).mono (fun e w' ⟨he, hb⟩ => ⟨_, he, rfl, hb⟩)) (fun _ _ _ => trivial) ?_
              case x11 => (go_simp; (try rfl))
              rintro _ _ ⟨rfl, rfl⟩
              simp only [List.setIfInBounds_toArray, List.set_cons_zero, List.set_cons_succ]
              refine reg_take 12 56 (v := ?v12) rfl rfl (by kernel_rfl) (by kernel_rfl) (by kernel_rfl) (fun _ _ _ h => h) rfl ?y12 trivial ?_
              case y12 => (intro w hSw; (try dsimp only at hSw); go_simp; (try with_reducible rfl))
              simp only [List.setIfInBounds_toArray, List.set_cons_zero, List.set_cons_succ]
              refine reg_take 13 57 (v := ?v13) rfl rfl (by kernel_rfl) (by kernel_rfl) (by kernel_rfl) (fun _ _ _ h => h) rfl ?y13 trivial ?_
              case y13 => (intro w hSw; (try dsimp only at hSw); go_simp; (try with_reducible rfl))
              simp only [List.setIfInBounds_toArray, List.set_cons_zero, List.set_cons_succ]
              refine reg_one 14 58 (v := .slice (some ⟨wr.heap.size, 0, none⟩) 1 1) (W := (wr.alloc (.cells #[.int .u8 (16 * A + B)] 5)).drew) (by kernel_rfl) rfl rfl rfl ?z14 trivial ?_
              case z14 => (go_simp; (try rfl))
              simp only [List.setIfInBounds_toArray, List.set_cons_zero, List.set_cons_succ]
              refine reg_one 15 59 (v := .string (str [UInt8.ofNat (16 * A + B).toNat])) (W := (wr.alloc (.cells #[.int .u8 (16 * A + B)] 5)).drew) (by kernel_rfl) rfl rfl rfl ?z15 trivial ?_
              case z15 => (go_simp; (try rfl))
              simp only [List.setIfInBounds_toArray, List.set_cons_zero, List.set_cons_succ]
              refine reg_take 16 60 (v := ?v16) rfl rfl (by kernel_rfl) (by kernel_rfl) (by kernel_rfl) (fun _ _ _ h => h) rfl ?y16 trivial ?_
              case y16 => (intro w hSw; (try dsimp only at hSw); go_simp; (try with_reducible rfl))
              simp only [List.setIfInBounds_toArray, List.set_cons_zero, List.set_cons_succ]
              refine reg_take 17 4 (v := ?v17) rfl rfl (by kernel_rfl) (by kernel_rfl) (by kernel_rfl) (fun _ _ _ h => h) rfl ?y17 trivial ?_
              case y17 => (intro w hSw; (try dsimp only at hSw); go_simp; (try with_reducible rfl))
              simp only [List.setIfInBounds_toArray, List.set_cons_zero, List.set_cons_succ]
              refine wpAnyH_done (by kernel_rfl) ?_ _
              all_goals
                go_wp2_with fail
                go_roundw
                case measure => simp [intOf]; omega
                case rel => exact ⟨k + 3, _, _, by omega, by go_num, rfl, by rw [HT.out, str_append], by simp; omega, HTT.out, HW.out.trans (((Below.refl w.heap.size wr).alloc HW.out.size _).drew)⟩
        · have HN := Lib.hid (decAt_short HD.out hlt HC.out (by omega))
          go_wp2_with fail
          go_ret2
          exact ⟨by rw [HN.out]; rfl, HW.out⟩
      · have hc1 : ((s[k].toNat : Int) == 37) = false := by
          simp only [beq_eq_false_iff_ne, ne_eq]
          intro h
          exact hc (by rw [u8_eq]; show s[k].toNat = 37; omega)
        have hc2 : ((s[k].toNat : Int) != 37) = true := by rw [bne, hc1]; rfl
        have hx := ext1 s k hlt
        have hxs : (str [s[k]]).size = 1 := rfl
        have HC := Lib.hid hc
        clear hc
        go_wp2_with fail
        go_roundw
        case measure => simp [intOf]; omega
        case rel => exact ⟨k + 1, o ++ [s[k]], _, by omega, by go_num, rfl, by rw [HT.out, str_append], by simp; omega, decAt_plain HD.out hlt HC.out, HW.out⟩
    · obtain rfl : k = s.size := by omega
      have HE := Lib.hid (decAt_end HD.out)
      go_wp2_with fail
      go_ret2
      exact ⟨by rw [HE.out, HT.out]; rfl, HW.out⟩
end Go.Proofs.YtcjllikngfndhaaDoor

/- ragpickerref39.Words: what stands between blanks, without percent signs. -/
namespace Go.Proofs.YtcjllikngfndhaaDoor

open Go.RowKit

/-- what Words answers. -/
def WordsRes (ps : List (List UInt8)) (base : Nat) (e : Ending) (w' : World) : Prop :=
  (ps.mapM decP = none ∧ e = .returned (.tuple #[.slice none 0 0, .bool false])) ∨
  ∃ ds g cap, ps.mapM decP = some ds ∧ e = .returned (.tuple #[.slice (some ⟨g, 0, none⟩) ps.length cap, .bool true]) ∧ OS w' base (.slice (some ⟨g, 0, none⟩) ps.length cap) ds
theorem wordsRes_no {ps : List (List UInt8)} {base : Nat} {w' : World} (h : ps.mapM decP = none) : WordsRes ps base (.returned (.tuple #[.slice none 0 0, .bool false])) w' := .inl ⟨h, rfl⟩
theorem wordsRes_yes {ps ds : List (List UInt8)} {base g cap : Nat} {w' : World} (h : ps.mapM decP = some ds) (ho : OS w' base (.slice (some ⟨g, 0, none⟩) ps.length cap) ds) : WordsRes ps base (.returned (.tuple #[.slice (some ⟨g, 0, none⟩) ps.length cap, .bool true])) w' := .inr ⟨ds, g, cap, h, rfl, ho⟩

set_option maxRecDepth 100000 in
set_option maxHeartbeats 4000000 in
theorem words_any (s : ByteArray) (w : World) (hs : s.size ≤ 100000) :
    Calls Tryd.prog 44 #[.string s] w fun e w' => WordsRes (spl 32 s.data.toList) w.heap.size e w' ∧ Below w.heap.size w w' := by
  go_enter Tryd.func44, Tryd.ntmps44
  go_wp2_with fail
  go_loopw [4, 5] (fun t3 t4 wr => ∃ (k g cap : Nat) (ls : List (List UInt8)), k ≤ s.size ∧ t4 = .int .i64 k ∧ t3 = .slice (some ⟨g, 0, none⟩) ls.length cap ∧ OS wr w.heap.size (.slice (some ⟨g, 0, none⟩) ls.length cap) ls ∧ ls = spl 32 (s.data.toList.take k) ∧ Below w.heap.size w wr) (fun _ t4 _ => s.size - (intOf t4).toNat)
  case atStart => exact ⟨0, w.heap.size, 1, [[]], Nat.zero_le _, rfl, rfl, OS.one w _ [] (Nat.le_refl _), by simp [spl], balloc (Below.refl _ _) _⟩
  case round =>
    obtain ⟨k, g, cap, ls, hk, rfl, rfl, hO, hls, hW⟩ := hrel
    have hll : 0 < ls.length ∧ ls.length ≤ 100001 := by
      have h1 := spl_len 32 (s.data.toList.take k)
      have h2 : (s.data.toList.take k).length ≤ k := List.length_take_le _ _
      rw [hls]; omega
    have HO := Lib.hid hO
    have HLs := Lib.hid hls
    have HW := Lib.hid hW
    obtain ⟨hl0, hl1⟩ := hll
    by_cases hlt : k < s.size
    · have Hst := Lib.hid (take_step s k hlt)
      by_cases hc : s[k] = 32
      · have hc1 : ((s[k].toNat : Int) == 32) = true := by rw [hc]; rfl
        have HC := Lib.hid hc
        obtain ⟨g2, cap2, W, hrun, hO2, hB2⟩ := hO.app [] (by omega) hW.size
        have HR := Lib.hid hrun
        have HX := Lib.hid (And.intro hO2 hB2)
        clear hc hO hls hW hrun hO2 hB2
        go_wp2_with (at_builtin; refine wpList_app_run rfl rfl rfl rfl HR.out ?_)
        go_roundw
        case measure => simp [intOf]; omega
        case rel => exact ⟨k + 1, g2, cap2, ls ++ [[]], by omega, by go_num, by simp, by simpa using HX.out.1, by rw [Hst.out, spl_snoc, splStep, if_pos HC.out, ← HLs.out], HW.out.trans HX.out.2⟩
      · have hc1 : ((s[k].toNat : Int) == 32) = false := by
          simp only [beq_eq_false_iff_ne, ne_eq]
          intro h
          exact hc (by rw [u8_eq]; show s[k].toNat = 32; omega)
        have HC := Lib.hid hc
        have hcl := hO.cell (ls.length - 1) (by omega)
        obtain ⟨hfz, -, -⟩ := own_frozen hO
        have hts : (str ls[ls.length - 1]).size ≤ 100000 := by
          rw [str_size]
          have h1 := spl_size 32 (s.data.toList.take k) ls[ls.length - 1] (by rw [← hls]; exact List.getElem_mem _)
          have h2 : (s.data.toList.take k).length ≤ k := List.length_take_le _ _
          omega
        have HX := Lib.hid (fun (t : ByteArray) (ht : t = str (ls[ls.length - 1] ++ [s[k]])) => (show OS (wr.drew.setCell ⟨g, ls.length - 1, none⟩ (.string t)) w.heap.size (.slice (some ⟨g, 0, none⟩) ls.length cap) (ls.set (ls.length - 1) (ls[ls.length - 1] ++ [s[k]])) from by rw [ht]; exact OS.put (w := wr.drew) hO _ (by omega) _))
        have HEq := Lib.hid (show splStep 32 ls s[k] = ls.set (ls.length - 1) (ls[ls.length - 1] ++ [s[k]]) by
          unfold splStep
          rw [if_neg HC.out, List.getD_eq_getElem?_getD, List.getElem?_eq_getElem (show ls.length - 1 < ls.length by omega)]
          rfl)
        have hx := ext1 s k hlt
        have HT := Lib.hid (str_append ls[ls.length - 1] [s[k]])
        have hbg := Lib.hid (own_frozen hO).2
        generalize str ls[ls.length - 1] = t at hcl hts HT
        have HN := Lib.hid (show (1 : Int) ≤ (ls.length : Int) ∧ (0 : Int) ≤ (ls.length : Int) - 1 ∧ (ls.length : Int) - 1 < (ls.length : Int) ∧ ((ls.length : Int) - 1).toNat = ls.length - 1 ∧ (0 : Int) ≤ (k : Int) + 1 ∧ (k : Int) ≤ (k : Int) + 1 ∧ (k : Int) + 1 ≤ (s.size : Int) ∧ ((k : Int) + 1).toNat = k + 1 by omega)
        have hss : (str [s[k]]).size = 1 := rfl
        have HW1 := Lib.hid (And.intro (show IntKind.i64.wrap ((ls.length : Int) - 1) = (ls.length : Int) - 1 by simp [IntKind.wrap, IntKind.bits, IntKind.signed]; omega) (And.intro (show IntKind.i64.wrap ((k : Int) + 1) = (k : Int) + 1 by simp [IntKind.wrap, IntKind.bits, IntKind.signed]; omega) (show ¬ 9223372036854775807 < t.size + 1 by omega)))
        clear hc hO hls hW
        go_wp2_with fail
        obtain ⟨g1, g2, g3⟩ := HW1.out
        obtain ⟨n0, n1, n2, n3, n4, n5, n6, n7⟩ := HN.out
        refine wp_still_tail 17 (by kernel_rfl) (by kernel_rfl) ?_
        simp only [List.take_succ_cons, List.take_zero, List.drop_succ_cons, List.drop_zero]
        repeat still_step
        refine wpStill_nil ?_
        clear g1 g2 g3
        go_wp2_with fail
        go_roundw
        case measure => simp [intOf]; omega
        case rel => exact ⟨k + 1, g, cap, ls.set (ls.length - 1) (ls[ls.length - 1] ++ [s[k]]), by omega, by go_num, by rw [List.length_set], by rw [List.length_set]; exact HX.out _ HT.out, by rw [Hst.out, spl_snoc, ← HLs.out, HEq.out], HW.out.trans ((Below.refl _ _).drew.setCell hbg.out.1 _)⟩
    · obtain rfl : k = s.size := by omega
      have Hst := Lib.hid (take_end s)
      rw [Hst.out] at HLs
      have HPs := Lib.hid (show spl 32 s.data.toList = ls from HLs.out.symm)
      have HPz := Lib.hid (fun (p : List UInt8) (hp : p ∈ ls) => (show p.length ≤ 100000 from by
        have h1 := spl_size 32 s.data.toList p (by rw [HPs.out]; exact hp)
        have h2 : s.data.toList.length = s.size := Array.length_toList
        omega))
      clear hO hls hW Hst HLs
      go_wp2_with fail
      go_loopw [6] (fun t6 wq => ∃ (k : Nat) (ds : List (List UInt8)), k ≤ ls.length ∧ t6 = .int .i64 k ∧ (ls.take k).mapM decP = some ds ∧ OS wq w.heap.size (.slice (some ⟨g, 0, none⟩) ls.length cap) (ds ++ ls.drop k) ∧ Below w.heap.size w wq) (fun t6 _ => ls.length - (intOf t6).toNat)
      case atStart => exact ⟨0, [], Nat.zero_le _, rfl, rfl, HO.out, HW.out⟩
      case round =>
        obtain ⟨k, ds, hk, rfl, hds, hO, hW⟩ := hrel
        have HO := Lib.hid hO
        have HW := Lib.hid hW
        have HD := Lib.hid hds
        have hdl : ds.length = k := by rw [mapM_len hds, List.length_take]; omega
        have HDl := Lib.hid hdl
        obtain ⟨hfz, hg0, hg1⟩ := hO.free
        clear hW hds
        by_cases hlt : k < ls.length
        · have hcl := hO.cell2 k (by rw [List.length_append, List.length_drop]; omega)
          rw [List.getElem_append_right (by omega), List.getElem_drop] at hcl
          have hkk : (ls[k + (k - ds.length)]'(by omega)) = ls[k] := by congr 1; omega
          rw [hkk] at hcl
          have HDec := Lib.hid (fun w => rdecode_any (str ls[k]) w (by rw [str_size]; exact HPz.out _ (List.getElem_mem _)))
          have HT := Lib.hid (mapM_take (f := decP) ls k hlt HD.out)
          rw [str_list] at HDec
          generalize str ls[k] = pk at hcl HDec
          generalize decP ls[k] = r at HDec HT
          clear hO hdl hkk
          cases r with
          | none =>
            have HN := Lib.hid (mapM_none ls (k + 1) HT.out)
            simp only [decRes] at HDec
            clear hfz hg0
            go_wp2_with (go_at_call 64; refine (HDec.out _).mono ?_; rintro e w2 ⟨rfl, hb2⟩)
            go_ret2
            exact ⟨wordsRes_no (by rw [HPs.out]; exact HN.out), HW.out.trans (hb2.mono HW.out.size)⟩
          | some t =>
            simp only [decRes] at HDec
            have HT2 := Lib.hid (show (ls.take (k + 1)).mapM decP = some (ds ++ [t]) from HT.out)
            have HLen := Lib.hid (show k < (ds ++ ls.drop k).length by rw [List.length_append, List.length_drop, HDl.out]; omega)
            have HWs := Lib.hid HW.out.size
            go_wp2_with (go_at_call 64; refine (HDec.out _).mono ?_; rintro e w2 ⟨rfl, hb2⟩; have HW2 := Lib.hid (HW.out.trans (hb2.mono HWs.out)); have HO2 := Lib.hid (HO.out.keep hb2); have hg2 := HO2.out.free; obtain ⟨hfz2, -, hgl2⟩ := hg2; obtain ⟨v2, hcl2⟩ : ∃ v, w2.cell? ⟨g, k, none⟩ = some v := ⟨_, HO2.out.cell2 k HLen.out⟩; clear hb2)
            go_roundw
            case measure => simp [intOf]; omega
            case rel => exact ⟨k + 1, ds ++ [t], by omega, by go_num, HT2.out, by rw [← set_mid ds ls k HDl.out hlt t]; exact HO2.out.put2 k HLen.out t, HW2.out.setCell (show w.heap.size ≤ g by omega) _⟩
        · obtain rfl : k = ls.length := by omega
          have HYes := Lib.hid (show ls.mapM decP = some ds by have := HD.out; rwa [List.take_length] at this)
          have HOd := Lib.hid (show OS wr w.heap.size (.slice (some ⟨g, 0, none⟩) ls.length cap) ds by have := HO.out; rwa [List.drop_length, List.append_nil] at this)
          clear hO hdl hfz hg0 hg1
          go_wp2_with fail
          go_ret2
          exact ⟨by rw [HPs.out]; exact wordsRes_yes HYes.out HOd.out, HW.out⟩
end Go.Proofs.YtcjllikngfndhaaDoor

/- ragpickerref39.note. -/
namespace Go.Proofs.YtcjllikngfndhaaDoor

open Go.RowKit

/-- the reference's note of these words. -/
def mkR : List (List UInt8) → Nt
  | k :: n :: r => match numC n with
    | some no => if 1 < r.length then mkN k no r else Nt.zero
    | none => Nt.zero
  | _ => Nt.zero
def noteR (l : List UInt8) : Nt := match (spl 32 l).mapM decP with
  | some ws => mkR ws
  | none => Nt.zero
theorem mkN_far {k : List UInt8} {no : Int} {r : List (List UInt8)} (h : k.length ≠ 1 ∨ 3 < r.length ∨ r.length < 2) : mkN k no r = Nt.zero := by
  rcases r with _ | ⟨a, _ | ⟨b, _ | ⟨c, _ | ⟨d, r⟩⟩⟩⟩
  · rfl
  · rfl
  · have hk : k.length ≠ 1 := by simp at h; exact h
    exact mkN_zero (fun e => hk (by rw [e.1]; rfl)) (fun e => hk (by rw [e.1]; rfl)) (fun e => by simp at e)
  · have hk : k.length ≠ 1 := by simp at h; exact h
    exact mkN_zero (fun e => by simp at e) (fun e => by simp at e) (fun e => hk (by rw [e.1]; rfl))
  · rfl
theorem note_both (l : List UInt8) : noteL l = if mayB (noteR l) then some (noteR l) else none := by
  unfold noteL noteR
  cases (spl 32 l).mapM decP with
  | none => rfl
  | some ws =>
    rcases ws with _ | ⟨k, _ | ⟨n, r⟩⟩
    · rfl
    · rfl
    · show (if r.length < 2 then none else match numC n with | some no => chk (mkN k no r) | none => none) = _
      show _ = if mayB (match numC n with | some no => if 1 < r.length then mkN k no r else Nt.zero | none => Nt.zero) = true then some (match numC n with | some no => if 1 < r.length then mkN k no r else Nt.zero | none => Nt.zero) else none
      cases numC n with
      | none => by_cases h : r.length < 2 <;> simp [h, may_zero]
      | some no =>
        by_cases h : r.length < 2
        · rw [if_pos h]; simp only [if_neg (show ¬ 1 < r.length by omega)]; rfl
        · rw [if_neg h]; simp only [if_pos (show 1 < r.length by omega)]; rfl
theorem note_results1 {tmps : Array Value} {W : World} {B2 : Nat} {x : Nt} (hb : Blk W B2 #[.int .u8 x.kind.toNat, .int .i64 x.no, .string x.src, .string x.dst, .string x.tmp] 29)
    (h2 : tmps.getD 2 undef = .pointer (some ⟨B2, 0, none⟩)) : (results Tryd.f26 tmps).run Tryd.prog W = .ok (Nt.v x) W := by
  have q0 := hb.cell 0
  have q1 := hb.cell 1
  have q2 := hb.cell 2
  have q3 := hb.cell 3
  have q4 := hb.cell 4
  simp only [List.getElem?_toArray, List.getElem?_cons_zero, List.getElem?_cons_succ] at q0 q1 q2 q3 q4
  rw [Array.getD_eq_getD_getElem?] at h2
  simp [results, Tryd.results26, go_sem, Nt.v, h2, q0, q1, q2, q3, q4]
theorem rnum_val (s : ByteArray) (w : World) (hs : s.size ≤ 100000) : Calls Tryd.prog 45 #[.string s] w fun e w' => e = .returned (numRes (numC s.data.toList)) ∧ Below w.heap.size w w' :=
  (rnum_any s w hs).mono fun e w' ⟨⟨r, he, hr⟩, hb⟩ => ⟨by rw [he, numC_of hr], hb⟩
theorem str_one {c : UInt8} {h : 0 < (str [c]).size} : (str [c])[0]'h = c := rfl
theorem Blk.five {w : World} {B : Nat} {v0 v1 v2 v3 v4 : Value} {T : TypeId} (h : Blk w B #[v0, v1, v2, v3, v4] T) :
    w.cell? ⟨B, 0, none⟩ = some v0 ∧ w.cell? ⟨B, 1, none⟩ = some v1 ∧ w.cell? ⟨B, 2, none⟩ = some v2 ∧ w.cell? ⟨B, 3, none⟩ = some v3 ∧ w.cell? ⟨B, 4, none⟩ = some v4 := by
  rw [h.cell, h.cell, h.cell, h.cell, h.cell]
  exact ⟨rfl, rfl, rfl, rfl, rfl⟩
theorem c_of {c : UInt8} {n : Nat} (h : (c.toNat : Int) = n) (hn : n < 256 := by decide) : c = UInt8.ofNat n := by
  rw [u8_eq]
  simp [UInt8.toNat_ofNat']
  omega
theorem c_no {c : UInt8} {n : Nat} (h : ¬ (c.toNat : Int) = n) (e : [c] = [UInt8.ofNat n]) (hn : n < 256 := by decide) : False := by
  injection e with e
  rw [e] at h
  simp [UInt8.toNat_ofNat'] at h
  omega
theorem c_two {c a b : UInt8} (h : c = a) (h2 : [c] = [b]) (h3 : a ≠ b) : False := by
  injection h2 with h2
  exact h3 (h.symm.trans h2)
theorem ret_nt {x y : Nt} (h : x = y) : Ending.returned (Nt.v x) = .returned (Nt.v y) := by rw [h]

set_option maxRecDepth 100000 in
set_option maxHeartbeats 4000000 in
theorem rnote_any (s : ByteArray) (w : World) (hs : s.size ≤ 100000) :
    Calls Tryd.prog 26 #[.string s] w fun e w' => e = .returned (Nt.v (noteR s.data.toList)) ∧ Below w.heap.size w w' := by
  have hB0 := Blk.new w #[.int .u8 0, .int .i64 0, .string ByteArray.empty, .string ByteArray.empty, .string ByteArray.empty] 29
  have HB0 := Lib.hid hB0
  have HW0 := Lib.hid (balloc (Below.refl w.heap.size w) (.cells #[.int .u8 0, .int .i64 0, .string ByteArray.empty, .string ByteArray.empty, .string ByteArray.empty] 29))
  have HS := Lib.hid (words_any s (w.alloc (.cells #[.int .u8 0, .int .i64 0, .string ByteArray.empty, .string ByteArray.empty, .string ByteArray.empty] 29)) hs)
  clear hB0
  have hpl := (spl_len 32 s.data.toList).2
  have hpl1 : (spl 32 s.data.toList).length ≤ 100001 := by
    have h2 : s.data.toList.length = s.size := Array.length_toList
    omega
  generalize hps : spl 32 s.data.toList = ps at HS hpl1
  have HPs := Lib.hid hps
  clear hps hpl
  cases hws : ps.mapM decP with
  | none =>
    have HN := Lib.hid (show noteR s.data.toList = Nt.zero by unfold noteR; rw [HPs.out, hws])
    have HS2 := Lib.hid (HS.out.mono fun e w' h => show e = .returned (.tuple #[.slice none 0 0, .bool false]) ∧ Below _ _ w' from And.intro (by
      rcases h.1 with ⟨-, h⟩ | ⟨ds, g, cap, h, -⟩
      · exact h
      · rw [hws] at h; cases h) h.2)
    clear HS hws
    go_enter Tryd.func26, Tryd.ntmps26
    go_wp2_with (go_at_call 44; refine HS2.out.mono ?_; rintro e w1 ⟨rfl, hb1⟩; have HB1 := Lib.hid (HB0.out.keep hb1); have HW1 := Lib.hid (bnext HW0.out hb1); have hB1 := HB1.out; obtain ⟨q0, qf, ql⟩ := hB1.facts; clear hb1 hB1)
    exact bodyPost_ret (note_results1 (x := Nt.zero) HB1.out.set5 rfl) rfl ⟨ret_nt HN.out.symm, below_set5 HW1.out (Nat.le_refl _)⟩
  | some ds =>
    have HWords := Lib.hid (show (spl 32 s.data.toList).mapM decP = some ds by rw [HPs.out]; exact hws)
    have hdl : ds.length = ps.length := mapM_len hws
    have HMk := Lib.hid (show noteR s.data.toList = mkR ds by unfold noteR; rw [HPs.out, hws])
    have HS2 := Lib.hid (HS.out.mono fun e w' h => show (∃ g cap, e = .returned (.tuple #[.slice (some ⟨g, 0, none⟩) ps.length cap, .bool true]) ∧ OS w' _ (.slice (some ⟨g, 0, none⟩) ps.length cap) ds) ∧ Below _ _ w' from And.intro (by
      rcases h.1 with ⟨h, -⟩ | ⟨ds', g, cap, h, h2⟩
      · rw [hws] at h; cases h
      · rw [hws] at h; injection h with h; subst h; exact ⟨g, cap, h2⟩) h.2)
    clear HS hws
    by_cases hfar : ps.length < 4 ∨ 5 < ps.length
    · have HN := Lib.hid (show noteR s.data.toList = Nt.zero by
        rw [HMk.out]
        rcases ds with _ | ⟨k, _ | ⟨n, r⟩⟩
        · rfl
        · rfl
        · show (match numC n with | some no => if 1 < r.length then mkN k no r else Nt.zero | none => Nt.zero) = _
          simp only [List.length_cons] at hdl
          cases numC n with
          | none => rfl
          | some no =>
            show (if _ then _ else _) = _
            split
            · exact mkN_far (by omega)
            · rfl)
      go_enter Tryd.func26, Tryd.ntmps26
      rcases hfar with h1 | h1
      · have h2 : (ps.length : Int) < 4 := by omega
        clear h1 hdl
        go_wp2_with (go_at_call 44; refine HS2.out.mono ?_; rintro e w1 ⟨⟨g, cap, rfl, hO⟩, hb1⟩; have HB1 := Lib.hid (HB0.out.keep hb1); have HW1 := Lib.hid (bnext HW0.out hb1); have hB1 := HB1.out; obtain ⟨q0, qf, ql⟩ := hB1.facts; clear hb1 hB1 hO)
        exact bodyPost_ret (note_results1 (x := Nt.zero) HB1.out.set5 rfl) rfl ⟨ret_nt HN.out.symm, below_set5 HW1.out (Nat.le_refl _)⟩
      · have h2 : (5 : Int) < ps.length := by omega
        have h3 : (4 : Int) ≤ ps.length := by omega
        clear h1 hdl
        go_wp2_with (go_at_call 44; refine HS2.out.mono ?_; rintro e w1 ⟨⟨g, cap, rfl, hO⟩, hb1⟩; have HB1 := Lib.hid (HB0.out.keep hb1); have HW1 := Lib.hid (bnext HW0.out hb1); have hB1 := HB1.out; obtain ⟨q0, qf, ql⟩ := hB1.facts; clear hb1 hB1 hO)
        exact bodyPost_ret (note_results1 (x := Nt.zero) HB1.out.set5 rfl) rfl ⟨ret_nt HN.out.symm, below_set5 HW1.out (Nat.le_refl _)⟩
    · have h4 : (4 : Int) ≤ ps.length := by omega
      have h5 : (ps.length : Int) ≤ 5 := by omega
      have h4n : 4 ≤ ps.length := by omega
      have HL5 := Lib.hid (show ps.length ≤ 5 by omega)
      clear hfar
      obtain ⟨k0, n0, a, b, r, rfl⟩ : ∃ k0 n0 a b r, ds = k0 :: n0 :: a :: b :: r := by
        rcases ds with _ | ⟨a, _ | ⟨b, _ | ⟨c, _ | ⟨d, r⟩⟩⟩⟩
        · simp at hdl; omega
        · simp at hdl; omega
        · simp at hdl; omega
        · simp at hdl; omega
        · exact ⟨a, b, c, d, r, rfl⟩
      simp only [List.length_cons] at hdl
      have HLn := Lib.hid hdl
      have Hsz := Lib.hid (show ∀ y ∈ (k0 :: n0 :: a :: b :: r), y.length ≤ 100000 from fun y hy => by
        have h1 := words_size (l := s.data.toList) (ws := k0 :: n0 :: a :: b :: r) HWords.out y hy
        have h2 : s.data.toList.length = s.size := Array.length_toList
        omega)
      have hgg : 0 < (k0 :: n0 :: a :: b :: r).length := by simp
      clear hdl
      by_cases hk1 : k0.length = 1
      · obtain ⟨c, rfl⟩ := List.length_eq_one_iff.1 hk1
        have HPn := Lib.hid (fun w => rnum_val (str n0) w (by rw [str_size]; exact Hsz.out n0 (by simp)))
        rw [str_list] at HPn
        have hks : (str [c]).size = 1 := rfl
        clear hk1 hgg
        cases hno : numC n0 with
        | none =>
          have HN := Lib.hid (show noteR s.data.toList = Nt.zero by
            rw [HMk.out]
            show (match numC n0 with | some no => if 1 < (a :: b :: r).length then mkN [c] no (a :: b :: r) else Nt.zero | none => Nt.zero) = _
            rw [hno])
          rw [hno] at HPn
          simp only [numRes] at HPn
          clear hno
          go_enter Tryd.func26, Tryd.ntmps26
          go_wp2_with (first | (go_at_call 44; refine HS2.out.mono ?_; rintro e w1 ⟨⟨g, cap, rfl, hO⟩, hb1⟩; have HB1 := Lib.hid (HB0.out.keep hb1); have HW1 := Lib.hid (bnext HW0.out hb1); have hB1 := HB1.out; obtain ⟨q0, qf, ql⟩ := hB1.facts; have HO1 := Lib.hid hO; have c0 := hO.cell2 0 (by simp); have c1 := hO.cell2 1 (by simp); simp only [List.getElem_cons_zero, List.getElem_cons_succ] at c0 c1; have hgf := hO.free.2.2; clear hb1 hB1 hO) | (go_at_call 45; refine (HPn.out _).mono ?_; rintro e w2 ⟨rfl, hb2⟩; have HW2 := Lib.hid (bnext HW1.out hb2); have HB2 := Lib.hid (HB1.out.keep hb2); have hB2 := HB2.out; obtain ⟨q20, q2f, q2l⟩ := hB2.facts; clear hb2 q0 qf ql hB2))
          exact bodyPost_ret (note_results1 (x := Nt.zero) HB2.out.set5 rfl) rfl ⟨ret_nt HN.out.symm, below_set5 HW2.out (Nat.le_refl _)⟩
        | some no =>
          have HN := Lib.hid (show noteR s.data.toList = mkN [c] no (a :: b :: r) by
            rw [HMk.out]
            show (match numC n0 with | some no => if 1 < (a :: b :: r).length then mkN [c] no (a :: b :: r) else Nt.zero | none => Nt.zero) = _
            rw [hno]
            exact if_pos (by simp))
          rw [hno] at HPn
          simp only [numRes] at HPn
          clear hno
          go_enter Tryd.func26, Tryd.ntmps26
          go_upto_region 7 with (first | (go_at_call 44; refine HS2.out.mono ?_; rintro e w1 ⟨⟨g, cap, rfl, hO⟩, hb1⟩; have HB1 := Lib.hid (HB0.out.keep hb1); have HW1 := Lib.hid (bnext HW0.out hb1); have hB1 := HB1.out; obtain ⟨q0, qf, ql⟩ := hB1.facts; have HO1 := Lib.hid hO; have c0 := hO.cell2 0 (by simp); have c1 := hO.cell2 1 (by simp); simp only [List.getElem_cons_zero, List.getElem_cons_succ] at c0 c1; have hgf := hO.free.2.2; clear hb1 hB1 hO) | (go_at_call 45; refine (HPn.out _).mono ?_; rintro e w2 ⟨rfl, hb2⟩; have HW2 := Lib.hid (bnext HW1.out hb2); have HB2 := Lib.hid (HB1.out.keep hb2); have HO2 := Lib.hid (HO1.out.keep hb2); have HGo := Lib.hid (HO1.out.free.2.1); clear hb2 q0 qf ql c0 c1))
          have c0 := HO2.out.cell2 0 (by simp)
          simp only [List.getElem_cons_zero, List.getElem_cons_succ] at c0
          have hw2l : w.heap.size < w2.heap.size := HB2.out.lt
          obtain ⟨gfz, -, gfl⟩ := HO2.out.free
          clear gfz
          go_upto_region 8 with (fail)
          simp only [str_one]
          show Code.wp Tryd.prog _ _ _ (w2.alloc (.cells #[.int .u8 c.toNat, .int .i64 no, .string ByteArray.empty, .string ByteArray.empty, .string ByteArray.empty] 29))
          have HB7 := Lib.hid (Blk.new w2 #[.int .u8 c.toNat, .int .i64 no, .string ByteArray.empty, .string ByteArray.empty, .string ByteArray.empty] 29)
          have HW3 := Lib.hid (balloc HW2.out (.cells #[.int .u8 c.toNat, .int .i64 no, .string ByteArray.empty, .string ByteArray.empty, .string ByteArray.empty] 29))
          have HB3 := Lib.hid (HB2.out.old (.cells #[.int .u8 c.toNat, .int .i64 no, .string ByteArray.empty, .string ByteArray.empty, .string ByteArray.empty] 29))
          have HO3 := Lib.hid (HO2.out.keep (balloc (Below.refl _ _) (.cells #[.int .u8 c.toNat, .int .i64 no, .string ByteArray.empty, .string ByteArray.empty, .string ByteArray.empty] 29)))
          have HNe := Lib.hid (show w2.heap.size ≠ w.heap.size ∧ w2.heap.size ≠ g ∧ g ≠ w.heap.size by have h := HGo.out; simp at h; omega)
          have hle8 : w.heap.size ≤ w2.heap.size := by omega
          clear c0 hw2l gfl
          generalize w2.alloc (.cells #[.int .u8 c.toNat, .int .i64 no, .string ByteArray.empty, .string ByteArray.empty, .string ByteArray.empty] 29) = W at HW3 HB3 HB7 HO3 ⊢
          generalize w2.heap.size = B7 at HB7 HNe hle8 ⊢
          generalize hB2 : w.heap.size = B2 at HB3 HNe hle8 ⊢
          clear HB2 HW2 HO2 HB1 HW1 HO1 HGo
          have hO3 := HO3.out
          have hB3 := HB3.out
          have hB7 := HB7.out
          have qf := hB3.frozen
          have ql := hB3.lt
          have rf := hB7.frozen
          have rl := hB7.lt
          obtain ⟨q0, q1, q2, q3, q4⟩ := hB3.five
          obtain ⟨r0, r1, r2, r3, r4⟩ := hB7.five
          have d2 := hO3.cell2 2 (by simp)
          have d3 := hO3.cell2 3 (by simp)
          simp only [List.getElem_cons_zero, List.getElem_cons_succ] at d2 d3
          obtain ⟨-, -, hgl⟩ := hO3.free
          obtain ⟨hn1, hn2, hn3⟩ := HNe.out
          have hn4 := Ne.symm hn1
          have hn5 := Ne.symm hn2
          have hx2 : (2 : Int) < ps.length := by omega
          have hx3 : (3 : Int) < ps.length := by omega
          clear hO3 hB3 hB7
          rcases r with _ | ⟨x, r⟩
          · obtain hln : 4 = ps.length := by have := HLn.out; simpa using this
            have hb4 : ((ps.length : Int) == 4) = true := by rw [← hln]; rfl
            have hb5 : ((ps.length : Int) == 5) = false := by rw [← hln]; rfl
            clear hln
            have h0 := Lib.hid (show w.heap.size ≤ B2 ∧ w.heap.size ≤ B7 by omega)
            go_wp2_with fail
            · obtain rfl : c = 109 := c_of ‹(c.toNat : Int) = 109›
              exact bodyPost_ret (note_results1 (x := ⟨109, no, str a, str b, ByteArray.empty⟩) ((HB3.out.setOther _ _ hn1).setOther _ _ hn1).set5 rfl) rfl ⟨ret_nt ((mkN_m ..).symm.trans HN.out.symm), below_set5 ((HW3.out.setCell h0.out.2 _).setCell h0.out.2 _) h0.out.1⟩
            · obtain rfl : c = 99 := c_of ‹(c.toNat : Int) = 99›
              exact bodyPost_ret (note_results1 (x := ⟨99, no, ByteArray.empty, str a, str b⟩) ((HB3.out.setOther _ _ hn1).setOther _ _ hn1).set5 rfl) rfl ⟨ret_nt ((mkN_c ..).symm.trans HN.out.symm), below_set5 ((HW3.out.setCell h0.out.2 _).setCell h0.out.2 _) h0.out.1⟩
            · have hz := mkN_zero (k := [c]) (no := no) (a := a) (b := b) (r := []) (fun h => c_no ‹¬ (c.toNat : Int) = 109› h.1) (fun h => c_no ‹¬ (c.toNat : Int) = 99› h.1) (fun h => by cases h.2)
              exact bodyPost_ret (note_results1 (x := Nt.zero) HB3.out.set5 rfl) rfl ⟨ret_nt (hz.symm.trans HN.out.symm), below_set5 HW3.out h0.out.1⟩
            · have hz := mkN_zero (k := [c]) (no := no) (a := a) (b := b) (r := []) (fun h => c_no ‹¬ (c.toNat : Int) = 109› h.1) (fun h => c_no ‹¬ (c.toNat : Int) = 99› h.1) (fun h => by cases h.2)
              exact bodyPost_ret (note_results1 (x := Nt.zero) HB3.out.set5 rfl) rfl ⟨ret_nt (hz.symm.trans HN.out.symm), below_set5 HW3.out h0.out.1⟩
          · obtain rfl : r = [] := by have h := HLn.out; have h2 := HL5.out; simp at h; exact List.eq_nil_of_length_eq_zero (by omega)
            have hln : 5 = ps.length := by have := HLn.out; simpa using this
            have hb4 : ((ps.length : Int) == 4) = false := by rw [← hln]; rfl
            have hb5 : ((ps.length : Int) == 5) = true := by rw [← hln]; rfl
            have hx4 : (4 : Int) < ps.length := by omega
            have d4 := HO3.out.cell2 4 (by simp)
            simp only [List.getElem_cons_zero, List.getElem_cons_succ] at d4
            clear hln
            have h0 := Lib.hid (show w.heap.size ≤ B2 ∧ w.heap.size ≤ B7 by omega)
            go_wp2_with fail
            · have hz := mkN_zero (k := [c]) (no := no) (a := a) (b := b) (r := [x]) (fun h => by cases h.2) (fun h => by cases h.2) (fun h => c_two (c_of ‹(c.toNat : Int) = 109›) h.1 (by decide))
              exact bodyPost_ret (note_results1 (x := Nt.zero) HB3.out.set5 rfl) rfl ⟨ret_nt (hz.symm.trans HN.out.symm), below_set5 HW3.out h0.out.1⟩
            · have hz := mkN_zero (k := [c]) (no := no) (a := a) (b := b) (r := [x]) (fun h => by cases h.2) (fun h => by cases h.2) (fun h => c_two (c_of ‹(c.toNat : Int) = 99›) h.1 (by decide))
              exact bodyPost_ret (note_results1 (x := Nt.zero) HB3.out.set5 rfl) rfl ⟨ret_nt (hz.symm.trans HN.out.symm), below_set5 HW3.out h0.out.1⟩
            · obtain rfl : c = 120 := c_of ‹(c.toNat : Int) = 120›
              exact bodyPost_ret (note_results1 (x := ⟨120, no, str a, str b, str x⟩) (((HB3.out.setOther _ _ hn1).setOther _ _ hn1).setOther _ _ hn1).set5 rfl) rfl ⟨ret_nt ((mkN_x ..).symm.trans HN.out.symm), below_set5 (((HW3.out.setCell h0.out.2 _).setCell h0.out.2 _).setCell h0.out.2 _) h0.out.1⟩
            · have hz := mkN_zero (k := [c]) (no := no) (a := a) (b := b) (r := [x]) (fun h => by cases h.2) (fun h => by cases h.2) (fun h => c_no ‹¬ (c.toNat : Int) = 120› h.1)
              exact bodyPost_ret (note_results1 (x := Nt.zero) HB3.out.set5 rfl) rfl ⟨ret_nt (hz.symm.trans HN.out.symm), below_set5 HW3.out h0.out.1⟩
      · have HN := Lib.hid (show noteR s.data.toList = Nt.zero by
          rw [HMk.out]
          show (match numC n0 with | some no => if 1 < (a :: b :: r).length then mkN k0 no (a :: b :: r) else Nt.zero | none => Nt.zero) = _
          cases numC n0 with
          | none => rfl
          | some no =>
            show (if _ then _ else _) = _
            split
            · exact mkN_far (.inl hk1)
            · rfl)
        have hk2 : ¬ ((str k0).size : Int) = 1 := by rw [str_size]; omega
        have hk3 : (((str k0).size : Int) != 1) = true := by simpa using hk2
        clear hk1
        go_enter Tryd.func26, Tryd.ntmps26
        go_wp2_with (go_at_call 44; refine HS2.out.mono ?_; rintro e w1 ⟨⟨g, cap, rfl, hO⟩, hb1⟩; have HB1 := Lib.hid (HB0.out.keep hb1); have HW1 := Lib.hid (bnext HW0.out hb1); have hB1 := HB1.out; obtain ⟨q0, qf, ql⟩ := hB1.facts; have HO1 := Lib.hid hO; have c0 := hO.cell2 0 (by simp); have c1 := hO.cell2 1 (by simp); simp only [List.getElem_cons_zero, List.getElem_cons_succ] at c0 c1; have hgf := hO.free.2.2; clear hb1 hB1 hO)
        exact bodyPost_ret (note_results1 (x := Nt.zero) HB1.out.set5 rfl) rfl ⟨ret_nt HN.out.symm, below_set5 HW1.out (Nat.le_refl _)⟩
end Go.Proofs.YtcjllikngfndhaaDoor

/- A note's line tells the note again. No walk. -/
namespace Go.Proofs.YtcjllikngfndhaaDoor

open Go.RowKit

theorem encB_all : ∀ n : Fin 256, (32 : UInt8) ∉ encB (UInt8.ofNat n.val) ∧ (10 : UInt8) ∉ encB (UInt8.ofNat n.val) := by decide +kernel
theorem encB_no (c : UInt8) : (32 : UInt8) ∉ encB c ∧ (10 : UInt8) ∉ encB c := by
  have := encB_all ⟨c.toNat, UInt8.toNat_lt c⟩
  simpa using this
theorem encL_no (l : List UInt8) : (32 : UInt8) ∉ encL l ∧ (10 : UInt8) ∉ encL l := by
  unfold encL
  constructor <;> (intro h; obtain ⟨c, -, hc⟩ := List.mem_flatMap.1 h)
  · exact (encB_no c).1 hc
  · exact (encB_no c).2 hc
theorem hex_back : ∀ n : Fin 256, encB (UInt8.ofNat n.val) = [UInt8.ofNat n.val] ∧ UInt8.ofNat n.val ≠ 37 ∨
    ∃ a b, encB (UInt8.ofNat n.val) = [37, a, b] ∧ hexV a ≠ -1 ∧ hexV b ≠ -1 ∧ UInt8.ofNat (16 * hexV a + hexV b).toNat = UInt8.ofNat n.val := by
  have key : ∀ n : Fin 256, ((encB (UInt8.ofNat n.val) == [UInt8.ofNat n.val] && UInt8.ofNat n.val != 37) || (encB (UInt8.ofNat n.val) == [37, hexU (n.val / 16), hexU (n.val % 16)] && hexV (hexU (n.val / 16)) != -1 && hexV (hexU (n.val % 16)) != -1 && UInt8.ofNat (16 * hexV (hexU (n.val / 16)) + hexV (hexU (n.val % 16))).toNat == UInt8.ofNat n.val)) = true := by decide +kernel
  intro n
  have := key n
  simp only [Bool.or_eq_true, Bool.and_eq_true, beq_iff_eq, bne_iff_ne, ne_eq] at this
  rcases this with ⟨h1, h2⟩ | ⟨⟨⟨h1, h2⟩, h3⟩, h4⟩
  · exact .inl ⟨h1, h2⟩
  · exact .inr ⟨_, _, h1, h2, h3, h4⟩
theorem decP_encL : ∀ l : List UInt8, decP (encL l) = some l
  | [] => by simp [encL, decP]
  | c :: l => by
    have ih := decP_encL l
    have h := hex_back ⟨c.toNat, UInt8.toNat_lt c⟩
    simp only [UInt8.ofNat_toNat] at h
    have e : encL (c :: l) = encB c ++ encL l := rfl
    rw [e]
    rcases h with ⟨h1, h2⟩ | ⟨a, b, h1, h2, h3, h4⟩
    · rw [h1, List.singleton_append, decP_plain h2, ih]; rfl
    · rw [h1]
      show decP (37 :: a :: b :: encL l) = _
      rw [decP_two, if_neg (by rintro (e | e); exact h2 e; exact h3 e), ih, h4]
      rfl
theorem decL_byte (n : Int) : ∀ c ∈ decL n, c = 45 ∨ (48 ≤ c.toNat ∧ c.toNat ≤ 57) := by
  intro c hc
  unfold decL at hc
  split at hc
  · rcases List.mem_cons.1 hc with rfl | hc
    · exact .inl rfl
    · exact .inr (dig_bytes 10 (by omega) (by omega) _ c hc)
  · exact .inr (dig_bytes 10 (by omega) (by omega) _ c hc)
theorem decL_no (n : Int) : (32 : UInt8) ∉ decL n ∧ (10 : UInt8) ∉ decL n ∧ (37 : UInt8) ∉ decL n := by
  refine ⟨fun h => ?_, fun h => ?_, fun h => ?_⟩ <;> rcases decL_byte n _ h with e | ⟨e1, e2⟩ <;> first | (exact absurd e (by decide)) | (exact absurd e1 (by decide))
theorem decP_same : ∀ l : List UInt8, (37 : UInt8) ∉ l → decP l = some l
  | [], _ => by simp [decP]
  | c :: l, h => by
    rw [List.mem_cons, not_or] at h
    rw [decP_plain (fun e => h.1 e.symm), decP_same l h.2]
    rfl
/-- a line, without its end. -/
def lineW (x : Nt) : List UInt8 := x.kind :: 32 :: (decL x.no ++ (wordL x.src ++ (wordL x.dst ++ wordL x.tmp)))
theorem lineL_eq (x : Nt) : lineL x = lineW x ++ [10] := by simp [lineL, lineW, List.append_assoc]
theorem wordL_some {s : ByteArray} (h : s.size ≠ 0) : wordL s = 32 :: encL s.data.toList := by unfold wordL; rw [if_neg h]
theorem wordL_none {s : ByteArray} (h : s.size = 0) : wordL s = [] := by unfold wordL; rw [if_pos h]
theorem wordL_no (s : ByteArray) : (10 : UInt8) ∉ wordL s := by
  unfold wordL
  split
  · simp
  · rw [List.mem_cons, not_or]; exact ⟨by decide, (encL_no _).2⟩
theorem lineW_no {x : Nt} (h : mayB x = true) : (10 : UInt8) ∉ lineW x := by
  have hk : (10 : UInt8) ≠ x.kind := fun e => by
    have := may_kind h
    rw [← e] at this
    simp at this
  unfold lineW
  simp only [List.mem_cons, List.mem_append, not_or]
  exact ⟨hk, by decide, (decL_no _).2.1, wordL_no _, wordL_no _, wordL_no _⟩
theorem str_ne {s : ByteArray} (h : pathB s = true) : s.size ≠ 0 := fun e => by
  unfold pathB at h
  rw [pathE_nil e] at h
  simp at h
theorem str_empty {s : ByteArray} (h : s.toList.isEmpty = true) : s = ByteArray.empty := by
  rw [ba_list] at h
  have : s.data.toList = [] := by simpa using h
  rw [← str_of s, this]
  rfl
theorem mapM3 {a b c d : List UInt8} {a' b' c' d' : List UInt8} (h1 : decP a = some a') (h2 : decP b = some b') (h3 : decP c = some c') (h4 : decP d = some d') : [a, b, c, d].mapM decP = some [a', b', c', d'] := by
  simp [List.mapM_cons, h1, h2, h3, h4]
theorem mapM4 {a b c d e : List UInt8} {a' b' c' d' e' : List UInt8} (h1 : decP a = some a') (h2 : decP b = some b') (h3 : decP c = some c') (h4 : decP d = some d') (h5 : decP e = some e') : [a, b, c, d, e].mapM decP = some [a', b', c', d', e'] := by
  simp [List.mapM_cons, h1, h2, h3, h4, h5]
theorem spl_word4 {k n a b : List UInt8} (hk : (32 : UInt8) ∉ k) (hn : (32 : UInt8) ∉ n) (ha : (32 : UInt8) ∉ a) (hb : (32 : UInt8) ∉ b) : spl 32 (k ++ 32 :: (n ++ 32 :: (a ++ 32 :: b))) = [k, n, a, b] := by
  rw [spl_app, spl_app, spl_app, spl_none _ _ hk, spl_none _ _ hn, spl_none _ _ ha, spl_none _ _ hb]; rfl
theorem spl_word5 {k n a b c : List UInt8} (hk : (32 : UInt8) ∉ k) (hn : (32 : UInt8) ∉ n) (ha : (32 : UInt8) ∉ a) (hb : (32 : UInt8) ∉ b) (hc : (32 : UInt8) ∉ c) : spl 32 (k ++ 32 :: (n ++ 32 :: (a ++ 32 :: (b ++ 32 :: c)))) = [k, n, a, b, c] := by
  rw [spl_app, spl_app, spl_app, spl_app, spl_none _ _ hk, spl_none _ _ hn, spl_none _ _ ha, spl_none _ _ hb, spl_none _ _ hc]; rfl
theorem line_words4 (k : UInt8) (no : Int) (a b : ByteArray) (hk : k ≠ 32) (hk2 : k ≠ 37) (l : List UInt8) (hl : l = k :: 32 :: (decL no ++ (32 :: encL a.data.toList ++ (32 :: encL b.data.toList)))) :
    (spl 32 l).mapM decP = some [[k], decL no, a.data.toList, b.data.toList] := by
  have e : l = [k] ++ 32 :: (decL no ++ 32 :: (encL a.data.toList ++ 32 :: encL b.data.toList)) := by rw [hl]; simp
  rw [e, spl_word4 (by simpa using Ne.symm hk) (decL_no _).1 (encL_no _).1 (encL_no _).1]
  exact mapM3 (decP_same _ (by simpa using Ne.symm hk2)) (decP_same _ (decL_no _).2.2) (decP_encL _) (decP_encL _)
theorem line_words5 (k : UInt8) (no : Int) (a b c : ByteArray) (hk : k ≠ 32) (hk2 : k ≠ 37) (l : List UInt8) (hl : l = k :: 32 :: (decL no ++ (32 :: encL a.data.toList ++ (32 :: encL b.data.toList ++ (32 :: encL c.data.toList))))) :
    (spl 32 l).mapM decP = some [[k], decL no, a.data.toList, b.data.toList, c.data.toList] := by
  have e : l = [k] ++ 32 :: (decL no ++ 32 :: (encL a.data.toList ++ 32 :: (encL b.data.toList ++ 32 :: encL c.data.toList))) := by rw [hl]; simp
  rw [e, spl_word5 (by simpa using Ne.symm hk) (decL_no _).1 (encL_no _).1 (encL_no _).1 (encL_no _).1]
  exact mapM4 (decP_same _ (by simpa using Ne.symm hk2)) (decP_same _ (decL_no _).2.2) (decP_encL _) (decP_encL _) (decP_encL _)
theorem noteR_line {x : Nt} (h : mayB x = true) (h0 : -9223372036854775808 ≤ x.no) (h1 : x.no ≤ 9223372036854775807) : noteR (lineW x) = x := by
  obtain ⟨k, no, src, dst, tmp⟩ := x
  simp only at h0 h1
  have hm := h
  unfold mayB at h
  simp only at h
  split at h
  · rename_i hk
    simp only [Bool.and_eq_true] at h
    obtain ⟨⟨⟨h2, h3⟩, h4⟩, -⟩ := h
    obtain rfl := str_empty h4
    obtain rfl : k = 109 := UInt8.toNat_inj.1 hk
    have hw := line_words4 109 no src dst (by decide) (by decide) (lineW ⟨109, no, src, dst, ByteArray.empty⟩) (by
      unfold lineW; simp only [wordL_some (str_ne h2), wordL_some (str_ne h3), wordL_none (s := ByteArray.empty) rfl, List.append_nil])
    unfold noteR
    rw [hw]
    simp only [mkR, numC_decL no h0 h1]
    rw [if_pos (by simp), mkN_m, str_of, str_of]
  · split at h
    · rename_i hk
      simp only [Bool.and_eq_true] at h
      obtain ⟨⟨⟨h2, h3⟩, h4⟩, -⟩ := h
      obtain rfl := str_empty h2
      obtain rfl : k = 99 := UInt8.toNat_inj.1 hk
      have hw := line_words4 99 no dst tmp (by decide) (by decide) (lineW ⟨99, no, ByteArray.empty, dst, tmp⟩) (by
        unfold lineW; simp only [wordL_some (str_ne h3), wordL_some (str_ne h4), wordL_none (s := ByteArray.empty) rfl, List.nil_append])
      unfold noteR
      rw [hw]
      simp only [mkR, numC_decL no h0 h1]
      rw [if_pos (by simp), mkN_c, str_of, str_of]
    · simp only [Bool.and_eq_true, decide_eq_true_eq] at h
      obtain ⟨⟨⟨⟨hk, h2⟩, h3⟩, h4⟩, -⟩ := h
      obtain rfl : k = 120 := UInt8.toNat_inj.1 hk
      have hw := line_words5 120 no src dst tmp (by decide) (by decide) (lineW ⟨120, no, src, dst, tmp⟩) (by
        unfold lineW; simp only [wordL_some (str_ne h2), wordL_some (str_ne h3), wordL_some (str_ne h4)])
      unfold noteR
      rw [hw]
      simp only [mkR, numC_decL no h0 h1]
      rw [if_pos (by simp), mkN_x, str_of, str_of, str_of]
theorem noteL_line {x : Nt} (h : mayB x = true) (h0 : -9223372036854775808 ≤ x.no) (h1 : x.no ≤ 9223372036854775807) : noteL (lineW x) = some x := by
  rw [note_both, noteR_line h h0 h1, if_pos h]
end Go.Proofs.YtcjllikngfndhaaDoor
