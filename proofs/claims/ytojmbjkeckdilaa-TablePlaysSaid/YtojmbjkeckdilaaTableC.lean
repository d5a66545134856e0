/- ragpickerlaw13.awake and TableOnce: they answer true; TableOnce over any bytes that read as a slice of at most 2^63-1. -/
import Derived.Test.YtojmbjkeckdilaaTableB
namespace Go.Proofs.Ytojmbjkeckdilaa
open Go.RowKit

theorem Mod.belowTab {p m : Nat} {w W w' : World} (h : Mod (fun k => k = p ∨ k = m) W w') (hB : Below w.heap.size w W) (hp : w.heap.size ≤ p) (hm : w.heap.size ≤ m) : Below w.heap.size w w' :=
  hB.trans (h.below (by rintro k (rfl | rfl) <;> assumption) hB.size)

set_option maxRecDepth 100000 in
set_option maxHeartbeats 1000000 in
theorem awake13_any (w : World) :
    Calls Try.prog 12 #[] w fun e w' => e = .returned (.bool true) ∧ Below w.heap.size w w' := by
  go_enter Try.func12, Try.ntmps12
  go_wp2_with fail
  refine (new_table _).mono ?_
  rintro e w1 ⟨rfl, hT1, hB1⟩
  go_wp2_with fail
  refine (add_any { nd0 with kind := 1 } _ _ _ _ _ _ hT1 (by omega) (by omega)).mono ?_
  rintro e w2 ⟨rfl, hT2, hM2⟩
  have hB2 := hM2.belowTab hB1 (by omega) (by omega)
  go_wp2_with fail
  refine (add_any nd0 _ _ _ _ _ _ hT2 (by omega) (by omega)).mono ?_
  rintro e w3 ⟨rfl, hT3, hM3⟩
  have hB3 := hM3.belowTab hB2 (by omega) (by omega)
  go_wp2_with fail
  refine (drop_yes { nd0 with no := 2 } 2 _ _ _ _ _ _ hT3 rfl).mono ?_
  rintro e w4 ⟨rfl, hT4, hM4⟩
  have hB4 := hM4.belowTab hB3 (by omega) (by omega)
  go_wp2_with fail
  refine (add_any nd0 _ _ _ _ _ _ hT4 (by omega) (by omega)).mono ?_
  rintro e w5 ⟨rfl, hT5, hM5⟩
  have hB5 := hM5.belowTab hB4 (by omega) (by omega)
  go_wp2_with fail
  refine (get_yes { nd0 with no := 1, kind := 1 } 1 _ _ _ _ _ _ hT5 rfl).mono ?_
  unfold Nd.v nd0
  rintro e w6 ⟨rfl, hB6⟩
  go_wp2_with fail
  refine (len_table _ _ _ _ _ _ ((hT5.keep hB6).keep ((Below.refl _ _).alloc (Nat.le_refl _) _))).mono ?_
  rintro e w7 ⟨he, rfl⟩
  have he' : e = .returned (.int .i64 2) := he
  clear he
  subst he'
  go_wp2_with fail
  go_ret
  exact ⟨rfl, balloc (bnext hB5 hB6) _⟩

theorem findNd_cases (L : List (Nd × Nat)) (k : Int) : (∃ n, findNd L k = some n) ∨ findNd L k = none := by
  cases h : findNd L k with
  | none => exact .inr rfl
  | some n => exact .inl ⟨n, rfl⟩

/-- Drop, whatever is there. -/
theorem drop_any (k : Int) (w : World) (p m : Nat) (last : Int) (L : List (Nd × Nat)) (clk : Nat) (hT : Tab w p m last L clk) :
    Calls Try.prog 14 #[.pointer (some ⟨p, 0, none⟩), .int .i64 k] w fun e w' => e = .returned (.bool (findNd L k).isSome) ∧ Tab w' p m last (L.filter fun x => !(x.1.no == k)) clk ∧ Mod (fun k => k = p ∨ k = m) w w' := by
  rcases findNd_cases L k with ⟨n, h⟩ | h
  · rw [h]; exact drop_yes n k w p m last L clk hT h
  · rw [h]; exact drop_no k w p m last L clk hT h

/-- a slice of bytes, as it lies. -/
def BytesAt (w : World) (a : Option Addr) (len cap : Nat) (zs : List Int) : Prop :=
  (a = none ∧ len = 0 ∧ cap = 0 ∧ zs = []) ∨ (∃ b off : Nat, a = some ⟨b, off, none⟩ ∧ len ≤ cap ∧ cap ≤ 9223372036854775807 ∧ zs.length = cap ∧ ∀ j, j < cap → b < w.heap.size ∧ w.cell? ⟨b, off + j, none⟩ = some (.int .u8 (zs.getD j 0)) ∧ 0 ≤ zs.getD j 0 ∧ zs.getD j 0 ≤ 255)

set_option maxRecDepth 100000 in
set_option maxHeartbeats 1000000 in
theorem once_any (a : Option Addr) (len cap : Nat) (zs : List Int) (w : World) (hz : BytesAt w a len cap zs) :
    Calls Try.prog 3 #[.slice a len cap] w fun e w' => e = .returned (.bool true) ∧ Below w.heap.size w w' := by
  have hlen : len ≤ 9223372036854775807 := by rcases hz with ⟨-, h, -⟩ | ⟨b, off, -, h1, h2, -⟩ <;> omega
  by_cases h60 : 60 < len
  · go_enter Try.func3, Try.ntmps3
    go_wp2_with fail
    refine (new_table _).mono ?_
    rintro e w1 ⟨rfl, hT1, hB1⟩
    go_wp2_with fail
    refine (awake13_any _).mono ?_
    rintro e w2 ⟨rfl, hB2⟩
    go_wp2_with fail
    go_ret
    exact ⟨rfl, bnext hB1 hB2⟩
  · go_enter Try.func3, Try.ntmps3
    go_wp2_with fail
    refine (new_table _).mono ?_
    rintro e w1 ⟨rfl, hT1, hB1⟩
    go_wp2_with fail
    go_loopw [4] (fun i wr => ∃ (k : Nat) (L : List (Nd × Nat)) (clk : Nat), k ≤ len ∧ i = .int .i64 k ∧ Tab wr (w.heap.size + 1) w.heap.size k L clk ∧ Below w.heap.size w wr) (fun i _ => len - (intOf i).toNat)
    case atStart => exact ⟨0, [], 0, Nat.zero_le _, rfl, hT1, hB1⟩
    case round =>
      obtain ⟨k, L, clk, hk, rfl, hT, hB⟩ := hrel
      by_cases hlt : k < len
      · go_wp2_with fail
        refine (add_any nd0 _ _ _ _ _ _ hT (by omega) (by omega)).mono ?_
        rintro e w2 ⟨rfl, hT2, hM2⟩
        have hB2 := hM2.belowTab hB (by omega) (by omega)
        have hcell : ∃ b off : Nat, ∃ z : Int, a = some ⟨b, off, none⟩ ∧ w2.cell? ⟨b, off + k, none⟩ = some (.int .u8 z) ∧ 0 ≤ z ∧ z ≤ 255 := by
          rcases hz with ⟨-, h, -⟩ | ⟨b, off, ha, h1, h2, h3, h4⟩
          · omega
          · obtain ⟨h5, h6, h7, h8⟩ := h4 k (by omega)
            exact ⟨b, off, _, ha, (hB2.cell (p := ⟨b, off + k, none⟩) h5).trans h6, h7, h8⟩
        obtain ⟨b, off, z, rfl, hc, hz0, hz1⟩ := hcell
        go_wp2_with fail
        refine (drop_any z _ _ _ _ _ _ hT2).mono ?_
        rintro e w3 ⟨rfl, hT3, hM3⟩
        have hB3 := hM3.belowTab hB2 (by omega) (by omega)
        go_wp2_with fail
        go_roundw
        case rel => exact ⟨k + 1, _, _, by omega, by go_num, hT3, hB3⟩
        case measure => simp [intOf]; omega
      · obtain rfl : k = len := by omega
        go_wp2_with fail
        refine (add_any nd0 _ _ _ _ _ _ hT (by omega) (by omega)).mono ?_
        rintro e w2 ⟨rfl, hT2, hM2⟩
        have hB2 := hM2.belowTab hB (by omega) (by omega)
        go_wp2_with fail
        refine (awake13_any _).mono ?_
        rintro e w3 ⟨rfl, hB3⟩
        go_wp2_with fail
        go_ret
        exact ⟨rfl, bnext hB2 hB3⟩
end Go.Proofs.Ytojmbjkeckdilaa
