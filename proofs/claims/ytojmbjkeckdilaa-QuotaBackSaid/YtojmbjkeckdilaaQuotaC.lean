/- Contracts of ragpickerlaw12.awake and ragpickerlaw12.QuotaTells: they answer true; no condition but that the integers fit their kind. -/
import Derived.Test.YtojmbjkeckdilaaQuotaB
namespace Go.Proofs.Ytojmbjkeckdilaa
open Go.RowKit

theorem tk_awake : tkV 0 0 1 1 2 2 = .tuple #[.agg #[.int .i64 0, .int .i64 0, .int .i64 1, .int .i64 1], .int .i64 15] := by
  refine tkV_of _ _ _ _ _ _ 15 ?_ (by decide)
  decide

set_option maxHeartbeats 1000000 in
theorem awake12_any (w : World) :
    Calls Try.prog 23 #[] w fun e w' => e = .returned (.bool true) ∧ Below w.heap.size w w' := by
  have hf : fineB 0 0 9 9 = true := by decide
  have hbk : blkI 2 513 = 2 := by decide
  have hl : limB 9 9 = true := by decide
  have Hl := Lib.hid hl
  have Ht := Lib.hid tk_awake
  clear hl
  go_enter Try.func23, Try.ntmps23
  go_wp2_with fail
  refine (take_any _ _ _ _ _ _ _).mono ?_
  rw [Ht.out]
  rintro e w1 ⟨rfl, hb1⟩
  go_wp2_with fail
  refine (new_yes 9 9 Hl.out _).mono ?_
  rintro e w2 ⟨rfl, hb2⟩
  go_wp2_with fail
  refine (blocks_any 2 513 (by omega) _).mono ?_
  rintro e w3 ⟨rfl, rfl⟩
  go_wp2_with fail
  refine (fine_any _ _ _ _ _).mono ?_
  rintro e w4 ⟨rfl, rfl⟩
  go_wp2_with fail
  go_ret
  exact ⟨rfl, balloc (balloc (bnext (balloc hb1 _) hb2) _) _⟩

theorem tkV_form (b n mb mn x y : Int) : ∃ b' n' e : Int, tkV b n mb mn x y = .tuple #[.agg #[.int .i64 b', .int .i64 n', .int .i64 mb, .int .i64 mn], .int .i64 e] := ⟨_, _, _, rfl⟩

set_option maxHeartbeats 4000000 in
theorem tells_yes (b n mb mn x y k : Int) (hx : x ≤ 9223372036854775807) (w : World) (hl : limB x y = true) :
    Calls Try.prog 4 #[.agg #[.int .i64 b, .int .i64 n, .int .i64 mb, .int .i64 mn], .agg #[.int .i64 x, .int .i64 y], .int .i64 k] w fun e w' => e = .returned (.bool true) ∧ Below w.heap.size w w' := by
  obtain ⟨b', n', e', hv⟩ := tkV_form b n mb mn x y
  have Hv := Lib.hid hv
  have Hl := Lib.hid hl
  clear hv
  go_enter Try.func4, Try.ntmps4
  go_wp2_with fail
  have q0 := (Blk.new w #[.int .i64 b, .int .i64 n, .int .i64 mb, .int .i64 mn] 33).old (.cells #[.int .i64 x, .int .i64 y] 34)
  have n0 := Blk.new (w.alloc (.cells #[.int .i64 b, .int .i64 n, .int .i64 mb, .int .i64 mn] 33)) #[.int .i64 x, .int .i64 y] 34
  have B0 := balloc (balloc (Below.refl w.heap.size w) (.cells #[.int .i64 b, .int .i64 n, .int .i64 mb, .int .i64 mn] 33)) (.cells #[.int .i64 x, .int .i64 y] 34)
  rw [World.size_alloc] at n0
  refine (take_any _ _ _ _ _ _ _).mono ?_
  rw [Hv.out]
  rintro e w1 ⟨rfl, hb1⟩
  replace q0 := q0.keep hb1
  replace n0 := n0.keep hb1
  replace B0 := bnext B0 hb1
  clear hb1
  obtain ⟨qc, -, qz⟩ := q0.facts
  obtain ⟨nc, -, nz⟩ := n0.facts
  go_wp2_with fail
  replace q0 := q0.old (.cells #[.int .i64 b', .int .i64 n', .int .i64 mb, .int .i64 mn] 33)
  replace n0 := n0.old (.cells #[.int .i64 b', .int .i64 n', .int .i64 mb, .int .i64 mn] 33)
  have a0 := Blk.new w1 #[.int .i64 b', .int .i64 n', .int .i64 mb, .int .i64 mn] 33
  replace B0 := balloc B0 (.cells #[.int .i64 b', .int .i64 n', .int .i64 mb, .int .i64 mn] 33)
  refine (rtake_any _ _ _ _ _ _ _).mono ?_
  rw [Hv.out]
  rintro e w2 ⟨rfl, hb2⟩
  replace q0 := q0.keep hb2
  replace n0 := n0.keep hb2
  replace a0 := a0.keep hb2
  replace B0 := bnext B0 hb2
  clear hb2 qc qz nc nz
  obtain ⟨nc, -, nz⟩ := n0.facts
  go_wp2_with fail
  replace q0 := q0.old (.cells #[.int .i64 b', .int .i64 n', .int .i64 mb, .int .i64 mn] 33)
  replace n0 := n0.old (.cells #[.int .i64 b', .int .i64 n', .int .i64 mb, .int .i64 mn] 33)
  replace a0 := a0.old (.cells #[.int .i64 b', .int .i64 n', .int .i64 mb, .int .i64 mn] 33)
  have b0 := Blk.new w2 #[.int .i64 b', .int .i64 n', .int .i64 mb, .int .i64 mn] 33
  replace B0 := balloc B0 (.cells #[.int .i64 b', .int .i64 n', .int .i64 mb, .int .i64 mn] 33)
  refine (new_yes _ _ Hl.out _).mono ?_
  rintro e w3 ⟨rfl, hb3⟩
  replace q0 := q0.keep hb3
  replace n0 := n0.keep hb3
  replace a0 := a0.keep hb3
  replace b0 := b0.keep hb3
  replace B0 := bnext B0 hb3
  clear hb3 nc nz
  go_wp2_with fail
  replace q0 := q0.old (.cells #[.int .i64 0, .int .i64 0, .int .i64 x, .int .i64 y] 33)
  replace n0 := n0.old (.cells #[.int .i64 0, .int .i64 0, .int .i64 x, .int .i64 y] 33)
  replace a0 := a0.old (.cells #[.int .i64 0, .int .i64 0, .int .i64 x, .int .i64 y] 33)
  replace b0 := b0.old (.cells #[.int .i64 0, .int .i64 0, .int .i64 x, .int .i64 y] 33)
  have c0 := Blk.new w3 #[.int .i64 0, .int .i64 0, .int .i64 x, .int .i64 y] 33
  replace B0 := balloc B0 (.cells #[.int .i64 0, .int .i64 0, .int .i64 x, .int .i64 y] 33)
  generalize w3.alloc (.cells #[.int .i64 0, .int .i64 0, .int .i64 x, .int .i64 y] 33) = W at q0 n0 a0 b0 c0 B0 ⊢
  obtain ⟨qc, -, qz⟩ := q0.facts
  obtain ⟨nc, -, nz⟩ := n0.facts
  obtain ⟨ac, -, az⟩ := a0.facts
  obtain ⟨bc, -, bz⟩ := b0.facts
  obtain ⟨cc, -, cz⟩ := c0.facts
  by_cases hx2 : x ≤ 2000000
  · go_region_held3 (fun w' => (∀ b o, b < W.heap.size → w'.cell? ⟨b, o, none⟩ = W.cell? ⟨b, o, none⟩) ∧ Below W.heap.size W w')
      (first | exact keepS_call (keepS_here _) ((Below.refl _ _).drew) | exact keepS_here _ | exact keepS_alloc (by assumption) _ | exact keepS_call (by assumption) (by assumption))
      (first | (go_at_call 18; refine (blocks_any _ _ (by omega) _).mono ?_; rintro e w' ⟨rfl, rfl⟩) | (go_at_call 19; refine (rblocks_any _ _ (by omega) _).mono ?_; rintro e w' ⟨rfl, rfl⟩))
    go_wp2_with fail
    refine (limits_any _ _ _).mono ?_
    rintro e w4 ⟨rfl, rfl⟩
    go_wp2_with fail
    go_region_held3 (fun w' => (∀ b o, b < W.heap.size → w'.cell? ⟨b, o, none⟩ = W.cell? ⟨b, o, none⟩) ∧ Below W.heap.size W w')
      (first | exact keepS_call (keepS_here _) ((Below.refl _ _).drew) | exact keepS_here _ | exact keepS_alloc (by assumption) _ | exact keepS_call (by assumption) (by assumption))
      (first | (go_at_call 21; refine (fine_any _ _ _ _ _).mono ?_; rintro e w' ⟨rfl, rfl⟩) | (go_at_call 22; refine (rfine_any _ _ _ _ _).mono ?_; rintro e w' ⟨rfl, rfl⟩) | (go_at_call 23; refine (awake12_any _).mono ?_; rintro e w' ⟨rfl, hb5⟩))
    go_wp2_with fail
    go_ret
    exact ⟨rfl, bnext B0 (keepS_below (by assumption))⟩
  · have hd : decide (x ≤ 2000000) = false := by simpa using hx2
    go_quiet (fail)
    go_wp2_with fail
    refine (limits_any _ _ _).mono ?_
    rintro e w4 ⟨rfl, rfl⟩
    go_wp2_with fail
    go_region_held3 (fun w' => (∀ b o, b < W.heap.size → w'.cell? ⟨b, o, none⟩ = W.cell? ⟨b, o, none⟩) ∧ Below W.heap.size W w')
      (first | exact keepS_alloc (by assumption) _ | exact keepS_call (by assumption) (by assumption) | exact ⟨fun _ _ _ => rfl, ⟨rfl, rfl, rfl, Nat.le_refl _, fun _ _ => rfl⟩⟩)
      (first | (go_at_call 21; refine (fine_any _ _ _ _ _).mono ?_; rintro e w' ⟨rfl, rfl⟩) | (go_at_call 22; refine (rfine_any _ _ _ _ _).mono ?_; rintro e w' ⟨rfl, rfl⟩) | (go_at_call 23; refine (awake12_any _).mono ?_; rintro e w' ⟨rfl, hb5⟩))
    go_wp2_with fail
    go_ret
    exact ⟨rfl, bnext B0 (keepS_below (by assumption))⟩

set_option maxHeartbeats 4000000 in
theorem tells_no (b n mb mn x y k : Int) (hx : x ≤ 9223372036854775807) (w : World) (hl : limB x y = false) :
    Calls Try.prog 4 #[.agg #[.int .i64 b, .int .i64 n, .int .i64 mb, .int .i64 mn], .agg #[.int .i64 x, .int .i64 y], .int .i64 k] w fun e w' => e = .returned (.bool true) ∧ Below w.heap.size w w' := by
  obtain ⟨b', n', e', hv⟩ := tkV_form b n mb mn x y
  have Hv := Lib.hid hv
  have Hl := Lib.hid hl
  clear hv
  go_enter Try.func4, Try.ntmps4
  go_wp2_with fail
  have q0 := (Blk.new w #[.int .i64 b, .int .i64 n, .int .i64 mb, .int .i64 mn] 33).old (.cells #[.int .i64 x, .int .i64 y] 34)
  have n0 := Blk.new (w.alloc (.cells #[.int .i64 b, .int .i64 n, .int .i64 mb, .int .i64 mn] 33)) #[.int .i64 x, .int .i64 y] 34
  have B0 := balloc (balloc (Below.refl w.heap.size w) (.cells #[.int .i64 b, .int .i64 n, .int .i64 mb, .int .i64 mn] 33)) (.cells #[.int .i64 x, .int .i64 y] 34)
  rw [World.size_alloc] at n0
  refine (take_any _ _ _ _ _ _ _).mono ?_
  rw [Hv.out]
  rintro e w1 ⟨rfl, hb1⟩
  replace q0 := q0.keep hb1
  replace n0 := n0.keep hb1
  replace B0 := bnext B0 hb1
  clear hb1
  obtain ⟨qc, -, qz⟩ := q0.facts
  obtain ⟨nc, -, nz⟩ := n0.facts
  go_wp2_with fail
  replace q0 := q0.old (.cells #[.int .i64 b', .int .i64 n', .int .i64 mb, .int .i64 mn] 33)
  replace n0 := n0.old (.cells #[.int .i64 b', .int .i64 n', .int .i64 mb, .int .i64 mn] 33)
  have a0 := Blk.new w1 #[.int .i64 b', .int .i64 n', .int .i64 mb, .int .i64 mn] 33
  replace B0 := balloc B0 (.cells #[.int .i64 b', .int .i64 n', .int .i64 mb, .int .i64 mn] 33)
  refine (rtake_any _ _ _ _ _ _ _).mono ?_
  rw [Hv.out]
  rintro e w2 ⟨rfl, hb2⟩
  replace q0 := q0.keep hb2
  replace n0 := n0.keep hb2
  replace a0 := a0.keep hb2
  replace B0 := bnext B0 hb2
  clear hb2 qc qz nc nz
  obtain ⟨nc, -, nz⟩ := n0.facts
  go_wp2_with fail
  replace q0 := q0.old (.cells #[.int .i64 b', .int .i64 n', .int .i64 mb, .int .i64 mn] 33)
  replace n0 := n0.old (.cells #[.int .i64 b', .int .i64 n', .int .i64 mb, .int .i64 mn] 33)
  replace a0 := a0.old (.cells #[.int .i64 b', .int .i64 n', .int .i64 mb, .int .i64 mn] 33)
  have b0 := Blk.new w2 #[.int .i64 b', .int .i64 n', .int .i64 mb, .int .i64 mn] 33
  replace B0 := balloc B0 (.cells #[.int .i64 b', .int .i64 n', .int .i64 mb, .int .i64 mn] 33)
  refine (new_no _ _ Hl.out _).mono ?_
  rintro e w3 ⟨rfl, hb3⟩
  replace q0 := q0.keep hb3
  replace n0 := n0.keep hb3
  replace a0 := a0.keep hb3
  replace b0 := b0.keep hb3
  replace B0 := bnext B0 hb3
  clear hb3 nc nz
  go_wp2_with fail
  replace q0 := q0.old (.cells #[.int .i64 0, .int .i64 0, .int .i64 0, .int .i64 0] 33)
  replace n0 := n0.old (.cells #[.int .i64 0, .int .i64 0, .int .i64 0, .int .i64 0] 33)
  replace a0 := a0.old (.cells #[.int .i64 0, .int .i64 0, .int .i64 0, .int .i64 0] 33)
  replace b0 := b0.old (.cells #[.int .i64 0, .int .i64 0, .int .i64 0, .int .i64 0] 33)
  have c0 := Blk.new w3 #[.int .i64 0, .int .i64 0, .int .i64 0, .int .i64 0] 33
  replace B0 := balloc B0 (.cells #[.int .i64 0, .int .i64 0, .int .i64 0, .int .i64 0] 33)
  generalize w3.alloc (.cells #[.int .i64 0, .int .i64 0, .int .i64 0, .int .i64 0] 33) = W at q0 n0 a0 b0 c0 B0 ⊢
  obtain ⟨qc, -, qz⟩ := q0.facts
  obtain ⟨nc, -, nz⟩ := n0.facts
  obtain ⟨ac, -, az⟩ := a0.facts
  obtain ⟨bc, -, bz⟩ := b0.facts
  obtain ⟨cc, -, cz⟩ := c0.facts
  by_cases hx2 : x ≤ 2000000
  · go_region_held3 (fun w' => (∀ b o, b < W.heap.size → w'.cell? ⟨b, o, none⟩ = W.cell? ⟨b, o, none⟩) ∧ Below W.heap.size W w')
      (first | exact keepS_call (keepS_here _) ((Below.refl _ _).drew) | exact keepS_here _ | exact keepS_alloc (by assumption) _ | exact keepS_call (by assumption) (by assumption))
      (first | (go_at_call 18; refine (blocks_any _ _ (by omega) _).mono ?_; rintro e w' ⟨rfl, rfl⟩) | (go_at_call 19; refine (rblocks_any _ _ (by omega) _).mono ?_; rintro e w' ⟨rfl, rfl⟩))
    go_wp2_with fail
    refine (limits_any _ _ _).mono ?_
    rintro e w4 ⟨rfl, rfl⟩
    go_wp2_with fail
    go_region_held3 (fun w' => (∀ b o, b < W.heap.size → w'.cell? ⟨b, o, none⟩ = W.cell? ⟨b, o, none⟩) ∧ Below W.heap.size W w')
      (first | exact keepS_call (keepS_here _) ((Below.refl _ _).drew) | exact keepS_here _ | exact keepS_alloc (by assumption) _ | exact keepS_call (by assumption) (by assumption))
      (first | (go_at_call 21; refine (fine_any _ _ _ _ _).mono ?_; rintro e w' ⟨rfl, rfl⟩) | (go_at_call 22; refine (rfine_any _ _ _ _ _).mono ?_; rintro e w' ⟨rfl, rfl⟩) | (go_at_call 23; refine (awake12_any _).mono ?_; rintro e w' ⟨rfl, hb5⟩))
    go_wp2_with fail
    go_ret
    exact ⟨rfl, bnext B0 (keepS_below (by assumption))⟩
  · have hd : decide (x ≤ 2000000) = false := by simpa using hx2
    go_quiet (fail)
    go_wp2_with fail
    refine (limits_any _ _ _).mono ?_
    rintro e w4 ⟨rfl, rfl⟩
    go_wp2_with fail
    go_region_held3 (fun w' => (∀ b o, b < W.heap.size → w'.cell? ⟨b, o, none⟩ = W.cell? ⟨b, o, none⟩) ∧ Below W.heap.size W w')
      (first | exact keepS_alloc (by assumption) _ | exact keepS_call (by assumption) (by assumption) | exact ⟨fun _ _ _ => rfl, ⟨rfl, rfl, rfl, Nat.le_refl _, fun _ _ => rfl⟩⟩)
      (first | (go_at_call 21; refine (fine_any _ _ _ _ _).mono ?_; rintro e w' ⟨rfl, rfl⟩) | (go_at_call 22; refine (rfine_any _ _ _ _ _).mono ?_; rintro e w' ⟨rfl, rfl⟩) | (go_at_call 23; refine (awake12_any _).mono ?_; rintro e w' ⟨rfl, hb5⟩))
    go_wp2_with fail
    go_ret
    exact ⟨rfl, bnext B0 (keepS_below (by assumption))⟩

theorem tells_any (b n mb mn x y k : Int) (hx : x ≤ 9223372036854775807) (w : World) :
    Calls Try.prog 4 #[.agg #[.int .i64 b, .int .i64 n, .int .i64 mb, .int .i64 mn], .agg #[.int .i64 x, .int .i64 y], .int .i64 k] w fun e w' => e = .returned (.bool true) ∧ Below w.heap.size w w' := by
  by_cases hl : limB x y = true
  · exact tells_yes b n mb mn x y k hx w hl
  · exact tells_no b n mb mn x y k hx w (by simpa using hl)
end Go.Proofs.Ytojmbjkeckdilaa
