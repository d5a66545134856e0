/- ragpickerlaw12.QuotaBack answers true, over any pairs that lie as a slice of at most 2^63-1. -/
import Derived.Test.YtojmbjkeckdilaaQuotaC
import Derived.Test.YtojmbjkeckdilaaLib2
import Derived.Test.YtojmbjkeckdilaaFrame2
import Derived.Deep.CutRange
import Derived.Deep.LoopGhost
namespace Go.Proofs.Ytojmbjkeckdilaa
open Go.RowKit

/-- a pair of ints, two cells. -/
def pairR (cs : List Value) (p : Int × Int) : Prop := cs = [.int .i64 p.1, .int .i64 p.2] ∧ I64 p.1 ∧ I64 p.2

/-- Take gives a space that is fine, or the one it had; and what is taken goes back. -/
theorem tk_cases (b n mb mn x y : Int) (hf : fineB b n mb mn = true) :
    (tkV b n mb mn x y = .tuple #[.agg #[.int .i64 (b+x), .int .i64 (n+y), .int .i64 mb, .int .i64 mn], .int .i64 0] ∧ fineB (b+x) (n+y) mb mn = true ∧
      -1073741824 ≤ x ∧ x ≤ 1073741824 ∧ -1073741824 ≤ y ∧ y ≤ 1073741824 ∧
      tkV (b+x) (n+y) mb mn (0-x) (0-y) = .tuple #[.agg #[.int .i64 b, .int .i64 n, .int .i64 mb, .int .i64 mn], .int .i64 0]) ∨
    (∃ e : Int, e ≠ 0 ∧ tkV b n mb mn x y = .tuple #[.agg #[.int .i64 b, .int .i64 n, .int .i64 mb, .int .i64 mn], .int .i64 e]) := by
  by_cases he : tkE b n mb mn x y = 0
  · left
    have h := he
    unfold tkE at h
    split at h
    · cases h
    · rename_i hbad
      split at h
      · cases h
      · split at h
        · cases h
        · split at h
          · rename_i h1 h2 h3
            have hr : -1073741824 ≤ x ∧ x ≤ 1073741824 ∧ -1073741824 ≤ y ∧ y ≤ 1073741824 := by
              unfold tkBad at hbad; simp [hf] at hbad; omega
            refine ⟨tkV_ok b n mb mn x y he, h3, hr.1, hr.2.1, hr.2.2.1, hr.2.2.2, ?_⟩
            have hf' := hf
            unfold fineB at hf'
            simp only [decide_eq_true_eq] at hf'
            have hb2 := tkBad_eq (b+x) (n+y) mb mn (0-x) (0-y) h3 (by omega) (by omega) (by omega) (by omega)
            have e1 : b + x + (0 - x) = b := by omega
            have e2 : n + y + (0 - y) = n := by omega
            have he2 : tkE (b+x) (n+y) mb mn (0-x) (0-y) = 0 := by
              unfold tkE
              rw [hb2, e1, e2, if_neg (by simp), if_neg (by omega), if_neg (by omega), if_pos hf]
            have := tkV_ok (b+x) (n+y) mb mn (0-x) (0-y) he2
            rwa [e1, e2] at this
          · cases h
  · right
    exact ⟨_, he, tkV_of b n mb mn x y _ rfl he⟩

set_option maxRecDepth 100000 in
set_option maxHeartbeats 2000000 in
theorem back_any (k0 k1 : Int) (a : Option Addr) (len cap : Nat) (zs : List (Int × Int)) (w : World) (h0 : 0 ≤ k0) (h0' : k0 ≤ 65535) (h1 : 0 ≤ k1) (h1' : k1 ≤ 65535) (hz : SliceAt w 2 pairR a len cap zs) :
    Calls Try.prog 5 #[.int .u16 k0, .int .u16 k1, .slice a len cap] w fun e w' => e = .returned (.bool true) ∧ Below w.heap.size w w' := by
  have hlen : len ≤ 9223372036854775807 := by obtain ⟨-, h2, h3, -⟩ := hz; omega
  have Hl := Lib.hid (lim_mk (k0 + 1) (k1 + 1) (by omega) (by omega) (by omega) (by omega))
  by_cases h60 : 60 < len
  · go_enter Try.func5, Try.ntmps5
    go_wp2_with fail
    refine (new_yes _ _ Hl.out _).mono ?_
    rintro e w1 ⟨rfl, hb1⟩
    go_wp2_with fail
    refine (awake12_any _).mono ?_
    rintro e w2 ⟨rfl, hB2⟩
    go_wp2_with fail
    go_ret
    exact ⟨rfl, bnext (balloc hb1 _) hB2⟩
  · go_enter Try.func5, Try.ntmps5
    go_wp2_with fail
    refine (new_yes _ _ Hl.out _).mono ?_
    rintro e w1 ⟨rfl, hb1⟩
    go_wp2_with fail
    have hb1' : Below w.heap.size w (w1.alloc (.cells #[.int .i64 0, .int .i64 0, .int .i64 (k0 + 1), .int .i64 (k1 + 1)] 33)) := balloc hb1 _
    have q1 := Blk.new w1 #[.int .i64 0, .int .i64 0, .int .i64 (k0 + 1), .int .i64 (k1 + 1)] 33
    have hz1 : w.heap.size ≤ w1.heap.size := hb1.size
    generalize w1.heap.size = Q at hz1 q1 ⊢
    generalize w1.alloc (.cells #[.int .i64 0, .int .i64 0, .int .i64 (k0 + 1), .int .i64 (k1 + 1)] 33) = W1 at hb1' q1 ⊢
    generalize hmb : k0 + 1 = mb at q1 ⊢
    generalize hmn : k1 + 1 = mn at q1 ⊢
    have hf0 : fineB 0 0 mb mn = true := by unfold fineB; simp; omega
    clear Hl hmb hmn hb1
    go_loopg [9] len (fun g i wr => ∃ (k : Nat) (b n : Int), k ≤ len ∧ g = len - k ∧ i = .int .i64 k ∧ fineB b n mb mn = true ∧ Blk wr Q #[.int .i64 b, .int .i64 n, .int .i64 mb, .int .i64 mn] 33 ∧ Below w.heap.size w wr)
    case atStart => exact ⟨0, 0, 0, Nat.zero_le _, rfl, rfl, hf0, q1, hb1'⟩
    case round =>
      obtain ⟨k, b, n, hk, hg, rfl, hf, hq, hB⟩ := hrel
      have Hg := Lib.hid hg
      clear hg
      by_cases hlt : k < len
      · have hcell : ∃ ab off : Nat, ∃ x y : Int, a = some ⟨ab, off, none⟩ ∧ ab < w.heap.size ∧ wr.cell? ⟨ab, off + k * 2, none⟩ = some (.int .i64 x) ∧ wr.cell? ⟨ab, off + k * 2 + 1, none⟩ = some (.int .i64 y) ∧ (-9223372036854775808 ≤ x ∧ x ≤ 9223372036854775807) ∧ -9223372036854775808 ≤ y ∧ y ≤ 9223372036854775807 := by
          obtain ⟨hl, -, -, h | ⟨ab, off, ha, hlt', h4⟩⟩ := hz
          · omega
          · obtain ⟨cs, -, ⟨rfl, hx, hy⟩, h3⟩ := h4 k (by omega)
            exact ⟨ab, off, _, _, ha, hlt', (hB.cell (p := ⟨ab, off + k * 2, none⟩) hlt').trans (h3 0 (by simp)), (hB.cell (p := ⟨ab, off + k * 2 + 1, none⟩) hlt').trans (h3 1 (by simp)), hx, hy⟩
        obtain ⟨ab, off, x, y, rfl, habz, hcx, hcy, ⟨hx0, hx1⟩, hy0, hy1⟩ := hcell
        have habz' : ab < wr.heap.size := Nat.lt_of_lt_of_le habz hB.size
        obtain ⟨qc, qf, qz⟩ := hq.facts
        rcases tk_cases b n mb mn x y hf with ⟨hv, hf2, x1, x2, y1, y2, hv2⟩ | ⟨e, he, hv⟩
        · have Hv := Lib.hid hv
          have Hv2 := Lib.hid (show tkV (b + x) (n + y) mb mn (IntKind.i64.wrap (-x)) (IntKind.i64.wrap (-y)) = .tuple #[.agg #[.int .i64 b, .int .i64 n, .int .i64 mb, .int .i64 mn], .int .i64 0] by
            rw [IntWalk.i64_in (-x) ⟨by omega, by omega⟩, IntWalk.i64_in (-y) ⟨by omega, by omega⟩]
            rwa [Int.zero_sub, Int.zero_sub] at hv2)
          have Hf := Lib.hid hf
          have Hf2 := Lib.hid hf2
          clear hv hv2 hf hf2
          go_upto_region 7 with fail
          have hle : wr.heap.size ≤ wr.heap.size := Nat.le_refl _
          go_cut [10, 11] from 36 to 95 (fun s10 s11 wx => ∃ X : Nat, s10 = .pointer (some ⟨X, 0, none⟩) ∧ s11 = .int .i64 0 ∧ wr.heap.size ≤ X ∧ Blk wx X #[.int .i64 (b + x), .int .i64 (n + y), .int .i64 mb, .int .i64 mn] 33 ∧ Below wr.heap.size wr wx)
          case first =>
            go_region_held3 (fun w' => (∀ b o, b < wr.heap.size → w'.cell? ⟨b, o, none⟩ = wr.cell? ⟨b, o, none⟩) ∧ Below wr.heap.size wr w') (first | with_reducible exact keepS_here _ | with_reducible exact keepS_here2 _ | with_reducible exact keepS_call (by assumption) (by assumption) | with_reducible exact keepS_alloc (by assumption) _ | with_reducible exact keepS_allocD (by assumption) _ | with_reducible exact keepS_realloc (by assumption) (by assumption) | with_reducible exact keepS_set4 (by assumption) (by assumption))
              ((go_at_call 15; refine (take_any _ _ _ _ _ _ _).mono ?_; rw [Hv.out]; rintro e w' ⟨rfl, hb4⟩; (try (have hs4 : wr.heap.size ≤ w'.heap.size := hb4.size)); (try (with_reducible have hn4 := new_drew hb4; obtain ⟨nc4, nf4, nz4⟩ := hn4.facts))))
            all_goals (go_wp2_with fail; go_meet; first | with_reducible exact ⟨_, rfl, rfl, by assumption, Blk.new _ _ _, keepS_below (by assumption)⟩ | with_reducible exact ⟨wr.heap.size, rfl, rfl, Nat.le_refl _, Blk.set4 (by assumption), keepS_below (by assumption)⟩)
          case rest =>
            obtain ⟨X, rfl, rfl, hX, hbX, hBX⟩ := hcut
            have hqX := hq.keep hBX
            obtain ⟨xc, -, xz⟩ := hbX.facts
            obtain ⟨qc', -, qz'⟩ := hqX.facts
            clear qc qf
            have hf2 := Hf2.out
            have hcx' := (hBX.cell (p := ⟨ab, off + k * 2, none⟩) habz').trans hcx
            have hcy' := (hBX.cell (p := ⟨ab, off + k * 2 + 1, none⟩) habz').trans hcy
            have hB' := bnext hB hBX
            have habz2 : ab < wc.heap.size := Nat.lt_of_lt_of_le habz' hBX.size
            clear hcx hcy
            go_wp2_with fail
            refine (fine_any _ _ _ _ _).mono ?_
            rintro e w' ⟨rfl, rfl⟩
            have hB2 := balloc hB' (.cells #[.int .i64 (b + x), .int .i64 (n + y), .int .i64 mb, .int .i64 mn] 33)
            have hX2 := hbX.old (.cells #[.int .i64 (b + x), .int .i64 (n + y), .int .i64 mb, .int .i64 mn] 33)
            have hq2 := hqX.old (.cells #[.int .i64 (b + x), .int .i64 (n + y), .int .i64 mb, .int .i64 mn] 33)
            have hcx2 := (((Below.refl _ wc).alloc (Nat.le_refl _) (.cells #[.int .i64 (b + x), .int .i64 (n + y), .int .i64 mb, .int .i64 mn] 33)).cell (p := ⟨ab, off + k * 2, none⟩) habz2).trans hcx'
            have hcy2 := (((Below.refl _ wc).alloc (Nat.le_refl _) (.cells #[.int .i64 (b + x), .int .i64 (n + y), .int .i64 mb, .int .i64 mn] 33)).cell (p := ⟨ab, off + k * 2 + 1, none⟩) habz2).trans hcy'
            have habz3 : ab < (wc.alloc (.cells #[.int .i64 (b + x), .int .i64 (n + y), .int .i64 mb, .int .i64 mn] 33)).heap.size := by rw [World.size_alloc]; omega
            go_upto_region 11 with fail
            generalize wc.alloc (.cells #[.int .i64 (b + x), .int .i64 (n + y), .int .i64 mb, .int .i64 mn] 33) = wd at hB2 hX2 hq2 hcx2 hcy2 habz3 ⊢
            clear xc xz qc' qz' hcx' hcy' hqX hbX hBX hB'
            obtain ⟨xc, -, xz⟩ := hX2.facts
            have hle11 : wd.heap.size ≤ wd.heap.size := Nat.le_refl _
            go_cut [12, 13] from 36 to 95 (fun s12 s13 wx => ∃ X : Nat, s12 = .pointer (some ⟨X, 0, none⟩) ∧ s13 = .int .i64 0 ∧ wd.heap.size ≤ X ∧ Blk wx X #[.int .i64 b, .int .i64 n, .int .i64 mb, .int .i64 mn] 33 ∧ Below wd.heap.size wd wx)
            case first =>
              go_region_held3 (fun w' => (∀ b o, b < wd.heap.size → w'.cell? ⟨b, o, none⟩ = wd.cell? ⟨b, o, none⟩) ∧ Below wd.heap.size wd w') (first | with_reducible exact keepS_here _ | with_reducible exact keepS_here2 _ | with_reducible exact keepS_call (by assumption) (by assumption) | with_reducible exact keepS_alloc (by assumption) _ | with_reducible exact keepS_allocD (by assumption) _ | with_reducible exact keepS_realloc (by assumption) (by assumption) | with_reducible exact keepS_set4 (by assumption) (by assumption))
                ((go_at_call 15; refine (take_any _ _ _ _ _ _ _).mono ?_; rw [Hv2.out]; rintro e w' ⟨rfl, hb4⟩; (try (have hs4 : wd.heap.size ≤ w'.heap.size := hb4.size)); (try (with_reducible have hn4 := new_drew hb4; obtain ⟨nc4, nf4, nz4⟩ := hn4.facts))))
              all_goals (go_wp2_with fail; go_meet; first | with_reducible exact ⟨_, rfl, rfl, by assumption, Blk.new _ _ _, keepS_below (by assumption)⟩ | with_reducible exact ⟨wd.heap.size, rfl, rfl, Nat.le_refl _, Blk.set4 (by assumption), keepS_below (by assumption)⟩)
            case rest =>
              obtain ⟨Y, rfl, rfl, hY, hbY, hBY⟩ := hcut
              have hqY := hq2.keep hBY
              have hxY := hX2.keep hBY
              clear xc xz
              obtain ⟨xc, -, xz⟩ := hxY.facts
              obtain ⟨yc, -, yz⟩ := hbY.facts
              obtain ⟨qc', qf', qz'⟩ := hqY.facts
              have hB3 := bnext hB2 hBY
              clear hf2
              go_wp2_with fail
              go_roundg (len - (k + 1))
              case measure => rw [Hg.out]; omega
              case rel => exact ⟨k + 1, b + x, n + y, by omega, rfl, by go_num, Hf2.out, Blk.set4 hqY, below_set4 hB3 hz1⟩
        · have Hv := Lib.hid hv
          have Hf := Lib.hid hf
          have he' : (e == 0) = false := by simpa using he
          have he'' : (e != 0) = true := by simpa using he
          clear hv he
          go_upto_region 7 with fail
          have hle : wr.heap.size ≤ wr.heap.size := Nat.le_refl _
          go_cut [10, 11] from 36 to 95 (fun s10 s11 wx => ∃ X : Nat, s10 = .pointer (some ⟨X, 0, none⟩) ∧ s11 = .int .i64 e ∧ wr.heap.size ≤ X ∧ Blk wx X #[.int .i64 b, .int .i64 n, .int .i64 mb, .int .i64 mn] 33 ∧ Below wr.heap.size wr wx)
          case first =>
            go_region_held3 (fun w' => (∀ b o, b < wr.heap.size → w'.cell? ⟨b, o, none⟩ = wr.cell? ⟨b, o, none⟩) ∧ Below wr.heap.size wr w') (first | with_reducible exact keepS_here _ | with_reducible exact keepS_here2 _ | with_reducible exact keepS_call (by assumption) (by assumption) | with_reducible exact keepS_alloc (by assumption) _ | with_reducible exact keepS_allocD (by assumption) _ | with_reducible exact keepS_realloc (by assumption) (by assumption) | with_reducible exact keepS_set4 (by assumption) (by assumption))
              ((go_at_call 15; refine (take_any _ _ _ _ _ _ _).mono ?_; rw [Hv.out]; rintro e w' ⟨rfl, hb4⟩; (try (have hs4 : wr.heap.size ≤ w'.heap.size := hb4.size)); (try (with_reducible have hn4 := new_drew hb4; obtain ⟨nc4, nf4, nz4⟩ := hn4.facts))))
            all_goals (go_wp2_with fail; go_meet; first | with_reducible exact ⟨_, rfl, rfl, by assumption, Blk.new _ _ _, keepS_below (by assumption)⟩ | with_reducible exact ⟨wr.heap.size, rfl, rfl, Nat.le_refl _, Blk.set4 (by assumption), keepS_below (by assumption)⟩)
          case rest =>
            obtain ⟨X, rfl, rfl, hX, hbX, hBX⟩ := hcut
            have hqX := hq.keep hBX
            obtain ⟨xc, -, xz⟩ := hbX.facts
            obtain ⟨qc', qf', qz'⟩ := hqX.facts
            have hB' := bnext hB hBX
            clear qc qf hcx hcy
            go_wp2_with fail
            refine (fine_any _ _ _ _ _).mono ?_
            rintro e w' ⟨rfl, rfl⟩
            go_wp2_with fail
            go_roundg (len - (k + 1))
            case measure => rw [Hg.out]; omega
            case rel => exact ⟨k + 1, b, n, by omega, rfl, by go_num, Hf.out, (Blk.set4 hqX).old _, (below_set4 hB' hz1).alloc (by have := hB'.size; simpa [World.setCell] using this) _⟩
      · obtain rfl : k = len := by omega
        go_wp2_with fail
        refine (awake12_any _).mono ?_
        rintro e w2 ⟨rfl, hB2⟩
        go_wp2_with fail
        go_ret
        exact ⟨rfl, bnext hB hB2⟩
end Go.Proofs.Ytojmbjkeckdilaa
