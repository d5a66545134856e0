/- Texts of the proof, part 44. -/
import Derived.Test.YtaojpbgaengdpaaGreatSP43
set_option linter.unusedVariables false
set_option linter.unusedSimpArgs false
/- Trees that are to be (layer 22): chapter 22's example. -/
namespace Go.Proofs.YtaojpbgaengdpaaGreat

open Go.RowKit

def bA : ByteArray := ⟨#[47, 97]⟩
def bAX : ByteArray := ⟨#[47, 97, 47, 120]⟩
def bBX : ByteArray := ⟨#[47, 98, 47, 120]⟩
def bX : ByteArray := ⟨#[120]⟩
def its22 : List It := [⟨bA, 1, 448, 5, 0, 9, ⟨#[]⟩⟩, ⟨bAX, 2, 0, 0, 0, 0, bX⟩, ⟨bBX, 2, 0, 0, 0, 0, ⟨#[]⟩⟩]
theorem path22 : (plantF [] its22).path c00 bAX false = (⟨2, bX, 3, false⟩, 0) := by kernel_rfl
theorem len22 : (plantF [] its22).ns.length = 3 := by kernel_rfl
theorem get22 : (plantF [] its22).get 2 = some ⟨2, 1, 1, 448, 5, 0, 9, 0, 1, 1, ⟨#[]⟩, [⟨bX, 3⟩]⟩ := by kernel_rfl
theorem read22 : (plantF [] its22).read c00 3 = (bX, 0) := by kernel_rfl
theorem wlen_any {w : World} {pw : Nat} {R : Rp} {S : Fs} (h : WdAt w pw R S) :
    Calls Tryz.prog 21 #[.pointer (some ⟨R.pt, 0, none⟩)] w fun e w' => e = .returned (.int .i64 S.ns.length) ∧ w = w' := by
  have hl : (R.G.map Gn.e).length = S.ns.length := by rw [h.ns, List.length_map, List.length_map]
  rw [← hl]
  exact len_table w R.pt R.pm S.last _ R.clk h.tab
def C22 : Array Value := #[.string (ByteArray.mk #[47, 97]), .int .i64 1, .int .i64 448, .int .i64 5, .int .i64 0, .int .i64 9, .string (ByteArray.mk #[]), .string (ByteArray.mk #[47, 97, 47, 120]), .int .i64 2, .int .i64 0, .int .i64 0, .int .i64 0, .int .i64 0, .string (ByteArray.mk #[120]), .string (ByteArray.mk #[47, 98, 47, 120]), .int .i64 2, .int .i64 0, .int .i64 0, .int .i64 0, .int .i64 0, .string (ByteArray.mk #[])]
theorem sd22 {w : World} {b : Nat} (h : Blk w b C22 44) : SdAt w none 0 0 (some ⟨b, 0, none⟩) 3 3 [] its22 := by
  refine ⟨⟨rfl, Nat.le_refl _, by omega, .inl rfl⟩, ⟨rfl, Nat.le_refl _, by omega, .inr ⟨b, 0, rfl, h.lt, fun i hi => ⟨itC its22[i], rfl, rfl, fun j hj => ?_⟩⟩⟩⟩
  rw [itC_len] at hj
  rw [h.cell]
  have hi3 : i < 3 := hi
  match i, hi3 with
  | 0, _ => match j, hj with
    | 0, _ => rfl
    | 1, _ => rfl
    | 2, _ => rfl
    | 3, _ => rfl
    | 4, _ => rfl
    | 5, _ => rfl
    | 6, _ => rfl
  | 1, _ => match j, hj with
    | 0, _ => rfl
    | 1, _ => rfl
    | 2, _ => rfl
    | 3, _ => rfl
    | 4, _ => rfl
    | 5, _ => rfl
    | 6, _ => rfl
  | 2, _ => match j, hj with
    | 0, _ => rfl
    | 1, _ => rfl
    | 2, _ => rfl
    | 3, _ => rfl
    | 4, _ => rfl
    | 5, _ => rfl
    | 6, _ => rfl
set_option maxRecDepth 100000 in
set_option maxHeartbeats 2000000 in
theorem awake22_any (w : World) :
    Calls Tryz.prog 6 #[] w fun e w' => e = .returned (.bool true) ∧ Below w.heap.size w w' := by
  have hX := Blk.new w C22 44
  have hbX := balloc (Below.refl w.heap.size w) (.cells C22 44)
  have HPl := Lib.hid (plant_any _ (sd22 hX) (by show (0 : Nat) ≤ _; omega) (by show (3 : Nat) ≤ _; omega) (fun m hm => by cases hm) (fun x hx => by
    have : ∀ x ∈ its22, x.path.size ≤ 100000 ∧ x.data.size ≤ 100000 := by decide
    exact this x hx))
  have HOk := Lib.hid (plant_ok [] its22)
  have HB := Lib.hid hbX
  unfold C22 at HPl HB
  clear hX hbX
  go_enter Tryz.func6, Tryz.ntmps6
  go_wp2_with fail
  refine HPl.out.mono ?_
  rintro e w1 ⟨pf, pw, R, pv, Y, rfl, hY, rfl, -, hb1⟩
  have HB1 := Lib.hid (bnext HB.out hb1)
  have HY := Lib.hid hY
  have HF := Lib.hid (fun w2 (hb2 : Below w1.heap.size w1 w2) => sfind_any (hY.keep hb2) HOk.out (by decide) rfl c00 (ByteArray.mk #[47, 97, 47, 120]) (by decide) false)
  have HS := Lib.hid (fun w2 (hb2 : Below w1.heap.size w1 w2) => sstat_any (hY.keep hb2) HOk.out rfl 2)
  have HR := Lib.hid (fun w2 (hb2 : Below w1.heap.size w1 w2) => sreadF_any (hY.keep hb2) HOk.out rfl c00 3)
  have HL := Lib.hid (fun w2 (hb2 : Below w1.heap.size w1 w2) => wlen_any (hY.keep hb2).wd)
  have p22 : (plantF [] its22).path c00 (ByteArray.mk #[47, 97, 47, 120]) false = (⟨2, bX, 3, false⟩, 0) := path22
  dsimp only at HF HS HR HL
  rw [p22] at HF
  rw [get22] at HS
  rw [read22] at HR
  rw [len22] at HL
  unfold Fd.v at HF
  unfold stV noneE at HS
  simp only [c00, bX] at HF HS HR HL
  obtain ⟨pc, -, pz⟩ := hY.blk.facts
  obtain ⟨tc, -, tz⟩ := hY.wd.blk.facts
  have HPC := Lib.hid (fun w2 (hb2 : Below w1.heap.size w1 w2) => And.intro ((hb2.cell (p := ⟨pf, 0, none⟩) pz).trans (pc 0)) ((hb2.cell (p := ⟨pw, 0, none⟩) tz).trans (tc 0)))
  clear hY hb1 p22 pc pz tc tz
  go_wp2_with fail
  refine (HF.out _ (Below.refl _ _)).mono ?_
  rintro e w2 ⟨rfl, hb2⟩
  have hX2 := Blk.new w2 #[.int .i64 2, .string (ByteArray.mk #[120]), .int .i64 3, .bool false] 50
  have hbX := balloc hb2 (.cells #[.int .i64 2, .string (ByteArray.mk #[120]), .int .i64 3, .bool false] 50)
  clear hb2
  go_upto_region 5 with fail
  generalize w2.alloc (.cells #[.int .i64 2, .string (ByteArray.mk #[120]), .int .i64 3, .bool false] 50) = X at hX2 hbX ⊢
  have HX2 := Lib.hid hX2
  have HBX := Lib.hid hbX
  obtain ⟨xc, xf, xz⟩ := hX2.facts
  clear hX2 hbX
  go_wp2_with fail
  refine (HS.out _ HBX.out).mono ?_
  rintro e w3 ⟨rfl, hb3⟩
  have hX3 := (HX2.out.keep hb3).old (.cells #[.int .i64 2, .int .i64 1, .int .i64 1, .int .i64 448, .int .i64 5, .int .i64 0, .int .i64 1, .int .i64 0, .int .i64 9, .int .i64 0] 57)
  have hS3 := Blk.new w3 #[.int .i64 2, .int .i64 1, .int .i64 1, .int .i64 448, .int .i64 5, .int .i64 0, .int .i64 1, .int .i64 0, .int .i64 9, .int .i64 0] 57
  have hb4 := balloc (bnext HBX.out hb3) (.cells #[.int .i64 2, .int .i64 1, .int .i64 1, .int .i64 448, .int .i64 5, .int .i64 0, .int .i64 1, .int .i64 0, .int .i64 9, .int .i64 0] 57)
  clear hb3 xc xf xz
  go_upto_region 6 with fail
  generalize w3.alloc (.cells #[.int .i64 2, .int .i64 1, .int .i64 1, .int .i64 448, .int .i64 5, .int .i64 0, .int .i64 1, .int .i64 0, .int .i64 9, .int .i64 0] 57) = V at hX3 hS3 hb4 ⊢
  have HS3 := Lib.hid hS3
  have HBV := Lib.hid hb4
  obtain ⟨xc, xf, xz⟩ := hX3.facts
  clear hX3 hS3 hb4
  go_wp2_with fail
  refine (HR.out _ HBV.out).mono ?_
  rintro e w4 ⟨rfl, hb5⟩
  have hb6 := bnext HBV.out hb5
  have HB6 := Lib.hid hb6
  obtain ⟨pc, tc⟩ := HPC.out _ hb6
  have hS4 := HS3.out.keep hb5
  obtain ⟨sc, sf, sz⟩ := hS4.facts
  clear hb5 hb6 hS4 xc xf xz
  go_wp2_with (refine (HL.out _ HB6.out).mono ?_; rintro e w5 ⟨rfl, rfl⟩)
  go_ret
  exact ⟨rfl, bnext HB1.out HB6.out⟩
end Go.Proofs.YtaojpbgaengdpaaGreat

/- Trees that are to be (layer 22): seeds that are not too great. -/
namespace Go.Proofs.YtaojpbgaengdpaaGreat

open Go.RowKit

def few22 (ms : List Mt) (is : List It) (n : Int) : Bool := decide (ms.length ≤ 10 ∧ (is.length : Int) ≤ n ∧ (∀ m ∈ ms, m.path.size ≤ 300) ∧ ∀ x ∈ is, x.path.size ≤ 300 ∧ x.data.size ≤ 1500)
theorem few22_of {ms : List Mt} {is : List It} {n : Int} (h : few22 ms is n = true) : ms.length ≤ 10 ∧ (is.length : Int) ≤ n ∧ (∀ m ∈ ms, m.path.size ≤ 300) ∧ ∀ x ∈ is, x.path.size ≤ 300 ∧ x.data.size ≤ 1500 := of_decide_eq_true h
set_option maxRecDepth 100000 in
set_option maxHeartbeats 2000000 in
theorem few22_any (w : World) {ma : Option Addr} {mn mc : Nat} {ia : Option Addr} {il ic : Nat} {ms : List Mt} {is : List It} (h : SdAt w ma mn mc ia il ic ms is) (n : Int) :
    Calls Tryz.prog 5 #[.agg #[.slice ma mn mc, .slice ia il ic], .int .i64 n] w fun e w' => e = .returned (.bool (few22 ms is n)) ∧ Below w.heap.size w w' := by
  have hln := h.m.1
  have hli := h.i.1
  subst hln hli
  have hB := Blk.new w #[.slice ma ms.length mc, .slice ia is.length ic] 25
  have hb := balloc (Below.refl w.heap.size w) (.cells #[.slice ma ms.length mc, .slice ia is.length ic] 25)
  have HS := Lib.hid (h.keep ((Below.refl _ w).alloc (Nat.le_refl _) (.cells #[.slice ma ms.length mc, .slice ia is.length ic] 25)))
  have HF := Lib.hid (show few22 ms is n = decide (ms.length ≤ 10 ∧ (is.length : Int) ≤ n ∧ (∀ m ∈ ms, m.path.size ≤ 300) ∧ ∀ x ∈ is, x.path.size ≤ 300 ∧ x.data.size ≤ 1500) from rfl)
  have hmc := h.m.2.1
  have hmx := h.m.2.2.1
  have hic := h.i.2.1
  have hix := h.i.2.2.1
  generalize few22 ms is n = fb at HF ⊢
  clear h
  go_enter Tryz.func5, Tryz.ntmps5
  go_upto_region 1 with fail
  generalize w.alloc (.cells #[.slice ma ms.length mc, .slice ia is.length ic] 25) = W at hB hb HS ⊢
  have HB := Lib.hid hb
  obtain ⟨bc, bf, bz⟩ := hB.facts
  clear hB hb
  by_cases h1 : 10 < ms.length
  · have h1a : (10 : Int) < (ms.length : Int) := by omega
    have HE := Lib.hid (show fb = false by rw [HF.out, decide_eq_false_iff_not]; rintro ⟨h, -⟩; omega)
    go_wp2_with fail
    go_ret
    rw [HE.out]
    exact ⟨rfl, HB.out⟩
  have h1a : ¬ (10 : Int) < (ms.length : Int) := by omega
  by_cases h2 : n < (is.length : Int)
  · have HE := Lib.hid (show fb = false by rw [HF.out, decide_eq_false_iff_not]; rintro ⟨-, h, -⟩; omega)
    go_wp2_with fail
    go_ret
    rw [HE.out]
    exact ⟨rfl, HB.out⟩
  go_wp2_with fail
  go_loop [5] (fun t5 => ∃ k : Nat, k ≤ ms.length ∧ t5 = .int .i64 k ∧ ∀ j (hj : j < ms.length), j < k → ms[j].path.size ≤ 300) (fun t5 => ms.length - (intOf t5).toNat)
  case atStart => exact ⟨0, Nat.zero_le _, rfl, fun j _ h => absurd h (Nat.not_lt_zero _)⟩
  case round =>
    obtain ⟨k, hk, rfl, hbef⟩ := hrel
    have HBe := Lib.hid hbef
    clear hbef
    by_cases hlt : k < ms.length
    · obtain ⟨b, off, rfl, hbl⟩ := slice_some HS.out.m (by omega)
      obtain ⟨c0, -, -⟩ := mt_cells HS.out.m k hlt
      have HM := Lib.hid (List.getElem_mem hlt)
      have HMk := Lib.hid (show ∀ j (hj : j < ms.length), j = k → ms[j] = ms[k] from fun j hj e => by subst e; rfl)
      generalize ms[k] = m at c0 HM HMk
      by_cases h3 : 300 < m.path.size
      · have h3a : (300 : Int) < (m.path.size : Int) := by omega
        have HE := Lib.hid (show fb = false by rw [HF.out, decide_eq_false_iff_not]; rintro ⟨-, -, h, -⟩; have := h m HM.out; omega)
        go_wp2_with fail
        go_ret
        rw [HE.out]
        exact ⟨rfl, HB.out⟩
      · have h3a : ¬ (300 : Int) < (m.path.size : Int) := by omega
        go_wp2_with fail
        go_round
        case rel => exact ⟨k + 1, by omega, by go_num, fun j hj hlt2 => by
          by_cases hjk : j = k
          · rw [HMk.out j hj hjk]; omega
          · exact HBe.out j hj (by omega)⟩
        case measure => simp [intOf]; omega
    · obtain rfl : k = ms.length := by omega
      go_wp2_with fail
      go_loop [6] (fun t6 => ∃ k : Nat, k ≤ is.length ∧ t6 = .int .i64 k ∧ ∀ j (hj : j < is.length), j < k → is[j].path.size ≤ 300 ∧ is[j].data.size ≤ 1500) (fun t6 => is.length - (intOf t6).toNat)
      case atStart => exact ⟨0, Nat.zero_le _, rfl, fun j _ h => absurd h (Nat.not_lt_zero _)⟩
      case round =>
        obtain ⟨k, hk, rfl, hbef⟩ := hrel
        have HBi := Lib.hid hbef
        clear hbef
        by_cases hlt : k < is.length
        · obtain ⟨b, off, rfl, hbl⟩ := slice_some HS.out.i (by omega)
          obtain ⟨c0, -, -, -, -, -, c6⟩ := it_cells HS.out.i k hlt
          have HM := Lib.hid (List.getElem_mem hlt)
          have HMk := Lib.hid (show ∀ j (hj : j < is.length), j = k → is[j] = is[k] from fun j hj e => by subst e; rfl)
          generalize is[k] = it at c0 c6 HM HMk
          by_cases h3 : 300 < it.path.size
          · have h3a : (300 : Int) < (it.path.size : Int) := by omega
            have HE := Lib.hid (show fb = false by rw [HF.out, decide_eq_false_iff_not]; rintro ⟨-, -, -, h⟩; have := (h it HM.out).1; omega)
            go_wp2_with fail
            go_ret
            rw [HE.out]
            exact ⟨rfl, HB.out⟩
          · have h3a : ¬ (300 : Int) < (it.path.size : Int) := by omega
            by_cases h4 : 1500 < it.data.size
            · have h4a : (1500 : Int) < (it.data.size : Int) := by omega
              have HE := Lib.hid (show fb = false by rw [HF.out, decide_eq_false_iff_not]; rintro ⟨-, -, -, h⟩; have := (h it HM.out).2; omega)
              go_wp2_with fail
              go_ret
              rw [HE.out]
              exact ⟨rfl, HB.out⟩
            · have h4a : ¬ (1500 : Int) < (it.data.size : Int) := by omega
              go_wp2_with fail
              go_round
              case rel => exact ⟨k + 1, by omega, by go_num, fun j hj hlt2 => by
                by_cases hjk : j = k
                · rw [HMk.out j hj hjk]; omega
                · exact HBi.out j hj (by omega)⟩
              case measure => simp [intOf]; omega
        · obtain rfl : k = is.length := by omega
          have HE := Lib.hid (show fb = true by
            rw [HF.out, decide_eq_true_eq]
            refine ⟨by omega, by omega, fun m hm => ?_, fun x hx => ?_⟩
            · obtain ⟨j, hj, rfl⟩ := List.mem_iff_getElem.1 hm; exact HBe.out j hj hj
            · obtain ⟨j, hj, rfl⟩ := List.mem_iff_getElem.1 hx; exact HBi.out j hj hj)
          go_wp2_with fail
          go_ret
          rw [HE.out]
          exact ⟨rfl, HB.out⟩
end Go.Proofs.YtaojpbgaengdpaaGreat
