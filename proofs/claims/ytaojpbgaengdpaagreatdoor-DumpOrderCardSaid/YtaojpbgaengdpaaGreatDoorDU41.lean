/- Texts of the proof, part 41. -/
import Derived.Test.YtaojpbgaengdpaaGreatDoorDU38
import Derived.Test.YtaojpbgaengdpaaGreatDoorDU37
import Derived.Test.YtaojpbgaengdpaaGreatDoorDU40
import Derived.Test.YtaojpbgaengdpaaGreatDoorDU26
import Derived.Test.YtaojpbgaengdpaaGreatDoorDU15
set_option linter.unusedVariables false
set_option linter.unusedSimpArgs false
/- Trees as rows: dump.Rows, ragpickerref22.Rows, dump.Same, chapter 23's example. -/
namespace Go.Proofs.YtaojpbgaengdpaaGreatDoor

open Go.RowKit

theorem dsame_any {a b : Option Addr} {na nb c d : Nat} {xs ys : List Rw} (w : World) (hA : SliceAt w 10 rwQ a na c xs) (hB : SliceAt w 10 rwQ b nb d ys) :
    Calls Tryz.prog 23 #[.slice a na c, .slice b nb d] w fun e w' => e = .returned (.bool (decide (xs = ys))) ∧ Below w.heap.size w w' := by
  have HE := Lib.hid (equal_any w hA hB)
  clear hA hB
  go_enter Tryz.func23, Tryz.ntmps23
  go_wp2_with fail
  refine HE.out.mono ?_
  rintro e w1 ⟨rfl, hb⟩
  go_wp2_with fail
  go_ret
  exact ⟨rfl, hb⟩
set_option maxRecDepth 100000 in
set_option maxHeartbeats 2000000 in
theorem drowsN_any (w : World) (no : Int) (p : ByteArray) :
    Calls Tryz.prog 13 #[.pointer none, .int .i64 no, .string p] w fun e w' => ∃ v, e = .returned v ∧ OR w' w.heap.size v [] ∧ Below w.heap.size w w' := by
  refine (callsIn_wide (n := 5)).1 ?_
  refine callsIn_of_wp_marks Tryz.func13 rfl trivial ?_ rfl
  simp only [Tryz.ntmps13, List.size_toArray, List.length_cons, List.length_nil, Nat.reduceAdd, Nat.reduceSub, Array.replicate_succ, Array.replicate_zero, List.push_toArray, List.append_toArray, List.nil_append, List.cons_append]
  refine wpIn_wide.2 ?_
  go_wp2_with (exact rows_ret (w := w) (v := .slice none 0 0) (ds := []) rfl (Coll.nil _ _) (OR.nil _ _) (Below.refl _ _))
theorem rowsN_any (w : World) :
    Calls Tryz.prog 11 #[.pointer none] w fun e w' => ∃ v, e = .returned v ∧ OR w' w.heap.size v [] ∧ Below w.heap.size w w' := by
  have HE := Lib.hid (drowsN_any w 1 (ByteArray.mk #[47]))
  go_enter Tryz.func11, Tryz.ntmps11
  go_wp2_with fail
  refine HE.out.mono ?_
  rintro e w1 ⟨v, rfl, ho, hb⟩
  go_wp2_with fail
  go_ret
  exact ⟨v, rfl, ho, hb⟩
section

variable {w w' : World} {pf pw : Nat} {R : Rp} {pv : Value} {Y : Sy} {Rr : Rf} {S : Fs}

theorem drowsA_any (h : SyAt w pf pw R pv Y) {N : Nat} (hk : FsOk Y.fs N) (hp : Pl Y.fs) (ht : Tr Y.fs) (hF : Y.fs.rowsF N ≤ 10000) (hN : N ≤ 100) :
    Calls Tryz.prog 11 #[.pointer (some ⟨pf, 0, none⟩)] w fun e w' => ∃ v, e = .returned v ∧ OR w' w.heap.size v (Y.fs.rows N 1 (ByteArray.mk #[47])) ∧ Below w.heap.size w w' := by
  have HE := Lib.hid (drows_any h hk hp ht hF hN 1 (ByteArray.mk #[47]) (by decide))
  clear h hk hp ht
  go_enter Tryz.func11, Tryz.ntmps11
  go_wp2_with fail
  refine HE.out.mono ?_
  rintro e w1 ⟨v, rfl, ho, hb⟩
  go_wp2_with fail
  go_ret
  exact ⟨v, rfl, ho, hb⟩
theorem rrowsA_any (h : RfAt w pf Rr S) {N : Nat} (hk : FsOk S N) (hp : Pl S) (ht : Tr S) (hF : S.rowsF N ≤ 10000) (hN : N ≤ 100) :
    Calls Tryz.prog 12 #[.pointer (some ⟨pf, 0, none⟩)] w fun e w' => ∃ v, e = .returned v ∧ OR w' w.heap.size v (S.rows N 1 (ByteArray.mk #[47])) ∧ Below w.heap.size w w' := by
  have HE := Lib.hid (rrows_any h hk hp ht hF hN 1 (ByteArray.mk #[47]) (by decide))
  clear h hk hp ht
  go_enter Tryz.func12, Tryz.ntmps12
  go_wp2_with fail
  refine HE.out.mono ?_
  rintro e w1 ⟨v, rfl, ho, hb⟩
  go_wp2_with fail
  go_ret
  exact ⟨v, rfl, ho, hb⟩
end

def b23 : ByteArray := ByteArray.mk #[47, 98]
def a23 : ByteArray := ByteArray.mk #[47, 97]
def its23 : List It := [⟨b23, 2, 0, 0, 0, 0, ⟨#[]⟩⟩, ⟨a23, 4, 0, 0, 0, 0, b23⟩]
def rows23 : List Rw := [⟨ByteArray.mk #[47], 1, 493, 0, 0, 0, 0, 1, 0, ⟨#[]⟩⟩, ⟨ByteArray.mk #[47, 97], 2, 0, 0, 0, 0, 0, 1, 1, ⟨#[]⟩⟩, ⟨ByteArray.mk #[47, 98], 2, 0, 0, 0, 0, 0, 1, 1, ⟨#[]⟩⟩]
def but23 : List Rw := [⟨ByteArray.mk #[47], 1, 493, 0, 0, 0, 0, 1, 0, ⟨#[]⟩⟩, ⟨ByteArray.mk #[47, 98], 2, 0, 0, 0, 0, 0, 1, 1, ⟨#[]⟩⟩]
theorem rows23_eq : (plantF [] its23).rows 3 1 (ByteArray.mk #[47]) = rows23 := by kernel_rfl
theorem but23_eq : butL rows23 [ByteArray.mk #[47, 97]] = but23 := by kernel_rfl
theorem rowsF23 : (plantF [] its23).rowsF 3 ≤ 10000 := by decide +kernel
def C23 : Array Value := #[.string (ByteArray.mk #[47, 98]), .int .i64 2, .int .i64 0, .int .i64 0, .int .i64 0, .int .i64 0, .string (ByteArray.mk #[]), .string (ByteArray.mk #[47, 97]), .int .i64 4, .int .i64 0, .int .i64 0, .int .i64 0, .int .i64 0, .string (ByteArray.mk #[47, 98])]
theorem sd23 {w : World} {b : Nat} (h : Blk w b C23 59) : SdAt w none 0 0 (some ⟨b, 0, none⟩) 2 2 [] its23 := by
  refine ⟨⟨rfl, Nat.le_refl _, by omega, .inl rfl⟩, ⟨rfl, Nat.le_refl _, by omega, .inr ⟨b, 0, rfl, h.lt, fun i hi => ⟨itC its23[i], rfl, rfl, fun j hj => ?_⟩⟩⟩⟩
  rw [itC_len] at hj
  rw [h.cell]
  have hi3 : i < 2 := hi
  match i, hi3 with
  | 0, _ => match j, hj with
    | 0, _ => rfl
    | 1, _ => rfl
    | 2, _ => rfl
    | 3, _ => rfl
    | 4, _ => rfl
    | 5, _ => rfl
    | 6, _ => rfl
  | 1, _ => match j, hj with
    | 0, _ => rfl
    | 1, _ => rfl
    | 2, _ => rfl
    | 3, _ => rfl
    | 4, _ => rfl
    | 5, _ => rfl
    | 6, _ => rfl
theorem px_one {w : World} {b : Nat} {s : ByteArray} (h : Blk w b #[.string s] 9) : SliceAt w 1 pxR (some ⟨b, 0, none⟩) 1 1 [s] := by
  refine ⟨rfl, Nat.le_refl _, by omega, .inr ⟨b, 0, rfl, h.lt, fun i hi => ⟨[.string s], rfl, ?_, fun j hj => ?_⟩⟩⟩
  · have hi0 : i = 0 := by simpa using hi
    subst hi0
    rfl
  · have hi0 : i = 0 := by simpa using hi
    have hj0 : j = 0 := by simpa using hj
    subst hi0 hj0
    rw [h.cell]
    rfl
set_option maxRecDepth 100000 in
set_option maxHeartbeats 4000000 in
theorem awake23_any (w : World) :
    Calls Tryz.prog 7 #[] w fun e w' => e = .returned (.bool true) ∧ Below w.heap.size w w' := by
  have hX := Blk.new w C23 59
  have hbX := balloc (Below.refl w.heap.size w) (.cells C23 59)
  have HPl := Lib.hid (plant_any _ (sd23 hX) (by show (0 : Nat) ≤ _; omega) (by show (2 : Nat) ≤ _; omega) (fun m hm => by cases hm) (fun x hx => by
    have : ∀ x ∈ its23, x.path.size ≤ 100000 ∧ x.data.size ≤ 100000 := by decide
    exact this x hx))
  have HOk := Lib.hid (plant_ok [] its23)
  have HPp := Lib.hid (plant_pl [] its23)
  have HTr := Lib.hid (plant_tr [] its23)
  have HB := Lib.hid hbX
  unfold C23 at HPl HB
  clear hX hbX
  go_enter Tryz.func7, Tryz.ntmps7
  go_wp2_with fail
  refine HPl.out.mono ?_
  rintro e w1 ⟨pf, pw, R, pv, Y, rfl, hY, rfl, -, hb1⟩
  have HB1 := Lib.hid (bnext HB.out hb1)
  have HR := Lib.hid (drowsA_any hY (N := 3) HOk.out HPp.out HTr.out rowsF23 (by omega))
  dsimp only at HR
  rw [rows23_eq] at HR
  clear hY hb1 HOk HPp HTr HPl HB
  go_wp2_with fail
  refine HR.out.mono ?_
  rintro e w2 ⟨v, rfl, ho, hb2⟩
  have HB2 := Lib.hid (bnext HB1.out hb2)
  obtain ⟨oa, oc, rfl, -, -, -⟩ := own_form ho
  have hs := OR.at ho
  obtain ⟨b, off, rfl, -⟩ := rowsAt_some hs (by decide)
  have HS := Lib.hid hs
  obtain ⟨c0, -, -, -, -, -, -, -, -, -⟩ := rows_cell hs 0 (by decide)
  obtain ⟨c1, -, -, -, -, -, -, -, -, -⟩ := rows_cell hs 1 (by decide)
  obtain ⟨-, -, -, -, -, -, -, -, c2, -⟩ := rows_cell hs 2 (by decide)
  simp only [rows23, List.getElem_cons_zero, List.getElem_cons_succ, Nat.zero_mul, Nat.add_zero, Nat.reduceMul] at c0 c1 c2
  have HBu := Lib.hid (fun w3 (hb : Below w2.heap.size w2 w3) pa (hP : SliceAt w3 1 pxR pa 1 1 [ByteArray.mk #[47, 97]]) => dbut_any w3 (hs.keep hb) (by decide) hP (fun p hp => by simp at hp; subst hp; decide))
  have HSm := Lib.hid (fun w3 (hb : Below w2.heap.size w2 w3) => dsame_any w3 (hs.keep hb) (hs.keep hb))
  rw [but23_eq] at HBu
  rw [decide_eq_true rfl] at HSm
  have hl3 : rows23.length = 3 := rfl
  rw [hl3] at HBu HSm
  have hl3' : (rows23.length : Int) = 3 := rfl
  have hX := Blk.new w2 #[.string (ByteArray.mk #[47, 97])] 9
  have hbX := (Below.refl w2.heap.size w2).alloc (Nat.le_refl _) (.cells #[.string (ByteArray.mk #[47, 97])] 9)
  have HX := Lib.hid hX
  have HBX := Lib.hid hbX
  clear hs ho hb2 hX hbX
  go_wp2_with fail
  refine (HBu.out _ HBX.out _ (px_one HX.out)).mono ?_
  rintro e w3 ⟨v3, rfl, ho3, hb3⟩
  have HB3 := Lib.hid (bnext HBX.out hb3)
  obtain ⟨pa3, pc3, rfl, -, -, -⟩ := own_form ho3
  have hX := Blk.new w3 #[.string (ByteArray.mk #[47, 97])] 9
  have hbX := balloc (bnext HBX.out hb3) (.cells #[.string (ByteArray.mk #[47, 97])] 9)
  have HX3 := Lib.hid hX
  have HBX3 := Lib.hid hbX
  have hl2 : (but23.length : Int) = 2 := rfl
  clear ho3 hb3 hX hbX c0 c1 c2
  go_wp2_with fail
  refine (HBu.out _ HBX3.out _ (px_one HX3.out)).mono ?_
  rintro e w4 ⟨v4, rfl, ho4, hb4⟩
  have HB4 := Lib.hid (bnext HBX3.out hb4)
  obtain ⟨pa4, pc4, rfl, -, -, -⟩ := own_form ho4
  have hs4 := OR.at ho4
  obtain ⟨b4, off4, rfl, -⟩ := rowsAt_some hs4 (by decide)
  obtain ⟨-, -, -, -, -, -, -, -, d1, -⟩ := rows_cell hs4 1 (by decide)
  simp only [but23, List.getElem_cons_zero, List.getElem_cons_succ, Nat.reduceMul] at d1
  clear ho4 hb4 hs4
  go_wp2_with fail
  refine (HSm.out _ HB4.out).mono ?_
  rintro e w5 ⟨rfl, hb5⟩
  have HB5 := Lib.hid (bnext HB4.out hb5)
  clear hb5 d1
  go_wp2_with fail
  refine (rowsN_any w5).mono ?_
  rintro e w6 ⟨v6, rfl, ho6, hb6⟩
  obtain ⟨pa6, pc6, rfl, -, -, -⟩ := own_form ho6
  have HB6 := Lib.hid (bnext HB2.out (bnext HB5.out hb6))
  clear ho6 hb6
  go_wp2_with fail
  go_ret
  exact ⟨rfl, HB6.out⟩
end Go.Proofs.YtaojpbgaengdpaaGreatDoor

/- Trees that are to be (layer 22): chapter 22's example. -/
namespace Go.Proofs.YtaojpbgaengdpaaGreatDoor

open Go.RowKit

def bA : ByteArray := ⟨#[47, 97]⟩
def bAX : ByteArray := ⟨#[47, 97, 47, 120]⟩
def bBX : ByteArray := ⟨#[47, 98, 47, 120]⟩
def bX : ByteArray := ⟨#[120]⟩
def its22 : List It := [⟨bA, 1, 448, 5, 0, 9, ⟨#[]⟩⟩, ⟨bAX, 2, 0, 0, 0, 0, bX⟩, ⟨bBX, 2, 0, 0, 0, 0, ⟨#[]⟩⟩]
theorem path22 : (plantF [] its22).path c00 bAX false = (⟨2, bX, 3, false⟩, 0) := by kernel_rfl
theorem len22 : (plantF [] its22).ns.length = 3 := by kernel_rfl
theorem get22 : (plantF [] its22).get 2 = some ⟨2, 1, 1, 448, 5, 0, 9, 0, 1, 1, ⟨#[]⟩, [⟨bX, 3⟩]⟩ := by kernel_rfl
theorem read22 : (plantF [] its22).read c00 3 = (bX, 0) := by kernel_rfl
def C22 : Array Value := #[.string (ByteArray.mk #[47, 97]), .int .i64 1, .int .i64 448, .int .i64 5, .int .i64 0, .int .i64 9, .string (ByteArray.mk #[]), .string (ByteArray.mk #[47, 97, 47, 120]), .int .i64 2, .int .i64 0, .int .i64 0, .int .i64 0, .int .i64 0, .string (ByteArray.mk #[120]), .string (ByteArray.mk #[47, 98, 47, 120]), .int .i64 2, .int .i64 0, .int .i64 0, .int .i64 0, .int .i64 0, .string (ByteArray.mk #[])]
theorem sd22 {w : World} {b : Nat} (h : Blk w b C22 59) : SdAt w none 0 0 (some ⟨b, 0, none⟩) 3 3 [] its22 := by
  refine ⟨⟨rfl, Nat.le_refl _, by omega, .inl rfl⟩, ⟨rfl, Nat.le_refl _, by omega, .inr ⟨b, 0, rfl, h.lt, fun i hi => ⟨itC its22[i], rfl, rfl, fun j hj => ?_⟩⟩⟩⟩
  rw [itC_len] at hj
  rw [h.cell]
  have hi3 : i < 3 := hi
  match i, hi3 with
  | 0, _ => match j, hj with
    | 0, _ => rfl
    | 1, _ => rfl
    | 2, _ => rfl
    | 3, _ => rfl
    | 4, _ => rfl
    | 5, _ => rfl
    | 6, _ => rfl
  | 1, _ => match j, hj with
    | 0, _ => rfl
    | 1, _ => rfl
    | 2, _ => rfl
    | 3, _ => rfl
    | 4, _ => rfl
    | 5, _ => rfl
    | 6, _ => rfl
  | 2, _ => match j, hj with
    | 0, _ => rfl
    | 1, _ => rfl
    | 2, _ => rfl
    | 3, _ => rfl
    | 4, _ => rfl
    | 5, _ => rfl
    | 6, _ => rfl
end Go.Proofs.YtaojpbgaengdpaaGreatDoor

/- Trees that are to be (layer 22): seeds that are not too great. -/
namespace Go.Proofs.YtaojpbgaengdpaaGreatDoor

open Go.RowKit

def few22 (ms : List Mt) (is : List It) (n : Int) : Bool := decide (ms.length ≤ 10 ∧ (is.length : Int) ≤ n ∧ (∀ m ∈ ms, m.path.size ≤ 300) ∧ ∀ x ∈ is, x.path.size ≤ 300 ∧ x.data.size ≤ 1500)
theorem few22_of {ms : List Mt} {is : List It} {n : Int} (h : few22 ms is n = true) : ms.length ≤ 10 ∧ (is.length : Int) ≤ n ∧ (∀ m ∈ ms, m.path.size ≤ 300) ∧ ∀ x ∈ is, x.path.size ≤ 300 ∧ x.data.size ≤ 1500 := of_decide_eq_true h
set_option maxRecDepth 100000 in
set_option maxHeartbeats 2000000 in
theorem few22_any (w : World) {ma : Option Addr} {mn mc : Nat} {ia : Option Addr} {il ic : Nat} {ms : List Mt} {is : List It} (h : SdAt w ma mn mc ia il ic ms is) (n : Int) :
    Calls Tryz.prog 6 #[.agg #[.slice ma mn mc, .slice ia il ic], .int .i64 n] w fun e w' => e = .returned (.bool (few22 ms is n)) ∧ Below w.heap.size w w' := by
  have hln := h.m.1
  have hli := h.i.1
  subst hln hli
  have hB := Blk.new w #[.slice ma ms.length mc, .slice ia is.length ic] 25
  have hb := balloc (Below.refl w.heap.size w) (.cells #[.slice ma ms.length mc, .slice ia is.length ic] 25)
  have HS := Lib.hid (h.keep ((Below.refl _ w).alloc (Nat.le_refl _) (.cells #[.slice ma ms.length mc, .slice ia is.length ic] 25)))
  have HF := Lib.hid (show few22 ms is n = decide (ms.length ≤ 10 ∧ (is.length : Int) ≤ n ∧ (∀ m ∈ ms, m.path.size ≤ 300) ∧ ∀ x ∈ is, x.path.size ≤ 300 ∧ x.data.size ≤ 1500) from rfl)
  have hmc := h.m.2.1
  have hmx := h.m.2.2.1
  have hic := h.i.2.1
  have hix := h.i.2.2.1
  generalize few22 ms is n = fb at HF ⊢
  clear h
  go_enter Tryz.func6, Tryz.ntmps6
  go_upto_region 1 with fail
  generalize w.alloc (.cells #[.slice ma ms.length mc, .slice ia is.length ic] 25) = W at hB hb HS ⊢
  have HB := Lib.hid hb
  obtain ⟨bc, bf, bz⟩ := hB.facts
  clear hB hb
  by_cases h1 : 10 < ms.length
  · have h1a : (10 : Int) < (ms.length : Int) := by omega
    have HE := Lib.hid (show fb = false by rw [HF.out, decide_eq_false_iff_not]; rintro ⟨h, -⟩; omega)
    go_wp2_with fail
    go_ret
    rw [HE.out]
    exact ⟨rfl, HB.out⟩
  have h1a : ¬ (10 : Int) < (ms.length : Int) := by omega
  by_cases h2 : n < (is.length : Int)
  · have HE := Lib.hid (show fb = false by rw [HF.out, decide_eq_false_iff_not]; rintro ⟨-, h, -⟩; omega)
    go_wp2_with fail
    go_ret
    rw [HE.out]
    exact ⟨rfl, HB.out⟩
  go_wp2_with fail
  go_loop [5] (fun t5 => ∃ k : Nat, k ≤ ms.length ∧ t5 = .int .i64 k ∧ ∀ j (hj : j < ms.length), j < k → ms[j].path.size ≤ 300) (fun t5 => ms.length - (intOf t5).toNat)
  case atStart => exact ⟨0, Nat.zero_le _, rfl, fun j _ h => absurd h (Nat.not_lt_zero _)⟩
  case round =>
    obtain ⟨k, hk, rfl, hbef⟩ := hrel
    have HBe := Lib.hid hbef
    clear hbef
    by_cases hlt : k < ms.length
    · obtain ⟨b, off, rfl, hbl⟩ := slice_some HS.out.m (by omega)
      obtain ⟨c0, -, -⟩ := mt_cells HS.out.m k hlt
      have HM := Lib.hid (List.getElem_mem hlt)
      have HMk := Lib.hid (show ∀ j (hj : j < ms.length), j = k → ms[j] = ms[k] from fun j hj e => by subst e; rfl)
      generalize ms[k] = m at c0 HM HMk
      by_cases h3 : 300 < m.path.size
      · have h3a : (300 : Int) < (m.path.size : Int) := by omega
        have HE := Lib.hid (show fb = false by rw [HF.out, decide_eq_false_iff_not]; rintro ⟨-, -, h, -⟩; have := h m HM.out; omega)
        go_wp2_with fail
        go_ret
        rw [HE.out]
        exact ⟨rfl, HB.out⟩
      · have h3a : ¬ (300 : Int) < (m.path.size : Int) := by omega
        go_wp2_with fail
        go_round
        case rel => exact ⟨k + 1, by omega, by go_num, fun j hj hlt2 => by
          by_cases hjk : j = k
          · rw [HMk.out j hj hjk]; omega
          · exact HBe.out j hj (by omega)⟩
        case measure => simp [intOf]; omega
    · obtain rfl : k = ms.length := by omega
      go_wp2_with fail
      go_loop [6] (fun t6 => ∃ k : Nat, k ≤ is.length ∧ t6 = .int .i64 k ∧ ∀ j (hj : j < is.length), j < k → is[j].path.size ≤ 300 ∧ is[j].data.size ≤ 1500) (fun t6 => is.length - (intOf t6).toNat)
      case atStart => exact ⟨0, Nat.zero_le _, rfl, fun j _ h => absurd h (Nat.not_lt_zero _)⟩
      case round =>
        obtain ⟨k, hk, rfl, hbef⟩ := hrel
        have HBi := Lib.hid hbef
        clear hbef
        by_cases hlt : k < is.length
        · obtain ⟨b, off, rfl, hbl⟩ := slice_some HS.out.i (by omega)
          obtain ⟨c0, -, -, -, -, -, c6⟩ := it_cells HS.out.i k hlt
          have HM := Lib.hid (List.getElem_mem hlt)
          have HMk := Lib.hid (show ∀ j (hj : j < is.length), j = k → is[j] = is[k] from fun j hj e => by subst e; rfl)
          generalize is[k] = it at c0 c6 HM HMk
          by_cases h3 : 300 < it.path.size
          · have h3a : (300 : Int) < (it.path.size : Int) := by omega
            have HE := Lib.hid (show fb = false by rw [HF.out, decide_eq_false_iff_not]; rintro ⟨-, -, -, h⟩; have := (h it HM.out).1; omega)
            go_wp2_with fail
            go_ret
            rw [HE.out]
            exact ⟨rfl, HB.out⟩
          · have h3a : ¬ (300 : Int) < (it.path.size : Int) := by omega
            by_cases h4 : 1500 < it.data.size
            · have h4a : (1500 : Int) < (it.data.size : Int) := by omega
              have HE := Lib.hid (show fb = false by rw [HF.out, decide_eq_false_iff_not]; rintro ⟨-, -, -, h⟩; have := (h it HM.out).2; omega)
              go_wp2_with fail
              go_ret
              rw [HE.out]
              exact ⟨rfl, HB.out⟩
            · have h4a : ¬ (1500 : Int) < (it.data.size : Int) := by omega
              go_wp2_with fail
              go_round
              case rel => exact ⟨k + 1, by omega, by go_num, fun j hj hlt2 => by
                by_cases hjk : j = k
                · rw [HMk.out j hj hjk]; omega
                · exact HBi.out j hj (by omega)⟩
              case measure => simp [intOf]; omega
        · obtain rfl : k = is.length := by omega
          have HE := Lib.hid (show fb = true by
            rw [HF.out, decide_eq_true_eq]
            refine ⟨by omega, by omega, fun m hm => ?_, fun x hx => ?_⟩
            · obtain ⟨j, hj, rfl⟩ := List.mem_iff_getElem.1 hm; exact HBe.out j hj hj
            · obtain ⟨j, hj, rfl⟩ := List.mem_iff_getElem.1 hx; exact HBi.out j hj hj)
          go_wp2_with fail
          go_ret
          rw [HE.out]
          exact ⟨rfl, HB.out⟩
end Go.Proofs.YtaojpbgaengdpaaGreatDoor

/- Whether a text may be a path: ragpickerref02.Path, and the notes' paths (layer 39). -/
namespace Go.Proofs.YtaojpbgaengdpaaGreatDoor

open Go.RowKit

theorem has0_any (s : ByteArray) (hs : s.size ≤ 100000) (w : World) :
    Calls Tryz.prog 48 #[.string s, .int .u8 0] w fun e w' => e = .returned (.bool (hasB s 0)) ∧ w = w' := has_any s 0 w hs

set_option maxRecDepth 100000 in
set_option maxHeartbeats 400000 in
theorem rpath_any (s : ByteArray) (w : World) (hs : s.size ≤ 100000) :
    Calls Tryz.prog 106 #[.string s] w fun e w' => e = .returned (.int .i64 (pathE s)) ∧ w = w' := by
  rcases Nat.eq_zero_or_pos s.size with h0 | hpos
  · have HE := Lib.hid (pathE_nil h0)
    have hn : s.toList = [] := by rw [ba_list]; exact List.eq_nil_of_length_eq_zero (by rw [Array.length_toList]; exact h0)
    clear h0
    go_enter Tryz.func106, Tryz.ntmps106
    go_wp2_with fail
    go_ret
    exact ⟨by rw [HE.out]; rfl, rfl⟩
  · have hn : ¬ s.toList = [] := by
      rw [ba_list]; intro e
      have : s.data.toList.length = s.size := Array.length_toList
      rw [e] at this; simp at this; omega
    have hn2 : s.toList.isEmpty = false := by simpa using hn
    by_cases h47 : s[0] = 47
    · have hr := Lib.hid (pathE_rest hpos h47)
      have hc1 : ((s[0].toNat : Int) == 47) = true := by rw [h47]; rfl
      have hc2 : ((s[0].toNat : Int) != 47) = false := by rw [bne, hc1]; rfl
      clear h47
      have hc := Lib.hid (has0_any s hs)
      generalize hasB s 0 = b at hr hc
      cases b
      · by_cases hlen : 4096 < s.size
        · have hE := Lib.hid (show pathE s = 13 by rw [hr.out]; simp [hlen])
          go_enter Tryz.func106, Tryz.ntmps106
          go_wp2_with (go_at_call 48; refine (hc.out _).mono ?_; rintro e w1 ⟨rfl, rfl⟩)
          go_ret
          exact ⟨by rw [hE.out]; rfl, rfl⟩
        · have hE := Lib.hid (show pathE s = 0 by rw [hr.out]; simp [hlen])
          go_enter Tryz.func106, Tryz.ntmps106
          go_wp2_with (go_at_call 48; refine (hc.out _).mono ?_; rintro e w1 ⟨rfl, rfl⟩)
          go_ret
          exact ⟨by rw [hE.out]; rfl, rfl⟩
      · have hE := Lib.hid (show pathE s = 1 by rw [hr.out]; rfl)
        go_enter Tryz.func106, Tryz.ntmps106
        go_wp2_with (go_at_call 48; refine (hc.out _).mono ?_; rintro e w1 ⟨rfl, rfl⟩)
        go_ret
        exact ⟨by rw [hE.out]; rfl, rfl⟩
    · have hE := Lib.hid (pathE_head hpos h47)
      have hc1 : ((s[0].toNat : Int) == 47) = false := by
        simp only [beq_eq_false_iff_ne, ne_eq]
        intro h
        exact h47 (by rw [u8_eq]; show s[0].toNat = 47; omega)
      have hc2 : ((s[0].toNat : Int) != 47) = true := by rw [bne, hc1]; rfl
      clear h47
      go_enter Tryz.func106, Tryz.ntmps106
      go_wp2_with fail
      go_ret
      exact ⟨by rw [hE.out]; rfl, rfl⟩

theorem pathB_mk (s : ByteArray) : pathB s = (decide (pathE s = 0) && decide (lastL s.data.toList ≠ [])) := by
  unfold pathB
  congr 1
  rw [Bool.eq_iff_iff]
  simp

end Go.Proofs.YtaojpbgaengdpaaGreatDoor
