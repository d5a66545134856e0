/- Contracts of num.Dec, fresh.Nth and ragpickerlaw09.nth, over this program. -/
import Derived.Test.YtojmbjkeckdilaaNumB
namespace Go.Proofs.Ytojmbjkeckdilaa
open Go.RowKit

set_option maxRecDepth 100000 in
set_option maxHeartbeats 400000 in
theorem dec_any (n : Int) (w : World) (h0 : -9223372036854775808 ≤ n) (h1 : n ≤ 9223372036854775807) :
    Calls Try.prog 38 #[.int .i64 n] w fun e w' => e = .returned (.string (str (decL n))) ∧ Below w.heap.size w w' := by
  by_cases hn : n < 0
  · have Hv := Lib.hid (show decL n = 45 :: dig 10 n.natAbs by unfold decL; rw [if_pos hn])
    have hsz := dig_len 10 (by decide) 19 n.natAbs (by have e : (10 : Nat) ^ (19 + 1) = 100000000000000000000 := by decide
                                                       rw [e]; omega)
    have hsz' : (str (dig 10 n.natAbs)).size ≤ 20 := by rw [str_size]; exact hsz
    clear hsz
    go_enter Try.func38, Try.ntmps38
    have Hw := Lib.hid (show IntKind.u64.wrap (-IntKind.u64.wrap n) = -n by rw [IntKind.wrap_u64, IntKind.wrap_u64]; omega)
    go_wp2_with fail
    rw [Hw.out]
    refine (digits_any (-n) 10 _ (by omega) (by omega) (by decide) (by decide)).mono ?_
    rw [show dig (10 : Int).toNat (-n).toNat = dig 10 n.natAbs by rw [show (-n).toNat = n.natAbs by omega]; rfl]
    rintro e w1 ⟨rfl, hb1⟩
    go_wp2_with fail
    go_ret
    refine ⟨?_, hb1⟩
    rw [Hv.out]
    show Ending.returned (.string (str [45] ++ str _)) = _
    rw [str_append]
    rfl
  · have Hv := Lib.hid (show decL n = dig 10 n.toNat by unfold decL; rw [if_neg hn])
    go_enter Try.func38, Try.ntmps38
    go_wp2_with fail
    refine (digits_any n 10 _ (by omega) (by omega) (by decide) (by decide)).mono ?_
    rintro e w1 ⟨rfl, hb1⟩
    go_wp2_with fail
    go_ret
    exact ⟨by rw [Hv.out]; rfl, hb1⟩

/-- the tail of the n-th name, and the name. -/
def tailL (n : Int) : List UInt8 := if n < 2 then [] else 46 :: decL n
def nthS (base : ByteArray) (n : Int) : ByteArray := base.extract 0 (min base.size (245 - (tailL n).length)) ++ str (tailL n)
theorem tailL_len (n : Int) (h1 : n ≤ 9223372036854775807) : (tailL n).length ≤ 22 := by
  unfold tailL
  split
  · simp
  · have := (decL_len n (by omega) h1).1
    simp; omega

theorem ba_size_zero {b : ByteArray} (h : b.size = 0) : b = ByteArray.empty := by
  cases b with
  | mk d => simp [ByteArray.size] at h; subst h; rfl
theorem extract_all (b : ByteArray) : b.extract 0 b.size = b := by simp
theorem nthS_small1 (base : ByteArray) (n : Int) (hn : n < 2) (h : 245 < base.size) : base.extract 0 245 ++ str [] = nthS base n := by
  unfold nthS tailL
  rw [if_pos hn]
  rw [show min base.size (245 - ([] : List UInt8).length) = 245 by simp; omega]
theorem nthS_small2 (base : ByteArray) (n : Int) (hn : n < 2) (h : base.size ≤ 245) : base ++ str [] = nthS base n := by
  unfold nthS tailL
  rw [if_pos hn]
  rw [show min base.size (245 - ([] : List UInt8).length) = base.size by simp; omega, extract_all]
theorem nthS_small3 (base : ByteArray) (n : Int) (hn : n < 2) (h : base.size = 0) : str [] = nthS base n := by
  rw [← nthS_small2 base n hn (by omega), ba_size_zero h]
  rfl
theorem nthS_big1 (base : ByteArray) (n : Int) (hn : 2 ≤ n) (h1 : n ≤ 9223372036854775807) (h : 245 - (1 + (str (decL n)).size) < base.size) :
    base.extract 0 (245 - (1 + ((str (decL n)).size : Int))).toNat ++ (ByteArray.mk #[46] ++ str (decL n)) = nthS base n := by
  have hl := (decL_len n (by omega) h1).1
  unfold nthS tailL
  rw [if_neg (by omega)]
  rw [str_size] at h ⊢
  rw [show min base.size (245 - (46 :: decL n).length) = 245 - (1 + (decL n).length) by simp; omega, show (245 - (1 + ((decL n).length : Int))).toNat = 245 - (1 + (decL n).length) by omega]
  show _ ++ (str [46] ++ str (decL n)) = _
  rw [str_append]
  rfl
theorem nthS_big2 (base : ByteArray) (n : Int) (hn : 2 ≤ n) (h1 : n ≤ 9223372036854775807) (h : base.size ≤ 245 - (1 + (str (decL n)).size)) :
    base ++ (ByteArray.mk #[46] ++ str (decL n)) = nthS base n := by
  have hl := (decL_len n (by omega) h1).1
  unfold nthS tailL
  rw [if_neg (by omega)]
  rw [str_size] at h
  rw [show min base.size (245 - (46 :: decL n).length) = base.size by simp; omega, extract_all]
  show _ ++ (str [46] ++ str (decL n)) = _
  rw [str_append]
  rfl
theorem nthS_big3 (base : ByteArray) (n : Int) (hn : 2 ≤ n) (h1 : n ≤ 9223372036854775807) (h : base.size = 0) :
    ByteArray.mk #[46] ++ str (decL n) = nthS base n := by
  have hl := (decL_len n (by omega) h1).1
  rw [← nthS_big2 base n hn h1 (by rw [str_size]; omega), ba_size_zero h]
  show _ = str [] ++ (str [46] ++ str (decL n))
  rw [str_append, str_append, List.nil_append]
  exact str_append [46] (decL n)

set_option maxRecDepth 100000 in
set_option maxHeartbeats 1000000 in
theorem nth_any (base : ByteArray) (n : Int) (w : World) (hs : base.size ≤ 9223372036854775807) (h0 : -9223372036854775808 ≤ n) (h1 : n ≤ 9223372036854775807) :
    Calls Try.prog 27 #[.string base, .int .i64 n] w fun e w' => e = .returned (.string (nthS base n)) ∧ Below w.heap.size w w' := by
  by_cases hn : n < 2
  · have E1 := Lib.hid (nthS_small1 base n hn)
    have E2 := Lib.hid (nthS_small2 base n hn)
    have E3 := Lib.hid (nthS_small3 base n hn)
    go_enter Try.func27, Try.ntmps27
    go_wp2_with fail
    all_goals (go_ret; refine ⟨?_, Below.refl _ _⟩; first | (refine congrArg (fun s => Ending.returned (Value.string s)) (E1.out ?_); omega) | (refine congrArg (fun s => Ending.returned (Value.string s)) (E2.out ?_); omega) | (refine congrArg (fun s => Ending.returned (Value.string s)) (E3.out ?_); omega) | (exfalso; omega))
  · have E1 := Lib.hid (nthS_big1 base n (by omega) h1)
    have E2 := Lib.hid (nthS_big2 base n (by omega) h1)
    have E3 := Lib.hid (nthS_big3 base n (by omega) h1)
    have hl := decL_len n (by omega) h1
    have hsz : (str (decL n)).size ≤ 21 := by rw [str_size]; exact hl.1
    go_enter Try.func27, Try.ntmps27
    go_wp2_with fail
    refine (dec_any n _ h0 h1).mono ?_
    rintro e w1 ⟨rfl, hb1⟩
    go_wp2_with fail
    all_goals (go_ret; refine ⟨?_, hb1⟩; first | (refine congrArg (fun s => Ending.returned (Value.string s)) (E1.out ?_); omega) | (refine congrArg (fun s => Ending.returned (Value.string s)) (E2.out ?_); omega) | (refine congrArg (fun s => Ending.returned (Value.string s)) (E3.out ?_); omega) | (exfalso; omega))

set_option maxRecDepth 100000 in
set_option maxHeartbeats 1000000 in
theorem rnth_any (base : ByteArray) (n : Int) (w : World) (hs : base.size ≤ 9223372036854775807) (h0 : -9223372036854775808 ≤ n) (h1 : n ≤ 9223372036854775807) :
    Calls Try.prog 26 #[.string base, .int .i64 n] w fun e w' => e = .returned (.string (nthS base n)) ∧ Below w.heap.size w w' := by
  by_cases hn : n < 2
  · have E1 := Lib.hid (nthS_small1 base n hn)
    have E2 := Lib.hid (nthS_small2 base n hn)
    have E3 := Lib.hid (nthS_small3 base n hn)
    go_enter Try.func26, Try.ntmps26
    go_wp2_with fail
    all_goals (go_ret; refine ⟨?_, Below.refl _ _⟩; first | (refine congrArg (fun s => Ending.returned (Value.string s)) (E1.out ?_); omega) | (refine congrArg (fun s => Ending.returned (Value.string s)) (E2.out ?_); omega) | (refine congrArg (fun s => Ending.returned (Value.string s)) (E3.out ?_); omega) | (exfalso; omega))
  · have E1 := Lib.hid (nthS_big1 base n (by omega) h1)
    have E2 := Lib.hid (nthS_big2 base n (by omega) h1)
    have E3 := Lib.hid (nthS_big3 base n (by omega) h1)
    have hl := decL_len n (by omega) h1
    have hsz : (str (decL n)).size ≤ 21 := by rw [str_size]; exact hl.1
    go_enter Try.func26, Try.ntmps26
    go_wp2_with fail
    refine (rdec_any n _ h0 h1).mono ?_
    rintro e w1 ⟨rfl, hb1⟩
    go_wp2_with fail
    all_goals (go_ret; refine ⟨?_, hb1⟩; first | (refine congrArg (fun s => Ending.returned (Value.string s)) (E1.out ?_); omega) | (refine congrArg (fun s => Ending.returned (Value.string s)) (E2.out ?_); omega) | (refine congrArg (fun s => Ending.returned (Value.string s)) (E3.out ?_); omega) | (exfalso; omega))
end Go.Proofs.Ytojmbjkeckdilaa
