/- Digits of a number, to a base; decimals; names that are tried (layer 9): plain facts. No program in sight. -/
import Derived.Test.YtojmbjkeckdilaaLib
namespace Go.Proofs.Ytojmbjkeckdilaa

def str (l : List UInt8) : ByteArray := ⟨l.toArray⟩
theorem str_size (l : List UInt8) : (str l).size = l.length := by simp [str, ByteArray.size]
theorem str_append (a b : List UInt8) : str a ++ str b = str (a ++ b) := ByteArray.mk_append_mk a b
theorem str_inj {a b : List UInt8} (h : str a = str b) : a = b := by
  unfold str at h
  have h2 : a.toArray = b.toArray := by injection h
  simpa using congrArg Array.toList h2
theorem str_of (s : ByteArray) : str s.data.toList = s := by
  unfold str
  cases s
  simp

def digF : Nat → Nat → Nat → List UInt8
  | 0, _, _ => []
  | f + 1, b, n => if n < b then [UInt8.ofNat (48 + n)] else digF f b (n / b) ++ [UInt8.ofNat (48 + n % b)]
/-- the digits of n to the base b. -/
def dig (b n : Nat) : List UInt8 := digF (n + 1) b n

theorem digF_more (b : Nat) (hb : 2 ≤ b) : ∀ (f n : Nat), n < f → digF f b n = digF (n + 1) b n
  | 0, n, h => by omega
  | f + 1, n, h => by
    unfold digF
    by_cases hn : n < b
    · rw [if_pos hn, if_pos hn]
    · rw [if_neg hn, if_neg hn]
      have h0 : 0 < n := by omega
      have h1 : n / b < n := Nat.div_lt_self h0 (by omega)
      rw [digF_more b hb f (n / b) (by omega)]
      cases n with
      | zero => omega
      | succ m => rw [digF_more b hb (m + 1) ((m + 1) / b) h1]
theorem dig_small {b n : Nat} (h : n < b) : dig b n = [UInt8.ofNat (48 + n)] := by
  unfold dig digF; rw [if_pos h]
theorem dig_step {b n : Nat} (hb : 2 ≤ b) (h : b ≤ n) : dig b n = dig b (n / b) ++ [UInt8.ofNat (48 + n % b)] := by
  have h1 : n / b < n := Nat.div_lt_self (by omega) (by omega)
  unfold dig
  conv => lhs; unfold digF
  rw [if_neg (by omega), digF_more b hb n (n / b) h1]
theorem dig_len (b : Nat) (hb : 2 ≤ b) : ∀ (k n : Nat), n < b ^ (k + 1) → (dig b n).length ≤ k + 1
  | 0, n, h => by rw [dig_small (by simpa using h)]; simp
  | k + 1, n, h => by
    by_cases hn : n < b
    · rw [dig_small hn]; simp
    · rw [dig_step hb (by omega)]
      have : n / b < b ^ (k + 1) := by rw [Nat.div_lt_iff_lt_mul (by omega)]; rwa [Nat.pow_succ] at h
      have := dig_len b hb k (n / b) this
      simp; omega
theorem dig_pos (b n : Nat) (hb : 2 ≤ b) : 0 < (dig b n).length := by
  by_cases hn : n < b
  · rw [dig_small hn]; simp
  · rw [dig_step hb (by omega)]; simp
/-- every digit to a base of at most ten is one of 0 to 9. -/
theorem dig_bytes (b : Nat) (hb : 2 ≤ b) (hb' : b ≤ 10) (n : Nat) : ∀ c ∈ dig b n, 48 ≤ c.toNat ∧ c.toNat ≤ 57 := by
  induction n using Nat.strongRecOn with
  | _ n ih =>
    by_cases hn : n < b
    · rw [dig_small hn]
      simp only [List.mem_cons, List.not_mem_nil, or_false]
      rintro c rfl
      simp [UInt8.toNat_ofNat]
      omega
    · rw [dig_step hb (by omega)]
      intro c hc
      rcases List.mem_append.1 hc with hc | hc
      · exact ih (n / b) (Nat.div_lt_self (by omega) (by omega)) c hc
      · simp only [List.mem_cons, List.not_mem_nil, or_false] at hc
        subst hc
        have : n % b < b := Nat.mod_lt _ (by omega)
        simp [UInt8.toNat_ofNat]
        omega
/-- the number that digits tell. -/
def valD (b : Nat) (l : List UInt8) : Nat := l.foldl (fun a c => a * b + (c.toNat - 48)) 0
theorem valD_snoc (b : Nat) (l : List UInt8) (c : UInt8) : valD b (l ++ [c]) = valD b l * b + (c.toNat - 48) := by
  unfold valD; rw [List.foldl_append]; rfl
theorem valD_dig (b : Nat) (hb : 2 ≤ b) (hb' : b ≤ 10) (n : Nat) : valD b (dig b n) = n := by
  induction n using Nat.strongRecOn with
  | _ n ih =>
    by_cases hn : n < b
    · rw [dig_small hn]
      simp [valD, UInt8.toNat_ofNat]
      omega
    · rw [dig_step hb (by omega), valD_snoc, ih (n / b) (Nat.div_lt_self (by omega) (by omega))]
      have h1 : n % b < b := Nat.mod_lt _ (by omega)
      have h2 := Nat.div_add_mod n b
      have h3 : (UInt8.ofNat (48 + n % b)).toNat - 48 = n % b := by simp [UInt8.toNat_ofNat]; omega
      rw [h3, Nat.mul_comm]
      exact h2
theorem dig_inj (b : Nat) (hb : 2 ≤ b) (hb' : b ≤ 10) {n m : Nat} (h : dig b n = dig b m) : n = m := by
  rw [← valD_dig b hb hb' n, h, valD_dig b hb hb' m]

/-- a number as digits, with a minus ahead below 0. -/
def decL (n : Int) : List UInt8 := if n < 0 then 45 :: dig 10 n.natAbs else dig 10 n.toNat
theorem decL_len (n : Int) (h0 : -9223372036854775808 ≤ n) (h1 : n ≤ 9223372036854775807) : (decL n).length ≤ 21 ∧ 0 < (decL n).length := by
  unfold decL
  have e : (10 : Nat) ^ (19 + 1) = 100000000000000000000 := by decide
  split
  · have := dig_len 10 (by decide) 19 n.natAbs (by rw [e]; omega)
    simp; omega
  · have := dig_len 10 (by decide) 19 n.toNat (by rw [e]; omega)
    have := dig_pos 10 n.toNat (by decide)
    omega

theorem foldl_push (ns : List Int) : ∀ (s : List UInt8), ns.foldl (fun (r : ByteArray) n => r.push (UInt8.ofNat n.toNat)) (str s) = str (s ++ ns.map fun n => UInt8.ofNat n.toNat) := by
  induction ns with
  | nil => intro s; simp
  | cons n ns ih =>
    intro s
    rw [List.foldl_cons]
    have : (str s).push (UInt8.ofNat n.toNat) = str (s ++ [UInt8.ofNat n.toNat]) := by
      unfold str
      show ByteArray.mk (s.toArray.push _) = _
      simp
    rw [this, ih]
    simp
/-- string(b), b a slice of bytes whose cells are known. -/
theorem conv_bytes {P : Program} {src dst e : TypeId} (hs : P.underlying src = some (.slice e)) (he : P.underlying e = some (.int .u8)) (hd : P.underlying dst = some .string)
    (w : World) (B o c : Nat) (ns : List Int) (h : ∀ j, (hj : j < ns.length) → w.cell? ⟨B, o + j, none⟩ = some (.int .u8 ns[j])) :
    (convert src dst (.slice (some ⟨B, o, none⟩) ns.length c)).run P w = .ok (.string (str (ns.map fun n => UInt8.ofNat n.toNat))) w := by
  rw [run_convert_bytes_string w src dst e _ _ _ hs he hd]
  have hl : (loadCells ⟨B, o, none⟩ ns.length).run P w = .ok (ns.map (Value.int .u8)).toArray w := by
    have := run_loadCells_list (P := P) w ⟨B, o, none⟩ (ns.map (Value.int .u8)) (by
      intro j v hv
      have hj : j < ns.length := by
        have := (List.getElem?_eq_some_iff.1 hv).1
        simpa using this
      have ha : (⟨B, o, none⟩ : Addr).add j = ⟨B, o + j, none⟩ := by
        unfold Addr.add
        split
        · rename_i h0; subst h0; rfl
        · rfl
      rw [ha, h j hj]
      simpa [List.getElem?_eq_getElem hj] using hv)
    rwa [List.length_map] at this
  rw [run_bytesToString w _ _ _ ns hl]
  have := foldl_push ns []
  rw [show str [] = ByteArray.empty from rfl] at this
  rw [this, List.nil_append]
/-- string([]byte{v}). -/
theorem conv_one {P : Program} {src dst e : TypeId} (hs : P.underlying src = some (.slice e)) (he : P.underlying e = some (.int .u8)) (hd : P.underlying dst = some .string)
    (w : World) (v : Int) (E : TypeId) : (convert src dst (.slice (some ⟨w.heap.size, 0, none⟩) 1 1)).run P (w.alloc (.cells #[.int .u8 v] E)) = .ok (.string (str [UInt8.ofNat v.toNat])) (w.alloc (.cells #[.int .u8 v] E)) :=
  conv_bytes hs he hd (w.alloc (.cells #[.int .u8 v] E)) w.heap.size 0 1 [v] (by
    intro j hj
    simp only [List.length_cons, List.length_nil, Nat.zero_add, Nat.lt_one_iff] at hj
    subst hj
    simp)

theorem ba_ext {a b : ByteArray} (h : a.toList = b.toList) : a = b := by
  rw [ByteArray.toList_eq, ByteArray.toList_eq] at h
  cases a; cases b
  simp at h
  subst h; rfl
/-- the test of two strings, in the walk's own form. -/
theorem str_beq {a b : ByteArray} (h : a = b) : (a.toList == b.toList) = true := by subst h; simp
theorem str_bne {a b : ByteArray} (h : a ≠ b) : (a.toList == b.toList) = false := by
  simp only [beq_eq_false_iff_ne]
  exact fun e => h (ba_ext e)
end Go.Proofs.Ytojmbjkeckdilaa
