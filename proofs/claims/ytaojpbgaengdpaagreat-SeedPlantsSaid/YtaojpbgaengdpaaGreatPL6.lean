/- Texts of the proof, part 6. -/
import Derived.Laws.BitsAllLaws
import Derived.StillTailTactics
import Derived.Test.YtaojpbgaengdpaaGreatPL1
import Derived.Test.YtaojpbgaengdpaaGreatProg
import Derived.Test.YtaojpbgaengdpaaGreatPL5
import Derived.Test.YtaojpbgaengdpaaGreatPL3
set_option linter.unusedVariables false
set_option linter.unusedSimpArgs false
/- Digits of a number, to a base; decimals; names that are tried (layer 9): plain facts. No program in sight. -/
namespace Go.Proofs.YtaojpbgaengdpaaGreat

def str (l : List UInt8) : ByteArray := ⟨l.toArray⟩
theorem str_size (l : List UInt8) : (str l).size = l.length := by simp [str, ByteArray.size]
theorem str_append (a b : List UInt8) : str a ++ str b = str (a ++ b) := ByteArray.mk_append_mk a b
theorem str_inj {a b : List UInt8} (h : str a = str b) : a = b := by
  unfold str at h
  have h2 : a.toArray = b.toArray := by injection h
  simpa using congrArg Array.toList h2
theorem str_of (s : ByteArray) : str s.data.toList = s := by
  unfold str
  cases s
  simp

def digF : Nat → Nat → Nat → List UInt8
  | 0, _, _ => []
  | f + 1, b, n => if n < b then [UInt8.ofNat (48 + n)] else digF f b (n / b) ++ [UInt8.ofNat (48 + n % b)]
/-- the digits of n to the base b. -/
def dig (b n : Nat) : List UInt8 := digF (n + 1) b n

theorem digF_more (b : Nat) (hb : 2 ≤ b) : ∀ (f n : Nat), n < f → digF f b n = digF (n + 1) b n
  | 0, n, h => by omega
  | f + 1, n, h => by
    unfold digF
    by_cases hn : n < b
    · rw [if_pos hn, if_pos hn]
    · rw [if_neg hn, if_neg hn]
      have h0 : 0 < n := by omega
      have h1 : n / b < n := Nat.div_lt_self h0 (by omega)
      rw [digF_more b hb f (n / b) (by omega)]
      cases n with
      | zero => omega
      | succ m => rw [digF_more b hb (m + 1) ((m + 1) / b) h1]
theorem dig_small {b n : Nat} (h : n < b) : dig b n = [UInt8.ofNat (48 + n)] := by
  unfold dig digF; rw [if_pos h]
theorem dig_step {b n : Nat} (hb : 2 ≤ b) (h : b ≤ n) : dig b n = dig b (n / b) ++ [UInt8.ofNat (48 + n % b)] := by
  have h1 : n / b < n := Nat.div_lt_self (by omega) (by omega)
  unfold dig
  conv => lhs; unfold digF
  rw [if_neg (by omega), digF_more b hb n (n / b) h1]
theorem dig_len (b : Nat) (hb : 2 ≤ b) : ∀ (k n : Nat), n < b ^ (k + 1) → (dig b n).length ≤ k + 1
  | 0, n, h => by rw [dig_small (by simpa using h)]; simp
  | k + 1, n, h => by
    by_cases hn : n < b
    · rw [dig_small hn]; simp
    · rw [dig_step hb (by omega)]
      have : n / b < b ^ (k + 1) := by rw [Nat.div_lt_iff_lt_mul (by omega)]; rwa [Nat.pow_succ] at h
      have := dig_len b hb k (n / b) this
      simp; omega
theorem dig_pos (b n : Nat) (hb : 2 ≤ b) : 0 < (dig b n).length := by
  by_cases hn : n < b
  · rw [dig_small hn]; simp
  · rw [dig_step hb (by omega)]; simp
/-- every digit to a base of at most ten is one of 0 to 9. -/
theorem dig_bytes (b : Nat) (hb : 2 ≤ b) (hb' : b ≤ 10) (n : Nat) : ∀ c ∈ dig b n, 48 ≤ c.toNat ∧ c.toNat ≤ 57 := by
  induction n using Nat.strongRecOn with
  | _ n ih =>
    by_cases hn : n < b
    · rw [dig_small hn]
      simp only [List.mem_cons, List.not_mem_nil, or_false]
      rintro c rfl
      simp [UInt8.toNat_ofNat]
      omega
    · rw [dig_step hb (by omega)]
      intro c hc
      rcases List.mem_append.1 hc with hc | hc
      · exact ih (n / b) (Nat.div_lt_self (by omega) (by omega)) c hc
      · simp only [List.mem_cons, List.not_mem_nil, or_false] at hc
        subst hc
        have : n % b < b := Nat.mod_lt _ (by omega)
        simp [UInt8.toNat_ofNat]
        omega
/-- the number that digits tell. -/
def valD (b : Nat) (l : List UInt8) : Nat := l.foldl (fun a c => a * b + (c.toNat - 48)) 0
theorem valD_snoc (b : Nat) (l : List UInt8) (c : UInt8) : valD b (l ++ [c]) = valD b l * b + (c.toNat - 48) := by
  unfold valD; rw [List.foldl_append]; rfl
theorem valD_dig (b : Nat) (hb : 2 ≤ b) (hb' : b ≤ 10) (n : Nat) : valD b (dig b n) = n := by
  induction n using Nat.strongRecOn with
  | _ n ih =>
    by_cases hn : n < b
    · rw [dig_small hn]
      simp [valD, UInt8.toNat_ofNat]
      omega
    · rw [dig_step hb (by omega), valD_snoc, ih (n / b) (Nat.div_lt_self (by omega) (by omega))]
      have h1 : n % b < b := Nat.mod_lt _ (by omega)
      have h2 := Nat.div_add_mod n b
      have h3 : (UInt8.ofNat (48 + n % b)).toNat - 48 = n % b := by simp [UInt8.toNat_ofNat]; omega
      rw [h3, Nat.mul_comm]
      exact h2
theorem dig_inj (b : Nat) (hb : 2 ≤ b) (hb' : b ≤ 10) {n m : Nat} (h : dig b n = dig b m) : n = m := by
  rw [← valD_dig b hb hb' n, h, valD_dig b hb hb' m]

/-- a number as digits, with a minus ahead below 0. -/
def decL (n : Int) : List UInt8 := if n < 0 then 45 :: dig 10 n.natAbs else dig 10 n.toNat
theorem decL_len (n : Int) (h0 : -9223372036854775808 ≤ n) (h1 : n ≤ 9223372036854775807) : (decL n).length ≤ 21 ∧ 0 < (decL n).length := by
  unfold decL
  have e : (10 : Nat) ^ (19 + 1) = 100000000000000000000 := by decide
  split
  · have := dig_len 10 (by decide) 19 n.natAbs (by rw [e]; omega)
    simp; omega
  · have := dig_len 10 (by decide) 19 n.toNat (by rw [e]; omega)
    have := dig_pos 10 n.toNat (by decide)
    omega

theorem foldl_push (ns : List Int) : ∀ (s : List UInt8), ns.foldl (fun (r : ByteArray) n => r.push (UInt8.ofNat n.toNat)) (str s) = str (s ++ ns.map fun n => UInt8.ofNat n.toNat) := by
  induction ns with
  | nil => intro s; simp
  | cons n ns ih =>
    intro s
    rw [List.foldl_cons]
    have : (str s).push (UInt8.ofNat n.toNat) = str (s ++ [UInt8.ofNat n.toNat]) := by
      unfold str
      show ByteArray.mk (s.toArray.push _) = _
      simp
    rw [this, ih]
    simp
/-- string(b), b a slice of bytes whose cells are known. -/
theorem conv_bytes {P : Program} {src dst e : TypeId} (hs : P.underlying src = some (.slice e)) (he : P.underlying e = some (.int .u8)) (hd : P.underlying dst = some .string)
    (w : World) (B o c : Nat) (ns : List Int) (h : ∀ j, (hj : j < ns.length) → w.cell? ⟨B, o + j, none⟩ = some (.int .u8 ns[j])) :
    (convert src dst (.slice (some ⟨B, o, none⟩) ns.length c)).run P w = .ok (.string (str (ns.map fun n => UInt8.ofNat n.toNat))) w := by
  rw [run_convert_bytes_string w src dst e _ _ _ hs he hd]
  have hl : (loadCells ⟨B, o, none⟩ ns.length).run P w = .ok (ns.map (Value.int .u8)).toArray w := by
    have := run_loadCells_list (P := P) w ⟨B, o, none⟩ (ns.map (Value.int .u8)) (by
      intro j v hv
      have hj : j < ns.length := by
        have := (List.getElem?_eq_some_iff.1 hv).1
        simpa using this
      have ha : (⟨B, o, none⟩ : Addr).add j = ⟨B, o + j, none⟩ := by
        unfold Addr.add
        split
        · rename_i h0; subst h0; rfl
        · rfl
      rw [ha, h j hj]
      simpa [List.getElem?_eq_getElem hj] using hv)
    rwa [List.length_map] at this
  rw [run_bytesToString w _ _ _ ns hl]
  have := foldl_push ns []
  rw [show str [] = ByteArray.empty from rfl] at this
  rw [this, List.nil_append]
/-- string([]byte{v}). -/
theorem conv_one {P : Program} {src dst e : TypeId} (hs : P.underlying src = some (.slice e)) (he : P.underlying e = some (.int .u8)) (hd : P.underlying dst = some .string)
    (w : World) (v : Int) (E : TypeId) : (convert src dst (.slice (some ⟨w.heap.size, 0, none⟩) 1 1)).run P (w.alloc (.cells #[.int .u8 v] E)) = .ok (.string (str [UInt8.ofNat v.toNat])) (w.alloc (.cells #[.int .u8 v] E)) :=
  conv_bytes hs he hd (w.alloc (.cells #[.int .u8 v] E)) w.heap.size 0 1 [v] (by
    intro j hj
    simp only [List.length_cons, List.length_nil, Nat.zero_add, Nat.lt_one_iff] at hj
    subst hj
    simp)

theorem ba_ext {a b : ByteArray} (h : a.toList = b.toList) : a = b := by
  rw [ByteArray.toList_eq, ByteArray.toList_eq] at h
  cases a; cases b
  simp at h
  subst h; rfl
/-- the test of two strings, in the walk's own form. -/
theorem str_beq {a b : ByteArray} (h : a = b) : (a.toList == b.toList) = true := by subst h; simp
theorem str_bne {a b : ByteArray} (h : a ≠ b) : (a.toList == b.toList) = false := by
  simp only [beq_eq_false_iff_ne]
  exact fun e => h (ba_ext e)
end Go.Proofs.YtaojpbgaengdpaaGreat

/- Percent signs (layer 4), bytes: plain and digit, of the program and of the reference. -/
namespace Go.Proofs.YtaojpbgaengdpaaGreat

open Go.RowKit

/-- does a byte stand for itself? -/
def plB (c : UInt8) : Bool := (97 ≤ c && c ≤ 122) || (65 ≤ c && c ≤ 90) || (48 ≤ c && c ≤ 57) || c == 45 || c == 46 || c == 95 || c == 126 || c == 47
/-- a digit's number to the base 16; -1: it is none. -/
def hexV (c : UInt8) : Int := if 48 ≤ c ∧ c ≤ 57 then c.toNat - 48 else if 97 ≤ c ∧ c ≤ 102 then c.toNat - 87 else if 65 ≤ c ∧ c ≤ 70 then c.toNat - 55 else -1

theorem u8_le (a b : UInt8) : a ≤ b ↔ a.toNat ≤ b.toNat := UInt8.le_iff_toNat_le
theorem u8_lt (c : UInt8) : c.toNat < 256 := UInt8.toNat_lt c
theorem u8_eq (a b : UInt8) : a = b ↔ a.toNat = b.toNat := UInt8.toNat_inj.symm

theorem plB_iff (c : UInt8) : plB c = true ↔ ((97 ≤ c.toNat ∧ c.toNat ≤ 122) ∨ (65 ≤ c.toNat ∧ c.toNat ≤ 90) ∨ (48 ≤ c.toNat ∧ c.toNat ≤ 57) ∨ c.toNat = 45 ∨ c.toNat = 46 ∨ c.toNat = 95 ∨ c.toNat = 126 ∨ c.toNat = 47) := by
  unfold plB
  simp only [Bool.or_eq_true, Bool.and_eq_true, decide_eq_true_eq, beq_iff_eq, u8_le, u8_eq]
  have e : ((97 : UInt8).toNat, (122 : UInt8).toNat, (65 : UInt8).toNat, (90 : UInt8).toNat, (48 : UInt8).toNat, (57 : UInt8).toNat, (45 : UInt8).toNat, (46 : UInt8).toNat, (95 : UInt8).toNat, (126 : UInt8).toNat, (47 : UInt8).toNat) = (97, 122, 65, 90, 48, 57, 45, 46, 95, 126, 47) := rfl
  simp only [Prod.mk.injEq] at e
  obtain ⟨e1, e2, e3, e4, e5, e6, e7, e8, e9, e10, e11⟩ := e
  rw [e1, e2, e3, e4, e5, e6, e7, e8, e9, e10, e11]
  omega

theorem ret_bool {a b : Bool} (h : a = b) : Ending.returned (.bool a) = .returned (.bool b) := by rw [h]
theorem ret_int64 {a b : Int} (h : a = b) : Ending.returned (.int .i64 a) = .returned (.int .i64 b) := by rw [h]

theorem idx_pos (c : UInt8) : ∀ (l : List UInt8), 0 ≤ Lib.indexByte l c ↔ c ∈ l
  | [] => by simp [Lib.indexByte]
  | b :: l => by
    have ih := idx_pos c l
    have hg := Lib.indexByte_ge l c
    unfold Lib.indexByte
    by_cases h : b = c
    · subst h; simp
    · have h1 : (b == c) = false := by simpa using h
      have h2 : ¬ c = b := fun e => h e.symm
      rw [h1]
      by_cases hm : Lib.indexByte l c = -1
      · have : ¬ c ∈ l := by rw [← ih, hm]; omega
        simp [hm, h2, this]
      · have hm1 : (Lib.indexByte l c == -1) = false := by simpa using hm
        rw [hm1]
        have : c ∈ l := by rw [← ih]; omega
        simp [this]
        omega

end Go.Proofs.YtaojpbgaengdpaaGreat

/- Percent signs: Encode, of the program (a Builder) and of the reference. -/
namespace Go.Proofs.YtaojpbgaengdpaaGreat

open Go.RowKit

def hexU (k : Nat) : UInt8 := UInt8.ofNat (if k < 10 then 48 + k else 55 + k)
def encB (c : UInt8) : List UInt8 := if plB c then [c] else [37, hexU (c.toNat / 16), hexU (c.toNat % 16)]
/-- a text with percent signs. -/
def encL (l : List UInt8) : List UInt8 := l.flatMap encB
theorem encB_len (c : UInt8) : (encB c).length ≤ 3 := by unfold encB; split <;> simp
theorem encL_len : ∀ (l : List UInt8), (encL l).length ≤ 3 * l.length
  | [] => by simp [encL]
  | c :: l => by
    have h1 := encB_len c
    have h2 := encL_len l
    unfold encL at h2 ⊢
    rw [List.flatMap_cons, List.length_append, List.length_cons]
    omega
theorem encL_snoc (l : List UInt8) (c : UInt8) : encL (l ++ [c]) = encL l ++ encB c := by simp [encL]

/-- block b is a builder that holds l; its rows lie behind it. -/
def Bld (b : Nat) (l : List UInt8) (w : World) : Prop := Lib.IsBuilder 171 5 b b (Lib.byteCells l) w
theorem Bld.lt {b : Nat} {l : List UInt8} {w : World} (h : Bld b l w) : b < w.heap.size := by
  rcases h with h | h <;> exact h.lt
theorem Bld.new (w : World) : Bld w.heap.size [] (w.alloc (.cells #[.pointer none, .slice none 0 0] 171)) :=
  .inl ⟨Nat.le_refl _, .slice none 0 0, Blk.new w _ _, World.ownsRow_nil _ _ _ _, by simp [Value.ownBlock]⟩
theorem byteCells_len (l : List UInt8) : (Lib.byteCells l).length = l.length := by simp [Lib.byteCells]
theorem bs_any (b : Nat) (l : List UInt8) (w : World) (h : Bld b l w) :
    Calls Tryz.prog 115 #[.pointer (some ⟨b, 0, none⟩)] w fun e w' => e = .returned (.string (str l)) ∧ Below b w w' :=
  Tryz.Builder_String_any b b l w h (Nat.le_of_lt h.lt)

theorem and15 (n : Nat) (h : n < 256) : bits BinOp.and IntKind.u8 (n : Int) 15 = (n : Int) % 16 := by
  have h1 := u8_and_nat n 15 h (by decide)
  rw [show ((15 : Nat) : Int) = 15 from rfl] at h1
  rw [h1, show n &&& 15 = n % 16 from Nat.and_two_pow_sub_one_eq_mod n 4]
  rfl

theorem hex_piece (k : Nat) (h : k < 16) : (ByteArray.mk #[48, 49, 50, 51, 52, 53, 54, 55, 56, 57, 65, 66, 67, 68, 69, 70]).extract k (k + 1) = str [hexU k] := by
  have key : ∀ k, k < 16 → ((ByteArray.mk #[48, 49, 50, 51, 52, 53, 54, 55, 56, 57, 65, 66, 67, 68, 69, 70]).extract k (k + 1)).data = (str [hexU k]).data := by decide +kernel
  have := key k h
  generalize (ByteArray.mk #[48, 49, 50, 51, 52, 53, 54, 55, 56, 57, 65, 66, 67, 68, 69, 70]).extract k (k + 1) = x at this
  obtain ⟨x⟩ := x
  simp only at this
  rw [this]

end Go.Proofs.YtaojpbgaengdpaaGreat

/- Percent signs: Encode of the reference. -/
namespace Go.Proofs.YtaojpbgaengdpaaGreat

open Go.RowKit

theorem ext1 (s : ByteArray) (k : Nat) (h : k < s.size) : s.extract k (k + 1) = str [s[k]] := by
  apply ba_ext
  have h1 : (s.extract k (k + 1)).data.toList = [s[k]] := by
    rw [ByteArray.data_extract, Array.toList_extract, List.extract_eq_take_drop]
    rw [show k + 1 - k = 1 by omega, List.drop_eq_getElem_cons (by simpa using h)]
    rfl
  generalize s.extract k (k + 1) = x at h1
  obtain ⟨⟨x⟩⟩ := x
  simp only at h1
  subst h1
  rfl
theorem take_step (s : ByteArray) (k : Nat) (h : k < s.size) : s.data.toList.take (k + 1) = s.data.toList.take k ++ [s[k]] := by
  rw [List.take_succ_eq_append_getElem (by simpa using h)]; rfl
theorem take_end (s : ByteArray) : s.data.toList.take s.size = s.data.toList := List.take_of_length_le (Nat.le_of_eq (Array.length_toList))

end Go.Proofs.YtaojpbgaengdpaaGreat

/- A text parted at a byte, piece by piece: ragpickerref02.Pieces. -/
namespace Go.Proofs.YtaojpbgaengdpaaGreat

open Go.RowKit

theorem snoc_ind {α : Type} {P : List α → Prop} (h0 : P []) (h1 : ∀ l x, P l → P (l ++ [x])) (l : List α) : P l := by
  have key : ∀ r : List α, P r.reverse := by
    intro r
    induction r with
    | nil => exact h0
    | cons x r ih => rw [List.reverse_cons]; exact h1 _ _ ih
  have := key l.reverse
  rwa [List.reverse_reverse] at this

def splStep (c : UInt8) (acc : List (List UInt8)) (x : UInt8) : List (List UInt8) := if x = c then acc ++ [[]] else acc.set (acc.length - 1) (acc.getD (acc.length - 1) [] ++ [x])
/-- what stands between the bytes c. -/
def spl (c : UInt8) (l : List UInt8) : List (List UInt8) := l.foldl (splStep c) [[]]
theorem spl_snoc (c : UInt8) (l : List UInt8) (x : UInt8) : spl c (l ++ [x]) = splStep c (spl c l) x := by simp [spl]
theorem spl_len (c : UInt8) (l : List UInt8) : 0 < (spl c l).length ∧ (spl c l).length ≤ l.length + 1 := by
  refine snoc_ind (P := fun l => 0 < (spl c l).length ∧ (spl c l).length ≤ l.length + 1) (by simp [spl]) (fun l x ih => ?_) l
  rw [spl_snoc, List.length_append]
  unfold splStep
  split
  · simp; omega
  · simp; omega
theorem spl_size (c : UInt8) (l : List UInt8) : ∀ p ∈ spl c l, p.length ≤ l.length := by
  refine snoc_ind (P := fun l => ∀ p ∈ spl c l, p.length ≤ l.length) (by simp [spl]) (fun l x ih => ?_) l
  · intro p hp
    rw [spl_snoc] at hp
    unfold splStep at hp
    rw [List.length_append, List.length_singleton]
    split at hp
    · rcases List.mem_append.1 hp with h | h
      · have := ih p h; omega
      · simp at h; subst h; simp
    · rcases List.mem_or_eq_of_mem_set hp with h | rfl
      · have := ih p h; omega
      · rw [List.length_append, List.length_singleton]
        have hl := (spl_len c l).1
        rw [List.getD_eq_getElem?_getD, List.getElem?_eq_getElem (by omega)]
        have := ih _ (List.getElem_mem (l := spl c l) (n := (spl c l).length - 1) (by omega))
        simp only [Option.getD_some]; omega

/-- a text, as one cell. -/
def encS (l : List UInt8) : List Value := [.string (str l)]
theorem encS_len (l : List UInt8) : (encS l).length = 1 := rfl
/-- texts of the call's own. -/
def OS (w : World) (base : Nat) (v : Value) (ls : List (List UInt8)) : Prop := w.ownsRow base 9 1 v ls.length (ls.flatMap encS)
theorem str_info : (Tryz.prog.info? 9).map (fun i => (i.zero, i.size, i.bytes)) = some (some (.string ByteArray.empty), 1, 16) := by kernel_rfl
theorem OS.one (w : World) (base : Nat) (l : List UInt8) (hb : base ≤ w.heap.size) : OS (w.alloc (.cells #[.string (str l)] 9)) base (.slice (some ⟨w.heap.size, 0, none⟩) 1 1) [l] :=
  ⟨rfl, .inr ⟨w.heap.size, 1, _, rfl, hb, Blk.new w _ _, Nat.le_refl _, by unfold maxLen; omega, rfl, rfl⟩⟩
theorem OS.app {w : World} {base : Nat} {v : Value} {ls : List (List UInt8)} (h : OS w base v ls) (l : List UInt8) (hl : ls.length ≤ 1000000) (hb : base ≤ w.heap.size) :
    ∃ g cap W, (Builtin.append_ #[41, 41] 41 #[v, .slice (some ⟨w.heap.size, 0, none⟩) 1 1]).run Tryz.prog (w.alloc (.cells #[.string (str l)] 9)) = .ok (.slice (some ⟨g, 0, none⟩) (ls.length + 1) cap) W ∧
      OS W base (.slice (some ⟨g, 0, none⟩) (ls.length + 1) cap) (ls ++ [l]) ∧ Below base w W := by
  obtain ⟨i0, hi, hz0, hz1, hz2⟩ := info_parts str_info
  have ho := World.ownsRow.alloc h (.cells #[.string (str l)] 9)
  obtain ⟨g, cap, W, h1, h2, h3, h4⟩ := step_app 41 Tryz.underlying41 hi hz0 hz1 hz2 rfl (by omega) ho ⟨w.heap.size, 0, none⟩ 1 1 [.string (str l)] rfl (World.news_of_block (Blk.new w #[.string (str l)] 9)) (by intro u hu; simp at hu; subst hu; rfl) (by omega) (by unfold maxLen; omega) (by omega) (by simp; omega)
  refine ⟨g, cap, W, h1, ?_, ?_⟩
  · unfold OS
    rw [List.length_append, List.length_singleton, List.flatMap_append]
    exact h2
  · refine (((Below.refl base w).alloc hb _)).trans (h3.below (fun k hk => (h.lt k hk).1) (by simp; omega))
theorem OS.put {w : World} {base g cap : Nat} {ls : List (List UInt8)} (h : OS w base (.slice (some ⟨g, 0, none⟩) ls.length cap) ls) (k : Nat) (hk : k < ls.length) (l : List UInt8) :
    OS (w.setCell ⟨g, k, none⟩ (.string (str l))) base (.slice (some ⟨g, 0, none⟩) ls.length cap) (ls.set k l) := by
  have := own_put (enc := encS) (by omega) encS_len h k hk l
  rw [Nat.mul_one] at this
  unfold OS
  rw [List.length_set]
  exact this
theorem OS.cell {w : World} {base g cap : Nat} {ls : List (List UInt8)} (h : OS w base (.slice (some ⟨g, 0, none⟩) ls.length cap) ls) (k : Nat) (hk : k < ls.length) : w.cell? ⟨g, k, none⟩ = some (.string (str ls[k])) := by
  obtain ⟨-, -, -, h0 | ⟨b, off, he, hb, hel⟩⟩ := own_slice (R := fun cs x => cs = encS x) (by omega) encS_len (fun _ => rfl) h
  · omega
  · injection he with he
    injection he with e1 e2
    subst e1 e2
    obtain ⟨cs, h1, h2, h3⟩ := hel k hk
    subst h2
    have := h3 0 (by simp [encS])
    simpa [encS] using this
theorem own_frozen {w : World} {base g cap n sz : Nat} {e : TypeId} {xs : List Value} (h : w.ownsRow base e sz (.slice (some ⟨g, 0, none⟩) n cap) n xs) : (∀ i, w.frozen? ⟨g, i, none⟩ = false) ∧ base ≤ g ∧ g < w.heap.size := by
  rcases h.2 with ⟨hv, -⟩ | ⟨g', cap', cur, hv, hb, hg, -⟩
  · cases hv
  · injection hv with hv
    injection hv with hv
    injection hv with hv
    subst hv
    exact ⟨Blk.frozen (w := w) (vs := cur) hg, hb, (Array.getElem?_eq_some_iff.1 hg).1⟩

/-- first what only reads, then a chain: at the world behind the draw. -/
theorem wp_still_tail {P : Program} {id : Nat} {Q : Exit → Act → World → Prop} {a : Act} {w : World} {L : List Oper} (n : Nat) (hm : P.follows .mixedOrders = true) (hB : Region.lexTailB .any L.toArray n = true)
    (h : wpStill P L.toArray w.drew (fun a' => wpList P L.toArray Q (L.drop n) a' w.drew) (L.take n) a) : (Code.region id L.toArray true).wp P Q a w := wp_region_still_tail n hm hB h

set_option maxRecDepth 100000 in
set_option maxHeartbeats 1000000 in
theorem pieces_any (s : ByteArray) (w : World) (hs : s.size ≤ 100000) :
    Calls Tryz.prog 80 #[.string s] w fun e w' => (∃ g cap, e = .returned (.slice (some ⟨g, 0, none⟩) (spl 47 s.data.toList).length cap) ∧ OS w' w.heap.size (.slice (some ⟨g, 0, none⟩) (spl 47 s.data.toList).length cap) (spl 47 s.data.toList)) ∧ Below w.heap.size w w' := by
  go_enter Tryz.func80, Tryz.ntmps80
  go_wp2_with fail
  go_loopw [3, 4] (fun t3 t4 wr => ∃ (k g cap : Nat) (ls : List (List UInt8)), k ≤ s.size ∧ t4 = .int .i64 k ∧ t3 = .slice (some ⟨g, 0, none⟩) ls.length cap ∧ OS wr w.heap.size (.slice (some ⟨g, 0, none⟩) ls.length cap) ls ∧ ls = spl 47 (s.data.toList.take k) ∧ Below w.heap.size w wr) (fun _ t4 _ => s.size - (intOf t4).toNat)
  case atStart => exact ⟨0, w.heap.size, 1, [[]], Nat.zero_le _, rfl, rfl, OS.one w _ [] (Nat.le_refl _), by simp [spl], balloc (Below.refl _ _) _⟩
  case round =>
    obtain ⟨k, g, cap, ls, hk, rfl, rfl, hO, hls, hW⟩ := hrel
    have hll : 0 < ls.length ∧ ls.length ≤ 100001 := by
      have h1 := spl_len 47 (s.data.toList.take k)
      have h2 : (s.data.toList.take k).length ≤ k := List.length_take_le _ _
      rw [hls]; omega
    have HO := Lib.hid hO
    have HLs := Lib.hid hls
    have HW := Lib.hid hW
    obtain ⟨hl0, hl1⟩ := hll
    by_cases hlt : k < s.size
    · have Hst := Lib.hid (take_step s k hlt)
      by_cases hc : s[k] = 47
      · have hc1 : ((s[k].toNat : Int) == 47) = true := by rw [hc]; rfl
        have HC := Lib.hid hc
        obtain ⟨g2, cap2, W, hrun, hO2, hB2⟩ := hO.app [] (by omega) hW.size
        have HR := Lib.hid hrun
        have HX := Lib.hid (And.intro hO2 hB2)
        clear hc hO hls hW hrun hO2 hB2
        go_wp2_with (at_builtin; refine wpList_app_run rfl rfl rfl rfl HR.out ?_)
        go_roundw
        case measure => simp [intOf]; omega
        case rel => exact ⟨k + 1, g2, cap2, ls ++ [[]], by omega, by go_num, by simp, by simpa using HX.out.1, by rw [Hst.out, spl_snoc, splStep, if_pos HC.out, ← HLs.out], HW.out.trans HX.out.2⟩
      · have hc1 : ((s[k].toNat : Int) == 47) = false := by
          simp only [beq_eq_false_iff_ne, ne_eq]
          intro h
          exact hc (by rw [u8_eq]; show s[k].toNat = 47; omega)
        have HC := Lib.hid hc
        have hcl := hO.cell (ls.length - 1) (by omega)
        obtain ⟨hfz, -, -⟩ := own_frozen hO
        have hts : (str ls[ls.length - 1]).size ≤ 100000 := by
          rw [str_size]
          have h1 := spl_size 47 (s.data.toList.take k) ls[ls.length - 1] (by rw [← hls]; exact List.getElem_mem _)
          have h2 : (s.data.toList.take k).length ≤ k := List.length_take_le _ _
          omega
        have HX := Lib.hid (fun (t : ByteArray) (ht : t = str (ls[ls.length - 1] ++ [s[k]])) => (show OS (wr.drew.setCell ⟨g, ls.length - 1, none⟩ (.string t)) w.heap.size (.slice (some ⟨g, 0, none⟩) ls.length cap) (ls.set (ls.length - 1) (ls[ls.length - 1] ++ [s[k]])) from by rw [ht]; exact OS.put (w := wr.drew) hO _ (by omega) _))
        have HEq := Lib.hid (show splStep 47 ls s[k] = ls.set (ls.length - 1) (ls[ls.length - 1] ++ [s[k]]) by
          unfold splStep
          rw [if_neg HC.out, List.getD_eq_getElem?_getD, List.getElem?_eq_getElem (show ls.length - 1 < ls.length by omega)]
          rfl)
        have hx := ext1 s k hlt
        have HT := Lib.hid (str_append ls[ls.length - 1] [s[k]])
        have hbg := Lib.hid (own_frozen hO).2
        generalize str ls[ls.length - 1] = t at hcl hts HT
        have HN := Lib.hid (show (1 : Int) ≤ (ls.length : Int) ∧ (0 : Int) ≤ (ls.length : Int) - 1 ∧ (ls.length : Int) - 1 < (ls.length : Int) ∧ ((ls.length : Int) - 1).toNat = ls.length - 1 ∧ (0 : Int) ≤ (k : Int) + 1 ∧ (k : Int) ≤ (k : Int) + 1 ∧ (k : Int) + 1 ≤ (s.size : Int) ∧ ((k : Int) + 1).toNat = k + 1 by omega)
        have hss : (str [s[k]]).size = 1 := rfl
        have HW1 := Lib.hid (And.intro (show IntKind.i64.wrap ((ls.length : Int) - 1) = (ls.length : Int) - 1 by simp [IntKind.wrap, IntKind.bits, IntKind.signed]; omega) (And.intro (show IntKind.i64.wrap ((k : Int) + 1) = (k : Int) + 1 by simp [IntKind.wrap, IntKind.bits, IntKind.signed]; omega) (show ¬ 9223372036854775807 < t.size + 1 by omega)))
        clear hc hO hls hW
        go_wp2_with fail
        obtain ⟨g1, g2, g3⟩ := HW1.out
        obtain ⟨n0, n1, n2, n3, n4, n5, n6, n7⟩ := HN.out
        refine wp_still_tail 17 (by kernel_rfl) (by kernel_rfl) ?_
        simp only [List.take_succ_cons, List.take_zero, List.drop_succ_cons, List.drop_zero]
        repeat still_step
        refine wpStill_nil ?_
        clear g1 g2 g3
        go_wp2_with fail
        go_roundw
        case measure => simp [intOf]; omega
        case rel => exact ⟨k + 1, g, cap, ls.set (ls.length - 1) (ls[ls.length - 1] ++ [s[k]]), by omega, by go_num, by rw [List.length_set], by rw [List.length_set]; exact HX.out _ HT.out, by rw [Hst.out, spl_snoc, ← HLs.out, HEq.out], HW.out.trans ((Below.refl _ _).drew.setCell hbg.out.1 _)⟩
    · obtain rfl : k = s.size := by omega
      have Hst := Lib.hid (take_end s)
      clear hO hls hW
      go_wp2_with fail
      go_ret
      rw [Hst.out] at HLs
      have hls := HLs.out
      subst hls
      exact ⟨⟨g, cap, rfl, HO.out⟩, HW.out⟩
end Go.Proofs.YtaojpbgaengdpaaGreat
