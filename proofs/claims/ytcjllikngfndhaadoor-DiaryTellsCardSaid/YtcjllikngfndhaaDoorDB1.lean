/- Texts of the proof, part 1. -/
import Derived.WalkKit
import Derived.WalkSpells
import Derived.WalkLawsBesides
import Derived.Outline
import Derived.Deep.QuietTactic
import Derived.BigQuiet
import Derived.Handy
import Derived.Lib.Hide
import Derived.Deep.RegionHeld3
import Derived.StillTactics
import Derived.Deep.LoopGhost
import Derived.Shelf.Strings.Builder1
import Derived.Shelf.Strings.Trim
import Derived.Shelf.Small.Strs
import Derived.Shelf.Small.Wraps
import Derived.Shelf.Strings.Search3
import Derived.Shelf.LaysM
import Derived.Shelf.Strings.LastIndex
import Derived.Shelf.Strings.Prefix
import Derived.Shelf.Strings.SplitShaped
import Derived.Laws.BitsAllLaws
import Derived.Laws.RangeAny
import Derived.Lib.OthersKept
import Derived.ProofKit
import Derived.OpenShut
import Derived.Lib.SmallJoins
import Derived.Test.YtcjllikngfndhaaDoorProg
/- Small lemmas on worlds: a block that is known whole, kept by what is laid or called behind it; what a region that draws its order keeps. No program in sight. -/
namespace Go.Proofs.YtcjllikngfndhaaDoor

open Go.RowKit

/-- block B is just these cells, free to write. -/
def Blk (w : World) (B : Nat) (vs : Array Value) (T : TypeId) : Prop := w.heap[B]? = some (.cells vs T (0, 0))

theorem Blk.lt {w : World} {B : Nat} {vs : Array Value} {T : TypeId} (h : Blk w B vs T) : B < w.heap.size := by
  unfold Blk at h
  exact (Array.getElem?_eq_some_iff.1 h).1
theorem Blk.new (w : World) (vs : Array Value) (T : TypeId) : Blk (w.alloc (.cells vs T)) w.heap.size vs T := by
  show (w.heap.push _)[w.heap.size]? = _
  simp
theorem Blk.old {w : World} {B : Nat} {vs : Array Value} {T : TypeId} (h : Blk w B vs T) (o : Obj) : Blk (w.alloc o) B vs T :=
  (Below.heap_alloc w o B h.lt).trans h
theorem Blk.keep {w w' : World} {B : Nat} {vs : Array Value} {T : TypeId} (h : Blk w B vs T) (hb : Below w.heap.size w w') : Blk w' B vs T :=
  (hb.block B h.lt).trans h
theorem Blk.keepB {w w' : World} {B N : Nat} {vs : Array Value} {T : TypeId} (h : Blk w B vs T) (hb : Below N w w') (hN : B < N) : Blk w' B vs T :=
  (hb.block B hN).trans h
theorem Blk.drew {w : World} {B : Nat} {vs : Array Value} {T : TypeId} (h : Blk w B vs T) : Blk w.drew B vs T := h
theorem Blk.cell {w : World} {B : Nat} {vs : Array Value} {T : TypeId} (h : Blk w B vs T) (i : Nat) : w.cell? ⟨B, i, none⟩ = vs[i]? := by
  unfold Blk at h
  simp [World.cell?, h]
theorem Blk.frozen {w : World} {B : Nat} {vs : Array Value} {T : TypeId} (h : Blk w B vs T) (i : Nat) : w.frozen? ⟨B, i, none⟩ = false := by
  unfold Blk at h
  simp [World.frozen?, h]
theorem Blk.facts {w : World} {B : Nat} {vs : Array Value} {T : TypeId} (h : Blk w B vs T) :
    (∀ i, w.cell? ⟨B, i, none⟩ = vs[i]?) ∧ (∀ i, w.frozen? ⟨B, i, none⟩ = false) ∧ B < w.heap.size := ⟨h.cell, h.frozen, h.lt⟩
theorem Blk.set {w : World} {B : Nat} {vs : Array Value} {T : TypeId} (h : Blk w B vs T) (i : Nat) (v : Value) : Blk (w.setCell ⟨B, i, none⟩ v) B (vs.setIfInBounds i v) T := by
  unfold Blk at h ⊢
  simp only [World.setCell, Array.getElem?_modify, if_true, h]
  simp
theorem Blk.setOther {w : World} {B : Nat} {vs : Array Value} {T : TypeId} (h : Blk w B vs T) (a : Addr) (v : Value) (hne : a.block ≠ B) : Blk (w.setCell a v) B vs T :=
  (Below.heap_setCell w a v B (fun e => hne e.symm)).trans h

theorem bnext {w W w2 : World} (h : Below w.heap.size w W) (h2 : Below W.heap.size W w2) : Below w.heap.size w w2 := h.trans (h2.mono h.size)
theorem balloc {w W : World} (h : Below w.heap.size w W) (o : Obj) : Below w.heap.size w (W.alloc o) := h.alloc h.size o

/-- What a region that draws its order keeps, from the world W where it begins. -/
theorem keepS_here (W : World) : (∀ b o, b < W.heap.size → W.drew.cell? ⟨b, o, none⟩ = W.cell? ⟨b, o, none⟩) ∧ Below W.heap.size W W.drew :=
  ⟨fun _ _ _ => rfl, (Below.refl _ _).drew⟩
theorem keepS_call {W p w4 : World} (h : (∀ b o, b < W.heap.size → p.cell? ⟨b, o, none⟩ = W.cell? ⟨b, o, none⟩) ∧ Below W.heap.size W p) (h2 : Below p.heap.size p w4) :
    (∀ b o, b < W.heap.size → w4.cell? ⟨b, o, none⟩ = W.cell? ⟨b, o, none⟩) ∧ Below W.heap.size W w4 :=
  ⟨fun b o hb => (h2.cell (p := ⟨b, o, none⟩) (Nat.lt_of_lt_of_le hb h.2.size)).trans (h.1 b o hb), bnext h.2 h2⟩
theorem keepS_alloc {W p : World} (h : (∀ b o, b < W.heap.size → p.cell? ⟨b, o, none⟩ = W.cell? ⟨b, o, none⟩) ∧ Below W.heap.size W p) (o : Obj) :
    (∀ b i, b < W.heap.size → (p.alloc o).cell? ⟨b, i, none⟩ = W.cell? ⟨b, i, none⟩) ∧ Below W.heap.size W (p.alloc o) :=
  keepS_call h ((Below.refl _ _).alloc (Nat.le_refl _) _)
theorem keepS_below {W p : World} (h : (∀ b o, b < W.heap.size → p.cell? ⟨b, o, none⟩ = W.cell? ⟨b, o, none⟩) ∧ Below W.heap.size W p) : Below W.heap.size W p := h.2
end Go.Proofs.YtcjllikngfndhaaDoor

/- More small lemmas on worlds: what may have turned is named. No program in sight. -/
namespace Go.Proofs.YtcjllikngfndhaaDoor

open Go.RowKit

/-- nothing that was there has turned but blocks in S. -/
structure Mod (S : Nat → Prop) (w w' : World) : Prop where
  os : w'.os = w.os
  tape : w'.tape = w.tape
  output : w'.output = w.output
  size : w.heap.size ≤ w'.heap.size
  block : ∀ k, k < w.heap.size → ¬ S k → w'.heap[k]? = w.heap[k]?
section

variable {S : Nat → Prop} {w w' w'' : World}

theorem Mod.refl (S : Nat → Prop) (w : World) : Mod S w w := ⟨rfl, rfl, rfl, Nat.le_refl _, fun _ _ _ => rfl⟩
theorem Mod.trans (h : Mod S w w') (k : Mod S w' w'') : Mod S w w'' :=
  ⟨k.os.trans h.os, k.tape.trans h.tape, k.output.trans h.output, Nat.le_trans h.size k.size, fun i hi hs => (k.block i (Nat.lt_of_lt_of_le hi h.size) hs).trans (h.block i hi hs)⟩
theorem Mod.of_below (h : Below w.heap.size w w') : Mod S w w' := ⟨h.os, h.tape, h.output, h.size, fun k hk _ => h.block k hk⟩
theorem Mod.below (h : Mod S w w') {B : Nat} (hS : ∀ k, S k → B ≤ k) (hB : B ≤ w.heap.size) : Below B w w' :=
  ⟨h.os, h.tape, h.output, h.size, fun k hk => h.block k (Nat.lt_of_lt_of_le hk hB) (fun hs => by have := hS k hs; omega)⟩
theorem Mod.mono {S' : Nat → Prop} (h : Mod S w w') (hS : ∀ k, S k → S' k) : Mod S' w w' := ⟨h.os, h.tape, h.output, h.size, fun k hk hs => h.block k hk (fun h' => hs (hS k h'))⟩
theorem Mod.alloc (h : Mod S w w') (o : Obj) : Mod S w (w'.alloc o) := h.trans (.of_below ((Below.refl _ _).alloc (Nat.le_refl _) o))
theorem Mod.drew (h : Mod S w w') : Mod S w w'.drew := ⟨h.os, h.tape, h.output, h.size, h.block⟩
theorem Mod.setCell (h : Mod S w w') {a : Addr} (ha : S a.block ∨ w.heap.size ≤ a.block) (v : Value) : Mod S w (w'.setCell a v) :=
  ⟨h.os, h.tape, h.output, by simpa [World.setCell] using h.size, fun k hk hs => by
    rw [Below.heap_setCell _ _ _ _ (by rintro rfl; rcases ha with ha | ha; exact hs ha; omega)]
    exact h.block k hk hs⟩
theorem Mod.setBlock (h : Mod S w w') {b : Nat} (hb : S b ∨ w.heap.size ≤ b) (o : Obj) : Mod S w (ChangeMaps.setBlock w' b o) :=
  ⟨h.os, h.tape, h.output, by simpa [ChangeMaps.setBlock] using h.size, fun k hk hs => by
    have : b ≠ k := by rintro rfl; rcases hb with hb | hb; exact hs hb; omega
    simp only [ChangeMaps.setBlock, Array.getElem?_setIfInBounds, if_neg this]
    exact h.block k hk hs⟩
theorem Blk.mod {B : Nat} {vs : Array Value} {T : TypeId} (h : Blk w B vs T) (hm : Mod S w w') (hs : ¬ S B) : Blk w' B vs T := (hm.block B h.lt hs).trans h
theorem Blk.setBlock {B b : Nat} {vs : Array Value} {T : TypeId} (h : Blk w B vs T) (hb : b ≠ B) (o : Obj) : Blk (ChangeMaps.setBlock w b o) B vs T := by
  unfold Blk at h ⊢
  simp only [ChangeMaps.setBlock, Array.getElem?_setIfInBounds, if_neg hb]
  exact h
end

theorem keepS_of {W p : World} (h : Below W.heap.size W p) : (∀ b o, b < W.heap.size → p.cell? ⟨b, o, none⟩ = W.cell? ⟨b, o, none⟩) ∧ Below W.heap.size W p :=
  ⟨fun b o hb => h.cell (p := ⟨b, o, none⟩) hb, h⟩
theorem keepS_realloc {W p : World} {O X : Obj} (h : (∀ b o, b < W.heap.size → (p.alloc O).cell? ⟨b, o, none⟩ = W.cell? ⟨b, o, none⟩) ∧ Below W.heap.size W (p.alloc O)) (hs : W.heap.size ≤ p.heap.size) :
    (∀ b o, b < W.heap.size → (p.alloc X).cell? ⟨b, o, none⟩ = W.cell? ⟨b, o, none⟩) ∧ Below W.heap.size W (p.alloc X) := by
  obtain ⟨-, h⟩ := h
  refine keepS_of ⟨h.os, h.tape, h.output, by rw [World.size_alloc]; omega, fun k hk => ?_⟩
  have := h.block k hk
  rw [Below.heap_alloc _ _ _ (by omega)] at this ⊢
  exact this
theorem keepS_set {W p : World} (h : (∀ b o, b < W.heap.size → p.cell? ⟨b, o, none⟩ = W.cell? ⟨b, o, none⟩) ∧ Below W.heap.size W p) {a : Addr} (ha : W.heap.size ≤ a.block) (v : Value) :
    (∀ b o, b < W.heap.size → (p.setCell a v).cell? ⟨b, o, none⟩ = W.cell? ⟨b, o, none⟩) ∧ Below W.heap.size W (p.setCell a v) :=
  keepS_of (h.2.setCell ha v)
theorem keepS_set4 {W p : World} {B : Nat} {v0 v1 v2 v3 : Value} (h : (∀ b o, b < W.heap.size → p.cell? ⟨b, o, none⟩ = W.cell? ⟨b, o, none⟩) ∧ Below W.heap.size W p) (hB : W.heap.size ≤ B) :
    (∀ b o, b < W.heap.size → ((((p.setCell ⟨B, 0, none⟩ v0).setCell ⟨B, 1, none⟩ v1).setCell ⟨B, 2, none⟩ v2).setCell ⟨B, 3, none⟩ v3).cell? ⟨b, o, none⟩ = W.cell? ⟨b, o, none⟩) ∧
      Below W.heap.size W ((((p.setCell ⟨B, 0, none⟩ v0).setCell ⟨B, 1, none⟩ v1).setCell ⟨B, 2, none⟩ v2).setCell ⟨B, 3, none⟩ v3) :=
  keepS_set (keepS_set (keepS_set (keepS_set h hB v0) hB v1) hB v2) hB v3
theorem keepS_here2 (W : World) : (∀ b o, b < W.heap.size → W.drew.drew.cell? ⟨b, o, none⟩ = W.cell? ⟨b, o, none⟩) ∧ Below W.heap.size W W.drew.drew := keepS_of ((Below.refl _ _).drew).drew
/-- a block laid just ahead of a call, and a draw. -/
theorem new_drew {w w4 : World} {vs : Array Value} {T : TypeId} (h : Below (w.alloc (.cells vs T)).drew.heap.size (w.alloc (.cells vs T)).drew w4) : Blk w4 w.heap.size vs T := ((Blk.new w vs T).drew).keep h
theorem new_keep {w w4 : World} {vs : Array Value} {T : TypeId} (h : Below (w.alloc (.cells vs T)).heap.size (w.alloc (.cells vs T)) w4) : Blk w4 w.heap.size vs T := (Blk.new w vs T).keep h
theorem keepS_allocD {W p : World} (h : (∀ b o, b < W.heap.size → p.drew.cell? ⟨b, o, none⟩ = W.cell? ⟨b, o, none⟩) ∧ Below W.heap.size W p.drew) (o : Obj) :
    (∀ b i, b < W.heap.size → (p.alloc o).drew.cell? ⟨b, i, none⟩ = W.cell? ⟨b, i, none⟩) ∧ Below W.heap.size W (p.alloc o).drew := keepS_alloc (p := p.drew) h o
theorem Blk.set4 {w : World} {B : Nat} {x0 x1 x2 x3 v0 v1 v2 v3 : Value} {T : TypeId} (h : Blk w B #[x0, x1, x2, x3] T) :
    Blk ((((w.setCell ⟨B, 0, none⟩ v0).setCell ⟨B, 1, none⟩ v1).setCell ⟨B, 2, none⟩ v2).setCell ⟨B, 3, none⟩ v3) B #[v0, v1, v2, v3] T := (((h.set 0 v0).set 1 v1).set 2 v2).set 3 v3
theorem below_set4 {N : Nat} {w0 w : World} {B : Nat} {v0 v1 v2 v3 : Value} (h : Below N w0 w) (hB : N ≤ B) :
    Below N w0 ((((w.setCell ⟨B, 0, none⟩ v0).setCell ⟨B, 1, none⟩ v1).setCell ⟨B, 2, none⟩ v2).setCell ⟨B, 3, none⟩ v3) := (((h.setCell hB v0).setCell hB v1).setCell hB v2).setCell hB v3
end Go.Proofs.YtcjllikngfndhaaDoor

/- Digits of a number, to a base; decimals; names that are tried (layer 9): plain facts. No program in sight. -/
namespace Go.Proofs.YtcjllikngfndhaaDoor

def str (l : List UInt8) : ByteArray := ⟨l.toArray⟩
theorem str_size (l : List UInt8) : (str l).size = l.length := by simp [str, ByteArray.size]
theorem str_append (a b : List UInt8) : str a ++ str b = str (a ++ b) := ByteArray.mk_append_mk a b
theorem str_inj {a b : List UInt8} (h : str a = str b) : a = b := by
  unfold str at h
  have h2 : a.toArray = b.toArray := by injection h
  simpa using congrArg Array.toList h2
theorem str_of (s : ByteArray) : str s.data.toList = s := by
  unfold str
  cases s
  simp

def digF : Nat → Nat → Nat → List UInt8
  | 0, _, _ => []
  | f + 1, b, n => if n < b then [UInt8.ofNat (48 + n)] else digF f b (n / b) ++ [UInt8.ofNat (48 + n % b)]
/-- the digits of n to the base b. -/
def dig (b n : Nat) : List UInt8 := digF (n + 1) b n

theorem digF_more (b : Nat) (hb : 2 ≤ b) : ∀ (f n : Nat), n < f → digF f b n = digF (n + 1) b n
  | 0, n, h => by omega
  | f + 1, n, h => by
    unfold digF
    by_cases hn : n < b
    · rw [if_pos hn, if_pos hn]
    · rw [if_neg hn, if_neg hn]
      have h0 : 0 < n := by omega
      have h1 : n / b < n := Nat.div_lt_self h0 (by omega)
      rw [digF_more b hb f (n / b) (by omega)]
      cases n with
      | zero => omega
      | succ m => rw [digF_more b hb (m + 1) ((m + 1) / b) h1]
theorem dig_small {b n : Nat} (h : n < b) : dig b n = [UInt8.ofNat (48 + n)] := by
  unfold dig digF; rw [if_pos h]
theorem dig_step {b n : Nat} (hb : 2 ≤ b) (h : b ≤ n) : dig b n = dig b (n / b) ++ [UInt8.ofNat (48 + n % b)] := by
  have h1 : n / b < n := Nat.div_lt_self (by omega) (by omega)
  unfold dig
  conv => lhs; unfold digF
  rw [if_neg (by omega), digF_more b hb n (n / b) h1]
theorem dig_len (b : Nat) (hb : 2 ≤ b) : ∀ (k n : Nat), n < b ^ (k + 1) → (dig b n).length ≤ k + 1
  | 0, n, h => by rw [dig_small (by simpa using h)]; simp
  | k + 1, n, h => by
    by_cases hn : n < b
    · rw [dig_small hn]; simp
    · rw [dig_step hb (by omega)]
      have : n / b < b ^ (k + 1) := by rw [Nat.div_lt_iff_lt_mul (by omega)]; rwa [Nat.pow_succ] at h
      have := dig_len b hb k (n / b) this
      simp; omega
theorem dig_pos (b n : Nat) (hb : 2 ≤ b) : 0 < (dig b n).length := by
  by_cases hn : n < b
  · rw [dig_small hn]; simp
  · rw [dig_step hb (by omega)]; simp
/-- every digit to a base of at most ten is one of 0 to 9. -/
theorem dig_bytes (b : Nat) (hb : 2 ≤ b) (hb' : b ≤ 10) (n : Nat) : ∀ c ∈ dig b n, 48 ≤ c.toNat ∧ c.toNat ≤ 57 := by
  induction n using Nat.strongRecOn with
  | _ n ih =>
    by_cases hn : n < b
    · rw [dig_small hn]
      simp only [List.mem_cons, List.not_mem_nil, or_false]
      rintro c rfl
      simp [UInt8.toNat_ofNat]
      omega
    · rw [dig_step hb (by omega)]
      intro c hc
      rcases List.mem_append.1 hc with hc | hc
      · exact ih (n / b) (Nat.div_lt_self (by omega) (by omega)) c hc
      · simp only [List.mem_cons, List.not_mem_nil, or_false] at hc
        subst hc
        have : n % b < b := Nat.mod_lt _ (by omega)
        simp [UInt8.toNat_ofNat]
        omega
/-- the number that digits tell. -/
def valD (b : Nat) (l : List UInt8) : Nat := l.foldl (fun a c => a * b + (c.toNat - 48)) 0
theorem valD_snoc (b : Nat) (l : List UInt8) (c : UInt8) : valD b (l ++ [c]) = valD b l * b + (c.toNat - 48) := by
  unfold valD; rw [List.foldl_append]; rfl
theorem valD_dig (b : Nat) (hb : 2 ≤ b) (hb' : b ≤ 10) (n : Nat) : valD b (dig b n) = n := by
  induction n using Nat.strongRecOn with
  | _ n ih =>
    by_cases hn : n < b
    · rw [dig_small hn]
      simp [valD, UInt8.toNat_ofNat]
      omega
    · rw [dig_step hb (by omega), valD_snoc, ih (n / b) (Nat.div_lt_self (by omega) (by omega))]
      have h1 : n % b < b := Nat.mod_lt _ (by omega)
      have h2 := Nat.div_add_mod n b
      have h3 : (UInt8.ofNat (48 + n % b)).toNat - 48 = n % b := by simp [UInt8.toNat_ofNat]; omega
      rw [h3, Nat.mul_comm]
      exact h2
theorem dig_inj (b : Nat) (hb : 2 ≤ b) (hb' : b ≤ 10) {n m : Nat} (h : dig b n = dig b m) : n = m := by
  rw [← valD_dig b hb hb' n, h, valD_dig b hb hb' m]

/-- a number as digits, with a minus ahead below 0. -/
def decL (n : Int) : List UInt8 := if n < 0 then 45 :: dig 10 n.natAbs else dig 10 n.toNat
theorem decL_len (n : Int) (h0 : -9223372036854775808 ≤ n) (h1 : n ≤ 9223372036854775807) : (decL n).length ≤ 21 ∧ 0 < (decL n).length := by
  unfold decL
  have e : (10 : Nat) ^ (19 + 1) = 100000000000000000000 := by decide
  split
  · have := dig_len 10 (by decide) 19 n.natAbs (by rw [e]; omega)
    simp; omega
  · have := dig_len 10 (by decide) 19 n.toNat (by rw [e]; omega)
    have := dig_pos 10 n.toNat (by decide)
    omega

theorem foldl_push (ns : List Int) : ∀ (s : List UInt8), ns.foldl (fun (r : ByteArray) n => r.push (UInt8.ofNat n.toNat)) (str s) = str (s ++ ns.map fun n => UInt8.ofNat n.toNat) := by
  induction ns with
  | nil => intro s; simp
  | cons n ns ih =>
    intro s
    rw [List.foldl_cons]
    have : (str s).push (UInt8.ofNat n.toNat) = str (s ++ [UInt8.ofNat n.toNat]) := by
      unfold str
      show ByteArray.mk (s.toArray.push _) = _
      simp
    rw [this, ih]
    simp
/-- string(b), b a slice of bytes whose cells are known. -/
theorem conv_bytes {P : Program} {src dst e : TypeId} (hs : P.underlying src = some (.slice e)) (he : P.underlying e = some (.int .u8)) (hd : P.underlying dst = some .string)
    (w : World) (B o c : Nat) (ns : List Int) (h : ∀ j, (hj : j < ns.length) → w.cell? ⟨B, o + j, none⟩ = some (.int .u8 ns[j])) :
    (convert src dst (.slice (some ⟨B, o, none⟩) ns.length c)).run P w = .ok (.string (str (ns.map fun n => UInt8.ofNat n.toNat))) w := by
  rw [run_convert_bytes_string w src dst e _ _ _ hs he hd]
  have hl : (loadCells ⟨B, o, none⟩ ns.length).run P w = .ok (ns.map (Value.int .u8)).toArray w := by
    have := run_loadCells_list (P := P) w ⟨B, o, none⟩ (ns.map (Value.int .u8)) (by
      intro j v hv
      have hj : j < ns.length := by
        have := (List.getElem?_eq_some_iff.1 hv).1
        simpa using this
      have ha : (⟨B, o, none⟩ : Addr).add j = ⟨B, o + j, none⟩ := by
        unfold Addr.add
        split
        · rename_i h0; subst h0; rfl
        · rfl
      rw [ha, h j hj]
      simpa [List.getElem?_eq_getElem hj] using hv)
    rwa [List.length_map] at this
  rw [run_bytesToString w _ _ _ ns hl]
  have := foldl_push ns []
  rw [show str [] = ByteArray.empty from rfl] at this
  rw [this, List.nil_append]
/-- string([]byte{v}). -/
theorem conv_one {P : Program} {src dst e : TypeId} (hs : P.underlying src = some (.slice e)) (he : P.underlying e = some (.int .u8)) (hd : P.underlying dst = some .string)
    (w : World) (v : Int) (E : TypeId) : (convert src dst (.slice (some ⟨w.heap.size, 0, none⟩) 1 1)).run P (w.alloc (.cells #[.int .u8 v] E)) = .ok (.string (str [UInt8.ofNat v.toNat])) (w.alloc (.cells #[.int .u8 v] E)) :=
  conv_bytes hs he hd (w.alloc (.cells #[.int .u8 v] E)) w.heap.size 0 1 [v] (by
    intro j hj
    simp only [List.length_cons, List.length_nil, Nat.zero_add, Nat.lt_one_iff] at hj
    subst hj
    simp)

theorem ba_ext {a b : ByteArray} (h : a.toList = b.toList) : a = b := by
  rw [ByteArray.toList_eq, ByteArray.toList_eq] at h
  cases a; cases b
  simp at h
  subst h; rfl
/-- the test of two strings, in the walk's own form. -/
theorem str_beq {a b : ByteArray} (h : a = b) : (a.toList == b.toList) = true := by subst h; simp
theorem str_bne {a b : ByteArray} (h : a ≠ b) : (a.toList == b.toList) = false := by
  simp only [beq_eq_false_iff_ne]
  exact fun e => h (ba_ext e)
end Go.Proofs.YtcjllikngfndhaaDoor

/- Contracts of ragpickerref01.Base and Dec, over this program: the digits. -/
namespace Go.Proofs.YtcjllikngfndhaaDoor

open Go.RowKit

theorem toNat_div {m b : Int} (hm : 0 ≤ m) (hb : 0 ≤ b) : (m / b).toNat = m.toNat / b.toNat := by
  obtain ⟨m, rfl⟩ := Int.eq_ofNat_of_zero_le hm
  obtain ⟨b, rfl⟩ := Int.eq_ofNat_of_zero_le hb
  rfl
theorem toNat_mod {m b : Int} (hm : 0 ≤ m) (hb : 0 ≤ b) : (m % b).toNat = m.toNat % b.toNat := by
  obtain ⟨m, rfl⟩ := Int.eq_ofNat_of_zero_le hm
  obtain ⟨b, rfl⟩ := Int.eq_ofNat_of_zero_le hb
  rfl
theorem u8_mod {b m : Int} (hb0 : 2 ≤ b) (hb1 : b ≤ 10) : 0 ≤ m % b ∧ m % b ≤ 9 := by
  have := Int.emod_nonneg m (show b ≠ 0 by omega)
  have := Int.emod_lt_of_pos m (show 0 < b by omega)
  omega

set_option maxRecDepth 100000 in
set_option maxHeartbeats 400000 in
theorem base_any (n b : Int) (w : World) (hn0 : 0 ≤ n) (hn1 : n ≤ 18446744073709551615) (hb0 : 2 ≤ b) (hb1 : b ≤ 10) :
    Calls Tryd.prog 49 #[.int .u64 n, .int .u64 b] w fun e w' => e = .returned (.string (str (dig b.toNat n.toNat))) ∧ Below w.heap.size w w' := by
  have kc := fun (w : World) (v : Int) => conv_one (P := Tryd.prog) Tryd.underlying53 Tryd.underlying5 Tryd.underlying9 w v 5
  go_enter Tryd.func49, Tryd.ntmps49
  go_wp2_with fail
  go_loopg [0, 5] n.toNat (fun g t0 t5 wr => ∃ (m : Int) (s : List UInt8) (k : Nat), 0 ≤ m ∧ m ≤ n ∧ g = m.toNat ∧ t0 = .int .u64 m ∧ t5 = .string (str s) ∧ s.length + k = 64 ∧ m < 2 ^ k ∧ dig b.toNat n.toNat = dig b.toNat m.toNat ++ s ∧ Below w.heap.size w wr)
  case atStart => exact ⟨n, [], 64, hn0, Int.le_refl _, rfl, rfl, rfl, rfl, by omega, by simp, Below.refl _ _⟩
  case round =>
    obtain ⟨m, s, k, hm0, hm1, hg, rfl, rfl, hs, hk, hd, hB⟩ := hrel
    have Hg := Lib.hid hg
    have Hd := Lib.hid hd
    have Hs := Lib.hid hs
    have Hk := Lib.hid hk
    have hsz : (str s).size ≤ 64 := by rw [str_size]; omega
    clear hg hd hs hk
    by_cases hlt : b ≤ m
    · obtain ⟨r0, r1⟩ := u8_mod (m := m) hb0 hb1
      have d0 : 0 ≤ m / b := Int.ediv_nonneg hm0 (by omega)
      have d1 : m / b ≤ m := Int.ediv_le_self _ hm0
      have hne : (b == 0) = false := by simp; omega
      have hsz1 : (str [UInt8.ofNat (48 + m % b).toNat]).size ≤ 1 := by rw [str_size]; simp
      have hlo : m / b < m := Int.ediv_lt_self_of_pos_of_ne_one (by omega) (by omega)
      go_wp2_with fail
      go_roundg (m / b).toNat
      case measure => rw [Hg.out]; omega
      case rel =>
        have hk := Hk.out
        have hs := Hs.out
        obtain ⟨k', rfl⟩ : ∃ k', k = k' + 1 := by
          cases k with
          | zero => simp at hk; omega
          | succ k' => exact ⟨k', rfl⟩
        refine ⟨m / b, UInt8.ofNat (48 + m % b).toNat :: s, k', d0, by omega, rfl, rfl, ?_, by simp; omega, ?_, ?_, balloc hB _⟩
        · rw [str_append]; rfl
        · have h2 : m / b ≤ m / 2 := by
            have h3 := Int.ediv_mul_le m (show b ≠ 0 by omega)
            have h4 : m / b * 2 ≤ m / b * b := Int.mul_le_mul_of_nonneg_left hb0 d0
            omega
          have h5 : (2 : Int) ^ (k' + 1) = 2 ^ k' * 2 := Int.pow_succ ..
          omega
        · rw [Hd.out, dig_step (b := b.toNat) (n := m.toNat) (by omega) (by omega), toNat_div hm0 (by omega), List.append_assoc]
          congr 2
          rw [← toNat_mod hm0 (by omega)]
          show _ = UInt8.ofNat (48 + m % b).toNat :: s
          rw [show (48 + m % b).toNat = 48 + (m % b).toNat by omega]
          rfl
    · have hsz2 : (str [UInt8.ofNat (48 + m).toNat]).size ≤ 1 := by rw [str_size]; simp
      go_wp2_with fail
      go_ret
      refine ⟨?_, balloc hB _⟩
      show Ending.returned (.string (str [UInt8.ofNat (48 + m).toNat] ++ str s)) = _
      rw [Hd.out, str_append, dig_small (by omega), show (48 + m).toNat = 48 + m.toNat by omega]

set_option maxRecDepth 100000 in
set_option maxHeartbeats 400000 in
theorem rdec_any (n : Int) (w : World) (h0 : -9223372036854775808 ≤ n) (h1 : n ≤ 9223372036854775807) :
    Calls Tryd.prog 32 #[.int .i64 n] w fun e w' => e = .returned (.string (str (decL n))) ∧ Below w.heap.size w w' := by
  by_cases hn : n < 0
  · have Hv := Lib.hid (show decL n = 45 :: dig 10 n.natAbs by unfold decL; rw [if_pos hn])
    have hsz := dig_len 10 (by decide) 19 n.natAbs (by have e : (10 : Nat) ^ (19 + 1) = 100000000000000000000 := by decide
                                                       rw [e]; omega)
    have hsz' : (str (dig 10 n.natAbs)).size ≤ 20 := by rw [str_size]; exact hsz
    clear hsz
    go_enter Tryd.func32, Tryd.ntmps32
    have Hw := Lib.hid (show IntKind.u64.wrap (-IntKind.u64.wrap n) = -n by rw [IntKind.wrap_u64, IntKind.wrap_u64]; omega)
    go_wp2_with fail
    rw [Hw.out]
    refine (base_any (-n) 10 _ (by omega) (by omega) (by decide) (by decide)).mono ?_
    rw [show dig (10 : Int).toNat (-n).toNat = dig 10 n.natAbs by rw [show (-n).toNat = n.natAbs by omega]; rfl]
    rintro e w1 ⟨rfl, hb1⟩
    go_wp2_with fail
    go_ret
    refine ⟨?_, hb1⟩
    rw [Hv.out]
    show Ending.returned (.string (str [45] ++ str _)) = _
    rw [str_append]
    rfl
  · have Hv := Lib.hid (show decL n = dig 10 n.toNat by unfold decL; rw [if_neg hn])
    go_enter Tryd.func32, Tryd.ntmps32
    go_wp2_with fail
    refine (base_any n 10 _ (by omega) (by omega) (by decide) (by decide)).mono ?_
    rintro e w1 ⟨rfl, hb1⟩
    go_wp2_with fail
    go_ret
    exact ⟨by rw [Hv.out]; rfl, hb1⟩
end Go.Proofs.YtcjllikngfndhaaDoor

/- Contracts of num.digits and num.Dec, over this program: the digits. -/
namespace Go.Proofs.YtcjllikngfndhaaDoor

open Go.RowKit

theorem info_u8 : (Tryd.prog.info? 5).map (fun i => (i.zero, i.size, i.bytes)) = some (some (.int .u8 0), 1, 1) := by kernel_rfl

theorem dig_idx (r : Nat) (h : r < 10) (hb : r < (ByteArray.mk #[48, 49, 50, 51, 52, 53, 54, 55, 56, 57]).size) : ((ByteArray.mk #[48, 49, 50, 51, 52, 53, 54, 55, 56, 57])[r]'hb).toNat = 48 + r := by
  match r, h with
  | 0, _ => rfl
  | 1, _ => rfl
  | 2, _ => rfl
  | 3, _ => rfl
  | 4, _ => rfl
  | 5, _ => rfl
  | 6, _ => rfl
  | 7, _ => rfl
  | 8, _ => rfl
  | 9, _ => rfl

/-- digits of n, none of 0. -/
def digZ (b n : Nat) : List UInt8 := if n = 0 then [] else dig b n
theorem digZ_step {b n : Nat} (hb : 2 ≤ b) (hn : 0 < n) : digZ b n = digZ b (n / b) ++ [UInt8.ofNat (48 + n % b)] := by
  unfold digZ
  rw [if_neg (by omega)]
  by_cases h : n < b
  · rw [dig_small h, if_pos (Nat.div_eq_of_lt h), Nat.mod_eq_of_lt h]; rfl
  · have : 0 < n / b := Nat.div_pos (by omega) (by omega)
    rw [if_neg (by omega), dig_step hb (by omega)]

set_option maxRecDepth 100000 in
set_option maxHeartbeats 400000 in
theorem digits_any (n b : Int) (w : World) (hn0 : 0 ≤ n) (hn1 : n ≤ 18446744073709551615) (hb0 : 2 ≤ b) (hb1 : b ≤ 10) :
    Calls Tryd.prog 47 #[.int .u64 n, .int .u64 b] w fun e w' => e = .returned (.string (str (dig b.toNat n.toNat))) ∧ Below w.heap.size w w' := by
  by_cases hz : n = 0
  · subst hz
    have Hv := Lib.hid (show dig b.toNat (0 : Int).toNat = [48] by rw [dig_small (by omega)]; rfl)
    go_enter Tryd.func47, Tryd.ntmps47
    go_wp2_with fail
    go_ret
    exact ⟨by rw [Hv.out]; rfl, Below.refl _ _⟩
  · have hz0 : (n == 0) = false := by simpa using hz
    obtain ⟨i0, hi, hzz, hz1, hz2⟩ := info_parts info_u8
    go_enter Tryd.func47, Tryd.ntmps47
    go_wp2_with fail
    go_loopg [0, 5] n.toNat (fun g t0 t5 wr => ∃ (m : Int) (acc : List Int) (k : Nat), 0 ≤ m ∧ m ≤ n ∧ g = m.toNat ∧ t0 = .int .u64 m ∧ wr.ownsRow w.heap.size 5 1 t5 acc.length (acc.map (Value.int .u8)) ∧
      (∀ x ∈ acc, 48 ≤ x ∧ x ≤ 57) ∧ acc.length + k = 64 ∧ m < 2 ^ k ∧ digZ b.toNat n.toNat = digZ b.toNat m.toNat ++ (acc.map fun x => UInt8.ofNat x.toNat).reverse ∧ Below w.heap.size w wr)
    case atStart => exact ⟨n, [], 64, hn0, Int.le_refl _, rfl, rfl, World.ownsRow_nil _ _ _ _, by simp, rfl, by omega, by simp, Below.refl _ _⟩
    case round =>
      obtain ⟨m, acc, k, hm0, hm1, hg, rfl, hown, hac, hs, hk, hd, hB⟩ := hrel
      have Hg := Lib.hid hg
      have Hd := Lib.hid hd
      have Hs := Lib.hid hs
      have Hk := Lib.hid hk
      have Ha := Lib.hid hac
      clear hg hd hs hk hac
      by_cases hlt : 0 < m
      · obtain ⟨r0, r1⟩ := u8_mod (m := m) hb0 hb1
        have d0 : 0 ≤ m / b := Int.ediv_nonneg hm0 (by omega)
        have d1 : m / b ≤ m := Int.ediv_le_self _ hm0
        have hne : (b == 0) = false := by simp; omega
        have hidx : ∀ h, (((ByteArray.mk #[48, 49, 50, 51, 52, 53, 54, 55, 56, 57])[(m % b).toNat]'h).toNat : Int) = 48 + m % b := fun h => by
          rw [dig_idx _ (by omega)]; omega
        have hacc : acc.length + 1 ≤ 64 := by
          have hk := Hk.out
          have hs := Hs.out
          cases k with
          | zero => simp at hk; omega
          | succ k' => omega
        have hlo : m / b < m := Int.ediv_lt_self_of_pos_of_ne_one (by omega) (by omega)
        go_wp2_with (at_builtin; refine wpList_append_own _ rfl _ _ 53 rfl w.heap.size 5 i0 (.int .u8 0) 1 1 Tryd.underlying53 hi hzz hz1 hz2 rfl (by decide) _ _ _ rfl (hown.alloc _) ⟨wr.heap.size, 0, none⟩ 1 1 [.int .u8 (48 + m % b)] rfl rfl ?c1 ?c2 ?c3 ?c4 ?c5 ?_)
        case c1 => exact cell_one_new _ _ _
        case c2 => intro u hu; simp at hu; subst hu; rfl
        case c3 => unfold maxLen; omega
        case c4 => omega
        case c5 => have := hB.size; simp; omega
        intro v' w1 hown' hgrow _
        have hB1 : Below w.heap.size w w1 := (balloc hB _).grown hgrow (by have := hB.size; simp; omega) (fun k hk => ((hown.alloc (.cells #[.int .u8 (48 + m % b)] 5)).lt k hk).1)
        go_wp2_with fail
        go_roundg (m / b).toNat
        case measure => rw [Hg.out]; omega
        case rel =>
          have hk := Hk.out
          have hs := Hs.out
          obtain ⟨k', rfl⟩ : ∃ k', k = k' + 1 := by
            cases k with
            | zero => simp at hk; omega
            | succ k' => exact ⟨k', rfl⟩
          refine ⟨m / b, acc ++ [48 + m % b], k', d0, by omega, rfl, rfl, by simpa using hown', ?_, by simp; omega, ?_, ?_, hB1⟩
          · intro x hx
            rcases List.mem_append.1 hx with hx | hx
            · exact Ha.out x hx
            · simp at hx; omega
          · have h2 : m / b ≤ m / 2 := by
              have h3 := Int.ediv_mul_le m (show b ≠ 0 by omega)
              have h4 : m / b * 2 ≤ m / b * b := Int.mul_le_mul_of_nonneg_left hb0 d0
              omega
            have h5 : (2 : Int) ^ (k' + 1) = 2 ^ k' * 2 := Int.pow_succ ..
            omega
          · rw [Hd.out, digZ_step (b := b.toNat) (n := m.toNat) (by omega) (by omega), toNat_div hm0 (by omega), List.append_assoc]
            congr 1
            rw [← toNat_mod hm0 (by omega), List.map_append, List.reverse_append]
            show _ = UInt8.ofNat (48 + m % b).toNat :: _
            rw [show (48 + m % b).toNat = 48 + (m % b).toNat by omega]
            rfl
      · obtain rfl : m = 0 := by omega
        have hd0 : dig b.toNat n.toNat = (acc.map fun x => UInt8.ofNat x.toNat).reverse := by
          have h := Hd.out
          unfold digZ at h
          rw [if_neg (by omega)] at h
          simpa using h
        have hne : 0 < acc.length := by
          have h1 := dig_pos b.toNat n.toNat (by omega)
          rw [hd0] at h1
          simpa using h1
        obtain ⟨hl, hf⟩ := hown
        rcases hf with ⟨-, h⟩ | ⟨g, cap, cur, rfl, hg0, hh, hc1, hc2, hc3, hc4⟩
        · omega
        have hown : wr.ownsRow w.heap.size 5 1 (.slice (some ⟨g, 0, none⟩) acc.length cap) acc.length (acc.map (Value.int .u8)) := ⟨hl, .inr ⟨g, cap, cur, rfl, hg0, hh, hc1, hc2, hc3, hc4⟩⟩
        have Hd0 := Lib.hid hd0
        have hL : acc.length ≤ 64 := by have := Hs.out; omega
        clear hl hh hc1 hc3 hc4 hd0 Hd
        go_wp2_with fail
        go_loopg [6, 7] (acc.length + 1) (fun gg t6 t7 wr => ∃ (k j : Nat) (cr : List Int), gg + k = acc.length + 1 ∧ j + k + 1 = acc.length ∧ k ≤ j + 2 ∧ t6 = .int .i64 k ∧ t7 = .int .i64 j ∧
          wr.ownsRow w.heap.size 5 1 (.slice (some ⟨g, 0, none⟩) acc.length cap) acc.length (cr.map (Value.int .u8)) ∧ cr.length = acc.length ∧
          (∀ x, x < acc.length → cr.getD x 0 = if x < k ∨ j < x then acc.getD (acc.length - 1 - x) 0 else acc.getD x 0) ∧ Below w.heap.size w wr)
        case atStart => exact ⟨0, acc.length - 1, acc, by omega, by omega, by omega, rfl, by go_num, hown, rfl, fun x hx => by rw [if_neg (by omega)], hB⟩
        case round =>
          obtain ⟨k, j, cr, hg1, hkj, hk2, rfl, rfl, hown, hcl, hcr, hB⟩ := hrel
          have Hcr := Lib.hid hcr
          have Hcl := Lib.hid hcl
          have Hg1 := Lib.hid hg1
          have Hkj := Lib.hid hkj
          clear hcr hcl hg1
          by_cases hlt : k < j
          · have hck : wr.cell? ⟨g, k, none⟩ = some (.int .u8 (cr.getD k 0)) := by
              rw [hown.cellAt k (by omega), List.getElem?_map, List.getElem?_eq_getElem (by have := Hcl.out; omega), List.getD_eq_getElem?_getD, List.getElem?_eq_getElem (by have := Hcl.out; omega)]
              rfl
            have hcj : wr.cell? ⟨g, j, none⟩ = some (.int .u8 (cr.getD j 0)) := by
              rw [hown.cellAt j (by omega), List.getElem?_map, List.getElem?_eq_getElem (by have := Hcl.out; omega), List.getD_eq_getElem?_getD, List.getElem?_eq_getElem (by have := Hcl.out; omega)]
              rfl
            have hf := hown.frozenAt
            have hne : ¬ k = j := by omega
            have hne' : ¬ j = k := by omega
            have hkL : (k : Int) < acc.length := by omega
            have hjL : (j : Int) < acc.length := by omega
            have hj0 : (0 : Int) ≤ j := by omega
            have hk0 : (0 : Int) ≤ k := by omega
            have Hown := Lib.hid hown
            clear hown hkj
            generalize hu : cr.getD k 0 = u at hck
            generalize hv : cr.getD j 0 = v at hcj
            have Hu := Lib.hid hu
            have Hv := Lib.hid hv
            clear hu hv
            go_wp2_with fail
            go_region
            go_wp2_with fail
            go_roundg (gk - 1)
            case measure => have := Hg1.out; have := Hkj.out; omega
            case rel =>
              have hcr := Hcr.out
              have hcl := Hcl.out
              have hkj := Hkj.out
              have s1 := (Hown.out.stored k (.int .u8 v)).1
              have s2 := (s1.stored j (.int .u8 u)).1
              have hg := hg0
              refine ⟨k + 1, j - 1, (cr.set k v).set j u, by have := Hg1.out; omega, by omega, by omega, by go_num, by go_num, ?_, by simp [hcl], ?_, ?_⟩
              · rw [List.map_set, List.map_set]; exact s2
              · intro x hx
                have hx' := hcr x hx
                have hk' := hcr k (by omega)
                have hj' := hcr j (by omega)
                rw [if_neg (by omega), Hu.out] at hk'
                rw [if_neg (by omega), Hv.out] at hj'
                simp only [List.getD_eq_getElem?_getD] at hx' hk' hj' ⊢
                by_cases e1 : x = j
                · subst e1
                  rw [List.getElem?_set_self (by simp; omega), if_pos (by omega), show acc.length - 1 - x = k by omega]
                  exact hk'
                · rw [List.getElem?_set_ne (by omega)]
                  by_cases e2 : x = k
                  · subst e2
                    rw [List.getElem?_set_self (by omega), if_pos (by omega), show acc.length - 1 - x = j by omega]
                    exact hj'
                  · rw [List.getElem?_set_ne (by omega), hx']
                    by_cases e3 : x < k ∨ j < x
                    · rw [if_pos e3, if_pos (by omega)]
                    · rw [if_neg e3, if_neg (by omega)]
              · exact ((hB.setCell (p := ⟨g, k, none⟩) hg _).setCell (p := ⟨g, j, none⟩) hg _).drew
          · have hcr : cr = acc.reverse := by
              have hcl := Hcl.out
              apply List.ext_getElem (by simp [hcl])
              intro x h1 h2
              have hx := Hcr.out x (by omega)
              rw [List.getD_eq_getElem?_getD, List.getElem?_eq_getElem h1] at hx
              rw [List.getElem_reverse]
              by_cases e : x < k ∨ j < x
              · rw [if_pos e, List.getD_eq_getElem?_getD, List.getElem?_eq_getElem (by omega)] at hx
                exact hx
              · rw [if_neg e, List.getD_eq_getElem?_getD, List.getElem?_eq_getElem (by omega)] at hx
                have e2 : x = acc.length - 1 - x := by omega
                simp only [Option.getD_some] at hx
                rw [hx]
                congr 1
            have kc := conv_bytes (P := Tryd.prog) Tryd.underlying53 Tryd.underlying5 Tryd.underlying9 wr g 0 cap cr (by
              intro x hx
              have hcl := Hcl.out
              rw [Nat.zero_add, hown.cellAt x (by omega), List.getElem?_map, List.getElem?_eq_getElem hx]
              rfl)
            rw [Hcl.out] at kc
            have Hcr2 := Lib.hid hcr
            clear hcr
            go_wp2_with fail
            go_ret
            refine ⟨?_, hB⟩
            rw [Hd0.out, Hcr2.out, List.map_reverse]
            rfl
end Go.Proofs.YtcjllikngfndhaaDoor

/- The contract of num.Dec, over this program. -/
namespace Go.Proofs.YtcjllikngfndhaaDoor

open Go.RowKit

set_option maxRecDepth 100000 in
set_option maxHeartbeats 400000 in
theorem dec_any (n : Int) (w : World) (h0 : -9223372036854775808 ≤ n) (h1 : n ≤ 9223372036854775807) :
    Calls Tryd.prog 28 #[.int .i64 n] w fun e w' => e = .returned (.string (str (decL n))) ∧ Below w.heap.size w w' := by
  by_cases hn : n < 0
  · have Hv := Lib.hid (show decL n = 45 :: dig 10 n.natAbs by unfold decL; rw [if_pos hn])
    have hsz := dig_len 10 (by decide) 19 n.natAbs (by have e : (10 : Nat) ^ (19 + 1) = 100000000000000000000 := by decide
                                                       rw [e]; omega)
    have hsz' : (str (dig 10 n.natAbs)).size ≤ 20 := by rw [str_size]; exact hsz
    clear hsz
    go_enter Tryd.func28, Tryd.ntmps28
    have Hw := Lib.hid (show IntKind.u64.wrap (-IntKind.u64.wrap n) = -n by rw [IntKind.wrap_u64, IntKind.wrap_u64]; omega)
    go_wp2_with fail
    rw [Hw.out]
    refine (digits_any (-n) 10 _ (by omega) (by omega) (by decide) (by decide)).mono ?_
    rw [show dig (10 : Int).toNat (-n).toNat = dig 10 n.natAbs by rw [show (-n).toNat = n.natAbs by omega]; rfl]
    rintro e w1 ⟨rfl, hb1⟩
    go_wp2_with fail
    go_ret
    refine ⟨?_, hb1⟩
    rw [Hv.out]
    show Ending.returned (.string (str [45] ++ str _)) = _
    rw [str_append]
    rfl
  · have Hv := Lib.hid (show decL n = dig 10 n.toNat by unfold decL; rw [if_neg hn])
    go_enter Tryd.func28, Tryd.ntmps28
    go_wp2_with fail
    refine (digits_any n 10 _ (by omega) (by omega) (by decide) (by decide)).mono ?_
    rintro e w1 ⟨rfl, hb1⟩
    go_wp2_with fail
    go_ret
    exact ⟨by rw [Hv.out]; rfl, hb1⟩
end Go.Proofs.YtcjllikngfndhaaDoor

/- Numbers read from a text: in plain Lean. -/
namespace Go.Proofs.YtcjllikngfndhaaDoor

open Go.RowKit

theorem decL_inj {n m : Int} (h : decL n = decL m) : n = m := by
  unfold decL at h
  by_cases h1 : n < 0
  · rw [if_pos h1] at h
    by_cases h2 : m < 0
    · rw [if_pos h2] at h
      injection h with _ h
      have := dig_inj 10 (by omega) (by omega) h
      omega
    · rw [if_neg h2] at h
      have := dig_bytes 10 (by omega) (by omega) m.toNat 45 (by rw [← h]; simp)
      exact absurd this.1 (by decide)
  · rw [if_neg h1] at h
    by_cases h2 : m < 0
    · rw [if_pos h2] at h
      have := dig_bytes 10 (by omega) (by omega) n.toNat 45 (by rw [h]; simp)
      exact absurd this.1 (by decide)
    · rw [if_neg h2] at h
      have := dig_inj 10 (by omega) (by omega) h
      omega

/-- the number that a text tells as Dec tells it; none: it tells no int so. -/
def NumOk (s : ByteArray) : Option Int → Prop
  | some n => str (decL n) = s ∧ -9223372036854775808 ≤ n ∧ n ≤ 9223372036854775807
  | none => ∀ n : Int, -9223372036854775808 ≤ n → n ≤ 9223372036854775807 → str (decL n) ≠ s
theorem NumOk.one {s : ByteArray} : ∀ {r t : Option Int}, NumOk s r → NumOk s t → r = t
  | some n, some m, h, k => by rw [decL_inj (str_inj (h.1.trans k.1.symm))]
  | some n, none, h, k => absurd h.1 (k n h.2.1 h.2.2)
  | none, some m, h, k => absurd k.1 (h m k.2.1 k.2.2)
  | none, none, _, _ => rfl
def numRes : Option Int → Value
  | some n => .tuple #[.int .i64 n, .bool true]
  | none => .tuple #[.int .i64 0, .bool false]

theorem wrap_far (x : Int) : ∃ q : Int, IntKind.i64.wrap x = x + q * 18446744073709551616 ∧ -9223372036854775808 ≤ IntKind.i64.wrap x ∧ IntKind.i64.wrap x ≤ 9223372036854775807 := by
  rw [IntKind.wrap_i64]
  refine ⟨-((x + 9223372036854775808) / 18446744073709551616), ?_, ?_, ?_⟩ <;> omega
/-- n stands for the digits l, but for its overflow. -/
def NInv (l : List UInt8) (n : Int) : Prop := -9223372036854775808 ≤ n ∧ n ≤ 9223372036854775807 ∧ ∃ q : Int, n = -(valD 10 l : Int) + q * 18446744073709551616
theorem NInv.nil : NInv [] 0 := ⟨by omega, by omega, 0, by simp [valD]⟩
theorem NInv.step {l : List UInt8} {n : Int} (h : NInv l n) (c : UInt8) (h0 : 48 ≤ c.toNat) : NInv (l ++ [c]) (IntKind.i64.wrap (IntKind.i64.wrap (n * 10) - ((c.toNat : Int) - 48))) := by
  obtain ⟨-, -, q, hq⟩ := h
  obtain ⟨q1, e1, -, -⟩ := wrap_far (n * 10)
  obtain ⟨q2, e2, b1, b2⟩ := wrap_far (IntKind.i64.wrap (n * 10) - ((c.toNat : Int) - 48))
  refine ⟨b1, b2, 10 * q + q1 + q2, ?_⟩
  rw [e2, e1, valD_snoc]
  omega
theorem NInv.is {l : List UInt8} {n m : Int} (h : NInv l n) (hm : m = -(valD 10 l : Int)) (h0 : -9223372036854775808 ≤ m) (h1 : m ≤ 9223372036854775807) : n = m := by
  obtain ⟨b0, b1, q, hq⟩ := h
  omega

theorem decL_len20 (n : Int) (h0 : -9223372036854775808 ≤ n) (h1 : n ≤ 9223372036854775807) : (decL n).length ≤ 20 ∧ 0 < (decL n).length := by
  have e : (10 : Nat) ^ (18 + 1) = 10000000000000000000 := by decide
  unfold decL
  split
  · have := dig_len 10 (by decide) 18 n.natAbs (by rw [e]; omega)
    rw [List.length_cons]; omega
  · have := dig_len 10 (by decide) 18 n.toNat (by rw [e]; omega)
    have := dig_pos 10 n.toNat (by omega)
    omega
theorem none_size {s : ByteArray} (h : s.size < 1 ∨ 20 < s.size) : NumOk s none := fun n h0 h1 e => by
  have := decL_len20 n h0 h1
  rw [← e, str_size] at h
  omega
theorem list_of_str {l : List UInt8} {s : ByteArray} (h : str l = s) : s.data.toList = l := by subst h; simp [str]
/-- where a number's digits begin. -/
theorem none_bad {s : ByteArray} {a i : Nat} (hi : i < s.size) (hai : a ≤ i) (ha : (∃ h : 0 < s.size, s[0] = 45) → a = 1) (hb : s[i].toNat < 48 ∨ 57 < s[i].toNat) : NumOk s none := fun n h0 h1 e => by
  have hl := list_of_str e
  have hg : s.data.toList[i]? = some s[i] := by
    rw [Array.getElem?_toList]; exact Array.getElem?_eq_getElem hi
  rw [hl] at hg
  unfold decL at hl hg
  by_cases hn : n < 0
  · rw [if_pos hn] at hl hg
    have h45 : a = 1 := ha ⟨by omega, by
      have : s.data.toList[0]? = some s[0] := by rw [Array.getElem?_toList]; exact Array.getElem?_eq_getElem (by show 0 < s.size; omega)
      rw [hl] at this
      simpa using this.symm⟩
    obtain ⟨j, rfl⟩ : ∃ j, i = j + 1 := ⟨i - 1, by omega⟩
    rw [List.getElem?_cons_succ] at hg
    have := dig_bytes 10 (by omega) (by omega) n.natAbs _ (List.mem_of_getElem? hg)
    omega
  · rw [if_neg hn] at hg
    have := dig_bytes 10 (by omega) (by omega) n.toNat _ (List.mem_of_getElem? hg)
    omega

theorem head_of {s : ByteArray} {c : UInt8} {l : List UInt8} (h : s.data.toList = c :: l) : ∃ h : 0 < s.size, s[0] = c := by
  have hs : 0 < s.size := by have h2 : s.size = l.length + 1 := (by have := congrArg List.length h; simpa using this); omega
  refine ⟨hs, ?_⟩
  have : s.data.toList[0]? = some s[0] := by rw [Array.getElem?_toList]; exact Array.getElem?_eq_getElem hs
  rw [h] at this
  simpa using this.symm
theorem none_pos {s : ByteArray} {n : Int} (h45 : ¬ ∃ h : 0 < s.size, s[0] = 45) (hv : NInv s.data.toList n) (hne : str (decL (IntKind.i64.wrap (0 - n))) ≠ s) : NumOk s none := fun m h0 h1 e => by
  have hl := list_of_str e
  unfold decL at hl
  by_cases hm : m < 0
  · rw [if_pos hm] at hl
    exact h45 (head_of hl)
  · rw [if_neg hm] at hl
    rw [hl] at hv
    have hk := hv.is (m := -m) (by rw [valD_dig 10 (by omega) (by omega)]; omega) (by omega) (by omega)
    refine hne ?_
    rw [show IntKind.i64.wrap (0 - n) = m by rw [IntKind.wrap_i64]; omega]
    exact e
theorem none_neg {s : ByteArray} {n : Int} (h45 : ∃ h : 0 < s.size, s[0] = 45) (hv : NInv (s.data.toList.drop 1) n) (hne : str (decL n) ≠ s) : NumOk s none := fun m h0 h1 e => by
  have hl := list_of_str e
  unfold decL at hl
  by_cases hm : m < 0
  · rw [if_pos hm] at hl
    rw [hl, List.drop_succ_cons, List.drop_zero] at hv
    have hk := hv.is (m := m) (by rw [valD_dig 10 (by omega) (by omega)]; omega) (by omega) (by omega)
    rw [hk] at hne
    exact hne e
  · rw [if_neg hm] at hl
    obtain ⟨hs, h45⟩ := h45
    have hg : s.data.toList[0]? = some s[0] := by rw [Array.getElem?_toList]; exact Array.getElem?_eq_getElem hs
    rw [hl, h45] at hg
    have := dig_bytes 10 (by omega) (by omega) m.toNat 45 (List.mem_of_getElem? hg)
    exact absurd this.1 (by decide)
end Go.Proofs.YtcjllikngfndhaaDoor

/- DERIVED: THE SHELF's CONTRACTS AT THIS DUMP, IN PLAIN WORDS (tools/lay-plain.mjs out of 'YtcjllikngfndhaaDoorShelf.lean', which tools/lay-shelf.mjs wrote): THE SAME DECLARATIONS UNDER THE SAME NAMES: 'import', 'namespace', 'open', 'def', 'theorem' AND NOTHING ELSE: no command of the shelf's: FOR A HAND-IN. Each laying: the table of numbers ('.._ren') and one theorem, a field a fact of the dump's own or the kernel's comparison; each contract: ONE APPLICATION. -/
namespace Go.Proofs
open Go.Shelf
def Tryd.lays169_ren : Go.Shelf.Ren := ⟨fun | 169 => 31 | n => n, fun | 70 => 52 | 9 => 9 | 0 => 0 | 72 => 55 | 37 => 53 | 127 => 78 | 3 => 3 | 5 => 5 | n => n, fun | n => n⟩
theorem Tryd.lays169 : Go.Proofs.Lays.n169 Tryd.prog Tryd.lays169_ren := {
  mixed := by kernel_rfl
  f169 := Tryd.func31.trans (congrArg some (by kernel_rfl))
  t0 := Tryd.underlying0
  a0 := Tryd.isAgg0
  z0 := Tryd.sizeOf0
  v0 := Tryd.zeroValue0
  t3 := Tryd.underlying3
  a3 := Tryd.isAgg3
  z3 := Tryd.sizeOf3
  v3 := Tryd.zeroValue3
  t9 := Tryd.underlying9
  a9 := Tryd.isAgg9
  z9 := Tryd.sizeOf9
  v9 := Tryd.zeroValue9
  t37 := Tryd.underlying53
  a37 := Tryd.isAgg53
  z37 := Tryd.sizeOf53
  v37 := Tryd.zeroValue53
  t70 := Tryd.underlying52
  a70 := Tryd.isAgg52
  z70 := Tryd.sizeOf52
  v70 := Tryd.zeroValue52
  t72 := Tryd.underlying55
  a72 := Tryd.isAgg55
  z72 := Tryd.sizeOf55
  v72 := Tryd.zeroValue55
  t127 := Tryd.underlying78
  a127 := Tryd.isAgg78
  z127 := Tryd.sizeOf78
  v127 := Tryd.zeroValue78 }
theorem Tryd.Builder_Extra_169 : Builder.Extra Tryd.prog Tryd.lays169_ren := {
  sizeBuilder := by kernel_rfl
  liesBuilder := by kernel_rfl
  t5 := Tryd.underlying5
  a5 := Tryd.isAgg5
  z5 := Tryd.sizeOf5
  v5 := Tryd.zeroValue5
  infoByte := by kernel_rfl
  cellsByte := by kernel_rfl
  sizeByte := by kernel_rfl
  neB5 := by decide }
open Go.RowKit in
/-- (*strings.Builder).String: "String returns the accumulated string.": WHATEVER THE BUILDER HOLDS. (LAID: no walk: one application.) -/
theorem Tryd.Builder_String_any (B b : Nat) (l : List UInt8) (w : World) (h : Lib.IsBuilder 55 5 B b (Lib.byteCells l) w) (hBw : B ≤ w.heap.size) :
    Calls Tryd.prog 31 #[.pointer (some ⟨b, 0, none⟩)] w fun e w' => e = .returned (.string ⟨l.toArray⟩) ∧ Below B w w' := Any.Builder_String_any Tryd.lays169 Tryd.Builder_Extra_169 B b l w h hBw
def Tryd.lays162_ren : Go.Shelf.Ren := ⟨fun | 162 => 36 | 232 => 53 | 227 => 54 | 234 => 55 | 236 => 56 | 228 => 70 | 271 => 71 | 151 => 72 | 120 => 82 | 197 => 58 | 152 => 83 | 260 => 73 | 137 => 66 | 119 => 89 | 224 => 80 | 225 => 79 | 217 => 78 | 266 => 87 | n => n, fun | 9 => 9 | 4 => 4 | 3 => 3 | 5 => 5 | 117 => 84 | 116 => 83 | 0 => 0 | 124 => 87 | 21 => 21 | 105 => 88 | 46 => 77 | 119 => 104 | 139 => 107 | 138 => 106 | n => n, fun | 3 => 1 | 4 => 2 | n => n⟩
theorem Tryd.lays162 : Go.Proofs.Lays.n162 Tryd.prog Tryd.lays162_ren := {
  mixed := by kernel_rfl
  f119 := Tryd.func89.trans (congrArg some (by kernel_rfl))
  f120 := Tryd.func82.trans (congrArg some (by kernel_rfl))
  f137 := Tryd.func66.trans (congrArg some (by kernel_rfl))
  f151 := Tryd.func72.trans (congrArg some (by kernel_rfl))
  f152 := Tryd.func83.trans (congrArg some (by kernel_rfl))
  f162 := Tryd.func36.trans (congrArg some (by kernel_rfl))
  f197 := Tryd.func58.trans (congrArg some (by kernel_rfl))
  f217 := Tryd.func78.trans (congrArg some (by kernel_rfl))
  f224 := Tryd.func80.trans (congrArg some (by kernel_rfl))
  f225 := Tryd.func79.trans (congrArg some (by kernel_rfl))
  f227 := Tryd.func54.trans (congrArg some (by kernel_rfl))
  f228 := Tryd.func70.trans (congrArg some (by kernel_rfl))
  f232 := Tryd.func53.trans (congrArg some (by kernel_rfl))
  f234 := Tryd.func55.trans (congrArg some (by kernel_rfl))
  f236 := Tryd.func56.trans (congrArg some (by kernel_rfl))
  f260 := Tryd.func73.trans (congrArg some (by kernel_rfl))
  f266 := Tryd.func87.trans (congrArg some (by kernel_rfl))
  f271 := Tryd.func71.trans (congrArg some (by kernel_rfl))
  t0 := Tryd.underlying0
  a0 := Tryd.isAgg0
  z0 := Tryd.sizeOf0
  v0 := Tryd.zeroValue0
  t3 := Tryd.underlying3
  a3 := Tryd.isAgg3
  z3 := Tryd.sizeOf3
  v3 := Tryd.zeroValue3
  t4 := Tryd.underlying4
  a4 := Tryd.isAgg4
  z4 := Tryd.sizeOf4
  v4 := Tryd.zeroValue4
  t5 := Tryd.underlying5
  a5 := Tryd.isAgg5
  z5 := Tryd.sizeOf5
  v5 := Tryd.zeroValue5
  t9 := Tryd.underlying9
  a9 := Tryd.isAgg9
  z9 := Tryd.sizeOf9
  v9 := Tryd.zeroValue9
  t21 := Tryd.underlying21
  a21 := Tryd.isAgg21
  z21 := Tryd.sizeOf21
  v21 := Tryd.zeroValue21
  t46 := Tryd.underlying77
  a46 := Tryd.isAgg77
  z46 := Tryd.sizeOf77
  v46 := Tryd.zeroValue77
  t105 := Tryd.underlying88
  a105 := Tryd.isAgg88
  z105 := Tryd.sizeOf88
  v105 := Tryd.zeroValue88
  t116 := Tryd.underlying83
  a116 := Tryd.isAgg83
  z116 := Tryd.sizeOf83
  t117 := Tryd.underlying84
  a117 := Tryd.isAgg84
  z117 := Tryd.sizeOf84
  v117 := Tryd.zeroValue84
  t119 := Tryd.underlying104
  a119 := Tryd.isAgg104
  z119 := Tryd.sizeOf104
  t124 := Tryd.underlying87
  a124 := Tryd.isAgg87
  z124 := Tryd.sizeOf87
  v124 := Tryd.zeroValue87
  t138 := Tryd.underlying106
  a138 := Tryd.isAgg106
  z138 := Tryd.sizeOf106
  v138 := Tryd.zeroValue106
  t139 := Tryd.underlying107
  a139 := Tryd.isAgg107
  z139 := Tryd.sizeOf107
  v139 := Tryd.zeroValue107
  g3 := by kernel_rfl
  g4 := by kernel_rfl }
open Go.RowKit in
/-- strings.TrimRight: "TrimRight returns a slice of the string s, with all trailing Unicode code points contained in cutset removed.": AT A cutset OF ONE ASCII BYTE. The world is as it was. (LAID: no walk: one application.) -/
theorem Tryd.strings_TrimRight_one (s : ByteArray) (c : UInt8) (hc : c.toNat < 128) (w : World) (hs : s.size ≤ 9223372036854775807) :
    Calls Tryd.prog 36 #[.string s, .string ⟨#[c]⟩] w fun e w' => e = .returned (.string ⟨(Lib.trimRightB s.data.toList c).toArray⟩) ∧ w' = w := Any.strings_TrimRight_one Tryd.lays162 s c hc w hs
def Tryd.lays137_ren : Go.Shelf.Ren := ⟨fun | 137 => 66 | 217 => 78 | 266 => 87 | n => n, fun | 9 => 9 | 5 => 5 | 3 => 3 | n => n, fun | n => n⟩
theorem Tryd.lays137 : Go.Proofs.Lays.n137 Tryd.prog Tryd.lays137_ren := {
  mixed := by kernel_rfl
  f137 := Tryd.func66.trans (congrArg some (by kernel_rfl))
  f217 := Tryd.func78.trans (congrArg some (by kernel_rfl))
  f266 := Tryd.func87.trans (congrArg some (by kernel_rfl))
  t3 := Tryd.underlying3
  a3 := Tryd.isAgg3
  z3 := Tryd.sizeOf3
  v3 := Tryd.zeroValue3
  t5 := Tryd.underlying5
  a5 := Tryd.isAgg5
  z5 := Tryd.sizeOf5
  v5 := Tryd.zeroValue5
  t9 := Tryd.underlying9
  a9 := Tryd.isAgg9
  z9 := Tryd.sizeOf9
  v9 := Tryd.zeroValue9 }
open Go.RowKit in
/-- strings.IndexByte: "IndexByte returns the index of the first instance of c in s, or -1 if c is not present in s.": IT RETURNS 'Lib.indexByte s c'; the world is as it was. (LAID: no walk: one application.) -/
theorem Tryd.strings_IndexByte (s : ByteArray) (c : Int) (w : World) :
    Calls Tryd.prog 66 #[.string s, .int .u8 c] w fun e w' => e = .returned (.int .i64 (Lib.indexByte s.data.toList c.toNat.toUInt8)) ∧ w' = w := Any.strings_IndexByte Tryd.lays137 s c w
def Tryd.lays103_ren : Go.Shelf.Ren := ⟨fun | 103 => 62 | 210 => 76 | 206 => 86 | n => n, fun | 9 => 9 | 4 => 4 | 24 => 92 | 3 => 3 | n => n, fun | n => n⟩
theorem Tryd.lays103 : Go.Proofs.Lays.n103 Tryd.prog Tryd.lays103_ren := {
  mixed := by kernel_rfl
  f103 := Tryd.func62.trans (congrArg some (by kernel_rfl))
  f206 := Tryd.func86.trans (congrArg some (by kernel_rfl))
  f210 := Tryd.func76.trans (congrArg some (by kernel_rfl))
  t3 := Tryd.underlying3
  a3 := Tryd.isAgg3
  z3 := Tryd.sizeOf3
  v3 := Tryd.zeroValue3
  t4 := Tryd.underlying4
  a4 := Tryd.isAgg4
  z4 := Tryd.sizeOf4
  v4 := Tryd.zeroValue4
  t9 := Tryd.underlying9
  a9 := Tryd.isAgg9
  z9 := Tryd.sizeOf9
  v9 := Tryd.zeroValue9
  t24 := Tryd.underlying92
  a24 := Tryd.isAgg92
  z24 := Tryd.sizeOf92
  v24 := Tryd.zeroValue92 }
open Go.RowKit in
/-- strings.CutPrefix: "CutPrefix returns s without the provided leading prefix string and reports whether it found the prefix. If s doesn't start with prefix, CutPrefix returns s, false. If prefix is the empty string, CutPrefix returns s, true.": IT RETURNS '(Lib.trimPrefix s p, Lib.hasPrefix s p)'; the world is as it was. (LAID: no walk: one application.) -/
theorem Tryd.strings_CutPrefix (s p : ByteArray) (w : World) :
    Calls Tryd.prog 62 #[.string s, .string p] w fun e w' => e = .returned (.tuple #[.string ⟨(Lib.trimPrefix s.data.toList p.data.toList).toArray⟩, .bool (Lib.hasPrefix s.data.toList p.data.toList)]) ∧ w' = w := Any.strings_CutPrefix Tryd.lays103 s p w
def Tryd.lays143_ren : Go.Shelf.Ren := ⟨fun | 143 => 51 | 219 => 68 | 217 => 78 | 225 => 79 | 224 => 80 | 267 => 81 | 266 => 87 | 314 => 88 | n => n, fun | 9 => 9 | 3 => 3 | 4 => 4 | 5 => 5 | 46 => 77 | 146 => 109 | 51 => 108 | n => n, fun | 1 => 0 | n => n⟩
theorem Tryd.lays143 : Go.Proofs.Lays.n143 Tryd.prog Tryd.lays143_ren := {
  mixed := by kernel_rfl
  f143 := Tryd.func51.trans (congrArg some (by kernel_rfl))
  f217 := Tryd.func78.trans (congrArg some (by kernel_rfl))
  f219 := Tryd.func68.trans (congrArg some (by kernel_rfl))
  f224 := Tryd.func80.trans (congrArg some (by kernel_rfl))
  f225 := Tryd.func79.trans (congrArg some (by kernel_rfl))
  f266 := Tryd.func87.trans (congrArg some (by kernel_rfl))
  f267 := Tryd.func81.trans (congrArg some (by kernel_rfl))
  f314 := Tryd.func88.trans (congrArg some (by kernel_rfl))
  t3 := Tryd.underlying3
  a3 := Tryd.isAgg3
  z3 := Tryd.sizeOf3
  v3 := Tryd.zeroValue3
  t4 := Tryd.underlying4
  a4 := Tryd.isAgg4
  z4 := Tryd.sizeOf4
  v4 := Tryd.zeroValue4
  t5 := Tryd.underlying5
  a5 := Tryd.isAgg5
  z5 := Tryd.sizeOf5
  v5 := Tryd.zeroValue5
  t9 := Tryd.underlying9
  a9 := Tryd.isAgg9
  z9 := Tryd.sizeOf9
  v9 := Tryd.zeroValue9
  t46 := Tryd.underlying77
  a46 := Tryd.isAgg77
  z46 := Tryd.sizeOf77
  v46 := Tryd.zeroValue77
  t51 := Tryd.underlying108
  a51 := Tryd.isAgg108
  z51 := Tryd.sizeOf108
  v51 := Tryd.zeroValue108
  t146 := Tryd.underlying109
  a146 := Tryd.isAgg109
  z146 := Tryd.sizeOf109
  v146 := Tryd.zeroValue109
  g1 := by kernel_rfl }
open Go.RowKit Go.Lib in
/-- strings.Index: "Index returns the index of the first instance of substr in s, or -1 if substr is not present in s.": AT A substr OF ONE BYTE c: IT RETURNS 'Lib.indexByte s c'; the world is as it was. (LAID: no walk: one application.) -/
theorem Tryd.strings_Index_one (s : ByteArray) (c : UInt8) (w : World) :
    Calls Tryd.prog 51 #[.string s, .string ⟨#[c]⟩] w fun e w' => e = .returned (.int .i64 (Lib.indexByte s.data.toList c)) ∧ w' = w := Any.strings_Index_one Tryd.lays143 s c w
def Tryd.lays144_ren : Go.Shelf.Ren := ⟨fun | 144 => 34 | 143 => 51 | 219 => 68 | 217 => 78 | 225 => 79 | 224 => 80 | 267 => 81 | 266 => 87 | 314 => 88 | n => n, fun | 9 => 9 | 4 => 4 | 3 => 3 | 5 => 5 | 46 => 77 | 146 => 109 | 51 => 108 | n => n, fun | 1 => 0 | n => n⟩
theorem Tryd.lays144 : Go.Proofs.Lays.n144 Tryd.prog Tryd.lays144_ren := {
  mixed := by kernel_rfl
  f143 := Tryd.func51.trans (congrArg some (by kernel_rfl))
  f144 := Tryd.func34.trans (congrArg some (by kernel_rfl))
  f217 := Tryd.func78.trans (congrArg some (by kernel_rfl))
  f219 := Tryd.func68.trans (congrArg some (by kernel_rfl))
  f224 := Tryd.func80.trans (congrArg some (by kernel_rfl))
  f225 := Tryd.func79.trans (congrArg some (by kernel_rfl))
  f266 := Tryd.func87.trans (congrArg some (by kernel_rfl))
  f267 := Tryd.func81.trans (congrArg some (by kernel_rfl))
  f314 := Tryd.func88.trans (congrArg some (by kernel_rfl))
  t3 := Tryd.underlying3
  a3 := Tryd.isAgg3
  z3 := Tryd.sizeOf3
  v3 := Tryd.zeroValue3
  t4 := Tryd.underlying4
  a4 := Tryd.isAgg4
  z4 := Tryd.sizeOf4
  v4 := Tryd.zeroValue4
  t5 := Tryd.underlying5
  a5 := Tryd.isAgg5
  z5 := Tryd.sizeOf5
  v5 := Tryd.zeroValue5
  t9 := Tryd.underlying9
  a9 := Tryd.isAgg9
  z9 := Tryd.sizeOf9
  v9 := Tryd.zeroValue9
  t46 := Tryd.underlying77
  a46 := Tryd.isAgg77
  z46 := Tryd.sizeOf77
  v46 := Tryd.zeroValue77
  t51 := Tryd.underlying108
  a51 := Tryd.isAgg108
  z51 := Tryd.sizeOf108
  v51 := Tryd.zeroValue108
  t146 := Tryd.underlying109
  a146 := Tryd.isAgg109
  z146 := Tryd.sizeOf109
  v146 := Tryd.zeroValue109
  g1 := by kernel_rfl }
open Go.RowKit Go.Lib in
/-- strings.Contains: "Contains reports whether substr is within s.": AT A substr OF ONE BYTE c: IT RETURNS 'decide (0 ≤ Lib.indexByte s c)'; the world is as it was. (LAID: no walk: one application.) -/
theorem Tryd.strings_Contains_one (s : ByteArray) (c : UInt8) (w : World) :
    Calls Tryd.prog 34 #[.string s, .string ⟨#[c]⟩] w fun e w' => e = .returned (.bool (decide (0 ≤ Lib.indexByte s.data.toList c))) ∧ w' = w := Any.strings_Contains_one Tryd.lays144 s c w
def Tryd.lays149_ren : Go.Shelf.Ren := ⟨fun | 149 => 52 | 222 => 69 | n => n, fun | 9 => 9 | 5 => 5 | 3 => 3 | 4 => 4 | n => n, fun | n => n⟩
theorem Tryd.lays149 : Go.Proofs.Lays.n149 Tryd.prog Tryd.lays149_ren := {
  mixed := by kernel_rfl
  f149 := Tryd.func52.trans (congrArg some (by kernel_rfl))
  f222 := Tryd.func69.trans (congrArg some (by kernel_rfl))
  t3 := Tryd.underlying3
  a3 := Tryd.isAgg3
  z3 := Tryd.sizeOf3
  v3 := Tryd.zeroValue3
  t4 := Tryd.underlying4
  a4 := Tryd.isAgg4
  z4 := Tryd.sizeOf4
  v4 := Tryd.zeroValue4
  t5 := Tryd.underlying5
  a5 := Tryd.isAgg5
  z5 := Tryd.sizeOf5
  v5 := Tryd.zeroValue5
  t9 := Tryd.underlying9
  a9 := Tryd.isAgg9
  z9 := Tryd.sizeOf9
  v9 := Tryd.zeroValue9 }
open Go.RowKit Go.Lib in
/-- strings.LastIndexByte: "LastIndexByte returns the index of the last instance of c in s, or -1 if c is not present in s." (LAID: no walk: one application.) -/
theorem Tryd.strings_LastIndexByte (s : ByteArray) (c : Int) (hs : s.size < 4611686018427387904) (w : World) :
    Calls Tryd.prog 52 #[.string s, .int .u8 c] w fun e w' => e = .returned (.int .i64 (Lib.lastIndexByte s c)) ∧ w' = w := Any.strings_LastIndexByte Tryd.lays149 s c hs w
def Tryd.lays102_ren : Go.Shelf.Ren := ⟨fun | 102 => 23 | 209 => 40 | 207 => 59 | n => n, fun | 9 => 9 | 4 => 4 | 3 => 3 | n => n, fun | n => n⟩
theorem Tryd.lays102 : Go.Proofs.Lays.n102 Tryd.prog Tryd.lays102_ren := {
  mixed := by kernel_rfl
  f102 := Tryd.func23.trans (congrArg some (by kernel_rfl))
  f207 := Tryd.func59.trans (congrArg some (by kernel_rfl))
  f209 := Tryd.func40.trans (congrArg some (by kernel_rfl))
  t3 := Tryd.underlying3
  a3 := Tryd.isAgg3
  z3 := Tryd.sizeOf3
  v3 := Tryd.zeroValue3
  t4 := Tryd.underlying4
  a4 := Tryd.isAgg4
  z4 := Tryd.sizeOf4
  v4 := Tryd.zeroValue4
  t9 := Tryd.underlying9
  a9 := Tryd.isAgg9
  z9 := Tryd.sizeOf9
  v9 := Tryd.zeroValue9 }
open Go.RowKit Go.Lib in
/-- strings.TrimSuffix: "TrimSuffix returns s without the provided trailing suffix string. If s doesn't end with suffix, s is returned unchanged.": IT RETURNS 'Lib.trimSuffix s suffix'; the world is as it was. (LAID: no walk: one application.) -/
theorem Tryd.strings_TrimSuffix (s p : ByteArray) (w : World) (hs : s.size ≤ 9223372036854775807) :
    Calls Tryd.prog 23 #[.string s, .string p] w fun e w' => e = .returned (.string ⟨(Lib.trimSuffix s.data.toList p.data.toList).toArray⟩) ∧ w' = w := Any.strings_TrimSuffix Tryd.lays102 s p w hs
def Tryd.laysM146_ren : Go.Shelf.Ren := ⟨fun | 146 => 41 | 221 => 60 | 268 => 74 | 138 => 75 | 143 => 51 | 195 => 84 | 197 => 58 | 218 => 85 | 219 => 68 | 260 => 73 | 217 => 78 | 225 => 79 | 224 => 80 | 267 => 81 | 266 => 87 | 314 => 88 | n => n, fun | 9 => 9 | 31 => 49 | 3 => 3 | 4 => 4 | 0 => 0 | 105 => 88 | 21 => 21 | 5 => 5 | 46 => 77 | 119 => 104 | 139 => 107 | 138 => 106 | 146 => 109 | 51 => 108 | n => n, fun | 1 => 0 | 3 => 1 | 4 => 2 | n => n⟩
theorem Tryd.laysM146 : Go.Proofs.LaysM.n146 Tryd.prog Tryd.laysM146_ren := {
  mixed := by kernel_rfl
  f138 := Tryd.func75.trans (congrArg some (by kernel_rfl))
  f143 := Tryd.func51.trans (congrArg some (by kernel_rfl))
  f146 := Tryd.func41.trans (congrArg some (by kernel_rfl))
  f195 := Tryd.func84.trans (congrArg some (by kernel_rfl))
  f197 := Tryd.func58.trans (congrArg some (by kernel_rfl))
  f217 := Tryd.func78.trans (congrArg some (by kernel_rfl))
  f218 := Tryd.func85.trans (congrArg some (by kernel_rfl))
  f219 := Tryd.func68.trans (congrArg some (by kernel_rfl))
  f221 := Tryd.func60.trans (congrArg some (by kernel_rfl))
  f224 := Tryd.func80.trans (congrArg some (by kernel_rfl))
  f225 := Tryd.func79.trans (congrArg some (by kernel_rfl))
  f260 := Tryd.func73.trans (congrArg some (by kernel_rfl))
  f266 := Tryd.func87.trans (congrArg some (by kernel_rfl))
  f267 := Tryd.func81.trans (congrArg some (by kernel_rfl))
  f268 := Tryd.func74.trans (congrArg some (by kernel_rfl))
  f314 := Tryd.func88.trans (congrArg some (by kernel_rfl))
  t0 := Tryd.underlying0
  a0 := Tryd.isAgg0
  z0 := Tryd.sizeOf0
  v0 := Tryd.zeroValue0
  t3 := Tryd.underlying3
  a3 := Tryd.isAgg3
  z3 := Tryd.sizeOf3
  v3 := Tryd.zeroValue3
  t4 := Tryd.underlying4
  a4 := Tryd.isAgg4
  z4 := Tryd.sizeOf4
  v4 := Tryd.zeroValue4
  t5 := Tryd.underlying5
  a5 := Tryd.isAgg5
  z5 := Tryd.sizeOf5
  v5 := Tryd.zeroValue5
  t9 := Tryd.underlying9
  a9 := Tryd.isAgg9
  z9 := Tryd.sizeOf9
  v9 := Tryd.zeroValue9
  t21 := Tryd.underlying21
  a21 := Tryd.isAgg21
  z21 := Tryd.sizeOf21
  v21 := Tryd.zeroValue21
  t31 := Tryd.underlying49
  a31 := Tryd.isAgg49
  z31 := Tryd.sizeOf49
  v31 := Tryd.zeroValue49
  t46 := Tryd.underlying77
  a46 := Tryd.isAgg77
  z46 := Tryd.sizeOf77
  v46 := Tryd.zeroValue77
  t51 := Tryd.underlying108
  a51 := Tryd.isAgg108
  z51 := Tryd.sizeOf108
  v51 := Tryd.zeroValue108
  t105 := Tryd.underlying88
  a105 := Tryd.isAgg88
  z105 := Tryd.sizeOf88
  v105 := Tryd.zeroValue88
  t119 := Tryd.underlying104
  a119 := Tryd.isAgg104
  z119 := Tryd.sizeOf104
  t138 := Tryd.underlying106
  a138 := Tryd.isAgg106
  z138 := Tryd.sizeOf106
  v138 := Tryd.zeroValue106
  t139 := Tryd.underlying107
  a139 := Tryd.isAgg107
  z139 := Tryd.sizeOf107
  v139 := Tryd.zeroValue107
  t146 := Tryd.underlying109
  a146 := Tryd.isAgg109
  z146 := Tryd.sizeOf109
  v146 := Tryd.zeroValue109
  g1 := by kernel_rfl
  g3 := by kernel_rfl
  g4 := by kernel_rfl
  i0 := by kernel_rfl
  i3 := by kernel_rfl
  i4 := by kernel_rfl
  i5 := by kernel_rfl
  i9 := by kernel_rfl
  i21 := by kernel_rfl
  i31 := by kernel_rfl
  i46 := by kernel_rfl
  i51 := by kernel_rfl
  i105 := by kernel_rfl
  i138 := by kernel_rfl
  i139 := by kernel_rfl
  i146 := by kernel_rfl
  m1 := by kernel_rfl
  s1_3 := fun w h => Go.Proofs.cell_of_shapedOpen_int (zero := #[.int .i64 0]) (t := 3) h (of_decide_eq_true (by kernel_rfl)) (by kernel_rfl) rfl (by kernel_rfl) (by kernel_rfl) Tryd.underlying3
  m3 := by kernel_rfl
  m4 := by kernel_rfl }
open Go.RowKit Go.Lib in
/-- strings.Split, sep not empty. (LAID: no walk: one application.) -/
theorem Tryd.strings_Split_shaped (s sep : ByteArray) (w : World) (h : w.ShapedOpen Tryd.prog) (hs : s.size < 4294967281) (h1 : 1 ≤ sep.size) :
    Calls Tryd.prog 41 #[.string s, .string sep] w fun e w' =>
      e = .returned (.slice (some ⟨w.heap.size, 0, none⟩) (Lib.countB s sep + 1) (Lib.countB s sep + 1)) ∧ w' = w.alloc (.cells ((Lib.splitB sep 0 (Lib.countB s sep) s).map Value.string).toArray 9) := Any.strings_Split_shaped Tryd.laysM146 s sep w h hs h1
def Tryd.lays166_ren : Go.Shelf.Ren := ⟨fun | 166 => 27 | 240 => 46 | 276 => 65 | n => n, fun | 0 => 0 | 3 => 3 | 4 => 4 | 5 => 5 | 9 => 9 | 20 => 20 | 37 => 53 | 70 => 52 | 72 => 55 | 75 => 57 | 80 => 63 | 164 => 98 | n => n, fun n => n⟩
set_option maxRecDepth 100000 in
theorem Tryd.lays166 : Go.Proofs.Lays.n166 Tryd.prog Tryd.lays166_ren := {
  mixed := by kernel_rfl
  f166 := Tryd.func27.trans (congrArg some (by kernel_rfl))
  f240 := Tryd.func46.trans (congrArg some (by kernel_rfl))
  f276 := Tryd.func65.trans (congrArg some (by kernel_rfl))
  t0 := Tryd.underlying0
  a0 := Tryd.isAgg0
  z0 := Tryd.sizeOf0
  v0 := Tryd.zeroValue0
  t3 := Tryd.underlying3
  a3 := Tryd.isAgg3
  z3 := Tryd.sizeOf3
  v3 := Tryd.zeroValue3
  t4 := Tryd.underlying4
  a4 := Tryd.isAgg4
  z4 := Tryd.sizeOf4
  v4 := Tryd.zeroValue4
  t9 := Tryd.underlying9
  a9 := Tryd.isAgg9
  z9 := Tryd.sizeOf9
  v9 := Tryd.zeroValue9
  t20 := Tryd.underlying20
  a20 := Tryd.isAgg20
  z20 := Tryd.sizeOf20
  v20 := Tryd.zeroValue20
  t37 := Tryd.underlying53
  a37 := Tryd.isAgg53
  z37 := Tryd.sizeOf53
  v37 := Tryd.zeroValue53
  t70 := Tryd.underlying52
  a70 := Tryd.isAgg52
  z70 := Tryd.sizeOf52
  v70 := Tryd.zeroValue52
  t72 := Tryd.underlying55
  a72 := Tryd.isAgg55
  z72 := Tryd.sizeOf55
  v72 := Tryd.zeroValue55
  t75 := Tryd.underlying57
  a75 := Tryd.isAgg57
  z75 := Tryd.sizeOf57
  v75 := Tryd.zeroValue57
  t164 := Tryd.underlying98
  a164 := Tryd.isAgg98
  z164 := Tryd.sizeOf98
  v164 := Tryd.zeroValue98 }
def Tryd.lays167_ren : Go.Shelf.Ren := ⟨fun | 167 => 30 | 240 => 46 | 276 => 65 | n => n, fun | 0 => 0 | 4 => 4 | 5 => 5 | 9 => 9 | 20 => 20 | 37 => 53 | 70 => 52 | 72 => 55 | 75 => 57 | 80 => 63 | 164 => 98 | n => n, fun n => n⟩
set_option maxRecDepth 100000 in
theorem Tryd.lays167 : Go.Proofs.Lays.n167 Tryd.prog Tryd.lays167_ren := {
  mixed := by kernel_rfl
  f167 := Tryd.func30.trans (congrArg some (by kernel_rfl))
  f240 := Tryd.func46.trans (congrArg some (by kernel_rfl))
  f276 := Tryd.func65.trans (congrArg some (by kernel_rfl))
  t0 := Tryd.underlying0
  a0 := Tryd.isAgg0
  z0 := Tryd.sizeOf0
  v0 := Tryd.zeroValue0
  t4 := Tryd.underlying4
  a4 := Tryd.isAgg4
  z4 := Tryd.sizeOf4
  v4 := Tryd.zeroValue4
  t5 := Tryd.underlying5
  a5 := Tryd.isAgg5
  z5 := Tryd.sizeOf5
  v5 := Tryd.zeroValue5
  t9 := Tryd.underlying9
  a9 := Tryd.isAgg9
  z9 := Tryd.sizeOf9
  v9 := Tryd.zeroValue9
  t20 := Tryd.underlying20
  a20 := Tryd.isAgg20
  z20 := Tryd.sizeOf20
  v20 := Tryd.zeroValue20
  t37 := Tryd.underlying53
  a37 := Tryd.isAgg53
  z37 := Tryd.sizeOf53
  v37 := Tryd.zeroValue53
  t70 := Tryd.underlying52
  a70 := Tryd.isAgg52
  z70 := Tryd.sizeOf52
  v70 := Tryd.zeroValue52
  t72 := Tryd.underlying55
  a72 := Tryd.isAgg55
  z72 := Tryd.sizeOf55
  v72 := Tryd.zeroValue55
  t75 := Tryd.underlying57
  a75 := Tryd.isAgg57
  z75 := Tryd.sizeOf57
  v75 := Tryd.zeroValue57
  t164 := Tryd.underlying98
  a164 := Tryd.isAgg98
  z164 := Tryd.sizeOf98
  v164 := Tryd.zeroValue98 }
theorem Tryd.Builder_Extra_166 : Builder.Extra Tryd.prog Tryd.lays166_ren := {
  sizeBuilder := by kernel_rfl
  liesBuilder := by kernel_rfl
  t5 := Tryd.underlying5
  a5 := Tryd.isAgg5
  z5 := Tryd.sizeOf5
  v5 := Tryd.zeroValue5
  infoByte := by kernel_rfl
  cellsByte := by kernel_rfl
  sizeByte := by kernel_rfl
  neB5 := by decide }
theorem Tryd.Builder_Extra_167 : Builder.Extra Tryd.prog Tryd.lays167_ren := {
  sizeBuilder := by kernel_rfl
  liesBuilder := by kernel_rfl
  t5 := Tryd.underlying5
  a5 := Tryd.isAgg5
  z5 := Tryd.sizeOf5
  v5 := Tryd.zeroValue5
  infoByte := by kernel_rfl
  cellsByte := by kernel_rfl
  sizeByte := by kernel_rfl
  neB5 := by decide }
open Go.RowKit in
/-- (*strings.Builder).WriteByte: "WriteByte appends the byte c to b's buffer. The returned error is always nil.": UNDER Go's OWN LIMIT: the new length takes at most 2^47 bytes. (LAID: no walk: one application.) -/
theorem Tryd.Builder_WriteByte (B b : Nat) (bs : List Value) (c : Int) (w : World) (h : Lib.IsBuilder 55 5 B b bs w) (hlen : bs.length + 1 ≤ 140737488355328) (hBw : B ≤ w.heap.size) :
    Calls Tryd.prog 30 #[.pointer (some ⟨b, 0, none⟩), .int .u8 c] w fun e w' => e = .returned .nilIface ∧ (Lib.BuilderAt 55 5 B b (.pointer (some ⟨b, 0, none⟩)) (bs ++ [.int .u8 c]) w' ∧ Below B w w') := Any.Builder_WriteByte Tryd.lays167 Tryd.Builder_Extra_167 B b bs c w h hlen hBw
open Go.RowKit in
/-- (*strings.Builder).WriteString: "WriteString appends the contents of s to b's buffer. It returns the length of s and a nil error.": UNDER Go's OWN LIMIT: the new length takes at most 2^47 bytes. (LAID: no walk: one application.) -/
theorem Tryd.Builder_WriteString (B b : Nat) (bs : List Value) (s : ByteArray) (w : World) (h : Lib.IsBuilder 55 5 B b bs w) (hlen : bs.length + s.size ≤ 140737488355328) (hBw : B ≤ w.heap.size) :
    Calls Tryd.prog 27 #[.pointer (some ⟨b, 0, none⟩), .string s] w fun e w' => e = .returned (.tuple #[.int .i64 s.size, .nilIface]) ∧ (Lib.BuilderAt 55 5 B b (.pointer (some ⟨b, 0, none⟩)) (bs ++ Lib.strCells s) w' ∧ Below B w w') := Any.Builder_WriteString Tryd.lays166 Tryd.Builder_Extra_166 B b bs s w h hlen hBw
end Go.Proofs

/- Percent signs (layer 4), bytes: plain and digit, of the program and of the reference. -/
namespace Go.Proofs.YtcjllikngfndhaaDoor

open Go.RowKit

/-- does a byte stand for itself? -/
def plB (c : UInt8) : Bool := (97 ≤ c && c ≤ 122) || (65 ≤ c && c ≤ 90) || (48 ≤ c && c ≤ 57) || c == 45 || c == 46 || c == 95 || c == 126 || c == 47
/-- a digit's number to the base 16; -1: it is none. -/
def hexV (c : UInt8) : Int := if 48 ≤ c ∧ c ≤ 57 then c.toNat - 48 else if 97 ≤ c ∧ c ≤ 102 then c.toNat - 87 else if 65 ≤ c ∧ c ≤ 70 then c.toNat - 55 else -1

theorem u8_le (a b : UInt8) : a ≤ b ↔ a.toNat ≤ b.toNat := UInt8.le_iff_toNat_le
theorem u8_lt (c : UInt8) : c.toNat < 256 := UInt8.toNat_lt c
theorem u8_eq (a b : UInt8) : a = b ↔ a.toNat = b.toNat := UInt8.toNat_inj.symm

theorem plB_iff (c : UInt8) : plB c = true ↔ ((97 ≤ c.toNat ∧ c.toNat ≤ 122) ∨ (65 ≤ c.toNat ∧ c.toNat ≤ 90) ∨ (48 ≤ c.toNat ∧ c.toNat ≤ 57) ∨ c.toNat = 45 ∨ c.toNat = 46 ∨ c.toNat = 95 ∨ c.toNat = 126 ∨ c.toNat = 47) := by
  unfold plB
  simp only [Bool.or_eq_true, Bool.and_eq_true, decide_eq_true_eq, beq_iff_eq, u8_le, u8_eq]
  have e : ((97 : UInt8).toNat, (122 : UInt8).toNat, (65 : UInt8).toNat, (90 : UInt8).toNat, (48 : UInt8).toNat, (57 : UInt8).toNat, (45 : UInt8).toNat, (46 : UInt8).toNat, (95 : UInt8).toNat, (126 : UInt8).toNat, (47 : UInt8).toNat) = (97, 122, 65, 90, 48, 57, 45, 46, 95, 126, 47) := rfl
  simp only [Prod.mk.injEq] at e
  obtain ⟨e1, e2, e3, e4, e5, e6, e7, e8, e9, e10, e11⟩ := e
  rw [e1, e2, e3, e4, e5, e6, e7, e8, e9, e10, e11]
  omega

theorem ret_bool {a b : Bool} (h : a = b) : Ending.returned (.bool a) = .returned (.bool b) := by rw [h]
theorem ret_int64 {a b : Int} (h : a = b) : Ending.returned (.int .i64 a) = .returned (.int .i64 b) := by rw [h]

set_option maxHeartbeats 1000000 in
theorem rplain_any (c : UInt8) (w : World) :
    Calls Tryd.prog 67 #[.int .u8 c.toNat] w fun e w' => e = .returned (.bool (plB c)) ∧ w = w' := by
  have hc := u8_lt c
  have hp := Lib.hid (plB_iff c)
  generalize c.toNat = n at hp hc ⊢
  go_enter Tryd.func67, Tryd.ntmps67
  go_wp2_with fail
  all_goals
    go_ret
    refine ⟨ret_bool (Bool.eq_iff_iff.2 ?_), rfl⟩
    rw [hp.out]
    simp only [Bool.or_eq_true, decide_eq_true_eq, beq_iff_eq, true_iff]
    omega

theorem idx_pos (c : UInt8) : ∀ (l : List UInt8), 0 ≤ Lib.indexByte l c ↔ c ∈ l
  | [] => by simp [Lib.indexByte]
  | b :: l => by
    have ih := idx_pos c l
    have hg := Lib.indexByte_ge l c
    unfold Lib.indexByte
    by_cases h : b = c
    · subst h; simp
    · have h1 : (b == c) = false := by simpa using h
      have h2 : ¬ c = b := fun e => h e.symm
      rw [h1]
      by_cases hm : Lib.indexByte l c = -1
      · have : ¬ c ∈ l := by rw [← ih, hm]; omega
        simp [hm, h2, this]
      · have hm1 : (Lib.indexByte l c == -1) = false := by simpa using hm
        rw [hm1]
        have : c ∈ l := by rw [← ih]; omega
        simp [this]
        omega

theorem plain_call (c : UInt8) (w : World) :
    Calls Tryd.prog 66 #[.string ⟨#[45, 46, 95, 126, 47]⟩, .int .u8 c.toNat] w fun e w' => (∃ k : Int, e = .returned (.int .i64 k) ∧ (0 ≤ k ↔ (c.toNat = 45 ∨ c.toNat = 46 ∨ c.toNat = 95 ∨ c.toNat = 126 ∨ c.toNat = 47))) ∧ w = w' := by
  refine (Tryd.strings_IndexByte _ _ w).mono ?_
  rintro e w' ⟨rfl, rfl⟩
  refine ⟨⟨_, rfl, ?_⟩, rfl⟩
  rw [idx_pos]
  have : (c.toNat : Int).toNat.toUInt8 = c := by simp
  rw [this]
  simp only [List.mem_cons, List.not_mem_nil, or_false, u8_eq]
  exact Iff.rfl

set_option maxHeartbeats 1000000 in
theorem plain_any (c : UInt8) (w : World) :
    Calls Tryd.prog 48 #[.int .u8 c.toNat] w fun e w' => e = .returned (.bool (plB c)) ∧ w = w' := by
  have hc := u8_lt c
  have hp := Lib.hid (plB_iff c)
  have hcall := Lib.hid (plain_call c)
  generalize c.toNat = n at hp hc hcall ⊢
  go_enter Tryd.func48, Tryd.ntmps48
  go_wp2_with (go_at_call 66; refine (hcall.out _).mono ?_; rintro e w' ⟨⟨kk, rfl, hk⟩, rfl⟩; have HK := Lib.hid hk; clear hk)
  all_goals
    go_ret
    refine ⟨ret_bool (Bool.eq_iff_iff.2 ?_), rfl⟩
    rw [hp.out]
    (try have HK' := HK.out)
    simp only [Bool.or_eq_true, decide_eq_true_eq, true_iff]
    omega

set_option maxHeartbeats 1000000 in
theorem hexdigit_any (c : UInt8) (w : World) :
    Calls Tryd.prog 61 #[.int .u8 c.toNat] w fun e w' => e = .returned (.int .i64 (hexV c)) ∧ w = w' := by
  have hc := u8_lt c
  have hv := Lib.hid (show hexV c = if 48 ≤ c.toNat ∧ c.toNat ≤ 57 then (c.toNat : Int) - 48 else if 97 ≤ c.toNat ∧ c.toNat ≤ 102 then (c.toNat : Int) - 87 else if 65 ≤ c.toNat ∧ c.toNat ≤ 70 then (c.toNat : Int) - 55 else -1 from by
    unfold hexV
    simp only [u8_le]
    rfl)
  generalize c.toNat = n at hv hc ⊢
  go_enter Tryd.func61, Tryd.ntmps61
  go_wp2_with fail
  all_goals
    go_ret
    refine ⟨ret_int64 ?_, rfl⟩
    rw [hv.out]
    (repeat' split) <;> omega
end Go.Proofs.YtcjllikngfndhaaDoor

/- Percent signs: Encode, of the program (a Builder) and of the reference. -/
namespace Go.Proofs.YtcjllikngfndhaaDoor

open Go.RowKit

def hexU (k : Nat) : UInt8 := UInt8.ofNat (if k < 10 then 48 + k else 55 + k)
def encB (c : UInt8) : List UInt8 := if plB c then [c] else [37, hexU (c.toNat / 16), hexU (c.toNat % 16)]
/-- a text with percent signs. -/
def encL (l : List UInt8) : List UInt8 := l.flatMap encB
theorem encB_len (c : UInt8) : (encB c).length ≤ 3 := by unfold encB; split <;> simp
theorem encL_len : ∀ (l : List UInt8), (encL l).length ≤ 3 * l.length
  | [] => by simp [encL]
  | c :: l => by
    have h1 := encB_len c
    have h2 := encL_len l
    unfold encL at h2 ⊢
    rw [List.flatMap_cons, List.length_append, List.length_cons]
    omega
theorem encL_snoc (l : List UInt8) (c : UInt8) : encL (l ++ [c]) = encL l ++ encB c := by simp [encL]

/-- block b is a builder that holds l; its rows lie behind it. -/
def Bld (b : Nat) (l : List UInt8) (w : World) : Prop := Lib.IsBuilder 55 5 b b (Lib.byteCells l) w
theorem Bld.lt {b : Nat} {l : List UInt8} {w : World} (h : Bld b l w) : b < w.heap.size := by
  rcases h with h | h <;> exact h.lt
theorem Bld.new (w : World) : Bld w.heap.size [] (w.alloc (.cells #[.pointer none, .slice none 0 0] 55)) :=
  .inl ⟨Nat.le_refl _, .slice none 0 0, Blk.new w _ _, World.ownsRow_nil _ _ _ _, by simp [Value.ownBlock]⟩
theorem byteCells_len (l : List UInt8) : (Lib.byteCells l).length = l.length := by simp [Lib.byteCells]
theorem wb_any (b : Nat) (l : List UInt8) (c : UInt8) (w : World) (h : Bld b l w) (hl : l.length ≤ 1000000000) :
    Calls Tryd.prog 30 #[.pointer (some ⟨b, 0, none⟩), .int .u8 c.toNat] w fun e w' => e = .returned .nilIface ∧ Bld b (l ++ [c]) w' ∧ Below b w w' := by
  refine (Tryd.Builder_WriteByte b b _ _ w h (by rw [byteCells_len]; omega) (Nat.le_of_lt h.lt)).mono ?_
  rintro e w' ⟨rfl, h1, h2⟩
  refine ⟨rfl, .inr ?_, h2⟩
  simpa [Lib.byteCells] using h1
theorem ws_any (b : Nat) (l m : List UInt8) (w : World) (h : Bld b l w) (hl : l.length ≤ 1000000000) (hm : m.length ≤ 1000000000) :
    Calls Tryd.prog 27 #[.pointer (some ⟨b, 0, none⟩), .string (str m)] w fun e w' => e = .returned (.tuple #[.int .i64 m.length, .nilIface]) ∧ Bld b (l ++ m) w' ∧ Below b w w' := by
  refine (Tryd.Builder_WriteString b b _ _ w h (by rw [byteCells_len, str_size]; omega) (Nat.le_of_lt h.lt)).mono ?_
  rintro e w' ⟨rfl, h1, h2⟩
  refine ⟨by rw [str_size], .inr ?_, h2⟩
  simpa [Lib.byteCells, Lib.strCells, str] using h1
theorem ws_str (b : Nat) (l : List UInt8) (s : ByteArray) (w : World) (h : Bld b l w) (hl : l.length ≤ 1000000000) (hm : s.size ≤ 1000000000) :
    Calls Tryd.prog 27 #[.pointer (some ⟨b, 0, none⟩), .string s] w fun e w' => e = .returned (.tuple #[.int .i64 s.size, .nilIface]) ∧ Bld b (l ++ s.data.toList) w' ∧ Below b w w' := by
  have h1 := ws_any b l s.data.toList w h hl (by rw [show s.data.toList.length = s.size from Array.length_toList]; exact hm)
  rw [str_of, show s.data.toList.length = s.size from Array.length_toList] at h1
  exact h1
theorem bs_any (b : Nat) (l : List UInt8) (w : World) (h : Bld b l w) :
    Calls Tryd.prog 31 #[.pointer (some ⟨b, 0, none⟩)] w fun e w' => e = .returned (.string (str l)) ∧ Below b w w' :=
  Tryd.Builder_String_any b b l w h (Nat.le_of_lt h.lt)

theorem and15 (n : Nat) (h : n < 256) : bits BinOp.and IntKind.u8 (n : Int) 15 = (n : Int) % 16 := by
  have h1 := u8_and_nat n 15 h (by decide)
  rw [show ((15 : Nat) : Int) = 15 from rfl] at h1
  rw [h1, show n &&& 15 = n % 16 from Nat.and_two_pow_sub_one_eq_mod n 4]
  rfl

theorem hex_piece (k : Nat) (h : k < 16) : (ByteArray.mk #[48, 49, 50, 51, 52, 53, 54, 55, 56, 57, 65, 66, 67, 68, 69, 70]).extract k (k + 1) = str [hexU k] := by
  have key : ∀ k, k < 16 → ((ByteArray.mk #[48, 49, 50, 51, 52, 53, 54, 55, 56, 57, 65, 66, 67, 68, 69, 70]).extract k (k + 1)).data = (str [hexU k]).data := by decide +kernel
  have := key k h
  generalize (ByteArray.mk #[48, 49, 50, 51, 52, 53, 54, 55, 56, 57, 65, 66, 67, 68, 69, 70]).extract k (k + 1) = x at this
  obtain ⟨x⟩ := x
  simp only at this
  rw [this]

set_option maxRecDepth 100000 in
set_option maxHeartbeats 1000000 in
theorem encode_any (s : ByteArray) (w : World) (hs : s.size ≤ 100000) :
    Calls Tryd.prog 29 #[.string s] w fun e w' => e = .returned (.string (str (encL s.data.toList))) ∧ Below w.heap.size w w' := by
  go_enter Tryd.func29, Tryd.ntmps29
  go_wp2_with fail
  go_loopw [4, 5, 8] (fun t4 t5 t8 wr => ∃ k : Nat, k ≤ s.size ∧ t8 = .int .i64 k ∧ Bld w.heap.size (encL (s.data.toList.take k)) wr ∧ Below w.heap.size w wr) (fun _ _ t8 _ => s.size - (intOf t8).toNat)
  case atStart => exact ⟨0, Nat.zero_le _, rfl, Bld.new w, balloc (Below.refl _ _) _⟩
  case round =>
    obtain ⟨k, hk, rfl, hB, hW⟩ := hrel
    by_cases hlt : k < s.size
    · have HB := Lib.hid hB
      have hl1 := encL_len (s.data.toList.take k)
      have hl2 : (s.data.toList.take k).length ≤ k := List.length_take_le _ _
      have HL := Lib.hid (show (encL (s.data.toList.take k)).length ≤ 1000000000 by omega)
      have Hst := Lib.hid (show s.data.toList.take (k + 1) = s.data.toList.take k ++ [s[k]] by rw [List.take_succ_eq_append_getElem (by simpa using hlt)]; rfl)
      clear hl1 hl2 hB
      have hpl := Lib.hid (plain_any s[k])
      by_cases hp : plB s[k] = true
      · have Hp := Lib.hid hp
        go_wp2_with (first | (go_at_call 48; refine (hpl.out _).mono ?_; rintro e w1 ⟨rfl, rfl⟩) | (go_at_call 30; refine (wb_any _ _ _ _ HB.out HL.out).mono ?_; rintro e w1 ⟨rfl, hb1, hw1⟩))
        go_roundw
        case measure => simp [intOf]; omega
        case rel => exact ⟨k + 1, by omega, by go_num, by rw [Hst.out, encL_snoc, encB, if_pos Hp.out]; exact hb1, hW.trans (hw1.mono (Nat.le_refl _))⟩
      · have hp' : plB s[k] = false := by simpa using hp
        have Hp := Lib.hid hp'
        clear hp
        have hc := u8_lt s[k]
        have h16 : s[k].toNat / 16 < 16 := by omega
        have h17 : s[k].toNat % 16 < 16 := by omega
        have q1 : IntKind.u8.wrap ((s[k].toNat : Int) / 16 + 1) = (s[k].toNat : Int) / 16 + 1 := by simp [IntKind.wrap, IntKind.bits, IntKind.signed]; omega
        have q2 : (0 : Int) ≤ (s[k].toNat : Int) / 16 := by omega
        have q3 : (s[k].toNat : Int) / 16 ≤ (s[k].toNat : Int) / 16 + 1 := by omega
        have q4 : (s[k].toNat : Int) / 16 + 1 ≤ 16 := by omega
        have q5 : ((s[k].toNat : Int) / 16).toNat = s[k].toNat / 16 := by omega
        have q6 : ((s[k].toNat : Int) / 16 + 1).toNat = s[k].toNat / 16 + 1 := by omega
        have q7 : (0 : Int) ≤ (s[k].toNat : Int) / 16 + 1 := by omega
        have q8 : (s[k].toNat % 16 + 1) % 256 = s[k].toNat % 16 + 1 := by omega
        have q9 : s[k].toNat % 16 + 1 ≤ 16 := by omega
        have r1 : IntKind.u8.wrap ((s[k].toNat : Int) % 16 + 1) = (s[k].toNat : Int) % 16 + 1 := by simp [IntKind.wrap, IntKind.bits, IntKind.signed]; omega
        have r2 : (0 : Int) ≤ (s[k].toNat : Int) % 16 := by omega
        have r3 : (s[k].toNat : Int) % 16 ≤ (s[k].toNat : Int) % 16 + 1 := by omega
        have r4 : (s[k].toNat : Int) % 16 + 1 ≤ 16 := by omega
        have r5 : ((s[k].toNat : Int) % 16).toNat = s[k].toNat % 16 := by omega
        have r6 : ((s[k].toNat : Int) % 16 + 1).toNat = s[k].toNat % 16 + 1 := by omega
        have r7 : (0 : Int) ≤ (s[k].toNat : Int) % 16 + 1 := by omega
        have r8 : ((s[k].toNat : Int) % 16 + 1) % 256 = (s[k].toNat : Int) % 16 + 1 := by omega
        have hpa : (ByteArray.mk #[48, 49, 50, 51, 52, 53, 54, 55, 56, 57, 65, 66, 67, 68, 69, 70]).extract (s[k].toNat / 16) (s[k].toNat / 16 + 1) = ByteArray.mk #[hexU (s[k].toNat / 16)] := hex_piece _ h16
        have hpb : (ByteArray.mk #[48, 49, 50, 51, 52, 53, 54, 55, 56, 57, 65, 66, 67, 68, 69, 70]).extract (s[k].toNat % 16) (s[k].toNat % 16 + 1) = ByteArray.mk #[hexU (s[k].toNat % 16)] := hex_piece _ h17
        have hand := and15 _ hc
        have HE := Lib.hid (show (ByteArray.mk #[37] ++ ByteArray.mk #[hexU (s[k].toNat / 16)] ++ ByteArray.mk #[hexU (s[k].toNat % 16)]).data.toList = encB s[k] by rw [encB, if_neg (by rw [Hp.out]; decide)]; rfl)
        have HBd := Lib.hid (show Bld w.heap.size (encL (s.data.toList.take k)) wr.drew from HB.out)
        have HS := Lib.hid (show (ByteArray.mk #[37] ++ ByteArray.mk #[hexU (s[k].toNat / 16)] ++ ByteArray.mk #[hexU (s[k].toNat % 16)]).size ≤ 1000000000 by rw [ByteArray.size_append, ByteArray.size_append]; show 1 + 1 + 1 ≤ 1000000000; omega)
        clear hc h16 h17
        go_wp2_with (go_at_call 48; refine (hpl.out _).mono ?_; rintro e w1 ⟨rfl, rfl⟩)
        go_region_held3 (fun _ => True) (trivial) (first | (go_at_call 27; refine (ws_str _ _ _ _ HBd.out HL.out HS.out).mono ?_; rintro e w1 ⟨rfl, hb1, hw1⟩))
        go_wp2_with fail
        go_roundw
        case measure => simp [intOf]; omega
        case rel => exact ⟨k + 1, by omega, by go_num, by rw [Hst.out, encL_snoc, ← HE.out]; exact hb1, hW.trans ((Below.refl _ _).drew.trans (hw1.mono (Nat.le_refl _)))⟩
    · obtain rfl : k = s.size := by omega
      have HB := Lib.hid hB
      have Hst := Lib.hid (show s.data.toList.take s.size = s.data.toList by exact List.take_of_length_le (Nat.le_of_eq (Array.length_toList)))
      clear hB
      go_wp2_with (go_at_call 31; refine (bs_any _ _ _ HB.out).mono ?_; rintro e w1 ⟨rfl, hw1⟩)
      go_ret
      exact ⟨by rw [Hst.out]; rfl, hW.trans (hw1.mono (Nat.le_refl _))⟩
end Go.Proofs.YtcjllikngfndhaaDoor

/- Percent signs: Encode of the reference. -/
namespace Go.Proofs.YtcjllikngfndhaaDoor

open Go.RowKit

theorem ext1 (s : ByteArray) (k : Nat) (h : k < s.size) : s.extract k (k + 1) = str [s[k]] := by
  apply ba_ext
  have h1 : (s.extract k (k + 1)).data.toList = [s[k]] := by
    rw [ByteArray.data_extract, Array.toList_extract, List.extract_eq_take_drop]
    rw [show k + 1 - k = 1 by omega, List.drop_eq_getElem_cons (by simpa using h)]
    rfl
  generalize s.extract k (k + 1) = x at h1
  obtain ⟨⟨x⟩⟩ := x
  simp only at h1
  subst h1
  rfl
theorem take_step (s : ByteArray) (k : Nat) (h : k < s.size) : s.data.toList.take (k + 1) = s.data.toList.take k ++ [s[k]] := by
  rw [List.take_succ_eq_append_getElem (by simpa using h)]; rfl
theorem take_end (s : ByteArray) : s.data.toList.take s.size = s.data.toList := List.take_of_length_le (Nat.le_of_eq (Array.length_toList))

set_option maxRecDepth 100000 in
set_option maxHeartbeats 1000000 in
theorem rencode_any (s : ByteArray) (w : World) (hs : s.size ≤ 100000) :
    Calls Tryd.prog 50 #[.string s] w fun e w' => e = .returned (.string (str (encL s.data.toList))) ∧ Below w.heap.size w w' := by
  go_enter Tryd.func50, Tryd.ntmps50
  go_wp2_with fail
  go_loopw [4, 5, 6] (fun t4 t5 t6 wr => ∃ (k : Nat) (o : ByteArray), k ≤ s.size ∧ t5 = .int .i64 k ∧ t4 = .string o ∧ o = str (encL (s.data.toList.take k)) ∧ Below w.heap.size w wr) (fun _ t5 _ _ => s.size - (intOf t5).toNat)
  case atStart => exact ⟨0, _, Nat.zero_le _, rfl, rfl, rfl, Below.refl _ _⟩
  case round =>
    obtain ⟨k, o, hk, rfl, rfl, ho, hW⟩ := hrel
    have hos : o.size ≤ 300000 := by
      have hl1 := encL_len (s.data.toList.take k)
      have hl2 : (s.data.toList.take k).length ≤ k := List.length_take_le _ _
      rw [ho, str_size]; omega
    have Ho := Lib.hid ho
    clear ho
    by_cases hlt : k < s.size
    · have Hst := Lib.hid (take_step s k hlt)
      have hx := ext1 s k hlt
      have hpl := Lib.hid (rplain_any s[k])
      by_cases hp : plB s[k] = true
      · have Hp := Lib.hid hp
        have hxs : (str [s[k]]).size = 1 := rfl
        go_wp2_with (go_at_call 67; refine (hpl.out _).mono ?_; rintro e w1 ⟨rfl, rfl⟩)
        go_roundw
        case measure => simp [intOf]; omega
        case rel => exact ⟨k + 1, _, by omega, by go_num, rfl, by rw [Hst.out, encL_snoc, encB, if_pos Hp.out, Ho.out, str_append], hW⟩
      · have hp' : plB s[k] = false := by simpa using hp
        have Hp := Lib.hid hp'
        clear hp
        have hc := u8_lt s[k]
        have h16 : s[k].toNat / 16 < 16 := by omega
        have h17 : s[k].toNat % 16 < 16 := by omega
        have q1 : IntKind.i64.wrap ((s[k].toNat : Int) / 16 + 1) = (s[k].toNat : Int) / 16 + 1 := by simp [IntKind.wrap, IntKind.bits, IntKind.signed]; omega
        have q2 : (0 : Int) ≤ (s[k].toNat : Int) / 16 := by omega
        have q3 : (s[k].toNat : Int) / 16 ≤ (s[k].toNat : Int) / 16 + 1 := by omega
        have q4 : (s[k].toNat : Int) / 16 + 1 ≤ 16 := by omega
        have q5 : ((s[k].toNat : Int) / 16).toNat = s[k].toNat / 16 := by omega
        have q6 : ((s[k].toNat : Int) / 16 + 1).toNat = s[k].toNat / 16 + 1 := by omega
        have q7 : (0 : Int) ≤ (s[k].toNat : Int) / 16 + 1 := by omega
        have r1 : IntKind.i64.wrap ((s[k].toNat : Int) % 16 + 1) = (s[k].toNat : Int) % 16 + 1 := by simp [IntKind.wrap, IntKind.bits, IntKind.signed]; omega
        have r2 : (0 : Int) ≤ (s[k].toNat : Int) % 16 := by omega
        have r3 : (s[k].toNat : Int) % 16 ≤ (s[k].toNat : Int) % 16 + 1 := by omega
        have r4 : (s[k].toNat : Int) % 16 + 1 ≤ 16 := by omega
        have r5 : ((s[k].toNat : Int) % 16).toNat = s[k].toNat % 16 := by omega
        have r6 : ((s[k].toNat : Int) % 16 + 1).toNat = s[k].toNat % 16 + 1 := by omega
        have r7 : (0 : Int) ≤ (s[k].toNat : Int) % 16 + 1 := by omega
        have hpa : (ByteArray.mk #[48, 49, 50, 51, 52, 53, 54, 55, 56, 57, 65, 66, 67, 68, 69, 70]).extract (s[k].toNat / 16) (s[k].toNat / 16 + 1) = ByteArray.mk #[hexU (s[k].toNat / 16)] := hex_piece _ h16
        have hpb : (ByteArray.mk #[48, 49, 50, 51, 52, 53, 54, 55, 56, 57, 65, 66, 67, 68, 69, 70]).extract (s[k].toNat % 16) (s[k].toNat % 16 + 1) = ByteArray.mk #[hexU (s[k].toNat % 16)] := hex_piece _ h17
        have HE := Lib.hid (show o ++ ByteArray.mk #[37] ++ ByteArray.mk #[hexU (s[k].toNat / 16)] ++ ByteArray.mk #[hexU (s[k].toNat % 16)] = str (encL (s.data.toList.take (k + 1))) by
          rw [Hst.out, encL_snoc, encB, if_neg (by rw [Hp.out]; decide), Ho.out]
          show str _ ++ str [37] ++ str [_] ++ str [_] = _
          rw [str_append, str_append, str_append, List.append_assoc, List.append_assoc]
          rfl)
        have HS := Lib.hid (And.intro (show (o ++ ByteArray.mk #[37]).size = o.size + 1 by rw [ByteArray.size_append]; rfl) (show (o ++ ByteArray.mk #[37] ++ ByteArray.mk #[hexU (s[k].toNat / 16)]).size = o.size + 2 by rw [ByteArray.size_append, ByteArray.size_append]; rfl))
        have t1 : IntKind.i64.wrap ((s[k].toNat : Int) / 16) = (s[k].toNat : Int) / 16 := by simp [IntKind.wrap, IntKind.bits, IntKind.signed]; omega
        have t2 : IntKind.i64.wrap ((s[k].toNat : Int) % 16) = (s[k].toNat : Int) % 16 := by simp [IntKind.wrap, IntKind.bits, IntKind.signed]; omega
        have t3 : Int.tmod (s[k].toNat : Int) 16 = (s[k].toNat : Int) % 16 := Int.tmod_eq_emod_of_nonneg (by omega)
        have HN := Lib.hid (show (¬ 9223372036854775807 < o.size + 1) ∧ (¬ 9223372036854775807 < o.size + 1 + 1) ∧ (¬ 9223372036854775807 < o.size + 2) ∧ (¬ 9223372036854775807 < o.size + 1 + 1 + 1) ∧ (¬ 9223372036854775807 < o.size + 3) ∧ (¬ 9223372036854775807 < o.size + 2 + 1) by omega)
        clear hc h16 h17 hx
        go_wp2_with (go_at_call 67; refine (hpl.out _).mono ?_; rintro e w1 ⟨rfl, rfl⟩)
        obtain ⟨n1, n2, n3, n4, n5, n6⟩ := HN.out
        go_region_held3 (fun _ => True) (trivial) (fail)
        go_wp2_with fail
        go_roundw
        case measure => simp [intOf]; omega
        case rel => exact ⟨k + 1, _, by omega, by go_num, rfl, HE.out, hW.drew⟩
    · obtain rfl : k = s.size := by omega
      have Hst := Lib.hid (take_end s)
      go_wp2_with fail
      go_ret
      exact ⟨by rw [← Hst.out, ← Ho.out]; rfl, hW⟩
end Go.Proofs.YtcjllikngfndhaaDoor

/- ragpickerref01.Parse. -/
namespace Go.Proofs.YtcjllikngfndhaaDoor

open Go.RowKit

theorem str_bne1 {a b : ByteArray} (h : a ≠ b) : ¬ a.toList = b.toList := fun e => h (ba_ext e)
theorem str_bne2 {a b : ByteArray} (h : a = b) : a.toList = b.toList := by rw [h]

set_option maxRecDepth 100000 in
set_option maxHeartbeats 1000000 in
theorem rnum_any (s : ByteArray) (w : World) (hs : s.size ≤ 100000) :
    Calls Tryd.prog 45 #[.string s] w fun e w' => (∃ r, e = .returned (numRes r) ∧ NumOk s r) ∧ Below w.heap.size w w' := by
  by_cases hsz : s.size < 1 ∨ 20 < s.size
  · have HN := Lib.hid (none_size hsz)
    go_enter Tryd.func45, Tryd.ntmps45
    rcases hsz with h1 | h1
    · have h2 : (s.size : Int) < 1 := by omega
      go_wp2_with fail
      all_goals (go_ret2; exact ⟨⟨none, rfl, HN.out⟩, Below.refl _ _⟩)
    · have h2 : (20 : Int) < s.size := by omega
      go_wp2_with fail
      all_goals (go_ret2; exact ⟨⟨none, rfl, HN.out⟩, Below.refl _ _⟩)
  · have h1 : (1 : Int) ≤ s.size := by omega
    have h2 : (s.size : Int) ≤ 20 := by omega
    have h3 : 0 < s.size := by omega
    have HS := Lib.hid h3
    clear hsz
    by_cases h45 : s[0] = 45
    · have hc : ((s[0].toNat : Int) == 45) = true := by rw [h45]; rfl
      have H45 := Lib.hid (show ∃ h : 0 < s.size, s[0] = 45 from ⟨h3, h45⟩)
      clear h45
      go_enter Tryd.func45, Tryd.ntmps45
      go_wp2_with fail
      go_loopw [5, 6] (fun t5 t6 wr => ∃ (k : Nat) (n : Int), 1 ≤ k ∧ k ≤ s.size ∧ t6 = .int .i64 k ∧ t5 = .int .i64 n ∧ NInv ((s.data.toList.take k).drop 1) n ∧ w = wr) (fun _ t6 _ => s.size - (intOf t6).toNat)
      case atStart => exact ⟨1, 0, by omega, by have := HS.out; omega, rfl, rfl, by have e : (s.data.toList.take 1).drop 1 = [] := List.eq_nil_of_length_eq_zero (by rw [List.length_drop, List.length_take]; omega); rw [e]; exact NInv.nil, rfl⟩
      case round =>
        obtain ⟨k, n, hk1, hk, rfl, rfl, hv, rfl⟩ := hrel
        have HVv := Lib.hid hv
        have hn0 := hv.1
        have hn1 := hv.2.1
        clear hv
        by_cases hlt : k < s.size
        · have Hst := Lib.hid (take_step s k hlt)
          by_cases hlo : s[k].toNat < 48
          · have HN := Lib.hid (none_bad (a := 1) hlt (by omega) (fun _ => rfl) (.inl hlo))
            have hlo2 : (s[k].toNat : Int) < 48 := by omega
            clear hlo
            go_wp2_with fail
            go_ret2
            exact ⟨⟨none, rfl, HN.out⟩, Below.refl _ _⟩
          · by_cases hhi : 57 < s[k].toNat
            · have HN := Lib.hid (none_bad (a := 1) hlt (by omega) (fun _ => rfl) (.inr hhi))
              have hlo2 : ¬ (s[k].toNat : Int) < 48 := by omega
              have hhi2 : (57 : Int) < s[k].toNat := by omega
              clear hlo hhi
              go_wp2_with fail
              go_ret2
              exact ⟨⟨none, rfl, HN.out⟩, Below.refl _ _⟩
            · have hlo2 : ¬ (s[k].toNat : Int) < 48 := by omega
              have hhi2 : ¬ (57 : Int) < s[k].toNat := by omega
              have hw1 : IntKind.u8.wrap ((s[k].toNat : Int) - 48) = (s[k].toNat : Int) - 48 := by simp [IntKind.wrap, IntKind.bits, IntKind.signed]; omega
              have hw2 : IntKind.i64.wrap ((s[k].toNat : Int) - 48) = (s[k].toNat : Int) - 48 := by simp [IntKind.wrap, IntKind.bits, IntKind.signed]; omega
              have HStep := Lib.hid (HVv.out.step s[k] (by omega))
              have HD := Lib.hid (show (s.data.toList.take (k + 1)).drop 1 = (s.data.toList.take k).drop 1 ++ [s[k]] by rw [Hst.out, List.drop_append_of_le_length (by rw [List.length_take, show s.data.toList.length = s.size from Array.length_toList]; omega)])
              clear hlo hhi
              go_wp2_with fail
              go_roundw
              case measure => simp [intOf]; omega
              case rel => exact ⟨k + 1, _, by omega, by omega, by go_num, rfl, by rw [HD.out]; have h := HStep.out; simp only [IntKind.wrap_i64] at h; unfold wrap64; exact h, by first | rfl | trivial⟩
        · obtain rfl : k = s.size := by omega
          have hall := Lib.hid (take_end s)
          have HDn := Lib.hid (fun w => rdec_any n w hn0 hn1)
          have HV2 := Lib.hid (show NInv (s.data.toList.drop 1) n by have := HVv.out; rwa [hall.out] at this)
          by_cases he : str (decL n) = s
          · have HOK := Lib.hid (show NumOk s (some n) from ⟨he, hn0, hn1⟩)
            rw [he] at HDn
            clear he
            go_wp2_with (go_at_call 32; refine (HDn.out _).mono ?_; rintro e w1 ⟨rfl, hb1⟩)
            all_goals (go_ret2; first | exact ⟨⟨some n, rfl, HOK.out⟩, hb1⟩ | (exfalso; simp_all; done))
          · have HOK := Lib.hid (none_neg H45.out HV2.out he)
            have hb := str_bne1 he
            have hb2 := str_bne he
            clear he
            generalize str (decL n) = D at HDn hb hb2
            go_wp2_with (go_at_call 32; refine (HDn.out _).mono ?_; rintro e w1 ⟨rfl, hb1⟩)
            all_goals (go_ret2; exact ⟨⟨none, rfl, HOK.out⟩, hb1⟩)
    · have hc : ((s[0].toNat : Int) == 45) = false := by
        simp only [beq_eq_false_iff_ne, ne_eq]
        intro h
        exact h45 (by rw [u8_eq]; show s[0].toNat = 45; omega)
      have H45 := Lib.hid (show ¬ ∃ h : 0 < s.size, s[0] = 45 from fun ⟨_, h⟩ => h45 h)
      clear h45
      go_enter Tryd.func45, Tryd.ntmps45
      go_wp2_with fail
      go_loopw [5, 6] (fun t5 t6 wr => ∃ (k : Nat) (n : Int), 0 ≤ k ∧ k ≤ s.size ∧ t6 = .int .i64 k ∧ t5 = .int .i64 n ∧ NInv ((s.data.toList.take k).drop 0) n ∧ w = wr) (fun _ t6 _ => s.size - (intOf t6).toNat)
      case atStart => exact ⟨0, 0, by omega, by have := HS.out; omega, rfl, rfl, by have e : (s.data.toList.take 0).drop 0 = [] := List.eq_nil_of_length_eq_zero (by rw [List.length_drop, List.length_take]; omega); rw [e]; exact NInv.nil, rfl⟩
      case round =>
        obtain ⟨k, n, hk1, hk, rfl, rfl, hv, rfl⟩ := hrel
        have HVv := Lib.hid hv
        have hn0 := hv.1
        have hn1 := hv.2.1
        clear hv
        by_cases hlt : k < s.size
        · have Hst := Lib.hid (take_step s k hlt)
          by_cases hlo : s[k].toNat < 48
          · have HN := Lib.hid (none_bad (a := 0) hlt (by omega) (fun h => absurd h H45.out) (.inl hlo))
            have hlo2 : (s[k].toNat : Int) < 48 := by omega
            clear hlo
            go_wp2_with fail
            go_ret2
            exact ⟨⟨none, rfl, HN.out⟩, Below.refl _ _⟩
          · by_cases hhi : 57 < s[k].toNat
            · have HN := Lib.hid (none_bad (a := 0) hlt (by omega) (fun h => absurd h H45.out) (.inr hhi))
              have hlo2 : ¬ (s[k].toNat : Int) < 48 := by omega
              have hhi2 : (57 : Int) < s[k].toNat := by omega
              clear hlo hhi
              go_wp2_with fail
              go_ret2
              exact ⟨⟨none, rfl, HN.out⟩, Below.refl _ _⟩
            · have hlo2 : ¬ (s[k].toNat : Int) < 48 := by omega
              have hhi2 : ¬ (57 : Int) < s[k].toNat := by omega
              have hw1 : IntKind.u8.wrap ((s[k].toNat : Int) - 48) = (s[k].toNat : Int) - 48 := by simp [IntKind.wrap, IntKind.bits, IntKind.signed]; omega
              have hw2 : IntKind.i64.wrap ((s[k].toNat : Int) - 48) = (s[k].toNat : Int) - 48 := by simp [IntKind.wrap, IntKind.bits, IntKind.signed]; omega
              have HStep := Lib.hid (HVv.out.step s[k] (by omega))
              have HD := Lib.hid (show (s.data.toList.take (k + 1)).drop 0 = (s.data.toList.take k).drop 0 ++ [s[k]] by rw [Hst.out, List.drop_append_of_le_length (by rw [List.length_take, show s.data.toList.length = s.size from Array.length_toList]; omega)])
              clear hlo hhi
              go_wp2_with fail
              go_roundw
              case measure => simp [intOf]; omega
              case rel => exact ⟨k + 1, _, by omega, by omega, by go_num, rfl, by rw [HD.out]; have h := HStep.out; simp only [IntKind.wrap_i64] at h; unfold wrap64; exact h, by first | rfl | trivial⟩
        · obtain rfl : k = s.size := by omega
          have hall := Lib.hid (take_end s)
          have HM := Lib.hid (show wrap64 (-n) = IntKind.i64.wrap (0 - n) by rw [IntKind.wrap_i64]; unfold wrap64; omega)
          have hm0 : -9223372036854775808 ≤ wrap64 (-n) := by unfold wrap64; omega
          have hm1 : wrap64 (-n) ≤ 9223372036854775807 := by unfold wrap64; omega
          have HDn := Lib.hid (fun w => rdec_any (wrap64 (-n)) w hm0 hm1)
          have HV2 := Lib.hid (show NInv s.data.toList n by have := HVv.out; rwa [hall.out] at this)
          by_cases he : str (decL (wrap64 (-n))) = s
          · have HOK := Lib.hid (show NumOk s (some (wrap64 (-n))) from ⟨he, hm0, hm1⟩)
            rw [he] at HDn
            clear he
            go_wp2_with (go_at_call 32; refine (HDn.out _).mono ?_; rintro e w1 ⟨rfl, hb1⟩)
            all_goals (go_ret2; first | exact ⟨⟨some _, rfl, HOK.out⟩, hb1⟩ | (exfalso; simp_all; done))
          · have HOK := Lib.hid (none_pos H45.out HV2.out (by rw [← HM.out]; exact he))
            have hb := str_bne1 he
            have hb2 := str_bne he
            clear he
            generalize str (decL (wrap64 (-n))) = D at HDn hb hb2
            go_wp2_with (go_at_call 32; refine (HDn.out _).mono ?_; rintro e w1 ⟨rfl, hb1⟩)
            all_goals (go_ret2; exact ⟨⟨none, rfl, HOK.out⟩, hb1⟩)
end Go.Proofs.YtcjllikngfndhaaDoor

/- num.read: the number of digits to a base, up to a limit. -/
namespace Go.Proofs.YtcjllikngfndhaaDoor

open Go.RowKit

def digB (b : Nat) (c : UInt8) : Bool := decide (48 ≤ c.toNat ∧ c.toNat < 48 + b)
/-- the number of digits to the base b, if it is not above m. -/
def readP (b m : Nat) (l : List UInt8) : Option Nat := if l ≠ [] ∧ l.all (digB b) = true ∧ valD b l ≤ m then some (valD b l) else none
def readRes : Option Nat → Value
  | some n => .tuple #[.int .u64 n, .bool true]
  | none => .tuple #[.int .u64 0, .bool false]
theorem valD_mono (b : Nat) (hb : 1 ≤ b) (l m : List UInt8) : valD b l ≤ valD b (l ++ m) := by
  unfold valD
  rw [List.foldl_append]
  generalize l.foldl (fun a c => a * b + (c.toNat - 48)) 0 = n
  induction m generalizing n with
  | nil => simp
  | cons c m ih =>
    rw [List.foldl_cons]
    refine Nat.le_trans ?_ (ih _)
    have := Nat.le_mul_of_pos_right n hb
    omega
theorem readP_bad {b m : Nat} {s : ByteArray} {k : Nat} (hk : k < s.size) (h : digB b s[k] = false) : readP b m s.data.toList = none := by
  unfold readP
  rw [if_neg]
  rintro ⟨-, h2, -⟩
  rw [List.all_eq_true] at h2
  have := h2 s[k] (by rw [Array.mem_toList_iff]; exact Array.getElem_mem _)
  rw [h] at this
  cases this
theorem readP_great {b m : Nat} {s : ByteArray} {k : Nat} (hb : 1 ≤ b) (h : m < valD b (s.data.toList.take k)) : readP b m s.data.toList = none := by
  unfold readP
  rw [if_neg]
  rintro ⟨-, -, h3⟩
  have := valD_mono b hb (s.data.toList.take k) (s.data.toList.drop k)
  rw [List.take_append_drop] at this
  omega
theorem readP_ok {b m : Nat} {s : ByteArray} (h0 : s.size ≠ 0) (h1 : s.data.toList.all (digB b) = true) (h2 : valD b s.data.toList ≤ m) : readP b m s.data.toList = some (valD b s.data.toList) := by
  unfold readP
  rw [if_pos ⟨fun e => h0 (by have := congrArg List.length e; simpa using this), h1, h2⟩]
theorem readP_empty {b m : Nat} {s : ByteArray} (h0 : s.size = 0) : readP b m s.data.toList = none := by
  unfold readP
  rw [if_neg]
  rintro ⟨h, -⟩
  exact h (List.eq_nil_of_length_eq_zero (by rw [show s.data.toList.length = s.size from Array.length_toList]; exact h0))
theorem read_le {n d m b : Nat} (hb : 1 ≤ b) (hd : d ≤ m) (h : ¬ ((m : Int) - d) / b < n) : n * b + d ≤ m := by
  have h1 : (n : Int) ≤ ((m : Int) - d) / b := by omega
  rw [Int.le_ediv_iff_mul_le (by omega)] at h1
  have : ((n * b : Nat) : Int) = (n : Int) * b := by push_cast; rfl
  omega
theorem read_gt {n d m b : Nat} (hb : 1 ≤ b) (hd : d ≤ m) (h : ((m : Int) - d) / b < n) : m < n * b + d := by
  rw [Int.ediv_lt_iff_lt_mul (by omega)] at h
  have : ((n * b : Nat) : Int) = (n : Int) * b := by push_cast; rfl
  omega

set_option maxRecDepth 100000 in
set_option maxHeartbeats 1000000 in
theorem read_any (s : ByteArray) (b m : Nat) (w : World) (hs : s.size ≤ 100000) (hb0 : 2 ≤ b) (hb1 : b ≤ 10) (hm0 : 10 ≤ m) (hm : m ≤ 9223372036854775808) :
    Calls Tryd.prog 63 #[.string s, .int .u64 b, .int .u64 m] w fun e w' => e = .returned (readRes (readP b m s.data.toList)) ∧ Below w.heap.size w w' := by
  by_cases h0 : s.size = 0
  · have HN := Lib.hid (readP_empty (b := b) (m := m) h0)
    have he : s = ByteArray.empty := by
      cases s with | mk d => exact congrArg ByteArray.mk (Array.eq_empty_of_size_eq_zero h0)
    subst he
    clear h0
    go_enter Tryd.func63, Tryd.ntmps63
    go_wp2_with fail
    go_ret2
    exact ⟨by rw [HN.out]; rfl, Below.refl _ _⟩
  · have H0 := Lib.hid h0
    have h1 : s.toList.isEmpty = false := by
      rw [ByteArray.toList_eq]
      cases hh : s.data.toList with
      | nil => exact absurd (by have := congrArg List.length hh; simpa using this) h0
      | cons => rfl
    have h2 : s.toList ≠ [] := by intro e; rw [e] at h1; cases h1
    clear h0
    go_enter Tryd.func63, Tryd.ntmps63
    go_wp2_with fail
    go_loopw [8] (fun t8 wr => ∃ k : Nat, k ≤ s.size ∧ wr.heap[w.heap.size]? = some (.stringIter s k) ∧ t8 = .int .u64 (valD b (s.data.toList.take k) : Nat) ∧ (s.data.toList.take k).all (digB b) = true ∧ valD b (s.data.toList.take k) ≤ m ∧ Below w.heap.size w wr) (fun _ wr => s.size - wr.iterPos w.heap.size)
    case atStart => exact ⟨0, Nat.zero_le _, by have := World.iter_heap w s 0; simpa using this, by simp [valD], by simp, by simp [valD], (Below.refl _ _).alloc (Nat.le_refl _) _⟩
    case round =>
      obtain ⟨k, hk, hit, rfl, hall, hle, hW⟩ := hrel
      have HAll := Lib.hid hall
      have HW := Lib.hid hW
      have HP := Lib.hid (show wr.iterPos w.heap.size = k by simp [World.iterPos, hit])
      clear hall hW
      by_cases hlt : k < s.size
      · have hnx : ∀ ty, (Instr.next (.pointer (some ⟨w.heap.size, 0, none⟩)) true ty).run Tryd.prog wr = _ := fun ty => Lib.run_next_any_at wr w.heap.size s k ty hit hlt
        have Hst := Lib.hid (take_step s k hlt)
        have HG := Lib.hid (readP_great (b := b) (m := m) (s := s) (k := k + 1) (by omega))
        generalize hn : valD b (s.data.toList.take k) = n at hle
        have HNn := Lib.hid hn
        have HVs := Lib.hid (show valD b (s.data.toList.take (k + 1)) = n * b + (s[k].toNat - 48) by rw [Hst.out, valD_snoc, hn])
        clear hn
        have hn1 : n ≤ 9223372036854775808 := by omega
        by_cases hhi : 128 ≤ s[k].toNat
        · have HB := Lib.hid (readP_bad (b := b) (m := m) hlt (by unfold digB; exact decide_eq_false (by omega)))
          obtain ⟨hc0, hc1⟩ := decode_high s k hlt hhi
          have hc2 := decode_le s k
          generalize (Utf8.decode s k).1 = c at hnx hc0 hc2
          generalize (Utf8.decode s k).2 = wd at hnx
          have HB2 := Lib.hid (Lib.below_iterAt HW.out (k := w.heap.size) (Nat.le_refl _) s (k + wd))
          clear hhi hc1
          go_wp2_with fail
          go_ret2
          exact ⟨by rw [HB.out]; rfl, HB2.out⟩
        · have hasc := decode_ascii s k hlt (by omega)
          rw [hasc] at hnx
          have HB2 := Lib.hid (Lib.below_iterAt HW.out (k := w.heap.size) (Nat.le_refl _) s (k + 1))
          have HI2 := Lib.hid (Lib.iterAt_heap wr w.heap.size s k (k + 1) hit)
          have HBad := Lib.hid (fun h => readP_bad (b := b) (m := m) hlt h)
          have HD := Lib.hid (show digB b s[k] = decide (48 ≤ s[k].toNat ∧ s[k].toNat < 48 + b) from rfl)
          have hc256 : s[k].toNat < 256 := UInt8.toNat_lt _
          generalize s[k].toNat = c at hnx hhi HVs HD hc256
          clear hasc
          by_cases hlo : c < 48
          · have HB := Lib.hid (HBad.out (by rw [HD.out]; exact decide_eq_false (by omega)))
            have hlo2 : (c : Int) < 48 := by omega
            clear hlo hhi
            go_wp2_with fail
            go_ret2
            exact ⟨by rw [HB.out]; rfl, HB2.out⟩
          · by_cases hup : 48 + b ≤ c
            · have HB := Lib.hid (HBad.out (by rw [HD.out]; exact decide_eq_false (by omega)))
              have hlo2 : (48 : Int) ≤ c := by omega
              have hup2 : (b : Int) ≤ (c : Int) - 48 := by omega
              clear hlo hhi hup
              go_wp2_with fail
              go_ret2
              exact ⟨by rw [HB.out]; rfl, HB2.out⟩
            · obtain ⟨d, rfl⟩ : ∃ d, c = 48 + d := ⟨c - 48, by omega⟩
              have hd : d < b := by omega
              have hcd : ((48 + d : Nat) : Int) - 48 = d := by omega
              have hlo2 : (48 : Int) ≤ ((48 + d : Nat) : Int) := by omega
              have HDT := Lib.hid (show digB b s[k] = true by rw [HD.out]; exact decide_eq_true (by omega))
              clear hlo hhi hup HD
              have HLe := Lib.hid (fun h => read_le (n := n) (d := d) (m := m) (b := b) (by omega) (by omega) h)
              have HGt := Lib.hid (fun h => read_gt (n := n) (d := d) (m := m) (b := b) (by omega) (by omega) h)
              have hq : 0 ≤ ((m : Int) - d) / b := Int.ediv_nonneg (by omega) (by omega)
              have hd9 : d ≤ 9 := by omega
              have hnb := Lib.hid (show n * b ≤ n * 10 from Nat.mul_le_mul_left _ (by omega))
              have HC := Lib.hid (show ((n * b : Nat) : Int) = (n : Int) * b by push_cast; rfl)
              have HALL2 := Lib.hid (show (s.data.toList.take (k + 1)).all (digB b) = true by rw [Hst.out, List.all_append, HAll.out]; simp [HDT.out])
              go_wp2_with fail
              · have hg : ((m : Int) - d) / b < n := by
                  have := ‹_ ∨ _›
                  rcases this with h | h
                  · omega
                  · rw [show (48 : Int) + (d : Int) - 48 = d by omega] at h; exact h
                go_ret2
                exact ⟨by rw [HG.out (by rw [HVs.out]; have := HGt.out hg; omega)]; rfl, HB2.out⟩
              · have hg : ¬ ((m : Int) - d) / b < n := by
                  have := (‹_ ∧ _› : _ ∧ (n : Int) ≤ _).2
                  rw [show (48 : Int) + (d : Int) - 48 = d by omega] at this
                  omega
                have hnm := HLe.out hg
                go_roundw
                case rel => exact ⟨k + 1, by omega, HI2.out, by rw [HVs.out]; have := HC.out; congr 1; simp only [IntKind.wrap_u64]; omega, HALL2.out, by rw [HVs.out]; omega, HB2.out⟩
                case measure => rw [HP.out]; simp [World.iterPos, HI2.out]; omega
      · obtain rfl : k = s.size := by omega
        have Hst := Lib.hid (take_end s)
        have hnx : ∀ ty, (Instr.next (.pointer (some ⟨w.heap.size, 0, none⟩)) true ty).run Tryd.prog wr = _ := fun ty => Lib.run_next_end_at wr w.heap.size s s.size ty hit (by omega)
        go_wp2_with fail
        go_ret2
        rw [Hst.out] at HAll hle
        exact ⟨by rw [readP_ok H0.out HAll.out hle, Hst.out]; rfl, HW.out⟩
end Go.Proofs.YtcjllikngfndhaaDoor

/- What a law's frame wants beside the kit: all arguments read behind the call as they read before it, where nothing below the heap's old size has turned; integers in a struct or an array by value. No program in sight. -/
namespace Go.Proofs.YtcjllikngfndhaaDoor

open Go.RowKit Go.ChangeShapes Go.WideShapes Go.ChangeAt

section

variable {H : Type} {enc : TypeId × Value → H} {P : Program}

theorem trodAll_below (hl : laidOutB P = true) {W W' : World} (bel : Below W.heap.size W W') :
    ∀ (ts : List TypeId) (vs : List Value) (ds : List (DataW H)) (p : List MemPlace), (ts.all fun t => P.readableRec t && decide (t < P.types.size)) = true →
      DataW.TrodAll enc P W 0 (fun _ => true) true ts vs ds p → DataW.TrodAll enc P W' 0 (fun b => decide (b < W.heap.size)) true ts vs ds p
  | [], vs, ds, p, _, h => by
    obtain ⟨rfl, rfl, rfl⟩ := trodAll_nil h
    exact trodAll_mk0
  | t :: ts, vs, ds, p, hr, h => by
    obtain ⟨v, vs', d, ds', p1, p2, rfl, rfl, rfl, h1, h2⟩ := trodAll_cons h
    simp only [List.all_cons, Bool.and_eq_true, decide_eq_true_eq] at hr
    obtain ⟨⟨hr1, hr2⟩, hr3⟩ := hr
    have lt : ∀ x ∈ p1, x.block < W.heap.size := by obtain ⟨m, hm⟩ := h1; exact DataW.trod_lt m _ _ _ hm
    exact trodAll_cons_mk (Below.trod hl hr1 hr2 h1 bel lt) (trodAll_below hl bel ts vs' ds' p2 hr3 h2)
end

section

variable {P : Program} {w : World} {r : Reach} {base : Nat} {t : TypeId}

/-- an int's range. -/
def I64 (a : Int) : Prop := -9223372036854775808 ≤ a ∧ a ≤ 9223372036854775807
theorem cell_i64 {v : Value} (ht : P.underlying t = some (.int .i64)) (h : Cell.okWide P w r base t v) : ∃ a, v = .int .i64 a ∧ I64 a := by
  simp only [Cell.okWide, ht] at h
  cases v <;> simp [Cell.ok, ht] at h
  obtain ⟨rfl, h1, h2⟩ := h
  simp [IntKind.min, IntKind.max, IntKind.signed, IntKind.bits] at h1 h2
  exact ⟨_, rfl, by unfold I64; omega⟩
/-- a struct or an array of integers alone, by value. -/
theorem row_i64 {cs : Array Value} {ts : List TypeId} (h : Row.okWide P w r base t cs) (hts : P.cellTypes P.depth t = some ts) (hall : (ts.all fun u => match P.underlying u with | some (.int .i64) => true | _ => false) = true) (i : Nat) (v : Value) (hv : cs[i]? = some v) :
    ∃ a, v = .int .i64 a ∧ I64 a := by
  obtain ⟨ts', h1, -, h3⟩ := h
  rw [hts] at h1
  obtain rfl := Option.some.inj h1
  obtain ⟨u, hu, hc⟩ := h3 i v hv
  have hm : u ∈ ts := List.mem_of_getElem? hu
  have := List.all_eq_true.1 hall u hm
  split at this
  · rename_i e; exact cell_i64 e hc
  · cases this
theorem struct_ok {v : Value} {fs : Array Field} (ht : P.underlying t = some (.struct fs)) (h : Value.okWide P w r base t v) : ∃ cs, v = .agg cs ∧ cs.size = P.cellsOf t ∧ Row.okWide P w r base t cs := by
  simpa only [Value.okWide, ht] using h
theorem array_ok {v : Value} {n : Nat} {e : TypeId} (ht : P.underlying t = some (.array n e)) (h : Value.okWide P w r base t v) : ∃ cs, v = .agg cs ∧ cs.size = P.cellsOf t ∧ Row.okWide P w r base t cs := by
  simpa only [Value.okWide, ht] using h
theorem i64_of_wf {a : Int} (h : (Lit.int .i64 a).wf = true) : I64 a := by
  simp [Lit.wf, IntKind.min, IntKind.max, IntKind.signed, IntKind.bits] at h
  unfold I64; omega
end

end Go.Proofs.YtcjllikngfndhaaDoor
