/- Texts of the proof, part 1. -/
import Derived.WalkKit
import Derived.WalkSpells
import Derived.WalkLawsBesides
import Derived.Outline
import Derived.Deep.QuietTactic
import Derived.BigQuiet
import Derived.Handy
import Derived.Lib.Hide
import Derived.Deep.RegionHeld3
import Derived.StillTactics
set_option linter.unusedVariables false
set_option linter.unusedSimpArgs false
/- Small lemmas on worlds: a block that is known whole, kept by what is laid or called behind it; what a region that draws its order keeps. No program in sight. -/
namespace Go.Proofs.YtaojpbgaengdpaaGreat

open Go.RowKit

/-- block B is just these cells, free to write. -/
def Blk (w : World) (B : Nat) (vs : Array Value) (T : TypeId) : Prop := w.heap[B]? = some (.cells vs T (0, 0))

theorem Blk.lt {w : World} {B : Nat} {vs : Array Value} {T : TypeId} (h : Blk w B vs T) : B < w.heap.size := by
  unfold Blk at h
  exact (Array.getElem?_eq_some_iff.1 h).1
theorem Blk.new (w : World) (vs : Array Value) (T : TypeId) : Blk (w.alloc (.cells vs T)) w.heap.size vs T := by
  show (w.heap.push _)[w.heap.size]? = _
  simp
theorem Blk.old {w : World} {B : Nat} {vs : Array Value} {T : TypeId} (h : Blk w B vs T) (o : Obj) : Blk (w.alloc o) B vs T :=
  (Below.heap_alloc w o B h.lt).trans h
theorem Blk.keep {w w' : World} {B : Nat} {vs : Array Value} {T : TypeId} (h : Blk w B vs T) (hb : Below w.heap.size w w') : Blk w' B vs T :=
  (hb.block B h.lt).trans h
theorem Blk.keepB {w w' : World} {B N : Nat} {vs : Array Value} {T : TypeId} (h : Blk w B vs T) (hb : Below N w w') (hN : B < N) : Blk w' B vs T :=
  (hb.block B hN).trans h
theorem Blk.drew {w : World} {B : Nat} {vs : Array Value} {T : TypeId} (h : Blk w B vs T) : Blk w.drew B vs T := h
theorem Blk.cell {w : World} {B : Nat} {vs : Array Value} {T : TypeId} (h : Blk w B vs T) (i : Nat) : w.cell? ⟨B, i, none⟩ = vs[i]? := by
  unfold Blk at h
  simp [World.cell?, h]
theorem Blk.frozen {w : World} {B : Nat} {vs : Array Value} {T : TypeId} (h : Blk w B vs T) (i : Nat) : w.frozen? ⟨B, i, none⟩ = false := by
  unfold Blk at h
  simp [World.frozen?, h]
theorem Blk.facts {w : World} {B : Nat} {vs : Array Value} {T : TypeId} (h : Blk w B vs T) :
    (∀ i, w.cell? ⟨B, i, none⟩ = vs[i]?) ∧ (∀ i, w.frozen? ⟨B, i, none⟩ = false) ∧ B < w.heap.size := ⟨h.cell, h.frozen, h.lt⟩
theorem Blk.set {w : World} {B : Nat} {vs : Array Value} {T : TypeId} (h : Blk w B vs T) (i : Nat) (v : Value) : Blk (w.setCell ⟨B, i, none⟩ v) B (vs.setIfInBounds i v) T := by
  unfold Blk at h ⊢
  simp only [World.setCell, Array.getElem?_modify, if_true, h]
  simp
theorem Blk.setOther {w : World} {B : Nat} {vs : Array Value} {T : TypeId} (h : Blk w B vs T) (a : Addr) (v : Value) (hne : a.block ≠ B) : Blk (w.setCell a v) B vs T :=
  (Below.heap_setCell w a v B (fun e => hne e.symm)).trans h

theorem bnext {w W w2 : World} (h : Below w.heap.size w W) (h2 : Below W.heap.size W w2) : Below w.heap.size w w2 := h.trans (h2.mono h.size)
theorem balloc {w W : World} (h : Below w.heap.size w W) (o : Obj) : Below w.heap.size w (W.alloc o) := h.alloc h.size o

/-- What a region that draws its order keeps, from the world W where it begins. -/
theorem keepS_here (W : World) : (∀ b o, b < W.heap.size → W.drew.cell? ⟨b, o, none⟩ = W.cell? ⟨b, o, none⟩) ∧ Below W.heap.size W W.drew :=
  ⟨fun _ _ _ => rfl, (Below.refl _ _).drew⟩
theorem keepS_call {W p w4 : World} (h : (∀ b o, b < W.heap.size → p.cell? ⟨b, o, none⟩ = W.cell? ⟨b, o, none⟩) ∧ Below W.heap.size W p) (h2 : Below p.heap.size p w4) :
    (∀ b o, b < W.heap.size → w4.cell? ⟨b, o, none⟩ = W.cell? ⟨b, o, none⟩) ∧ Below W.heap.size W w4 :=
  ⟨fun b o hb => (h2.cell (p := ⟨b, o, none⟩) (Nat.lt_of_lt_of_le hb h.2.size)).trans (h.1 b o hb), bnext h.2 h2⟩
theorem keepS_alloc {W p : World} (h : (∀ b o, b < W.heap.size → p.cell? ⟨b, o, none⟩ = W.cell? ⟨b, o, none⟩) ∧ Below W.heap.size W p) (o : Obj) :
    (∀ b i, b < W.heap.size → (p.alloc o).cell? ⟨b, i, none⟩ = W.cell? ⟨b, i, none⟩) ∧ Below W.heap.size W (p.alloc o) :=
  keepS_call h ((Below.refl _ _).alloc (Nat.le_refl _) _)
theorem keepS_below {W p : World} (h : (∀ b o, b < W.heap.size → p.cell? ⟨b, o, none⟩ = W.cell? ⟨b, o, none⟩) ∧ Below W.heap.size W p) : Below W.heap.size W p := h.2
end Go.Proofs.YtaojpbgaengdpaaGreat

/- More small lemmas on worlds: what may have turned is named. No program in sight. -/
namespace Go.Proofs.YtaojpbgaengdpaaGreat

open Go.RowKit

/-- nothing that was there has turned but blocks in S. -/
structure Mod (S : Nat → Prop) (w w' : World) : Prop where
  os : w'.os = w.os
  tape : w'.tape = w.tape
  output : w'.output = w.output
  size : w.heap.size ≤ w'.heap.size
  block : ∀ k, k < w.heap.size → ¬ S k → w'.heap[k]? = w.heap[k]?
section

variable {S : Nat → Prop} {w w' w'' : World}

theorem Mod.refl (S : Nat → Prop) (w : World) : Mod S w w := ⟨rfl, rfl, rfl, Nat.le_refl _, fun _ _ _ => rfl⟩
theorem Mod.trans (h : Mod S w w') (k : Mod S w' w'') : Mod S w w'' :=
  ⟨k.os.trans h.os, k.tape.trans h.tape, k.output.trans h.output, Nat.le_trans h.size k.size, fun i hi hs => (k.block i (Nat.lt_of_lt_of_le hi h.size) hs).trans (h.block i hi hs)⟩
theorem Mod.of_below (h : Below w.heap.size w w') : Mod S w w' := ⟨h.os, h.tape, h.output, h.size, fun k hk _ => h.block k hk⟩
theorem Mod.below (h : Mod S w w') {B : Nat} (hS : ∀ k, S k → B ≤ k) (hB : B ≤ w.heap.size) : Below B w w' :=
  ⟨h.os, h.tape, h.output, h.size, fun k hk => h.block k (Nat.lt_of_lt_of_le hk hB) (fun hs => by have := hS k hs; omega)⟩
theorem Mod.mono {S' : Nat → Prop} (h : Mod S w w') (hS : ∀ k, S k → S' k) : Mod S' w w' := ⟨h.os, h.tape, h.output, h.size, fun k hk hs => h.block k hk (fun h' => hs (hS k h'))⟩
theorem Mod.alloc (h : Mod S w w') (o : Obj) : Mod S w (w'.alloc o) := h.trans (.of_below ((Below.refl _ _).alloc (Nat.le_refl _) o))
theorem Mod.drew (h : Mod S w w') : Mod S w w'.drew := ⟨h.os, h.tape, h.output, h.size, h.block⟩
theorem Mod.setCell (h : Mod S w w') {a : Addr} (ha : S a.block ∨ w.heap.size ≤ a.block) (v : Value) : Mod S w (w'.setCell a v) :=
  ⟨h.os, h.tape, h.output, by simpa [World.setCell] using h.size, fun k hk hs => by
    rw [Below.heap_setCell _ _ _ _ (by rintro rfl; rcases ha with ha | ha; exact hs ha; omega)]
    exact h.block k hk hs⟩
theorem Mod.setBlock (h : Mod S w w') {b : Nat} (hb : S b ∨ w.heap.size ≤ b) (o : Obj) : Mod S w (ChangeMaps.setBlock w' b o) :=
  ⟨h.os, h.tape, h.output, by simpa [ChangeMaps.setBlock] using h.size, fun k hk hs => by
    have : b ≠ k := by rintro rfl; rcases hb with hb | hb; exact hs hb; omega
    simp only [ChangeMaps.setBlock, Array.getElem?_setIfInBounds, if_neg this]
    exact h.block k hk hs⟩
theorem Blk.mod {B : Nat} {vs : Array Value} {T : TypeId} (h : Blk w B vs T) (hm : Mod S w w') (hs : ¬ S B) : Blk w' B vs T := (hm.block B h.lt hs).trans h
theorem Blk.setBlock {B b : Nat} {vs : Array Value} {T : TypeId} (h : Blk w B vs T) (hb : b ≠ B) (o : Obj) : Blk (ChangeMaps.setBlock w b o) B vs T := by
  unfold Blk at h ⊢
  simp only [ChangeMaps.setBlock, Array.getElem?_setIfInBounds, if_neg hb]
  exact h
end

theorem keepS_of {W p : World} (h : Below W.heap.size W p) : (∀ b o, b < W.heap.size → p.cell? ⟨b, o, none⟩ = W.cell? ⟨b, o, none⟩) ∧ Below W.heap.size W p :=
  ⟨fun b o hb => h.cell (p := ⟨b, o, none⟩) hb, h⟩
theorem keepS_realloc {W p : World} {O X : Obj} (h : (∀ b o, b < W.heap.size → (p.alloc O).cell? ⟨b, o, none⟩ = W.cell? ⟨b, o, none⟩) ∧ Below W.heap.size W (p.alloc O)) (hs : W.heap.size ≤ p.heap.size) :
    (∀ b o, b < W.heap.size → (p.alloc X).cell? ⟨b, o, none⟩ = W.cell? ⟨b, o, none⟩) ∧ Below W.heap.size W (p.alloc X) := by
  obtain ⟨-, h⟩ := h
  refine keepS_of ⟨h.os, h.tape, h.output, by rw [World.size_alloc]; omega, fun k hk => ?_⟩
  have := h.block k hk
  rw [Below.heap_alloc _ _ _ (by omega)] at this ⊢
  exact this
theorem keepS_set {W p : World} (h : (∀ b o, b < W.heap.size → p.cell? ⟨b, o, none⟩ = W.cell? ⟨b, o, none⟩) ∧ Below W.heap.size W p) {a : Addr} (ha : W.heap.size ≤ a.block) (v : Value) :
    (∀ b o, b < W.heap.size → (p.setCell a v).cell? ⟨b, o, none⟩ = W.cell? ⟨b, o, none⟩) ∧ Below W.heap.size W (p.setCell a v) :=
  keepS_of (h.2.setCell ha v)
theorem keepS_set4 {W p : World} {B : Nat} {v0 v1 v2 v3 : Value} (h : (∀ b o, b < W.heap.size → p.cell? ⟨b, o, none⟩ = W.cell? ⟨b, o, none⟩) ∧ Below W.heap.size W p) (hB : W.heap.size ≤ B) :
    (∀ b o, b < W.heap.size → ((((p.setCell ⟨B, 0, none⟩ v0).setCell ⟨B, 1, none⟩ v1).setCell ⟨B, 2, none⟩ v2).setCell ⟨B, 3, none⟩ v3).cell? ⟨b, o, none⟩ = W.cell? ⟨b, o, none⟩) ∧
      Below W.heap.size W ((((p.setCell ⟨B, 0, none⟩ v0).setCell ⟨B, 1, none⟩ v1).setCell ⟨B, 2, none⟩ v2).setCell ⟨B, 3, none⟩ v3) :=
  keepS_set (keepS_set (keepS_set (keepS_set h hB v0) hB v1) hB v2) hB v3
theorem keepS_here2 (W : World) : (∀ b o, b < W.heap.size → W.drew.drew.cell? ⟨b, o, none⟩ = W.cell? ⟨b, o, none⟩) ∧ Below W.heap.size W W.drew.drew := keepS_of ((Below.refl _ _).drew).drew
/-- a block laid just ahead of a call, and a draw. -/
theorem new_drew {w w4 : World} {vs : Array Value} {T : TypeId} (h : Below (w.alloc (.cells vs T)).drew.heap.size (w.alloc (.cells vs T)).drew w4) : Blk w4 w.heap.size vs T := ((Blk.new w vs T).drew).keep h
theorem new_keep {w w4 : World} {vs : Array Value} {T : TypeId} (h : Below (w.alloc (.cells vs T)).heap.size (w.alloc (.cells vs T)) w4) : Blk w4 w.heap.size vs T := (Blk.new w vs T).keep h
theorem keepS_allocD {W p : World} (h : (∀ b o, b < W.heap.size → p.drew.cell? ⟨b, o, none⟩ = W.cell? ⟨b, o, none⟩) ∧ Below W.heap.size W p.drew) (o : Obj) :
    (∀ b i, b < W.heap.size → (p.alloc o).drew.cell? ⟨b, i, none⟩ = W.cell? ⟨b, i, none⟩) ∧ Below W.heap.size W (p.alloc o).drew := keepS_alloc (p := p.drew) h o
theorem Blk.set4 {w : World} {B : Nat} {x0 x1 x2 x3 v0 v1 v2 v3 : Value} {T : TypeId} (h : Blk w B #[x0, x1, x2, x3] T) :
    Blk ((((w.setCell ⟨B, 0, none⟩ v0).setCell ⟨B, 1, none⟩ v1).setCell ⟨B, 2, none⟩ v2).setCell ⟨B, 3, none⟩ v3) B #[v0, v1, v2, v3] T := (((h.set 0 v0).set 1 v1).set 2 v2).set 3 v3
theorem below_set4 {N : Nat} {w0 w : World} {B : Nat} {v0 v1 v2 v3 : Value} (h : Below N w0 w) (hB : N ≤ B) :
    Below N w0 ((((w.setCell ⟨B, 0, none⟩ v0).setCell ⟨B, 1, none⟩ v1).setCell ⟨B, 2, none⟩ v2).setCell ⟨B, 3, none⟩ v3) := (((h.setCell hB v0).setCell hB v1).setCell hB v2).setCell hB v3
end Go.Proofs.YtaojpbgaengdpaaGreat

/- A map whose keys are ints, as a list in the order of its entries: what a look-up, a store, a delete and len do to it. No program in sight but the map's type. -/
namespace Go.Proofs.YtaojpbgaengdpaaGreat

open Go.RowKit

/-- one entry: key, value, when it came. -/
def ent (x : Int × Value × Nat) : MapEntry := { key := .int .i64 x.1, val := x.2.1, born := x.2.2 }
/-- block m is the map of these entries. -/
def MapB (w : World) (m : Nat) (l : List (Int × Value × Nat)) (clk : Nat) : Prop := w.heap[m]? = some (.map (l.map ent).toArray clk)
/-- each key once. -/
def KeysOnce (l : List (Int × Value × Nat)) : Prop := (l.map (·.1)).Nodup

def mapFind (l : List (Int × Value × Nat)) (k : Int) : Option Value := (l.find? (fun x => x.1 == k)).map (·.2.1)
def mapPut (l : List (Int × Value × Nat)) (k : Int) (v : Value) : List (Int × Value × Nat) := l.map fun x => if x.1 == k then (k, v, x.2.2) else x
def mapDel (l : List (Int × Value × Nat)) (k : Int) : List (Int × Value × Nat) := l.filter fun x => !(x.1 == k)

theorem MapB.lt {w : World} {m : Nat} {l : List (Int × Value × Nat)} {clk : Nat} (h : MapB w m l clk) : m < w.heap.size := by
  unfold MapB at h
  exact (Array.getElem?_eq_some_iff.1 h).1
theorem MapB.old {w : World} {m : Nat} {l : List (Int × Value × Nat)} {clk : Nat} (h : MapB w m l clk) (o : Obj) : MapB (w.alloc o) m l clk :=
  (Below.heap_alloc w o m h.lt).trans h
theorem MapB.keep {w w' : World} {m : Nat} {l : List (Int × Value × Nat)} {clk : Nat} (h : MapB w m l clk) (hb : Below w.heap.size w w') : MapB w' m l clk :=
  (hb.block m h.lt).trans h
theorem MapB.setOther {w : World} {m : Nat} {l : List (Int × Value × Nat)} {clk : Nat} (h : MapB w m l clk) (a : Addr) (v : Value) (hne : a.block ≠ m) : MapB (w.setCell a v) m l clk :=
  (Below.heap_setCell w a v m (fun e => hne e.symm)).trans h

theorem findNow_list (k : Int) : ∀ (l : List (Int × Value × Nat)) (i : Nat),
    Instr.findNow (.int .i64) (.int .i64 k) (l.map ent) i = some ((l.findIdx? (fun x => x.1 == k)).bind fun j => (l[j]?).map fun x => (i + j, x.2.1))
  | [], i => by simp [Instr.findNow]
  | x :: l, i => by
    have ih := findNow_list k l (i + 1)
    rw [List.map_cons]
    unfold Instr.findNow
    have hs : Instr.sameNow (.int .i64) (.int .i64 k) (ent x).key = some (k == x.1) := by simp [Instr.sameNow, ent]
    rw [hs]
    by_cases e : x.1 = k
    · subst e; simp [List.findIdx?_cons, ent]
    · have e1 : (k == x.1) = false := by simpa using fun h => e h.symm
      have e2 : (x.1 == k) = false := by simpa using e
      rw [e1]
      show Instr.findNow _ _ _ _ = _
      rw [ih]
      simp only [List.findIdx?_cons, e2, Bool.false_eq_true, if_false]
      congr 1
      cases List.findIdx? (fun x => x.1 == k) l with
      | none => rfl
      | some j => simp; congr 1; funext y; simp; omega

theorem mapFind_idx (k : Int) : ∀ (l : List (Int × Value × Nat)), mapFind l k = (l.findIdx? (fun x => x.1 == k)).bind fun j => (l[j]?).map fun x => x.2.1
  | [] => rfl
  | x :: l => by
    have ih := mapFind_idx k l
    unfold mapFind at ih ⊢
    by_cases e : (x.1 == k) = true
    · simp [List.findIdx?_cons, e]
    · simp only [Bool.not_eq_true] at e
      simp only [List.find?_cons, List.findIdx?_cons, e, Bool.false_eq_true, if_false, ih]
      cases List.findIdx? (fun x => x.1 == k) l <;> simp

theorem mapPut_idx (k : Int) (v : Value) : ∀ (l : List (Int × Value × Nat)) (j : Nat), KeysOnce l → l.findIdx? (fun x => x.1 == k) = some j →
    ((l.map ent).modify j fun e => { e with key := .int .i64 k, val := v }) = (mapPut l k v).map ent
  | [], j, _, h => by simp at h
  | x :: l, j, hn, h => by
    unfold KeysOnce at hn
    simp only [List.map_cons, List.nodup_cons] at hn
    obtain ⟨hx, hl⟩ := hn
    by_cases e : (x.1 == k) = true
    · simp only [List.findIdx?_cons, e, if_true, Option.some.injEq] at h
      subst h
      have e' : x.1 = k := by simpa using e
      have hrest : mapPut l k v = l := by
        unfold mapPut
        rw [List.map_congr_left (g := id)]
        · simp
        · intro y hy
          have : ¬ y.1 = k := fun h' => hx (by rw [e', ← h']; exact List.mem_map.2 ⟨y, hy, rfl⟩)
          simp [this]
      have hput : mapPut (x :: l) k v = (k, v, x.2.2) :: l := by
        unfold mapPut at hrest ⊢
        rw [List.map_cons, hrest, e, if_pos rfl]
      rw [hput]
      rfl
    · simp only [Bool.not_eq_true] at e
      simp only [List.findIdx?_cons, e, Bool.false_eq_true, if_false, Option.map_eq_some_iff] at h
      obtain ⟨j', hj, rfl⟩ := h
      have ih := mapPut_idx k v l j' hl hj
      unfold mapPut at ih ⊢
      simp only [List.map_cons, List.modify_succ_cons, e, Bool.false_eq_true, if_false]
      rw [ih]

theorem mapDel_idx (k : Int) : ∀ (l : List (Int × Value × Nat)) (j : Nat), KeysOnce l → l.findIdx? (fun x => x.1 == k) = some j →
    ((l.map ent).eraseIdx j) = (mapDel l k).map ent
  | [], j, _, h => by simp at h
  | x :: l, j, hn, h => by
    unfold KeysOnce at hn
    simp only [List.map_cons, List.nodup_cons] at hn
    obtain ⟨hx, hl⟩ := hn
    by_cases e : (x.1 == k) = true
    · simp only [List.findIdx?_cons, e, if_true, Option.some.injEq] at h
      subst h
      have e' : x.1 = k := by simpa using e
      have hrest : mapDel l k = l := by
        unfold mapDel
        rw [List.filter_eq_self]
        intro y hy
        have : ¬ y.1 = k := fun h' => hx (by rw [e', ← h']; exact List.mem_map.2 ⟨y, hy, rfl⟩)
        simp [this]
      unfold mapDel at hrest ⊢
      simp [e', hrest]
    · simp only [Bool.not_eq_true] at e
      simp only [List.findIdx?_cons, e, Bool.false_eq_true, if_false, Option.map_eq_some_iff] at h
      obtain ⟨j', hj, rfl⟩ := h
      have ih := mapDel_idx k l j' hl hj
      unfold mapDel at ih ⊢
      simp only [List.map_cons, List.eraseIdx_cons_succ, List.filter_cons, e, Bool.not_false, if_true]
      rw [ih]

theorem mapFind_none {l : List (Int × Value × Nat)} {k : Int} : mapFind l k = none ↔ l.findIdx? (fun x => x.1 == k) = none := by
  rw [List.findIdx?_eq_none_iff]
  unfold mapFind
  simp

theorem mapDel_none {l : List (Int × Value × Nat)} {k : Int} (h : mapFind l k = none) : mapDel l k = l := by
  have := mapFind_none.1 h
  rw [List.findIdx?_eq_none_iff] at this
  unfold mapDel
  rw [List.filter_eq_self]
  intro y hy
  simp [this y hy]

section

variable {P : Program} {K E T : TypeId} {w : World} {m : Nat} {l : List (Int × Value × Nat)} {clk : Nat}

theorem checkKey_int (b : Bool) (hk : P.underlying K = some (.int .i64)) (v : Value) (w : World) : (Instr.checkKey b 10000 K v).run P w = .ok () w := by
  unfold Instr.checkKey
  simp [run_underlying hk]

theorem run_findKey (hk : P.underlying K = some (.int .i64)) (k : Int) (w : World) : (Instr.findKey K (.int .i64 k) (l.map ent)).run P w = .ok ((l.findIdx? (fun x => x.1 == k)).bind fun j => (l[j]?).map fun x => (j, x.2.1)) w := by
  unfold Instr.findKey
  simp [run_underlying hk, findNow_list]

/-- 'v, ok := m[k]'. -/
theorem run_lookup_yes (ht : P.underlying T = some (.map K E)) (hk : P.underlying K = some (.int .i64)) (h : MapB w m l clk) {k : Int} {v : Value} (hf : mapFind l k = some v) :
    (Instr.lookup T (.map (some m)) (.int .i64 k) true).run P w = .ok (.tuple #[v, .bool true]) w := by
  rw [mapFind_idx] at hf
  unfold MapB at h
  simp only [Option.bind_eq_some_iff, Option.map_eq_some_iff] at hf
  obtain ⟨j, hj, x, hx, rfl⟩ := hf
  unfold Instr.lookup
  simp [run_underlying ht, getObj, Sem.run, h, checkKey_int _ hk, run_findKey hk, hj, hx]
theorem run_lookup_no (ht : P.underlying T = some (.map K E)) (hk : P.underlying K = some (.int .i64)) (h : MapB w m l clk) {k : Int} (hf : mapFind l k = none) {z : Value} (hz : (zeroValue E).run P w = .ok z w) :
    (Instr.lookup T (.map (some m)) (.int .i64 k) true).run P w = .ok (.tuple #[z, .bool false]) w := by
  rw [mapFind_none] at hf
  unfold MapB at h
  unfold Instr.lookup
  simp [run_underlying ht, getObj, Sem.run, h, checkKey_int _ hk, run_findKey hk, hf, hz]
theorem run_put (ht : P.underlying T = some (.map K E)) (hk : P.underlying K = some (.int .i64)) (h : MapB w m l clk) (hn : KeysOnce l) {k : Int} {v0 v : Value} (hf : mapFind l k = some v0) :
    (Instr.mapUpdate T (.map (some m)) (.int .i64 k) v).run P w = .ok () (ChangeMaps.setBlock w m (.map ((mapPut l k v).map ent).toArray clk)) := by
  rw [mapFind_idx] at hf
  unfold MapB at h
  simp only [Option.bind_eq_some_iff, Option.map_eq_some_iff] at hf
  obtain ⟨j, hj, x, hx, rfl⟩ := hf
  have hp := mapPut_idx k v l j hn hj
  have hxk : x.1 = k := by
    obtain ⟨hlt, h1, -⟩ := List.findIdx?_eq_some_iff_getElem.1 hj
    rw [List.getElem?_eq_getElem hlt] at hx
    obtain rfl := Option.some.inj hx
    simpa using h1
  have hst : (Instr.keyThatStays (ent x).key (.int .i64 k)).run P w = .ok (.int .i64 k) w := by
    subst hxk
    simp [Instr.keyThatStays, Instr.sameBits, ent]
  unfold Instr.mapUpdate
  simp [run_underlying ht, getObj, setObj, Sem.run, h, checkKey_int _ hk, run_findKey hk, hj, hx, hst, hp, ChangeMaps.setBlock]
theorem run_add (ht : P.underlying T = some (.map K E)) (hk : P.underlying K = some (.int .i64)) (h : MapB w m l clk) {k : Int} {v : Value} (hf : mapFind l k = none) :
    (Instr.mapUpdate T (.map (some m)) (.int .i64 k) v).run P w = .ok () (ChangeMaps.setBlock w m (.map ((l ++ [(k, v, clk)]).map ent).toArray (clk + 1))) := by
  rw [mapFind_none] at hf
  unfold MapB at h
  unfold Instr.mapUpdate
  simp [run_underlying ht, getObj, setObj, Sem.run, h, checkKey_int _ hk, run_findKey hk, hf, ChangeMaps.setBlock, ent]
theorem run_del (ht : P.underlying T = some (.map K E)) (hk : P.underlying K = some (.int .i64)) (h : MapB w m l clk) (hn : KeysOnce l) (ty : TypeId) (k : Int) :
    (Builtin.delete_ #[T, K] ty #[.map (some m), .int .i64 k]).run P w = .ok (.tuple #[]) (ChangeMaps.setBlock w m (.map ((mapDel l k).map ent).toArray clk)) := by
  unfold MapB at h
  cases hj : l.findIdx? (fun x => x.1 == k) with
  | none =>
    have hd := mapDel_none (mapFind_none.2 hj)
    unfold Builtin.delete_
    simp [run_underlying ht, getObj, setObj, Sem.run, h, checkKey_int _ hk, run_findKey hk, hj, hd, ChangeMaps.setBlock]
  | some j =>
    have hd := mapDel_idx k l j hn hj
    have hlt := (List.findIdx?_eq_some_iff_getElem.1 hj).1
    unfold Builtin.delete_
    simp [run_underlying ht, getObj, setObj, Sem.run, h, checkKey_int _ hk, run_findKey hk, hj, hlt, ChangeMaps.setBlock]
    rw [hd]
theorem run_len (ht : P.underlying T = some (.map K E)) (h : MapB w m l clk) (ty : TypeId) :
    (Builtin.len_ #[T] ty #[.map (some m)]).run P w = .ok (.int .i64 l.length) w := by
  unfold MapB at h
  unfold Builtin.len_
  simp [run_underlying ht, getObj, Sem.run, h, goInt]

theorem MapB.set (h : MapB w m l clk) (l' : List (Int × Value × Nat)) (clk' : Nat) :
    MapB (ChangeMaps.setBlock w m (.map (l'.map ent).toArray clk')) m l' clk' ∧ (∀ B vs T, Blk w B vs T → Blk (ChangeMaps.setBlock w m (.map (l'.map ent).toArray clk')) B vs T) ∧
      Mod (fun k => k = m) w (ChangeMaps.setBlock w m (.map (l'.map ent).toArray clk')) := by
  have hlt := h.lt
  refine ⟨?_, ?_, (Mod.refl (fun k => k = m) w).setBlock (b := m) (.inl rfl) _⟩
  · unfold MapB
    simp [ChangeMaps.setBlock, hlt]
  · intro B vs T hB
    refine hB.setBlock ?_ _
    rintro rfl
    unfold Blk at hB
    unfold MapB at h
    rw [h] at hB
    cases hB

theorem step_put (ht : P.underlying T = some (.map K E)) (hk : P.underlying K = some (.int .i64)) (h : MapB w m l clk) (hn : KeysOnce l) {k : Int} {v0 : Value} (v : Value) (hf : mapFind l k = some v0) :
    ∃ W, (Instr.mapUpdate T (.map (some m)) (.int .i64 k) v).run P w = .ok () W ∧ MapB W m (mapPut l k v) clk ∧ (∀ B vs T, Blk w B vs T → Blk W B vs T) ∧ Mod (fun k => k = m) w W :=
  ⟨_, run_put ht hk h hn hf, h.set _ _⟩
theorem step_add (ht : P.underlying T = some (.map K E)) (hk : P.underlying K = some (.int .i64)) (h : MapB w m l clk) {k : Int} (v : Value) (hf : mapFind l k = none) :
    ∃ W, (Instr.mapUpdate T (.map (some m)) (.int .i64 k) v).run P w = .ok () W ∧ MapB W m (l ++ [(k, v, clk)]) (clk + 1) ∧ (∀ B vs T, Blk w B vs T → Blk W B vs T) ∧ Mod (fun k => k = m) w W :=
  ⟨_, run_add ht hk h hf, h.set _ _⟩
theorem step_del (ht : P.underlying T = some (.map K E)) (hk : P.underlying K = some (.int .i64)) (h : MapB w m l clk) (hn : KeysOnce l) (ty : TypeId) (k : Int) :
    ∃ W, (Builtin.delete_ #[T, K] ty #[.map (some m), .int .i64 k]).run P w = .ok (.tuple #[]) W ∧ MapB W m (mapDel l k) clk ∧ (∀ B vs T, Blk w B vs T → Blk W B vs T) ∧ Mod (fun k => k = m) w W :=
  ⟨_, run_del ht hk h hn ty k, h.set _ _⟩
end

end Go.Proofs.YtaojpbgaengdpaaGreat
