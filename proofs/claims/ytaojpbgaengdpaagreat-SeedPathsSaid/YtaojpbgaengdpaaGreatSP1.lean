/- Texts of the proof, part 1. -/
import Derived.WalkKit
import Derived.WalkSpells
import Derived.WalkLawsBesides
import Derived.Outline
import Derived.Deep.QuietTactic
import Derived.BigQuiet
import Derived.Handy
import Derived.Lib.Hide
import Derived.Deep.RegionHeld3
import Derived.StillTactics
set_option linter.unusedVariables false
set_option linter.unusedSimpArgs false
/- Small lemmas on worlds: a block that is known whole, kept by what is laid or called behind it; what a region that draws its order keeps. No program in sight. -/
namespace Go.Proofs.YtaojpbgaengdpaaGreat

open Go.RowKit

/-- block B is just these cells, free to write. -/
def Blk (w : World) (B : Nat) (vs : Array Value) (T : TypeId) : Prop := w.heap[B]? = some (.cells vs T (0, 0))

theorem Blk.lt {w : World} {B : Nat} {vs : Array Value} {T : TypeId} (h : Blk w B vs T) : B < w.heap.size := by
  unfold Blk at h
  exact (Array.getElem?_eq_some_iff.1 h).1
theorem Blk.new (w : World) (vs : Array Value) (T : TypeId) : Blk (w.alloc (.cells vs T)) w.heap.size vs T := by
  show (w.heap.push _)[w.heap.size]? = _
  simp
theorem Blk.old {w : World} {B : Nat} {vs : Array Value} {T : TypeId} (h : Blk w B vs T) (o : Obj) : Blk (w.alloc o) B vs T :=
  (Below.heap_alloc w o B h.lt).trans h
theorem Blk.keep {w w' : World} {B : Nat} {vs : Array Value} {T : TypeId} (h : Blk w B vs T) (hb : Below w.heap.size w w') : Blk w' B vs T :=
  (hb.block B h.lt).trans h
theorem Blk.keepB {w w' : World} {B N : Nat} {vs : Array Value} {T : TypeId} (h : Blk w B vs T) (hb : Below N w w') (hN : B < N) : Blk w' B vs T :=
  (hb.block B hN).trans h
theorem Blk.drew {w : World} {B : Nat} {vs : Array Value} {T : TypeId} (h : Blk w B vs T) : Blk w.drew B vs T := h
theorem Blk.cell {w : World} {B : Nat} {vs : Array Value} {T : TypeId} (h : Blk w B vs T) (i : Nat) : w.cell? ⟨B, i, none⟩ = vs[i]? := by
  unfold Blk at h
  simp [World.cell?, h]
theorem Blk.frozen {w : World} {B : Nat} {vs : Array Value} {T : TypeId} (h : Blk w B vs T) (i : Nat) : w.frozen? ⟨B, i, none⟩ = false := by
  unfold Blk at h
  simp [World.frozen?, h]
theorem Blk.facts {w : World} {B : Nat} {vs : Array Value} {T : TypeId} (h : Blk w B vs T) :
    (∀ i, w.cell? ⟨B, i, none⟩ = vs[i]?) ∧ (∀ i, w.frozen? ⟨B, i, none⟩ = false) ∧ B < w.heap.size := ⟨h.cell, h.frozen, h.lt⟩
theorem Blk.set {w : World} {B : Nat} {vs : Array Value} {T : TypeId} (h : Blk w B vs T) (i : Nat) (v : Value) : Blk (w.setCell ⟨B, i, none⟩ v) B (vs.setIfInBounds i v) T := by
  unfold Blk at h ⊢
  simp only [World.setCell, Array.getElem?_modify, if_true, h]
  simp
theorem Blk.setOther {w : World} {B : Nat} {vs : Array Value} {T : TypeId} (h : Blk w B vs T) (a : Addr) (v : Value) (hne : a.block ≠ B) : Blk (w.setCell a v) B vs T :=
  (Below.heap_setCell w a v B (fun e => hne e.symm)).trans h

theorem bnext {w W w2 : World} (h : Below w.heap.size w W) (h2 : Below W.heap.size W w2) : Below w.heap.size w w2 := h.trans (h2.mono h.size)
theorem balloc {w W : World} (h : Below w.heap.size w W) (o : Obj) : Below w.heap.size w (W.alloc o) := h.alloc h.size o

/-- What a region that draws its order keeps, from the world W where it begins. -/
theorem keepS_here (W : World) : (∀ b o, b < W.heap.size → W.drew.cell? ⟨b, o, none⟩ = W.cell? ⟨b, o, none⟩) ∧ Below W.heap.size W W.drew :=
  ⟨fun _ _ _ => rfl, (Below.refl _ _).drew⟩
theorem keepS_call {W p w4 : World} (h : (∀ b o, b < W.heap.size → p.cell? ⟨b, o, none⟩ = W.cell? ⟨b, o, none⟩) ∧ Below W.heap.size W p) (h2 : Below p.heap.size p w4) :
    (∀ b o, b < W.heap.size → w4.cell? ⟨b, o, none⟩ = W.cell? ⟨b, o, none⟩) ∧ Below W.heap.size W w4 :=
  ⟨fun b o hb => (h2.cell (p := ⟨b, o, none⟩) (Nat.lt_of_lt_of_le hb h.2.size)).trans (h.1 b o hb), bnext h.2 h2⟩
theorem keepS_alloc {W p : World} (h : (∀ b o, b < W.heap.size → p.cell? ⟨b, o, none⟩ = W.cell? ⟨b, o, none⟩) ∧ Below W.heap.size W p) (o : Obj) :
    (∀ b i, b < W.heap.size → (p.alloc o).cell? ⟨b, i, none⟩ = W.cell? ⟨b, i, none⟩) ∧ Below W.heap.size W (p.alloc o) :=
  keepS_call h ((Below.refl _ _).alloc (Nat.le_refl _) _)
theorem keepS_below {W p : World} (h : (∀ b o, b < W.heap.size → p.cell? ⟨b, o, none⟩ = W.cell? ⟨b, o, none⟩) ∧ Below W.heap.size W p) : Below W.heap.size W p := h.2
end Go.Proofs.YtaojpbgaengdpaaGreat

/- More small lemmas on worlds: what may have turned is named. No program in sight. -/
namespace Go.Proofs.YtaojpbgaengdpaaGreat

open Go.RowKit

/-- nothing that was there has turned but blocks in S. -/
structure Mod (S : Nat → Prop) (w w' : World) : Prop where
  os : w'.os = w.os
  tape : w'.tape = w.tape
  output : w'.output = w.output
  size : w.heap.size ≤ w'.heap.size
  block : ∀ k, k < w.heap.size → ¬ S k → w'.heap[k]? = w.heap[k]?
section

variable {S : Nat → Prop} {w w' w'' : World}

theorem Mod.refl (S : Nat → Prop) (w : World) : Mod S w w := ⟨rfl, rfl, rfl, Nat.le_refl _, fun _ _ _ => rfl⟩
theorem Mod.trans (h : Mod S w w') (k : Mod S w' w'') : Mod S w w'' :=
  ⟨k.os.trans h.os, k.tape.trans h.tape, k.output.trans h.output, Nat.le_trans h.size k.size, fun i hi hs => (k.block i (Nat.lt_of_lt_of_le hi h.size) hs).trans (h.block i hi hs)⟩
theorem Mod.of_below (h : Below w.heap.size w w') : Mod S w w' := ⟨h.os, h.tape, h.output, h.size, fun k hk _ => h.block k hk⟩
theorem Mod.below (h : Mod S w w') {B : Nat} (hS : ∀ k, S k → B ≤ k) (hB : B ≤ w.heap.size) : Below B w w' :=
  ⟨h.os, h.tape, h.output, h.size, fun k hk => h.block k (Nat.lt_of_lt_of_le hk hB) (fun hs => by have := hS k hs; omega)⟩
theorem Mod.mono {S' : Nat → Prop} (h : Mod S w w') (hS : ∀ k, S k → S' k) : Mod S' w w' := ⟨h.os, h.tape, h.output, h.size, fun k hk hs => h.block k hk (fun h' => hs (hS k h'))⟩
theorem Mod.alloc (h : Mod S w w') (o : Obj) : Mod S w (w'.alloc o) := h.trans (.of_below ((Below.refl _ _).alloc (Nat.le_refl _) o))
theorem Mod.drew (h : Mod S w w') : Mod S w w'.drew := ⟨h.os, h.tape, h.output, h.size, h.block⟩
theorem Mod.setCell (h : Mod S w w') {a : Addr} (ha : S a.block ∨ w.heap.size ≤ a.block) (v : Value) : Mod S w (w'.setCell a v) :=
  ⟨h.os, h.tape, h.output, by simpa [World.setCell] using h.size, fun k hk hs => by
    rw [Below.heap_setCell _ _ _ _ (by rintro rfl; rcases ha with ha | ha; exact hs ha; omega)]
    exact h.block k hk hs⟩
theorem Mod.setBlock (h : Mod S w w') {b : Nat} (hb : S b ∨ w.heap.size ≤ b) (o : Obj) : Mod S w (ChangeMaps.setBlock w' b o) :=
  ⟨h.os, h.tape, h.output, by simpa [ChangeMaps.setBlock] using h.size, fun k hk hs => by
    have : b ≠ k := by rintro rfl; rcases hb with hb | hb; exact hs hb; omega
    simp only [ChangeMaps.setBlock, Array.getElem?_setIfInBounds, if_neg this]
    exact h.block k hk hs⟩
theorem Blk.mod {B : Nat} {vs : Array Value} {T : TypeId} (h : Blk w B vs T) (hm : Mod S w w') (hs : ¬ S B) : Blk w' B vs T := (hm.block B h.lt hs).trans h
theorem Blk.setBlock {B b : Nat} {vs : Array Value} {T : TypeId} (h : Blk w B vs T) (hb : b ≠ B) (o : Obj) : Blk (ChangeMaps.setBlock w b o) B vs T := by
  unfold Blk at h ⊢
  simp only [ChangeMaps.setBlock, Array.getElem?_setIfInBounds, if_neg hb]
  exact h
end

theorem keepS_of {W p : World} (h : Below W.heap.size W p) : (∀ b o, b < W.heap.size → p.cell? ⟨b, o, none⟩ = W.cell? ⟨b, o, none⟩) ∧ Below W.heap.size W p :=
  ⟨fun b o hb => h.cell (p := ⟨b, o, none⟩) hb, h⟩
theorem keepS_realloc {W p : World} {O X : Obj} (h : (∀ b o, b < W.heap.size → (p.alloc O).cell? ⟨b, o, none⟩ = W.cell? ⟨b, o, none⟩) ∧ Below W.heap.size W (p.alloc O)) (hs : W.heap.size ≤ p.heap.size) :
    (∀ b o, b < W.heap.size → (p.alloc X).cell? ⟨b, o, none⟩ = W.cell? ⟨b, o, none⟩) ∧ Below W.heap.size W (p.alloc X) := by
  obtain ⟨-, h⟩ := h
  refine keepS_of ⟨h.os, h.tape, h.output, by rw [World.size_alloc]; omega, fun k hk => ?_⟩
  have := h.block k hk
  rw [Below.heap_alloc _ _ _ (by omega)] at this ⊢
  exact this
theorem keepS_set {W p : World} (h : (∀ b o, b < W.heap.size → p.cell? ⟨b, o, none⟩ = W.cell? ⟨b, o, none⟩) ∧ Below W.heap.size W p) {a : Addr} (ha : W.heap.size ≤ a.block) (v : Value) :
    (∀ b o, b < W.heap.size → (p.setCell a v).cell? ⟨b, o, none⟩ = W.cell? ⟨b, o, none⟩) ∧ Below W.heap.size W (p.setCell a v) :=
  keepS_of (h.2.setCell ha v)
theorem keepS_set4 {W p : World} {B : Nat} {v0 v1 v2 v3 : Value} (h : (∀ b o, b < W.heap.size → p.cell? ⟨b, o, none⟩ = W.cell? ⟨b, o, none⟩) ∧ Below W.heap.size W p) (hB : W.heap.size ≤ B) :
    (∀ b o, b < W.heap.size → ((((p.setCell ⟨B, 0, none⟩ v0).setCell ⟨B, 1, none⟩ v1).setCell ⟨B, 2, none⟩ v2).setCell ⟨B, 3, none⟩ v3).cell? ⟨b, o, none⟩ = W.cell? ⟨b, o, none⟩) ∧
      Below W.heap.size W ((((p.setCell ⟨B, 0, none⟩ v0).setCell ⟨B, 1, none⟩ v1).setCell ⟨B, 2, none⟩ v2).setCell ⟨B, 3, none⟩ v3) :=
  keepS_set (keepS_set (keepS_set (keepS_set h hB v0) hB v1) hB v2) hB v3
theorem keepS_here2 (W : World) : (∀ b o, b < W.heap.size → W.drew.drew.cell? ⟨b, o, none⟩ = W.cell? ⟨b, o, none⟩) ∧ Below W.heap.size W W.drew.drew := keepS_of ((Below.refl _ _).drew).drew
/-- a block laid just ahead of a call, and a draw. -/
theorem new_drew {w w4 : World} {vs : Array Value} {T : TypeId} (h : Below (w.alloc (.cells vs T)).drew.heap.size (w.alloc (.cells vs T)).drew w4) : Blk w4 w.heap.size vs T := ((Blk.new w vs T).drew).keep h
theorem new_keep {w w4 : World} {vs : Array Value} {T : TypeId} (h : Below (w.alloc (.cells vs T)).heap.size (w.alloc (.cells vs T)) w4) : Blk w4 w.heap.size vs T := (Blk.new w vs T).keep h
theorem keepS_allocD {W p : World} (h : (∀ b o, b < W.heap.size → p.drew.cell? ⟨b, o, none⟩ = W.cell? ⟨b, o, none⟩) ∧ Below W.heap.size W p.drew) (o : Obj) :
    (∀ b i, b < W.heap.size → (p.alloc o).drew.cell? ⟨b, i, none⟩ = W.cell? ⟨b, i, none⟩) ∧ Below W.heap.size W (p.alloc o).drew := keepS_alloc (p := p.drew) h o
theorem Blk.set4 {w : World} {B : Nat} {x0 x1 x2 x3 v0 v1 v2 v3 : Value} {T : TypeId} (h : Blk w B #[x0, x1, x2, x3] T) :
    Blk ((((w.setCell ⟨B, 0, none⟩ v0).setCell ⟨B, 1, none⟩ v1).setCell ⟨B, 2, none⟩ v2).setCell ⟨B, 3, none⟩ v3) B #[v0, v1, v2, v3] T := (((h.set 0 v0).set 1 v1).set 2 v2).set 3 v3
theorem below_set4 {N : Nat} {w0 w : World} {B : Nat} {v0 v1 v2 v3 : Value} (h : Below N w0 w) (hB : N ≤ B) :
    Below N w0 ((((w.setCell ⟨B, 0, none⟩ v0).setCell ⟨B, 1, none⟩ v1).setCell ⟨B, 2, none⟩ v2).setCell ⟨B, 3, none⟩ v3) := (((h.setCell hB v0).setCell hB v1).setCell hB v2).setCell hB v3
end Go.Proofs.YtaojpbgaengdpaaGreat
