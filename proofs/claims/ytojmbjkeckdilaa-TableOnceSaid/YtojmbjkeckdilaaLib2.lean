/- More small lemmas on worlds: what may have turned is named. No program in sight. -/
import Derived.Test.YtojmbjkeckdilaaLib
namespace Go.Proofs.Ytojmbjkeckdilaa
open Go.RowKit

/-- nothing that was there has turned but blocks in S. -/
structure Mod (S : Nat → Prop) (w w' : World) : Prop where
  os : w'.os = w.os
  tape : w'.tape = w.tape
  output : w'.output = w.output
  size : w.heap.size ≤ w'.heap.size
  block : ∀ k, k < w.heap.size → ¬ S k → w'.heap[k]? = w.heap[k]?
section
variable {S : Nat → Prop} {w w' w'' : World}
theorem Mod.refl (S : Nat → Prop) (w : World) : Mod S w w := ⟨rfl, rfl, rfl, Nat.le_refl _, fun _ _ _ => rfl⟩
theorem Mod.trans (h : Mod S w w') (k : Mod S w' w'') : Mod S w w'' :=
  ⟨k.os.trans h.os, k.tape.trans h.tape, k.output.trans h.output, Nat.le_trans h.size k.size, fun i hi hs => (k.block i (Nat.lt_of_lt_of_le hi h.size) hs).trans (h.block i hi hs)⟩
theorem Mod.of_below (h : Below w.heap.size w w') : Mod S w w' := ⟨h.os, h.tape, h.output, h.size, fun k hk _ => h.block k hk⟩
theorem Mod.below (h : Mod S w w') {B : Nat} (hS : ∀ k, S k → B ≤ k) (hB : B ≤ w.heap.size) : Below B w w' :=
  ⟨h.os, h.tape, h.output, h.size, fun k hk => h.block k (Nat.lt_of_lt_of_le hk hB) (fun hs => by have := hS k hs; omega)⟩
theorem Mod.mono {S' : Nat → Prop} (h : Mod S w w') (hS : ∀ k, S k → S' k) : Mod S' w w' := ⟨h.os, h.tape, h.output, h.size, fun k hk hs => h.block k hk (fun h' => hs (hS k h'))⟩
theorem Mod.alloc (h : Mod S w w') (o : Obj) : Mod S w (w'.alloc o) := h.trans (.of_below ((Below.refl _ _).alloc (Nat.le_refl _) o))
theorem Mod.drew (h : Mod S w w') : Mod S w w'.drew := ⟨h.os, h.tape, h.output, h.size, h.block⟩
theorem Mod.setCell (h : Mod S w w') {a : Addr} (ha : S a.block ∨ w.heap.size ≤ a.block) (v : Value) : Mod S w (w'.setCell a v) :=
  ⟨h.os, h.tape, h.output, by simpa [World.setCell] using h.size, fun k hk hs => by
    rw [Below.heap_setCell _ _ _ _ (by rintro rfl; rcases ha with ha | ha; exact hs ha; omega)]
    exact h.block k hk hs⟩
theorem Mod.setBlock (h : Mod S w w') {b : Nat} (hb : S b ∨ w.heap.size ≤ b) (o : Obj) : Mod S w (ChangeMaps.setBlock w' b o) :=
  ⟨h.os, h.tape, h.output, by simpa [ChangeMaps.setBlock] using h.size, fun k hk hs => by
    have : b ≠ k := by rintro rfl; rcases hb with hb | hb; exact hs hb; omega
    simp only [ChangeMaps.setBlock, Array.getElem?_setIfInBounds, if_neg this]
    exact h.block k hk hs⟩
theorem Blk.mod {B : Nat} {vs : Array Value} {T : TypeId} (h : Blk w B vs T) (hm : Mod S w w') (hs : ¬ S B) : Blk w' B vs T := (hm.block B h.lt hs).trans h
theorem Blk.setBlock {B b : Nat} {vs : Array Value} {T : TypeId} (h : Blk w B vs T) (hb : b ≠ B) (o : Obj) : Blk (ChangeMaps.setBlock w b o) B vs T := by
  unfold Blk at h ⊢
  simp only [ChangeMaps.setBlock, Array.getElem?_setIfInBounds, if_neg hb]
  exact h
end
end Go.Proofs.Ytojmbjkeckdilaa
