/- Small lemmas on worlds: a block that is known whole, kept by what is laid or called behind it; what a region that draws its order keeps. No program in sight. -/
import Derived.WalkKit
import Derived.WalkSpells
import Derived.WalkLawsBesides
import Derived.Outline
import Derived.Deep.QuietTactic
import Derived.BigQuiet
import Derived.Handy
import Derived.Lib.Hide
import Derived.Deep.RegionHeld3
import Derived.StillTactics
namespace Go.Proofs.Ytojmbjkeckdilaa
open Go.RowKit

/-- block B is just these cells, free to write. -/
def Blk (w : World) (B : Nat) (vs : Array Value) (T : TypeId) : Prop := w.heap[B]? = some (.cells vs T (0, 0))

theorem Blk.lt {w : World} {B : Nat} {vs : Array Value} {T : TypeId} (h : Blk w B vs T) : B < w.heap.size := by
  unfold Blk at h
  exact (Array.getElem?_eq_some_iff.1 h).1
theorem Blk.new (w : World) (vs : Array Value) (T : TypeId) : Blk (w.alloc (.cells vs T)) w.heap.size vs T := by
  show (w.heap.push _)[w.heap.size]? = _
  simp
theorem Blk.old {w : World} {B : Nat} {vs : Array Value} {T : TypeId} (h : Blk w B vs T) (o : Obj) : Blk (w.alloc o) B vs T :=
  (Below.heap_alloc w o B h.lt).trans h
theorem Blk.keep {w w' : World} {B : Nat} {vs : Array Value} {T : TypeId} (h : Blk w B vs T) (hb : Below w.heap.size w w') : Blk w' B vs T :=
  (hb.block B h.lt).trans h
theorem Blk.keepB {w w' : World} {B N : Nat} {vs : Array Value} {T : TypeId} (h : Blk w B vs T) (hb : Below N w w') (hN : B < N) : Blk w' B vs T :=
  (hb.block B hN).trans h
theorem Blk.drew {w : World} {B : Nat} {vs : Array Value} {T : TypeId} (h : Blk w B vs T) : Blk w.drew B vs T := h
theorem Blk.cell {w : World} {B : Nat} {vs : Array Value} {T : TypeId} (h : Blk w B vs T) (i : Nat) : w.cell? ⟨B, i, none⟩ = vs[i]? := by
  unfold Blk at h
  simp [World.cell?, h]
theorem Blk.frozen {w : World} {B : Nat} {vs : Array Value} {T : TypeId} (h : Blk w B vs T) (i : Nat) : w.frozen? ⟨B, i, none⟩ = false := by
  unfold Blk at h
  simp [World.frozen?, h]
theorem Blk.facts {w : World} {B : Nat} {vs : Array Value} {T : TypeId} (h : Blk w B vs T) :
    (∀ i, w.cell? ⟨B, i, none⟩ = vs[i]?) ∧ (∀ i, w.frozen? ⟨B, i, none⟩ = false) ∧ B < w.heap.size := ⟨h.cell, h.frozen, h.lt⟩
theorem Blk.set {w : World} {B : Nat} {vs : Array Value} {T : TypeId} (h : Blk w B vs T) (i : Nat) (v : Value) : Blk (w.setCell ⟨B, i, none⟩ v) B (vs.setIfInBounds i v) T := by
  unfold Blk at h ⊢
  simp only [World.setCell, Array.getElem?_modify, if_true, h]
  simp
theorem Blk.setOther {w : World} {B : Nat} {vs : Array Value} {T : TypeId} (h : Blk w B vs T) (a : Addr) (v : Value) (hne : a.block ≠ B) : Blk (w.setCell a v) B vs T :=
  (Below.heap_setCell w a v B (fun e => hne e.symm)).trans h

theorem bnext {w W w2 : World} (h : Below w.heap.size w W) (h2 : Below W.heap.size W w2) : Below w.heap.size w w2 := h.trans (h2.mono h.size)
theorem balloc {w W : World} (h : Below w.heap.size w W) (o : Obj) : Below w.heap.size w (W.alloc o) := h.alloc h.size o

/-- What a region that draws its order keeps, from the world W where it begins. -/
theorem keepS_here (W : World) : (∀ b o, b < W.heap.size → W.drew.cell? ⟨b, o, none⟩ = W.cell? ⟨b, o, none⟩) ∧ Below W.heap.size W W.drew :=
  ⟨fun _ _ _ => rfl, (Below.refl _ _).drew⟩
theorem keepS_call {W p w4 : World} (h : (∀ b o, b < W.heap.size → p.cell? ⟨b, o, none⟩ = W.cell? ⟨b, o, none⟩) ∧ Below W.heap.size W p) (h2 : Below p.heap.size p w4) :
    (∀ b o, b < W.heap.size → w4.cell? ⟨b, o, none⟩ = W.cell? ⟨b, o, none⟩) ∧ Below W.heap.size W w4 :=
  ⟨fun b o hb => (h2.cell (p := ⟨b, o, none⟩) (Nat.lt_of_lt_of_le hb h.2.size)).trans (h.1 b o hb), bnext h.2 h2⟩
theorem keepS_alloc {W p : World} (h : (∀ b o, b < W.heap.size → p.cell? ⟨b, o, none⟩ = W.cell? ⟨b, o, none⟩) ∧ Below W.heap.size W p) (o : Obj) :
    (∀ b i, b < W.heap.size → (p.alloc o).cell? ⟨b, i, none⟩ = W.cell? ⟨b, i, none⟩) ∧ Below W.heap.size W (p.alloc o) :=
  keepS_call h ((Below.refl _ _).alloc (Nat.le_refl _) _)
theorem keepS_below {W p : World} (h : (∀ b o, b < W.heap.size → p.cell? ⟨b, o, none⟩ = W.cell? ⟨b, o, none⟩) ∧ Below W.heap.size W p) : Below W.heap.size W p := h.2
end Go.Proofs.Ytojmbjkeckdilaa
