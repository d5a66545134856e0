/- Texts of the proof, part 2. -/
import Derived.Test.YtkkiglagdojnlaaGreatDoorEP1
set_option linter.unusedVariables false
set_option linter.unusedSimpArgs false
/- More small lemmas on worlds: what may have turned is named. No program in sight. -/
namespace Go.Proofs.YtkkiglagdojnlaaGreatDoor

open Go.RowKit

/-- nothing that was there has turned but blocks in S. -/
structure Mod (S : Nat → Prop) (w w' : World) : Prop where
  os : w'.os = w.os
  tape : w'.tape = w.tape
  output : w'.output = w.output
  size : w.heap.size ≤ w'.heap.size
  block : ∀ k, k < w.heap.size → ¬ S k → w'.heap[k]? = w.heap[k]?
section

variable {S : Nat → Prop} {w w' w'' : World}

theorem Mod.refl (S : Nat → Prop) (w : World) : Mod S w w := ⟨rfl, rfl, rfl, Nat.le_refl _, fun _ _ _ => rfl⟩
theorem Mod.trans (h : Mod S w w') (k : Mod S w' w'') : Mod S w w'' :=
  ⟨k.os.trans h.os, k.tape.trans h.tape, k.output.trans h.output, Nat.le_trans h.size k.size, fun i hi hs => (k.block i (Nat.lt_of_lt_of_le hi h.size) hs).trans (h.block i hi hs)⟩
theorem Mod.of_below (h : Below w.heap.size w w') : Mod S w w' := ⟨h.os, h.tape, h.output, h.size, fun k hk _ => h.block k hk⟩
theorem Mod.below (h : Mod S w w') {B : Nat} (hS : ∀ k, S k → B ≤ k) (hB : B ≤ w.heap.size) : Below B w w' :=
  ⟨h.os, h.tape, h.output, h.size, fun k hk => h.block k (Nat.lt_of_lt_of_le hk hB) (fun hs => by have := hS k hs; omega)⟩
theorem Mod.mono {S' : Nat → Prop} (h : Mod S w w') (hS : ∀ k, S k → S' k) : Mod S' w w' := ⟨h.os, h.tape, h.output, h.size, fun k hk hs => h.block k hk (fun h' => hs (hS k h'))⟩
theorem Mod.alloc (h : Mod S w w') (o : Obj) : Mod S w (w'.alloc o) := h.trans (.of_below ((Below.refl _ _).alloc (Nat.le_refl _) o))
theorem Mod.drew (h : Mod S w w') : Mod S w w'.drew := ⟨h.os, h.tape, h.output, h.size, h.block⟩
theorem Mod.setCell (h : Mod S w w') {a : Addr} (ha : S a.block ∨ w.heap.size ≤ a.block) (v : Value) : Mod S w (w'.setCell a v) :=
  ⟨h.os, h.tape, h.output, by simpa [World.setCell] using h.size, fun k hk hs => by
    rw [Below.heap_setCell _ _ _ _ (by rintro rfl; rcases ha with ha | ha; exact hs ha; omega)]
    exact h.block k hk hs⟩
theorem Mod.setBlock (h : Mod S w w') {b : Nat} (hb : S b ∨ w.heap.size ≤ b) (o : Obj) : Mod S w (ChangeMaps.setBlock w' b o) :=
  ⟨h.os, h.tape, h.output, by simpa [ChangeMaps.setBlock] using h.size, fun k hk hs => by
    have : b ≠ k := by rintro rfl; rcases hb with hb | hb; exact hs hb; omega
    simp only [ChangeMaps.setBlock, Array.getElem?_setIfInBounds, if_neg this]
    exact h.block k hk hs⟩
theorem Blk.mod {B : Nat} {vs : Array Value} {T : TypeId} (h : Blk w B vs T) (hm : Mod S w w') (hs : ¬ S B) : Blk w' B vs T := (hm.block B h.lt hs).trans h
theorem Blk.setBlock {B b : Nat} {vs : Array Value} {T : TypeId} (h : Blk w B vs T) (hb : b ≠ B) (o : Obj) : Blk (ChangeMaps.setBlock w b o) B vs T := by
  unfold Blk at h ⊢
  simp only [ChangeMaps.setBlock, Array.getElem?_setIfInBounds, if_neg hb]
  exact h
end

theorem keepS_of {W p : World} (h : Below W.heap.size W p) : (∀ b o, b < W.heap.size → p.cell? ⟨b, o, none⟩ = W.cell? ⟨b, o, none⟩) ∧ Below W.heap.size W p :=
  ⟨fun b o hb => h.cell (p := ⟨b, o, none⟩) hb, h⟩
theorem keepS_realloc {W p : World} {O X : Obj} (h : (∀ b o, b < W.heap.size → (p.alloc O).cell? ⟨b, o, none⟩ = W.cell? ⟨b, o, none⟩) ∧ Below W.heap.size W (p.alloc O)) (hs : W.heap.size ≤ p.heap.size) :
    (∀ b o, b < W.heap.size → (p.alloc X).cell? ⟨b, o, none⟩ = W.cell? ⟨b, o, none⟩) ∧ Below W.heap.size W (p.alloc X) := by
  obtain ⟨-, h⟩ := h
  refine keepS_of ⟨h.os, h.tape, h.output, by rw [World.size_alloc]; omega, fun k hk => ?_⟩
  have := h.block k hk
  rw [Below.heap_alloc _ _ _ (by omega)] at this ⊢
  exact this
theorem keepS_set {W p : World} (h : (∀ b o, b < W.heap.size → p.cell? ⟨b, o, none⟩ = W.cell? ⟨b, o, none⟩) ∧ Below W.heap.size W p) {a : Addr} (ha : W.heap.size ≤ a.block) (v : Value) :
    (∀ b o, b < W.heap.size → (p.setCell a v).cell? ⟨b, o, none⟩ = W.cell? ⟨b, o, none⟩) ∧ Below W.heap.size W (p.setCell a v) :=
  keepS_of (h.2.setCell ha v)
theorem keepS_set4 {W p : World} {B : Nat} {v0 v1 v2 v3 : Value} (h : (∀ b o, b < W.heap.size → p.cell? ⟨b, o, none⟩ = W.cell? ⟨b, o, none⟩) ∧ Below W.heap.size W p) (hB : W.heap.size ≤ B) :
    (∀ b o, b < W.heap.size → ((((p.setCell ⟨B, 0, none⟩ v0).setCell ⟨B, 1, none⟩ v1).setCell ⟨B, 2, none⟩ v2).setCell ⟨B, 3, none⟩ v3).cell? ⟨b, o, none⟩ = W.cell? ⟨b, o, none⟩) ∧
      Below W.heap.size W ((((p.setCell ⟨B, 0, none⟩ v0).setCell ⟨B, 1, none⟩ v1).setCell ⟨B, 2, none⟩ v2).setCell ⟨B, 3, none⟩ v3) :=
  keepS_set (keepS_set (keepS_set (keepS_set h hB v0) hB v1) hB v2) hB v3
theorem keepS_here2 (W : World) : (∀ b o, b < W.heap.size → W.drew.drew.cell? ⟨b, o, none⟩ = W.cell? ⟨b, o, none⟩) ∧ Below W.heap.size W W.drew.drew := keepS_of ((Below.refl _ _).drew).drew
/-- a block laid just ahead of a call, and a draw. -/
theorem new_drew {w w4 : World} {vs : Array Value} {T : TypeId} (h : Below (w.alloc (.cells vs T)).drew.heap.size (w.alloc (.cells vs T)).drew w4) : Blk w4 w.heap.size vs T := ((Blk.new w vs T).drew).keep h
theorem new_keep {w w4 : World} {vs : Array Value} {T : TypeId} (h : Below (w.alloc (.cells vs T)).heap.size (w.alloc (.cells vs T)) w4) : Blk w4 w.heap.size vs T := (Blk.new w vs T).keep h
theorem keepS_allocD {W p : World} (h : (∀ b o, b < W.heap.size → p.drew.cell? ⟨b, o, none⟩ = W.cell? ⟨b, o, none⟩) ∧ Below W.heap.size W p.drew) (o : Obj) :
    (∀ b i, b < W.heap.size → (p.alloc o).drew.cell? ⟨b, i, none⟩ = W.cell? ⟨b, i, none⟩) ∧ Below W.heap.size W (p.alloc o).drew := keepS_alloc (p := p.drew) h o
theorem Blk.set4 {w : World} {B : Nat} {x0 x1 x2 x3 v0 v1 v2 v3 : Value} {T : TypeId} (h : Blk w B #[x0, x1, x2, x3] T) :
    Blk ((((w.setCell ⟨B, 0, none⟩ v0).setCell ⟨B, 1, none⟩ v1).setCell ⟨B, 2, none⟩ v2).setCell ⟨B, 3, none⟩ v3) B #[v0, v1, v2, v3] T := (((h.set 0 v0).set 1 v1).set 2 v2).set 3 v3
theorem below_set4 {N : Nat} {w0 w : World} {B : Nat} {v0 v1 v2 v3 : Value} (h : Below N w0 w) (hB : N ≤ B) :
    Below N w0 ((((w.setCell ⟨B, 0, none⟩ v0).setCell ⟨B, 1, none⟩ v1).setCell ⟨B, 2, none⟩ v2).setCell ⟨B, 3, none⟩ v3) := (((h.setCell hB v0).setCell hB v1).setCell hB v2).setCell hB v3
end Go.Proofs.YtkkiglagdojnlaaGreatDoor

/- The tree of nodes, plainly: entries of a directory, nodes, mounts; what the layers 11 to 14 compute. No program in sight. -/
namespace Go.Proofs.YtkkiglagdojnlaaGreatDoor

open Go.RowKit

/-- a name in a directory. -/
structure En where
  name : ByteArray
  no : Int
  deriving DecidableEq
/-- a node. -/
structure An where
  no : Int
  dev : Int
  kind : Int
  mode : Int
  uid : Int
  gid : Int
  mtime : Int
  ctime : Int
  links : Int
  up : Int
  data : ByteArray
  ents : List En
  deriving DecidableEq
def an0 : An := ⟨0, 0, 0, 0, 0, 0, 0, 0, 0, 0, ByteArray.empty, []⟩
/-- a mount. -/
structure Dv where
  root : Int
  over : Int
  b : Int
  n : Int
  mb : Int
  mn : Int
  deriving DecidableEq
structure Fs where
  ns : List An
  ds : List Dv
  last : Int
  deriving DecidableEq

/-- Go's order of texts. -/
def ltB (a b : ByteArray) : Bool := Op.bytesLess a.data.toList b.data.toList
theorem ltB_mk (a b : ByteArray) : Op.bytesLess a.toList b.toList = ltB a b := by unfold ltB; rw [ByteArray.toList_eq, ByteArray.toList_eq]
theorem less_irrefl : ∀ l : List UInt8, Op.bytesLess l l = false
  | [] => rfl
  | a :: l => by simp [Op.bytesLess, less_irrefl l]
theorem less_trans : ∀ a b c : List UInt8, Op.bytesLess a b = true → Op.bytesLess b c = true → Op.bytesLess a c = true
  | [], [], _, h, _ => by simp [Op.bytesLess] at h
  | [], _ :: _, [], _, h => by simp [Op.bytesLess] at h
  | [], _ :: _, _ :: _, _, _ => rfl
  | _ :: _, [], _, h, _ => by simp [Op.bytesLess] at h
  | _ :: _, _ :: _, [], _, h => by simp [Op.bytesLess] at h
  | x :: a, y :: b, z :: c, h, k => by
    simp only [Op.bytesLess, Bool.or_eq_true, Bool.and_eq_true, decide_eq_true_eq, beq_iff_eq] at h k ⊢
    rcases h with h | ⟨rfl, h⟩
    · rcases k with k | ⟨rfl, k⟩
      · exact .inl (UInt8.lt_trans h k)
      · exact .inl h
    · rcases k with k | ⟨rfl, k⟩
      · exact .inl k
      · exact .inr ⟨rfl, less_trans a b c h k⟩
theorem less_total : ∀ a b : List UInt8, Op.bytesLess a b = false → Op.bytesLess b a = false → a = b
  | [], [], _, _ => rfl
  | [], _ :: _, h, _ => by simp [Op.bytesLess] at h
  | _ :: _, [], _, h => by simp [Op.bytesLess] at h
  | x :: a, y :: b, h, k => by
    simp only [Op.bytesLess, Bool.or_eq_false_iff, Bool.and_eq_false_iff, decide_eq_false_iff_not, beq_eq_false_iff_ne] at h k
    have hxy : x = y := by
      have h1 := h.1
      have h2 := k.1
      rw [UInt8.not_lt] at h1 h2
      exact UInt8.le_antisymm h2 h1
    subst hxy
    have h1 := h.2.resolve_left (by simp)
    have h2 := k.2.resolve_left (by simp)
    rw [less_total a b h1 h2]
theorem ba_eq {a b : ByteArray} (h : a.data.toList = b.data.toList) : a = b := by
  cases a; cases b
  simp at h ⊢
  exact h
theorem ltB_irrefl (a : ByteArray) : ltB a a = false := less_irrefl _
theorem ltB_trans {a b c : ByteArray} (h : ltB a b = true) (k : ltB b c = true) : ltB a c = true := less_trans _ _ _ h k
theorem ltB_total {a b : ByteArray} (h : ltB a b = false) (k : ltB b a = false) : a = b := ba_eq (less_total _ _ h k)
theorem ltB_asymm {a b : ByteArray} (h : ltB a b = true) : ltB b a = false := by
  cases k : ltB b a with
  | false => rfl
  | true => have := ltB_trans h k; rw [ltB_irrefl] at this; cases this
theorem ltB_ne {a b : ByteArray} (h : ltB a b = true) : a ≠ b := by
  rintro rfl
  rw [ltB_irrefl] at h
  cases h

/-- the number of a name; 0: it is not there. -/
def entFind (l : List En) (n : ByteArray) : Int := match l.find? (fun x => decide (x.name = n)) with | some x => x.no | none => 0
def entPut (l : List En) (n : ByteArray) (no : Int) : List En := l.filter (fun x => ltB x.name n) ++ ⟨n, no⟩ :: l.filter (fun x => ltB n x.name)
def entDrop (l : List En) (n : ByteArray) : List En := l.filter (fun x => !decide (x.name = n))
/-- names rise, each once. -/
def Rise (l : List En) : Prop := l.Pairwise (fun a b => ltB a.name b.name = true)
/-- how many names are ahead. -/
def entAt (l : List En) (n : ByteArray) : Nat := (l.filter (fun x => ltB x.name n)).length

theorem entAt_le (l : List En) (n : ByteArray) : entAt l n ≤ l.length := List.length_filter_le _ _
theorem rise_take {l : List En} (h : Rise l) (n : ByteArray) : l.filter (fun x => ltB x.name n) = l.take (entAt l n) := by
  unfold entAt
  induction l with
  | nil => rfl
  | cons x l ih =>
    have hx := List.pairwise_cons.1 h
    by_cases hc : ltB x.name n = true
    · rw [List.filter_cons_of_pos (by simpa using hc), List.length_cons, List.take_succ_cons, ← ih hx.2]
    · rw [List.filter_cons_of_neg (by simpa using hc)]
      have : l.filter (fun x => ltB x.name n) = [] := by
        rw [List.filter_eq_nil_iff]
        intro y hy hyn
        exact hc (ltB_trans (hx.1 y hy) hyn)
      rw [this]
      rfl
theorem rise_lt {l : List En} (h : Rise l) (n : ByteArray) (k : Nat) (hk : k < l.length) : ltB l[k].name n = decide (k < entAt l n) := by
  unfold entAt
  induction l generalizing k with
  | nil => simp at hk
  | cons x l ih =>
    have hx := List.pairwise_cons.1 h
    by_cases hc : ltB x.name n = true
    · rw [List.filter_cons_of_pos (by simpa using hc), List.length_cons]
      cases k with
      | zero => simp [hc]
      | succ k => simpa using ih hx.2 k (by simpa using hk)
    · rw [List.filter_cons_of_neg (by simpa using hc)]
      have : l.filter (fun x => ltB x.name n) = [] := by
        rw [List.filter_eq_nil_iff]
        intro y hy hyn
        exact hc (ltB_trans (hx.1 y hy) hyn)
      rw [this]
      cases k with
      | zero => simpa using hc
      | succ k =>
        have hm : l[k]'(by simpa using hk) ∈ l := List.getElem_mem _
        simp only [List.getElem_cons_succ, List.length_nil, Nat.not_lt_zero, decide_false]
        cases hq : ltB (l[k]'(by simpa using hk)).name n with
        | false => rfl
        | true => exact absurd (ltB_trans (hx.1 _ hm) hq) hc
/-- the place of a name tells whether it is there. -/
theorem find_at {l : List En} (h : Rise l) (n : ByteArray) : l.find? (fun x => decide (x.name = n)) = if hk : entAt l n < l.length then (if l[entAt l n].name = n then some l[entAt l n] else none) else none := by
  have key : ∀ (k : Nat) (hk : k < l.length), l[k].name = n → k = entAt l n := by
    intro k hk he
    have h1 := rise_lt h n k hk
    rw [he, ltB_irrefl] at h1
    have h2 : ¬ k < entAt l n := by simpa using h1.symm
    by_cases h3 : k = entAt l n
    · exact h3
    · exfalso
      have hlt : entAt l n < k := by omega
      have h4 := List.pairwise_iff_getElem.1 h (entAt l n) k (by omega) hk hlt
      rw [he] at h4
      have h5 := rise_lt h n (entAt l n) (by omega)
      rw [h4] at h5
      simp at h5
  split
  · rename_i hk
    split
    · rename_i he
      rw [List.find?_eq_some_iff_getElem]
      refine ⟨by simpa using he, entAt l n, hk, rfl, fun j hj => ?_⟩
      simp only [Bool.not_eq_eq_eq_not, Bool.not_true, decide_eq_false_iff_not]
      intro hj2
      have := key j (by omega) hj2
      omega
    · rename_i he
      rw [List.find?_eq_none]
      intro x hx
      simp only [decide_eq_true_eq]
      intro hxn
      obtain ⟨j, hj, rfl⟩ := List.mem_iff_getElem.1 hx
      have := key j hj hxn
      subst this
      exact he hxn
  · rename_i hk
    rw [List.find?_eq_none]
    intro x hx
    simp only [decide_eq_true_eq]
    intro hxn
    obtain ⟨j, hj, rfl⟩ := List.mem_iff_getElem.1 hx
    have := key j hj hxn
    subst this
    exact hk hj
theorem rise_drop {l : List En} (h : Rise l) (n : ByteArray) : l.filter (fun x => ltB n x.name) = l.drop (entAt l n + (if (∃ hk : entAt l n < l.length, l[entAt l n].name = n) then 1 else 0)) := by
  unfold entAt
  induction l with
  | nil => simp
  | cons x l ih =>
    have hx := List.pairwise_cons.1 h
    by_cases hc : ltB x.name n = true
    · have h1 : ltB n x.name = false := ltB_asymm hc
      rw [List.filter_cons_of_neg (by simp [h1])]
      simp only [List.filter_cons_of_pos (p := fun x : En => ltB x.name n) (a := x) (l := l) (by simpa using hc), List.length_cons]
      rw [ih hx.2]
      have : (∃ hk : (l.filter fun x => ltB x.name n).length + 1 < l.length + 1, ((x :: l)[(l.filter fun x => ltB x.name n).length + 1]'hk).name = n) ↔ (∃ hk : (l.filter fun x => ltB x.name n).length < l.length, (l[(l.filter fun x => ltB x.name n).length]'hk).name = n) := by
        constructor
        · rintro ⟨hk, he⟩; exact ⟨by omega, by simpa using he⟩
        · rintro ⟨hk, he⟩; exact ⟨by omega, by simpa using he⟩
      simp only [this]
      rw [Nat.add_right_comm, List.drop_succ_cons]
    · have he : l.filter (fun x => ltB x.name n) = [] := by
        rw [List.filter_eq_nil_iff]
        intro y hy hyn
        exact hc (ltB_trans (hx.1 y hy) hyn)
      have hall : ∀ y ∈ l, ltB n x.name = true ∨ x.name = n → ltB n y.name = true := by
        rintro y hy (h1 | rfl)
        · exact ltB_trans h1 (hx.1 y hy)
        · exact hx.1 y hy
      have hor : ltB n x.name = true ∨ x.name = n := by
        cases hq : ltB n x.name with
        | true => exact .inl rfl
        | false => exact .inr (ltB_total (by simpa using hc) hq)
      have hrest : l.filter (fun x => ltB n x.name) = l := by
        rw [List.filter_eq_self]
        intro y hy
        exact hall y hy hor
      rw [List.filter_cons_of_neg (p := fun x : En => ltB x.name n) (by simpa using hc), he]
      rcases hor with h1 | h1
      · rw [List.filter_cons_of_pos (by simpa using h1), hrest, if_neg]
        · rfl
        · rintro ⟨hk, he⟩
          simp only [List.length_nil, List.getElem_cons_zero] at he
          rw [he, ltB_irrefl] at h1
          cases h1
      · rw [List.filter_cons_of_neg (by rw [h1]; simp [ltB_irrefl]), hrest, if_pos ⟨by simp, by simpa using h1⟩]
        rfl
theorem put_at {l : List En} (h : Rise l) (n : ByteArray) (no : Int) : entPut l n no = l.take (entAt l n) ++ ⟨n, no⟩ :: l.drop (entAt l n + (if (∃ hk : entAt l n < l.length, l[entAt l n].name = n) then 1 else 0)) := by
  unfold entPut
  rw [rise_take h, rise_drop h]
theorem rise_put {l : List En} (h : Rise l) (n : ByteArray) (no : Int) : Rise (entPut l n no) := by
  unfold entPut Rise
  rw [List.pairwise_append]
  refine ⟨List.Pairwise.filter _ h, ?_, ?_⟩
  · rw [List.pairwise_cons]
    refine ⟨fun y hy => ?_, List.Pairwise.filter _ h⟩
    simpa using (List.mem_filter.1 hy).2
  · intro a ha b hb
    have h1 : ltB a.name n = true := by simpa using (List.mem_filter.1 ha).2
    rcases List.mem_cons.1 hb with rfl | hb
    · exact h1
    · have h2 : ltB n b.name = true := by simpa using (List.mem_filter.1 hb).2
      exact ltB_trans h1 h2
/-- the node of a number. -/
def Fs.get (S : Fs) (k : Int) : Option An := S.ns.find? (fun x => x.no == k)
def Fs.set (S : Fs) (a : An) : Fs := { S with ns := S.ns.map fun x => if x.no == a.no then a else x }
def Fs.add (S : Fs) (a : An) : Fs := { S with ns := S.ns ++ [{ a with no := S.last + 1 }], last := S.last + 1 }
def Fs.del (S : Fs) (k : Int) : Fs := { S with ns := S.ns.filter fun x => !(x.no == k) }
def Fs.root (S : Fs) (d : Int) : Int := if 1 ≤ d ∧ d ≤ S.ds.length then (match S.ds[(d - 1).toNat]? with | some v => v.root | none => 0) else 0
def Fs.over (S : Fs) (k : Int) : Int := if 0 < k then (match S.ds.find? (fun d => d.over == k) with | some d => d.root | none => k) else k
theorem an_no {S : Fs} {k : Int} {a : An} (h : S.get k = some a) : a.no = k := by
  have := List.find?_some h
  simpa using this
theorem an_mem {S : Fs} {k : Int} {a : An} (h : S.get k = some a) : a ∈ S.ns := List.mem_of_find?_eq_some h
/-- the numbers of nodes rise, from 1 on. -/
structure Nums (S : Fs) : Prop where
  rise : (S.ns.map (·.no)).Pairwise (· < ·)
  low : ∀ x ∈ S.ns, 1 ≤ x.no ∧ x.no ≤ S.last
theorem an_set {S : Fs} {a b : An} (h : S.get a.no = some b) (k : Int) : (S.set a).get k = if k = a.no then some a else S.get k := by
  unfold Fs.get Fs.set at *
  simp only
  rw [List.find?_map]
  by_cases hk : k = a.no
  · subst hk
    rw [if_pos rfl]
    have : ((fun x : An => x.no == a.no) ∘ fun x : An => if x.no == a.no then a else x) = fun x : An => x.no == a.no := by
      funext x
      simp only [Function.comp_apply]
      split
      · rename_i he; rw [he]; simp
      · rfl
    rw [this, h]
    have hb : b.no = a.no := by simpa using List.find?_some h
    simp [hb]
  · rw [if_neg hk]
    have : ((fun x : An => x.no == k) ∘ fun x : An => if x.no == a.no then a else x) = fun x : An => x.no == k := by
      funext x
      simp only [Function.comp_apply]
      split
      · rename_i he
        have : x.no = a.no := by simpa using he
        rw [this]
      · rfl
    rw [this]
    cases hf : List.find? (fun x : An => x.no == k) S.ns with
    | none => rfl
    | some x =>
      have hx : x.no = k := by simpa using List.find?_some hf
      simp [hx, hk]
theorem an_add {S : Fs} (h : Nums S) (a : An) (k : Int) : (S.add a).get k = if k = S.last + 1 then some { a with no := S.last + 1 } else S.get k := by
  unfold Fs.get Fs.add
  simp only [List.find?_append]
  by_cases hk : k = S.last + 1
  · subst hk
    have : S.ns.find? (fun x => x.no == S.last + 1) = none := by
      rw [List.find?_eq_none]
      intro x hx
      have := h.low x hx
      simp; omega
    rw [if_pos rfl, this]
    simp
  · rw [if_neg hk]
    have hne : ¬ S.last + 1 = k := fun e => hk e.symm
    simp [hne]
theorem an_nos {S : Fs} (a : An) : (S.set a).ns.map (·.no) = S.ns.map (·.no) := by
  unfold Fs.set
  simp only [List.map_map]
  apply List.map_congr_left
  intro x _
  simp only [Function.comp_apply]
  split
  · rename_i he; simpa using (beq_iff_eq.1 he).symm
  · rfl
theorem Nums.set {S : Fs} (h : Nums S) (a : An) : Nums (S.set a) := by
  refine ⟨by rw [an_nos]; exact h.rise, fun x hx => ?_⟩
  have hm : x.no ∈ (S.set a).ns.map (·.no) := List.mem_map_of_mem hx
  rw [an_nos] at hm
  obtain ⟨y, hy, he⟩ := List.mem_map.1 hm
  have := h.low y hy
  show 1 ≤ x.no ∧ x.no ≤ S.last
  omega
theorem Nums.add {S : Fs} (h : Nums S) (h0 : 0 ≤ S.last) (a : An) : Nums (S.add a) := by
  refine ⟨?_, fun x hx => ?_⟩
  · show ((S.ns ++ [_]).map _).Pairwise _
    rw [List.map_append, List.pairwise_append]
    refine ⟨h.rise, by simp, fun x hx y hy => ?_⟩
    obtain ⟨z, hz, rfl⟩ := List.mem_map.1 hx
    have := h.low z hz
    simp at hy
    omega
  · show 1 ≤ x.no ∧ x.no ≤ S.last + 1
    rcases List.mem_append.1 hx with hx | hx
    · have := h.low x hx; omega
    · simp at hx; subst hx; simp; omega
end Go.Proofs.YtkkiglagdojnlaaGreatDoor

/- Entries of cans in order, and which of them must go (layers 34 and 38), purely. -/
namespace Go.Proofs.YtkkiglagdojnlaaGreatDoor

open Go.Sort

structure Ey where
  can : ByteArray
  name : ByteArray
  path : ByteArray
  date : Int
  size : Int
  good : Bool
def ey0 : Ey := ⟨ByteArray.empty, ByteArray.empty, ByteArray.empty, 0, 0, false⟩
instance : Inhabited Ey := ⟨ey0⟩
def eyC (x : Ey) : List Value := [.string x.can, .string x.name, .string x.path, .int .i64 x.date, .int .i64 x.size, .bool x.good]
theorem eyC_len (x : Ey) : (eyC x).length = 6 := rfl
def cmpI (a b : Int) : Int := if a < b then -1 else if b < a then 1 else 0
def cmpS (a b : ByteArray) : Int := if ltB a b = true then -1 else if ltB b a = true then 1 else 0
def orI (a b : Int) : Int := if a ≠ 0 then a else b
/-- how two entries stand to one another. -/
def earF (x y : Ey) : Int := orI (cmpI x.date y.date) (orI (cmpI x.name.size y.name.size) (orI (cmpS x.name y.name) (cmpS x.can y.can)))
def ltE (x y : Ey) : Bool := decide (earF x y < 0)
/-- the same, as the reference has it. -/
def aheadB (x y : Ey) : Bool :=
  if x.date ≠ y.date then decide (x.date < y.date) else if x.name.size ≠ y.name.size then decide (x.name.size < y.name.size) else if x.name ≠ y.name then ltB x.name y.name else ltB x.can y.can
theorem cmpI_lt (a b : Int) : decide (cmpI a b < 0) = decide (a < b) := by
  unfold cmpI
  split
  · simp [*]
  · split
    · simp; omega
    · simp; omega
theorem cmpI_eq (a b : Int) : cmpI a b = 0 ↔ a = b := by
  unfold cmpI
  split
  · constructor
    · intro h; exact absurd h (by decide)
    · intro h; omega
  · split
    · constructor
      · intro h; exact absurd h (by decide)
      · intro h; omega
    · constructor
      · intro _; omega
      · intro _; rfl
theorem cmpS_lt (a b : ByteArray) : decide (cmpS a b < 0) = ltB a b := by
  unfold cmpS
  cases h : ltB a b with
  | true => simp
  | false =>
    cases h2 : ltB b a with
    | true => simp
    | false => simp
theorem cmpS_eq (a b : ByteArray) : cmpS a b = 0 ↔ a = b := by
  unfold cmpS
  cases h : ltB a b with
  | true =>
    simp
    rintro rfl
    exact absurd h (by rw [ltB_irrefl]; decide)
  | false =>
    cases h2 : ltB b a with
    | true =>
      simp
      rintro rfl
      exact absurd h2 (by rw [ltB_irrefl]; decide)
    | false =>
      simp
      exact ltB_total h h2
theorem orI_lt (a b : Int) : decide (orI a b < 0) = if a ≠ 0 then decide (a < 0) else decide (b < 0) := by
  unfold orI
  split <;> rfl
theorem ltE_ahead (x y : Ey) : ltE x y = aheadB x y := by
  unfold ltE earF aheadB
  rw [orI_lt, cmpI_lt]
  by_cases h1 : x.date = y.date
  · rw [if_neg (by simpa using (cmpI_eq _ _).2 h1), if_neg (by simpa using h1), orI_lt, cmpI_lt]
    by_cases h2 : x.name.size = y.name.size
    · rw [if_neg (by simpa using (cmpI_eq _ _).2 (by omega)), if_neg (by simpa using h2), orI_lt, cmpS_lt, cmpS_lt]
      by_cases h3 : x.name = y.name
      · rw [if_neg (by simpa using (cmpS_eq _ _).2 h3), if_neg (by simpa using h3)]
      · rw [if_pos (fun h => h3 ((cmpS_eq _ _).1 h)), if_pos h3]
    · rw [if_pos (fun h => h2 (by have := (cmpI_eq _ _).1 h; omega)), if_pos h2]
      simp
  · rw [if_pos (fun h => h1 ((cmpI_eq _ _).1 h)), if_pos h1]
/-! ### it is an order -/
def lexB {α : Type} (p q : α → α → Bool) (x y : α) : Bool := p x y || (!p y x && q x y)
theorem lex_swo {α : Type} {p q : α → α → Bool} (hp : SWO p) (hq : SWO q) : SWO (lexB p q) where
  irrefl x := by simp [lexB, hp.irrefl, hq.irrefl]
  trans x y z h1 h2 := by
    unfold lexB at *
    simp only [Bool.or_eq_true, Bool.and_eq_true, Bool.not_eq_true'] at h1 h2 ⊢
    rcases h1 with h1 | ⟨a1, b1⟩
    · rcases h2 with h2 | ⟨a2, b2⟩
      · exact .inl (hp.trans _ _ _ h1 h2)
      · left
        cases h : p x z with
        | true => rfl
        | false => rw [hp.ntrans _ _ _ h a2] at h1; cases h1
    · rcases h2 with h2 | ⟨a2, b2⟩
      · left
        cases h : p x z with
        | true => rfl
        | false => rw [hp.ntrans _ _ _ a1 h] at h2; cases h2
      · exact .inr ⟨hp.ntrans _ _ _ a2 a1, hq.trans _ _ _ b1 b2⟩
  ntrans x y z h1 h2 := by
    unfold lexB at *
    simp only [Bool.or_eq_false_iff, Bool.and_eq_false_iff, Bool.not_eq_false'] at h1 h2 ⊢
    obtain ⟨a1, b1⟩ := h1
    obtain ⟨a2, b2⟩ := h2
    refine ⟨hp.ntrans _ _ _ a1 a2, ?_⟩
    cases h : p z x with
    | true => exact .inl rfl
    | false =>
      right
      rcases b1 with b1 | b1
      · rw [hp.ntrans _ _ _ a2 h] at b1; cases b1
      · rcases b2 with b2 | b2
        · rw [hp.ntrans _ _ _ h a1] at b2; cases b2
        · exact hq.ntrans _ _ _ b1 b2
theorem int_swo {α : Type} (f : α → Int) : SWO (fun x y => decide (f x < f y)) where
  irrefl x := by simp
  trans x y z h1 h2 := by simp at *; omega
  ntrans x y z h1 h2 := by simp at *; omega
theorem str_swo {α : Type} (f : α → ByteArray) : SWO (fun x y => ltB (f x) (f y)) where
  irrefl x := ltB_irrefl _
  trans x y z h1 h2 := ltB_trans h1 h2
  ntrans x y z h1 h2 := by
    cases h : ltB (f x) (f z) with
    | false => rfl
    | true =>
      cases h3 : ltB (f y) (f x) with
      | true => rw [ltB_trans h3 h] at h2; cases h2
      | false =>
        have e := ltB_total h1 h3
        rw [← e, h] at h2
        cases h2
def ordB : Ey → Ey → Bool := lexB (fun x y => decide (x.date < y.date)) (lexB (fun x y => decide ((x.name.size : Int) < (y.name.size : Int))) (lexB (fun x y => ltB x.name y.name) (fun x y => ltB x.can y.can)))
theorem aheadB_ord (x y : Ey) : aheadB x y = ordB x y := by
  unfold aheadB ordB lexB
  by_cases h1 : x.date = y.date
  · rw [if_neg (by simpa using h1)]
    simp only [h1, Int.lt_irrefl, decide_false, Bool.false_or, Bool.not_false, Bool.true_and]
    by_cases h2 : x.name.size = y.name.size
    · rw [if_neg (by simpa using h2)]
      simp only [h2, Int.lt_irrefl, decide_false, Bool.false_or, Bool.not_false, Bool.true_and]
      by_cases h3 : x.name = y.name
      · rw [if_neg (by simpa using h3), h3, ltB_irrefl]
        rfl
      · rw [if_pos h3]
        cases h4 : ltB x.name y.name with
        | true => rfl
        | false =>
          cases h5 : ltB y.name x.name with
          | true => rfl
          | false => exact absurd (ltB_total h4 h5) h3
    · rw [if_pos h2]
      by_cases h3 : x.name.size < y.name.size
      · simp [h3]
      · have h4 : y.name.size < x.name.size := by omega
        simp [h3, h4]
  · rw [if_pos h1]
    by_cases h2 : x.date < y.date
    · simp [h2]
    · have h3 : y.date < x.date := by omega
      simp [h2, h3]
theorem ltE_swo : SWO ltE := by
  have h : ltE = ordB := funext fun x => funext fun y => (ltE_ahead x y).trans (aheadB_ord x y)
  rw [h]
  exact lex_swo (int_swo _) (lex_swo (int_swo _) (lex_swo (str_swo _) (str_swo _)))
/-! ### what must go -/
def oldB (now age : Int) (y : Ey) : Bool := decide (0 ≤ y.date) && decide (age < now - y.date)
def overL (quota : Int) : Int → List Ey → List Ey
  | _, [] => []
  | s, y :: l => if s ≤ quota then [] else y :: overL quota (s - y.size) l
def sumE (l : List Ey) : Int := l.foldl (fun s y => s + y.size) 0
def restL (now age : Int) (l : List Ey) : List Ey := l.filter (fun y => !oldB now age y && decide (0 ≤ y.date)) ++ l.filter (fun y => !oldB now age y && !decide (0 ≤ y.date))
def pickF (l : List Ey) (now age quota : Int) : List Ey :=
  if now < 0 ∨ age < 0 ∨ quota < 0 then [] else (isort ltE l).filter (oldB now age) ++ overL quota (sumE (restL now age (isort ltE l))) (restL now age (isort ltE l))
end Go.Proofs.YtkkiglagdojnlaaGreatDoor

/- A map whose keys are ints, as a list in the order of its entries: what a look-up, a store, a delete and len do to it. No program in sight but the map's type. -/
namespace Go.Proofs.YtkkiglagdojnlaaGreatDoor

open Go.RowKit

/-- one entry: key, value, when it came. -/
def ent (x : Int × Value × Nat) : MapEntry := { key := .int .i64 x.1, val := x.2.1, born := x.2.2 }
/-- block m is the map of these entries. -/
def MapB (w : World) (m : Nat) (l : List (Int × Value × Nat)) (clk : Nat) : Prop := w.heap[m]? = some (.map (l.map ent).toArray clk)
/-- each key once. -/
def KeysOnce (l : List (Int × Value × Nat)) : Prop := (l.map (·.1)).Nodup

def mapFind (l : List (Int × Value × Nat)) (k : Int) : Option Value := (l.find? (fun x => x.1 == k)).map (·.2.1)
def mapPut (l : List (Int × Value × Nat)) (k : Int) (v : Value) : List (Int × Value × Nat) := l.map fun x => if x.1 == k then (k, v, x.2.2) else x
def mapDel (l : List (Int × Value × Nat)) (k : Int) : List (Int × Value × Nat) := l.filter fun x => !(x.1 == k)

theorem MapB.lt {w : World} {m : Nat} {l : List (Int × Value × Nat)} {clk : Nat} (h : MapB w m l clk) : m < w.heap.size := by
  unfold MapB at h
  exact (Array.getElem?_eq_some_iff.1 h).1
theorem MapB.old {w : World} {m : Nat} {l : List (Int × Value × Nat)} {clk : Nat} (h : MapB w m l clk) (o : Obj) : MapB (w.alloc o) m l clk :=
  (Below.heap_alloc w o m h.lt).trans h
theorem MapB.keep {w w' : World} {m : Nat} {l : List (Int × Value × Nat)} {clk : Nat} (h : MapB w m l clk) (hb : Below w.heap.size w w') : MapB w' m l clk :=
  (hb.block m h.lt).trans h
theorem MapB.setOther {w : World} {m : Nat} {l : List (Int × Value × Nat)} {clk : Nat} (h : MapB w m l clk) (a : Addr) (v : Value) (hne : a.block ≠ m) : MapB (w.setCell a v) m l clk :=
  (Below.heap_setCell w a v m (fun e => hne e.symm)).trans h

theorem findNow_list (k : Int) : ∀ (l : List (Int × Value × Nat)) (i : Nat),
    Instr.findNow (.int .i64) (.int .i64 k) (l.map ent) i = some ((l.findIdx? (fun x => x.1 == k)).bind fun j => (l[j]?).map fun x => (i + j, x.2.1))
  | [], i => by simp [Instr.findNow]
  | x :: l, i => by
    have ih := findNow_list k l (i + 1)
    rw [List.map_cons]
    unfold Instr.findNow
    have hs : Instr.sameNow (.int .i64) (.int .i64 k) (ent x).key = some (k == x.1) := by simp [Instr.sameNow, ent]
    rw [hs]
    by_cases e : x.1 = k
    · subst e; simp [List.findIdx?_cons, ent]
    · have e1 : (k == x.1) = false := by simpa using fun h => e h.symm
      have e2 : (x.1 == k) = false := by simpa using e
      rw [e1]
      show Instr.findNow _ _ _ _ = _
      rw [ih]
      simp only [List.findIdx?_cons, e2, Bool.false_eq_true, if_false]
      congr 1
      cases List.findIdx? (fun x => x.1 == k) l with
      | none => rfl
      | some j => simp; congr 1; funext y; simp; omega

theorem mapFind_idx (k : Int) : ∀ (l : List (Int × Value × Nat)), mapFind l k = (l.findIdx? (fun x => x.1 == k)).bind fun j => (l[j]?).map fun x => x.2.1
  | [] => rfl
  | x :: l => by
    have ih := mapFind_idx k l
    unfold mapFind at ih ⊢
    by_cases e : (x.1 == k) = true
    · simp [List.findIdx?_cons, e]
    · simp only [Bool.not_eq_true] at e
      simp only [List.find?_cons, List.findIdx?_cons, e, Bool.false_eq_true, if_false, ih]
      cases List.findIdx? (fun x => x.1 == k) l <;> simp

theorem mapPut_idx (k : Int) (v : Value) : ∀ (l : List (Int × Value × Nat)) (j : Nat), KeysOnce l → l.findIdx? (fun x => x.1 == k) = some j →
    ((l.map ent).modify j fun e => { e with key := .int .i64 k, val := v }) = (mapPut l k v).map ent
  | [], j, _, h => by simp at h
  | x :: l, j, hn, h => by
    unfold KeysOnce at hn
    simp only [List.map_cons, List.nodup_cons] at hn
    obtain ⟨hx, hl⟩ := hn
    by_cases e : (x.1 == k) = true
    · simp only [List.findIdx?_cons, e, if_true, Option.some.injEq] at h
      subst h
      have e' : x.1 = k := by simpa using e
      have hrest : mapPut l k v = l := by
        unfold mapPut
        rw [List.map_congr_left (g := id)]
        · simp
        · intro y hy
          have : ¬ y.1 = k := fun h' => hx (by rw [e', ← h']; exact List.mem_map.2 ⟨y, hy, rfl⟩)
          simp [this]
      have hput : mapPut (x :: l) k v = (k, v, x.2.2) :: l := by
        unfold mapPut at hrest ⊢
        rw [List.map_cons, hrest, e, if_pos rfl]
      rw [hput]
      rfl
    · simp only [Bool.not_eq_true] at e
      simp only [List.findIdx?_cons, e, Bool.false_eq_true, if_false, Option.map_eq_some_iff] at h
      obtain ⟨j', hj, rfl⟩ := h
      have ih := mapPut_idx k v l j' hl hj
      unfold mapPut at ih ⊢
      simp only [List.map_cons, List.modify_succ_cons, e, Bool.false_eq_true, if_false]
      rw [ih]

theorem mapFind_none {l : List (Int × Value × Nat)} {k : Int} : mapFind l k = none ↔ l.findIdx? (fun x => x.1 == k) = none := by
  rw [List.findIdx?_eq_none_iff]
  unfold mapFind
  simp

section

variable {P : Program} {K E T : TypeId} {w : World} {m : Nat} {l : List (Int × Value × Nat)} {clk : Nat}

theorem checkKey_int (b : Bool) (hk : P.underlying K = some (.int .i64)) (v : Value) (w : World) : (Instr.checkKey b 10000 K v).run P w = .ok () w := by
  unfold Instr.checkKey
  simp [run_underlying hk]

theorem run_findKey (hk : P.underlying K = some (.int .i64)) (k : Int) (w : World) : (Instr.findKey K (.int .i64 k) (l.map ent)).run P w = .ok ((l.findIdx? (fun x => x.1 == k)).bind fun j => (l[j]?).map fun x => (j, x.2.1)) w := by
  unfold Instr.findKey
  simp [run_underlying hk, findNow_list]

/-- 'v, ok := m[k]'. -/
theorem run_lookup_yes (ht : P.underlying T = some (.map K E)) (hk : P.underlying K = some (.int .i64)) (h : MapB w m l clk) {k : Int} {v : Value} (hf : mapFind l k = some v) :
    (Instr.lookup T (.map (some m)) (.int .i64 k) true).run P w = .ok (.tuple #[v, .bool true]) w := by
  rw [mapFind_idx] at hf
  unfold MapB at h
  simp only [Option.bind_eq_some_iff, Option.map_eq_some_iff] at hf
  obtain ⟨j, hj, x, hx, rfl⟩ := hf
  unfold Instr.lookup
  simp [run_underlying ht, getObj, Sem.run, h, checkKey_int _ hk, run_findKey hk, hj, hx]
theorem run_lookup_no (ht : P.underlying T = some (.map K E)) (hk : P.underlying K = some (.int .i64)) (h : MapB w m l clk) {k : Int} (hf : mapFind l k = none) {z : Value} (hz : (zeroValue E).run P w = .ok z w) :
    (Instr.lookup T (.map (some m)) (.int .i64 k) true).run P w = .ok (.tuple #[z, .bool false]) w := by
  rw [mapFind_none] at hf
  unfold MapB at h
  unfold Instr.lookup
  simp [run_underlying ht, getObj, Sem.run, h, checkKey_int _ hk, run_findKey hk, hf, hz]
theorem run_put (ht : P.underlying T = some (.map K E)) (hk : P.underlying K = some (.int .i64)) (h : MapB w m l clk) (hn : KeysOnce l) {k : Int} {v0 v : Value} (hf : mapFind l k = some v0) :
    (Instr.mapUpdate T (.map (some m)) (.int .i64 k) v).run P w = .ok () (ChangeMaps.setBlock w m (.map ((mapPut l k v).map ent).toArray clk)) := by
  rw [mapFind_idx] at hf
  unfold MapB at h
  simp only [Option.bind_eq_some_iff, Option.map_eq_some_iff] at hf
  obtain ⟨j, hj, x, hx, rfl⟩ := hf
  have hp := mapPut_idx k v l j hn hj
  have hxk : x.1 = k := by
    obtain ⟨hlt, h1, -⟩ := List.findIdx?_eq_some_iff_getElem.1 hj
    rw [List.getElem?_eq_getElem hlt] at hx
    obtain rfl := Option.some.inj hx
    simpa using h1
  have hst : (Instr.keyThatStays (ent x).key (.int .i64 k)).run P w = .ok (.int .i64 k) w := by
    subst hxk
    simp [Instr.keyThatStays, Instr.sameBits, ent]
  unfold Instr.mapUpdate
  simp [run_underlying ht, getObj, setObj, Sem.run, h, checkKey_int _ hk, run_findKey hk, hj, hx, hst, hp, ChangeMaps.setBlock]
theorem run_add (ht : P.underlying T = some (.map K E)) (hk : P.underlying K = some (.int .i64)) (h : MapB w m l clk) {k : Int} {v : Value} (hf : mapFind l k = none) :
    (Instr.mapUpdate T (.map (some m)) (.int .i64 k) v).run P w = .ok () (ChangeMaps.setBlock w m (.map ((l ++ [(k, v, clk)]).map ent).toArray (clk + 1))) := by
  rw [mapFind_none] at hf
  unfold MapB at h
  unfold Instr.mapUpdate
  simp [run_underlying ht, getObj, setObj, Sem.run, h, checkKey_int _ hk, run_findKey hk, hf, ChangeMaps.setBlock, ent]
theorem MapB.set (h : MapB w m l clk) (l' : List (Int × Value × Nat)) (clk' : Nat) :
    MapB (ChangeMaps.setBlock w m (.map (l'.map ent).toArray clk')) m l' clk' ∧ (∀ B vs T, Blk w B vs T → Blk (ChangeMaps.setBlock w m (.map (l'.map ent).toArray clk')) B vs T) ∧
      Mod (fun k => k = m) w (ChangeMaps.setBlock w m (.map (l'.map ent).toArray clk')) := by
  have hlt := h.lt
  refine ⟨?_, ?_, (Mod.refl (fun k => k = m) w).setBlock (b := m) (.inl rfl) _⟩
  · unfold MapB
    simp [ChangeMaps.setBlock, hlt]
  · intro B vs T hB
    refine hB.setBlock ?_ _
    rintro rfl
    unfold Blk at hB
    unfold MapB at h
    rw [h] at hB
    cases hB

theorem step_put (ht : P.underlying T = some (.map K E)) (hk : P.underlying K = some (.int .i64)) (h : MapB w m l clk) (hn : KeysOnce l) {k : Int} {v0 : Value} (v : Value) (hf : mapFind l k = some v0) :
    ∃ W, (Instr.mapUpdate T (.map (some m)) (.int .i64 k) v).run P w = .ok () W ∧ MapB W m (mapPut l k v) clk ∧ (∀ B vs T, Blk w B vs T → Blk W B vs T) ∧ Mod (fun k => k = m) w W :=
  ⟨_, run_put ht hk h hn hf, h.set _ _⟩
theorem step_add (ht : P.underlying T = some (.map K E)) (hk : P.underlying K = some (.int .i64)) (h : MapB w m l clk) {k : Int} (v : Value) (hf : mapFind l k = none) :
    ∃ W, (Instr.mapUpdate T (.map (some m)) (.int .i64 k) v).run P w = .ok () W ∧ MapB W m (l ++ [(k, v, clk)]) (clk + 1) ∧ (∀ B vs T, Blk w B vs T → Blk W B vs T) ∧ Mod (fun k => k = m) w W :=
  ⟨_, run_add ht hk h hf, h.set _ _⟩
end

end Go.Proofs.YtkkiglagdojnlaaGreatDoor
