/- Texts of the proof, part 39. -/
import Derived.Lib.Join
import Derived.StillTailTactics
import Derived.Test.YtaojpbgaengdpaaGreatDoorDU1
import Derived.Test.YtaojpbgaengdpaaGreatDoorDU4
set_option linter.unusedVariables false
set_option linter.unusedSimpArgs false
/- A map whose keys are strings, as a list in the order of its entries: what a look-up, a store, a delete and len do to it. No program in sight but the map's type. -/
namespace Go.Proofs.YtaojpbgaengdpaaGreatDoor

open Go.RowKit

instance lawfulBA : LawfulBEq ByteArray where
  eq_of_beq {a b} h := by
    obtain ⟨a⟩ := a
    obtain ⟨b⟩ := b
    have h2 : (a == b) = true := h
    rw [eq_of_beq h2]
  rfl {a} := by
    obtain ⟨a⟩ := a
    show (a == a) = true
    simp

/-- one entry: key, value, when it came. -/
def entS (x : ByteArray × Value × Nat) : MapEntry := { key := .string x.1, val := x.2.1, born := x.2.2 }
/-- block m is the map of these entries. -/
def MapBS (w : World) (m : Nat) (l : List (ByteArray × Value × Nat)) (clk : Nat) : Prop := w.heap[m]? = some (.map (l.map entS).toArray clk)
/-- each key once. -/
def KeysOnceS (l : List (ByteArray × Value × Nat)) : Prop := (l.map (·.1)).Nodup

def mapFindS (l : List (ByteArray × Value × Nat)) (k : ByteArray) : Option Value := (l.find? (fun x => x.1 == k)).map (·.2.1)
def mapPutS (l : List (ByteArray × Value × Nat)) (k : ByteArray) (v : Value) : List (ByteArray × Value × Nat) := l.map fun x => if x.1 == k then (k, v, x.2.2) else x
def mapDelS (l : List (ByteArray × Value × Nat)) (k : ByteArray) : List (ByteArray × Value × Nat) := l.filter fun x => !(x.1 == k)

theorem MapBS.lt {w : World} {m : Nat} {l : List (ByteArray × Value × Nat)} {clk : Nat} (h : MapBS w m l clk) : m < w.heap.size := by
  unfold MapBS at h
  exact (Array.getElem?_eq_some_iff.1 h).1
theorem MapBS.old {w : World} {m : Nat} {l : List (ByteArray × Value × Nat)} {clk : Nat} (h : MapBS w m l clk) (o : Obj) : MapBS (w.alloc o) m l clk :=
  (Below.heap_alloc w o m h.lt).trans h
theorem MapBS.keep {w w' : World} {m : Nat} {l : List (ByteArray × Value × Nat)} {clk : Nat} (h : MapBS w m l clk) (hb : Below w.heap.size w w') : MapBS w' m l clk :=
  (hb.block m h.lt).trans h
theorem MapBS.setOther {w : World} {m : Nat} {l : List (ByteArray × Value × Nat)} {clk : Nat} (h : MapBS w m l clk) (a : Addr) (v : Value) (hne : a.block ≠ m) : MapBS (w.setCell a v) m l clk :=
  (Below.heap_setCell w a v m (fun e => hne e.symm)).trans h

theorem findNow_listS (k : ByteArray) : ∀ (l : List (ByteArray × Value × Nat)) (i : Nat),
    Instr.findNow .string (.string k) (l.map entS) i = some ((l.findIdx? (fun x => x.1 == k)).bind fun j => (l[j]?).map fun x => (i + j, x.2.1))
  | [], i => by simp [Instr.findNow]
  | x :: l, i => by
    have ih := findNow_listS k l (i + 1)
    rw [List.map_cons]
    unfold Instr.findNow
    have hs : Instr.sameNow .string (.string k) (entS x).key = some (k == x.1) := by simp [Instr.sameNow, entS]
    rw [hs]
    by_cases e : x.1 = k
    · subst e; simp [List.findIdx?_cons, entS]
    · have e1 : (k == x.1) = false := by simpa using fun h => e h.symm
      have e2 : (x.1 == k) = false := by simpa using e
      rw [e1]
      show Instr.findNow _ _ _ _ = _
      rw [ih]
      simp only [List.findIdx?_cons, e2, Bool.false_eq_true, if_false]
      congr 1
      cases List.findIdx? (fun x => x.1 == k) l with
      | none => rfl
      | some j => simp; congr 1; funext y; simp; omega

theorem mapFind_idxS (k : ByteArray) : ∀ (l : List (ByteArray × Value × Nat)), mapFindS l k = (l.findIdx? (fun x => x.1 == k)).bind fun j => (l[j]?).map fun x => x.2.1
  | [] => rfl
  | x :: l => by
    have ih := mapFind_idxS k l
    unfold mapFindS at ih ⊢
    by_cases e : (x.1 == k) = true
    · simp [List.findIdx?_cons, e]
    · simp only [Bool.not_eq_true] at e
      simp only [List.find?_cons, List.findIdx?_cons, e, Bool.false_eq_true, if_false, ih]
      cases List.findIdx? (fun x => x.1 == k) l <;> simp

theorem mapPut_idxS (k : ByteArray) (v : Value) : ∀ (l : List (ByteArray × Value × Nat)) (j : Nat), KeysOnceS l → l.findIdx? (fun x => x.1 == k) = some j →
    ((l.map entS).modify j fun e => { e with key := .string k, val := v }) = (mapPutS l k v).map entS
  | [], j, _, h => by simp at h
  | x :: l, j, hn, h => by
    unfold KeysOnceS at hn
    simp only [List.map_cons, List.nodup_cons] at hn
    obtain ⟨hx, hl⟩ := hn
    by_cases e : (x.1 == k) = true
    · simp only [List.findIdx?_cons, e, if_true, Option.some.injEq] at h
      subst h
      have e' : x.1 = k := by simpa using e
      have hrest : mapPutS l k v = l := by
        unfold mapPutS
        rw [List.map_congr_left (g := id)]
        · simp
        · intro y hy
          have : ¬ y.1 = k := fun h' => hx (by rw [e', ← h']; exact List.mem_map.2 ⟨y, hy, rfl⟩)
          simp [this]
      have hput : mapPutS (x :: l) k v = (k, v, x.2.2) :: l := by
        unfold mapPutS at hrest ⊢
        rw [List.map_cons, hrest, e, if_pos rfl]
      rw [hput]
      rfl
    · simp only [Bool.not_eq_true] at e
      simp only [List.findIdx?_cons, e, Bool.false_eq_true, if_false, Option.map_eq_some_iff] at h
      obtain ⟨j', hj, rfl⟩ := h
      have ih := mapPut_idxS k v l j' hl hj
      unfold mapPutS at ih ⊢
      simp only [List.map_cons, List.modify_succ_cons, e, Bool.false_eq_true, if_false]
      rw [ih]

theorem mapDel_idxS (k : ByteArray) : ∀ (l : List (ByteArray × Value × Nat)) (j : Nat), KeysOnceS l → l.findIdx? (fun x => x.1 == k) = some j →
    ((l.map entS).eraseIdx j) = (mapDelS l k).map entS
  | [], j, _, h => by simp at h
  | x :: l, j, hn, h => by
    unfold KeysOnceS at hn
    simp only [List.map_cons, List.nodup_cons] at hn
    obtain ⟨hx, hl⟩ := hn
    by_cases e : (x.1 == k) = true
    · simp only [List.findIdx?_cons, e, if_true, Option.some.injEq] at h
      subst h
      have e' : x.1 = k := by simpa using e
      have hrest : mapDelS l k = l := by
        unfold mapDelS
        rw [List.filter_eq_self]
        intro y hy
        have : ¬ y.1 = k := fun h' => hx (by rw [e', ← h']; exact List.mem_map.2 ⟨y, hy, rfl⟩)
        simp [this]
      unfold mapDelS at hrest ⊢
      simp [e', hrest]
    · simp only [Bool.not_eq_true] at e
      simp only [List.findIdx?_cons, e, Bool.false_eq_true, if_false, Option.map_eq_some_iff] at h
      obtain ⟨j', hj, rfl⟩ := h
      have ih := mapDel_idxS k l j' hl hj
      unfold mapDelS at ih ⊢
      simp only [List.map_cons, List.eraseIdx_cons_succ, List.filter_cons, e, Bool.not_false, if_true]
      rw [ih]

theorem mapFind_noneS {l : List (ByteArray × Value × Nat)} {k : ByteArray} : mapFindS l k = none ↔ l.findIdx? (fun x => x.1 == k) = none := by
  rw [List.findIdx?_eq_none_iff]
  unfold mapFindS
  simp

theorem mapDel_noneS {l : List (ByteArray × Value × Nat)} {k : ByteArray} (h : mapFindS l k = none) : mapDelS l k = l := by
  have := mapFind_noneS.1 h
  rw [List.findIdx?_eq_none_iff] at this
  unfold mapDelS
  rw [List.filter_eq_self]
  intro y hy
  simp [this y hy]

section

variable {P : Program} {K E T : TypeId} {w : World} {m : Nat} {l : List (ByteArray × Value × Nat)} {clk : Nat}

theorem checkKey_intS (b : Bool) (hk : P.underlying K = some .string) (v : Value) (w : World) : (Instr.checkKey b 10000 K v).run P w = .ok () w := by
  unfold Instr.checkKey
  simp [run_underlying hk]

theorem run_findKeyS (hk : P.underlying K = some .string) (k : ByteArray) (w : World) : (Instr.findKey K (.string k) (l.map entS)).run P w = .ok ((l.findIdx? (fun x => x.1 == k)).bind fun j => (l[j]?).map fun x => (j, x.2.1)) w := by
  unfold Instr.findKey
  simp [run_underlying hk, findNow_listS]

/-- 'v, ok := m[k]'. -/
theorem run_lookup_yesS (ht : P.underlying T = some (.map K E)) (hk : P.underlying K = some .string) (h : MapBS w m l clk) {k : ByteArray} {v : Value} (hf : mapFindS l k = some v) :
    (Instr.lookup T (.map (some m)) (.string k) true).run P w = .ok (.tuple #[v, .bool true]) w := by
  rw [mapFind_idxS] at hf
  unfold MapBS at h
  simp only [Option.bind_eq_some_iff, Option.map_eq_some_iff] at hf
  obtain ⟨j, hj, x, hx, rfl⟩ := hf
  unfold Instr.lookup
  simp [run_underlying ht, getObj, Sem.run, h, checkKey_intS _ hk, run_findKeyS hk, hj, hx]
theorem run_lookup_noS (ht : P.underlying T = some (.map K E)) (hk : P.underlying K = some .string) (h : MapBS w m l clk) {k : ByteArray} (hf : mapFindS l k = none) {z : Value} (hz : (zeroValue E).run P w = .ok z w) :
    (Instr.lookup T (.map (some m)) (.string k) true).run P w = .ok (.tuple #[z, .bool false]) w := by
  rw [mapFind_noneS] at hf
  unfold MapBS at h
  unfold Instr.lookup
  simp [run_underlying ht, getObj, Sem.run, h, checkKey_intS _ hk, run_findKeyS hk, hf, hz]
/-- 'm[k]', as it is. -/
theorem run_look_yesS (ht : P.underlying T = some (.map K E)) (hk : P.underlying K = some .string) (h : MapBS w m l clk) {k : ByteArray} {v : Value} (hf : mapFindS l k = some v) :
    (Instr.lookup T (.map (some m)) (.string k) false).run P w = .ok v w := by
  rw [mapFind_idxS] at hf
  unfold MapBS at h
  simp only [Option.bind_eq_some_iff, Option.map_eq_some_iff] at hf
  obtain ⟨j, hj, x, hx, rfl⟩ := hf
  unfold Instr.lookup
  simp [run_underlying ht, getObj, Sem.run, h, checkKey_intS _ hk, run_findKeyS hk, hj, hx]
theorem run_look_noS (ht : P.underlying T = some (.map K E)) (hk : P.underlying K = some .string) (h : MapBS w m l clk) {k : ByteArray} (hf : mapFindS l k = none) {z : Value} (hz : (zeroValue E).run P w = .ok z w) :
    (Instr.lookup T (.map (some m)) (.string k) false).run P w = .ok z w := by
  rw [mapFind_noneS] at hf
  unfold MapBS at h
  unfold Instr.lookup
  simp [run_underlying ht, getObj, Sem.run, h, checkKey_intS _ hk, run_findKeyS hk, hf, hz]
theorem run_putS (ht : P.underlying T = some (.map K E)) (hk : P.underlying K = some .string) (h : MapBS w m l clk) (hn : KeysOnceS l) {k : ByteArray} {v0 v : Value} (hf : mapFindS l k = some v0) :
    (Instr.mapUpdate T (.map (some m)) (.string k) v).run P w = .ok () (ChangeMaps.setBlock w m (.map ((mapPutS l k v).map entS).toArray clk)) := by
  rw [mapFind_idxS] at hf
  unfold MapBS at h
  simp only [Option.bind_eq_some_iff, Option.map_eq_some_iff] at hf
  obtain ⟨j, hj, x, hx, rfl⟩ := hf
  have hp := mapPut_idxS k v l j hn hj
  have hxk : x.1 = k := by
    obtain ⟨hlt, h1, -⟩ := List.findIdx?_eq_some_iff_getElem.1 hj
    rw [List.getElem?_eq_getElem hlt] at hx
    obtain rfl := Option.some.inj hx
    simpa using h1
  have hst : (Instr.keyThatStays (entS x).key (.string k)).run P w = .ok (.string k) w := by
    subst hxk
    simp [Instr.keyThatStays, Instr.sameBits, entS]
  unfold Instr.mapUpdate
  simp [run_underlying ht, getObj, setObj, Sem.run, h, checkKey_intS _ hk, run_findKeyS hk, hj, hx, hst, hp, ChangeMaps.setBlock]
theorem run_addS (ht : P.underlying T = some (.map K E)) (hk : P.underlying K = some .string) (h : MapBS w m l clk) {k : ByteArray} {v : Value} (hf : mapFindS l k = none) :
    (Instr.mapUpdate T (.map (some m)) (.string k) v).run P w = .ok () (ChangeMaps.setBlock w m (.map ((l ++ [(k, v, clk)]).map entS).toArray (clk + 1))) := by
  rw [mapFind_noneS] at hf
  unfold MapBS at h
  unfold Instr.mapUpdate
  simp [run_underlying ht, getObj, setObj, Sem.run, h, checkKey_intS _ hk, run_findKeyS hk, hf, ChangeMaps.setBlock, entS]
theorem run_delS (ht : P.underlying T = some (.map K E)) (hk : P.underlying K = some .string) (h : MapBS w m l clk) (hn : KeysOnceS l) (ty : TypeId) (k : ByteArray) :
    (Builtin.delete_ #[T, K] ty #[.map (some m), .string k]).run P w = .ok (.tuple #[]) (ChangeMaps.setBlock w m (.map ((mapDelS l k).map entS).toArray clk)) := by
  unfold MapBS at h
  cases hj : l.findIdx? (fun x => x.1 == k) with
  | none =>
    have hd := mapDel_noneS (mapFind_noneS.2 hj)
    unfold Builtin.delete_
    simp [run_underlying ht, getObj, setObj, Sem.run, h, checkKey_intS _ hk, run_findKeyS hk, hj, hd, ChangeMaps.setBlock]
  | some j =>
    have hd := mapDel_idxS k l j hn hj
    have hlt := (List.findIdx?_eq_some_iff_getElem.1 hj).1
    unfold Builtin.delete_
    simp [run_underlying ht, getObj, setObj, Sem.run, h, checkKey_intS _ hk, run_findKeyS hk, hj, hlt, ChangeMaps.setBlock]
    rw [hd]
theorem run_lenS (ht : P.underlying T = some (.map K E)) (h : MapBS w m l clk) (ty : TypeId) :
    (Builtin.len_ #[T] ty #[.map (some m)]).run P w = .ok (.int .i64 l.length) w := by
  unfold MapBS at h
  unfold Builtin.len_
  simp [run_underlying ht, getObj, Sem.run, h, goInt]

theorem MapBS.set (h : MapBS w m l clk) (l' : List (ByteArray × Value × Nat)) (clk' : Nat) :
    MapBS (ChangeMaps.setBlock w m (.map (l'.map entS).toArray clk')) m l' clk' ∧ (∀ B vs T, Blk w B vs T → Blk (ChangeMaps.setBlock w m (.map (l'.map entS).toArray clk')) B vs T) ∧
      Mod (fun k => k = m) w (ChangeMaps.setBlock w m (.map (l'.map entS).toArray clk')) := by
  have hlt := h.lt
  refine ⟨?_, ?_, (Mod.refl (fun k => k = m) w).setBlock (b := m) (.inl rfl) _⟩
  · unfold MapBS
    simp [ChangeMaps.setBlock, hlt]
  · intro B vs T hB
    refine hB.setBlock ?_ _
    rintro rfl
    unfold Blk at hB
    unfold MapBS at h
    rw [h] at hB
    cases hB

theorem step_putS (ht : P.underlying T = some (.map K E)) (hk : P.underlying K = some .string) (h : MapBS w m l clk) (hn : KeysOnceS l) {k : ByteArray} {v0 : Value} (v : Value) (hf : mapFindS l k = some v0) :
    ∃ W, (Instr.mapUpdate T (.map (some m)) (.string k) v).run P w = .ok () W ∧ MapBS W m (mapPutS l k v) clk ∧ (∀ B vs T, Blk w B vs T → Blk W B vs T) ∧ Mod (fun k => k = m) w W :=
  ⟨_, run_putS ht hk h hn hf, h.set _ _⟩
theorem step_addS (ht : P.underlying T = some (.map K E)) (hk : P.underlying K = some .string) (h : MapBS w m l clk) {k : ByteArray} (v : Value) (hf : mapFindS l k = none) :
    ∃ W, (Instr.mapUpdate T (.map (some m)) (.string k) v).run P w = .ok () W ∧ MapBS W m (l ++ [(k, v, clk)]) (clk + 1) ∧ (∀ B vs T, Blk w B vs T → Blk W B vs T) ∧ Mod (fun k => k = m) w W :=
  ⟨_, run_addS ht hk h hf, h.set _ _⟩
theorem step_delS (ht : P.underlying T = some (.map K E)) (hk : P.underlying K = some .string) (h : MapBS w m l clk) (hn : KeysOnceS l) (ty : TypeId) (k : ByteArray) :
    ∃ W, (Builtin.delete_ #[T, K] ty #[.map (some m), .string k]).run P w = .ok (.tuple #[]) W ∧ MapBS W m (mapDelS l k) clk ∧ (∀ B vs T, Blk w B vs T → Blk W B vs T) ∧ Mod (fun k => k = m) w W :=
  ⟨_, run_delS ht hk h hn ty k, h.set _ _⟩
end

end Go.Proofs.YtaojpbgaengdpaaGreatDoor

/- Clean paths (layer 3), plainly; each of some texts once. -/
namespace Go.Proofs.YtaojpbgaengdpaaGreatDoor

open Go.RowKit

def ddB : List UInt8 := [46, 46]
/-- one part more. -/
def clS (whole : Bool) (out : List (List UInt8)) (p : List UInt8) : List (List UInt8) :=
  if p ≠ ddB then out ++ [p] else if out ≠ [] ∧ out.getLast? ≠ some ddB then out.dropLast else if whole then out else out ++ [p]
def clL (whole : Bool) (l : List (List UInt8)) : List (List UInt8) := l.foldl (clS whole) []
def wholeB (s : List UInt8) : Bool := s.head? == some 47
def cleanL (s : List UInt8) : List UInt8 :=
  if wholeB s then 47 :: Lib.join (clL true (partsL s)) [47] else if Lib.join (clL false (partsL s)) [47] = [] then [46] else Lib.join (clL false (partsL s)) [47]
def cleanB (s : ByteArray) : ByteArray := str (cleanL s.data.toList)
theorem clL_snoc (whole : Bool) (l : List (List UInt8)) (p : List UInt8) : clL whole (l ++ [p]) = clS whole (clL whole l) p := by
  unfold clL
  rw [List.foldl_append]
  rfl
theorem clS_mem {whole : Bool} {out : List (List UInt8)} {p x : List UInt8} (h : x ∈ clS whole out p) : x ∈ out ∨ x = p := by
  unfold clS at h
  split at h
  · simpa using h
  · split at h
    · exact .inl (List.dropLast_subset _ h)
    · split at h
      · exact .inl h
      · simpa using h
theorem clS_len (whole : Bool) (out : List (List UInt8)) (p : List UInt8) : (clS whole out p).length ≤ out.length + 1 := by
  unfold clS
  split
  · simp
  · split
    · simp; omega
    · split
      · omega
      · simp
theorem clF_len (whole : Bool) : ∀ (l out : List (List UInt8)), (l.foldl (clS whole) out).length ≤ out.length + l.length
  | [], out => by simp
  | p :: l, out => by
    rw [List.foldl_cons, List.length_cons]
    have h1 := clF_len whole l (clS whole out p)
    have h2 := clS_len whole out p
    omega
theorem clL_len (whole : Bool) (l : List (List UInt8)) : (clL whole l).length ≤ l.length := by
  have := clF_len whole l []
  unfold clL
  simpa using this
theorem clF_mem {whole : Bool} {x : List UInt8} : ∀ {l out : List (List UInt8)}, x ∈ l.foldl (clS whole) out → x ∈ out ∨ x ∈ l
  | [], out, h => .inl h
  | p :: l, out, h => by
    rw [List.foldl_cons] at h
    rcases clF_mem h with h | h
    · rcases clS_mem h with h | h
      · exact .inl h
      · exact .inr (by simp [h])
    · exact .inr (List.mem_cons_of_mem _ h)
theorem clL_mem {whole : Bool} {l : List (List UInt8)} {x : List UInt8} (h : x ∈ clL whole l) : x ∈ l := by
  rcases clF_mem h with h | h
  · cases h
  · exact h
theorem join_snoc (y : List UInt8) (r : List (List UInt8)) (x : List UInt8) : Lib.join ((y :: r) ++ [x]) [47] = Lib.join (y :: r) [47] ++ 47 :: x := by
  rw [List.cons_append, Lib.join_cons, Lib.join_cons]
  simp [Lib.joinTail]
theorem join_one (x : List UInt8) : Lib.join [x] [47] = x := by
  rw [Lib.join_cons]
  simp [Lib.joinTail]
theorem joinTail_len (m : Nat) : ∀ (r : List (List UInt8)), (∀ x ∈ r, x.length ≤ m) → (Lib.joinTail [47] r).length ≤ r.length * (m + 1)
  | [], _ => by simp [Lib.joinTail]
  | x :: r, h => by
    have ih := joinTail_len m r (fun y hy => h y (List.mem_cons_of_mem _ hy))
    have hx := h x (List.mem_cons_self ..)
    unfold Lib.joinTail at ih ⊢
    simp only [List.map_cons, List.flatten_cons, List.length_append, List.length_cons, List.length_nil]
    rw [Nat.succ_mul]
    omega
theorem join_len (m : Nat) (l : List (List UInt8)) (h : ∀ x ∈ l, x.length ≤ m) : (Lib.join l [47]).length ≤ l.length * (m + 1) := by
  cases l with
  | nil => simp [Lib.join]
  | cons x r =>
    rw [Lib.join_cons, List.length_append, List.length_cons, Nat.succ_mul]
    have h1 := joinTail_len m r (fun y hy => h y (List.mem_cons_of_mem _ hy))
    have h2 := h x (List.mem_cons_self ..)
    omega
/-- each once, as they come first. -/
def onceL (l : List ByteArray) : List ByteArray := l.foldl (fun out p => if p ∈ out then out else out ++ [p]) []
theorem onceL_snoc (l : List ByteArray) (p : ByteArray) : onceL (l ++ [p]) = if p ∈ onceL l then onceL l else onceL l ++ [p] := by
  unfold onceL
  rw [List.foldl_append]
  rfl
theorem onceF_len : ∀ (l out : List ByteArray), (l.foldl (fun out p => if p ∈ out then out else out ++ [p]) out).length ≤ out.length + l.length
  | [], out => by simp
  | p :: l, out => by
    rw [List.foldl_cons, List.length_cons]
    have h1 := onceF_len l (if p ∈ out then out else out ++ [p])
    have h2 : (if p ∈ out then out else out ++ [p]).length ≤ out.length + 1 := by
      split
      · omega
      · simp
    omega
theorem onceL_len (l : List ByteArray) : (onceL l).length ≤ l.length := by
  have := onceF_len l []
  unfold onceL
  simpa using this
end Go.Proofs.YtaojpbgaengdpaaGreatDoor

/- Clean paths: ragpickerref02.Parts, ragpickerref03.Clean. -/
namespace Go.Proofs.YtaojpbgaengdpaaGreatDoor

open Go.RowKit

theorem filter_snoc_yes {α : Type} {p : α → Bool} (l : List α) (k : Nat) (hk : k < l.length) (h : p l[k] = true) : (l.take (k + 1)).filter p = (l.take k).filter p ++ [l[k]] := by
  rw [List.take_succ_eq_append_getElem hk, List.filter_append]
  simp [h]
theorem filter_snoc_no {α : Type} {p : α → Bool} (l : List α) (k : Nat) (hk : k < l.length) (h : p l[k] = false) : (l.take (k + 1)).filter p = (l.take k).filter p := by
  rw [List.take_succ_eq_append_getElem hk, List.filter_append]
  simp [h]
theorem OS.len {w : World} {base : Nat} {v : Value} {ls : List (List UInt8)} (h : OS w base v ls) : ∃ a c, v = .slice a ls.length c ∧ ls.length ≤ c ∧ c ≤ 9223372036854775807 := by
  obtain ⟨a, c, h1, h2, h3, -⟩ := own_form h
  exact ⟨a, c, h1, h2, h3⟩
theorem OS.keep2 {w w' : World} {base : Nat} {v : Value} {ls : List (List UInt8)} (h : OS w base v ls) (hb : Below w.heap.size w w') : OS w' base v ls := own_below h hb (Nat.le_refl _)
theorem tb_eq (a b : Int) (h : a = b) : (a == b) = true ∧ (a != b) = false := by subst h; simp
theorem tb_ne (a b : Int) (h : a ≠ b) : (a == b) = false ∧ (a != b) = true := by simp [h]
/-- a text of the call's own, where it stands. -/
theorem OS.at' {w : World} {base c : Nat} {a : Option Addr} {ls : List (List UInt8)} (h : OS w base (.slice a ls.length c) ls) (k : Nat) (hk : k < ls.length) : ∃ g, a = some ⟨g, 0, none⟩ ∧ g < w.heap.size ∧ w.cell? ⟨g, k, none⟩ = some (.string (str ls[k])) := by
  obtain ⟨a', c', hv, -, -, h1⟩ := own_form h
  injection hv with e1 e2 e3
  subst e1
  subst e3
  rcases h1 with ⟨-, h2, -⟩ | ⟨g, rfl, -, h3⟩
  · omega
  · exact ⟨g, rfl, h3, h.cell k hk⟩
/-- a slice less the last one. -/
theorem OS.less {w : World} {base c n : Nat} {a : Option Addr} {ls : List (List UInt8)} (h : OS w base (.slice a n c) ls) (hn : ls ≠ []) : OS w base (.slice a (ls.length - 1) c) ls.dropLast := by
  have hl : 0 < ls.length := List.length_pos_iff.2 hn
  obtain ⟨h1, ⟨-, h2⟩ | ⟨g, cap, cur, hv, hb, hg, hc, hm, hs, ht⟩⟩ := h
  · omega
  · injection hv with e1 e2 e3
    subst e1
    subst e2
    subst e3
    refine ⟨?_, .inr ⟨g, c, cur, ?_, hb, hg, ?_, hm, hs, ?_⟩⟩
    · rw [flat_len encS_len]
    · rw [List.length_dropLast]
    · rw [List.length_dropLast]; omega
    · rw [List.length_dropLast, show (ls.length - 1) * 1 = ls.length - 1 by omega]
      have e : ls.dropLast.flatMap encS = (ls.flatMap encS).take (ls.length - 1) := by
        conv => rhs; rw [← List.dropLast_concat_getLast hn, List.flatMap_append, List.take_append_of_le_length (by rw [flat_len encS_len, List.length_dropLast]; simp)]
        rw [List.take_of_length_le (by rw [flat_len encS_len, List.length_dropLast]; simp)]
      rw [e, ← ht, List.take_take]
      congr 1
      omega
theorem OS.low2 {w : World} {base base' : Nat} {v : Value} {ls : List (List UInt8)} (h : OS w base v ls) (hb : base' ≤ base) : OS w base' v ls :=
  ⟨h.1, h.2.imp id fun ⟨g, cap, cur, hv, hg, rest⟩ => ⟨g, cap, cur, hv, Nat.le_trans hb hg, rest⟩⟩
theorem OS.max {w : World} {base n c : Nat} {a : Option Addr} {ls : List (List UInt8)} (h : OS w base (.slice a n c) ls) : ls.length ≤ 9223372036854775807 := by
  obtain ⟨_, _, -, h2, h3⟩ := h.len
  omega
def saysB (p : List UInt8) : Bool := !(p == []) && !(p == [46])
set_option maxRecDepth 100000 in
set_option maxHeartbeats 1000000 in
/-- ragpickerref02.Parts. -/
theorem rparts_any (s : ByteArray) (w : World) (hs : s.size ≤ 100000) :
    Calls Tryz.prog 88 #[.string s] w fun e w' => (∃ v, e = .returned v ∧ OS w' w.heap.size v (partsL s.data.toList)) ∧ Below w.heap.size w w' := by
  have HPc := Lib.hid (pieces_any s w hs)
  have HDef := Lib.hid (show partsL s.data.toList = (spl 47 s.data.toList).filter saysB from rfl)
  have hlen : (spl 47 s.data.toList).length ≤ 100001 := by
    have h1 := (spl_len 47 s.data.toList).2
    have h2 : s.data.toList.length = s.size := Array.length_toList
    omega
  generalize partsL s.data.toList = R at HDef ⊢
  generalize spl 47 s.data.toList = ls at HPc HDef hlen
  go_enter Tryz.func88, Tryz.ntmps88
  go_wp2_with fail
  refine HPc.out.mono ?_
  rintro e w1 ⟨⟨g, cap, rfl, hO⟩, hb1⟩
  have HO := Lib.hid hO
  have HB := Lib.hid hb1
  have hw1 := hb1.size
  clear hO hb1
  go_wp2_with fail
  go_loopw [3, 5] (fun t3 t5 wr => ∃ (k : Nat), k ≤ ls.length ∧ t5 = .int .i64 k ∧ OS wr w1.heap.size t3 ((ls.take k).filter saysB) ∧ Below w1.heap.size w1 wr) (fun _ t5 _ => ls.length - (intOf t5).toNat)
  case atStart => exact ⟨0, Nat.zero_le _, rfl, ⟨rfl, .inl ⟨rfl, rfl⟩⟩, Below.refl _ _⟩
  case round =>
    obtain ⟨k, hk, rfl, hO1, hW⟩ := hrel
    have HO1 := Lib.hid hO1
    have HW := Lib.hid hW
    by_cases hlt : k < ls.length
    · obtain ⟨g', hg', hgl, hcl⟩ := (HO.out.keep2 hW).at' k hlt
      injection hg' with hg'
      injection hg' with e1
      subst e1
      have HYes := Lib.hid (filter_snoc_yes (p := saysB) ls k hlt)
      have HNo := Lib.hid (filter_snoc_no (p := saysB) ls k hlt)
      have hfl : ((ls.take k).filter saysB).length ≤ 1000000 := by
        have h1 := List.length_filter_le saysB (ls.take k)
        have h2 : (ls.take k).length ≤ ls.length := by rw [List.length_take]; omega
        omega
      obtain ⟨g2, cap2, W, hrun, hO2, hB2⟩ := hO1.app ls[k] hfl hW.size
      have HX := Lib.hid (And.intro hO2 hB2)
      have HTx := Lib.hid (ba_list (str ls[k]))
      rw [str_list] at HTx
      generalize ls[k] = x at hcl HYes HNo hrun HX HTx
      generalize str x = p at hcl hrun HTx
      clear hO1 hW hO2 hB2 hfl
      by_cases h1 : p.toList = []
      · have HN := Lib.hid (HNo.out (by rw [← HTx.out, h1]; rfl))
        clear hrun
        go_wp2_with fail
        go_roundw
        case measure => simp [intOf]; omega
        case rel => exact ⟨k + 1, by omega, by go_num, by rw [HN.out]; exact HO1.out, HW.out⟩
      · by_cases h2 : p.toList = [46]
        · have HN := Lib.hid (HNo.out (by rw [← HTx.out, h2]; rfl))
          clear hrun
          go_wp2_with fail
          go_roundw
          case measure => simp [intOf]; omega
          case rel => exact ⟨k + 1, by omega, by go_num, by rw [HN.out]; exact HO1.out, HW.out⟩
        · have HY := Lib.hid (HYes.out (by rw [← HTx.out]; unfold saysB; simp [h1, h2]))
          have hp1 : p.toList.isEmpty = false := by simpa using h1
          have hp2 : (p.toList == [46]) = false := by simpa using h2
          have HR := Lib.hid hrun
          clear h1 h2 hrun
          go_wp2_with (at_builtin; refine wpList_app_run rfl rfl rfl rfl HR.out ?_)
          go_roundw
          case measure => simp [intOf]; omega
          case rel => exact ⟨k + 1, by omega, by go_num, by rw [HY.out]; exact HX.out.1, HW.out.trans HX.out.2⟩
    · obtain rfl : k = ls.length := by omega
      rw [List.take_length, ← HDef.out] at HO1
      clear hO1 hW
      go_wp2_with fail
      go_ret
      exact ⟨⟨_, rfl, HO1.out.low2 hw1⟩, bnext HB.out HW.out⟩
end Go.Proofs.YtaojpbgaengdpaaGreatDoor
