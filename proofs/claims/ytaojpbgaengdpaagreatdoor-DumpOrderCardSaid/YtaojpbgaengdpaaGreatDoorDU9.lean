/- Texts of the proof, part 9. -/
import Derived.Test.YtaojpbgaengdpaaGreatDoorDU1
import Derived.Test.YtaojpbgaengdpaaGreatDoorProg
set_option linter.unusedVariables false
set_option linter.unusedSimpArgs false
/- A map whose keys are ints, as a list in the order of its entries: what a look-up, a store, a delete and len do to it. No program in sight but the map's type. -/
namespace Go.Proofs.YtaojpbgaengdpaaGreatDoor

open Go.RowKit

/-- one entry: key, value, when it came. -/
def ent (x : Int × Value × Nat) : MapEntry := { key := .int .i64 x.1, val := x.2.1, born := x.2.2 }
/-- block m is the map of these entries. -/
def MapB (w : World) (m : Nat) (l : List (Int × Value × Nat)) (clk : Nat) : Prop := w.heap[m]? = some (.map (l.map ent).toArray clk)
/-- each key once. -/
def KeysOnce (l : List (Int × Value × Nat)) : Prop := (l.map (·.1)).Nodup

def mapFind (l : List (Int × Value × Nat)) (k : Int) : Option Value := (l.find? (fun x => x.1 == k)).map (·.2.1)
def mapPut (l : List (Int × Value × Nat)) (k : Int) (v : Value) : List (Int × Value × Nat) := l.map fun x => if x.1 == k then (k, v, x.2.2) else x
def mapDel (l : List (Int × Value × Nat)) (k : Int) : List (Int × Value × Nat) := l.filter fun x => !(x.1 == k)

theorem MapB.lt {w : World} {m : Nat} {l : List (Int × Value × Nat)} {clk : Nat} (h : MapB w m l clk) : m < w.heap.size := by
  unfold MapB at h
  exact (Array.getElem?_eq_some_iff.1 h).1
theorem MapB.old {w : World} {m : Nat} {l : List (Int × Value × Nat)} {clk : Nat} (h : MapB w m l clk) (o : Obj) : MapB (w.alloc o) m l clk :=
  (Below.heap_alloc w o m h.lt).trans h
theorem MapB.keep {w w' : World} {m : Nat} {l : List (Int × Value × Nat)} {clk : Nat} (h : MapB w m l clk) (hb : Below w.heap.size w w') : MapB w' m l clk :=
  (hb.block m h.lt).trans h
theorem MapB.setOther {w : World} {m : Nat} {l : List (Int × Value × Nat)} {clk : Nat} (h : MapB w m l clk) (a : Addr) (v : Value) (hne : a.block ≠ m) : MapB (w.setCell a v) m l clk :=
  (Below.heap_setCell w a v m (fun e => hne e.symm)).trans h

theorem findNow_list (k : Int) : ∀ (l : List (Int × Value × Nat)) (i : Nat),
    Instr.findNow (.int .i64) (.int .i64 k) (l.map ent) i = some ((l.findIdx? (fun x => x.1 == k)).bind fun j => (l[j]?).map fun x => (i + j, x.2.1))
  | [], i => by simp [Instr.findNow]
  | x :: l, i => by
    have ih := findNow_list k l (i + 1)
    rw [List.map_cons]
    unfold Instr.findNow
    have hs : Instr.sameNow (.int .i64) (.int .i64 k) (ent x).key = some (k == x.1) := by simp [Instr.sameNow, ent]
    rw [hs]
    by_cases e : x.1 = k
    · subst e; simp [List.findIdx?_cons, ent]
    · have e1 : (k == x.1) = false := by simpa using fun h => e h.symm
      have e2 : (x.1 == k) = false := by simpa using e
      rw [e1]
      show Instr.findNow _ _ _ _ = _
      rw [ih]
      simp only [List.findIdx?_cons, e2, Bool.false_eq_true, if_false]
      congr 1
      cases List.findIdx? (fun x => x.1 == k) l with
      | none => rfl
      | some j => simp; congr 1; funext y; simp; omega

theorem mapFind_idx (k : Int) : ∀ (l : List (Int × Value × Nat)), mapFind l k = (l.findIdx? (fun x => x.1 == k)).bind fun j => (l[j]?).map fun x => x.2.1
  | [] => rfl
  | x :: l => by
    have ih := mapFind_idx k l
    unfold mapFind at ih ⊢
    by_cases e : (x.1 == k) = true
    · simp [List.findIdx?_cons, e]
    · simp only [Bool.not_eq_true] at e
      simp only [List.find?_cons, List.findIdx?_cons, e, Bool.false_eq_true, if_false, ih]
      cases List.findIdx? (fun x => x.1 == k) l <;> simp

theorem mapPut_idx (k : Int) (v : Value) : ∀ (l : List (Int × Value × Nat)) (j : Nat), KeysOnce l → l.findIdx? (fun x => x.1 == k) = some j →
    ((l.map ent).modify j fun e => { e with key := .int .i64 k, val := v }) = (mapPut l k v).map ent
  | [], j, _, h => by simp at h
  | x :: l, j, hn, h => by
    unfold KeysOnce at hn
    simp only [List.map_cons, List.nodup_cons] at hn
    obtain ⟨hx, hl⟩ := hn
    by_cases e : (x.1 == k) = true
    · simp only [List.findIdx?_cons, e, if_true, Option.some.injEq] at h
      subst h
      have e' : x.1 = k := by simpa using e
      have hrest : mapPut l k v = l := by
        unfold mapPut
        rw [List.map_congr_left (g := id)]
        · simp
        · intro y hy
          have : ¬ y.1 = k := fun h' => hx (by rw [e', ← h']; exact List.mem_map.2 ⟨y, hy, rfl⟩)
          simp [this]
      have hput : mapPut (x :: l) k v = (k, v, x.2.2) :: l := by
        unfold mapPut at hrest ⊢
        rw [List.map_cons, hrest, e, if_pos rfl]
      rw [hput]
      rfl
    · simp only [Bool.not_eq_true] at e
      simp only [List.findIdx?_cons, e, Bool.false_eq_true, if_false, Option.map_eq_some_iff] at h
      obtain ⟨j', hj, rfl⟩ := h
      have ih := mapPut_idx k v l j' hl hj
      unfold mapPut at ih ⊢
      simp only [List.map_cons, List.modify_succ_cons, e, Bool.false_eq_true, if_false]
      rw [ih]

theorem mapDel_idx (k : Int) : ∀ (l : List (Int × Value × Nat)) (j : Nat), KeysOnce l → l.findIdx? (fun x => x.1 == k) = some j →
    ((l.map ent).eraseIdx j) = (mapDel l k).map ent
  | [], j, _, h => by simp at h
  | x :: l, j, hn, h => by
    unfold KeysOnce at hn
    simp only [List.map_cons, List.nodup_cons] at hn
    obtain ⟨hx, hl⟩ := hn
    by_cases e : (x.1 == k) = true
    · simp only [List.findIdx?_cons, e, if_true, Option.some.injEq] at h
      subst h
      have e' : x.1 = k := by simpa using e
      have hrest : mapDel l k = l := by
        unfold mapDel
        rw [List.filter_eq_self]
        intro y hy
        have : ¬ y.1 = k := fun h' => hx (by rw [e', ← h']; exact List.mem_map.2 ⟨y, hy, rfl⟩)
        simp [this]
      unfold mapDel at hrest ⊢
      simp [e', hrest]
    · simp only [Bool.not_eq_true] at e
      simp only [List.findIdx?_cons, e, Bool.false_eq_true, if_false, Option.map_eq_some_iff] at h
      obtain ⟨j', hj, rfl⟩ := h
      have ih := mapDel_idx k l j' hl hj
      unfold mapDel at ih ⊢
      simp only [List.map_cons, List.eraseIdx_cons_succ, List.filter_cons, e, Bool.not_false, if_true]
      rw [ih]

theorem mapFind_none {l : List (Int × Value × Nat)} {k : Int} : mapFind l k = none ↔ l.findIdx? (fun x => x.1 == k) = none := by
  rw [List.findIdx?_eq_none_iff]
  unfold mapFind
  simp

theorem mapDel_none {l : List (Int × Value × Nat)} {k : Int} (h : mapFind l k = none) : mapDel l k = l := by
  have := mapFind_none.1 h
  rw [List.findIdx?_eq_none_iff] at this
  unfold mapDel
  rw [List.filter_eq_self]
  intro y hy
  simp [this y hy]

section

variable {P : Program} {K E T : TypeId} {w : World} {m : Nat} {l : List (Int × Value × Nat)} {clk : Nat}

theorem checkKey_int (b : Bool) (hk : P.underlying K = some (.int .i64)) (v : Value) (w : World) : (Instr.checkKey b 10000 K v).run P w = .ok () w := by
  unfold Instr.checkKey
  simp [run_underlying hk]

theorem run_findKey (hk : P.underlying K = some (.int .i64)) (k : Int) (w : World) : (Instr.findKey K (.int .i64 k) (l.map ent)).run P w = .ok ((l.findIdx? (fun x => x.1 == k)).bind fun j => (l[j]?).map fun x => (j, x.2.1)) w := by
  unfold Instr.findKey
  simp [run_underlying hk, findNow_list]

/-- 'v, ok := m[k]'. -/
theorem run_lookup_yes (ht : P.underlying T = some (.map K E)) (hk : P.underlying K = some (.int .i64)) (h : MapB w m l clk) {k : Int} {v : Value} (hf : mapFind l k = some v) :
    (Instr.lookup T (.map (some m)) (.int .i64 k) true).run P w = .ok (.tuple #[v, .bool true]) w := by
  rw [mapFind_idx] at hf
  unfold MapB at h
  simp only [Option.bind_eq_some_iff, Option.map_eq_some_iff] at hf
  obtain ⟨j, hj, x, hx, rfl⟩ := hf
  unfold Instr.lookup
  simp [run_underlying ht, getObj, Sem.run, h, checkKey_int _ hk, run_findKey hk, hj, hx]
theorem run_lookup_no (ht : P.underlying T = some (.map K E)) (hk : P.underlying K = some (.int .i64)) (h : MapB w m l clk) {k : Int} (hf : mapFind l k = none) {z : Value} (hz : (zeroValue E).run P w = .ok z w) :
    (Instr.lookup T (.map (some m)) (.int .i64 k) true).run P w = .ok (.tuple #[z, .bool false]) w := by
  rw [mapFind_none] at hf
  unfold MapB at h
  unfold Instr.lookup
  simp [run_underlying ht, getObj, Sem.run, h, checkKey_int _ hk, run_findKey hk, hf, hz]
theorem run_put (ht : P.underlying T = some (.map K E)) (hk : P.underlying K = some (.int .i64)) (h : MapB w m l clk) (hn : KeysOnce l) {k : Int} {v0 v : Value} (hf : mapFind l k = some v0) :
    (Instr.mapUpdate T (.map (some m)) (.int .i64 k) v).run P w = .ok () (ChangeMaps.setBlock w m (.map ((mapPut l k v).map ent).toArray clk)) := by
  rw [mapFind_idx] at hf
  unfold MapB at h
  simp only [Option.bind_eq_some_iff, Option.map_eq_some_iff] at hf
  obtain ⟨j, hj, x, hx, rfl⟩ := hf
  have hp := mapPut_idx k v l j hn hj
  have hxk : x.1 = k := by
    obtain ⟨hlt, h1, -⟩ := List.findIdx?_eq_some_iff_getElem.1 hj
    rw [List.getElem?_eq_getElem hlt] at hx
    obtain rfl := Option.some.inj hx
    simpa using h1
  have hst : (Instr.keyThatStays (ent x).key (.int .i64 k)).run P w = .ok (.int .i64 k) w := by
    subst hxk
    simp [Instr.keyThatStays, Instr.sameBits, ent]
  unfold Instr.mapUpdate
  simp [run_underlying ht, getObj, setObj, Sem.run, h, checkKey_int _ hk, run_findKey hk, hj, hx, hst, hp, ChangeMaps.setBlock]
theorem run_add (ht : P.underlying T = some (.map K E)) (hk : P.underlying K = some (.int .i64)) (h : MapB w m l clk) {k : Int} {v : Value} (hf : mapFind l k = none) :
    (Instr.mapUpdate T (.map (some m)) (.int .i64 k) v).run P w = .ok () (ChangeMaps.setBlock w m (.map ((l ++ [(k, v, clk)]).map ent).toArray (clk + 1))) := by
  rw [mapFind_none] at hf
  unfold MapB at h
  unfold Instr.mapUpdate
  simp [run_underlying ht, getObj, setObj, Sem.run, h, checkKey_int _ hk, run_findKey hk, hf, ChangeMaps.setBlock, ent]
theorem run_del (ht : P.underlying T = some (.map K E)) (hk : P.underlying K = some (.int .i64)) (h : MapB w m l clk) (hn : KeysOnce l) (ty : TypeId) (k : Int) :
    (Builtin.delete_ #[T, K] ty #[.map (some m), .int .i64 k]).run P w = .ok (.tuple #[]) (ChangeMaps.setBlock w m (.map ((mapDel l k).map ent).toArray clk)) := by
  unfold MapB at h
  cases hj : l.findIdx? (fun x => x.1 == k) with
  | none =>
    have hd := mapDel_none (mapFind_none.2 hj)
    unfold Builtin.delete_
    simp [run_underlying ht, getObj, setObj, Sem.run, h, checkKey_int _ hk, run_findKey hk, hj, hd, ChangeMaps.setBlock]
  | some j =>
    have hd := mapDel_idx k l j hn hj
    have hlt := (List.findIdx?_eq_some_iff_getElem.1 hj).1
    unfold Builtin.delete_
    simp [run_underlying ht, getObj, setObj, Sem.run, h, checkKey_int _ hk, run_findKey hk, hj, hlt, ChangeMaps.setBlock]
    rw [hd]
theorem run_len (ht : P.underlying T = some (.map K E)) (h : MapB w m l clk) (ty : TypeId) :
    (Builtin.len_ #[T] ty #[.map (some m)]).run P w = .ok (.int .i64 l.length) w := by
  unfold MapB at h
  unfold Builtin.len_
  simp [run_underlying ht, getObj, Sem.run, h, goInt]

theorem MapB.set (h : MapB w m l clk) (l' : List (Int × Value × Nat)) (clk' : Nat) :
    MapB (ChangeMaps.setBlock w m (.map (l'.map ent).toArray clk')) m l' clk' ∧ (∀ B vs T, Blk w B vs T → Blk (ChangeMaps.setBlock w m (.map (l'.map ent).toArray clk')) B vs T) ∧
      Mod (fun k => k = m) w (ChangeMaps.setBlock w m (.map (l'.map ent).toArray clk')) := by
  have hlt := h.lt
  refine ⟨?_, ?_, (Mod.refl (fun k => k = m) w).setBlock (b := m) (.inl rfl) _⟩
  · unfold MapB
    simp [ChangeMaps.setBlock, hlt]
  · intro B vs T hB
    refine hB.setBlock ?_ _
    rintro rfl
    unfold Blk at hB
    unfold MapB at h
    rw [h] at hB
    cases hB

theorem step_put (ht : P.underlying T = some (.map K E)) (hk : P.underlying K = some (.int .i64)) (h : MapB w m l clk) (hn : KeysOnce l) {k : Int} {v0 : Value} (v : Value) (hf : mapFind l k = some v0) :
    ∃ W, (Instr.mapUpdate T (.map (some m)) (.int .i64 k) v).run P w = .ok () W ∧ MapB W m (mapPut l k v) clk ∧ (∀ B vs T, Blk w B vs T → Blk W B vs T) ∧ Mod (fun k => k = m) w W :=
  ⟨_, run_put ht hk h hn hf, h.set _ _⟩
theorem step_add (ht : P.underlying T = some (.map K E)) (hk : P.underlying K = some (.int .i64)) (h : MapB w m l clk) {k : Int} (v : Value) (hf : mapFind l k = none) :
    ∃ W, (Instr.mapUpdate T (.map (some m)) (.int .i64 k) v).run P w = .ok () W ∧ MapB W m (l ++ [(k, v, clk)]) (clk + 1) ∧ (∀ B vs T, Blk w B vs T → Blk W B vs T) ∧ Mod (fun k => k = m) w W :=
  ⟨_, run_add ht hk h hf, h.set _ _⟩
theorem step_del (ht : P.underlying T = some (.map K E)) (hk : P.underlying K = some (.int .i64)) (h : MapB w m l clk) (hn : KeysOnce l) (ty : TypeId) (k : Int) :
    ∃ W, (Builtin.delete_ #[T, K] ty #[.map (some m), .int .i64 k]).run P w = .ok (.tuple #[]) W ∧ MapB W m (mapDel l k) clk ∧ (∀ B vs T, Blk w B vs T → Blk W B vs T) ∧ Mod (fun k => k = m) w W :=
  ⟨_, run_del ht hk h hn ty k, h.set _ _⟩
end

end Go.Proofs.YtaojpbgaengdpaaGreatDoor

/- The table (layer 13) as a list of nodes: its contracts, over this program. -/
namespace Go.Proofs.YtaojpbgaengdpaaGreatDoor

open Go.RowKit

/-- a node. -/
structure Nd where
  no : Int
  dev : Int
  kind : Int
  mode : Int
  uid : Int
  gid : Int
  mtime : Int
  ctime : Int
  links : Int
  up : Int
  data : ByteArray
  ea : Option Addr
  el : Nat
  ec : Nat
def Nd.v (n : Nd) : Value := .agg #[.int .i64 n.no, .int .i64 n.dev, .int .i64 n.kind, .int .i64 n.mode, .int .i64 n.uid, .int .i64 n.gid, .int .i64 n.mtime, .int .i64 n.ctime, .int .i64 n.links, .int .i64 n.up, .string n.data, .slice n.ea n.el n.ec]
def nd0 : Nd := ⟨0, 0, 0, 0, 0, 0, 0, 0, 0, 0, ByteArray.empty, none, 0, 0⟩

def tabEnt (x : Nd × Nat) : Int × Value × Nat := (x.1.no, x.1.v, x.2)
def findNd (L : List (Nd × Nat)) (k : Int) : Option Nd := (L.find? (fun x => x.1.no == k)).map (·.1)

/-- a table: block p points to the map in block m. -/
structure Tab (w : World) (p m : Nat) (last : Int) (L : List (Nd × Nat)) (clk : Nat) : Prop where
  blk : Blk w p #[.map (some m), .int .i64 last] 142
  map : MapB w m (L.map tabEnt) clk
  once : KeysOnce (L.map tabEnt)
  low : ∀ x ∈ L, x.1.no ≤ last

theorem find_none_of_low {L : List (Nd × Nat)} {last : Int} (h : ∀ x ∈ L, x.1.no ≤ last) : mapFind (L.map tabEnt) (last + 1) = none := by
  rw [mapFind_none, List.findIdx?_eq_none_iff]
  simp only [List.mem_map, forall_exists_index, and_imp]
  rintro _ x hx rfl
  have := h x hx
  simp [tabEnt]; omega

set_option maxRecDepth 100000 in
set_option maxHeartbeats 400000 in
theorem add_any (n : Nd) (w : World) (p m : Nat) (last : Int) (L : List (Nd × Nat)) (clk : Nat) (hT : Tab w p m last L clk) (hl0 : 0 ≤ last) (hl1 : last ≤ 1000000) :
    Calls Tryz.prog 128 #[.pointer (some ⟨p, 0, none⟩), n.v] w fun e w' => e = .returned (.int .i64 (last + 1)) ∧ Tab w' p m (last + 1) (L ++ [({ n with no := last + 1 }, clk)]) (clk + 1) ∧ Mod (fun k => k = p ∨ k = m) w w' := by
  obtain ⟨pc, pf, pz⟩ := hT.blk.facts
  have mz := hT.map.lt
  have hpm : p ≠ m := by
    rintro rfl
    have h1 := hT.blk
    have h2 := hT.map
    unfold Blk at h1
    unfold MapB at h2
    rw [h1] at h2
    cases h2
  have hfn := find_none_of_low hT.low
  have pw : p ≠ w.heap.size := by omega
  have wp' : w.heap.size ≠ p := by omega
  have hq : ∀ (w : World) (r : Option Nat), (binOp .eql 140 (.map r) (.map none)).run Tryz.prog w = .ok (.bool r.isNone) w := fun w r => run_eql_map_nil w _ _ _ r Tryz.underlying140
  unfold Nd.v
  go_enter Tryz.func128, Tryz.ntmps128
  go_wp2_with fail
  have b1 := (hT.blk.set 1 (.int .i64 (last + 1))).old (.cells #[.int .i64 (last + 1), .int .i64 n.dev, .int .i64 n.kind, .int .i64 n.mode, .int .i64 n.uid, .int .i64 n.gid, .int .i64 n.mtime, .int .i64 n.ctime, .int .i64 n.links, .int .i64 n.up, .string n.data, .slice n.ea n.el n.ec] 86)
  have b2 := Blk.new (w.setCell ⟨p, 1, none⟩ (.int .i64 (last + 1))) #[.int .i64 (last + 1), .int .i64 n.dev, .int .i64 n.kind, .int .i64 n.mode, .int .i64 n.uid, .int .i64 n.gid, .int .i64 n.mtime, .int .i64 n.ctime, .int .i64 n.links, .int .i64 n.up, .string n.data, .slice n.ea n.el n.ec] 86
  have b3 := (hT.map.setOther ⟨p, 1, none⟩ (.int .i64 (last + 1)) hpm).old (.cells #[.int .i64 (last + 1), .int .i64 n.dev, .int .i64 n.kind, .int .i64 n.mode, .int .i64 n.uid, .int .i64 n.gid, .int .i64 n.mtime, .int .i64 n.ctime, .int .i64 n.links, .int .i64 n.up, .string n.data, .slice n.ea n.el n.ec] 86)
  have b4 := ((Mod.refl (fun k => k = p ∨ k = m) w).setCell (a := ⟨p, 1, none⟩) (.inl (.inl rfl)) (.int .i64 (last + 1))).alloc (.cells #[.int .i64 (last + 1), .int .i64 n.dev, .int .i64 n.kind, .int .i64 n.mode, .int .i64 n.uid, .int .i64 n.gid, .int .i64 n.mtime, .int .i64 n.ctime, .int .i64 n.links, .int .i64 n.up, .string n.data, .slice n.ea n.el n.ec] 86)
  rw [World.size_setCell] at b2
  generalize (w.setCell ⟨p, 1, none⟩ (.int .i64 (last + 1))).alloc (.cells #[.int .i64 (last + 1), .int .i64 n.dev, .int .i64 n.kind, .int .i64 n.mode, .int .i64 n.uid, .int .i64 n.gid, .int .i64 n.mtime, .int .i64 n.ctime, .int .i64 n.links, .int .i64 n.up, .string n.data, .slice n.ea n.el n.ec] 86) = W at b1 b2 b3 b4 ⊢
  obtain ⟨pc', -, -⟩ := b1.facts
  obtain ⟨nc, -, -⟩ := b2.facts
  obtain ⟨W2, hrun, b5, b6, b7⟩ := step_add (w := W.drew) Tryz.underlying140 Tryz.underlying3 b3 (.agg #[.int .i64 (last + 1), .int .i64 n.dev, .int .i64 n.kind, .int .i64 n.mode, .int .i64 n.uid, .int .i64 n.gid, .int .i64 n.mtime, .int .i64 n.ctime, .int .i64 n.links, .int .i64 n.up, .string n.data, .slice n.ea n.el n.ec]) hfn
  obtain ⟨nc2, -, -⟩ := (b6 _ _ _ b2).facts
  clear pc pf
  go_region
  go_wp2_with fail
  go_ret
  refine ⟨rfl, ⟨b6 _ _ _ b1, by rw [List.map_append]; exact b5, ?_, ?_⟩, (b4.drew).trans (b7.mono fun k hk => .inr hk)⟩
  · have := hT.once
    unfold KeysOnce at this ⊢
    rw [List.map_append, List.map_append, List.nodup_append]
    refine ⟨this, by simp, ?_⟩
    simp only [List.mem_map, List.mem_cons, List.not_mem_nil, or_false, forall_exists_index, and_imp]
    rintro a y x hx rfl rfl b y' x' rfl rfl rfl
    have := hT.low x hx
    simp only [tabEnt]; omega
  · intro x hx
    rcases List.mem_append.1 hx with hx | hx
    · have := hT.low x hx; omega
    · simp only [List.mem_cons, List.not_mem_nil, or_false] at hx
      subst hx
      exact Int.le_refl _

theorem mapFind_tab (L : List (Nd × Nat)) (k : Int) : mapFind (L.map tabEnt) k = (findNd L k).map Nd.v := by
  unfold mapFind findNd
  rw [List.find?_map]
  have : (fun x : Int × Value × Nat => x.1 == k) ∘ tabEnt = fun x : Nd × Nat => x.1.no == k := rfl
  rw [this]
  cases List.find? (fun x : Nd × Nat => x.1.no == k) L <;> rfl

set_option maxRecDepth 100000 in
set_option maxHeartbeats 400000 in
theorem new_table (w : World) :
    Calls Tryz.prog 92 #[] w fun e w' => e = .returned (.pointer (some ⟨w.heap.size + 1, 0, none⟩)) ∧ Tab w' (w.heap.size + 1) w.heap.size 0 [] 0 ∧ Below w.heap.size w w' := by
  have hmm := @run_makeMap Tryz.prog
  go_enter Tryz.func92, Tryz.ntmps92
  go_wp2
  go_ret
  refine ⟨rfl, ⟨?_, ?_, List.nodup_nil, by simp⟩, by go_grown⟩
  · have := Blk.new (w.alloc (.map #[] 0)) #[.map (some w.heap.size), .int .i64 0] 142
    rwa [World.size_alloc] at this
  · unfold MapB
    rw [Below.heap_alloc _ _ _ (by simp)]
    show (w.heap.push _)[w.heap.size]? = _
    simp

set_option maxRecDepth 100000 in
set_option maxHeartbeats 400000 in
theorem get_yes (n : Nd) (k : Int) (w : World) (p m : Nat) (last : Int) (L : List (Nd × Nat)) (clk : Nat) (hT : Tab w p m last L clk) (hf : findNd L k = some n) :
    Calls Tryz.prog 39 #[.pointer (some ⟨p, 0, none⟩), .int .i64 k] w fun e w' => e = .returned (.tuple #[n.v, .bool true]) ∧ Below w.heap.size w w' := by
  obtain ⟨pc, pf, pz⟩ := hT.blk.facts
  have hr : ∀ o, (Instr.lookup 140 (.map (some m)) (.int .i64 k) true).run Tryz.prog (w.alloc o) = .ok (.tuple #[.agg #[.int .i64 n.no, .int .i64 n.dev, .int .i64 n.kind, .int .i64 n.mode, .int .i64 n.uid, .int .i64 n.gid, .int .i64 n.mtime, .int .i64 n.ctime, .int .i64 n.links, .int .i64 n.up, .string n.data, .slice n.ea n.el n.ec], .bool true]) (w.alloc o) := fun o =>
    run_lookup_yes Tryz.underlying140 Tryz.underlying3 (hT.map.old o) (by rw [mapFind_tab, hf]; rfl)
  clear hf
  unfold Nd.v
  go_enter Tryz.func39, Tryz.ntmps39
  go_wp2
  go_returns
  exact ⟨rfl, by go_grown⟩

theorem zero_node (w : World) : (zeroValue 86).run Tryz.prog w = .ok nd0.v w := by kernel_rfl

set_option maxRecDepth 100000 in
set_option maxHeartbeats 400000 in
theorem get_no (k : Int) (w : World) (p m : Nat) (last : Int) (L : List (Nd × Nat)) (clk : Nat) (hT : Tab w p m last L clk) (hf : findNd L k = none) :
    Calls Tryz.prog 39 #[.pointer (some ⟨p, 0, none⟩), .int .i64 k] w fun e w' => e = .returned (.tuple #[nd0.v, .bool false]) ∧ Below w.heap.size w w' := by
  obtain ⟨pc, pf, pz⟩ := hT.blk.facts
  have hr : ∀ o, (Instr.lookup 140 (.map (some m)) (.int .i64 k) true).run Tryz.prog (w.alloc o) = .ok (.tuple #[.agg #[.int .i64 0, .int .i64 0, .int .i64 0, .int .i64 0, .int .i64 0, .int .i64 0, .int .i64 0, .int .i64 0, .int .i64 0, .int .i64 0, .string ByteArray.empty, .slice none 0 0], .bool false]) (w.alloc o) := fun o =>
    run_lookup_no Tryz.underlying140 Tryz.underlying3 (hT.map.old o) (by rw [mapFind_tab, hf]; rfl) (zero_node _)
  clear hf
  unfold Nd.v nd0
  go_enter Tryz.func39, Tryz.ntmps39
  go_wp2
  go_returns
  exact ⟨rfl, by go_grown⟩
end Go.Proofs.YtaojpbgaengdpaaGreatDoor

/- The table (layer 13): Drop, Set, Len. -/
namespace Go.Proofs.YtaojpbgaengdpaaGreatDoor

open Go.RowKit

theorem Tab.keep {w w' : World} {p m : Nat} {last : Int} {L : List (Nd × Nat)} {clk : Nat} (h : Tab w p m last L clk) (hb : Below w.heap.size w w') : Tab w' p m last L clk :=
  ⟨h.blk.keep hb, h.map.keep hb, h.once, h.low⟩

theorem Tab.ne {w : World} {p m : Nat} {last : Int} {L : List (Nd × Nat)} {clk : Nat} (hT : Tab w p m last L clk) : p ≠ m := by
  rintro rfl
  have h1 := hT.blk
  have h2 := hT.map
  unfold Blk at h1
  unfold MapB at h2
  rw [h1] at h2
  cases h2

theorem findNd_del_none {L : List (Nd × Nat)} {k : Int} (h : findNd L k = none) : L.filter (fun x => !(x.1.no == k)) = L := by
  unfold findNd at h
  simp only [Option.map_eq_none_iff, List.find?_eq_none] at h
  rw [List.filter_eq_self]
  intro x hx
  simpa using h x hx

theorem mapDel_tab (L : List (Nd × Nat)) (k : Int) : mapDel (L.map tabEnt) k = (L.filter fun x => !(x.1.no == k)).map tabEnt := by
  unfold mapDel
  rw [List.filter_map]
  rfl

theorem mapPut_tab (L : List (Nd × Nat)) (n : Nd) : mapPut (L.map tabEnt) n.no n.v = (L.map fun x => if x.1.no == n.no then (n, x.2) else x).map tabEnt := by
  unfold mapPut
  rw [List.map_map, List.map_map]
  apply List.map_congr_left
  intro x _
  by_cases h : x.1.no = n.no <;> simp [tabEnt, h]

set_option maxRecDepth 100000 in
set_option maxHeartbeats 400000 in
theorem set_yes (n0 n : Nd) (w : World) (p m : Nat) (last : Int) (L : List (Nd × Nat)) (clk : Nat) (hT : Tab w p m last L clk) (hf : findNd L n.no = some n0) :
    Calls Tryz.prog 104 #[.pointer (some ⟨p, 0, none⟩), n.v] w fun e w' => e = .returned (.bool true) ∧ Tab w' p m last (L.map fun x => if x.1.no == n.no then (n, x.2) else x) clk ∧ Mod (fun k => k = p ∨ k = m) w w' := by
  have Hg := Lib.hid (fun w' hT' => get_yes n0 n.no w' p m last L clk hT' hf)
  have Hf := Lib.hid (show mapFind (L.map tabEnt) n.no = some n0.v by rw [mapFind_tab, hf]; rfl)
  clear hf
  have hpm := hT.ne
  have pw : p ≠ w.heap.size := by have := hT.blk.lt; omega
  unfold Nd.v
  go_enter Tryz.func104, Tryz.ntmps104
  go_wp2_with fail
  refine (Hg.out _ (hT.keep ((Below.refl _ _).alloc (Nat.le_refl _) _))).mono ?_
  unfold Nd.v
  rintro e w1 ⟨rfl, hb1⟩
  go_wp2_with fail
  have b1 := (((hT.blk.old (.cells #[.int .i64 n.no, .int .i64 n.dev, .int .i64 n.kind, .int .i64 n.mode, .int .i64 n.uid, .int .i64 n.gid, .int .i64 n.mtime, .int .i64 n.ctime, .int .i64 n.links, .int .i64 n.up, .string n.data, .slice n.ea n.el n.ec] 86)).keep hb1).old (.cells #[.int .i64 n0.no, .int .i64 n0.dev, .int .i64 n0.kind, .int .i64 n0.mode, .int .i64 n0.uid, .int .i64 n0.gid, .int .i64 n0.mtime, .int .i64 n0.ctime, .int .i64 n0.links, .int .i64 n0.up, .string n0.data, .slice n0.ea n0.el n0.ec] 86)).drew
  have b2 := (((Blk.new w #[.int .i64 n.no, .int .i64 n.dev, .int .i64 n.kind, .int .i64 n.mode, .int .i64 n.uid, .int .i64 n.gid, .int .i64 n.mtime, .int .i64 n.ctime, .int .i64 n.links, .int .i64 n.up, .string n.data, .slice n.ea n.el n.ec] 86).keep hb1).old (.cells #[.int .i64 n0.no, .int .i64 n0.dev, .int .i64 n0.kind, .int .i64 n0.mode, .int .i64 n0.uid, .int .i64 n0.gid, .int .i64 n0.mtime, .int .i64 n0.ctime, .int .i64 n0.links, .int .i64 n0.up, .string n0.data, .slice n0.ea n0.el n0.ec] 86)).drew
  have hT1 := ((hT.keep ((Below.refl _ _).alloc (Nat.le_refl _) _)).keep hb1).keep ((Below.refl w1.heap.size w1).alloc (Nat.le_refl _) (.cells #[.int .i64 n0.no, .int .i64 n0.dev, .int .i64 n0.kind, .int .i64 n0.mode, .int .i64 n0.uid, .int .i64 n0.gid, .int .i64 n0.mtime, .int .i64 n0.ctime, .int .i64 n0.links, .int .i64 n0.up, .string n0.data, .slice n0.ea n0.el n0.ec] 86))
  have b4 : Mod (fun k => k = p ∨ k = m) w (w1.alloc (.cells #[.int .i64 n0.no, .int .i64 n0.dev, .int .i64 n0.kind, .int .i64 n0.mode, .int .i64 n0.uid, .int .i64 n0.gid, .int .i64 n0.mtime, .int .i64 n0.ctime, .int .i64 n0.links, .int .i64 n0.up, .string n0.data, .slice n0.ea n0.el n0.ec] 86)) := (((Mod.refl _ w).alloc _).trans (.of_below hb1)).alloc _
  clear hb1
  generalize w1.alloc (.cells #[.int .i64 n0.no, .int .i64 n0.dev, .int .i64 n0.kind, .int .i64 n0.mode, .int .i64 n0.uid, .int .i64 n0.gid, .int .i64 n0.mtime, .int .i64 n0.ctime, .int .i64 n0.links, .int .i64 n0.up, .string n0.data, .slice n0.ea n0.el n0.ec] 86) = W at b1 b2 hT1 b4 ⊢
  obtain ⟨pc', -, -⟩ := b1.facts
  obtain ⟨nc, -, -⟩ := b2.facts
  obtain ⟨W2, hrun, b5, b6, b7⟩ := step_put (w := W.drew) Tryz.underlying140 Tryz.underlying3 hT1.map hT1.once (.agg #[.int .i64 n.no, .int .i64 n.dev, .int .i64 n.kind, .int .i64 n.mode, .int .i64 n.uid, .int .i64 n.gid, .int .i64 n.mtime, .int .i64 n.ctime, .int .i64 n.links, .int .i64 n.up, .string n.data, .slice n.ea n.el n.ec]) Hf.out
  go_region
  go_wp2_with fail
  go_ret
  refine ⟨rfl, ⟨b6 _ _ _ hT1.blk, by rw [← mapPut_tab]; exact b5, ?_, ?_⟩, (b4.drew).trans (b7.mono fun k hk => .inr hk)⟩
  · have := hT.once
    rw [← mapPut_tab]
    unfold KeysOnce at this ⊢
    unfold mapPut
    rw [List.map_map, List.map_congr_left (g := fun x => x.1)]
    · exact this
    · intro x _
      simp only [Function.comp]
      split
      · rename_i h; simpa using (beq_iff_eq.1 h).symm
      · rfl
  · intro x hx
    obtain ⟨y, hy, rfl⟩ := List.mem_map.1 hx
    have := hT.low y hy
    split
    · rename_i h; have := beq_iff_eq.1 h; simp only; omega
    · exact this

set_option maxRecDepth 100000 in
set_option maxHeartbeats 400000 in
theorem set_no (n : Nd) (w : World) (p m : Nat) (last : Int) (L : List (Nd × Nat)) (clk : Nat) (hT : Tab w p m last L clk) (hf : findNd L n.no = none) :
    Calls Tryz.prog 104 #[.pointer (some ⟨p, 0, none⟩), n.v] w fun e w' => e = .returned (.bool false) ∧ Below w.heap.size w w' := by
  have Hg := Lib.hid (fun w' hT' => get_no n.no w' p m last L clk hT' hf)
  clear hf
  unfold Nd.v
  go_enter Tryz.func104, Tryz.ntmps104
  go_wp2_with fail
  refine (Hg.out _ (hT.keep ((Below.refl _ _).alloc (Nat.le_refl _) _))).mono ?_
  unfold Nd.v nd0
  rintro e w1 ⟨rfl, hb1⟩
  go_wp2
  go_ret
  exact ⟨rfl, balloc (bnext (balloc (Below.refl _ _) _) hb1) _⟩

end Go.Proofs.YtaojpbgaengdpaaGreatDoor

/- ragpickerlaw13.awake and TableOnce: they answer true; TableOnce over any bytes that read as a slice of at most 2^63-1. -/
namespace Go.Proofs.YtaojpbgaengdpaaGreatDoor

open Go.RowKit

theorem Mod.belowTab {p m : Nat} {w W w' : World} (h : Mod (fun k => k = p ∨ k = m) W w') (hB : Below w.heap.size w W) (hp : w.heap.size ≤ p) (hm : w.heap.size ≤ m) : Below w.heap.size w w' :=
  hB.trans (h.below (by rintro k (rfl | rfl) <;> assumption) hB.size)

theorem findNd_cases (L : List (Nd × Nat)) (k : Int) : (∃ n, findNd L k = some n) ∨ findNd L k = none := by
  cases h : findNd L k with
  | none => exact .inr rfl
  | some n => exact .inl ⟨n, rfl⟩

/-- a slice of bytes, as it lies. -/
def BytesAt (w : World) (a : Option Addr) (len cap : Nat) (zs : List Int) : Prop :=
  (a = none ∧ len = 0 ∧ cap = 0 ∧ zs = []) ∨ (∃ b off : Nat, a = some ⟨b, off, none⟩ ∧ len ≤ cap ∧ cap ≤ 9223372036854775807 ∧ zs.length = cap ∧ ∀ j, j < cap → b < w.heap.size ∧ w.cell? ⟨b, off + j, none⟩ = some (.int .u8 (zs.getD j 0)) ∧ 0 ≤ zs.getD j 0 ∧ zs.getD j 0 ≤ 255)

end Go.Proofs.YtaojpbgaengdpaaGreatDoor
