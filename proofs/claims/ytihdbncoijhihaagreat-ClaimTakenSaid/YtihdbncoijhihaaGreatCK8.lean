/- Texts of the proof, part 8. -/
import Derived.Lib.SliceRun
import Derived.Test.YtihdbncoijhihaaGreatProg
import Derived.Test.YtihdbncoijhihaaGreatCK7
import Derived.Test.YtihdbncoijhihaaGreatCK4
import Derived.Test.YtihdbncoijhihaaGreatCK5
set_option linter.unusedVariables false
set_option linter.unusedSimpArgs false
/- The table (layer 13) as a list of nodes: its contracts, over this program. -/
namespace Go.Proofs.YtihdbncoijhihaaGreat

open Go.RowKit

/-- a node. -/
structure Nd where
  no : Int
  dev : Int
  kind : Int
  mode : Int
  uid : Int
  gid : Int
  mtime : Int
  ctime : Int
  links : Int
  up : Int
  data : ByteArray
  ea : Option Addr
  el : Nat
  ec : Nat
def Nd.v (n : Nd) : Value := .agg #[.int .i64 n.no, .int .i64 n.dev, .int .i64 n.kind, .int .i64 n.mode, .int .i64 n.uid, .int .i64 n.gid, .int .i64 n.mtime, .int .i64 n.ctime, .int .i64 n.links, .int .i64 n.up, .string n.data, .slice n.ea n.el n.ec]
def nd0 : Nd := ⟨0, 0, 0, 0, 0, 0, 0, 0, 0, 0, ByteArray.empty, none, 0, 0⟩

def tabEnt (x : Nd × Nat) : Int × Value × Nat := (x.1.no, x.1.v, x.2)
def findNd (L : List (Nd × Nat)) (k : Int) : Option Nd := (L.find? (fun x => x.1.no == k)).map (·.1)

/-- a table: block p points to the map in block m. -/
structure Tab (w : World) (p m : Nat) (last : Int) (L : List (Nd × Nat)) (clk : Nat) : Prop where
  blk : Blk w p #[.map (some m), .int .i64 last] 136
  map : MapB w m (L.map tabEnt) clk
  once : KeysOnce (L.map tabEnt)
  low : ∀ x ∈ L, x.1.no ≤ last

theorem find_none_of_low {L : List (Nd × Nat)} {last : Int} (h : ∀ x ∈ L, x.1.no ≤ last) : mapFind (L.map tabEnt) (last + 1) = none := by
  rw [mapFind_none, List.findIdx?_eq_none_iff]
  simp only [List.mem_map, forall_exists_index, and_imp]
  rintro _ x hx rfl
  have := h x hx
  simp [tabEnt]; omega

set_option maxRecDepth 100000 in
set_option maxHeartbeats 400000 in
theorem add_any (n : Nd) (w : World) (p m : Nat) (last : Int) (L : List (Nd × Nat)) (clk : Nat) (hT : Tab w p m last L clk) (hl0 : 0 ≤ last) (hl1 : last ≤ 1000000) :
    Calls Tryz.prog 254 #[.pointer (some ⟨p, 0, none⟩), n.v] w fun e w' => e = .returned (.int .i64 (last + 1)) ∧ Tab w' p m (last + 1) (L ++ [({ n with no := last + 1 }, clk)]) (clk + 1) ∧ Mod (fun k => k = p ∨ k = m) w w' := by
  obtain ⟨pc, pf, pz⟩ := hT.blk.facts
  have mz := hT.map.lt
  have hpm : p ≠ m := by
    rintro rfl
    have h1 := hT.blk
    have h2 := hT.map
    unfold Blk at h1
    unfold MapB at h2
    rw [h1] at h2
    cases h2
  have hfn := find_none_of_low hT.low
  have pw : p ≠ w.heap.size := by omega
  have wp' : w.heap.size ≠ p := by omega
  have hq : ∀ (w : World) (r : Option Nat), (binOp .eql 134 (.map r) (.map none)).run Tryz.prog w = .ok (.bool r.isNone) w := fun w r => run_eql_map_nil w _ _ _ r Tryz.underlying134
  unfold Nd.v
  go_enter Tryz.func254, Tryz.ntmps254
  go_wp2_with fail
  have b1 := (hT.blk.set 1 (.int .i64 (last + 1))).old (.cells #[.int .i64 (last + 1), .int .i64 n.dev, .int .i64 n.kind, .int .i64 n.mode, .int .i64 n.uid, .int .i64 n.gid, .int .i64 n.mtime, .int .i64 n.ctime, .int .i64 n.links, .int .i64 n.up, .string n.data, .slice n.ea n.el n.ec] 49)
  have b2 := Blk.new (w.setCell ⟨p, 1, none⟩ (.int .i64 (last + 1))) #[.int .i64 (last + 1), .int .i64 n.dev, .int .i64 n.kind, .int .i64 n.mode, .int .i64 n.uid, .int .i64 n.gid, .int .i64 n.mtime, .int .i64 n.ctime, .int .i64 n.links, .int .i64 n.up, .string n.data, .slice n.ea n.el n.ec] 49
  have b3 := (hT.map.setOther ⟨p, 1, none⟩ (.int .i64 (last + 1)) hpm).old (.cells #[.int .i64 (last + 1), .int .i64 n.dev, .int .i64 n.kind, .int .i64 n.mode, .int .i64 n.uid, .int .i64 n.gid, .int .i64 n.mtime, .int .i64 n.ctime, .int .i64 n.links, .int .i64 n.up, .string n.data, .slice n.ea n.el n.ec] 49)
  have b4 := ((Mod.refl (fun k => k = p ∨ k = m) w).setCell (a := ⟨p, 1, none⟩) (.inl (.inl rfl)) (.int .i64 (last + 1))).alloc (.cells #[.int .i64 (last + 1), .int .i64 n.dev, .int .i64 n.kind, .int .i64 n.mode, .int .i64 n.uid, .int .i64 n.gid, .int .i64 n.mtime, .int .i64 n.ctime, .int .i64 n.links, .int .i64 n.up, .string n.data, .slice n.ea n.el n.ec] 49)
  rw [World.size_setCell] at b2
  generalize (w.setCell ⟨p, 1, none⟩ (.int .i64 (last + 1))).alloc (.cells #[.int .i64 (last + 1), .int .i64 n.dev, .int .i64 n.kind, .int .i64 n.mode, .int .i64 n.uid, .int .i64 n.gid, .int .i64 n.mtime, .int .i64 n.ctime, .int .i64 n.links, .int .i64 n.up, .string n.data, .slice n.ea n.el n.ec] 49) = W at b1 b2 b3 b4 ⊢
  obtain ⟨pc', -, -⟩ := b1.facts
  obtain ⟨nc, -, -⟩ := b2.facts
  obtain ⟨W2, hrun, b5, b6, b7⟩ := step_add (w := W.drew) Tryz.underlying134 Tryz.underlying3 b3 (.agg #[.int .i64 (last + 1), .int .i64 n.dev, .int .i64 n.kind, .int .i64 n.mode, .int .i64 n.uid, .int .i64 n.gid, .int .i64 n.mtime, .int .i64 n.ctime, .int .i64 n.links, .int .i64 n.up, .string n.data, .slice n.ea n.el n.ec]) hfn
  obtain ⟨nc2, -, -⟩ := (b6 _ _ _ b2).facts
  clear pc pf
  go_region
  go_wp2_with fail
  go_ret
  refine ⟨rfl, ⟨b6 _ _ _ b1, by rw [List.map_append]; exact b5, ?_, ?_⟩, (b4.drew).trans (b7.mono fun k hk => .inr hk)⟩
  · have := hT.once
    unfold KeysOnce at this ⊢
    rw [List.map_append, List.map_append, List.nodup_append]
    refine ⟨this, by simp, ?_⟩
    simp only [List.mem_map, List.mem_cons, List.not_mem_nil, or_false, forall_exists_index, and_imp]
    rintro a y x hx rfl rfl b y' x' rfl rfl rfl
    have := hT.low x hx
    simp only [tabEnt]; omega
  · intro x hx
    rcases List.mem_append.1 hx with hx | hx
    · have := hT.low x hx; omega
    · simp only [List.mem_cons, List.not_mem_nil, or_false] at hx
      subst hx
      exact Int.le_refl _

theorem mapFind_tab (L : List (Nd × Nat)) (k : Int) : mapFind (L.map tabEnt) k = (findNd L k).map Nd.v := by
  unfold mapFind findNd
  rw [List.find?_map]
  have : (fun x : Int × Value × Nat => x.1 == k) ∘ tabEnt = fun x : Nd × Nat => x.1.no == k := rfl
  rw [this]
  cases List.find? (fun x : Nd × Nat => x.1.no == k) L <;> rfl

set_option maxRecDepth 100000 in
set_option maxHeartbeats 400000 in
theorem new_table (w : World) :
    Calls Tryz.prog 228 #[] w fun e w' => e = .returned (.pointer (some ⟨w.heap.size + 1, 0, none⟩)) ∧ Tab w' (w.heap.size + 1) w.heap.size 0 [] 0 ∧ Below w.heap.size w w' := by
  have hmm := @run_makeMap Tryz.prog
  go_enter Tryz.func228, Tryz.ntmps228
  go_wp2
  go_ret
  refine ⟨rfl, ⟨?_, ?_, List.nodup_nil, by simp⟩, by go_grown⟩
  · have := Blk.new (w.alloc (.map #[] 0)) #[.map (some w.heap.size), .int .i64 0] 136
    rwa [World.size_alloc] at this
  · unfold MapB
    rw [Below.heap_alloc _ _ _ (by simp)]
    show (w.heap.push _)[w.heap.size]? = _
    simp

set_option maxRecDepth 100000 in
set_option maxHeartbeats 400000 in
theorem get_yes (n : Nd) (k : Int) (w : World) (p m : Nat) (last : Int) (L : List (Nd × Nat)) (clk : Nat) (hT : Tab w p m last L clk) (hf : findNd L k = some n) :
    Calls Tryz.prog 13 #[.pointer (some ⟨p, 0, none⟩), .int .i64 k] w fun e w' => e = .returned (.tuple #[n.v, .bool true]) ∧ Below w.heap.size w w' := by
  obtain ⟨pc, pf, pz⟩ := hT.blk.facts
  have hr : ∀ o, (Instr.lookup 134 (.map (some m)) (.int .i64 k) true).run Tryz.prog (w.alloc o) = .ok (.tuple #[.agg #[.int .i64 n.no, .int .i64 n.dev, .int .i64 n.kind, .int .i64 n.mode, .int .i64 n.uid, .int .i64 n.gid, .int .i64 n.mtime, .int .i64 n.ctime, .int .i64 n.links, .int .i64 n.up, .string n.data, .slice n.ea n.el n.ec], .bool true]) (w.alloc o) := fun o =>
    run_lookup_yes Tryz.underlying134 Tryz.underlying3 (hT.map.old o) (by rw [mapFind_tab, hf]; rfl)
  clear hf
  unfold Nd.v
  go_enter Tryz.func13, Tryz.ntmps13
  go_wp2
  go_returns
  exact ⟨rfl, by go_grown⟩

theorem zero_node (w : World) : (zeroValue 49).run Tryz.prog w = .ok nd0.v w := by kernel_rfl

set_option maxRecDepth 100000 in
set_option maxHeartbeats 400000 in
theorem get_no (k : Int) (w : World) (p m : Nat) (last : Int) (L : List (Nd × Nat)) (clk : Nat) (hT : Tab w p m last L clk) (hf : findNd L k = none) :
    Calls Tryz.prog 13 #[.pointer (some ⟨p, 0, none⟩), .int .i64 k] w fun e w' => e = .returned (.tuple #[nd0.v, .bool false]) ∧ Below w.heap.size w w' := by
  obtain ⟨pc, pf, pz⟩ := hT.blk.facts
  have hr : ∀ o, (Instr.lookup 134 (.map (some m)) (.int .i64 k) true).run Tryz.prog (w.alloc o) = .ok (.tuple #[.agg #[.int .i64 0, .int .i64 0, .int .i64 0, .int .i64 0, .int .i64 0, .int .i64 0, .int .i64 0, .int .i64 0, .int .i64 0, .int .i64 0, .string ByteArray.empty, .slice none 0 0], .bool false]) (w.alloc o) := fun o =>
    run_lookup_no Tryz.underlying134 Tryz.underlying3 (hT.map.old o) (by rw [mapFind_tab, hf]; rfl) (zero_node _)
  clear hf
  unfold Nd.v nd0
  go_enter Tryz.func13, Tryz.ntmps13
  go_wp2
  go_returns
  exact ⟨rfl, by go_grown⟩
end Go.Proofs.YtihdbncoijhihaaGreat

/- The table (layer 13): Drop, Set, Len. -/
namespace Go.Proofs.YtihdbncoijhihaaGreat

open Go.RowKit

theorem Tab.keep {w w' : World} {p m : Nat} {last : Int} {L : List (Nd × Nat)} {clk : Nat} (h : Tab w p m last L clk) (hb : Below w.heap.size w w') : Tab w' p m last L clk :=
  ⟨h.blk.keep hb, h.map.keep hb, h.once, h.low⟩

theorem Tab.ne {w : World} {p m : Nat} {last : Int} {L : List (Nd × Nat)} {clk : Nat} (hT : Tab w p m last L clk) : p ≠ m := by
  rintro rfl
  have h1 := hT.blk
  have h2 := hT.map
  unfold Blk at h1
  unfold MapB at h2
  rw [h1] at h2
  cases h2

theorem mapPut_tab (L : List (Nd × Nat)) (n : Nd) : mapPut (L.map tabEnt) n.no n.v = (L.map fun x => if x.1.no == n.no then (n, x.2) else x).map tabEnt := by
  unfold mapPut
  rw [List.map_map, List.map_map]
  apply List.map_congr_left
  intro x _
  by_cases h : x.1.no = n.no <;> simp [tabEnt, h]

set_option maxRecDepth 100000 in
set_option maxHeartbeats 400000 in
theorem set_yes (n0 n : Nd) (w : World) (p m : Nat) (last : Int) (L : List (Nd × Nat)) (clk : Nat) (hT : Tab w p m last L clk) (hf : findNd L n.no = some n0) :
    Calls Tryz.prog 209 #[.pointer (some ⟨p, 0, none⟩), n.v] w fun e w' => e = .returned (.bool true) ∧ Tab w' p m last (L.map fun x => if x.1.no == n.no then (n, x.2) else x) clk ∧ Mod (fun k => k = p ∨ k = m) w w' := by
  have Hg := Lib.hid (fun w' hT' => get_yes n0 n.no w' p m last L clk hT' hf)
  have Hf := Lib.hid (show mapFind (L.map tabEnt) n.no = some n0.v by rw [mapFind_tab, hf]; rfl)
  clear hf
  have hpm := hT.ne
  have pw : p ≠ w.heap.size := by have := hT.blk.lt; omega
  unfold Nd.v
  go_enter Tryz.func209, Tryz.ntmps209
  go_wp2_with fail
  refine (Hg.out _ (hT.keep ((Below.refl _ _).alloc (Nat.le_refl _) _))).mono ?_
  unfold Nd.v
  rintro e w1 ⟨rfl, hb1⟩
  go_wp2_with fail
  have b1 := (((hT.blk.old (.cells #[.int .i64 n.no, .int .i64 n.dev, .int .i64 n.kind, .int .i64 n.mode, .int .i64 n.uid, .int .i64 n.gid, .int .i64 n.mtime, .int .i64 n.ctime, .int .i64 n.links, .int .i64 n.up, .string n.data, .slice n.ea n.el n.ec] 49)).keep hb1).old (.cells #[.int .i64 n0.no, .int .i64 n0.dev, .int .i64 n0.kind, .int .i64 n0.mode, .int .i64 n0.uid, .int .i64 n0.gid, .int .i64 n0.mtime, .int .i64 n0.ctime, .int .i64 n0.links, .int .i64 n0.up, .string n0.data, .slice n0.ea n0.el n0.ec] 49)).drew
  have b2 := (((Blk.new w #[.int .i64 n.no, .int .i64 n.dev, .int .i64 n.kind, .int .i64 n.mode, .int .i64 n.uid, .int .i64 n.gid, .int .i64 n.mtime, .int .i64 n.ctime, .int .i64 n.links, .int .i64 n.up, .string n.data, .slice n.ea n.el n.ec] 49).keep hb1).old (.cells #[.int .i64 n0.no, .int .i64 n0.dev, .int .i64 n0.kind, .int .i64 n0.mode, .int .i64 n0.uid, .int .i64 n0.gid, .int .i64 n0.mtime, .int .i64 n0.ctime, .int .i64 n0.links, .int .i64 n0.up, .string n0.data, .slice n0.ea n0.el n0.ec] 49)).drew
  have hT1 := ((hT.keep ((Below.refl _ _).alloc (Nat.le_refl _) _)).keep hb1).keep ((Below.refl w1.heap.size w1).alloc (Nat.le_refl _) (.cells #[.int .i64 n0.no, .int .i64 n0.dev, .int .i64 n0.kind, .int .i64 n0.mode, .int .i64 n0.uid, .int .i64 n0.gid, .int .i64 n0.mtime, .int .i64 n0.ctime, .int .i64 n0.links, .int .i64 n0.up, .string n0.data, .slice n0.ea n0.el n0.ec] 49))
  have b4 : Mod (fun k => k = p ∨ k = m) w (w1.alloc (.cells #[.int .i64 n0.no, .int .i64 n0.dev, .int .i64 n0.kind, .int .i64 n0.mode, .int .i64 n0.uid, .int .i64 n0.gid, .int .i64 n0.mtime, .int .i64 n0.ctime, .int .i64 n0.links, .int .i64 n0.up, .string n0.data, .slice n0.ea n0.el n0.ec] 49)) := (((Mod.refl _ w).alloc _).trans (.of_below hb1)).alloc _
  clear hb1
  generalize w1.alloc (.cells #[.int .i64 n0.no, .int .i64 n0.dev, .int .i64 n0.kind, .int .i64 n0.mode, .int .i64 n0.uid, .int .i64 n0.gid, .int .i64 n0.mtime, .int .i64 n0.ctime, .int .i64 n0.links, .int .i64 n0.up, .string n0.data, .slice n0.ea n0.el n0.ec] 49) = W at b1 b2 hT1 b4 ⊢
  obtain ⟨pc', -, -⟩ := b1.facts
  obtain ⟨nc, -, -⟩ := b2.facts
  obtain ⟨W2, hrun, b5, b6, b7⟩ := step_put (w := W.drew) Tryz.underlying134 Tryz.underlying3 hT1.map hT1.once (.agg #[.int .i64 n.no, .int .i64 n.dev, .int .i64 n.kind, .int .i64 n.mode, .int .i64 n.uid, .int .i64 n.gid, .int .i64 n.mtime, .int .i64 n.ctime, .int .i64 n.links, .int .i64 n.up, .string n.data, .slice n.ea n.el n.ec]) Hf.out
  go_region
  go_wp2_with fail
  go_ret
  refine ⟨rfl, ⟨b6 _ _ _ hT1.blk, by rw [← mapPut_tab]; exact b5, ?_, ?_⟩, (b4.drew).trans (b7.mono fun k hk => .inr hk)⟩
  · have := hT.once
    rw [← mapPut_tab]
    unfold KeysOnce at this ⊢
    unfold mapPut
    rw [List.map_map, List.map_congr_left (g := fun x => x.1)]
    · exact this
    · intro x _
      simp only [Function.comp]
      split
      · rename_i h; simpa using (beq_iff_eq.1 h).symm
      · rfl
  · intro x hx
    obtain ⟨y, hy, rfl⟩ := List.mem_map.1 hx
    have := hT.low y hy
    split
    · rename_i h; have := beq_iff_eq.1 h; simp only; omega
    · exact this

end Go.Proofs.YtihdbncoijhihaaGreat

/- ragpickerlaw13.awake and TableOnce: they answer true; TableOnce over any bytes that read as a slice of at most 2^63-1. -/
namespace Go.Proofs.YtihdbncoijhihaaGreat

open Go.RowKit

/-- a slice of bytes, as it lies. -/
def BytesAt (w : World) (a : Option Addr) (len cap : Nat) (zs : List Int) : Prop :=
  (a = none ∧ len = 0 ∧ cap = 0 ∧ zs = []) ∨ (∃ b off : Nat, a = some ⟨b, off, none⟩ ∧ len ≤ cap ∧ cap ≤ 9223372036854775807 ∧ zs.length = cap ∧ ∀ j, j < cap → b < w.heap.size ∧ w.cell? ⟨b, off + j, none⟩ = some (.int .u8 (zs.getD j 0)) ∧ 0 ≤ zs.getD j 0 ∧ zs.getD j 0 ≤ 255)

end Go.Proofs.YtihdbncoijhihaaGreat

/- How the program lays a tree of nodes in memory: entries, nodes in the table, mounts; what turns and what stays. -/
namespace Go.Proofs.YtihdbncoijhihaaGreat

open Go.RowKit

def entC (x : En) : List Value := [.string x.name, .int .i64 x.no]
theorem entC_len (x : En) : (entC x).length = 2 := rfl
def entQ (cs : List Value) (x : En) : Prop := cs = entC x
/-- entries, as they lie. -/
structure EntsAt (w : World) (a : Option Addr) (n c : Nat) (es : List En) : Prop where
  sl : SliceAt w 2 entQ a n c es
  blk : ∀ p, a = some p → ∃ b off cur, p = ⟨b, off, none⟩ ∧ w.heap[b]? = some (.cells cur 146 (0, 0))
theorem EntsAt.nil (w : World) : EntsAt w none 0 0 [] := ⟨⟨rfl, Nat.le_refl _, by omega, .inl rfl⟩, fun p h => by cases h⟩
theorem EntsAt.len {w : World} {a : Option Addr} {n c : Nat} {es : List En} (h : EntsAt w a n c es) : es.length = n := h.sl.1
/-- what is not laid for entries may turn. -/
theorem EntsAt.turn {w w' : World} {a : Option Addr} {n c : Nat} {es : List En} (h : EntsAt w a n c es) (ht : ∀ (b : Nat) (cur : Array Value), w.heap[b]? = some (.cells cur 146 (0, 0)) → w'.heap[b]? = w.heap[b]?) (hs : w.heap.size ≤ w'.heap.size) : EntsAt w' a n c es := by
  refine ⟨⟨h.sl.1, h.sl.2.1, h.sl.2.2.1, h.sl.2.2.2.imp id ?_⟩, fun p hp => ?_⟩
  · rintro ⟨b, off, rfl, hb, hel⟩
    obtain ⟨b', off', cur, e, hblk⟩ := h.blk _ rfl
    injection e with e1 e2
    subst e1 e2
    refine ⟨b, off, rfl, Nat.lt_of_lt_of_le hb hs, fun i hi => ?_⟩
    obtain ⟨cs, h1, h2, h3⟩ := hel i hi
    refine ⟨cs, h1, h2, fun j hj => ?_⟩
    rw [← h3 j hj]
    simp only [World.cell?, ht _ _ hblk]
  · obtain ⟨b, off, cur, e, hblk⟩ := h.blk p hp
    exact ⟨b, off, cur, e, (ht _ _ hblk).trans hblk⟩
theorem EntsAt.keep {w w' : World} {a : Option Addr} {n c : Nat} {es : List En} (h : EntsAt w a n c es) (hb : Below w.heap.size w w') : EntsAt w' a n c es :=
  h.turn (fun b cur hc => hb.block b (Array.getElem?_eq_some_iff.1 hc).1) hb.size
theorem EntsAt.keepB {w w' : World} {a : Option Addr} {n c N : Nat} {es : List En} (h : EntsAt w a n c es) (hb : Below N w w') (hN : w.heap.size ≤ N) : EntsAt w' a n c es :=
  h.turn (fun b cur hc => hb.block b (Nat.lt_of_lt_of_le (Array.getElem?_eq_some_iff.1 hc).1 hN)) hb.size
theorem EntsAt.cell {w : World} {b off n c : Nat} {es : List En} (h : EntsAt w (some ⟨b, off, none⟩) n c es) (k : Nat) (hk : k < es.length) :
    w.cell? ⟨b, off + k * 2, none⟩ = some (.string es[k].name) ∧ w.cell? ⟨b, off + k * 2 + 1, none⟩ = some (.int .i64 es[k].no) := by
  obtain ⟨hl, -, -, h0 | ⟨b', off', he, hb, hel⟩⟩ := h.sl
  · omega
  · injection he with he
    injection he with e1 e2
    subst e1 e2
    obtain ⟨cs, h1, h2, h3⟩ := hel k hk
    subst h2
    exact ⟨h3 0 (by rw [entC_len]; omega), h3 1 (by rw [entC_len]; omega)⟩
theorem EntsAt.some_of {w : World} {a : Option Addr} {n c : Nat} {es : List En} (h : EntsAt w a n c es) (hn : 0 < n) : ∃ b off, a = some ⟨b, off, none⟩ ∧ b < w.heap.size := by
  obtain ⟨-, -, -, h0 | ⟨b', off', he, hb, -⟩⟩ := h.sl
  · omega
  · exact ⟨b', off', he, hb⟩

/-- a node's value. -/
def An.v (a : An) (ea : Option Addr) (el ec : Nat) : Value := .agg #[.int .i64 a.no, .int .i64 a.dev, .int .i64 a.kind, .int .i64 a.mode, .int .i64 a.uid, .int .i64 a.gid, .int .i64 a.mtime, .int .i64 a.ctime, .int .i64 a.links, .int .i64 a.up, .string a.data, .slice ea el ec]
def An.nd (a : An) (ea : Option Addr) (el ec : Nat) : Nd := ⟨a.no, a.dev, a.kind, a.mode, a.uid, a.gid, a.mtime, a.ctime, a.links, a.up, a.data, ea, el, ec⟩
structure Gn where
  a : An
  ea : Option Addr
  el : Nat
  ec : Nat
  clk : Nat
def Gn.nd (g : Gn) : Nd := g.a.nd g.ea g.el g.ec
def Gn.e (g : Gn) : Nd × Nat := (g.nd, g.clk)
def Dv.cs (d : Dv) : List Value := [.int .i64 d.root, .int .i64 d.over, .int .i64 d.b, .int .i64 d.n, .int .i64 d.mb, .int .i64 d.mn]
theorem Dv.cs_len (d : Dv) : d.cs.length = 6 := rfl
/-- where a world lies. -/
structure Rp where
  pt : Nat
  pm : Nat
  dv : Value
  G : List Gn
  clk : Nat
/-- the blocks that its methods write. -/
def Rp.F (R : Rp) (pw : Nat) (k : Nat) : Prop := k = pw ∨ k = R.pt ∨ k = R.pm ∨ R.dv.ownBlock = some k
/-- the tree S lies at pw, as R says. -/
structure WdAt (w : World) (pw : Nat) (R : Rp) (S : Fs) : Prop where
  blk : Blk w pw #[.pointer (some ⟨R.pt, 0, none⟩), R.dv] 58
  tab : Tab w R.pt R.pm S.last (R.G.map Gn.e) R.clk
  devs : w.ownsRow 0 214 6 R.dv S.ds.length (S.ds.flatMap Dv.cs)
  ns : S.ns = R.G.map (·.a)
  ents : ∀ g ∈ R.G, EntsAt w g.ea g.el g.ec g.a.ents
/-- from one world to the next one only such blocks have turned, and what it has more of them is new. -/
structure Stp (F F' : Nat → Prop) (w w' : World) : Prop where
  mod : Mod F w w'
  new : ∀ k, F' k → F k ∨ w.heap.size ≤ k
theorem Stp.of_below {F : Nat → Prop} {w w' : World} (h : Below w.heap.size w w') : Stp F F w w' := ⟨Mod.of_below h, fun _ h => .inl h⟩
theorem Stp.of_mod {F : Nat → Prop} {w w' : World} (h : Mod F w w') : Stp F F w w' := ⟨h, fun _ h => .inl h⟩
theorem Stp.trans {F F' F'' : Nat → Prop} {w w' w'' : World} (h : Stp F F' w w') (k : Stp F' F'' w' w'') : Stp F F'' w w'' :=
  ⟨⟨k.mod.os.trans h.mod.os, k.mod.tape.trans h.mod.tape, k.mod.output.trans h.mod.output, Nat.le_trans h.mod.size k.mod.size, fun i hi hs =>
      (k.mod.block i (Nat.lt_of_lt_of_le hi h.mod.size) (fun h' => (h.new i h').elim hs (fun hlt => by omega))).trans (h.mod.block i hi hs)⟩,
    fun i hi => (k.new i hi).elim (fun h' => h.new i h') (fun hlt => .inr (Nat.le_trans h.mod.size hlt))⟩
theorem Stp.below {F F' : Nat → Prop} {w w' : World} {N : Nat} (h : Stp F F' w w') (hF : ∀ k, F k → N ≤ k) (hN : N ≤ w.heap.size) : Below N w w' := h.mod.below hF hN
theorem Stp.above {F F' : Nat → Prop} {w w' : World} {N : Nat} (h : Stp F F' w w') (hF : ∀ k, F k → N ≤ k) (hN : N ≤ w.heap.size) : ∀ k, F' k → N ≤ k :=
  fun k hk => (h.new k hk).elim (hF k) (fun h' => Nat.le_trans hN h')
/-- such blocks are of these kinds. -/
def wdKind (o : Obj) : Bool := match o with
  | .cells _ t _ => t == 58 || t == 136 || t == 214
  | .map _ _ => true
  | _ => false
section

variable {w w' : World} {pw : Nat} {R : Rp} {S : Fs}

theorem WdAt.kind (h : WdAt w pw R S) {k : Nat} (hk : R.F pw k) : ∃ o, w.heap[k]? = some o ∧ wdKind o = true := by
  rcases hk with rfl | rfl | rfl | hk
  · exact ⟨_, h.blk, rfl⟩
  · exact ⟨_, h.tab.blk, rfl⟩
  · exact ⟨_, h.tab.map, rfl⟩
  · rcases h.devs.2 with ⟨h1, -⟩ | ⟨g, cap, cur, h1, -, hg, -⟩
    · rw [h1] at hk; cases hk
    · rw [h1] at hk
      simp only [Value.ownBlock, Option.some.injEq] at hk
      subst hk
      exact ⟨_, hg, rfl⟩
/-- entries stay where only a world's own blocks turn. -/
theorem EntsAt.wd {a : Option Addr} {n c : Nat} {es : List En} (he : EntsAt w a n c es) (h : WdAt w pw R S) {F' : Nat → Prop} (hs : Stp (R.F pw) F' w w') : EntsAt w' a n c es :=
  he.turn (fun b cur hc => hs.mod.block b (Array.getElem?_eq_some_iff.1 hc).1 (fun hk => by
    obtain ⟨o, ho, hd⟩ := h.kind hk
    rw [hc] at ho
    injection ho with ho
    subst ho
    rw [show wdKind (.cells cur 146 (0, 0)) = false from rfl] at hd
    cases hd)) hs.mod.size
/-- a block of another kind stays. -/
theorem Blk.wd {B : Nat} {vs : Array Value} {T : TypeId} (hb : Blk w B vs T) (h : WdAt w pw R S) {F' : Nat → Prop} (hs : Stp (R.F pw) F' w w') (hT : wdKind (.cells #[] T (0, 0)) = false) : Blk w' B vs T :=
  hb.mod hs.mod (fun hk => by
    obtain ⟨o, ho, hd⟩ := h.kind hk
    unfold Blk at hb
    rw [hb] at ho
    injection ho with ho
    subst ho
    rw [show wdKind (.cells vs T (0, 0)) = wdKind (.cells #[] T (0, 0)) from rfl, hT] at hd
    cases hd)
theorem WdAt.turn (h : WdAt w pw R S) (ht : ∀ (k : Nat) (o : Obj), w.heap[k]? = some o → (wdKind o = true ∨ ∃ cur, o = .cells cur 146 (0, 0)) → w'.heap[k]? = w.heap[k]?) (hs : w.heap.size ≤ w'.heap.size) : WdAt w' pw R S where
  blk := (ht _ _ h.blk (.inl rfl)).trans h.blk
  tab := ⟨(ht _ _ h.tab.blk (.inl rfl)).trans h.tab.blk, (ht _ _ h.tab.map (.inl rfl)).trans h.tab.map, h.tab.once, h.tab.low⟩
  devs := ⟨h.devs.1, h.devs.2.imp id fun ⟨g, cap, cur, h1, h2, hg, h3⟩ => ⟨g, cap, cur, h1, h2, (ht _ _ hg (.inl rfl)).trans hg, h3⟩⟩
  ns := h.ns
  ents := fun g hg => (h.ents g hg).turn (fun b cur hc => ht _ _ hc (.inr ⟨cur, rfl⟩)) hs
theorem WdAt.keep (h : WdAt w pw R S) (hb : Below w.heap.size w w') : WdAt w' pw R S :=
  h.turn (fun k o ho _ => hb.block k (Array.getElem?_eq_some_iff.1 ho).1) hb.size
/-- blocks of other kinds may turn. -/
theorem WdAt.mod (h : WdAt w pw R S) {F : Nat → Prop} (hm : Mod F w w') (hF : ∀ (k : Nat) (o : Obj), F k → w.heap[k]? = some o → wdKind o = false ∧ ∀ cur, o ≠ .cells cur 146 (0, 0)) : WdAt w' pw R S :=
  h.turn (fun k o ho hk => hm.block k (Array.getElem?_eq_some_iff.1 ho).1 (fun hf => by
    obtain ⟨h1, h2⟩ := hF k o hf ho
    rcases hk with hk | ⟨cur, hk⟩
    · rw [h1] at hk; cases hk
    · exact h2 cur hk)) hm.size
theorem findNd_G (G : List Gn) (k : Int) : findNd (G.map Gn.e) k = (G.find? (fun g => g.a.no == k)).map Gn.nd := by
  unfold findNd
  rw [List.find?_map]
  have : (fun x : Nd × Nat => x.1.no == k) ∘ Gn.e = fun g : Gn => g.a.no == k := rfl
  rw [this, Option.map_map]
  rfl
theorem get_G (h : WdAt w pw R S) (k : Int) : S.get k = (R.G.find? (fun g => g.a.no == k)).map (·.a) := by
  unfold Fs.get
  rw [h.ns, List.find?_map]
  rfl
end

end Go.Proofs.YtihdbncoijhihaaGreat

/- Mounts (layer 14), what reads alone: none, Devs, Root, Over. -/
namespace Go.Proofs.YtihdbncoijhihaaGreat

open Go.RowKit

/-- a mount's cells. -/
structure DvC (w : World) (g o : Nat) (d : Dv) : Prop where
  c0 : w.cell? ⟨g, o, none⟩ = some (.int .i64 d.root)
  c1 : w.cell? ⟨g, o + 1, none⟩ = some (.int .i64 d.over)
  c2 : w.cell? ⟨g, o + 2, none⟩ = some (.int .i64 d.b)
  c3 : w.cell? ⟨g, o + 3, none⟩ = some (.int .i64 d.n)
  c4 : w.cell? ⟨g, o + 4, none⟩ = some (.int .i64 d.mb)
  c5 : w.cell? ⟨g, o + 5, none⟩ = some (.int .i64 d.mn)
def dvQ (cs : List Value) (d : Dv) : Prop := cs = d.cs
section

variable {w w' : World} {pw : Nat} {R : Rp} {S : Fs}

theorem WdAt.devF (h : WdAt w pw R S) (hd : 0 < S.ds.length) : ∃ g cap, R.dv = .slice (some ⟨g, 0, none⟩) S.ds.length cap ∧ S.ds.length ≤ cap ∧ cap ≤ 9223372036854775807 ∧ g < w.heap.size ∧
    (∀ (i : Nat) (hi : i < S.ds.length), DvC w g (i * 6) S.ds[i]) ∧ (∀ i, w.frozen? ⟨g, i, none⟩ = false) ∧ ∃ cur, Blk w g cur 214 := by
  have h0 := h.devs
  obtain ⟨a, cap, hv, hle, h63, hf⟩ := own_form h0
  rcases hf with ⟨-, h1, -⟩ | ⟨g, rfl, -, hg⟩
  · omega
  · rw [hv] at h0
    obtain ⟨-, -, -, h1 | ⟨b, off, he, hb, hel⟩⟩ := own_slice (R := dvQ) (by omega) Dv.cs_len (fun _ => rfl) h0
    · omega
    · injection he with he
      injection he with e1 e2
      subst e1 e2
      obtain ⟨cur, hcur⟩ : ∃ cur, Blk w g cur 214 := by
        rcases h0.2 with ⟨h1, -⟩ | ⟨g', cap', cur, h1, -, hg', -⟩
        · cases h1
        · injection h1 with h1
          injection h1 with h1
          injection h1 with h1
          subst h1
          exact ⟨cur, hg'⟩
      refine ⟨g, cap, hv, hle, h63, hg, fun i hi => ?_, hcur.frozen, cur, hcur⟩
      obtain ⟨cs, h2, h3, h4⟩ := hel i hi
      subst h3
      have e : ∀ j (hj : j < 6), w.cell? ⟨g, i * 6 + j, none⟩ = some (S.ds[i].cs[j]'(by rw [Dv.cs_len]; exact hj)) := fun j hj => by
        have := h4 j (by rw [Dv.cs_len]; exact hj)
        rw [Nat.zero_add] at this
        exact this
      exact ⟨e 0 (by omega), e 1 (by omega), e 2 (by omega), e 3 (by omega), e 4 (by omega), e 5 (by omega)⟩

set_option maxHeartbeats 400000 in
theorem wnone_any (h : WdAt w pw R S) (hd : 0 < S.ds.length) :
    Calls Tryz.prog 115 #[.pointer (some ⟨pw, 0, none⟩)] w fun e w' => e = .returned (.bool false) ∧ w = w' := by
  obtain ⟨g, cap, hv, -, -, -, -, -, -⟩ := h.devF hd
  obtain ⟨pc, -, -⟩ := h.blk.facts
  rw [hv] at pc
  have hz : ¬ ((S.ds.length : Int) = 0) := by omega
  have hz2 : ((S.ds.length : Int) == 0) = false := by simpa using hz
  generalize S.ds.length = n at pc hz hz2
  clear h hv hd
  go_enter Tryz.func115, Tryz.ntmps115
  go_wp2
  go_ret
  exact ⟨rfl, rfl⟩

set_option maxHeartbeats 400000 in
theorem wdevs_any (h : WdAt w pw R S) (hd : 0 < S.ds.length) :
    Calls Tryz.prog 136 #[.pointer (some ⟨pw, 0, none⟩)] w fun e w' => e = .returned (.int .i64 S.ds.length) ∧ w = w' := by
  have HN := Lib.hid (wnone_any h hd)
  obtain ⟨g, cap, hv, -, -, -, -, -, -⟩ := h.devF hd
  obtain ⟨pc, -, -⟩ := h.blk.facts
  rw [hv] at pc
  generalize S.ds.length = n at pc ⊢
  clear h hv hd
  go_enter Tryz.func136, Tryz.ntmps136
  go_wp2_with fail
  refine HN.out.mono ?_
  rintro e w1 ⟨rfl, rfl⟩
  go_wp2
  go_ret
  exact ⟨rfl, rfl⟩

set_option maxHeartbeats 400000 in
theorem wroot_any (h : WdAt w pw R S) (hd : 0 < S.ds.length) (d : Int) :
    Calls Tryz.prog 55 #[.pointer (some ⟨pw, 0, none⟩), .int .i64 d] w fun e w' => e = .returned (.int .i64 (S.root d)) ∧ w = w' := by
  have HN := Lib.hid (wnone_any h hd)
  obtain ⟨g, cap, hv, hle, h63, hg, hc, -, -⟩ := h.devF hd
  obtain ⟨pc, -, -⟩ := h.blk.facts
  rw [hv] at pc
  clear h hv
  by_cases h1 : 1 ≤ d
  · by_cases h2 : d ≤ S.ds.length
    · obtain ⟨k, rfl⟩ : ∃ k : Nat, d = (k : Int) + 1 := ⟨(d - 1).toNat, by omega⟩
      have hk : k < S.ds.length := by omega
      have hr : S.root ((k : Int) + 1) = S.ds[k].root := by
        unfold Fs.root
        rw [if_pos ⟨h1, h2⟩, show ((k : Int) + 1 - 1).toNat = k by omega, List.getElem?_eq_getElem hk]
      rw [hr]
      have hcc := (hc _ hk).c0
      clear hc hr
      generalize S.ds[k] = v at hcc ⊢
      generalize S.ds.length = n at pc hle h2 hk hd
      go_enter Tryz.func55, Tryz.ntmps55
      go_wp2_with fail
      refine HN.out.mono ?_
      rintro e w1 ⟨rfl, rfl⟩
      go_wp2
      go_ret
      exact ⟨rfl, rfl⟩
    · rw [root_no (by omega)]
      have h2' : (S.ds.length : Int) < d := by omega
      clear hc
      generalize S.ds.length = n at pc hle h2 h2' hd
      go_enter Tryz.func55, Tryz.ntmps55
      go_wp2_with fail
      refine HN.out.mono ?_
      rintro e w1 ⟨rfl, rfl⟩
      go_wp2
      go_ret
      exact ⟨rfl, rfl⟩
  · rw [root_no (by omega)]
    have h1' : d < 1 := by omega
    clear hc
    generalize S.ds.length = n at pc hle hd
    go_enter Tryz.func55, Tryz.ntmps55
    go_wp2_with fail
    refine HN.out.mono ?_
    rintro e w1 ⟨rfl, rfl⟩
    go_wp2
    go_ret
    exact ⟨rfl, rfl⟩
end

end Go.Proofs.YtihdbncoijhihaaGreat
