/- The table (layer 13) as a list of nodes: its contracts, over this program. -/
import Derived.Test.YtojmbjkeckdilaaProg
import Derived.Test.YtojmbjkeckdilaaMap
namespace Go.Proofs.Ytojmbjkeckdilaa
open Go.RowKit

/-- a node. -/
structure Nd where
  no : Int
  dev : Int
  kind : Int
  mode : Int
  uid : Int
  gid : Int
  mtime : Int
  ctime : Int
  links : Int
  up : Int
  data : ByteArray
  ea : Option Addr
  el : Nat
  ec : Nat
def Nd.v (n : Nd) : Value := .agg #[.int .i64 n.no, .int .i64 n.dev, .int .i64 n.kind, .int .i64 n.mode, .int .i64 n.uid, .int .i64 n.gid, .int .i64 n.mtime, .int .i64 n.ctime, .int .i64 n.links, .int .i64 n.up, .string n.data, .slice n.ea n.el n.ec]
def nd0 : Nd := ⟨0, 0, 0, 0, 0, 0, 0, 0, 0, 0, ByteArray.empty, none, 0, 0⟩

def tabEnt (x : Nd × Nat) : Int × Value × Nat := (x.1.no, x.1.v, x.2)
def findNd (L : List (Nd × Nat)) (k : Int) : Option Nd := (L.find? (fun x => x.1.no == k)).map (·.1)

/-- a table: block p points to the map in block m. -/
structure Tab (w : World) (p m : Nat) (last : Int) (L : List (Nd × Nat)) (clk : Nat) : Prop where
  blk : Blk w p #[.map (some m), .int .i64 last] 72
  map : MapB w m (L.map tabEnt) clk
  once : KeysOnce (L.map tabEnt)
  low : ∀ x ∈ L, x.1.no ≤ last

theorem find_none_of_low {L : List (Nd × Nat)} {last : Int} (h : ∀ x ∈ L, x.1.no ≤ last) : mapFind (L.map tabEnt) (last + 1) = none := by
  rw [mapFind_none, List.findIdx?_eq_none_iff]
  simp only [List.mem_map, forall_exists_index, and_imp]
  rintro _ x hx rfl
  have := h x hx
  simp [tabEnt]; omega

set_option maxRecDepth 100000 in
set_option maxHeartbeats 400000 in
theorem add_any (n : Nd) (w : World) (p m : Nat) (last : Int) (L : List (Nd × Nat)) (clk : Nat) (hT : Tab w p m last L clk) (hl0 : 0 ≤ last) (hl1 : last ≤ 1000000) :
    Calls Try.prog 13 #[.pointer (some ⟨p, 0, none⟩), n.v] w fun e w' => e = .returned (.int .i64 (last + 1)) ∧ Tab w' p m (last + 1) (L ++ [({ n with no := last + 1 }, clk)]) (clk + 1) ∧ Mod (fun k => k = p ∨ k = m) w w' := by
  obtain ⟨pc, pf, pz⟩ := hT.blk.facts
  have mz := hT.map.lt
  have hpm : p ≠ m := by
    rintro rfl
    have h1 := hT.blk
    have h2 := hT.map
    unfold Blk at h1
    unfold MapB at h2
    rw [h1] at h2
    cases h2
  have hfn := find_none_of_low hT.low
  have pw : p ≠ w.heap.size := by omega
  have wp' : w.heap.size ≠ p := by omega
  have hq : ∀ (w : World) (r : Option Nat), (binOp .eql 70 (.map r) (.map none)).run Try.prog w = .ok (.bool r.isNone) w := fun w r => run_eql_map_nil w _ _ _ r Try.underlying70
  unfold Nd.v
  go_enter Try.func13, Try.ntmps13
  go_wp2_with fail
  have b1 := (hT.blk.set 1 (.int .i64 (last + 1))).old (.cells #[.int .i64 (last + 1), .int .i64 n.dev, .int .i64 n.kind, .int .i64 n.mode, .int .i64 n.uid, .int .i64 n.gid, .int .i64 n.mtime, .int .i64 n.ctime, .int .i64 n.links, .int .i64 n.up, .string n.data, .slice n.ea n.el n.ec] 29)
  have b2 := Blk.new (w.setCell ⟨p, 1, none⟩ (.int .i64 (last + 1))) #[.int .i64 (last + 1), .int .i64 n.dev, .int .i64 n.kind, .int .i64 n.mode, .int .i64 n.uid, .int .i64 n.gid, .int .i64 n.mtime, .int .i64 n.ctime, .int .i64 n.links, .int .i64 n.up, .string n.data, .slice n.ea n.el n.ec] 29
  have b3 := (hT.map.setOther ⟨p, 1, none⟩ (.int .i64 (last + 1)) hpm).old (.cells #[.int .i64 (last + 1), .int .i64 n.dev, .int .i64 n.kind, .int .i64 n.mode, .int .i64 n.uid, .int .i64 n.gid, .int .i64 n.mtime, .int .i64 n.ctime, .int .i64 n.links, .int .i64 n.up, .string n.data, .slice n.ea n.el n.ec] 29)
  have b4 := ((Mod.refl (fun k => k = p ∨ k = m) w).setCell (a := ⟨p, 1, none⟩) (.inl (.inl rfl)) (.int .i64 (last + 1))).alloc (.cells #[.int .i64 (last + 1), .int .i64 n.dev, .int .i64 n.kind, .int .i64 n.mode, .int .i64 n.uid, .int .i64 n.gid, .int .i64 n.mtime, .int .i64 n.ctime, .int .i64 n.links, .int .i64 n.up, .string n.data, .slice n.ea n.el n.ec] 29)
  rw [World.size_setCell] at b2
  generalize (w.setCell ⟨p, 1, none⟩ (.int .i64 (last + 1))).alloc (.cells #[.int .i64 (last + 1), .int .i64 n.dev, .int .i64 n.kind, .int .i64 n.mode, .int .i64 n.uid, .int .i64 n.gid, .int .i64 n.mtime, .int .i64 n.ctime, .int .i64 n.links, .int .i64 n.up, .string n.data, .slice n.ea n.el n.ec] 29) = W at b1 b2 b3 b4 ⊢
  obtain ⟨pc', -, -⟩ := b1.facts
  obtain ⟨nc, -, -⟩ := b2.facts
  obtain ⟨W2, hrun, b5, b6, b7⟩ := step_add (w := W.drew) Try.underlying70 Try.underlying3 b3 (.agg #[.int .i64 (last + 1), .int .i64 n.dev, .int .i64 n.kind, .int .i64 n.mode, .int .i64 n.uid, .int .i64 n.gid, .int .i64 n.mtime, .int .i64 n.ctime, .int .i64 n.links, .int .i64 n.up, .string n.data, .slice n.ea n.el n.ec]) hfn
  obtain ⟨nc2, -, -⟩ := (b6 _ _ _ b2).facts
  clear pc pf
  go_region
  go_wp2_with fail
  go_ret
  refine ⟨rfl, ⟨b6 _ _ _ b1, by rw [List.map_append]; exact b5, ?_, ?_⟩, (b4.drew).trans (b7.mono fun k hk => .inr hk)⟩
  · have := hT.once
    unfold KeysOnce at this ⊢
    rw [List.map_append, List.map_append, List.nodup_append]
    refine ⟨this, by simp, ?_⟩
    simp only [List.mem_map, List.mem_cons, List.not_mem_nil, or_false, forall_exists_index, and_imp]
    rintro a y x hx rfl rfl b y' x' rfl rfl rfl
    have := hT.low x hx
    simp only [tabEnt]; omega
  · intro x hx
    rcases List.mem_append.1 hx with hx | hx
    · have := hT.low x hx; omega
    · simp only [List.mem_cons, List.not_mem_nil, or_false] at hx
      subst hx
      exact Int.le_refl _

theorem mapFind_tab (L : List (Nd × Nat)) (k : Int) : mapFind (L.map tabEnt) k = (findNd L k).map Nd.v := by
  unfold mapFind findNd
  rw [List.find?_map]
  have : (fun x : Int × Value × Nat => x.1 == k) ∘ tabEnt = fun x : Nd × Nat => x.1.no == k := rfl
  rw [this]
  cases List.find? (fun x : Nd × Nat => x.1.no == k) L <;> rfl

set_option maxRecDepth 100000 in
set_option maxHeartbeats 400000 in
theorem new_table (w : World) :
    Calls Try.prog 11 #[] w fun e w' => e = .returned (.pointer (some ⟨w.heap.size + 1, 0, none⟩)) ∧ Tab w' (w.heap.size + 1) w.heap.size 0 [] 0 ∧ Below w.heap.size w w' := by
  have hmm := @run_makeMap Try.prog
  go_enter Try.func11, Try.ntmps11
  go_wp2
  go_ret
  refine ⟨rfl, ⟨?_, ?_, List.nodup_nil, by simp⟩, by go_grown⟩
  · have := Blk.new (w.alloc (.map #[] 0)) #[.map (some w.heap.size), .int .i64 0] 72
    rwa [World.size_alloc] at this
  · unfold MapB
    rw [Below.heap_alloc _ _ _ (by simp)]
    show (w.heap.push _)[w.heap.size]? = _
    simp

set_option maxRecDepth 100000 in
set_option maxHeartbeats 400000 in
theorem get_yes (n : Nd) (k : Int) (w : World) (p m : Nat) (last : Int) (L : List (Nd × Nat)) (clk : Nat) (hT : Tab w p m last L clk) (hf : findNd L k = some n) :
    Calls Try.prog 32 #[.pointer (some ⟨p, 0, none⟩), .int .i64 k] w fun e w' => e = .returned (.tuple #[n.v, .bool true]) ∧ Below w.heap.size w w' := by
  obtain ⟨pc, pf, pz⟩ := hT.blk.facts
  have hr : ∀ o, (Instr.lookup 70 (.map (some m)) (.int .i64 k) true).run Try.prog (w.alloc o) = .ok (.tuple #[.agg #[.int .i64 n.no, .int .i64 n.dev, .int .i64 n.kind, .int .i64 n.mode, .int .i64 n.uid, .int .i64 n.gid, .int .i64 n.mtime, .int .i64 n.ctime, .int .i64 n.links, .int .i64 n.up, .string n.data, .slice n.ea n.el n.ec], .bool true]) (w.alloc o) := fun o =>
    run_lookup_yes Try.underlying70 Try.underlying3 (hT.map.old o) (by rw [mapFind_tab, hf]; rfl)
  clear hf
  unfold Nd.v
  go_enter Try.func32, Try.ntmps32
  go_wp2
  go_returns
  exact ⟨rfl, by go_grown⟩

theorem zero_node (w : World) : (zeroValue 29).run Try.prog w = .ok nd0.v w := by kernel_rfl

set_option maxRecDepth 100000 in
set_option maxHeartbeats 400000 in
theorem get_no (k : Int) (w : World) (p m : Nat) (last : Int) (L : List (Nd × Nat)) (clk : Nat) (hT : Tab w p m last L clk) (hf : findNd L k = none) :
    Calls Try.prog 32 #[.pointer (some ⟨p, 0, none⟩), .int .i64 k] w fun e w' => e = .returned (.tuple #[nd0.v, .bool false]) ∧ Below w.heap.size w w' := by
  obtain ⟨pc, pf, pz⟩ := hT.blk.facts
  have hr : ∀ o, (Instr.lookup 70 (.map (some m)) (.int .i64 k) true).run Try.prog (w.alloc o) = .ok (.tuple #[.agg #[.int .i64 0, .int .i64 0, .int .i64 0, .int .i64 0, .int .i64 0, .int .i64 0, .int .i64 0, .int .i64 0, .int .i64 0, .int .i64 0, .string ByteArray.empty, .slice none 0 0], .bool false]) (w.alloc o) := fun o =>
    run_lookup_no Try.underlying70 Try.underlying3 (hT.map.old o) (by rw [mapFind_tab, hf]; rfl) (zero_node _)
  clear hf
  unfold Nd.v nd0
  go_enter Try.func32, Try.ntmps32
  go_wp2
  go_returns
  exact ⟨rfl, by go_grown⟩
end Go.Proofs.Ytojmbjkeckdilaa
