/- Texts of the proof, part 15. -/
import Derived.Test.YtaojpbgaengdpaaProg
import Derived.Test.YtaojpbgaengdpaaST14
set_option linter.unusedVariables false
set_option linter.unusedSimpArgs false
/- The table (layer 13) as a list of nodes: its contracts, over this program. -/
namespace Go.Proofs.Ytaojpbgaengdpaa

open Go.RowKit

/-- a node. -/
structure Nd where
  no : Int
  dev : Int
  kind : Int
  mode : Int
  uid : Int
  gid : Int
  mtime : Int
  ctime : Int
  links : Int
  up : Int
  data : ByteArray
  ea : Option Addr
  el : Nat
  ec : Nat
def Nd.v (n : Nd) : Value := .agg #[.int .i64 n.no, .int .i64 n.dev, .int .i64 n.kind, .int .i64 n.mode, .int .i64 n.uid, .int .i64 n.gid, .int .i64 n.mtime, .int .i64 n.ctime, .int .i64 n.links, .int .i64 n.up, .string n.data, .slice n.ea n.el n.ec]
def nd0 : Nd := ⟨0, 0, 0, 0, 0, 0, 0, 0, 0, 0, ByteArray.empty, none, 0, 0⟩

def tabEnt (x : Nd × Nat) : Int × Value × Nat := (x.1.no, x.1.v, x.2)
def findNd (L : List (Nd × Nat)) (k : Int) : Option Nd := (L.find? (fun x => x.1.no == k)).map (·.1)

/-- a table: block p points to the map in block m. -/
structure Tab (w : World) (p m : Nat) (last : Int) (L : List (Nd × Nat)) (clk : Nat) : Prop where
  blk : Blk w p #[.map (some m), .int .i64 last] 68
  map : MapB w m (L.map tabEnt) clk
  once : KeysOnce (L.map tabEnt)
  low : ∀ x ∈ L, x.1.no ≤ last

theorem find_none_of_low {L : List (Nd × Nat)} {last : Int} (h : ∀ x ∈ L, x.1.no ≤ last) : mapFind (L.map tabEnt) (last + 1) = none := by
  rw [mapFind_none, List.findIdx?_eq_none_iff]
  simp only [List.mem_map, forall_exists_index, and_imp]
  rintro _ x hx rfl
  have := h x hx
  simp [tabEnt]; omega

set_option maxRecDepth 100000 in
set_option maxHeartbeats 400000 in
theorem add_any (n : Nd) (w : World) (p m : Nat) (last : Int) (L : List (Nd × Nat)) (clk : Nat) (hT : Tab w p m last L clk) (hl0 : 0 ≤ last) (hl1 : last ≤ 1000000) :
    Calls Try.prog 65 #[.pointer (some ⟨p, 0, none⟩), n.v] w fun e w' => e = .returned (.int .i64 (last + 1)) ∧ Tab w' p m (last + 1) (L ++ [({ n with no := last + 1 }, clk)]) (clk + 1) ∧ Mod (fun k => k = p ∨ k = m) w w' := by
  obtain ⟨pc, pf, pz⟩ := hT.blk.facts
  have mz := hT.map.lt
  have hpm : p ≠ m := by
    rintro rfl
    have h1 := hT.blk
    have h2 := hT.map
    unfold Blk at h1
    unfold MapB at h2
    rw [h1] at h2
    cases h2
  have hfn := find_none_of_low hT.low
  have pw : p ≠ w.heap.size := by omega
  have wp' : w.heap.size ≠ p := by omega
  have hq : ∀ (w : World) (r : Option Nat), (binOp .eql 66 (.map r) (.map none)).run Try.prog w = .ok (.bool r.isNone) w := fun w r => run_eql_map_nil w _ _ _ r Try.underlying66
  unfold Nd.v
  go_enter Try.func65, Try.ntmps65
  go_wp2_with fail
  have b1 := (hT.blk.set 1 (.int .i64 (last + 1))).old (.cells #[.int .i64 (last + 1), .int .i64 n.dev, .int .i64 n.kind, .int .i64 n.mode, .int .i64 n.uid, .int .i64 n.gid, .int .i64 n.mtime, .int .i64 n.ctime, .int .i64 n.links, .int .i64 n.up, .string n.data, .slice n.ea n.el n.ec] 97)
  have b2 := Blk.new (w.setCell ⟨p, 1, none⟩ (.int .i64 (last + 1))) #[.int .i64 (last + 1), .int .i64 n.dev, .int .i64 n.kind, .int .i64 n.mode, .int .i64 n.uid, .int .i64 n.gid, .int .i64 n.mtime, .int .i64 n.ctime, .int .i64 n.links, .int .i64 n.up, .string n.data, .slice n.ea n.el n.ec] 97
  have b3 := (hT.map.setOther ⟨p, 1, none⟩ (.int .i64 (last + 1)) hpm).old (.cells #[.int .i64 (last + 1), .int .i64 n.dev, .int .i64 n.kind, .int .i64 n.mode, .int .i64 n.uid, .int .i64 n.gid, .int .i64 n.mtime, .int .i64 n.ctime, .int .i64 n.links, .int .i64 n.up, .string n.data, .slice n.ea n.el n.ec] 97)
  have b4 := ((Mod.refl (fun k => k = p ∨ k = m) w).setCell (a := ⟨p, 1, none⟩) (.inl (.inl rfl)) (.int .i64 (last + 1))).alloc (.cells #[.int .i64 (last + 1), .int .i64 n.dev, .int .i64 n.kind, .int .i64 n.mode, .int .i64 n.uid, .int .i64 n.gid, .int .i64 n.mtime, .int .i64 n.ctime, .int .i64 n.links, .int .i64 n.up, .string n.data, .slice n.ea n.el n.ec] 97)
  rw [World.size_setCell] at b2
  generalize (w.setCell ⟨p, 1, none⟩ (.int .i64 (last + 1))).alloc (.cells #[.int .i64 (last + 1), .int .i64 n.dev, .int .i64 n.kind, .int .i64 n.mode, .int .i64 n.uid, .int .i64 n.gid, .int .i64 n.mtime, .int .i64 n.ctime, .int .i64 n.links, .int .i64 n.up, .string n.data, .slice n.ea n.el n.ec] 97) = W at b1 b2 b3 b4 ⊢
  obtain ⟨pc', -, -⟩ := b1.facts
  obtain ⟨nc, -, -⟩ := b2.facts
  obtain ⟨W2, hrun, b5, b6, b7⟩ := step_add (w := W.drew) Try.underlying66 Try.underlying3 b3 (.agg #[.int .i64 (last + 1), .int .i64 n.dev, .int .i64 n.kind, .int .i64 n.mode, .int .i64 n.uid, .int .i64 n.gid, .int .i64 n.mtime, .int .i64 n.ctime, .int .i64 n.links, .int .i64 n.up, .string n.data, .slice n.ea n.el n.ec]) hfn
  obtain ⟨nc2, -, -⟩ := (b6 _ _ _ b2).facts
  clear pc pf
  go_region
  go_wp2_with fail
  go_ret
  refine ⟨rfl, ⟨b6 _ _ _ b1, by rw [List.map_append]; exact b5, ?_, ?_⟩, (b4.drew).trans (b7.mono fun k hk => .inr hk)⟩
  · have := hT.once
    unfold KeysOnce at this ⊢
    rw [List.map_append, List.map_append, List.nodup_append]
    refine ⟨this, by simp, ?_⟩
    simp only [List.mem_map, List.mem_cons, List.not_mem_nil, or_false, forall_exists_index, and_imp]
    rintro a y x hx rfl rfl b y' x' rfl rfl rfl
    have := hT.low x hx
    simp only [tabEnt]; omega
  · intro x hx
    rcases List.mem_append.1 hx with hx | hx
    · have := hT.low x hx; omega
    · simp only [List.mem_cons, List.not_mem_nil, or_false] at hx
      subst hx
      exact Int.le_refl _

theorem mapFind_tab (L : List (Nd × Nat)) (k : Int) : mapFind (L.map tabEnt) k = (findNd L k).map Nd.v := by
  unfold mapFind findNd
  rw [List.find?_map]
  have : (fun x : Int × Value × Nat => x.1 == k) ∘ tabEnt = fun x : Nd × Nat => x.1.no == k := rfl
  rw [this]
  cases List.find? (fun x : Nd × Nat => x.1.no == k) L <;> rfl

set_option maxRecDepth 100000 in
set_option maxHeartbeats 400000 in
theorem new_table (w : World) :
    Calls Try.prog 44 #[] w fun e w' => e = .returned (.pointer (some ⟨w.heap.size + 1, 0, none⟩)) ∧ Tab w' (w.heap.size + 1) w.heap.size 0 [] 0 ∧ Below w.heap.size w w' := by
  have hmm := @run_makeMap Try.prog
  go_enter Try.func44, Try.ntmps44
  go_wp2
  go_ret
  refine ⟨rfl, ⟨?_, ?_, List.nodup_nil, by simp⟩, by go_grown⟩
  · have := Blk.new (w.alloc (.map #[] 0)) #[.map (some w.heap.size), .int .i64 0] 68
    rwa [World.size_alloc] at this
  · unfold MapB
    rw [Below.heap_alloc _ _ _ (by simp)]
    show (w.heap.push _)[w.heap.size]? = _
    simp

set_option maxRecDepth 100000 in
set_option maxHeartbeats 400000 in
theorem get_yes (n : Nd) (k : Int) (w : World) (p m : Nat) (last : Int) (L : List (Nd × Nat)) (clk : Nat) (hT : Tab w p m last L clk) (hf : findNd L k = some n) :
    Calls Try.prog 41 #[.pointer (some ⟨p, 0, none⟩), .int .i64 k] w fun e w' => e = .returned (.tuple #[n.v, .bool true]) ∧ Below w.heap.size w w' := by
  obtain ⟨pc, pf, pz⟩ := hT.blk.facts
  have hr : ∀ o, (Instr.lookup 66 (.map (some m)) (.int .i64 k) true).run Try.prog (w.alloc o) = .ok (.tuple #[.agg #[.int .i64 n.no, .int .i64 n.dev, .int .i64 n.kind, .int .i64 n.mode, .int .i64 n.uid, .int .i64 n.gid, .int .i64 n.mtime, .int .i64 n.ctime, .int .i64 n.links, .int .i64 n.up, .string n.data, .slice n.ea n.el n.ec], .bool true]) (w.alloc o) := fun o =>
    run_lookup_yes Try.underlying66 Try.underlying3 (hT.map.old o) (by rw [mapFind_tab, hf]; rfl)
  clear hf
  unfold Nd.v
  go_enter Try.func41, Try.ntmps41
  go_wp2
  go_returns
  exact ⟨rfl, by go_grown⟩

theorem zero_node (w : World) : (zeroValue 97).run Try.prog w = .ok nd0.v w := by kernel_rfl

set_option maxRecDepth 100000 in
set_option maxHeartbeats 400000 in
theorem get_no (k : Int) (w : World) (p m : Nat) (last : Int) (L : List (Nd × Nat)) (clk : Nat) (hT : Tab w p m last L clk) (hf : findNd L k = none) :
    Calls Try.prog 41 #[.pointer (some ⟨p, 0, none⟩), .int .i64 k] w fun e w' => e = .returned (.tuple #[nd0.v, .bool false]) ∧ Below w.heap.size w w' := by
  obtain ⟨pc, pf, pz⟩ := hT.blk.facts
  have hr : ∀ o, (Instr.lookup 66 (.map (some m)) (.int .i64 k) true).run Try.prog (w.alloc o) = .ok (.tuple #[.agg #[.int .i64 0, .int .i64 0, .int .i64 0, .int .i64 0, .int .i64 0, .int .i64 0, .int .i64 0, .int .i64 0, .int .i64 0, .int .i64 0, .string ByteArray.empty, .slice none 0 0], .bool false]) (w.alloc o) := fun o =>
    run_lookup_no Try.underlying66 Try.underlying3 (hT.map.old o) (by rw [mapFind_tab, hf]; rfl) (zero_node _)
  clear hf
  unfold Nd.v nd0
  go_enter Try.func41, Try.ntmps41
  go_wp2
  go_returns
  exact ⟨rfl, by go_grown⟩
end Go.Proofs.Ytaojpbgaengdpaa

/- The table (layer 13): Drop, Set, Len. -/
namespace Go.Proofs.Ytaojpbgaengdpaa

open Go.RowKit

theorem Tab.keep {w w' : World} {p m : Nat} {last : Int} {L : List (Nd × Nat)} {clk : Nat} (h : Tab w p m last L clk) (hb : Below w.heap.size w w') : Tab w' p m last L clk :=
  ⟨h.blk.keep hb, h.map.keep hb, h.once, h.low⟩

theorem Tab.ne {w : World} {p m : Nat} {last : Int} {L : List (Nd × Nat)} {clk : Nat} (hT : Tab w p m last L clk) : p ≠ m := by
  rintro rfl
  have h1 := hT.blk
  have h2 := hT.map
  unfold Blk at h1
  unfold MapB at h2
  rw [h1] at h2
  cases h2

theorem findNd_del_none {L : List (Nd × Nat)} {k : Int} (h : findNd L k = none) : L.filter (fun x => !(x.1.no == k)) = L := by
  unfold findNd at h
  simp only [Option.map_eq_none_iff, List.find?_eq_none] at h
  rw [List.filter_eq_self]
  intro x hx
  simpa using h x hx

theorem mapDel_tab (L : List (Nd × Nat)) (k : Int) : mapDel (L.map tabEnt) k = (L.filter fun x => !(x.1.no == k)).map tabEnt := by
  unfold mapDel
  rw [List.filter_map]
  rfl

theorem mapPut_tab (L : List (Nd × Nat)) (n : Nd) : mapPut (L.map tabEnt) n.no n.v = (L.map fun x => if x.1.no == n.no then (n, x.2) else x).map tabEnt := by
  unfold mapPut
  rw [List.map_map, List.map_map]
  apply List.map_congr_left
  intro x _
  by_cases h : x.1.no = n.no <;> simp [tabEnt, h]

set_option maxRecDepth 100000 in
set_option maxHeartbeats 400000 in
theorem set_yes (n0 n : Nd) (w : World) (p m : Nat) (last : Int) (L : List (Nd × Nat)) (clk : Nat) (hT : Tab w p m last L clk) (hf : findNd L n.no = some n0) :
    Calls Try.prog 55 #[.pointer (some ⟨p, 0, none⟩), n.v] w fun e w' => e = .returned (.bool true) ∧ Tab w' p m last (L.map fun x => if x.1.no == n.no then (n, x.2) else x) clk ∧ Mod (fun k => k = p ∨ k = m) w w' := by
  have Hg := Lib.hid (fun w' hT' => get_yes n0 n.no w' p m last L clk hT' hf)
  have Hf := Lib.hid (show mapFind (L.map tabEnt) n.no = some n0.v by rw [mapFind_tab, hf]; rfl)
  clear hf
  have hpm := hT.ne
  have pw : p ≠ w.heap.size := by have := hT.blk.lt; omega
  unfold Nd.v
  go_enter Try.func55, Try.ntmps55
  go_wp2_with fail
  refine (Hg.out _ (hT.keep ((Below.refl _ _).alloc (Nat.le_refl _) _))).mono ?_
  unfold Nd.v
  rintro e w1 ⟨rfl, hb1⟩
  go_wp2_with fail
  have b1 := (((hT.blk.old (.cells #[.int .i64 n.no, .int .i64 n.dev, .int .i64 n.kind, .int .i64 n.mode, .int .i64 n.uid, .int .i64 n.gid, .int .i64 n.mtime, .int .i64 n.ctime, .int .i64 n.links, .int .i64 n.up, .string n.data, .slice n.ea n.el n.ec] 97)).keep hb1).old (.cells #[.int .i64 n0.no, .int .i64 n0.dev, .int .i64 n0.kind, .int .i64 n0.mode, .int .i64 n0.uid, .int .i64 n0.gid, .int .i64 n0.mtime, .int .i64 n0.ctime, .int .i64 n0.links, .int .i64 n0.up, .string n0.data, .slice n0.ea n0.el n0.ec] 97)).drew
  have b2 := (((Blk.new w #[.int .i64 n.no, .int .i64 n.dev, .int .i64 n.kind, .int .i64 n.mode, .int .i64 n.uid, .int .i64 n.gid, .int .i64 n.mtime, .int .i64 n.ctime, .int .i64 n.links, .int .i64 n.up, .string n.data, .slice n.ea n.el n.ec] 97).keep hb1).old (.cells #[.int .i64 n0.no, .int .i64 n0.dev, .int .i64 n0.kind, .int .i64 n0.mode, .int .i64 n0.uid, .int .i64 n0.gid, .int .i64 n0.mtime, .int .i64 n0.ctime, .int .i64 n0.links, .int .i64 n0.up, .string n0.data, .slice n0.ea n0.el n0.ec] 97)).drew
  have hT1 := ((hT.keep ((Below.refl _ _).alloc (Nat.le_refl _) _)).keep hb1).keep ((Below.refl w1.heap.size w1).alloc (Nat.le_refl _) (.cells #[.int .i64 n0.no, .int .i64 n0.dev, .int .i64 n0.kind, .int .i64 n0.mode, .int .i64 n0.uid, .int .i64 n0.gid, .int .i64 n0.mtime, .int .i64 n0.ctime, .int .i64 n0.links, .int .i64 n0.up, .string n0.data, .slice n0.ea n0.el n0.ec] 97))
  have b4 : Mod (fun k => k = p ∨ k = m) w (w1.alloc (.cells #[.int .i64 n0.no, .int .i64 n0.dev, .int .i64 n0.kind, .int .i64 n0.mode, .int .i64 n0.uid, .int .i64 n0.gid, .int .i64 n0.mtime, .int .i64 n0.ctime, .int .i64 n0.links, .int .i64 n0.up, .string n0.data, .slice n0.ea n0.el n0.ec] 97)) := (((Mod.refl _ w).alloc _).trans (.of_below hb1)).alloc _
  clear hb1
  generalize w1.alloc (.cells #[.int .i64 n0.no, .int .i64 n0.dev, .int .i64 n0.kind, .int .i64 n0.mode, .int .i64 n0.uid, .int .i64 n0.gid, .int .i64 n0.mtime, .int .i64 n0.ctime, .int .i64 n0.links, .int .i64 n0.up, .string n0.data, .slice n0.ea n0.el n0.ec] 97) = W at b1 b2 hT1 b4 ⊢
  obtain ⟨pc', -, -⟩ := b1.facts
  obtain ⟨nc, -, -⟩ := b2.facts
  obtain ⟨W2, hrun, b5, b6, b7⟩ := step_put (w := W.drew) Try.underlying66 Try.underlying3 hT1.map hT1.once (.agg #[.int .i64 n.no, .int .i64 n.dev, .int .i64 n.kind, .int .i64 n.mode, .int .i64 n.uid, .int .i64 n.gid, .int .i64 n.mtime, .int .i64 n.ctime, .int .i64 n.links, .int .i64 n.up, .string n.data, .slice n.ea n.el n.ec]) Hf.out
  go_region
  go_wp2_with fail
  go_ret
  refine ⟨rfl, ⟨b6 _ _ _ hT1.blk, by rw [← mapPut_tab]; exact b5, ?_, ?_⟩, (b4.drew).trans (b7.mono fun k hk => .inr hk)⟩
  · have := hT.once
    rw [← mapPut_tab]
    unfold KeysOnce at this ⊢
    unfold mapPut
    rw [List.map_map, List.map_congr_left (g := fun x => x.1)]
    · exact this
    · intro x _
      simp only [Function.comp]
      split
      · rename_i h; simpa using (beq_iff_eq.1 h).symm
      · rfl
  · intro x hx
    obtain ⟨y, hy, rfl⟩ := List.mem_map.1 hx
    have := hT.low y hy
    split
    · rename_i h; have := beq_iff_eq.1 h; simp only; omega
    · exact this

set_option maxRecDepth 100000 in
set_option maxHeartbeats 400000 in
theorem set_no (n : Nd) (w : World) (p m : Nat) (last : Int) (L : List (Nd × Nat)) (clk : Nat) (hT : Tab w p m last L clk) (hf : findNd L n.no = none) :
    Calls Try.prog 55 #[.pointer (some ⟨p, 0, none⟩), n.v] w fun e w' => e = .returned (.bool false) ∧ Below w.heap.size w w' := by
  have Hg := Lib.hid (fun w' hT' => get_no n.no w' p m last L clk hT' hf)
  clear hf
  unfold Nd.v
  go_enter Try.func55, Try.ntmps55
  go_wp2_with fail
  refine (Hg.out _ (hT.keep ((Below.refl _ _).alloc (Nat.le_refl _) _))).mono ?_
  unfold Nd.v nd0
  rintro e w1 ⟨rfl, hb1⟩
  go_wp2
  go_ret
  exact ⟨rfl, balloc (bnext (balloc (Below.refl _ _) _) hb1) _⟩

set_option maxRecDepth 100000 in
set_option maxHeartbeats 400000 in
theorem len_table (w : World) (p m : Nat) (last : Int) (L : List (Nd × Nat)) (clk : Nat) (hT : Tab w p m last L clk) :
    Calls Try.prog 7 #[.pointer (some ⟨p, 0, none⟩)] w fun e w' => e = .returned (.int .i64 L.length) ∧ w = w' := by
  obtain ⟨pc, -, pz⟩ := hT.blk.facts
  have hr := run_len Try.underlying66 hT.map 3
  rw [List.length_map] at hr
  go_enter Try.func7, Try.ntmps7
  go_wp2
  go_ret
  exact ⟨rfl, rfl⟩
end Go.Proofs.Ytaojpbgaengdpaa
