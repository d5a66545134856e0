/- The table (layer 13): Drop, Set, Len. -/
import Derived.Test.YtojmbjkeckdilaaTableA
namespace Go.Proofs.Ytojmbjkeckdilaa
open Go.RowKit

theorem Tab.keep {w w' : World} {p m : Nat} {last : Int} {L : List (Nd × Nat)} {clk : Nat} (h : Tab w p m last L clk) (hb : Below w.heap.size w w') : Tab w' p m last L clk :=
  ⟨h.blk.keep hb, h.map.keep hb, h.once, h.low⟩

theorem Tab.ne {w : World} {p m : Nat} {last : Int} {L : List (Nd × Nat)} {clk : Nat} (hT : Tab w p m last L clk) : p ≠ m := by
  rintro rfl
  have h1 := hT.blk
  have h2 := hT.map
  unfold Blk at h1
  unfold MapB at h2
  rw [h1] at h2
  cases h2

theorem findNd_del_none {L : List (Nd × Nat)} {k : Int} (h : findNd L k = none) : L.filter (fun x => !(x.1.no == k)) = L := by
  unfold findNd at h
  simp only [Option.map_eq_none_iff, List.find?_eq_none] at h
  rw [List.filter_eq_self]
  intro x hx
  simpa using h x hx

theorem mapDel_tab (L : List (Nd × Nat)) (k : Int) : mapDel (L.map tabEnt) k = (L.filter fun x => !(x.1.no == k)).map tabEnt := by
  unfold mapDel
  rw [List.filter_map]
  rfl

theorem mapPut_tab (L : List (Nd × Nat)) (n : Nd) : mapPut (L.map tabEnt) n.no n.v = (L.map fun x => if x.1.no == n.no then (n, x.2) else x).map tabEnt := by
  unfold mapPut
  rw [List.map_map, List.map_map]
  apply List.map_congr_left
  intro x _
  by_cases h : x.1.no = n.no <;> simp [tabEnt, h]

set_option maxRecDepth 100000 in
set_option maxHeartbeats 400000 in
theorem drop_yes (n : Nd) (k : Int) (w : World) (p m : Nat) (last : Int) (L : List (Nd × Nat)) (clk : Nat) (hT : Tab w p m last L clk) (hf : findNd L k = some n) :
    Calls Try.prog 14 #[.pointer (some ⟨p, 0, none⟩), .int .i64 k] w fun e w' => e = .returned (.bool true) ∧ Tab w' p m last (L.filter fun x => !(x.1.no == k)) clk ∧ Mod (fun k => k = p ∨ k = m) w w' := by
  have Hg := Lib.hid (fun w' hT' => get_yes n k w' p m last L clk hT' hf)
  clear hf
  go_enter Try.func14, Try.ntmps14
  go_wp2_with fail
  refine (Hg.out _ hT).mono ?_
  unfold Nd.v
  rintro e w1 ⟨rfl, hb1⟩
  have hT1 := (hT.keep hb1).keep ((Below.refl w1.heap.size w1).alloc (Nat.le_refl _) (.cells #[.int .i64 n.no, .int .i64 n.dev, .int .i64 n.kind, .int .i64 n.mode, .int .i64 n.uid, .int .i64 n.gid, .int .i64 n.mtime, .int .i64 n.ctime, .int .i64 n.links, .int .i64 n.up, .string n.data, .slice n.ea n.el n.ec] 29))
  obtain ⟨pc, -, pz⟩ := (hT.keep hb1).blk.facts
  obtain ⟨W2, hrun, b5, b6, b7⟩ := step_del Try.underlying70 Try.underlying3 hT1.map hT1.once 0 k
  go_wp2
  go_ret
  refine ⟨rfl, ⟨b6 _ _ _ hT1.blk, by rw [← mapDel_tab]; exact b5, ?_, fun x hx => hT.low x (List.mem_filter.1 hx).1⟩, ((Mod.of_below hb1).alloc _).trans (b7.mono fun k hk => .inr hk)⟩
  rw [← mapDel_tab]
  unfold KeysOnce mapDel
  exact List.Nodup.sublist (List.Sublist.map _ List.filter_sublist) hT.once

set_option maxRecDepth 100000 in
set_option maxHeartbeats 400000 in
theorem drop_no (k : Int) (w : World) (p m : Nat) (last : Int) (L : List (Nd × Nat)) (clk : Nat) (hT : Tab w p m last L clk) (hf : findNd L k = none) :
    Calls Try.prog 14 #[.pointer (some ⟨p, 0, none⟩), .int .i64 k] w fun e w' => e = .returned (.bool false) ∧ Tab w' p m last (L.filter fun x => !(x.1.no == k)) clk ∧ Mod (fun k => k = p ∨ k = m) w w' := by
  rw [findNd_del_none hf]
  have Hg := Lib.hid (fun w' hT' => get_no k w' p m last L clk hT' hf)
  clear hf
  go_enter Try.func14, Try.ntmps14
  go_wp2_with fail
  refine (Hg.out _ hT).mono ?_
  unfold Nd.v nd0
  rintro e w1 ⟨rfl, hb1⟩
  go_wp2
  go_ret
  exact ⟨rfl, hT.keep (balloc hb1 _), (Mod.of_below hb1).alloc _⟩

set_option maxRecDepth 100000 in
set_option maxHeartbeats 400000 in
theorem set_yes (n0 n : Nd) (w : World) (p m : Nat) (last : Int) (L : List (Nd × Nat)) (clk : Nat) (hT : Tab w p m last L clk) (hf : findNd L n.no = some n0) :
    Calls Try.prog 30 #[.pointer (some ⟨p, 0, none⟩), n.v] w fun e w' => e = .returned (.bool true) ∧ Tab w' p m last (L.map fun x => if x.1.no == n.no then (n, x.2) else x) clk ∧ Mod (fun k => k = p ∨ k = m) w w' := by
  have Hg := Lib.hid (fun w' hT' => get_yes n0 n.no w' p m last L clk hT' hf)
  have Hf := Lib.hid (show mapFind (L.map tabEnt) n.no = some n0.v by rw [mapFind_tab, hf]; rfl)
  clear hf
  have hpm := hT.ne
  have pw : p ≠ w.heap.size := by have := hT.blk.lt; omega
  unfold Nd.v
  go_enter Try.func30, Try.ntmps30
  go_wp2_with fail
  refine (Hg.out _ (hT.keep ((Below.refl _ _).alloc (Nat.le_refl _) _))).mono ?_
  unfold Nd.v
  rintro e w1 ⟨rfl, hb1⟩
  go_wp2_with fail
  have b1 := (((hT.blk.old (.cells #[.int .i64 n.no, .int .i64 n.dev, .int .i64 n.kind, .int .i64 n.mode, .int .i64 n.uid, .int .i64 n.gid, .int .i64 n.mtime, .int .i64 n.ctime, .int .i64 n.links, .int .i64 n.up, .string n.data, .slice n.ea n.el n.ec] 29)).keep hb1).old (.cells #[.int .i64 n0.no, .int .i64 n0.dev, .int .i64 n0.kind, .int .i64 n0.mode, .int .i64 n0.uid, .int .i64 n0.gid, .int .i64 n0.mtime, .int .i64 n0.ctime, .int .i64 n0.links, .int .i64 n0.up, .string n0.data, .slice n0.ea n0.el n0.ec] 29)).drew
  have b2 := (((Blk.new w #[.int .i64 n.no, .int .i64 n.dev, .int .i64 n.kind, .int .i64 n.mode, .int .i64 n.uid, .int .i64 n.gid, .int .i64 n.mtime, .int .i64 n.ctime, .int .i64 n.links, .int .i64 n.up, .string n.data, .slice n.ea n.el n.ec] 29).keep hb1).old (.cells #[.int .i64 n0.no, .int .i64 n0.dev, .int .i64 n0.kind, .int .i64 n0.mode, .int .i64 n0.uid, .int .i64 n0.gid, .int .i64 n0.mtime, .int .i64 n0.ctime, .int .i64 n0.links, .int .i64 n0.up, .string n0.data, .slice n0.ea n0.el n0.ec] 29)).drew
  have hT1 := ((hT.keep ((Below.refl _ _).alloc (Nat.le_refl _) _)).keep hb1).keep ((Below.refl w1.heap.size w1).alloc (Nat.le_refl _) (.cells #[.int .i64 n0.no, .int .i64 n0.dev, .int .i64 n0.kind, .int .i64 n0.mode, .int .i64 n0.uid, .int .i64 n0.gid, .int .i64 n0.mtime, .int .i64 n0.ctime, .int .i64 n0.links, .int .i64 n0.up, .string n0.data, .slice n0.ea n0.el n0.ec] 29))
  have b4 : Mod (fun k => k = p ∨ k = m) w (w1.alloc (.cells #[.int .i64 n0.no, .int .i64 n0.dev, .int .i64 n0.kind, .int .i64 n0.mode, .int .i64 n0.uid, .int .i64 n0.gid, .int .i64 n0.mtime, .int .i64 n0.ctime, .int .i64 n0.links, .int .i64 n0.up, .string n0.data, .slice n0.ea n0.el n0.ec] 29)) := (((Mod.refl _ w).alloc _).trans (.of_below hb1)).alloc _
  clear hb1
  generalize w1.alloc (.cells #[.int .i64 n0.no, .int .i64 n0.dev, .int .i64 n0.kind, .int .i64 n0.mode, .int .i64 n0.uid, .int .i64 n0.gid, .int .i64 n0.mtime, .int .i64 n0.ctime, .int .i64 n0.links, .int .i64 n0.up, .string n0.data, .slice n0.ea n0.el n0.ec] 29) = W at b1 b2 hT1 b4 ⊢
  obtain ⟨pc', -, -⟩ := b1.facts
  obtain ⟨nc, -, -⟩ := b2.facts
  obtain ⟨W2, hrun, b5, b6, b7⟩ := step_put (w := W.drew) Try.underlying70 Try.underlying3 hT1.map hT1.once (.agg #[.int .i64 n.no, .int .i64 n.dev, .int .i64 n.kind, .int .i64 n.mode, .int .i64 n.uid, .int .i64 n.gid, .int .i64 n.mtime, .int .i64 n.ctime, .int .i64 n.links, .int .i64 n.up, .string n.data, .slice n.ea n.el n.ec]) Hf.out
  go_region
  go_wp2_with fail
  go_ret
  refine ⟨rfl, ⟨b6 _ _ _ hT1.blk, by rw [← mapPut_tab]; exact b5, ?_, ?_⟩, (b4.drew).trans (b7.mono fun k hk => .inr hk)⟩
  · have := hT.once
    rw [← mapPut_tab]
    unfold KeysOnce at this ⊢
    unfold mapPut
    rw [List.map_map, List.map_congr_left (g := fun x => x.1)]
    · exact this
    · intro x _
      simp only [Function.comp]
      split
      · rename_i h; simpa using (beq_iff_eq.1 h).symm
      · rfl
  · intro x hx
    obtain ⟨y, hy, rfl⟩ := List.mem_map.1 hx
    have := hT.low y hy
    split
    · rename_i h; have := beq_iff_eq.1 h; simp only; omega
    · exact this

set_option maxRecDepth 100000 in
set_option maxHeartbeats 400000 in
theorem set_no (n : Nd) (w : World) (p m : Nat) (last : Int) (L : List (Nd × Nat)) (clk : Nat) (hT : Tab w p m last L clk) (hf : findNd L n.no = none) :
    Calls Try.prog 30 #[.pointer (some ⟨p, 0, none⟩), n.v] w fun e w' => e = .returned (.bool false) ∧ Below w.heap.size w w' := by
  have Hg := Lib.hid (fun w' hT' => get_no n.no w' p m last L clk hT' hf)
  clear hf
  unfold Nd.v
  go_enter Try.func30, Try.ntmps30
  go_wp2_with fail
  refine (Hg.out _ (hT.keep ((Below.refl _ _).alloc (Nat.le_refl _) _))).mono ?_
  unfold Nd.v nd0
  rintro e w1 ⟨rfl, hb1⟩
  go_wp2
  go_ret
  exact ⟨rfl, balloc (bnext (balloc (Below.refl _ _) _) hb1) _⟩

set_option maxRecDepth 100000 in
set_option maxHeartbeats 400000 in
theorem len_table (w : World) (p m : Nat) (last : Int) (L : List (Nd × Nat)) (clk : Nat) (hT : Tab w p m last L clk) :
    Calls Try.prog 35 #[.pointer (some ⟨p, 0, none⟩)] w fun e w' => e = .returned (.int .i64 L.length) ∧ w = w' := by
  obtain ⟨pc, -, pz⟩ := hT.blk.facts
  have hr := run_len Try.underlying70 hT.map 3
  rw [List.length_map] at hr
  go_enter Try.func35, Try.ntmps35
  go_wp2
  go_ret
  exact ⟨rfl, rfl⟩
end Go.Proofs.Ytojmbjkeckdilaa
