/- Texts of the proof, part 27. -/
import Derived.Deep.CutBlock
import Derived.Deep.DeepCutAuto
import Derived.RegionTactic
import Derived.BigRegion
import Derived.Deep.QuietTactic
import Derived.BigQuiet
import Derived.WalkSmall
import Derived.Test.YtaojpbgaengdpaaGreatDoorDU8
import Derived.Test.YtaojpbgaengdpaaGreatDoorDU10
import Derived.Test.YtaojpbgaengdpaaGreatDoorDU12
import Derived.Test.YtaojpbgaengdpaaGreatDoorDU26
import Derived.Test.YtaojpbgaengdpaaGreatDoorDU13
set_option linter.unusedVariables false
set_option linter.unusedSimpArgs false
/- Rows, and entries, of a call's own. -/
namespace Go.Proofs.YtaojpbgaengdpaaGreatDoor

open Go.RowKit

def rwC (r : Rw) : List Value := [.string r.path, .int .i64 r.kind, .int .i64 r.mode, .int .i64 r.uid, .int .i64 r.gid, .int .i64 r.mtime, .int .i64 r.ctime, .int .i64 r.dev, .int .i64 r.first, .string r.data]
theorem rwC_len (r : Rw) : (rwC r).length = 10 := rfl
def rwQ (cs : List Value) (r : Rw) : Prop := cs = rwC r
theorem row_info : (Tryz.prog.info? 47).map (fun i => (i.zero, i.size, i.bytes)) = some (some (.agg #[.string ByteArray.empty, .int .i64 0, .int .i64 0, .int .i64 0, .int .i64 0, .int .i64 0, .int .i64 0, .int .i64 0, .int .i64 0, .string ByteArray.empty]), 10, 96) := by kernel_rfl
/-- rows of the call's own. -/
def OR (w : World) (base : Nat) (v : Value) (l : List Rw) : Prop := w.ownsRow base 47 10 v l.length (l.flatMap rwC)
theorem OR.nil (w : World) (base : Nat) : OR w base (.slice none 0 0) [] := ⟨rfl, .inl ⟨rfl, rfl⟩⟩
theorem OR.at {w : World} {base c : Nat} {a : Option Addr} {l : List Rw} (h : OR w base (.slice a l.length c) l) : SliceAt w 10 rwQ a l.length c l := own_slice (R := rwQ) (by omega) rwC_len (fun _ => rfl) h
theorem own_keep {w w' : World} {base : Nat} {e : TypeId} {sz n : Nat} {v : Value} {xs : List Value} (h : w.ownsRow base e sz v n xs) (hb : Below w.heap.size w w') : w'.ownsRow base e sz v n xs := own_below h hb (Nat.le_refl _)
/-- rows of two kinds lie apart. -/
theorem own_apart {w : World} {base base' : Nat} {e e' : TypeId} {sz sz' n n' : Nat} {v v' : Value} {xs xs' : List Value} (h : w.ownsRow base e sz v n xs) (h' : w.ownsRow base' e' sz' v' n' xs') (he : e ≠ e') {k : Nat} (hk : v.ownBlock = some k) : v'.ownBlock ≠ some k := fun hk' => by
  obtain ⟨-, c1, h1⟩ := own_obj1 h hk
  obtain ⟨-, c2, h2⟩ := own_obj1 h' hk'
  rw [h1] at h2
  injection h2 with h2
  injection h2 with e1 e2 e3
  exact he e2
theorem own_ents {w : World} {base : Nat} {e : TypeId} {sz n : Nat} {v : Value} {xs : List Value} (h : w.ownsRow base e sz v n xs) (he : e ≠ 101) {w' : World} (hm : Mod (fun k => v.ownBlock = some k) w w') {a : Option Addr} {m c : Nat} {es : List En} (ht : EntsAt w a m c es) : EntsAt w' a m c es :=
  ht.turn (fun b cur hc => hm.block b (Array.getElem?_eq_some_iff.1 hc).1 (fun hk => by
    obtain ⟨-, c1, h1⟩ := own_obj1 h hk
    rw [h1] at hc
    injection hc with hc
    injection hc with e1 e2 e3
    exact he e2)) hm.size
theorem own_blk {w w' : World} {base : Nat} {e : TypeId} {sz n : Nat} {v : Value} {xs : List Value} (h : w.ownsRow base e sz v n xs) {T : TypeId} (he : e ≠ T) {B : Nat} {vs : Array Value} (hb : Blk w B vs T) (hm : Mod (fun k => v.ownBlock = some k) w w') : Blk w' B vs T :=
  hb.mod hm (fun hk => by
    obtain ⟨-, c1, h1⟩ := own_obj1 h hk
    unfold Blk at hb
    rw [h1] at hb
    injection hb with hb
    injection hb with e1 e2 e3
    exact he e2)
theorem OR.app {w : World} {base : Nat} {v : Value} {l : List Rw} (h : OR w base v l) (r : Rw) (hl : l.length ≤ 1000000) (hb : base ≤ w.heap.size) :
    ∃ g cap W, (Builtin.append_ #[33, 33] 33 #[v, .slice (some ⟨w.heap.size, 0, none⟩) 1 1]).run Tryz.prog (w.alloc (.cells (rwC r).toArray 47)) = .ok (.slice (some ⟨g, 0, none⟩) (l.length + 1) cap) W ∧
      OR W base (.slice (some ⟨g, 0, none⟩) (l.length + 1) cap) (l ++ [r]) ∧ Mod (fun j => v.ownBlock = some j) w W := by
  obtain ⟨i0, hi, hz0, hz1, hz2⟩ := info_parts row_info
  have ho := World.ownsRow.alloc h (.cells (rwC r).toArray 47)
  obtain ⟨g, cap, W, h1, h2, h3, h4⟩ := step_app 33 Tryz.underlying33 hi hz0 hz1 hz2 rfl (by omega) ho ⟨w.heap.size, 0, none⟩ 1 1 (rwC r) rfl (World.news_of_block (Blk.new w (rwC r).toArray 47)) (by intro u hu; simp [rwC] at hu; rcases hu with rfl | rfl | rfl | rfl | rfl | rfl | rfl | rfl | rfl | rfl <;> rfl) (by omega) (by unfold maxLen; omega) (by omega) (by rw [World.size_alloc]; omega)
  refine ⟨g, cap, W, h1, ?_, ((Mod.refl (fun j => v.ownBlock = some j) w).alloc (.cells (rwC r).toArray 47)).trans h3⟩
  unfold OR
  rw [List.length_append, List.length_singleton, List.flatMap_append]
  exact (by simpa using h2)
theorem OE.app1 {w : World} {base : Nat} {v : Value} {l : List En} (h : OE w base v l) (x : En) (hl : l.length ≤ 1000000) (hb : base ≤ w.heap.size) :
    ∃ g cap W, (Builtin.append_ #[84, 84] 84 #[v, .slice (some ⟨w.heap.size, 0, none⟩) 1 1]).run Tryz.prog (w.alloc (.cells #[.string x.name, .int .i64 x.no] 101)) = .ok (.slice (some ⟨g, 0, none⟩) (l.length + 1) cap) W ∧
      OE W base (.slice (some ⟨g, 0, none⟩) (l.length + 1) cap) (l ++ [x]) ∧ Below base w W := by
  obtain ⟨i0, hi, hz0, hz1, hz2⟩ := info_parts ent_info
  have ho := World.ownsRow.alloc h (.cells #[.string x.name, .int .i64 x.no] 101)
  obtain ⟨g, cap, W, h1, h2, h3, h4⟩ := step_app 84 Tryz.underlying84 hi hz0 hz1 hz2 rfl (by omega) ho ⟨w.heap.size, 0, none⟩ 1 1 (entC x) rfl (World.news_of_block (Blk.new w #[.string x.name, .int .i64 x.no] 101)) (by intro u hu; simp [entC] at hu; rcases hu with rfl | rfl <;> rfl) (by omega) (by unfold maxLen; omega) (by omega) (by rw [World.size_alloc]; omega)
  refine ⟨g, cap, W, h1, ?_, (((Below.refl _ w).alloc hb (.cells #[.string x.name, .int .i64 x.no] 101)).trans (h3.below (fun k hk => (own_obj1 ho hk).1) (by rw [World.size_alloc]; omega)))⟩
  unfold OE
  rw [List.length_append, List.length_singleton, List.flatMap_append]
  exact (by simpa using h2)
/-- the same where an order was drawn. -/
theorem OE.app1d {w : World} {base : Nat} {v : Value} {l : List En} (h : OE w base v l) (x : En) (hl : l.length ≤ 1000000) (hb : base ≤ w.heap.size) :
    ∃ g cap W, (Builtin.append_ #[84, 84] 84 #[v, .slice (some ⟨w.heap.size, 0, none⟩) 1 1]).run Tryz.prog (w.alloc (.cells #[.string x.name, .int .i64 x.no] 101)).drew = .ok (.slice (some ⟨g, 0, none⟩) (l.length + 1) cap) W ∧
      OE W base (.slice (some ⟨g, 0, none⟩) (l.length + 1) cap) (l ++ [x]) ∧ Below base w W := by
  obtain ⟨i0, hi, hz0, hz1, hz2⟩ := info_parts ent_info
  have hbd : Below w.heap.size w (w.alloc (.cells #[.string x.name, .int .i64 x.no] 101)).drew := ((Below.refl _ w).alloc (Nat.le_refl _) _).drew
  have ho := own_keep h hbd
  have hs : w.heap.size ≤ (w.alloc (.cells #[.string x.name, .int .i64 x.no] 101)).drew.heap.size := hbd.size
  obtain ⟨g, cap, W, h1, h2, h3, h4⟩ := step_app 84 Tryz.underlying84 hi hz0 hz1 hz2 rfl (by omega) ho ⟨w.heap.size, 0, none⟩ 1 1 (entC x) rfl (World.news_of_block (Blk.new w #[.string x.name, .int .i64 x.no] 101).drew) (by intro u hu; simp [entC] at hu; rcases hu with rfl | rfl <;> rfl) (by omega) (by unfold maxLen; omega) (by omega) (by omega)
  refine ⟨g, cap, W, h1, ?_, ((hbd.mono hb).trans (h3.below (fun _ hk => (own_obj1 ho hk).1) (by omega)))⟩
  unfold OE
  rw [List.length_append, List.length_singleton, List.flatMap_append]
  exact (by simpa using h2)
theorem EntsAt.tail {w : World} {a : Option Addr} {n c : Nat} {x : En} {l : List En} (h : EntsAt w a n c (x :: l)) {b off : Nat} (ha : a = some ⟨b, off, none⟩) : EntsAt w (if c = 1 then a else some ⟨b, off + 2, none⟩) (n - 1) (c - 1) l := by
  refine ⟨?_, fun p hp => ?_⟩
  · have hs := h.sl
    have hl := hs.1
    obtain ⟨-, h1, h2, h0 | ⟨b', off', he, hb, hel⟩⟩ := hs
    · simp at hl; omega
    · rw [ha] at he
      injection he with he
      injection he with e1 e2
      subst e1 e2
      have hl' : l.length = n - 1 := by simp at hl; omega
      have hn1 : 1 ≤ n := by rw [← hl]; simp
      refine ⟨hl', by omega, by omega, ?_⟩
      by_cases hn : n = 1
      · exact .inl (by omega)
      · refine .inr ⟨b, off + 2, by rw [if_neg (by omega)], hb, fun i hi => ?_⟩
        obtain ⟨cs, h3, h4, h5⟩ := hel (i + 1) (by simp; omega)
        refine ⟨cs, h3, by simpa using h4, fun j hj => ?_⟩
        rw [← h5 j hj]
        congr 2
        omega
  · obtain ⟨b', off', cur, e, hblk⟩ := h.blk _ ha
    injection e with e1 e2
    subst e1 e2
    split at hp
    · rw [ha] at hp
      injection hp with hp
      exact ⟨b, off, cur, hp.symm, hblk⟩
    · injection hp with hp
      exact ⟨b, off + 2, cur, hp.symm, hblk⟩
/-- append(in, todo..): the own ones first. -/
theorem oe_app {w : World} {base : Nat} {v : Value} {ps : List En} {a : Option Addr} {n c : Nat} {l : List En} (hO : OE w base v ps) (hS : EntsAt w a n c l) (hl : ps.length + l.length ≤ 1000000) (hbase : base ≤ w.heap.size) :
    ∃ a' n' c' W, (Builtin.append_ #[84, 84] 84 #[v, .slice a n c]).run Tryz.prog w = .ok (.slice a' n' c') W ∧ EntsAt W a' n' c' (ps ++ l) ∧ Below base w W := by
  obtain ⟨i0, hi, hz0, hz1, hz2⟩ := info_parts ent_info
  have hln := hS.len
  cases l with
  | nil =>
    obtain rfl : n = 0 := by simpa using hln.symm
    obtain ⟨a1, c1, rfl, -, -, hf⟩ := own_form hO
    exact ⟨a1, ps.length, c1, w, step_app_nil _ Tryz.underlying84 hi hO a c, by rw [List.append_nil]; exact OE.at hO, Below.refl _ _⟩
  | cons x l =>
    have hn : 0 < n := by rw [← hln]; simp
    obtain ⟨b, off, rfl, hb⟩ := hS.some_of hn
    obtain ⟨g, cap, W, h1, h2, h3, h4⟩ := step_app 84 Tryz.underlying84 hi hz0 hz1 hz2 rfl (by omega) hO ⟨b, off, none⟩ n c ((x :: l).flatMap entC) (by rw [flat_len entC_len, hln])
      hS.news (entC_one _) hn (by unfold maxLen; omega) (by omega) hbase
    have hO2 : OE W base (.slice (some ⟨g, 0, none⟩) (ps ++ x :: l).length cap) (ps ++ x :: l) := by
      unfold OE
      rw [List.length_append, List.flatMap_append, hln]
      exact h2
    refine ⟨_, _, _, W, h1, ?_, h3.below (fun k hk => (own_obj1 hO hk).1) hbase⟩
    have := OE.at hO2
    rwa [List.length_append, hln] at this
/-- what the reference holds between its steps. -/
structure RB (B : Nat) (w : World) (vo vn : Value) (ta : Option Addr) (tn tc : Nat) (out : List Rw) (nos : List Int) (todo : List En) : Prop where
  o : OR w B vo out
  n : OI w B vn nos
  t : EntsAt w ta tn tc todo
theorem RB.keep {B : Nat} {w w' : World} {vo vn : Value} {ta : Option Addr} {tn tc : Nat} {out : List Rw} {nos : List Int} {todo : List En} (h : RB B w vo vn ta tn tc out nos todo) (hb : Below w.heap.size w w') : RB B w' vo vn ta tn tc out nos todo :=
  ⟨own_keep h.o hb, own_keep h.n hb, h.t.keep hb⟩
theorem RB.pushN {B : Nat} {w w' : World} {vo vn vn' : Value} {ta : Option Addr} {tn tc : Nat} {out : List Rw} {nos nos' : List Int} {todo : List En} (h : RB B w vo vn ta tn tc out nos todo) (hm : Mod (fun j => vn.ownBlock = some j) w w') (hn : OI w' B vn' nos') : RB B w' vo vn' ta tn tc out nos' todo :=
  ⟨own_mod h.o hm (fun k hk => own_apart h.n h.o (by decide) hk), hn, own_ents h.n (by decide) hm h.t⟩
theorem RB.pushO {B : Nat} {w w' : World} {vo vn vo' : Value} {ta : Option Addr} {tn tc : Nat} {out out' : List Rw} {nos : List Int} {todo : List En} (h : RB B w vo vn ta tn tc out nos todo) (hm : Mod (fun j => vo.ownBlock = some j) w w') (ho : OR w' B vo' out') : RB B w' vo' vn ta tn tc out' nos todo :=
  ⟨ho, own_mod h.n hm (fun k hk => own_apart h.o h.n (by decide) hk), own_ents h.o (by decide) hm h.t⟩
theorem RB.belowN {B : Nat} {w w' : World} {vo vn : Value} {ta : Option Addr} {tn tc : Nat} {out : List Rw} {nos : List Int} {todo : List En} (h : RB B w vo vn ta tn tc out nos todo) (hm : Mod (fun j => vn.ownBlock = some j) w w') (hB : B ≤ w.heap.size) : Below B w w' := hm.below (fun _ hk => (own_obj1 h.n hk).1) hB
theorem RB.belowO {B : Nat} {w w' : World} {vo vn : Value} {ta : Option Addr} {tn tc : Nat} {out : List Rw} {nos : List Int} {todo : List En} (h : RB B w vo vn ta tn tc out nos todo) (hm : Mod (fun j => vo.ownBlock = some j) w w') (hB : B ≤ w.heap.size) : Below B w w' := hm.below (fun _ hk => (own_obj1 h.o hk).1) hB
end Go.Proofs.YtaojpbgaengdpaaGreatDoor

/- slices.Reverse over spots. -/
namespace Go.Proofs.YtaojpbgaengdpaaGreatDoor

open Go.RowKit

/-- spots of the call's own (a name, a number). -/
def OP (w : World) (base : Nat) (v : Value) (l : List En) : Prop := w.ownsRow base 82 2 v l.length (l.flatMap entC)
theorem OP.cell {w : World} {base g cap : Nat} {l : List En} (h : OP w base (.slice (some ⟨g, 0, none⟩) l.length cap) l) (k : Nat) (hk : k < l.length) :
    w.cell? ⟨g, k * 2, none⟩ = some (.string l[k].name) ∧ w.cell? ⟨g, k * 2 + 1, none⟩ = some (.int .i64 l[k].no) := by
  obtain ⟨-, -, -, h0 | ⟨b, off, he, hb, hel⟩⟩ := own_slice (R := entQ) (by omega) entC_len (fun _ => rfl) h
  · omega
  · injection he with he
    injection he with e1 e2
    subst e1 e2
    obtain ⟨cs, h1, h2, h3⟩ := hel k hk
    subst h2
    have q0 := h3 0 (by simp [entC])
    have q1 := h3 1 (by simp [entC])
    simp only [Nat.zero_add, Nat.add_zero] at q0 q1
    exact ⟨by simpa [entC] using q0, by simpa [entC] using q1⟩
theorem OP.frozen {w : World} {base g cap : Nat} {l : List En} (h : OP w base (.slice (some ⟨g, 0, none⟩) l.length cap) l) : (∀ i, w.frozen? ⟨g, i, none⟩ = false) ∧ g < w.heap.size ∧ base ≤ g ∧ l.length ≤ cap ∧ cap ≤ 9223372036854775807 := by
  rcases h.2 with ⟨hv, -⟩ | ⟨g', cap', cur, hv, hb, hg, h1, h2, h3, h4⟩
  · cases hv
  · injection hv with e1 e2 e3
    injection e1 with e1
    injection e1 with e1
    subst e1 e3
    have hB : Blk w g cur 82 := hg
    exact ⟨hB.facts.2.1, hB.lt, hb, h1, h2⟩
/-- two spots change places. -/
theorem OP.swap {w : World} {base g cap : Nat} {l : List En} (h : OP w base (.slice (some ⟨g, 0, none⟩) l.length cap) l) (i j : Nat) (hi : i < l.length) (hj : j < l.length) (x y : En) :
    OP ((((w.setCell ⟨g, i * 2, none⟩ (.string x.name)).setCell ⟨g, i * 2 + 1, none⟩ (.int .i64 x.no)).setCell ⟨g, j * 2, none⟩ (.string y.name)).setCell ⟨g, j * 2 + 1, none⟩ (.int .i64 y.no)) base (.slice (some ⟨g, 0, none⟩) ((l.set i x).set j y).length cap) ((l.set i x).set j y) := by
  have h1 := own_put (enc := entC) (by omega) entC_len h i hi x
  have h2 := own_put (enc := entC) (by omega) entC_len (show (putRow w g (i * 2) (entC x)).ownsRow base 82 2 (.slice (some ⟨g, 0, none⟩) l.length cap) l.length ((l.set i x).flatMap entC) from h1) j hj y
  unfold OP
  rw [List.length_set, List.length_set]
  exact h2
/-- on the way: `i` pairs have changed places. -/
structure Sw (pre l : List En) (i : Nat) (Y : List En) : Prop where
  len : Y.length = pre.length + l.length
  old : ∀ k, k < pre.length → Y[k]? = pre[k]?
  at' : ∀ k, k < l.length → Y[pre.length + k]? = if k < i ∨ l.length ≤ k + i then l[l.length - 1 - k]? else l[k]?
theorem Sw.start (pre l : List En) : Sw pre l 0 (pre ++ l) := by
  refine ⟨List.length_append, fun k hk => List.getElem?_append_left hk, fun k hk => ?_⟩
  rw [if_neg (by omega), List.getElem?_append_right (by omega), Nat.add_sub_cancel_left]
theorem Sw.fin {pre l : List En} {i : Nat} {Y : List En} (h : Sw pre l i Y) (hi : l.length ≤ 2 * i + 1) : Y = pre ++ l.reverse := by
  refine List.ext_getElem? fun k => ?_
  by_cases hk : k < pre.length
  · rw [h.old k hk, List.getElem?_append_left hk]
  · rw [List.getElem?_append_right (by omega)]
    obtain ⟨m, rfl⟩ : ∃ m, k = pre.length + m := ⟨k - pre.length, by omega⟩
    rw [Nat.add_sub_cancel_left]
    by_cases hm : m < l.length
    · rw [h.at' m hm, List.getElem?_reverse hm]
      split
      · rfl
      · congr 1
        omega
    · rw [List.getElem?_eq_none (by rw [h.len]; omega), List.getElem?_eq_none (by rw [List.length_reverse]; omega)]
theorem Sw.step {pre l : List En} {i : Nat} {Y : List En} (h : Sw pre l i Y) (hi : 2 * i + 1 < l.length) {x y : En} (hx : Y[pre.length + i]? = some x) (hy : Y[pre.length + (l.length - 1 - i)]? = some y) :
    Sw pre l (i + 1) ((Y.set (pre.length + i) y).set (pre.length + (l.length - 1 - i)) x) := by
  have h1 := h.at' i (by omega)
  have h2 := h.at' (l.length - 1 - i) (by omega)
  rw [hx, if_neg (by omega)] at h1
  rw [hy, if_neg (by omega)] at h2
  refine ⟨by rw [List.length_set, List.length_set]; exact h.len, fun k hk => ?_, fun k hk => ?_⟩
  · rw [List.getElem?_set_ne (by omega), List.getElem?_set_ne (by omega)]
    exact h.old k hk
  · by_cases e1 : k = l.length - 1 - i
    · subst e1
      rw [List.getElem?_set_self (by rw [List.length_set, h.len]; omega), if_pos (by omega), h1]
      congr 1
      omega
    · rw [List.getElem?_set_ne (by omega)]
      by_cases e2 : k = i
      · subst e2
        rw [List.getElem?_set_self (by rw [h.len]; omega), if_pos (by omega), h2]
      · rw [List.getElem?_set_ne (by omega), h.at' k hk]
        by_cases e3 : k < i ∨ l.length ≤ k + i
        · rw [if_pos e3, if_pos (by omega)]
        · rw [if_neg e3, if_neg (by omega)]
set_option maxRecDepth 100000 in
set_option maxHeartbeats 2000000 in
theorem reverse_any (w : World) {base g cap : Nat} (pre l : List En) (h : OP w base (.slice (some ⟨g, 0, none⟩) (pre ++ l).length cap) (pre ++ l)) {c : Nat} (hc : l.length ≤ c) (hc2 : c ≤ 9223372036854775807) :
    Calls Tryz.prog 43 #[.slice (some ⟨g, pre.length * 2, none⟩) l.length c] w fun e w' => (∃ v, e = .returned v) ∧ OP w' base (.slice (some ⟨g, 0, none⟩) (pre ++ l.reverse).length cap) (pre ++ l.reverse) ∧ Mod (fun k => k = g) w w' := by
  have HO := Lib.hid h
  have hlb : (pre ++ l).length ≤ 9223372036854775807 := by have := h.frozen; omega
  rw [List.length_append] at hlb
  clear h
  go_enter Tryz.func43, Tryz.ntmps43
  go_wp2_with fail
  go_loopw [2, 3] (fun t2 t3 wr => ∃ (i : Nat) (Y : List En), 2 * i ≤ l.length + 1 ∧ t2 = .int .i64 i ∧ t3 = .int .i64 ((l.length : Int) - 1 - i) ∧ Sw pre l i Y ∧ OP wr base (.slice (some ⟨g, 0, none⟩) Y.length cap) Y ∧ Mod (fun k => k = g) w wr) (fun t2 _ _ => l.length + 1 - (intOf t2).toNat)
  case atStart => exact ⟨0, _, by omega, rfl, by simp, Sw.start pre l, HO.out, Mod.refl _ _⟩
  case round =>
    obtain ⟨i, Y, hi, rfl, rfl, hS, hY, hM⟩ := hrel
    have HS := Lib.hid hS
    have HY := Lib.hid hY
    have HM := Lib.hid hM
    by_cases hlt : 2 * i + 1 < l.length
    · obtain ⟨j, hj⟩ : ∃ j, l.length - 1 - i = j := ⟨_, rfl⟩
      have hji : (l.length : Int) - 1 - i = (j : Int) := by omega
      rw [hji]
      have hij : (i : Int) < (j : Int) := by omega
      have hil : i < l.length := by omega
      have hjl : j < l.length := by omega
      have hiY : pre.length + i < Y.length := by rw [hS.len]; omega
      have hjY : pre.length + j < Y.length := by rw [hS.len]; omega
      obtain ⟨a0, a1⟩ := hY.cell _ hiY
      obtain ⟨b0, b1⟩ := hY.cell _ hjY
      have HN := Lib.hid (hS.step hlt (List.getElem?_eq_getElem hiY) (by rw [hj]; exact List.getElem?_eq_getElem hjY))
      have HSw := Lib.hid (hY.swap (pre.length + i) (pre.length + j) hiY hjY Y[pre.length + j] Y[pre.length + i])
      rw [hj] at HN
      obtain ⟨hfz, hgl, -, -, -⟩ := hY.frozen
      generalize Y[pre.length + i] = x at a0 a1 HN HSw
      generalize Y[pre.length + j] = y at b0 b1 HN HSw
      rw [Nat.add_mul] at a0 a1 b0 b1
      rw [Nat.add_mul, Nat.add_mul] at HSw
      have f0 := hfz (pre.length * 2 + i * 2)
      have f1 := hfz (pre.length * 2 + i * 2 + 1)
      have f2 := hfz (pre.length * 2 + j * 2)
      have f3 := hfz (pre.length * 2 + j * 2 + 1)
      have hne : ¬ i = j := by omega
      clear hS hY hM hfz
      have mixed : Tryz.prog.follows .mixedOrders = true := by kernel_rfl
      go_upto_region 3 with fail
      go_region_law_o (fail)
      all_goals
        go_wp2_with fail
        go_roundw
        case measure => simp [intOf]; omega
        case rel =>
          refine ⟨i + 1, _, by omega, by go_num, by go_num, HN.out, ?_, ?_⟩
          · first | exact own_keep HSw.out (Below.refl _ _).drew | exact own_keep HSw.out (Below.refl _ _).drew.drew | exact own_keep HSw.out (below_drewN (Below.refl _ _) _)
          · have h4 := (((HM.out.setCell (a := ⟨g, pre.length * 2 + i * 2, none⟩) (.inl rfl) (.string y.name)).setCell (a := ⟨g, pre.length * 2 + i * 2 + 1, none⟩) (.inl rfl) (.int .i64 y.no)).setCell (a := ⟨g, pre.length * 2 + j * 2, none⟩) (.inl rfl) (.string x.name)).setCell (a := ⟨g, pre.length * 2 + j * 2 + 1, none⟩) (.inl rfl) (.int .i64 x.no)
            first | exact h4.trans (below_mod (Below.refl _ _).drew) | exact h4.trans (below_mod (Below.refl _ _).drew.drew) | exact h4.trans (below_mod (below_drewN (Below.refl _ _) _))
    · have HF := Lib.hid (hS.fin (by omega))
      have hge : ¬ (i : Int) < (l.length : Int) - 1 - i := by omega
      clear hS hY hM
      go_wp2_with fail
      go_end0
      have HY2 := HY.out
      rw [HF.out] at HY2
      exact ⟨⟨_, rfl⟩, (by simpa using HY2), HM.out⟩
end Go.Proofs.YtaojpbgaengdpaaGreatDoor

/- A range over a function whose iterator only reads: U are the blocks that a round must leave as they were. -/
namespace Go.Proofs.YtaojpbgaengdpaaGreatDoor

open Go.RowKit

def NoT : Nat → Prop := fun _ => False
/-- an iterator's contract: it hands on things, one by one, as far as the rounds go on; V: what may come behind what has come. -/
def SeqU {α : Type} (T : Nat → Prop) (F : Fence) (n : Nat) (P : Program) (g : Nat) (lb : Array Value) (encs : α → Array Value) (S Sp : List α → Prop) (V : List α → α → Prop) (w : World) : Prop :=
  ∀ (l : Nat) (J Jx : List α → World → Prop) (W : World), KT T w W → w.heap.size ≤ W.heap.size → AbT NoT W.heap.size Obj.isWalk J → AbT NoT W.heap.size Obj.isWalk Jx →
    (∀ pre x W1, J pre W1 → V pre x → YieldAt F (n - 1) P l (encs x) W1 fun e W' =>
      (e = .returned (.bool true) ∧ J (pre ++ [x]) W' ∧ KT T W1 W') ∨ (e = .returned (.bool false) ∧ Jx (pre ++ [x]) W')) →
    J [] W →
    CallsIn F n P g (#[.func (.yield l) #[] #[]] ++ lb) W fun e W' => (∃ v, e = .returned v) ∧ ((∃ xs, S xs ∧ J xs W') ∨ (∃ pre, Sp pre ∧ Jx pre W'))

/-- the loop over such an iterator. -/
theorem wpIn_rangeU {F : Fence} {n : Nat} {P : Program} {w : World} {α : Type} {T : Nat → Prop} {g : Operand} {ps : Array Tmp} {assign body : Code} {Q : Exit → Act → World → Prop} {a : Act}
    (hro : F.round = none) (h1 : 1 ≤ n) {gf : Nat} {lb : Array Value} (hg : a.eval g = .func (.func gf) #[] lb) (hFg : F.fn gf) (eg : ∀ args w, (callFunc gf args).run P w = .ok (.enter gf args) w)
    {encs : α → Array Value} {S Sp : List α → Prop} {V : List α → α → Prop} {w0 : World} (hseq : SeqU T F (n - 1) P gf lb encs S Sp V w0)
    (hT : ∀ k, T k → k < w.heap.size) (hb0 : KT T w0 w) (hps : ∀ x, (encs x).size = ps.size)
    (I : List α → World → Prop) (Ix : Code → List α → World → Prop) (hI : AbT NoT w.heap.size notCells I) (hIx : ∀ c, AbT NoT w.heap.size notCells (Ix c)) (h0 : I [] w) (a₁ : α → Act)
    (hassign : ∀ (l : Nat) (x : α) (W : World) (K : Act → World → Prop), K (a₁ x) W →
      assign.wpIn (F.inRound l) (n - 1 - 1) P (Exit.then K (fun _ _ _ => False)) { tmps := (ps.zip (encs x)).foldl (fun t (p, v) => t.setIfInBounds p v) a.tmps, defers := [] } W)
    (hbody : ∀ (l : Nat) (pre : List α) (x : α) (W : World), w.heap.size ≤ l → l < W.heap.size → I pre W → V pre x → body.wpIn (F.inRound l) (n - 1 - 1) P (ownPostG w.heap.size (KT T) I Ix (pre ++ [x]) W) (a₁ x) W)
    (hdone : ∀ (D : Nat) (xs : List α) (W : World), w.heap.size ≤ D → S xs → I xs W → W.heap[D]? = some (.deferred (some [])) → Q .normal { a with defers := { target := .collected D, args := #[] } :: a.defers } W)
    (hstop : ∀ (D : Nat) (c : Code) (pre : List α) (W : World), w.heap.size ≤ D → Sp pre → Ix c pre W → W.heap[D]? = some (.deferred (some [])) → c.wpIn F n P Q { a with defers := { target := .collected D, args := #[] } :: a.defers } W) :
    (Code.rangeFunc g ps assign body).wpIn F n P Q a w := by
  refine wpIn_rangeFunc fun fn hfn => ?_
  rw [hro]
  obtain ⟨rc, hrc⟩ : ∃ rc : LoopState → Option Code → Loop, rc = fun st pe => { state := st, pending := pe, fn, tmps := a.tmps, params := ps, assign, body, defers := w.heap.size } := ⟨_, rfl⟩
  have hTl : ¬ T (w.heap.size + 1) := fun h => by have := hT _ h; omega
  have hTd : ¬ T w.heap.size := fun h => by have := hT _ h; omega
  generalize hW1 : (w.alloc (.deferred (some []))).alloc (.loop (rc .ready none)) = W1
  have hs1 : W1.heap.size = w.heap.size + 2 := by rw [← hW1]; simp
  have hL1 : W1.heap[w.heap.size + 1]? = some (.loop (rc .ready none)) := by
    have := World.alloc_heap_new (w.alloc (.deferred (some []))) (.loop (rc .ready none))
    rw [World.size_alloc] at this
    rw [← hW1]; exact this
  have hD1 : W1.heap[w.heap.size]? = some (.deferred (some [])) := by
    rw [← hW1]; exact (Below.heap_alloc _ _ _ (by simp)).trans (World.alloc_heap_new w _)
  have hI1 : I [] W1 := by rw [← hW1]; exact hI _ _ _ (hI _ _ _ h0 (Turn.alloc _ _)) (Turn.alloc _ _)
  have hK1 : KT T w W1 := by rw [← hW1]; exact KT.of_below ((((Below.refl _ w).alloc (Nat.le_refl _) _).alloc (by simp) _)) hT
  refine ⟨w.heap.size + 1, [{ target := .collected w.heap.size, args := #[] }], W1, { target := .fn (.func gf) lb, args := #[.func (.yield (w.heap.size + 1)) #[] #[]] }, W1, gf,
    #[.func (.yield (w.heap.size + 1)) #[] #[]] ++ lb, W1, ?_, ?_, ?_, ?_, fun _ => h1, ?_⟩
  · rw [← hW1, hrc]; exact run_enterLoop_outer _ _ _ _ _
  · simp only [resolve, hg]; simp [go_sem]
  · intro f' hf'; simp [Target.leads] at hf'; subst hf'; exact hFg
  · simp [invoke, go_sem, eg]
  have turnW : ∀ {A B : World}, Turn NoT W1.heap.size Obj.isWalk A B → Turn NoT w.heap.size notCells A B := fun h =>
    ⟨h.os, h.tape, h.output, h.size, fun k o hk ht hp => h.block k o hk ht (fun hB => by
      cases hw : o.isWalk with
      | false => rfl
      | true => have := hp (by omega); rw [walk_notCells hw] at this; cases this)⟩
  have keepL : ∀ {A B : World} {k : Nat} {o : Obj}, Turn NoT W1.heap.size Obj.isWalk A B → A.heap[k]? = some o → ¬ T k → o.isWalk = false → B.heap[k]? = some o := fun h hk _ hw => h.block _ _ hk (fun h => h) (fun _ => hw)
  refine (hseq (w.heap.size + 1)
    (fun pre W => I pre W ∧ W.heap[w.heap.size + 1]? = some (.loop (rc .ready none)) ∧ W.heap[w.heap.size]? = some (.deferred (some [])))
    (fun pre W => ∃ c, Ix c pre W ∧ W.heap[w.heap.size + 1]? = some (.loop (rc .done (some c))) ∧ W.heap[w.heap.size]? = some (.deferred (some [])))
    W1 (hb0.trans hK1) (Nat.le_trans hb0.1 hK1.1)
    (fun s A B hs ht => ⟨hI s A B hs.1 (turnW ht), keepL ht hs.2.1 hTl rfl, keepL ht hs.2.2 hTd rfl⟩)
    (fun s A B hs ht => by
      obtain ⟨c, hc, hl, hk⟩ := hs
      exact ⟨c, hIx c s A B hc (turnW ht), keepL ht hl hTl rfl, keepL ht hk hTd rfl⟩)
    ?_ ⟨hI1, hL1, hD1⟩).mono ?_
  · rintro pre x W ⟨hi, hl, hk⟩ hlen
    have hlt : w.heap.size + 1 < W.heap.size := (Array.getElem?_eq_some_iff.1 hl).1
    have hy := run_yield (P := P) (args := encs x) hl (by rw [hrc]; exact hps x)
    rw [hrc] at hy
    refine ⟨fn, _, assign, body, hy, roundIn_of_wpIn hfn (hassign _ x W _ ?_)⟩
    clear hy
    refine ⟨_, run_beginRound hl (by rw [hrc]), ?_⟩
    generalize hWb : W.putObj (w.heap.size + 1) (.loop { rc .ready none with state := .busy }) = Wb
    have hl2 : Wb.heap[w.heap.size + 1]? = some (.loop { rc .ready none with state := .busy }) := by rw [← hWb]; exact World.putObj_heap_same hlt
    have hk2 : Wb.heap[w.heap.size]? = some (.deferred (some [])) := by rw [← hWb]; exact (World.putObj_heap_other (by omega)).trans hk
    have hw2 : KT T W Wb := by rw [← hWb]; exact KT.put _ _ _ hTl
    have hib : I pre Wb := by rw [← hWb]; exact hI _ _ _ hi (Turn.put (by omega) hl rfl)
    refine wpIn_mono (hbody _ pre x Wb (by omega) (by have := hw2.1; omega) hib hlen) ?_
    have fin : ∀ (jump : Option Code) (W3 : World), KeepsFrom w.heap.size Wb W3 →
        (Instr.endRound (w.heap.size + 1) jump).run P W3 = .ok (.bool jump.isNone) (W3.putObj (w.heap.size + 1) (.loop (rc (if jump.isNone then .ready else .done) jump))) ∧
        W3.heap[w.heap.size + 1]? = some (.loop { rc .ready none with state := .busy }) ∧
        (W3.putObj (w.heap.size + 1) (.loop (rc (if jump.isNone then .ready else .done) jump))).heap[w.heap.size + 1]? = some (.loop (rc (if jump.isNone then .ready else .done) jump)) ∧
        (W3.putObj (w.heap.size + 1) (.loop (rc (if jump.isNone then .ready else .done) jump))).heap[w.heap.size]? = some (.deferred (some [])) := fun jump W3 hk3 => by
      have hl3 := hk3.same _ _ (by omega) hl2 rfl
      have := run_endRound (P := P) jump hl3
      rw [hrc] at this ⊢
      exact ⟨this, by rw [hrc] at hl3; exact hl3, World.putObj_heap_same (Array.getElem?_eq_some_iff.1 hl3).1, (World.putObj_heap_other (by omega)).trans (hk3.same _ _ (Nat.le_refl _) hk2 rfl)⟩
    have leave : ∀ (c : Code) (W3 : World), KeepsFrom w.heap.size Wb W3 → Ix c (pre ++ [x]) W3 → ∃ v W4, (Instr.endRound (w.heap.size + 1) (some c)).run P W3 = .ok (.bool v) W4 ∧ v = false ∧ ∃ c', Ix c' (pre ++ [x]) W4 ∧ W4.heap[w.heap.size + 1]? = some (.loop (rc .done (some c'))) ∧ W4.heap[w.heap.size]? = some (.deferred (some [])) := fun c W3 hk3 hi3 => by
      obtain ⟨hr, hl3, hl4, hk4⟩ := fin (some c) W3 hk3
      exact ⟨_, _, hr, rfl, c, hIx _ _ _ _ hi3 (Turn.put (by omega) hl3 rfl), hl4, hk4⟩
    rintro e a3 W3 hp
    cases e with
    | normal =>
      obtain ⟨hk3, hkp3, hi3⟩ := hp
      obtain ⟨hr, hl3, hl4, hk4⟩ := fin none W3 hk3
      exact ⟨_, _, hr, .inl ⟨rfl, ⟨hI _ _ _ hi3 (Turn.put (by omega) hl3 rfl), hl4, hk4⟩, hw2.trans (hkp3.trans (KT.put _ _ _ hTl))⟩⟩
    | ret => obtain ⟨v, W4, hr, rfl, h⟩ := leave .ret W3 hp.1 hp.2; exact ⟨_, _, hr, .inr ⟨rfl, h⟩⟩
    | exit id => obtain ⟨v, W4, hr, rfl, h⟩ := leave (.exit id) W3 hp.1 hp.2; exact ⟨_, _, hr, .inr ⟨rfl, h⟩⟩
    | goto t => obtain ⟨v, W4, hr, rfl, h⟩ := leave (.goto t) W3 hp.1 hp.2; exact ⟨_, _, hr, .inr ⟨rfl, h⟩⟩
    | panic ch => exact hp.elim
    | outgrown => exact hp.elim
  · rintro e W2 ⟨⟨v, rfl⟩, (⟨xs, hS, hi, hl, hk⟩ | ⟨pre, hSp, c, hi, hl, hk⟩)⟩
    · exact ⟨none, _, by have := run_endLoop (P := P) hl (by rw [hrc]; simp); rw [hrc] at this; exact this, hdone _ xs _ (Nat.le_refl _) hS (hI _ _ _ hi (Turn.put (by omega) hl rfl)) ((World.putObj_heap_other (by omega)).trans hk)⟩
    · exact ⟨some c, _, by have := run_endLoop (P := P) hl (by rw [hrc]; simp); rw [hrc] at this; exact this, hstop _ c pre _ (Nat.le_refl _) hSp (hIx c _ _ _ hi (Turn.put (by omega) hl rfl)) ((World.putObj_heap_other (by omega)).trans hk)⟩
end Go.Proofs.YtaojpbgaengdpaaGreatDoor
