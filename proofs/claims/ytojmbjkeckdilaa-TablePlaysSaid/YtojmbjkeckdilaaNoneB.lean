/- ragpickerlaw13.none at the nil table and at the zero table. -/
import Derived.Test.YtojmbjkeckdilaaNone
namespace Go.Proofs.Ytojmbjkeckdilaa
open Go.RowKit Go.Shelf
attribute [local go_sem] Oper.semAt_some

/-- a table that has nothing and takes nothing, as its methods tell. -/
structure NoTab (tp : Option Addr) (T : World → Prop) : Prop where
  keep : ∀ W W', T W → Below W.heap.size W W' → T W'
  get : ∀ k W, T W → Calls Try.prog 32 #[.pointer tp, .int .i64 k] W fun e w' => e = .returned (.tuple #[nd0.v, .bool false]) ∧ Below W.heap.size W w'
  add : ∀ (n : Nd) W, T W → Calls Try.prog 13 #[.pointer tp, n.v] W fun e w' => e = .returned (.int .i64 0) ∧ Below W.heap.size W w'
  set : ∀ (n : Nd) W, T W → Calls Try.prog 30 #[.pointer tp, n.v] W fun e w' => e = .returned (.bool false) ∧ Below W.heap.size W w'
  drop : ∀ k W, T W → Calls Try.prog 14 #[.pointer tp, .int .i64 k] W fun e w' => e = .returned (.bool false) ∧ Below W.heap.size W w'
  len : ∀ W, T W → Calls Try.prog 35 #[.pointer tp] W fun e w' => e = .returned (.int .i64 0) ∧ Below W.heap.size W w'
  all : ∀ n Bn n₀ W, T W → Blk W Bn #[.pointer tp] 23 → SeqStopsK Fence.wide n Try.prog 42 #[.pointer (some ⟨Bn, 0, none⟩)] (fun x : Nd => #[x.v]) (Below n₀) (fun xs => xs = []) (fun _ => False) 0 W

theorem noTab_nil : NoTab none (fun _ => True) where
  keep _ _ _ _ := trivial
  get k W _ := get_nil k W
  add n W _ := add_nil n W
  set n W _ := set_nil n W
  drop k W _ := drop_nil k W
  len W _ := len_nil W
  all n Bn n₀ W _ hb := all_stops_nil n Bn n₀ W hb
theorem noTab_zero (p : Nat) : NoTab (some ⟨p, 0, none⟩) (fun w => Blk w p #[.map none, .int .i64 0] 72) where
  keep _ _ h hb := h.keep hb
  get k W h := get_zero k W p h
  add n W h := add_zero n W p h
  set n W h := set_zero n W p h
  drop k W h := drop_zero k W p h
  len W h := len_zero W p h
  all n Bn n₀ W h hb := all_stops_zero n Bn p n₀ W hb h

theorem ents_zero (w : World) : EntsOk w nd0 := ⟨[], rfl, Nat.le_refl _, by simp [nd0], .inl rfl⟩

/-- the world while none's last line is reckoned. -/
structure NB (T : World → Prop) (w : World) (D X : Nat) (n : Nd) (w' : World) : Prop where
  b0 : Blk w' w.heap.size #[.int .i64 n.no, .int .i64 n.dev, .int .i64 n.kind, .int .i64 n.mode, .int .i64 n.uid, .int .i64 n.gid, .int .i64 n.mtime, .int .i64 n.ctime, .int .i64 n.links, .int .i64 n.up, .string n.data, .slice n.ea n.el n.ec] 29
  b1 : ∃ b, Blk w' (w.heap.size + 1) #[.bool b] 4
  b2 : Blk w' X #[.int .i64 0, .int .i64 0, .int .i64 0, .int .i64 0, .int .i64 0, .int .i64 0, .int .i64 0, .int .i64 0, .int .i64 0, .int .i64 0, .string ByteArray.empty, .slice none 0 0] 29
  hT : T w'
  hX : w.heap.size + 1 < X
  hB : Below w.heap.size w w'
  hK : w'.heap[D]? = some (.deferred (some []))
theorem NB.all {T : World → Prop} {w : World} {D X : Nat} {n : Nd} {w' : World} (h : NB T w D X n w') :
    NB T w D X n w' ∧ (∀ i, w'.cell? ⟨w.heap.size, i, none⟩ = (#[.int .i64 n.no, .int .i64 n.dev, .int .i64 n.kind, .int .i64 n.mode, .int .i64 n.uid, .int .i64 n.gid, .int .i64 n.mtime, .int .i64 n.ctime, .int .i64 n.links, .int .i64 n.up, .string n.data, .slice n.ea n.el n.ec] : Array Value)[i]?) ∧ (∀ i, w'.cell? ⟨X, i, none⟩ = (#[.int .i64 0, .int .i64 0, .int .i64 0, .int .i64 0, .int .i64 0, .int .i64 0, .int .i64 0, .int .i64 0, .int .i64 0, .int .i64 0, .string ByteArray.empty, .slice none 0 0] : Array Value)[i]?) ∧ w'.cell? ⟨w.heap.size + 1, 0, none⟩ = some (cellOf w' (w.heap.size + 1)) ∧ w'.frozen? ⟨w.heap.size + 1, 0, none⟩ = false := by
  obtain ⟨b, hb⟩ := h.b1
  refine ⟨h, h.b0.cell, h.b2.cell, ?_, hb.frozen 0⟩
  unfold cellOf
  rw [hb.cell]
  rfl
theorem NB.call {tp : Option Addr} {T : World → Prop} (hN : NoTab tp T) {w : World} {D X : Nat} {n : Nd} {p w' : World} (h : NB T w D X n p) (h2 : Below p.heap.size p w') : NB T w D X n w' := by
  obtain ⟨b, hb⟩ := h.b1
  exact ⟨h.b0.keep h2, ⟨b, hb.keep h2⟩, h.b2.keep h2, hN.keep _ _ h.hT h2, h.hX, bnext h.hB h2, (keepsO_below h2).same D _ h.hK rfl⟩
theorem NB.drew {tp : Option Addr} {T : World → Prop} (hN : NoTab tp T) {w : World} {D X : Nat} {n : Nd} {p : World} (h : NB T w D X n p) : NB T w D X n p.drew :=
  h.call hN (Below.refl _ _).drew
theorem NB.alloc {tp : Option Addr} {T : World → Prop} (hN : NoTab tp T) {w : World} {D X : Nat} {n : Nd} {p : World} (h : NB T w D X n p) (o : Obj) : NB T w D X n (p.alloc o) :=
  h.call hN ((Below.refl _ _).alloc (Nat.le_refl _) _)

theorem none_leave {N : Nat} {a : Act} {w W : World} {D p6 : Nat} {b : Bool} {R : Ending → Prop}
    (hK : W.heap[D]? = some (.deferred (some []))) (b2 : Blk W p6 #[.bool b] 4) (hB : Below w.heap.size w W) (hD : w.heap.size ≤ D)
    (h6 : a.tmps[4]? = some (.pointer (some ⟨p6, 0, none⟩))) (hd : a.defers = [{ target := .collected D, args := #[] }])
    (hR : R (.returned (.bool b))) :
    bodyPostM Fence.wide N Try.prog Try.f34 (fun e w' => R e ∧ Below w.heap.size w w') .ret a W := by
  obtain ⟨tmps, defers⟩ := a
  subst hd
  have e2 := (b2.put hK rfl (.deferred none)).cell
  have hb : Below w.heap.size w (W.putObj D (.deferred none)) := hB.trans (belowK_b (Nat.le_refl _) W D _ _ hD hK rfl rfl)
  show LeavesInM Fence.wide N Try.prog Try.f34 _ _ _ _ W
  refine ⟨by simp, .inl ⟨_, _, rfl, run_takeDeferred hK, ?_⟩⟩
  refine ⟨.bool b, ?_, hR, hb⟩
  simp at h6
  simp [results, Try.results34, go_sem, e2, h6]

set_option maxRecDepth 100000 in
set_option maxHeartbeats 4000000 in
theorem none_of (tp : Option Addr) (T : World → Prop) (hN : NoTab tp T) (n : Nd) (w : World) (hT : T w) :
    Calls Try.prog 34 #[.pointer tp, n.v] w fun e w' => e = .returned (.bool true) ∧ Below w.heap.size w w' := by
  have hnf : ∀ (w : World) (f : Fn) (c : Array Value), (binOp .eql 77 (.func f #[] c) .nilFunc).run Try.prog w = .ok (.bool false) w := fun w f c => eql_func_nil _ _ _ _ f #[] c w Try.underlying77
  have q0 := (Blk.new w #[.int .i64 n.no, .int .i64 n.dev, .int .i64 n.kind, .int .i64 n.mode, .int .i64 n.uid, .int .i64 n.gid, .int .i64 n.mtime, .int .i64 n.ctime, .int .i64 n.links, .int .i64 n.up, .string n.data, .slice n.ea n.el n.ec] 29).old (.cells #[.bool false] 4)
  have q1 := Blk.new (w.alloc (.cells #[.int .i64 n.no, .int .i64 n.dev, .int .i64 n.kind, .int .i64 n.mode, .int .i64 n.uid, .int .i64 n.gid, .int .i64 n.mtime, .int .i64 n.ctime, .int .i64 n.links, .int .i64 n.up, .string n.data, .slice n.ea n.el n.ec] 29)) #[.bool false] 4
  have hB : Below w.heap.size w ((w.alloc (.cells #[.int .i64 n.no, .int .i64 n.dev, .int .i64 n.kind, .int .i64 n.mode, .int .i64 n.uid, .int .i64 n.gid, .int .i64 n.mtime, .int .i64 n.ctime, .int .i64 n.links, .int .i64 n.up, .string n.data, .slice n.ea n.el n.ec] 29)).alloc (.cells #[.bool false] 4)) := balloc (balloc (Below.refl _ _) _) _
  rw [World.size_alloc] at q1
  unfold Nd.v
  refine (callsIn_wide (n := 5)).1 ?_
  refine callsIn_of_wp_marks Try.func34 rfl trivial ?_ rfl
  simp only [Try.ntmps34, List.size_toArray, List.length_cons, List.length_nil, Nat.reduceAdd, Nat.reduceSub, Array.replicate_succ, Array.replicate_zero, List.push_toArray, List.append_toArray, List.nil_append, List.cons_append]
  have HQ := Lib.hid (And.intro q0 (And.intro q1 hB))
  clear q0 q1 hB
  gi_wp2
  obtain ⟨q0, q1, hB⟩ := HQ.out
  clear HQ
  generalize (w.alloc (.cells #[.int .i64 n.no, .int .i64 n.dev, .int .i64 n.kind, .int .i64 n.mode, .int .i64 n.uid, .int .i64 n.gid, .int .i64 n.mtime, .int .i64 n.ctime, .int .i64 n.links, .int .i64 n.up, .string n.data, .slice n.ea n.el n.ec] 29)).alloc (.cells #[.bool false] 4) = W at q0 q1 hB ⊢
  refine ⟨trivial, ?_⟩
  refine (callsIn_wide.2 (hN.get _ _ (hN.keep _ _ hT hB))).mono ?_
  unfold Nd.v nd0
  rintro e w1 ⟨rfl, hb1⟩
  have b0 := q0.keep hb1
  have b1 := q1.keep hb1
  have hB1 := bnext hB hb1
  clear q0 q1 hB hb1
  gi_wp2
  have x0 := b0.old (.cells #[.int .i64 0, .int .i64 0, .int .i64 0, .int .i64 0, .int .i64 0, .int .i64 0, .int .i64 0, .int .i64 0, .int .i64 0, .int .i64 0, .string ByteArray.empty, .slice none 0 0] 29)
  have x1 := b1.old (.cells #[.int .i64 0, .int .i64 0, .int .i64 0, .int .i64 0, .int .i64 0, .int .i64 0, .int .i64 0, .int .i64 0, .int .i64 0, .int .i64 0, .string ByteArray.empty, .slice none 0 0] 29)
  have x2 := Blk.new w1 #[.int .i64 0, .int .i64 0, .int .i64 0, .int .i64 0, .int .i64 0, .int .i64 0, .int .i64 0, .int .i64 0, .int .i64 0, .int .i64 0, .string ByteArray.empty, .slice none 0 0] 29
  have hB2 : Below w.heap.size w (w1.alloc (.cells #[.int .i64 0, .int .i64 0, .int .i64 0, .int .i64 0, .int .i64 0, .int .i64 0, .int .i64 0, .int .i64 0, .int .i64 0, .int .i64 0, .string ByteArray.empty, .slice none 0 0] 29)) := balloc hB1 _
  have hX : w.heap.size + 1 < w1.heap.size := b1.lt
  generalize w1.alloc (.cells #[.int .i64 0, .int .i64 0, .int .i64 0, .int .i64 0, .int .i64 0, .int .i64 0, .int .i64 0, .int .i64 0, .int .i64 0, .int .i64 0, .string ByteArray.empty, .slice none 0 0] 29) = W1 at x0 x1 x2 hB2 ⊢
  generalize w1.heap.size = X at x2 hX ⊢
  clear b0 b1 hB1
  refine ⟨trivial, ?_⟩
  refine (callsIn_wide.2 (all_fn tp W1)).mono ?_
  rintro e w2 ⟨rfl, rfl⟩
  have y0 := x0.old (.cells #[.pointer tp] 23)
  have y1 := x1.old (.cells #[.pointer tp] 23)
  have y2 := x2.old (.cells #[.pointer tp] 23)
  have y3 := Blk.new W1 #[.pointer tp] 23
  have hB3 : Below w.heap.size w (W1.alloc (.cells #[.pointer tp] 23)) := balloc hB2 _
  have hX2 : X < W1.heap.size := x2.lt
  generalize W1.alloc (.cells #[.pointer tp] 23) = W2 at y0 y1 y2 y3 hB3 ⊢
  generalize W1.heap.size = Y at y3 hX2 ⊢
  clear x0 x1 x2 hB2
  gi_wp2
  refine' wpIn_rangeFunc_ownF rfl (by omega) (gf := 42) (lb := #[.pointer (some ⟨Y, 0, none⟩)]) rfl trivial (enters_of Try.func42 (by kernel_rfl) rfl)
    (hN.all (5 - 1) Y W2.heap.size W2 (hN.keep _ _ hT hB3) y3) belowK_t (belowK_b (Nat.le_refl _)) (Below.refl _ _) (fun _ => rfl)
    (fun _ W => (Blk W w.heap.size #[.int .i64 n.no, .int .i64 n.dev, .int .i64 n.kind, .int .i64 n.mode, .int .i64 n.uid, .int .i64 n.gid, .int .i64 n.mtime, .int .i64 n.ctime, .int .i64 n.links, .int .i64 n.up, .string n.data, .slice n.ea n.el n.ec] 29 ∧ Blk W (w.heap.size + 1) #[.bool false] 4 ∧ Blk W X #[.int .i64 0, .int .i64 0, .int .i64 0, .int .i64 0, .int .i64 0, .int .i64 0, .int .i64 0, .int .i64 0, .int .i64 0, .int .i64 0, .string ByteArray.empty, .slice none 0 0] 29) ∧ Below w.heap.size w W)
    (fun _ _ _ => False)
    (OwnFrom.and (Own.from (fun s A B row hh hg hr => ⟨hh.1.kept hg hr, hh.2.1.kept hg hr, hh.2.2.kept hg hr⟩) _) (ownFrom_below (Nat.le_refl _) hB3.size))
    (fun c => Own.from (fun s A B row hh hg hr => hh.elim) _)
    ⟨⟨y0, y1, y2⟩, hB3⟩ (fun x => { tmps := #[.pointer tp, .agg #[.int .i64 n.no, .int .i64 n.dev, .int .i64 n.kind, .int .i64 n.mode, .int .i64 n.uid, .int .i64 n.gid, .int .i64 n.mtime, .int .i64 n.ctime, .int .i64 n.links, .int .i64 n.up, .string n.data, .slice n.ea n.el n.ec], undef, .pointer (some ⟨w.heap.size, 0, none⟩), .pointer (some ⟨w.heap.size + 1, 0, none⟩), .pointer (some ⟨X, 0, none⟩), .bool false, .func (.func 42) #[] #[.pointer (some ⟨Y, 0, none⟩)], .tuple #[.agg #[.int .i64 0, .int .i64 0, .int .i64 0, .int .i64 0, .int .i64 0, .int .i64 0, .int .i64 0, .int .i64 0, .int .i64 0, .int .i64 0, .string ByteArray.empty, .slice none 0 0], .bool false], .pointer tp, .pointer (some ⟨w.heap.size, 0, none⟩), .int .i64 n.no, .tuple #[.agg #[.int .i64 0, .int .i64 0, .int .i64 0, .int .i64 0, .int .i64 0, .int .i64 0, .int .i64 0, .int .i64 0, .int .i64 0, .int .i64 0, .string ByteArray.empty, .slice none 0 0], .bool false], .agg #[.int .i64 0, .int .i64 0, .int .i64 0, .int .i64 0, .int .i64 0, .int .i64 0, .int .i64 0, .int .i64 0, .int .i64 0, .int .i64 0, .string ByteArray.empty, .slice none 0 0], .bool false, .pointer tp, .func (.func 42) #[] #[.pointer (some ⟨Y, 0, none⟩)], .func (.func 42) #[] #[.pointer (some ⟨Y, 0, none⟩)], .bool false, .func (.func 42) #[] #[.pointer (some ⟨Y, 0, none⟩)], x.v, undef, undef, undef, undef, undef, undef, undef, undef, undef, undef, undef, undef, undef, undef, undef, undef, undef, undef, undef, undef, undef, undef, undef, undef, undef, undef, undef, undef, undef, undef, undef], defers := [] }) ?assign ?body ?done ?stop
  case assign =>
    intro l x W K hK
    gi_wp2
    exact hK
  case body =>
    intro l pre x W _ hp
    exact absurd hp (Nat.not_lt_zero _)
  case stop =>
    intro D c pre W _ hp
    exact hp.elim
  case done =>
    rintro D ys W hD rfl ⟨⟨b0, b1, b2⟩, hB⟩ hK
    have hNB : NB T w D X n W := ⟨b0, ⟨_, b1⟩, b2, hN.keep _ _ hT hB, hX, hB, hK⟩
    clear y0 y1 y2 y3 b0 b1 b2 hB hK
    obtain ⟨-, c0, c2, c1, f1⟩ := hNB.all
    gi_wp2
    refine ⟨trivial, ?_⟩
    refine (callsIn_wide.2 (hN.add n W hNB.hT)).mono ?_
    rintro e w3 ⟨rfl, hb3⟩
    have hNB3 := hNB.call hN hb3
    clear c0 c2 c1 f1 hNB hb3
    obtain ⟨-, c0, c2, c1, f1⟩ := hNB3.all
    gi_wp2
    refine ⟨trivial, ?_⟩
    refine (callsIn_wide.2 (same_any nd0 w3 (ents_zero w3))).mono ?_
    rintro e w4 ⟨rfl, hb4⟩
    have hNB4 := hNB3.call hN hb4
    clear c0 c2 c1 f1 hNB3 hb4
    obtain ⟨-, c0, c2, c1, f1⟩ := hNB4.all
    gi_wp2
    refine ⟨trivial, ?_⟩
    refine (callsIn_wide.2 (hN.set n w4 hNB4.hT)).mono ?_
    rintro e w5 ⟨rfl, hb5⟩
    have hNB5 := hNB4.call hN hb5
    clear c0 c2 c1 f1 hNB4 hb5
    obtain ⟨-, c0, c2, c1, f1⟩ := hNB5.all
    gi_wp2
    refine ⟨trivial, ?_⟩
    refine (callsIn_wide.2 (hN.drop n.no w5 hNB5.hT)).mono ?_
    rintro e w6 ⟨rfl, hb6⟩
    have hNB6 := hNB5.call hN hb6
    clear c0 c2 c1 f1 hNB5 hb6
    obtain ⟨-, c0, c2, c1, f1⟩ := hNB6.all
    gi_wp2
    refine ⟨trivial, ?_⟩
    refine (callsIn_wide.2 (hN.len w6 hNB6.hT)).mono ?_
    rintro e w7 ⟨rfl, hb7⟩
    have hNB7 := hNB6.call hN hb7
    clear c0 c2 c1 f1 hNB6 hb7
    obtain ⟨-, c0, c2, c1, f1⟩ := hNB7.all
    obtain ⟨bb, hbb⟩ := hNB7.b1
    gi_wp2
    exact none_leave (R := fun e => e = .returned (.bool true)) (D := D) (p6 := w.heap.size + 1) (b := true) ((KeepsOthers.setCell _ _ _).same D _ hNB7.hK rfl) (hbb.set 0 _) (hNB7.hB.setCell (p := ⟨w.heap.size + 1, 0, none⟩) (by simp) _) (by have := hB3.size; omega) rfl rfl rfl
end Go.Proofs.Ytojmbjkeckdilaa
