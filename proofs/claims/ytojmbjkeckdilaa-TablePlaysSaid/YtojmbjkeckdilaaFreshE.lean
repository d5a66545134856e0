/- FreshTells answers true. -/
import Derived.Test.YtojmbjkeckdilaaFreshC
namespace Go.Proofs.Ytojmbjkeckdilaa
open Go.RowKit Go.Shelf
attribute [local go_sem] Oper.semAt_some

theorem nthS_len (base : ByteArray) (n : Int) (h1 : n ≤ 9223372036854775807) : (nthS base n).size ≤ 245 := by
  unfold nthS
  have := tailL_len n h1
  rw [ByteArray.size_append, str_size]
  simp
  omega
theorem keepsO_below {W W' : World} (h : Below W.heap.size W W') : KeepsOthers W W' :=
  ⟨h.size, fun k o hk _ => (h.block k (Array.getElem?_eq_some_iff.1 hk).1).trans hk⟩

theorem eqIn_func_nil {P : Program} (d : Nat) (t : TypeId) (ps rs : Array TypeId) (v : Bool) (f : Fn) (x c : Array Value) (w : World) (h : P.underlying t = some (.func ps rs v)) : (Op.equalIn (d + 1) t (.func f x c) .nilFunc).run P w = .ok false w := by
  simp [Op.equalIn, run_underlying h]
theorem eq_func_nil {P : Program} (t : TypeId) (ps rs : Array TypeId) (v : Bool) (f : Fn) (x c : Array Value) (w : World) (h : P.underlying t = some (.func ps rs v)) : (Op.equal t (.func f x c) .nilFunc).run P w = .ok false w := eqIn_func_nil 9999 t ps rs v f x c w h
theorem eql_func_nil {P : Program} (t : TypeId) (ps rs : Array TypeId) (v : Bool) (f : Fn) (x c : Array Value) (w : World) (h : P.underlying t = some (.func ps rs v)) : (binOp .eql t (.func f x c) .nilFunc).run P w = .ok (.bool false) w := by
  simp only [binOp]
  simp [eq_func_nil t ps rs v f x c w h]


theorem tells_leave {N : Nat} {a : Act} {w W : World} {p6 : Nat} {b : Bool} {R : Ending → Prop}
    (b2 : Blk W p6 #[.bool b] 4) (hB : Below w.heap.size w W)
    (h6 : a.tmps[6]? = some (.pointer (some ⟨p6, 0, none⟩))) (hd : a.defers = [])
    (hR : R (.returned (.bool b))) :
    bodyPostM Fence.wide N Try.prog Try.f6 (fun e w' => R e ∧ Below w.heap.size w w') .ret a W := by
  obtain ⟨tmps, defers⟩ := a
  subst hd
  have e2 := b2.cell
  show LeavesInM Fence.wide N Try.prog Try.f6 _ _ _ _ W
  refine ⟨.bool b, ?_, hR, hB⟩
  simp at h6
  simp [results, Try.results6, go_sem, e2, h6]

theorem tells_leave1 {N : Nat} {a : Act} {w W : World} {D p6 : Nat} {b : Bool} {R : Ending → Prop}
    (hK : W.heap[D]? = some (.deferred (some []))) (b2 : Blk W p6 #[.bool b] 4) (hB : Below w.heap.size w W) (hD : w.heap.size ≤ D)
    (h6 : a.tmps[6]? = some (.pointer (some ⟨p6, 0, none⟩))) (hd : a.defers = [{ target := .collected D, args := #[] }])
    (hR : R (.returned (.bool b))) :
    bodyPostM Fence.wide N Try.prog Try.f6 (fun e w' => R e ∧ Below w.heap.size w w') .ret a W := by
  obtain ⟨tmps, defers⟩ := a
  subst hd
  have e2 := (b2.put hK rfl (.deferred none)).cell
  have hb : Below w.heap.size w (W.putObj D (.deferred none)) := hB.trans (belowK_b (Nat.le_refl _) W D _ _ hD hK rfl rfl)
  show LeavesInM Fence.wide N Try.prog Try.f6 _ _ _ _ W
  refine ⟨by simp, .inl ⟨_, _, rfl, run_takeDeferred hK, ?_⟩⟩
  refine ⟨.bool b, ?_, hR, hb⟩
  simp at h6
  simp [results, Try.results6, go_sem, e2, h6]

theorem i64_id {x : Int} (h0 : -9223372036854775808 ≤ x) (h1 : x ≤ 9223372036854775807) : IntKind.i64.wrap x = x := by
  simp [IntKind.wrap, IntKind.bits, IntKind.signed]
  omega
/-- the world while the last line is reckoned: the boxes are as they were, the result box holds some bool. -/
def cellOf (w : World) (b : Nat) : Value := (w.cell? ⟨b, 0, none⟩).getD undef
structure TB (w : World) (D : Nat) (base : ByteArray) (most : Int) (w' : World) : Prop where
  b0 : Blk w' w.heap.size #[.string base] 9
  b1 : Blk w' (w.heap.size + 1) #[.int .u8 most] 5
  b2 : ∃ b, Blk w' (w.heap.size + 1 + 1) #[.bool b] 4
  b4 : Blk w' (w.heap.size + 1 + 1 + 1 + 1) #[.int .i64 (most + 1)] 3
  hB : Below w.heap.size w w'
  hK : w'.heap[D]? = some (.deferred (some []))
theorem TB.all {w : World} {D : Nat} {base : ByteArray} {most : Int} {w' : World} (h : TB w D base most w') :
    TB w D base most w' ∧ w'.cell? ⟨w.heap.size, 0, none⟩ = some (.string base) ∧ w'.cell? ⟨w.heap.size + 1, 0, none⟩ = some (.int .u8 most) ∧ w'.cell? ⟨w.heap.size + 1 + 1 + 1 + 1, 0, none⟩ = some (.int .i64 (most + 1)) ∧ w'.cell? ⟨w.heap.size + 1 + 1, 0, none⟩ = some (cellOf w' (w.heap.size + 1 + 1)) ∧ w'.frozen? ⟨w.heap.size + 1 + 1, 0, none⟩ = false := by
  obtain ⟨b, hb⟩ := h.b2
  refine ⟨h, by rw [h.b0.cell]; rfl, by rw [h.b1.cell]; rfl, by rw [h.b4.cell]; rfl, ?_, hb.frozen 0⟩
  unfold cellOf
  rw [hb.cell]
  rfl
theorem TB.call {w : World} {D : Nat} {base : ByteArray} {most : Int} {p w' : World} (h : TB w D base most p) (h2 : Below p.heap.size p w') : TB w D base most w' := by
  obtain ⟨b, hb⟩ := h.b2
  exact ⟨h.b0.keep h2, h.b1.keep h2, ⟨b, hb.keep h2⟩, h.b4.keep h2, bnext h.hB h2, (keepsO_below h2).same D _ h.hK rfl⟩
theorem TB.drew {w : World} {D : Nat} {base : ByteArray} {most : Int} {p : World} (h : TB w D base most p) : TB w D base most p.drew :=
  ⟨h.b0.drew, h.b1.drew, h.b2, h.b4.drew, h.hB.drew, h.hK⟩
theorem TB.put {w : World} {D : Nat} {base : ByteArray} {most : Int} {p : World} (h : TB w D base most p) (v : Bool) : Blk (p.setCell ⟨w.heap.size + 1 + 1, 0, none⟩ (.bool v)) (w.heap.size + 1 + 1) #[.bool v] 4 := by
  obtain ⟨b, hb⟩ := h.b2
  exact hb.set 0 _
theorem TB.store {w : World} {D : Nat} {base : ByteArray} {most : Int} {p : World} (h : TB w D base most p) (v : Bool) : TB w D base most (p.setCell ⟨w.heap.size + 1 + 1, 0, none⟩ (.bool v)) := by
  obtain ⟨b, hb⟩ := h.b2
  exact ⟨h.b0.setOther _ _ (by simp; omega), h.b1.setOther _ _ (by simp), ⟨v, hb.set 0 _⟩, h.b4.setOther _ _ (by simp), h.hB.setCell (p := ⟨w.heap.size + 1 + 1, 0, none⟩) (by simp; omega) _, (KeepsOthers.setCell _ _ _).same D _ h.hK rfl⟩

set_option maxRecDepth 100000 in
set_option maxHeartbeats 4000000 in
theorem freshTells_any (base : ByteArray) (hs : base.size ≤ 9223372036854775807) (n most : Int) (hn0 : -9223372036854775808 ≤ n) (hn1 : n ≤ 9223372036854775807) (hm0 : 0 ≤ most) (hm1 : most ≤ 255) (w : World) :
    Calls Try.prog 6 #[.string base, .int .i64 n, .int .u8 most] w fun e w' => e = .returned (.bool true) ∧ Below w.heap.size w w' := by
  have hnf : ∀ (w : World) (f : Fn) (c : Array Value), (binOp .eql 49 (.func f #[] c) .nilFunc).run Try.prog w = .ok (.bool false) w := fun w f c => eql_func_nil _ _ _ _ f #[] c w Try.underlying49
  refine (callsIn_wide (n := 5)).1 ?_
  refine callsIn_of_wp_marks Try.func6 rfl trivial ?_ rfl
  simp only [Try.ntmps6, List.size_toArray, List.length_cons, List.length_nil, Nat.reduceAdd, Nat.reduceSub, Array.replicate_succ, Array.replicate_zero, List.push_toArray, List.append_toArray, List.nil_append, List.cons_append]
  have q2 := ((Blk.new ((w.alloc (.cells #[.string base] 9)).alloc (.cells #[.int .u8 most] 5)) #[.bool false] 4).old (.cells #[.string base] 9))
  have hB0 : Below w.heap.size w (((((w.alloc (.cells #[.string base] 9)).alloc (.cells #[.int .u8 most] 5)).alloc (.cells #[.bool false] 4)).alloc (.cells #[.string base] 9))) := balloc (balloc (balloc (balloc (Below.refl _ _) _) _) _) _
  simp only [World.size_alloc] at q2
  have Q2 := Lib.hid q2
  have HB0 := Lib.hid hB0
  clear q2 hB0
  by_cases h300 : (300 : Int) < base.size
  · gi_wp2_with (refine ⟨trivial, ?_⟩; gi_at_call 24; refine (callsIn_wide.2 (names_any _ _)).mono ?_; rintro e w' ⟨rfl, rfl⟩)
    refine ⟨trivial, ?_⟩
    refine (callsIn_wide.2 (awake09_any _)).mono ?_
    rintro e w' ⟨rfl, hb1⟩
    have q2 := Q2.out.keep hb1
    obtain ⟨c2, f2, z2⟩ := q2.facts
    gi_wp2
    exact tells_leave (R := fun e => e = .returned (.bool true)) (q2.set 0 _) ((bnext HB0.out hb1).setCell (p := ⟨w.heap.size + 1 + 1, 0, none⟩) (by simp; omega) _) rfl rfl rfl
  · gi_wp2_with (refine ⟨trivial, ?_⟩; gi_at_call 24; refine (callsIn_wide.2 (names_any _ _)).mono ?_; rintro e w' ⟨rfl, rfl⟩)
    have q2 := Q2.out.old (.cells #[.int .i64 0] 3)
    have hB0 : Below w.heap.size w (((((w.alloc (.cells #[.string base] 9)).alloc (.cells #[.int .u8 most] 5)).alloc (.cells #[.bool false] 4)).alloc (.cells #[.string base] 9)).alloc (.cells #[.int .i64 0] 3)) := balloc HB0.out _
    have q0 := ((((Blk.new w #[.string base] 9).old (.cells #[.int .u8 most] 5)).old (.cells #[.bool false] 4)).old (.cells #[.string base] 9)).old (.cells #[.int .i64 0] 3)
    have q1 := (((Blk.new (w.alloc (.cells #[.string base] 9)) #[.int .u8 most] 5).old (.cells #[.bool false] 4)).old (.cells #[.string base] 9)).old (.cells #[.int .i64 0] 3)
    have q3 := (Blk.new (((w.alloc (.cells #[.string base] 9)).alloc (.cells #[.int .u8 most] 5)).alloc (.cells #[.bool false] 4)) #[.string base] 9).old (.cells #[.int .i64 0] 3)
    have q4 := Blk.new (((((w.alloc (.cells #[.string base] 9)).alloc (.cells #[.int .u8 most] 5)).alloc (.cells #[.bool false] 4)).alloc (.cells #[.string base] 9))) #[.int .i64 0] 3
    have hsz : (((((w.alloc (.cells #[.string base] 9)).alloc (.cells #[.int .u8 most] 5)).alloc (.cells #[.bool false] 4)).alloc (.cells #[.string base] 9)).alloc (.cells #[.int .i64 0] 3)).heap.size = w.heap.size + 5 := by simp
    simp only [World.size_alloc] at q1 q2 q3 q4
    generalize ((((w.alloc (.cells #[.string base] 9)).alloc (.cells #[.int .u8 most] 5)).alloc (.cells #[.bool false] 4)).alloc (.cells #[.string base] 9)).alloc (.cells #[.int .i64 0] 3) = W0 at q0 q1 q2 q3 q4 hB0 hsz ⊢
    clear Q2 HB0
    refine wpIn_rangeFunc_ownF rfl (by omega) (gf := 36) (lb := #[.pointer (some ⟨w.heap.size + 1 + 1 + 1, 0, none⟩)]) rfl trivial (enters_of Try.func36 (by kernel_rfl) rfl)
      (names_stops (5 - 1) (by omega) (w.heap.size + 1 + 1 + 1) (w.heap.size + 4) base hs W0 (by omega) (by omega) q3) belowK_t (belowK_b (by omega)) (Below.refl _ _) (fun _ => rfl)
      (fun pre W => (Blk W w.heap.size #[.string base] 9 ∧ Blk W (w.heap.size + 1) #[.int .u8 most] 5 ∧ Blk W (w.heap.size + 1 + 1) #[.bool false] 4 ∧ Blk W (w.heap.size + 1 + 1 + 1 + 1) #[.int .i64 (pre.length : Nat)] 3 ∧ (pre.length : Int) ≤ most) ∧ Below w.heap.size w W)
      (fun c pre W => ((c = .exit 0 ∧ Blk W w.heap.size #[.string base] 9 ∧ Blk W (w.heap.size + 1) #[.int .u8 most] 5 ∧ Blk W (w.heap.size + 1 + 1) #[.bool false] 4 ∧ Blk W (w.heap.size + 1 + 1 + 1 + 1) #[.int .i64 (most + 1)] 3 ∧ (pre.length : Int) = most + 1) ∨ (c = .ret ∧ ∃ (pre' : List Nat) (x : Nat), pre = pre' ++ [x] ∧ x ≠ pre'.length)) ∧ Below w.heap.size w W)
      (OwnFrom.and (Own.from (fun s A B row hh hg hr => ⟨hh.1.kept hg hr, hh.2.1.kept hg hr, hh.2.2.1.kept hg hr, hh.2.2.2.1.kept hg hr, hh.2.2.2.2⟩) _) (ownFrom_below (Nat.le_refl _) (by omega)))
      (fun c => OwnFrom.and (Own.from (fun s A B row hh hg hr => by
        rcases hh with ⟨h1, h2, h3, h4, h5, h6⟩ | h
        · exact .inl ⟨h1, h2.kept hg hr, h3.kept hg hr, h4.kept hg hr, h5.kept hg hr, h6⟩
        · exact .inr h) _) (ownFrom_below (Nat.le_refl _) (by omega)))
      ⟨⟨q0, q1, q2, q4, hm0⟩, hB0⟩
      (fun k => { tmps := #[.string base, .int .i64 n, .int .u8 most, .pointer (some ⟨w.heap.size, 0, none⟩), undef, .pointer (some ⟨w.heap.size + 1, 0, none⟩), .pointer (some ⟨w.heap.size + 1 + 1, 0, none⟩), .func (.func 36) #[] #[.pointer (some ⟨w.heap.size + 1 + 1 + 1, 0, none⟩)], .pointer (some ⟨w.heap.size + 1 + 1 + 1 + 1, 0, none⟩), .string (nthS base (k + 1)), .string base, .func (.func 36) #[] #[.pointer (some ⟨w.heap.size + 1 + 1 + 1, 0, none⟩)], .string base, .int .i64 base.size, .bool (decide ((300 : Int) < base.size)), .bool (decide ((300 : Int) < base.size)), .func (.func 36) #[] #[.pointer (some ⟨w.heap.size + 1 + 1 + 1, 0, none⟩)], .bool false, .bool (decide ((300 : Int) < base.size)), undef, undef, undef, undef, undef, undef, .func (.func 36) #[] #[.pointer (some ⟨w.heap.size + 1 + 1 + 1, 0, none⟩)], .string (nthS base (k + 1)), undef, undef, undef, undef, undef, undef, undef, undef, undef, undef, undef, undef, undef, undef, undef, undef, undef, undef, undef, undef, undef, undef, undef, undef, undef, undef, undef, undef, undef, undef, undef, undef, undef], defers := [] }) ?assign ?body ?done ?stop
    case assign =>
      intro l x W K hK
      gi_wp2
      exact hK
    case body =>
      rintro l pre x W ⟨⟨b0, b1, b2, b4, hpre⟩, hB⟩ hlen
      obtain ⟨c0, -, z0⟩ := b0.facts
      obtain ⟨c1, -, z1⟩ := b1.facts
      obtain ⟨c2, f2, z2⟩ := b2.facts
      obtain ⟨c4, f4, z4⟩ := b4.facts
      have hp5 := Lib.hid hpre
      have e0 : Blk (W.setCell ⟨w.heap.size + 1 + 1 + 1 + 1, 0, none⟩ (.int .i64 ((pre.length : Int) + 1))) w.heap.size #[.string base] 9 := b0.setOther _ _ (by simp; omega)
      have e1 : Blk (W.setCell ⟨w.heap.size + 1 + 1 + 1 + 1, 0, none⟩ (.int .i64 ((pre.length : Int) + 1))) (w.heap.size + 1) #[.int .u8 most] 5 := b1.setOther _ _ (by simp; omega)
      have e2 : Blk (W.setCell ⟨w.heap.size + 1 + 1 + 1 + 1, 0, none⟩ (.int .i64 ((pre.length : Int) + 1))) (w.heap.size + 1 + 1) #[.bool false] 4 := b2.setOther _ _ (by simp; omega)
      have e4 : Blk (W.setCell ⟨w.heap.size + 1 + 1 + 1 + 1, 0, none⟩ (.int .i64 ((pre.length : Int) + 1))) (w.heap.size + 1 + 1 + 1 + 1) #[.int .i64 ((pre.length : Int) + 1)] 3 := b4.set 0 _
      have hB1 : Below (w.heap.size + 4) W (W.setCell ⟨w.heap.size + 1 + 1 + 1 + 1, 0, none⟩ (.int .i64 ((pre.length : Int) + 1))) := (Below.refl _ _).setCell (p := ⟨w.heap.size + 1 + 1 + 1 + 1, 0, none⟩) (by simp) _
      have hK1 : KeepsOthers W (W.setCell ⟨w.heap.size + 1 + 1 + 1 + 1, 0, none⟩ (.int .i64 ((pre.length : Int) + 1))) := KeepsOthers.setCell _ _ _
      have E0 := Lib.hid e0
      have E1 := Lib.hid e1
      have E2 := Lib.hid e2
      have E4 := Lib.hid e4
      clear e0 e1 e2 e4
      gi_wp2
      refine ⟨trivial, ?_⟩
      refine (CallsIn.inRound l (callsIn_wide.2 (rnth_any base _ _ hs (by omega) (by omega)))).mono ?_
      rintro e w2 ⟨rfl, hb2⟩
      have d0 := E0.out.keep hb2
      have d1 := E1.out.keep hb2
      have d2 := E2.out.keep hb2
      have d4 := E4.out.keep hb2
      have hK2 := hK1.trans (keepsO_below hb2)
      have hB2 : Below (w.heap.size + 4) W w2 := hB1.trans (hb2.mono (by simp; have := b4.lt; omega))
      have hB3 : Below w.heap.size w w2 := hB.trans (hB2.mono (by omega))
      clear c0 z0 c1 z1 c2 f2 z2 c4 f4 z4 E0 E1 E2 E4 hB1 hK1 b0 b1 b2 b4 hB
      obtain ⟨c0, -, z0⟩ := d0.facts
      obtain ⟨c1, -, z1⟩ := d1.facts
      obtain ⟨c2, f2, z2⟩ := d2.facts
      obtain ⟨c4, f4, z4⟩ := d4.facts
      by_cases he : nthS base ((x : Int) + 1) = nthS base ((pre.length : Int) + 1)
      · have he1 := str_beq he
        have hl : (nthS base ((x : Int) + 1)).size ≤ 245 := by rw [he]; exact nthS_len base _ (by omega)
        clear he
        by_cases hm : (pre.length : Int) + 1 ≤ most
        · gi_wp2
          exact ⟨hK2, hB2, ⟨d0, d1, d2, by simpa using d4, by simp; omega⟩, hB3⟩
        · gi_wp2
          exact ⟨hK2, .inl ⟨rfl, d0, d1, d2, by rw [show most = pre.length by have := hp5.out; omega]; exact d4, by simp; have := hp5.out; omega⟩, hB3⟩
      · have he1 := str_bne he
        have hne : x ≠ pre.length := fun h => he (by rw [h])
        clear he
        gi_wp2
        exact ⟨hK2.trans (KeepsOthers.setCell _ _ _), .inr ⟨rfl, pre, x, rfl, hne⟩, hB3.setCell (p := ⟨w.heap.size + 1 + 1, 0, none⟩) (by simp; omega) _⟩
    case done =>
      rintro D ys W hD rfl ⟨⟨b0, b1, b2, b4, hpre⟩, hB⟩ hK
      exfalso
      simp at hpre
      omega
    case stop =>
      rintro D c pre W hD ⟨m, hm0', hm1', hm⟩ ⟨⟨rfl, b0, b1, b2, b4, hpre⟩ | ⟨rfl, pre', x, hp, hni⟩, hB⟩ hK
      · obtain ⟨c0, -, z0⟩ := b0.facts
        obtain ⟨c1, -, z1⟩ := b1.facts
        obtain ⟨c2, f2, z2⟩ := b2.facts
        obtain ⟨c4, f4, z4⟩ := b4.facts
        have hT : TB w D base most W := ⟨b0, b1, ⟨_, b2⟩, b4, hB, hK⟩
        have hst := str_beq (rfl : nthS base n = nthS base n)
        have hw1 : IntKind.i64.wrap most = most := i64_id (by omega) (by omega)
        have hw2 : IntKind.i64.wrap (most + 1) = most + 1 := i64_id (by omega) (by omega)
        gi_wp2
        refine (wpIn_wide (n := 5)).2 ?_
        go_region_held3 (fun w' => TB w D base most w' ∧ w'.cell? ⟨w.heap.size, 0, none⟩ = some (.string base) ∧ w'.cell? ⟨w.heap.size + 1, 0, none⟩ = some (.int .u8 most) ∧ w'.cell? ⟨w.heap.size + 1 + 1 + 1 + 1, 0, none⟩ = some (.int .i64 (most + 1)) ∧ w'.cell? ⟨w.heap.size + 1 + 1, 0, none⟩ = some (cellOf w' (w.heap.size + 1 + 1)) ∧ w'.frozen? ⟨w.heap.size + 1 + 1, 0, none⟩ = false)
          (first | with_reducible exact hT.drew.all | with_reducible exact (TB.call (And.left (by assumption)) (by assumption)).all | with_reducible exact (TB.store (And.left (by assumption)) _).all)
          (first | (go_at_call 27; refine (nth_any base n _ hs (by omega) (by omega)).mono ?_; rintro e w' ⟨rfl, hb5⟩) | (go_at_call 26; refine (rnth_any base n _ hs (by omega) (by omega)).mono ?_; rintro e w' ⟨rfl, hb5⟩) | (go_at_call 25; refine (awake09_any _).mono ?_; rintro e w' ⟨rfl, hb5⟩))
        gi_wp2
        exact tells_leave1 (R := fun e => e = .returned (.bool true)) (D := D) (p6 := w.heap.size + 1 + 1) (b := true) (TB.hK (And.left (by assumption))) ((Blk.keep (Blk.keep (Blk.keep b2.drew (by assumption)) (by assumption)) (by assumption)).set 0 _) (TB.hB (D := D) (base := base) (most := most) (And.left (by assumption))) (by omega) rfl rfl rfl
      · exfalso
        rw [hp] at hm
        obtain ⟨m', rfl⟩ : ∃ m', m = m' + 1 := ⟨m - 1, by omega⟩
        rw [List.range_succ] at hm
        obtain ⟨h1, h2⟩ := List.append_inj' hm rfl
        simp at h2
        subst h2
        subst h1
        simp at hni
end Go.Proofs.Ytojmbjkeckdilaa
