/- ragpickerlaw13.all at a table and its nodes. -/
import Derived.Test.YtojmbjkeckdilaaAllB
import Derived.Test.YtojmbjkeckdilaaStillIn
namespace Go.Proofs.Ytojmbjkeckdilaa
open Go.RowKit Go.Shelf
attribute [local go_sem] Oper.semAt_some

set_option maxRecDepth 100000 in
set_option maxHeartbeats 2000000 in
theorem same_diff (x y : Nd) (h : x.no ≠ y.no) (w : World) :
    Calls Try.prog 33 #[x.v, y.v] w fun e w' => e = .returned (.bool false) ∧ Below w.heap.size w w' := by
  have h1 : (x.no == y.no) = false := by simpa using h
  have hB : Below w.heap.size w ((w.alloc (.cells #[.int .i64 x.no, .int .i64 x.dev, .int .i64 x.kind, .int .i64 x.mode, .int .i64 x.uid, .int .i64 x.gid, .int .i64 x.mtime, .int .i64 x.ctime, .int .i64 x.links, .int .i64 x.up, .string x.data, .slice x.ea x.el x.ec] 29)).alloc (.cells #[.int .i64 y.no, .int .i64 y.dev, .int .i64 y.kind, .int .i64 y.mode, .int .i64 y.uid, .int .i64 y.gid, .int .i64 y.mtime, .int .i64 y.ctime, .int .i64 y.links, .int .i64 y.up, .string y.data, .slice y.ea y.el y.ec] 29)) := balloc (balloc (Below.refl _ _) _) _
  have HB := Lib.hid hB
  clear hB
  unfold Nd.v
  go_enter Try.func33, Try.ntmps33
  go_wp2_with fail
  go_ret
  exact ⟨rfl, HB.out⟩

theorem keepC_put {n₀ : Nat} {S : Nat → Prop} {w : World} (hn : n₀ ≤ w.heap.size) : ∀ (W : World) (l : Nat) (o o' : Obj), w.heap.size ≤ l → W.heap[l]? = some o → o.isCells = false → o.isWalk = false → KeepC n₀ S W (W.putObj l o') := fun W l o o' hl ho hc hw =>
  ⟨by simp [World.putObj], fun k hk _ => (belowK_b hn W l o o' hl ho hc hw).block k hk, fun k vs T _ hb => hb.put ho hc o'⟩
theorem keepC_below {n₀ : Nat} {S : Nat → Prop} {W W' : World} (h : Below W.heap.size W W') (hn : n₀ ≤ W.heap.size) : KeepC n₀ S W W' :=
  ⟨h.size, fun k hk _ => h.block k (by omega), fun k vs T _ hb => hb.keep h⟩
theorem keepC_set {n₀ : Nat} {S : Nat → Prop} {W : World} {a : Addr} (hs : S a.block) (v : Value) : KeepC n₀ S W (W.setCell a v) :=
  ⟨by simp, fun k hk hn => Below.heap_setCell W a v k (fun e => hn (e ▸ hs)), fun k vs T hn hb => hb.setOther a v (fun e => hn (e ▸ hs))⟩

theorem len_tableB (w : World) (p m : Nat) (last : Int) (L : List (Nd × Nat)) (clk : Nat) (hT : Tab w p m last L clk) :
    Calls Try.prog 35 #[.pointer (some ⟨p, 0, none⟩)] w fun e w' => e = .returned (.int .i64 L.length) ∧ Below w.heap.size w w' := by
  refine (len_table w p m last L clk hT).mono ?_
  rintro e w' ⟨rfl, rfl⟩
  exact ⟨rfl, Below.refl _ _⟩

theorem all_leave {N : Nat} {a : Act} {w W : World} {D p6 : Nat} {b : Bool} {R : Ending → Prop}
    (hK : W.heap[D]? = some (.deferred (some []))) (b2 : Blk W p6 #[.bool b] 4) (hB : Below w.heap.size w W) (hD : w.heap.size ≤ D)
    (h6 : a.tmps[4]? = some (.pointer (some ⟨p6, 0, none⟩))) (hd : a.defers = [{ target := .collected D, args := #[] }])
    (hR : R (.returned (.bool b))) :
    bodyPostM Fence.wide N Try.prog Try.f31 (fun e w' => R e ∧ Below w.heap.size w w') .ret a W := by
  obtain ⟨tmps, defers⟩ := a
  subst hd
  have e2 := (b2.put hK rfl (.deferred none)).cell
  have hb : Below w.heap.size w (W.putObj D (.deferred none)) := hB.trans (belowK_b (Nat.le_refl _) W D _ _ hD hK rfl rfl)
  show LeavesInM Fence.wide N Try.prog Try.f31 _ _ _ _ W
  refine ⟨by simp, .inl ⟨_, _, rfl, run_takeDeferred hK, ?_⟩⟩
  refine ⟨.bool b, ?_, hR, hb⟩
  simp at h6
  simp [results, Try.results31, go_sem, e2, h6]

set_option maxRecDepth 100000 in
set_option maxHeartbeats 4000000 in
theorem allRows_any (p m : Nat) (last : Int) (L : List (Nd × Nat)) (clk : Nat) (a : Option Addr) (len cap : Nat) (w : World) (hT : TabR w p m last L clk) (hz : SliceAt w 12 ndR a len cap (L.map (·.1))) (hE : ∀ x ∈ L, EntsOk w x.1) :
    Calls Try.prog 31 #[.pointer (some ⟨p, 0, none⟩), .slice a len cap] w fun e w' => e = .returned (.bool true) ∧ Below w.heap.size w w' := by
  have hnf : ∀ (w : World) (f : Fn) (c : Array Value), (binOp .eql 77 (.func f #[] c) .nilFunc).run Try.prog w = .ok (.bool false) w := fun w f c => eql_func_nil _ _ _ _ f #[] c w Try.underlying77
  have Hxl := Lib.hid hz.1
  refine (callsIn_wide (n := 5)).1 ?_
  refine callsIn_of_wp_marks Try.func31 rfl trivial ?_ rfl
  simp only [Try.ntmps31, List.size_toArray, List.length_cons, List.length_nil, Nat.reduceAdd, Nat.reduceSub, Array.replicate_succ, Array.replicate_zero, List.push_toArray, List.append_toArray, List.nil_append, List.cons_append]
  gi_wp2
  have x0 := (Blk.new w #[.slice a len cap] 59).old (.cells #[.bool false] 4)
  have x1 := Blk.new (w.alloc (.cells #[.slice a len cap] 59)) #[.bool false] 4
  have hB1 : Below w.heap.size w ((w.alloc (.cells #[.slice a len cap] 59)).alloc (.cells #[.bool false] 4)) := balloc (balloc (Below.refl _ _) _) _
  have hs1 : ((w.alloc (.cells #[.slice a len cap] 59)).alloc (.cells #[.bool false] 4)).heap.size = w.heap.size + 2 := by simp
  simp only [World.size_alloc] at x1
  generalize (w.alloc (.cells #[.slice a len cap] 59)).alloc (.cells #[.bool false] 4) = W1 at x0 x1 hB1 hs1 ⊢
  refine ⟨trivial, ?_⟩
  refine (callsIn_wide.2 (all_fn (some ⟨p, 0, none⟩) W1)).mono ?_
  rintro e w2 ⟨rfl, rfl⟩
  have y0 := x0.old (.cells #[.pointer (some ⟨p, 0, none⟩)] 23)
  have y1 := x1.old (.cells #[.pointer (some ⟨p, 0, none⟩)] 23)
  have y2 := Blk.new W1 #[.pointer (some ⟨p, 0, none⟩)] 23
  have hB2 : Below w.heap.size w (W1.alloc (.cells #[.pointer (some ⟨p, 0, none⟩)] 23)) := balloc hB1 _
  have hs2 : (W1.alloc (.cells #[.pointer (some ⟨p, 0, none⟩)] 23)).heap.size = w.heap.size + 3 := by simp; omega
  rw [hs1] at y2
  generalize W1.alloc (.cells #[.pointer (some ⟨p, 0, none⟩)] 23) = W2 at y0 y1 y2 hB2 hs2 ⊢
  rw [hs1]
  clear x0 x1 hB1 hs1
  have hT2 := hT.tab.keep hB2
  have hlL : L.length = len := by simpa using Hxl.out
  subst hlL
  obtain ⟨c0, -, z0⟩ := y0.facts
  gi_wp2
  refine (wpIn_wide (n := 5)).2 ?_
  go_region_held3 (fun w' => (∀ b o, b < W2.heap.size → w'.cell? ⟨b, o, none⟩ = W2.cell? ⟨b, o, none⟩) ∧ Below W2.heap.size W2 w') (first | with_reducible assumption | with_reducible exact keepS_here _ | with_reducible exact keepS_here2 _ | with_reducible exact keepS_call (by assumption) (by assumption) | with_reducible exact keepS_alloc (by assumption) _ | with_reducible exact keepS_allocD (by assumption) _ | with_reducible exact keepS_realloc (by assumption) (by assumption) | with_reducible exact keepS_set4 (by assumption) (by assumption))
    (first | (go_at_call 35; refine (len_tableB _ p m last L clk (hT2.keep (And.right (by assumption)))).mono ?_; rintro e w' ⟨rfl, hb5⟩))
  have hS4 : Below W2.heap.size W2 w' := keepS_below (by assumption)
  have hB4 : Below w.heap.size w w' := bnext hB2 hS4
  have u0 := (y0.keep hS4).old (.cells #[.int .i64 0] 3)
  have u1 := (y1.keep hS4).old (.cells #[.int .i64 0] 3)
  have u2 := (y2.keep hS4).old (.cells #[.int .i64 0] 3)
  gi_wp2
  have u3 := Blk.new w' #[.int .i64 0] 3
  have hB5 : Below w.heap.size w (w'.alloc (.cells #[.int .i64 0] 3)) := balloc hB4 _
  have hKsz : w.heap.size + 3 ≤ w'.heap.size := by have := hS4.size; omega
  have hs3 : (w'.alloc (.cells #[.int .i64 0] 3)).heap.size = w'.heap.size + 1 := by simp
  have hpw : p < w.heap.size := hT.tab.blk.lt
  have hmw : m < w.heap.size := hT.tab.map.lt
  have hT3 : TabR (w'.alloc (.cells #[.int .i64 0] 3)) p m last L clk := ⟨hT.tab.keep hB5, hT.rise, hT.low, hT.high, hT.born, hT.bornOnce, hT.short⟩
  have hrise := Lib.hid hT.rise
  have hlow := Lib.hid hT.low
  have hshort : L.length ≤ 1000 := hT.short
  clear hb5 hS4 hB4 y0 y1 y2 hB2 hs2 hT2 c0 z0 hT
  generalize w'.alloc (.cells #[.int .i64 0] 3) = W3 at u0 u1 u2 u3 hB5 hs3 hT3 ⊢
  generalize w'.heap.size = K at u3 hKsz hs3 ⊢
  refine' wpIn_rangeFunc_ownH rfl (by omega) (gf := 42) (lb := #[.pointer (some ⟨w.heap.size + 2, 0, none⟩)]) rfl trivial (enters_of Try.func42 (by kernel_rfl) rfl)
    (all_stops (5 - 1) (w.heap.size + 2) p m (w.heap.size + 3) (fun b => b = w.heap.size + 1 ∨ b = K) last L clk W3 hT3 u2 (by omega) (by omega) (by omega) (by omega) (by omega) (by rintro k (rfl | rfl) <;> omega))
    (fun h g => h.trans g) (keepC_put (by omega)) (Below.refl _ _) (fun _ => rfl)
    (fun pre W => (Blk W w.heap.size #[.slice a L.length cap] 59 ∧ Blk W (w.heap.size + 1) #[.bool false] 4 ∧ Blk W K #[.int .i64 pre.length] 3) ∧ Below w.heap.size w W)
    (fun _ pre _ => ∃ q x, pre = q ++ [x] ∧ x ≠ q.length)
    (OwnFrom.and (Own.from (fun s A B row hh hg hr => ⟨hh.1.kept hg hr, hh.2.1.kept hg hr, hh.2.2.kept hg hr⟩) _) (ownFrom_below (Nat.le_refl _) hB5.size))
    (fun c => Own.from (fun s A B row hh hg hr => hh) _)
    ⟨⟨u0, u1, u3⟩, hB5⟩
    (fun x a' W => ∃ Bx, K < Bx ∧ Blk W Bx #[.int .i64 (ndAt L x).no, .int .i64 (ndAt L x).dev, .int .i64 (ndAt L x).kind, .int .i64 (ndAt L x).mode, .int .i64 (ndAt L x).uid, .int .i64 (ndAt L x).gid, .int .i64 (ndAt L x).mtime, .int .i64 (ndAt L x).ctime, .int .i64 (ndAt L x).links, .int .i64 (ndAt L x).up, .string (ndAt L x).data, .slice (ndAt L x).ea (ndAt L x).el (ndAt L x).ec] 29 ∧ a' = { tmps := #[.pointer (some ⟨p, 0, none⟩), .slice a L.length cap, undef, .pointer (some ⟨w.heap.size, 0, none⟩), .pointer (some ⟨w.heap.size + 1, 0, none⟩), .func (.func 42) #[] #[.pointer (some ⟨w.heap.size + 2, 0, none⟩)], .pointer (some ⟨K, 0, none⟩), .pointer (some ⟨Bx, 0, none⟩), .pointer (some ⟨p, 0, none⟩), .func (.func 42) #[] #[.pointer (some ⟨w.heap.size + 2, 0, none⟩)], .func (.func 42) #[] #[.pointer (some ⟨w.heap.size + 2, 0, none⟩)], .bool false, .bool false, .pointer (some ⟨p, 0, none⟩), .int .i64 L.length, .slice a L.length cap, .int .i64 L.length, .bool false, .bool false, .func (.func 42) #[] #[.pointer (some ⟨w.heap.size + 2, 0, none⟩)], (ndAt L x).v, undef, undef, undef, undef, undef, undef, undef, undef, undef, undef, undef, undef, undef, undef, undef, undef, undef, undef, undef], defers := [] })
    (fun x a' _ X Y row hs hg hr => by obtain ⟨Bx, h1, h2, h3⟩ := hs; exact ⟨Bx, h1, h2.kept hg (fun r e => (hr r e).2), h3⟩)
    ?assign ?body ?done ?stop
  case assign =>
    rintro l pre x W K' ⟨⟨i0, i1, i2⟩, hB⟩ hK
    unfold Nd.v at hK ⊢
    gi_wp2
    exact hK _ _ ((KeepsOthers.alloc _ _).from _) (keepC_below ((Below.refl _ W).alloc (Nat.le_refl _) _) (by have := i2.lt; omega)) ⟨⟨i0.old _, i1.old _, i2.old _⟩, balloc hB _⟩ ⟨W.heap.size, i2.lt, Blk.new _ _ _, rfl⟩
  case body =>
    rintro l pre x a' W hl ⟨r, hr⟩ ⟨⟨i0, i1, i2⟩, hB⟩ ⟨Bx, hBx, bX, rfl⟩ hlt
    have hz1 := hz.below hB (Nat.le_refl _)
    have hz64 : L.length ≤ 9223372036854775807 := by omega
    obtain ⟨-, -, -, h | ⟨bb, off, ha, hbb, hel⟩⟩ := hz1
    · omega
    obtain ⟨cs, -, hcs, hcc⟩ := hel pre.length (by simpa using hlt)
    rw [List.getElem_map] at hcs
    obtain ⟨y, hy⟩ : ∃ y, L[pre.length].1 = y := ⟨_, rfl⟩
    rw [hy] at hcs
    unfold ndR at hcs
    subst hcs
    have h0 := hcc 0 (by simp)
    have h1 := hcc 1 (by simp)
    have h2 := hcc 2 (by simp)
    have h3 := hcc 3 (by simp)
    have h4 := hcc 4 (by simp)
    have h5 := hcc 5 (by simp)
    have h6 := hcc 6 (by simp)
    have h7 := hcc 7 (by simp)
    have h8 := hcc 8 (by simp)
    have h9 := hcc 9 (by simp)
    have h10 := hcc 10 (by simp)
    have h11 := hcc 11 (by simp)
    simp only [List.getElem_cons_zero, List.getElem_cons_succ, Nat.add_zero] at h0 h1 h2 h3 h4 h5 h6 h7 h8 h9 h10 h11
    have hEy : ∀ W', Below w.heap.size w W' → EntsOk W' y := fun W' hb => by
      obtain ⟨xs, hx⟩ := hE L[pre.length] (List.getElem_mem hlt)
      rw [hy] at hx
      exact ⟨xs, hx.below hb (Nat.le_refl _)⟩
    obtain ⟨c0, -, -⟩ := i0.facts
    obtain ⟨c1, f1, -⟩ := i1.facts
    obtain ⟨c2, f2, -⟩ := i2.facts
    obtain ⟨cb, -, -⟩ := bX.facts
    have hlt1 : (0 : Int) ≤ pre.length := by omega
    have hlt2 : (pre.length : Int) < L.length := by omega
    have hlt3 : decide ((L.length : Int) ≤ pre.length) = false := by simp; omega
    have hlt4 : decide (L.length ≤ pre.length) = false := by simp; omega
    have HE := Lib.hid hEy
    have HY := Lib.hid hy
    have HL := Lib.hid hl
    have HR := Lib.hid hr
    have HB := Lib.hid hB
    clear hcc hel hEy hy hl hr hB hE
    rw [ha] at c0 ⊢
    have HA := Lib.hid ha
    clear ha
    gi_wp2
    refine wpIn_region_still_tail 10 (by kernel_rfl) (by kernel_rfl) (by kernel_rfl) ?_
    simp only [List.take_succ_cons, List.take_zero, List.drop_succ_cons, List.drop_zero]
    repeat still_step
    refine wpStill_nil ?_
    by_cases hx : x = pre.length
    · have HX := Lib.hid hx
      clear hx
      have hB' := HB.out.drew
      have hy' : ndAt L x = y := by rw [HX.out, ndAt_lt L _ hlt]; exact HY.out
      have hc := same_any y W.drew (HE.out _ hB')
      rw [hy']
      clear hy' hB'
      clear cb
      unfold Nd.v at hc
      gi_wp2
      refine ⟨trivial, ?_⟩
      refine (CallsIn.inRound l (callsIn_wide.2 hc)).mono ?_
      rintro e w4 ⟨rfl, hb4⟩
      have j0 := i0.drew.keep hb4
      have j1 := i1.drew.keep hb4
      have j2 := i2.drew.keep hb4
      clear c0 c1 f1 c2 f2 hc h0 h1 h2 h3 h4 h5 h6 h7 h8 h9 h10 h11 hbb
      obtain ⟨c2, f2, z2⟩ := j2.facts
      gi_wp2
      have hWn : w.heap.size + 3 ≤ W.heap.size := by have := i2.lt; omega
      have hW4 : w.heap.size + 3 ≤ w4.heap.size := Nat.le_trans hWn hb4.size
      rw [← HA.out]
      refine ⟨(((KeepsOthers.drew W).trans (keepsO_below hb4)).trans (KeepsOthers.setCell _ _ _)).from _, ((keepC_below ((Below.refl _ W).drew) hWn).trans (keepC_below hb4 hWn)).trans (keepC_set (.inr rfl) _), ⟨?_, ?_, ?_⟩, ?_⟩
      · exact j0.setOther _ _ (by simp; omega)
      · exact j1.setOther _ _ (by simp; omega)
      · have := j2.set 0 (.int .i64 (pre.length + 1))
        simpa using this
      · exact (bnext HB.out.drew hb4).setCell (by simp; omega) _
    · have HX := Lib.hid hx
      clear hx
      have hne : (ndAt L x).no ≠ y.no := by
        rw [← HY.out]
        by_cases hxl : x < L.length
        · rw [ndAt_lt L x hxl]
          have hp := List.pairwise_iff_getElem.1 hrise.out
          simp only [List.getElem_map, List.length_map] at hp
          rcases Nat.lt_or_gt_of_ne HX.out with h | h
          · have := hp x pre.length hxl hlt h; omega
          · have := hp pre.length x hlt hxl h; omega
        · have : ndAt L x = nd0 := by simp [ndAt, hxl]
          rw [this]
          have := hlow.out _ (List.getElem_mem hlt)
          simp only [nd0]; omega
      have hc := same_diff (ndAt L x) y hne W.drew
      clear hne
      unfold Nd.v at hc
      gi_wp2
      refine ⟨trivial, ?_⟩
      refine (CallsIn.inRound l (callsIn_wide.2 hc)).mono ?_
      rintro e w4 ⟨rfl, hb4⟩
      have j1 := i1.drew.keep hb4
      clear c0 c1 f1 c2 f2 hc h0 h1 h2 h3 h4 h5 h6 h7 h8 h9 h10 h11 hbb cb
      obtain ⟨c1, f1, z1⟩ := j1.facts
      gi_wp2
      exact ⟨(((KeepsOthers.drew W).trans (keepsO_below hb4)).trans (KeepsOthers.setCell _ _ _)).from _, pre, x, rfl, HX.out⟩
  case done =>
    rintro D ys W hD rfl ⟨⟨i0, i1, i2⟩, hB⟩ hK
    rw [List.length_range] at i2
    obtain ⟨c0, -, -⟩ := i0.facts
    obtain ⟨c1, f1, -⟩ := i1.facts
    obtain ⟨c2, -, -⟩ := i2.facts
    have HD := Lib.hid hD
    clear hD
    gi_wp2
    exact all_leave (R := fun e => e = .returned (.bool true)) (D := D) (p6 := w.heap.size + 1) (b := true) ((KeepsOthers.setCell _ _ _).same D _ hK rfl) (i1.set 0 _) (hB.setCell (p := ⟨w.heap.size + 1, 0, none⟩) (by simp) _) (by have := HD.out; omega) rfl rfl rfl
  case stop =>
    rintro D c pre W hD ⟨j, hj, rfl⟩ ⟨q, x, he, hne⟩ hK
    rw [List.range_succ] at he
    obtain ⟨rfl, h⟩ := List.append_inj' he rfl
    simp at h
    subst h
    simp at hne
end Go.Proofs.Ytojmbjkeckdilaa
