/- Texts of the proof, part 28. -/
import Derived.OrdersHeld
import Derived.Test.YtaojpbgaengdpaaGreatDoorDU13
import Derived.Test.YtaojpbgaengdpaaGreatDoorDU27
import Derived.Test.YtaojpbgaengdpaaGreatDoorDU10
import Derived.Test.YtaojpbgaengdpaaGreatDoorDU1
import Derived.Test.YtaojpbgaengdpaaGreatDoorDU14
import Derived.Test.YtaojpbgaengdpaaGreatDoorDU3
set_option linter.unusedVariables false
set_option linter.unusedSimpArgs false
/- ents.All: its iterator hands on the names of a directory. -/
namespace Go.Proofs.YtaojpbgaengdpaaGreatDoor

open Go.RowKit Go.Shelf

attribute [local go_sem] Oper.semAt_some

theorem EntsAt.kt {w w' : World} {T : Nat → Prop} {a : Option Addr} {n c : Nat} {es : List En} (h : EntsAt w a n c es) (ht : KT T w w') (hT : ∀ b off, a = some ⟨b, off, none⟩ → T b) : EntsAt w' a n c es := by
  refine ⟨⟨h.sl.1, h.sl.2.1, h.sl.2.2.1, h.sl.2.2.2.imp id ?_⟩, fun p hp => ?_⟩
  · rintro ⟨b, off, rfl, hb, hel⟩
    refine ⟨b, off, rfl, Nat.lt_of_lt_of_le hb ht.1, fun i hi => ?_⟩
    obtain ⟨cs, h1, h2, h3⟩ := hel i hi
    refine ⟨cs, h1, h2, fun j hj => ?_⟩
    rw [← h3 j hj]
    simp only [World.cell?, ht.2 b (hT b off rfl)]
  · obtain ⟨b, off, cur, rfl, hblk⟩ := h.blk p hp
    exact ⟨b, off, cur, rfl, (ht.2 b (hT b off hp)).trans hblk⟩
theorem take_prefix (es : List En) (k : Nat) (hk : k < es.length) : (es.take k ++ [es[k]]) <+: es := by
  rw [← List.take_succ_eq_append_getElem hk]
  exact List.take_prefix _ _
set_option maxRecDepth 100000 in
set_option maxHeartbeats 2000000 in
theorem entsall_stops (n : Nat) (hn : 1 ≤ n) (Bs : Nat) {ea : Option Addr} {el ec : Nat} {es : List En} (w : World) (hs : Blk w Bs #[.slice ea el ec] 84) (he : EntsAt w ea el ec es) :
    SeqU (fun k => k = Bs ∨ ∃ off, ea = some ⟨k, off, none⟩) Fence.wide n Tryz.prog 84 #[.pointer (some ⟨Bs, 0, none⟩)] (fun x : En => #[.string x.name, .int .i64 x.no])
      (fun xs => xs = es) (fun pre => ∃ m, pre = es.take m) (fun pre x => (pre ++ [x]) <+: es) w := fun L J Jx W hW hWs hJ hJx hY h0 => by
  have hln := he.len
  subst hln
  have hc1 := he.sl.2.1
  have hc2 := he.sl.2.2.1
  have Hs := Lib.hid (show Blk W Bs #[.slice ea es.length ec] 84 from (hW.2 Bs (.inl rfl)).trans hs)
  have HE := Lib.hid (he.kt hW (fun b off h => .inr ⟨off, h⟩))
  have HY := Lib.hid hY
  have HJ := Lib.hid hJ
  clear hs hW hWs hY he hJ hJx
  obtain ⟨xc, xf, xz⟩ := Hs.out.facts
  refine callsIn_of_wp Tryz.func84 rfl trivial ?_ rfl
  simp only [Tryz.ntmps84, List.size_toArray, List.length_cons, List.length_nil, Nat.reduceAdd, Nat.reduceSub, Array.replicate_succ, Array.replicate_zero, List.push_toArray, List.append_toArray, List.nil_append, List.cons_append]
  gi_wp2
  gi_loopw [7] (fun t7 wr => ∃ k : Nat, k ≤ es.length ∧ t7 = .int .i64 k ∧ J (es.take k) wr ∧ Blk wr Bs #[.slice ea es.length ec] 84 ∧ EntsAt wr ea es.length ec es ∧ W.heap.size ≤ wr.heap.size) (fun t7 _ => es.length - (intOf t7).toNat)
  case atStart => exact ⟨0, Nat.zero_le _, rfl, h0, Hs.out, HE.out, Nat.le_refl _⟩
  case round =>
    obtain ⟨k, hk, rfl, hJp, hbs, hen, hsz⟩ := hrel
    clear xc xf xz h0
    by_cases hkl : k < es.length
    · obtain ⟨b, off, rfl, hbl⟩ := hen.some_of (by omega)
      obtain ⟨c1, c2⟩ := hen.cell k hkl
      have hJ1 := HJ.out _ _ _ hJp (Turn.alloc wr (.cells #[.string es[k].name, .int .i64 es[k].no] 101))
      have hX := Blk.new wr #[.string es[k].name, .int .i64 es[k].no] 101
      obtain ⟨fn, tmps, assign, body, hy, hR⟩ := HY.out _ es[k] _ hJ1 (take_prefix es k hkl)
      have HT := Lib.hid (List.take_succ_eq_append_getElem hkl)
      have HP := Lib.hid (take_prefix es k hkl)
      have HB1 := Lib.hid (hbs.old (.cells #[.string es[k].name, .int .i64 es[k].no] 101))
      have HE1 := Lib.hid (hen.keep (((Below.refl _ wr).alloc (Nat.le_refl _) (.cells #[.string es[k].name, .int .i64 es[k].no] 101))))
      have HR := Lib.hid hR
      have hz1 : W.heap.size ≤ (wr.alloc (.cells #[.string es[k].name, .int .i64 es[k].no] 101)).heap.size := by rw [World.size_alloc]; omega
      obtain ⟨xc, xf, xz⟩ := hX.facts
      clear hJp hbs hen hR hX hJ1
      generalize es[k] = x at c1 c2 hy HR HT HP HB1 HE1 hz1 xc xf xz
      gi_wp2
      refine HR.out.mono ?_
      rintro e W3 (⟨rfl, hJ3, hk3⟩ | ⟨rfl, hJx3⟩)
      · have HJ3 := Lib.hid hJ3
        have HB3 := Lib.hid (show Blk W3 Bs #[.slice (some ⟨b, off, none⟩) es.length ec] 84 from (hk3.2 Bs (.inl rfl)).trans HB1.out)
        have HE3 := Lib.hid (HE1.out.kt hk3 (fun b' off' h => .inr ⟨off', h⟩))
        have HS3 := Lib.hid (Nat.le_trans hz1 hk3.1)
        clear hJ3 hk3 hy xc xf xz c1 c2
        gi_wp2
        go_roundw
        case rel => exact ⟨k + 1, by omega, by go_num, by rw [HT.out]; exact HJ3.out, HB3.out, HE3.out, HS3.out⟩
        case measure => simp [intOf]; omega
      · have HJx := Lib.hid hJx3
        clear hJx3 hy
        gi_wp2
        exact bodyPost_ret (results_none rfl _ _ _) rfl ⟨⟨_, rfl⟩, .inr ⟨_, prefix_take HP.out, HJx.out⟩⟩
    · obtain rfl : k = es.length := by omega
      rw [List.take_length] at hJp
      have HJp := Lib.hid hJp
      clear hJp hbs hen
      gi_wp2
      go_end0
      exact ⟨⟨_, rfl⟩, .inl ⟨_, rfl, HJp.out⟩⟩
end Go.Proofs.YtaojpbgaengdpaaGreatDoor

/- What the program holds while it tells rows. -/
namespace Go.Proofs.YtaojpbgaengdpaaGreatDoor

open Go.RowKit

/-- the first row of each number. -/
def FirstOf (l : List (Int × Value × Nat)) (nos : List Int) : Prop := KeysOnce l ∧ ∀ k, mapFind l k = if k ∈ nos then some (.int .i64 (nos.idxOf k : Nat)) else none
theorem FirstOf.nil : FirstOf [] [] := ⟨List.Pairwise.nil, fun k => by simp [mapFind]⟩
theorem idx_snoc (nos : List Int) (k x : Int) (h : x ∈ nos) : (nos ++ [k]).idxOf x = nos.idxOf x := by rw [List.idxOf_append, if_pos h]
theorem FirstOf.old {l : List (Int × Value × Nat)} {nos : List Int} (h : FirstOf l nos) {k : Int} (hk : k ∈ nos) : FirstOf l (nos ++ [k]) := by
  refine ⟨h.1, fun x => ?_⟩
  rw [h.2 x]
  by_cases hx : x ∈ nos
  · rw [if_pos hx, if_pos (List.mem_append_left _ hx), idx_snoc _ _ _ hx]
  · rw [if_neg hx, if_neg]
    intro h2
    rcases List.mem_append.1 h2 with h2 | h2
    · exact hx h2
    · rw [List.mem_singleton] at h2
      subst h2
      exact hx hk
theorem FirstOf.new {l : List (Int × Value × Nat)} {nos : List Int} (h : FirstOf l nos) {k : Int} (hk : k ∉ nos) (clk : Nat) : FirstOf (l ++ [(k, .int .i64 (nos.length : Nat), clk)]) (nos ++ [k]) := by
  have hnone : mapFind l k = none := by rw [h.2 k, if_neg hk]
  have hkey : ∀ y ∈ l, y.1 ≠ k := fun y hy he => by
    unfold mapFind at hnone
    rw [Option.map_eq_none_iff, List.find?_eq_none] at hnone
    exact hnone y hy (by simpa using he)
  refine ⟨?_, fun x => ?_⟩
  · unfold KeysOnce
    rw [List.map_append, List.nodup_append]
    refine ⟨h.1, by simp, fun a ha b hb => ?_⟩
    simp at hb
    subst hb
    obtain ⟨y, hy, rfl⟩ := List.mem_map.1 ha
    exact hkey y hy
  · have h1 := h.2 x
    unfold mapFind at h1 ⊢
    rw [List.find?_append]
    by_cases hx : x ∈ nos
    · rw [if_pos hx] at h1
      obtain ⟨y, hy, hv⟩ := Option.map_eq_some_iff.1 h1
      rw [hy, Option.some_or, Option.map_some, hv, if_pos (List.mem_append_left _ hx), idx_snoc _ _ _ hx]
    · rw [if_neg hx] at h1
      rw [Option.map_eq_none_iff.1 h1, Option.none_or]
      by_cases hxk : k = x
      · subst hxk
        rw [if_pos (by simp), List.idxOf_append, if_neg hx]
        simp
      · rw [if_neg]
        · simp [hxk]
        · intro h2
          rcases List.mem_append.1 h2 with h2 | h2
          · exact hx h2
          · rw [List.mem_singleton] at h2
            exact hxk h2.symm
/-- one less. -/
theorem own_less {α : Type} {enc : α → List Value} {w : World} {base : Nat} {e : TypeId} {sz g cap : Nat} (hpos : 0 < sz) (hl : ∀ x, (enc x).length = sz) {xs : List α} {x : α}
    (h : w.ownsRow base e sz (.slice (some ⟨g, 0, none⟩) (xs.length + 1) cap) (xs.length + 1) ((xs ++ [x]).flatMap enc)) : w.ownsRow base e sz (.slice (some ⟨g, 0, none⟩) xs.length cap) xs.length (xs.flatMap enc) := by
  refine ⟨by rw [flat_len hl], .inr ?_⟩
  rcases h.2 with ⟨hv, -⟩ | ⟨g', cap', cur, hv, hb, hg, h1, h2, h3, h4⟩
  · cases hv
  · injection hv with e1 e2 e3
    injection e1 with e1
    injection e1 with e1
    subst e1 e3
    refine ⟨g, cap, cur, rfl, hb, hg, by omega, h2, h3, ?_⟩
    have h5 : (cur.toList.take ((xs.length + 1) * sz)).take (xs.length * sz) = ((xs ++ [x]).flatMap enc).take (xs.length * sz) := by rw [h4]
    rw [List.take_take, Nat.min_eq_left (by rw [Nat.succ_mul]; omega), List.flatMap_append, List.take_append_of_le_length (by rw [flat_len hl]; exact Nat.le_refl _)] at h5
    rw [h5, List.take_of_length_le (by rw [flat_len hl]; exact Nat.le_refl _)]
theorem own_map {w : World} {base : Nat} {e : TypeId} {sz n : Nat} {v : Value} {xs : List Value} (h : w.ownsRow base e sz v n xs) {m : Nat} {l : List (Int × Value × Nat)} {clk : Nat} (hM : MapB w m l clk) {k : Nat} (hk : k = m) : v.ownBlock ≠ some k := fun he => by
  obtain ⟨-, cur, hc⟩ := own_obj1 h he
  subst hk
  unfold MapB at hM
  rw [hM] at hc
  cases hc
theorem map_own {w w' : World} {base : Nat} {e : TypeId} {sz n : Nat} {v : Value} {xs : List Value} (h : w.ownsRow base e sz v n xs) {m : Nat} {l : List (Int × Value × Nat)} {clk : Nat} (hM : MapB w m l clk) (hm : Mod (fun k => v.ownBlock = some k) w w') : MapB w' m l clk := by
  unfold MapB at hM ⊢
  rw [hm.block m (Array.getElem?_eq_some_iff.1 hM).1 (fun hk => own_map h hM rfl hk)]
  exact hM
theorem own_box {w w' : World} {base : Nat} {e : TypeId} {sz n : Nat} {v : Value} {xs : List Value} (h : w.ownsRow base e sz v n xs) {T : TypeId} (he : e ≠ T) {B : Nat} {vs : Array Value} (hB : Blk w B vs T) (hm : Mod (fun k => k = B) w w') : w'.ownsRow base e sz v n xs :=
  own_mod h hm (fun k hk hb => by
    obtain ⟨-, cur, hc⟩ := own_obj1 h hb
    subst hk
    unfold Blk at hB
    rw [hB] at hc
    injection hc with hc
    injection hc with e1 e2 e3
    exact he e2.symm)
/-- the rows, the numbers, what is still to be told (the last first). -/
structure DB (B : Nat) (w : World) (m Bt g cap : Nat) (vo : Value) (out : List Rw) (nos : List Int) (stk : List En) : Prop where
  o : OR w B vo out
  t : Blk w Bt #[.slice (some ⟨g, 0, none⟩) stk.length cap] 83
  s : OP w B (.slice (some ⟨g, 0, none⟩) stk.length cap) stk
  m : ∃ l clk, MapB w m l clk ∧ FirstOf l nos
section

variable {B : Nat} {w w' : World} {m Bt g cap : Nat} {vo : Value} {out : List Rw} {nos : List Int} {stk : List En}

theorem DB.keep (h : DB B w m Bt g cap vo out nos stk) (hb : Below w.heap.size w w') : DB B w' m Bt g cap vo out nos stk := by
  obtain ⟨l, clk, hM, hF⟩ := h.m
  exact ⟨own_keep h.o hb, h.t.keep hb, own_keep h.s hb, l, clk, hM.keep hb, hF⟩
theorem DB.yes (h : DB B w m Bt g cap vo out nos stk) {k : Int} (hk : k ∈ nos) : (Instr.lookup 80 (.map (some m)) (.int .i64 k) true).run Tryz.prog w = .ok (.tuple #[.int .i64 (nos.idxOf k : Nat), .bool true]) w := by
  obtain ⟨l, clk, hM, hF⟩ := h.m
  exact run_lookup_yes Tryz.underlying80 Tryz.underlying3 hM (by rw [hF.2 k, if_pos hk])
theorem zero_intD (w : World) : (zeroValue 3).run Tryz.prog w = .ok (.int .i64 0) w := by kernel_rfl
theorem DB.no (h : DB B w m Bt g cap vo out nos stk) {k : Int} (hk : k ∉ nos) : (Instr.lookup 80 (.map (some m)) (.int .i64 k) true).run Tryz.prog w = .ok (.tuple #[.int .i64 0, .bool false]) w := by
  obtain ⟨l, clk, hM, hF⟩ := h.m
  exact run_lookup_no Tryz.underlying80 Tryz.underlying3 hM (by rw [hF.2 k, if_neg hk]) (zero_intD w)
/-- a number that has come. -/
theorem DB.old (h : DB B w m Bt g cap vo out nos stk) {k : Int} (hk : k ∈ nos) : DB B w m Bt g cap vo out (nos ++ [k]) stk := by
  obtain ⟨l, clk, hM, hF⟩ := h.m
  exact ⟨h.o, h.t, h.s, l, clk, hM, hF.old hk⟩
/-- a number that has not come. -/
theorem DB.new (h : DB B w m Bt g cap vo out nos stk) {k : Int} (hk : k ∉ nos) (hm : B ≤ m) (hB : B ≤ w.heap.size) : ∃ W, (Instr.mapUpdate 80 (.map (some m)) (.int .i64 k) (.int .i64 (nos.length : Nat))).run Tryz.prog w = .ok () W ∧
    DB B W m Bt g cap vo out (nos ++ [k]) stk ∧ (∀ B vs T, Blk w B vs T → Blk W B vs T) ∧ Below B w W ∧ Mod (fun k => k = m) w W := by
  obtain ⟨l, clk, hM, hF⟩ := h.m
  obtain ⟨W, h1, h2, h3, h4⟩ := step_add (w := w) Tryz.underlying80 Tryz.underlying3 hM (.int .i64 (nos.length : Nat)) (k := k) (by rw [hF.2 k, if_neg hk])
  exact ⟨W, h1, ⟨own_mod h.o h4 (fun k hk => own_map h.o hM hk), h3 _ _ _ h.t, own_mod h.s h4 (fun k hk => own_map h.s hM hk), _, _, h2, hF.new hk clk⟩, h3, h4.below (fun k hk => by omega) hB, h4⟩
/-- a row more. -/
theorem DB.row (h : DB B w m Bt g cap vo out nos stk) (r : Rw) (hl : out.length ≤ 1000000) (hb : B ≤ w.heap.size) :
    ∃ g3 cap3 W, (Builtin.append_ #[33, 33] 33 #[vo, .slice (some ⟨w.heap.size, 0, none⟩) 1 1]).run Tryz.prog (w.alloc (.cells (rwC r).toArray 47)) = .ok (.slice (some ⟨g3, 0, none⟩) (out.length + 1) cap3) W ∧
      DB B W m Bt g cap (.slice (some ⟨g3, 0, none⟩) (out.length + 1) cap3) (out ++ [r]) nos stk ∧ Below B w W ∧ Mod (fun j => vo.ownBlock = some j) w W := by
  obtain ⟨g3, cap3, W, h1, h2, h3⟩ := h.o.app r hl hb
  obtain ⟨l, clk, hM, hF⟩ := h.m
  exact ⟨g3, cap3, W, h1, ⟨h2, own_blk h.o (by decide) h.t h3, own_mod h.s h3 (fun k hk => own_apart h.o h.s (by decide) hk), l, clk, map_own h.o hM h3, hF⟩, h3.below (fun _ hk => (own_obj1 h.o hk).1) hb, h3⟩
/-- the last one is taken away. -/
theorem DB.pop {x : En} (h : DB B w m Bt g cap vo out nos (stk ++ [x])) (hB : B ≤ Bt) : DB B (w.setCell ⟨Bt, 0, none⟩ (.slice (some ⟨g, 0, none⟩) stk.length cap)) m Bt g cap vo out nos stk ∧
    Below B w (w.setCell ⟨Bt, 0, none⟩ (.slice (some ⟨g, 0, none⟩) stk.length cap)) ∧ Mod (fun k => k = Bt) w (w.setCell ⟨Bt, 0, none⟩ (.slice (some ⟨g, 0, none⟩) stk.length cap)) := by
  have hm : Mod (fun k => k = Bt) w (w.setCell ⟨Bt, 0, none⟩ (.slice (some ⟨g, 0, none⟩) stk.length cap)) := (Mod.refl (fun k => k = Bt) w).setCell (a := ⟨Bt, 0, none⟩) (.inl rfl) _
  obtain ⟨l, clk, hM, hF⟩ := h.m
  have hs : OP w B (.slice (some ⟨g, 0, none⟩) stk.length cap) stk := own_less (enc := entC) (by omega) entC_len (by have := h.s; unfold OP at this; rwa [List.length_append, List.length_singleton] at this)
  have hle : B ≤ w.heap.size := Nat.le_trans hB (Nat.le_of_lt h.t.lt)
  refine ⟨⟨own_box h.o (by decide) h.t hm, h.t.set 0 _, own_box hs (by decide) h.t hm, l, clk, hM.setOther ⟨Bt, 0, none⟩ _ ?_, hF⟩, hm.below (fun k hk => by omega) hle, hm⟩
  intro e
  have ht := h.t
  unfold Blk at ht
  unfold MapB at hM
  rw [← e, ht] at hM
  cases hM
end

end Go.Proofs.YtaojpbgaengdpaaGreatDoor

/- A region that draws its order, taken by hand: the slot that an operation writes is named. No program in sight. -/
namespace Go.Proofs.YtaojpbgaengdpaaGreatDoor

open Go

section

variable {P : Program} {ops : Array Oper} {Q : Exit → Act → World → Prop} {md : Region.Mode} {S : World → Prop}

theorem reg_take (i d : Nat) {oi : Oper} {v : Value} {fuel : Nat} {listed : Array Bool} {tmps : Array Value} {defers : List Deferred} {w : World} (hi : ops[i]? = some oi) (hd : oi.dst = some d)
    (hs : Region.noSelect ops = true) (hf : Region.free md ops listed i = true) (hr : (Region.ready md ops listed).contains i = true)
    (hQ : ∀ c a w, Q (.panic c) (a.put oi.dst v) w → Q (.panic c) a w) (hw : Region.wanted oi (yielded ops tmps) = true) (hy : ∀ w, S w → (execOp (Act.eval { tmps, defers }) oi).run P w = .ok (.value v) w) (hS : S w)
    (h : wpAnyH P md ops Q S fuel (listed.setIfInBounds i true) { tmps := tmps.setIfInBounds d v, defers } w) : wpAnyH P md ops Q S (fuel + 1) listed { tmps, defers } w :=
  wpAnyH_take hi hs hf hr hQ (Or.inl ⟨hw, hy⟩) hS (by rw [hd]; exact h)
theorem reg_skip (i d : Nat) {oi : Oper} {fuel : Nat} {listed : Array Bool} {tmps : Array Value} {defers : List Deferred} {w : World} (hi : ops[i]? = some oi) (hd : oi.dst = some d)
    (hs : Region.noSelect ops = true) (hf : Region.free md ops listed i = true) (hr : (Region.ready md ops listed).contains i = true)
    (hQ : ∀ c a w, Q (.panic c) (a.put oi.dst undef) w → Q (.panic c) a w) (hw : Region.wanted oi (yielded ops tmps) = false) (hS : S w)
    (h : wpAnyH P md ops Q S fuel (listed.setIfInBounds i true) { tmps := tmps.setIfInBounds d undef, defers } w) : wpAnyH P md ops Q S (fuel + 1) listed { tmps, defers } w :=
  wpAnyH_take hi hs hf hr hQ (Or.inr ⟨hw, rfl⟩) hS (by rw [hd]; exact h)
/-- a call that comes up alone. -/
theorem reg_call (i d : Nat) {oi : Oper} {fuel : Nat} {listed : Array Bool} {tmps : Array Value} {defers : List Deferred} {w : World} (hr : Region.ready md ops listed = [i]) (hi : ops[i]? = some oi) (hd : oi.dst = some d)
    (hw : Region.wanted oi (yielded ops tmps) = true) {f : FuncId} {args : Array Value} (he : (execOp (Act.eval { tmps, defers }) oi).run P w = .ok (.enter f args) w) {R : Value → World → Prop}
    (hc : Calls P f args w fun e w' => ∃ v, e = .returned v ∧ R v w') (hS : ∀ v w', R v w' → S w')
    (h : ∀ v w', R v w' → wpAnyH P md ops Q S fuel (listed.setIfInBounds i true) { tmps := tmps.setIfInBounds d v, defers } w') : wpAnyH P md ops Q S (fuel + 1) listed { tmps, defers } w := by
  refine wpAnyH_ready hr (by simp) (AllReadyH.cons hi (fun K hK => ?_) AllReadyH.nil)
  rw [if_pos hw]
  unfold Oper.wp
  rw [he]
  refine hc.mono ?_
  rintro e w' ⟨v, rfl, hR⟩
  have := h v w' hR
  refine hK.out _ _ (hS v w' hR) (fun _ => ?_)
  rw [hd]
  exact this
end

end Go.Proofs.YtaojpbgaengdpaaGreatDoor

/- A region that draws its order inside a round of a range over a function: by the laws for regions outside. No program in sight. -/
namespace Go.Proofs.YtaojpbgaengdpaaGreatDoor

open Go

section

variable {P : Program} {ops : Array Oper} {md : Region.Mode} {l : Nat} {n : Nat} {Q : Exit → Act → World → Prop}

theorem rowsIn_of {row : String} {args : Array Value} {w : World} {R : Value → World → Prop} (h : Rows P row args w R) : RowsIn Fence.wide n P row args w R :=
  fun c cs _ => let ⟨v, w', r, s⟩ := h c cs; ⟨v, w', r, stepsIn_wide.2 s⟩
theorem operIn_of {o : Oper} (hd : ∀ c, o.op ≠ .defer c) {a : Act} {w : World} {K K' : Act → World → Prop} (hK : ∀ a w, K a w → K' a w) (h : o.wp P a w K Q) : o.wpIn (Fence.wide.inRound l) n P a w K' Q := by
  unfold Oper.wp at h
  unfold Oper.wpIn
  refine ⟨fun _ _ => trivial, ?_⟩
  rw [Fence.inRound_round, Oper.semAt_some l _ o hd]
  generalize (execOp a.eval o).run P w = r at *
  cases r with
  | ok m w' =>
    cases m with
    | value v => exact hK _ _ h
    | skip => exact hK _ _ h
    | defer d => exact hK _ _ h
    | enter f args =>
      refine ⟨fun h => by simp [Fence.wide] at h, ?_⟩
      refine CallsIn.inRound l (callsIn_wide.2 (Calls.mono h fun e w'' he => ?_))
      cases e with
      | returned v => exact hK _ _ he
      | panicked c => exact he
      | outgrown => exact he
    | row row args =>
      refine ⟨fun h => by simp [Fence.wide] at h, ?_⟩
      exact (rowsIn_of h).mono fun v w'' hv => hK _ _ hv
    | _ => exact h.elim
  | halt x w' =>
    cases x with
    | panic v => exact h
    | _ => exact h.elim
theorem anyIn_of (hd : noDefer ops = true) (hno : ¬ LetsOut Q) : ∀ (fuel : Nat) (listed : Array Bool) (a : Act) (w : World), wpAny P md ops Q fuel listed a w → wpAnyIn (Fence.wide.inRound l) n P md ops Q fuel listed a w
  | 0, _, _, _, h => h
  | fuel + 1, listed, a, w, h => by
    refine ⟨h.1, fun i hi => ?_⟩
    have h2 := h.2 i hi
    unfold wpOp at h2
    unfold wpOpIn
    cases ho : ops[i]? with
    | none => rw [ho] at h2; exact anyIn_of hd hno fuel _ _ _ h2
    | some o =>
      rw [ho] at h2
      simp only at h2 ⊢
      split
      · rename_i hw
        rw [if_pos hw] at h2
        rcases h2 with h2 | ⟨-, h2⟩
        · exact operIn_of (noDefer_spec hd ho) (fun a w h => anyIn_of hd hno fuel _ a w h) h2
        · exact absurd h2 hno
      · rename_i hw
        rw [if_neg hw] at h2
        exact ⟨fun _ _ => trivial, anyIn_of hd hno fuel _ _ _ h2⟩
/-- such a region, S being kept. -/
theorem wpIn_region_held_round {S : World → Prop} {id : Nat} {a : Act} {w : World} (hm : P.follows .mixedOrders = true) (hd : noDefer ops = true) (hno : ¬ LetsOut Q) (hS : S w.drew)
    (h : S w.drew → wpAnyH P .any ops Q S ops.size (Array.replicate ops.size false) a w.drew) : (Code.region id ops true).wpIn (Fence.wide.inRound l) n P Q a w :=
  wpIn_region_any hm (anyIn_of hd hno _ _ _ _ (wpAny_of_held _ _ _ _ (h hS)))
section

variable {S : World → Prop} {oi : Oper} {fuel : Nat} {listed : Array Bool} {tmps : Array Value} {defers : List Deferred} {w W : World} {v : Value}

/-- an operation that comes up alone, whose run is known. -/
theorem reg_alone (i d : Nat) (hr : Region.ready md ops listed = [i]) (hi : ops[i]? = some oi) (hd : oi.dst = some d) (hw : Region.wanted oi (yielded ops tmps) = true)
    (he : (execOp (Act.eval { tmps, defers }) oi).run P w = .ok (.value v) W) (hS : S W) (h : wpAnyH P md ops Q S fuel (listed.setIfInBounds i true) { tmps := tmps.setIfInBounds d v, defers } W) : wpAnyH P md ops Q S (fuel + 1) listed { tmps, defers } w := by
  refine wpAnyH_ready hr (by simp) (AllReadyH.cons hi (fun K hK => ?_) AllReadyH.nil)
  rw [if_pos hw]
  unfold Oper.wp
  rw [he]
  refine hK.out _ _ hS (fun _ => ?_)
  rw [hd]
  exact h
/-- two operations that come up side by side, whose runs are known. -/
theorem reg_two (i di j dj : Nat) {oj : Oper} {vj : Value} (hr : Region.ready md ops listed = [i, j]) (hi : ops[i]? = some oi) (hj : ops[j]? = some oj) (hdi : oi.dst = some di) (hdj : oj.dst = some dj)
    (hwi : Region.wanted oi (yielded ops tmps) = true) (hwj : Region.wanted oj (yielded ops tmps) = true) {Wi : World}
    (hei : (execOp (Act.eval { tmps, defers }) oi).run P w = .ok (.value v) Wi) (hej : (execOp (Act.eval { tmps, defers }) oj).run P w = .ok (.value vj) W) (hSi : S Wi) (hSj : S W)
    (h1 : wpAnyH P md ops Q S fuel (listed.setIfInBounds i true) { tmps := tmps.setIfInBounds di v, defers } Wi) (h2 : wpAnyH P md ops Q S fuel (listed.setIfInBounds j true) { tmps := tmps.setIfInBounds dj vj, defers } W) :
    wpAnyH P md ops Q S (fuel + 1) listed { tmps, defers } w := by
  refine wpAnyH_ready hr (by simp) (AllReadyH.cons hi (fun K hK => ?_) (AllReadyH.cons hj (fun K hK => ?_) AllReadyH.nil))
  · rw [if_pos hwi]
    unfold Oper.wp
    rw [hei]
    refine hK.out _ _ hSi (fun _ => ?_)
    rw [hdi]
    exact h1
  · rw [if_pos hwj]
    unfold Oper.wp
    rw [hej]
    refine hK.out _ _ hSj (fun _ => ?_)
    rw [hdj]
    exact h2
/-- an append that comes up alone. -/
theorem reg_app (i d : Nat) {y r : Value} {s x : Operand} {t : TypeId} (hr : Region.ready md ops listed = [i]) (hi : ops[i]? = some oi) (hd : oi.dst = some d)
    (hgd : oi.guard = none) (ho : oi.op = .call { callee := .builtin .append, args := #[s, x], argTypes := #[t, t] }) (hs : (Act.eval { tmps, defers }) s = v) (hx : (Act.eval { tmps, defers }) x = y)
    (hrun : (Builtin.append_ #[t, t] oi.type #[v, y]).run P w = .ok r W) (hS : S W)
    (h : wpAnyH P md ops Q S fuel (listed.setIfInBounds i true) { tmps := tmps.setIfInBounds d r, defers } W) : wpAnyH P md ops Q S (fuel + 1) listed { tmps, defers } w := by
  refine reg_alone i d hr hi hd (by simp [Region.wanted, hgd]) ?_ hS h
  unfold execOp
  simp only [ho, resolve, invoke, builtin, Sem.run_bind, Sem.run_pure, Result.andThen_ok, List.map_toArray, List.map_cons, List.map_nil, hs, hx, hrun]
/-- a store that comes up alone. -/
theorem reg_store (i : Nat) (hr : Region.ready md ops listed = [i]) (hi : ops[i]? = some oi) (hd : oi.dst = none) (hw : Region.wanted oi (yielded ops tmps) = true)
    (he : (execOp (Act.eval { tmps, defers }) oi).run P w = .ok (.skip) W) (hS : S W) (h : wpAnyH P md ops Q S fuel (listed.setIfInBounds i true) { tmps, defers } W) : wpAnyH P md ops Q S (fuel + 1) listed { tmps, defers } w := by
  refine wpAnyH_ready hr (by simp) (AllReadyH.cons hi (fun K hK => ?_) AllReadyH.nil)
  rw [if_pos hw]
  unfold Oper.wp
  rw [he]
  refine hK.out _ _ hS (fun _ => ?_)
  rw [hd]
  exact h
end

end

end Go.Proofs.YtaojpbgaengdpaaGreatDoor
