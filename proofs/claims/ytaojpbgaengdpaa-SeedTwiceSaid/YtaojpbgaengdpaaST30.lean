/- Texts of the proof, part 30. -/
import Derived.Lib.AppendZerosOnto
import Derived.Test.YtaojpbgaengdpaaST29
set_option linter.unusedVariables false
set_option linter.unusedSimpArgs false
/- slices.Insert over names in a directory. -/
namespace Go.Proofs.Ytaojpbgaengdpaa

open Go.RowKit

/-- an own row, by its block. -/
theorem OE.mk {w : World} {base g cap : Nat} {cur : Array Value} {es : List En} (hb : base ≤ g) (hg : Blk w g cur 138) (h1 : es.length ≤ cap) (h2 : cap ≤ maxLen) (h3 : cur.size = cap * 2) (h4 : cur.toList.take (es.length * 2) = es.flatMap entC) :
    OE w base (.slice (some ⟨g, 0, none⟩) es.length cap) es := ⟨flat_len entC_len es, .inr ⟨g, cap, cur, rfl, hb, hg, h1, h2, h3, h4⟩⟩
theorem flat_take (es : List En) (i : Nat) : (es.flatMap entC).take (i * 2) = (es.take i).flatMap entC := by
  induction es generalizing i with
  | nil => simp
  | cons x es ih =>
    cases i with
    | zero => simp
    | succ i =>
      rw [List.flatMap_cons, List.take_succ_cons, List.flatMap_cons, show (i + 1) * 2 = (entC x).length + i * 2 by rw [entC_len]; omega, List.take_append, List.take_of_length_le (by omega), Nat.add_sub_cancel_left, ih]
theorem flat_drop (es : List En) (i : Nat) : (es.flatMap entC).drop (i * 2) = (es.drop i).flatMap entC := by
  induction es generalizing i with
  | nil => simp
  | cons x es ih =>
    cases i with
    | zero => simp
    | succ i =>
      rw [List.flatMap_cons, List.drop_succ_cons, show (i + 1) * 2 = (entC x).length + i * 2 by rw [entC_len]; omega, List.drop_append, List.drop_eq_nil_of_le (by omega), Nat.add_sub_cancel_left, ih, List.nil_append]

set_option maxRecDepth 100000 in
set_option maxHeartbeats 400000 in
/-- at the end. -/
theorem einsert_end (es : List En) (a : Option Addr) (c base vb : Nat) (x : En) (w : World) (h : OE w base (.slice a es.length c) es) (hb : Blk w vb #[.string x.name, .int .i64 x.no] 138) (hbase : base ≤ w.heap.size) (hn : es.length ≤ 1000000) :
    Calls Try.prog 80 #[.slice a es.length c, .int .i64 es.length, .slice (some ⟨vb, 0, none⟩) 1 1] w fun e w' => (∃ a' c', e = .returned (.slice a' (es.length + 1) c') ∧ OE w' base (.slice a' (es.length + 1) c') (es ++ [x])) ∧ Mod (fun k => (Value.slice a es.length c).ownBlock = some k) w w' := by
  obtain ⟨i0, hi, hz0, hz1, hz2⟩ := info_parts ent_info
  obtain ⟨g, cap, W, h1, h2, h3, h4⟩ := step_app (95) Try.underlying95 hi hz0 hz1 hz2 rfl (by omega) h ⟨vb, 0, none⟩ 1 1 (entC x) rfl (World.news_of_block hb) (by intro u hu; simp [entC] at hu; rcases hu with rfl | rfl <;> rfl) (by omega) (by unfold maxLen; omega) (by omega) hbase
  have h2' : OE W base (.slice (some ⟨g, 0, none⟩) (es.length + 1) cap) (es ++ [x]) := by
    unfold OE
    rw [List.length_append, List.length_singleton, List.flatMap_append, List.flatMap_singleton]
    exact h2
  obtain ⟨b', c', hv, hle, -⟩ := own_form h
  injection hv with e1 e2 e3
  subst e1 e3
  have H := Lib.hid (And.intro h2' h3)
  clear h2 h2' h3 h4 hi hz0 hz1 hz2 hb h
  obtain ⟨n, hnn⟩ : ∃ n, es.length = n := ⟨_, rfl⟩
  rw [hnn] at H h1 hle hn ⊢
  clear hnn
  cases a with
  | none =>
    go_enter Try.func80, Try.ntmps80
    go_wp2_with (at_builtin; refine wpList_app_run rfl rfl rfl rfl h1 ?_)
    all_goals (go_ret; exact ⟨⟨_, _, rfl, H.out.1⟩, H.out.2⟩)
  | some p =>
    go_enter Try.func80, Try.ntmps80
    go_wp2_with (at_builtin; refine wpList_app_run rfl rfl rfl rfl h1 ?_)
    all_goals (go_ret; exact ⟨⟨_, _, rfl, H.out.1⟩, H.out.2⟩)

theorem zero_cells (k : Nat) : (Builtin.zeroCells (Value.cells (.agg #[.string ByteArray.empty, .int .i64 0])) k).size = k * 2 := by
  rw [size_zeroCells]; rfl
theorem take_app_len {α : Type} (a b : List α) (n : Nat) (h : a.length = n) : (a ++ b).take n = a := by
  subst h; simp

set_option maxRecDepth 100000 in
set_option maxHeartbeats 1000000 in
/-- amidst, and no room. -/
theorem einsert_grow (es : List En) (g c i base vb : Nat) (x : En) (w : World) (h : OE w base (.slice (some ⟨g, 0, none⟩) es.length c) es) (hb : Blk w vb #[.string x.name, .int .i64 x.no] 138) (hbase : base ≤ w.heap.size) (hn : es.length ≤ 1000000) (hil : i < es.length) (hroom : c < es.length + 1) :
    Calls Try.prog 80 #[.slice (some ⟨g, 0, none⟩) es.length c, .int .i64 i, .slice (some ⟨vb, 0, none⟩) 1 1] w fun e w' => (∃ a' c', e = .returned (.slice a' (es.length + 1) c') ∧ OE w' base (.slice a' (es.length + 1) c') (es.take i ++ x :: es.drop i)) ∧ Below w.heap.size w w' := by
  obtain ⟨i0, hi, hz0, hz1, hz2⟩ := info_parts ent_info
  have hA := h.at
  have hlt := (hA.some_of (by omega))
  obtain ⟨gg, oo, hgg, hgl⟩ := hlt
  injection hgg with hgg
  injection hgg with e1 e2
  subst e1 e2
  obtain ⟨b', c', hv, hle, -⟩ := own_form h
  injection hv with e1 e2 e3
  subst e1 e3
  have hsz : (Try.prog.info? 138).map (·.size) = some 2 := by rw [hi]; simp [hz1]
  obtain ⟨n, hnn⟩ : ∃ n, es.length = n := ⟨_, rfl⟩
  have hold : (Builtin.firstCells i0.size i (.slice (some ⟨g, 0, none⟩) i c)).run Try.prog w.drew = .ok ((es.take i).flatMap entC).toArray w.drew := by
    rw [hz1]
    refine run_firstCells_some w.drew 2 i ⟨g, 0, none⟩ i c _ (by rw [flat_len entC_len, List.length_take]; omega) (fun j v hj => ?_)
    rw [← flat_take, List.getElem?_take] at hj
    split at hj
    · exact hA.news j v hj
    · cases hj
  have hr0 := Lib.run_append_grow_zeros w 95 3 95 138 i0 _ .i64 .i64 Try.underlying95 Try.underlying3 hi hz0 (some ⟨g, 0, none⟩) i c _ hold (n + 1 - i) (by omega) (by rw [hz1]; omega) (by omega) (by omega) (by rw [hz2]; omega) (by rw [hz2]; exact growslice_fits (by omega) (by omega))
  rw [show i + (n + 1 - i) = n + 1 by omega] at hr0
  have hk : ((n + 1 - i : Nat) : Int) = (n : Int) + 1 - (i : Int) := by omega
  rw [hk] at hr0
  obtain ⟨G, hG⟩ : ∃ G, grownCap w (n + 1) c 138 = G := ⟨_, rfl⟩
  have hG1 : n + 1 ≤ G := by rw [← hG]; exact grownCap_ge w _ _ _
  have hG2 : G ≤ maxLen := by rw [← hG]; exact grownCap_le_maxLen w _ _ _ (by unfold maxLen; omega)
  rw [hG] at hr0
  obtain ⟨ROW, hROW⟩ : ∃ R, ((es.take i).flatMap entC).toArray ++ Builtin.zeroCells (Value.cells (.agg #[.string ByteArray.empty, .int .i64 0])) (n + 1 - i) ++ Builtin.zeroCells (Value.cells (.agg #[.string ByteArray.empty, .int .i64 0])) (G - (n + 1)) = R := ⟨_, rfl⟩
  rw [hROW] at hr0
  have hRs : ROW.size = G * 2 := by
    rw [← hROW, Array.size_append, Array.size_append, zero_cells, zero_cells, List.size_toArray, flat_len entC_len, List.length_take]
    omega
  have hRt : ROW.toList.take (i * 2) = (es.take i).flatMap entC := by
    rw [← hROW, Array.toList_append, Array.toList_append, List.append_assoc]
    exact take_app_len _ _ _ (by rw [flat_len entC_len, List.length_take]; omega)
  have b1 : Blk (w.drew.alloc (.cells ROW 138)) w.heap.size ROW 138 := Blk.new w.drew ROW 138
  have B1 : Below w.heap.size w (w.drew.alloc (.cells ROW 138)) := ((Below.refl _ w).drew).alloc (Nat.le_refl _) _
  have hA1 := hA.keep B1
  have hv1 := hb.keep B1
  have hne : vb ≠ w.heap.size := by have := hb.lt; omega
  generalize hW1 : w.drew.alloc (.cells ROW 138) = W1 at hr0 b1 B1 hA1 hv1
  clear hW1
  have hr1 := run_copy_rowK W1 95 95 3 138 w.heap.size (i * 2) (n + 1 - i) (G - i) ⟨vb, 0, none⟩ 1 1 ROW 138 (entC x) 1 2 Try.underlying95 hsz b1 (by simp only [Nat.min_def]; split <;> omega) rfl (World.news_of_block hv1) (by rw [entC_len, hRs]; omega) (by intro u hu; simp [entC] at hu; rcases hu with rfl | rfl <;> rfl)
  have b2 := setRow_blk (vs := (ROW.toList.take (i * 2) ++ entC x ++ ROW.toList.drop (i * 2 + (entC x).length)).toArray) b1
  have M2 := setRow_mod W1 w.heap.size (ROW.toList.take (i * 2) ++ entC x ++ ROW.toList.drop (i * 2 + (entC x).length)).toArray
  have hs2 : (ROW.toList.take (i * 2) ++ entC x ++ ROW.toList.drop (i * 2 + (entC x).length)).toArray.size = G * 2 := by
    rw [List.size_toArray, List.length_append, List.length_append, List.length_take, List.length_drop, entC_len, Array.length_toList, hRs]
    omega
  have ht2 : (ROW.toList.take (i * 2) ++ entC x ++ ROW.toList.drop (i * 2 + (entC x).length)).take ((i + 1) * 2) = (es.take i).flatMap entC ++ entC x := by
    rw [hRt]
    exact take_app_len _ _ _ (by rw [List.length_append, flat_len entC_len, List.length_take, entC_len]; omega)
  obtain ⟨R2, hR2⟩ : ∃ R, (ROW.toList.take (i * 2) ++ entC x ++ ROW.toList.drop (i * 2 + (entC x).length)) = R := ⟨_, rfl⟩
  rw [hR2] at hr1 b2 M2 hs2 ht2
  have B2 : Below w.heap.size w (W1.setRow w.heap.size R2.toArray) := B1.trans (M2.below (fun k hk => by omega) B1.size)
  have hA2 := hA.keep B2
  generalize hW2 : W1.setRow w.heap.size R2.toArray = W2 at hr1 b2 B2 hA2
  clear hW2 M2
  have hdl : ((es.drop i).flatMap entC).length = (n - i) * 2 := by rw [flat_len entC_len, List.length_drop, hnn]
  have hr2 := run_copy_rowK W2.drew 95 95 3 138 w.heap.size ((i + 1) * 2) (n + 1 - (i + 1)) (G - (i + 1)) ⟨g, i * 2, none⟩ (n - i) (c - i) R2.toArray 138 ((es.drop i).flatMap entC) (n - i) 2 Try.underlying95 hsz b2.drew (by simp only [Nat.min_def]; split <;> omega) hdl
    (fun j v hj => by
      rw [← flat_drop, List.getElem?_drop] at hj
      have := hA2.news (i * 2 + j) v hj
      rw [addr_add] at this ⊢
      rw [show i * 2 + j = 0 + (i * 2 + j) by omega]
      exact this) (by rw [hdl, hs2]; omega) (entC_one _)
  have b3 := setRow_blk (vs := (R2.toArray.toList.take ((i + 1) * 2) ++ (es.drop i).flatMap entC ++ R2.toArray.toList.drop ((i + 1) * 2 + ((es.drop i).flatMap entC).length)).toArray) b2.drew
  have M3 := setRow_mod W2.drew w.heap.size (R2.toArray.toList.take ((i + 1) * 2) ++ (es.drop i).flatMap entC ++ R2.toArray.toList.drop ((i + 1) * 2 + ((es.drop i).flatMap entC).length)).toArray
  obtain ⟨R3, hR3⟩ : ∃ R, (R2.toArray.toList.take ((i + 1) * 2) ++ (es.drop i).flatMap entC ++ R2.toArray.toList.drop ((i + 1) * 2 + ((es.drop i).flatMap entC).length)) = R := ⟨_, rfl⟩
  have hs3 : R3.toArray.size = G * 2 := by
    rw [← hR3, List.size_toArray, List.length_append, List.length_append, List.length_take, List.length_drop, hdl, Array.length_toList, hs2]
    omega
  have ht3 : R3.take ((n + 1) * 2) = (es.take i ++ x :: es.drop i).flatMap entC := by
    rw [← hR3, List.flatMap_append, List.flatMap_cons, ht2]
    rw [take_app_len _ _ _ (by rw [List.length_append, List.length_append, hdl, flat_len entC_len, List.length_take, entC_len]; omega)]
    rw [List.append_assoc]
  rw [hR3] at hr2 b3 M3
  have B3 : Below w.heap.size w (W2.drew.setRow w.heap.size R3.toArray) := (B2.drew).trans (M3.below (fun k hk => by omega) B2.size)
  generalize hW3 : W2.drew.setRow w.heap.size R3.toArray = W3 at hr2 b3 B3
  clear hW3 M3
  have hlen : (es.take i ++ x :: es.drop i).length = n + 1 := by
    rw [List.length_append, List.length_take, List.length_cons, List.length_drop]; omega
  have hfin : OE W3 base (.slice (some ⟨w.heap.size, 0, none⟩) (n + 1) G) (es.take i ++ x :: es.drop i) := by
    have := OE.mk (es := es.take i ++ x :: es.drop i) hbase b3 (by rw [hlen]; exact hG1) hG2 hs3 (by rw [hlen]; exact ht3)
    rw [hlen] at this
    exact this
  have H := Lib.hid (And.intro hfin B3)
  unfold maxLen at hG2
  rw [hnn] at hil hroom hn hle ⊢
  have q1 : ¬ (G = i) := by omega
  have q2 : ¬ (G = i + 1) := by omega
  have q3 : ¬ (c = i) := by omega
  clear hA hA1 hA2 hv1 hb h hold hROW hRs hRt b1 b2 b3 hs2 hs3 ht2 ht3 hR2 hR3 hlen hfin B1 B2 B3 hdl hnn hG hi hz0 hz1 hz2 hsz hk
  go_enter Try.func80, Try.ntmps80
  go_wp2_with (first
    | (at_builtin; refine Lib.wpList_append_run _ rfl _ _ _ _ rfl _ _ rfl rfl _ _ hr0 ?_)
    | (refine wpList_copy_run _ rfl _ _ 95 95 rfl _ _ rfl rfl hr1 ?_))
  have mixed : Try.prog.follows .mixedOrders = true := by kernel_rfl
  have hw1 : IntKind.i64.wrap ((i : Int) + 1) = (i : Int) + 1 := by rw [IntKind.wrap_i64]; omega
  have hb1 : (0 : Int) ≤ (i : Int) + 1 := by omega
  have htn : ((i : Int) + 1).toNat = i + 1 := by omega
  have hb3 : (i : Int) + 1 ≤ (n : Int) + 1 := by omega
  have hb4 : (i : Int) ≤ (n : Int) := by omega
  have hb5 : (0 : Int) ≤ (i : Int) := by omega
  go_region_law_o (refine step_copy_run rfl _ _ 95 95 rfl (.slice (some ⟨w.heap.size, (i + 1) * 2, none⟩) (n + 1 - (i + 1)) (G - (i + 1))) (.slice (some ⟨g, i * 2, none⟩) (n - i) (c - i)) (by simp [Act.eval, Act.put]) (by simp [Act.eval, Act.put]) hr2 ?_)
  go_wp2
  go_ret
  exact ⟨⟨_, _, rfl, H.out.1⟩, H.out.2⟩
end Go.Proofs.Ytaojpbgaengdpaa
