/- Texts of the proof, part 14. -/
import Derived.Lib.AppendZerosOnto
import Derived.Deep.CutBlock
import Derived.Deep.DeepCutAuto
import Derived.Test.YtkkiglagdojnlaaGreatDoorEP7
import Derived.Test.YtkkiglagdojnlaaGreatDoorEP13
import Derived.Test.YtkkiglagdojnlaaGreatDoorEP12
import Derived.Test.YtkkiglagdojnlaaGreatDoorEP6
set_option linter.unusedVariables false
set_option linter.unusedSimpArgs false
/- slices.Insert over names in a directory. -/
namespace Go.Proofs.YtkkiglagdojnlaaGreatDoor

open Go.RowKit

/-- an own row, by its block. -/
theorem OE.mk {w : World} {base g cap : Nat} {cur : Array Value} {es : List En} (hb : base ≤ g) (hg : Blk w g cur 97) (h1 : es.length ≤ cap) (h2 : cap ≤ maxLen) (h3 : cur.size = cap * 2) (h4 : cur.toList.take (es.length * 2) = es.flatMap entC) :
    OE w base (.slice (some ⟨g, 0, none⟩) es.length cap) es := ⟨flat_len entC_len es, .inr ⟨g, cap, cur, rfl, hb, hg, h1, h2, h3, h4⟩⟩
theorem flat_take (es : List En) (i : Nat) : (es.flatMap entC).take (i * 2) = (es.take i).flatMap entC := by
  induction es generalizing i with
  | nil => simp
  | cons x es ih =>
    cases i with
    | zero => simp
    | succ i =>
      rw [List.flatMap_cons, List.take_succ_cons, List.flatMap_cons, show (i + 1) * 2 = (entC x).length + i * 2 by rw [entC_len]; omega, List.take_append, List.take_of_length_le (by omega), Nat.add_sub_cancel_left, ih]
theorem flat_drop (es : List En) (i : Nat) : (es.flatMap entC).drop (i * 2) = (es.drop i).flatMap entC := by
  induction es generalizing i with
  | nil => simp
  | cons x es ih =>
    cases i with
    | zero => simp
    | succ i =>
      rw [List.flatMap_cons, List.drop_succ_cons, show (i + 1) * 2 = (entC x).length + i * 2 by rw [entC_len]; omega, List.drop_append, List.drop_eq_nil_of_le (by omega), Nat.add_sub_cancel_left, ih, List.nil_append]

set_option maxRecDepth 100000 in
set_option maxHeartbeats 400000 in
/-- at the end. -/
theorem einsert_end (es : List En) (a : Option Addr) (c base vb : Nat) (x : En) (w : World) (h : OE w base (.slice a es.length c) es) (hb : Blk w vb #[.string x.name, .int .i64 x.no] 97) (hbase : base ≤ w.heap.size) (hn : es.length ≤ 1000000) :
    Calls Tryz.prog 206 #[.slice a es.length c, .int .i64 es.length, .slice (some ⟨vb, 0, none⟩) 1 1] w fun e w' => (∃ a' c', e = .returned (.slice a' (es.length + 1) c') ∧ OE w' base (.slice a' (es.length + 1) c') (es ++ [x])) ∧ Mod (fun k => (Value.slice a es.length c).ownBlock = some k) w w' := by
  obtain ⟨i0, hi, hz0, hz1, hz2⟩ := info_parts ent_info
  obtain ⟨g, cap, W, h1, h2, h3, h4⟩ := step_app (93) Tryz.underlying93 hi hz0 hz1 hz2 rfl (by omega) h ⟨vb, 0, none⟩ 1 1 (entC x) rfl (World.news_of_block hb) (by intro u hu; simp [entC] at hu; rcases hu with rfl | rfl <;> rfl) (by omega) (by unfold maxLen; omega) (by omega) hbase
  have h2' : OE W base (.slice (some ⟨g, 0, none⟩) (es.length + 1) cap) (es ++ [x]) := by
    unfold OE
    rw [List.length_append, List.length_singleton, List.flatMap_append, List.flatMap_singleton]
    exact h2
  obtain ⟨b', c', hv, hle, -⟩ := own_form h
  injection hv with e1 e2 e3
  subst e1 e3
  have H := Lib.hid (And.intro h2' h3)
  clear h2 h2' h3 h4 hi hz0 hz1 hz2 hb h
  obtain ⟨n, hnn⟩ : ∃ n, es.length = n := ⟨_, rfl⟩
  rw [hnn] at H h1 hle hn ⊢
  clear hnn
  cases a with
  | none =>
    go_enter Tryz.func206, Tryz.ntmps206
    go_wp2_with (at_builtin; refine wpList_app_run rfl rfl rfl rfl h1 ?_)
    all_goals (go_ret; exact ⟨⟨_, _, rfl, H.out.1⟩, H.out.2⟩)
  | some p =>
    go_enter Tryz.func206, Tryz.ntmps206
    go_wp2_with (at_builtin; refine wpList_app_run rfl rfl rfl rfl h1 ?_)
    all_goals (go_ret; exact ⟨⟨_, _, rfl, H.out.1⟩, H.out.2⟩)

theorem zero_cells (k : Nat) : (Builtin.zeroCells (Value.cells (.agg #[.string ByteArray.empty, .int .i64 0])) k).size = k * 2 := by
  rw [size_zeroCells]; rfl
theorem take_app_len {α : Type} (a b : List α) (n : Nat) (h : a.length = n) : (a ++ b).take n = a := by
  subst h; simp

set_option maxRecDepth 100000 in
set_option maxHeartbeats 1000000 in
/-- amidst, and no room. -/
theorem einsert_grow (es : List En) (g c i base vb : Nat) (x : En) (w : World) (h : OE w base (.slice (some ⟨g, 0, none⟩) es.length c) es) (hb : Blk w vb #[.string x.name, .int .i64 x.no] 97) (hbase : base ≤ w.heap.size) (hn : es.length ≤ 1000000) (hil : i < es.length) (hroom : c < es.length + 1) :
    Calls Tryz.prog 206 #[.slice (some ⟨g, 0, none⟩) es.length c, .int .i64 i, .slice (some ⟨vb, 0, none⟩) 1 1] w fun e w' => (∃ a' c', e = .returned (.slice a' (es.length + 1) c') ∧ OE w' base (.slice a' (es.length + 1) c') (es.take i ++ x :: es.drop i)) ∧ Below w.heap.size w w' := by
  obtain ⟨i0, hi, hz0, hz1, hz2⟩ := info_parts ent_info
  have hA := h.at
  have hlt := (hA.some_of (by omega))
  obtain ⟨gg, oo, hgg, hgl⟩ := hlt
  injection hgg with hgg
  injection hgg with e1 e2
  subst e1 e2
  obtain ⟨b', c', hv, hle, -⟩ := own_form h
  injection hv with e1 e2 e3
  subst e1 e3
  have hsz : (Tryz.prog.info? 97).map (·.size) = some 2 := by rw [hi]; simp [hz1]
  obtain ⟨n, hnn⟩ : ∃ n, es.length = n := ⟨_, rfl⟩
  have hold : (Builtin.firstCells i0.size i (.slice (some ⟨g, 0, none⟩) i c)).run Tryz.prog w.drew = .ok ((es.take i).flatMap entC).toArray w.drew := by
    rw [hz1]
    refine run_firstCells_some w.drew 2 i ⟨g, 0, none⟩ i c _ (by rw [flat_len entC_len, List.length_take]; omega) (fun j v hj => ?_)
    rw [← flat_take, List.getElem?_take] at hj
    split at hj
    · exact hA.news j v hj
    · cases hj
  have hr0 := Lib.run_append_grow_zeros w 93 3 93 97 i0 _ .i64 .i64 Tryz.underlying93 Tryz.underlying3 hi hz0 (some ⟨g, 0, none⟩) i c _ hold (n + 1 - i) (by omega) (by rw [hz1]; omega) (by omega) (by omega) (by rw [hz2]; omega) (by rw [hz2]; exact growslice_fits (by omega) (by omega))
  rw [show i + (n + 1 - i) = n + 1 by omega] at hr0
  have hk : ((n + 1 - i : Nat) : Int) = (n : Int) + 1 - (i : Int) := by omega
  rw [hk] at hr0
  obtain ⟨G, hG⟩ : ∃ G, grownCap w (n + 1) c 97 = G := ⟨_, rfl⟩
  have hG1 : n + 1 ≤ G := by rw [← hG]; exact grownCap_ge w _ _ _
  have hG2 : G ≤ maxLen := by rw [← hG]; exact grownCap_le_maxLen w _ _ _ (by unfold maxLen; omega)
  rw [hG] at hr0
  obtain ⟨ROW, hROW⟩ : ∃ R, ((es.take i).flatMap entC).toArray ++ Builtin.zeroCells (Value.cells (.agg #[.string ByteArray.empty, .int .i64 0])) (n + 1 - i) ++ Builtin.zeroCells (Value.cells (.agg #[.string ByteArray.empty, .int .i64 0])) (G - (n + 1)) = R := ⟨_, rfl⟩
  rw [hROW] at hr0
  have hRs : ROW.size = G * 2 := by
    rw [← hROW, Array.size_append, Array.size_append, zero_cells, zero_cells, List.size_toArray, flat_len entC_len, List.length_take]
    omega
  have hRt : ROW.toList.take (i * 2) = (es.take i).flatMap entC := by
    rw [← hROW, Array.toList_append, Array.toList_append, List.append_assoc]
    exact take_app_len _ _ _ (by rw [flat_len entC_len, List.length_take]; omega)
  have b1 : Blk (w.drew.alloc (.cells ROW 97)) w.heap.size ROW 97 := Blk.new w.drew ROW 97
  have B1 : Below w.heap.size w (w.drew.alloc (.cells ROW 97)) := ((Below.refl _ w).drew).alloc (Nat.le_refl _) _
  have hA1 := hA.keep B1
  have hv1 := hb.keep B1
  have hne : vb ≠ w.heap.size := by have := hb.lt; omega
  generalize hW1 : w.drew.alloc (.cells ROW 97) = W1 at hr0 b1 B1 hA1 hv1
  clear hW1
  have hr1 := run_copy_rowK W1 93 93 3 97 w.heap.size (i * 2) (n + 1 - i) (G - i) ⟨vb, 0, none⟩ 1 1 ROW 97 (entC x) 1 2 Tryz.underlying93 hsz b1 (by simp only [Nat.min_def]; split <;> omega) rfl (World.news_of_block hv1) (by rw [entC_len, hRs]; omega) (by intro u hu; simp [entC] at hu; rcases hu with rfl | rfl <;> rfl)
  have b2 := setRow_blk (vs := (ROW.toList.take (i * 2) ++ entC x ++ ROW.toList.drop (i * 2 + (entC x).length)).toArray) b1
  have M2 := setRow_mod W1 w.heap.size (ROW.toList.take (i * 2) ++ entC x ++ ROW.toList.drop (i * 2 + (entC x).length)).toArray
  have hs2 : (ROW.toList.take (i * 2) ++ entC x ++ ROW.toList.drop (i * 2 + (entC x).length)).toArray.size = G * 2 := by
    rw [List.size_toArray, List.length_append, List.length_append, List.length_take, List.length_drop, entC_len, Array.length_toList, hRs]
    omega
  have ht2 : (ROW.toList.take (i * 2) ++ entC x ++ ROW.toList.drop (i * 2 + (entC x).length)).take ((i + 1) * 2) = (es.take i).flatMap entC ++ entC x := by
    rw [hRt]
    exact take_app_len _ _ _ (by rw [List.length_append, flat_len entC_len, List.length_take, entC_len]; omega)
  obtain ⟨R2, hR2⟩ : ∃ R, (ROW.toList.take (i * 2) ++ entC x ++ ROW.toList.drop (i * 2 + (entC x).length)) = R := ⟨_, rfl⟩
  rw [hR2] at hr1 b2 M2 hs2 ht2
  have B2 : Below w.heap.size w (W1.setRow w.heap.size R2.toArray) := B1.trans (M2.below (fun k hk => by omega) B1.size)
  have hA2 := hA.keep B2
  generalize hW2 : W1.setRow w.heap.size R2.toArray = W2 at hr1 b2 B2 hA2
  clear hW2 M2
  have hdl : ((es.drop i).flatMap entC).length = (n - i) * 2 := by rw [flat_len entC_len, List.length_drop, hnn]
  have hr2 := run_copy_rowK W2.drew 93 93 3 97 w.heap.size ((i + 1) * 2) (n + 1 - (i + 1)) (G - (i + 1)) ⟨g, i * 2, none⟩ (n - i) (c - i) R2.toArray 97 ((es.drop i).flatMap entC) (n - i) 2 Tryz.underlying93 hsz b2.drew (by simp only [Nat.min_def]; split <;> omega) hdl
    (fun j v hj => by
      rw [← flat_drop, List.getElem?_drop] at hj
      have := hA2.news (i * 2 + j) v hj
      rw [addr_add] at this ⊢
      rw [show i * 2 + j = 0 + (i * 2 + j) by omega]
      exact this) (by rw [hdl, hs2]; omega) (entC_one _)
  have b3 := setRow_blk (vs := (R2.toArray.toList.take ((i + 1) * 2) ++ (es.drop i).flatMap entC ++ R2.toArray.toList.drop ((i + 1) * 2 + ((es.drop i).flatMap entC).length)).toArray) b2.drew
  have M3 := setRow_mod W2.drew w.heap.size (R2.toArray.toList.take ((i + 1) * 2) ++ (es.drop i).flatMap entC ++ R2.toArray.toList.drop ((i + 1) * 2 + ((es.drop i).flatMap entC).length)).toArray
  obtain ⟨R3, hR3⟩ : ∃ R, (R2.toArray.toList.take ((i + 1) * 2) ++ (es.drop i).flatMap entC ++ R2.toArray.toList.drop ((i + 1) * 2 + ((es.drop i).flatMap entC).length)) = R := ⟨_, rfl⟩
  have hs3 : R3.toArray.size = G * 2 := by
    rw [← hR3, List.size_toArray, List.length_append, List.length_append, List.length_take, List.length_drop, hdl, Array.length_toList, hs2]
    omega
  have ht3 : R3.take ((n + 1) * 2) = (es.take i ++ x :: es.drop i).flatMap entC := by
    rw [← hR3, List.flatMap_append, List.flatMap_cons, ht2]
    rw [take_app_len _ _ _ (by rw [List.length_append, List.length_append, hdl, flat_len entC_len, List.length_take, entC_len]; omega)]
    rw [List.append_assoc]
  rw [hR3] at hr2 b3 M3
  have B3 : Below w.heap.size w (W2.drew.setRow w.heap.size R3.toArray) := (B2.drew).trans (M3.below (fun k hk => by omega) B2.size)
  generalize hW3 : W2.drew.setRow w.heap.size R3.toArray = W3 at hr2 b3 B3
  clear hW3 M3
  have hlen : (es.take i ++ x :: es.drop i).length = n + 1 := by
    rw [List.length_append, List.length_take, List.length_cons, List.length_drop]; omega
  have hfin : OE W3 base (.slice (some ⟨w.heap.size, 0, none⟩) (n + 1) G) (es.take i ++ x :: es.drop i) := by
    have := OE.mk (es := es.take i ++ x :: es.drop i) hbase b3 (by rw [hlen]; exact hG1) hG2 hs3 (by rw [hlen]; exact ht3)
    rw [hlen] at this
    exact this
  have H := Lib.hid (And.intro hfin B3)
  unfold maxLen at hG2
  rw [hnn] at hil hroom hn hle ⊢
  have q1 : ¬ (G = i) := by omega
  have q2 : ¬ (G = i + 1) := by omega
  have q3 : ¬ (c = i) := by omega
  clear hA hA1 hA2 hv1 hb h hold hROW hRs hRt b1 b2 b3 hs2 hs3 ht2 ht3 hR2 hR3 hlen hfin B1 B2 B3 hdl hnn hG hi hz0 hz1 hz2 hsz hk
  go_enter Tryz.func206, Tryz.ntmps206
  go_wp2_with (first
    | (at_builtin; refine Lib.wpList_append_run _ rfl _ _ _ _ rfl _ _ rfl rfl _ _ hr0 ?_)
    | (refine wpList_copy_run _ rfl _ _ 93 93 rfl _ _ rfl rfl hr1 ?_))
  have mixed : Tryz.prog.follows .mixedOrders = true := by kernel_rfl
  have hw1 : IntKind.i64.wrap ((i : Int) + 1) = (i : Int) + 1 := by rw [IntKind.wrap_i64]; omega
  have hb1 : (0 : Int) ≤ (i : Int) + 1 := by omega
  have htn : ((i : Int) + 1).toNat = i + 1 := by omega
  have hb3 : (i : Int) + 1 ≤ (n : Int) + 1 := by omega
  have hb4 : (i : Int) ≤ (n : Int) := by omega
  have hb5 : (0 : Int) ≤ (i : Int) := by omega
  go_region_law_o (refine step_copy_run rfl _ _ 93 93 rfl (.slice (some ⟨w.heap.size, (i + 1) * 2, none⟩) (n + 1 - (i + 1)) (G - (i + 1))) (.slice (some ⟨g, i * 2, none⟩) (n - i) (c - i)) (by simp [Act.eval, Act.put]) (by simp [Act.eval, Act.put]) hr2 ?_)
  go_wp2
  go_ret
  exact ⟨⟨_, _, rfl, H.out.1⟩, H.out.2⟩
end Go.Proofs.YtkkiglagdojnlaaGreatDoor

/- slices.Insert over names in a directory, in place; ents.Put where the name is not there. -/
namespace Go.Proofs.YtkkiglagdojnlaaGreatDoor

open Go.RowKit

theorem Blk.shape {w : World} {B : Nat} {vs : Array Value} {T : TypeId} (h : Blk w B vs T) : w.shape? B = some (T, vs.size) := by
  unfold Blk at h
  simp [World.shape?, h]
set_option maxRecDepth 100000 in
set_option maxHeartbeats 1000000 in
/-- amidst, and there is room. -/
theorem einsert_room (es : List En) (g c i base vb : Nat) (x : En) (w : World) (h : OE w base (.slice (some ⟨g, 0, none⟩) es.length c) es) (hb : Blk w vb #[.string x.name, .int .i64 x.no] 97) (hvb : vb ≠ g) (hn : es.length ≤ 1000000) (hil : i < es.length) (hroom : es.length + 1 ≤ c) :
    Calls Tryz.prog 206 #[.slice (some ⟨g, 0, none⟩) es.length c, .int .i64 i, .slice (some ⟨vb, 0, none⟩) 1 1] w fun e w' => (∃ a' c', e = .returned (.slice a' (es.length + 1) c') ∧ OE w' base (.slice a' (es.length + 1) c') (es.take i ++ x :: es.drop i)) ∧ Mod (fun k => k = g) w w' := by
  obtain ⟨i0, hi, hz0, hz1, hz2⟩ := info_parts ent_info
  have hsz : (Tryz.prog.info? 97).map (·.size) = some 2 := by rw [hi]; simp [hz1]
  have hA := h.at
  obtain ⟨n, hnn⟩ : ∃ n, es.length = n := ⟨_, rfl⟩
  obtain ⟨cur, hbg, hg, hcs, hct, hc63⟩ : ∃ cur, base ≤ g ∧ Blk w g cur 97 ∧ cur.size = c * 2 ∧ cur.toList.take (n * 2) = es.flatMap entC ∧ c ≤ maxLen := by
    rcases h.2 with ⟨h1, -⟩ | ⟨g', cap', cur, h1, hb1, hg, h2, h3, h4, h5⟩
    · cases h1
    · injection h1 with e1 e2 e3
      injection e1 with e1
      injection e1 with e1
      subst e1 e3
      exact ⟨cur, hb1, hg, h4, by rw [← hnn]; exact h5, h3⟩
  have hov : ∀ lb cb, (callFunc 250 #[.slice (some ⟨vb, 0, none⟩) 1 1, .slice (some ⟨g, (i + 1) * 2, none⟩) lb cb]).run Tryz.prog w = .ok (.value (.bool false)) w := fun lb cb => by
    rw [run_callFunc_extern Tryz.func250 (by kernel_rfl) (by kernel_rfl) (by kernel_rfl) (e := Extern.SlicesOverlaps.overlaps #[93, 93] #[4]) (by kernel_rfl),
      Lib.run_overlaps_apart w 93 4 97 Tryz.underlying93 2 Tryz.sizeOf97 ⟨vb, 0, none⟩ ⟨g, (i + 1) * 2, none⟩ 1 1 lb cb hvb 97 97 2 (c * 2) hb.shape (by rw [← hcs]; exact hg.shape) (by omega) (hb.frozen 0) (hb.frozen 2)]
    rfl
  have hdl : ((es.drop i).flatMap entC).length = (n - i) * 2 := by rw [flat_len entC_len, List.length_drop, hnn]
  have hr1 := run_copy_rowK w.drew 93 93 3 97 g ((i + 1) * 2) (n + 1 - (i + 1)) (c - (i + 1)) ⟨g, i * 2, none⟩ (n + 1 - i) (c - i) cur 97 ((es.drop i).flatMap entC) (n - i) 2 Tryz.underlying93 hsz hg.drew (by simp only [Nat.min_def]; split <;> omega) hdl
    (fun j v hj => by
      rw [← flat_drop, List.getElem?_drop] at hj
      have := hA.news (i * 2 + j) v hj
      rw [addr_add] at this ⊢
      rw [show i * 2 + j = 0 + (i * 2 + j) by omega]
      exact this) (by rw [hdl, hcs]; omega) (entC_one _)
  have b1 := setRow_blk (vs := (cur.toList.take ((i + 1) * 2) ++ (es.drop i).flatMap entC ++ cur.toList.drop ((i + 1) * 2 + ((es.drop i).flatMap entC).length)).toArray) hg.drew
  have M1 := setRow_mod w.drew g (cur.toList.take ((i + 1) * 2) ++ (es.drop i).flatMap entC ++ cur.toList.drop ((i + 1) * 2 + ((es.drop i).flatMap entC).length)).toArray
  obtain ⟨R1, hR1⟩ : ∃ R, (cur.toList.take ((i + 1) * 2) ++ (es.drop i).flatMap entC ++ cur.toList.drop ((i + 1) * 2 + ((es.drop i).flatMap entC).length)) = R := ⟨_, rfl⟩
  have hs1 : R1.length = c * 2 := by
    rw [← hR1, List.length_append, List.length_append, List.length_take, List.length_drop, hdl, Array.length_toList, hcs]
    omega
  have ht1 : R1.take (i * 2) = (es.take i).flatMap entC := by
    rw [← hR1, List.append_assoc, List.take_append_of_le_length (by rw [List.length_take, Array.length_toList, hcs]; omega), List.take_take, ← flat_take, ← hct, List.take_take]
    congr 1
    omega
  have hm1 : (R1.drop ((i + 1) * 2)).take ((n - i) * 2) = (es.drop i).flatMap entC := by
    have hl1 : (cur.toList.take ((i + 1) * 2)).length = (i + 1) * 2 := by rw [List.length_take, Array.length_toList, hcs]; omega
    rw [← hR1, List.append_assoc, List.drop_append, List.drop_eq_nil_of_le (by omega), hl1, Nat.sub_self, List.drop_zero, List.nil_append]
    exact take_app_len _ _ _ hdl
  rw [hR1] at hr1 b1 M1
  have M1' : Mod (fun k => k = g) w (w.drew.setRow g R1.toArray) := ((Mod.refl _ w).drew).trans M1
  generalize hW1 : w.drew.setRow g R1.toArray = W1 at hr1 b1 M1'
  clear hW1 M1
  have hv1 := hb.mod M1' (fun e => hvb e)
  have hr2 := run_copy_rowK W1 93 93 3 97 g (i * 2) (n + 1 - i) (c - i) ⟨vb, 0, none⟩ 1 1 R1.toArray 97 (entC x) 1 2 Tryz.underlying93 hsz b1 (by simp only [Nat.min_def]; split <;> omega) rfl (World.news_of_block hv1) (by rw [entC_len, List.size_toArray, hs1]; omega) (by intro u hu; simp [entC] at hu; rcases hu with rfl | rfl <;> rfl)
  have b2 := setRow_blk (vs := (R1.toArray.toList.take (i * 2) ++ entC x ++ R1.toArray.toList.drop (i * 2 + (entC x).length)).toArray) b1
  have M2 := setRow_mod W1 g (R1.toArray.toList.take (i * 2) ++ entC x ++ R1.toArray.toList.drop (i * 2 + (entC x).length)).toArray
  obtain ⟨R2, hR2⟩ : ∃ R, (R1.toArray.toList.take (i * 2) ++ entC x ++ R1.toArray.toList.drop (i * 2 + (entC x).length)) = R := ⟨_, rfl⟩
  have hs2 : R2.toArray.size = c * 2 := by
    rw [← hR2, List.size_toArray, List.length_append, List.length_append, List.length_take, List.length_drop, entC_len, Array.length_toList, List.size_toArray, hs1]
    omega
  have ht2 : R2.take ((n + 1) * 2) = (es.take i ++ x :: es.drop i).flatMap entC := by
    have hl2 : ((es.take i).flatMap entC).length = i * 2 := by rw [flat_len entC_len, List.length_take]; omega
    rw [← hR2, List.flatMap_append, List.flatMap_cons, show R1.toArray.toList = R1 from rfl, ht1, entC_len, List.take_append, List.take_of_length_le (by rw [List.length_append, hl2, entC_len]; omega),
      show i * 2 + 2 = (i + 1) * 2 by omega, show (n + 1) * 2 - ((es.take i).flatMap entC ++ entC x).length = (n - i) * 2 by rw [List.length_append, hl2, entC_len]; omega, hm1, List.append_assoc]
  rw [hR2] at hr2 b2 M2
  have MF := M1'.trans M2
  generalize hW2 : W1.setRow g R2.toArray = W2 at hr2 b2 MF
  clear hW2 M2
  have hlen : (es.take i ++ x :: es.drop i).length = n + 1 := by
    rw [List.length_append, List.length_take, List.length_cons, List.length_drop]; omega
  have hfin : OE W2 base (.slice (some ⟨g, 0, none⟩) (n + 1) c) (es.take i ++ x :: es.drop i) := by
    have := OE.mk (es := es.take i ++ x :: es.drop i) hbg b2 (by rw [hlen]; omega) hc63 hs2 (by rw [hlen]; exact ht2)
    rw [hlen] at this
    exact this
  have H := Lib.hid (And.intro hfin MF)
  unfold maxLen at hc63
  rw [hnn] at hil hroom hn ⊢
  have q3 : ¬ (c = i) := by omega
  have q4 : ¬ (c = i + 1) := by omega
  have q5 : ¬ (c < n + 1) := by omega
  clear hA hv1 hb h hR1 hs1 ht1 hm1 hR2 hs2 ht2 b1 b2 hlen hfin hdl hnn hi hz0 hz1 hz2 hsz M1' MF hcs hct hg hbg
  go_enter Tryz.func206, Tryz.ntmps206
  go_wp2_with (simp only [hov])
  have mixed : Tryz.prog.follows .mixedOrders = true := by kernel_rfl
  have hw1 : IntKind.i64.wrap ((i : Int) + 1) = (i : Int) + 1 := by rw [IntKind.wrap_i64]; omega
  have hb1 : (0 : Int) ≤ (i : Int) + 1 := by omega
  have htn : ((i : Int) + 1).toNat = i + 1 := by omega
  have hb3 : (i : Int) + 1 ≤ (n : Int) + 1 := by omega
  have hb4 : (i : Int) ≤ (n : Int) + 1 := by omega
  have hb5 : (0 : Int) ≤ (i : Int) := by omega
  go_region_law_o (refine step_copy_run rfl _ _ 93 93 rfl (.slice (some ⟨g, (i + 1) * 2, none⟩) (n + 1 - (i + 1)) (c - (i + 1))) (.slice (some ⟨g, i * 2, none⟩) (n + 1 - i) (c - i)) (by simp [Act.eval, Act.put]) (by simp [Act.eval, Act.put]) hr1 ?_)
  go_wp2_with (refine wpList_copy_run _ rfl _ _ 93 93 rfl _ _ rfl rfl hr2 ?_)
  go_ret
  exact ⟨⟨_, _, rfl, H.out.1⟩, H.out.2⟩
end Go.Proofs.YtkkiglagdojnlaaGreatDoor

/- ents.Put where the name is not there. -/
namespace Go.Proofs.YtkkiglagdojnlaaGreatDoor

open Go.RowKit

theorem einsert_any (es : List En) (a : Option Addr) (c i base vb : Nat) (x : En) (w : World) (h : OE w base (.slice a es.length c) es) (hb : Blk w vb #[.string x.name, .int .i64 x.no] 97) (hvb : ∀ g, a = some ⟨g, 0, none⟩ → vb ≠ g) (hbase : base ≤ w.heap.size) (hn : es.length ≤ 1000000) (hil : i ≤ es.length) :
    Calls Tryz.prog 206 #[.slice a es.length c, .int .i64 i, .slice (some ⟨vb, 0, none⟩) 1 1] w fun e w' => (∃ a' c', e = .returned (.slice a' (es.length + 1) c') ∧ OE w' base (.slice a' (es.length + 1) c') (es.take i ++ x :: es.drop i)) ∧ Mod (fun k => (Value.slice a es.length c).ownBlock = some k) w w' := by
  by_cases hi : i < es.length
  · obtain ⟨b', c', hv, -, -, hf⟩ := own_form h
    injection hv with e1 e2 e3
    subst e1 e3
    rcases hf with ⟨-, h0, -⟩ | ⟨g, rfl, -, -⟩
    · omega
    · by_cases hr : es.length + 1 ≤ c
      · refine (einsert_room es g c i base vb x w h hb (hvb g rfl) hn hi hr).mono ?_
        rintro e w' ⟨h1, h2⟩
        exact ⟨h1, h2.mono (fun k hk => by rw [hk]; rfl)⟩
      · refine (einsert_grow es g c i base vb x w h hb hbase hn hi (by omega)).mono ?_
        rintro e w' ⟨h1, h2⟩
        exact ⟨h1, Mod.of_below h2⟩
  · obtain rfl : i = es.length := by omega
    rw [List.take_length, List.drop_length]
    exact einsert_end es a c base vb x w h hb hbase hn
theorem put_new {l : List En} (h : Rise l) (s : ByteArray) (no : Int) (hno : hasE l s = false) : entPut l s no = l.take (entAt l s) ++ ⟨s, no⟩ :: l.drop (entAt l s) := by
  rw [put_at h, if_neg, Nat.add_zero]
  rintro ⟨hk, he⟩
  unfold hasE at hno
  rw [find_at h, dif_pos hk, if_pos he] at hno
  cases hno
set_option maxRecDepth 100000 in
set_option maxHeartbeats 1000000 in
theorem eput_new (es : List En) (a : Option Addr) (n c : Nat) (s : ByteArray) (no : Int) (w : World) (he : EntsAt w a n c es) (hr : Rise es) (hn : n ≤ 1000000) (hno : hasE es s = false) :
    Calls Tryz.prog 151 #[.slice a n c, .string s, .int .i64 no] w fun e w' => (∃ a' n' c', e = .returned (.slice a' n' c') ∧ EntsAt w' a' n' c' (entPut es s no)) ∧ Below w.heap.size w w' := by
  have hl := he.len
  have HS := Lib.hid (search_any es a n c s w he hr hn)
  rw [hno] at HS
  have HP := Lib.hid (put_new hr s no hno)
  have hat := entAt_le es s
  generalize entAt es s = A at HS HP hat
  have HE := Lib.hid he
  clear he hno
  go_enter Tryz.func151, Tryz.ntmps151
  go_wp2_with fail
  refine HS.out.mono ?_
  rintro e w1 ⟨rfl, hb1⟩
  have HE1 := Lib.hid (HE.out.keep hb1)
  go_wp2_with fail
  refine (eclone_any es a n c w1 HE1.out hn).mono ?_
  rintro e w2 ⟨⟨a2, c2, rfl, hO⟩, hb2⟩
  have HO := Lib.hid hO
  have HB2 := Lib.hid (bnext hb1 hb2)
  clear hO
  go_wp2_with fail
  have hO2 := HO.out.keep ((Below.refl _ w2).alloc (Nat.le_refl _) (.cells #[.string s, .int .i64 no] 97))
  subst hl
  have hblk := Blk.new w2 #[.string s, .int .i64 no] 97
  refine (einsert_any es a2 c2 A w1.heap.size w2.heap.size ⟨s, no⟩ _ hO2 hblk (fun g hg => ?_) (by have := hb2.size; simp; omega) hn hat).mono ?_
  · subst hg
    rcases HO.out.2 with ⟨h1, -⟩ | ⟨g', cap', cur, h1, hb1, hg, -⟩
    · cases h1
    · injection h1 with e1
      injection e1 with e1
      injection e1 with e1
      subst e1
      have := Blk.lt (show Blk w2 g cur 97 from hg)
      omega
  · rintro e w3 ⟨⟨a3, c3, rfl, hO3⟩, hM3⟩
    have HR := Lib.hid (show EntsAt w3 a3 (es.length + 1) c3 (entPut es s no) by
      have hlen : (es.take A ++ ({ name := s, no := no } : En) :: es.drop A).length = es.length + 1 := by
        rw [List.length_append, List.length_take, List.length_cons, List.length_drop]; omega
      rw [HP.out]
      have h3 := hO3
      rw [← hlen] at h3 ⊢
      exact h3.at)
    have HB3 := Lib.hid (show Below w.heap.size w w3 from (balloc HB2.out _).trans (hM3.below (fun k hk => by
      rcases HO.out.2 with ⟨h1, -⟩ | ⟨g', cap', cur, h1, hb3, hg, -⟩
      · injection h1 with e1; rw [e1] at hk; cases hk
      · injection h1 with e1
        rw [e1] at hk
        simp only [Value.ownBlock, Option.some.injEq] at hk
        have := hb1.size
        omega) (by have := HB2.out.size; simp; omega)))
    clear hO3 hM3
    go_wp2_with fail
    go_ret
    exact ⟨⟨_, _, _, rfl, HR.out⟩, HB3.out⟩
end Go.Proofs.YtkkiglagdojnlaaGreatDoor

/- A node comes under a name (layer 17): Place and Make whole. -/
namespace Go.Proofs.YtkkiglagdojnlaaGreatDoor

open Go.RowKit

section

variable {w w' : World} {pw : Nat} {R : Rp} {S : Fs}

theorem place_any (h : WdAt w pw R S) {N : Nat} (hk : FsOk S N) (c : Cr) (dir : Int) (s : ByteArray) (hs : s.size ≤ 9223372036854775807) :
    Calls Tryz.prog 143 #[.pointer (some ⟨pw, 0, none⟩), .agg #[.int .i64 c.u, .int .i64 c.g], .int .i64 dir, .string s] w fun e w' => ((S.placeE c dir s ≠ 0 ∧ e = .returned (.tuple #[an0.v none 0 0, .int .i64 (S.placeE c dir s)])) ∨ (S.placeE c dir s = 0 ∧ ∃ d ea el ec, S.get dir = some d ∧ e = .returned (.tuple #[d.v ea el ec, .int .i64 0]) ∧ EntsAt w ea el ec d.ents)) ∧ Below w.heap.size w w' := by
  cases hg : S.get dir with
  | none =>
    refine (place_none h hk c dir s hs hg).mono ?_
    rintro e w1 ⟨rfl, hb⟩
    have : S.placeE c dir s = 5 := by unfold Fs.placeE; rw [hg]
    rw [this]
    exact ⟨.inl ⟨by decide, rfl⟩, hb⟩
  | some d =>
    refine (place_some h hk c dir s hs d hg).mono ?_
    rintro e w1 ⟨h1 | ⟨h1, ea, el, ec, h2, h3⟩, hb⟩
    · exact ⟨.inl h1, hb⟩
    · exact ⟨.inr ⟨h1, d, ea, el, ec, rfl, h2, h3⟩, hb⟩
theorem wmake_any (h : WdAt w pw R S) {N : Nat} (hk : FsOk S N) (hN : N ≤ 1000000) (a : An) (ea : Option Addr) (el ec : Nat) (he : EntsAt w ea el ec a.ents) (hs : a.data.size ≤ 9223372036854775807) :
    Calls Tryz.prog 150 #[.pointer (some ⟨pw, 0, none⟩), a.v ea el ec] w fun e w' => e = .returned (.tuple #[.int .i64 (S.make a).2.1, .int .i64 (S.make a).2.2]) ∧ ∃ R', WdAt w' pw R' (S.make a).1 ∧ Stp (R.F pw) (R'.F pw) w w' := by
  by_cases hr : S.root a.dev = 0
  · refine (wmake_none h hk.d1 a ea el ec hr).mono ?_
    rintro e w1 ⟨rfl, hb⟩
    rw [make_none hr]
    exact ⟨rfl, R, h.keep hb, Stp.of_below hb⟩
  · have hd : 1 ≤ a.dev ∧ a.dev ≤ S.ds.length := by
      by_cases hd : 1 ≤ a.dev ∧ a.dev ≤ S.ds.length
      · exact hd
      · exact absurd (root_no hd) hr
    exact wmake_mid h (k := (a.dev - 1).toNat) (by omega) a ea el ec he (by omega) hr hs hk.l0 (Int.le_trans hk.lN (by omega))
end

end Go.Proofs.YtkkiglagdojnlaaGreatDoor

/- A node comes under a name (layer 17): put. -/
namespace Go.Proofs.YtkkiglagdojnlaaGreatDoor

open Go.RowKit

section

variable {w w' : World} {pw : Nat} {R : Rp} {S : Fs}

theorem EntsAt.setA {a : Option Addr} {n c : Nat} {es : List En} (h : EntsAt w a n c es) {B : Nat} {vs : Array Value} {T : TypeId} (hb : Blk w B vs T) (hT : T ≠ 97) (i : Nat) (v : Value) : EntsAt (w.setCell ⟨B, i, none⟩ v) a n c es :=
  h.turn (fun b cur hc => by
    have hne : b ≠ B := by
      intro e
      subst e
      unfold Blk at hb
      rw [hb] at hc
      injection hc with hc
      injection hc with _ hc _
      exact hT hc
    exact ((Mod.refl (fun k => k = B) w).setCell (a := ⟨B, i, none⟩) (.inl rfl) v).block b (Array.getElem?_eq_some_iff.1 hc).1 hne) (by simp)
theorem find_has {es : List En} {s : ByteArray} (hz : ∀ x ∈ es, 1 ≤ x.no) (h : entFind es s = 0) : hasE es s = false := by
  unfold entFind at h
  unfold hasE
  split at h
  · rename_i x hx
    have := hz x (List.mem_of_find?_eq_some hx)
    omega
  · rename_i hx
    rw [hx]; rfl
theorem make_same {S : Fs} {a : An} (h : (S.make a).2.2 ≠ 0) : (S.make a).1 = S ∧ (S.make a).2.1 = 0 := by
  revert h
  unfold Fs.make
  split
  · intro _; exact ⟨rfl, rfl⟩
  · split
    · intro _; exact ⟨rfl, rfl⟩
    · simp only
      split
      · intro h; exact absurd rfl h
      · intro _; exact ⟨rfl, rfl⟩
theorem make_get {S : Fs} (hn : Nums S) (a : An) {k : Int} {d : An} (hg : S.get k = some d) : (S.make a).1.get k = some d := by
  have hk : k ≤ S.last := by
    have := hn.low d (an_mem hg)
    rw [an_no hg] at this
    exact this.2
  unfold Fs.make
  split
  · exact hg
  · split
    · exact hg
    · rename_i v hv
      simp only
      split
      · rw [an_add (S := S.setDev a.dev { v with b := v.b + blkI a.kind a.data.size, n := v.n + 1 }) ⟨hn.rise, hn.low⟩, if_neg (by show ¬ k = S.last + 1; omega)]
        exact hg
      · exact hg
theorem come_no {S : Fs} {c : Cr} {now dir : Int} {s : ByteArray} {a : An} (h : S.placeE c dir s ≠ 0) : S.come c now dir s a = (S, 0, S.placeE c dir s) := by unfold Fs.come; rw [if_pos h]
theorem come_had {S : Fs} {c : Cr} {now dir : Int} {s : ByteArray} {a d : An} (h : S.placeE c dir s = 0) (hg : S.get dir = some d) (hf : entFind d.ents s ≠ 0) : S.come c now dir s a = (S, 0, 7) := by
  unfold Fs.come; rw [if_neg (by simp [h]), hg]; simp only; rw [if_pos hf]
theorem come_full {S : Fs} {c : Cr} {now dir : Int} {s : ByteArray} {a d : An} (h : S.placeE c dir s = 0) (hg : S.get dir = some d) (hf : entFind d.ents s = 0) (hm : (S.make { a with dev := d.dev, uid := c.u, gid := c.g, mtime := now, ctime := now, links := 1 }).2.2 ≠ 0) :
    S.come c now dir s a = (S, 0, (S.make { a with dev := d.dev, uid := c.u, gid := c.g, mtime := now, ctime := now, links := 1 }).2.2) := by
  unfold Fs.come; rw [if_neg (by simp [h]), hg]; simp only; rw [if_neg (by simp [hf]), if_pos hm]
theorem come_yes {S : Fs} {c : Cr} {now dir : Int} {s : ByteArray} {a d : An} (h : S.placeE c dir s = 0) (hg : S.get dir = some d) (hf : entFind d.ents s = 0) (hm : (S.make { a with dev := d.dev, uid := c.u, gid := c.g, mtime := now, ctime := now, links := 1 }).2.2 = 0) :
    S.come c now dir s a = ((S.make { a with dev := d.dev, uid := c.u, gid := c.g, mtime := now, ctime := now, links := 1 }).1.touch now dir (entPut d.ents s (S.make { a with dev := d.dev, uid := c.u, gid := c.g, mtime := now, ctime := now, links := 1 }).2.1), (S.make { a with dev := d.dev, uid := c.u, gid := c.g, mtime := now, ctime := now, links := 1 }).2.1, 0) := by
  unfold Fs.come; rw [if_neg (by simp [h]), hg]; simp only; rw [if_neg (by simp [hf]), if_neg (by simp [hm])]
set_option maxRecDepth 100000 in
theorem Blk.setPut {w : World} {B : Nat} {x0 x1 x2 x3 x4 x5 x6 x7 x8 x9 x10 x11 v1 v4 v5 v6 v7 v8 : Value} {T : TypeId} (h : Blk w B #[x0, x1, x2, x3, x4, x5, x6, x7, x8, x9, x10, x11] T) :
    Blk ((((((w.setCell ⟨B, 1, none⟩ v1).setCell ⟨B, 4, none⟩ v4).setCell ⟨B, 5, none⟩ v5).setCell ⟨B, 6, none⟩ v6).setCell ⟨B, 7, none⟩ v7).setCell ⟨B, 8, none⟩ v8) B #[x0, v1, x2, x3, v4, v5, v6, v7, v8, x9, x10, x11] T :=
  (((((h.set 1 v1).set 4 v4).set 5 v5).set 6 v6).set 7 v7).set 8 v8
set_option maxRecDepth 100000 in
set_option maxHeartbeats 4000000 in
theorem put_any (h : WdAt w pw R S) {N : Nat} (hk : FsOk S N) (hN : N ≤ 999999) (c : Cr) (now dir : Int) (s : ByteArray) (hs : s.size ≤ 9223372036854775807) (a : An) (ha : a.ents = []) (had : a.data.size ≤ 9223372036854775807) :
    Calls Tryz.prog 91 #[.pointer (some ⟨pw, 0, none⟩), .agg #[.int .i64 c.u, .int .i64 c.g], .int .i64 now, .int .i64 dir, .string s, a.v none 0 0] w fun e w' =>
      e = .returned (.tuple #[.int .i64 (S.come c now dir s a).2.1, .int .i64 (S.come c now dir s a).2.2]) ∧ ∃ R', WdAt w' pw R' (S.come c now dir s a).1 ∧ Stp (R.F pw) (R'.F pw) w w' := by
  have HP := Lib.hid (fun w1 (hb1 : Below w.heap.size w w1) => place_any (h.keep hb1) hk c dir s hs)
  unfold An.v
  have HW := Lib.hid h
  clear h
  go_enter Tryz.func91, Tryz.ntmps91
  go_wp2_with fail
  refine (HP.out _ (balloc (balloc (Below.refl _ _) _) _)).mono ?_
  rintro e w1 ⟨⟨h0, rfl⟩ | ⟨h0, d, ea, el, ec, hg, rfl, he⟩, hb1⟩
  · have hbX := bnext (balloc (balloc (Below.refl w.heap.size w) _) _) hb1
    have HB := Lib.hid hbX
    have HC := Lib.hid (come_no (now := now) (a := a) h0)
    have hz : (S.placeE c dir s == 0) = false := by simpa using h0
    generalize S.placeE c dir s = pe at HC hz ⊢
    unfold An.v an0
    clear h0 hb1 hbX
    go_wp2_with fail
    go_ret2
    rw [HC.out]
    exact ⟨rfl, R, HW.out.keep (balloc HB.out _), Stp.of_below (balloc HB.out _)⟩
  · have hbX := bnext (balloc (balloc (Below.refl w.heap.size w) _) _) hb1
    have hCr : Blk w1 w.heap.size #[.int .i64 c.u, .int .i64 c.g] 54 := ((Blk.new w #[.int .i64 c.u, .int .i64 c.g] 54).old (.cells #[.int .i64 a.no, .int .i64 a.dev, .int .i64 a.kind, .int .i64 a.mode, .int .i64 a.uid, .int .i64 a.gid, .int .i64 a.mtime, .int .i64 a.ctime, .int .i64 a.links, .int .i64 a.up, .string a.data, .slice none 0 0] 170)).keep hb1
    have hAr : Blk w1 (w.heap.size + 1) #[.int .i64 a.no, .int .i64 a.dev, .int .i64 a.kind, .int .i64 a.mode, .int .i64 a.uid, .int .i64 a.gid, .int .i64 a.mtime, .int .i64 a.ctime, .int .i64 a.links, .int .i64 a.up, .string a.data, .slice none 0 0] 170 := by
      have := ((Blk.new (w.alloc (.cells #[.int .i64 c.u, .int .i64 c.g] 54)) #[.int .i64 a.no, .int .i64 a.dev, .int .i64 a.kind, .int .i64 a.mode, .int .i64 a.uid, .int .i64 a.gid, .int .i64 a.mtime, .int .i64 a.ctime, .int .i64 a.links, .int .i64 a.up, .string a.data, .slice none 0 0] 170).keep hb1)
      rwa [World.size_alloc] at this
    have hCX := hCr.old (.cells #[.int .i64 d.no, .int .i64 d.dev, .int .i64 d.kind, .int .i64 d.mode, .int .i64 d.uid, .int .i64 d.gid, .int .i64 d.mtime, .int .i64 d.ctime, .int .i64 d.links, .int .i64 d.up, .string d.data, .slice ea el ec] 170)
    have hAX := hAr.old (.cells #[.int .i64 d.no, .int .i64 d.dev, .int .i64 d.kind, .int .i64 d.mode, .int .i64 d.uid, .int .i64 d.gid, .int .i64 d.mtime, .int .i64 d.ctime, .int .i64 d.links, .int .i64 d.up, .string d.data, .slice ea el ec] 170)
    have hDX := Blk.new w1 #[.int .i64 d.no, .int .i64 d.dev, .int .i64 d.kind, .int .i64 d.mode, .int .i64 d.uid, .int .i64 d.gid, .int .i64 d.mtime, .int .i64 d.ctime, .int .i64 d.links, .int .i64 d.up, .string d.data, .slice ea el ec] 170
    have hbY := balloc hbX (.cells #[.int .i64 d.no, .int .i64 d.dev, .int .i64 d.kind, .int .i64 d.mode, .int .i64 d.uid, .int .i64 d.gid, .int .i64 d.mtime, .int .i64 d.ctime, .int .i64 d.links, .int .i64 d.up, .string d.data, .slice ea el ec] 170)
    have hsz : w.heap.size + 2 ≤ w1.heap.size := by have := hb1.size; simp at this; omega
    have heX := (he.keep hb1).keep ((Below.refl _ w1).alloc (Nat.le_refl _) (.cells #[.int .i64 d.no, .int .i64 d.dev, .int .i64 d.kind, .int .i64 d.mode, .int .i64 d.uid, .int .i64 d.gid, .int .i64 d.mtime, .int .i64 d.ctime, .int .i64 d.links, .int .i64 d.up, .string d.data, .slice ea el ec] 170))
    obtain ⟨hdo, -, -, -⟩ := hk.get hg
    have hel := he.len
    unfold An.v
    clear hCr he hAr hb1 hbX
    go_wp2_with fail
    generalize w1.alloc (.cells #[.int .i64 d.no, .int .i64 d.dev, .int .i64 d.kind, .int .i64 d.mode, .int .i64 d.uid, .int .i64 d.gid, .int .i64 d.mtime, .int .i64 d.ctime, .int .i64 d.links, .int .i64 d.up, .string d.data, .slice ea el ec] 170) = X at hCX hAX hDX hbY heX ⊢
    have HX := Lib.hid hbY
    have HC := Lib.hid hCX
    have HA := Lib.hid hAX
    have HD := Lib.hid hDX
    have HE := Lib.hid heX
    have hfew : el ≤ 1000000 := by rw [← hel]; exact Nat.le_trans hdo.few (by omega)
    have HF := Lib.hid (efind_any d.ents ea el ec s X heX hdo.rise hfew)
    clear hbY hCX hAX hDX heX hel
    refine HF.out.mono ?_
    rintro e w2 ⟨rfl, hb2⟩
    have hX2 := bnext HX.out hb2
    have hC2 := HC.out.keep hb2
    have hA2 := HA.out.keep hb2
    have hD2 := HD.out.keep hb2
    clear HX HC HA HD HF
    by_cases hf : entFind d.ents s = 0
    · have hfz : (entFind d.ents s == 0) = true := by simpa using hf
      have mixed : Tryz.prog.follows .mixedOrders = true := by kernel_rfl
      have HZ1 := Lib.hid (come_full (a := a) (now := now) h0 hg hf)
      have HZ2 := Lib.hid (come_yes (a := a) (now := now) h0 hg hf)
      generalize entFind d.ents s = f at hfz
      go_wp2_with fail
      obtain ⟨cc, cf, cz⟩ := hC2.facts
      obtain ⟨dc, df, dz⟩ := hD2.facts
      have hA3 := (hA2.setPut (v1 := .int .i64 d.dev) (v4 := .int .i64 c.u) (v5 := .int .i64 c.g) (v6 := .int .i64 now) (v7 := .int .i64 now) (v8 := .int .i64 1)).drew
      have hB3 : Below w.heap.size w ((((((w2.setCell ⟨w.heap.size + 1, 1, none⟩ (.int .i64 d.dev)).setCell ⟨w.heap.size + 1, 4, none⟩ (.int .i64 c.u)).setCell ⟨w.heap.size + 1, 5, none⟩ (.int .i64 c.g)).setCell ⟨w.heap.size + 1, 6, none⟩ (.int .i64 now)).setCell ⟨w.heap.size + 1, 7, none⟩ (.int .i64 now)).setCell ⟨w.heap.size + 1, 8, none⟩ (.int .i64 1)).drew :=
        ((((((hX2.setCell (Nat.le_succ _) _).setCell (Nat.le_succ _) _).setCell (Nat.le_succ _) _).setCell (Nat.le_succ _) _).setCell (Nat.le_succ _) _).setCell (Nat.le_succ _) _).drew
      have hne : w.heap.size + 1 ≠ w1.heap.size := by omega
      have hD3 : Blk ((((((w2.setCell ⟨w.heap.size + 1, 1, none⟩ (.int .i64 d.dev)).setCell ⟨w.heap.size + 1, 4, none⟩ (.int .i64 c.u)).setCell ⟨w.heap.size + 1, 5, none⟩ (.int .i64 c.g)).setCell ⟨w.heap.size + 1, 6, none⟩ (.int .i64 now)).setCell ⟨w.heap.size + 1, 7, none⟩ (.int .i64 now)).setCell ⟨w.heap.size + 1, 8, none⟩ (.int .i64 1)).drew w1.heap.size _ _ :=
        ((((((hD2.setOther ⟨w.heap.size + 1, 1, none⟩ (.int .i64 d.dev) hne).setOther ⟨w.heap.size + 1, 4, none⟩ (.int .i64 c.u) hne).setOther ⟨w.heap.size + 1, 5, none⟩ (.int .i64 c.g) hne).setOther ⟨w.heap.size + 1, 6, none⟩ (.int .i64 now) hne).setOther ⟨w.heap.size + 1, 7, none⟩ (.int .i64 now) hne).setOther ⟨w.heap.size + 1, 8, none⟩ (.int .i64 1) hne).drew
      have hT : 170 ≠ 97 := by decide
      have hE3 : EntsAt ((((((w2.setCell ⟨w.heap.size + 1, 1, none⟩ (.int .i64 d.dev)).setCell ⟨w.heap.size + 1, 4, none⟩ (.int .i64 c.u)).setCell ⟨w.heap.size + 1, 5, none⟩ (.int .i64 c.g)).setCell ⟨w.heap.size + 1, 6, none⟩ (.int .i64 now)).setCell ⟨w.heap.size + 1, 7, none⟩ (.int .i64 now)).setCell ⟨w.heap.size + 1, 8, none⟩ (.int .i64 1)).drew ea el ec d.ents :=
        (((((((HE.out.keep hb2).setA hA2 hT 1 (.int .i64 d.dev)).setA (hA2.set 1 _) hT 4 (.int .i64 c.u)).setA ((hA2.set 1 _).set 4 _) hT 5 (.int .i64 c.g)).setA (((hA2.set 1 _).set 4 _).set 5 _) hT 6 (.int .i64 now)).setA ((((hA2.set 1 _).set 4 _).set 5 _).set 6 _) hT 7 (.int .i64 now)).setA (((((hA2.set 1 _).set 4 _).set 5 _).set 6 _).set 7 _) hT 8 (.int .i64 1)).keep (Below.refl _ _).drew
      have HE3 := Lib.hid hE3
      have HA3 := Lib.hid hA3
      have HB3 := Lib.hid hB3
      have HD3 := Lib.hid hD3
      obtain ⟨ac, af, az⟩ := hA2.facts
      clear hA3 hB3 hD3 hE3 hT
      go_region
      have hA4 := HA3.out
      have hB4 := HB3.out
      have hD4 := HD3.out
      have hE4 := HE3.out
      clear HE3 HA3 HB3 HD3 hX2 hA2 hC2 hD2 ac af az cc cf cz dc df dz
      generalize ((((((w2.setCell ⟨w.heap.size + 1, 1, none⟩ (.int .i64 d.dev)).setCell ⟨w.heap.size + 1, 4, none⟩ (.int .i64 c.u)).setCell ⟨w.heap.size + 1, 5, none⟩ (.int .i64 c.g)).setCell ⟨w.heap.size + 1, 6, none⟩ (.int .i64 now)).setCell ⟨w.heap.size + 1, 7, none⟩ (.int .i64 now)).setCell ⟨w.heap.size + 1, 8, none⟩ (.int .i64 1)).drew = Y at hA4 hB4 hD4 hE4 ⊢
      have HA := Lib.hid hA4
      have HB := Lib.hid hB4
      have HD := Lib.hid hD4
      have HE5 := Lib.hid hE4
      obtain ⟨q0, q1, q2, q3, q4, q5, q6, q7, q8, q9, q10, q11⟩ := hA4.cells12
      clear hA4 hB4 hD4 hE4
      go_wp2_with fail
      have HMk := wmake_any (HW.out.keep HB.out) hk (by omega) { a with dev := d.dev, uid := c.u, gid := c.g, mtime := now, ctime := now, links := 1 } none 0 0 (by rw [show ({ a with dev := d.dev, uid := c.u, gid := c.g, mtime := now, ctime := now, links := 1 } : An).ents = a.ents from rfl, ha]; exact EntsAt.nil _) had
      unfold An.v at HMk
      refine HMk.mono ?_
      clear HMk
      rintro e w4 ⟨rfl, R4, hR4, hS4⟩
      have hst : Stp (R.F pw) (R4.F pw) w w4 := (Stp.of_below HB.out).trans hS4
      by_cases hm : (S.make { a with dev := d.dev, uid := c.u, gid := c.g, mtime := now, ctime := now, links := 1 }).2.2 = 0
      · have hmz : ((S.make { a with dev := d.dev, uid := c.u, gid := c.g, mtime := now, ctime := now, links := 1 }).2.2 == 0) = true := by simpa using hm
        have HZ := Lib.hid (HZ2.out hm)
        have hd4 := HD.out.wd (HW.out.keep HB.out) hS4 rfl
        have he4 := HE5.out.wd (HW.out.keep HB.out) hS4
        have hg4 := make_get hk.nums ({ a with dev := d.dev, uid := c.u, gid := c.g, mtime := now, ctime := now, links := 1 }) hg
        have HPut := Lib.hid (eput_new d.ents ea el ec s (S.make { a with dev := d.dev, uid := c.u, gid := c.g, mtime := now, ctime := now, links := 1 }).2.1 w4 he4 hdo.rise hfew (find_has hdo.nz hf))
        have HTo := Lib.hid (fun l a n c w5 (hb5 : Below w4.heap.size w4 w5) (hl : EntsAt w5 a n c l) => touch_any (hR4.keep hb5) dir now d hg4 l a n c hl)
        have HST := Lib.hid hst
        obtain ⟨dc4, df4, dz4⟩ := hd4.facts
        generalize S.make { a with dev := d.dev, uid := c.u, gid := c.g, mtime := now, ctime := now, links := 1 } = Mk at HZ hmz HPut HTo HST ⊢
        clear hm hd4 he4 hg4 hR4 hst hS4 HZ1 HZ2 q0 q1 q2 q3 q4 q5 q6 q7 q8 q9 q10 q11
        go_wp2_with fail
        refine HPut.out.mono ?_
        rintro e w5 ⟨⟨a', n', c', rfl, he5⟩, hb5⟩
        have HT := Lib.hid (HTo.out _ _ _ _ w5 hb5 he5)
        have HB5 := Lib.hid hb5
        clear he5 hb5 HTo HPut
        go_wp2_with fail
        refine HT.out.mono ?_
        rintro e w6 ⟨rfl, R6, hR6, hS6⟩
        have HR6 := Lib.hid (And.intro hR6 hS6)
        clear hR6 hS6 HT
        go_wp2_with fail
        go_ret2
        rw [HZ.out]
        exact ⟨rfl, R6, HR6.out.1, (HST.out.trans (Stp.of_below HB5.out)).trans HR6.out.2⟩
      · have HZ := Lib.hid (HZ1.out hm)
        have HR4 := Lib.hid hR4
        have HST := Lib.hid hst
        have hmz : ((S.make { a with dev := d.dev, uid := c.u, gid := c.g, mtime := now, ctime := now, links := 1 }).2.2 == 0) = false := by simpa using hm
        obtain ⟨hsm, hs0⟩ := make_same hm
        rw [hsm] at HR4
        rw [hs0]
        generalize (S.make { a with dev := d.dev, uid := c.u, gid := c.g, mtime := now, ctime := now, links := 1 }).2.2 = me at HZ hmz ⊢
        clear hm hsm hs0 hR4 hst hS4
        go_wp2_with fail
        go_ret2
        rw [HZ.out]
        exact ⟨rfl, R4, HR4.out, HST.out⟩
    · have hfz : (entFind d.ents s == 0) = false := by simpa using hf
      have HZ := Lib.hid (come_had (a := a) (now := now) h0 hg hf)
      generalize entFind d.ents s = f at hfz
      have HB := Lib.hid hX2
      clear hX2 hC2 hA2 hD2
      go_wp2_with fail
      go_ret2
      rw [HZ.out]
      exact ⟨rfl, R, HW.out.keep HB.out, Stp.of_below HB.out⟩
end

end Go.Proofs.YtkkiglagdojnlaaGreatDoor
