/- Texts of the proof, part 31. -/
import Derived.Test.YtihdbncoijhihaaGreatDoorTT30
import Derived.Test.YtihdbncoijhihaaGreatDoorTT15
import Derived.Test.YtihdbncoijhihaaGreatDoorTT26
import Derived.Test.YtihdbncoijhihaaGreatDoorTT6
set_option linter.unusedVariables false
set_option linter.unusedSimpArgs false
/- The tops of all mounts, gathered: the statement's `tops`. -/
namespace Go.Proofs.YtihdbncoijhihaaGreatDoor

open Go.RowKit Go.Shelf

attribute [local go_sem] Oper.semAt_some

theorem int_info2 : (Tryz.prog.info? 3).map (fun i => (i.zero, i.size, i.bytes)) = some (some (.int .i64 0), 1, 8) := by kernel_rfl
/-- numbers of the call's own. -/
def ONo (w : World) (base : Nat) (v : Value) (l : List Int) : Prop := w.ownsRow base 3 1 v l.length (l.map (Value.int .i64))
theorem ONo.nil (w : World) (base : Nat) : ONo w base (.slice none 0 0) [] := ⟨rfl, .inl ⟨rfl, rfl⟩⟩
theorem ONo.appK {w : World} {base : Nat} {v : Value} {ls : List Int} (h : ONo w base v ls) (l : Int) (hl : ls.length ≤ 1000000) (hb : base ≤ w.heap.size) :
    ∃ g cap W, (Builtin.append_ #[37, 37] 37 #[v, .slice (some ⟨w.heap.size, 0, none⟩) 1 1]).run Tryz.prog (w.alloc (.cells #[.int .i64 l] 3)) = .ok (.slice (some ⟨g, 0, none⟩) (ls.length + 1) cap) W ∧
      ONo W base (.slice (some ⟨g, 0, none⟩) (ls.length + 1) cap) (ls ++ [l]) ∧ Below base w W ∧ KeepsOthers w W ∧ Mod (fun k => v.ownBlock = some k) w W ∧ (v.ownBlock = some g ∨ w.heap.size ≤ g) := by
  obtain ⟨i0, hi, hz0, hz1, hz2⟩ := info_parts int_info2
  have ho := World.ownsRow.alloc h (.cells #[.int .i64 l] 3)
  obtain ⟨g, cap, W, h1, h2, h3, h4⟩ := step_app 37 Tryz.underlying37 hi hz0 hz1 hz2 rfl (by omega) ho ⟨w.heap.size, 0, none⟩ 1 1 [.int .i64 l] rfl (World.news_of_block (Blk.new w #[.int .i64 l] 3)) (by intro u hu; simp at hu; subst hu; rfl) (by omega) (by unfold maxLen; omega) (by omega) (by simp; omega)
  refine ⟨g, cap, W, h1, ?_, ?_, (KeepsOthers.alloc _ _).trans (keeps_mod1 h3 (fun k hk => by obtain ⟨-, cur, hc⟩ := own_obj1 ho hk; exact ⟨_, _, _, hc⟩)), (Mod.refl _ w).alloc _ |>.trans h3, h4.imp id (fun h => by rw [h]; simp)⟩
  · unfold ONo
    rw [List.length_append, List.length_singleton, List.map_append]
    exact h2
  · refine (((Below.refl base w).alloc hb _)).trans (h3.below (fun k hk => (own_obj1 ho hk).1) (by simp; omega))
/-- texts of the call's own, with what turns. -/
theorem OS.appM {w : World} {base : Nat} {v : Value} {ls : List (List UInt8)} (h : OS w base v ls) (l : List UInt8) (hl : ls.length ≤ 1000000) (hb : base ≤ w.heap.size) :
    ∃ g cap W, (Builtin.append_ #[38, 38] 38 #[v, .slice (some ⟨w.heap.size, 0, none⟩) 1 1]).run Tryz.prog (w.alloc (.cells #[.string (str l)] 9)) = .ok (.slice (some ⟨g, 0, none⟩) (ls.length + 1) cap) W ∧
      OS W base (.slice (some ⟨g, 0, none⟩) (ls.length + 1) cap) (ls ++ [l]) ∧ Below base w W ∧ KeepsOthers w W ∧ Mod (fun k => v.ownBlock = some k) w W ∧ (v.ownBlock = some g ∨ w.heap.size ≤ g) := by
  obtain ⟨i0, hi, hz0, hz1, hz2⟩ := info_parts str_info
  have ho := World.ownsRow.alloc h (.cells #[.string (str l)] 9)
  obtain ⟨g, cap, W, h1, h2, h3, h4⟩ := step_app 38 Tryz.underlying38 hi hz0 hz1 hz2 rfl (by omega) ho ⟨w.heap.size, 0, none⟩ 1 1 [.string (str l)] rfl (World.news_of_block (Blk.new w #[.string (str l)] 9)) (by intro u hu; simp at hu; subst hu; rfl) (by omega) (by unfold maxLen; omega) (by omega) (by simp; omega)
  refine ⟨g, cap, W, h1, ?_, ?_, (KeepsOthers.alloc _ _).trans (keeps_mod1 h3 (fun k hk => by obtain ⟨-, cur, hc⟩ := own_obj1 ho hk; exact ⟨_, _, _, hc⟩)), (Mod.refl _ w).alloc _ |>.trans h3, h4.imp id (fun h => by rw [h]; simp)⟩
  · unfold OS
    rw [List.length_append, List.length_singleton, List.flatMap_append]
    exact h2
  · refine (((Below.refl base w).alloc hb _)).trans (h3.below (fun k hk => (own_obj1 ho hk).1) (by simp; omega))
theorem ONo.turn {w w' : World} {base : Nat} {v : Value} {ls : List Int} (h : ONo w base v ls) (ht : ∀ k cur, base ≤ k → w.heap[k]? = some (.cells cur 3 (0, 0)) → w'.heap[k]? = some (.cells cur 3 (0, 0))) : ONo w' base v ls :=
  ⟨h.1, h.2.imp id fun ⟨g, cap, cur, hv, hb, hg, rest⟩ => ⟨g, cap, cur, hv, hb, ht _ _ hb hg, rest⟩⟩
theorem ONo.low {w : World} {base base' : Nat} {v : Value} {ls : List Int} (h : ONo w base v ls) (hb : base' ≤ base) : ONo w base' v ls :=
  ⟨h.1, h.2.imp id fun ⟨g, cap, cur, hv, hg, rest⟩ => ⟨g, cap, cur, hv, Nat.le_trans hb hg, rest⟩⟩
theorem blk_tN {N : Nat} {A B : World} {b : Nat} {vs : Array Value} {T : TypeId} (h : Blk A b vs T) (ht : Turn NoT N notCells A B) : Blk B b vs T := ht.block b _ h (fun h => h) (fun _ => rfl)
theorem below_tN {N M : Nat} {w0 A B : World} (h : Below M w0 A) (ht : Turn NoT N notCells A B) (hN : M ≤ N) (hM : M ≤ w0.heap.size) : Below M w0 B := by
  refine ⟨ht.os.trans h.os, ht.tape.trans h.tape, ht.output.trans h.output, Nat.le_trans h.size ht.size, fun k hk => ?_⟩
  obtain ⟨o, ho⟩ : ∃ o, w0.heap[k]? = some o := ⟨w0.heap[k]'(by omega), Array.getElem?_eq_getElem _⟩
  have h1 := (h.block k hk).trans ho
  rw [ht.block k o h1 (fun h => h) (fun h => by omega), ho]
theorem is_kids (T T' : TypeId) (h : T ≠ T') {w : World} {k : Nat} {c c' : Array Value} (h1 : w.heap[k]? = some (.cells c T (0, 0))) (h2 : w.heap[k]? = some (.cells c' T' (0, 0))) : False := by
  rw [h1] at h2
  injection h2 with h2
  injection h2 with e1 e2 e3
  exact h e2
def Fs.topNo (l : List (Int × ByteArray)) : List Int := l.map (·.1)
def Fs.topTx (l : List (Int × ByteArray)) : List (List UInt8) := l.map (fun x => x.2.data.toList)
theorem eqIn_func_nil2 {P : Program} (d : Nat) (t : TypeId) (ps rs : Array TypeId) (v : Bool) (f : Fn) (x c : Array Value) (w : World) (h : P.underlying t = some (.func ps rs v)) : (Op.equalIn (d + 1) t (.func f x c) .nilFunc).run P w = .ok false w := by
  simp [Op.equalIn, run_underlying h]
theorem eq_func_nil2 {P : Program} (t : TypeId) (ps rs : Array TypeId) (v : Bool) (f : Fn) (x c : Array Value) (w : World) (h : P.underlying t = some (.func ps rs v)) : (Op.equal t (.func f x c) .nilFunc).run P w = .ok false w := eqIn_func_nil2 9999 t ps rs v f x c w h
theorem eql_func_nil2 {P : Program} (t : TypeId) (ps rs : Array TypeId) (v : Bool) (f : Fn) (x c : Array Value) (w : World) (h : P.underlying t = some (.func ps rs v)) : (binOp .eql t (.func f x c) .nilFunc).run P w = .ok (.bool false) w := by
  simp only [binOp]
  simp [eq_func_nil2 t ps rs v f x c w h]
/-- between two rounds. -/
structure TI (w : World) (B : Nat) (pre : List (Int × ByteArray)) (W : World) : Prop where
  a : ∃ va, Blk W w.heap.size #[va] 37 ∧ ONo W B va (Fs.topNo pre)
  b : ∃ vb, Blk W (w.heap.size + 1) #[vb] 38 ∧ OS W B vb (Fs.topTx pre)
  below : Below w.heap.size w W
theorem topsL_len (S : Fs) : S.topsL.length ≤ S.ds.length := by
  unfold Fs.topsL Fs.topsK
  exact Nat.le_trans (List.length_filterMap_le _ _) (by simp)
theorem TI.turn {w A C : World} {B N : Nat} {pre : List (Int × ByteArray)} (h : TI w B pre A) (ht : Turn NoT N notCells A C) (hN : w.heap.size ≤ N) : TI w B pre C := by
  obtain ⟨⟨va, a1, a2⟩, ⟨vb, b1, b2⟩, hb⟩ := h
  exact ⟨⟨va, blk_tN a1 ht, a2.turn (fun k cur _ hc => blk_tN hc ht)⟩, ⟨vb, blk_tN b1 ht, b2.turn (fun k cur _ hc => blk_tN hc ht)⟩, below_tN hb ht hN (Nat.le_refl _)⟩
/-- a round's two appends. -/
theorem TI.push {w W : World} {B : Nat} {pre : List (Int × ByteArray)} (h : TI w B pre W) (x : Int × ByteArray) (hB : w.heap.size + 1 + 1 = B) (hl : pre.length ≤ 1000000) (hW : B ≤ W.heap.size) :
    ∃ va vb g1 c1 W1 g2 c2 W2, Blk W w.heap.size #[va] 37 ∧
      (Builtin.append_ #[37, 37] 37 #[va, .slice (some ⟨W.heap.size, 0, none⟩) 1 1]).run Tryz.prog (W.alloc (.cells #[.int .i64 x.1] 3)) = .ok (.slice (some ⟨g1, 0, none⟩) (pre.length + 1) c1) W1 ∧
      Blk W1 w.heap.size #[va] 37 ∧
      Blk (W1.setCell ⟨w.heap.size, 0, none⟩ (.slice (some ⟨g1, 0, none⟩) (pre.length + 1) c1)) (w.heap.size + 1) #[vb] 38 ∧
      (Builtin.append_ #[38, 38] 38 #[vb, .slice (some ⟨W1.heap.size, 0, none⟩) 1 1]).run Tryz.prog ((W1.setCell ⟨w.heap.size, 0, none⟩ (.slice (some ⟨g1, 0, none⟩) (pre.length + 1) c1)).alloc (.cells #[.string x.2] 9)) = .ok (.slice (some ⟨g2, 0, none⟩) (pre.length + 1) c2) W2 ∧
      Blk W2 (w.heap.size + 1) #[vb] 38 ∧
      TI w B (pre ++ [x]) (W2.setCell ⟨w.heap.size + 1, 0, none⟩ (.slice (some ⟨g2, 0, none⟩) (pre.length + 1) c2)) ∧
      KeepsOthers W (W2.setCell ⟨w.heap.size + 1, 0, none⟩ (.slice (some ⟨g2, 0, none⟩) (pre.length + 1) c2)) ∧
      Below w.heap.size W (W2.setCell ⟨w.heap.size + 1, 0, none⟩ (.slice (some ⟨g2, 0, none⟩) (pre.length + 1) c2)) := by
  obtain ⟨⟨va, a1, a2⟩, ⟨vb, b1, b2⟩, hb⟩ := h
  have hn1 : (Fs.topNo pre).length = pre.length := List.length_map _
  have hn2 : (Fs.topTx pre).length = pre.length := List.length_map _
  obtain ⟨g1, c1, W1, r1, o1, l1, k1, m1, -⟩ := a2.appK x.1 (by rw [hn1]; exact hl) hW
  rw [hn1] at r1 o1
  have A1 := a1.keepB l1 (by omega)
  have B1 := b1.keepB l1 (by omega)
  have s1 := b2.turn (w' := W1) (fun k cur hk hc => (m1.block k (Array.getElem?_eq_some_iff.1 hc).1 (fun ho => by
    obtain ⟨-, cur', hc'⟩ := own_obj1 a2 ho
    exact is_kids 3 9 (by decide) hc' hc)).trans hc)
  obtain ⟨W1', hW1'⟩ : ∃ W1', W1' = W1.setCell ⟨w.heap.size, 0, none⟩ (.slice (some ⟨g1, 0, none⟩) (pre.length + 1) c1) := ⟨_, rfl⟩
  have hm1 : Mod (fun k => k = w.heap.size) W1 W1' := by rw [hW1']; exact (Mod.refl (fun k => k = w.heap.size) W1).setCell (a := ⟨w.heap.size, 0, none⟩) (.inl rfl) _
  have A1' : Blk W1' w.heap.size #[.slice (some ⟨g1, 0, none⟩) (pre.length + 1) c1] 37 := by rw [hW1']; exact A1.set 0 _
  have B1' : Blk W1' (w.heap.size + 1) #[vb] 38 := B1.mod hm1 (by omega)
  have s1' : OS W1' B vb (Fs.topTx pre) := s1.turn (fun k cur hk hc => (hm1.block k (Array.getElem?_eq_some_iff.1 hc).1 (by omega)).trans hc)
  have o1' : ONo W1' B (.slice (some ⟨g1, 0, none⟩) (pre.length + 1) c1) (Fs.topNo pre ++ [x.1]) := o1.turn (fun k cur hk hc => (hm1.block k (Array.getElem?_eq_some_iff.1 hc).1 (by omega)).trans hc)
  have hW1s : B ≤ W1'.heap.size := Nat.le_trans (Nat.le_trans hW l1.size) hm1.size
  have k1' : KeepsOthers W W1' := k1.trans (by rw [hW1']; exact KeepsOthers.setCell _ _ _)
  have l1' : Below w.heap.size W W1' := (l1.mono (by omega)).trans (hm1.below (fun k hk => by omega) (by have := l1.size; omega))
  obtain ⟨g2, c2, W2, r2, o2, l2, k2, m2, -⟩ := s1'.appM x.2.data.toList (by rw [hn2]; exact hl) hW1s
  rw [hn2] at r2 o2
  rw [str_of, show W1'.heap.size = W1.heap.size by rw [hW1']; simp] at r2
  have A2 := A1'.keepB l2 (by omega)
  have B2 := B1'.keepB l2 (by omega)
  have o2' : ONo W2 B (.slice (some ⟨g1, 0, none⟩) (pre.length + 1) c1) (Fs.topNo pre ++ [x.1]) := o1'.turn (fun k cur hk hc => (m2.block k (Array.getElem?_eq_some_iff.1 hc).1 (fun ho => by
    obtain ⟨-, cur', hc'⟩ := own_obj1 s1' ho
    exact is_kids 9 3 (by decide) hc' hc)).trans hc)
  obtain ⟨W2', hW2'⟩ : ∃ W2', W2' = W2.setCell ⟨w.heap.size + 1, 0, none⟩ (.slice (some ⟨g2, 0, none⟩) (pre.length + 1) c2) := ⟨_, rfl⟩
  have hm2 : Mod (fun k => k = w.heap.size + 1) W2 W2' := by rw [hW2']; exact (Mod.refl (fun k => k = w.heap.size + 1) W2).setCell (a := ⟨w.heap.size + 1, 0, none⟩) (.inl rfl) _
  have l2' : Below w.heap.size W W2' := l1'.trans ((l2.mono (by omega)).trans (hm2.below (fun k hk => by omega) (by have := l2.size; omega)))
  have B2' : Blk W2' (w.heap.size + 1) #[.slice (some ⟨g2, 0, none⟩) (pre.length + 1) c2] 38 := by rw [hW2']; exact B2.set 0 _
  have k2' : KeepsOthers W W2' := k1'.trans (k2.trans (by rw [hW2']; exact KeepsOthers.setCell _ _ _))
  subst hW1'
  refine ⟨va, vb, g1, c1, W1, g2, c2, W2, a1, r1, A1, B1', r2, B2, ?_⟩
  rw [← hW2']
  refine ⟨⟨⟨_, A2.mod hm2 (by omega), ?_⟩, ⟨_, B2', ?_⟩, hb.trans l2'⟩, k2', l2'⟩
  · unfold Fs.topNo
    rw [List.map_append]
    exact o2'.turn (fun k cur hk hc => (hm2.block k (Array.getElem?_eq_some_iff.1 hc).1 (by omega)).trans hc)
  · unfold Fs.topTx
    rw [List.map_append]
    exact o2.turn (fun k cur hk hc => (hm2.block k (Array.getElem?_eq_some_iff.1 hc).1 (by omega)).trans hc)
set_option maxRecDepth 100000 in
set_option maxHeartbeats 4000000 in
theorem tops_any {w : World} {pf pw : Nat} {R : Rp} {pv : Value} {Y : Sy} (h : SyAt w pf pw R pv Y) {N : Nat} (hk : FsOk Y.fs N) (hp : Pl Y.fs) (hl : Y.fs.ns.length ≤ 100000) (hd : Y.fs.ds.length ≤ 100000) :
    Calls Tryz.prog 12 #[.pointer (some ⟨pf, 0, none⟩)] w fun e w' => ∃ va vb, e = .returned (.tuple #[va, vb, .bool true]) ∧ ONo w' w.heap.size va (Fs.topNo Y.fs.topsL) ∧ OS w' w.heap.size vb (Fs.topTx Y.fs.topsL) ∧ Below w.heap.size w w' := by
  have hb1 : Below w.heap.size w (w.alloc (.cells #[.pointer (some ⟨pf, 0, none⟩)] 33)) := balloc (Below.refl w.heap.size w) _
  have HSt := Lib.hid (all_stops 4 (by omega) w.heap.size (w.alloc (.cells #[.pointer (some ⟨pf, 0, none⟩)] 33)) (Blk.new w _ _) (h.keep hb1) hk hp hl)
  have HAl := Lib.hid (all_any pf w)
  have hln := topsL_len Y.fs
  generalize Y.fs.topsL = L at HSt hln ⊢
  have hll : L.length ≤ 100000 := by omega
  clear h hk hp hl hd hln
  refine (callsIn_wide (n := 5)).1 ?_
  refine callsIn_of_wp_marks Tryz.func12 rfl trivial ?_ rfl
  simp only [Tryz.ntmps12, List.size_toArray, List.length_cons, List.length_nil, Nat.reduceAdd, Nat.reduceSub, Array.replicate_succ, Array.replicate_zero, List.push_toArray, List.append_toArray, List.nil_append, List.cons_append]
  have hnf : ∀ (w : World) (f : Fn) (c : Array Value), (binOp .eql 165 (.func f #[] c) .nilFunc).run Tryz.prog w = .ok (.bool false) w := fun w f c => eql_func_nil2 _ _ _ _ f #[] c w Tryz.underlying165
  gi_wp2
  refine ⟨trivial, callsIn_wide.2 (HAl.out.mono ?_)⟩
  rintro e w1 ⟨rfl, hw1⟩
  rw [← hw1] at HSt hb1
  have hz1 : w1.heap.size = w.heap.size + 1 := by rw [hw1]; simp
  clear hw1
  gi_wp2
  have A1 : Blk (w1.alloc (.cells #[.slice none 0 0] 37)) w1.heap.size #[.slice none 0 0] 37 := Blk.new w1 _ _
  have hz2 : (w1.alloc (.cells #[.slice none 0 0] 37)).heap.size = w1.heap.size + 1 := by simp
  have B1 : Blk ((w1.alloc (.cells #[.slice none 0 0] 37)).alloc (.cells #[.slice none 0 0] 38)) (w1.heap.size + 1) #[.slice none 0 0] 38 := by rw [← hz2]; exact Blk.new _ _ _
  have hz3 : ((w1.alloc (.cells #[.slice none 0 0] 37)).alloc (.cells #[.slice none 0 0] 38)).heap.size = w1.heap.size + 1 + 1 := by simp
  have A2 := A1.old (.cells #[.slice none 0 0] 38)
  have hb2 : Below w1.heap.size w1 ((w1.alloc (.cells #[.slice none 0 0] 37)).alloc (.cells #[.slice none 0 0] 38)) := balloc (balloc (Below.refl w1.heap.size w1) _) _
  clear A1 hz2 hnf
  generalize (w1.alloc (.cells #[.slice none 0 0] 37)).alloc (.cells #[.slice none 0 0] 38) = W1 at A2 B1 hz3 hb2 ⊢
  have HI0 := Lib.hid (show TI w1 (w1.heap.size + 1 + 1) [] W1 from ⟨⟨_, A2, ONo.nil _ _⟩, ⟨_, B1, OS.nil _ _⟩, hb2⟩)
  clear A2 B1
  refine' wpIn_rangeB (M := w1.heap.size) rfl (by omega) (gf := 145) (lb := #[.pointer (some ⟨w.heap.size, 0, none⟩)]) rfl trivial (enters_of Tryz.func145 (by kernel_rfl) rfl)
    HSt.out (by omega) hb2 (fun _ => rfl)
    (fun pre W => TI w1 (w1.heap.size + 1 + 1) pre W)
    (fun _ _ _ => False)
    (fun pre A B h ht => h.turn ht (by omega)) (fun c pre A B h ht => h) HI0.out _ ?assign ?body ?done (fun D c pre W _ _ h _ => h.elim)
  case assign =>
    intro L e W K hK
    gi_wp2
    exact hK
  case body =>
    intro lp pre x W hL hLW hTI hv
    have hpl : pre.length ≤ 1000000 := by
      have := hv.length_le
      rw [List.length_append, List.length_singleton] at this
      omega
    obtain ⟨va, vb, g1, c1, W2, g2, c2, W3, a1, r1, a2, b1, r2, b2, hT, hKO, hBl⟩ := hTI.push x rfl hpl (by omega)
    have HF := Lib.hid (And.intro hT (And.intro hKO hBl))
    simp only [hz1] at a1 a2 b1 b2 r2
    have HR1 := Lib.hid r1
    have HR2 := Lib.hid r2
    obtain ⟨ac, af, az⟩ := a1.facts
    obtain ⟨ac2, af2, az2⟩ := a2.facts
    obtain ⟨bc, bf, bz⟩ := b1.facts
    obtain ⟨bc2, bf2, bz2⟩ := b2.facts
    clear hTI a1 a2 b1 b2 r1 r2 hT hKO hBl hv hpl
    gi_wp2_with (gi_at_builtin; first | (refine wpListIn_app_run1 rfl rfl rfl rfl HR1.out ?_; clear HR1) | (refine wpListIn_app_run1 rfl rfl rfl rfl HR2.out ?_; clear HR2))
    have hf := HF.out
    simp only [hz1] at hf ⊢
    exact ⟨hf.2.1.from _, hf.2.2, hf.1⟩
  case done =>
    intro D xs W hD hxs hTI hK2
    subst hxs
    obtain ⟨⟨va, a1, a2⟩, ⟨vb, b1, b2⟩, hb⟩ := hTI
    rw [hz1] at a1 b1
    obtain ⟨ac, af, az⟩ := a1.facts
    obtain ⟨bc, bf, bz⟩ := b1.facts
    have HX := Lib.hid (And.intro a2 (And.intro b2 hb))
    clear a1 b1 a2 b2 hb
    gi_wp2
    refine wpIn_wide.2 ?_
    go_wp2_with (go_quiet (fail))
    have hK3 : (W.drewN nq).heap[D]? = some (.deferred (some [])) := hK2
    gi_wp2
    show LeavesInM Fence.wide 5 Tryz.prog Tryz.f12 _ _ _ _ (W.drewN nq)
    refine ⟨by simp, .inl ⟨_, _, rfl, run_takeDeferred hK3, ?_⟩⟩
    have hm : Below D (W.drewN nq) ((W.drewN nq).putObj D (.deferred none)) := ⟨rfl, rfl, rfl, by simp, fun k hk => World.putObj_heap_other (by omega)⟩
    have hD0 : ∀ (k : Nat) (cur : Array Value) (T : TypeId), W.heap[k]? = some (.cells cur T (0, 0)) → ((W.drewN nq).putObj D (.deferred none)).heap[k]? = some (.cells cur T (0, 0)) := fun k cur T hc => (World.putObj_heap_other (fun e => by
      subst e
      rw [hK2] at hc
      cases hc)).trans hc
    refine ⟨.tuple #[va, vb, .bool true], by simp [results, Tryz.results12, go_sem], va, vb, rfl, ?_, ?_, ?_⟩
    · exact (HX.out.1.turn (fun k cur _ hc => hD0 k cur _ hc)).low (by omega)
    · exact (HX.out.2.1.turn (fun k cur _ hc => hD0 k cur _ hc)).low (by omega)
    · exact hb1.trans ((HX.out.2.2.mono (by omega)).trans ((below_drewN (Below.refl _ _) _).trans (hm.mono (by have := hb1.size; omega))))
end Go.Proofs.YtihdbncoijhihaaGreatDoor

/- Trees that are to be (layer 22): how a seed lies; Limits. -/
namespace Go.Proofs.YtihdbncoijhihaaGreatDoor

open Go.RowKit

def mtC (m : Mt) : List Value := [.string m.path, .int .i64 m.b, .int .i64 m.n]
theorem mtC_len (m : Mt) : (mtC m).length = 3 := rfl
def mtR (cs : List Value) (m : Mt) : Prop := cs = mtC m
def itC (x : It) : List Value := [.string x.path, .int .i64 x.kind, .int .i64 x.mode, .int .i64 x.uid, .int .i64 x.gid, .int .i64 x.mtime, .string x.data]
theorem itC_len (x : It) : (itC x).length = 7 := rfl
def itR (cs : List Value) (x : It) : Prop := cs = itC x
theorem SliceAt.keep {α : Type} {w w' : World} {sz n c : Nat} {Rl : List Value → α → Prop} {a : Option Addr} {xs : List α} (h : SliceAt w sz Rl a n c xs) (hb : Below w.heap.size w w') : SliceAt w' sz Rl a n c xs := h.below hb (Nat.le_refl _)
/-- a seed: where its mounts and items lie. -/
structure SdAt (w : World) (ma : Option Addr) (mn mc : Nat) (ia : Option Addr) (il ic : Nat) (ms : List Mt) (is : List It) : Prop where
  m : SliceAt w 3 mtR ma mn mc ms
  i : SliceAt w 7 itR ia il ic is
theorem SdAt.keep {w w' : World} {ma : Option Addr} {mn mc : Nat} {ia : Option Addr} {il ic : Nat} {ms : List Mt} {is : List It} (h : SdAt w ma mn mc ia il ic ms is) (hb : Below w.heap.size w w') : SdAt w' ma mn mc ia il ic ms is := ⟨h.m.keep hb, h.i.keep hb⟩
theorem mt_cells {w : World} {b off n c : Nat} {ms : List Mt} (h : SliceAt w 3 mtR (some ⟨b, off, none⟩) n c ms) (k : Nat) (hk : k < ms.length) :
    w.cell? ⟨b, off + k * 3, none⟩ = some (.string ms[k].path) ∧ w.cell? ⟨b, off + k * 3 + 1, none⟩ = some (.int .i64 ms[k].b) ∧ w.cell? ⟨b, off + k * 3 + 2, none⟩ = some (.int .i64 ms[k].n) := by
  obtain ⟨hl, -, -, h0 | ⟨b', off', he, hb, hel⟩⟩ := h
  · omega
  · injection he with he
    injection he with e1 e2
    subst e1 e2
    obtain ⟨cs, h1, h2, h3⟩ := hel k hk
    unfold mtR at h2
    subst h2
    exact ⟨h3 0 (by rw [mtC_len]; omega), h3 1 (by rw [mtC_len]; omega), h3 2 (by rw [mtC_len]; omega)⟩
theorem it_cells {w : World} {b off n c : Nat} {is : List It} (h : SliceAt w 7 itR (some ⟨b, off, none⟩) n c is) (k : Nat) (hk : k < is.length) :
    w.cell? ⟨b, off + k * 7, none⟩ = some (.string is[k].path) ∧ w.cell? ⟨b, off + k * 7 + 1, none⟩ = some (.int .i64 is[k].kind) ∧ w.cell? ⟨b, off + k * 7 + 2, none⟩ = some (.int .i64 is[k].mode) ∧
    w.cell? ⟨b, off + k * 7 + 3, none⟩ = some (.int .i64 is[k].uid) ∧ w.cell? ⟨b, off + k * 7 + 4, none⟩ = some (.int .i64 is[k].gid) ∧ w.cell? ⟨b, off + k * 7 + 5, none⟩ = some (.int .i64 is[k].mtime) ∧ w.cell? ⟨b, off + k * 7 + 6, none⟩ = some (.string is[k].data) := by
  obtain ⟨hl, -, -, h0 | ⟨b', off', he, hb, hel⟩⟩ := h
  · omega
  · injection he with he
    injection he with e1 e2
    subst e1 e2
    obtain ⟨cs, h1, h2, h3⟩ := hel k hk
    unfold itR at h2
    subst h2
    exact ⟨h3 0 (by rw [itC_len]; omega), h3 1 (by rw [itC_len]; omega), h3 2 (by rw [itC_len]; omega), h3 3 (by rw [itC_len]; omega), h3 4 (by rw [itC_len]; omega), h3 5 (by rw [itC_len]; omega), h3 6 (by rw [itC_len]; omega)⟩
theorem slice_some {α : Type} {w : World} {sz n c : Nat} {Rl : List Value → α → Prop} {a : Option Addr} {xs : List α} (h : SliceAt w sz Rl a n c xs) (hn : 0 < n) : ∃ b off, a = some ⟨b, off, none⟩ ∧ b < w.heap.size := by
  obtain ⟨-, -, -, h0 | ⟨b, off, he, hb, -⟩⟩ := h
  · omega
  · exact ⟨b, off, he, hb⟩
theorem limitsF_drop {ms : List Mt} {k : Nat} (hk : k < ms.length) : limitsF (ms.drop k) = if ms[k].path = topB ∧ limB ms[k].b ms[k].n = true then (ms[k].b, ms[k].n) else limitsF (ms.drop (k + 1)) := by
  rw [List.drop_eq_getElem_cons hk, limitsF]
set_option maxRecDepth 100000 in
set_option maxHeartbeats 2000000 in
theorem slimits_any (w : World) {ma : Option Addr} {mn mc : Nat} {ia : Option Addr} {il ic : Nat} {ms : List Mt} {is : List It} (h : SdAt w ma mn mc ia il ic ms is) :
    Calls Tryz.prog 130 #[.agg #[.slice ma mn mc, .slice ia il ic]] w fun e w' => e = .returned (.tuple #[.int .i64 (limitsF ms).1, .int .i64 (limitsF ms).2]) ∧ Below w.heap.size w w' := by
  have HS := Lib.hid h
  have hln := h.m.1
  have hmc := h.m.2.1
  have hmx := h.m.2.2.1
  clear h
  go_enter Tryz.func130, Tryz.ntmps130
  go_wp2_with fail
  go_loopw [9] (fun t9 wr => ∃ k : Nat, k ≤ ms.length ∧ t9 = .int .i64 k ∧ limitsF ms = limitsF (ms.drop k) ∧ Below w.heap.size w wr) (fun t9 _ => ms.length - (intOf t9).toNat)
  case atStart => exact ⟨0, Nat.zero_le _, rfl, rfl, balloc (Below.refl _ _) _⟩
  case round =>
    obtain ⟨k, hk, rfl, hE, hb⟩ := hrel
    have HE := Lib.hid hE
    have HB := Lib.hid hb
    clear hE
    by_cases hlt : k < ms.length
    · obtain ⟨b, off, rfl, hbl⟩ := slice_some HS.out.m (by omega)
      obtain ⟨c0, c1, c2⟩ := mt_cells (HS.out.m.below hb (Nat.le_refl _)) k hlt
      have HQ := Lib.hid (limitsF_drop hlt)
      generalize ms[k] = m at c0 c1 c2 HQ
      obtain ⟨mp, mb, mk⟩ := m
      have hX := Blk.new wr #[.string mp, .int .i64 mb, .int .i64 mk] 159
      have hbX := balloc hb (.cells #[.string mp, .int .i64 mb, .int .i64 mk] 159)
      clear hb
      go_upto_region 4 with fail
      generalize wr.alloc (.cells #[.string mp, .int .i64 mb, .int .i64 mk] 159) = X at hX hbX ⊢
      have HX := Lib.hid hX
      have HBX := Lib.hid hbX
      obtain ⟨xc, xf, xz⟩ := hX.facts
      clear hX hbX c0 c1 c2
      by_cases h1 : mp = topB
      · have h1' : mp.toList = [47] := by rw [h1, ba_list]; rfl
        have HP := Lib.hid h1
        clear h1
        by_cases h2 : mb < 1
        · skip
          have HN := Lib.hid (HE.out.trans (HQ.out.trans (if_neg (fun h => by have h9 : 1 ≤ mb := (lim_of h.2).1; omega))))
          go_wp2_with fail
          go_roundw
          case rel => exact ⟨k + 1, by omega, by go_num, HN.out, HBX.out⟩
          case measure => simp [intOf]; omega
        by_cases h3 : 1073741824 < mb
        · skip
          have HN := Lib.hid (HE.out.trans (HQ.out.trans (if_neg (fun h => by have h9 : mb ≤ 1073741824 := (lim_of h.2).2.1; omega))))
          go_wp2_with fail
          go_roundw
          case rel => exact ⟨k + 1, by omega, by go_num, HN.out, HBX.out⟩
          case measure => simp [intOf]; omega
        by_cases h4 : mk < 1
        · skip
          have HN := Lib.hid (HE.out.trans (HQ.out.trans (if_neg (fun h => by have h9 : 1 ≤ mk := (lim_of h.2).2.2.1; omega))))
          go_wp2_with fail
          go_roundw
          case rel => exact ⟨k + 1, by omega, by go_num, HN.out, HBX.out⟩
          case measure => simp [intOf]; omega
        by_cases h5 : 65536 < mk
        · skip
          have HN := Lib.hid (HE.out.trans (HQ.out.trans (if_neg (fun h => by have h9 : mk ≤ 65536 := (lim_of h.2).2.2.2; omega))))
          go_wp2_with fail
          go_roundw
          case rel => exact ⟨k + 1, by omega, by go_num, HN.out, HBX.out⟩
          case measure => simp [intOf]; omega
        have HN := Lib.hid (HE.out.trans (HQ.out.trans (if_pos ⟨HP.out, lim_mk mb mk (by omega) (by omega) (by omega) (by omega)⟩)))
        have mixed : Tryz.prog.follows .mixedOrders = true := by kernel_rfl
        go_wp2_with fail
        go_region
        all_goals
          go_wp2_with fail
          go_ret2
          rw [HN.out]
          exact ⟨rfl, HBX.out.drew⟩
      · have h1' : (mp.toList == [47]) = false := by
          rw [ba_list]
          simp only [beq_eq_false_iff_ne, ne_eq]
          exact fun e => h1 (ba_eq e)
        have HN := Lib.hid (HE.out.trans (HQ.out.trans (if_neg (fun h => h1 h.1))))
        go_wp2_with fail
        go_roundw
        case rel => exact ⟨k + 1, by omega, by go_num, HN.out, HBX.out⟩
        case measure => simp [intOf]; omega
    · obtain rfl : k = ms.length := by omega
      have HE2 := Lib.hid (show limitsF ms = (65536, 65536) by rw [HE.out, List.drop_length]; rfl)
      clear hb
      go_wp2_with fail
      go_ret2
      rw [HE2.out]
      exact ⟨rfl, HB.out⟩
end Go.Proofs.YtihdbncoijhihaaGreatDoor
