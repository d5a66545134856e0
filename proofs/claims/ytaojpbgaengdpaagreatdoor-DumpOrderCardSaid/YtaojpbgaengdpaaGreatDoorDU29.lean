/- Texts of the proof, part 29. -/
import Derived.Test.YtaojpbgaengdpaaGreatDoorDU28
import Derived.Test.YtaojpbgaengdpaaGreatDoorDU14
import Derived.Test.YtaojpbgaengdpaaGreatDoorDU12
import Derived.Test.YtaojpbgaengdpaaGreatDoorDU16
set_option linter.unusedVariables false
set_option linter.unusedSimpArgs false
/- A spot more, where the program ranges over a directory's names. -/
namespace Go.Proofs.YtaojpbgaengdpaaGreatDoor

open Go.RowKit

theorem spot_info : (Tryz.prog.info? 82).map (fun i => (i.zero, i.size, i.bytes)) = some (some (.agg #[.string ByteArray.empty, .int .i64 0]), 2, 24) := by kernel_rfl
theorem OP.app1 {w : World} {base g cap : Nat} {l : List En} (h : OP w base (.slice (some ⟨g, 0, none⟩) l.length cap) l) (x : En) (hl : l.length ≤ 1000000) (hb : base ≤ w.heap.size) :
    ∃ g2 cap2 W, (Builtin.append_ #[83, 83] 83 #[.slice (some ⟨g, 0, none⟩) l.length cap, .slice (some ⟨w.heap.size, 0, none⟩) 1 1]).run Tryz.prog (w.alloc (.cells #[.string x.name, .int .i64 x.no] 82)) = .ok (.slice (some ⟨g2, 0, none⟩) (l.length + 1) cap2) W ∧
      OP W base (.slice (some ⟨g2, 0, none⟩) (l.length + 1) cap2) (l ++ [x]) ∧ Mod (fun k => k = g) w W ∧ KeepsOthers w W ∧ (g2 = g ∨ w.heap.size ≤ g2) := by
  obtain ⟨i0, hi, hz0, hz1, hz2⟩ := info_parts spot_info
  have ho := World.ownsRow.alloc h (.cells #[.string x.name, .int .i64 x.no] 82)
  obtain ⟨g2, cap2, W, h1, h2, h3, h4⟩ := step_app 83 Tryz.underlying83 hi hz0 hz1 hz2 rfl (by omega) ho ⟨w.heap.size, 0, none⟩ 1 1 (entC x) rfl (World.news_of_block (Blk.new w #[.string x.name, .int .i64 x.no] 82)) (by intro u hu; simp [entC] at hu; rcases hu with rfl | rfl <;> rfl) (by omega) (by unfold maxLen; omega) (by omega) (by rw [World.size_alloc]; omega)
  have h5 : Mod (fun k => k = g) (w.alloc (.cells #[.string x.name, .int .i64 x.no] 82)) W := h3.mono (fun k hk => by simp [Value.ownBlock] at hk; exact hk.symm)
  refine ⟨g2, cap2, W, h1, ?_, ((Mod.refl (fun j => j = g) w).alloc _).trans h5, (KeepsOthers.alloc _ _).trans (keeps_mod1 h3 (fun k hk => by obtain ⟨-, cur, hc⟩ := own_obj1 ho hk; exact ⟨_, _, _, hc⟩)), ?_⟩
  · unfold OP
    rw [List.length_append, List.length_singleton, List.flatMap_append]
    exact (by simpa using h2)
  · rcases h4 with h4 | h4
    · left
      simp [Value.ownBlock] at h4
      exact h4.symm
    · right
      rw [h4, World.size_alloc]
      omega
theorem own_turnN {N : Nat} {A B : World} {base : Nat} {e : TypeId} {sz n : Nat} {v : Value} {xs : List Value} (h : A.ownsRow base e sz v n xs) (ht : Turn NoT N notCells A B) : B.ownsRow base e sz v n xs := by
  refine ⟨h.1, h.2.imp id ?_⟩
  rintro ⟨g, cap, cur, hv, hb, hg, rest⟩
  exact ⟨g, cap, cur, hv, hb, ht.block g _ hg (fun h => h) (fun _ => rfl), rest⟩
theorem blk_turnN {N : Nat} {A B : World} {b : Nat} {vs : Array Value} {T : TypeId} (h : Blk A b vs T) (ht : Turn NoT N notCells A B) : Blk B b vs T := ht.block b _ h (fun h => h) (fun _ => rfl)
theorem below_turnN {N M : Nat} {w0 A B : World} (h : Below M w0 A) (ht : Turn NoT N notCells A B) (hN : M ≤ N) (hM : M ≤ w0.heap.size) : Below M w0 B := by
  refine ⟨ht.os.trans h.os, ht.tape.trans h.tape, ht.output.trans h.output, Nat.le_trans h.size ht.size, fun k hk => ?_⟩
  obtain ⟨o, ho⟩ : ∃ o, w0.heap[k]? = some o := ⟨w0.heap[k]'(by omega), Array.getElem?_eq_getElem _⟩
  have h1 := (h.block k hk).trans ho
  rw [ht.block k o h1 (fun h => h) (fun h => by omega), ho]
theorem DB.turn {N B m Bt g cap : Nat} {A C : World} {vo : Value} {out : List Rw} {nos : List Int} {stk : List En} (h : DB B A m Bt g cap vo out nos stk) (ht : Turn NoT N notCells A C) (hm : m < N) : DB B C m Bt g cap vo out nos stk := by
  obtain ⟨l, clk, hM, hF⟩ := h.m
  exact ⟨own_turnN h.o ht, blk_turnN h.t ht, own_turnN h.s ht, l, clk, ht.block m _ hM (fun h => h) (fun h => by omega), hF⟩
/-- a spot more: the run of the append, and what holds when it has been put back. -/
theorem DB.push {B m Bt g cap : Nat} {w : World} {vo : Value} {out : List Rw} {nos : List Int} {stk : List En} (h : DB B w m Bt g cap vo out nos stk) (x : En) (hl : stk.length ≤ 1000000) (hB : B ≤ Bt) :
    ∃ g2 cap2 W, (Builtin.append_ #[83, 83] 83 #[.slice (some ⟨g, 0, none⟩) stk.length cap, .slice (some ⟨w.heap.size, 0, none⟩) 1 1]).run Tryz.prog (w.alloc (.cells #[.string x.name, .int .i64 x.no] 82)) = .ok (.slice (some ⟨g2, 0, none⟩) (stk.length + 1) cap2) W ∧
      Blk W Bt #[.slice (some ⟨g, 0, none⟩) stk.length cap] 83 ∧
      DB B (W.setCell ⟨Bt, 0, none⟩ (.slice (some ⟨g2, 0, none⟩) (stk.length + 1) cap2)) m Bt g2 cap2 vo out nos (stk ++ [x]) ∧
      Mod (fun k => k = g ∨ k = Bt) w (W.setCell ⟨Bt, 0, none⟩ (.slice (some ⟨g2, 0, none⟩) (stk.length + 1) cap2)) ∧ KeepsOthers w (W.setCell ⟨Bt, 0, none⟩ (.slice (some ⟨g2, 0, none⟩) (stk.length + 1) cap2)) ∧ (g2 = g ∨ w.heap.size ≤ g2) ∧ Mod (fun k => k = g) w W := by
  have hBw : B ≤ w.heap.size := Nat.le_trans hB (Nat.le_of_lt h.t.lt)
  obtain ⟨g2, cap2, W, h1, h2, h3, h4, h5⟩ := h.s.app1 x hl hBw
  have h3' : Mod (fun k => (Value.slice (some ⟨g, 0, none⟩) stk.length cap).ownBlock = some k) w W := h3.mono (fun k hk => by subst hk; rfl)
  obtain ⟨l, clk, hM, hF⟩ := h.m
  have ht := own_blk h.s (by decide) h.t h3'
  have ho := own_mod h.o h3' (fun k hk => own_apart h.s h.o (by decide) hk)
  have hMW := map_own h.s hM h3'
  have hm : Mod (fun k => k = Bt) W (W.setCell ⟨Bt, 0, none⟩ (.slice (some ⟨g2, 0, none⟩) (stk.length + 1) cap2)) := (Mod.refl (fun k => k = Bt) W).setCell (a := ⟨Bt, 0, none⟩) (.inl rfl) _
  have hne : Bt ≠ m := by
    rintro rfl
    have h6 := ht
    unfold Blk at h6
    unfold MapB at hMW
    rw [h6] at hMW
    cases hMW
  refine ⟨g2, cap2, W, h1, ht, ⟨own_box ho (by decide) ht hm, ?_, ?_, l, clk, hMW.setOther ⟨Bt, 0, none⟩ _ hne, hF⟩, (h3.mono (fun _ h => .inl h)).trans (hm.mono (fun _ h => .inr h)), h4.trans (KeepsOthers.setCell _ _ _), h5, h3⟩
  · rw [List.length_append, List.length_singleton]
    exact ht.set 0 _
  · rw [List.length_append, List.length_singleton]
    exact own_box h2 (by decide) ht hm
/-- a read and a call that come up side by side; the call leaves the world as it was. -/
theorem reg_two_call {P : Program} {ops : Array Oper} {md : Region.Mode} {Q : Exit → Act → World → Prop} {S : World → Prop} {oi oj : Oper} {fuel : Nat} {listed : Array Bool} {tmps : Array Value} {defers : List Deferred} {w : World} {v vj : Value}
    (i di j dj : Nat) (hr : Region.ready md ops listed = [i, j]) (hi : ops[i]? = some oi) (hj : ops[j]? = some oj) (hdi : oi.dst = some di) (hdj : oj.dst = some dj)
    (hwi : Region.wanted oi (yielded ops tmps) = true) (hwj : Region.wanted oj (yielded ops tmps) = true)
    (hei : (execOp (Act.eval { tmps, defers }) oi).run P w = .ok (.value v) w) {f : FuncId} {args : Array Value} (hej : (execOp (Act.eval { tmps, defers }) oj).run P w = .ok (.enter f args) w)
    (hc : Calls P f args w fun e w' => e = .returned vj ∧ w' = w) (hS : S w)
    (h1 : wpAnyH P md ops Q S fuel (listed.setIfInBounds i true) { tmps := tmps.setIfInBounds di v, defers } w) (h2 : wpAnyH P md ops Q S fuel (listed.setIfInBounds j true) { tmps := tmps.setIfInBounds dj vj, defers } w) :
    wpAnyH P md ops Q S (fuel + 1) listed { tmps, defers } w := by
  refine wpAnyH_ready hr (by simp) (AllReadyH.cons hi (fun K hK => ?_) (AllReadyH.cons hj (fun K hK => ?_) AllReadyH.nil))
  · rw [if_pos hwi]
    unfold Oper.wp
    rw [hei]
    refine hK.out _ _ hS (fun _ => ?_)
    rw [hdi]
    exact h1
  · rw [if_pos hwj]
    unfold Oper.wp
    rw [hej]
    refine hc.mono ?_
    rintro e w' ⟨rfl, rfl⟩
    refine hK.out _ _ hS (fun _ => ?_)
    rw [hdj]
    exact h2
/-- slices.Reverse of nothing. -/
theorem reverse_none (w : World) (a : Option Addr) (c : Nat) :
    Calls Tryz.prog 43 #[.slice a 0 c] w fun e w' => (∃ v, e = .returned v) ∧ Below w.heap.size w w' := by
  go_enter Tryz.func43, Tryz.ntmps43
  go_wp2_with fail
  go_loopw [2, 3] (fun t2 t3 wr => t2 = .int .i64 0 ∧ t3 = .int .i64 (-1) ∧ wr = w) (fun t2 _ _ => 0)
  case atStart => exact ⟨rfl, by first | rfl | simp, rfl⟩
  case round =>
    obtain ⟨rfl, rfl, rfl⟩ := hrel
    have hge : ¬ (0 : Int) < -1 := by omega
    go_wp2_with fail
    go_end0
    exact ⟨⟨_, rfl⟩, Below.refl _ _⟩
/-- the names of a directory, turned round at the end of what is still to be told. -/
theorem DB.rev {B m Bt g cap : Nat} {w : World} {vo : Value} {out : List Rw} {nos : List Int} {pre l : List En} (h : DB B w m Bt g cap vo out nos (pre ++ l)) {a : Option Addr} {c : Nat} (ha : l ≠ [] → a = some ⟨g, pre.length * 2, none⟩) (hc : l.length ≤ c) (hc2 : c ≤ 9223372036854775807) :
    Calls Tryz.prog 43 #[.slice a l.length c] w fun e w' => (∃ v, e = .returned v) ∧ DB B w' m Bt g cap vo out nos (pre ++ l.reverse) ∧ Mod (fun k => k = g) w w' := by
  cases l with
  | nil =>
    refine (reverse_none w a c).mono ?_
    rintro e w' ⟨hv, hb⟩
    exact ⟨hv, by simpa using h.keep hb, Mod.of_below hb⟩
  | cons x l =>
    rw [ha (by simp)]
    refine (reverse_any w pre (x :: l) h.s hc hc2).mono ?_
    rintro e w' ⟨hv, ho, hm⟩
    have hm' : Mod (fun k => (Value.slice (some ⟨g, 0, none⟩) (pre ++ x :: l).length cap).ownBlock = some k) w w' := hm.mono (fun k hk => by subst hk; rfl)
    obtain ⟨ml, clk, hM, hF⟩ := h.m
    refine ⟨hv, ⟨own_mod h.o hm' (fun k hk => own_apart h.s h.o (by decide) hk), ?_, ho, ml, clk, map_own h.s hM hm', hF⟩, hm⟩
    have ht := own_blk h.s (by decide) h.t hm'
    have hl : (pre ++ (x :: l).reverse).length = (pre ++ x :: l).length := by simp
    rw [hl]
    exact ht
end Go.Proofs.YtaojpbgaengdpaaGreatDoor

/- How the reference (layer 14) lays a tree of nodes in memory; what turns and what stays. -/
namespace Go.Proofs.YtaojpbgaengdpaaGreatDoor

open Go.RowKit

/-- a row of the call's own, cell by cell. -/
theorem row_cells {α : Type} {enc : α → List Value} {w : World} {base sz n : Nat} {e : TypeId} {v : Value} {ys : List α} (hpos : 0 < sz) (hl : ∀ x, (enc x).length = sz) (h : w.ownsRow base e sz v n (ys.flatMap enc)) (hn : 0 < n) :
    ∃ g cap, v = .slice (some ⟨g, 0, none⟩) n cap ∧ ys.length = n ∧ n ≤ cap ∧ cap ≤ 9223372036854775807 ∧ base ≤ g ∧ g < w.heap.size ∧
      (∀ (i : Nat) (hi : i < ys.length) (j : Nat) (hj : j < sz), w.cell? ⟨g, i * sz + j, none⟩ = some ((enc ys[i])[j]'(by rw [hl]; exact hj))) ∧ ∃ cur, Blk w g cur e := by
  obtain ⟨a, cap, rfl, hle, h63, hf⟩ := own_form h
  rcases hf with ⟨-, h1, -⟩ | ⟨g, rfl, hb, hg⟩
  · omega
  · obtain ⟨hy, -, -, h1 | ⟨b, off, he, hb2, hel⟩⟩ := own_slice (R := fun cs x => cs = enc x) hpos hl (fun _ => rfl) h
    · omega
    · injection he with he
      injection he with e1 e2
      subst e1 e2
      obtain ⟨cur, hcur⟩ : ∃ cur, Blk w g cur e := by
        rcases h.2 with ⟨h1, -⟩ | ⟨g', cap', cur, h1, -, hg', -⟩
        · cases h1
        · injection h1 with h1
          injection h1 with h1
          injection h1 with h1
          subst h1
          exact ⟨cur, hg'⟩
      refine ⟨g, cap, rfl, hy, hle, h63, hb, hg, fun i hi j hj => ?_, cur, hcur⟩
      obtain ⟨cs, h2, h3, h4⟩ := hel i hi
      subst h3
      have := h4 j (by rw [hl]; exact hj)
      rw [Nat.zero_add] at this
      exact this
def Gn.cs (g : Gn) : List Value := [.int .i64 g.a.no, .int .i64 g.a.dev, .int .i64 g.a.kind, .int .i64 g.a.mode, .int .i64 g.a.uid, .int .i64 g.a.gid, .int .i64 g.a.mtime, .int .i64 g.a.ctime, .int .i64 g.a.links, .int .i64 g.a.up, .string g.a.data, .slice g.ea g.el g.ec]
theorem Gn.cs_len (g : Gn) : g.cs.length = 12 := rfl
/-- where the reference's tree lies. -/
structure Rf where
  nv : Value
  dv : Value
  G : List Gn
  now : Int
  cnt : Value
  pl : Value
  dd : Value
/-- the blocks that its methods write. -/
def Rf.F (R : Rf) (pf k : Nat) : Prop := k = pf ∨ R.nv.ownBlock = some k ∨ R.dv.ownBlock = some k
/-- the tree S lies at pf, as R says. -/
structure RfAt (w : World) (pf : Nat) (R : Rf) (S : Fs) : Prop where
  blk : Blk w pf #[R.nv, R.dv, .int .i64 S.last, .int .i64 R.now, R.cnt, R.pl, R.dd] 40
  nds : w.ownsRow 0 86 12 R.nv R.G.length (R.G.flatMap Gn.cs)
  devs : w.ownsRow 0 149 6 R.dv S.ds.length (S.ds.flatMap Dv.cs)
  ns : S.ns = R.G.map (·.a)
  ents : ∀ g ∈ R.G, EntsAt w g.ea g.el g.ec g.a.ents
def rfKind (o : Obj) : Bool := match o with
  | .cells _ t _ => t == 40 || t == 86 || t == 149
  | _ => false
section

variable {w w' : World} {pf : Nat} {R : Rf} {S : Fs}

theorem RfAt.kind (h : RfAt w pf R S) {k : Nat} (hk : R.F pf k) : ∃ o, w.heap[k]? = some o ∧ rfKind o = true := by
  rcases hk with rfl | hk | hk
  · exact ⟨_, h.blk, rfl⟩
  · obtain ⟨-, cur, hc⟩ := own_obj1 h.nds hk
    exact ⟨_, hc, rfl⟩
  · obtain ⟨-, cur, hc⟩ := own_obj1 h.devs hk
    exact ⟨_, hc, rfl⟩
theorem RfAt.lt (h : RfAt w pf R S) {k : Nat} (hk : R.F pf k) : k < w.heap.size := by
  obtain ⟨o, ho, -⟩ := h.kind hk
  exact (Array.getElem?_eq_some_iff.1 ho).1
/-- entries stay where only a tree's own blocks turn. -/
theorem EntsAt.rf {a : Option Addr} {n c : Nat} {es : List En} (he : EntsAt w a n c es) (h : RfAt w pf R S) {F' : Nat → Prop} (hs : Stp (R.F pf) F' w w') : EntsAt w' a n c es :=
  he.turn (fun b cur hc => hs.mod.block b (Array.getElem?_eq_some_iff.1 hc).1 (fun hk => by
    obtain ⟨o, ho, hd⟩ := h.kind hk
    rw [hc] at ho
    injection ho with ho
    subst ho
    rw [show rfKind (.cells cur 101 (0, 0)) = false from rfl] at hd
    cases hd)) hs.mod.size
/-- a block of another kind stays. -/
theorem Blk.rf {B : Nat} {vs : Array Value} {T : TypeId} (hb : Blk w B vs T) (h : RfAt w pf R S) {F' : Nat → Prop} (hs : Stp (R.F pf) F' w w') (hT : rfKind (.cells #[] T (0, 0)) = false) : Blk w' B vs T :=
  hb.mod hs.mod (fun hk => by
    obtain ⟨o, ho, hd⟩ := h.kind hk
    unfold Blk at hb
    rw [hb] at ho
    injection ho with ho
    subst ho
    rw [show rfKind (.cells vs T (0, 0)) = rfKind (.cells #[] T (0, 0)) from rfl, hT] at hd
    cases hd)
theorem own_turn {base sz n : Nat} {e : TypeId} {v : Value} {xs : List Value} (h : w.ownsRow base e sz v n xs) (ht : ∀ k, v.ownBlock = some k → w'.heap[k]? = w.heap[k]?) : w'.ownsRow base e sz v n xs :=
  ⟨h.1, h.2.imp id fun ⟨g, cap, cur, h1, h2, hg, h3⟩ => ⟨g, cap, cur, h1, h2, (ht g (by rw [h1]; rfl)).trans hg, h3⟩⟩
theorem RfAt.turn (h : RfAt w pf R S) (ht : ∀ k, R.F pf k → w'.heap[k]? = w.heap[k]?) (he : ∀ (b : Nat) (cur : Array Value), w.heap[b]? = some (.cells cur 101 (0, 0)) → w'.heap[b]? = w.heap[b]?) (hs : w.heap.size ≤ w'.heap.size) : RfAt w' pf R S where
  blk := (ht _ (.inl rfl)).trans h.blk
  nds := own_turn h.nds (fun k hk => ht k (.inr (.inl hk)))
  devs := own_turn h.devs (fun k hk => ht k (.inr (.inr hk)))
  ns := h.ns
  ents := fun g hg => (h.ents g hg).turn he hs
theorem RfAt.keep (h : RfAt w pf R S) (hb : Below w.heap.size w w') : RfAt w' pf R S :=
  h.turn (fun k hk => hb.block k (h.lt hk)) (fun b cur hc => hb.block b (Array.getElem?_eq_some_iff.1 hc).1) hb.size
/-- blocks of other kinds may turn. -/
theorem RfAt.mod (h : RfAt w pf R S) {F : Nat → Prop} (hm : Mod F w w') (hF : ∀ (k : Nat) (o : Obj), F k → w.heap[k]? = some o → rfKind o = false ∧ ∀ cur, o ≠ .cells cur 101 (0, 0)) : RfAt w' pf R S :=
  h.turn (fun k hk => hm.block k (h.lt hk) (fun hf => by
    obtain ⟨o, ho, hd⟩ := h.kind hk
    rw [(hF k o hf ho).1] at hd
    cases hd)) (fun b cur hc => hm.block b (Array.getElem?_eq_some_iff.1 hc).1 (fun hf => (hF b _ hf hc).2 cur rfl)) hm.size
theorem RfAt.len (h : RfAt w pf R S) : S.ns.length = R.G.length := by rw [h.ns, List.length_map]
theorem rget_G (h : RfAt w pf R S) (k : Int) : S.get k = (R.G.find? (fun g => g.a.no == k)).map (·.a) := by
  unfold Fs.get
  rw [h.ns, List.find?_map]
  rfl
/-- the place of a node. -/
def placeN (G : List Gn) (no : Int) : Int := match G.findIdx? (fun g => g.a.no == no) with | some i => i | none => -1
theorem placeN_yes {G : List Gn} {no : Int} {i : Nat} (hi : i < G.length) (h1 : G[i].a.no = no) (h2 : ∀ j (hj : j < G.length), j < i → G[j].a.no ≠ no) : placeN G no = i := by
  unfold placeN
  rw [show G.findIdx? (fun g => g.a.no == no) = some i from List.findIdx?_eq_some_iff_getElem.2 ⟨hi, by simpa using h1, fun j hj => by simpa using h2 j (by omega) hj⟩]
theorem placeN_no {G : List Gn} {no : Int} (h2 : ∀ j (hj : j < G.length), G[j].a.no ≠ no) : placeN G no = -1 := by
  unfold placeN
  rw [show G.findIdx? (fun g => g.a.no == no) = none from List.findIdx?_eq_none_iff.2 (fun g hg => by
    obtain ⟨j, hj, rfl⟩ := List.mem_iff_getElem.1 hg
    simpa using h2 j hj)]
/-- a number's node, and its place. -/
theorem place_get (h : RfAt w pf R S) (k : Int) : (∃ (i : Nat) (hi : i < R.G.length), placeN R.G k = i ∧ S.get k = some R.G[i].a ∧ R.G[i].a.no = k) ∨ (placeN R.G k = -1 ∧ S.get k = none) := by
  rw [rget_G h]
  unfold placeN
  cases hf : R.G.findIdx? (fun g => g.a.no == k) with
  | some i =>
    obtain ⟨hi, h1, h2⟩ := List.findIdx?_eq_some_iff_getElem.1 hf
    left
    refine ⟨i, hi, rfl, ?_, by simpa using h1⟩
    rw [show R.G.find? (fun g => g.a.no == k) = some R.G[i] from List.find?_eq_some_iff_getElem.2 ⟨h1, i, hi, rfl, fun j hj => by simpa using h2 j hj⟩]
    rfl
  | none =>
    right
    refine ⟨rfl, ?_⟩
    rw [List.findIdx?_eq_none_iff] at hf
    rw [show R.G.find? (fun g => g.a.no == k) = none from List.find?_eq_none.2 (fun g hg => by simpa using hf g hg)]
    rfl
/-- a node's cells. -/
structure NdC (w : World) (g o : Nat) (a : An) (ea : Option Addr) (el ec : Nat) : Prop where
  c0 : w.cell? ⟨g, o, none⟩ = some (.int .i64 a.no)
  c1 : w.cell? ⟨g, o + 1, none⟩ = some (.int .i64 a.dev)
  c2 : w.cell? ⟨g, o + 2, none⟩ = some (.int .i64 a.kind)
  c3 : w.cell? ⟨g, o + 3, none⟩ = some (.int .i64 a.mode)
  c4 : w.cell? ⟨g, o + 4, none⟩ = some (.int .i64 a.uid)
  c5 : w.cell? ⟨g, o + 5, none⟩ = some (.int .i64 a.gid)
  c6 : w.cell? ⟨g, o + 6, none⟩ = some (.int .i64 a.mtime)
  c7 : w.cell? ⟨g, o + 7, none⟩ = some (.int .i64 a.ctime)
  c8 : w.cell? ⟨g, o + 8, none⟩ = some (.int .i64 a.links)
  c9 : w.cell? ⟨g, o + 9, none⟩ = some (.int .i64 a.up)
  c10 : w.cell? ⟨g, o + 10, none⟩ = some (.string a.data)
  c11 : w.cell? ⟨g, o + 11, none⟩ = some (.slice ea el ec)
theorem RfAt.nodeF (h : RfAt w pf R S) (hn : 0 < R.G.length) : ∃ g cap, R.nv = .slice (some ⟨g, 0, none⟩) R.G.length cap ∧ R.G.length ≤ cap ∧ cap ≤ 9223372036854775807 ∧ g < w.heap.size ∧
    (∀ (i : Nat) (hi : i < R.G.length), NdC w g (i * 12) R.G[i].a R.G[i].ea R.G[i].el R.G[i].ec) ∧ (∀ i, w.frozen? ⟨g, i, none⟩ = false) ∧ ∃ cur, Blk w g cur 86 := by
  obtain ⟨g, cap, hv, -, h1, h2, -, h3, h4, cur, h5⟩ := row_cells (by omega) Gn.cs_len h.nds hn
  exact ⟨g, cap, hv, h1, h2, h3, fun i hi => ⟨h4 i hi 0 (by omega), h4 i hi 1 (by omega), h4 i hi 2 (by omega), h4 i hi 3 (by omega), h4 i hi 4 (by omega), h4 i hi 5 (by omega), h4 i hi 6 (by omega), h4 i hi 7 (by omega), h4 i hi 8 (by omega), h4 i hi 9 (by omega), h4 i hi 10 (by omega), h4 i hi 11 (by omega)⟩, h5.frozen, cur, h5⟩
theorem RfAt.devF (h : RfAt w pf R S) (hd : 0 < S.ds.length) : ∃ g cap, R.dv = .slice (some ⟨g, 0, none⟩) S.ds.length cap ∧ S.ds.length ≤ cap ∧ cap ≤ 9223372036854775807 ∧ g < w.heap.size ∧
    (∀ (i : Nat) (hi : i < S.ds.length), DvC w g (i * 6) S.ds[i]) ∧ (∀ i, w.frozen? ⟨g, i, none⟩ = false) ∧ ∃ cur, Blk w g cur 149 := by
  obtain ⟨g, cap, hv, -, h1, h2, -, h3, h4, cur, h5⟩ := row_cells (by omega) Dv.cs_len h.devs hd
  exact ⟨g, cap, hv, h1, h2, h3, fun i hi => ⟨h4 i hi 0 (by omega), h4 i hi 1 (by omega), h4 i hi 2 (by omega), h4 i hi 3 (by omega), h4 i hi 4 (by omega), h4 i hi 5 (by omega)⟩, h5.frozen, cur, h5⟩
/-- a slice of either, as it stands. -/
theorem RfAt.nform (h : RfAt w pf R S) : ∃ a c, R.nv = .slice a R.G.length c ∧ R.G.length ≤ c ∧ c ≤ 9223372036854775807 := by
  obtain ⟨a, c, h1, h2, h3, -⟩ := own_form h.nds
  exact ⟨a, c, h1, h2, h3⟩
theorem RfAt.dform (h : RfAt w pf R S) : ∃ a c, R.dv = .slice a S.ds.length c ∧ S.ds.length ≤ c ∧ c ≤ 9223372036854775807 := by
  obtain ⟨a, c, h1, h2, h3, -⟩ := own_form h.devs
  exact ⟨a, c, h1, h2, h3⟩
end

/-- a number's node; the empty one, if it is not there. -/
def Fs.getZ (S : Fs) (k : Int) : An := (S.get k).getD an0
theorem getZ_some {S : Fs} {k : Int} {a : An} (h : S.get k = some a) : S.getZ k = a := by unfold Fs.getZ; rw [h]; rfl
theorem getZ_none {S : Fs} {k : Int} (h : S.get k = none) : S.getZ k = an0 := by unfold Fs.getZ; rw [h]; rfl
end Go.Proofs.YtaojpbgaengdpaaGreatDoor

/- The reference's tree (layer 14): At, Get. -/
namespace Go.Proofs.YtaojpbgaengdpaaGreatDoor

open Go.RowKit

section

variable {w w' : World} {pf : Nat} {R : Rf} {S : Fs}

set_option maxRecDepth 100000 in
set_option maxHeartbeats 1000000 in
theorem rat_any (h : RfAt w pf R S) (no : Int) :
    Calls Tryz.prog 86 #[.pointer (some ⟨pf, 0, none⟩), .int .i64 no] w fun e w' => e = .returned (.int .i64 (placeN R.G no)) ∧ Below w.heap.size w w' := by
  have HW := Lib.hid h
  obtain ⟨na, nc, hnv, hn1, hn2⟩ := h.nform
  have HNv := Lib.hid hnv
  have HY := Lib.hid (fun i (hi : i < R.G.length) => placeN_yes (G := R.G) (no := no) hi)
  have HN := Lib.hid (placeN_no (G := R.G) (no := no))
  generalize placeN R.G no = out at HY HN ⊢
  obtain ⟨n, hn⟩ : ∃ n, R.G.length = n := ⟨_, rfl⟩
  have HNn := Lib.hid hn
  rw [hn] at hnv hn1
  obtain ⟨pc, -, pz⟩ := h.blk.facts
  rw [hnv] at pc
  clear h hnv hn
  go_enter Tryz.func86, Tryz.ntmps86
  go_wp2_with fail
  go_loopw [5] (fun t5 wr => ∃ k : Nat, k ≤ n ∧ t5 = .int .i64 k ∧ (∀ j (hj : j < R.G.length), j < k → R.G[j].a.no ≠ no) ∧ Below w.heap.size w wr) (fun t5 _ => n - (intOf t5).toNat)
  case atStart => exact ⟨0, Nat.zero_le _, rfl, fun j _ h => absurd h (Nat.not_lt_zero _), Below.refl _ _⟩
  case round =>
    obtain ⟨k, hk, rfl, hno, hb⟩ := hrel
    have HNo := Lib.hid hno
    have HB := Lib.hid hb
    have pc2 := fun i => (hb.cell (p := ⟨pf, i, none⟩) pz).trans (pc i)
    clear hno
    by_cases hlt : k < n
    · have hkl : k < R.G.length := by rw [HNn.out]; exact hlt
      obtain ⟨g, cap, hnv, -, -, hg, hc, -, -⟩ := (HW.out.keep hb).nodeF (by omega)
      have he := HNv.out.symm.trans hnv
      injection he with he1 he2 he3
      subst he1
      have c0 := (hc k hkl).c0
      have HYk := Lib.hid (HY.out k hkl)
      clear hc hnv hb he2 he3
      by_cases hq : R.G[k].a.no = no
      · have HR := Lib.hid (HYk.out hq (fun j hj hjk => HNo.out j hj hjk))
        have hqb : (R.G[k].a.no == no) = true := by simpa using hq
        generalize R.G[k].a.no = x at c0 hqb
        clear hq
        go_wp2_with fail
        go_ret
        exact ⟨by rw [HR.out]; rfl, HB.out⟩
      · have hqb : (R.G[k].a.no == no) = false := by simpa using hq
        have HNo2 := Lib.hid (show ∀ j (hj : j < R.G.length), j < k + 1 → R.G[j].a.no ≠ no from fun j hj hjk => by
          by_cases e : j = k
          · subst e; exact hq
          · exact HNo.out j hj (by omega))
        generalize R.G[k].a.no = x at c0 hqb
        clear hq
        go_wp2_with fail
        go_roundw
        case rel => exact ⟨k + 1, by omega, by go_num, HNo2.out, HB.out⟩
        case measure => simp [intOf]; omega
    · obtain rfl : k = n := by omega
      have HR := Lib.hid (HN.out (fun j hj => HNo.out j hj (by rw [← HNn.out]; exact hj)))
      clear hb
      go_wp2_with fail
      go_ret
      exact ⟨by rw [HR.out]; rfl, HB.out⟩
theorem rget_results {tmps : Array Value} {W : World} {B : Nat} {a : An} {ea : Option Addr} {el ec : Nat} (hb : Blk W B #[.int .i64 a.no, .int .i64 a.dev, .int .i64 a.kind, .int .i64 a.mode, .int .i64 a.uid, .int .i64 a.gid, .int .i64 a.mtime, .int .i64 a.ctime, .int .i64 a.links, .int .i64 a.up, .string a.data, .slice ea el ec] 86) (h4 : tmps.getD 4 undef = .pointer (some ⟨B, 0, none⟩)) :
    (results Tryz.f44 tmps).run Tryz.prog W = .ok (a.v ea el ec) W := by
  obtain ⟨q0, q1, q2, q3, q4, q5, q6, q7, q8, q9, q10, q11⟩ := hb.cells12
  rw [Array.getD_eq_getD_getElem?] at h4
  simp [results, Tryz.results44, go_sem, h4, q0, q1, q2, q3, q4, q5, q6, q7, q8, q9, q10, q11, An.v]
set_option maxRecDepth 100000 in
set_option maxHeartbeats 1000000 in
/-- Get, where the node is there. -/
theorem rget_at (h : RfAt w pf R S) {k : Int} {i : Nat} (hi : i < R.G.length) (hp : placeN R.G k = i) :
    Calls Tryz.prog 44 #[.pointer (some ⟨pf, 0, none⟩), .int .i64 k] w fun e w' => e = .returned (R.G[i].a.v R.G[i].ea R.G[i].el R.G[i].ec) ∧ Below w.heap.size w w' := by
  have HAt := Lib.hid (rat_any (h.keep ((Below.refl _ w).alloc (Nat.le_refl _) (.cells #[.int .i64 0, .int .i64 0, .int .i64 0, .int .i64 0, .int .i64 0, .int .i64 0, .int .i64 0, .int .i64 0, .int .i64 0, .int .i64 0, .string ByteArray.empty, .slice none 0 0] 86))) k)
  rw [hp] at HAt
  obtain ⟨na, nc, hnv, hn1, hn2⟩ := h.nform
  obtain ⟨g, cap, hnv, -, -, hgl, hc, -, -⟩ := h.nodeF (by omega)
  obtain ⟨c0, c1, c2, c3, c4, c5, c6, c7, c8, c9, c10, c11⟩ := hc i hi
  obtain ⟨pc, -, pz⟩ := h.blk.facts
  rw [hnv] at pc
  obtain ⟨n, hn⟩ : ∃ n, R.G.length = n := ⟨_, rfl⟩
  rw [hn] at pc hn1
  have hin : i < n := by omega
  have hb0 := balloc (Below.refl w.heap.size w) (.cells #[.int .i64 0, .int .i64 0, .int .i64 0, .int .i64 0, .int .i64 0, .int .i64 0, .int .i64 0, .int .i64 0, .int .i64 0, .int .i64 0, .string ByteArray.empty, .slice none 0 0] 86)
  have hq0 := Blk.new w #[.int .i64 0, .int .i64 0, .int .i64 0, .int .i64 0, .int .i64 0, .int .i64 0, .int .i64 0, .int .i64 0, .int .i64 0, .int .i64 0, .string ByteArray.empty, .slice none 0 0] 86
  unfold An.v
  generalize R.G[i].a = a at *
  generalize R.G[i].ea = ea at *
  generalize R.G[i].el = el at *
  generalize R.G[i].ec = ec at *
  have HC := Lib.hid (fun w1 (hb : Below w.heap.size w w1) => And.intro (hb.cell (p := ⟨g, i * 12, none⟩) hgl) (fun j => hb.cell (p := ⟨g, i * 12 + j, none⟩) hgl))
  have HQ0 := Lib.hid hq0
  have HB0 := Lib.hid hb0
  clear h hnv hc hi hn hp hq0 hb0
  go_enter Tryz.func44, Tryz.ntmps44
  go_wp2_with fail
  refine HAt.out.mono ?_
  rintro e w1 ⟨rfl, hb1⟩
  have hq1 := HQ0.out.keep hb1
  have hb2 := bnext HB0.out hb1
  have HQ1 := Lib.hid hq1
  have HB2 := Lib.hid hb2
  obtain ⟨q0, qf, qz⟩ := hq1.facts
  have pc2 := fun i => (hb2.cell (p := ⟨pf, i, none⟩) pz).trans (pc i)
  obtain ⟨d0, dd⟩ := HC.out w1 hb2
  rw [← d0] at c0
  rw [← dd 1] at c1
  rw [← dd 2] at c2
  rw [← dd 3] at c3
  rw [← dd 4] at c4
  rw [← dd 5] at c5
  rw [← dd 6] at c6
  rw [← dd 7] at c7
  rw [← dd 8] at c8
  rw [← dd 9] at c9
  rw [← dd 10] at c10
  rw [← dd 11] at c11
  clear hq1 hb1 hb2 d0 dd pc
  go_wp2_with fail
  exact bodyPost_ret (rget_results (a := a) (ea := ea) (el := el) (ec := ec) HQ1.out.set12 rfl) rfl ⟨rfl, below_set12 HB2.out (Nat.le_refl _)⟩
/-- the node, and what lies beside it. -/
theorem rget_fix (h : RfAt w pf R S) {k : Int} {a : An} (hg : S.get k = some a) : ∃ ea el ec, EntsAt w ea el ec a.ents ∧ ∀ w1, Below w.heap.size w w1 →
    Calls Tryz.prog 44 #[.pointer (some ⟨pf, 0, none⟩), .int .i64 k] w1 fun e w' => e = .returned (a.v ea el ec) ∧ Below w1.heap.size w1 w' := by
  rcases place_get h k with ⟨i, hi, hp, hg2, -⟩ | ⟨-, hg2⟩
  · rw [hg] at hg2
    injection hg2 with hg2
    subst hg2
    exact ⟨R.G[i].ea, R.G[i].el, R.G[i].ec, h.ents _ (List.getElem_mem hi), fun w1 hb => rget_at (h.keep hb) hi hp⟩
  · rw [hg] at hg2; cases hg2
theorem rget_yes (h : RfAt w pf R S) {k : Int} {a : An} (hg : S.get k = some a) : ∃ ea el ec, EntsAt w ea el ec a.ents ∧
    Calls Tryz.prog 44 #[.pointer (some ⟨pf, 0, none⟩), .int .i64 k] w fun e w' => e = .returned (a.v ea el ec) ∧ Below w.heap.size w w' := by
  obtain ⟨ea, el, ec, he, hG⟩ := rget_fix h hg
  exact ⟨ea, el, ec, he, hG w (Below.refl _ _)⟩
set_option maxRecDepth 100000 in
set_option maxHeartbeats 1000000 in
theorem rget_no (h : RfAt w pf R S) {k : Int} (hg : S.get k = none) :
    Calls Tryz.prog 44 #[.pointer (some ⟨pf, 0, none⟩), .int .i64 k] w fun e w' => e = .returned (an0.v none 0 0) ∧ Below w.heap.size w w' := by
  rcases place_get h k with ⟨i, hi, hp, hg2, hno⟩ | ⟨hp, -⟩
  · rw [hg] at hg2; cases hg2
  · have HAt := Lib.hid (rat_any (h.keep ((Below.refl _ w).alloc (Nat.le_refl _) (.cells #[.int .i64 0, .int .i64 0, .int .i64 0, .int .i64 0, .int .i64 0, .int .i64 0, .int .i64 0, .int .i64 0, .int .i64 0, .int .i64 0, .string ByteArray.empty, .slice none 0 0] 86))) k)
    rw [hp] at HAt
    have HB0 := Lib.hid (balloc (Below.refl w.heap.size w) (.cells #[.int .i64 0, .int .i64 0, .int .i64 0, .int .i64 0, .int .i64 0, .int .i64 0, .int .i64 0, .int .i64 0, .int .i64 0, .int .i64 0, .string ByteArray.empty, .slice none 0 0] 86))
    have HQ0 := Lib.hid (Blk.new w #[.int .i64 0, .int .i64 0, .int .i64 0, .int .i64 0, .int .i64 0, .int .i64 0, .int .i64 0, .int .i64 0, .int .i64 0, .int .i64 0, .string ByteArray.empty, .slice none 0 0] 86)
    clear h hg hp
    go_enter Tryz.func44, Tryz.ntmps44
    go_wp2_with fail
    refine HAt.out.mono ?_
    rintro e w1 ⟨rfl, hb1⟩
    have hq1 := HQ0.out.keep hb1
    have HQ1 := Lib.hid hq1
    have HB2 := Lib.hid (bnext HB0.out hb1)
    obtain ⟨q0, qf, qz⟩ := hq1.facts
    clear hq1 hb1
    go_wp2_with fail
    exact bodyPost_ret (rget_results (a := an0) (ea := none) (el := 0) (ec := 0) HQ1.out.set12 rfl) rfl ⟨rfl, below_set12 HB2.out (Nat.le_refl _)⟩
end

end Go.Proofs.YtaojpbgaengdpaaGreatDoor
