/- Texts of the proof, part 10. -/
import Derived.Deep.LoopGhost
import Derived.Laws.CopyRow
import Derived.Laws.Externs
import Derived.Lib.Overlaps
import Derived.Lib.AppendZeros
import Derived.Lib.JoinLaws
import Derived.Deep.AppendSrc
import Derived.Lib.SliceRun
import Derived.Test.YtaojpbgaengdpaaGreatDoorDU9
import Derived.Test.YtaojpbgaengdpaaGreatDoorDU3
import Derived.Test.YtaojpbgaengdpaaGreatDoorDU4
import Derived.Test.YtaojpbgaengdpaaGreatDoorDU5
set_option linter.unusedVariables false
set_option linter.unusedSimpArgs false
/- How the program lays a tree of nodes in memory: entries, nodes in the table, mounts; what turns and what stays. -/
namespace Go.Proofs.YtaojpbgaengdpaaGreatDoor

open Go.RowKit

def entC (x : En) : List Value := [.string x.name, .int .i64 x.no]
theorem entC_len (x : En) : (entC x).length = 2 := rfl
def entQ (cs : List Value) (x : En) : Prop := cs = entC x
/-- entries, as they lie. -/
structure EntsAt (w : World) (a : Option Addr) (n c : Nat) (es : List En) : Prop where
  sl : SliceAt w 2 entQ a n c es
  blk : ∀ p, a = some p → ∃ b off cur, p = ⟨b, off, none⟩ ∧ w.heap[b]? = some (.cells cur 101 (0, 0))
theorem EntsAt.nil (w : World) : EntsAt w none 0 0 [] := ⟨⟨rfl, Nat.le_refl _, by omega, .inl rfl⟩, fun p h => by cases h⟩
theorem EntsAt.len {w : World} {a : Option Addr} {n c : Nat} {es : List En} (h : EntsAt w a n c es) : es.length = n := h.sl.1
/-- what is not laid for entries may turn. -/
theorem EntsAt.turn {w w' : World} {a : Option Addr} {n c : Nat} {es : List En} (h : EntsAt w a n c es) (ht : ∀ (b : Nat) (cur : Array Value), w.heap[b]? = some (.cells cur 101 (0, 0)) → w'.heap[b]? = w.heap[b]?) (hs : w.heap.size ≤ w'.heap.size) : EntsAt w' a n c es := by
  refine ⟨⟨h.sl.1, h.sl.2.1, h.sl.2.2.1, h.sl.2.2.2.imp id ?_⟩, fun p hp => ?_⟩
  · rintro ⟨b, off, rfl, hb, hel⟩
    obtain ⟨b', off', cur, e, hblk⟩ := h.blk _ rfl
    injection e with e1 e2
    subst e1 e2
    refine ⟨b, off, rfl, Nat.lt_of_lt_of_le hb hs, fun i hi => ?_⟩
    obtain ⟨cs, h1, h2, h3⟩ := hel i hi
    refine ⟨cs, h1, h2, fun j hj => ?_⟩
    rw [← h3 j hj]
    simp only [World.cell?, ht _ _ hblk]
  · obtain ⟨b, off, cur, e, hblk⟩ := h.blk p hp
    exact ⟨b, off, cur, e, (ht _ _ hblk).trans hblk⟩
theorem EntsAt.keep {w w' : World} {a : Option Addr} {n c : Nat} {es : List En} (h : EntsAt w a n c es) (hb : Below w.heap.size w w') : EntsAt w' a n c es :=
  h.turn (fun b cur hc => hb.block b (Array.getElem?_eq_some_iff.1 hc).1) hb.size
theorem EntsAt.keepB {w w' : World} {a : Option Addr} {n c N : Nat} {es : List En} (h : EntsAt w a n c es) (hb : Below N w w') (hN : w.heap.size ≤ N) : EntsAt w' a n c es :=
  h.turn (fun b cur hc => hb.block b (Nat.lt_of_lt_of_le (Array.getElem?_eq_some_iff.1 hc).1 hN)) hb.size
theorem EntsAt.cell {w : World} {b off n c : Nat} {es : List En} (h : EntsAt w (some ⟨b, off, none⟩) n c es) (k : Nat) (hk : k < es.length) :
    w.cell? ⟨b, off + k * 2, none⟩ = some (.string es[k].name) ∧ w.cell? ⟨b, off + k * 2 + 1, none⟩ = some (.int .i64 es[k].no) := by
  obtain ⟨hl, -, -, h0 | ⟨b', off', he, hb, hel⟩⟩ := h.sl
  · omega
  · injection he with he
    injection he with e1 e2
    subst e1 e2
    obtain ⟨cs, h1, h2, h3⟩ := hel k hk
    subst h2
    exact ⟨h3 0 (by rw [entC_len]; omega), h3 1 (by rw [entC_len]; omega)⟩
theorem EntsAt.some_of {w : World} {a : Option Addr} {n c : Nat} {es : List En} (h : EntsAt w a n c es) (hn : 0 < n) : ∃ b off, a = some ⟨b, off, none⟩ ∧ b < w.heap.size := by
  obtain ⟨-, -, -, h0 | ⟨b', off', he, hb, -⟩⟩ := h.sl
  · omega
  · exact ⟨b', off', he, hb⟩

/-- a node's value. -/
def An.v (a : An) (ea : Option Addr) (el ec : Nat) : Value := .agg #[.int .i64 a.no, .int .i64 a.dev, .int .i64 a.kind, .int .i64 a.mode, .int .i64 a.uid, .int .i64 a.gid, .int .i64 a.mtime, .int .i64 a.ctime, .int .i64 a.links, .int .i64 a.up, .string a.data, .slice ea el ec]
def An.nd (a : An) (ea : Option Addr) (el ec : Nat) : Nd := ⟨a.no, a.dev, a.kind, a.mode, a.uid, a.gid, a.mtime, a.ctime, a.links, a.up, a.data, ea, el, ec⟩
theorem nd_v (a : An) (ea : Option Addr) (el ec : Nat) : (a.nd ea el ec).v = a.v ea el ec := rfl
structure Gn where
  a : An
  ea : Option Addr
  el : Nat
  ec : Nat
  clk : Nat
def Gn.nd (g : Gn) : Nd := g.a.nd g.ea g.el g.ec
def Gn.e (g : Gn) : Nd × Nat := (g.nd, g.clk)
def Dv.cs (d : Dv) : List Value := [.int .i64 d.root, .int .i64 d.over, .int .i64 d.b, .int .i64 d.n, .int .i64 d.mb, .int .i64 d.mn]
theorem Dv.cs_len (d : Dv) : d.cs.length = 6 := rfl
/-- where a world lies. -/
structure Rp where
  pt : Nat
  pm : Nat
  dv : Value
  G : List Gn
  clk : Nat
/-- the blocks that its methods write. -/
def Rp.F (R : Rp) (pw : Nat) (k : Nat) : Prop := k = pw ∨ k = R.pt ∨ k = R.pm ∨ R.dv.ownBlock = some k
/-- the tree S lies at pw, as R says. -/
structure WdAt (w : World) (pw : Nat) (R : Rp) (S : Fs) : Prop where
  blk : Blk w pw #[.pointer (some ⟨R.pt, 0, none⟩), R.dv] 92
  tab : Tab w R.pt R.pm S.last (R.G.map Gn.e) R.clk
  devs : w.ownsRow 0 146 6 R.dv S.ds.length (S.ds.flatMap Dv.cs)
  ns : S.ns = R.G.map (·.a)
  ents : ∀ g ∈ R.G, EntsAt w g.ea g.el g.ec g.a.ents
/-- from one world to the next one only such blocks have turned, and what it has more of them is new. -/
structure Stp (F F' : Nat → Prop) (w w' : World) : Prop where
  mod : Mod F w w'
  new : ∀ k, F' k → F k ∨ w.heap.size ≤ k
theorem Stp.refl (F : Nat → Prop) (w : World) : Stp F F w w := ⟨Mod.refl _ _, fun _ h => .inl h⟩
theorem Stp.of_below {F : Nat → Prop} {w w' : World} (h : Below w.heap.size w w') : Stp F F w w' := ⟨Mod.of_below h, fun _ h => .inl h⟩
theorem Stp.of_mod {F : Nat → Prop} {w w' : World} (h : Mod F w w') : Stp F F w w' := ⟨h, fun _ h => .inl h⟩
theorem Stp.trans {F F' F'' : Nat → Prop} {w w' w'' : World} (h : Stp F F' w w') (k : Stp F' F'' w' w'') : Stp F F'' w w'' :=
  ⟨⟨k.mod.os.trans h.mod.os, k.mod.tape.trans h.mod.tape, k.mod.output.trans h.mod.output, Nat.le_trans h.mod.size k.mod.size, fun i hi hs =>
      (k.mod.block i (Nat.lt_of_lt_of_le hi h.mod.size) (fun h' => (h.new i h').elim hs (fun hlt => by omega))).trans (h.mod.block i hi hs)⟩,
    fun i hi => (k.new i hi).elim (fun h' => h.new i h') (fun hlt => .inr (Nat.le_trans h.mod.size hlt))⟩
theorem Stp.below {F F' : Nat → Prop} {w w' : World} {N : Nat} (h : Stp F F' w w') (hF : ∀ k, F k → N ≤ k) (hN : N ≤ w.heap.size) : Below N w w' := h.mod.below hF hN
theorem Stp.above {F F' : Nat → Prop} {w w' : World} {N : Nat} (h : Stp F F' w w') (hF : ∀ k, F k → N ≤ k) (hN : N ≤ w.heap.size) : ∀ k, F' k → N ≤ k :=
  fun k hk => (h.new k hk).elim (hF k) (fun h' => Nat.le_trans hN h')
/-- such blocks are of these kinds. -/
def wdKind (o : Obj) : Bool := match o with
  | .cells _ t _ => t == 92 || t == 142 || t == 146
  | .map _ _ => true
  | _ => false
section

variable {w w' : World} {pw : Nat} {R : Rp} {S : Fs}

theorem WdAt.kind (h : WdAt w pw R S) {k : Nat} (hk : R.F pw k) : ∃ o, w.heap[k]? = some o ∧ wdKind o = true := by
  rcases hk with rfl | rfl | rfl | hk
  · exact ⟨_, h.blk, rfl⟩
  · exact ⟨_, h.tab.blk, rfl⟩
  · exact ⟨_, h.tab.map, rfl⟩
  · rcases h.devs.2 with ⟨h1, -⟩ | ⟨g, cap, cur, h1, -, hg, -⟩
    · rw [h1] at hk; cases hk
    · rw [h1] at hk
      simp only [Value.ownBlock, Option.some.injEq] at hk
      subst hk
      exact ⟨_, hg, rfl⟩
theorem WdAt.lt (h : WdAt w pw R S) {k : Nat} (hk : R.F pw k) : k < w.heap.size := by
  obtain ⟨o, ho, -⟩ := h.kind hk
  exact (Array.getElem?_eq_some_iff.1 ho).1
/-- entries stay where only a world's own blocks turn. -/
theorem EntsAt.wd {a : Option Addr} {n c : Nat} {es : List En} (he : EntsAt w a n c es) (h : WdAt w pw R S) {F' : Nat → Prop} (hs : Stp (R.F pw) F' w w') : EntsAt w' a n c es :=
  he.turn (fun b cur hc => hs.mod.block b (Array.getElem?_eq_some_iff.1 hc).1 (fun hk => by
    obtain ⟨o, ho, hd⟩ := h.kind hk
    rw [hc] at ho
    injection ho with ho
    subst ho
    rw [show wdKind (.cells cur 101 (0, 0)) = false from rfl] at hd
    cases hd)) hs.mod.size
/-- a block of another kind stays. -/
theorem Blk.wd {B : Nat} {vs : Array Value} {T : TypeId} (hb : Blk w B vs T) (h : WdAt w pw R S) {F' : Nat → Prop} (hs : Stp (R.F pw) F' w w') (hT : wdKind (.cells #[] T (0, 0)) = false) : Blk w' B vs T :=
  hb.mod hs.mod (fun hk => by
    obtain ⟨o, ho, hd⟩ := h.kind hk
    unfold Blk at hb
    rw [hb] at ho
    injection ho with ho
    subst ho
    rw [show wdKind (.cells vs T (0, 0)) = wdKind (.cells #[] T (0, 0)) from rfl, hT] at hd
    cases hd)
theorem WdAt.turn (h : WdAt w pw R S) (ht : ∀ (k : Nat) (o : Obj), w.heap[k]? = some o → (wdKind o = true ∨ ∃ cur, o = .cells cur 101 (0, 0)) → w'.heap[k]? = w.heap[k]?) (hs : w.heap.size ≤ w'.heap.size) : WdAt w' pw R S where
  blk := (ht _ _ h.blk (.inl rfl)).trans h.blk
  tab := ⟨(ht _ _ h.tab.blk (.inl rfl)).trans h.tab.blk, (ht _ _ h.tab.map (.inl rfl)).trans h.tab.map, h.tab.once, h.tab.low⟩
  devs := ⟨h.devs.1, h.devs.2.imp id fun ⟨g, cap, cur, h1, h2, hg, h3⟩ => ⟨g, cap, cur, h1, h2, (ht _ _ hg (.inl rfl)).trans hg, h3⟩⟩
  ns := h.ns
  ents := fun g hg => (h.ents g hg).turn (fun b cur hc => ht _ _ hc (.inr ⟨cur, rfl⟩)) hs
theorem WdAt.keep (h : WdAt w pw R S) (hb : Below w.heap.size w w') : WdAt w' pw R S :=
  h.turn (fun k o ho _ => hb.block k (Array.getElem?_eq_some_iff.1 ho).1) hb.size
/-- blocks of other kinds may turn. -/
theorem WdAt.mod (h : WdAt w pw R S) {F : Nat → Prop} (hm : Mod F w w') (hF : ∀ (k : Nat) (o : Obj), F k → w.heap[k]? = some o → wdKind o = false ∧ ∀ cur, o ≠ .cells cur 101 (0, 0)) : WdAt w' pw R S :=
  h.turn (fun k o ho hk => hm.block k (Array.getElem?_eq_some_iff.1 ho).1 (fun hf => by
    obtain ⟨h1, h2⟩ := hF k o hf ho
    rcases hk with hk | ⟨cur, hk⟩
    · rw [h1] at hk; cases hk
    · exact h2 cur hk)) hm.size
theorem findNd_G (G : List Gn) (k : Int) : findNd (G.map Gn.e) k = (G.find? (fun g => g.a.no == k)).map Gn.nd := by
  unfold findNd
  rw [List.find?_map]
  have : (fun x : Nd × Nat => x.1.no == k) ∘ Gn.e = fun g : Gn => g.a.no == k := rfl
  rw [this, Option.map_map]
  rfl
theorem get_G (h : WdAt w pw R S) (k : Int) : S.get k = (R.G.find? (fun g => g.a.no == k)).map (·.a) := by
  unfold Fs.get
  rw [h.ns, List.find?_map]
  rfl
end

end Go.Proofs.YtaojpbgaengdpaaGreatDoor

/- Names in a directory (layer 11): how they are held against each other; where a name is, or would be. -/
namespace Go.Proofs.YtaojpbgaengdpaaGreatDoor

open Go.RowKit

def cmpB (a b : ByteArray) : Int := if ltB a b = true then -1 else if ltB b a = true then 1 else 0
theorem cmpB_lt (a b : ByteArray) : (cmpB a b < 0) = (ltB a b = true) := by
  unfold cmpB
  cases h : ltB a b
  · simp; split <;> omega
  · simp
theorem cmpB_eq (a b : ByteArray) : (cmpB a b = 0) = (a = b) := by
  unfold cmpB
  cases h : ltB a b
  · cases k : ltB b a
    · simp [ltB_total h k]
    · simp [(ltB_ne k).symm]
  · simp [ltB_ne h]

set_option maxHeartbeats 400000 in
theorem nan_any (s : ByteArray) (w : World) :
    Calls Tryz.prog 191 #[.string s] w fun e w' => e = .returned (.bool false) ∧ w = w' := by
  go_enter Tryz.func191, Tryz.ntmps191
  go_wp2
  go_ret
  exact ⟨rfl, rfl⟩

set_option maxHeartbeats 400000 in
theorem compare_any (a b : ByteArray) (w : World) :
    Calls Tryz.prog 176 #[.string a, .string b] w fun e w' => e = .returned (.int .i64 (cmpB a b)) ∧ w = w' := by
  unfold cmpB
  cases h : ltB a b
  · cases k : ltB b a
    · obtain rfl : a = b := ltB_total h k
      rw [← ltB_mk] at h
      clear k
      go_enter Tryz.func176, Tryz.ntmps176
      go_wp2
      go_ret
      exact ⟨rfl, rfl⟩
    · have hne : ¬ a.toList = b.toList := fun e => by
        rw [ByteArray.toList_eq, ByteArray.toList_eq] at e
        rw [ba_eq e, ltB_irrefl] at k
        cases k
      have hq : (a.toList == b.toList) = false := by simpa using hne
      rw [← ltB_mk] at h
      clear k
      go_enter Tryz.func176, Tryz.ntmps176
      go_wp2
      go_ret
      exact ⟨rfl, rfl⟩
  · rw [← ltB_mk] at h
    go_enter Tryz.func176, Tryz.ntmps176
    go_wp2
    go_ret
    exact ⟨rfl, rfl⟩

set_option maxHeartbeats 400000 in
theorem by_any (x : En) (n : ByteArray) (w : World) :
    Calls Tryz.prog 160 #[.agg #[.string x.name, .int .i64 x.no], .string n] w fun e w' => e = .returned (.int .i64 (cmpB x.name n)) ∧ Below w.heap.size w w' := by
  go_enter Tryz.func160, Tryz.ntmps160
  go_wp2_with (go_at_call 176; refine (compare_any _ _ _).mono ?_; rintro e w1 ⟨rfl, rfl⟩)
  go_ret
  exact ⟨rfl, by go_grown⟩
end Go.Proofs.YtaojpbgaengdpaaGreatDoor

/- Where a name is, or would be: slices.BinarySearchFunc over names in a directory. -/
namespace Go.Proofs.YtaojpbgaengdpaaGreatDoor

open Go.RowKit

def hasE (es : List En) (s : ByteArray) : Bool := (es.find? (fun x => decide (x.name = s))).isSome
set_option maxRecDepth 100000 in
set_option maxHeartbeats 1000000 in
theorem search_any (es : List En) (a : Option Addr) (n c : Nat) (s : ByteArray) (w : World) (he : EntsAt w a n c es) (hr : Rise es) (hn : n ≤ 1000000) :
    Calls Tryz.prog 159 #[.slice a n c, .string s, .func (.func 160) #[] #[]] w fun e w' => e = .returned (.tuple #[.int .i64 (entAt es s), .bool (hasE es s)]) ∧ Below w.heap.size w w' := by
  have hl := he.len
  have HR := Lib.hid hr
  have HE := Lib.hid he
  have hat := entAt_le es s
  clear hr he
  obtain ⟨A, hA⟩ : ∃ A, entAt es s = A := ⟨_, rfl⟩
  have HA := Lib.hid hA
  rw [hA] at hat ⊢
  clear hA
  go_enter Tryz.func159, Tryz.ntmps159
  go_wp2_with fail
  go_loopw [9, 10] (fun i j wr => ∃ lo hi : Nat, lo ≤ A ∧ A ≤ hi ∧ hi ≤ n ∧ i = .int .i64 lo ∧ j = .int .i64 hi ∧ Below w.heap.size w wr) (fun i j _ => (intOf j - intOf i).toNat)
  case atStart => exact ⟨0, n, by omega, by omega, by omega, rfl, rfl, Below.refl _ _⟩
  case round =>
    obtain ⟨lo, hi, h1, h2, h3, rfl, rfl, hB⟩ := hrel
    by_cases hlt : lo < hi
    · obtain ⟨b, off, rfl, hb⟩ := HE.out.some_of (by omega)
      obtain ⟨k, hk⟩ : ∃ k : Nat, (lo + hi) / 2 = k := ⟨_, rfl⟩
      have hkl : k < es.length := by omega
      obtain ⟨c1, c2⟩ := (HE.out.keep hB).cell k hkl
      obtain ⟨x, hx⟩ : ∃ x, es[k] = x := ⟨_, rfl⟩
      rw [hx] at c1 c2
      have hcv : (cmpB x.name s < 0) = (k < A) := by
        rw [cmpB_lt, ← hx, rise_lt HR.out s k hkl, HA.out]
        simp
      by_cases hkA : k < A
      · have hneg : cmpB x.name s < 0 := by rw [hcv]; exact hkA
        clear hcv hx
        go_wp2_with fail
        refine (by_any x s _).mono ?_
        rintro e w1 ⟨rfl, hb1⟩
        go_wp2_with fail
        go_roundw
        case rel => exact ⟨k + 1, hi, by omega, by omega, h3, by go_num, rfl, bnext hB hb1⟩
        case measure => simp [intOf]; omega
      · have hneg : ¬ cmpB x.name s < 0 := by rw [hcv]; exact hkA
        clear hcv hx
        go_wp2_with fail
        refine (by_any x s _).mono ?_
        rintro e w1 ⟨rfl, hb1⟩
        go_wp2_with fail
        go_roundw
        case rel => exact ⟨lo, k, by omega, by omega, by omega, rfl, by rw [show ((lo : Int) + (hi : Int)) / 2 = (k : Int) by omega], bnext hB hb1⟩
        case measure => simp [intOf]; omega
    · obtain rfl : lo = A := by omega
      by_cases hAn : lo < n
      · obtain ⟨b, off, rfl, hb⟩ := HE.out.some_of (by omega)
        have hkl : lo < es.length := by omega
        obtain ⟨c1, c2⟩ := (HE.out.keep hB).cell lo hkl
        obtain ⟨x, hx⟩ : ∃ x, es[lo] = x := ⟨_, rfl⟩
        rw [hx] at c1 c2
        by_cases hxs : x.name = s
        · have hz : cmpB x.name s = 0 := by rw [cmpB_eq]; exact hxs
          have HF := Lib.hid (show hasE es s = true by
            unfold hasE
            rw [find_at HR.out s, dif_pos (by rw [HA.out]; exact hkl), if_pos (by simp only [HA.out, hx]; exact hxs)]
            rfl)
          have Hz := Lib.hid hz
          clear hx hxs hz
          go_wp2_with fail
          refine (by_any x s _).mono ?_
          rw [Hz.out]
          rintro e w1 ⟨rfl, hb1⟩
          go_wp2_with fail
          go_ret2
          exact ⟨by rw [HF.out]; rfl, bnext hB hb1⟩
        · have hz : ¬ cmpB x.name s = 0 := by rw [cmpB_eq]; exact hxs
          have HF := Lib.hid (show hasE es s = false by
            unfold hasE
            rw [find_at HR.out s, dif_pos (by rw [HA.out]; exact hkl), if_neg (by simp only [HA.out, hx]; exact hxs)]
            rfl)
          have hz2 : (cmpB x.name s == 0) = false := by simpa using hz
          clear hx hxs hz
          go_wp2_with fail
          refine (by_any x s _).mono ?_
          rintro e w1 ⟨rfl, hb1⟩
          go_wp2_with fail
          go_ret2
          exact ⟨by rw [HF.out]; rfl, bnext hB hb1⟩
      · have HF := Lib.hid (show hasE es s = false by
          unfold hasE
          rw [find_at HR.out s, dif_neg (by rw [HA.out]; omega)]
          rfl)
        go_wp2_with fail
        go_ret2
        exact ⟨by rw [HF.out]; rfl, hB⟩

/-- what Find answers. -/
theorem has_find {es : List En} {s : ByteArray} (h : hasE es s = false) : entFind es s = 0 := by
  unfold hasE at h
  unfold entFind
  cases hf : es.find? (fun x => decide (x.name = s)) with
  | none => rfl
  | some x => rw [hf] at h; cases h
theorem at_find {es : List En} {s : ByteArray} (hr : Rise es) (h : hasE es s = true) : ∃ hk : entAt es s < es.length, entFind es s = es[entAt es s].no ∧ es[entAt es s].name = s := by
  unfold hasE at h
  unfold entFind
  rw [find_at hr s] at h ⊢
  split at h
  · rename_i hk
    split at h
    · rename_i hx
      refine ⟨hk, ?_, hx⟩
      rw [dif_pos hk, if_pos hx]
    · cases h
  · cases h
set_option maxRecDepth 100000 in
set_option maxHeartbeats 400000 in
theorem efind_any (es : List En) (a : Option Addr) (n c : Nat) (s : ByteArray) (w : World) (he : EntsAt w a n c es) (hr : Rise es) (hn : n ≤ 1000000) :
    Calls Tryz.prog 138 #[.slice a n c, .string s] w fun e w' => e = .returned (.int .i64 (entFind es s)) ∧ Below w.heap.size w w' := by
  have hl := he.len
  have HS := Lib.hid (search_any es a n c s w he hr hn)
  cases hh : hasE es s
  · rw [hh] at HS
    rw [has_find hh]
    go_enter Tryz.func138, Tryz.ntmps138
    go_wp2_with fail
    refine HS.out.mono ?_
    rintro e w1 ⟨rfl, hb1⟩
    go_wp2_with fail
    go_ret
    exact ⟨rfl, hb1⟩
  · rw [hh] at HS
    obtain ⟨hk, hf, -⟩ := at_find hr hh
    rw [hf]
    obtain ⟨b, off, rfl, hb⟩ := he.some_of (by omega)
    obtain ⟨A, hA⟩ : ∃ A, entAt es s = A := ⟨_, rfl⟩
    simp only [hA] at hk HS ⊢
    obtain ⟨x, hx⟩ : ∃ x, es[A] = x := ⟨_, rfl⟩
    rw [hx]
    have HE := Lib.hid he
    clear hf hA he hh
    go_enter Tryz.func138, Tryz.ntmps138
    go_wp2_with fail
    refine HS.out.mono ?_
    rintro e w1 ⟨rfl, hb1⟩
    obtain ⟨c1, c2⟩ := (HE.out.keep hb1).cell A hk
    rw [hx] at c1 c2
    go_wp2_with fail
    go_ret
    exact ⟨rfl, hb1⟩
end Go.Proofs.YtaojpbgaengdpaaGreatDoor

/- Slices of structs: a copy between rows, what a row of the call's own holds behind it. No program in sight. -/
namespace Go.Proofs.YtaojpbgaengdpaaGreatDoor

open Go.RowKit

section

variable {P : Program}

theorem run_copy_rowK (w : World) (dT sT ty elem : TypeId) (g o dLen dCap : Nat) (a : Addr) (sLen sCap : Nat) (cur : Array Value) (t : TypeId) (cs : List Value) (n sz : Nat)
    (hu : P.underlying dT = some (.slice elem)) (hs : (P.info? elem).map (·.size) = some sz)
    (hg : w.heap[g]? = some (.cells cur t (0, 0))) (hm : Nat.min sLen dLen = n) (hn : cs.length = n * sz)
    (hsrc : ∀ j v, cs[j]? = some v → w.cell? (a.add j) = some v) (hfit : o + cs.length ≤ cur.size) (h1 : ∀ v ∈ cs, v.oneCell' = true) :
    (Builtin.copy_ #[dT, sT] ty #[.slice (some ⟨g, o, none⟩) dLen dCap, .slice (some a) sLen sCap]).run P w =
      .ok (goInt n) (w.setRow g (cur.toList.take o ++ cs ++ cur.toList.drop (o + cs.length)).toArray) := by
  have hl := run_loadCells_list (P := P) w a cs hsrc
  have hst := run_storeCells_at P g o t cs 0 cur w hg (by simpa using hfit) h1
  cases hq : P.info? elem with
  | none => simp [hq] at hs
  | some i =>
    have hi : i.size = sz := by simpa [hq] using hs
    simp [Builtin.copy_, run_underlying hu, Builtin.lenOf, Builtin.firstCells, sizeOf, typeInfo, hq, hi, hm, ← hn, hl, hst]
/-- a copy whose run is known. -/
theorem wp_copy_run (w : World) {o : Oper} {a : Act} {K : Act → World → Prop} {Q : Exit → Act → World → Prop} (d s : Operand) (t t' : TypeId)
    (ho : o.op = .call { callee := .builtin .copy, args := #[d, s], argTypes := #[t, t'] }) (v u : Value) (hd : a.eval d = v) (hs : a.eval s = u) {v' : Value} {w' : World}
    (hr : (Builtin.copy_ #[t, t'] o.type #[v, u]).run P w = .ok v' w') (h : K (a.put o.dst v') w') : o.wp P a w K Q := by
  unfold Oper.wp execOp
  simp only [ho, resolve, invoke, builtin, Sem.run_bind, Sem.run_pure, Result.andThen_ok, List.map_toArray, List.map_cons, List.map_nil, hd, hs, hr]
  exact h
theorem wpList_copy_run (w : World) {ops : Array Oper} {rest : List Oper} {o : Oper} {a : Act} {Q : Exit → Act → World → Prop} (hgd : o.guard = none) (d s : Operand) (t t' : TypeId)
    (ho : o.op = .call { callee := .builtin .copy, args := #[d, s], argTypes := #[t, t'] }) (v u : Value) (hd : a.eval d = v) (hs : a.eval s = u) {v' : Value} {w' : World}
    (hr : (Builtin.copy_ #[t, t'] o.type #[v, u]).run P w = .ok v' w') (h : wpList P ops Q rest (a.put o.dst v') w') : wpList P ops Q (o :: rest) a w :=
  wpList_plain hgd fun _ hK => wp_copy_run w d s t t' ho v u hd hs hr (hK _ _ h)
theorem step_copy_run {ops : Array Oper} {o : Oper} {a : Act} {w : World} {K : Act → World → Prop} {Q : Exit → Act → World → Prop} {E : Prop}
    (hg : o.guard = none) (d x : Operand) (dT sT : TypeId) (hop : o.op = Op.call { callee := Callee.builtin Builtin.copy, args := #[d, x], argTypes := #[dT, sT] })
    (v u : Value) (hd : a.eval d = v) (hx : a.eval x = u) {v' : Value} {w' : World} (hr : (Builtin.copy_ #[dT, sT] o.type #[v, u]).run P w = .ok v' w') (hK : K (a.put o.dst v') w') :
    if Region.wanted o (yielded ops a.tmps) = true then Oper.wp P o a w K Q else E := by
  have hw : Region.wanted o (yielded ops a.tmps) = true := by simp [Region.wanted, hg]
  rw [if_pos hw]
  unfold Oper.wp
  simp [execOp, hop, resolve, invoke, builtin, hd, hx, hr, Result.andThen]
  exact hK
end

theorem setRow_blk {w : World} {g : Nat} {cur vs : Array Value} {T : TypeId} (h : Blk w g cur T) : Blk (w.setRow g vs) g vs T := setRow_heap w g cur vs T _ h
theorem setRow_mod (w : World) (g : Nat) (vs : Array Value) : Mod (fun k => k = g) w (w.setRow g vs) := by
  refine ⟨rfl, rfl, rfl, by simp [World.setRow], fun k hk hs => ?_⟩
  simp only [World.setRow]
  rw [Array.getElem?_modify, if_neg (fun e => hs e.symm)]
end Go.Proofs.YtaojpbgaengdpaaGreatDoor

/- slices.Clone and slices.Insert over names in a directory. -/
namespace Go.Proofs.YtaojpbgaengdpaaGreatDoor

open Go.RowKit

theorem ent_info : (Tryz.prog.info? 101).map (fun i => (i.zero, i.size, i.bytes)) = some (some (.agg #[.string ByteArray.empty, .int .i64 0]), 2, 24) := by kernel_rfl
theorem entC_one (es : List En) : ∀ u ∈ es.flatMap entC, u.oneCell' = true := by
  intro u hu
  obtain ⟨x, -, hx⟩ := List.mem_flatMap.1 hu
  simp [entC] at hx
  rcases hx with rfl | rfl <;> rfl
theorem EntsAt.news {w : World} {b off n c : Nat} {es : List En} (h : EntsAt w (some ⟨b, off, none⟩) n c es) : ∀ j u, (es.flatMap entC)[j]? = some u → w.cell? ((⟨b, off, none⟩ : Addr).add j) = some u := by
  intro j u hu
  have hlt : j < (es.flatMap entC).length := (List.getElem?_eq_some_iff.1 hu).1
  rw [flat_len entC_len] at hlt
  have hm := Nat.mod_lt j (show 0 < 2 by omega)
  have hdiv : j = j / 2 * 2 + j % 2 := by omega
  have hq : j / 2 < es.length := by omega
  have h1 := flat_get entC_len es (j / 2) (j % 2) hq hm
  rw [← hdiv, hu] at h1
  obtain ⟨c1, c2⟩ := h.cell (j / 2) hq
  rw [addr_add]
  rcases (show j % 2 = 0 ∨ j % 2 = 1 by omega) with hr | hr
  · rw [hr] at h1
    rw [show off + j = off + j / 2 * 2 by omega, c1]
    exact h1.symm
  · rw [hr] at h1
    rw [show off + j = off + j / 2 * 2 + 1 by omega, c2]
    exact h1.symm
/-- entries of the call's own. -/
def OE (w : World) (base : Nat) (v : Value) (es : List En) : Prop := w.ownsRow base 101 2 v es.length (es.flatMap entC)
theorem OE.at {w : World} {base c : Nat} {a : Option Addr} {es : List En} (h : OE w base (.slice a es.length c) es) : EntsAt w a es.length c es := by
  refine ⟨own_slice (R := entQ) (by omega) entC_len (fun _ => rfl) h, fun p hp => ?_⟩
  subst hp
  rcases h.2 with ⟨h1, -⟩ | ⟨g, cap, cur, h1, -, hg, -⟩
  · cases h1
  · injection h1 with h1
    injection h1 with h1
    exact ⟨g, 0, cur, h1, hg⟩
theorem OE.keep {w w' : World} {base : Nat} {v : Value} {es : List En} (h : OE w base v es) (hb : Below w.heap.size w w') : OE w' base v es := own_below h hb (Nat.le_refl _)

set_option maxRecDepth 100000 in
set_option maxHeartbeats 400000 in
theorem eclone_any (es : List En) (a : Option Addr) (n c : Nat) (w : World) (he : EntsAt w a n c es) (hn : n ≤ 1000000) :
    Calls Tryz.prog 163 #[.slice a n c] w fun e w' => (∃ a' c', e = .returned (.slice a' n c') ∧ OE w' w.heap.size (.slice a' n c') es) ∧ Below w.heap.size w w' := by
  have hl := he.len
  obtain ⟨i0, hi, hz0, hz1, hz2⟩ := info_parts ent_info
  have hq : ∀ (w : World) (r : Option Addr) (n c : Nat), (binOp .eql 84 (.slice r n c) (.slice none 0 0)).run Tryz.prog w = .ok (.bool r.isNone) w := fun w r n c => Lib.run_eql_slice_nil w _ _ r n c 0 0 Tryz.underlying84
  cases a with
  | none =>
    have hn0 : n = 0 := by
      rcases Nat.eq_zero_or_pos n with h | h
      · exact h
      · obtain ⟨b, off, h1, -⟩ := he.some_of h
        cases h1
    subst hn0
    obtain rfl : es = [] := List.eq_nil_of_length_eq_zero hl
    have H := Lib.hid (show OE w w.heap.size (.slice none 0 0) [] from World.ownsRow_nil _ _ _ _)
    clear he hl hi hz0 hz1 hz2
    go_enter Tryz.func163, Tryz.ntmps163
    go_wp2_with fail
    go_ret
    exact ⟨⟨none, 0, rfl, H.out⟩, Below.refl _ _⟩
  | some p =>
    obtain ⟨b, off, cur, rfl, hblk⟩ := he.blk p rfl
    have he2 := he.keep ((Below.refl _ w).alloc (Nat.le_refl _) (.cells #[] 101))
    have hrun : ∃ a' c' W, (Builtin.append_ #[84, 84] 84 #[.slice (some ⟨w.heap.size, 0, none⟩) 0 0, .slice (some ⟨b, off, none⟩) n c]).run Tryz.prog (w.alloc (.cells #[] 101)) = .ok (.slice a' n c') W ∧
        OE W w.heap.size (.slice a' n c') es ∧ Below w.heap.size w W := by
      obtain ⟨g, cap, W, h1, h2, h3, h4⟩ := step_app_any (84) Tryz.underlying84 hi hz0 hz1 hz2 rfl (by omega) (own_empty (base := w.heap.size) (sz := 2) (e := 101) w (Nat.le_refl _)) ⟨b, off, none⟩ n c (es.flatMap entC) (by rw [flat_len entC_len, hl]) he2.news (entC_one es) (by unfold maxLen; omega) (by omega) (by simp)
      refine ⟨some ⟨g, 0, none⟩, cap, W, ?_, ?_, ((Below.refl w.heap.size w).alloc (Nat.le_refl _) _).trans (h3.below (fun k hk => by omega) (by simp))⟩
      · rw [Nat.zero_add] at h1; exact h1
      · rw [Nat.zero_add, List.nil_append] at h2; unfold OE; rw [hl]; exact h2
    obtain ⟨a', c', W, hrun, h2, h3⟩ := hrun
    have H := Lib.hid (And.intro h2 h3)
    clear he he2 hblk h2 h3 hi hz0 hz1 hz2 hl
    go_enter Tryz.func163, Tryz.ntmps163
    go_wp2_with (at_builtin; refine wpList_app_run rfl rfl rfl rfl hrun ?_)
    go_ret
    exact ⟨⟨a', c', rfl, H.out.1⟩, H.out.2⟩
end Go.Proofs.YtaojpbgaengdpaaGreatDoor

/- Mounts (layer 14), what reads alone: none, Devs, Root, Over. -/
namespace Go.Proofs.YtaojpbgaengdpaaGreatDoor

open Go.RowKit

/-- a mount's cells. -/
structure DvC (w : World) (g o : Nat) (d : Dv) : Prop where
  c0 : w.cell? ⟨g, o, none⟩ = some (.int .i64 d.root)
  c1 : w.cell? ⟨g, o + 1, none⟩ = some (.int .i64 d.over)
  c2 : w.cell? ⟨g, o + 2, none⟩ = some (.int .i64 d.b)
  c3 : w.cell? ⟨g, o + 3, none⟩ = some (.int .i64 d.n)
  c4 : w.cell? ⟨g, o + 4, none⟩ = some (.int .i64 d.mb)
  c5 : w.cell? ⟨g, o + 5, none⟩ = some (.int .i64 d.mn)
def dvQ (cs : List Value) (d : Dv) : Prop := cs = d.cs
section

variable {w w' : World} {pw : Nat} {R : Rp} {S : Fs}

theorem WdAt.devF (h : WdAt w pw R S) (hd : 0 < S.ds.length) : ∃ g cap, R.dv = .slice (some ⟨g, 0, none⟩) S.ds.length cap ∧ S.ds.length ≤ cap ∧ cap ≤ 9223372036854775807 ∧ g < w.heap.size ∧
    (∀ (i : Nat) (hi : i < S.ds.length), DvC w g (i * 6) S.ds[i]) ∧ (∀ i, w.frozen? ⟨g, i, none⟩ = false) ∧ ∃ cur, Blk w g cur 146 := by
  have h0 := h.devs
  obtain ⟨a, cap, hv, hle, h63, hf⟩ := own_form h0
  rcases hf with ⟨-, h1, -⟩ | ⟨g, rfl, -, hg⟩
  · omega
  · rw [hv] at h0
    obtain ⟨-, -, -, h1 | ⟨b, off, he, hb, hel⟩⟩ := own_slice (R := dvQ) (by omega) Dv.cs_len (fun _ => rfl) h0
    · omega
    · injection he with he
      injection he with e1 e2
      subst e1 e2
      obtain ⟨cur, hcur⟩ : ∃ cur, Blk w g cur 146 := by
        rcases h0.2 with ⟨h1, -⟩ | ⟨g', cap', cur, h1, -, hg', -⟩
        · cases h1
        · injection h1 with h1
          injection h1 with h1
          injection h1 with h1
          subst h1
          exact ⟨cur, hg'⟩
      refine ⟨g, cap, hv, hle, h63, hg, fun i hi => ?_, hcur.frozen, cur, hcur⟩
      obtain ⟨cs, h2, h3, h4⟩ := hel i hi
      subst h3
      have e : ∀ j (hj : j < 6), w.cell? ⟨g, i * 6 + j, none⟩ = some (S.ds[i].cs[j]'(by rw [Dv.cs_len]; exact hj)) := fun j hj => by
        have := h4 j (by rw [Dv.cs_len]; exact hj)
        rw [Nat.zero_add] at this
        exact this
      exact ⟨e 0 (by omega), e 1 (by omega), e 2 (by omega), e 3 (by omega), e 4 (by omega), e 5 (by omega)⟩

set_option maxHeartbeats 400000 in
theorem wnone_any (h : WdAt w pw R S) (hd : 0 < S.ds.length) :
    Calls Tryz.prog 83 #[.pointer (some ⟨pw, 0, none⟩)] w fun e w' => e = .returned (.bool false) ∧ w = w' := by
  obtain ⟨g, cap, hv, -, -, -, -, -, -⟩ := h.devF hd
  obtain ⟨pc, -, -⟩ := h.blk.facts
  rw [hv] at pc
  have hz : ¬ ((S.ds.length : Int) = 0) := by omega
  have hz2 : ((S.ds.length : Int) == 0) = false := by simpa using hz
  generalize S.ds.length = n at pc hz hz2
  clear h hv hd
  go_enter Tryz.func83, Tryz.ntmps83
  go_wp2
  go_ret
  exact ⟨rfl, rfl⟩

set_option maxHeartbeats 400000 in
theorem wdevs_any (h : WdAt w pw R S) (hd : 0 < S.ds.length) :
    Calls Tryz.prog 129 #[.pointer (some ⟨pw, 0, none⟩)] w fun e w' => e = .returned (.int .i64 S.ds.length) ∧ w = w' := by
  have HN := Lib.hid (wnone_any h hd)
  obtain ⟨g, cap, hv, -, -, -, -, -, -⟩ := h.devF hd
  obtain ⟨pc, -, -⟩ := h.blk.facts
  rw [hv] at pc
  generalize S.ds.length = n at pc ⊢
  clear h hv hd
  go_enter Tryz.func129, Tryz.ntmps129
  go_wp2_with fail
  refine HN.out.mono ?_
  rintro e w1 ⟨rfl, rfl⟩
  go_wp2
  go_ret
  exact ⟨rfl, rfl⟩

set_option maxHeartbeats 400000 in
theorem wroot_any (h : WdAt w pw R S) (hd : 0 < S.ds.length) (d : Int) :
    Calls Tryz.prog 97 #[.pointer (some ⟨pw, 0, none⟩), .int .i64 d] w fun e w' => e = .returned (.int .i64 (S.root d)) ∧ w = w' := by
  have HN := Lib.hid (wnone_any h hd)
  obtain ⟨g, cap, hv, hle, h63, hg, hc, -, -⟩ := h.devF hd
  obtain ⟨pc, -, -⟩ := h.blk.facts
  rw [hv] at pc
  clear h hv
  by_cases h1 : 1 ≤ d
  · by_cases h2 : d ≤ S.ds.length
    · obtain ⟨k, rfl⟩ : ∃ k : Nat, d = (k : Int) + 1 := ⟨(d - 1).toNat, by omega⟩
      have hk : k < S.ds.length := by omega
      have hr : S.root ((k : Int) + 1) = S.ds[k].root := by
        unfold Fs.root
        rw [if_pos ⟨h1, h2⟩, show ((k : Int) + 1 - 1).toNat = k by omega, List.getElem?_eq_getElem hk]
      rw [hr]
      have hcc := (hc _ hk).c0
      clear hc hr
      generalize S.ds[k] = v at hcc ⊢
      generalize S.ds.length = n at pc hle h2 hk hd
      go_enter Tryz.func97, Tryz.ntmps97
      go_wp2_with fail
      refine HN.out.mono ?_
      rintro e w1 ⟨rfl, rfl⟩
      go_wp2
      go_ret
      exact ⟨rfl, rfl⟩
    · rw [root_no (by omega)]
      have h2' : (S.ds.length : Int) < d := by omega
      clear hc
      generalize S.ds.length = n at pc hle h2 h2' hd
      go_enter Tryz.func97, Tryz.ntmps97
      go_wp2_with fail
      refine HN.out.mono ?_
      rintro e w1 ⟨rfl, rfl⟩
      go_wp2
      go_ret
      exact ⟨rfl, rfl⟩
  · rw [root_no (by omega)]
    have h1' : d < 1 := by omega
    clear hc
    generalize S.ds.length = n at pc hle hd
    go_enter Tryz.func97, Tryz.ntmps97
    go_wp2_with fail
    refine HN.out.mono ?_
    rintro e w1 ⟨rfl, rfl⟩
    go_wp2
    go_ret
    exact ⟨rfl, rfl⟩
end

end Go.Proofs.YtaojpbgaengdpaaGreatDoor
