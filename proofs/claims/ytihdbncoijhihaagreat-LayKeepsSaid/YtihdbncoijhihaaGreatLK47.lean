/- Texts of the proof, part 47. -/
import Derived.Deep.CutBlock
import Derived.Deep.DeepCutAuto
import Derived.RegionTactic
import Derived.BigRegion
import Derived.Deep.QuietTactic
import Derived.BigQuiet
import Derived.WalkSmall
import Derived.WalkMore
import Derived.Deep.LoopGhost
import Derived.Test.YtihdbncoijhihaaGreatLK28
import Derived.Test.YtihdbncoijhihaaGreatLK14
import Derived.Test.YtihdbncoijhihaaGreatLK43
import Derived.Test.YtihdbncoijhihaaGreatLK20
import Derived.Test.YtihdbncoijhihaaGreatLK15
import Derived.Test.YtihdbncoijhihaaGreatLK11
import Derived.Test.YtihdbncoijhihaaGreatLK35
import Derived.Test.YtihdbncoijhihaaGreatLK1
import Derived.Test.YtihdbncoijhihaaGreatLK9
import Derived.Test.YtihdbncoijhihaaGreatLK3
set_option linter.unusedVariables false
set_option linter.unusedSimpArgs false
/- The tops of all mounts, gathered: the statement's `tops`. -/
namespace Go.Proofs.YtihdbncoijhihaaGreat

open Go.RowKit Go.Shelf

attribute [local go_sem] Oper.semAt_some

/-- numbers of the call's own. -/
def ONo (w : World) (base : Nat) (v : Value) (l : List Int) : Prop := w.ownsRow base 3 1 v l.length (l.map (Value.int .i64))
/-- texts of the call's own, with what turns. -/
theorem OS.appM {w : World} {base : Nat} {v : Value} {ls : List (List UInt8)} (h : OS w base v ls) (l : List UInt8) (hl : ls.length ≤ 1000000) (hb : base ≤ w.heap.size) :
    ∃ g cap W, (Builtin.append_ #[61, 61] 61 #[v, .slice (some ⟨w.heap.size, 0, none⟩) 1 1]).run Tryz.prog (w.alloc (.cells #[.string (str l)] 9)) = .ok (.slice (some ⟨g, 0, none⟩) (ls.length + 1) cap) W ∧
      OS W base (.slice (some ⟨g, 0, none⟩) (ls.length + 1) cap) (ls ++ [l]) ∧ Below base w W ∧ KeepsOthers w W ∧ Mod (fun k => v.ownBlock = some k) w W ∧ (v.ownBlock = some g ∨ w.heap.size ≤ g) := by
  obtain ⟨i0, hi, hz0, hz1, hz2⟩ := info_parts str_info
  have ho := World.ownsRow.alloc h (.cells #[.string (str l)] 9)
  obtain ⟨g, cap, W, h1, h2, h3, h4⟩ := step_app 61 Tryz.underlying61 hi hz0 hz1 hz2 rfl (by omega) ho ⟨w.heap.size, 0, none⟩ 1 1 [.string (str l)] rfl (World.news_of_block (Blk.new w #[.string (str l)] 9)) (by intro u hu; simp at hu; subst hu; rfl) (by omega) (by unfold maxLen; omega) (by omega) (by simp; omega)
  refine ⟨g, cap, W, h1, ?_, ?_, (KeepsOthers.alloc _ _).trans (keeps_mod1 h3 (fun k hk => by obtain ⟨-, cur, hc⟩ := own_obj1 ho hk; exact ⟨_, _, _, hc⟩)), (Mod.refl _ w).alloc _ |>.trans h3, h4.imp id (fun h => by rw [h]; simp)⟩
  · unfold OS
    rw [List.length_append, List.length_singleton, List.flatMap_append]
    exact h2
  · refine (((Below.refl base w).alloc hb _)).trans (h3.below (fun k hk => (own_obj1 ho hk).1) (by simp; omega))
def Fs.topNo (l : List (Int × ByteArray)) : List Int := l.map (·.1)
def Fs.topTx (l : List (Int × ByteArray)) : List (List UInt8) := l.map (fun x => x.2.data.toList)
/-- between two rounds. -/
structure TI (w : World) (B : Nat) (pre : List (Int × ByteArray)) (W : World) : Prop where
  a : ∃ va, Blk W w.heap.size #[va] 78 ∧ ONo W B va (Fs.topNo pre)
  b : ∃ vb, Blk W (w.heap.size + 1) #[vb] 61 ∧ OS W B vb (Fs.topTx pre)
  below : Below w.heap.size w W
end Go.Proofs.YtihdbncoijhihaaGreat

/- Chapter 29's example; how long a directory's path may be. -/
namespace Go.Proofs.YtihdbncoijhihaaGreat

open Go.RowKit Go.Shelf

attribute [local go_sem] Oper.semAt_some

def m29 : ByteArray := ByteArray.mk #[47, 109]
def x29 : ByteArray := ByteArray.mk #[47, 109, 47, 120]
def y29 : ByteArray := ByteArray.mk #[47, 109, 47, 46, 46, 47, 109, 47, 120]
def ms29 : List Mt := [⟨m29, 9, 9⟩]
def is29 : List It := [⟨x29, 2, 0, 0, 0, 0, ⟨#[]⟩⟩]
end Go.Proofs.YtihdbncoijhihaaGreat

/- How long a clean path is. -/
namespace Go.Proofs.YtihdbncoijhihaaGreat

open Go.RowKit

def wtL (l : List (List UInt8)) : Nat := (l.map fun p => p.length + 1).sum
end Go.Proofs.YtihdbncoijhihaaGreat

/- Rows, and entries, of a call's own. -/
namespace Go.Proofs.YtihdbncoijhihaaGreat

open Go.RowKit

def rwC (r : Rw) : List Value := [.string r.path, .int .i64 r.kind, .int .i64 r.mode, .int .i64 r.uid, .int .i64 r.gid, .int .i64 r.mtime, .int .i64 r.ctime, .int .i64 r.dev, .int .i64 r.first, .string r.data]
def rwQ (cs : List Value) (r : Rw) : Prop := cs = rwC r
theorem row_info : (Tryz.prog.info? 219).map (fun i => (i.zero, i.size, i.bytes)) = some (some (.agg #[.string ByteArray.empty, .int .i64 0, .int .i64 0, .int .i64 0, .int .i64 0, .int .i64 0, .int .i64 0, .int .i64 0, .int .i64 0, .string ByteArray.empty]), 10, 96) := by kernel_rfl
/-- rows of the call's own. -/
def OR (w : World) (base : Nat) (v : Value) (l : List Rw) : Prop := w.ownsRow base 219 10 v l.length (l.flatMap rwC)
theorem OR.nil (w : World) (base : Nat) : OR w base (.slice none 0 0) [] := ⟨rfl, .inl ⟨rfl, rfl⟩⟩
theorem own_keep {w w' : World} {base : Nat} {e : TypeId} {sz n : Nat} {v : Value} {xs : List Value} (h : w.ownsRow base e sz v n xs) (hb : Below w.heap.size w w') : w'.ownsRow base e sz v n xs := own_below h hb (Nat.le_refl _)
/-- rows of two kinds lie apart. -/
theorem own_apart {w : World} {base base' : Nat} {e e' : TypeId} {sz sz' n n' : Nat} {v v' : Value} {xs xs' : List Value} (h : w.ownsRow base e sz v n xs) (h' : w.ownsRow base' e' sz' v' n' xs') (he : e ≠ e') {k : Nat} (hk : v.ownBlock = some k) : v'.ownBlock ≠ some k := fun hk' => by
  obtain ⟨-, c1, h1⟩ := own_obj1 h hk
  obtain ⟨-, c2, h2⟩ := own_obj1 h' hk'
  rw [h1] at h2
  injection h2 with h2
  injection h2 with e1 e2 e3
  exact he e2
theorem own_ents {w : World} {base : Nat} {e : TypeId} {sz n : Nat} {v : Value} {xs : List Value} (h : w.ownsRow base e sz v n xs) (he : e ≠ 146) {w' : World} (hm : Mod (fun k => v.ownBlock = some k) w w') {a : Option Addr} {m c : Nat} {es : List En} (ht : EntsAt w a m c es) : EntsAt w' a m c es :=
  ht.turn (fun b cur hc => hm.block b (Array.getElem?_eq_some_iff.1 hc).1 (fun hk => by
    obtain ⟨-, c1, h1⟩ := own_obj1 h hk
    rw [h1] at hc
    injection hc with hc
    injection hc with e1 e2 e3
    exact he e2)) hm.size
theorem own_blk {w w' : World} {base : Nat} {e : TypeId} {sz n : Nat} {v : Value} {xs : List Value} (h : w.ownsRow base e sz v n xs) {T : TypeId} (he : e ≠ T) {B : Nat} {vs : Array Value} (hb : Blk w B vs T) (hm : Mod (fun k => v.ownBlock = some k) w w') : Blk w' B vs T :=
  hb.mod hm (fun hk => by
    obtain ⟨-, c1, h1⟩ := own_obj1 h hk
    unfold Blk at hb
    rw [h1] at hb
    injection hb with hb
    injection hb with e1 e2 e3
    exact he e2)
theorem OR.app {w : World} {base : Nat} {v : Value} {l : List Rw} (h : OR w base v l) (r : Rw) (hl : l.length ≤ 1000000) (hb : base ≤ w.heap.size) :
    ∃ g cap W, (Builtin.append_ #[59, 59] 59 #[v, .slice (some ⟨w.heap.size, 0, none⟩) 1 1]).run Tryz.prog (w.alloc (.cells (rwC r).toArray 219)) = .ok (.slice (some ⟨g, 0, none⟩) (l.length + 1) cap) W ∧
      OR W base (.slice (some ⟨g, 0, none⟩) (l.length + 1) cap) (l ++ [r]) ∧ Mod (fun j => v.ownBlock = some j) w W := by
  obtain ⟨i0, hi, hz0, hz1, hz2⟩ := info_parts row_info
  have ho := World.ownsRow.alloc h (.cells (rwC r).toArray 219)
  obtain ⟨g, cap, W, h1, h2, h3, h4⟩ := step_app 59 Tryz.underlying59 hi hz0 hz1 hz2 rfl (by omega) ho ⟨w.heap.size, 0, none⟩ 1 1 (rwC r) rfl (World.news_of_block (Blk.new w (rwC r).toArray 219)) (by intro u hu; simp [rwC] at hu; rcases hu with rfl | rfl | rfl | rfl | rfl | rfl | rfl | rfl | rfl | rfl <;> rfl) (by omega) (by unfold maxLen; omega) (by omega) (by rw [World.size_alloc]; omega)
  refine ⟨g, cap, W, h1, ?_, ((Mod.refl (fun j => v.ownBlock = some j) w).alloc (.cells (rwC r).toArray 219)).trans h3⟩
  unfold OR
  rw [List.length_append, List.length_singleton, List.flatMap_append]
  exact (by simpa using h2)
/-- the same where an order was drawn. -/
theorem OE.app1d {w : World} {base : Nat} {v : Value} {l : List En} (h : OE w base v l) (x : En) (hl : l.length ≤ 1000000) (hb : base ≤ w.heap.size) :
    ∃ g cap W, (Builtin.append_ #[47, 47] 47 #[v, .slice (some ⟨w.heap.size, 0, none⟩) 1 1]).run Tryz.prog (w.alloc (.cells #[.string x.name, .int .i64 x.no] 146)).drew = .ok (.slice (some ⟨g, 0, none⟩) (l.length + 1) cap) W ∧
      OE W base (.slice (some ⟨g, 0, none⟩) (l.length + 1) cap) (l ++ [x]) ∧ Below base w W := by
  obtain ⟨i0, hi, hz0, hz1, hz2⟩ := info_parts ent_info
  have hbd : Below w.heap.size w (w.alloc (.cells #[.string x.name, .int .i64 x.no] 146)).drew := ((Below.refl _ w).alloc (Nat.le_refl _) _).drew
  have ho := own_keep h hbd
  have hs : w.heap.size ≤ (w.alloc (.cells #[.string x.name, .int .i64 x.no] 146)).drew.heap.size := hbd.size
  obtain ⟨g, cap, W, h1, h2, h3, h4⟩ := step_app 47 Tryz.underlying47 hi hz0 hz1 hz2 rfl (by omega) ho ⟨w.heap.size, 0, none⟩ 1 1 (entC x) rfl (World.news_of_block (Blk.new w #[.string x.name, .int .i64 x.no] 146).drew) (by intro u hu; simp [entC] at hu; rcases hu with rfl | rfl <;> rfl) (by omega) (by unfold maxLen; omega) (by omega) (by omega)
  refine ⟨g, cap, W, h1, ?_, ((hbd.mono hb).trans (h3.below (fun _ hk => (own_obj1 ho hk).1) (by omega)))⟩
  unfold OE
  rw [List.length_append, List.length_singleton, List.flatMap_append]
  exact (by simpa using h2)
theorem EntsAt.tail {w : World} {a : Option Addr} {n c : Nat} {x : En} {l : List En} (h : EntsAt w a n c (x :: l)) {b off : Nat} (ha : a = some ⟨b, off, none⟩) : EntsAt w (if c = 1 then a else some ⟨b, off + 2, none⟩) (n - 1) (c - 1) l := by
  refine ⟨?_, fun p hp => ?_⟩
  · have hs := h.sl
    have hl := hs.1
    obtain ⟨-, h1, h2, h0 | ⟨b', off', he, hb, hel⟩⟩ := hs
    · simp at hl; omega
    · rw [ha] at he
      injection he with he
      injection he with e1 e2
      subst e1 e2
      have hl' : l.length = n - 1 := by simp at hl; omega
      have hn1 : 1 ≤ n := by rw [← hl]; simp
      refine ⟨hl', by omega, by omega, ?_⟩
      by_cases hn : n = 1
      · exact .inl (by omega)
      · refine .inr ⟨b, off + 2, by rw [if_neg (by omega)], hb, fun i hi => ?_⟩
        obtain ⟨cs, h3, h4, h5⟩ := hel (i + 1) (by simp; omega)
        refine ⟨cs, h3, by simpa using h4, fun j hj => ?_⟩
        rw [← h5 j hj]
        congr 2
        omega
  · obtain ⟨b', off', cur, e, hblk⟩ := h.blk _ ha
    injection e with e1 e2
    subst e1 e2
    split at hp
    · rw [ha] at hp
      injection hp with hp
      exact ⟨b, off, cur, hp.symm, hblk⟩
    · injection hp with hp
      exact ⟨b, off + 2, cur, hp.symm, hblk⟩
/-- append(in, todo..): the own ones first. -/
theorem oe_app {w : World} {base : Nat} {v : Value} {ps : List En} {a : Option Addr} {n c : Nat} {l : List En} (hO : OE w base v ps) (hS : EntsAt w a n c l) (hl : ps.length + l.length ≤ 1000000) (hbase : base ≤ w.heap.size) :
    ∃ a' n' c' W, (Builtin.append_ #[47, 47] 47 #[v, .slice a n c]).run Tryz.prog w = .ok (.slice a' n' c') W ∧ EntsAt W a' n' c' (ps ++ l) ∧ Below base w W := by
  obtain ⟨i0, hi, hz0, hz1, hz2⟩ := info_parts ent_info
  have hln := hS.len
  cases l with
  | nil =>
    obtain rfl : n = 0 := by simpa using hln.symm
    obtain ⟨a1, c1, rfl, -, -, hf⟩ := own_form hO
    exact ⟨a1, ps.length, c1, w, step_app_nil _ Tryz.underlying47 hi hO a c, by rw [List.append_nil]; exact OE.at hO, Below.refl _ _⟩
  | cons x l =>
    have hn : 0 < n := by rw [← hln]; simp
    obtain ⟨b, off, rfl, hb⟩ := hS.some_of hn
    obtain ⟨g, cap, W, h1, h2, h3, h4⟩ := step_app 47 Tryz.underlying47 hi hz0 hz1 hz2 rfl (by omega) hO ⟨b, off, none⟩ n c ((x :: l).flatMap entC) (by rw [flat_len entC_len, hln])
      hS.news (entC_one _) hn (by unfold maxLen; omega) (by omega) hbase
    have hO2 : OE W base (.slice (some ⟨g, 0, none⟩) (ps ++ x :: l).length cap) (ps ++ x :: l) := by
      unfold OE
      rw [List.length_append, List.flatMap_append, hln]
      exact h2
    refine ⟨_, _, _, W, h1, ?_, h3.below (fun k hk => (own_obj1 hO hk).1) hbase⟩
    have := OE.at hO2
    rwa [List.length_append, hln] at this
/-- what the reference holds between its steps. -/
structure RB (B : Nat) (w : World) (vo vn : Value) (ta : Option Addr) (tn tc : Nat) (out : List Rw) (nos : List Int) (todo : List En) : Prop where
  o : OR w B vo out
  n : OI w B vn nos
  t : EntsAt w ta tn tc todo
theorem RB.keep {B : Nat} {w w' : World} {vo vn : Value} {ta : Option Addr} {tn tc : Nat} {out : List Rw} {nos : List Int} {todo : List En} (h : RB B w vo vn ta tn tc out nos todo) (hb : Below w.heap.size w w') : RB B w' vo vn ta tn tc out nos todo :=
  ⟨own_keep h.o hb, own_keep h.n hb, h.t.keep hb⟩
theorem RB.pushN {B : Nat} {w w' : World} {vo vn vn' : Value} {ta : Option Addr} {tn tc : Nat} {out : List Rw} {nos nos' : List Int} {todo : List En} (h : RB B w vo vn ta tn tc out nos todo) (hm : Mod (fun j => vn.ownBlock = some j) w w') (hn : OI w' B vn' nos') : RB B w' vo vn' ta tn tc out nos' todo :=
  ⟨own_mod h.o hm (fun k hk => own_apart h.n h.o (by decide) hk), hn, own_ents h.n (by decide) hm h.t⟩
theorem RB.pushO {B : Nat} {w w' : World} {vo vn vo' : Value} {ta : Option Addr} {tn tc : Nat} {out out' : List Rw} {nos : List Int} {todo : List En} (h : RB B w vo vn ta tn tc out nos todo) (hm : Mod (fun j => vo.ownBlock = some j) w w') (ho : OR w' B vo' out') : RB B w' vo' vn ta tn tc out' nos todo :=
  ⟨ho, own_mod h.n hm (fun k hk => own_apart h.o h.n (by decide) hk), own_ents h.o (by decide) hm h.t⟩
theorem RB.belowN {B : Nat} {w w' : World} {vo vn : Value} {ta : Option Addr} {tn tc : Nat} {out : List Rw} {nos : List Int} {todo : List En} (h : RB B w vo vn ta tn tc out nos todo) (hm : Mod (fun j => vn.ownBlock = some j) w w') (hB : B ≤ w.heap.size) : Below B w w' := hm.below (fun _ hk => (own_obj1 h.n hk).1) hB
theorem RB.belowO {B : Nat} {w w' : World} {vo vn : Value} {ta : Option Addr} {tn tc : Nat} {out : List Rw} {nos : List Int} {todo : List En} (h : RB B w vo vn ta tn tc out nos todo) (hm : Mod (fun j => vo.ownBlock = some j) w w') (hB : B ≤ w.heap.size) : Below B w w' := hm.below (fun _ hk => (own_obj1 h.o hk).1) hB
end Go.Proofs.YtihdbncoijhihaaGreat

/- Rows compared: ragpickerref22.Same. (printed by gen_rows.py) -/
namespace Go.Proofs.YtihdbncoijhihaaGreat

open Go.RowKit

end Go.Proofs.YtihdbncoijhihaaGreat

/- slices.Reverse over spots. -/
namespace Go.Proofs.YtihdbncoijhihaaGreat

open Go.RowKit

/-- on the way: `i` pairs have changed places. -/
structure Sw (pre l : List En) (i : Nat) (Y : List En) : Prop where
  len : Y.length = pre.length + l.length
  old : ∀ k, k < pre.length → Y[k]? = pre[k]?
  at' : ∀ k, k < l.length → Y[pre.length + k]? = if k < i ∨ l.length ≤ k + i then l[l.length - 1 - k]? else l[k]?
end Go.Proofs.YtihdbncoijhihaaGreat

/- ents.All: its iterator hands on the names of a directory. -/
namespace Go.Proofs.YtihdbncoijhihaaGreat

open Go.RowKit Go.Shelf

attribute [local go_sem] Oper.semAt_some

end Go.Proofs.YtihdbncoijhihaaGreat

/- What the program holds while it tells rows. -/
namespace Go.Proofs.YtihdbncoijhihaaGreat

open Go.RowKit

/-- the first row of each number. -/
def FirstOf (l : List (Int × Value × Nat)) (nos : List Int) : Prop := KeysOnce l ∧ ∀ k, mapFind l k = if k ∈ nos then some (.int .i64 (nos.idxOf k : Nat)) else none
section

variable {B : Nat} {w w' : World} {m Bt g cap : Nat} {vo : Value} {out : List Rw} {nos : List Int} {stk : List En}

end

end Go.Proofs.YtihdbncoijhihaaGreat

/- Rows without some of them: track.Inside, dump.But. -/
namespace Go.Proofs.YtihdbncoijhihaaGreat

open Go.RowKit

def insideB (b s : ByteArray) : Bool := decide (b = s) || Lib.hasPrefix s.data.toList (trimL b.data.toList ++ [47])
def Rw.to (r : Rw) (k : Int) : Rw := { r with first := k }
/-- Firsts, told anew. -/
def anewL (l : List Rw) : List Rw := l.map fun r => r.to ((l.map Rw.first).idxOf r.first : Nat)
def keepB (ps : List ByteArray) (r : Rw) : Bool := ps.all fun p => !insideB p r.path
def butL (l : List Rw) (ps : List ByteArray) : List Rw := anewL (l.filter (keepB ps))
/-- rows, and the first row of each number. -/
structure AB (B : Nat) (w : World) (m : Nat) (vo : Value) (out : List Rw) (nos : List Int) : Prop where
  o : OR w B vo out
  m : ∃ l clk, MapB w m l clk ∧ FirstOf l nos
section

variable {B : Nat} {w w' : World} {m : Nat} {vo : Value} {out : List Rw} {nos : List Int}

end

def pxR (cs : List Value) (s : ByteArray) : Prop := cs = [.string s]
end Go.Proofs.YtihdbncoijhihaaGreat

/- Paths told from another one on, purely. -/
namespace Go.Proofs.YtihdbncoijhihaaGreat

open Go.RowKit

/-- a path that ends in no slash. -/
theorem trimL_last {l : List UInt8} {x : UInt8} (h : l.getLast? = some x) (hx : x ≠ 47) : trimL l = l := by
  obtain ⟨a, rfl⟩ : ∃ a, l = a ++ [x] := by
    obtain ⟨ys, rfl⟩ := List.getLast?_eq_some_iff.1 h
    exact ⟨ys, rfl⟩
  rw [trimL_snoc, if_neg hx]
theorem join_last {l : List (List UInt8)} (hl : l ≠ []) (h : ∀ p ∈ l, p ≠ [] ∧ ∀ x ∈ p, x ≠ 47) : ∃ x, (Lib.join l [47]).getLast? = some x ∧ x ≠ 47 := by
  obtain ⟨a, p, rfl⟩ : ∃ a p, l = a ++ [p] := ⟨_, _, (List.dropLast_concat_getLast hl).symm⟩
  obtain ⟨h1, h2⟩ := h p (by simp)
  have h3 : ∃ pre, Lib.join (a ++ [p]) [47] = pre ++ p := by
    cases a with
    | nil => exact ⟨[], by rw [List.nil_append, join_one, List.nil_append]⟩
    | cons y r => exact ⟨Lib.join (y :: r) [47] ++ [47], by rw [join_snoc]; simp⟩
  obtain ⟨pre, h3⟩ := h3
  rw [h3]
  refine ⟨p.getLast h1, ?_, h2 _ (List.getLast_mem h1)⟩
  rw [List.getLast?_append, List.getLast?_eq_some_getLast h1]
  rfl
/-- a clean and whole path: the top, or one that ends in no slash. -/
def CleanW (l : List UInt8) : Prop := l = [47] ∨ (l.head? = some 47 ∧ trimL l = l)
def ptB : ByteArray := ByteArray.mk #[46]
def relB (base s : ByteArray) : ByteArray × Bool :=
  if wholeB (cleanB base).data.toList = true ∧ wholeB (cleanB s).data.toList = true ∧ insideB (cleanB base) (cleanB s) = true then
    (if cleanB base = cleanB s then ptB else str ((cleanB s).data.toList.drop ((trimL (cleanB base).data.toList).length + 1)), true)
  else (ByteArray.empty, false)
def joinB (a b : ByteArray) : ByteArray := if wholeB b.data.toList = true ∨ a = ByteArray.empty then cleanB b else cleanB (a ++ ByteArray.mk #[47] ++ b)
end Go.Proofs.YtihdbncoijhihaaGreat
