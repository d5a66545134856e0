/- Texts of the proof, part 5. -/
import Derived.RangeFuncNested
import Derived.RangeFuncBound
import Derived.RangeFuncCalls
import Derived.RangeFuncLeaves
import Derived.Shelf.Abstract
import Derived.Shelf.RegionOpen
import Derived.OwnWalkIn
import Derived.TacticsInMore
import Derived.LoopNIn
import Derived.LoopIn
import Derived.Shelf.Strings.BuilderK
import Derived.StillTail
import Derived.StillTactics
import Derived.WalkKit
import Derived.Test.YtcjllikngfndhaaDoorDB1
import Derived.Test.YtcjllikngfndhaaDoorDB4
import Derived.Test.YtcjllikngfndhaaDoorDB2
import Derived.Test.YtcjllikngfndhaaDoorDB3
/- A range over a function whose iterator keeps cells of its own (a captured variable that it writes). -/
namespace Go.Proofs.YtcjllikngfndhaaDoor

open Go.RowKit

/-- from W to W' nothing has turned but blocks in T and, from B on, objects of the kind p. -/
structure Turn (T : Nat → Prop) (B : Nat) (p : Obj → Bool) (W W' : World) : Prop where
  os : W'.os = W.os
  tape : W'.tape = W.tape
  output : W'.output = W.output
  size : W.heap.size ≤ W'.heap.size
  block : ∀ k o, W.heap[k]? = some o → ¬ T k → (B ≤ k → p o = false) → W'.heap[k]? = some o
/-- J stands through such turns. -/
def AbT {β : Type} (T : Nat → Prop) (B : Nat) (p : Obj → Bool) (J : β → World → Prop) : Prop := ∀ s W W', J s W → Turn T B p W W' → J s W'
/-- a round leaves the iterator's own blocks as they were. -/
def KT (T : Nat → Prop) (W W' : World) : Prop := W.heap.size ≤ W'.heap.size ∧ ∀ k, T k → W'.heap[k]? = W.heap[k]?
theorem KT.refl (T : Nat → Prop) (W : World) : KT T W W := ⟨Nat.le_refl _, fun _ _ => rfl⟩
theorem KT.trans {T : Nat → Prop} {A B C : World} (h : KT T A B) (k : KT T B C) : KT T A C := ⟨Nat.le_trans h.1 k.1, fun i hi => (k.2 i hi).trans (h.2 i hi)⟩
theorem KT.of_below {T : Nat → Prop} {W W' : World} (h : Below W.heap.size W W') (hT : ∀ k, T k → k < W.heap.size) : KT T W W' := ⟨h.size, fun k hk => h.block k (hT k hk)⟩
theorem KT.of_mod {T S : Nat → Prop} {W W' : World} (h : Mod S W W') (hT : ∀ k, T k → k < W.heap.size) (hS : ∀ k, T k → ¬ S k) : KT T W W' := ⟨h.size, fun k hk => h.block k (hT k hk) (hS k hk)⟩
theorem KT.put {T : Nat → Prop} (W : World) (l : Nat) (o : Obj) (h : ¬ T l) : KT T W (W.putObj l o) := ⟨by simp, fun k hk => World.putObj_heap_other (fun e => h (e ▸ hk))⟩
theorem Turn.put {T : Nat → Prop} {B : Nat} {p : Obj → Bool} {W : World} {l : Nat} {o o' : Obj} (hB : B ≤ l) (hl : W.heap[l]? = some o) (hp : p o = true) : Turn T B p W (W.putObj l o') :=
  ⟨rfl, rfl, rfl, by simp, fun k o2 hk _ h2 => (World.putObj_heap_other (fun e => by subst e; rw [hl] at hk; injection hk with hk; subst hk; rw [hp] at h2; exact absurd (h2 hB) (by decide))).trans hk⟩
theorem Turn.alloc {T : Nat → Prop} {B : Nat} {p : Obj → Bool} (W : World) (o : Obj) : Turn T B p W (W.alloc o) :=
  ⟨rfl, rfl, rfl, by simp, fun k o2 hk _ _ => (Below.heap_alloc W o k (Array.getElem?_eq_some_iff.1 hk).1).trans hk⟩
theorem Turn.of_below {T : Nat → Prop} {B : Nat} {p : Obj → Bool} {W W' : World} (h : Below W.heap.size W W') : Turn T B p W W' :=
  ⟨h.os, h.tape, h.output, h.size, fun k _ hk _ _ => (h.block k (Array.getElem?_eq_some_iff.1 hk).1).trans hk⟩
theorem Turn.of_mod {T S : Nat → Prop} {B : Nat} {p : Obj → Bool} {W W' : World} (h : Mod S W W') (hS : ∀ k, S k → T k) : Turn T B p W W' :=
  ⟨h.os, h.tape, h.output, h.size, fun k _ hk hT _ => (h.block k (Array.getElem?_eq_some_iff.1 hk).1 (fun hs => hT (hS k hs))).trans hk⟩
/-- an iterator's contract: it hands on things, one by one, as far as the rounds go on; V: what may come behind what has come. -/
def SeqT {α : Type} (T : Nat → Prop) (F : Fence) (n : Nat) (P : Program) (g : Nat) (lb : Array Value) (encs : α → Array Value) (S Sp : List α → Prop) (V : List α → α → Prop) (w : World) : Prop :=
  ∀ (l : Nat) (J Jx : List α → World → Prop) (W : World), KT T w W → w.heap.size ≤ W.heap.size → AbT T W.heap.size Obj.isWalk J → AbT T W.heap.size Obj.isWalk Jx →
    (∀ pre x W1, J pre W1 → V pre x → YieldAt F (n - 1) P l (encs x) W1 fun e W' =>
      (e = .returned (.bool true) ∧ J (pre ++ [x]) W' ∧ KT T W1 W') ∨ (e = .returned (.bool false) ∧ Jx (pre ++ [x]) W')) →
    J [] W →
    CallsIn F n P g (#[.func (.yield l) #[] #[]] ++ lb) W fun e W' => (∃ v, e = .returned v) ∧ ((∃ xs, S xs ∧ J xs W') ∨ (∃ pre, Sp pre ∧ Jx pre W'))

def notCells (o : Obj) : Bool := !o.isCells
theorem walk_notCells {o : Obj} (h : o.isWalk = true) : notCells o = true := by unfold notCells; rw [Obj.not_cells_of_walk h]; rfl

/-- the loop over such an iterator. -/
theorem wpIn_rangeT {F : Fence} {n : Nat} {P : Program} {w : World} {α : Type} {T : Nat → Prop} {g : Operand} {ps : Array Tmp} {assign body : Code} {Q : Exit → Act → World → Prop} {a : Act}
    (hro : F.round = none) (h1 : 1 ≤ n) {gf : Nat} {lb : Array Value} (hg : a.eval g = .func (.func gf) #[] lb) (hFg : F.fn gf) (eg : ∀ args w, (callFunc gf args).run P w = .ok (.enter gf args) w)
    {encs : α → Array Value} {S Sp : List α → Prop} {V : List α → α → Prop} {w0 : World} (hseq : SeqT T F (n - 1) P gf lb encs S Sp V w0)
    (hT : ∀ k, T k → k < w.heap.size) (hb0 : KT T w0 w) (hps : ∀ x, (encs x).size = ps.size)
    (I : List α → World → Prop) (Ix : Code → List α → World → Prop) (hI : AbT T w.heap.size notCells I) (hIx : ∀ c, AbT T w.heap.size notCells (Ix c)) (h0 : I [] w) (a₁ : α → Act)
    (hassign : ∀ (l : Nat) (x : α) (W : World) (K : Act → World → Prop), K (a₁ x) W →
      assign.wpIn (F.inRound l) (n - 1 - 1) P (Exit.then K (fun _ _ _ => False)) { tmps := (ps.zip (encs x)).foldl (fun t (p, v) => t.setIfInBounds p v) a.tmps, defers := [] } W)
    (hbody : ∀ (l : Nat) (pre : List α) (x : α) (W : World), w.heap.size ≤ l → l < W.heap.size → I pre W → V pre x → body.wpIn (F.inRound l) (n - 1 - 1) P (ownPostG w.heap.size (KT T) I Ix (pre ++ [x]) W) (a₁ x) W)
    (hdone : ∀ (D : Nat) (xs : List α) (W : World), w.heap.size ≤ D → S xs → I xs W → W.heap[D]? = some (.deferred (some [])) → Q .normal { a with defers := { target := .collected D, args := #[] } :: a.defers } W)
    (hstop : ∀ (D : Nat) (c : Code) (pre : List α) (W : World), w.heap.size ≤ D → Sp pre → Ix c pre W → W.heap[D]? = some (.deferred (some [])) → c.wpIn F n P Q { a with defers := { target := .collected D, args := #[] } :: a.defers } W) :
    (Code.rangeFunc g ps assign body).wpIn F n P Q a w := by
  refine wpIn_rangeFunc fun fn hfn => ?_
  rw [hro]
  obtain ⟨rc, hrc⟩ : ∃ rc : LoopState → Option Code → Loop, rc = fun st pe => { state := st, pending := pe, fn, tmps := a.tmps, params := ps, assign, body, defers := w.heap.size } := ⟨_, rfl⟩
  have hTl : ¬ T (w.heap.size + 1) := fun h => by have := hT _ h; omega
  have hTd : ¬ T w.heap.size := fun h => by have := hT _ h; omega
  generalize hW1 : (w.alloc (.deferred (some []))).alloc (.loop (rc .ready none)) = W1
  have hs1 : W1.heap.size = w.heap.size + 2 := by rw [← hW1]; simp
  have hL1 : W1.heap[w.heap.size + 1]? = some (.loop (rc .ready none)) := by
    have := World.alloc_heap_new (w.alloc (.deferred (some []))) (.loop (rc .ready none))
    rw [World.size_alloc] at this
    rw [← hW1]; exact this
  have hD1 : W1.heap[w.heap.size]? = some (.deferred (some [])) := by
    rw [← hW1]; exact (Below.heap_alloc _ _ _ (by simp)).trans (World.alloc_heap_new w _)
  have hI1 : I [] W1 := by rw [← hW1]; exact hI _ _ _ (hI _ _ _ h0 (Turn.alloc _ _)) (Turn.alloc _ _)
  have hK1 : KT T w W1 := by rw [← hW1]; exact KT.of_below ((((Below.refl _ w).alloc (Nat.le_refl _) _).alloc (by simp) _)) hT
  refine ⟨w.heap.size + 1, [{ target := .collected w.heap.size, args := #[] }], W1, { target := .fn (.func gf) lb, args := #[.func (.yield (w.heap.size + 1)) #[] #[]] }, W1, gf,
    #[.func (.yield (w.heap.size + 1)) #[] #[]] ++ lb, W1, ?_, ?_, ?_, ?_, fun _ => h1, ?_⟩
  · rw [← hW1, hrc]; exact run_enterLoop_outer _ _ _ _ _
  · simp only [resolve, hg]; simp [go_sem]
  · intro f' hf'; simp [Target.leads] at hf'; subst hf'; exact hFg
  · simp [invoke, go_sem, eg]
  have turnW : ∀ {A B : World}, Turn T W1.heap.size Obj.isWalk A B → Turn T w.heap.size notCells A B := fun h =>
    ⟨h.os, h.tape, h.output, h.size, fun k o hk ht hp => h.block k o hk ht (fun hB => by
      cases hw : o.isWalk with
      | false => rfl
      | true => have := hp (by omega); rw [walk_notCells hw] at this; cases this)⟩
  have keepL : ∀ {A B : World} {k : Nat} {o : Obj}, Turn T W1.heap.size Obj.isWalk A B → A.heap[k]? = some o → ¬ T k → o.isWalk = false → B.heap[k]? = some o := fun h hk ht hw => h.block _ _ hk ht (fun _ => hw)
  refine (hseq (w.heap.size + 1)
    (fun pre W => I pre W ∧ W.heap[w.heap.size + 1]? = some (.loop (rc .ready none)) ∧ W.heap[w.heap.size]? = some (.deferred (some [])))
    (fun pre W => ∃ c, Ix c pre W ∧ W.heap[w.heap.size + 1]? = some (.loop (rc .done (some c))) ∧ W.heap[w.heap.size]? = some (.deferred (some [])))
    W1 (hb0.trans hK1) (Nat.le_trans hb0.1 hK1.1)
    (fun s A B hs ht => ⟨hI s A B hs.1 (turnW ht), keepL ht hs.2.1 hTl rfl, keepL ht hs.2.2 hTd rfl⟩)
    (fun s A B hs ht => by
      obtain ⟨c, hc, hl, hk⟩ := hs
      exact ⟨c, hIx c s A B hc (turnW ht), keepL ht hl hTl rfl, keepL ht hk hTd rfl⟩)
    ?_ ⟨hI1, hL1, hD1⟩).mono ?_
  · rintro pre x W ⟨hi, hl, hk⟩ hlen
    have hlt : w.heap.size + 1 < W.heap.size := (Array.getElem?_eq_some_iff.1 hl).1
    have hy := run_yield (P := P) (args := encs x) hl (by rw [hrc]; exact hps x)
    rw [hrc] at hy
    refine ⟨fn, _, assign, body, hy, roundIn_of_wpIn hfn (hassign _ x W _ ?_)⟩
    clear hy
    refine ⟨_, run_beginRound hl (by rw [hrc]), ?_⟩
    generalize hWb : W.putObj (w.heap.size + 1) (.loop { rc .ready none with state := .busy }) = Wb
    have hl2 : Wb.heap[w.heap.size + 1]? = some (.loop { rc .ready none with state := .busy }) := by rw [← hWb]; exact World.putObj_heap_same hlt
    have hk2 : Wb.heap[w.heap.size]? = some (.deferred (some [])) := by rw [← hWb]; exact (World.putObj_heap_other (by omega)).trans hk
    have hw2 : KT T W Wb := by rw [← hWb]; exact KT.put _ _ _ hTl
    have hib : I pre Wb := by rw [← hWb]; exact hI _ _ _ hi (Turn.put (by omega) hl rfl)
    refine wpIn_mono (hbody _ pre x Wb (by omega) (by have := hw2.1; omega) hib hlen) ?_
    have fin : ∀ (jump : Option Code) (W3 : World), KeepsFrom w.heap.size Wb W3 →
        (Instr.endRound (w.heap.size + 1) jump).run P W3 = .ok (.bool jump.isNone) (W3.putObj (w.heap.size + 1) (.loop (rc (if jump.isNone then .ready else .done) jump))) ∧
        W3.heap[w.heap.size + 1]? = some (.loop { rc .ready none with state := .busy }) ∧
        (W3.putObj (w.heap.size + 1) (.loop (rc (if jump.isNone then .ready else .done) jump))).heap[w.heap.size + 1]? = some (.loop (rc (if jump.isNone then .ready else .done) jump)) ∧
        (W3.putObj (w.heap.size + 1) (.loop (rc (if jump.isNone then .ready else .done) jump))).heap[w.heap.size]? = some (.deferred (some [])) := fun jump W3 hk3 => by
      have hl3 := hk3.same _ _ (by omega) hl2 rfl
      have := run_endRound (P := P) jump hl3
      rw [hrc] at this ⊢
      exact ⟨this, by rw [hrc] at hl3; exact hl3, World.putObj_heap_same (Array.getElem?_eq_some_iff.1 hl3).1, (World.putObj_heap_other (by omega)).trans (hk3.same _ _ (Nat.le_refl _) hk2 rfl)⟩
    have leave : ∀ (c : Code) (W3 : World), KeepsFrom w.heap.size Wb W3 → Ix c (pre ++ [x]) W3 → ∃ v W4, (Instr.endRound (w.heap.size + 1) (some c)).run P W3 = .ok (.bool v) W4 ∧ v = false ∧ ∃ c', Ix c' (pre ++ [x]) W4 ∧ W4.heap[w.heap.size + 1]? = some (.loop (rc .done (some c'))) ∧ W4.heap[w.heap.size]? = some (.deferred (some [])) := fun c W3 hk3 hi3 => by
      obtain ⟨hr, hl3, hl4, hk4⟩ := fin (some c) W3 hk3
      exact ⟨_, _, hr, rfl, c, hIx _ _ _ _ hi3 (Turn.put (by omega) hl3 rfl), hl4, hk4⟩
    rintro e a3 W3 hp
    cases e with
    | normal =>
      obtain ⟨hk3, hkp3, hi3⟩ := hp
      obtain ⟨hr, hl3, hl4, hk4⟩ := fin none W3 hk3
      exact ⟨_, _, hr, .inl ⟨rfl, ⟨hI _ _ _ hi3 (Turn.put (by omega) hl3 rfl), hl4, hk4⟩, hw2.trans (hkp3.trans (KT.put _ _ _ hTl))⟩⟩
    | ret => obtain ⟨v, W4, hr, rfl, h⟩ := leave .ret W3 hp.1 hp.2; exact ⟨_, _, hr, .inr ⟨rfl, h⟩⟩
    | exit id => obtain ⟨v, W4, hr, rfl, h⟩ := leave (.exit id) W3 hp.1 hp.2; exact ⟨_, _, hr, .inr ⟨rfl, h⟩⟩
    | goto t => obtain ⟨v, W4, hr, rfl, h⟩ := leave (.goto t) W3 hp.1 hp.2; exact ⟨_, _, hr, .inr ⟨rfl, h⟩⟩
    | panic ch => exact hp.elim
    | outgrown => exact hp.elim
  · rintro e W2 ⟨⟨v, rfl⟩, (⟨xs, hS, hi, hl, hk⟩ | ⟨pre, hSp, c, hi, hl, hk⟩)⟩
    · exact ⟨none, _, by have := run_endLoop (P := P) hl (by rw [hrc]; simp); rw [hrc] at this; exact this, hdone _ xs _ (Nat.le_refl _) hS (hI _ _ _ hi (Turn.put (by omega) hl rfl)) ((World.putObj_heap_other (by omega)).trans hk)⟩
    · exact ⟨some c, _, by have := run_endLoop (P := P) hl (by rw [hrc]; simp); rw [hrc] at this; exact this, hstop _ c pre _ (Nat.le_refl _) hSp (hIx c _ _ _ hi (Turn.put (by omega) hl rfl)) ((World.putObj_heap_other (by omega)).trans hk)⟩
end Go.Proofs.YtcjllikngfndhaaDoor

/- strings.SplitSeq at one byte: its iterator hands on what stands between. -/
namespace Go.Proofs.YtcjllikngfndhaaDoor

open Go.RowKit Go.Shelf

attribute [local go_sem] Oper.semAt_some

/-- how long the text in block b is. -/
def lenAt (b : Nat) (w : World) : Nat := match w.cell? ⟨b, 0, none⟩ with
  | some (.string t) => t.size
  | _ => 0
theorem index_any (t : ByteArray) (c : UInt8) (w : World) :
    Calls Tryd.prog 51 #[.string t, .string (ByteArray.mk #[c])] w fun e w' => e = .returned (.int .i64 (Lib.indexByte t.data.toList c)) ∧ w = w' := by
  refine (Tryd.strings_Index_one t c w).mono ?_
  rintro e w' ⟨rfl, rfl⟩
  exact ⟨rfl, rfl⟩
theorem str_extract (l : List UInt8) (a b : Nat) : (str l).extract a b = str ((l.take b).drop a) := by
  have : ((str l).extract a b).data.toList = (str ((l.take b).drop a)).data.toList := by rw [extract_list, str_list, str_list]
  rw [← str_of ((str l).extract a b), this, str_list]
theorem take_pre {α : Type} (pre : List α) (x : α) (y : List α) : pre ++ [x] = (pre ++ ([x] ++ y)).take (pre.length + 1) := by
  rw [← List.append_assoc, List.take_left' (by simp)]
set_option maxRecDepth 100000 in
set_option maxHeartbeats 1000000 in
theorem split_stops (n : Nat) (hn : 1 ≤ n) (c : UInt8) (Bs Bp Bz : Nat) (hps : Bs ≠ Bp) (hzs : Bs ≠ Bz) (l : List UInt8) (hl : l.length ≤ 100000) (w : World)
    (hs : Blk w Bs #[.string (str l)] 9) (hp : Blk w Bp #[.string (ByteArray.mk #[c])] 9) (hz : Blk w Bz #[.int .i64 0] 3) :
    SeqT (fun k => k = Bs ∨ k = Bp ∨ k = Bz) Fence.wide n Tryd.prog 57 #[.pointer (some ⟨Bp, 0, none⟩), .pointer (some ⟨Bs, 0, none⟩), .pointer (some ⟨Bz, 0, none⟩)] (fun x : List UInt8 => #[.string (str x)])
      (fun xs => xs = spl c l) (fun pre => ∃ m, 0 < m ∧ m ≤ (spl c l).length ∧ pre = (spl c l).take m) (fun pre x => (pre ++ [x]) <+: spl c l) w := fun L J Jx W hW hWs hJ hJx hY h0 => by
  have Hs := Lib.hid (show Blk W Bs #[.string (str l)] 9 from (hW.2 Bs (.inl rfl)).trans hs)
  have Hp := Lib.hid (show Blk W Bp #[.string (ByteArray.mk #[c])] 9 from (hW.2 Bp (.inr (.inl rfl))).trans hp)
  have Hz := Lib.hid (show Blk W Bz #[.int .i64 0] 3 from (hW.2 Bz (.inr (.inr rfl))).trans hz)
  clear hs hp hz hW hWs
  refine callsIn_of_wp Tryd.func57 rfl trivial ?_ rfl
  simp only [Tryd.ntmps57, List.size_toArray, List.length_cons, List.length_nil, Nat.reduceAdd, Nat.reduceSub, Array.replicate_succ, Array.replicate_zero, List.push_toArray, List.append_toArray, List.nil_append, List.cons_append]
  have hP := Hp.out
  obtain ⟨cp, -, -⟩ := hP.facts
  clear hP
  gi_wp2
  gi_loopw [] (fun wr => ∃ (pre : List (List UInt8)) (rest : List UInt8), spl c l = pre ++ spl c rest ∧ rest.length ≤ 100000 ∧ J pre wr ∧ Blk wr Bs #[.string (str rest)] 9 ∧ Blk wr Bp #[.string (ByteArray.mk #[c])] 9 ∧ Blk wr Bz #[.int .i64 0] 3) (fun wr => lenAt Bs wr)
  case atStart => exact ⟨[], l, rfl, hl, h0, Hs.out, Hp.out, Hz.out⟩
  case round =>
    obtain ⟨pre, rest, hsp, hrl, hJp, hbs, hbp, hbz⟩ := hrel
    have HJ0 := Lib.hid hJp
    have HSp := Lib.hid hsp
    have HBs := Lib.hid hbs
    have HBp := Lib.hid hbp
    have HBz := Lib.hid hbz
    have hN : pre.length < (spl c l).length := by
      rw [hsp, List.length_append]
      have := (spl_len c rest).1
      omega
    have HN := Lib.hid hN
    have HV := Lib.hid (fun (x : List UInt8) (r : List (List UInt8)) (h : spl c rest = x :: r) => (show (pre ++ [x]) <+: spl c l from ⟨r, by rw [hsp, h]; simp⟩))
    obtain ⟨cs, fs, ls⟩ := hbs.facts
    obtain ⟨cp, fp, lp⟩ := hbp.facts
    obtain ⟨cz, -, -⟩ := hbz.facts
    clear hsp hJp hbs hbp hbz hN
    have HIx := Lib.hid (fun w => index_any (str rest) c w)
    rw [str_list] at HIx
    by_cases hm : Lib.indexByte rest c = -1
    · have HLast := Lib.hid (spl_none c rest (indexByte_no rest c hm))
      rw [hm] at HIx
      clear hm
      gi_wp2
      refine ⟨trivial, ?_⟩
      refine (callsIn_wide.2 (HIx.out wr)).mono ?_
      rintro e w1 ⟨rfl, rfl⟩
      obtain ⟨fn, tmps, assign, body, hy, hR⟩ := hY pre rest wr HJ0.out (HV.out _ _ HLast.out)
      gi_wp2
      refine hR.mono ?_
      rintro e W3 (⟨rfl, hJ3, hk3⟩ | ⟨rfl, hJx3⟩)
      · gi_wp2
        go_end0
        exact ⟨⟨_, rfl⟩, .inl ⟨pre ++ [rest], by rw [HSp.out, HLast.out], hJ3⟩⟩
      · gi_wp2
        go_end0
        exact ⟨⟨_, rfl⟩, .inr ⟨pre ++ [rest], ⟨(spl c l).length, by rw [HSp.out, HLast.out]; simp, Nat.le_refl _, by rw [List.take_length, HSp.out, HLast.out]⟩, hJx3⟩⟩
    · have hge := Lib.indexByte_ge rest c
      obtain ⟨i, hi⟩ : ∃ i : Nat, Lib.indexByte rest c = i := ⟨(Lib.indexByte rest c).toNat, by omega⟩
      obtain ⟨h1, h2, h3⟩ := indexByte_yes rest c i hi
      have HSt := Lib.hid (show spl c rest = [rest.take i] ++ spl c (rest.drop (i + 1)) by
        conv => lhs; rw [h2, spl_app, spl_none c _ h3])
      have hsz : (str rest).size = rest.length := str_size rest
      have HSz := Lib.hid hsz
      have h1' : i < (str rest).size := by rw [hsz]; exact h1
      have HF := Lib.hid (show (str rest).extract 0 i = str (rest.take i) from (str_extract rest 0 i).trans (by rw [List.drop_zero]))
      have HD := Lib.hid (show (str rest).extract (i + 1) (str rest).size = str (rest.drop (i + 1)) from (str_extract rest (i + 1) _).trans (by rw [hsz, List.take_length]))
      have hle : (str rest).size ≤ 100000 := by rw [hsz]; exact hrl
      rw [hi] at HIx
      clear hm hge hi h1 h2 h3 hsz
      gi_wp2
      refine ⟨trivial, ?_⟩
      refine (callsIn_wide.2 (HIx.out wr)).mono ?_
      rintro e w1 ⟨rfl, rfl⟩
      obtain ⟨fn, tmps, assign, body, hy, hR⟩ := hY pre (rest.take i) wr HJ0.out (HV.out _ _ HSt.out)
      have hy2 : (Instr.yield L #[.string ((str rest).extract 0 i)]).run Tryd.prog wr = .ok (.round L fn tmps assign body) wr := by rw [HF.out]; exact hy
      clear hy
      gi_wp2
      refine hR.mono ?_
      rintro e W3 (⟨rfl, hJ3, hk3⟩ | ⟨rfl, hJx3⟩)
      · have HJ3 := Lib.hid hJ3
        have HB3 := Lib.hid (show Blk W3 Bs #[.string (str rest)] 9 from (hk3.2 Bs (.inl rfl)).trans HBs.out)
        have HP3 := Lib.hid (show Blk W3 Bp #[.string (ByteArray.mk #[c])] 9 from (hk3.2 Bp (.inr (.inl rfl))).trans HBp.out)
        have HZ3 := Lib.hid (show Blk W3 Bz #[.int .i64 0] 3 from (hk3.2 Bz (.inr (.inr rfl))).trans HBz.out)
        have hB3 := HB3.out
        have hP3 := HP3.out
        obtain ⟨ds, gs, es⟩ := hB3.facts
        obtain ⟨dp, -, -⟩ := hP3.facts
        clear hJ3 hk3 hB3 hP3 cs fs ls cp fp lp cz hy2 hR
        gi_wp2
        rw [HD.out]
        refine ⟨⟨pre ++ [rest.take i], rest.drop (i + 1), by rw [HSp.out, HSt.out, List.append_assoc], by rw [List.length_drop]; omega, ?_, HB3.out.set 0 _, HP3.out.setOther _ _ hps, HZ3.out.setOther _ _ hzs⟩, ?_⟩
        · exact hJ _ _ _ HJ3.out (Turn.of_mod (S := fun k => k = Bs) ((Mod.refl (fun k => k = Bs) W3).setCell (a := ⟨Bs, 0, none⟩) (.inl rfl) _) (fun k hk => .inl hk))
        · have e1 : lenAt Bs wr = rest.length := by unfold lenAt; rw [HBs.out.cell]; exact HSz.out
          have e2 : lenAt Bs (W3.setCell ⟨Bs, 0, none⟩ (.string (str (rest.drop (i + 1))))) = (rest.drop (i + 1)).length := by unfold lenAt; rw [(HB3.out.set 0 _).cell]; exact str_size _
          rw [e1, e2, List.length_drop]
          have := HSz.out
          omega
      · gi_wp2
        refine bodyPost_ret (results_none rfl _ _ _) rfl ?_
        exact ⟨⟨_, rfl⟩, .inr ⟨pre ++ [rest.take i], ⟨pre.length + 1, by omega, HN.out, by rw [HSp.out, HSt.out]; exact take_pre _ _ _⟩, hJx3⟩⟩
end Go.Proofs.YtcjllikngfndhaaDoor

/- strings.SplitSeq: what it makes. -/
namespace Go.Proofs.YtcjllikngfndhaaDoor

open Go.RowKit

/-- the iterator that SplitSeq makes. -/
def seqV (h : Nat) : Value := .func (.func 57) #[] #[.pointer (some ⟨h + 1, 0, none⟩), .pointer (some ⟨h, 0, none⟩), .pointer (some ⟨h + 2, 0, none⟩)]
theorem seqv_any (s p : ByteArray) (w : World) :
    Calls Tryd.prog 39 #[.string s, .string p, .int .i64 0] w fun e w' => e = .returned (seqV w.heap.size) ∧ w' = ((w.alloc (.cells #[.string s] 9)).alloc (.cells #[.string p] 9)).alloc (.cells #[.int .i64 0] 3) := by
  go_enter Tryd.func39, Tryd.ntmps39
  go_wp2_with fail
  go_ret
  exact ⟨rfl, rfl⟩
theorem seq_any (s p : ByteArray) (w : World) :
    Calls Tryd.prog 22 #[.string s, .string p] w fun e w' => e = .returned (seqV w.heap.size) ∧ Blk w' w.heap.size #[.string s] 9 ∧ Blk w' (w.heap.size + 1) #[.string p] 9 ∧ Blk w' (w.heap.size + 2) #[.int .i64 0] 3 ∧ Below w.heap.size w w' ∧ w'.heap.size = w.heap.size + 3 := by
  have h0 := (((Blk.new w #[.string s] 9).old (.cells #[.string p] 9)).old (.cells #[.int .i64 0] 3))
  have h1 := ((Blk.new (w.alloc (.cells #[.string s] 9)) #[.string p] 9).old (.cells #[.int .i64 0] 3))
  have h2 := Blk.new ((w.alloc (.cells #[.string s] 9)).alloc (.cells #[.string p] 9)) #[.int .i64 0] 3
  have hz : (w.alloc (.cells #[.string s] 9)).heap.size = w.heap.size + 1 := by simp
  have hz2 : ((w.alloc (.cells #[.string s] 9)).alloc (.cells #[.string p] 9)).heap.size = w.heap.size + 2 := by simp
  have hz3 : (((w.alloc (.cells #[.string s] 9)).alloc (.cells #[.string p] 9)).alloc (.cells #[.int .i64 0] 3)).heap.size = w.heap.size + 3 := by simp
  have hB := balloc (balloc (balloc (Below.refl w.heap.size w) (.cells #[.string s] 9)) (.cells #[.string p] 9)) (.cells #[.int .i64 0] 3)
  rw [hz] at h1
  rw [hz2] at h2
  have H := Lib.hid (And.intro h0 (And.intro h1 (And.intro h2 (And.intro hB hz3))))
  clear h0 h1 h2 hz hz2 hz3 hB
  go_enter Tryd.func22, Tryd.ntmps22
  go_wp2_with (go_at_call 39; refine (seqv_any _ _ _).mono ?_; rintro e w1 ⟨rfl, rfl⟩)
  go_ret
  exact ⟨rfl, H.out⟩
end Go.Proofs.YtcjllikngfndhaaDoor

/- A strings.Builder whose calls leave what lies above it as it was. -/
namespace Go.Proofs.YtcjllikngfndhaaDoor

open Go.RowKit

/-- block b is a builder that holds l; its rows lie behind it. -/
def BldK (b : Nat) (l : List UInt8) (w : World) : Prop := Lib.IsBuilderF 55 5 b b (Lib.byteCells l) w
theorem BldK.of {b : Nat} {l : List UInt8} {w : World} (h : Bld b l w) : BldK b l w := Lib.IsBuilderF.of h
theorem BldK.lt {b : Nat} {l : List UInt8} {w : World} (h : BldK b l w) : b < w.heap.size := by
  rcases h with h | h <;> exact h.lt
theorem ownF_below {w w' : World} {base : Nat} {e : TypeId} {sz n : Nat} {v : Value} {xs : List Value} (h : w.ownsRowF base e sz v n xs) (hm : Below w.heap.size w w') : w'.ownsRowF base e sz v n xs := by
  refine ⟨h.1, h.2.imp id fun ⟨g, cap, cur, fz, hv, hb, hg, rest⟩ => ⟨g, cap, cur, fz, hv, hb, ?_, rest⟩⟩
  rw [hm.block g (Array.getElem?_eq_some_iff.1 hg).1]
  exact hg
theorem atF_below {T e : TypeId} {B b : Nat} {p : Value} {bs : List Value} {w w' : World} (h : Lib.BuilderAtF T e B b p bs w) (hm : Below w.heap.size w w') : Lib.BuilderAtF T e B b p bs w' := by
  have hlt := h.lt
  obtain ⟨hB, v, hb, hown, hne⟩ := h
  exact ⟨hB, v, (hm.block b hlt).trans hb, ownF_below hown hm, hne⟩
theorem BldK.below {b : Nat} {l : List UInt8} {w w' : World} (h : BldK b l w) (hm : Below w.heap.size w w') : BldK b l w' :=
  h.imp (fun h => atF_below h hm) (fun h => atF_below h hm)
/-- all blocks but b and the rows of bytes are as they were. -/
abbrev Oth (b : Nat) (w w' : World) : Prop := Lib.OthersKept 5 (some b) w w'
theorem Oth.of_below {b : Nat} {w w' : World} (h : Below w.heap.size w w') : Oth b w w' := fun k o hk _ _ => (h.block k (Array.getElem?_eq_some_iff.1 hk).1).trans hk
theorem Blk.oth {w w' : World} {b B : Nat} {vs : Array Value} {T : TypeId} (h : Blk w B vs T) (ho : Oth b w w') (hne : B ≠ b) (hT : T ≠ 5) : Blk w' B vs T :=
  ho B _ h (fun e => hne (Option.some.inj e)) (fun c fz e => hT (by injection e))
theorem wbK_any (b : Nat) (l : List UInt8) (c : UInt8) (w : World) (h : BldK b l w) (hl : l.length ≤ 1000000000) :
    Calls Tryd.prog 30 #[.pointer (some ⟨b, 0, none⟩), .int .u8 c.toNat] w fun e w' => e = .returned .nilIface ∧ BldK b (l ++ [c]) w' ∧ Below b w w' ∧ Oth b w w' := by
  refine (Any.Builder_WriteByte_k Tryd.lays167 Tryd.Builder_Extra_167 b b (Lib.byteCells l) c.toNat w h (by rw [byteCells_len]; omega) (Nat.le_of_lt h.lt)).mono ?_
  rintro e w' ⟨rfl, h1, h2, h3⟩
  refine ⟨rfl, .inr ?_, h2, h3⟩
  have : Lib.byteCells (l ++ [c]) = Lib.byteCells l ++ [.int .u8 c.toNat] := by simp [Lib.byteCells]
  rw [this]
  exact h1
theorem wsK_any (b : Nat) (l : List UInt8) (s : ByteArray) (w : World) (h : BldK b l w) (hl : l.length ≤ 1000000000) (hm : s.size ≤ 1000000000) :
    Calls Tryd.prog 27 #[.pointer (some ⟨b, 0, none⟩), .string s] w fun e w' => e = .returned (.tuple #[.int .i64 s.size, .nilIface]) ∧ BldK b (l ++ s.data.toList) w' ∧ Below b w w' ∧ Oth b w w' := by
  refine (Any.Builder_WriteString_k Tryd.lays166 Tryd.Builder_Extra_166 b b (Lib.byteCells l) s w h (by rw [byteCells_len]; omega) (Nat.le_of_lt h.lt)).mono ?_
  rintro e w' ⟨rfl, h1, h2, h3⟩
  refine ⟨rfl, .inr ?_, h2, h3⟩
  have : Lib.byteCells (l ++ s.data.toList) = Lib.byteCells l ++ Lib.strCells s := by simp [Lib.byteCells, Lib.strCells]
  rw [this]
  exact h1
theorem bsK_any (b : Nat) (l : List UInt8) (w : World) (h : BldK b l w) (h0 : l ≠ []) :
    Calls Tryd.prog 31 #[.pointer (some ⟨b, 0, none⟩)] w fun e w' => e = .returned (.string (str l)) ∧ Below b w w' := by
  refine (Any.Builder_String_k Tryd.lays169 Tryd.Builder_Extra_169 b b l w h h0).mono ?_
  rintro e w' ⟨rfl, -, h2, -⟩
  exact ⟨rfl, h2⟩
/-- what a region keeps that writes into the builder b: the first two cells of block B. -/
theorem sk_make {W w' : World} {b B : Nat} {v0 v1 : Value} {vs : List Value} {T : TypeId} (h : Blk W B (v0 :: v1 :: vs).toArray T) (hne : B ≠ b) (hT : T ≠ 5) (ho : Oth b W w') (hb : Below b W w') :
    w'.cell? ⟨B, 0, none⟩ = some v0 ∧ w'.cell? ⟨B, 1, none⟩ = some v1 ∧ Oth b W w' ∧ Below b W w' := by
  have h1 := h.oth ho hne hT
  exact ⟨by rw [h1.cell]; rfl, by rw [h1.cell]; rfl, ho, hb⟩
theorem sk_step {W p w' : World} {b B : Nat} {v0 v1 : Value} {vs : List Value} {T : TypeId} (h : Blk W B (v0 :: v1 :: vs).toArray T) (hne : B ≠ b) (hT : T ≠ 5)
    (hS : p.cell? ⟨B, 0, none⟩ = some v0 ∧ p.cell? ⟨B, 1, none⟩ = some v1 ∧ Oth b W p ∧ Below b W p) (ho : Oth b p w') (hb : Below b p w') :
    w'.cell? ⟨B, 0, none⟩ = some v0 ∧ w'.cell? ⟨B, 1, none⟩ = some v1 ∧ Oth b W w' ∧ Below b W w' := sk_make h hne hT (hS.2.2.1.trans ho) (hS.2.2.2.trans hb)
theorem sk_dec {W p w' : World} {b B : Nat} {v0 v1 : Value} {vs : List Value} {T : TypeId} (h : Blk W B (v0 :: v1 :: vs).toArray T) (hne : B ≠ b) (hT : T ≠ 5) (hbW : b ≤ W.heap.size)
    (hS : p.cell? ⟨B, 0, none⟩ = some v0 ∧ p.cell? ⟨B, 1, none⟩ = some v1 ∧ Oth b W p ∧ Below b W p) (hb : Below p.heap.size p w') :
    w'.cell? ⟨B, 0, none⟩ = some v0 ∧ w'.cell? ⟨B, 1, none⟩ = some v1 ∧ Oth b W w' ∧ Below b W w' := sk_step h hne hT hS (Oth.of_below hb) (hb.mono (Nat.le_trans hbW hS.2.2.2.size))
end Go.Proofs.YtcjllikngfndhaaDoor

/- diary.Write. -/
namespace Go.Proofs.YtcjllikngfndhaaDoor

open Go.RowKit

theorem kind_cases {c : UInt8} (h : c.toNat = 109 ∨ c.toNat = 99 ∨ c.toNat = 120) : (c = 109 ∧ (c.toNat : Int) = 109) ∨ (c = 99 ∧ (c.toNat : Int) = 99) ∨ (c = 120 ∧ (c.toNat : Int) = 120) := by
  rcases h with h | h | h
  · exact .inl ⟨UInt8.toNat_inj.1 h, by omega⟩
  · exact .inr (.inl ⟨UInt8.toNat_inj.1 h, by omega⟩)
  · exact .inr (.inr ⟨UInt8.toNat_inj.1 h, by omega⟩)

def restW (x : Nt) : Nat → List UInt8
  | 0 => wordL x.src ++ (wordL x.dst ++ (wordL x.tmp ++ [10]))
  | 1 => wordL x.dst ++ (wordL x.tmp ++ [10])
  | 2 => wordL x.tmp ++ [10]
  | _ => [10]
theorem run_idx0 (s d t : ByteArray) (w : World) : (Instr.index 61 (.agg #[.string s, .string d, .string t]) (.int .i64 0)).run Tryd.prog w = .ok (.string s) w := by first | kernel_rfl | rfl
theorem run_idx1 (s d t : ByteArray) (w : World) : (Instr.index 61 (.agg #[.string s, .string d, .string t]) (.int .i64 1)).run Tryd.prog w = .ok (.string d) w := by first | kernel_rfl | rfl
theorem run_idx2 (s d t : ByteArray) (w : World) : (Instr.index 61 (.agg #[.string s, .string d, .string t]) (.int .i64 2)).run Tryd.prog w = .ok (.string t) w := by first | kernel_rfl | rfl
theorem wbK10 (b : Nat) (l : List UInt8) (w : World) (h : BldK b l w) (hl : l.length ≤ 1000000000) :
    Calls Tryd.prog 30 #[.pointer (some ⟨b, 0, none⟩), .int .u8 10] w fun e w' => e = .returned .nilIface ∧ BldK b (l ++ [10]) w' ∧ Below b w w' ∧ Oth b w w' := wbK_any b l 10 w h hl

set_option maxRecDepth 100000 in
set_option maxHeartbeats 8000000 in
theorem write_any (a : Option Addr) (c : Nat) (gs : List Gr) (w : World) (hG : Grs w a c gs) (hO : GOk gs) (hT : (textL (gs.map Gr.p)).length ≤ 10000000) :
    Calls Tryd.prog 15 #[.slice a gs.length c] w fun e w' => e = .returned (.string (str (writeB (gs.map Gr.p)))) ∧ Below w.heap.size w w' := by
  have HG := Lib.hid hG
  have HO := Lib.hid hO
  have hlen : gs.length ≤ 9223372036854775807 := Nat.le_trans hG.sl.2.1 hG.sl.2.2.1
  have HF := Lib.hid (fine_any a c gs w hG hO)
  clear hG hO
  cases hf : fineB (gs.map Gr.p)
  · rw [hf] at HF
    have HV := Lib.hid (show writeB (gs.map Gr.p) = [] by unfold writeB; rw [hf]; rfl)
    clear hf
    go_enter Tryd.func15, Tryd.ntmps15
    go_wp2_with (go_at_call 13; refine HF.out.mono ?_; rintro e w1 ⟨rfl, hb1⟩)
    go_ret
    exact ⟨by rw [HV.out]; rfl, hb1⟩
  · rw [hf] at HF
    have HV := Lib.hid (show writeB (gs.map Gr.p) = textL (gs.map Gr.p) by unfold writeB; rw [hf]; rfl)
    have HAll := Lib.hid (fineB_all hf)
    clear hf
    go_enter Tryd.func15, Tryd.ntmps15
    go_wp2_with (go_at_call 13; refine HF.out.mono ?_; rintro e w1 ⟨rfl, hb1⟩)
    have HB1 := Lib.hid hb1
    have hwb := hb1.size
    have HK0 := Lib.hid (Bld.new w1)
    have HW0 := Lib.hid (balloc hb1 (.cells #[.pointer none, .slice none 0 0] 55))
    have hblt : w1.heap.size < (w1.alloc (.cells #[.pointer none, .slice none 0 0] 55)).heap.size := by simp
    generalize w1.alloc (.cells #[.pointer none, .slice none 0 0] 55) = W0 at HK0 HW0 hblt ⊢
    clear hb1
    generalize w1.heap.size = b at hwb HK0 hblt ⊢
    clear hblt
    go_loopw [15] (fun t15 wr => ∃ (k : Nat) (l : List UInt8), k ≤ gs.length ∧ t15 = .int .i64 k ∧ BldK b l wr ∧ (l = [] → Bld b [] wr) ∧ l ++ textL ((gs.drop k).map Gr.p) = textL (gs.map Gr.p) ∧ Below w.heap.size w wr) (fun t15 _ => gs.length - (intOf t15).toNat)
    case atStart => exact ⟨0, [], Nat.zero_le _, rfl, BldK.of HK0.out, fun _ => HK0.out, rfl, HW0.out⟩
    case round =>
      obtain ⟨k, l, hk, rfl, hK, hK0, htx, hW⟩ := hrel
      have HX := Lib.hid htx
      have HW := Lib.hid hW
      have HK := Lib.hid hK
      have HK0 := Lib.hid hK0
      have hll : l.length ≤ 10000000 := by
        have := congrArg List.length htx
        rw [List.length_append] at this
        omega
      have hbw := hK.lt
      by_cases hlt : k < gs.length
      · have hG2 := HG.out.below hW (Nat.le_refl _)
        obtain ⟨gb, off, rfl⟩ := hG2.addr (by omega)
        obtain ⟨c0, c1, cl⟩ := hG2.cells k hlt
        have hA := hG2.at' gs[k] (List.getElem_mem _)
        have hA0 := HG.out.at' gs[k] (List.getElem_mem _)
        have hOk := Lib.hid (HO.out gs[k] (List.getElem_mem _))
        have HMay := Lib.hid (HAll.out gs[k].p (List.mem_map_of_mem (List.getElem_mem _)))
        have HS := Lib.hid (text_step gs k hlt)
        generalize gs[k] = g at c0 c1 hA hA0 hOk HS HMay
        have hn : g.notes.length ≤ 9223372036854775807 := Nat.le_trans hA.2.1 hA.2.2.1
        have HA := Lib.hid hA0
        have hBg := Blk.new wr #[.slice g.a g.notes.length g.c, .int .u8 g.fin.toNat] 27
        have HX2 := Lib.hid (show (l ++ (ByteArray.mk #[103, 10]).data.toList) ++ (g.notes.flatMap lineL ++ (endL g.fin ++ textL ((gs.drop (k + 1)).map Gr.p))) = textL (gs.map Gr.p) by rw [← HX.out, HS.out]; simp)
        have HK1 := Lib.hid (hK.below (balloc (Below.refl _ _) (.cells #[.slice g.a g.notes.length g.c, .int .u8 g.fin.toNat] 27)))
        have HW1 := Lib.hid (balloc hW (.cells #[.slice g.a g.notes.length g.c, .int .u8 g.fin.toNat] 27))
        have hBgb : wr.heap.size ≠ b := by omega
        have HBg := Lib.hid hBg
        clear hG2 hA hA0 hW htx hK hK0 hBg
        go_wp2_with (go_at_call 27; refine (wsK_any _ _ _ _ HK1.out (by omega) (by decide)).mono ?_; rintro e w2 ⟨rfl, hk2, hb2, ho2⟩; have HBg2 := Lib.hid (HBg.out.oth ho2 hBgb (by decide)); have HK2 := Lib.hid hk2; have HW2 := Lib.hid (HW1.out.trans (hb2.mono hwb)); have hBg2 := HBg2.out; obtain ⟨q0, qf, ql⟩ := hBg2.facts; clear hk2 hb2 ho2 HBg HK1 HW1 hBg2; generalize wr.heap.size = Bg at hBgb HBg2 q0 qf ql ⊢)
        clear q0 qf ql
        go_loopw [23] (fun t23 w3 => ∃ (j : Nat) (l : List UInt8), j ≤ g.notes.length ∧ t23 = .int .i64 j ∧ BldK b l w3 ∧ l ≠ [] ∧ l ++ ((g.notes.drop j).flatMap lineL ++ (endL g.fin ++ textL ((gs.drop (k + 1)).map Gr.p))) = textL (gs.map Gr.p) ∧ Blk w3 Bg #[.slice g.a g.notes.length g.c, .int .u8 g.fin.toNat] 27 ∧ Below w.heap.size w w3) (fun t23 _ => g.notes.length - (intOf t23).toNat)
        case atStart => exact ⟨0, _, Nat.zero_le _, rfl, HK2.out, by simp, HX2.out, HBg2.out, HW2.out⟩
        case round =>
          obtain ⟨j, l, hj, rfl, hK, hl0, htx, hBg, hW⟩ := hrel
          have HX := Lib.hid htx
          have HL0 := Lib.hid hl0
          have HW := Lib.hid hW
          have HK := Lib.hid hK
          have HBg := Lib.hid hBg
          have hll : l.length ≤ 10000000 := by
            have := congrArg List.length htx
            rw [List.length_append] at this
            omega
          have hbw := hK.lt
          have hBgl := hBg.lt
          have hA2 := HA.out.below hW (Nat.le_refl _)
          by_cases hjl : j < g.notes.length
          · obtain ⟨nb, no, hna⟩ := hA2.addr (by omega)
            obtain ⟨d0, d1, d2, d3, d4, dl⟩ := hA2.cells hna j hjl
            have HOkx := Lib.hid (hOk.out g.notes[j] (List.getElem_mem _))
            have HSt := Lib.hid (lines_step g.notes j hjl)
            have HKind := Lib.hid (may_kind (List.all_eq_true.1 HMay.out.1 g.notes[j] (List.getElem_mem _)))
            generalize g.notes[j] = x at d0 d1 d2 d3 d4 HOkx HSt HKind
            clear hA2 hW htx hK hBg hl0
            rw [hna]
            have HNA := Lib.hid hna
            clear hna
            have hBx := Blk.new wr #[.int .u8 x.kind.toNat, .int .i64 x.no, .string x.src, .string x.dst, .string x.tmp] 29
            have HK1 := Lib.hid (HK.out.below (balloc (Below.refl _ _) (.cells #[.int .u8 x.kind.toNat, .int .i64 x.no, .string x.src, .string x.dst, .string x.tmp] 29)))
            have HW1 := Lib.hid (balloc HW.out (.cells #[.int .u8 x.kind.toNat, .int .i64 x.no, .string x.src, .string x.dst, .string x.tmp] 29))
            have HBg1 := Lib.hid (HBg.out.old (.cells #[.int .u8 x.kind.toNat, .int .i64 x.no, .string x.src, .string x.dst, .string x.tmp] 29))
            have hBxb : wr.heap.size ≠ b := by omega
            have hbW : b ≤ (wr.alloc (.cells #[.int .u8 x.kind.toNat, .int .i64 x.no, .string x.src, .string x.dst, .string x.tmp] 29)).heap.size := by simp; omega
            go_wp2_with fail
            generalize wr.alloc (.cells #[.int .u8 x.kind.toNat, .int .i64 x.no, .string x.src, .string x.dst, .string x.tmp] 29) = W at hBx HK1 HW1 HBg1 hbW ⊢
            generalize wr.heap.size = Bx at hBx hBxb ⊢
            obtain ⟨b0, -, bz⟩ := hBx.facts
            have HKd := Lib.hid (show BldK b l W.drew from HK1.out)
            have cD := Lib.hid (fun W => dec_any x.no W HOkx.out.n0 HOkx.out.n1)
            have hDs := word_size (decL_len x.no HOkx.out.n0 HOkx.out.n1).1
            have HDl := Lib.hid (fun c : UInt8 => (show (ByteArray.mk #[c] ++ ByteArray.mk #[32] ++ str (decL x.no)).data.toList = c :: 32 :: decL x.no from by show (str [c] ++ str [32] ++ str (decL x.no)).data.toList = _; rw [str_append, str_append, str_list]; rfl))
            have hz := Lib.hid (fun c : UInt8 => (show (ByteArray.mk #[c] ++ ByteArray.mk #[32] ++ str (decL x.no)).size ≤ 1000000000 from by show (str [c] ++ str [32] ++ str (decL x.no)).size ≤ _; rw [str_append, str_append, str_size]; have := (decL_len x.no HOkx.out.n0 HOkx.out.n1).1; simp; omega))
            generalize str (decL x.no) = D at cD hDs HDl hz
            rcases kind_cases HKind.out with ⟨hkd, hki⟩ | ⟨hkd, hki⟩ | ⟨hkd, hki⟩
            all_goals
              have HKd2 := Lib.hid hkd
              clear hkd
              have hu1 : Utf8.encode (IntKind.i32.wrap 109) = ByteArray.mk #[109] := by first | kernel_rfl | rfl | decide
              have hu2 : Utf8.encode (IntKind.i32.wrap 99) = ByteArray.mk #[99] := by first | kernel_rfl | rfl | decide
              have hu3 : Utf8.encode (IntKind.i32.wrap 120) = ByteArray.mk #[120] := by first | kernel_rfl | rfl | decide
              have hv1 : ¬ 9223372036854775807 < 2 + D.size := by omega
              have hv2 : ¬ 9223372036854775807 < 1 + 1 + D.size := by omega
              go_region_held3 (fun w' => w'.cell? ⟨Bx, 0, none⟩ = some (.int .u8 x.kind.toNat) ∧ w'.cell? ⟨Bx, 1, none⟩ = some (.int .i64 x.no) ∧ Oth b W w' ∧ Below b W w')
                (first | exact sk_make hBx hBxb (by decide) (Lib.OthersKept.refl _ _ _).drew (Below.refl _ _).drew | exact sk_dec hBx hBxb (by decide) hbW (by assumption) hb5 | exact sk_step hBx hBxb (by decide) (by assumption) ho5 hb5)
                (first | (go_at_call 28; refine (cD.out _).mono ?_; rintro e w' ⟨rfl, hb5⟩; have HK2 := Lib.hid (HKd.out.below hb5)) | (go_at_call 27; refine (wsK_any _ _ _ _ HK2.out (by omega) (hz.out _)).mono ?_; rintro e w' ⟨rfl, hk5, hb5, ho5⟩))
              obtain ⟨-, -, hO6, hB6⟩ := ‹_ ∧ _ ∧ Oth b W _ ∧ Below b W _›
              have HK3 := Lib.hid (show BldK b (l ++ (x.kind :: 32 :: decL x.no)) _ from by rw [HKd2.out, ← HDl.out]; exact hk5)
              have HBg3 := Lib.hid (HBg1.out.oth hO6 hBgb (by decide))
              have HW3 := Lib.hid (HW1.out.trans (hB6.mono hwb))
              obtain ⟨r0, rf, rl⟩ := (hBx.oth hO6 hBxb (by decide)).facts
              have HX3 := Lib.hid (show (l ++ (x.kind :: 32 :: decL x.no)) ++ (restW x 0 ++ ((g.notes.drop (j + 1)).flatMap lineL ++ (endL g.fin ++ textL ((gs.drop (k + 1)).map Gr.p)))) = textL (gs.map Gr.p) by rw [← HX.out, HSt.out]; unfold restW; simp [lineL])
              clear hO6 hB6 hk5 hb5 ho5 hu1 hu2 hu3 hv1 hv2
              go_wp2_with fail
              go_loopw [44] (fun t44 w5 => ∃ (i : Nat) (l4 : List UInt8), i ≤ 3 ∧ t44 = .int .i64 i ∧ BldK b l4 w5 ∧ l4 ≠ [] ∧ l4 ++ (restW x i ++ ((g.notes.drop (j + 1)).flatMap lineL ++ (endL g.fin ++ textL ((gs.drop (k + 1)).map Gr.p)))) = textL (gs.map Gr.p) ∧ Blk w5 Bg #[.slice g.a g.notes.length g.c, .int .u8 g.fin.toNat] 27 ∧ Below w.heap.size w w5) (fun t44 _ => 3 - (intOf t44).toNat)
              case atStart => exact ⟨0, _, by omega, rfl, HK3.out, by simp, HX3.out, HBg3.out, HW3.out⟩
              case' round => obtain ⟨i, l4, hi, rfl, hK, hl0, htx, hBg, hW⟩ := hrel
              case' round => have HK4 := Lib.hid hK
              case' round => have HL4 := Lib.hid hl0
              case' round => have HBg4 := Lib.hid hBg
              case' round => have HW4 := Lib.hid hW
              case' round => have hl4 : l4.length ≤ 10000000 := (by have := congrArg List.length htx; rw [List.length_append] at this; omega)
              case' round => have hi0 := run_idx0 x.src x.dst x.tmp
              case' round => have hi1 := run_idx1 x.src x.dst x.tmp
              case' round => have hi2 := run_idx2 x.src x.dst x.tmp
              case' round => rcases (show i = 0 ∨ i = 1 ∨ i = 2 ∨ i = 3 by omega) with rfl | rfl | rfl | rfl
              · have HT3 := Lib.hid htx
                have hs := HOkx.out.src
                have hc := Lib.hid (fun w => encode_any x.src w hs)
                by_cases h0 : x.src.size = 0
                · have HV0 := Lib.hid (show wordL x.src = [] by unfold wordL; rw [if_pos h0])
                  have hn : x.src.toList = [] := by rw [ba_list]; exact List.eq_nil_of_length_eq_zero (by rw [Array.length_toList]; exact h0)
                  clear h0 htx hK hBg hW hl0
                  go_wp2_with fail
                  go_roundw
                  case measure => simp [intOf]
                  case rel => exact ⟨1, l4, by omega, by go_num, HK4.out, HL4.out, by have := HT3.out; unfold restW at this ⊢; rw [HV0.out] at this; exact this, HBg4.out, HW4.out⟩
                · have HV0 := Lib.hid (show wordL x.src = 32 :: encL x.src.data.toList by unfold wordL; rw [if_neg h0])
                  have hn : ¬ x.src.toList = [] := by
                    rw [ba_list]; intro e
                    have : x.src.data.toList.length = x.src.size := Array.length_toList
                    rw [e] at this; simp at this; omega
                  have hn2 : x.src.toList.isEmpty = false := by simpa using hn
                  have hl := encL_len x.src.data.toList
                  rw [show x.src.data.toList.length = x.src.size from Array.length_toList] at hl
                  have hl2 : (str (encL x.src.data.toList)).size ≤ 300000 := by rw [str_size]; omega
                  have HWd := Lib.hid (show (ByteArray.mk #[32] ++ str (encL x.src.data.toList)).data.toList = wordL x.src by rw [HV0.out]; show (str [32] ++ str _).data.toList = _; rw [str_append, str_list]; rfl)
                  have hz2 := Lib.hid (show (ByteArray.mk #[32] ++ str (encL x.src.data.toList)).size ≤ 1000000000 by rw [ByteArray.size_append]; show 1 + _ ≤ _; omega)
                  have hz3 : ¬ 9223372036854775807 < 1 + (str (encL x.src.data.toList)).size := by omega
                  generalize str (encL x.src.data.toList) = E at hc hl2 HWd hz2 hz3
                  clear h0 hl htx hK hBg hW hl0
                  go_wp2_with (first | (go_at_call 29; refine (hc.out _).mono ?_; rintro e w' ⟨rfl, hb5⟩; have HK5 := Lib.hid (HK4.out.below hb5); have HBg5 := Lib.hid (HBg4.out.keep hb5); have HW5 := Lib.hid (bnext HW4.out hb5); clear hb5) | (go_at_call 27; refine (wsK_any _ _ _ _ HK5.out (by omega) hz2.out).mono ?_; rintro e w' ⟨rfl, hk6, hb6, ho6⟩))
                  have HK6 := Lib.hid hk6
                  have HBg6 := Lib.hid (HBg5.out.oth ho6 hBgb (by decide))
                  have HW6 := Lib.hid (HW5.out.trans (hb6.mono hwb))
                  clear hk6 ho6 hb6
                  go_roundw
                  case measure => simp [intOf]
                  case rel => exact ⟨1, _, by omega, by go_num, HK6.out, by simp [HL4.out], by have := HT3.out; unfold restW at this ⊢; rw [HWd.out]; simpa using this, HBg6.out, HW6.out⟩
              · have HT3 := Lib.hid htx
                have hs := HOkx.out.dst
                have hc := Lib.hid (fun w => encode_any x.dst w hs)
                by_cases h0 : x.dst.size = 0
                · have HV0 := Lib.hid (show wordL x.dst = [] by unfold wordL; rw [if_pos h0])
                  have hn : x.dst.toList = [] := by rw [ba_list]; exact List.eq_nil_of_length_eq_zero (by rw [Array.length_toList]; exact h0)
                  clear h0 htx hK hBg hW hl0
                  go_wp2_with fail
                  go_roundw
                  case measure => simp [intOf]
                  case rel => exact ⟨2, l4, by omega, by go_num, HK4.out, HL4.out, by have := HT3.out; unfold restW at this ⊢; rw [HV0.out] at this; exact this, HBg4.out, HW4.out⟩
                · have HV0 := Lib.hid (show wordL x.dst = 32 :: encL x.dst.data.toList by unfold wordL; rw [if_neg h0])
                  have hn : ¬ x.dst.toList = [] := by
                    rw [ba_list]; intro e
                    have : x.dst.data.toList.length = x.dst.size := Array.length_toList
                    rw [e] at this; simp at this; omega
                  have hn2 : x.dst.toList.isEmpty = false := by simpa using hn
                  have hl := encL_len x.dst.data.toList
                  rw [show x.dst.data.toList.length = x.dst.size from Array.length_toList] at hl
                  have hl2 : (str (encL x.dst.data.toList)).size ≤ 300000 := by rw [str_size]; omega
                  have HWd := Lib.hid (show (ByteArray.mk #[32] ++ str (encL x.dst.data.toList)).data.toList = wordL x.dst by rw [HV0.out]; show (str [32] ++ str _).data.toList = _; rw [str_append, str_list]; rfl)
                  have hz2 := Lib.hid (show (ByteArray.mk #[32] ++ str (encL x.dst.data.toList)).size ≤ 1000000000 by rw [ByteArray.size_append]; show 1 + _ ≤ _; omega)
                  have hz3 : ¬ 9223372036854775807 < 1 + (str (encL x.dst.data.toList)).size := by omega
                  generalize str (encL x.dst.data.toList) = E at hc hl2 HWd hz2 hz3
                  clear h0 hl htx hK hBg hW hl0
                  go_wp2_with (first | (go_at_call 29; refine (hc.out _).mono ?_; rintro e w' ⟨rfl, hb5⟩; have HK5 := Lib.hid (HK4.out.below hb5); have HBg5 := Lib.hid (HBg4.out.keep hb5); have HW5 := Lib.hid (bnext HW4.out hb5); clear hb5) | (go_at_call 27; refine (wsK_any _ _ _ _ HK5.out (by omega) hz2.out).mono ?_; rintro e w' ⟨rfl, hk6, hb6, ho6⟩))
                  have HK6 := Lib.hid hk6
                  have HBg6 := Lib.hid (HBg5.out.oth ho6 hBgb (by decide))
                  have HW6 := Lib.hid (HW5.out.trans (hb6.mono hwb))
                  clear hk6 ho6 hb6
                  go_roundw
                  case measure => simp [intOf]
                  case rel => exact ⟨2, _, by omega, by go_num, HK6.out, by simp [HL4.out], by have := HT3.out; unfold restW at this ⊢; rw [HWd.out]; simpa using this, HBg6.out, HW6.out⟩
              · have HT3 := Lib.hid htx
                have hs := HOkx.out.tmp
                have hc := Lib.hid (fun w => encode_any x.tmp w hs)
                by_cases h0 : x.tmp.size = 0
                · have HV0 := Lib.hid (show wordL x.tmp = [] by unfold wordL; rw [if_pos h0])
                  have hn : x.tmp.toList = [] := by rw [ba_list]; exact List.eq_nil_of_length_eq_zero (by rw [Array.length_toList]; exact h0)
                  clear h0 htx hK hBg hW hl0
                  go_wp2_with fail
                  go_roundw
                  case measure => simp [intOf]
                  case rel => exact ⟨3, l4, by omega, by go_num, HK4.out, HL4.out, by have := HT3.out; unfold restW at this ⊢; rw [HV0.out] at this; exact this, HBg4.out, HW4.out⟩
                · have HV0 := Lib.hid (show wordL x.tmp = 32 :: encL x.tmp.data.toList by unfold wordL; rw [if_neg h0])
                  have hn : ¬ x.tmp.toList = [] := by
                    rw [ba_list]; intro e
                    have : x.tmp.data.toList.length = x.tmp.size := Array.length_toList
                    rw [e] at this; simp at this; omega
                  have hn2 : x.tmp.toList.isEmpty = false := by simpa using hn
                  have hl := encL_len x.tmp.data.toList
                  rw [show x.tmp.data.toList.length = x.tmp.size from Array.length_toList] at hl
                  have hl2 : (str (encL x.tmp.data.toList)).size ≤ 300000 := by rw [str_size]; omega
                  have HWd := Lib.hid (show (ByteArray.mk #[32] ++ str (encL x.tmp.data.toList)).data.toList = wordL x.tmp by rw [HV0.out]; show (str [32] ++ str _).data.toList = _; rw [str_append, str_list]; rfl)
                  have hz2 := Lib.hid (show (ByteArray.mk #[32] ++ str (encL x.tmp.data.toList)).size ≤ 1000000000 by rw [ByteArray.size_append]; show 1 + _ ≤ _; omega)
                  have hz3 : ¬ 9223372036854775807 < 1 + (str (encL x.tmp.data.toList)).size := by omega
                  generalize str (encL x.tmp.data.toList) = E at hc hl2 HWd hz2 hz3
                  clear h0 hl htx hK hBg hW hl0
                  go_wp2_with (first | (go_at_call 29; refine (hc.out _).mono ?_; rintro e w' ⟨rfl, hb5⟩; have HK5 := Lib.hid (HK4.out.below hb5); have HBg5 := Lib.hid (HBg4.out.keep hb5); have HW5 := Lib.hid (bnext HW4.out hb5); clear hb5) | (go_at_call 27; refine (wsK_any _ _ _ _ HK5.out (by omega) hz2.out).mono ?_; rintro e w' ⟨rfl, hk6, hb6, ho6⟩))
                  have HK6 := Lib.hid hk6
                  have HBg6 := Lib.hid (HBg5.out.oth ho6 hBgb (by decide))
                  have HW6 := Lib.hid (HW5.out.trans (hb6.mono hwb))
                  clear hk6 ho6 hb6
                  go_roundw
                  case measure => simp [intOf]
                  case rel => exact ⟨3, _, by omega, by go_num, HK6.out, by simp [HL4.out], by have := HT3.out; unfold restW at this ⊢; rw [HWd.out]; simpa using this, HBg6.out, HW6.out⟩
              · have HT3 := Lib.hid htx
                clear htx hK hBg hW hl0
                go_wp2_with (go_at_call 30; refine (wbK10 _ _ _ HK4.out (by omega)).mono ?_; rintro e w' ⟨rfl, hk6, hb6, ho6⟩)
                have HK6 := Lib.hid hk6
                have HBg6 := Lib.hid (HBg4.out.oth ho6 hBgb (by decide))
                have HW6 := Lib.hid (HW4.out.trans (hb6.mono hwb))
                clear hk6 ho6 hb6
                go_roundw
                case measure => simp [intOf]; omega
                case rel => exact ⟨j + 1, _, by omega, by go_num, HK6.out, by simp, by rw [← HT3.out]; unfold restW; simp, by first | exact HBg6.out | (rw [← HNA.out]; exact HBg6.out), HW6.out⟩
          · obtain rfl : j = g.notes.length := by omega
            obtain ⟨q0, qf, ql⟩ := hBg.facts
            have HX3 := Lib.hid (show l ++ (endL g.fin ++ textL ((gs.drop (k + 1)).map Gr.p)) = textL (gs.map Gr.p) by have := HX.out; simpa using this)
            have HFin := Lib.hid (show g.fin.toNat = 101 ∨ g.fin.toNat = 0 ∨ g.fin.toNat = 100 ∨ g.fin.toNat = 117 from HMay.out.2.2)
            clear hA2 hW htx hK hBg hl0
            have hu1 : Utf8.encode (IntKind.i32.wrap 101) = ByteArray.mk #[101] := by first | kernel_rfl | rfl | decide
            have hu2 : Utf8.encode (IntKind.i32.wrap 100) = ByteArray.mk #[100] := by first | kernel_rfl | rfl | decide
            have hu3 : Utf8.encode (IntKind.i32.wrap 117) = ByteArray.mk #[117] := by first | kernel_rfl | rfl | decide
            rcases HFin.out with hf | hf | hf | hf
            case' inr.inl =>
              have hki : (g.fin.toNat : Int) = 0 := by omega
              have HE := Lib.hid (show endL g.fin = [] by unfold endL; rw [if_pos hf])
              clear hf
              go_wp2_with fail
              go_roundw
              case measure => simp [intOf]; omega
              case rel => exact ⟨k + 1, l, by omega, by go_num, HK.out, fun e => absurd e HL0.out, by have := HX3.out; rw [HE.out] at this; exact this, HW.out⟩
            case' inl =>
              have hki : (g.fin.toNat : Int) = 101 := by omega
              have HE := Lib.hid (show endL g.fin = [101, 10] by unfold endL; rw [if_neg (by omega), show g.fin = 101 from UInt8.toNat_inj.1 hf])
              clear hf
              go_wp2_with (go_at_call 27; refine (wsK_any _ _ _ _ HK.out (by omega) (by first | decide | (rw [ByteArray.size_append]; decide))).mono ?_; rintro e w' ⟨rfl, hk6, hb6, ho6⟩)
              have HK6 := Lib.hid hk6
              have HW6 := Lib.hid (HW.out.trans (hb6.mono hwb))
              clear hk6 ho6 hb6
              go_roundw
              case measure => simp [intOf]; omega
              case rel => exact ⟨k + 1, _, by omega, by go_num, HK6.out, fun e => absurd (List.append_eq_nil_iff.1 e).1 HL0.out, by have := HX3.out; rw [HE.out] at this; rw [← this]; simp; try rfl, HW6.out⟩
            case' inr.inr.inl =>
              have hki : (g.fin.toNat : Int) = 100 := by omega
              have HE := Lib.hid (show endL g.fin = [100, 10] by unfold endL; rw [if_neg (by omega), show g.fin = 100 from UInt8.toNat_inj.1 hf])
              clear hf
              go_wp2_with (go_at_call 27; refine (wsK_any _ _ _ _ HK.out (by omega) (by first | decide | (rw [ByteArray.size_append]; decide))).mono ?_; rintro e w' ⟨rfl, hk6, hb6, ho6⟩)
              have HK6 := Lib.hid hk6
              have HW6 := Lib.hid (HW.out.trans (hb6.mono hwb))
              clear hk6 ho6 hb6
              go_roundw
              case measure => simp [intOf]; omega
              case rel => exact ⟨k + 1, _, by omega, by go_num, HK6.out, fun e => absurd (List.append_eq_nil_iff.1 e).1 HL0.out, by have := HX3.out; rw [HE.out] at this; rw [← this]; simp; try rfl, HW6.out⟩
            case' inr.inr.inr =>
              have hki : (g.fin.toNat : Int) = 117 := by omega
              have HE := Lib.hid (show endL g.fin = [117, 10] by unfold endL; rw [if_neg (by omega), show g.fin = 117 from UInt8.toNat_inj.1 hf])
              clear hf
              go_wp2_with (go_at_call 27; refine (wsK_any _ _ _ _ HK.out (by omega) (by first | decide | (rw [ByteArray.size_append]; decide))).mono ?_; rintro e w' ⟨rfl, hk6, hb6, ho6⟩)
              have HK6 := Lib.hid hk6
              have HW6 := Lib.hid (HW.out.trans (hb6.mono hwb))
              clear hk6 ho6 hb6
              go_roundw
              case measure => simp [intOf]; omega
              case rel => exact ⟨k + 1, _, by omega, by go_num, HK6.out, fun e => absurd (List.append_eq_nil_iff.1 e).1 HL0.out, by have := HX3.out; rw [HE.out] at this; rw [← this]; simp; try rfl, HW6.out⟩
      · obtain rfl : k = gs.length := by omega
        have HX2 := Lib.hid (show l = textL (gs.map Gr.p) by have := HX.out; rw [text_end, List.append_nil] at this; exact this)
        clear hK hK0 htx
        by_cases hl0 : l = []
        · subst hl0
          have HKE := Lib.hid (HK0.out rfl)
          go_wp2_with (go_at_call 31; refine (bs_any _ _ _ HKE.out).mono ?_; rintro e w2 ⟨rfl, hb2⟩)
          go_ret
          exact ⟨by rw [HV.out, ← HX2.out]; rfl, HW.out.trans (hb2.mono hwb)⟩
        · have HL0 := Lib.hid hl0
          clear hl0
          go_wp2_with (go_at_call 31; refine (bsK_any _ _ _ HK.out HL0.out).mono ?_; rintro e w2 ⟨rfl, hb2⟩)
          go_ret
          exact ⟨by rw [HV.out, ← HX2.out]; rfl, HW.out.trans (hb2.mono hwb)⟩
end Go.Proofs.YtcjllikngfndhaaDoor

/- A region that draws its order inside a round of a range over a function: first what only reads, then a chain of operations. No program in sight. -/
namespace Go.Proofs.YtcjllikngfndhaaDoor

open Go

/-- no operation defers. -/
def noDefer (ops : Array Oper) : Bool := ops.all fun o => match o.op with | .defer _ => false | _ => true
theorem noDefer_spec {ops : Array Oper} (h : noDefer ops = true) {i : Nat} {o : Oper} (hi : ops[i]? = some o) : ∀ c, o.op ≠ .defer c := by
  intro c hc
  unfold noDefer at h
  rw [Array.all_eq_true] at h
  obtain ⟨hlt, rfl⟩ := Array.getElem?_eq_some_iff.1 hi
  have := h i hlt
  rw [hc] at this
  cases this

section

variable {P : Program} {ops : Array Oper} {md : Region.Mode} {w : World} {l : Nat} {n : Nat}

theorem wpIn_of_still {o : Oper} (hd : ∀ c, o.op ≠ .defer c) {a : Act} {K : Act → Prop} {K' : Act → World → Prop} {Q' : Exit → Act → World → Prop} (h : ∀ a, K a → K' a w) (hh : o.still P a w K) :
    o.wpIn (Fence.wide.inRound l) n P a w K' Q' := by
  unfold Oper.still at hh
  unfold Oper.wpIn
  refine ⟨fun _ _ => trivial, ?_⟩
  rw [Fence.inRound_round, Oper.semAt_some l _ o hd]
  generalize (execOp a.eval o).run P w = r at *
  cases r with
  | ok m w' =>
    cases m <;> simp only [Oper.stillUpon] at hh <;> simp only [Oper.uponIn]
    case enter f args =>
      obtain ⟨rfl, v, hc, hn⟩ := hh
      refine ⟨fun h => by simp [Fence.wide] at h, ?_⟩
      refine CallsIn.inRound l ?_
      exact callsIn_wide.2 (hc.mono fun e w'' ⟨he, hw⟩ => by subst he; subst hw; exact h _ hn)
    all_goals (obtain ⟨rfl, h2⟩ := hh; exact h _ h2)
  | halt x w' => simp only [Oper.stillUpon] at hh

theorem wpOpIn_of_stOp (hd : noDefer ops = true) {i : Nat} {a : Act} {K : Act → Prop} {K' : Act → World → Prop} {Q' : Exit → Act → World → Prop} (h : ∀ a, K a → K' a w) (hh : stOp P ops w i K a) :
    wpOpIn (Fence.wide.inRound l) n P ops Q' i K' a w := by
  unfold stOp at hh
  unfold wpOpIn
  split
  · rename_i ho; simp only [ho] at hh; exact h _ hh
  · rename_i o ho
    simp only [ho] at hh
    split
    · rename_i hw; simp only [hw, if_true] at hh; exact wpIn_of_still (noDefer_spec hd ho) h hh
    · rename_i hw; simp only [hw] at hh; exact ⟨fun _ _ => trivial, h _ hh⟩

theorem wpAnyIn_of_head (hd : noDefer ops = true) {k g : Nat} {L : Array Bool → Act → Prop} {Q' : Exit → Act → World → Prop} (hL : ∀ listed a, L listed a → wpAnyIn (Fence.wide.inRound l) n P md ops Q' g listed a w) :
    ∀ (f : Nat) (listed : Array Bool) (a : Act), wpAnyL P md ops w k L f listed a → wpAnyIn (Fence.wide.inRound l) n P md ops Q' (f + g) listed a w
  | 0, listed, a, h => by rw [Nat.zero_add]; exact hL _ _ h
  | f + 1, listed, a, h => by
    rw [show f + 1 + g = (f + g) + 1 by omega]
    exact ⟨fun h0 => absurd h0 h.1, fun i hi => wpOpIn_of_stOp hd (fun a' h' => wpAnyIn_of_head hd hL f _ a' h') (h.2 i hi).2⟩

theorem wpAnyIn_of_seq {F : Fence} {Q' : Exit → Act → World → Prop} : ∀ (l : List Oper) (k : Nat) (listed : Array Bool) (a : Act) (w : World), (∀ j, l[j]? = ops[k + j]?) →
    Region.seqB md ops l.length k listed = true → wpListIn F n P ops Q' l a w → wpAnyIn F n P md ops Q' l.length listed a w
  | [], _, _, _, _, _, hB, h => ⟨by simpa [Region.seqB] using hB, h⟩
  | o :: l, k, listed, a, w, hl, hB, h => by
    have h0 : ops[k]? = some o := by simpa using (hl 0).symm
    simp only [List.length_cons, Region.seqB, Bool.and_eq_true, decide_eq_true_eq] at hB
    refine ⟨fun h1 => (by rw [hB.1] at h1; cases h1), fun i hi => ?_⟩
    rw [hB.1] at hi
    have hik : i = k := by simpa using hi
    subst hik
    have hw : wpOpIn F n P ops Q' i (wpListIn F n P ops Q' l) a w := by unfold wpOpIn; simp only [h0]; exact h
    exact wpOpIn_mono (fun a' w' h' => wpAnyIn_of_seq l (i + 1) _ a' w' (fun j => by have := hl (j + 1); simpa [Nat.add_assoc, Nat.add_comm 1 j] using this) hB.2 h') hw

/-- The first k operations only read; behind them each waits for the one ahead. -/
theorem wpIn_region_still_tail {id : Nat} {Q : Exit → Act → World → Prop} {a : Act} {w : World} {L : List Oper} (k : Nat) (hm : P.follows .mixedOrders = true) (hd : noDefer L.toArray = true) (hB : Region.lexTailB .any L.toArray k = true)
    (h : wpStill P L.toArray w.drew (fun a' => wpListIn (Fence.wide.inRound l) n P L.toArray Q (L.drop k) a' w.drew) (L.take k) a) : (Code.region id L.toArray true).wpIn (Fence.wide.inRound l) n P Q a w := by
  simp only [Region.lexTailB, Bool.and_eq_true, decide_eq_true_eq] at hB
  obtain ⟨⟨⟨⟨hsel, hn⟩, hs⟩, hc⟩, hlex⟩ := hB
  have hn' : k < L.length := by simpa using hn
  have htl : (L.take k).length = k := by simp; omega
  have hdl : (L.drop k).length = L.toArray.size - k := by simp
  have inv0 : HeadInv .any L.toArray k (Array.replicate L.toArray.size false) :=
    ⟨by simp, fun j oj _ hl => (by rw [getD_replicate_false] at hl; cases hl), fun t _ ht => getD_in (by simpa using ht) (getD_replicate_false _ _)⟩
  have H := wpAnyL_lex (md := .any) (g := L.toArray.size - k) hsel hs hc hn (L.take k) 0 _ a (fun j hj => by
    have hj' : j < k := by rw [htl] at hj; exact hj
    simp [hj']) (by simpa using htl) inv0 (by rw [htl]; exact hlex) h
  refine wpIn_region_any hm ?_
  have := wpAnyIn_of_head (l := l) (n := n) hd (Q' := Q) (g := L.toArray.size - k) (fun listed a' hL => by
    have := wpAnyIn_of_seq (F := Fence.wide.inRound l) (n := n) (md := .any) (Q' := Q) (L.drop k) k listed a' w.drew (fun j => by simp [List.getElem?_drop]) (by rw [hdl]; exact hL.1) hL.2
    rwa [hdl] at this) _ _ _ H
  rw [htl, show k + (L.toArray.size - k) = L.toArray.size by omega] at this
  exact this
end

end Go.Proofs.YtcjllikngfndhaaDoor

/- A region that draws its order inside a round of a range over a function: by the laws for regions outside. No program in sight. -/
namespace Go.Proofs.YtcjllikngfndhaaDoor

open Go

section

variable {P : Program} {ops : Array Oper} {md : Region.Mode} {l : Nat} {n : Nat} {Q : Exit → Act → World → Prop}

theorem rowsIn_of {row : String} {args : Array Value} {w : World} {R : Value → World → Prop} (h : Rows P row args w R) : RowsIn Fence.wide n P row args w R :=
  fun c cs _ => let ⟨v, w', r, s⟩ := h c cs; ⟨v, w', r, stepsIn_wide.2 s⟩
theorem operIn_of {o : Oper} (hd : ∀ c, o.op ≠ .defer c) {a : Act} {w : World} {K K' : Act → World → Prop} (hK : ∀ a w, K a w → K' a w) (h : o.wp P a w K Q) : o.wpIn (Fence.wide.inRound l) n P a w K' Q := by
  unfold Oper.wp at h
  unfold Oper.wpIn
  refine ⟨fun _ _ => trivial, ?_⟩
  rw [Fence.inRound_round, Oper.semAt_some l _ o hd]
  generalize (execOp a.eval o).run P w = r at *
  cases r with
  | ok m w' =>
    cases m with
    | value v => exact hK _ _ h
    | skip => exact hK _ _ h
    | defer d => exact hK _ _ h
    | enter f args =>
      refine ⟨fun h => by simp [Fence.wide] at h, ?_⟩
      refine CallsIn.inRound l (callsIn_wide.2 (Calls.mono h fun e w'' he => ?_))
      cases e with
      | returned v => exact hK _ _ he
      | panicked c => exact he
      | outgrown => exact he
    | row row args =>
      refine ⟨fun h => by simp [Fence.wide] at h, ?_⟩
      exact (rowsIn_of h).mono fun v w'' hv => hK _ _ hv
    | _ => exact h.elim
  | halt x w' =>
    cases x with
    | panic v => exact h
    | _ => exact h.elim
theorem anyIn_of (hd : noDefer ops = true) (hno : ¬ LetsOut Q) : ∀ (fuel : Nat) (listed : Array Bool) (a : Act) (w : World), wpAny P md ops Q fuel listed a w → wpAnyIn (Fence.wide.inRound l) n P md ops Q fuel listed a w
  | 0, _, _, _, h => h
  | fuel + 1, listed, a, w, h => by
    refine ⟨h.1, fun i hi => ?_⟩
    have h2 := h.2 i hi
    unfold wpOp at h2
    unfold wpOpIn
    cases ho : ops[i]? with
    | none => rw [ho] at h2; exact anyIn_of hd hno fuel _ _ _ h2
    | some o =>
      rw [ho] at h2
      simp only at h2 ⊢
      split
      · rename_i hw
        rw [if_pos hw] at h2
        rcases h2 with h2 | ⟨-, h2⟩
        · exact operIn_of (noDefer_spec hd ho) (fun a w h => anyIn_of hd hno fuel _ a w h) h2
        · exact absurd h2 hno
      · rename_i hw
        rw [if_neg hw] at h2
        exact ⟨fun _ _ => trivial, anyIn_of hd hno fuel _ _ _ h2⟩
/-- such a region, S being kept. -/
theorem wpIn_region_held_round {S : World → Prop} {id : Nat} {a : Act} {w : World} (hm : P.follows .mixedOrders = true) (hd : noDefer ops = true) (hno : ¬ LetsOut Q) (hS : S w.drew)
    (h : S w.drew → wpAnyH P .any ops Q S ops.size (Array.replicate ops.size false) a w.drew) : (Code.region id ops true).wpIn (Fence.wide.inRound l) n P Q a w :=
  wpIn_region_any hm (anyIn_of hd hno _ _ _ _ (wpAny_of_held _ _ _ _ (h hS)))
section

variable {S : World → Prop} {oi : Oper} {fuel : Nat} {listed : Array Bool} {tmps : Array Value} {defers : List Deferred} {w W : World} {v : Value}

/-- an operation that comes up alone, whose run is known. -/
theorem reg_alone (i d : Nat) (hr : Region.ready md ops listed = [i]) (hi : ops[i]? = some oi) (hd : oi.dst = some d) (hw : Region.wanted oi (yielded ops tmps) = true)
    (he : (execOp (Act.eval { tmps, defers }) oi).run P w = .ok (.value v) W) (hS : S W) (h : wpAnyH P md ops Q S fuel (listed.setIfInBounds i true) { tmps := tmps.setIfInBounds d v, defers } W) : wpAnyH P md ops Q S (fuel + 1) listed { tmps, defers } w := by
  refine wpAnyH_ready hr (by simp) (AllReadyH.cons hi (fun K hK => ?_) AllReadyH.nil)
  rw [if_pos hw]
  unfold Oper.wp
  rw [he]
  refine hK.out _ _ hS (fun _ => ?_)
  rw [hd]
  exact h
/-- two operations that come up side by side, whose runs are known. -/
theorem reg_two (i di j dj : Nat) {oj : Oper} {vj : Value} (hr : Region.ready md ops listed = [i, j]) (hi : ops[i]? = some oi) (hj : ops[j]? = some oj) (hdi : oi.dst = some di) (hdj : oj.dst = some dj)
    (hwi : Region.wanted oi (yielded ops tmps) = true) (hwj : Region.wanted oj (yielded ops tmps) = true) {Wi : World}
    (hei : (execOp (Act.eval { tmps, defers }) oi).run P w = .ok (.value v) Wi) (hej : (execOp (Act.eval { tmps, defers }) oj).run P w = .ok (.value vj) W) (hSi : S Wi) (hSj : S W)
    (h1 : wpAnyH P md ops Q S fuel (listed.setIfInBounds i true) { tmps := tmps.setIfInBounds di v, defers } Wi) (h2 : wpAnyH P md ops Q S fuel (listed.setIfInBounds j true) { tmps := tmps.setIfInBounds dj vj, defers } W) :
    wpAnyH P md ops Q S (fuel + 1) listed { tmps, defers } w := by
  refine wpAnyH_ready hr (by simp) (AllReadyH.cons hi (fun K hK => ?_) (AllReadyH.cons hj (fun K hK => ?_) AllReadyH.nil))
  · rw [if_pos hwi]
    unfold Oper.wp
    rw [hei]
    refine hK.out _ _ hSi (fun _ => ?_)
    rw [hdi]
    exact h1
  · rw [if_pos hwj]
    unfold Oper.wp
    rw [hej]
    refine hK.out _ _ hSj (fun _ => ?_)
    rw [hdj]
    exact h2
/-- an append that comes up alone. -/
theorem reg_app (i d : Nat) {y r : Value} {s x : Operand} {t : TypeId} (hr : Region.ready md ops listed = [i]) (hi : ops[i]? = some oi) (hd : oi.dst = some d)
    (hgd : oi.guard = none) (ho : oi.op = .call { callee := .builtin .append, args := #[s, x], argTypes := #[t, t] }) (hs : (Act.eval { tmps, defers }) s = v) (hx : (Act.eval { tmps, defers }) x = y)
    (hrun : (Builtin.append_ #[t, t] oi.type #[v, y]).run P w = .ok r W) (hS : S W)
    (h : wpAnyH P md ops Q S fuel (listed.setIfInBounds i true) { tmps := tmps.setIfInBounds d r, defers } W) : wpAnyH P md ops Q S (fuel + 1) listed { tmps, defers } w := by
  refine reg_alone i d hr hi hd (by simp [Region.wanted, hgd]) ?_ hS h
  unfold execOp
  simp only [ho, resolve, invoke, builtin, Sem.run_bind, Sem.run_pure, Result.andThen_ok, List.map_toArray, List.map_cons, List.map_nil, hs, hx, hrun]
/-- a store that comes up alone. -/
theorem reg_store (i : Nat) (hr : Region.ready md ops listed = [i]) (hi : ops[i]? = some oi) (hd : oi.dst = none) (hw : Region.wanted oi (yielded ops tmps) = true)
    (he : (execOp (Act.eval { tmps, defers }) oi).run P w = .ok (.skip) W) (hS : S W) (h : wpAnyH P md ops Q S fuel (listed.setIfInBounds i true) { tmps, defers } W) : wpAnyH P md ops Q S (fuel + 1) listed { tmps, defers } w := by
  refine wpAnyH_ready hr (by simp) (AllReadyH.cons hi (fun K hK => ?_) AllReadyH.nil)
  rw [if_pos hw]
  unfold Oper.wp
  rw [he]
  refine hK.out _ _ hS (fun _ => ?_)
  rw [hd]
  exact h
end

end

end Go.Proofs.YtcjllikngfndhaaDoor

/- diary.Parse. -/
namespace Go.Proofs.YtcjllikngfndhaaDoor

open Go.RowKit Go.Shelf

attribute [local go_sem] Oper.semAt_some

theorem Blk.turn {T : Nat → Prop} {N B : Nat} {vs : Array Value} {ty : TypeId} {w w' : World} (h : Blk w B vs ty) (ht : Turn T N notCells w w') (hT : ¬ T B) : Blk w' B vs ty := ht.block B _ h hT (fun _ => rfl)
theorem OG.turn2 {T : Nat → Prop} {base : Nat} {v : Value} {gs : List Gr} {w w' : World} (h : OG w base v gs) {N : Nat} (ht : Turn T N notCells w w') (hT : ∀ k, T k → k < base) : OG w' base v gs :=
  h.turn fun k cur ty hk hc => ht.block k _ hc (fun h => by have := hT k h; omega) (fun _ => rfl)
theorem below_turn {T : Nat → Prop} {N M : Nat} {w0 w w' : World} (h : Below M w0 w) (ht : Turn T N notCells w w') (hN : M ≤ N) (hT : ∀ k, T k → M ≤ k) (hM : M ≤ w0.heap.size) : Below M w0 w' := by
  refine ⟨ht.os.trans h.os, ht.tape.trans h.tape, ht.output.trans h.output, Nat.le_trans h.size ht.size, fun k hk => ?_⟩
  obtain ⟨o, ho⟩ : ∃ o, w0.heap[k]? = some o := ⟨w0.heap[k]'(by omega), Array.getElem?_eq_getElem _⟩
  have h1 := (h.block k hk).trans ho
  rw [ht.block k o h1 (fun h => by have := hT k h; omega) (fun h => by omega), ho]
/-- what lies between two rounds of diary.Parse. -/
structure PI (w : World) (h base : Nat) (s : ByteArray) (pre : List (List UInt8)) (W : World) : Prop where
  b1 : Blk W h #[.string s] 9
  b2 : Blk W (h + 1) #[.slice none 0 0] 22
  b3 : Blk W (h + 2) #[.int .i64 0] 32
  out : ∃ v gs, Blk W (h + 3) #[v] 22 ∧ OG W base v gs ∧ pre.foldlM stepP [] = some (gs.map Gr.p)
  some' : pre = [] ∨ s.size ≠ 0
  hB : Below w.heap.size w W
/-- how a round may leave. -/
structure PX (w : World) (h : Nat) (s : ByteArray) (c : Code) (W : World) : Prop where
  c : c = .ret
  b : ∃ e : Int, Blk W (h + 1) #[.slice none 0 0] 22 ∧ Blk W (h + 2) #[.int .i64 e] 32 ∧ ((parseP s.data.toList = none ∧ e = 2) ∨ (parseP s.data.toList = some [] ∧ e = 0))
  hB : Below w.heap.size w W

theorem wpListIn_app_run {F : Fence} {n : Nat} {P : Program} {ops : Array Oper} {rest : List Oper} {o : Oper} {a : Act} {w W : World} {Q : Exit → Act → World → Prop} {s x : Operand} {t : TypeId} {v y r : Value}
    (hgd : o.guard = none) (ho : o.op = .call { callee := .builtin .append, args := #[s, x], argTypes := #[t, t] }) (hs : a.eval s = v) (hx : a.eval x = y)
    (hrun : (Builtin.append_ #[t, t] o.type #[v, y]).run P w = .ok r W) (h : wpListIn F n P ops Q rest (a.put o.dst r) W) : wpListIn F n P ops Q (o :: rest) a w :=
  wpListIn_plain hgd fun K hK => by
    unfold Oper.wpIn
    refine ⟨by simp [Oper.about, ho, resolve, Target.leads, Sem.run_pure], ?_⟩
    rw [Oper.semAt_plain F _ _ (by rw [ho]; intro c hc; cases hc)]
    simp [execOp, ho, resolve, invoke, builtin, hs, hx, hrun, Result.andThen]
    exact hK _ _ h
theorem pp_leave {N h : Nat} {s : ByteArray} {w W : World} {v2 v3 : Value} (b2 : Blk W (h + 1) #[v2] 22) (b3 : Blk W (h + 2) #[v3] 32) (hB : Below w.heap.size w W) (hh : w.heap.size ≤ h) (e : Int)
    (hr : (parseP s.data.toList = none ∧ e = 2) ∨ (parseP s.data.toList = some [] ∧ e = 0)) : KeepsFrom N W ((W.setCell ⟨h + 1, 0, none⟩ (.slice none 0 0)).setCell ⟨h + 1 + 1, 0, none⟩ (.int .i64 e)) ∧ PX w h s .ret ((W.setCell ⟨h + 1, 0, none⟩ (.slice none 0 0)).setCell ⟨h + 1 + 1, 0, none⟩ (.int .i64 e)) :=
  ⟨((KeepsOthers.setCell _ _ _).trans (KeepsOthers.setCell _ _ _)).from _, rfl, ⟨e, (b2.set 0 _).setOther _ _ (by simp), (b3.setOther _ _ (by simp)).set 0 _, hr⟩,
    (hB.setCell (show w.heap.size ≤ h + 1 by omega) _).setCell (show w.heap.size ≤ h + 1 + 1 by omega) _⟩
/-- a round that goes on. -/
theorem pp_next {w W1 W W' : World} {s : ByteArray} {xs : List (List UInt8)} {v2 : Value} (hW : W1.heap.size ≤ W.heap.size) (hz1 : W1.heap.size = w.heap.size + 4 + 3) (hK : KeepsFrom W1.heap.size W W') (hb : Below W1.heap.size W W')
    (b1 : Blk W w.heap.size #[.string s] 9) (b2 : Blk W (w.heap.size + 1) #[.slice none 0 0] 22) (b3 : Blk W (w.heap.size + 2) #[.int .i64 0] 32) (b4 : Blk W' (w.heap.size + 3) #[v2] 22) (hB : Below w.heap.size w W)
    (v : Value) (gs : List Gr) (hG : OG W' W1.heap.size v gs) (hf : xs.foldlM stepP [] = some (gs.map Gr.p)) (h0 : s.size ≠ 0) :
    KeepsFrom W1.heap.size W (W'.setCell ⟨w.heap.size + 1 + 1 + 1, 0, none⟩ v) ∧ KT (fun k => k = w.heap.size + 4 ∨ k = w.heap.size + 4 + 1 ∨ k = w.heap.size + 4 + 2) W (W'.setCell ⟨w.heap.size + 1 + 1 + 1, 0, none⟩ v) ∧
      PI w w.heap.size W1.heap.size s xs (W'.setCell ⟨w.heap.size + 1 + 1 + 1, 0, none⟩ v) := by
  have hm := (Mod.refl (fun k => k = w.heap.size + 3) W').setCell (a := ⟨w.heap.size + 1 + 1 + 1, 0, none⟩) (.inl rfl) v
  refine ⟨⟨Nat.le_trans hK.size hm.size, fun k o hk h1 h2 => (KeepsOthers.setCell _ _ _).same k o (hK.same k o hk h1 h2) h2⟩, ⟨Nat.le_trans hb.size hm.size, fun k hk => ?_⟩, ?_⟩
  · rw [hm.block k (by have := hb.size; omega) (by omega)]
    exact hb.block k (by omega)
  · refine ⟨(b1.keepB hb (by omega)).mod hm (by omega), (b2.keepB hb (by omega)).mod hm (by omega), (b3.keepB hb (by omega)).mod hm (by omega), ⟨v, gs, b4.set 0 v, ?_, hf⟩, .inr h0, ?_⟩
    · exact hG.turn fun k cur T hk hc => (hm.block k (Array.getElem?_eq_some_iff.1 hc).1 (by omega)).trans hc
    · exact (hB.trans (hb.mono (by omega))).setCell (show w.heap.size ≤ w.heap.size + 1 + 1 + 1 by omega) _
/-- a round that goes on, the groups' variable as it was. -/
theorem pp_go {w W1 W W' : World} {s : ByteArray} {xs : List (List UInt8)} {v : Value} (hW : W1.heap.size ≤ W.heap.size) (hz1 : W1.heap.size = w.heap.size + 4 + 3) (hK : KeepsFrom W1.heap.size W W') (hb : Below W1.heap.size W W')
    (b1 : Blk W w.heap.size #[.string s] 9) (b2 : Blk W (w.heap.size + 1) #[.slice none 0 0] 22) (b3 : Blk W (w.heap.size + 2) #[.int .i64 0] 32) (b4 : Blk W' (w.heap.size + 3) #[v] 22) (hB : Below w.heap.size w W)
    (gs : List Gr) (hG : OG W' W1.heap.size v gs) (hf : xs.foldlM stepP [] = some (gs.map Gr.p)) (h0 : s.size ≠ 0) :
    KeepsFrom W1.heap.size W W' ∧ KT (fun k => k = w.heap.size + 4 ∨ k = w.heap.size + 4 + 1 ∨ k = w.heap.size + 4 + 2) W W' ∧ PI w w.heap.size W1.heap.size s xs W' :=
  ⟨hK, ⟨hb.size, fun k hk => hb.block k (by omega)⟩, b1.keepB hb (by omega), b2.keepB hb (by omega), b3.keepB hb (by omega), ⟨v, gs, b4, hG, hf⟩, .inr h0, hB.trans (hb.mono (by omega))⟩
theorem note_none {s : ByteArray} {l : List UInt8} {W : World} (h : Calls Tryd.prog 24 #[.string s] W fun e w' => NoteRes l e ∧ Below W.heap.size W w') (hn : noteL l = none) :
    Calls Tryd.prog 24 #[.string s] W fun e w' => (∃ y, e = .returned (.tuple #[Nt.v y, .bool false])) ∧ Below W.heap.size W w' :=
  h.mono fun e w' ⟨⟨y, b, he, hl⟩, hb⟩ => ⟨by
    cases b with
    | false => exact ⟨y, he⟩
    | true => rw [hn] at hl; exact absurd hl (by simp), hb⟩
theorem note_some {s : ByteArray} {l : List UInt8} {W : World} {y : Nt} (h : Calls Tryd.prog 24 #[.string s] W fun e w' => NoteRes l e ∧ Below W.heap.size W w') (hn : noteL l = some y) :
    Calls Tryd.prog 24 #[.string s] W fun e w' => e = .returned (.tuple #[Nt.v y, .bool true]) ∧ Below W.heap.size W w' :=
  h.mono fun e w' ⟨⟨y', b, he, hl⟩, hb⟩ => ⟨by
    cases b with
    | false => rw [hn] at hl; exact absurd hl (by simp)
    | true => rw [hn] at hl; injection hl with hl; subst hl; exact he, hb⟩
theorem keepsF_below {N : Nat} {W W' : World} (h : Below W.heap.size W W') : KeepsFrom N W W' := ⟨h.size, fun k o _ hk _ => (h.block k (Array.getElem?_eq_some_iff.1 hk).1).trans hk⟩
theorem keepsF_trans {N : Nat} {A B C : World} (h : KeepsFrom N A B) (k : KeepsFrom N B C) : KeepsFrom N A C := ⟨Nat.le_trans h.size k.size, fun i o hi hk ho => k.same i o hi (h.same i o hi hk ho) ho⟩
theorem PX.alloc {w W : World} {h : Nat} {s : ByteArray} {c : Code} (hx : PX w h s c W) (o : Obj) : PX w h s c (W.alloc o) := by
  obtain ⟨e, h2, h3, h4⟩ := hx.b
  exact ⟨hx.c, ⟨e, h2.old o, h3.old o, h4⟩, balloc hx.hB o⟩
theorem Blk.putD {w : World} {B D : Nat} {vs : Array Value} {T : TypeId} {o : Obj} (h : Blk w B vs T) (ho : w.heap[D]? = some o) (hc : o.isCells = false) (o' : Obj) : Blk (w.putObj D o') B vs T :=
  (World.putObj_heap_other (fun e => by subst e; unfold Blk at h; rw [h] at ho; cases ho; cases hc)).trans h
theorem og_stay {w : World} {base h D : Nat} {v x0 x1 : Value} {gs : List Gr} {ds : Option (List Deferred)} {o : Obj} (hG : OG w base v gs) (hb : h + 2 < base) (hK : w.heap[D]? = some (.deferred ds)) :
    OG (((w.setCell ⟨h + 1, 0, none⟩ x0).setCell ⟨h + 1 + 1, 0, none⟩ x1).putObj D o) base v gs :=
  hG.turn fun k cur T hk hc => by
    rw [World.putObj_heap_other (fun e => by subst e; rw [hK] at hc; cases hc), Below.heap_setCell _ _ _ _ (show k ≠ h + 1 + 1 by omega), Below.heap_setCell _ _ _ _ (show k ≠ h + 1 by omega)]
    exact hc
/-- Parse returns. -/
theorem pp_ret {N : Nat} {tmps : Array Value} {defers : List Deferred} {w W : World} {D h : Nat} {v : Value} {e : Int} {R : Ending → World → Prop}
    (hK : W.heap[D]? = some (.deferred (some []))) (b2 : Blk W (h + 1) #[v] 22) (b3 : Blk W (h + 2) #[.int .i64 e] 32) (hB : Below w.heap.size w W) (hD : w.heap.size ≤ D)
    (h2 : tmps.getD 2 undef = .pointer (some ⟨h + 1, 0, none⟩)) (h3 : tmps.getD 3 undef = .pointer (some ⟨h + 2, 0, none⟩)) (hd : defers = [{ target := .collected D, args := #[] }])
    (hR : R (.returned (.tuple #[v, .int .i64 e])) (W.putObj D (.deferred none))) :
    Exit.noGoto (bodyPostM Fence.wide N Tryd.prog Tryd.f11 fun e w' => R e w' ∧ Below w.heap.size w w') .ret { tmps, defers } W := by
  subst hd
  have e1 := (Blk.putD b2 hK rfl (.deferred none)).cell 0
  have e2 := (Blk.putD b3 hK rfl (.deferred none)).cell 0
  have hb : Below w.heap.size w (W.putObj D (.deferred none)) := hB.trans (belowK_b (Nat.le_refl _) W D _ _ hD hK rfl rfl)
  rw [Array.getD_eq_getD_getElem?] at h2 h3
  show LeavesInM Fence.wide N Tryd.prog Tryd.f11 _ _ _ _ W
  refine ⟨by simp, .inl ⟨_, _, rfl, run_takeDeferred hK, ?_⟩⟩
  refine ⟨.tuple #[v, .int .i64 e], ?_, hR, hb⟩
  simp [results, Tryd.results11, go_sem, h2, h3, e1, e2]
theorem ba_size_zero2 {b : ByteArray} (h : b.size = 0) : b = ByteArray.empty := by
  cases b with | mk d => exact congrArg ByteArray.mk (Array.eq_empty_of_size_eq_zero h)
set_option maxRecDepth 100000 in
set_option maxHeartbeats 8000000 in
theorem parse_any (s : ByteArray) (w : World) (hs : s.size ≤ 100000) (hm : MaxL w) :
    Calls Tryd.prog 11 #[.string s] w fun e w' => ParseRes (parseP s.data.toList) e w' ∧ Below w.heap.size w w' := by
  have HM := Lib.hid hm
  clear hm
  have hsl : s.data.toList.length = s.size := Array.length_toList
  generalize hls : Lib.trimSuffix s.data.toList [10] = l
  have hll : l.length ≤ 100000 := by rw [← hls]; have := trim_len s.data.toList; omega
  have HLs := Lib.hid hls
  have HTrim := Lib.hid (fun w => (Tryd.strings_TrimSuffix s (ByteArray.mk #[10]) w (by omega)))
  clear hsl hls
  refine (callsIn_wide (n := 5)).1 ?_
  refine callsIn_of_wp_marks Tryd.func11 rfl trivial ?_ rfl
  simp only [Tryd.ntmps11, List.size_toArray, List.length_cons, List.length_nil, Nat.reduceAdd, Nat.reduceSub, Array.replicate_succ, Array.replicate_zero, List.push_toArray, List.append_toArray, List.nil_append, List.cons_append]
  gi_wp2
  have q0 := (((Blk.new w #[.string s] 9).old (.cells #[.slice none 0 0] 22)).old (.cells #[.int .i64 0] 32)).old (.cells #[.slice none 0 0] 22)
  have q1 := ((Blk.new (w.alloc (.cells #[.string s] 9)) #[.slice none 0 0] 22).old (.cells #[.int .i64 0] 32)).old (.cells #[.slice none 0 0] 22)
  have q2 := (Blk.new ((w.alloc (.cells #[.string s] 9)).alloc (.cells #[.slice none 0 0] 22)) #[.int .i64 0] 32).old (.cells #[.slice none 0 0] 22)
  have q3 := Blk.new (((w.alloc (.cells #[.string s] 9)).alloc (.cells #[.slice none 0 0] 22)).alloc (.cells #[.int .i64 0] 32)) #[.slice none 0 0] 22
  have hB0 : Below w.heap.size w ((((w.alloc (.cells #[.string s] 9)).alloc (.cells #[.slice none 0 0] 22)).alloc (.cells #[.int .i64 0] 32)).alloc (.cells #[.slice none 0 0] 22)) := balloc (balloc (balloc (balloc (Below.refl _ _) _) _) _) _
  have hsz : ((((w.alloc (.cells #[.string s] 9)).alloc (.cells #[.slice none 0 0] 22)).alloc (.cells #[.int .i64 0] 32)).alloc (.cells #[.slice none 0 0] 22)).heap.size = w.heap.size + 4 := by simp
  simp only [World.size_alloc] at q1 q2 q3
  refine ⟨trivial, ?_⟩
  refine (callsIn_wide.2 (HTrim.out _)).mono ?_
  rintro e w1 ⟨rfl, rfl⟩
  rw [show (⟨(Lib.trimSuffix s.data.toList (ByteArray.mk #[10]).data.toList).toArray⟩ : ByteArray) = str l by rw [← HLs.out]; rfl]
  generalize (((w.alloc (.cells #[.string s] 9)).alloc (.cells #[.slice none 0 0] 22)).alloc (.cells #[.int .i64 0] 32)).alloc (.cells #[.slice none 0 0] 22) = W0 at q0 q1 q2 q3 hB0 hsz ⊢
  gi_wp2
  refine ⟨trivial, ?_⟩
  refine (callsIn_wide.2 (seq_any (str l) (ByteArray.mk #[10]) W0)).mono ?_
  rintro e W1 ⟨rfl, s0, s1, s2, hB1, hz1⟩
  rw [hsz] at s0 s1 s2 hz1 hB1
  have hBW := hB0.trans (hB1.mono (by omega))
  have q0 := q0.keepB hB1 (by omega)
  have q1 := q1.keepB hB1 (by omega)
  have q2 := q2.keepB hB1 (by omega)
  have q3 := q3.keepB hB1 (by omega)
  unfold seqV
  rw [hsz]
  gi_wp2
  have hP0 : PI w w.heap.size W1.heap.size s [] W1 := ⟨q0, q1, q2, ⟨_, [], q3, OG.nil _ _, rfl⟩, .inl rfl, hBW⟩
  refine' wpIn_rangeT (T := fun k => k = w.heap.size + 4 ∨ k = w.heap.size + 4 + 1 ∨ k = w.heap.size + 4 + 2) rfl (by omega) (gf := 57) (lb := #[.pointer (some ⟨w.heap.size + 4 + 1, 0, none⟩), .pointer (some ⟨w.heap.size + 4, 0, none⟩), .pointer (some ⟨w.heap.size + 4 + 2, 0, none⟩)]) rfl trivial (enters_of Tryd.func57 (by kernel_rfl) rfl)
    (split_stops (5 - 1) (by omega) 10 (w.heap.size + 4) (w.heap.size + 4 + 1) (w.heap.size + 4 + 2) (by omega) (by omega) l (by omega) W1 s0 s1 s2) (fun k hk => by omega) (KT.refl _ _) (fun _ => rfl)
    (fun pre W => PI w w.heap.size W1.heap.size s pre W)
    (fun c pre W => PX w w.heap.size s c W)
    (fun pre A B h ht => ?own) (fun c pre A B h ht => ?ownx) hP0 _ ?assign ?body ?done ?stop
  case own =>
    have hT : ∀ k, (k = w.heap.size + 4 ∨ k = w.heap.size + 4 + 1 ∨ k = w.heap.size + 4 + 2) → w.heap.size + 4 ≤ k ∧ k < W1.heap.size := fun k hk => by omega
    obtain ⟨v, gs, h4, h5, h6⟩ := h.out
    exact ⟨h.b1.turn ht (fun e => by have := hT _ e; omega), h.b2.turn ht (fun e => by have := hT _ e; omega), h.b3.turn ht (fun e => by have := hT _ e; omega), ⟨v, gs, h4.turn ht (fun e => by have := hT _ e; omega), h5.turn2 ht (fun k e => (hT k e).2), h6⟩, h.some',
      below_turn h.hB ht (by omega) (fun k e => by have := hT _ e; omega) (Nat.le_refl _)⟩
  case ownx =>
    have hT : ∀ k, (k = w.heap.size + 4 ∨ k = w.heap.size + 4 + 1 ∨ k = w.heap.size + 4 + 2) → w.heap.size + 4 ≤ k ∧ k < W1.heap.size := fun k hk => by omega
    obtain ⟨e, h2, h3, h4⟩ := h.b
    exact ⟨h.c, ⟨e, h2.turn ht (fun e => by have := hT _ e; omega), h3.turn ht (fun e => by have := hT _ e; omega), h4⟩, below_turn h.hB ht (by omega) (fun k e => by have := hT _ e; omega) (Nat.le_refl _)⟩
  case assign =>
    intro L x W K hK
    gi_wp2
    exact hK
  case body =>
    rintro L pre x W hL hLW hI hN
    obtain ⟨b1, b2, b3, ⟨v, gs, b4, hG, hf⟩, hsm, hB⟩ := hI
    have hmem : ∀ t ∈ pre ++ [x], t ∈ spl 10 l := fun t ht => hN.subset ht
    have hxl : x.length ≤ 100000 := Nat.le_trans (spl_size 10 l x (hmem x (by simp))) hll
    have hpre : OutOk 100001 (gs.map Gr.p) := by
      have h1 := fold_ok stepP_ok pre (fun t ht => Nat.le_trans (spl_size 10 l t (hmem t (by simp [ht]))) (by omega)) hf
      obtain ⟨r, hr⟩ := hN
      have h2 := wsum_spl 10 l
      rw [← hr, wsum_append, wsum_append] at h2
      exact h1.mono (by omega)
    clear hmem
    have H1 := Lib.hid b1
    have H2 := Lib.hid b2
    have H3 := Lib.hid b3
    have H4 := Lib.hid b4
    have HG := Lib.hid hG
    have HF := Lib.hid hf
    have HB := Lib.hid hB
    have HPre := Lib.hid hpre
    obtain ⟨c1, -, z1⟩ := b1.facts
    obtain ⟨c2, f2, z2⟩ := b2.facts
    obtain ⟨c3, f3, z3⟩ := b3.facts
    obtain ⟨c4, f4, z4⟩ := b4.facts
    obtain ⟨a, c, rfl, hgc, hgm, hfrm⟩ := hG.form
    have HFrm := Lib.hid hfrm
    have hgl : gs.length ≤ 100001 := by have := hpre.len; rwa [List.length_map] at this
    have htl : (str x).toList = x := by rw [ba_list, str_list]
    have hxs : (str x).size = x.length := str_size x
    clear b1 b2 b3 b4 hG hf hB hpre hfrm hsm
    by_cases h0 : s.size = 0
    · obtain rfl := ba_size_zero2 h0
      have HE := Lib.hid (show parseP ByteArray.empty.data.toList = some [] from rfl)
      clear h0
      gi_wp2
      exact pp_leave H2.out H3.out HB.out (Nat.le_refl _) 0 (.inr ⟨HE.out, rfl⟩)
    · have hs1 : s.toList.isEmpty = false := by
        rw [ByteArray.toList_eq]
        cases hh : s.data.toList with
        | nil => exact absurd (by have := congrArg List.length hh; simpa using this) h0
        | cons => rfl
      have hs2 : s.toList ≠ [] := by intro e; rw [e] at hs1; cases hs1
      have HS0 := Lib.hid h0
      have HFs := Lib.hid (show (pre ++ [x]).foldlM stepP [] = stepP (gs.map Gr.p) x by rw [fold_snoc, HF.out]; rfl)
      have HNo := Lib.hid (show stepP (gs.map Gr.p) x = none → parseP s.data.toList = none from fun h => by
        obtain ⟨r, hr⟩ := hN
        unfold parseP
        rw [if_neg (fun e => h0 (by have := congrArg List.length e; simpa using this)), HLs.out, ← hr, List.foldlM_append, HFs.out, h]
        rfl)
      clear h0
      by_cases h103 : x = [103]
      · subst h103
        obtain ⟨g2, cap2, W2, hrun, hO2, hB2, hKO⟩ := HG.out.app (by omega) (show W1.heap.size ≤ W.heap.size by omega)
        have HR := Lib.hid hrun
        have HX := Lib.hid (And.intro hO2 (And.intro hB2 trivial))
        have k4 := H4.out.keepB hB2 (show w.heap.size + 3 < W1.heap.size by omega)
        obtain ⟨d4, g4, y4⟩ := k4.facts
        have K4 := Lib.hid k4
        clear hrun hO2 hB2 k4
        gi_wp2_with (gi_at_builtin; refine wpListIn_app_run rfl rfl rfl rfl HR.out ?_)
        exact pp_next (w := w) (W1 := W1) (W' := W2) (by omega) hz1 (hKO.from _) HX.out.2.1 H1.out H2.out H3.out K4.out HB.out (.slice (some ⟨g2, 0, none⟩) (gs.length + 1) cap2) (gs ++ [Gr.zero]) (by simpa using HX.out.1) (by rw [HFs.out]; unfold stepP; rw [if_pos rfl, List.map_append]; rfl) HS0.out
      · have hb103 : (x == [103]) = false := beq_eq_false_iff_ne.2 h103
        have H103 := Lib.hid h103
        by_cases hg0 : gs.length = 0
        · have HE := Lib.hid (HNo.out (by unfold stepP; rw [if_neg h103, dif_neg (by rw [List.length_map]; omega)]))
          have hi1 : ((gs.length : Int) - 1) < 0 := by omega
          clear hg0
          gi_wp2
          exact pp_leave H2.out H3.out HB.out (Nat.le_refl _) 2 (.inl ⟨HE.out, rfl⟩)
        · obtain ⟨b, rfl, hb0', hblt⟩ : ∃ b, a = some ⟨b, 0, none⟩ ∧ W1.heap.size ≤ b ∧ b < W.heap.size := by
            rcases HFrm.out with ⟨-, h, -⟩ | h
            · exact absurd h hg0
            · exact h
          have HK := Lib.hid (show gs.length - 1 < gs.length by omega)
          have hg1 : 1 ≤ gs.length := by omega
          have hx1 : (1 : Int) ≤ (gs.length : Int) := by omega
          have hx2 : (0 : Int) ≤ (gs.length : Int) - 1 := by omega
          have hx3 : (gs.length : Int) - 1 < (gs.length : Int) := by omega
          have hx4 : ((gs.length : Int) - 1).toNat = gs.length - 1 := by omega
          have hGc := HG.out.grs
          obtain ⟨cA, cB, -⟩ := hGc.cells (gs.length - 1) HK.out
          rw [Nat.zero_add] at cA cB
          have hfz := (own_frozen HG.out.own).1
          have hgi : ∀ out : List (List Nt × UInt8), out = gs.map Gr.p → 0 < out.length := fun out e => by rw [e, List.length_map]; exact hg1
          have HGi := Lib.hid hgi
          have HLast := Lib.hid (show ((gs.map Gr.p)[(gs.map Gr.p).length - 1]'(by rw [List.length_map]; omega)) = (gs[gs.length - 1]'HK.out).p by simp)
          clear hgi hGc hg0
          generalize hlast : gs[gs.length - 1]'HK.out = g at cA cB HLast
          have HGk := Lib.hid hlast
          clear hlast
          by_cases hfin : g.fin = 0
          · have hfi : (g.fin.toNat : Int) = 0 := by rw [hfin]; rfl
            have hfb : ((g.fin.toNat : Int) != 0) = false := by rw [hfi]; rfl
            have HStep := Lib.hid (show stepP (gs.map Gr.p) x = (if x = [101] ∨ x = [100] ∨ x = [117] then some (lastU (gs.map Gr.p) (HGi.out _ rfl) fun g => (g.1, x.headD 0)) else (noteL x).map fun y => lastU (gs.map Gr.p) (HGi.out _ rfl) fun g => (g.1 ++ [y], g.2)) by
              unfold stepP
              rw [if_neg H103.out, dif_pos (HGi.out _ rfl), if_neg (by rw [HLast.out]; exact fun h => h hfin)])
            have HFin := Lib.hid hfin
            clear hfin
            by_cases hx : x = [101] ∨ x = [100] ∨ x = [117]
            · obtain ⟨f, rfl⟩ : ∃ f, x = [f] := by rcases hx with rfl | rfl | rfl <;> exact ⟨_, rfl⟩
              have HFs2 := Lib.hid (show (pre ++ [[f]]).foldlM stepP [] = some (lastU (gs.map Gr.p) (HGi.out _ rfl) fun g => (g.1, f)) by rw [HFs.out, HStep.out, if_pos hx]; rfl)
              have HX := Lib.hid (HG.out.fin (gs.length - 1) HK.out f)
              have hxf : f = 101 ∨ f = 100 ∨ f = 117 := by
                rcases hx with h | h | h <;> (injection h with h)
                · exact .inl h
                · exact .inr (.inl h)
                · exact .inr (.inr h)
              clear hx HStep HFs HNo
              have hks : (str [f]).size = 1 := rfl
              have key : ∀ Wz, Wz = W.setCell ⟨b, (gs.length - 1) * 2 + 1, none⟩ (.int .u8 f.toNat) → KeepsFrom W1.heap.size W Wz.drew ∧ KT (fun k => k = w.heap.size + 4 ∨ k = w.heap.size + 4 + 1 ∨ k = w.heap.size + 4 + 2) W Wz.drew ∧ PI w w.heap.size W1.heap.size s (pre ++ [[f]]) Wz.drew := fun Wz hWz => by
                subst hWz
                refine pp_go (by omega) hz1 (((KeepsOthers.setCell _ _ _).trans (KeepsOthers.drew _)).from _) ((Below.refl _ _).setCell hb0' _).drew H1.out H2.out H3.out (v := .slice (some ⟨b, 0, none⟩) gs.length c) (Blk.drew (H4.out.setOther _ _ (show b ≠ w.heap.size + 3 by omega))) HB.out _ (HX.out.turn fun _ _ _ _ h => h) ?_ HS0.out
                rw [HFs2.out]
                exact congrArg some (map_lastU gs HK.out _ _ rfl)
              have Key := Lib.hid key
              clear key
              rcases hxf with rfl | rfl | rfl
              all_goals
                gi_wp2
                refine wpIn_region_still_tail 6 (by kernel_rfl) (by kernel_rfl) (by kernel_rfl) ?_
                simp only [List.take_succ_cons, List.take_zero, List.drop_succ_cons, List.drop_zero]
                repeat still_step
                refine wpStill_nil ?_
                gi_wp2
                exact Key.out _ rfl
            · have HM2 := Lib.hid (HM.out.keep HB.out)
              have HNote := Lib.hid (note_any (str x) W (by omega) HM2.out)
              rw [str_list] at HNote
              have HFs2 := Lib.hid (show (pre ++ [x]).foldlM stepP [] = (noteL x).map fun y => lastU (gs.map Gr.p) (HGi.out _ rfl) fun g => (g.1 ++ [y], g.2) by rw [HFs.out, HStep.out, if_neg hx])
              have hx' : x ≠ [101] ∧ x ≠ [100] ∧ x ≠ [117] := ⟨fun e => hx (.inl e), fun e => hx (.inr (.inl e)), fun e => hx (.inr (.inr e))⟩
              obtain ⟨hxa, hxb, hxc⟩ := hx'
              have hba : (x == [101]) = false := beq_eq_false_iff_ne.2 hxa
              have hbb : (x == [100]) = false := beq_eq_false_iff_ne.2 hxb
              have hbc : (x == [117]) = false := beq_eq_false_iff_ne.2 hxc
              cases hnl : noteL x with
              | none =>
                have HE := Lib.hid (HNo.out (by rw [HStep.out, if_neg hx, hnl]; rfl))
                have HN2 := Lib.hid (note_none HNote.out hnl)
                clear hx hnl HNote HStep HFs HNo HFs2
                gi_wp2
                refine ⟨trivial, ?_⟩
                refine (callsIn_wide.2 HN2.out).mono ?_
                rintro e w2 ⟨⟨y, rfl⟩, hb2⟩
                have k2 := H2.out.keep hb2
                have k3 := H3.out.keep hb2
                obtain ⟨d2, g2, y2⟩ := k2.facts
                obtain ⟨d3, g3, y3⟩ := k3.facts
                have K2 := Lib.hid k2
                have K3 := Lib.hid k3
                have KB := Lib.hid (bnext HB.out hb2)
                have KO := Lib.hid hb2
                clear k2 k3 hb2
                unfold Nt.v
                gi_wp2
                have hl := pp_leave (N := W1.heap.size) K2.out K3.out KB.out (Nat.le_refl _) 2 (.inl ⟨HE.out, rfl⟩)
                exact ⟨keepsF_trans (keepsF_trans (keepsF_below KO.out) hl.1) (keepsF_below ((Below.refl _ _).alloc (Nat.le_refl _) _)), hl.2.alloc _⟩
              | some y =>
                have HN2 := Lib.hid (note_some HNote.out hnl)
                have HFs3 := Lib.hid (show (pre ++ [x]).foldlM stepP [] = some (lastU (gs.map Gr.p) (HGi.out _ rfl) fun g => (g.1 ++ [y], g.2)) by rw [HFs2.out, hnl]; rfl)
                clear hx hnl HNote HStep HFs HNo HFs2
                gi_wp2
                refine ⟨trivial, ?_⟩
                refine (callsIn_wide.2 HN2.out).mono ?_
                rintro e w2 ⟨rfl, hb2⟩
                unfold Nt.v
                have hbA := balloc hb2 (.cells #[.int .u8 y.kind.toNat, .int .i64 y.no, .string y.src, .string y.dst, .string y.tmp] 29)
                have h7 := Blk.new w2 #[.int .u8 y.kind.toNat, .int .i64 y.no, .string y.src, .string y.dst, .string y.tmp] 29
                have HbA := Lib.hid hbA
                have H7 := Lib.hid h7
                have Hw2 := Lib.hid hb2.size
                clear h7 hb2 hbA
                gi_wp2
                generalize w2.alloc (.cells #[.int .u8 y.kind.toNat, .int .i64 y.no, .string y.src, .string y.dst, .string y.tmp] 29) = W3 at HbA H7 ⊢
                have HG3 := Lib.hid (HG.out.keep HbA.out)
                have k4 := H4.out.keep HbA.out
                obtain ⟨d4, g4, y4⟩ := k4.facts
                have h7 := H7.out
                obtain ⟨r0, r1, r2, r3, r4⟩ := h7.five
                have hGc3 := HG3.out.grs
                obtain ⟨cA3, cB3, -⟩ := hGc3.cells (gs.length - 1) HK.out
                rw [Nat.zero_add, HGk.out] at cA3 cB3
                have hfz3 := (own_frozen HG3.out.own).1
                have hb3l : b < W3.heap.size := by have := HbA.out.size; omega
                have K4 := Lib.hid k4
                clear k4 h7 hGc3 cA cB c4 f4 z4 c1 z1 c2 f2 z2 c3 f3 z3
                gi_wp2
                have hnl : g.notes.length ≤ 100001 := by
                  have h1 := (HPre.out.notes g.p (by rw [← HGk.out]; exact List.mem_map_of_mem (List.getElem_mem _))).1
                  exact h1
                obtain ⟨g9, cap9, W9, hrun, hO9, hB9, hc9, hfz9, -, hKO9, hel9⟩ := OG.note (w := W3.drew) (h := HG3.out.turn fun _ _ _ _ h => h) (gs.length - 1) HK.out y (by rw [HGk.out]; omega) (show W1.heap.size ≤ W3.heap.size by have := HbA.out.size; omega)
                rw [HGk.out] at hrun hO9
                have h79 := (show Blk W3.drew w2.heap.size #[.int .u8 y.kind.toNat, .int .i64 y.no, .string y.src, .string y.dst, .string y.tmp] 29 from H7.out)
                have h79' : Blk W9 w2.heap.size #[.int .u8 y.kind.toNat, .int .i64 y.no, .string y.src, .string y.dst, .string y.tmp] 29 := (hel9 _ h79.lt (fun a ha e => by
                  have h1 := (HG.out.notes _ HK.out).block ha
                  have h2 := Hw2.out
                  omega)).trans h79
                have H79 := Lib.hid h79'
                clear h79 h79' hel9
                have HR := Lib.hid hrun
                have HO9 := Lib.hid hO9
                have HB9 := Lib.hid hB9
                have HKO9 := Lib.hid hKO9
                have k49 := (show Blk W3.drew (w.heap.size + 3) #[.slice (some ⟨b, 0, none⟩) gs.length c] 22 from K4.out).keepB hB9 (show w.heap.size + 3 < W1.heap.size by omega)
                have K49 := Lib.hid k49
                obtain ⟨d49, -, -⟩ := k49.facts
                have cA9 := (hc9 ((gs.length - 1) * 2)).trans cA3
                have hb9 : b < W9.heap.size := (cell_some_lt cA9).2
                clear hB9 hKO9 hc9 k49 hnl
                refine wpIn_region_held_round (S := fun w' => w'.cell? ⟨w.heap.size + 1 + 1 + 1, 0, none⟩ = some (.slice (some ⟨b, 0, none⟩) gs.length c) ∧ w'.cell? ⟨w2.heap.size, 0, none⟩ = some (.int .u8 y.kind.toNat) ∧ w'.cell? ⟨w2.heap.size, 1, none⟩ = some (.int .i64 y.no) ∧ w'.cell? ⟨w2.heap.size, 2, none⟩ = some (.string y.src) ∧ w'.cell? ⟨w2.heap.size, 3, none⟩ = some (.string y.dst) ∧ w'.cell? ⟨w2.heap.size, 4, none⟩ = some (.string y.tmp)) (by kernel_rfl) (by kernel_rfl) (fun h => by obtain ⟨_, _, h⟩ := h; exact h) ⟨d4 0, r0, r1, r2, r3, r4⟩ (fun hHeld => ?_)
                refine reg_take 0 23 (v := ?v0) rfl rfl (by kernel_rfl) (by kernel_rfl) (by kernel_rfl) (fun _ _ _ h => h) rfl ?y0 hHeld ?_
                case y0 => (intro w hSw; obtain ⟨e4, e0, e1, e2, e3, e5⟩ := hSw; go_simp; (try with_reducible rfl))
                simp only [List.setIfInBounds_toArray, List.set_cons_zero, List.set_cons_succ]
                refine reg_take 1 24 (v := ?v1) rfl rfl (by kernel_rfl) (by kernel_rfl) (by kernel_rfl) (fun _ _ _ h => h) rfl ?y1 hHeld ?_
                case y1 => (intro w hSw; obtain ⟨e4, e0, e1, e2, e3, e5⟩ := hSw; go_simp; (try with_reducible rfl))
                simp only [List.setIfInBounds_toArray, List.set_cons_zero, List.set_cons_succ]
                refine reg_take 2 25 (v := ?v2) rfl rfl (by kernel_rfl) (by kernel_rfl) (by kernel_rfl) (fun _ _ _ h => h) rfl ?y2 hHeld ?_
                case y2 => (intro w hSw; obtain ⟨e4, e0, e1, e2, e3, e5⟩ := hSw; go_simp; (try with_reducible rfl))
                simp only [List.setIfInBounds_toArray, List.set_cons_zero, List.set_cons_succ]
                refine reg_take 3 26 (v := ?v3) rfl rfl (by kernel_rfl) (by kernel_rfl) (by kernel_rfl) (fun _ _ _ h => h) rfl ?y3 hHeld ?_
                case y3 => (intro w hSw; obtain ⟨e4, e0, e1, e2, e3, e5⟩ := hSw; go_simp; (try with_reducible rfl))
                simp only [List.setIfInBounds_toArray, List.set_cons_zero, List.set_cons_succ]
                refine reg_take 4 27 (v := ?v4) rfl rfl (by kernel_rfl) (by kernel_rfl) (by kernel_rfl) (fun _ _ _ h => h) rfl ?y4 hHeld ?_
                case y4 => (intro w hSw; obtain ⟨e4, e0, e1, e2, e3, e5⟩ := hSw; go_simp; (try with_reducible rfl))
                simp only [List.setIfInBounds_toArray, List.set_cons_zero, List.set_cons_succ]
                refine reg_take 5 28 (v := ?v5) rfl rfl (by kernel_rfl) (by kernel_rfl) (by kernel_rfl) (fun _ _ _ h => h) rfl ?y5 hHeld ?_
                case y5 => (intro w hSw; obtain ⟨e4, e0, e1, e2, e3, e5⟩ := hSw; go_simp; (try with_reducible rfl))
                simp only [List.setIfInBounds_toArray, List.set_cons_zero, List.set_cons_succ]
                refine reg_take 7 30 (v := ?v7) rfl rfl (by kernel_rfl) (by kernel_rfl) (by kernel_rfl) (fun _ _ _ h => h) rfl ?y7 hHeld ?_
                case y7 => (intro w hSw; obtain ⟨e4, e0, e1, e2, e3, e5⟩ := hSw; go_simp; (try with_reducible rfl))
                simp only [List.setIfInBounds_toArray, List.set_cons_zero, List.set_cons_succ]
                have hSA := (show (fun w' : World => w'.cell? ⟨w.heap.size + 1 + 1 + 1, 0, none⟩ = some (.slice (some ⟨b, 0, none⟩) gs.length c) ∧ w'.cell? ⟨w2.heap.size, 0, none⟩ = some (.int .u8 y.kind.toNat) ∧ w'.cell? ⟨w2.heap.size, 1, none⟩ = some (.int .i64 y.no) ∧ w'.cell? ⟨w2.heap.size, 2, none⟩ = some (.string y.src) ∧ w'.cell? ⟨w2.heap.size, 3, none⟩ = some (.string y.dst) ∧ w'.cell? ⟨w2.heap.size, 4, none⟩ = some (.string y.tmp)) (W3.drew.alloc (.cells #[.int .u8 y.kind.toNat, .int .i64 y.no, .string y.src, .string y.dst, .string y.tmp] 29)) from ⟨(Blk.old (w := W3.drew) K4.out _).cell 0, (Blk.old (w := W3.drew) H7.out _).five⟩)
                have hS9 := (show (fun w' : World => w'.cell? ⟨w.heap.size + 1 + 1 + 1, 0, none⟩ = some (.slice (some ⟨b, 0, none⟩) gs.length c) ∧ w'.cell? ⟨w2.heap.size, 0, none⟩ = some (.int .u8 y.kind.toNat) ∧ w'.cell? ⟨w2.heap.size, 1, none⟩ = some (.int .i64 y.no) ∧ w'.cell? ⟨w2.heap.size, 2, none⟩ = some (.string y.src) ∧ w'.cell? ⟨w2.heap.size, 3, none⟩ = some (.string y.dst) ∧ w'.cell? ⟨w2.heap.size, 4, none⟩ = some (.string y.tmp)) W9 from ⟨K49.out.cell 0, H79.out.five⟩)
                have hSS := (show (fun w' : World => w'.cell? ⟨w.heap.size + 1 + 1 + 1, 0, none⟩ = some (.slice (some ⟨b, 0, none⟩) gs.length c) ∧ w'.cell? ⟨w2.heap.size, 0, none⟩ = some (.int .u8 y.kind.toNat) ∧ w'.cell? ⟨w2.heap.size, 1, none⟩ = some (.int .i64 y.no) ∧ w'.cell? ⟨w2.heap.size, 2, none⟩ = some (.string y.src) ∧ w'.cell? ⟨w2.heap.size, 3, none⟩ = some (.string y.dst) ∧ w'.cell? ⟨w2.heap.size, 4, none⟩ = some (.string y.tmp)) (W9.setCell ⟨b, (gs.length - 1) * 2, none⟩ (.slice (some ⟨g9, 0, none⟩) (g.notes.length + 1) cap9)) from ⟨(K49.out.setOther _ _ (show b ≠ w.heap.size + 3 by omega)).cell 0, (H79.out.setOther _ _ (show b ≠ w2.heap.size by have := Hw2.out; omega)).five⟩)
                have HSA := Lib.hid hSA
                have HS9 := Lib.hid hS9
                have HSS := Lib.hid hSS
                clear hSA hS9 hSS
                refine reg_two 6 29 8 31 (v := .slice g.a g.notes.length g.c) (vj := .slice (some ⟨W3.heap.size, 0, none⟩) 1 1) (Wi := W3.drew) (W := (W3.drew.alloc (.cells #[.int .u8 y.kind.toNat, .int .i64 y.no, .string y.src, .string y.dst, .string y.tmp] 29))) (by kernel_rfl) rfl rfl rfl rfl rfl rfl ?r6 ?r8 hHeld HSA.out ?_ ?_
                case r6 => (go_simp; try rfl)
                case r8 => (go_simp; try rfl)
                · simp only [List.setIfInBounds_toArray, List.set_cons_zero, List.set_cons_succ]
                  refine reg_alone 8 31 (v := .slice (some ⟨W3.heap.size, 0, none⟩) 1 1) (W := (W3.drew.alloc (.cells #[.int .u8 y.kind.toNat, .int .i64 y.no, .string y.src, .string y.dst, .string y.tmp] 29))) (by kernel_rfl) rfl rfl rfl ?q8 HSA.out ?_
                  case q8 => (go_simp; try rfl)
                  simp only [List.setIfInBounds_toArray, List.set_cons_zero, List.set_cons_succ]
                  refine reg_app 9 32 (by kernel_rfl) rfl rfl rfl rfl rfl rfl HR.out HS9.out ?_
                  simp only [List.setIfInBounds_toArray, List.set_cons_zero, List.set_cons_succ]
                  refine reg_alone 10 33 (v := .pointer (some ⟨b, (gs.length - 1) * 2, none⟩)) (W := W9) (by kernel_rfl) rfl rfl rfl ?q10 HS9.out ?_
                  case q10 => (go_simp; try rfl)
                  simp only [List.setIfInBounds_toArray, List.set_cons_zero, List.set_cons_succ]
                  refine reg_alone 11 34 (v := .pointer (some ⟨b, (gs.length - 1) * 2, none⟩)) (W := W9) (by kernel_rfl) rfl rfl rfl ?q11 HS9.out ?_
                  case q11 => (go_simp; try rfl)
                  simp only [List.setIfInBounds_toArray, List.set_cons_zero, List.set_cons_succ]
                  refine reg_store 12 (W := W9.setCell ⟨b, (gs.length - 1) * 2, none⟩ (.slice (some ⟨g9, 0, none⟩) (g.notes.length + 1) cap9)) (by kernel_rfl) rfl rfl rfl ?q12 HSS.out ?_
                  case q12 => (go_simp; try rfl)
                  refine wpAnyH_done (by kernel_rfl) ?_ _
                  refine pp_go (by omega) hz1 (keepsF_trans (keepsF_trans (keepsF_below HbA.out) ((show KeepsOthers W3 W9 from (KeepsOthers.drew W3).trans HKO9.out).from _)) ((KeepsOthers.setCell _ _ _).from _)) (((HbA.out.mono (by omega)).trans ((Below.refl _ W3).drew.trans HB9.out)).setCell hb0' _) H1.out H2.out H3.out (v := .slice (some ⟨b, 0, none⟩) gs.length c) (K49.out.setOther _ _ (show b ≠ w.heap.size + 3 by omega)) HB.out _ HO9.out ?_ HS0.out
                  rw [HFs3.out]
                  exact congrArg some (map_lastU gs HK.out _ _ (by rw [HGk.out]; rfl))
                · simp only [List.setIfInBounds_toArray, List.set_cons_zero, List.set_cons_succ]
                  refine reg_alone 6 29 (v := .slice g.a g.notes.length g.c) (W := (W3.drew.alloc (.cells #[.int .u8 y.kind.toNat, .int .i64 y.no, .string y.src, .string y.dst, .string y.tmp] 29))) (by kernel_rfl) rfl rfl rfl ?q8 HSA.out ?_
                  case q8 => (go_simp; try rfl)
                  simp only [List.setIfInBounds_toArray, List.set_cons_zero, List.set_cons_succ]
                  refine reg_app 9 32 (by kernel_rfl) rfl rfl rfl rfl rfl rfl HR.out HS9.out ?_
                  simp only [List.setIfInBounds_toArray, List.set_cons_zero, List.set_cons_succ]
                  refine reg_alone 10 33 (v := .pointer (some ⟨b, (gs.length - 1) * 2, none⟩)) (W := W9) (by kernel_rfl) rfl rfl rfl ?q10 HS9.out ?_
                  case q10 => (go_simp; try rfl)
                  simp only [List.setIfInBounds_toArray, List.set_cons_zero, List.set_cons_succ]
                  refine reg_alone 11 34 (v := .pointer (some ⟨b, (gs.length - 1) * 2, none⟩)) (W := W9) (by kernel_rfl) rfl rfl rfl ?q11 HS9.out ?_
                  case q11 => (go_simp; try rfl)
                  simp only [List.setIfInBounds_toArray, List.set_cons_zero, List.set_cons_succ]
                  refine reg_store 12 (W := W9.setCell ⟨b, (gs.length - 1) * 2, none⟩ (.slice (some ⟨g9, 0, none⟩) (g.notes.length + 1) cap9)) (by kernel_rfl) rfl rfl rfl ?q12 HSS.out ?_
                  case q12 => (go_simp; try rfl)
                  refine wpAnyH_done (by kernel_rfl) ?_ _
                  refine pp_go (by omega) hz1 (keepsF_trans (keepsF_trans (keepsF_below HbA.out) ((show KeepsOthers W3 W9 from (KeepsOthers.drew W3).trans HKO9.out).from _)) ((KeepsOthers.setCell _ _ _).from _)) (((HbA.out.mono (by omega)).trans ((Below.refl _ W3).drew.trans HB9.out)).setCell hb0' _) H1.out H2.out H3.out (v := .slice (some ⟨b, 0, none⟩) gs.length c) (K49.out.setOther _ _ (show b ≠ w.heap.size + 3 by omega)) HB.out _ HO9.out ?_ HS0.out
                  rw [HFs3.out]
                  exact congrArg some (map_lastU gs HK.out _ _ (by rw [HGk.out]; rfl))
          · have HE := Lib.hid (HNo.out (by unfold stepP; rw [if_neg h103, dif_pos (HGi.out _ rfl), if_pos (by rw [HLast.out]; exact hfin)]))
            have hfi : ¬ (g.fin.toNat : Int) = 0 := fun e => hfin (UInt8.toNat_inj.1 (by show g.fin.toNat = 0; omega))
            have hfb : ((g.fin.toNat : Int) != 0) = true := by simpa using hfi
            clear hfin
            gi_wp2
            exact pp_leave H2.out H3.out HB.out (Nat.le_refl _) 2 (.inl ⟨HE.out, rfl⟩)
  case done =>
    rintro D xs W hD rfl hI hK
    obtain ⟨b1, b2, b3, ⟨v, gs, b4, hG, hf⟩, hsm, hB⟩ := hI
    have hs0 : s.size ≠ 0 := hsm.resolve_left (fun e => by have := (spl_len 10 l).1; rw [e] at this; simp at this)
    have hOk := fold_ok stepP_ok (spl 10 l) (fun t ht => Nat.le_trans (spl_size 10 l t ht) (by omega)) hf
    rw [wsum_spl] at hOk
    obtain ⟨a, c, rfl, -, -, -⟩ := hG.form
    have HOkg := Lib.hid (show GOk gs from fun g hg x hx => (hOk.notes g.p (List.mem_map_of_mem hg)).2 x hx)
    have HGr := Lib.hid hG.grs
    have HOG := Lib.hid hG
    have HTx := Lib.hid (show (textL (gs.map Gr.p)).length ≤ 10000000 by have := hOk.text; omega)
    have HFe := Lib.hid (show parseP s.data.toList = if writeB (gs.map Gr.p) = s.data.toList then some (gs.map Gr.p) else none by
      unfold parseP
      rw [if_neg (fun e => hs0 (by have := congrArg List.length e; simpa using this)), HLs.out, hf]; rfl)
    have hcl := b4.cell 0
    have hcs := b1.cell 0
    have zl := b4.lt
    have zs := b1.lt
    have H2 := Lib.hid b2
    have H3 := Lib.hid b3
    have H4 := Lib.hid b4
    have HB := Lib.hid hB
    have HK := Lib.hid hK
    simp only [List.getElem?_toArray, List.getElem?_cons_zero] at hcl hcs
    have HWr := Lib.hid (fun w2 (hb2 : Below W.heap.size W w2) => write_any a c gs w2 (HGr.out.below hb2 (Nat.le_refl _)) HOkg.out HTx.out)
    have hWd : W1.heap.size ≤ W.heap.size := by have := (Array.getElem?_eq_some_iff.1 hK).1; omega
    clear b1 b2 b3 b4 hG hf hsm hB hOk hK
    by_cases hw : writeB (gs.map Gr.p) = s.data.toList
    · have HY := Lib.hid (show parseP s.data.toList = some (gs.map Gr.p) by rw [HFe.out, if_pos hw])
      rw [hw, str_of] at HWr
      clear hw
      have hst := str_beq (rfl : s = s)
      gi_wp2
      refine (wpIn_wide (n := 5)).2 ?_
      go_region_held3 (fun w' => (∀ b o, b < W.heap.size → w'.cell? ⟨b, o, none⟩ = W.cell? ⟨b, o, none⟩) ∧ Below W.heap.size W w') (first | with_reducible assumption | with_reducible exact keepS_here _ | with_reducible exact keepS_here2 _ | with_reducible exact keepS_call (by assumption) (by assumption) | with_reducible exact keepS_alloc (by assumption) _ | with_reducible exact keepS_allocD (by assumption) _ | with_reducible exact keepS_realloc (by assumption) (by assumption) | with_reducible exact keepS_set4 (by assumption) (by assumption)) (first | (go_at_call 15; refine (HWr.out _ (by first | exact And.right (by assumption) | exact Below.refl _ _ | exact (Below.refl _ _).drew)).mono ?_; rintro e w2 ⟨rfl, hb2⟩))
      have hbw : Below W.heap.size W w2 := And.right (by assumption)
      have k4 := H4.out.keep hbw
      have k2 := H2.out.keep hbw
      have k3 := H3.out.keep hbw
      have kK := (hbw.block D (Array.getElem?_eq_some_iff.1 HK.out).1).trans HK.out
      have d4 := k4.cell 0
      have d2 := k2.cell 0
      have d3 := k3.cell 0
      simp only [List.getElem?_toArray, List.getElem?_cons_zero] at d4 d2 d3
      have y4 := k4.lt
      have y2 := k2.lt
      have y3 := k3.lt
      have g2 := k2.frozen 0
      have g3 := k3.frozen 0
      have K2 := Lib.hid k2
      have K3 := Lib.hid k3
      have KK := Lib.hid kK
      have KB := Lib.hid (bnext HB.out hbw)
      have HG2 := Lib.hid (HOG.out.keep hbw)
      clear k4 k2 k3 kK hcl hcs zl zs
      gi_wp2
      refine pp_ret (h := w.heap.size) (KeepsOthers.same ((KeepsOthers.setCell _ _ _).trans (KeepsOthers.setCell _ _ _)) D _ KK.out rfl) ((K2.out.set 0 _).setOther _ _ (by simp)) ((K3.out.setOther _ _ (by simp)).set 0 _) ((KB.out.setCell (show w.heap.size ≤ w.heap.size + 1 by omega) _).setCell (show w.heap.size ≤ w.heap.size + 1 + 1 by omega) _) (by omega) rfl rfl rfl ?_
      exact parseRes_yes HY.out (OG.grs (base := W1.heap.size) (og_stay HG2.out (by omega) KK.out)) HOkg.out
    · have HY := Lib.hid (show parseP s.data.toList = none by rw [HFe.out, if_neg hw])
      have hne : str (writeB (gs.map Gr.p)) ≠ s := fun e => hw (by rw [← e, str_list])
      have hn1 := str_bne hne
      have hn2 := str_bne1 hne
      clear hw hne
      generalize str (writeB (gs.map Gr.p)) = D2 at HWr hn1 hn2
      gi_wp2
      refine (wpIn_wide (n := 5)).2 ?_
      go_region_held3 (fun w' => (∀ b o, b < W.heap.size → w'.cell? ⟨b, o, none⟩ = W.cell? ⟨b, o, none⟩) ∧ Below W.heap.size W w') (first | with_reducible assumption | with_reducible exact keepS_here _ | with_reducible exact keepS_here2 _ | with_reducible exact keepS_call (by assumption) (by assumption) | with_reducible exact keepS_alloc (by assumption) _ | with_reducible exact keepS_allocD (by assumption) _ | with_reducible exact keepS_realloc (by assumption) (by assumption) | with_reducible exact keepS_set4 (by assumption) (by assumption)) (first | (go_at_call 15; refine (HWr.out _ (by first | exact And.right (by assumption) | exact Below.refl _ _ | exact (Below.refl _ _).drew)).mono ?_; rintro e w2 ⟨rfl, hb2⟩))
      have hbw : Below W.heap.size W w2 := And.right (by assumption)
      have k4 := H4.out.keep hbw
      have k2 := H2.out.keep hbw
      have k3 := H3.out.keep hbw
      have kK := (hbw.block D (Array.getElem?_eq_some_iff.1 HK.out).1).trans HK.out
      have d4 := k4.cell 0
      have d2 := k2.cell 0
      have d3 := k3.cell 0
      simp only [List.getElem?_toArray, List.getElem?_cons_zero] at d4 d2 d3
      have y4 := k4.lt
      have y2 := k2.lt
      have y3 := k3.lt
      have g2 := k2.frozen 0
      have g3 := k3.frozen 0
      have K2 := Lib.hid k2
      have K3 := Lib.hid k3
      have KK := Lib.hid kK
      have KB := Lib.hid (bnext HB.out hbw)
      have HG2 := Lib.hid (HOG.out.keep hbw)
      clear k4 k2 k3 kK hcl hcs zl zs
      gi_wp2
      refine pp_ret (h := w.heap.size) (KeepsOthers.same ((KeepsOthers.setCell _ _ _).trans (KeepsOthers.setCell _ _ _)) D _ KK.out rfl) ((K2.out.set 0 _).setOther _ _ (by simp)) ((K3.out.setOther _ _ (by simp)).set 0 _) ((KB.out.setCell (show w.heap.size ≤ w.heap.size + 1 by omega) _).setCell (show w.heap.size ≤ w.heap.size + 1 + 1 by omega) _) (by omega) rfl rfl rfl ?_
      exact parseRes_no HY.out
  case stop =>
    rintro D c pre W hD - hX hK
    obtain ⟨rfl, ⟨e, b2, b3, hr⟩, hB⟩ := hX
    gi_wp2
    refine pp_ret (h := w.heap.size) hK b2 b3 hB (by omega) rfl rfl rfl ?_
    rcases hr with ⟨hr, rfl⟩ | ⟨hr, rfl⟩
    · exact parseRes_no hr
    · exact parseRes_yes (gs := []) (a := none) (c := 0) hr ⟨⟨rfl, Nat.le_refl _, by omega, .inl rfl⟩, fun g hg => by simp at hg⟩ (fun g hg => by simp at hg)
end Go.Proofs.YtcjllikngfndhaaDoor

/- ragpickerlaw39.few. -/
namespace Go.Proofs.YtcjllikngfndhaaDoor

open Go.RowKit

def fewN (x : Nt) : Bool := decide (x.src.size ≤ 300) && decide (x.dst.size ≤ 300) && decide (x.tmp.size ≤ 300)
def fewG (g : Gr) : Bool := decide (g.notes.length ≤ 4) && g.notes.all fewN
def fewB (gs : List Gr) : Bool := gs.all fewG && decide (gs.length ≤ 8)
theorem fewN_cases (x : Nt) : ((300 : Int) < x.src.size ∧ fewN x = false) ∨ (¬ (300 : Int) < x.src.size ∧ (300 : Int) < x.dst.size ∧ fewN x = false) ∨ (¬ (300 : Int) < x.src.size ∧ ¬ (300 : Int) < x.dst.size ∧ (300 : Int) < x.tmp.size ∧ fewN x = false) ∨
    (¬ (300 : Int) < x.src.size ∧ ¬ (300 : Int) < x.dst.size ∧ ¬ (300 : Int) < x.tmp.size ∧ fewN x = true) := by
  unfold fewN
  simp only [Bool.and_eq_true, Bool.and_eq_false_iff, decide_eq_true_eq, decide_eq_false_iff_not]
  omega
theorem few_step (gs : List Gr) (k : Nat) (hk : k < gs.length) : (gs.drop k).all fewG = (fewG gs[k] && (gs.drop (k + 1)).all fewG) := by
  rw [List.drop_eq_getElem_cons hk, List.all_cons]
theorem fewN_step (gs : List Nt) (k : Nat) (hk : k < gs.length) : (gs.drop k).all fewN = (fewN gs[k] && (gs.drop (k + 1)).all fewN) := by
  rw [List.drop_eq_getElem_cons hk, List.all_cons]

set_option maxRecDepth 100000 in
set_option maxHeartbeats 1000000 in
theorem few_any (a : Option Addr) (c : Nat) (gs : List Gr) (w : World) (hG : Grs w a c gs) :
    Calls Tryd.prog 5 #[.slice a gs.length c] w fun e w' => e = .returned (.bool (fewB gs)) ∧ Below w.heap.size w w' := by
  have HG := Lib.hid hG
  have hlen : gs.length ≤ 9223372036854775807 := Nat.le_trans hG.sl.2.1 hG.sl.2.2.1
  clear hG
  go_enter Tryd.func5, Tryd.ntmps5
  go_wp2_with fail
  go_loopw [3] (fun t9 wr => ∃ (k : Nat), k ≤ gs.length ∧ t9 = .int .i64 k ∧ gs.all fewG = (gs.drop k).all fewG ∧ Below w.heap.size w wr) (fun t9 _ => gs.length - (intOf t9).toNat)
  case atStart => exact ⟨0, Nat.zero_le _, rfl, rfl, Below.refl _ _⟩
  case round =>
    obtain ⟨k, hk, rfl, hfin, hW⟩ := hrel
    have HF := Lib.hid hfin
    have HW := Lib.hid hW
    clear hfin
    by_cases hlt : k < gs.length
    · have hG2 := HG.out.below hW (Nat.le_refl _)
      obtain ⟨b, off, rfl⟩ := hG2.addr (by omega)
      obtain ⟨c0, c1, cl⟩ := hG2.cells k hlt
      have HG2 := Lib.hid hG2
      have hA := hG2.at' gs[k] (List.getElem_mem _)
      have HS := Lib.hid (few_step gs k hlt)
      have HC := Lib.hid (fun W (h : Grs W (some ⟨b, off, none⟩) c gs) => h.cells k hlt)
      generalize gs[k] = g at c0 c1 hA HS HC
      have hn : g.notes.length ≤ 9223372036854775807 := Nat.le_trans hA.2.1 hA.2.2.1
      have HA := Lib.hid hA
      clear hG2 hA hW
      by_cases hz : (4 : Int) < g.notes.length
      · have HZ := Lib.hid (show fewG g = false by unfold fewG; rw [decide_eq_false (by omega)]; rfl)
        go_wp2_with fail
        go_ret
        refine ⟨ret_bool ?_, HW.out⟩
        unfold fewB
        rw [HF.out, HS.out, HZ.out]
        rfl
      · have HZ := Lib.hid (show fewG g = g.notes.all fewN by unfold fewG; rw [decide_eq_true (by omega)]; rfl)
        go_wp2_with fail
        clear c0 c1 cl
        go_loopw [4] (fun t17 w2 => ∃ (j : Nat), j ≤ g.notes.length ∧ t17 = .int .i64 j ∧ g.notes.all fewN = (g.notes.drop j).all fewN ∧ Below wr.heap.size wr w2) (fun t17 _ => g.notes.length - (intOf t17).toNat)
        case atStart => exact ⟨0, Nat.zero_le _, rfl, rfl, Below.refl _ _⟩
        case round =>
          obtain ⟨j, hj, rfl, hall, hW2⟩ := hrel
          have HAll := Lib.hid hall
          have HW2 := Lib.hid hW2
          clear hall
          obtain ⟨c0, c1, cl⟩ := HC.out _ (HG2.out.below hW2 (Nat.le_refl _))
          have hA2 := HA.out.below hW2 (Nat.le_refl _)
          by_cases hjl : j < g.notes.length
          · obtain ⟨nb, no, hna⟩ := hA2.addr (by omega)
            obtain ⟨d0, d1, d2, d3, d4, dl⟩ := hA2.cells hna j hjl
            have HSt := Lib.hid (fewN_step g.notes j hjl)
            generalize g.notes[j] = x at d0 d1 d2 d3 d4 HSt
            clear hA2 hW2
            rw [hna] at c0
            clear hna
            rcases fewN_cases x with ⟨e1, hr⟩ | ⟨e1, e2, hr⟩ | ⟨e1, e2, e3, hr⟩ | ⟨e1, e2, e3, hr⟩
            all_goals
              have HM := Lib.hid hr
              clear hr
              go_wp2_with fail
              first
              | (go_ret
                 refine ⟨ret_bool ?_, bnext HW.out (bnext HW2.out (balloc (Below.refl _ _) _))⟩
                 unfold fewB
                 rw [HF.out, HS.out, HZ.out, HAll.out, HSt.out, HM.out]
                 rfl)
              | (go_roundw
                 case measure => simp [intOf]; omega
                 case rel => exact ⟨j + 1, by omega, by go_num, by rw [HAll.out, HSt.out, HM.out]; rfl, bnext HW2.out (balloc (Below.refl _ _) _)⟩)
          · obtain rfl : j = g.notes.length := by omega
            have Hall := Lib.hid (show fewG g = true by rw [HZ.out, HAll.out]; simp)
            have HWW := Lib.hid (bnext HW.out HW2.out)
            clear hW2 hA2 HW2 HAll
            go_wp2_with fail
            go_roundw
            case measure => simp [intOf]; omega
            case rel => exact ⟨k + 1, by omega, by go_num, by rw [HF.out, HS.out, Hall.out]; rfl, HWW.out⟩
    · obtain rfl : k = gs.length := by omega
      have HF2 := Lib.hid (show gs.all fewG = true by rw [HF.out]; simp)
      by_cases h8 : (gs.length : Int) ≤ 8
      all_goals
        have H8 := Lib.hid h8
        go_wp2_with fail
        go_ret
        refine ⟨ret_bool ?_, HW.out⟩
        unfold fewB
        rw [HF2.out]
        have := H8.out
        simp
        omega
end Go.Proofs.YtcjllikngfndhaaDoor
