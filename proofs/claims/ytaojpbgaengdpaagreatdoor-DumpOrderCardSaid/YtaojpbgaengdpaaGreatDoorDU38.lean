/- Texts of the proof, part 38. -/
import Derived.Deep.LoopGhost
import Derived.Test.YtaojpbgaengdpaaGreatDoorDU29
import Derived.Test.YtaojpbgaengdpaaGreatDoorDU28
import Derived.Test.YtaojpbgaengdpaaGreatDoorDU37
import Derived.Test.YtaojpbgaengdpaaGreatDoorDU19
set_option linter.unusedVariables false
set_option linter.unusedSimpArgs false
/- The rows of a tree, as the program tells them: dump.Below. -/
namespace Go.Proofs.YtaojpbgaengdpaaGreatDoor

open Go.RowKit Go.Shelf

attribute [local go_sem] Oper.semAt_some

/-- calls that are to run at the end: none in truth. -/
def Coll (B : Nat) (W : World) (ds : List Deferred) : Prop := ∃ Ds : List Nat, ds = Ds.map (fun D => ({ target := .collected D, args := #[] } : Deferred)) ∧ Ds.Nodup ∧ ∀ D ∈ Ds, B ≤ D ∧ W.heap[D]? = some (.deferred (some []))
theorem Coll.nil (B : Nat) (W : World) : Coll B W [] := ⟨[], rfl, List.Pairwise.nil, fun D h => by cases h⟩
/-- they stay where blocks of cells and maps turn. -/
theorem Coll.mod {B : Nat} {W W' : World} {ds : List Deferred} (h : Coll B W ds) {S : Nat → Prop} (hm : Mod S W W') (hS : ∀ k, S k → W.heap[k]? ≠ some (.deferred (some []))) : Coll B W' ds := by
  obtain ⟨Ds, h1, h2, h3⟩ := h
  refine ⟨Ds, h1, h2, fun D hD => ?_⟩
  obtain ⟨h4, h5⟩ := h3 D hD
  exact ⟨h4, (hm.block D (Array.getElem?_eq_some_iff.1 h5).1 (fun hk => hS D hk h5)).trans h5⟩
theorem Coll.keep {B : Nat} {W W' : World} {ds : List Deferred} (h : Coll B W ds) (hb : Below W.heap.size W W') : Coll B W' ds := h.mod (S := fun _ => False) (Mod.of_below hb) (fun _ h => h.elim)
theorem Coll.cons {B D : Nat} {W : World} {ds : List Deferred} (h : Coll B W ds) (hD : B ≤ D) (hK : W.heap[D]? = some (.deferred (some []))) {W0 : World} (h0 : Coll B W0 ds) (hn : W0.heap.size ≤ D) : Coll B W ({ target := .collected D, args := #[] } :: ds) := by
  obtain ⟨Ds, h1, h2, h3⟩ := h
  obtain ⟨Ds0, g1, g2, g3⟩ := h0
  have hE : Ds0 = Ds := by
    rw [h1] at g1
    have := congrArg (List.map (fun d : Deferred => match d.target with | .collected D => D | _ => 0)) g1
    simpa [List.map_map, Function.comp_def] using this.symm
  subst hE
  refine ⟨D :: Ds0, by rw [h1]; rfl, ?_, fun E hE => ?_⟩
  · rw [List.nodup_cons]
    refine ⟨fun hm => ?_, h2⟩
    have := (Array.getElem?_eq_some_iff.1 (g3 D hm).2).1
    omega
  · rcases List.mem_cons.1 hE with rfl | hE
    · exact ⟨hD, hK⟩
    · exact h3 E hE
/-- the function leaves. -/
theorem coll_leave {n : Nat} {fn : Func} {tmps : Array Value} {v : Value} {R : Ending → World → Prop} (hres : ∀ W, (results fn tmps).run Tryz.prog W = .ok v W) :
    ∀ (Ds : List Nat) (W : World), Ds.Nodup → (∀ D ∈ Ds, W.heap[D]? = some (.deferred (some []))) → (∀ W', Mod (fun k => k ∈ Ds) W W' → R (.returned v) W') →
      LeavesInM Fence.wide n Tryz.prog fn tmps R (Ds.map (fun D => ({ target := .collected D, args := #[] } : Deferred))) .returning W
  | [], W, _, _, hR => ⟨v, hres W, hR W (Mod.refl _ _)⟩
  | D :: Ds, W, hn, hD, hR => by
    rw [List.nodup_cons] at hn
    refine ⟨by simp, .inl ⟨_, _, rfl, run_takeDeferred (hD D List.mem_cons_self), ?_⟩⟩
    refine coll_leave hres Ds _ hn.2 (fun E hE => ?_) (fun W' hm => hR W' ?_)
    · have hne : E ≠ D := by rintro rfl; exact hn.1 hE
      exact (World.putObj_heap_other hne).trans (hD E (List.mem_cons_of_mem _ hE))
    · refine ⟨hm.os, hm.tape, hm.output, Nat.le_trans (by simp) hm.size, fun k hk hnk => ?_⟩
      have hne : k ≠ D := fun e => hnk (by rw [e]; exact List.mem_cons_self)
      rw [hm.block k (by simpa using hk) (fun h => hnk (List.mem_cons_of_mem _ h))]
      exact World.putObj_heap_other hne
/-- between two rounds. -/
structure DI (S : Fs) (N : Nat) (w : World) (s0 : Int) (p : ByteArray) (Z : List Rw) (f : Nat) (vo : Value) (ds : List Deferred) (W : World) : Prop where
  st : ∃ (todo : List En) (nos : List Int) (out : List Rw) (g cap : Nat), DB w.heap.size W w.heap.size (w.heap.size + 1 + 1) g cap vo out nos todo.reverse ∧ TrSt S N s0 p.size todo nos f ∧ out.length = nos.length ∧ out.length + f ≤ S.rowsF N ∧ Z = S.rowsN f todo nos out
  below : Below w.heap.size w W
  coll : Coll w.heap.size W ds
theorem Coll.turn {B : Nat} {W0 A C : World} {ds : List Deferred} (h : Coll B A ds) (h0 : Coll B W0 ds) (ht : Turn NoT W0.heap.size notCells A C) : Coll B C ds := by
  obtain ⟨Ds, h1, h2, h3⟩ := h
  obtain ⟨Ds0, g1, g2, g3⟩ := h0
  have hE : Ds0 = Ds := by
    rw [h1] at g1
    have := congrArg (List.map (fun d : Deferred => match d.target with | .collected D => D | _ => 0)) g1
    simpa [List.map_map, Function.comp_def] using this.symm
  subst hE
  refine ⟨Ds0, h1, h2, fun D hD => ⟨(h3 D hD).1, ht.block D _ (h3 D hD).2 (fun h => h) (fun hle => ?_)⟩⟩
  have := (Array.getElem?_eq_some_iff.1 (g3 D hD).2).1
  omega
/-- between two names of a directory. -/
structure RI (w W6 : World) (Bx Bc : Nat) (x : En) (vo : Value) (out : List Rw) (nos : List Int) (todo : List En) (ds : List Deferred) (pre : List En) (W : World) : Prop where
  db : ∃ g cap, g ≠ Bx ∧ g ≠ Bc ∧ DB w.heap.size W w.heap.size (w.heap.size + 1 + 1) g cap vo out nos (todo.reverse ++ pre.map fun e => ⟨belowB x.name e.name, e.no⟩)
  box : Blk W Bx #[.string x.name, .int .i64 x.no] 82
  below : Below w.heap.size w W
  coll : Coll w.heap.size W ds
  big : W6.heap.size ≤ W.heap.size
theorem RI.turn {w W6 A C : World} {Bx Bc : Nat} {x : En} {vo : Value} {out : List Rw} {nos : List Int} {todo : List En} {ds : List Deferred} {pre : List En} (h : RI w W6 Bx Bc x vo out nos todo ds pre A) (ht : Turn NoT W6.heap.size notCells A C) (h0 : Coll w.heap.size W6 ds) (hm : w.heap.size < W6.heap.size) : RI w W6 Bx Bc x vo out nos todo ds pre C := by
  obtain ⟨g, cap, h1, h2, h3⟩ := h.db
  exact ⟨⟨g, cap, h1, h2, h3.turn ht hm⟩, blk_turnN h.box ht, below_turnN h.below ht (Nat.le_of_lt hm) (Nat.le_refl _), h.coll.turn h0 ht, Nat.le_trans h.big ht.size⟩
/-- a round: what `DB.push` leaves. -/
theorem RI.push {w W6 W W' : World} {Bx Bc g g2 cap2 : Nat} {x e : En} {vo : Value} {out : List Rw} {nos : List Int} {todo : List En} {ds : List Deferred} {pre : List En}
    (hx : Blk W Bx #[.string x.name, .int .i64 x.no] 82) (hb : Below w.heap.size w W) (hc : Coll w.heap.size W ds) (hbig : W6.heap.size ≤ W.heap.size) (hgx : g ≠ Bx) (hgc : g ≠ Bc) (hBx : Bx < W6.heap.size) (hBc : Bc < W6.heap.size)
    (hg : ∃ cur T, W.heap[g]? = some (.cells cur T (0, 0))) (hgb : w.heap.size ≤ g) (ht : ∃ cur, Blk W (w.heap.size + 1 + 1) cur 83) (hk : KeepsOthers W.drew W')
    (hD : DB w.heap.size W' w.heap.size (w.heap.size + 1 + 1) g2 cap2 vo out nos ((todo.reverse ++ pre.map fun e => ⟨belowB x.name e.name, e.no⟩) ++ [⟨belowB x.name e.name, e.no⟩])) (hm : Mod (fun k => k = g ∨ k = w.heap.size + 1 + 1) W.drew W') (hg2 : g2 = g ∨ W.drew.heap.size ≤ g2) {ea : Option Addr} (hea : ∀ b off, ea = some ⟨b, off, none⟩ → b < w.heap.size) (hBc2 : w.heap.size + 1 + 1 < Bc) :
    KeepsFrom W6.heap.size W W' ∧ KT (fun k => k = Bc ∨ ∃ off, ea = some ⟨k, off, none⟩) W W' ∧ RI w W6 Bx Bc x vo out nos todo ds (pre ++ [e]) W' := by
  obtain ⟨cur, hcur⟩ := ht
  have hm' : Mod (fun k => k = g ∨ k = w.heap.size + 1 + 1) W W' := (Mod.of_below (Below.refl _ W).drew).trans hm
  have hs2 : W.heap.size ≤ W.drew.heap.size := (Below.refl W.heap.size W).drew.size
  refine ⟨((KeepsOthers.drew W).trans hk).from _, ⟨hm'.size, fun k hk => ?_⟩, ⟨⟨g2, cap2, ?_, ?_, ?_⟩, hx.mod hm' ?_, hb.trans (hm'.below (fun k hk => by omega) hb.size), hc.mod hm' ?_, Nat.le_trans hbig hm'.size⟩⟩
  · by_cases hlt : k < W.heap.size
    · refine hm'.block k hlt (fun h => ?_)
      rcases hk with rfl | ⟨off, hoff⟩
      · omega
      · have := hea k off hoff
        omega
    · rcases hk with rfl | ⟨off, hoff⟩
      · omega
      · have := hea k off hoff
        have := hb.size
        omega
  · omega
  · omega
  · rw [List.map_append, ← List.append_assoc]
    exact hD
  · intro h
    rcases h with h | h
    · exact hgx h.symm
    · subst h
      unfold Blk at hx hcur
      rw [hx] at hcur
      injection hcur with hcur
      injection hcur with e1 e2 e3
      revert e2
      decide
  · intro k h
    rcases h with rfl | rfl
    · obtain ⟨cur, T, h⟩ := hg
      rw [h]
      simp
    · rw [show W.heap[w.heap.size + 1 + 1]? = _ from hcur]
      simp
theorem rows_ret {w W : World} {tmps : Array Value} {v : Value} {Z : List Rw} {ds : List Deferred} (h6 : tmps.getD 6 undef = v) (hco : Coll w.heap.size W ds) (ho : OR W w.heap.size v Z) (hb : Below w.heap.size w W) :
    bodyPostM Fence.wide 5 Tryz.prog Tryz.f13 (fun e w' => ∃ v, e = .returned v ∧ OR w' w.heap.size v Z ∧ Below w.heap.size w w') .ret { tmps, defers := ds } W := by
  obtain ⟨Ds, rfl, h2, h3⟩ := hco
  rw [Array.getD_eq_getD_getElem?] at h6
  show LeavesInM Fence.wide 5 Tryz.prog Tryz.f13 _ _ _ _ W
  refine coll_leave (v := v) (fun W => ?_) Ds W h2 (fun D hD => (h3 D hD).2) (fun W' hm => ⟨v, rfl, own_mod ho hm (fun k hk he => ?_), hb.trans (hm.below (fun k hk => (h3 k hk).1) hb.size)⟩)
  · simp [results, Tryz.results13, go_sem, h6]
  · obtain ⟨-, cur, hc⟩ := own_obj1 ho he
    have := (h3 k hk).2
    rw [hc] at this
    cases this
section

variable {w w' : World} {pf pw : Nat} {R : Rp} {pv : Value} {Y : Sy}

/-- Get, whatever there is. -/
theorem wget_v {R : Rp} {S : Fs} (h : WdAt w pw R S) (k : Int) : ∃ a ea el ec b, EntsAt w ea el ec a.ents ∧ (S.get k = some a ∧ b = true ∨ (S.get k = none ∧ a = an0 ∧ b = false)) ∧
    ∀ w1, Below w.heap.size w w1 → Calls Tryz.prog 39 #[.pointer (some ⟨R.pt, 0, none⟩), .int .i64 k] w1 fun e w' => e = .returned (.tuple #[.agg #[.int .i64 a.no, .int .i64 a.dev, .int .i64 a.kind, .int .i64 a.mode, .int .i64 a.uid, .int .i64 a.gid, .int .i64 a.mtime, .int .i64 a.ctime, .int .i64 a.links, .int .i64 a.up, .string a.data, .slice ea el ec], .bool b]) ∧ Below w1.heap.size w1 w' := by
  cases hg : S.get k with
  | none => exact ⟨an0, none, 0, 0, false, EntsAt.nil w, .inr ⟨rfl, rfl, rfl⟩, fun w1 hb => wget_no (h.keep hb) hg⟩
  | some a =>
    obtain ⟨ea, el, ec, he, hc⟩ := wget_fix h hg
    exact ⟨a, ea, el, ec, true, he, .inl ⟨rfl, rfl⟩, hc⟩
theorem entsall_any (a : Option Addr) (n c : Nat) (w : World) :
    Calls Tryz.prog 41 #[.slice a n c] w fun e w' => e = .returned (.func (.func 84) #[] #[.pointer (some ⟨w.heap.size, 0, none⟩)]) ∧ w' = w.alloc (.cells #[.slice a n c] 84) := by
  go_enter Tryz.func41, Tryz.ntmps41
  go_wp2_with fail
  go_ret
  exact ⟨rfl, rfl⟩
set_option maxRecDepth 100000 in
set_option maxHeartbeats 8000000 in
theorem drows_any (h : SyAt w pf pw R pv Y) {N : Nat} (hk : FsOk Y.fs N) (hp : Pl Y.fs) (ht : Tr Y.fs) (hF : Y.fs.rowsF N ≤ 10000) (hN : N ≤ 100) (no : Int) (p : ByteArray) (hs : p.size ≤ 10000) :
    Calls Tryz.prog 13 #[.pointer (some ⟨pf, 0, none⟩), .int .i64 no, .string p] w fun e w' => ∃ v, e = .returned v ∧ OR w' w.heap.size v (Y.fs.rows N no p) ∧ Below w.heap.size w w' := by
  have HH := Lib.hid h
  have HK := Lib.hid (And.intro hk (And.intro hp ht))
  obtain ⟨S, hS⟩ : ∃ S, Y.fs = S := ⟨_, rfl⟩
  have HR0 := Lib.hid (show Y.fs.rows N no p = Y.fs.rowsN (Y.fs.rowsF N) [⟨p, no⟩] [] [] from rfl)
  have HT0 := Lib.hid (TrSt.start Y.fs N no p)
  have HL1 := Lib.hid (show (Y.fs.last.toNat : Int) = Y.fs.last ∧ Y.fs.last ≤ N from ⟨by have := hk.l0; omega, hk.lN⟩)
  have HWd := Lib.hid h.wd
  obtain ⟨fc, -, fz⟩ := h.blk.facts
  rw [hS] at HK HR0 HT0 HL1 HWd hF ⊢
  generalize S.rows N no p = Z at HR0 ⊢
  have hmm := @run_makeMap Tryz.prog
  have hb0 := balloc (balloc (balloc (Below.refl w.heap.size w) (.map #[] 0)) (.cells #[.string p, .int .i64 no] 82)) (.cells #[.slice (some ⟨w.heap.size + 1, 0, none⟩) 1 1] 83)
  clear h hk hp ht
  refine (callsIn_wide (n := 5)).1 ?_
  refine callsIn_of_wp_marks Tryz.func13 rfl trivial ?_ rfl
  simp only [Tryz.ntmps13, List.size_toArray, List.length_cons, List.length_nil, Nat.reduceAdd, Nat.reduceSub, Array.replicate_succ, Array.replicate_zero, List.push_toArray, List.append_toArray, List.nil_append, List.cons_append]
  refine wpIn_wide.2 ?_
  go_upto_region 6 with fail
  clear hmm fc fz
  have hz1 : (w.alloc (.map #[] 0)).heap.size = w.heap.size + 1 := by simp
  have hz2 : ((w.alloc (.map #[] 0)).alloc (.cells #[.string p, .int .i64 no] 82)).heap.size = w.heap.size + 1 + 1 := by simp
  have hDB : DB w.heap.size (((w.alloc (.map #[] 0)).alloc (.cells #[.string p, .int .i64 no] 82)).alloc (.cells #[.slice (some ⟨w.heap.size + 1, 0, none⟩) 1 1] 83)) w.heap.size (w.heap.size + 1 + 1) (w.heap.size + 1) 1 (.slice none 0 0) [] [] [⟨p, no⟩] := by
    refine ⟨OR.nil _ _, ?_, ?_, [], 0, ?_, FirstOf.nil⟩
    · have := Blk.new ((w.alloc (.map #[] 0)).alloc (.cells #[.string p, .int .i64 no] 82)) #[.slice (some ⟨w.heap.size + 1, 0, none⟩) 1 1] 83
      rw [hz2] at this
      exact this
    · have h1 := (Blk.new (w.alloc (.map #[] 0)) #[.string p, .int .i64 no] 82).old (.cells #[.slice (some ⟨w.heap.size + 1, 0, none⟩) 1 1] 83)
      rw [hz1] at h1
      exact ⟨rfl, .inr ⟨w.heap.size + 1, 1, #[.string p, .int .i64 no], rfl, by omega, h1, Nat.le_refl _, by unfold maxLen; omega, rfl, rfl⟩⟩
    · have : MapB (w.alloc (.map #[] 0)) w.heap.size [] 0 := by
        unfold MapB
        exact World.alloc_heap_new _ _
      exact (this.old _).old _
  have HD0 := Lib.hid (show DI S N w (S.over no) p Z (S.rowsF N) (.slice none 0 0) [] (((w.alloc (.map #[] 0)).alloc (.cells #[.string p, .int .i64 no] 82)).alloc (.cells #[.slice (some ⟨w.heap.size + 1, 0, none⟩) 1 1] 83)) from ⟨⟨_, _, _, _, _, hDB, HT0.out, rfl, by simp, HR0.out⟩, hb0, Coll.nil _ _⟩)
  generalize ((w.alloc (.map #[] 0)).alloc (.cells #[.string p, .int .i64 no] 82)).alloc (.cells #[.slice (some ⟨w.heap.size + 1, 0, none⟩) 1 1] 83) = W0 at HD0 ⊢
  clear hb0 hDB hz1 hz2
  refine wp_loop_ghost_k (fun f a W => ∃ u7 u10 u11 u12 u13 u14 u15 u16 u17 u32 u33 u34 u35 u36 u37 u38 u39 u40 u41 u42 u43 u44 u45 u46 u47 u48 u49 u50 u51 u52 u53 u54 u55 u56 u57 u58 u59 u60 u61 u62 u63 u64 u65 u66 u67 u68 u69 u70 u71 u72 u73 u74 u75 u76 u77 u78 u79 u80 u81 u82 u83 u84 u85 u86 u87 u88 u89 u90 u91 u92 u93 u94 u95 u96 u97 u98 u99 u100 u101 u102 u103 u104 u105 u106 u107 u108 u109 u110 u111 u112 u113 u114 u115 u116 u117 u118 u119 u120 u121 u122 u123 : Value, ∃ ds : List Deferred, DI S N w (S.over no) p Z f u7 ds W ∧ a = { tmps := #[.pointer (some ⟨pf, 0, none⟩), .int .i64 no, .string p, undef, undef, undef, .slice none 0 0, u7, .map (some w.heap.size), .pointer (some ⟨w.heap.size + 1 + 1, 0, none⟩), u10, u11, u12, u13, u14, u15, u16, u17, .pointer (some ⟨pf, 0, none⟩), .bool false, .bool false, .pointer (some ⟨pf, 0, none⟩), .pointer (some ⟨pf, 0, none⟩), .pointer (some ⟨pf, 0, none⟩), .pointer (some ⟨pw, 0, none⟩), .bool false, .bool false, .map (some w.heap.size), .string p, .int .i64 no, .agg #[.string p, .int .i64 no], .slice (some ⟨w.heap.size + 1, 0, none⟩) 1 1, u32, u33, u34, u35, u36, u37, u38, u39, u40, u41, u42, u43, u44, u45, u46, u47, u48, u49, u50, u51, u52, u53, u54, u55, u56, u57, u58, u59, u60, u61, u62, u63, u64, u65, u66, u67, u68, u69, u70, u71, u72, u73, u74, u75, u76, u77, u78, u79, u80, u81, u82, u83, u84, u85, u86, u87, u88, u89, u90, u91, u92, u93, u94, u95, u96, u97, u98, u99, u100, u101, u102, u103, u104, u105, u106, u107, u108, u109, u110, u111, u112, u113, u114, u115, u116, u117, u118, u119, u120, u121, u122, u123, undef], defers := ds }) (S.rowsF N) ?_ ?_
  · (repeat apply Exists.intro)
    exact ⟨HD0.out, rfl⟩
  · intro f a wr hinv
    obtain ⟨u7, hinv⟩ := hinv
    obtain ⟨u10, hinv⟩ := hinv
    obtain ⟨u11, hinv⟩ := hinv
    obtain ⟨u12, hinv⟩ := hinv
    obtain ⟨u13, hinv⟩ := hinv
    obtain ⟨u14, hinv⟩ := hinv
    obtain ⟨u15, hinv⟩ := hinv
    obtain ⟨u16, hinv⟩ := hinv
    obtain ⟨u17, hinv⟩ := hinv
    obtain ⟨u32, hinv⟩ := hinv
    obtain ⟨u33, hinv⟩ := hinv
    obtain ⟨u34, hinv⟩ := hinv
    obtain ⟨u35, hinv⟩ := hinv
    obtain ⟨u36, hinv⟩ := hinv
    obtain ⟨u37, hinv⟩ := hinv
    obtain ⟨u38, hinv⟩ := hinv
    obtain ⟨u39, hinv⟩ := hinv
    obtain ⟨u40, hinv⟩ := hinv
    obtain ⟨u41, hinv⟩ := hinv
    obtain ⟨u42, hinv⟩ := hinv
    obtain ⟨u43, hinv⟩ := hinv
    obtain ⟨u44, hinv⟩ := hinv
    obtain ⟨u45, hinv⟩ := hinv
    obtain ⟨u46, hinv⟩ := hinv
    obtain ⟨u47, hinv⟩ := hinv
    obtain ⟨u48, hinv⟩ := hinv
    obtain ⟨u49, hinv⟩ := hinv
    obtain ⟨u50, hinv⟩ := hinv
    obtain ⟨u51, hinv⟩ := hinv
    obtain ⟨u52, hinv⟩ := hinv
    obtain ⟨u53, hinv⟩ := hinv
    obtain ⟨u54, hinv⟩ := hinv
    obtain ⟨u55, hinv⟩ := hinv
    obtain ⟨u56, hinv⟩ := hinv
    obtain ⟨u57, hinv⟩ := hinv
    obtain ⟨u58, hinv⟩ := hinv
    obtain ⟨u59, hinv⟩ := hinv
    obtain ⟨u60, hinv⟩ := hinv
    obtain ⟨u61, hinv⟩ := hinv
    obtain ⟨u62, hinv⟩ := hinv
    obtain ⟨u63, hinv⟩ := hinv
    obtain ⟨u64, hinv⟩ := hinv
    obtain ⟨u65, hinv⟩ := hinv
    obtain ⟨u66, hinv⟩ := hinv
    obtain ⟨u67, hinv⟩ := hinv
    obtain ⟨u68, hinv⟩ := hinv
    obtain ⟨u69, hinv⟩ := hinv
    obtain ⟨u70, hinv⟩ := hinv
    obtain ⟨u71, hinv⟩ := hinv
    obtain ⟨u72, hinv⟩ := hinv
    obtain ⟨u73, hinv⟩ := hinv
    obtain ⟨u74, hinv⟩ := hinv
    obtain ⟨u75, hinv⟩ := hinv
    obtain ⟨u76, hinv⟩ := hinv
    obtain ⟨u77, hinv⟩ := hinv
    obtain ⟨u78, hinv⟩ := hinv
    obtain ⟨u79, hinv⟩ := hinv
    obtain ⟨u80, hinv⟩ := hinv
    obtain ⟨u81, hinv⟩ := hinv
    obtain ⟨u82, hinv⟩ := hinv
    obtain ⟨u83, hinv⟩ := hinv
    obtain ⟨u84, hinv⟩ := hinv
    obtain ⟨u85, hinv⟩ := hinv
    obtain ⟨u86, hinv⟩ := hinv
    obtain ⟨u87, hinv⟩ := hinv
    obtain ⟨u88, hinv⟩ := hinv
    obtain ⟨u89, hinv⟩ := hinv
    obtain ⟨u90, hinv⟩ := hinv
    obtain ⟨u91, hinv⟩ := hinv
    obtain ⟨u92, hinv⟩ := hinv
    obtain ⟨u93, hinv⟩ := hinv
    obtain ⟨u94, hinv⟩ := hinv
    obtain ⟨u95, hinv⟩ := hinv
    obtain ⟨u96, hinv⟩ := hinv
    obtain ⟨u97, hinv⟩ := hinv
    obtain ⟨u98, hinv⟩ := hinv
    obtain ⟨u99, hinv⟩ := hinv
    obtain ⟨u100, hinv⟩ := hinv
    obtain ⟨u101, hinv⟩ := hinv
    obtain ⟨u102, hinv⟩ := hinv
    obtain ⟨u103, hinv⟩ := hinv
    obtain ⟨u104, hinv⟩ := hinv
    obtain ⟨u105, hinv⟩ := hinv
    obtain ⟨u106, hinv⟩ := hinv
    obtain ⟨u107, hinv⟩ := hinv
    obtain ⟨u108, hinv⟩ := hinv
    obtain ⟨u109, hinv⟩ := hinv
    obtain ⟨u110, hinv⟩ := hinv
    obtain ⟨u111, hinv⟩ := hinv
    obtain ⟨u112, hinv⟩ := hinv
    obtain ⟨u113, hinv⟩ := hinv
    obtain ⟨u114, hinv⟩ := hinv
    obtain ⟨u115, hinv⟩ := hinv
    obtain ⟨u116, hinv⟩ := hinv
    obtain ⟨u117, hinv⟩ := hinv
    obtain ⟨u118, hinv⟩ := hinv
    obtain ⟨u119, hinv⟩ := hinv
    obtain ⟨u120, hinv⟩ := hinv
    obtain ⟨u121, hinv⟩ := hinv
    obtain ⟨u122, hinv⟩ := hinv
    obtain ⟨u123, hinv⟩ := hinv
    obtain ⟨ds, hrel, ha⟩ := hinv
    subst ha
    intro J K hJ hK
    dsimp only
    obtain ⟨⟨todo, nos, out, g, cap, hD, hT, hon, hf, hZ⟩, hbw, hco⟩ := hrel
    have HD := Lib.hid hD
    have HTS := Lib.hid hT
    have HZ := Lib.hid hZ
    have HBw := Lib.hid hbw
    have HCo := Lib.hid hco
    have HO := Lib.hid (And.intro hon hf)
    clear hon hf hZ hco
    cases todo with
    | nil =>
      obtain ⟨tc, tf, tz⟩ := hD.t.facts
      have HE := Lib.hid (HZ.out.trans (rows_nil _ _ _ _))
      have HOr := Lib.hid (show OR wr w.heap.size u7 Z by rw [HE.out]; exact hD.o)
      clear hD hT hbw
      go_wp2_with (exact rows_ret rfl HCo.out HOr.out HBw.out)
    | cons x todo =>
      obtain ⟨f, rfl⟩ := hT.pos
      obtain ⟨m, hm⟩ : ∃ m, todo.length = m := ⟨_, rfl⟩
      have hD1 := hD
      rw [List.reverse_cons] at hD1
      have hlen : (todo.reverse ++ [x]).length = m + 1 := by rw [List.length_append, List.length_reverse, hm]; rfl
      have hcm := hD1.s.cell m (by rw [hlen]; omega)
      have hget : (todo.reverse ++ [x])[m]'(by rw [hlen]; omega) = x := by
        rw [List.getElem_append_right (by rw [List.length_reverse]; omega)]
        simp
      rw [hget] at hcm
      obtain ⟨c1, c2⟩ := hcm
      obtain ⟨hgf, hgl, hgb, hcap1, hcap2⟩ := hD1.s.frozen
      rw [hlen] at hcap1
      have ht1 := hD1.t
      rw [hlen] at ht1
      obtain ⟨tc, tf, tz⟩ := ht1.facts
      have hm1 : m ≤ 10000 := by
        have h1 := hT.fuel
        have h2 := HO.out.2
        simp at h1
        omega
      have hxs : x.name.size ≤ 50000 := by
        have h1 := hT.size x (by simp)
        have h2 : (if S.isDir (S.over x.no) then (S.over x.no).toNat else S.last.toNat + 1) ≤ 101 := by
          obtain ⟨h3, h4⟩ := HL1.out
          split
          · rename_i hd
            obtain ⟨q, hq, -⟩ := isDir_some hd
            have := (HK.out.1.get hq).2.2.2
            omega
          · omega
        omega
      have hX := Blk.new wr #[.string x.name, .int .i64 x.no] 82
      have hbX := balloc hbw (.cells #[.string x.name, .int .i64 x.no] 82)
      have hbX1 := (Below.refl _ wr).alloc (Nat.le_refl _) (.cells #[.string x.name, .int .i64 x.no] 82)
      have hDX := hD1.keep hbX1
      have hCX := HCo.out.keep hbX1
      go_upto_region 8 with fail
      generalize wr.alloc (.cells #[.string x.name, .int .i64 x.no] 82) = X at hX hbX hDX hCX ⊢
      have hgx : g ≠ wr.heap.size := by omega
      have hbt0 : w.heap.size + 1 + 1 < wr.heap.size := ht1.lt
      clear hbX1 tc tf tz c1 c2 hgf hgl hgb
      obtain ⟨hDP, hbP, hMP⟩ := hDX.pop (by omega)
      rw [List.length_reverse, hm] at hDP hbP hMP
      have ht2 := hDX.t
      rw [hlen] at ht2
      obtain ⟨tc, tf, tz⟩ := ht2.facts
      have hXP := hX.mod hMP (by have := ht1.lt; omega)
      have hCP := hCX.mod hMP (fun k hk => by subst hk; rw [show X.heap[w.heap.size + 1 + 1]? = _ from ht2]; simp)
      have hbP2 := hbX.trans hbP
      go_upto_region 9 with fail
      generalize X.setCell ⟨w.heap.size + 1 + 1, 0, none⟩ (.slice (some ⟨g, 0, none⟩) m cap) = P at hDP hbP hMP hXP hCP hbP2 ⊢
      have HDP := Lib.hid hDP
      have HXP := Lib.hid hXP
      have HCP := Lib.hid hCP
      have HBP := Lib.hid hbP2
      obtain ⟨k, hk⟩ : ∃ k, S.over x.no = k := ⟨_, rfl⟩
      have HKk := Lib.hid hk
      obtain ⟨n, ea, el, ec, b, hEn, hcase, hG⟩ := wget_v HWd.out k
      have HEn := Lib.hid hEn
      have HCs := Lib.hid hcase
      have HOv := Lib.hid (fun w1 (hb : Below P.heap.size P w1) => wover_any (HWd.out.keep (bnext HBP.out hb)) HK.out.1.d1 x.no)
      have HG := Lib.hid (fun w1 (hb : Below P.heap.size P w1) => hG w1 (bnext HBP.out hb))
      rw [hk] at HOv
      have hSy := HH.out.keep HBP.out
      obtain ⟨fc, ff, fz⟩ := hSy.blk.facts
      obtain ⟨wc, wf, wz⟩ := hSy.wd.blk.facts
      clear hD hT hbw hD1 hlen hget hcap1 ht1 hX hbX hDX hCX tc tf tz hDP hbP hMP hXP hCP hbP2 ht2 hk hEn hcase hG hSy
      obtain ⟨xc, xf, xz⟩ := HXP.out.facts
      have HnBlk := Lib.hid (show n.no = n.no from rfl)
      go_cut [11, 12] from 32 to 123 (fun t11 t12 wx => ∃ Bd : Nat, t11 = .pointer (some ⟨Bd, 0, none⟩) ∧ t12 = .bool b ∧ Blk wx Bd #[.int .i64 n.no, .int .i64 n.dev, .int .i64 n.kind, .int .i64 n.mode, .int .i64 n.uid, .int .i64 n.gid, .int .i64 n.mtime, .int .i64 n.ctime, .int .i64 n.links, .int .i64 n.up, .string n.data, .slice ea el ec] 86 ∧ P.heap.size ≤ Bd ∧ Below P.heap.size P wx)
      case first =>
        have hzz : P.heap.size ≤ P.heap.size := Nat.le_refl _
        go_region_held3 (fun w' => (∀ b o, b < P.heap.size → w'.cell? ⟨b, o, none⟩ = P.cell? ⟨b, o, none⟩) ∧ Below P.heap.size P w') (first | with_reducible exact keepS_set12 (by assumption) (by assumption) | (first | with_reducible assumption | with_reducible exact keepS_here _ | with_reducible exact keepS_here2 _ | with_reducible exact keepS_call (by assumption) (by assumption) | with_reducible exact keepS_alloc (by assumption) _ | with_reducible exact keepS_allocD (by assumption) _ | with_reducible exact keepS_realloc (by assumption) (by assumption) | with_reducible exact keepS_set4 (by assumption) (by assumption)))
          (first
            | (go_at_call 40; ((with_reducible refine (HOv.out _ (And.right ‹(∀ b o, b < P.heap.size → _) ∧ Below P.heap.size P _›)).mono ?_); rintro e w4 ⟨rfl, hb4⟩; have hz4 := Nat.le_trans (And.right ‹(∀ b o, b < P.heap.size → _) ∧ Below P.heap.size P _›).size hb4.size; try (have hbq := new_drew hb4; obtain ⟨bqc, bqf, bqz⟩ := hbq.facts)))
            | (go_at_call 39; ((with_reducible refine (HG.out _ (And.right ‹(∀ b o, b < P.heap.size → _) ∧ Below P.heap.size P _›)).mono ?_); rintro e w5 ⟨rfl, hb5⟩; have hz5 := Nat.le_trans (And.right ‹(∀ b o, b < P.heap.size → _) ∧ Below P.heap.size P _›).size hb5.size; try (first | (have hbq5 := hbq.keep hb5; obtain ⟨bqc5, bqf5, bqz5⟩ := hbq5.facts) | (have hbq5 := new_keep hb5; obtain ⟨bqc5, bqf5, bqz5⟩ := hbq5.facts)))))
        all_goals
          obtain ⟨-, hS4⟩ := ‹_ ∧ Below P.heap.size P _›
          have HS4 := Lib.hid hS4
          try (have HQ5 := Lib.hid hbq5)
          clear hS4
          go_wp2_with fail
          go_meet
          exact ⟨_, rfl, rfl, by first | exact HQ5.out.set12 | exact Blk.new _ _ _, by first | exact Nat.le_refl _ | assumption, HS4.out⟩
      case rest =>
        obtain ⟨Bd, rfl, rfl, hNd, hBd, hbX⟩ := hcut
        generalize wc = X at hNd hbX ⊢
        have HXB := Lib.hid (HXP.out.keep hbX)
        have HNd := Lib.hid hNd
        have HDX := Lib.hid (HDP.out.keep hbX)
        have HCX := Lib.hid (HCP.out.keep hbX)
        have HBX := Lib.hid (bnext HBP.out hbX)
        have HEX := Lib.hid (HEn.out.keepB (bnext HBP.out hbX) (Nat.le_refl _))
        clear xc xf xz fc ff fz wc wf wz hNd hbX
        rcases HCs.out with ⟨hg, rfl⟩ | ⟨hg, rfl, rfl⟩
        · have hno := an_no hg
          have HE := Lib.hid (HZ.out.trans (rows_some (by rw [HKk.out]; exact hg) _ _ _ _))
          have HT3 := Lib.hid (HTS.out.some HK.out.1 HK.out.2.1 HK.out.2.2 (by rw [HKk.out]; exact hg))
          have hdat := Lib.hid (And.intro (HK.out.1.get hg).1 (HK.out.2.1.names n (an_mem hg)))
          clear hg hno
          have HEl := Lib.hid HEX.out.len
          obtain ⟨nc, nf, nz⟩ := HNd.out.facts
          have HIt := Lib.hid (show (if n.no ∈ nos then nos.idxOf n.no else out.length) = nos.idxOf n.no by
            split
            · rfl
            · rename_i h
              rw [HO.out.1]
              exact (List.idxOf_eq_length h).symm)
          have hoo : out.length ≤ 10000 := by
            have := HO.out.2
            omega
          obtain ⟨oa, oc, hu7, ho1, ho2, -⟩ := own_form HDX.out.o
          subst hu7
          go_upto_region 11 with fail
          go_cut [13, 14] from 32 to 123 (fun t13 t14 wx => t13 = .int .i64 (if n.no ∈ nos then (nos.idxOf n.no : Int) else 0) ∧ t14 = .bool (decide (n.no ∈ nos)) ∧ wx = X)
          case first =>
            by_cases hin : n.no ∈ nos
            · have hlk := HDX.out.yes hin
              have HIn := Lib.hid hin
              clear hin
              go_wp2_with fail
              go_meet
              exact ⟨by rw [if_pos HIn.out], by rw [decide_eq_true HIn.out], rfl⟩
            · have hlk := HDX.out.no hin
              have HIn := Lib.hid hin
              clear hin
              go_wp2_with fail
              go_meet
              exact ⟨by rw [if_neg HIn.out], by rw [decide_eq_false HIn.out], rfl⟩
          case rest =>
            obtain ⟨rfl, rfl, hwc⟩ := hcut
            obtain ⟨met, hmet⟩ : ∃ y, decide (n.no ∈ nos) = y := ⟨_, rfl⟩
            obtain ⟨at0, hat0⟩ : ∃ y, (if n.no ∈ nos then (nos.idxOf n.no : Int) else 0) = y := ⟨_, rfl⟩
            rw [hmet, hat0]
            have HMet := Lib.hid hmet
            have HAt := Lib.hid hat0
            clear hmet hat0
            generalize wc = X2 at hwc ⊢
            subst hwc
            go_step
            go_step
            go_cut [13] from 32 to 123 (fun t13 wx => t13 = .int .i64 (nos.idxOf n.no : Nat) ∧ DB w.heap.size wx w.heap.size (w.heap.size + 1 + 1) g cap (.slice oa out.length oc) out (nos ++ [n.no]) todo.reverse ∧ Mod (fun k => k = w.heap.size) X2 wx ∧ (∀ B vs T, Blk X2 B vs T → Blk wx B vs T))
            case first =>
              cases met with
              | true =>
                have hin := of_decide_eq_true HMet.out
                have hat : at0 = (nos.idxOf n.no : Int) := by rw [← HAt.out, if_pos hin]
                subst hat
                have HIn := Lib.hid hin
                clear hin
                go_wp2_with fail
                go_meet
                exact ⟨rfl, HDX.out.old HIn.out, Mod.refl _ _, fun _ _ _ h => h⟩
              | false =>
                have hin := of_decide_eq_false HMet.out
                obtain ⟨W2, hup, hD2, hB2, hbel, hM2⟩ := HDX.out.new hin (Nat.le_refl _) HBX.out.size
                rw [← HO.out.1] at hup
                have HIx := Lib.hid (show nos.idxOf n.no = out.length by rw [← HIt.out, if_neg hin])
                have HX := Lib.hid (And.intro hD2 (And.intro hM2 hB2))
                clear hin hD2 hB2 hbel hM2
                go_wp2_with fail
                go_meet
                exact ⟨by rw [HIx.out], HX.out.1, HX.out.2.1, HX.out.2.2⟩
            case rest =>
              obtain ⟨rfl, hD3, hM3, hB3⟩ := hcut
              generalize wc = X4 at hD3 hM3 hB3 ⊢
              clear nc nf nz
              have hmap : ∃ l clk, MapB X2 w.heap.size l clk := by obtain ⟨l, clk, h, -⟩ := HDX.out.m; exact ⟨l, clk, h⟩
              obtain ⟨ml, mclk, hmap⟩ := hmap
              unfold MapB at hmap
              have hXB4 := hB3 _ _ _ HXB.out
              have hNd4 := hB3 _ _ _ HNd.out
              have hE4 := HEX.out.turn (fun b cur hc => hM3.block b (Array.getElem?_eq_some_iff.1 hc).1 (fun hk => by rw [hk, hmap] at hc; cases hc)) hM3.size
              have hC4 := HCX.out.mod hM3 (fun k hk => by rw [hk, hmap]; simp)
              have hB4 := HBX.out.trans (hM3.below (fun k hk => by omega) HBX.out.size)
              obtain ⟨fi, hfi⟩ : ∃ y, nos.idxOf n.no = y := ⟨_, rfl⟩
              rw [hfi] at HE ⊢
              obtain ⟨g3, cap3, W5, hrun5, hD5, hb5, hM5⟩ := hD3.row (n.rw x.name (fi : Nat)) (by omega) hB4.size
              have hXB5 := own_blk hD3.o (by decide) hXB4 hM5
              have hNd5 := own_blk hD3.o (by decide) hNd4 hM5
              have hE5 := own_ents hD3.o (by decide) hM5 hE4
              have hC5 := hC4.mod hM5 (fun k hk => by
                obtain ⟨-, cur, hc⟩ := own_obj1 hD3.o hk
                rw [hc]
                simp)
              have hB5 := hB4.trans hb5
              simp only [rwC, An.rw] at hrun5
              have HR5 := Lib.hid hrun5
              have ht5 := hD5.t
              rw [List.length_reverse, hm] at ht5
              obtain ⟨x4, xf4, xz4⟩ := hXB4.facts
              obtain ⟨n4, nf4, nz4⟩ := hNd4.facts
              obtain ⟨n5, nf5, nz5⟩ := hNd5.facts
              obtain ⟨t5, tf5, tz5⟩ := ht5.facts
              have HD5 := Lib.hid hD5
              have HX5 := Lib.hid hXB5
              have HN5 := Lib.hid hNd5
              have HE5 := Lib.hid hE5
              have HC5 := Lib.hid hC5
              have HB5 := Lib.hid hB5
              have HAl := Lib.hid (entsall_any ea el ec W5)
              clear hD3 hM3 hB3 hmap hXB4 hNd4 hE4 hC4 hB4 hrun5 hD5 hb5 hM5 hXB5 hNd5 hE5 hC5 hB5 ht5 hfi
              go_wp2_with (at_builtin; refine wpList_app_run rfl rfl rfl rfl HR5.out ?_)
              refine HAl.out.mono ?_
              rintro e W6 ⟨rfl, hW6⟩
              clear x4 xf4 xz4 n4 nf4 nz4 n5 nf5 nz5 t5 tf5 tz5
              have hb6 := (Below.refl _ W5).alloc (Nat.le_refl _) (.cells #[.slice ea el ec] 84)
              have hA6 := Blk.new W5 #[.slice ea el ec] 84
              rw [← hW6] at hb6 hA6
              have hD6 := HD5.out.keep hb6
              have hX6 := HX5.out.keep hb6
              have hE6 := HE5.out.keep hb6
              have hC6 := HC5.out.keep hb6
              have hB6 := bnext HB5.out hb6
              have hz6 : W6.heap.size = W5.heap.size + 1 := by rw [hW6]; simp
              clear hW6 hb6
              go_wp2_with fail
              have hdb6 := hD6.s.frozen
              have hBz := hB6.size
              have ht6 := hD6.t.lt
              have hg5 : g ≠ W5.heap.size := by
                have := HD5.out.s.frozen.2.1
                omega
              have hbx5 : wr.heap.size < W5.heap.size := HX5.out.lt
              have hbt5 : w.heap.size + 1 + 1 < W5.heap.size := HD5.out.t.lt
              have hea : ∀ b off, ea = some ⟨b, off, none⟩ → b < w.heap.size := fun b off h => by
                obtain ⟨b', off', cur, e1, e2⟩ := HEn.out.blk _ h
                injection e1 with e1 e3
                subst e1
                exact (Array.getElem?_eq_some_iff.1 e2).1
              have HRI0 := Lib.hid (show RI w W6 wr.heap.size W5.heap.size x (.slice (some ⟨g3, 0, none⟩) (out.length + 1) cap3) (out ++ [n.rw x.name (fi : Nat)]) (nos ++ [n.no]) todo ds [] W6 from ⟨⟨g, cap, hgx, hg5, by rw [List.map_nil, List.append_nil]; exact hD6⟩, hX6, hB6, hC6, Nat.le_refl _⟩)
              have HC6 := Lib.hid hC6
              have HEa := Lib.hid hea
              refine (wpIn_wide (n := 5)).1 ?_
              refine' wpIn_rangeU (T := fun k => k = W5.heap.size ∨ ∃ off, ea = some ⟨k, off, none⟩) rfl (by omega) (gf := 84) (lb := #[.pointer (some ⟨W5.heap.size, 0, none⟩)]) rfl trivial (enters_of Tryz.func84 (by kernel_rfl) rfl)
                (entsall_stops (5 - 1) (by omega) W5.heap.size W6 hA6 hE6) ?hT (KT.refl _ _) (fun _ => rfl)
                (fun pre W => RI w W6 wr.heap.size W5.heap.size x (.slice (some ⟨g3, 0, none⟩) (out.length + 1) cap3) (out ++ [n.rw x.name (fi : Nat)]) (nos ++ [n.no]) todo ds pre W)
                (fun _ _ _ => False)
                (fun pre A B h ht => h.turn ht HC6.out (by omega)) (fun c pre A B h ht => h) HRI0.out _ ?assign ?body ?done (fun D c pre W _ _ h _ => h.elim)
              case hT =>
                rintro k (rfl | ⟨off, hoff⟩)
                · omega
                · have := hea k off hoff
                  omega
              case assign =>
                intro L e W K hK
                gi_wp2
                exact hK
              case body =>
                intro L pre e W hL hLW hRI hv
                obtain ⟨⟨g1, cap1, hgx1, hgc1, hDB1⟩, hbx, hbl, hcl, hbig⟩ := hRI
                have he : e ∈ n.ents := by
                  obtain ⟨t, ht⟩ := hv
                  rw [← ht]
                  simp
                have hpl : pre.length ≤ 100 := by
                  obtain ⟨t, ht⟩ := hv
                  have h1 := congrArg List.length ht
                  simp at h1
                  have h2 := hdat.out.1.few
                  omega
                have hes := (hdat.out.2 e he).2
                have hsl : (todo.reverse ++ pre.map fun e => (⟨belowB x.name e.name, e.no⟩ : En)).length ≤ 1000000 := by
                  rw [List.length_append, List.length_reverse, List.length_map]
                  omega
                have HBl := Lib.hid (fun w9 => tbelow_any x.name e.name w9 (by omega) (by omega))
                have hDd := hDB1.keep (Below.refl _ W).drew
                obtain ⟨g9, cap9, W9, hrun9, ht9, hD9, hm9, hk9, hg9, hm99⟩ := hDd.push ⟨belowB x.name e.name, e.no⟩ hsl (by omega)
                have hfin := RI.push (e := e) (Bc := W5.heap.size) hbx hbl hcl hbig hgx1 hgc1 (by omega) (by omega) (by
                  rcases hDB1.s.2 with ⟨hv, -⟩ | ⟨g', cap', cur, hv, hb, hg, -⟩
                  · cases hv
                  · injection hv with e1 e2 e3
                    injection e1 with e1
                    injection e1 with e1
                    subst e1
                    exact ⟨cur, _, hg⟩) hDB1.s.frozen.2.2.1 ⟨_, hDB1.t⟩ hk9 hD9 hm9 hg9 HEa.out hbt5
                have HFin := Lib.hid hfin
                have HR9 := Lib.hid hrun9
                obtain ⟨tc1, tf1, tz1⟩ := hDB1.t.facts
                obtain ⟨xc1, xf1, xz1⟩ := hbx.facts
                obtain ⟨tc9, tf9, tz9⟩ := ht9.facts
                have hx9 : W9.cell? ⟨wr.heap.size, 0, none⟩ = some (.string x.name) := ((hbx.keep (Below.refl _ W).drew).mod hm99 (fun h => hgx1 h.symm)).facts.1 0
                have HX9 := Lib.hid hx9
                have hxW : W.drew.cell? ⟨wr.heap.size, 0, none⟩ = some (.string x.name) := xc1 0
                obtain ⟨stk, hstk⟩ : ∃ y, (todo.reverse ++ pre.map fun e => (⟨belowB x.name e.name, e.no⟩ : En)) = y := ⟨_, rfl⟩
                rw [hstk] at tc1 HR9 tc9 HFin
                obtain ⟨sl, hsl2⟩ : ∃ y, stk.length = y := ⟨_, rfl⟩
                rw [hsl2] at tc1 HR9 tc9 HFin
                obtain ⟨bn, hbn⟩ : ∃ y, belowB x.name e.name = y := ⟨_, rfl⟩
                rw [hbn] at HR9 HBl
                clear hDB1 hbx hbl hcl hbig hv he hpl hes hsl hDd hrun9 ht9 hD9 hm9 hk9 hg9 hm99 hfin hx9 hstk hsl2 hbn xc1 xf1
                have hxs0 : wr.heap.size ≠ w.heap.size + 1 + 1 := by omega
                have hal : (W.drew.alloc (.cells #[.string bn, .int .i64 e.no] 82)).cell? ⟨wr.heap.size, 0, none⟩ = some (.string x.name) := by
                  rw [World.cell?_alloc_lt _ _ _ (show wr.heap.size < W.drew.heap.size from xz1)]
                  exact hxW
                gi_wp2
                have hS9 : (W9.setCell ⟨w.heap.size + 1 + 1, 0, none⟩ (.slice (some ⟨g9, 0, none⟩) (sl + 1) cap9)).cell? ⟨wr.heap.size, 0, none⟩ = some (.string x.name) := by
                  have hq := Below.heap_setCell W9 ⟨w.heap.size + 1 + 1, 0, none⟩ (.slice (some ⟨g9, 0, none⟩) (sl + 1) cap9) wr.heap.size hxs0
                  have h := HX9.out
                  simp only [World.cell?] at h ⊢
                  rw [hq]
                  exact h
                have HS9 := Lib.hid hS9
                have tcA : (W.drew.alloc (.cells #[.string bn, .int .i64 e.no] 82)).cell? ⟨w.heap.size + 1 + 1, 0, none⟩ = some (.slice (some ⟨g1, 0, none⟩) sl cap1) := by
                  rw [World.cell?_alloc_lt _ _ _ (show w.heap.size + 1 + 1 < W.drew.heap.size from tz1)]
                  exact tc1 0
                have HTA := Lib.hid tcA
                have HAl2 := Lib.hid hal
                clear hS9 tcA hal
                refine wpIn_region_held_round (S := fun w' => w'.cell? ⟨wr.heap.size, 0, none⟩ = some (.string x.name)) (by kernel_rfl) (by kernel_rfl) (fun h => by obtain ⟨_, _, h⟩ := h; exact h) hxW (fun hHeld => ?_)
                refine reg_take 1 112 (v := ?vz1_1) rfl rfl (by kernel_rfl) (by kernel_rfl) (by kernel_rfl) (fun _ _ _ h => h) rfl ?yz1_1 hHeld ?_
                case yz1_1 => (intro w hSw; (try dsimp only at hSw); go_simp; (try with_reducible rfl))
                simp only [List.setIfInBounds_toArray, List.set_cons_zero, List.set_cons_succ]
                refine reg_take 2 113 (v := ?vz2_2) rfl rfl (by kernel_rfl) (by kernel_rfl) (by kernel_rfl) (fun _ _ _ h => h) rfl ?yz2_2 hHeld ?_
                case yz2_2 => (intro w hSw; (try dsimp only at hSw); go_simp; (try with_reducible rfl))
                simp only [List.setIfInBounds_toArray, List.set_cons_zero, List.set_cons_succ]
                refine reg_take 3 114 (v := ?vz3_3) rfl rfl (by kernel_rfl) (by kernel_rfl) (by kernel_rfl) (fun _ _ _ h => h) rfl ?yz3_3 hHeld ?_
                case yz3_3 => (intro w hSw; (try dsimp only at hSw); go_simp; (try with_reducible rfl))
                simp only [List.setIfInBounds_toArray, List.set_cons_zero, List.set_cons_succ]
                refine reg_take 5 116 (v := ?vz5_4) rfl rfl (by kernel_rfl) (by kernel_rfl) (by kernel_rfl) (fun _ _ _ h => h) rfl ?yz5_4 hHeld ?_
                case yz5_4 => (intro w hSw; (try dsimp only at hSw); go_simp; (try with_reducible rfl))
                simp only [List.setIfInBounds_toArray, List.set_cons_zero, List.set_cons_succ]
                refine reg_two_call 0 111 4 115 (v := .slice (some ⟨g1, 0, none⟩) sl cap1) (vj := .string bn) (by kernel_rfl) rfl rfl rfl rfl rfl rfl ?r0 ?r4 (HBl.out _) hHeld ?_ ?_
                case r0 => (go_simp; try rfl)
                case r4 => (go_simp; try rfl)
                · simp only [List.setIfInBounds_toArray, List.set_cons_zero, List.set_cons_succ]
                  refine reg_call 4 115 (R := fun v w' => v = .string bn ∧ w' = W.drew) (by kernel_rfl) rfl rfl rfl ?x4 ((HBl.out _).mono (fun e w' ⟨he, hw⟩ => ⟨_, he, rfl, hw⟩)) (fun v w' ⟨_, hw⟩ => by rw [hw]; exact hHeld) ?_
                  case x4 => (go_simp; try rfl)
                  rintro _ _ ⟨rfl, rfl⟩
                  simp only [List.setIfInBounds_toArray, List.set_cons_zero, List.set_cons_succ]
                  refine reg_take 6 117 (v := ?vz6_5) rfl rfl (by kernel_rfl) (by kernel_rfl) (by kernel_rfl) (fun _ _ _ h => h) rfl ?yz6_5 hHeld ?_
                  case yz6_5 => (intro w hSw; (try dsimp only at hSw); go_simp; (try with_reducible rfl))
                  simp only [List.setIfInBounds_toArray, List.set_cons_zero, List.set_cons_succ]
                  refine reg_alone 7 118 (v := .slice (some ⟨W.drew.heap.size, 0, none⟩) 1 1) (W := (W.drew.alloc (.cells #[.string bn, .int .i64 e.no] 82))) (by kernel_rfl) rfl rfl rfl ?q7_6 HAl2.out ?_
                  case q7_6 => (go_simp; try rfl)
                  simp only [List.setIfInBounds_toArray, List.set_cons_zero, List.set_cons_succ]
                  refine reg_app 8 119 (by kernel_rfl) rfl rfl rfl rfl rfl rfl HR9.out HX9.out ?_
                  simp only [List.setIfInBounds_toArray, List.set_cons_zero, List.set_cons_succ]
                  refine reg_store 9 (W := W9.setCell ⟨w.heap.size + 1 + 1, 0, none⟩ (.slice (some ⟨g9, 0, none⟩) (sl + 1) cap9)) (by kernel_rfl) rfl rfl rfl ?q9 HS9.out ?_
                  case q9 => (go_simp; try rfl)
                  refine wpAnyH_done (by kernel_rfl) ?_ _
                  exact HFin.out
                · simp only [List.setIfInBounds_toArray, List.set_cons_zero, List.set_cons_succ]
                  refine reg_take 6 117 (v := ?vz6_7) rfl rfl (by kernel_rfl) (by kernel_rfl) (by kernel_rfl) (fun _ _ _ h => h) rfl ?yz6_7 hHeld ?_
                  case yz6_7 => (intro w hSw; (try dsimp only at hSw); go_simp; (try with_reducible rfl))
                  simp only [List.setIfInBounds_toArray, List.set_cons_zero, List.set_cons_succ]
                  refine reg_two 0 111 7 118 (v := .slice (some ⟨g1, 0, none⟩) sl cap1) (vj := .slice (some ⟨W.drew.heap.size, 0, none⟩) 1 1) (Wi := W.drew) (W := (W.drew.alloc (.cells #[.string bn, .int .i64 e.no] 82))) (by kernel_rfl) rfl rfl rfl rfl rfl rfl ?s0 ?s7 hHeld HAl2.out ?_ ?_
                  case s0 => (go_simp; try rfl)
                  case s7 => (go_simp; try rfl)
                  · simp only [List.setIfInBounds_toArray, List.set_cons_zero, List.set_cons_succ]
                    refine reg_alone 7 118 (v := .slice (some ⟨W.drew.heap.size, 0, none⟩) 1 1) (W := (W.drew.alloc (.cells #[.string bn, .int .i64 e.no] 82))) (by kernel_rfl) rfl rfl rfl ?q7_8 HAl2.out ?_
                    case q7_8 => (go_simp; try rfl)
                    simp only [List.setIfInBounds_toArray, List.set_cons_zero, List.set_cons_succ]
                    refine reg_app 8 119 (by kernel_rfl) rfl rfl rfl rfl rfl rfl HR9.out HX9.out ?_
                    simp only [List.setIfInBounds_toArray, List.set_cons_zero, List.set_cons_succ]
                    refine reg_store 9 (W := W9.setCell ⟨w.heap.size + 1 + 1, 0, none⟩ (.slice (some ⟨g9, 0, none⟩) (sl + 1) cap9)) (by kernel_rfl) rfl rfl rfl ?q9 HS9.out ?_
                    case q9 => (go_simp; try rfl)
                    refine wpAnyH_done (by kernel_rfl) ?_ _
                    exact HFin.out
                  · simp only [List.setIfInBounds_toArray, List.set_cons_zero, List.set_cons_succ]
                    have tcA := HTA.out
                    refine reg_alone 0 111 (v := .slice (some ⟨g1, 0, none⟩) sl cap1) (W := (W.drew.alloc (.cells #[.string bn, .int .i64 e.no] 82))) (by kernel_rfl) rfl rfl rfl ?q0_9 HAl2.out ?_
                    case q0_9 => (go_simp; try rfl)
                    simp only [List.setIfInBounds_toArray, List.set_cons_zero, List.set_cons_succ]
                    refine reg_app 8 119 (by kernel_rfl) rfl rfl rfl rfl rfl rfl HR9.out HX9.out ?_
                    simp only [List.setIfInBounds_toArray, List.set_cons_zero, List.set_cons_succ]
                    refine reg_store 9 (W := W9.setCell ⟨w.heap.size + 1 + 1, 0, none⟩ (.slice (some ⟨g9, 0, none⟩) (sl + 1) cap9)) (by kernel_rfl) rfl rfl rfl ?q9 HS9.out ?_
                    case q9 => (go_simp; try rfl)
                    refine wpAnyH_done (by kernel_rfl) ?_ _
                    exact HFin.out
              case done =>
                intro D xs W hD hxs hRI hK2
                subst hxs
                obtain ⟨⟨g1, cap1, hgx1, hgc1, hDB1⟩, hbx, hbl, hcl, hbig⟩ := hRI
                have hDB1 : DB w.heap.size W w.heap.size (w.heap.size + 1 + 1) g1 cap1 (.slice (some ⟨g3, 0, none⟩) (out.length + 1) cap3) (out ++ [n.rw x.name (fi : Nat)]) (nos ++ [n.no]) (todo.reverse ++ kidsL x.name n) := hDB1
                have HC9 := Lib.hid (hcl.cons (show w.heap.size ≤ D by omega) hK2 HC6.out hD)
                obtain ⟨hfz, hgl, hgb, hcap3, hcap4⟩ := hDB1.s.frozen
                obtain ⟨q, hq⟩ : ∃ q, (kidsL x.name n).length = q := ⟨_, rfl⟩
                have hlen1 : (todo.reverse ++ kidsL x.name n).length = m + q := by rw [List.length_append, List.length_reverse, hm, hq]
                have ht1 := hDB1.t
                rw [hlen1] at ht1 hcap3
                have HGo := Lib.hid (own_obj1 hDB1.s rfl)
                have HRv := Lib.hid (fun (a : Option Addr) (c : Nat) => hDB1.rev (a := a) (c := c))
                rw [hq, List.length_reverse, hm] at HRv
                have HBl := Lib.hid hbl
                obtain ⟨tc, tf, tz⟩ := ht1.facts
                clear hcl hK2 hDB1 ht1 hbx hbl hfz hD hbig
                dsimp only
                go_wp2_with fail
                all_goals
                  refine (HRv.out _ _ ?_ (by omega) (by omega)).mono ?_
                  · first
                      | (intro _; rfl)
                      | (intro hne; exact absurd (List.eq_nil_of_length_eq_zero (by omega)) hne)
                  · rintro e W7 ⟨⟨v7, rfl⟩, hD7, hm7⟩
                    rw [← List.reverse_append] at hD7
                    have HD8 := Lib.hid hD7
                    have HC8 := Lib.hid (HC9.out.mod hm7 (fun k hk => by
                      obtain ⟨-, cur, hc⟩ := HGo.out
                      rw [hk, hc]
                      simp))
                    have HB8 := Lib.hid (HBl.out.trans (hm7.below (fun k hk => by rw [hk]; exact HGo.out.1) HBl.out.size))
                    clear hD7 hm7 tc tf tz
                    go_wp2_with fail
                    go_roundg f
                    case measure => omega
                    case rel => exact ⟨⟨_, _, _, g1, cap1, HD8.out, HT3.out, by simp [HO.out.1], by have := HO.out.2; simp; omega, HE.out⟩, HB8.out, HC8.out⟩
        · have HE := Lib.hid (HZ.out.trans (rows_none (by rw [HKk.out]; exact hg) _ _ _ _))
          have HT3 := Lib.hid (HTS.out.none (by rw [HKk.out]; exact hg))
          clear hg
          go_wp2_with fail
          go_roundg f
          case measure => omega
          case rel => exact ⟨⟨todo, nos, out, g, cap, HDX.out, HT3.out, HO.out.1, by have := HO.out.2; omega, HE.out⟩, HBX.out, HCX.out⟩
end

end Go.Proofs.YtaojpbgaengdpaaGreatDoor
