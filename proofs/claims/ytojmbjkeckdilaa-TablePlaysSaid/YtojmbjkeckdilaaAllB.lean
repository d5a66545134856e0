/- (*table.Table).All's iterator at a table. -/
import Derived.Test.YtojmbjkeckdilaaIter3
namespace Go.Proofs.Ytojmbjkeckdilaa
open Go.RowKit Go.Shelf
attribute [local go_sem] Oper.semAt_some

/-- all blocks below n₀, and all blocks of cells, stay, but those in S. -/
structure KeepC (n₀ : Nat) (S : Nat → Prop) (W W' : World) : Prop where
  size : W.heap.size ≤ W'.heap.size
  block : ∀ k, k < n₀ → ¬ S k → W'.heap[k]? = W.heap[k]?
  cells : ∀ k vs T, ¬ S k → Blk W k vs T → Blk W' k vs T
theorem KeepC.trans {n₀ : Nat} {S : Nat → Prop} {A B C : World} (h : KeepC n₀ S A B) (g : KeepC n₀ S B C) : KeepC n₀ S A C :=
  ⟨Nat.le_trans h.size g.size, fun k hk hs => (g.block k hk hs).trans (h.block k hk hs), fun k vs T hs hb => g.cells k vs T hs (h.cells k vs T hs hb)⟩

/-- a table as TablePlays has it: numbers rising, none above a million, the entries' stamps. -/
structure TabR (w : World) (p m : Nat) (last : Int) (L : List (Nd × Nat)) (clk : Nat) : Prop where
  tab : Tab w p m last L clk
  rise : (L.map (·.1.no)).Pairwise (· < ·)
  low : ∀ x ∈ L, 0 < x.1.no
  high : last ≤ 1000000
  born : ∀ x ∈ L, x.2 < clk
  bornOnce : (L.map (·.2)).Nodup
  short : L.length ≤ 1000

theorem Tab.keepC {n₀ : Nat} {S : Nat → Prop} {w w' : World} {p m : Nat} {last : Int} {L : List (Nd × Nat)} {clk : Nat} (h : Tab w p m last L clk) (hb : KeepC n₀ S w w') (hp : p < n₀) (hm : m < n₀) (sp : ¬ S p) (sm : ¬ S m) : Tab w' p m last L clk :=
  ⟨(hb.block p hp sp).trans h.blk, (hb.block m hm sm).trans h.map, h.once, h.low⟩

theorem findNd_at {L : List (Nd × Nat)} (hr : (L.map (·.1.no)).Pairwise (· < ·)) (i : Nat) (h : i < L.length) : findNd L L[i].1.no = some L[i].1 := by
  have key : ∀ (L : List (Nd × Nat)), (L.map (·.1.no)).Pairwise (· < ·) → ∀ (i : Nat) (h : i < L.length), L.find? (fun x => x.1.no == L[i].1.no) = some L[i] := by
    intro L
    induction L with
    | nil => intro _ i h; simp at h
    | cons x L ih =>
      intro hr i h
      rw [List.map_cons, List.pairwise_cons] at hr
      cases i with
      | zero => simp
      | succ i =>
        have hi : i < L.length := by simpa using h
        have := hr.1 L[i].1.no (List.mem_map.2 ⟨L[i], List.getElem_mem hi, rfl⟩)
        rw [List.find?_cons_of_neg]
        · exact ih hr.2 i hi
        · simp; omega
  unfold findNd
  rw [key L hr i h]
  rfl

/-- the i-th node of a table; behind the last: the zero node. -/
def ndAt (L : List (Nd × Nat)) (i : Nat) : Nd := (L[i]?.map (·.1)).getD nd0
theorem ndAt_lt (L : List (Nd × Nat)) (i : Nat) (h : i < L.length) : ndAt L i = L[i].1 := by simp [ndAt, h]

set_option maxRecDepth 100000 in
set_option maxHeartbeats 2000000 in
theorem all_stops (n Bn p m n₀ : Nat) (S : Nat → Prop) (last : Int) (L : List (Nd × Nat)) (clk : Nat) (w : World) (hT : TabR w p m last L clk) (hb : Blk w Bn #[.pointer (some ⟨p, 0, none⟩)] 23)
    (hp : p < n₀) (hm : m < n₀) (sB : ¬ S Bn) (sp : ¬ S p) (sm : ¬ S m) (hS : ∀ k, S k → k < w.heap.size) :
    SeqStopsK Fence.wide n Try.prog 42 #[.pointer (some ⟨Bn, 0, none⟩)] (fun i : Nat => #[(ndAt L i).v]) (KeepC n₀ S) (fun xs => xs = List.range L.length) (fun pre => ∃ j, j < L.length ∧ pre = List.range (j + 1)) L.length w := fun l J Jx W hW hJ hJx hY h0 => by
  obtain ⟨hT, rise, low, high, born, bornOnce, short⟩ := hT
  have hb1 := hb.keep hW
  have hT1 := hT.keep hW
  have hSW : ∀ k, S k → k < W.heap.size := fun k hk => Nat.lt_of_lt_of_le (hS k hk) hW.size
  have hsort := sortedT_any (L.map tabEnt) clk m W hT1.map (by simpa [tabEnt, Function.comp_def] using rise)
    (by
      intro x hx
      obtain ⟨y, hy, rfl⟩ := List.mem_map.1 hx
      have h1 := low y hy
      have h2 := hT.low y hy
      exact ⟨by simp only [tabEnt]; omega, by simp only [tabEnt]; omega⟩)
    (by
      intro x hx
      obtain ⟨y, hy, rfl⟩ := List.mem_map.1 hx
      exact born y hy)
    (by simpa [tabEnt, Function.comp_def] using bornOnce) (by simpa using short)
  obtain ⟨c0, -, z0⟩ := hb1.facts
  obtain ⟨c1, -, z1⟩ := hT1.blk.facts
  have Hb1 := Lib.hid hb1
  have HT1 := Lib.hid hT1
  clear hb hW hT hb1 hT1
  refine callsIn_of_wp Try.func42 rfl trivial ?_ rfl
  simp only [Try.ntmps42, List.size_toArray, List.length_cons, List.length_nil, Nat.reduceAdd, Nat.reduceSub, Array.replicate_succ, Array.replicate_zero, List.push_toArray, List.append_toArray, List.nil_append, List.cons_append]
  gi_wp2
  refine ⟨trivial, by simp [Fence.wide], ?_⟩
  refine (callsIn_wide.2 (callsIn_wide.1 (keysT_any (some m) W))).mono ?_
  rintro e w1 ⟨rfl, rfl⟩
  gi_wp2
  refine ⟨trivial, by simp [Fence.wide], ?_⟩
  refine (callsIn_wide.2 (callsIn_wide.1 hsort)).mono ?_
  rintro e w2 ⟨⟨a, cap, rfl, hrow⟩, hb2⟩
  rw [List.length_map]
  have hB2 : Below W.heap.size W w2 := bnext ((Below.refl _ _).alloc (Nat.le_refl _) _) hb2
  have hJ2 : J [] w2 := hJ _ _ _ none h0 (grown_none hB2) (fun r e => by cases e)
  have hb3 := Hb1.out.keep hB2
  have hT3 := HT1.out.keep hB2
  clear c0 z0 c1 z1 hb2 hsort
  gi_wp2
  gi_loopw [16] (fun t16 wr => ∃ i : Nat, i ≤ L.length ∧ t16 = .int .i64 i ∧ J (List.range i) wr ∧ Blk wr Bn #[.pointer (some ⟨p, 0, none⟩)] 23 ∧ Tab wr p m last L clk ∧ W.heap.size ≤ wr.heap.size ∧
    (L = [] ∨ ∃ g cur T, a = some ⟨g, 0, none⟩ ∧ W.heap.size < g ∧ Blk wr g cur T ∧ ∀ (i : Nat) (h : i < L.length), cur[i]? = some (.int .i64 L[i].1.no))) (fun t16 _ => L.length - (intOf t16).toNat)
  case atStart =>
    refine ⟨0, by omega, rfl, hJ2, hb3, hT3, hB2.size, ?_⟩
    rcases hrow with h | ⟨g, cur, T, h1, h2, h3, h4⟩
    · exact .inl (by simpa using h)
    · exact .inr ⟨g, cur, T, h1, h2, h3, fun i h => by have := h4 i (by simpa using h); rw [List.getElem_map] at this; exact this⟩
  case round =>
    obtain ⟨i, hi, rfl, hJs, hbk, hTk, hsz, hrw⟩ := hrel
    by_cases hlt : i < L.length
    · rcases hrw with h | ⟨g, cur, T, rfl, hg, hbg, hcur⟩
      · subst h; simp at hlt
      have hno := hcur i hlt
      have hfi := findNd_at rise i hlt
      obtain ⟨c0, -, z0⟩ := hbk.facts
      obtain ⟨c1, -, z1⟩ := hTk.blk.facts
      have cg := hbg.cell i
      rw [hno] at cg
      have hlk : (Instr.lookup 70 (.map (some m)) (.int .i64 L[i].1.no) true).run Try.prog wr = .ok (.tuple #[L[i].1.v, .bool true]) wr := run_lookup_yes (P := Try.prog) Try.underlying70 Try.underlying3 hTk.map (by rw [mapFind_tab, hfi]; rfl)
      have hat := ndAt_lt L i hlt
      have hlen : (L.length : Int) ≤ 1000 := by omega
      generalize hx : L[i].1 = x at cg hlk hat
      unfold Nd.v at hlk
      have Hat := Lib.hid hat
      clear hat
      have Hx := Lib.hid hx
      have Hcur := Lib.hid hcur
      clear hx hno hfi hcur
      have hJ1 : J (List.range i) (wr.alloc (.cells #[.int .i64 x.no, .int .i64 x.dev, .int .i64 x.kind, .int .i64 x.mode, .int .i64 x.uid, .int .i64 x.gid, .int .i64 x.mtime, .int .i64 x.ctime, .int .i64 x.links, .int .i64 x.up, .string x.data, .slice x.ea x.el x.ec] 29)) := hJ _ _ _ none hJs (World.grownBy_alloc wr _ none) (fun r e => by cases e)
      obtain ⟨fn, tmps, assign, body, hy, hR⟩ := hY (List.range i) i _ hJ1 (by simp; omega)
      rw [Hat.out] at hy
      simp only [Nd.v] at hy
      gi_wp2
      refine ⟨by simp [Fence.wide], ?_⟩
      refine hR.mono ?_
      rintro e W3 (⟨rfl, hJ3, hk3⟩ | ⟨rfl, hJx3⟩)
      · gi_wp2
        go_roundw
        case rel =>
          refine ⟨i + 1, by omega, by go_num, by rw [List.range_succ]; exact hJ3, hk3.cells _ _ _ sB (hbk.old _), (hTk.keep ((Below.refl _ _).alloc (Nat.le_refl _) _)).keepC hk3 hp hm sp sm, Nat.le_trans hsz (Nat.le_trans (by simp) hk3.size), .inr ⟨g, cur, T, rfl, hg, hk3.cells _ _ _ (fun h => by have := hSW g h; omega) (hbg.old _), Hcur.out⟩⟩
        case measure => simp [intOf]; omega
      · gi_wp2
        refine bodyPost_ret (results_none rfl _ _ _) rfl ?_
        exact ⟨⟨_, rfl⟩, .inr ⟨_, ⟨i, hlt, List.range_succ.symm⟩, hJx3⟩⟩
    · obtain rfl : i = L.length := by omega
      gi_wp2
      go_end0
      exact ⟨⟨_, rfl⟩, .inl ⟨_, rfl, hJs⟩⟩
end Go.Proofs.Ytojmbjkeckdilaa

