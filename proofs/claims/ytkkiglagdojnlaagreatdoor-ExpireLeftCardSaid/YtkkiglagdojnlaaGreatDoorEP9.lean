/- Texts of the proof, part 9. -/
import Derived.Test.YtkkiglagdojnlaaGreatDoorEP8
import Derived.Test.YtkkiglagdojnlaaGreatDoorEP2
import Derived.Test.YtkkiglagdojnlaaGreatDoorEP6
set_option linter.unusedVariables false
set_option linter.unusedSimpArgs false
/- slices.SortStableFunc at rows of at most 39 structs: one block or two, and their merge. -/
namespace Go.Proofs.YtkkiglagdojnlaaGreatDoor

open Go.RowKit Go.Shelf Go.Lib Go.Sort

def soRen : Ren := ⟨fun | 20 => 141 | n => n, fun | 0 => 0 | 3 => 3 | 4 => 4 | 22 => 56 | 24 => 23 | 25 => 24 | n => n, fun n => n⟩
theorem so_ins : SlLaysF0.n20 Tryz.prog soRen := {
  mixed := so_lays.mixed
  f20 := ⟨Tryz.f141.name, by kernel_rfl, Tryz.func141.trans (congrArg some (by kernel_rfl))⟩
  t0 := so_lays.t0, a0 := so_lays.a0, z0 := so_lays.z0, v0 := so_lays.v0
  t3 := so_lays.t3, a3 := so_lays.a3, z3 := so_lays.z3, v3 := so_lays.v3
  t4 := so_lays.t4, a4 := so_lays.a4, z4 := so_lays.z4, v4 := so_lays.v4
  t22 := so_lays.tS, a22 := so_lays.aS, z22 := so_lays.zS, v22 := so_lays.vS
  t25 := so_lays.tF, a25 := so_lays.aF, z25 := so_lays.zF, v25 := so_lays.vF }
section

variable {w0 : World} {blk off : Nat} {d0 : Array Ey}

theorem eyC_one (x : Ey) : ∀ v ∈ eyC x, v.oneCell' = true := by
  intro v hv
  simp [eyC] at hv
  rcases hv with rfl | rfl | rfl | rfl | rfl | rfl <;> rfl
/-- insertionSortCmpFunc. -/
theorem so_insert (cap a b : Nat) (d : Array Ey) (w : World) (R : RowK eyC 6 w0 blk off d0) (hs : d0.size = d.size) (S : SWK eyC 6 w0 blk off d w) (hcmp : CmpLays Tryz.prog 7 #[] eyC 6 earF blk off d0.size w0) (hab : a ≤ b) (hb : b ≤ d.size) (hsz : d.size < 4611686018427387904) :
    Calls Tryz.prog 141 #[.slice (some ⟨blk, off, none⟩) d.size cap, .int .i64 a, .int .i64 b, .func (.func 7) #[] #[]] w fun e w' => e = .returned (.tuple #[]) ∧ SWK eyC 6 w0 blk off (Sort.insertionSort ltE d a b) w' :=
  AnyQ.insertionSortCmpFunc_w so_ins 6 so_lays.aE so_lays.zE eyC earF 7 #[] blk off cap a b d0 d w0 w (enters_of Tryz.func7 (by kernel_rfl) rfl) hcmp R hs S ltE_swo hab hb hsz
theorem cmp_lays (n : Nat) : CmpLays Tryz.prog 7 #[] eyC 6 earF blk off n w0 := fun _ _ _ _ x y => earlier_any x y _
/-- one block. -/
theorem one_block (d : Array Ey) : (Sort.insertionSort ltE d 0 d.size).toList = isort ltE d.toList ∧ (Sort.insertionSort ltE d 0 d.size).size = d.size := by
  have h := insertion_seg (lt := ltE) ltE_swo (Seg.of d)
  rw [Array.length_toList, Nat.zero_add] at h
  exact ⟨h.1.all (by rw [isort_len, h.2.1]; simp), h.2.1⟩
/-- two blocks. -/
theorem two_blocks (d : Array Ey) (h20 : 20 ≤ d.size) : ∃ d1 d2, Sort.insertionSort ltE d 0 20 = d1 ∧ Sort.insertionSort ltE d1 20 d.size = d2 ∧ d1.size = d.size ∧ d2.size = d.size ∧ Seg d2 0 (isort ltE (d.toList.take 20)) ∧ Seg d2 20 (isort ltE (d.toList.drop 20)) := by
  have l1 : (d.toList.take 20).length = 20 := by rw [List.length_take, Array.length_toList]; omega
  have l2 : (d.toList.drop 20).length = d.size - 20 := by rw [List.length_drop, Array.length_toList]
  have h1 := insertion_seg (lt := ltE) ltE_swo ((Seg.of d).take 20)
  rw [l1, Nat.zero_add] at h1
  have hd := (Seg.of d).drop (n := 20) (by rw [Array.length_toList]; exact h20)
  rw [Nat.zero_add] at hd
  have h2 := insertion_seg (lt := ltE) ltE_swo (hd.same h1.2 (.inr (Nat.le_refl _)))
  rw [l2, show 20 + (d.size - 20) = d.size by omega] at h2
  exact ⟨_, _, rfl, rfl, h1.2.1, h2.2.1.trans h1.2.1, h1.1.same h2.2 (.inl (by rw [isort_len, l1]; exact Nat.le_refl _)), h2.1⟩
set_option maxHeartbeats 4000000 in
set_option maxRecDepth 1000000 in
theorem so_stable (cap : Nat) (d : Array Ey) (w : World) (hH : HoldsK eyC 6 w blk off d) (hblk : blk < w.heap.size) (h39 : d.size ≤ 39) :
    Calls Tryz.prog 88 #[.slice (some ⟨blk, off, none⟩) d.size cap, .int .i64 d.size, .func (.func 7) #[] #[]] w fun e w' => e = .returned (.tuple #[]) ∧ ∃ d', SWK eyC 6 w blk off d' w' ∧ d'.toList = isort ltE d.toList ∧ d'.size = d.size := by
  have R : RowK eyC 6 w blk off d := ⟨eyC_len, eyC_one, hH, hblk⟩
  have S0 : SWK eyC 6 w blk off d w := SWK.start hH
  by_cases hn : d.size < 20
  · have hz : ¬ (20 : Int) ≤ (d.size : Int) := by omega
    have hz2 : ¬ (20 : Int) < (d.size : Int) := by omega
    have HI := Lib.hid (so_insert cap 0 d.size d w R rfl S0 (cmp_lays d.size) (Nat.zero_le _) (Nat.le_refl _) (by omega))
    have HE := Lib.hid (one_block d)
    generalize Sort.insertionSort ltE d 0 d.size = d1 at HI HE
    generalize isort ltE d.toList = L at HE ⊢
    clear R S0 hH
    go_enter Tryz.func88, Tryz.ntmps88
    go_wp2_with fail
    refine wp_loop_rounds 1 ?_
    rw [rounds_succ]
    go_wp2_with fail
    refine HI.out.mono ?_
    rintro e w1 ⟨rfl, S1⟩
    have HS := Lib.hid S1
    clear S1
    go_wp2_with fail
    refine wp_loop_rounds 1 ?_
    rw [rounds_succ]
    go_wp2_with fail
    go_end0
    exact ⟨rfl, d1, HS.out, HE.out⟩
  · obtain ⟨d1, d2, e1, e2, z1, z2, g1, g2⟩ := two_blocks d (by omega)
    have hz : (20 : Int) ≤ (d.size : Int) := by omega
    have hz3 : ¬ (40 : Int) ≤ (d.size : Int) := by omega
    have h1 := so_insert cap 0 20 d w R rfl S0 (cmp_lays d.size) (Nat.zero_le _) (by omega) (by omega)
    rw [e1] at h1
    have HI := Lib.hid h1
    have HI2 := Lib.hid (fun w1 (S1 : SWK eyC 6 w blk off d1 w1) => so_insert cap 20 d.size d1 w1 R z1.symm S1 (cmp_lays d.size) (by omega) (by omega) (by omega))
    rw [e2, z1] at HI2
    have HM := Lib.hid (fun (h : 20 < d.size) w2 (S2 : SWK eyC 6 w blk off d2 w2) => so_merge so_lays earF ltE_swo 7 #[] (enters_of Tryz.func7 (by kernel_rfl) rfl) (cmp_lays d.size) cap R _ (isort ltE (d.toList.take 20)) (isort ltE (d.toList.drop 20)) 0 20 d.size d2 w2 rfl z2.symm (by omega) S2 g1 g2 (by rw [isort_len, List.length_take, Array.length_toList]; omega) (by rw [isort_len, List.length_drop, Array.length_toList]; omega) (by rw [isort_len, List.length_take, Array.length_toList]; omega) (by rw [isort_len, List.length_drop, Array.length_toList]; omega) (isort_srt ltE_swo _) (isort_srt ltE_swo _))
    rw [z2] at HM
    have HF := Lib.hid (fun d3 (h : Mrgd ltE 0 d.size (isort ltE (d.toList.take 20)) (isort ltE (d.toList.drop 20)) d2 d3) => show d3.toList = isort ltE d.toList ∧ d3.size = d.size by
      have hs : d3.size = d.size := h.2.1.trans z2
      have he : mrg ltE (isort ltE (d.toList.take 20)) (isort ltE (d.toList.drop 20)) = isort ltE d.toList := by rw [← isort_app ltE_swo, List.take_append_drop]
      have h1 := h.1
      rw [he] at h1
      exact ⟨h1.all (by rw [isort_len, Array.length_toList, hs]), hs⟩)
    have HQ := Lib.hid (fun (h : d.size = 20) => show d2.toList = isort ltE d.toList by
      have hg : d.toList.take 20 = d.toList := List.take_of_length_le (by rw [Array.length_toList]; omega)
      rw [hg] at g1
      exact g1.all (by rw [isort_len, Array.length_toList, z2]))
    have HZ := Lib.hid z2
    generalize isort ltE d.toList = L at HF HQ ⊢
    generalize isort ltE (d.toList.take 20) = LA at HM HF g1
    generalize isort ltE (d.toList.drop 20) = LB at HM HF g2
    clear R S0 hH h1 e1 e2 g1 g2 z1 z2
    by_cases hq : d.size = 20
    · have hz2 : ¬ (20 : Int) < (d.size : Int) := by omega
      have HL := Lib.hid (HQ.out hq)
      clear hq
      go_enter Tryz.func88, Tryz.ntmps88
      go_wp2_with fail
      refine wp_loop_rounds 2 ?_
      rw [rounds_succ]
      go_wp2_with fail
      refine HI.out.mono ?_
      rintro e w1 ⟨rfl, S1⟩
      have HS := Lib.hid S1
      clear S1
      go_wp2_with fail
      rw [rounds_succ]
      go_wp2_with fail
      refine (HI2.out _ HS.out).mono ?_
      rintro e w2 ⟨rfl, S2⟩
      have HS2 := Lib.hid S2
      clear S2
      go_wp2_with fail
      refine wp_loop_rounds 1 ?_
      rw [rounds_succ]
      go_wp2_with fail
      go_end0
      exact ⟨rfl, d2, HS2.out, HL.out, HZ.out⟩
    · have hz2 : (20 : Int) < (d.size : Int) := by omega
      have hz4 : ¬ (40 : Int) < (d.size : Int) := by omega
      have HM2 := Lib.hid (HM.out (by omega))
      clear hq
      go_enter Tryz.func88, Tryz.ntmps88
      go_wp2_with fail
      refine wp_loop_rounds 2 ?_
      rw [rounds_succ]
      go_wp2_with fail
      refine HI.out.mono ?_
      rintro e w1 ⟨rfl, S1⟩
      have HS := Lib.hid S1
      clear S1
      go_wp2_with fail
      rw [rounds_succ]
      go_wp2_with fail
      refine (HI2.out _ HS.out).mono ?_
      rintro e w2 ⟨rfl, S2⟩
      have HS2 := Lib.hid S2
      clear S2
      go_wp2_with fail
      refine wp_loop_rounds 2 ?_
      rw [rounds_succ]
      go_wp2_with fail
      refine wp_loop_rounds 1 ?_
      rw [rounds_succ]
      go_wp2_with fail
      refine (HM2.out _ HS2.out).mono ?_
      rintro e w3 ⟨rfl, d3, S3, hm⟩
      have HS3 := Lib.hid (And.intro S3 (HF.out d3 hm))
      clear S3 hm
      go_wp2_with fail
      rw [rounds_succ]
      go_wp2_with fail
      go_end0
      exact ⟨rfl, d3, HS3.out.1, HS3.out.2⟩
set_option maxHeartbeats 1000000 in
theorem so_sort (cap : Nat) (d : Array Ey) (w : World) (hH : HoldsK eyC 6 w blk off d) (hblk : blk < w.heap.size) (h39 : d.size ≤ 39) :
    Calls Tryz.prog 40 #[.slice (some ⟨blk, off, none⟩) d.size cap, .func (.func 7) #[] #[]] w fun e w' => e = .returned (.tuple #[]) ∧ ∃ d', SWK eyC 6 w blk off d' w' ∧ d'.toList = isort ltE d.toList ∧ d'.size = d.size := by
  have HS := Lib.hid (so_stable cap d w hH hblk h39)
  clear hH
  go_enter Tryz.func40, Tryz.ntmps40
  go_wp2_with fail
  refine HS.out.mono ?_
  rintro e w1 ⟨rfl, h⟩
  have H := Lib.hid h
  clear h
  go_wp2_with fail
  go_end0
  exact ⟨rfl, H.out⟩
end

end Go.Proofs.YtkkiglagdojnlaaGreatDoor

/- What is left of entries, and what was picked (layer 38), purely: the statement ExpireLeft in plain Lean. -/
namespace Go.Proofs.YtkkiglagdojnlaaGreatDoor

open Go.Sort

theorem mrg_perm {α : Type} (lt : α → α → Bool) : ∀ (A B : List α), (mrg lt A B).Perm (A ++ B)
  | [], B => by rw [nil_mrg]; exact List.Perm.refl _
  | x :: A, [] => by rw [mrg_nil]; simp
  | x :: A, y :: B => by
    rw [mrg_cons]
    split
    · exact ((mrg_perm lt (x :: A) B).cons y).trans (List.perm_middle.symm)
    · exact (mrg_perm lt A (y :: B)).cons x
termination_by A B => A.length + B.length
theorem isort_perm {α : Type} (lt : α → α → Bool) (L : List α) : (isort lt L).Perm L := by
  induction L using list_snoc_rec with
  | h0 => exact List.Perm.refl _
  | h1 L x ih => rw [isort_snoc]; exact (mrg_perm lt _ _).trans (ih.append (List.Perm.refl _))
theorem sumE_acc (l : List Ey) : ∀ s : Int, l.foldl (fun s y => s + y.size) s = s + sumE l := by
  induction l with
  | nil => intro s; simp [sumE]
  | cons x l ih =>
    intro s
    show l.foldl _ (s + x.size) = s + l.foldl _ (0 + x.size)
    rw [ih, ih]
    omega
theorem sumE_nil : sumE [] = 0 := rfl
theorem sumE_cons (x : Ey) (l : List Ey) : sumE (x :: l) = x.size + sumE l := by
  show l.foldl _ (0 + x.size) = _
  rw [sumE_acc]
  omega
theorem sumE_app (a b : List Ey) : sumE (a ++ b) = sumE a + sumE b := by
  induction a with
  | nil => rw [sumE_nil]; simp
  | cons x a ih => rw [List.cons_append, sumE_cons, sumE_cons, ih]; omega
theorem sumE_perm {a b : List Ey} (h : a.Perm b) : sumE a = sumE b := by
  induction h with
  | nil => rfl
  | cons x _ ih => rw [sumE_cons, sumE_cons, ih]
  | swap x y l => rw [sumE_cons, sumE_cons, sumE_cons, sumE_cons]; omega
  | trans _ _ h1 h2 => rw [h1, h2]
theorem filter_split (p : Ey → Bool) (l : List Ey) : (l.filter p ++ l.filter (fun y => !p y)).Perm l := List.filter_append_perm p l
/-- what is not old, the dim ones last, is all that is not old. -/
theorem restL_perm (now age : Int) (l : List Ey) : (restL now age l).Perm (l.filter (fun y => !oldB now age y)) := by
  have h := filter_split (fun y => decide (0 ≤ y.date)) (l.filter (fun y => !oldB now age y))
  rw [List.filter_filter, List.filter_filter] at h
  unfold restL
  refine List.Perm.trans (List.Perm.of_eq ?_) h
  congr 1
  · exact List.filter_congr (fun y _ => by cases oldB now age y <;> simp)
  · exact List.filter_congr (fun y _ => by cases oldB now age y <;> simp)
theorem restL_old {now age : Int} {l : List Ey} : ∀ y ∈ restL now age l, oldB now age y = false := fun y hy => by
  have := (restL_perm now age l).mem_iff.1 hy
  have h := (List.mem_filter.1 this).2
  simpa using h
/-- what was picked for the quota. -/
theorem overL_pre (quota : Int) : ∀ (l : List Ey) (s : Int), overL quota s l <+: l
  | [], _ => List.prefix_refl _
  | y :: l, s => by
    unfold overL
    split
    · exact List.nil_prefix
    · exact (List.cons_prefix_cons.2 ⟨rfl, overL_pre quota l _⟩)
theorem overL_left {quota : Int} (h0 : 0 ≤ quota) : ∀ (l : List Ey) (s : Int), s = sumE l → s - sumE (overL quota s l) ≤ quota
  | [], s, h => by
    unfold overL
    rw [sumE_nil] at *
    omega
  | y :: l, s, h => by
    unfold overL
    split
    · rw [sumE_nil]; omega
    · rw [sumE_cons]
      rw [sumE_cons] at h
      have := overL_left h0 l (s - y.size) (by omega)
      omega
theorem overL_last {quota : Int} : ∀ (l : List Ey) (s : Int) (hne : overL quota s l ≠ []), quota < s - sumE (overL quota s l) + ((overL quota s l).getLast hne).size
  | [], s, h => absurd rfl h
  | y :: l, s, h => by
    by_cases hs : s ≤ quota
    · exact absurd (by unfold overL; rw [if_pos hs]) h
    · have e : overL quota s (y :: l) = y :: overL quota (s - y.size) l := by
        conv => lhs; unfold overL
        rw [if_neg hs]
      simp only [e]
      rw [sumE_cons]
      by_cases hn : overL quota (s - y.size) l = []
      · simp only [hn, List.getLast_singleton]
        rw [sumE_nil]
        omega
      · have := overL_last l (s - y.size) hn
        rw [List.getLast_cons hn]
        omega
theorem count_old_perm {a b : List Ey} (h : a.Perm b) (p : Ey → Bool) : (a.filter p).length = (b.filter p).length := (h.filter p).length_eq
/-- what is picked: the old ones, then as many as are needed. -/
theorem pick_form {l : List Ey} {now age quota : Int} (h : ¬ (now < 0 ∨ age < 0 ∨ quota < 0)) : ∃ V, pickF l now age quota = (isort ltE l).filter (oldB now age) ++ V ∧ (∀ y ∈ V, oldB now age y = false) ∧
    sumE l - sumE (pickF l now age quota) ≤ quota ∧ (∀ hne : V ≠ [], quota < sumE l - sumE (pickF l now age quota) + (V.getLast hne).size) ∧ ((isort ltE l).filter (oldB now age)).length = (l.filter (oldB now age)).length := by
  have e : pickF l now age quota = (isort ltE l).filter (oldB now age) ++ overL quota (sumE (restL now age (isort ltE l))) (restL now age (isort ltE l)) := if_neg h
  have hp := isort_perm ltE l
  have hs : sumE l = sumE ((isort ltE l).filter (oldB now age)) + sumE (restL now age (isort ltE l)) := by
    rw [← sumE_perm hp, ← sumE_perm (filter_split (oldB now age) (isort ltE l)), sumE_app, sumE_perm (restL_perm now age (isort ltE l))]
  refine ⟨_, e, fun y hy => restL_old y ((overL_pre quota _ _).subset hy), ?_, fun hne => ?_, count_old_perm hp _⟩
  · rw [e, sumE_app, hs]
    have := overL_left (quota := quota) (by omega) (restL now age (isort ltE l)) _ rfl
    omega
  · rw [e, sumE_app, hs]
    have := overL_last (quota := quota) (restL now age (isort ltE l)) _ hne
    omega
end Go.Proofs.YtkkiglagdojnlaaGreatDoor

/- Rows of the call's own: one thing more. No walk. -/
namespace Go.Proofs.YtkkiglagdojnlaaGreatDoor

open Go.RowKit

/-- one thing more in a row of the call's own. -/
theorem own_app1 {E SE : TypeId} {sz by_ : Nat} {z : Value} (hs : Tryz.prog.underlying SE = some (.slice E)) (hinf : (Tryz.prog.info? E).map (fun i => (i.zero, i.size, i.bytes)) = some (some z, sz, by_)) (hz : z.cells.size = sz) (hsz : 0 < sz)
    {w : World} {base n : Nat} {v : Value} {xs : List Value} (h : w.ownsRow base E sz v n xs) (cs : List Value) (hl : cs.length = sz) (h1 : ∀ u ∈ cs, u.oneCell' = true) (hn : n ≤ 1000000) (hby : by_ ≤ 1000) (hb : base ≤ w.heap.size) :
    ∃ g cap W, (Builtin.append_ #[SE, SE] SE #[v, .slice (some ⟨w.heap.size, 0, none⟩) 1 1]).run Tryz.prog (w.alloc (.cells cs.toArray E)) = .ok (.slice (some ⟨g, 0, none⟩) (n + 1) cap) W ∧
      W.ownsRow base E sz (.slice (some ⟨g, 0, none⟩) (n + 1) cap) (n + 1) (xs ++ cs) ∧ Mod (fun k => v.ownBlock = some k) w W ∧ (v.ownBlock = some g ∨ w.heap.size < g) := by
  obtain ⟨i0, hi, hz0, hz1, hz2⟩ := info_parts hinf
  have ho := World.ownsRow.alloc h (.cells cs.toArray E)
  have hm : (n + 1) * by_ ≤ (1000000 + 1) * 1000 := Nat.mul_le_mul (by omega) hby
  obtain ⟨g, cap, W, h1, h2, h3, h4⟩ := step_app SE hs hi hz0 hz1 hz2 hz hsz ho ⟨w.heap.size, 0, none⟩ 1 1 cs (by omega) (World.news_of_block (Blk.new w cs.toArray E)) h1 (by omega) (by unfold maxLen; omega) (by omega) (by rw [World.size_alloc]; omega)
  exact ⟨g, cap, W, h1, h2, ((Mod.refl (fun j => v.ownBlock = some j) w).alloc _).trans h3, h4.imp id (fun h => by rw [h, World.size_alloc]; omega)⟩
end Go.Proofs.YtkkiglagdojnlaaGreatDoor

/- Rows of entries: how they lie, one of the call's own, slices.Clone, slices.SortStableFunc; expire.Old. -/
namespace Go.Proofs.YtkkiglagdojnlaaGreatDoor

open Go.RowKit Go.Shelf Go.Sort

def eyQ (cs : List Value) (x : Ey) : Prop := cs = eyC x
theorem ey_info : (Tryz.prog.info? 23).map (fun i => (i.zero, i.size, i.bytes)) = some (some (.agg #[.string ByteArray.empty, .string ByteArray.empty, .string ByteArray.empty, .int .i64 0, .int .i64 0, .bool false]), 6, 72) := by kernel_rfl
/-- entries in a row of the call's own. -/
def OEy (w : World) (base : Nat) (v : Value) (l : List Ey) : Prop := w.ownsRow base 23 6 v l.length (l.flatMap eyC)
theorem OEy.nil (w : World) (base : Nat) : OEy w base (.slice none 0 0) [] := ⟨rfl, .inl ⟨rfl, rfl⟩⟩
theorem OEy.at {w : World} {base c : Nat} {a : Option Addr} {l : List Ey} (h : OEy w base (.slice a l.length c) l) : SliceAt w 6 eyQ a l.length c l := own_slice (R := eyQ) (by omega) eyC_len (fun _ => rfl) h
theorem OEy.keep {w w' : World} {base : Nat} {v : Value} {l : List Ey} (h : OEy w base v l) (hb : Below w.heap.size w w') : OEy w' base v l := own_below h hb (Nat.le_refl _)
theorem OEy.mod {w w' : World} {base : Nat} {v v' : Value} {l : List Ey} (h : OEy w base v l) (hm : Mod (fun k => v'.ownBlock = some k) w w') (ha : ∀ k, v'.ownBlock = some k → v.ownBlock ≠ some k) : OEy w' base v l := own_mod h hm ha
theorem OEy.lt {w : World} {base k : Nat} {v : Value} {l : List Ey} (h : OEy w base v l) (hk : v.ownBlock = some k) : base ≤ k ∧ k < w.heap.size := by
  obtain ⟨h1, cur, h2⟩ := own_obj1 h hk
  exact ⟨h1, (Array.getElem?_eq_some_iff.1 h2).1⟩
theorem OEy.app {w : World} {base : Nat} {v : Value} {l : List Ey} (h : OEy w base v l) (x : Ey) (hn : l.length ≤ 2000) (hb : base ≤ w.heap.size) :
    ∃ g cap W, (Builtin.append_ #[56, 56] 56 #[v, .slice (some ⟨w.heap.size, 0, none⟩) 1 1]).run Tryz.prog (w.alloc (.cells #[.string x.can, .string x.name, .string x.path, .int .i64 x.date, .int .i64 x.size, .bool x.good] 23)) = .ok (.slice (some ⟨g, 0, none⟩) (l.length + 1) cap) W ∧
      OEy W base (.slice (some ⟨g, 0, none⟩) (l.length + 1) cap) (l ++ [x]) ∧ Mod (fun k => v.ownBlock = some k) w W ∧ (v.ownBlock = some g ∨ w.heap.size < g) := by
  obtain ⟨g, cap, W, h1, h2, h3, h4⟩ := own_app1 Tryz.underlying56 ey_info rfl (by decide) h (eyC x) rfl (eyC_one x) (by omega) (by decide) hb
  refine ⟨g, cap, W, h1, ?_, h3, h4⟩
  unfold OEy
  rw [List.length_append, List.length_singleton, List.flatMap_append]
  exact (by simpa using h2)
theorem eyC_ones (l : List Ey) : ∀ u ∈ l.flatMap eyC, u.oneCell' = true := by
  intro u hu
  obtain ⟨x, -, hx⟩ := List.mem_flatMap.1 hu
  exact eyC_one x u hx
theorem eys_some {w : World} {a : Option Addr} {n c : Nat} {l : List Ey} (h : SliceAt w 6 eyQ a n c l) (hn : 0 < n) : ∃ b off, a = some ⟨b, off, none⟩ ∧ b < w.heap.size := by
  obtain ⟨-, -, -, h0 | ⟨b, off, he, hb, -⟩⟩ := h
  · omega
  · exact ⟨b, off, he, hb⟩
/-- the cells of entry k. -/
theorem eys_cells {w : World} {b off n c : Nat} {l : List Ey} (h : SliceAt w 6 eyQ (some ⟨b, off, none⟩) n c l) (k : Nat) (hk : k < l.length) : ∀ j u, (eyC l[k])[j]? = some u → w.cell? ⟨b, off + k * 6 + j, none⟩ = some u := by
  intro j u hu
  obtain ⟨hl, -, -, h0 | ⟨b', off', he, -, hel⟩⟩ := h
  · omega
  · injection he with he
    injection he with e1 e2
    subst e1 e2
    obtain ⟨cs, k1, k2, k3⟩ := hel k hk
    unfold eyQ at k2
    subst k2
    obtain ⟨h1, h2⟩ := List.getElem?_eq_some_iff.1 hu
    rw [← h2]
    exact k3 j h1
theorem eys_six {w : World} {b off n c : Nat} {l : List Ey} (h : SliceAt w 6 eyQ (some ⟨b, off, none⟩) n c l) (k : Nat) (hk : k < l.length) :
    w.cell? ⟨b, off + k * 6, none⟩ = some (.string l[k].can) ∧ w.cell? ⟨b, off + k * 6 + 1, none⟩ = some (.string l[k].name) ∧ w.cell? ⟨b, off + k * 6 + 2, none⟩ = some (.string l[k].path) ∧ w.cell? ⟨b, off + k * 6 + 3, none⟩ = some (.int .i64 l[k].date) ∧ w.cell? ⟨b, off + k * 6 + 4, none⟩ = some (.int .i64 l[k].size) ∧ w.cell? ⟨b, off + k * 6 + 5, none⟩ = some (.bool l[k].good) :=
  ⟨eys_cells h k hk 0 _ rfl, eys_cells h k hk 1 _ rfl, eys_cells h k hk 2 _ rfl, eys_cells h k hk 3 _ rfl, eys_cells h k hk 4 _ rfl, eys_cells h k hk 5 _ rfl⟩
theorem eys_news {w : World} {b off n c : Nat} {l : List Ey} (h : SliceAt w 6 eyQ (some ⟨b, off, none⟩) n c l) : ∀ j u, (l.flatMap eyC)[j]? = some u → w.cell? ((⟨b, off, none⟩ : Addr).add j) = some u := by
  intro j u hu
  have hlt : j < (l.flatMap eyC).length := (List.getElem?_eq_some_iff.1 hu).1
  rw [flat_len eyC_len] at hlt
  have hm := Nat.mod_lt j (show 0 < 6 by omega)
  have hdiv : j = j / 6 * 6 + j % 6 := by omega
  have hq : j / 6 < l.length := by omega
  have h1 := flat_get eyC_len l (j / 6) (j % 6) hq hm
  rw [← hdiv, hu] at h1
  rw [addr_add, show off + j = off + j / 6 * 6 + j % 6 by omega]
  exact eys_cells h (j / 6) hq (j % 6) u h1.symm
/-- an own row, as the sort's. -/
theorem OEy.holds {w : World} {base g n c : Nat} {l : List Ey} (h : OEy w base (.slice (some ⟨g, 0, none⟩) n c) l) : HoldsK eyC 6 w g 0 l.toArray ∧ g < w.heap.size := by
  have hg := (h.lt (k := g) rfl).2
  have hn : l.length = n := by
    obtain ⟨a, cap, e, -⟩ := own_form h
    injection e with _ e _
    exact e.symm
  subst hn
  refine ⟨fun j hj => ?_, hg⟩
  rw [size_flatK] at hj
  have hjl : j < l.length * 6 := by simpa using hj
  have hm := Nat.mod_lt j (show 0 < 6 by omega)
  have hq : j / 6 < l.length := by omega
  constructor
  · have h1 := eys_cells h.at (j / 6) hq (j % 6) (eyC l[j / 6])[j % 6] (List.getElem?_eq_getElem (by rw [eyC_len]; exact hm))
    rw [show 0 + j / 6 * 6 + j % 6 = 0 + j by omega] at h1
    rw [h1, get_flatK _ _ _ _ (by simpa using hjl)]
    show some _ = some (id _)
    have e1 : (l.toArray)[j / 6]! = l[j / 6] := by rw [getElem!_pos l.toArray (j / 6) (by simpa using hq)]; simp
    rw [e1, getElem!_pos (eyC l[j / 6]) (j % 6) (by rw [eyC_len]; exact hm)]
    rfl
  · obtain ⟨-, cur, hc⟩ := own_obj1 h (k := g) rfl
    exact Blk.frozen (w := w) hc _
/-- the sort's row, as a slice. -/
theorem holds_at {w : World} {g n c : Nat} {d : Array Ey} (h : HoldsK eyC 6 w g 0 d) (hg : g < w.heap.size) (hn : d.size = n) (hc : n ≤ c) (hc2 : c ≤ 9223372036854775807) : SliceAt w 6 eyQ (some ⟨g, 0, none⟩) n c d.toList := by
  refine ⟨by simpa using hn, hc, hc2, .inr ⟨g, 0, rfl, hg, fun i hi => ⟨eyC d.toList[i], rfl, rfl, fun j hj => ?_⟩⟩⟩
  rw [Array.length_toList] at hi
  have h1 := HoldsK.cells h eyC_len hi j (eyC d.toList[i])[j] (by
    rw [getElem!_pos d i hi]
    simp only [Array.getElem_toList]
    exact List.getElem?_eq_getElem hj)
  rw [addr_add] at h1
  exact h1
/-- slices.Clone. -/
theorem eyclone_any (l : List Ey) (a : Option Addr) (n c : Nat) (w : World) (he : SliceAt w 6 eyQ a n c l) (hn : n ≤ 1000) :
    Calls Tryz.prog 52 #[.slice a n c] w fun e w' => ((e = .returned (.slice none 0 0) ∧ l = []) ∨ ∃ g c', e = .returned (.slice (some ⟨g, 0, none⟩) n c') ∧ OEy w' w.heap.size (.slice (some ⟨g, 0, none⟩) n c') l ∧ c' ≤ 9223372036854775807 ∧ n ≤ c') ∧ Below w.heap.size w w' := by
  have hl := he.1
  obtain ⟨i0, hi, hz0, hz1, hz2⟩ := info_parts ey_info
  have hq : ∀ (w : World) (r : Option Addr) (n c : Nat), (binOp .eql 56 (.slice r n c) (.slice none 0 0)).run Tryz.prog w = .ok (.bool r.isNone) w := fun w r n c => Lib.run_eql_slice_nil w _ _ r n c 0 0 Tryz.underlying56
  cases a with
  | none =>
    have hn0 : n = 0 := by
      rcases Nat.eq_zero_or_pos n with h | h
      · exact h
      · obtain ⟨b, off, h1, -⟩ := eys_some he h
        cases h1
    subst hn0
    have H := Lib.hid (List.eq_nil_of_length_eq_zero hl)
    clear he hl hi hz0 hz1 hz2
    go_enter Tryz.func52, Tryz.ntmps52
    go_wp2_with fail
    go_ret
    exact ⟨.inl ⟨rfl, H.out⟩, Below.refl _ _⟩
  | some p =>
    have he2 := he.below ((Below.refl _ w).alloc (Nat.le_refl _) (.cells #[] 23)) (Nat.le_refl _)
    have hnews : ∀ j u, (l.flatMap eyC)[j]? = some u → (w.alloc (.cells #[] 23)).cell? (p.add j) = some u := by
      rcases Nat.eq_zero_or_pos n with h | h
      · obtain rfl : l = [] := List.eq_nil_of_length_eq_zero (by omega)
        intro j u hu
        simp at hu
      · obtain ⟨b, off, hp, -⟩ := eys_some he h
        injection hp with hp
        subst hp
        exact eys_news he2
    have hrun : ∃ g cap W, (Builtin.append_ #[56, 56] 56 #[.slice (some ⟨w.heap.size, 0, none⟩) 0 0, .slice (some p) n c]).run Tryz.prog (w.alloc (.cells #[] 23)) = .ok (.slice (some ⟨g, 0, none⟩) n cap) W ∧
        OEy W w.heap.size (.slice (some ⟨g, 0, none⟩) n cap) l ∧ Below w.heap.size w W := by
      obtain ⟨g, cap, W, h1, h2, h3, h4⟩ := step_app_any (56) Tryz.underlying56 hi hz0 hz1 hz2 rfl (by omega) (own_empty (base := w.heap.size) (sz := 6) (e := 23) w (Nat.le_refl _)) p n c (l.flatMap eyC) (by rw [flat_len eyC_len, hl]) hnews (eyC_ones l) (by unfold maxLen; omega) (by omega) (by simp)
      refine ⟨g, cap, W, ?_, ?_, ((Below.refl w.heap.size w).alloc (Nat.le_refl _) _).trans (h3.below (fun k hk => by omega) (by simp))⟩
      · rw [Nat.zero_add] at h1; exact h1
      · rw [Nat.zero_add, List.nil_append] at h2
        unfold OEy
        rw [hl]
        exact h2
    obtain ⟨g, cap, W, hrun, h2, h3⟩ := hrun
    have hcap : cap ≤ 9223372036854775807 ∧ n ≤ cap := by
      obtain ⟨a, c2, e, h4, h5, -⟩ := own_form h2
      injection e with _ e1 e2
      subst e2
      rw [hl] at h4
      exact ⟨h5, h4⟩
    have H := Lib.hid (And.intro h2 (And.intro h3 hcap))
    clear he he2 hnews h2 h3 hi hz0 hz1 hz2 hl hcap
    go_enter Tryz.func52, Tryz.ntmps52
    go_wp2_with (at_builtin; refine wpList_app_run rfl rfl rfl rfl hrun ?_)
    go_ret
    exact ⟨.inr ⟨g, cap, rfl, H.out.1, H.out.2.2.1, H.out.2.2.2⟩, H.out.2.1⟩
/-- sorting nothing. -/
theorem so_ins0 (w : World) : Calls Tryz.prog 141 #[.slice none 0 0, .int .i64 0, .int .i64 0, .func (.func 7) #[] #[]] w fun e w' => e = .returned (.tuple #[]) ∧ w = w' := by
  go_enter Tryz.func141, Tryz.ntmps141
  go_wp2_with fail
  refine wp_loop_rounds 1 ?_
  rw [rounds_succ]
  go_wp2_with fail
  go_end0
  exact ⟨rfl, rfl⟩
theorem so_sort0 (w : World) : Calls Tryz.prog 40 #[.slice none 0 0, .func (.func 7) #[] #[]] w fun e w' => e = .returned (.tuple #[]) ∧ w = w' := by
  have HI := Lib.hid so_ins0
  have HS : RowKit.Hid (∀ w, Calls Tryz.prog 88 #[.slice none 0 0, .int .i64 0, .func (.func 7) #[] #[]] w fun e w' => e = .returned (.tuple #[]) ∧ w = w') := by
    intro w
    go_enter Tryz.func88, Tryz.ntmps88
    go_wp2_with fail
    refine wp_loop_rounds 1 ?_
    rw [rounds_succ]
    go_wp2_with fail
    refine (HI.out _).mono ?_
    rintro e w1 ⟨rfl, rfl⟩
    go_wp2_with fail
    refine wp_loop_rounds 1 ?_
    rw [rounds_succ]
    go_wp2_with fail
    go_end0
    exact ⟨rfl, rfl⟩
  go_enter Tryz.func40, Tryz.ntmps40
  go_wp2_with fail
  refine (HS.out _).mono ?_
  rintro e w1 ⟨rfl, rfl⟩
  go_wp2_with fail
  go_end0
  exact ⟨rfl, rfl⟩
theorem swk_below {w0 w : World} {g : Nat} {d : Array Ey} (h : SWK eyC 6 w0 g 0 d w) {N : Nat} (hg : N ≤ g) (hN : N ≤ w0.heap.size) : Below N w0 w := by
  obtain ⟨n, os, rfl⟩ := h
  unfold sortWorldK putRowK
  refine ⟨rfl, rfl, rfl, ?_, fun k hk => ?_⟩
  · rw [size_grow, size_putRow]
    exact Nat.le_add_right _ _
  · show (_ ++ os)[k]? = _
    rw [Array.getElem?_append_left (by rw [size_putRow]; show k < w0.heap.size; omega)]
    unfold Go.Sort.putRow mapBlock
    simp only [Array.getElem?_modify]
    rw [if_neg (by omega)]
    rfl
/-- a slice of entries, cloned and sorted: what lies there then. -/
def Sorted (w w' : World) (v : Value) (l : List Ey) : Prop := ∃ a c, v = .slice a l.length c ∧ SliceAt w' 6 eyQ a l.length c (isort ltE l) ∧ Below w.heap.size w w'
set_option maxHeartbeats 1000000 in
theorem expOld_any (y : Ey) (now age : Int) (h0 : -9223372036854775808 ≤ now) (h1 : now ≤ 9223372036854775807) (h2 : y.date ≤ 9223372036854775807) (hn : 0 ≤ now) (w : World) :
    Calls Tryz.prog 23 #[.agg #[.string y.can, .string y.name, .string y.path, .int .i64 y.date, .int .i64 y.size, .bool y.good], .int .i64 now, .int .i64 age] w fun e w' => e = .returned (.bool (oldB now age y)) ∧ Below w.heap.size w w' := by
  obtain ⟨x1, x2, x3, x4, x5, x6⟩ := y
  dsimp only at h2 ⊢
  by_cases hd : 0 ≤ x4
  · have hw : IntKind.i64.wrap (now - x4) = now - x4 := by rw [IntKind.wrap_i64]; omega
    have HE := Lib.hid (show oldB now age ⟨x1, x2, x3, x4, x5, x6⟩ = decide (age < now - x4) by unfold oldB; rw [decide_eq_true hd]; rfl)
    go_enter Tryz.func23, Tryz.ntmps23
    go_wp2_with fail
    go_ret
    exact ⟨by rw [HE.out]; rfl, balloc (Below.refl _ _) _⟩
  · have HE := Lib.hid (show oldB now age ⟨x1, x2, x3, x4, x5, x6⟩ = false by unfold oldB; rw [decide_eq_false hd]; rfl)
    go_enter Tryz.func23, Tryz.ntmps23
    go_wp2_with fail
    go_ret
    exact ⟨by rw [HE.out]; rfl, balloc (Below.refl _ _) _⟩
end Go.Proofs.YtkkiglagdojnlaaGreatDoor

/- expire.Pick. -/
namespace Go.Proofs.YtkkiglagdojnlaaGreatDoor

open Go.RowKit Go.Shelf Go.Sort

/-- of two rows none is the other's. -/
def Apart (v v' : Value) : Prop := ∀ k, v.ownBlock = some k → v'.ownBlock ≠ some k
theorem Apart.symm {v v' : Value} (h : Apart v v') : Apart v' v := fun k h1 h2 => h k h2 h1
theorem apart_nil (v : Value) : Apart (.slice none 0 0) v := fun k h => by cases h
theorem Apart.new {w : World} {base g n c : Nat} {v v' : Value} {l : List Ey} (h : Apart v v') (hl : OEy w base v' l) (hg : v.ownBlock = some g ∨ w.heap.size < g) : Apart (.slice (some ⟨g, 0, none⟩) n c) v' := fun k hk hk' => by
  simp only [Value.ownBlock, Option.some.injEq] at hk
  subst hk
  rcases hg with hg | hg
  · exact h _ hg hk'
  · have := (hl.lt hk').2
    omega
/-- three rows of the call's own, behind a world W1. -/
structure PkA (W1 W : World) (vo vr vd : Value) (o r d : List Ey) : Prop where
  b : Below W1.heap.size W1 W
  o : OEy W W1.heap.size vo o
  r : OEy W W1.heap.size vr r
  d : OEy W W1.heap.size vd d
  or : Apart vo vr
  od : Apart vo vd
  rd : Apart vr vd
section

variable {W1 W W' : World} {vo vr vd : Value} {o r d : List Ey}

theorem PkA.keep (h : PkA W1 W vo vr vd o r d) (hb : Below W.heap.size W W') : PkA W1 W' vo vr vd o r d := ⟨h.b.trans (hb.mono h.b.size), h.o.keep hb, h.r.keep hb, h.d.keep hb, h.or, h.od, h.rd⟩
theorem PkA.pushO (h : PkA W1 W vo vr vd o r d) (x : Ey) (hn : o.length ≤ 2000) :
    ∃ g cap W', (Builtin.append_ #[56, 56] 56 #[vo, .slice (some ⟨W.heap.size, 0, none⟩) 1 1]).run Tryz.prog (W.alloc (.cells #[.string x.can, .string x.name, .string x.path, .int .i64 x.date, .int .i64 x.size, .bool x.good] 23)) = .ok (.slice (some ⟨g, 0, none⟩) (o.length + 1) cap) W' ∧
      PkA W1 W' (.slice (some ⟨g, 0, none⟩) (o.length + 1) cap) vr vd (o ++ [x]) r d ∧ Mod (fun k => vo.ownBlock = some k) W W' := by
  obtain ⟨g, cap, W', h1, h2, h3, h4⟩ := h.o.app x hn h.b.size
  exact ⟨g, cap, W', h1, ⟨h.b.trans (h3.below (fun k hk => (h.o.lt hk).1) h.b.size), h2, h.r.mod h3 h.or, h.d.mod h3 h.od, h.or.new h.r h4, h.od.new h.d h4, h.rd⟩, h3⟩
theorem PkA.pushR (h : PkA W1 W vo vr vd o r d) (x : Ey) (hn : r.length ≤ 2000) :
    ∃ g cap W', (Builtin.append_ #[56, 56] 56 #[vr, .slice (some ⟨W.heap.size, 0, none⟩) 1 1]).run Tryz.prog (W.alloc (.cells #[.string x.can, .string x.name, .string x.path, .int .i64 x.date, .int .i64 x.size, .bool x.good] 23)) = .ok (.slice (some ⟨g, 0, none⟩) (r.length + 1) cap) W' ∧
      PkA W1 W' vo (.slice (some ⟨g, 0, none⟩) (r.length + 1) cap) vd o (r ++ [x]) d ∧ Mod (fun k => vr.ownBlock = some k) W W' := by
  obtain ⟨g, cap, W', h1, h2, h3, h4⟩ := h.r.app x hn h.b.size
  exact ⟨g, cap, W', h1, ⟨h.b.trans (h3.below (fun k hk => (h.r.lt hk).1) h.b.size), h.o.mod h3 h.or.symm, h2, h.d.mod h3 h.rd, (h.or.symm.new h.o h4).symm, h.od, h.rd.new h.d h4⟩, h3⟩
theorem PkA.pushD (h : PkA W1 W vo vr vd o r d) (x : Ey) (hn : d.length ≤ 2000) :
    ∃ g cap W', (Builtin.append_ #[56, 56] 56 #[vd, .slice (some ⟨W.heap.size, 0, none⟩) 1 1]).run Tryz.prog (W.alloc (.cells #[.string x.can, .string x.name, .string x.path, .int .i64 x.date, .int .i64 x.size, .bool x.good] 23)) = .ok (.slice (some ⟨g, 0, none⟩) (d.length + 1) cap) W' ∧
      PkA W1 W' vo vr (.slice (some ⟨g, 0, none⟩) (d.length + 1) cap) o r (d ++ [x]) ∧ Mod (fun k => vd.ownBlock = some k) W W' := by
  obtain ⟨g, cap, W', h1, h2, h3, h4⟩ := h.d.app x hn h.b.size
  exact ⟨g, cap, W', h1, ⟨h.b.trans (h3.below (fun k hk => (h.d.lt hk).1) h.b.size), h.o.mod h3 h.od.symm, h.r.mod h3 h.rd.symm, h2, h.or, (h.od.symm.new h.o h4).symm, (h.rd.symm.new h.r h4).symm⟩, h3⟩
/-- the dim ones behind the others. -/
theorem PkA.join (h : PkA W1 W vo vr vd o r d) (hr : r.length ≤ 2000) (hd : d.length ≤ 2000) :
    ∃ a c W', (Builtin.append_ #[56, 56] 56 #[vr, vd]).run Tryz.prog W = .ok (.slice a (r ++ d).length c) W' ∧ PkA W1 W' vo (.slice a (r ++ d).length c) (.slice none 0 0) o (r ++ d) [] := by
  obtain ⟨i0, hi, hz0, hz1, hz2⟩ := info_parts ey_info
  obtain ⟨da, dc, hv, h1, h2, h3⟩ := own_form h.d
  rcases Nat.eq_zero_or_pos d.length with h0 | hpos
  · have hdn : d = [] := List.eq_nil_of_length_eq_zero h0
    obtain ⟨ra, rc, hv2, -⟩ := own_form h.r
    subst hdn
    refine ⟨ra, rc, W, ?_, ?_⟩
    · rw [hv]
      have := step_app_nil (base := W1.heap.size) (sz := 6) (n := r.length) (xs := r.flatMap eyC) 56 Tryz.underlying56 hi h.r da dc
      rw [List.append_nil]
      exact this.trans (by rw [hv2])
    · rw [List.append_nil, ← hv2]
      exact ⟨h.b, h.o, h.r, OEy.nil _ _, h.or, (apart_nil _).symm, (apart_nil _).symm⟩
  · rcases h3 with ⟨-, h3, -⟩ | ⟨gd, rfl, -, -⟩
    · omega
    · have hD := h.d
      rw [hv] at hD
      obtain ⟨g, cap, W', k1, k2, k3, k4⟩ := step_app 56 Tryz.underlying56 hi hz0 hz1 hz2 rfl (by omega) h.r ⟨gd, 0, none⟩ d.length dc (d.flatMap eyC) (flat_len eyC_len _) (eys_news hD.at) (eyC_ones d) hpos (by unfold maxLen; omega) (by omega) h.b.size
      have hO : OEy W' W1.heap.size (.slice (some ⟨g, 0, none⟩) (r ++ d).length cap) (r ++ d) := by
        unfold OEy
        rw [List.length_append, List.flatMap_append]
        exact k2
      refine ⟨some ⟨g, 0, none⟩, cap, W', by rw [hv, List.length_append]; exact k1, h.b.trans (k3.below (fun k hk => (h.r.lt hk).1) h.b.size), h.o.mod k3 h.or.symm, hO, OEy.nil _ _, ?_, (apart_nil _).symm, (apart_nil _).symm⟩
      intro k hk hk'
      simp only [Value.ownBlock, Option.some.injEq] at hk'
      subst hk'
      rcases k4 with k4 | k4
      · exact h.or g hk k4
      · have := (h.o.lt hk).2
        omega
theorem PkA.start (W1 : World) : PkA W1 W1 (.slice none 0 0) (.slice none 0 0) (.slice none 0 0) [] [] [] := ⟨Below.refl _ _, OEy.nil _ _, OEy.nil _ _, OEy.nil _ _, apart_nil _, apart_nil _, apart_nil _⟩
end

/-- what is picked out of the first i. -/
def pkO (now age : Int) (l : List Ey) : List Ey := l.filter (oldB now age)
def pkR (now age : Int) (l : List Ey) : List Ey := l.filter (fun y => !oldB now age y && decide (0 ≤ y.date))
def pkD (now age : Int) (l : List Ey) : List Ey := l.filter (fun y => !oldB now age y && !decide (0 ≤ y.date))
def pkS (now age : Int) (l : List Ey) : Int := sumE (pkR now age l) + sumE (pkD now age l)
theorem take_next {α : Type} {l : List α} {i : Nat} (h : i < l.length) : l.take (i + 1) = l.take i ++ [l[i]] := List.take_succ_eq_append_getElem h
theorem pk_step (now age : Int) (l : List Ey) (y : Ey) : (oldB now age y = true → pkO now age (l ++ [y]) = pkO now age l ++ [y] ∧ pkR now age (l ++ [y]) = pkR now age l ∧ pkD now age (l ++ [y]) = pkD now age l ∧ pkS now age (l ++ [y]) = pkS now age l) ∧
    (oldB now age y = false → 0 ≤ y.date → pkO now age (l ++ [y]) = pkO now age l ∧ pkR now age (l ++ [y]) = pkR now age l ++ [y] ∧ pkD now age (l ++ [y]) = pkD now age l ∧ pkS now age (l ++ [y]) = pkS now age l + y.size) ∧
    (oldB now age y = false → ¬ 0 ≤ y.date → pkO now age (l ++ [y]) = pkO now age l ∧ pkR now age (l ++ [y]) = pkR now age l ∧ pkD now age (l ++ [y]) = pkD now age l ++ [y] ∧ pkS now age (l ++ [y]) = pkS now age l + y.size) := by
  unfold pkS pkO pkR pkD
  refine ⟨fun h => ?_, fun h h1 => ?_, fun h h1 => ?_⟩
  · simp [List.filter_append, h]
  · simp [List.filter_append, h, h1, sumE_app, sumE_cons, sumE_nil]
    omega
  · simp [List.filter_append, h, h1, sumE_app, sumE_cons, sumE_nil]
    omega
/-- sizes within bounds. -/
def SzOk (l : List Ey) : Prop := ∀ y ∈ l, 0 ≤ y.size ∧ y.size ≤ 1125899906842624 ∧ y.date ≤ 9223372036854775807
theorem sum_bd {l : List Ey} (h : SzOk l) : 0 ≤ sumE l ∧ sumE l ≤ 1125899906842624 * (l.length : Int) := by
  induction l with
  | nil => rw [sumE_nil]; simp
  | cons x l ih =>
    have h1 := h x (by simp)
    have h2 := ih (fun y hy => h y (List.mem_cons_of_mem _ hy))
    rw [sumE_cons, List.length_cons]
    omega
theorem SzOk.sub {l m : List Ey} (h : SzOk l) (hs : ∀ y ∈ m, y ∈ l) : SzOk m := fun y hy => h y (hs y hy)
theorem pkS_bd {now age : Int} {l : List Ey} (h : SzOk l) (hl : l.length ≤ 30) (i : Nat) : 0 ≤ pkS now age (l.take i) ∧ pkS now age (l.take i) ≤ 67553994410557440 := by
  have hs : ∀ y ∈ l.take i, y ∈ l := fun y hy => List.mem_of_mem_take hy
  have h1 := sum_bd (l := pkR now age (l.take i)) (h.sub fun y hy => hs y (List.mem_filter.1 hy).1)
  have h2 := sum_bd (l := pkD now age (l.take i)) (h.sub fun y hy => hs y (List.mem_filter.1 hy).1)
  have h3 : (pkR now age (l.take i)).length ≤ 30 := Nat.le_trans (List.length_filter_le _ _) (by rw [List.length_take]; omega)
  have h4 : (pkD now age (l.take i)).length ≤ 30 := Nat.le_trans (List.length_filter_le _ _) (by rw [List.length_take]; omega)
  unfold pkS
  omega
theorem pk_len (now age : Int) (l : List Ey) (i : Nat) (hl : l.length ≤ 30) : (pkO now age (l.take i)).length ≤ 2000 ∧ (pkR now age (l.take i)).length ≤ 2000 ∧ (pkD now age (l.take i)).length ≤ 2000 := by
  have h1 : (l.take i).length ≤ 30 := by rw [List.length_take]; omega
  exact ⟨Nat.le_trans (List.length_filter_le _ _) (by omega), Nat.le_trans (List.length_filter_le _ _) (by omega), Nat.le_trans (List.length_filter_le _ _) (by omega)⟩
end Go.Proofs.YtkkiglagdojnlaaGreatDoor
