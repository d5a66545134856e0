/- slices.Sorted(maps.Keys(t.nodes)) at a map whose keys stand rising. -/
import Derived.Test.YtojmbjkeckdilaaPlayA
namespace Go.Proofs.Ytojmbjkeckdilaa
open Go.RowKit Go.Maps Go.Sort Go.Shelf
open Go.WideElems (Fit)

/-- elements that read as nothing. -/
def noR (_ : Value) : Option (DataW Unit × List MemPlace) := some (.nil, [])
def intR (cs : List Value) (x : Int) : Prop := cs = [.int .i64 x]

section
variable {P : Program} {k : TypeId}
theorem rd_ent (hk : P.underlying k = some (.int .i64)) (x : Int × Value × Nat) (hx : I64 x.1) : WideElems.rd P k noR (ent x) = some (.int .i64 x.1, .nil) := by
  unfold WideElems.rd
  rw [show (ent x).key = .int .i64 x.1 from rfl, keyOf_int_mk hk (by obtain ⟨h1, h2⟩ := hx; simp [Lit.wf, IntKind.min, IntKind.max, IntKind.signed, IntKind.bits]; omega)]
  rfl
theorem rg_ent (hk : P.underlying k = some (.int .i64)) (x : Int × Value × Nat) (hx : I64 x.1) : WideElems.rg P k noR (ent x) = (.int .i64 x.1, .nil) := by
  unfold WideElems.rg
  rw [rd_ent hk x hx]
  rfl

theorem MapB.owns {w : World} {m : Nat} {l : List (Int × Value × Nat)} {clk : Nat} (hk : P.underlying k = some (.int .i64)) (h : MapB w m l clk) (hr : (l.map (·.1)).Pairwise (· < ·)) (h64 : ∀ x ∈ l, I64 x.1)
    (hb : ∀ x ∈ l, x.2.2 < clk) (hbn : (l.map (·.2.2)).Nodup) (hlen : l.length ≤ 1000) :
    ∃ D : DataW Unit, w.ownsMap P k noR m l.length D ∧ size D = l.length ∧ (intKeys D).Perm (l.map (·.1)) := by
  have hrg : (l.map ent).map (WideElems.rg P k noR) = l.map fun x => (Lit.int .i64 x.1, DataW.nil) := by
    rw [List.map_map]
    exact List.map_congr_left fun x hx => rg_ent hk x (h64 x hx)
  refine ⟨_, ⟨(l.map ent).toArray, clk, h, ⟨?_, ⟨?_, ?_, ?_⟩, ?_⟩, ?_, rfl⟩, ?_, ?_⟩
  · simp [maxLen]; omega
  · intro e he
    simp at he
    obtain ⟨a, v, c, hx, rfl⟩ := he
    exact hb _ hx
  · have : ((l.map ent).toArray.toList.map (·.born)) = l.map (·.2.2) := by simp [ent, Function.comp_def]
    rw [this]; exact hbn
  · have : ((l.map ent).toArray.toList.map (·.key)) = (l.map (·.1)).map (Value.int .i64) := by simp [ent, Function.comp_def]
    rw [this, List.Nodup, List.pairwise_map]
    exact hr.imp fun h e => by injection e with _ e; omega
  · intro e he
    simp at he
    obtain ⟨a, v, c, hx, rfl⟩ := he
    exact ⟨_, rd_ent hk _ (h64 _ hx)⟩
  · simp
  · show List.length _ = _
    rw [length_sorted]; simp
  · unfold intKeys
    refine ((WideShapes.sorted_perm _).map _).trans ?_
    rw [hrg, List.map_map]
    exact List.Perm.refl _
end

set_option maxHeartbeats 1000000 in
theorem sortedT_any (l : List (Int × Value × Nat)) (clk m : Nat) (w : World) (h : MapB w m l clk) (hr : (l.map (·.1)).Pairwise (· < ·)) (h64 : ∀ x ∈ l, I64 x.1)
    (hb : ∀ x ∈ l, x.2.2 < clk) (hbn : (l.map (·.2.2)).Nodup) (hlen : l.length ≤ 1000) :
    CallsIn Fence.wide 5 Try.prog 43 #[.func (.func 47) #[] #[.pointer (some ⟨w.heap.size, 0, none⟩)]] (w.alloc (.cells #[.map (some m)] 70)) fun e w' =>
      (∃ a cap, e = .returned (.slice a l.length cap) ∧ (l = [] ∨ ∃ g cur T, a = some ⟨g, 0, none⟩ ∧ w.heap.size < g ∧ Blk w' g cur T ∧ ∀ (i : Nat) (h : i < l.length), cur[i]? = some (.int .i64 l[i].1))) ∧ Below (w.alloc (.cells #[.map (some m)] 70)).heap.size (w.alloc (.cells #[.map (some m)] 70)) w' := by
  have hml := h.lt
  obtain ⟨D, hown, hsz, hperm⟩ := MapB.owns (P := Try.prog) Try.underlying3 (h.old (.cells #[.map (some m)] 70)) hr h64 hb hbn hlen
  have hseq : SeqGives Fence.wide 2 Try.prog 47 #[.pointer (some ⟨w.heap.size, 0, none⟩)] encZ (fun ss => ss.Perm (intKeys D)) (size D) (w.alloc (.cells #[.map (some m)] 70)) :=
    AnyZI.keys_gives (ρ := Try.keysT_ren) { Try.keysT with } Fence.wide _ trivial rfl (by omega) w.heap.size m _ D _ (by simp) (by simp) hown
  have hS := AnyZI.sorted_in Try.sortedT Fence.wide 5 trivial trivial trivial trivial rfl (by omega) (sortsT _) (enters_of Try.func46 (by kernel_rfl) rfl) 47 #[.pointer (some ⟨w.heap.size, 0, none⟩)] trivial (enters_of Try.func47 (by kernel_rfl) rfl) _ _ (by rw [hsz]; simp [maxLen]; omega) (by rw [hsz]; omega) _ hseq
  refine CallsIn.mono hS ?_
  rintro e w' ⟨v, ss, rfl, hp, hrow, hnil, hbl⟩
  have hms : ss.mergeSort (fun x y => decide (x ≤ y)) = l.map (·.1) := by
    refine (mergeSort_of_perm_i (hp.trans hperm)).trans (List.mergeSort_of_pairwise ?_)
    exact hr.imp fun h => by simp; omega
  have hl : ss.length = l.length := by simpa using (hp.trans hperm).length_eq
  rw [hms, hl] at hrow
  refine ⟨?_, hbl⟩
  obtain ⟨h1, ⟨rfl, h0⟩ | ⟨g, cap, cur, rfl, hbase, hg, r1, r2, r3, r4⟩⟩ := hrow
  · have e : l = [] := List.eq_nil_of_length_eq_zero h0
    subst e
    exact ⟨none, 0, rfl, .inl rfl⟩
  · refine ⟨_, cap, rfl, .inr ⟨g, cur, _, rfl, by simp at hbase; omega, hg, fun i hi => ?_⟩⟩
    have := congrArg (fun l => l[i]?) r4
    simpa [hi] using this
end Go.Proofs.Ytojmbjkeckdilaa
