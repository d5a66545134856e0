/- What TablePlays's list and its table have in common, deed by deed. -/
import Derived.Test.YtojmbjkeckdilaaAllC
import Derived.Test.YtojmbjkeckdilaaOwn
import Derived.Test.YtojmbjkeckdilaaFrame3
namespace Go.Proofs.Ytojmbjkeckdilaa
open Go.RowKit Go.Shelf

theorem cs_len (n : Nd) : n.cs.length = 12 := rfl
theorem cs_ndR (n : Nd) : ndR n.cs n := rfl
theorem cs_one (n : Nd) : ∀ u ∈ n.cs, u.oneCell' = true := by
  intro u hu
  simp only [Nd.cs, List.mem_cons, List.not_mem_nil, or_false] at hu
  rcases hu with rfl | rfl | rfl | rfl | rfl | rfl | rfl | rfl | rfl | rfl | rfl | rfl <;> rfl

theorem atV_none {L : List (Nd × Nat)} {k : Int} (h : findNd L k = none) : atV (L.map (·.1)) k = -1 := by
  unfold findNd at h
  unfold atV
  rw [List.findIdx?_eq_none_iff.2]
  simp only [Option.map_eq_none_iff, List.find?_eq_none] at h
  intro x hx
  obtain ⟨y, hy, rfl⟩ := List.mem_map.1 hx
  simpa using h y hy
/-- a number that is there: its place. -/
theorem find_place {L : List (Nd × Nat)} {k : Int} {n : Nd} (h : findNd L k = some n) : ∃ i, ∃ hi : i < L.length, L[i].1 = n ∧ n.no = k ∧ atV (L.map (·.1)) k = i := by
  unfold findNd at h
  simp only [Option.map_eq_some_iff] at h
  obtain ⟨x, hx, rfl⟩ := h
  cases hf : L.findIdx? (fun x => x.1.no == k) with
  | none =>
    rw [List.findIdx?_eq_none_iff] at hf
    have h1 := List.find?_some hx
    have h2 := hf x (List.mem_of_find?_eq_some hx)
    rw [h1] at h2; cases h2
  | some i =>
    obtain ⟨hi, h1, h2⟩ := List.findIdx?_eq_some_iff_getElem.1 hf
    have hxi : L[i] = x := by
      have : L.find? (fun x => x.1.no == k) = some L[i] := by
        rw [List.find?_eq_some_iff_getElem]
        exact ⟨h1, i, hi, rfl, fun j hj => by simpa using h2 j hj⟩
      rw [this] at hx
      exact Option.some.inj hx
    refine ⟨i, hi, by rw [hxi], by rw [← hxi]; simpa using h1, ?_⟩
    unfold atV
    rw [List.findIdx?_map]
    have : (fun n : Nd => n.no == k) ∘ (fun x : Nd × Nat => x.1) = fun x => x.1.no == k := rfl
    rw [this, hf]

theorem rise_get {L : List (Nd × Nat)} (hr : (L.map (·.1.no)).Pairwise (· < ·)) (i j : Nat) (hi : i < L.length) (hj : j < L.length) (h : L[i].1.no = L[j].1.no) : i = j := by
  have hp := List.pairwise_iff_getElem.1 hr
  simp only [List.getElem_map, List.length_map] at hp
  rcases Nat.lt_trichotomy i j with h1 | h1 | h1
  · have := hp i j hi hj h1; omega
  · exact h1
  · have := hp j i hj hi h1; omega

theorem filter_place : ∀ {L : List (Nd × Nat)} (_ : (L.map (·.1.no)).Pairwise (· < ·)) (i : Nat) (hi : i < L.length), (L.filter fun x => !(x.1.no == L[i].1.no)) = L.eraseIdx i
  | [], _, i, hi => by simp at hi
  | x :: L, hr, 0, _ => by
    rw [List.map_cons, List.pairwise_cons] at hr
    simp only [List.getElem_cons_zero, List.eraseIdx_cons_zero]
    rw [List.filter_cons_of_neg (by simp), List.filter_eq_self]
    intro y hy
    have := hr.1 y.1.no (List.mem_map.2 ⟨y, hy, rfl⟩)
    simp; omega
  | x :: L, hr, i + 1, hi => by
    rw [List.map_cons, List.pairwise_cons] at hr
    simp only [List.getElem_cons_succ, List.eraseIdx_cons_succ]
    have hi' : i < L.length := by simpa using hi
    have := hr.1 L[i].1.no (List.mem_map.2 ⟨L[i], List.getElem_mem hi', rfl⟩)
    rw [List.filter_cons_of_pos (by simp; omega), filter_place hr.2 i hi']
theorem set_place : ∀ {L : List (Nd × Nat)} (_ : (L.map (·.1.no)).Pairwise (· < ·)) (n : Nd) (i : Nat) (hi : i < L.length), L[i].1.no = n.no → (L.map fun x => if x.1.no == n.no then (n, x.2) else x).map (·.1) = (L.map (·.1)).set i n
  | [], _, _, i, hi, _ => by simp at hi
  | x :: L, hr, n, 0, _, h => by
    rw [List.map_cons, List.pairwise_cons] at hr
    simp only [List.getElem_cons_zero] at h
    simp only [List.map_cons, h, beq_self_eq_true, if_true, List.set_cons_zero]
    congr 1
    rw [List.map_map]
    apply List.map_congr_left
    intro y hy
    have := hr.1 y.1.no (List.mem_map.2 ⟨y, hy, rfl⟩)
    have : ¬ y.1.no = n.no := by omega
    simp [this]
  | x :: L, hr, n, i + 1, hi, h => by
    rw [List.map_cons, List.pairwise_cons] at hr
    have hi' : i < L.length := by simpa using hi
    simp only [List.getElem_cons_succ] at h
    have h1 := hr.1 L[i].1.no (List.mem_map.2 ⟨L[i], List.getElem_mem hi', rfl⟩)
    have : ¬ x.1.no = n.no := by omega
    simp only [List.map_cons, List.set_cons_succ, beq_iff_eq, this, if_false]
    congr 1
    have := set_place hr.2 n i hi' h
    simpa using this

theorem TabR.add {w w' : World} {p m : Nat} {last : Int} {L : List (Nd × Nat)} {clk : Nat} (h : TabR w p m last L clk) (n : Nd) (h0 : 0 ≤ last) (h1 : last < 1000) (hs : L.length < 1000) (ht : Tab w' p m (last + 1) (L ++ [({ n with no := last + 1 }, clk)]) (clk + 1)) :
    TabR w' p m (last + 1) (L ++ [({ n with no := last + 1 }, clk)]) (clk + 1) := by
  refine ⟨ht, ?_, ?_, by omega, ?_, ?_, by simp; omega⟩
  · rw [List.map_append, List.pairwise_append]
    refine ⟨h.rise, by simp, ?_⟩
    intro a ha b hb
    simp only [List.map_cons, List.map_nil, List.mem_cons, List.not_mem_nil, or_false] at hb
    obtain ⟨x, hx, rfl⟩ := List.mem_map.1 ha
    have := h.tab.low x hx
    omega
  · intro x hx
    rcases List.mem_append.1 hx with hx | hx
    · exact h.low x hx
    · simp only [List.mem_cons, List.not_mem_nil, or_false] at hx
      subst hx; simp only; omega
  · intro x hx
    rcases List.mem_append.1 hx with hx | hx
    · have := h.born x hx; omega
    · simp only [List.mem_cons, List.not_mem_nil, or_false] at hx
      subst hx; simp only; omega
  · rw [List.map_append, List.nodup_append]
    refine ⟨h.bornOnce, by simp, ?_⟩
    intro a ha b hb
    simp only [List.map_cons, List.map_nil, List.mem_cons, List.not_mem_nil, or_false] at hb
    obtain ⟨x, hx, rfl⟩ := List.mem_map.1 ha
    have := h.born x hx
    omega
theorem TabR.drop {w w' : World} {p m : Nat} {last : Int} {L : List (Nd × Nat)} {clk : Nat} (h : TabR w p m last L clk) (k : Int) (ht : Tab w' p m last (L.filter fun x => !(x.1.no == k)) clk) :
    TabR w' p m last (L.filter fun x => !(x.1.no == k)) clk :=
  ⟨ht, h.rise.sublist (List.Sublist.map _ List.filter_sublist), fun x hx => h.low x (List.mem_filter.1 hx).1, h.high, fun x hx => h.born x (List.mem_filter.1 hx).1, h.bornOnce.sublist (List.Sublist.map _ List.filter_sublist), Nat.le_trans (List.length_filter_le _ _) h.short⟩
theorem TabR.put {w w' : World} {p m : Nat} {last : Int} {L : List (Nd × Nat)} {clk : Nat} (h : TabR w p m last L clk) (n : Nd) (ht : Tab w' p m last (L.map fun x => if x.1.no == n.no then (n, x.2) else x) clk) :
    TabR w' p m last (L.map fun x => if x.1.no == n.no then (n, x.2) else x) clk := by
  have e1 : (L.map fun x => if x.1.no == n.no then (n, x.2) else x).map (·.1.no) = L.map (·.1.no) := by
    rw [List.map_map]
    apply List.map_congr_left
    intro x _
    by_cases e : x.1.no = n.no <;> simp [e]
  have e2 : (L.map fun x => if x.1.no == n.no then (n, x.2) else x).map (·.2) = L.map (·.2) := by
    rw [List.map_map]
    apply List.map_congr_left
    intro x _
    by_cases e : x.1.no = n.no <;> simp [e]
  refine ⟨ht, by rw [e1]; exact h.rise, ?_, h.high, ?_, by rw [e2]; exact h.bornOnce, by rw [List.length_map]; exact h.short⟩
  · intro x hx
    obtain ⟨y, hy, rfl⟩ := List.mem_map.1 hx
    have := h.low y hy
    by_cases e : y.1.no = n.no
    · simp [e]; omega
    · simpa [e] using this
  · intro x hx
    obtain ⟨y, hy, rfl⟩ := List.mem_map.1 hx
    have := h.born y hy
    by_cases e : y.1.no = n.no
    · simpa [e] using this
    · simpa [e] using this
theorem TabR.moved {w w' : World} {p m : Nat} {last : Int} {L : List (Nd × Nat)} {clk : Nat} {S : Nat → Prop} (h : TabR w p m last L clk) (hm : Mod S w w') (hp : ¬ S p) (hq : ¬ S m) : TabR w' p m last L clk :=
  ⟨⟨h.tab.blk.mod hm hp, (hm.block m h.tab.map.lt hq).trans h.tab.map, h.tab.once, h.tab.low⟩, h.rise, h.low, h.high, h.born, h.bornOnce, h.short⟩
end Go.Proofs.Ytojmbjkeckdilaa
