/- Texts of the proof, part 1. -/
import Derived.Sort.LotA
import Derived.Sort.WalkA
import Derived.WalkKit
import Derived.WalkSpells
import Derived.WalkLawsBesides
import Derived.Outline
import Derived.Deep.QuietTactic
import Derived.BigQuiet
import Derived.Handy
import Derived.Lib.Hide
import Derived.Deep.RegionHeld3
import Derived.StillTactics
set_option linter.unusedVariables false
set_option linter.unusedSimpArgs false
/- A stable sort of a row (Go's insertion sort of blocks and its merge in place), purely. No program in sight. -/
namespace Go.Proofs.YtkkiglagdojnlaaGreatDoor

open Go.Sort

section

variable {α : Type} [Inhabited α] {lt : α → α → Bool}
/-! ### merging lists -/
def mrg (lt : α → α → Bool) : List α → List α → List α
  | [], B => B
  | x :: A, [] => x :: A
  | x :: A, y :: B => if lt y x then y :: mrg lt (x :: A) B else x :: mrg lt A (y :: B)
termination_by A B => A.length + B.length
omit [Inhabited α] in
theorem mrg_nil (A : List α) : mrg lt A [] = A := by cases A <;> rw [mrg]
omit [Inhabited α] in
theorem nil_mrg (B : List α) : mrg lt [] B = B := by rw [mrg]
omit [Inhabited α] in
theorem mrg_cons (x y : α) (A B : List α) : mrg lt (x :: A) (y :: B) = if lt y x then y :: mrg lt (x :: A) B else x :: mrg lt A (y :: B) := by rw [mrg]
omit [Inhabited α] in
theorem mrg_len (lt : α → α → Bool) : ∀ (A B : List α), (mrg lt A B).length = A.length + B.length
  | [], B => by rw [nil_mrg]; simp
  | x :: A, [] => by rw [mrg_nil]; simp
  | x :: A, y :: B => by
    rw [mrg_cons]
    split
    · rw [List.length_cons, mrg_len lt (x :: A) B]; simp; omega
    · rw [List.length_cons, mrg_len lt A (y :: B)]; simp; omega
termination_by A B => A.length + B.length
omit [Inhabited α] in
theorem mrg_mem (lt : α → α → Bool) : ∀ (A B : List α) (z : α), z ∈ mrg lt A B ↔ z ∈ A ∨ z ∈ B
  | [], B, z => by rw [nil_mrg]; simp
  | x :: A, [], z => by rw [mrg_nil]; simp
  | x :: A, y :: B, z => by
    rw [mrg_cons]
    split
    · rw [List.mem_cons, mrg_mem lt (x :: A) B]; simp only [List.mem_cons]; exact or_left_comm
    · rw [List.mem_cons, mrg_mem lt A (y :: B)]; simp only [List.mem_cons]; exact or_assoc.symm
termination_by A B => A.length + B.length
omit [Inhabited α] in
/-- what goes ahead, and what goes behind. -/
theorem mrg_split : ∀ (A1 B1 A2 B2 : List α), (∀ x ∈ A1, ∀ y ∈ B2, lt y x = false) → (∀ y ∈ B1, ∀ x ∈ A2, lt y x = true) → mrg lt (A1 ++ A2) (B1 ++ B2) = mrg lt A1 B1 ++ mrg lt A2 B2
  | [], [], A2, B2, _, _ => by rw [nil_mrg]; simp
  | [], y :: B1, A2, B2, h1, h2 => by
    have ih := mrg_split [] B1 A2 B2 (by simp) (fun y hy => h2 y (List.mem_cons_of_mem _ hy))
    simp only [List.nil_append, nil_mrg] at ih ⊢
    cases A2 with
    | nil => rw [nil_mrg, nil_mrg]
    | cons x A2 => rw [List.cons_append, mrg_cons, if_pos (h2 y (by simp) x (by simp)), ih, List.cons_append]
  | x :: A1, [], A2, B2, h1, h2 => by
    have ih := mrg_split A1 [] A2 B2 (fun x hx => h1 x (List.mem_cons_of_mem _ hx)) (by simp)
    simp only [List.nil_append, mrg_nil] at ih ⊢
    cases B2 with
    | nil => rw [mrg_nil, mrg_nil]
    | cons y B2 => rw [List.cons_append, mrg_cons, if_neg (by rw [h1 x (by simp) y (by simp)]; decide), ih, List.cons_append]
  | x :: A1, y :: B1, A2, B2, h1, h2 => by
    rw [List.cons_append, List.cons_append, mrg_cons, mrg_cons]
    split
    · have ih := mrg_split (x :: A1) B1 A2 B2 h1 (fun y hy => h2 y (List.mem_cons_of_mem _ hy))
      rw [List.cons_append] at ih
      rw [ih, List.cons_append]
    · have ih := mrg_split A1 (y :: B1) A2 B2 (fun x hx => h1 x (List.mem_cons_of_mem _ hx)) h2
      rw [List.cons_append] at ih
      rw [ih, List.cons_append]
termination_by A1 B1 => A1.length + B1.length
omit [Inhabited α] in
theorem mrg_lt {x y : α} (A B : List α) (h : lt y x = true) : mrg lt (x :: A) (y :: B) = y :: mrg lt (x :: A) B := by rw [mrg_cons, if_pos h]
omit [Inhabited α] in
theorem mrg_ge {x y : α} (A B : List α) (h : lt y x = false) : mrg lt (x :: A) (y :: B) = x :: mrg lt A (y :: B) := by rw [mrg_cons, if_neg (by rw [h]; simp)]
omit [Inhabited α] in
theorem mrg_assoc (hS : SWO lt) : ∀ (A B C : List α), mrg lt A (mrg lt B C) = mrg lt (mrg lt A B) C
  | [], B, C => by rw [nil_mrg, nil_mrg]
  | a :: A, [], C => by rw [nil_mrg, mrg_nil]
  | a :: A, b :: B, [] => by rw [mrg_nil, mrg_nil]
  | a :: A, b :: B, c :: C => by
    have i1 := mrg_assoc hS (a :: A) (b :: B) C
    have i2 := mrg_assoc hS (a :: A) B (c :: C)
    have i3 := mrg_assoc hS A (b :: B) (c :: C)
    cases hcb : lt c b with
    | true =>
      cases hba : lt b a with
      | true =>
        have hca := hS.trans _ _ _ hcb hba
        rw [mrg_lt _ _ hcb, mrg_lt _ _ hca, i1, mrg_lt _ _ hba, mrg_lt _ _ hcb]
      | false =>
        cases hca : lt c a with
        | true => rw [mrg_lt _ _ hcb, mrg_lt _ _ hca, i1, mrg_ge _ _ hba, mrg_lt _ _ hca]
        | false => rw [mrg_ge _ _ hba, mrg_lt _ _ hcb, mrg_ge _ _ hca, mrg_ge _ _ hca, ← i3, mrg_lt _ _ hcb]
    | false =>
      cases hba : lt b a with
      | true => rw [mrg_ge _ _ hcb, mrg_lt _ _ hba, mrg_lt _ _ hba, mrg_ge _ _ hcb, i2]
      | false =>
        have hca := hS.ntrans _ _ _ hcb hba
        rw [mrg_ge _ _ hcb, mrg_ge _ _ hba, mrg_ge _ _ hba, mrg_ge _ _ hca, ← i3, mrg_ge _ _ hcb]
termination_by A B C => A.length + B.length + C.length
/-- none stands ahead of a lesser one. -/
def SrtL (lt : α → α → Bool) (L : List α) : Prop := L.Pairwise fun x y => lt y x = false
omit [Inhabited α] in
theorem mrg_srt (hS : SWO lt) : ∀ (A B : List α), SrtL lt A → SrtL lt B → SrtL lt (mrg lt A B)
  | [], B, _, h => by rw [nil_mrg]; exact h
  | x :: A, [], h, _ => by rw [mrg_nil]; exact h
  | x :: A, y :: B, hA, hB => by
    obtain ⟨a1, a2⟩ := List.pairwise_cons.1 hA
    obtain ⟨b1, b2⟩ := List.pairwise_cons.1 hB
    rw [mrg_cons]
    split
    · rename_i h
      refine List.pairwise_cons.2 ⟨fun z hz => ?_, mrg_srt hS (x :: A) B hA b2⟩
      rcases (mrg_mem lt _ _ z).1 hz with hz | hz
      · rcases List.mem_cons.1 hz with rfl | hz
        · exact hS.asymmA h
        · exact hS.ntrans _ _ _ (a1 z hz) (hS.asymmA h)
      · exact b1 z hz
    · rename_i h
      have h' : lt y x = false := by simpa using h
      refine List.pairwise_cons.2 ⟨fun z hz => ?_, mrg_srt hS A (y :: B) a2 hB⟩
      rcases (mrg_mem lt _ _ z).1 hz with hz | hz
      · exact a1 z hz
      · rcases List.mem_cons.1 hz with rfl | hz
        · exact h'
        · exact hS.ntrans _ _ _ (b1 z hz) h'
termination_by A B => A.length + B.length
/-- THE STABLE SORT: one behind the other is merged in. -/
def isort (lt : α → α → Bool) (L : List α) : List α := L.foldl (fun S x => mrg lt S [x]) []
omit [Inhabited α] in
theorem isort_snoc (L : List α) (x : α) : isort lt (L ++ [x]) = mrg lt (isort lt L) [x] := by unfold isort; rw [List.foldl_append]; rfl
omit [Inhabited α] in
theorem isort_nil : isort lt ([] : List α) = [] := rfl
omit [Inhabited α] in
theorem isort_one (x : α) : isort lt [x] = [x] := by show mrg lt [] [x] = [x]; rw [nil_mrg]
theorem list_snoc_rec {α : Type} {p : List α → Prop} (h0 : p []) (h1 : ∀ L x, p L → p (L ++ [x])) (L : List α) : p L := by
  have : ∀ n (L : List α), L.length = n → p L := by
    intro n
    induction n with
    | zero => intro L h; rw [List.length_eq_zero_iff.1 h]; exact h0
    | succ n ih =>
      intro L h
      have hne : L ≠ [] := by intro e; rw [e] at h; simp at h
      rw [← List.dropLast_concat_getLast hne]
      exact h1 _ _ (ih _ (by simp [h]))
  exact this _ L rfl
omit [Inhabited α] in
theorem isort_len (L : List α) : (isort lt L).length = L.length := by
  induction L using list_snoc_rec with
  | h0 => rfl
  | h1 L x ih => rw [isort_snoc, mrg_len, ih]; simp
omit [Inhabited α] in
theorem isort_srt (hS : SWO lt) (L : List α) : SrtL lt (isort lt L) := by
  induction L using list_snoc_rec with
  | h0 => exact List.Pairwise.nil
  | h1 L x ih => rw [isort_snoc]; exact mrg_srt hS _ _ ih (List.pairwise_singleton _ _)
omit [Inhabited α] in
theorem isort_app (hS : SWO lt) (A B : List α) : isort lt (A ++ B) = mrg lt (isort lt A) (isort lt B) := by
  induction B using list_snoc_rec with
  | h0 => rw [isort_nil, mrg_nil]; simp
  | h1 B x ih => rw [← List.append_assoc, isort_snoc, isort_snoc, ih, mrg_assoc hS]
omit [Inhabited α] in
/-- a lesser one moves ahead of the last. -/
theorem mrg_last_lt {L : List α} {x y : α} (h : lt x y = true) : mrg lt (L ++ [y]) [x] = mrg lt L [x] ++ [y] := by
  have := mrg_split (lt := lt) L [x] [y] [] (by simp) (by simpa using h)
  rw [mrg_nil] at this
  simpa using this
omit [Inhabited α] in
theorem mrg_last_ge (hS : SWO lt) {L : List α} {x y : α} (hL : SrtL lt (L ++ [y])) (h : lt x y = false) : mrg lt (L ++ [y]) [x] = L ++ [y] ++ [x] := by
  have h1 := (List.pairwise_append.1 hL).2.2
  have := mrg_split (lt := lt) (L ++ [y]) [] [] [x] (fun z hz w hw => by
    rw [List.mem_singleton] at hw
    subst hw
    rcases List.mem_append.1 hz with hz | hz
    · exact hS.ntrans _ _ _ h (h1 z hz y (by simp))
    · rw [List.mem_singleton] at hz; rw [hz]; exact h) (by simp)
  rw [mrg_nil, nil_mrg] at this
  simpa using this
omit [Inhabited α] in
theorem srt_of_adj (hS : SWO lt) {A B : List α} (hA : SrtL lt A) (hB : SrtL lt B) {s e : Nat} (hs : s ≤ A.length) (he : e ≤ B.length)
    (h1 : ∀ (h0 : 0 < s) (h : e < B.length), lt B[e] (A[s - 1]'(by omega)) = false) (h2 : ∀ (h : s < A.length) (h0 : 0 < e), lt (B[e - 1]'(by omega)) A[s] = true) :
    mrg lt A B = mrg lt (A.take s) (B.take e) ++ mrg lt (A.drop s) (B.drop e) := by
  have pw : ∀ {L : List α}, SrtL lt L → ∀ {i j : Nat} (hi : i < L.length) (hj : j < L.length), i ≤ j → lt L[j] L[i] = false := fun {L} hL i j hi hj hij => by
    rcases Nat.lt_or_ge i j with h | h
    · exact List.pairwise_iff_getElem.1 hL i j hi hj h
    · obtain rfl : i = j := by omega
      exact hS.irrefl _
  have := mrg_split (lt := lt) (A.take s) (B.take e) (A.drop s) (B.drop e) (fun x hx y hy => by
    obtain ⟨i, hi, rfl⟩ := List.mem_iff_getElem.1 hx
    obtain ⟨j, hj, rfl⟩ := List.mem_iff_getElem.1 hy
    simp only [List.length_take, List.length_drop] at hi hj
    rw [List.getElem_take, List.getElem_drop]
    have k1 := h1 (by omega) (by omega)
    exact hS.ntrans _ _ _ (hS.ntrans _ _ _ (pw hB (by omega) (by omega) (by omega)) k1) (pw hA (by omega) (by omega) (by omega))) (fun y hy x hx => by
    obtain ⟨i, hi, rfl⟩ := List.mem_iff_getElem.1 hx
    obtain ⟨j, hj, rfl⟩ := List.mem_iff_getElem.1 hy
    simp only [List.length_take, List.length_drop] at hi hj
    rw [List.getElem_take, List.getElem_drop]
    have k2 := h2 (by omega) (by omega)
    cases hc : lt B[j] A[s + i] with
    | true => rfl
    | false =>
      have q1 := pw hB (i := j) (j := e - 1) (by omega) (by omega) (by omega)
      have q2 := pw hA (i := s) (j := s + i) (by omega) (by omega) (by omega)
      have := hS.ntrans _ _ _ (hS.ntrans _ _ _ q1 hc) q2
      rw [k2] at this
      cases this)
  rwa [List.take_append_drop, List.take_append_drop] at this
/-! ### a row's parts -/
/-- the row holds a list from a place on. -/
def Seg (d : Array α) (s : Nat) (L : List α) : Prop := s + L.length ≤ d.size ∧ ∀ i (h : i < L.length), d[s + i]! = L[i]
def SameOut (a b : Nat) (d d' : Array α) : Prop := d'.size = d.size ∧ ∀ i, (i < a ∨ b ≤ i) → d'[i]! = d[i]!
theorem SameOut.refl (a b : Nat) (d : Array α) : SameOut a b d d := ⟨rfl, fun _ _ => rfl⟩
theorem SameOut.trans {a b : Nat} {d d' d'' : Array α} (h : SameOut a b d d') (k : SameOut a b d' d'') : SameOut a b d d'' := ⟨k.1.trans h.1, fun i hi => (k.2 i hi).trans (h.2 i hi)⟩
theorem SameOut.mono {a b a' b' : Nat} {d d' : Array α} (h : SameOut a b d d') (ha : a' ≤ a) (hb : b ≤ b') : SameOut a' b' d d' := ⟨h.1, fun i hi => h.2 i (by omega)⟩
theorem Seg.app {d : Array α} {s : Nat} {L M : List α} (h : Seg d s L) (k : Seg d (s + L.length) M) : Seg d s (L ++ M) := by
  refine ⟨by have := k.1; simp; omega, fun i hi => ?_⟩
  rw [List.length_append] at hi
  by_cases hl : i < L.length
  · rw [List.getElem_append_left hl]; exact h.2 i hl
  · rw [List.getElem_append_right (by omega), ← k.2 (i - L.length) (by omega)]
    congr 1
    omega
theorem Seg.left {d : Array α} {s : Nat} {L M : List α} (h : Seg d s (L ++ M)) : Seg d s L := by
  have h1 := h.1
  rw [List.length_append] at h1
  refine ⟨by omega, fun i hi => ?_⟩
  have := h.2 i (by simp; omega)
  rwa [List.getElem_append_left hi] at this
theorem Seg.right {d : Array α} {s : Nat} {L M : List α} (h : Seg d s (L ++ M)) : Seg d (s + L.length) M := by
  have h1 := h.1
  rw [List.length_append] at h1
  refine ⟨by omega, fun i hi => ?_⟩
  have := h.2 (L.length + i) (by simp; omega)
  rw [List.getElem_append_right (by omega)] at this
  simp only [Nat.add_sub_cancel_left] at this
  rw [← this, Nat.add_assoc]
theorem Seg.same {d d' : Array α} {s a b : Nat} {L : List α} (h : Seg d s L) (k : SameOut a b d d') (hl : s + L.length ≤ a ∨ b ≤ s) : Seg d' s L :=
  ⟨by rw [k.1]; exact h.1, fun i hi => by rw [k.2 _ (by omega)]; exact h.2 i hi⟩
theorem Seg.take {d : Array α} {s : Nat} {L : List α} (h : Seg d s L) (n : Nat) : Seg d s (L.take n) := by
  have := h
  rw [← List.take_append_drop n L] at this
  exact this.left
theorem Seg.drop {d : Array α} {s : Nat} {L : List α} (h : Seg d s L) {n : Nat} (hn : n ≤ L.length) : Seg d (s + n) (L.drop n) := by
  have := h
  rw [← List.take_append_drop n L] at this
  have h2 := this.right
  rwa [List.length_take, Nat.min_eq_left hn] at h2
theorem Seg.of (d : Array α) : Seg d 0 d.toList := ⟨by simp, fun i hi => by simp only [Nat.zero_add, Array.getElem_toList]; exact getElem!_pos d i (by simpa using hi)⟩
theorem Seg.all {d : Array α} {L : List α} (h : Seg d 0 L) (hl : L.length = d.size) : d.toList = L := by
  refine List.ext_getElem (by simp [hl]) fun i h1 h2 => ?_
  have := h.2 i h2
  rw [Nat.zero_add, getElem!_pos d i (by simpa using h1)] at this
  simpa using this
/-! ### two parts of one length change places -/
def swpR (d : Array α) (a b : Nat) : Nat → Array α
  | 0 => d
  | n + 1 => swp (swpR d a b n) (a + n) (b + n)
theorem swpR_size (d : Array α) (a b : Nat) : ∀ n, (swpR d a b n).size = d.size
  | 0 => rfl
  | n + 1 => by rw [swpR, swp_size, swpR_size d a b n]
theorem swpR_get (d : Array α) (a b : Nat) : ∀ (n : Nat), a + n ≤ b → b + n ≤ d.size → ∀ k, (swpR d a b n)[k]! = if a ≤ k ∧ k < a + n then d[b + (k - a)]! else if b ≤ k ∧ k < b + n then d[a + (k - b)]! else d[k]!
  | 0, _, _, k => by
    rw [swpR, if_neg (by omega), if_neg (by omega)]
  | n + 1, h1, h2, k => by
    have ih := swpR_get d a b n (by omega) (by omega)
    rw [swpR, swp_get _ (by rw [swpR_size]; omega) (by rw [swpR_size]; omega), ih (a + n), ih (b + n), ih k]
    by_cases e1 : k = b + n
    · subst e1
      rw [if_pos rfl, if_neg (by omega), if_neg (by omega), if_neg (by omega), if_pos (by omega)]
      congr 1; omega
    · rw [if_neg e1]
      by_cases e2 : k = a + n
      · subst e2
        rw [if_pos rfl, if_neg (by omega), if_neg (by omega), if_pos (by omega)]
        congr 1; omega
      · rw [if_neg e2]
        by_cases c1 : a ≤ k ∧ k < a + n
        · rw [if_pos c1, if_pos (by omega)]
        · rw [if_neg c1]
          by_cases c2 : b ≤ k ∧ k < b + n
          · rw [if_pos c2, if_neg (by omega), if_pos (by omega)]
          · rw [if_neg c2, if_neg (by omega), if_neg (by omega)]
theorem swpR_seg {d : Array α} {a b : Nat} {X Y : List α} (hX : Seg d a X) (hY : Seg d b Y) (hl : X.length = Y.length) (hab : a + X.length ≤ b) :
    Seg (swpR d a b X.length) a Y ∧ Seg (swpR d a b X.length) b X ∧ (swpR d a b X.length).size = d.size ∧ ∀ k, (k < a ∨ (a + X.length ≤ k ∧ k < b) ∨ b + X.length ≤ k) → (swpR d a b X.length)[k]! = d[k]! := by
  have g := swpR_get d a b X.length hab (by have := hY.1; omega)
  refine ⟨⟨by rw [swpR_size, ← hl]; exact hX.1, fun i hi => ?_⟩, ⟨by rw [swpR_size, hl]; exact hY.1, fun i hi => ?_⟩, swpR_size _ _ _ _, fun k hk => ?_⟩
  · rw [g, if_pos (by omega), ← hY.2 i hi]; congr 1; omega
  · rw [g, if_neg (by omega), if_pos (by omega), ← hX.2 i hi]; congr 1; omega
  · rw [g, if_neg (by omega), if_neg (by omega)]
/-! ### insertion -/
theorem insInner_srt (hS : SWO lt) (a : Nat) (x : α) : ∀ (j : Nat) (d : Array α) (L : List α), j = a + L.length → j < d.size → Seg d a L → d[j]! = x → SrtL lt L → Seg (insInner lt a j d) a (mrg lt L [x]) ∧ SameOut a (j + 1) d (insInner lt a j d)
  | 0, d, L, hj, hjs, hL, hx, hs => by
    obtain rfl : L = [] := List.length_eq_zero_iff.1 (by omega)
    obtain rfl : a = 0 := by simp at hj; omega
    rw [nil_mrg, insInner]
    exact ⟨⟨by simp; omega, fun i hi => by
      obtain rfl : i = 0 := by simpa using hi
      exact hx⟩, SameOut.refl _ _ _⟩
  | j + 1, d, L, hj, hjs, hL, hx, hs => by
    by_cases hja : L = []
    · subst hja
      rw [insInner_stop lt a (j + 1) d (.inl (by simp at hj; omega)), nil_mrg]
      obtain rfl : j + 1 = a := by simpa using hj
      exact ⟨⟨by simp; omega, fun i hi => by
        obtain rfl : i = 0 := by simpa using hi
        exact hx⟩, SameOut.refl _ _ _⟩
    · obtain ⟨M, y, rfl⟩ : ∃ M y, L = M ++ [y] := ⟨_, _, (List.dropLast_concat_getLast hja).symm⟩
      have hlen : (M ++ [y]).length = M.length + 1 := by simp
      have hy : d[j]! = y := by
        have := hL.2 M.length (by simp)
        rw [List.getElem_append_right (by omega)] at this
        simp only [Nat.sub_self, List.getElem_cons_zero] at this
        rw [← this]; congr 1; omega
      cases hl : lt x y with
      | true =>
        rw [insInner_go lt a (j + 1) d (by omega) (by simpa [hx, hy] using hl), Nat.add_sub_cancel]
        have sg := swp_get d (i := j + 1) (j := j) hjs (by omega)
        have hM : Seg (swp d (j + 1) j) a M := ⟨by rw [swp_size]; omega, fun i hi => by
          rw [sg, if_neg (by omega), if_neg (by omega)]; exact hL.left.2 i hi⟩
        obtain ⟨s1, s2⟩ := insInner_srt hS a x j (swp d (j + 1) j) M (by omega) (by rw [swp_size]; omega) hM (by rw [sg, if_pos rfl, hx]) (List.pairwise_append.1 hs).1
        have hlast : (insInner lt a j (swp d (j + 1) j))[j + 1]! = y := by
          rw [s2.2 (j + 1) (by omega), sg, if_neg (by omega), if_pos rfl, hy]
        rw [mrg_last_lt hl]
        refine ⟨s1.app ⟨by rw [mrg_len, s2.1, swp_size]; simp; omega, fun i hi => ?_⟩, ⟨s2.1.trans (swp_size _ _ _), fun i hi => ?_⟩⟩
        · obtain rfl : i = 0 := by simpa using hi
          rw [mrg_len]
          simp only [List.length_singleton, List.getElem_cons_zero]
          rw [← hlast]; congr 1; omega
        · rw [s2.2 i (by omega), sg, if_neg (by omega), if_neg (by omega)]
      | false =>
        rw [insInner_stop lt a (j + 1) d (.inr (by simpa [hx, hy] using hl)), mrg_last_ge hS hs hl]
        refine ⟨hL.app ⟨by simp at hj ⊢; omega, fun i hi => ?_⟩, SameOut.refl _ _ _⟩
        obtain rfl : i = 0 := by simpa using hi
        simp only [List.getElem_cons_zero, Nat.add_zero]
        rw [← hx, hj]
theorem insOuter_srt (hS : SWO lt) (a : Nat) (L : List α) : ∀ (n i : Nat) (d : Array α), a + L.length - i = n → a < i → i ≤ a + L.length → a + L.length ≤ d.size → Seg d a (isort lt (L.take (i - a))) → Seg d i (L.drop (i - a)) → Seg (insOuter lt a (a + L.length) i d) a (isort lt L) ∧ SameOut a (a + L.length) d (insOuter lt a (a + L.length) i d)
  | 0, i, d, hn, _, hib, _, h1, _ => by
    obtain rfl : i = a + L.length := by omega
    rw [insOuter_stop lt _ _ _ _ (by omega)]
    rw [show a + L.length - a = L.length by omega, List.take_length] at h1
    exact ⟨h1, SameOut.refl _ _ _⟩
  | n + 1, i, d, hn, hai, hib, hd, h1, h2 => by
    have hil : i - a < L.length := by omega
    rw [insOuter_go lt _ _ _ _ (by omega)]
    have hx : d[i]! = L[i - a] := by
      have := h2.2 0 (by simp; omega)
      simpa using this
    obtain ⟨s1, s2⟩ := insInner_srt hS a L[i - a] i d (isort lt (L.take (i - a))) (by rw [isort_len, List.length_take]; omega) (by omega) h1 hx (isort_srt hS _)
    rw [← isort_snoc, ← List.take_succ_eq_append_getElem hil] at s1
    have e : i + 1 - a = i - a + 1 := by omega
    have h2' : Seg (insInner lt a i d) (i + 1) (L.drop (i + 1 - a)) := by
      have := h2.drop (n := 1) (by simp; omega)
      rw [List.drop_drop] at this
      rw [e, Nat.add_comm (i - a) 1]
      exact (by simpa [Nat.add_comm] using this : Seg d (i + 1) (L.drop (1 + (i - a)))).same s2 (.inr (Nat.le_refl _))
    obtain ⟨t1, t2⟩ := insOuter_srt hS a L n (i + 1) (insInner lt a i d) (by omega) (by omega) (by omega) (by rw [s2.1]; exact hd) (by rw [e]; exact s1) h2'
    exact ⟨t1, (s2.mono (Nat.le_refl _) (by omega)).trans t2⟩
theorem insertion_seg (hS : SWO lt) {d : Array α} {a : Nat} {L : List α} (h : Seg d a L) : Seg (insertionSort lt d a (a + L.length)) a (isort lt L) ∧ SameOut a (a + L.length) d (insertionSort lt d a (a + L.length)) := by
  unfold insertionSort
  cases L with
  | nil =>
    rw [insOuter_stop lt _ _ _ _ (by simp)]
    exact ⟨h, SameOut.refl _ _ _⟩
  | cons x L =>
    have e : a + 1 - a = 1 := by omega
    refine insOuter_srt hS a (x :: L) _ (a + 1) d rfl (by omega) (by simp) h.1 ?_ ?_
    · rw [e]
      show Seg d a (isort lt [x])
      rw [isort_one]
      exact h.take 1
    · rw [e]
      exact h.drop (n := 1) (by simp)
end

end Go.Proofs.YtkkiglagdojnlaaGreatDoor

/- A stable sort of a row, purely, on: a row is turned; two sorted parts are merged in place. No program in sight. -/
namespace Go.Proofs.YtkkiglagdojnlaaGreatDoor

open Go.Sort

section

variable {α : Type} [Inhabited α] {lt : α → α → Bool}
/-! ### turning a row -/
theorem Seg.cast {d : Array α} {s t : Nat} {L : List α} (h : Seg d s L) (e : s = t) : Seg d t L := e ▸ h
theorem rot_eq {d : Array α} {m i : Nat} {X Y : List α} (hX : Seg d (m - i) X) (hY : Seg d m Y) (hi : X.length = i) (hj : Y.length = i) (him : i ≤ m) :
    Seg (swpR d (m - i) m i) (m - i) (Y ++ X) ∧ SameOut (m - i) (m + i) d (swpR d (m - i) m i) := by
  obtain ⟨h1, h2, h3, h4⟩ := swpR_seg hX hY (by omega) (by omega)
  rw [hi] at h1 h2 h3 h4
  exact ⟨h1.app (h2.cast (by omega)), h3, fun k hk => h4 k (by omega)⟩
theorem rot_gt {d : Array α} {m i j : Nat} {X Y : List α} (hX : Seg d (m - i) X) (hY : Seg d m Y) (hi : X.length = i) (hj : Y.length = j) (him : i ≤ m) (hlt : j < i) :
    ∃ X1 X2, X1.length = j ∧ X2.length = i - j ∧ Seg (swpR d (m - i) m j) (m - (i - j)) X2 ∧ Seg (swpR d (m - i) m j) m X1 ∧ (swpR d (m - i) m j).size = d.size ∧
      ∀ d'', Seg d'' (m - (i - j)) (X1 ++ X2) → SameOut (m - (i - j)) (m + j) (swpR d (m - i) m j) d'' → Seg d'' (m - i) (Y ++ X) ∧ SameOut (m - i) (m + j) d d'' := by
  have hl1 : (X.take j).length = j := by rw [List.length_take]; omega
  have hl2 : (X.drop j).length = i - j := by rw [List.length_drop]; omega
  have k1 := hX.take j
  have k2 := hX.drop (n := j) (by omega)
  obtain ⟨h1, h2, h3, h4⟩ := swpR_seg k1 hY (by omega) (by omega)
  rw [hl1] at h1 h2 h3 h4
  have h5 : Seg (swpR d (m - i) m j) (m - i + j) (X.drop j) := ⟨by rw [h3]; exact k2.1, fun k hk => by rw [h4 _ (by omega)]; exact k2.2 k hk⟩
  refine ⟨X.take j, X.drop j, hl1, hl2, h5.cast (by omega), h2, h3, fun d'' s1 s2 => ?_⟩
  rw [List.take_append_drop] at s1
  have h6 : Seg d'' (m - i) Y := h1.same s2 (.inl (by omega))
  exact ⟨h6.app (s1.cast (by omega)), s2.1.trans h3, fun k hk => (s2.2 k (by omega)).trans (h4 k (by omega))⟩
theorem rot_lt {d : Array α} {m i j : Nat} {X Y : List α} (hX : Seg d (m - i) X) (hY : Seg d m Y) (hi : X.length = i) (hj : Y.length = j) (him : i ≤ m) (hlt : i < j) :
    ∃ Y1 Y2, Y2.length = i ∧ Y1.length = j - i ∧ Seg (swpR d (m - i) (m + j - i) i) (m - i) Y2 ∧ Seg (swpR d (m - i) (m + j - i) i) m Y1 ∧ (swpR d (m - i) (m + j - i) i).size = d.size ∧
      ∀ d'', Seg d'' (m - i) (Y1 ++ Y2) → SameOut (m - i) (m + (j - i)) (swpR d (m - i) (m + j - i) i) d'' → Seg d'' (m - i) (Y ++ X) ∧ SameOut (m - i) (m + j) d d'' := by
  have hl1 : (Y.take (j - i)).length = j - i := by rw [List.length_take]; omega
  have hl2 : (Y.drop (j - i)).length = i := by rw [List.length_drop]; omega
  have k1 := hY.take (j - i)
  have k2 := (hY.drop (n := j - i) (by omega)).cast (show m + (j - i) = m + j - i by omega)
  obtain ⟨h1, h2, h3, h4⟩ := swpR_seg hX k2 (by omega) (by omega)
  rw [hi] at h1 h2 h3 h4
  have h5 : Seg (swpR d (m - i) (m + j - i) i) m (Y.take (j - i)) := ⟨by rw [h3]; exact k1.1, fun k hk => by rw [h4 _ (by omega)]; exact k1.2 k hk⟩
  refine ⟨Y.take (j - i), Y.drop (j - i), hl2, hl1, h1, h5, h3, fun d'' s1 s2 => ?_⟩
  rw [List.take_append_drop] at s1
  have h6 : Seg d'' (m + j - i) X := h2.same s2 (.inr (by omega))
  exact ⟨s1.app (h6.cast (by omega)), s2.1.trans h3, fun k hk => (s2.2 k (by omega)).trans (h4 k (by omega))⟩
/-! ### merging in place -/
/-- the row behind a merge of its parts from a to b. -/
def Mrgd (lt : α → α → Bool) (a b : Nat) (A B : List α) (d d' : Array α) : Prop := Seg d' a (mrg lt A B) ∧ SameOut a b d d'
/-- where both parts are cut: what is ahead of the cuts goes ahead. -/
structure CutAt (lt : α → α → Bool) (A B : List α) (s e : Nat) : Prop where
  hs : s ≤ A.length
  he : e ≤ B.length
  h1 : ∀ (h0 : 0 < s) (h : e < B.length), lt (B[e]) (A[s - 1]'(by omega)) = false
  h2 : ∀ (h : s < A.length) (h0 : 0 < e), lt (B[e - 1]'(by omega)) A[s] = true
omit [Inhabited α] in
theorem CutAt.mrg_eq (hS : SWO lt) {A B : List α} (hA : SrtL lt A) (hB : SrtL lt B) {s e : Nat} (h : CutAt lt A B s e) : mrg lt A B = mrg lt (A.take s) (B.take e) ++ mrg lt (A.drop s) (B.drop e) :=
  srt_of_adj hS hA hB h.hs h.he h.h1 h.h2
omit [Inhabited α] in
theorem SrtL.take {L : List α} (h : SrtL lt L) (n : Nat) : SrtL lt (L.take n) := List.Pairwise.sublist (List.take_sublist n L) h
omit [Inhabited α] in
theorem SrtL.drop {L : List α} (h : SrtL lt L) (n : Nat) : SrtL lt (L.drop n) := List.Pairwise.sublist (List.drop_sublist n L) h
/-- one is put where it belongs: it moves to the right. -/
def shiftR (d : Array α) (a : Nat) : Nat → Array α
  | 0 => d
  | n + 1 => swp (shiftR d a n) (a + n) (a + n + 1)
theorem shiftR_seg {d : Array α} {a : Nat} {x : α} {B : List α} (hd : Seg d a (x :: B)) : ∀ n, n ≤ B.length → Seg (shiftR d a n) a (B.take n ++ [x] ++ B.drop n) ∧ SameOut a (a + n + 1) d (shiftR d a n)
  | 0, _ => ⟨by simpa [shiftR] using hd, SameOut.refl _ _ _⟩
  | n + 1, hn => by
    obtain ⟨h1, h2⟩ := shiftR_seg hd n (by omega)
    have hsz := h1.1
    simp only [List.length_append, List.length_take, List.length_drop, List.length_singleton] at hsz
    have g := swp_get (shiftR d a n) (i := a + n) (j := a + n + 1) (by omega) (by omega)
    have hx : (shiftR d a n)[a + n]! = x := by
      have := h1.2 n (by simp; omega)
      rw [List.getElem_append_left (by simp; omega), List.getElem_append_right (by simp; omega)] at this
      simpa [Nat.min_eq_left (show n ≤ B.length by omega)] using this
    have hy : (shiftR d a n)[a + n + 1]! = B[n] := by
      have := h1.2 (n + 1) (by simp; omega)
      rw [List.getElem_append_right (by simp; omega)] at this
      rw [show a + n + 1 = a + (n + 1) by omega, this]
      simp [Nat.min_eq_left (show n ≤ B.length by omega)]
    rw [shiftR]
    refine ⟨⟨by rw [swp_size]; simp; omega, fun i hi => ?_⟩, (h2.mono (Nat.le_refl _) (by omega)).trans ⟨swp_size _ _ _, fun k hk => by rw [g, if_neg (by omega), if_neg (by omega)]⟩⟩
    simp only [List.length_append, List.length_take, List.length_drop, List.length_singleton] at hi
    have e : B.take (n + 1) ++ [x] ++ B.drop (n + 1) = B.take n ++ (B[n] :: x :: B.drop (n + 1)) := by
      rw [List.take_succ_eq_append_getElem (by omega)]; simp only [List.append_assoc, List.cons_append, List.nil_append]
    have e0 : B.take n ++ [x] ++ B.drop n = B.take n ++ (x :: B[n] :: B.drop (n + 1)) := by
      rw [List.drop_eq_getElem_cons (show n < B.length by omega)]; simp
    rw [e0] at h1
    simp only [e]
    rw [g]
    by_cases c1 : a + i = a + n + 1
    · obtain rfl : i = n + 1 := by omega
      rw [if_pos c1, hx, List.getElem_append_right (by simp; omega)]
      simp [Nat.min_eq_left (show n ≤ B.length by omega)]
    · rw [if_neg c1]
      by_cases c2 : a + i = a + n
      · obtain rfl : i = n := by omega
        rw [if_pos c2, hy, List.getElem_append_right (by simp; omega)]
        simp [Nat.min_eq_left (show i ≤ B.length by omega)]
      · rw [if_neg c2]
        have := h1.2 i (by simp; omega)
        rw [this]
        by_cases c3 : i < n
        · rw [List.getElem_append_left (by simp; omega), List.getElem_append_left (by simp; omega)]
        · rw [List.getElem_append_right (by simp; omega), List.getElem_append_right (by simp; omega)]
          obtain ⟨k, rfl⟩ : ∃ k, i = n + 2 + k := ⟨i - n - 2, by omega⟩
          have q : n + 2 + k - (B.take n).length = k + 2 := by simp; omega
          simp only [q, List.getElem_cons_succ]
/-- .. to the left. -/
def shiftL (d : Array α) (m : Nat) : Nat → Array α
  | 0 => d
  | n + 1 => swp (shiftL d m n) (m - n) (m - n - 1)
theorem shiftL_seg {d : Array α} {a : Nat} {x : α} {A : List α} (hd : Seg d a (A ++ [x])) : ∀ n, n ≤ A.length → Seg (shiftL d (a + A.length) n) a (A.take (A.length - n) ++ [x] ++ A.drop (A.length - n)) ∧ SameOut (a + A.length - n) (a + A.length + 1) d (shiftL d (a + A.length) n)
  | 0, _ => ⟨by simpa [shiftL] using hd, SameOut.refl _ _ _⟩
  | n + 1, hn => by
    obtain ⟨h1, h2⟩ := shiftL_seg hd n (by omega)
    obtain ⟨k, hk⟩ : ∃ k, A.length = k + 1 + n := ⟨A.length - 1 - n, by omega⟩
    have hsz := h1.1
    simp only [List.length_append, List.length_take, List.length_drop, List.length_singleton] at hsz
    rw [shiftL, show a + A.length - n = a + k + 1 by omega, show a + k + 1 - 1 = a + k by omega, show A.length - (n + 1) = k by omega, show a + A.length - (n + 1) = a + k by omega]
    rw [show A.length - n = k + 1 by omega] at h1
    rw [show a + A.length - n = a + k + 1 by omega] at h2
    have g := swp_get (shiftL d (a + A.length) n) (i := a + k + 1) (j := a + k) (by omega) (by omega)
    have e0 : A.take (k + 1) ++ [x] ++ A.drop (k + 1) = A.take k ++ (A[k] :: x :: A.drop (k + 1)) := by
      rw [List.take_succ_eq_append_getElem (by omega)]; simp only [List.append_assoc, List.cons_append, List.nil_append]
    have e : A.take k ++ [x] ++ A.drop k = A.take k ++ (x :: A[k] :: A.drop (k + 1)) := by
      rw [List.drop_eq_getElem_cons (show k < A.length by omega)]; simp
    rw [e0] at h1
    rw [e]
    have hlk : (A.take k).length = k := by simp; omega
    have hy : (shiftL d (a + A.length) n)[a + k]! = A[k] := by
      have := h1.2 k (by simp; omega)
      rw [List.getElem_append_right (by omega)] at this
      simpa [hlk] using this
    have hx : (shiftL d (a + A.length) n)[a + k + 1]! = x := by
      have := h1.2 (k + 1) (by simp; omega)
      rw [List.getElem_append_right (by omega)] at this
      rw [show a + k + 1 = a + (k + 1) by omega, this]
      simp [hlk]
    refine ⟨⟨by rw [swp_size]; simp; omega, fun i hi => ?_⟩, (h2.mono (by omega) (by omega)).trans ⟨swp_size _ _ _, fun j hj => by rw [g, if_neg (by omega), if_neg (by omega)]⟩⟩
    simp only [List.length_append, List.length_take, List.length_drop, List.length_cons] at hi
    rw [g]
    by_cases c1 : a + i = a + k
    · obtain rfl : i = k := by omega
      rw [if_pos c1, hx, List.getElem_append_right (by omega)]
      simp [hlk]
    · rw [if_neg c1]
      by_cases c2 : a + i = a + k + 1
      · obtain rfl : i = k + 1 := by omega
        rw [if_pos c2, hy, List.getElem_append_right (by omega)]
        simp [hlk]
      · rw [if_neg c2]
        have := h1.2 i (by simp; omega)
        rw [this]
        by_cases c3 : i < k
        · rw [List.getElem_append_left (by omega), List.getElem_append_left (by omega)]
        · rw [List.getElem_append_right (by omega), List.getElem_append_right (by omega)]
          obtain ⟨j, rfl⟩ : ∃ j, i = k + 2 + j := ⟨i - k - 2, by omega⟩
          have q : k + 2 + j - (A.take k).length = j + 2 := by omega
          simp only [q, List.getElem_cons_succ]
/-! ### what is merged in one step -/
omit [Inhabited α] in
theorem mrg_one_left (hS : SWO lt) {x : α} {B : List α} (hB : SrtL lt B) {k : Nat} (hk : k ≤ B.length) (h1 : ∀ (h0 : 0 < k), lt (B[k - 1]'(by omega)) x = true) (h2 : ∀ (h : k < B.length), lt B[k] x = false) : mrg lt [x] B = B.take k ++ [x] ++ B.drop k := by
  have h := srt_of_adj (A := [x]) hS (List.pairwise_singleton _ _) hB (s := 0) (e := k) (Nat.zero_le _) hk (fun h0 => absurd h0 (by omega)) (fun _ h0 => h1 h0)
  rw [List.take_zero, List.drop_zero, nil_mrg] at h
  rw [h, List.append_assoc]
  congr 1
  by_cases hl : k < B.length
  · rw [List.drop_eq_getElem_cons hl, mrg_ge _ _ (h2 hl), nil_mrg]
    rfl
  · rw [List.drop_eq_nil_of_le (by omega), mrg_nil]
    rfl
omit [Inhabited α] in
theorem mrg_one_right (hS : SWO lt) {y : α} {A : List α} (hA : SrtL lt A) {k : Nat} (hk : k ≤ A.length) (h1 : ∀ (h0 : 0 < k), lt y (A[k - 1]'(by omega)) = false) (h2 : ∀ (h : k < A.length), lt y A[k] = true) : mrg lt A [y] = A.take k ++ [y] ++ A.drop k := by
  have h := srt_of_adj (B := [y]) hS hA (List.pairwise_singleton _ _) (s := k) (e := 0) hk (Nat.zero_le _) (fun h0 _ => h1 h0) (fun _ h0 => absurd h0 (by omega))
  rw [List.take_zero, List.drop_zero, mrg_nil] at h
  rw [h, List.append_assoc]
  congr 1
  by_cases hl : k < A.length
  · rw [List.drop_eq_getElem_cons hl, mrg_lt _ _ (h2 hl), mrg_nil]
    rfl
  · rw [List.drop_eq_nil_of_le (by omega), nil_mrg]
    rfl
/-- an element of a part. -/
theorem Seg.at {d : Array α} {s : Nat} {L : List α} (h : Seg d s L) {i : Nat} (h1 : s ≤ i) (h2 : i < s + L.length) : d[i]! = L[i - s]'(by omega) := by
  have := h.2 (i - s) (by omega)
  rw [← this]
  congr 1
  omega
end

end Go.Proofs.YtkkiglagdojnlaaGreatDoor

/- Where two sorted parts are cut, and how their merged halves come together (slices.symMergeCmpFunc), purely. -/
namespace Go.Proofs.YtkkiglagdojnlaaGreatDoor

open Go.Sort

section

variable {α : Type} [Inhabited α] {lt : α → α → Bool}

/-- behind the search: a cut. -/
theorem cut_of {d : Array α} {a m b mid st s0 r0 : Nat} {A B : List α} (hA : Seg d a A) (hB : Seg d m B) (ha : a + A.length = m) (hb : m + B.length = b) (h0 : s0 ≤ st) (h1 : st ≤ r0) (hsa : a ≤ s0) (hrm : r0 ≤ m) (hrd : r0 ≤ mid) (hmb : mid + m ≤ s0 + b)
    (hs0 : s0 = a ∨ s0 + b = mid + m) (hr0 : r0 = m ∨ r0 = mid) (hl : s0 < st → lt d[mid + m - st]! d[st - 1]! = false) (hr : st < r0 → lt d[mid + m - st - 1]! d[st]! = true) : CutAt lt A B (st - a) (mid - st) := by
  refine ⟨by omega, by omega, fun h2 h3 => ?_, fun h2 h3 => ?_⟩
  · have hlt : s0 < st := by omega
    have := hl hlt
    rw [hB.at (i := mid + m - st) (by omega) (by omega), hA.at (i := st - 1) (by omega) (by omega)] at this
    have e1 : mid + m - st - m = mid - st := by omega
    have e2 : st - 1 - a = st - a - 1 := by omega
    simpa only [e1, e2] using this
  · have hlt : st < r0 := by omega
    have := hr hlt
    rw [hB.at (i := mid + m - st - 1) (by omega) (by omega), hA.at (i := st) (by omega) (by omega)] at this
    have e1 : mid + m - st - 1 - m = mid - st - 1 := by omega
    simpa only [e1] using this
/-- the row, its middle turned. -/
theorem turned {d d1 : Array α} {a m : Nat} {A B : List α} (hA : Seg d a A) (hB : Seg d m B) (ha : a + A.length = m) {s e : Nat} (hs : s ≤ A.length) (he : e ≤ B.length) (h1 : Seg d1 (a + s) (B.take e ++ A.drop s)) (h2 : SameOut (a + s) (m + e) d d1) :
    Seg d1 a (A.take s) ∧ Seg d1 (a + s) (B.take e) ∧ Seg d1 (a + s + e) (A.drop s) ∧ Seg d1 (m + e) (B.drop e) := by
  have l1 : (A.take s).length = s := by rw [List.length_take]; omega
  have l2 : (B.take e).length = e := by rw [List.length_take]; omega
  have l3 : (A.drop s).length = A.length - s := List.length_drop
  refine ⟨(hA.take s).same h2 (.inl (by omega)), h1.left, h1.right.cast (by omega), ((hB.drop he).same h2 (.inr (Nat.le_refl _)))⟩
/-- both halves merged. -/
theorem halves {d d1 d2 d3 : Array α} {a b q : Nat} {A B : List α} (hS : SWO lt) (hsA : SrtL lt A) (hsB : SrtL lt B) {s e : Nat} (hc : CutAt lt A B s e) (hq : q = a + s + e) (hb : b = a + A.length + B.length)
    (h1 : SameOut a b d d1) (h2 : Mrgd lt a q (A.take s) (B.take e) d1 d2) (h3 : Mrgd lt q b (A.drop s) (B.drop e) d2 d3) : Mrgd lt a b A B d d3 := by
  have hs := hc.hs
  have he := hc.he
  have l : (mrg lt (A.take s) (B.take e)).length = s + e := by rw [mrg_len, List.length_take, List.length_take]; omega
  refine ⟨?_, h1.trans ((h2.2.mono (Nat.le_refl _) (by omega)).trans (h3.2.mono (by omega) (Nat.le_refl _)))⟩
  rw [hc.mrg_eq hS hsA hsB]
  exact (h2.1.same h3.2 (.inl (by omega))).app (h3.1.cast (by omega))
theorem shiftR_size (d : Array α) (a : Nat) : ∀ n, (shiftR d a n).size = d.size
  | 0 => rfl
  | n + 1 => by rw [shiftR, swp_size, shiftR_size d a n]
theorem shiftL_size (d : Array α) (a : Nat) : ∀ n, (shiftL d a n).size = d.size
  | 0 => rfl
  | n + 1 => by rw [shiftL, swp_size, shiftL_size d a n]
/-- nothing to merge. -/
theorem mrgd_nil {d : Array α} {a b : Nat} {B : List α} (h : Seg d a B) : Mrgd lt a b [] B d d := ⟨by rw [nil_mrg]; exact h, SameOut.refl _ _ _⟩
theorem mrgd_nil' {d : Array α} {a b : Nat} {A : List α} (h : Seg d a A) : Mrgd lt a b A [] d d := ⟨by rw [mrg_nil]; exact h, SameOut.refl _ _ _⟩
/-- one to the left. -/
theorem mrgd_left {d d' : Array α} {a b i : Nat} {x : α} {B : List α} (hS : SWO lt) (hB : SrtL lt B) (hd : Seg d a (x :: B)) (hb : b = a + 1 + B.length) (h1 : a + 1 ≤ i) (h2 : i ≤ b)
    (hl : a + 1 < i → lt d[i - 1]! x = true) (hr : i < b → lt d[i]! x = false) (he : d' = shiftR d a (i - 1 - a)) : Mrgd lt a b [x] B d d' := by
  subst he
  have key : ∀ (j : Nat) (h : j < B.length), d[a + 1 + j]! = B[j] := fun j h => by
    have := hd.2 (j + 1) (by simp; omega)
    rw [show a + 1 + j = a + (j + 1) by omega, this]
    simp
  have hk : i - 1 - a ≤ B.length := by omega
  obtain ⟨s1, s2⟩ := shiftR_seg hd (i - 1 - a) hk
  refine ⟨?_, s2.mono (Nat.le_refl _) (by omega)⟩
  rw [mrg_one_left hS hB hk (fun h0 => ?_) (fun h => ?_)]
  · exact s1
  · have := hl (by omega)
    rw [show i - 1 = a + 1 + (i - 1 - a - 1) by omega, key _ (by omega)] at this
    exact this
  · have := hr (by omega)
    rw [show i = a + 1 + (i - 1 - a) by omega, key _ h] at this
    exact this
/-- one to the right. -/
theorem mrgd_right {d d' : Array α} {a m i : Nat} {y : α} {A : List α} (hS : SWO lt) (hA : SrtL lt A) (hd : Seg d a (A ++ [y])) (hm : m = a + A.length) (h1 : a ≤ i) (h2 : i ≤ m)
    (hl : a < i → lt y d[i - 1]! = false) (hr : i < m → lt y d[i]! = true) (he : d' = shiftL d m (m - i)) : Mrgd lt a (m + 1) A [y] d d' := by
  subst he
  have key : ∀ (j : Nat) (h : j < A.length), d[a + j]! = A[j] := fun j h => by
    have := hd.2 j (by simp; omega)
    rw [this, List.getElem_append_left h]
  have hk : m - i ≤ A.length := by omega
  obtain ⟨s1, s2⟩ := shiftL_seg hd (m - i) hk
  rw [← hm] at s1 s2
  rw [show A.length - (m - i) = i - a by omega] at s1
  refine ⟨?_, s2.mono (by omega) (by omega)⟩
  rw [mrg_one_right hS hA (k := i - a) (by omega) (fun h0 => ?_) (fun h => ?_)]
  · exact s1
  · have := hl (by omega)
    rw [show i - 1 = a + (i - a - 1) by omega, key _ (by omega)] at this
    exact this
  · have := hr (by omega)
    rw [show i = a + (i - a) by omega, key _ h] at this
    exact this
end

end Go.Proofs.YtkkiglagdojnlaaGreatDoor

/- Small lemmas on worlds: a block that is known whole, kept by what is laid or called behind it; what a region that draws its order keeps. No program in sight. -/
namespace Go.Proofs.YtkkiglagdojnlaaGreatDoor

open Go.RowKit

/-- block B is just these cells, free to write. -/
def Blk (w : World) (B : Nat) (vs : Array Value) (T : TypeId) : Prop := w.heap[B]? = some (.cells vs T (0, 0))

theorem Blk.lt {w : World} {B : Nat} {vs : Array Value} {T : TypeId} (h : Blk w B vs T) : B < w.heap.size := by
  unfold Blk at h
  exact (Array.getElem?_eq_some_iff.1 h).1
theorem Blk.new (w : World) (vs : Array Value) (T : TypeId) : Blk (w.alloc (.cells vs T)) w.heap.size vs T := by
  show (w.heap.push _)[w.heap.size]? = _
  simp
theorem Blk.old {w : World} {B : Nat} {vs : Array Value} {T : TypeId} (h : Blk w B vs T) (o : Obj) : Blk (w.alloc o) B vs T :=
  (Below.heap_alloc w o B h.lt).trans h
theorem Blk.keep {w w' : World} {B : Nat} {vs : Array Value} {T : TypeId} (h : Blk w B vs T) (hb : Below w.heap.size w w') : Blk w' B vs T :=
  (hb.block B h.lt).trans h
theorem Blk.keepB {w w' : World} {B N : Nat} {vs : Array Value} {T : TypeId} (h : Blk w B vs T) (hb : Below N w w') (hN : B < N) : Blk w' B vs T :=
  (hb.block B hN).trans h
theorem Blk.drew {w : World} {B : Nat} {vs : Array Value} {T : TypeId} (h : Blk w B vs T) : Blk w.drew B vs T := h
theorem Blk.cell {w : World} {B : Nat} {vs : Array Value} {T : TypeId} (h : Blk w B vs T) (i : Nat) : w.cell? ⟨B, i, none⟩ = vs[i]? := by
  unfold Blk at h
  simp [World.cell?, h]
theorem Blk.frozen {w : World} {B : Nat} {vs : Array Value} {T : TypeId} (h : Blk w B vs T) (i : Nat) : w.frozen? ⟨B, i, none⟩ = false := by
  unfold Blk at h
  simp [World.frozen?, h]
theorem Blk.facts {w : World} {B : Nat} {vs : Array Value} {T : TypeId} (h : Blk w B vs T) :
    (∀ i, w.cell? ⟨B, i, none⟩ = vs[i]?) ∧ (∀ i, w.frozen? ⟨B, i, none⟩ = false) ∧ B < w.heap.size := ⟨h.cell, h.frozen, h.lt⟩
theorem Blk.set {w : World} {B : Nat} {vs : Array Value} {T : TypeId} (h : Blk w B vs T) (i : Nat) (v : Value) : Blk (w.setCell ⟨B, i, none⟩ v) B (vs.setIfInBounds i v) T := by
  unfold Blk at h ⊢
  simp only [World.setCell, Array.getElem?_modify, if_true, h]
  simp
theorem Blk.setOther {w : World} {B : Nat} {vs : Array Value} {T : TypeId} (h : Blk w B vs T) (a : Addr) (v : Value) (hne : a.block ≠ B) : Blk (w.setCell a v) B vs T :=
  (Below.heap_setCell w a v B (fun e => hne e.symm)).trans h

theorem bnext {w W w2 : World} (h : Below w.heap.size w W) (h2 : Below W.heap.size W w2) : Below w.heap.size w w2 := h.trans (h2.mono h.size)
theorem balloc {w W : World} (h : Below w.heap.size w W) (o : Obj) : Below w.heap.size w (W.alloc o) := h.alloc h.size o

/-- What a region that draws its order keeps, from the world W where it begins. -/
theorem keepS_here (W : World) : (∀ b o, b < W.heap.size → W.drew.cell? ⟨b, o, none⟩ = W.cell? ⟨b, o, none⟩) ∧ Below W.heap.size W W.drew :=
  ⟨fun _ _ _ => rfl, (Below.refl _ _).drew⟩
theorem keepS_call {W p w4 : World} (h : (∀ b o, b < W.heap.size → p.cell? ⟨b, o, none⟩ = W.cell? ⟨b, o, none⟩) ∧ Below W.heap.size W p) (h2 : Below p.heap.size p w4) :
    (∀ b o, b < W.heap.size → w4.cell? ⟨b, o, none⟩ = W.cell? ⟨b, o, none⟩) ∧ Below W.heap.size W w4 :=
  ⟨fun b o hb => (h2.cell (p := ⟨b, o, none⟩) (Nat.lt_of_lt_of_le hb h.2.size)).trans (h.1 b o hb), bnext h.2 h2⟩
theorem keepS_alloc {W p : World} (h : (∀ b o, b < W.heap.size → p.cell? ⟨b, o, none⟩ = W.cell? ⟨b, o, none⟩) ∧ Below W.heap.size W p) (o : Obj) :
    (∀ b i, b < W.heap.size → (p.alloc o).cell? ⟨b, i, none⟩ = W.cell? ⟨b, i, none⟩) ∧ Below W.heap.size W (p.alloc o) :=
  keepS_call h ((Below.refl _ _).alloc (Nat.le_refl _) _)
end Go.Proofs.YtkkiglagdojnlaaGreatDoor
