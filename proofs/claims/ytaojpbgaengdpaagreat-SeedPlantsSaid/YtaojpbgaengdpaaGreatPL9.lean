/- Texts of the proof, part 9. -/
import Derived.StillTail
import Derived.StillTactics
import Derived.OrdersHeld
import Derived.WalkKit
set_option linter.unusedVariables false
set_option linter.unusedSimpArgs false
/- A region that draws its order: first what only reads (the world is as it was), then calls, stores and moves of which the order is bound but for moves: the order of the text serves. No program in sight. -/
namespace Go.Proofs.YtaojpbgaengdpaaGreat

open Go

theorem then_panic {P : Program} {fn : Func} {R : Ending → World → Prop} {K : Act → World → Prop} : ∀ c d v a w, Exit.then K (bodyPost P fn R) (.panic c) (Act.put a d v) w → Exit.then K (bodyPost P fn R) (.panic c) a w :=
  fun c d v a w h => by
    have h' : (Act.put a d v).defers = [] ∧ R (.panicked c) w := h
    exact show a.defers = [] ∧ R (.panicked c) w from ⟨by rw [← h'.1]; cases d <;> rfl, h'.2⟩
/-- an operation that looks at no memory. -/
def pureOp : Op → Bool
  | .move _ => true
  | .assign _ => true
  | .extract _ _ => true
  | _ => false
section

variable {P : Program} {ops : Array Oper} {md : Region.Mode} {Q : Exit → Act → World → Prop}

theorem pure_yields {o : Oper} (hp : pureOp o.op = true) {w : World} {K : Act → World → Prop} {a : Act} (h : o.wp P a w K Q ∨ (o.asks P a w ∧ LetsOut Q)) :
    ∃ v, (∀ w', (execOp a.eval o).run P w' = .ok (.value v) w') ∧ K (a.put o.dst v) w := by
  have key : ∀ v, (∀ w', (execOp a.eval o).run P w' = .ok (.value v) w') → ((execOp a.eval o).runT P w #[]).2 = #[] → ∃ v, (∀ w', (execOp a.eval o).run P w' = .ok (.value v) w') ∧ K (a.put o.dst v) w := by
    intro v hr ht
    refine ⟨v, hr, ?_⟩
    rcases h with h | h
    · unfold Oper.wp at h; rw [hr] at h; exact h
    · have := h.1.1; rw [ht] at this; simp at this
  have bad : (∀ w', ∃ m, (execOp a.eval o).run P w' = .halt (.stuck m) w') → ((execOp a.eval o).runT P w #[]).2 = #[] → ∃ v, (∀ w', (execOp a.eval o).run P w' = .ok (.value v) w') ∧ K (a.put o.dst v) w := by
    intro hr ht
    rcases h with h | h
    · obtain ⟨m, hm⟩ := hr w
      unfold Oper.wp at h; rw [hm] at h; exact h.elim
    · have := h.1.1; rw [ht] at this; simp at this
  unfold pureOp at hp
  split at hp
  · rename_i x hx
    exact key (a.eval x) (fun w' => by simp [execOp, hx]) (by simp only [execOp, hx]; rfl)
  · rename_i x hx
    exact key (a.eval x) (fun w' => by simp [execOp, hx]) (by simp only [execOp, hx]; rfl)
  · rename_i t ix hx
    cases ht : a.eval t with
    | tuple vs =>
      cases hv : vs[ix]? with
      | some v => exact key v (fun w' => by simp [execOp, hx, Instr.extract, ht, hv]) (by simp only [execOp, hx, Instr.extract, ht, hv]; rfl)
      | none => exact bad (fun w' => ⟨_, by simp only [execOp, hx, Instr.extract, ht, hv]; rfl⟩) (by simp only [execOp, hx, Instr.extract, ht, hv]; rfl)
    | _ => exact bad (fun w' => ⟨_, by simp only [execOp, hx, Instr.extract, ht]; rfl⟩) (by simp only [execOp, hx, Instr.extract, ht]; rfl)
  · cases hp

/-- from number k on the operations come up in the text's order, but for such as look at no memory. -/
def lexB2 (md : Region.Mode) (ops : Array Oper) : Nat → Nat → Array Bool → Bool
  | 0, _, listed => (Region.ready md ops listed).isEmpty
  | g + 1, k, listed =>
    (decide (Region.ready md ops listed = [k]) || (match ops[k]? with
      | some o => pureOp o.op && o.guard.isNone && (Region.ready md ops listed).contains k && Region.free md ops listed k
      | none => false)) && lexB2 md ops g (k + 1) (listed.setIfInBounds k true)
theorem wanted_of {o : Oper} {T : Nat → Option Bool} (h : o.guard.isNone = true) : Region.wanted o T = true := by
  simp [Region.wanted, Option.isNone_iff_eq_none.1 h]
theorem anyH_lex2 (hsel : Region.noSelect ops = true) (hQ : ∀ c d v a w, Q (.panic c) (Act.put a d v) w → Q (.panic c) a w) : ∀ (l : List Oper) (k : Nat) (listed : Array Bool) (a : Act) (w : World), (∀ j, l[j]? = ops[k + j]?) →
    lexB2 md ops l.length k listed = true → wpList P ops Q l a w → wpAnyH P md ops Q (fun _ => True) l.length listed a w
  | [], _, _, _, _, _, hB, h => ⟨by simpa [lexB2] using hB, h⟩
  | o :: l, k, listed, a, w, hl, hB, h => by
    have h0 : ops[k]? = some o := by simpa using (hl 0).symm
    have hl' : ∀ j, l[j]? = ops[k + 1 + j]? := fun j => by have := hl (j + 1); simpa [Nat.add_assoc, Nat.add_comm 1 j] using this
    simp only [List.length_cons, lexB2, Bool.and_eq_true, Bool.or_eq_true, decide_eq_true_eq, h0] at hB
    rcases hB.1 with h1 | ⟨⟨⟨hp, hg⟩, hr⟩, hf⟩
    · refine ⟨fun h2 => (by rw [h2] at h1; cases h1), fun i hi => ?_⟩
      rw [h1] at hi
      have hik : i = k := by simpa using hi
      subst hik
      have hw : wpOp P ops Q i (wpList P ops Q l) a w := by unfold wpOp; simp only [h0]; exact h
      exact wpOp_mono (fun a' w' h' => ⟨trivial, anyH_lex2 hsel hQ l (i + 1) _ a' w' hl' hB.2 h'⟩) hw
    · have hw : Region.wanted o (yielded ops a.tmps) = true := wanted_of hg
      unfold wpList at h
      rw [if_pos hw] at h
      obtain ⟨v, hy, hK⟩ := pure_yields hp h
      exact wpAnyH_take h0 hsel hf hr (fun c a w hq => hQ c _ _ a w hq) (.inl ⟨hw, fun w' _ => hy w'⟩) trivial (anyH_lex2 hsel hQ l (k + 1) _ _ w hl' hB.2 hK)

/-- each operation behind number n waits for one from n on. -/
def chainB2 (md : Region.Mode) (ops : Array Oper) (n : Nat) : Bool :=
  (List.range ops.size).all fun t => decide (t ≤ n) || (List.range t).any fun j => decide (n ≤ j) && Region.waitsFor md ops t j
theorem tail_waits2 {n : Nat} {listed : Array Bool} (hs : Region.sinkB md ops n = true) (hc : chainB2 md ops n = true) (hn : n < ops.size) (inv : HeadInv md ops n listed) {i : Nat} (hi : i < n) (hun : listed.getD i true = false) :
    ∀ t, n ≤ t → t ∉ Region.ready md ops listed := by
  have low : ∀ (d i : Nat), n - i = d → i < n → listed.getD i true = false → n ∉ Region.ready md ops listed := by
    intro d
    induction d using Nat.strongRecOn with
    | _ d ih =>
      intro i hd hi hun hr
      obtain ⟨-, on, hon, hall⟩ := mem_ready.1 hr
      obtain ⟨j, hj, hj2⟩ := List.any_eq_true.1 (List.all_eq_true.1 hs i (List.mem_range.2 hi))
      simp only [Bool.and_eq_true, decide_eq_true_eq] at hj2
      obtain ⟨oj, hoj, e, he, hb, hei⟩ := Region.waitsFor_spec hj2.2
      have hjn : j ≤ n := by have := List.mem_range.1 hj; omega
      have hno : listed.getD i false = false := getD_both hun
      rcases Nat.lt_or_ge j n with hlt | hge
      · cases hl : listed.getD j false with
        | true =>
          have := inv.closed j oj hoj hl e he hb
          rw [hei, hno] at this
          cases this
        | false => exact ih (n - j) (by omega) j rfl hlt (getD_in (by rw [inv.size]; omega) hl) hr
      · obtain rfl : j = n := by omega
        obtain rfl : oj = on := Option.some.inj (hoj.symm.trans hon)
        have := hall e he hb
        rw [hei, hno] at this
        cases this
  intro t ht hr
  rcases Nat.eq_or_lt_of_le ht with rfl | hlt
  · exact low _ i rfl hi hun hr
  · obtain ⟨-, ot, hot, hall⟩ := mem_ready.1 hr
    have htl : t < ops.size := (Array.getElem?_eq_some_iff.1 hot).1
    have h1 := List.all_eq_true.1 hc t (List.mem_range.2 htl)
    simp only [Bool.or_eq_true, decide_eq_true_eq] at h1
    rcases h1 with h1 | h1
    · omega
    · obtain ⟨j, hj, hj2⟩ := List.any_eq_true.1 h1
      simp only [Bool.and_eq_true, decide_eq_true_eq] at hj2
      obtain ⟨o', ho', e, he, hb, hej⟩ := Region.waitsFor_spec hj2.2
      obtain rfl : o' = ot := Option.some.inj (ho'.symm.trans hot)
      have := hall e he hb
      rw [hej, getD_both (inv.tail j hj2.1 (by have := List.mem_range.1 hj; omega))] at this
      cases this

variable {w : World}

theorem anyL_first2 {n i : Nat} {oi : Oper} {v : Value} {L : Array Bool → Act → Prop} (hi : ops[i]? = some oi) (hsel : Region.noSelect ops = true)
    (hs : Region.sinkB md ops n = true) (hc : chainB2 md ops n = true) (hn : n < ops.size) (hin : i < n) (hdone : ∀ listed a, L listed a → ∀ j ∈ Region.ready md ops listed, n ≤ j) :
    ∀ (f : Nat) (listed : Array Bool) (a : Act), HeadInv md ops n listed →
      (∀ j oj, ops[j]? = some oj → j ≠ i → listed.getD j true = false → (∀ e ∈ oj.after, Region.binds md e = true → e.on ≠ i) → oi.apart ops oj = true) →
      i ∈ Region.ready md ops listed → YieldsAt P ops w oi v a → wpAnyL P md ops w n L f (listed.setIfInBounds i true) (a.put oi.dst v) → wpAnyL P md ops w n L (f + 1) listed a
  | f, listed, a, inv, hfree, hr, hy, H => by
    have hun := (mem_ready.1 hr).1
    have hlow : ∀ j ∈ Region.ready md ops listed, j < n := fun j hj => Nat.lt_of_not_le fun h => tail_waits2 hs hc hn inv hin hun j h hj
    refine ⟨List.ne_nil_of_mem hr, fun j hj => ⟨hlow j hj, ?_⟩⟩
    by_cases hji : j = i
    · subst hji; exact hy.stOp hi H
    · cases f with
      | zero => exact absurd (hdone _ _ H j (ready_mono hj hji)) (Nat.not_le_of_lt (hlow j hj))
      | succ f =>
        have h1 := (H.2 j (ready_mono hj hji)).2
        obtain ⟨hjun, oj, hoj, hall⟩ := mem_ready.1 hj
        have hnot : ∀ e ∈ oj.after, Region.binds md e = true → e.on ≠ i := fun e he hb heq => by
          have h2 := hall e he hb
          rw [heq, getD_both hun] at h2
          cases h2
        refine stOp_mono (fun a' h3 => ?_) (stOp_put hoj (hfree j oj hoj hji hjun hnot) (fun cs b => Region.noSelect_spec hsel i oi cs b hi) (fun cs b => Region.noSelect_spec hsel j oj cs b hoj) hy h1)
        refine anyL_first2 hi hsel hs hc hn hin hdone f (listed.setIfInBounds j true) a' (inv.set hj (hlow j hj)) (fun k ok hk hki hku hno => hfree k ok hk hki ?_ hno) (ready_mono hr (Ne.symm hji)) h3.1 ?_
        · by_cases hjk : j = k
          · subst hjk; exact hjun
          · rw [getD_set_ne true hjk] at hku; exact hku
        · rw [Array.setIfInBounds_comm _ _ hji]; exact h3.2
def headB2 (md : Region.Mode) (ops : Array Oper) (g : Nat) : Nat → Nat → Array Bool → Bool
  | 0, k, listed => lexB2 md ops g k listed && (Region.ready md ops listed).all fun j => decide (k ≤ j)
  | f + 1, k, listed => (Region.ready md ops listed).contains k && Region.free md ops listed k && headB2 md ops g f (k + 1) (listed.setIfInBounds k true)
theorem anyL_lex2 {n g : Nat} {Lq : Act → Prop} (hsel : Region.noSelect ops = true) (hs : Region.sinkB md ops n = true) (hc : chainB2 md ops n = true) (hn : n < ops.size) :
    ∀ (l : List Oper) (k : Nat) (listed : Array Bool) (a : Act), (∀ j, j < l.length → l[j]? = ops[k + j]?) → k + l.length = n → HeadInv md ops n listed → headB2 md ops g l.length k listed = true → wpStill P ops w Lq l a →
    wpAnyL P md ops w n (fun listed' a' => (lexB2 md ops g n listed' = true ∧ ∀ j ∈ Region.ready md ops listed', n ≤ j) ∧ Lq a') l.length listed a
  | [], k, listed, a, _, hk, _, hB, h => by
    obtain rfl : k = n := by simpa using hk
    simp only [List.length_nil, headB2, Bool.and_eq_true, List.all_eq_true, decide_eq_true_eq] at hB
    exact ⟨hB, h⟩
  | o :: l, k, listed, a, hl, hk, inv, hB, h => by
    have h0 : ops[k]? = some o := by simpa using (hl 0 (by simp)).symm
    simp only [List.length_cons, headB2, Bool.and_eq_true] at hB
    obtain ⟨⟨hr, hf⟩, hB'⟩ := hB
    have hkn : k < n := by simp only [List.length_cons] at hk; omega
    have hr' : k ∈ Region.ready md ops listed := by simpa using hr
    have hst : stOp P ops w k (wpStill P ops w Lq l) a := by unfold stOp; simp only [h0]; exact h
    obtain ⟨v, hy, hK⟩ := yieldsAt_of_stOp h0 hst
    exact anyL_first2 h0 hsel hs hc hn hkn (fun _ _ hL => hL.1.2) l.length listed a inv (Region.free_spec h0 hf) hr' hy
      (anyL_lex2 hsel hs hc hn l (k + 1) _ _ (fun j hj => by have := hl (j + 1) (by simp; omega); simpa [Nat.add_assoc, Nat.add_comm 1 j] using this) (by simp only [List.length_cons] at hk; omega) (inv.set hr' hkn) hB' hK)
def lexRegionB (ops : Array Oper) (n : Nat) : Bool :=
  Region.noSelect ops && decide (n < ops.size) && Region.sinkB .any ops n && chainB2 .any ops n && headB2 .any ops (ops.size - n) n 0 (Array.replicate ops.size false)
/-- THE LAW: the first n operations only read; the rest goes in the text's order. -/
theorem wp_region_lex {id : Nat} {a : Act} {l : List Oper} (n : Nat) (hm : P.follows .mixedOrders = true) (hB : lexRegionB l.toArray n = true) (hQ : ∀ c d v a w, Q (.panic c) (Act.put a d v) w → Q (.panic c) a w)
    (h : wpStill P l.toArray w.drew (fun a' => wpList P l.toArray Q (l.drop n) a' w.drew) (l.take n) a) : (Code.region id l.toArray true).wp P Q a w := by
  simp only [lexRegionB, Bool.and_eq_true, decide_eq_true_eq] at hB
  obtain ⟨⟨⟨⟨hsel, hn⟩, hs⟩, hc⟩, hlex⟩ := hB
  have hn' : n < l.length := by simpa using hn
  have htl : (l.take n).length = n := by simp; omega
  have hdl : (l.drop n).length = l.toArray.size - n := by simp
  have inv0 : HeadInv .any l.toArray n (Array.replicate l.toArray.size false) :=
    ⟨by simp, fun j oj _ hl => (by rw [getD_replicate_false] at hl; cases hl), fun t _ ht => getD_in (by simpa using ht) (getD_replicate_false _ _)⟩
  have H := anyL_lex2 (md := .any) (g := l.toArray.size - n) hsel hs hc hn (l.take n) 0 _ a (fun j hj => by
    have hj' : j < n := by rw [htl] at hj; exact hj
    simp [hj']) (by simpa using htl) inv0 (by rw [htl]; exact hlex) h
  refine wp_region_any hm ?_
  have := wpAny_of_head (Q' := Q) (g := l.toArray.size - n) (fun listed a' hL => by
    have := wpAny_of_held _ _ _ _ (anyH_lex2 (md := .any) hsel hQ (l.drop n) n listed a' w.drew (fun j => by simp [List.getElem?_drop]) (by rw [hdl]; exact hL.1.1) hL.2)
    rwa [hdl] at this) _ _ _ H
  rw [htl, show n + (l.toArray.size - n) = l.toArray.size by omega] at this
  exact this
end

end Go.Proofs.YtaojpbgaengdpaaGreat
