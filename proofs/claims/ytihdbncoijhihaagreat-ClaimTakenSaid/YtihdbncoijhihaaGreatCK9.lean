/- Texts of the proof, part 9. -/
import Derived.StillTail
import Derived.StillTactics
import Derived.OrdersHeld
import Derived.WalkKit
import Derived.Test.YtihdbncoijhihaaGreatCK8
set_option linter.unusedVariables false
set_option linter.unusedSimpArgs false
/- A region that draws its order: first what only reads (the world is as it was), then calls, stores and moves of which the order is bound but for moves: the order of the text serves. No program in sight. -/
namespace Go.Proofs.YtihdbncoijhihaaGreat

open Go

theorem then_panic {P : Program} {fn : Func} {R : Ending → World → Prop} {K : Act → World → Prop} : ∀ c d v a w, Exit.then K (bodyPost P fn R) (.panic c) (Act.put a d v) w → Exit.then K (bodyPost P fn R) (.panic c) a w :=
  fun c d v a w h => by
    have h' : (Act.put a d v).defers = [] ∧ R (.panicked c) w := h
    exact show a.defers = [] ∧ R (.panicked c) w from ⟨by rw [← h'.1]; cases d <;> rfl, h'.2⟩
/-- an operation that looks at no memory. -/
def pureOp : Op → Bool
  | .move _ => true
  | .assign _ => true
  | .extract _ _ => true
  | _ => false
section

variable {P : Program} {ops : Array Oper} {md : Region.Mode} {Q : Exit → Act → World → Prop}

theorem pure_yields {o : Oper} (hp : pureOp o.op = true) {w : World} {K : Act → World → Prop} {a : Act} (h : o.wp P a w K Q ∨ (o.asks P a w ∧ LetsOut Q)) :
    ∃ v, (∀ w', (execOp a.eval o).run P w' = .ok (.value v) w') ∧ K (a.put o.dst v) w := by
  have key : ∀ v, (∀ w', (execOp a.eval o).run P w' = .ok (.value v) w') → ((execOp a.eval o).runT P w #[]).2 = #[] → ∃ v, (∀ w', (execOp a.eval o).run P w' = .ok (.value v) w') ∧ K (a.put o.dst v) w := by
    intro v hr ht
    refine ⟨v, hr, ?_⟩
    rcases h with h | h
    · unfold Oper.wp at h; rw [hr] at h; exact h
    · have := h.1.1; rw [ht] at this; simp at this
  have bad : (∀ w', ∃ m, (execOp a.eval o).run P w' = .halt (.stuck m) w') → ((execOp a.eval o).runT P w #[]).2 = #[] → ∃ v, (∀ w', (execOp a.eval o).run P w' = .ok (.value v) w') ∧ K (a.put o.dst v) w := by
    intro hr ht
    rcases h with h | h
    · obtain ⟨m, hm⟩ := hr w
      unfold Oper.wp at h; rw [hm] at h; exact h.elim
    · have := h.1.1; rw [ht] at this; simp at this
  unfold pureOp at hp
  split at hp
  · rename_i x hx
    exact key (a.eval x) (fun w' => by simp [execOp, hx]) (by simp only [execOp, hx]; rfl)
  · rename_i x hx
    exact key (a.eval x) (fun w' => by simp [execOp, hx]) (by simp only [execOp, hx]; rfl)
  · rename_i t ix hx
    cases ht : a.eval t with
    | tuple vs =>
      cases hv : vs[ix]? with
      | some v => exact key v (fun w' => by simp [execOp, hx, Instr.extract, ht, hv]) (by simp only [execOp, hx, Instr.extract, ht, hv]; rfl)
      | none => exact bad (fun w' => ⟨_, by simp only [execOp, hx, Instr.extract, ht, hv]; rfl⟩) (by simp only [execOp, hx, Instr.extract, ht, hv]; rfl)
    | _ => exact bad (fun w' => ⟨_, by simp only [execOp, hx, Instr.extract, ht]; rfl⟩) (by simp only [execOp, hx, Instr.extract, ht]; rfl)
  · cases hp

/-- from number k on the operations come up in the text's order, but for such as look at no memory. -/
def lexB2 (md : Region.Mode) (ops : Array Oper) : Nat → Nat → Array Bool → Bool
  | 0, _, listed => (Region.ready md ops listed).isEmpty
  | g + 1, k, listed =>
    (decide (Region.ready md ops listed = [k]) || (match ops[k]? with
      | some o => pureOp o.op && o.guard.isNone && (Region.ready md ops listed).contains k && Region.free md ops listed k
      | none => false)) && lexB2 md ops g (k + 1) (listed.setIfInBounds k true)
theorem wanted_of {o : Oper} {T : Nat → Option Bool} (h : o.guard.isNone = true) : Region.wanted o T = true := by
  simp [Region.wanted, Option.isNone_iff_eq_none.1 h]
theorem anyH_lex2 (hsel : Region.noSelect ops = true) (hQ : ∀ c d v a w, Q (.panic c) (Act.put a d v) w → Q (.panic c) a w) : ∀ (l : List Oper) (k : Nat) (listed : Array Bool) (a : Act) (w : World), (∀ j, l[j]? = ops[k + j]?) →
    lexB2 md ops l.length k listed = true → wpList P ops Q l a w → wpAnyH P md ops Q (fun _ => True) l.length listed a w
  | [], _, _, _, _, _, hB, h => ⟨by simpa [lexB2] using hB, h⟩
  | o :: l, k, listed, a, w, hl, hB, h => by
    have h0 : ops[k]? = some o := by simpa using (hl 0).symm
    have hl' : ∀ j, l[j]? = ops[k + 1 + j]? := fun j => by have := hl (j + 1); simpa [Nat.add_assoc, Nat.add_comm 1 j] using this
    simp only [List.length_cons, lexB2, Bool.and_eq_true, Bool.or_eq_true, decide_eq_true_eq, h0] at hB
    rcases hB.1 with h1 | ⟨⟨⟨hp, hg⟩, hr⟩, hf⟩
    · refine ⟨fun h2 => (by rw [h2] at h1; cases h1), fun i hi => ?_⟩
      rw [h1] at hi
      have hik : i = k := by simpa using hi
      subst hik
      have hw : wpOp P ops Q i (wpList P ops Q l) a w := by unfold wpOp; simp only [h0]; exact h
      exact wpOp_mono (fun a' w' h' => ⟨trivial, anyH_lex2 hsel hQ l (i + 1) _ a' w' hl' hB.2 h'⟩) hw
    · have hw : Region.wanted o (yielded ops a.tmps) = true := wanted_of hg
      unfold wpList at h
      rw [if_pos hw] at h
      obtain ⟨v, hy, hK⟩ := pure_yields hp h
      exact wpAnyH_take h0 hsel hf hr (fun c a w hq => hQ c _ _ a w hq) (.inl ⟨hw, fun w' _ => hy w'⟩) trivial (anyH_lex2 hsel hQ l (k + 1) _ _ w hl' hB.2 hK)

/-- each operation behind number n waits for one from n on. -/
def chainB2 (md : Region.Mode) (ops : Array Oper) (n : Nat) : Bool :=
  (List.range ops.size).all fun t => decide (t ≤ n) || (List.range t).any fun j => decide (n ≤ j) && Region.waitsFor md ops t j
theorem tail_waits2 {n : Nat} {listed : Array Bool} (hs : Region.sinkB md ops n = true) (hc : chainB2 md ops n = true) (hn : n < ops.size) (inv : HeadInv md ops n listed) {i : Nat} (hi : i < n) (hun : listed.getD i true = false) :
    ∀ t, n ≤ t → t ∉ Region.ready md ops listed := by
  have low : ∀ (d i : Nat), n - i = d → i < n → listed.getD i true = false → n ∉ Region.ready md ops listed := by
    intro d
    induction d using Nat.strongRecOn with
    | _ d ih =>
      intro i hd hi hun hr
      obtain ⟨-, on, hon, hall⟩ := mem_ready.1 hr
      obtain ⟨j, hj, hj2⟩ := List.any_eq_true.1 (List.all_eq_true.1 hs i (List.mem_range.2 hi))
      simp only [Bool.and_eq_true, decide_eq_true_eq] at hj2
      obtain ⟨oj, hoj, e, he, hb, hei⟩ := Region.waitsFor_spec hj2.2
      have hjn : j ≤ n := by have := List.mem_range.1 hj; omega
      have hno : listed.getD i false = false := getD_both hun
      rcases Nat.lt_or_ge j n with hlt | hge
      · cases hl : listed.getD j false with
        | true =>
          have := inv.closed j oj hoj hl e he hb
          rw [hei, hno] at this
          cases this
        | false => exact ih (n - j) (by omega) j rfl hlt (getD_in (by rw [inv.size]; omega) hl) hr
      · obtain rfl : j = n := by omega
        obtain rfl : oj = on := Option.some.inj (hoj.symm.trans hon)
        have := hall e he hb
        rw [hei, hno] at this
        cases this
  intro t ht hr
  rcases Nat.eq_or_lt_of_le ht with rfl | hlt
  · exact low _ i rfl hi hun hr
  · obtain ⟨-, ot, hot, hall⟩ := mem_ready.1 hr
    have htl : t < ops.size := (Array.getElem?_eq_some_iff.1 hot).1
    have h1 := List.all_eq_true.1 hc t (List.mem_range.2 htl)
    simp only [Bool.or_eq_true, decide_eq_true_eq] at h1
    rcases h1 with h1 | h1
    · omega
    · obtain ⟨j, hj, hj2⟩ := List.any_eq_true.1 h1
      simp only [Bool.and_eq_true, decide_eq_true_eq] at hj2
      obtain ⟨o', ho', e, he, hb, hej⟩ := Region.waitsFor_spec hj2.2
      obtain rfl : o' = ot := Option.some.inj (ho'.symm.trans hot)
      have := hall e he hb
      rw [hej, getD_both (inv.tail j hj2.1 (by have := List.mem_range.1 hj; omega))] at this
      cases this

variable {w : World}

theorem anyL_first2 {n i : Nat} {oi : Oper} {v : Value} {L : Array Bool → Act → Prop} (hi : ops[i]? = some oi) (hsel : Region.noSelect ops = true)
    (hs : Region.sinkB md ops n = true) (hc : chainB2 md ops n = true) (hn : n < ops.size) (hin : i < n) (hdone : ∀ listed a, L listed a → ∀ j ∈ Region.ready md ops listed, n ≤ j) :
    ∀ (f : Nat) (listed : Array Bool) (a : Act), HeadInv md ops n listed →
      (∀ j oj, ops[j]? = some oj → j ≠ i → listed.getD j true = false → (∀ e ∈ oj.after, Region.binds md e = true → e.on ≠ i) → oi.apart ops oj = true) →
      i ∈ Region.ready md ops listed → YieldsAt P ops w oi v a → wpAnyL P md ops w n L f (listed.setIfInBounds i true) (a.put oi.dst v) → wpAnyL P md ops w n L (f + 1) listed a
  | f, listed, a, inv, hfree, hr, hy, H => by
    have hun := (mem_ready.1 hr).1
    have hlow : ∀ j ∈ Region.ready md ops listed, j < n := fun j hj => Nat.lt_of_not_le fun h => tail_waits2 hs hc hn inv hin hun j h hj
    refine ⟨List.ne_nil_of_mem hr, fun j hj => ⟨hlow j hj, ?_⟩⟩
    by_cases hji : j = i
    · subst hji; exact hy.stOp hi H
    · cases f with
      | zero => exact absurd (hdone _ _ H j (ready_mono hj hji)) (Nat.not_le_of_lt (hlow j hj))
      | succ f =>
        have h1 := (H.2 j (ready_mono hj hji)).2
        obtain ⟨hjun, oj, hoj, hall⟩ := mem_ready.1 hj
        have hnot : ∀ e ∈ oj.after, Region.binds md e = true → e.on ≠ i := fun e he hb heq => by
          have h2 := hall e he hb
          rw [heq, getD_both hun] at h2
          cases h2
        refine stOp_mono (fun a' h3 => ?_) (stOp_put hoj (hfree j oj hoj hji hjun hnot) (fun cs b => Region.noSelect_spec hsel i oi cs b hi) (fun cs b => Region.noSelect_spec hsel j oj cs b hoj) hy h1)
        refine anyL_first2 hi hsel hs hc hn hin hdone f (listed.setIfInBounds j true) a' (inv.set hj (hlow j hj)) (fun k ok hk hki hku hno => hfree k ok hk hki ?_ hno) (ready_mono hr (Ne.symm hji)) h3.1 ?_
        · by_cases hjk : j = k
          · subst hjk; exact hjun
          · rw [getD_set_ne true hjk] at hku; exact hku
        · rw [Array.setIfInBounds_comm _ _ hji]; exact h3.2
def headB2 (md : Region.Mode) (ops : Array Oper) (g : Nat) : Nat → Nat → Array Bool → Bool
  | 0, k, listed => lexB2 md ops g k listed && (Region.ready md ops listed).all fun j => decide (k ≤ j)
  | f + 1, k, listed => (Region.ready md ops listed).contains k && Region.free md ops listed k && headB2 md ops g f (k + 1) (listed.setIfInBounds k true)
theorem anyL_lex2 {n g : Nat} {Lq : Act → Prop} (hsel : Region.noSelect ops = true) (hs : Region.sinkB md ops n = true) (hc : chainB2 md ops n = true) (hn : n < ops.size) :
    ∀ (l : List Oper) (k : Nat) (listed : Array Bool) (a : Act), (∀ j, j < l.length → l[j]? = ops[k + j]?) → k + l.length = n → HeadInv md ops n listed → headB2 md ops g l.length k listed = true → wpStill P ops w Lq l a →
    wpAnyL P md ops w n (fun listed' a' => (lexB2 md ops g n listed' = true ∧ ∀ j ∈ Region.ready md ops listed', n ≤ j) ∧ Lq a') l.length listed a
  | [], k, listed, a, _, hk, _, hB, h => by
    obtain rfl : k = n := by simpa using hk
    simp only [List.length_nil, headB2, Bool.and_eq_true, List.all_eq_true, decide_eq_true_eq] at hB
    exact ⟨hB, h⟩
  | o :: l, k, listed, a, hl, hk, inv, hB, h => by
    have h0 : ops[k]? = some o := by simpa using (hl 0 (by simp)).symm
    simp only [List.length_cons, headB2, Bool.and_eq_true] at hB
    obtain ⟨⟨hr, hf⟩, hB'⟩ := hB
    have hkn : k < n := by simp only [List.length_cons] at hk; omega
    have hr' : k ∈ Region.ready md ops listed := by simpa using hr
    have hst : stOp P ops w k (wpStill P ops w Lq l) a := by unfold stOp; simp only [h0]; exact h
    obtain ⟨v, hy, hK⟩ := yieldsAt_of_stOp h0 hst
    exact anyL_first2 h0 hsel hs hc hn hkn (fun _ _ hL => hL.1.2) l.length listed a inv (Region.free_spec h0 hf) hr' hy
      (anyL_lex2 hsel hs hc hn l (k + 1) _ _ (fun j hj => by have := hl (j + 1) (by simp; omega); simpa [Nat.add_assoc, Nat.add_comm 1 j] using this) (by simp only [List.length_cons] at hk; omega) (inv.set hr' hkn) hB' hK)
def lexRegionB (ops : Array Oper) (n : Nat) : Bool :=
  Region.noSelect ops && decide (n < ops.size) && Region.sinkB .any ops n && chainB2 .any ops n && headB2 .any ops (ops.size - n) n 0 (Array.replicate ops.size false)
/-- THE LAW: the first n operations only read; the rest goes in the text's order. -/
theorem wp_region_lex {id : Nat} {a : Act} {l : List Oper} (n : Nat) (hm : P.follows .mixedOrders = true) (hB : lexRegionB l.toArray n = true) (hQ : ∀ c d v a w, Q (.panic c) (Act.put a d v) w → Q (.panic c) a w)
    (h : wpStill P l.toArray w.drew (fun a' => wpList P l.toArray Q (l.drop n) a' w.drew) (l.take n) a) : (Code.region id l.toArray true).wp P Q a w := by
  simp only [lexRegionB, Bool.and_eq_true, decide_eq_true_eq] at hB
  obtain ⟨⟨⟨⟨hsel, hn⟩, hs⟩, hc⟩, hlex⟩ := hB
  have hn' : n < l.length := by simpa using hn
  have htl : (l.take n).length = n := by simp; omega
  have hdl : (l.drop n).length = l.toArray.size - n := by simp
  have inv0 : HeadInv .any l.toArray n (Array.replicate l.toArray.size false) :=
    ⟨by simp, fun j oj _ hl => (by rw [getD_replicate_false] at hl; cases hl), fun t _ ht => getD_in (by simpa using ht) (getD_replicate_false _ _)⟩
  have H := anyL_lex2 (md := .any) (g := l.toArray.size - n) hsel hs hc hn (l.take n) 0 _ a (fun j hj => by
    have hj' : j < n := by rw [htl] at hj; exact hj
    simp [hj']) (by simpa using htl) inv0 (by rw [htl]; exact hlex) h
  refine wp_region_any hm ?_
  have := wpAny_of_head (Q' := Q) (g := l.toArray.size - n) (fun listed a' hL => by
    have := wpAny_of_held _ _ _ _ (anyH_lex2 (md := .any) hsel hQ (l.drop n) n listed a' w.drew (fun j => by simp [List.getElem?_drop]) (by rw [hdl]; exact hL.1.1) hL.2)
    rwa [hdl] at this) _ _ _ H
  rw [htl, show n + (l.toArray.size - n) = l.toArray.size by omega] at this
  exact this
end

end Go.Proofs.YtihdbncoijhihaaGreat

/- Mounts (layer 14): Over, Above; a node's look-up in a world. -/
namespace Go.Proofs.YtihdbncoijhihaaGreat

open Go.RowKit

section

variable {w w' : World} {pw : Nat} {R : Rp} {S : Fs}

theorem G_of (h : WdAt w pw R S) {k : Int} {a : An} (hg : S.get k = some a) : ∃ g ∈ R.G, g.a = a ∧ findNd (R.G.map Gn.e) k = some g.nd ∧ EntsAt w g.ea g.el g.ec a.ents := by
  rw [get_G h] at hg
  cases hf : R.G.find? (fun g => g.a.no == k) with
  | none => rw [hf] at hg; cases hg
  | some g =>
    rw [hf] at hg
    simp only [Option.map_some, Option.some.injEq] at hg
    have hm := List.mem_of_find?_eq_some hf
    refine ⟨g, hm, hg, ?_, ?_⟩
    · rw [findNd_G, hf]; rfl
    · rw [← hg]; exact h.ents g hm
theorem G_no (h : WdAt w pw R S) {k : Int} (hg : S.get k = none) : findNd (R.G.map Gn.e) k = none := by
  rw [get_G h] at hg
  rw [findNd_G]
  cases hf : R.G.find? (fun g => g.a.no == k) with
  | none => rfl
  | some g => rw [hf] at hg; cases hg
/-- Get, where the node is there. -/
theorem wget_yes (h : WdAt w pw R S) {k : Int} {a : An} (hg : S.get k = some a) : ∃ ea el ec, EntsAt w ea el ec a.ents ∧
    Calls Tryz.prog 13 #[.pointer (some ⟨R.pt, 0, none⟩), .int .i64 k] w fun e w' => e = .returned (.tuple #[a.v ea el ec, .bool true]) ∧ Below w.heap.size w w' := by
  obtain ⟨g, -, rfl, hf, he⟩ := G_of h hg
  exact ⟨g.ea, g.el, g.ec, he, get_yes g.nd k w R.pt R.pm S.last _ R.clk h.tab hf⟩
theorem wget_no (h : WdAt w pw R S) {k : Int} (hg : S.get k = none) :
    Calls Tryz.prog 13 #[.pointer (some ⟨R.pt, 0, none⟩), .int .i64 k] w fun e w' => e = .returned (.tuple #[an0.v none 0 0, .bool false]) ∧ Below w.heap.size w w' :=
  get_no k w R.pt R.pm S.last _ R.clk h.tab (G_no h hg)

theorem over_at (S : Fs) (k : Int) (hk : 0 < k) (i : Nat) (hi : i < S.ds.length) (h1 : ∀ j (hj : j < S.ds.length), j < i → S.ds[j].over ≠ k) (h2 : S.ds[i].over = k) : S.over k = S.ds[i].root := by
  unfold Fs.over
  rw [if_pos hk]
  have : S.ds.find? (fun d => d.over == k) = some S.ds[i] := by
    rw [List.find?_eq_some_iff_getElem]
    exact ⟨by simpa using h2, i, hi, rfl, fun j hj => by simpa using h1 j (by omega) hj⟩
  rw [this]
theorem over_none (S : Fs) (k : Int) (h1 : ∀ j (hj : j < S.ds.length), S.ds[j].over ≠ k) : S.over k = k := by
  unfold Fs.over
  split
  · have : S.ds.find? (fun d => d.over == k) = none := by
      rw [List.find?_eq_none]
      intro d hd
      obtain ⟨j, hj, rfl⟩ := List.mem_iff_getElem.1 hd
      simpa using h1 j hj
    rw [this]
  · rfl
set_option maxRecDepth 100000 in
set_option maxHeartbeats 1000000 in
theorem wover_any (h : WdAt w pw R S) (hd : 0 < S.ds.length) (no : Int) :
    Calls Tryz.prog 124 #[.pointer (some ⟨pw, 0, none⟩), .int .i64 no] w fun e w' => e = .returned (.int .i64 (S.over no)) ∧ Below w.heap.size w w' := by
  have HN := Lib.hid (wnone_any h hd)
  obtain ⟨g, cap, hv, hle, h63, hg, hc, -, -⟩ := h.devF hd
  obtain ⟨pc, -, -⟩ := h.blk.facts
  rw [hv] at pc
  have HC := Lib.hid hc
  clear h hv hc
  by_cases h0 : 0 < no
  · have HO1 := Lib.hid (over_at S no h0)
    have HO2 := Lib.hid (over_none S no)
    obtain ⟨n, hn⟩ : ∃ n, S.ds.length = n := ⟨_, rfl⟩
    have HNn := Lib.hid hn
    rw [hn] at pc hle hd
    generalize S.over no = out at HO1 HO2 ⊢
    clear hn
    go_enter Tryz.func124, Tryz.ntmps124
    go_wp2_with fail
    refine HN.out.mono ?_
    rintro e w1 ⟨rfl, rfl⟩
    go_wp2_with fail
    go_loopw [19] (fun i wr => ∃ k : Nat, k ≤ n ∧ i = .int .i64 k ∧ (∀ j (hj : j < S.ds.length), j < k → S.ds[j].over ≠ no) ∧ Below w.heap.size w wr) (fun i _ => n - (intOf i).toNat)
    case atStart => exact ⟨0, Nat.zero_le _, rfl, fun j _ h => absurd h (Nat.not_lt_zero _), Below.refl _ _⟩
    case round =>
      obtain ⟨k, hk, rfl, hno, hB⟩ := hrel
      have HNo := Lib.hid hno
      have HB := Lib.hid hB
      clear hno hB
      by_cases hlt : k < n
      · have hkl : k < S.ds.length := by rw [HNn.out]; exact hlt
        obtain ⟨c0, c1, c2, c3, c4, c5⟩ := HC.out k hkl
        rw [← HB.out.cell (p := ⟨g, k * 6, none⟩) hg] at c0
        rw [← HB.out.cell (p := ⟨g, k * 6 + 1, none⟩) hg] at c1
        rw [← HB.out.cell (p := ⟨g, k * 6 + 2, none⟩) hg] at c2
        rw [← HB.out.cell (p := ⟨g, k * 6 + 3, none⟩) hg] at c3
        rw [← HB.out.cell (p := ⟨g, k * 6 + 4, none⟩) hg] at c4
        rw [← HB.out.cell (p := ⟨g, k * 6 + 5, none⟩) hg] at c5
        by_cases hov : S.ds[k].over = no
        · have HE := Lib.hid (HO1.out k hkl HNo.out hov)
          have hq : (S.ds[k].over == no) = true := by simpa using hov
          clear hov
          generalize S.ds[k] = v at c0 c1 c2 c3 c4 c5 hq HE
          go_wp2_with fail
          go_ret
          exact ⟨by rw [HE.out]; rfl, balloc HB.out _⟩
        · have hq : (S.ds[k].over == no) = false := by simpa using hov
          have HNo2 := Lib.hid (show ∀ j (hj : j < S.ds.length), j < k + 1 → S.ds[j].over ≠ no from fun j hj hjk => by
            by_cases e : j = k
            · subst e; exact hov
            · exact HNo.out j hj (by omega))
          clear hov
          generalize S.ds[k] = v at c0 c1 c2 c3 c4 c5 hq
          go_wp2_with fail
          go_roundw
          case rel => exact ⟨k + 1, by omega, by go_num, HNo2.out, balloc HB.out _⟩
          case measure => simp [intOf]; omega
      · obtain rfl : k = n := by omega
        have HE := Lib.hid (HO2.out (fun j hj => HNo.out j hj (by rw [← HNn.out]; exact hj)))
        go_wp2_with fail
        go_ret
        exact ⟨by rw [HE.out]; rfl, HB.out⟩
  · have hO : S.over no = no := by unfold Fs.over; rw [if_neg h0]
    rw [hO]
    generalize S.ds.length = n at pc hle hd
    go_enter Tryz.func124, Tryz.ntmps124
    go_wp2_with fail
    refine HN.out.mono ?_
    rintro e w1 ⟨rfl, rfl⟩
    go_wp2_with fail
    go_ret
    exact ⟨rfl, Below.refl _ _⟩

set_option maxRecDepth 100000 in
set_option maxHeartbeats 1000000 in
theorem wabove_any (h : WdAt w pw R S) {N : Nat} (hk : FsOk S N) (no : Int) :
    Calls Tryz.prog 182 #[.pointer (some ⟨pw, 0, none⟩), .int .i64 no] w fun e w' => e = .returned (.int .i64 (S.above no)) ∧ Below w.heap.size w w' := by
  have HW := Lib.hid h
  have HK := Lib.hid hk
  have HN := Lib.hid (wnone_any h hk.d1)
  obtain ⟨pc, -, -⟩ := h.blk.facts
  have mixed : Tryz.prog.follows .mixedOrders = true := by kernel_rfl
  cases hg : S.get no with
  | none =>
    have HA := Lib.hid (show S.above no = 0 by unfold Fs.above; rw [hg])
    have HG := Lib.hid (wget_no h hg)
    unfold An.v an0 at HG
    clear h hk hg
    go_enter Tryz.func182, Tryz.ntmps182
    go_wp2_with fail
    refine HN.out.mono ?_
    rintro e w1 ⟨rfl, rfl⟩
    go_wp2_with fail
    refine HG.out.mono ?_
    rintro e w1 ⟨rfl, hb1⟩
    go_wp2_with fail
    go_ret
    exact ⟨by rw [HA.out]; rfl, balloc hb1 _⟩
  | some a =>
    obtain ⟨hao, -, h1, -⟩ := hk.get hg
    obtain ⟨ea, el, ec, -, hgc⟩ := wget_yes h hg
    have HG := Lib.hid hgc
    unfold An.v at HG
    by_cases hkd : a.kind = 1
    · by_cases hr : S.root a.dev = no ∧ 1 < a.dev
      · obtain ⟨v, hv, hrv, -, -⟩ := root_of hk hao.dev.1 hao.dev.2
        obtain ⟨g, cap, hdv, hle, h63, hgl, hc, -, -⟩ := h.devF hk.d1
        rw [hdv] at pc
        obtain ⟨k, hkd2⟩ : ∃ k : Nat, a.dev = (k : Int) + 1 := ⟨(a.dev - 1).toNat, by have := hao.dev.1; omega⟩
        have hkl : k < S.ds.length := by have := hao.dev.2; omega
        have hvk : S.ds[k] = v := by
          unfold Fs.dev at hv
          rw [if_pos (by omega), hkd2, show ((k : Int) + 1 - 1).toNat = k by omega, List.getElem?_eq_getElem hkl] at hv
          simpa using hv
        have cc := (hc k hkl).c1
        rw [hvk] at cc
        have hrt : S.root a.dev = no := hr.1
        have HR := Lib.hid (fun w1 (hb1 : Below w.heap.size w w1) => wroot_any (h.keep hb1) hk.d1 a.dev)
        rw [hrt] at HR
        have HA := Lib.hid (show S.above no = (match S.get v.over with | none => 0 | some b => b.up) by
          unfold Fs.above
          rw [hg]
          simp only
          rw [if_neg (by simpa using hkd), if_pos hr, hv]
          rfl)
        have h3 : 1 < a.dev := hr.2
        have hgd := hao.dev.1
        have hpz := h.blk.lt
        rw [hkd2] at h3 HG HR
        obtain ⟨n, hn⟩ : ∃ n, S.ds.length = n := ⟨_, rfl⟩
        rw [hn] at pc hle
        have hkn : k < n := by omega
        have hk1 : (a.kind == 1) = true := by simpa using hkd
        have hk2 : (a.kind != 1) = false := by simpa using hkd
        have HD := Lib.hid (fun w1 (hb1 : Below w.heap.size w w1) => And.intro (fun (hgv : S.get v.over = none) => wget_no (h.keep hb1) hgv) (fun b (hgv : S.get v.over = some b) => wget_yes (h.keep hb1) hgv))
        clear h hk hg hao hgc hc hv hrv hr hrt hdv hvk hn hkd2 hgd hkl hkd
        go_enter Tryz.func182, Tryz.ntmps182
        go_wp2_with fail
        refine HN.out.mono ?_
        rintro e w1 ⟨rfl, rfl⟩
        go_wp2_with fail
        refine HG.out.mono ?_
        rintro e w1 ⟨rfl, hb1⟩
        have B1 := Blk.new w1 #[.int .i64 a.no, .int .i64 ((k : Int) + 1), .int .i64 a.kind, .int .i64 a.mode, .int .i64 a.uid, .int .i64 a.gid, .int .i64 a.mtime, .int .i64 a.ctime, .int .i64 a.links, .int .i64 a.up, .string a.data, .slice ea el ec] 49
        have hb2 := balloc hb1 (.cells #[.int .i64 a.no, .int .i64 ((k : Int) + 1), .int .i64 a.kind, .int .i64 a.mode, .int .i64 a.uid, .int .i64 a.gid, .int .i64 a.mtime, .int .i64 a.ctime, .int .i64 a.links, .int .i64 a.up, .string a.data, .slice ea el ec] 49)
        have hr1 := HR.out _ hb2
        go_wp2_with fail
        refine hr1.mono ?_
        rintro e w2 ⟨rfl, rfl⟩
        generalize w1.alloc (.cells #[.int .i64 a.no, .int .i64 ((k : Int) + 1), .int .i64 a.kind, .int .i64 a.mode, .int .i64 a.uid, .int .i64 a.gid, .int .i64 a.mtime, .int .i64 a.ctime, .int .i64 a.links, .int .i64 a.up, .string a.data, .slice ea el ec] 49) = W at B1 hb2 hr1 ⊢
        have hBn := hb1.size
        generalize w1.heap.size = Bn at B1 hBn ⊢
        obtain ⟨bc, bf, bz⟩ := B1.facts
        rw [← hb2.cell (p := ⟨g, k * 6 + 1, none⟩) hgl] at cc
        have HP1 := Lib.hid (hb2.cell (p := ⟨pw, 0, none⟩) hpz)
        have pc0 : W.cell? ⟨pw, 0, none⟩ = _ := (hb2.cell (p := ⟨pw, 0, none⟩) hpz).trans (pc 0)
        have pc1 : W.cell? ⟨pw, 1, none⟩ = _ := (hb2.cell (p := ⟨pw, 1, none⟩) hpz).trans (pc 1)
        go_wp2_with fail
        have hw1 : IntKind.i64.wrap ((k : Int) + 1 - 1) = (k : Int) := by rw [IntKind.wrap_i64]; omega
        have hw2 : IntKind.i64.wrap (k : Int) = (k : Int) := by rw [IntKind.wrap_i64]; omega
        have hb3 : (k : Int) < (n : Int) := by omega
        have hb4 : (0 : Int) ≤ (k : Int) := by omega
        refine wp_region_lex 14 mixed (by kernel_rfl) then_panic ?_
        simp only [List.take_succ_cons, List.take_zero, List.drop_succ_cons, List.drop_zero]
        repeat still_step
        refine wpStill_nil ?_
        cases hgv : S.get v.over with
        | none =>
          rw [hgv] at HA
          have HC := Lib.hid (((HD.out W.drew hb2.drew).1 hgv))
          unfold An.v an0 at HC
          clear hgv HD
          go_wp2_with fail
          refine HC.out.mono ?_
          rintro e w2 ⟨rfl, hb3⟩
          obtain ⟨bc3, bf3, bz3⟩ := (B1.drew.keep hb3).facts
          have hb4 := bnext hb2.drew hb3
          go_wp2_with fail
          go_ret
          exact ⟨by rw [HA.out]; rfl, by (repeat (refine Below.setCell ?_ hBn _)); exact hb4⟩
        | some b =>
          rw [hgv] at HA
          obtain ⟨ea2, el2, ec2, -, hgc2⟩ := (HD.out W.drew hb2.drew).2 b hgv
          have HC := Lib.hid hgc2
          unfold An.v at HC
          clear hgv HD hgc2
          go_wp2_with fail
          refine HC.out.mono ?_
          rintro e w2 ⟨rfl, hb3⟩
          obtain ⟨bc3, bf3, bz3⟩ := (B1.drew.keep hb3).facts
          have hb4 := bnext hb2.drew hb3
          go_wp2_with fail
          go_ret
          exact ⟨by rw [HA.out]; rfl, by (repeat (refine Below.setCell ?_ hBn _)); exact hb4⟩
      · have HA := Lib.hid (show S.above no = a.up by unfold Fs.above; rw [hg]; simp only; rw [if_neg (by simpa using hkd), if_neg hr])
        have HR := Lib.hid (fun w1 (hb1 : Below w.heap.size w w1) => wroot_any (h.keep hb1) hk.d1 a.dev)
        have hk1 : (a.kind == 1) = true := by simpa using hkd
        have hk2 : (a.kind != 1) = false := by simpa using hkd
        clear h hk hg hao hgc hkd
        obtain ⟨rt, hrt⟩ : ∃ rt, S.root a.dev = rt := ⟨_, rfl⟩
        rw [hrt] at HR hr
        by_cases h2 : rt = no
        · have h3 : ¬ 1 < a.dev := fun h3 => hr ⟨h2, h3⟩
          have h4 : (rt == no) = true := by simpa using h2
          clear hr h2 hrt
          go_enter Tryz.func182, Tryz.ntmps182
          go_wp2_with fail
          refine HN.out.mono ?_
          rintro e w1 ⟨rfl, rfl⟩
          go_wp2_with fail
          refine HG.out.mono ?_
          rintro e w1 ⟨rfl, hb1⟩
          have hr1 := HR.out _ (balloc hb1 (.cells #[.int .i64 a.no, .int .i64 a.dev, .int .i64 a.kind, .int .i64 a.mode, .int .i64 a.uid, .int .i64 a.gid, .int .i64 a.mtime, .int .i64 a.ctime, .int .i64 a.links, .int .i64 a.up, .string a.data, .slice ea el ec] 49))
          go_wp2_with fail
          refine hr1.mono ?_
          rintro e w2 ⟨rfl, rfl⟩
          go_wp2_with fail
          go_ret
          exact ⟨by rw [HA.out]; rfl, balloc hb1 _⟩
        · have h4 : (rt == no) = false := by simpa using h2
          clear hr h2 hrt
          go_enter Tryz.func182, Tryz.ntmps182
          go_wp2_with fail
          refine HN.out.mono ?_
          rintro e w1 ⟨rfl, rfl⟩
          go_wp2_with fail
          refine HG.out.mono ?_
          rintro e w1 ⟨rfl, hb1⟩
          have hr1 := HR.out _ (balloc hb1 (.cells #[.int .i64 a.no, .int .i64 a.dev, .int .i64 a.kind, .int .i64 a.mode, .int .i64 a.uid, .int .i64 a.gid, .int .i64 a.mtime, .int .i64 a.ctime, .int .i64 a.links, .int .i64 a.up, .string a.data, .slice ea el ec] 49))
          go_wp2_with fail
          refine hr1.mono ?_
          rintro e w2 ⟨rfl, rfl⟩
          go_wp2_with fail
          go_ret
          exact ⟨by rw [HA.out]; rfl, balloc hb1 _⟩
    · have HA := Lib.hid (show S.above no = 0 by unfold Fs.above; rw [hg]; simp only; rw [if_pos hkd])
      clear h hk hg hao hgc
      go_enter Tryz.func182, Tryz.ntmps182
      go_wp2_with fail
      refine HN.out.mono ?_
      rintro e w1 ⟨rfl, rfl⟩
      go_wp2_with fail
      refine HG.out.mono ?_
      rintro e w1 ⟨rfl, hb1⟩
      go_wp2_with fail
      go_ret
      exact ⟨by rw [HA.out]; rfl, balloc hb1 _⟩
end

end Go.Proofs.YtihdbncoijhihaaGreat

/- Mounts (layer 14): Make. -/
namespace Go.Proofs.YtihdbncoijhihaaGreat

open Go.RowKit

/-- one cell of an own row. -/
theorem own_cell1 {w : World} {base sz n g cap : Nat} {e : TypeId} {xs : List Value} (h : w.ownsRow base e sz (.slice (some ⟨g, 0, none⟩) n cap) n xs) (j : Nat) (hj : j < xs.length) (v : Value) :
    (w.setCell ⟨g, j, none⟩ v).ownsRow base e sz (.slice (some ⟨g, 0, none⟩) n cap) n (xs.set j v) := by
  rcases h.2 with ⟨hv, -⟩ | ⟨g', cap', cur, hv, hb, hg, h1, h2, h3, h4⟩
  · cases hv
  · injection hv with e1 e2 e3
    injection e1 with e1
    injection e1 with e1
    subst e1 e3
    refine ⟨by rw [List.length_set]; exact h.1, .inr ⟨g, cap, _, rfl, hb, Blk.set hg j v, h1, h2, by rw [Array.size_setIfInBounds]; exact h3, ?_⟩⟩
    rw [Array.toList_setIfInBounds, List.take_set, h4]
section

variable {w w' : World} {pw : Nat} {R : Rp} {S : Fs}

theorem flat_len' (ds : List Dv) : (ds.flatMap Dv.cs).length = ds.length * 6 := flat_len Dv.cs_len ds
/-- a mount uses more, or less. -/
theorem WdAt.setQ (h : WdAt w pw R S) {g cap : Nat} (hdv : R.dv = .slice (some ⟨g, 0, none⟩) S.ds.length cap) {k : Nat} (hk : k < S.ds.length) (v : Dv) (hv : S.ds[k] = v) (b n : Int) :
    WdAt ((((w.setCell ⟨g, k * 6 + 2, none⟩ (.int .i64 b)).setCell ⟨g, k * 6 + 3, none⟩ (.int .i64 n)).setCell ⟨g, k * 6 + 4, none⟩ (.int .i64 v.mb)).setCell ⟨g, k * 6 + 5, none⟩ (.int .i64 v.mn)) pw R
      (S.setDev ((k : Int) + 1) { v with b := b, n := n }) ∧
    Mod (fun x => x = g) w ((((w.setCell ⟨g, k * 6 + 2, none⟩ (.int .i64 b)).setCell ⟨g, k * 6 + 3, none⟩ (.int .i64 n)).setCell ⟨g, k * 6 + 4, none⟩ (.int .i64 v.mb)).setCell ⟨g, k * 6 + 5, none⟩ (.int .i64 v.mn)) := by
  have hm : Mod (fun x => x = g) w ((((w.setCell ⟨g, k * 6 + 2, none⟩ (.int .i64 b)).setCell ⟨g, k * 6 + 3, none⟩ (.int .i64 n)).setCell ⟨g, k * 6 + 4, none⟩ (.int .i64 v.mb)).setCell ⟨g, k * 6 + 5, none⟩ (.int .i64 v.mn)) :=
    ((((Mod.refl (fun x => x = g) w).setCell (a := ⟨g, k * 6 + 2, none⟩) (.inl rfl) _).setCell (a := ⟨g, k * 6 + 3, none⟩) (.inl rfl) _).setCell (a := ⟨g, k * 6 + 4, none⟩) (.inl rfl) _).setCell (a := ⟨g, k * 6 + 5, none⟩) (.inl rfl) _
  refine ⟨?_, hm⟩
  obtain ⟨g', cap', hdv', -, -, -, -, -, cur, hcur⟩ := h.devF (by omega)
  have e := hdv.symm.trans hdv'
  injection e with e
  injection e with e
  injection e with e
  subst e
  have hne : ∀ (x : Nat) (vs : Array Value) (T : TypeId), Blk w x vs T → T ≠ 214 → x ≠ g := by
    rintro x vs T hx hT rfl
    unfold Blk at hx hcur
    rw [hcur] at hx
    injection hx with hx
    injection hx with _ hx
    exact hT hx.symm
  have h1 := hne _ _ _ h.blk (by decide)
  have h2 := hne _ _ _ h.tab.blk (by decide)
  have h3 : R.pm ≠ g := by
    rintro e
    have hm := h.tab.map
    unfold MapB at hm
    rw [e] at hm
    unfold Blk at hcur
    rw [hcur] at hm
    cases hm
  have hl : (S.setDev ((k : Int) + 1) { v with b := b, n := n }).ds = S.ds.set k { v with b := b, n := n } := by
    unfold Fs.setDev
    rw [show ((k : Int) + 1 - 1).toNat = k by omega]
  refine ⟨h.blk.mod hm h1, ⟨h.tab.blk.mod hm h2, (hm.block _ h.tab.map.lt h3).trans h.tab.map, h.tab.once, h.tab.low⟩, ?_, h.ns, fun x hx => (h.ents x hx).turn (fun bk cr hc => hm.block bk (Array.getElem?_eq_some_iff.1 hc).1 (hne bk cr _ hc (by decide))) hm.size⟩
  rw [hl, List.length_set]
  have h0 := h.devs
  rw [hdv] at h0 ⊢
  have hkl : k * 6 + 5 < (S.ds.flatMap Dv.cs).length := by rw [flat_len']; omega
  have p1 := own_cell1 h0 (k * 6 + 2) (by omega) (.int .i64 b)
  have p2 := own_cell1 p1 (k * 6 + 3) (by rw [List.length_set]; omega) (.int .i64 n)
  have p3 := own_cell1 p2 (k * 6 + 4) (by rw [List.length_set, List.length_set]; omega) (.int .i64 v.mb)
  have p4 := own_cell1 p3 (k * 6 + 5) (by rw [List.length_set, List.length_set, List.length_set]; omega) (.int .i64 v.mn)
  have hs := setAll_flat Dv.cs_len ({ v with b := b, n := n } : Dv) S.ds k hk
  rw [← hs]
  have c0 : (S.ds.flatMap Dv.cs)[k * 6]? = some (.int .i64 v.root) := by
    have := flat_get Dv.cs_len S.ds k 0 hk (by omega)
    rw [Nat.add_zero] at this
    rw [this, hv]; rfl
  have c1 : (S.ds.flatMap Dv.cs)[k * 6 + 1]? = some (.int .i64 v.over) := by
    rw [flat_get Dv.cs_len S.ds k 1 hk (by omega), hv]; rfl
  have e0 : (S.ds.flatMap Dv.cs).set (k * 6) (.int .i64 v.root) = S.ds.flatMap Dv.cs := by
    have hlt : k * 6 < (S.ds.flatMap Dv.cs).length := by omega
    rw [List.getElem?_eq_getElem hlt] at c0
    injection c0 with c0
    rw [← c0, List.set_getElem_self]
  have e1 : (S.ds.flatMap Dv.cs).set (k * 6 + 1) (.int .i64 v.over) = S.ds.flatMap Dv.cs := by
    have hlt : k * 6 + 1 < (S.ds.flatMap Dv.cs).length := by omega
    rw [List.getElem?_eq_getElem hlt] at c1
    injection c1 with c1
    rw [← c1, List.set_getElem_self]
  show World.ownsRow _ 0 214 6 _ _ ((((((((S.ds.flatMap Dv.cs).set (k * 6) (.int .i64 v.root)).set (k * 6 + 1) (.int .i64 v.over)).set (k * 6 + 2) (.int .i64 b)).set (k * 6 + 3) (.int .i64 n)).set (k * 6 + 4) (.int .i64 v.mb)).set (k * 6 + 5) (.int .i64 v.mn)))
  rw [e0, e1]
  exact p4
/-- a node comes. -/
theorem WdAt.addN (h : WdAt w pw R S) (a : An) {ea : Option Addr} {el ec : Nat} (he : EntsAt w ea el ec a.ents) (hl0 : 0 ≤ S.last) (hl1 : S.last ≤ 1000000) :
    Calls Tryz.prog 254 #[.pointer (some ⟨R.pt, 0, none⟩), a.v ea el ec] w fun e w' => e = .returned (.int .i64 (S.last + 1)) ∧ ∃ R', WdAt w' pw R' (S.add a) ∧ Stp (R.F pw) (R'.F pw) w w' ∧ R'.pt = R.pt ∧ R'.dv = R.dv := by
  refine (add_any (a.nd ea el ec) w R.pt R.pm S.last _ R.clk h.tab hl0 hl1).mono ?_
  rintro e w' ⟨rfl, hT, hM⟩
  have hM' : Mod (R.F pw) w w' := hM.mono (fun k hk => hk.elim (fun e => .inr (.inl e)) (fun e => .inr (.inr (.inl e))))
  have hst : Stp (R.F pw) (R.F pw) w w' := Stp.of_mod hM'
  have hnw : pw ≠ R.pt := by
    intro e
    have h1 := h.blk
    have h2 := h.tab.blk
    rw [e] at h1
    unfold Blk at h1 h2
    rw [h1] at h2
    injection h2 with h2
    injection h2 with _ h2
    revert h2; decide
  have hnm : pw ≠ R.pm := by
    intro e
    have h1 := h.blk
    have h2 := h.tab.map
    rw [e] at h1
    unfold Blk at h1; unfold MapB at h2
    rw [h1] at h2
    cases h2
  refine ⟨rfl, ⟨R.pt, R.pm, R.dv, R.G ++ [⟨{ a with no := S.last + 1 }, ea, el, ec, R.clk⟩], R.clk + 1⟩, ⟨h.blk.mod hM (fun e => e.elim hnw hnm), ?_, ?_, ?_, ?_⟩, ⟨hM', fun k hk => .inl hk⟩, rfl, rfl⟩
  · show Tab w' R.pt R.pm (S.last + 1) ((R.G ++ [_]).map Gn.e) (R.clk + 1)
    rw [List.map_append]
    exact hT
  · refine ⟨h.devs.1, h.devs.2.imp id fun ⟨g, cap, cur, h1, h2, hg, h3⟩ => ⟨g, cap, cur, h1, h2, (hM.block g (Array.getElem?_eq_some_iff.1 hg).1 ?_).trans hg, h3⟩⟩
    rintro (e | e)
    · subst e
      have h2 := h.tab.blk
      unfold Blk at h2
      rw [hg] at h2
      injection h2 with h2
      injection h2 with _ h2
      revert h2; decide
    · subst e
      have h2 := h.tab.map
      unfold MapB at h2
      rw [hg] at h2
      cases h2
  · show S.ns ++ [_] = (R.G ++ [_]).map (fun g : Gn => g.a)
    rw [List.map_append, ← h.ns]
    rfl
  · intro g hg
    rcases List.mem_append.1 hg with hg | hg
    · exact (h.ents g hg).wd h hst
    · simp only [List.mem_cons, List.not_mem_nil, or_false] at hg
      subst hg
      exact he.wd h hst
end

end Go.Proofs.YtihdbncoijhihaaGreat
