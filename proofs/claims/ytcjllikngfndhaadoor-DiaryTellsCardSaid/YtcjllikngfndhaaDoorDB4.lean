/- Texts of the proof, part 4. -/
import Derived.RangeFuncOwn
import Derived.Test.YtcjllikngfndhaaDoorDB3
import Derived.Test.YtcjllikngfndhaaDoorDB2
/- The groups of a text, line by line (layer 39): of the program, of the reference; both are the groups whose text it is. No walk. -/
namespace Go.Proofs.YtcjllikngfndhaaDoor

open Go.RowKit

/-- the last group turned by f. -/
def lastU (out : List (List Nt × UInt8)) (h : 0 < out.length) (f : List Nt × UInt8 → List Nt × UInt8) : List (List Nt × UInt8) := out.set (out.length - 1) (f out[out.length - 1])
/-- diary.Parse's step. -/
def stepP (out : List (List Nt × UInt8)) (t : List UInt8) : Option (List (List Nt × UInt8)) :=
  if t = [103] then some (out ++ [([], 0)])
  else if h : 0 < out.length then
    if out[out.length - 1].2 ≠ 0 then none
    else if t = [101] ∨ t = [100] ∨ t = [117] then some (lastU out h fun g => (g.1, t.headD 0))
    else (noteL t).map fun x => lastU out h fun g => (g.1 ++ [x], g.2)
  else none
/-- the reference's. -/
def stepR (out : List (List Nt × UInt8)) (t : List UInt8) : Option (List (List Nt × UInt8)) :=
  if t = [103] then some (out ++ [([], 0)])
  else if t = [] then some out
  else if h : 0 < out.length then
    if t.length = 1 then some (lastU out h fun g => (g.1, t.headD 0))
    else some (lastU out h fun g => (g.1 ++ [noteR t], g.2))
  else none
theorem lastU_snoc (out : List (List Nt × UInt8)) (g : List Nt × UInt8) (f : List Nt × UInt8 → List Nt × UInt8) (h : 0 < (out ++ [g]).length) : lastU (out ++ [g]) h f = out ++ [f g] := by
  unfold lastU
  simp
theorem snoc_of (out : List (List Nt × UInt8)) (h : 0 < out.length) : ∃ o g, out = o ++ [g] := ⟨out.dropLast, out.getLast (by rintro rfl; simp at h), (List.dropLast_concat_getLast _).symm⟩
theorem fold_snoc {α β : Type} (f : β → α → Option β) (b : β) (l : List α) (x : α) : (l ++ [x]).foldlM f b = (l.foldlM f b).bind fun y => f y x := by
  rw [List.foldlM_append]
  cases List.foldlM f b l with
  | none => rfl
  | some y => simp

/-- how much has been read. -/
def wsum (ls : List (List UInt8)) : Nat := (ls.map fun t => t.length + 1).sum
theorem wsum_snoc (ls : List (List UInt8)) (t : List UInt8) : wsum (ls ++ [t]) = wsum ls + (t.length + 1) := by simp [wsum]
theorem wsum_append (a b : List (List UInt8)) : wsum (a ++ b) = wsum a + wsum b := by simp [wsum]
theorem wsum_spl (c : UInt8) (l : List UInt8) : wsum (spl c l) = l.length + 1 := by
  refine snoc_ind (P := fun l => wsum (spl c l) = l.length + 1) rfl (fun l x ih => ?_) l
  have h0 := (spl_len c l).1
  rw [spl_snoc]
  unfold splStep
  split
  · rw [wsum_snoc, ih]; simp
  · obtain ⟨o, g, hg⟩ : ∃ o g, spl c l = o ++ [g] := ⟨(spl c l).dropLast, (spl c l).getLast (by intro e; rw [e] at h0; simp at h0), (List.dropLast_concat_getLast _).symm⟩
    rw [hg] at ih ⊢
    rw [List.length_append, List.length_singleton, List.getD_eq_getElem?_getD]
    simp only [Nat.add_sub_cancel, List.getElem?_concat_length, Option.getD_some]
    rw [List.set_append_right _ _ (Nat.le_refl _)]
    simp only [Nat.sub_self, List.set_cons_zero]
    rw [wsum_snoc] at ih ⊢
    simp
    omega
/-- what is known of what has been read so far: n bytes. -/
structure OutOk (n : Nat) (out : List (List Nt × UInt8)) : Prop where
  len : out.length ≤ n
  notes : ∀ g ∈ out, g.1.length ≤ n ∧ ∀ x ∈ g.1, x.Ok
  text : (textL out).length ≤ 40 * n
theorem textL_snoc (out : List (List Nt × UInt8)) (g : List Nt × UInt8) : textL (out ++ [g]) = textL out ++ groupL g := by simp [textL]
theorem wordL_len (s : ByteArray) : (wordL s).length ≤ 1 + 3 * s.size := by
  unfold wordL
  split
  · simp
  · have := encL_len s.data.toList
    rw [show s.data.toList.length = s.size from Array.length_toList] at this
    rw [List.length_cons]; omega
theorem lineL_len {x : Nt} {m : Nat} (h : x.Ok) (h1 : x.src.size ≤ m) (h2 : x.dst.size ≤ m) (h3 : x.tmp.size ≤ m) : (lineL x).length ≤ 27 + 9 * m := by
  have a := wordL_len x.src
  have b := wordL_len x.dst
  have c := wordL_len x.tmp
  have d := (decL_len x.no h.n0 h.n1).1
  unfold lineL
  simp only [List.length_cons, List.length_append, List.length_nil]
  omega
def Szs (m : Nat) (x : Nt) : Prop := x.src.size ≤ m ∧ x.dst.size ≤ m ∧ x.tmp.size ≤ m
theorem mkN_size {k : List UInt8} {no : Int} {m : Nat} : ∀ {r : List (List UInt8)}, (∀ y ∈ r, y.length ≤ m) → Szs m (mkN k no r) := by
  intro r h
  have hz : Szs m ⟨0, 0, ByteArray.empty, ByteArray.empty, ByteArray.empty⟩ := ⟨Nat.zero_le _, Nat.zero_le _, Nat.zero_le _⟩
  have hs : ∀ y ∈ r, (str y).size ≤ m := fun y hy => by rw [str_size]; exact h y hy
  rcases r with _ | ⟨a, _ | ⟨b, _ | ⟨c, _ | ⟨d, r⟩⟩⟩⟩
  · exact hz
  · exact hz
  · have ha := hs a (by simp)
    have hb := hs b (by simp)
    show Szs m (if _ then _ else if _ then _ else _)
    split
    · exact ⟨ha, hb, Nat.zero_le _⟩
    · split
      · exact ⟨Nat.zero_le _, ha, hb⟩
      · exact hz
  · show Szs m (if _ then _ else _)
    split
    · exact ⟨hs a (by simp), hs b (by simp), hs c (by simp)⟩
    · exact hz
  · exact hz
theorem noteR_size (t : List UInt8) (ht : t.length ≤ 100000) : (noteR t).Ok ∧ (noteR t).src.size ≤ t.length ∧ (noteR t).dst.size ≤ t.length ∧ (noteR t).tmp.size ≤ t.length := by
  have hz : Nt.zero.Ok ∧ Nt.zero.src.size ≤ t.length ∧ Nt.zero.dst.size ≤ t.length ∧ Nt.zero.tmp.size ≤ t.length := ⟨⟨Nat.zero_le _, Nat.zero_le _, Nat.zero_le _, by decide, by decide⟩, Nat.zero_le _, Nat.zero_le _, Nat.zero_le _⟩
  unfold noteR
  cases hw : (spl 32 t).mapM decP with
  | none => exact hz
  | some ws =>
    have hs := words_size hw
    rcases ws with _ | ⟨k, _ | ⟨n, r⟩⟩
    · exact hz
    · exact hz
    · have hr : ∀ y ∈ r, y.length ≤ t.length := fun y hy => hs y (List.mem_cons_of_mem _ (List.mem_cons_of_mem _ hy))
      simp only [mkR]
      cases hn : numC n with
      | none => exact hz
      | some no =>
        obtain ⟨n0, n1, -⟩ := numC_range hn
        show (if 1 < r.length then mkN k no r else Nt.zero).Ok ∧ Szs t.length (if 1 < r.length then mkN k no r else Nt.zero)
        split
        · exact ⟨mkN_ok (fun y hy => Nat.le_trans (hr y hy) ht) n0 n1, mkN_size hr⟩
        · exact hz
theorem OutOk.new {n : Nat} {out : List (List Nt × UInt8)} (h : OutOk n out) (m : Nat) (hm : 1 ≤ m) : OutOk (n + m) (out ++ [([], 0)]) := by
  refine ⟨by have := h.len; simp; omega, fun g hg => ?_, ?_⟩
  · rcases List.mem_append.1 hg with hg | hg
    · have := h.notes g hg
      exact ⟨Nat.le_trans this.1 (by omega), this.2⟩
    · simp at hg
      subst hg
      exact ⟨Nat.zero_le _, fun x hx => by simp at hx⟩
  · have := h.text
    rw [textL_snoc, List.length_append]
    have e : (groupL ([], 0)).length = 2 := rfl
    omega
theorem OutOk.mono {n m : Nat} {out : List (List Nt × UInt8)} (h : OutOk n out) (hm : n ≤ m) : OutOk m out := ⟨Nat.le_trans h.len hm, fun g hg => ⟨Nat.le_trans (h.notes g hg).1 hm, (h.notes g hg).2⟩, by have := h.text; omega⟩
theorem endL_len (f : UInt8) : (endL f).length ≤ 2 := by unfold endL; split <;> simp
theorem OutOk.fin {n : Nat} {out : List (List Nt × UInt8)} (h : OutOk n out) (m : Nat) (hm : 1 ≤ m) (h0 : 0 < out.length) (f : UInt8) : OutOk (n + m) (lastU out h0 fun g => (g.1, f)) := by
  obtain ⟨o, g, rfl⟩ := snoc_of out h0
  rw [lastU_snoc]
  refine ⟨by have := h.len; simp at this ⊢; omega, fun x hx => ?_, ?_⟩
  · rcases List.mem_append.1 hx with hx | hx
    · have := h.notes x (List.mem_append.2 (.inl hx)); exact ⟨Nat.le_trans this.1 (by omega), this.2⟩
    · simp at hx; subst hx
      have := h.notes g (by simp); exact ⟨Nat.le_trans this.1 (by omega), this.2⟩
  · have := h.text
    rw [textL_snoc, List.length_append] at this ⊢
    have e1 := endL_len f
    unfold groupL at this ⊢
    simp only [List.length_cons, List.length_append] at this ⊢
    omega
theorem OutOk.note {n : Nat} {out : List (List Nt × UInt8)} (h : OutOk n out) (m : Nat) (h0 : 0 < out.length) (x : Nt) (hx : x.Ok) (h1 : x.src.size ≤ m) (h2 : x.dst.size ≤ m) (h3 : x.tmp.size ≤ m) : OutOk (n + (m + 1)) (lastU out h0 fun g => (g.1 ++ [x], g.2)) := by
  obtain ⟨o, g, rfl⟩ := snoc_of out h0
  rw [lastU_snoc]
  refine ⟨by have := h.len; simp at this ⊢; omega, fun y hy => ?_, ?_⟩
  · rcases List.mem_append.1 hy with hy | hy
    · have := h.notes y (List.mem_append.2 (.inl hy)); exact ⟨Nat.le_trans this.1 (by omega), this.2⟩
    · simp at hy; subst hy
      have := h.notes g (by simp)
      refine ⟨by have := this.1; simp; omega, fun z hz => ?_⟩
      rcases List.mem_append.1 hz with hz | hz
      · exact this.2 z hz
      · simp at hz; subst hz; exact hx
  · have := h.text
    have hl := lineL_len hx h1 h2 h3
    rw [textL_snoc, List.length_append] at this ⊢
    unfold groupL at this ⊢
    simp only [List.length_cons, List.length_append, List.flatMap_append, List.flatMap_cons, List.flatMap_nil, List.append_nil] at this ⊢
    omega
theorem stepP_ok {n : Nat} {out out' : List (List Nt × UInt8)} {t : List UInt8} (ht : t.length ≤ 100000) (h : OutOk n out) (hs : stepP out t = some out') : OutOk (n + (t.length + 1)) out' := by
  unfold stepP at hs
  split at hs
  · injection hs with hs; subst hs; exact h.new _ (by omega)
  · split at hs
    · rename_i h0
      split at hs
      · cases hs
      · split at hs
        · injection hs with hs; subst hs; exact h.fin _ (by omega) h0 _
        · rw [note_both] at hs
          split at hs
          · simp only [Option.map_some] at hs
            injection hs with hs; subst hs
            obtain ⟨a, b, c, d⟩ := noteR_size t ht
            exact h.note _ h0 _ a b c d
          · cases hs
    · cases hs
theorem stepR_ok {n : Nat} {out out' : List (List Nt × UInt8)} {t : List UInt8} (ht : t.length ≤ 100000) (h : OutOk n out) (hs : stepR out t = some out') : OutOk (n + (t.length + 1)) out' := by
  unfold stepR at hs
  split at hs
  · injection hs with hs; subst hs; exact h.new _ (by omega)
  · split at hs
    · injection hs with hs; subst hs; exact h.mono (by omega)
    · split at hs
      · rename_i h0
        split at hs
        · injection hs with hs; subst hs; exact h.fin _ (by omega) h0 _
        · injection hs with hs; subst hs
          obtain ⟨a, b, c, d⟩ := noteR_size t ht
          exact h.note _ h0 _ a b c d
      · cases hs
theorem fold_ok {step : List (List Nt × UInt8) → List UInt8 → Option (List (List Nt × UInt8))} (hstep : ∀ {n out out' t}, t.length ≤ 100000 → OutOk n out → step out t = some out' → OutOk (n + (t.length + 1)) out') (ls : List (List UInt8)) : (∀ t ∈ ls, t.length ≤ 100000) → ∀ {out}, ls.foldlM step [] = some out → OutOk (wsum ls) out := by
  refine snoc_ind (P := fun ls => (∀ t ∈ ls, t.length ≤ 100000) → ∀ {out}, ls.foldlM step [] = some out → OutOk (wsum ls) out) (fun _ {out} h => ?_) (fun ls t ih hl {out} h => ?_) ls
  · simp at h; subst h
    exact ⟨Nat.zero_le _, fun g hg => by simp at hg, by simp [textL]⟩
  · rw [fold_snoc] at h
    cases hf : ls.foldlM step [] with
    | none => rw [hf] at h; cases h
    | some o =>
      rw [hf] at h
      rw [wsum_snoc]
      exact hstep (hl t (by simp)) (ih (fun t ht => hl t (by simp [ht])) hf) h
end Go.Proofs.YtcjllikngfndhaaDoor

/- The groups of a text are just those whose text it is (layer 39). No walk. -/
namespace Go.Proofs.YtcjllikngfndhaaDoor

open Go.RowKit

def linesG (g : List Nt × UInt8) : List (List UInt8) := [103] :: (g.1.map lineW ++ (if g.2.toNat = 0 then [] else [[g.2]]))
def linesT (gs : List (List Nt × UInt8)) : List (List UInt8) := gs.flatMap linesG
/-- lines, each with its end. -/
def ends (ls : List (List UInt8)) : List UInt8 := ls.flatMap fun t => t ++ [10]
theorem ends_append (a b : List (List UInt8)) : ends (a ++ b) = ends a ++ ends b := by simp [ends]
theorem ends_group (g : List Nt × UInt8) : ends (linesG g) = groupL g := by
  have h1 : ∀ xs : List Nt, ends (xs.map lineW) = xs.flatMap lineL := fun xs => by
    induction xs with
    | nil => rfl
    | cons x xs ih =>
      have : ends ((x :: xs).map lineW) = (lineW x ++ [10]) ++ ends (xs.map lineW) := rfl
      rw [this, ih, ← lineL_eq, List.flatMap_cons]
  have h2 : ends (if g.2.toNat = 0 then [] else [[g.2]]) = endL g.2 := by
    unfold endL
    split <;> rfl
  have h3 : ends (linesG g) = [103, 10] ++ ends (g.1.map lineW ++ (if g.2.toNat = 0 then [] else [[g.2]])) := rfl
  rw [h3, ends_append, h1, h2]
  rfl
theorem ends_text (gs : List (List Nt × UInt8)) : ends (linesT gs) = textL gs := by
  induction gs with
  | nil => rfl
  | cons g gs ih =>
    have : linesT (g :: gs) = linesG g ++ linesT gs := by simp [linesT]
    rw [this, ends_append, ends_group, ih]
    simp [textL]
theorem spl_ends : ∀ ls : List (List UInt8), (∀ t ∈ ls, (10 : UInt8) ∉ t) → spl 10 (ends ls) = ls ++ [[]]
  | [], _ => rfl
  | t :: ls, h => by
    have : ends (t :: ls) = t ++ 10 :: ends ls := by simp [ends]
    rw [this, spl_app, spl_none _ _ (h t (by simp)), spl_ends ls (fun t ht => h t (by simp [ht]))]
    rfl
theorem lines_no {gs : List (List Nt × UInt8)} (h : fineB gs = true) : ∀ t ∈ linesT gs, (10 : UInt8) ∉ t := by
  intro t ht
  obtain ⟨g, hg, ht⟩ := List.mem_flatMap.1 ht
  obtain ⟨h1, h2, h3⟩ := fineB_all h g hg
  unfold linesG at ht
  rcases List.mem_cons.1 ht with rfl | ht
  · decide
  · rcases List.mem_append.1 ht with ht | ht
    · obtain ⟨x, hx, rfl⟩ := List.mem_map.1 ht
      exact lineW_no (List.all_eq_true.1 h1 x hx)
    · split at ht
      · simp at ht
      · simp at ht; subst ht
        intro e
        simp at e
        rw [← e] at h3
        simp at h3

def NumsOk (gs : List (List Nt × UInt8)) : Prop := ∀ g ∈ gs, ∀ x ∈ g.1, -9223372036854775808 ≤ x.no ∧ x.no ≤ 9223372036854775807
theorem lineW_long (x : Nt) : 2 ≤ (lineW x).length := by unfold lineW; simp
theorem stepP_note {o : List (List Nt × UInt8)} {ns : List Nt} {x : Nt} (h : mayB x = true) (h0 : -9223372036854775808 ≤ x.no) (h1 : x.no ≤ 9223372036854775807) : stepP (o ++ [(ns, 0)]) (lineW x) = some (o ++ [(ns ++ [x], 0)]) := by
  have hl := lineW_long x
  have hne : ∀ c : UInt8, lineW x ≠ [c] := fun c e => by rw [e] at hl; simp at hl
  unfold stepP
  rw [if_neg (hne _), dif_pos (by simp), if_neg (by simp), if_neg (by rintro (e | e | e) <;> exact hne _ e), noteL_line h h0 h1]
  simp only [Option.map_some, lastU_snoc]
theorem stepR_note {o : List (List Nt × UInt8)} {ns : List Nt} {x : Nt} (h : mayB x = true) (h0 : -9223372036854775808 ≤ x.no) (h1 : x.no ≤ 9223372036854775807) : stepR (o ++ [(ns, 0)]) (lineW x) = some (o ++ [(ns ++ [x], 0)]) := by
  have hl := lineW_long x
  have hne : ∀ c : UInt8, lineW x ≠ [c] := fun c e => by rw [e] at hl; simp at hl
  unfold stepR
  rw [if_neg (hne _), if_neg (fun e => by rw [e] at hl; simp at hl), dif_pos (by simp), if_neg (by omega), noteR_line h h0 h1]
  simp only [lastU_snoc]
theorem stepP_end {o : List (List Nt × UInt8)} {ns : List Nt} {f : UInt8} (h : f.toNat = 101 ∨ f.toNat = 100 ∨ f.toNat = 117) : stepP (o ++ [(ns, 0)]) [f] = some (o ++ [(ns, f)]) := by
  have hf : f = 101 ∨ f = 100 ∨ f = 117 := h.imp UInt8.toNat_inj.1 (Or.imp UInt8.toNat_inj.1 UInt8.toNat_inj.1)
  unfold stepP
  rw [if_neg (by rcases hf with rfl | rfl | rfl <;> decide), dif_pos (by simp), if_neg (by simp), if_pos (by rcases hf with rfl | rfl | rfl <;> decide)]
  simp only [lastU_snoc, List.headD_cons]
theorem stepR_end {o : List (List Nt × UInt8)} {ns : List Nt} {f : UInt8} (h : f.toNat = 101 ∨ f.toNat = 100 ∨ f.toNat = 117) : stepR (o ++ [(ns, 0)]) [f] = some (o ++ [(ns, f)]) := by
  have hf : f = 101 ∨ f = 100 ∨ f = 117 := h.imp UInt8.toNat_inj.1 (Or.imp UInt8.toNat_inj.1 UInt8.toNat_inj.1)
  unfold stepR
  rw [if_neg (by rcases hf with rfl | rfl | rfl <;> decide), if_neg (by simp), dif_pos (by simp), if_pos (show [f].length = 1 from rfl)]
  simp only [lastU_snoc, List.headD_cons]
section

variable {step : List (List Nt × UInt8) → List UInt8 → Option (List (List Nt × UInt8))}

theorem fold_notes (hn : ∀ {o ns x}, mayB x = true → -9223372036854775808 ≤ x.no → x.no ≤ 9223372036854775807 → step (o ++ [(ns, 0)]) (lineW x) = some (o ++ [(ns ++ [x], 0)])) (o : List (List Nt × UInt8)) :
    ∀ (xs ns : List Nt), xs.all mayB = true → (∀ x ∈ xs, -9223372036854775808 ≤ x.no ∧ x.no ≤ 9223372036854775807) → (xs.map lineW).foldlM step (o ++ [(ns, 0)]) = some (o ++ [(ns ++ xs, 0)])
  | [], ns, _, _ => by simp
  | x :: xs, ns, h, hr => by
    rw [List.all_cons, Bool.and_eq_true] at h
    have hx := hr x (by simp)
    rw [List.map_cons, List.foldlM_cons, hn h.1 hx.1 hx.2]
    show (xs.map lineW).foldlM step (o ++ [(ns ++ [x], 0)]) = _
    rw [fold_notes hn o xs (ns ++ [x]) h.2 (fun y hy => hr y (by simp [hy]))]
    simp
theorem fold_lines (hg : ∀ o, step o [103] = some (o ++ [([], 0)])) (hn : ∀ {o ns x}, mayB x = true → -9223372036854775808 ≤ x.no → x.no ≤ 9223372036854775807 → step (o ++ [(ns, 0)]) (lineW x) = some (o ++ [(ns ++ [x], 0)]))
    (he : ∀ {o ns f}, f.toNat = 101 ∨ f.toNat = 100 ∨ f.toNat = 117 → step (o ++ [(ns, 0)]) [f] = some (o ++ [(ns, f)])) :
    ∀ (gs o : List (List Nt × UInt8)), (∀ g ∈ gs, g.1.all mayB = true ∧ (g.2.toNat = 101 ∨ g.2.toNat = 0 ∨ g.2.toNat = 100 ∨ g.2.toNat = 117)) → NumsOk gs → (linesT gs).foldlM step o = some (o ++ gs)
  | [], o, _, _ => by simp [linesT]
  | (ns, f) :: gs, o, h, hr => by
    have hL : linesT ((ns, f) :: gs) = [103] :: (ns.map lineW ++ ((if f.toNat = 0 then [] else [[f]]) ++ linesT gs)) := by simp [linesT, linesG]
    obtain ⟨h1, h2⟩ := h (ns, f) (by simp)
    rw [hL, List.foldlM_cons, hg]
    show (ns.map lineW ++ _).foldlM step (o ++ [([], 0)]) = _
    rw [List.foldlM_append, fold_notes hn o ns [] h1 (hr (ns, f) (by simp))]
    show (_ ++ linesT gs).foldlM step (o ++ [([] ++ ns, 0)]) = _
    rw [List.nil_append]
    by_cases hf : f.toNat = 0
    · rw [if_pos hf, List.nil_append, fold_lines hg hn he gs _ (fun g hg => h g (by simp [hg])) (fun g hg => hr g (by simp [hg]))]
      have : f = 0 := UInt8.toNat_inj.1 hf
      subst this
      simp
    · rw [if_neg hf, List.singleton_append, List.foldlM_cons, he (by simp only at h2; omega)]
      show (linesT gs).foldlM step (o ++ [(ns, f)]) = _
      rw [fold_lines hg hn he gs _ (fun g hg => h g (by simp [hg])) (fun g hg => hr g (by simp [hg]))]
      simp
end

theorem foldP_lines {gs : List (List Nt × UInt8)} (h : fineB gs = true) (hr : NumsOk gs) : (linesT gs).foldlM stepP [] = some gs := by
  have := fold_lines (step := stepP) (fun o => by unfold stepP; rw [if_pos rfl]) stepP_note stepP_end gs [] (fun g hg => ⟨(fineB_all h g hg).1, (fineB_all h g hg).2.2⟩) hr
  simpa using this
theorem foldR_lines {gs : List (List Nt × UInt8)} (h : fineB gs = true) (hr : NumsOk gs) : (linesT gs).foldlM stepR [] = some gs := by
  have := fold_lines (step := stepR) (fun o => by unfold stepR; rw [if_pos rfl]) stepR_note stepR_end gs [] (fun g hg => ⟨(fineB_all h g hg).1, (fineB_all h g hg).2.2⟩) hr
  simpa using this

/-- diary.Parse. -/
def parseP (s : List UInt8) : Option (List (List Nt × UInt8)) :=
  if s = [] then some [] else ((spl 10 (Lib.trimSuffix s [10])).foldlM stepP []).bind fun out => if writeB out = s then some out else none
/-- the reference's. -/
def parseR (s : List UInt8) : Option (List (List Nt × UInt8)) := ((spl 10 s).foldlM stepR []).bind fun out => if writeB out = s then some out else none
theorem parseP_text {gs : List (List Nt × UInt8)} (h : fineB gs = true) (hr : NumsOk gs) : parseP (textL gs) = some gs := by
  unfold parseP
  by_cases h0 : gs = []
  · subst h0; rfl
  · obtain ⟨ls, t, hl⟩ : ∃ ls t, linesT gs = ls ++ [t] := by
      have hne : linesT gs ≠ [] := by
        cases gs with
        | nil => exact absurd rfl h0
        | cons g gs => simp [linesT, linesG]
      exact ⟨_, _, (List.dropLast_concat_getLast hne).symm⟩
    have hno := lines_no h
    have ht : textL gs = (ends ls ++ t) ++ [10] := by
      rw [← ends_text, hl, ends_append]; simp [ends]
    rw [if_neg (by rw [ht]; simp)]
    have h1 : Lib.trimSuffix (textL gs) [10] = ends ls ++ t := by
      rw [ht]
      unfold Lib.trimSuffix Lib.hasSuffix
      rw [if_pos (List.isSuffixOf_iff_suffix.2 (List.suffix_append _ _)), List.take_left' (by simp)]
    have h2 : spl 10 (ends ls ++ t) = linesT gs := by
      have h3 := spl_ends (linesT gs) hno
      rw [ends_text, ht, spl_app] at h3
      exact (List.append_inj' h3 rfl).1
    rw [h1, h2, foldP_lines h hr]
    show (if writeB gs = textL gs then some gs else none) = _
    rw [if_pos (by unfold writeB; rw [h]; rfl)]
theorem parseR_text {gs : List (List Nt × UInt8)} (h : fineB gs = true) (hr : NumsOk gs) : parseR (textL gs) = some gs := by
  unfold parseR
  rw [← ends_text, spl_ends _ (lines_no h), fold_snoc, foldR_lines h hr, ends_text]
  show (Option.bind (stepR gs []) _) = _
  have : stepR gs [] = some gs := by unfold stepR; rw [if_neg (by simp), if_pos rfl]
  rw [this]
  show (if writeB gs = textL gs then some gs else none) = _
  rw [if_pos (by unfold writeB; rw [h]; rfl)]
theorem size_lines {s : List UInt8} (hs : s.length ≤ 100000) : ∀ t ∈ spl 10 s, t.length ≤ 100000 := fun t ht => Nat.le_trans (spl_size 10 s t ht) hs
theorem nums_of {n : Nat} {out : List (List Nt × UInt8)} (h : OutOk n out) : NumsOk out := fun g hg x hx => ⟨((h.notes g hg).2 x hx).n0, ((h.notes g hg).2 x hx).n1⟩
theorem trim_len (s : List UInt8) : (Lib.trimSuffix s [10]).length ≤ s.length := by
  unfold Lib.trimSuffix
  split
  · rw [List.length_take]; omega
  · omega
/-- what comes of either is just what the text says. -/
theorem parse_same (s : List UInt8) (hs : s.length ≤ 100000) : parseP s = parseR s := by
  by_cases h0 : s = []
  · subst h0; rfl
  have keyP : ∀ out, parseP s = some out → writeB out = s ∧ NumsOk out := fun out h => by
    unfold parseP at h
    rw [if_neg h0] at h
    cases hf : (spl 10 (Lib.trimSuffix s [10])).foldlM stepP [] with
    | none => rw [hf] at h; cases h
    | some o =>
      rw [hf] at h
      simp only [Option.bind_some] at h
      split at h
      · rename_i hw
        injection h with h; subst h
        exact ⟨hw, nums_of (fold_ok stepP_ok _ (size_lines (Nat.le_trans (trim_len s) hs)) hf)⟩
      · cases h
  have keyR : ∀ out, parseR s = some out → writeB out = s ∧ NumsOk out := fun out h => by
    unfold parseR at h
    cases hf : (spl 10 s).foldlM stepR [] with
    | none => rw [hf] at h; cases h
    | some o =>
      rw [hf] at h
      simp only [Option.bind_some] at h
      split at h
      · rename_i hw
        injection h with h; subst h
        exact ⟨hw, nums_of (fold_ok stepR_ok _ (size_lines hs) hf)⟩
      · cases h
  have fine : ∀ out, writeB out = s → fineB out = true ∧ textL out = s := fun out h => by
    unfold writeB at h
    split at h
    · rename_i hf; exact ⟨hf, h⟩
    · exact absurd h.symm h0
  cases hp : parseP s with
  | some out =>
    obtain ⟨h1, h2⟩ := keyP out hp
    obtain ⟨h3, h4⟩ := fine out h1
    rw [← h4, parseR_text h3 h2]
  | none =>
    cases hr : parseR s with
    | none => rfl
    | some out =>
      obtain ⟨h1, h2⟩ := keyR out hr
      obtain ⟨h3, h4⟩ := fine out h1
      rw [← h4, parseP_text h3 h2] at hp
      cases hp
theorem parse_write {s : List UInt8} {out : List (List Nt × UInt8)} (h : parseR s = some out) : writeB out = s := by
  unfold parseR at h
  cases hf : (spl 10 s).foldlM stepR [] with
  | none => rw [hf] at h; cases h
  | some o =>
    rw [hf] at h
    simp only [Option.bind_some] at h
    split at h
    · rename_i hw
      injection h with h; subst h; exact hw
    · cases h
end Go.Proofs.YtcjllikngfndhaaDoor

/- Groups of the call's own: append a group, give one its end, give one another list of notes. No walk. -/
namespace Go.Proofs.YtcjllikngfndhaaDoor

open Go.RowKit

/-- a group's notes, in a row of the call's own. -/
def NR (w : World) (base : Nat) (g : Gr) : Prop := w.ownsRow base 29 5 (.slice g.a g.notes.length g.c) g.notes.length (g.notes.flatMap Nt.cs)
/-- groups of the call's own. -/
structure OG (w : World) (base : Nat) (v : Value) (gs : List Gr) : Prop where
  own : w.ownsRow base 27 2 v gs.length (gs.flatMap Gr.cs)
  notes : ∀ i (h : i < gs.length), NR w base gs[i]
  sep : ∀ i j (hi : i < gs.length) (hj : j < gs.length), i ≠ j → gs[i].a = gs[j].a → gs[i].a = none
theorem own_obj {w : World} {base sz n k : Nat} {e : TypeId} {v : Value} {xs : List Value} (h : w.ownsRow base e sz v n xs) (hk : v.ownBlock = some k) : base ≤ k ∧ ∃ cur, w.heap[k]? = some (.cells cur e (0, 0)) := by
  rcases h.2 with ⟨rfl, -⟩ | ⟨g, cap, cur, rfl, hb, hg, -⟩
  · cases hk
  · simp only [Value.ownBlock, Option.some.injEq] at hk
    subst hk
    exact ⟨hb, cur, hg⟩
theorem own_apart {w : World} {base base' sz sz' n n' k : Nat} {e e' : TypeId} {v v' : Value} {xs xs' : List Value} (he : e ≠ e') (h : w.ownsRow base e sz v n xs) (h' : w.ownsRow base' e' sz' v' n' xs') (hk : v.ownBlock = some k) : v'.ownBlock ≠ some k := fun hk' => by
  obtain ⟨-, cur, h1⟩ := own_obj h hk
  obtain ⟨-, cur', h2⟩ := own_obj h' hk'
  rw [h1] at h2
  injection h2 with h2
  injection h2 with _ h2
  exact he h2
theorem og_ne : 27 ≠ 29 := by decide
theorem OG.nil (w : World) (base : Nat) : OG w base (.slice none 0 0) [] := ⟨World.ownsRow_nil _ _ _ _, fun i h => by simp at h, fun i j hi => by simp at hi⟩
theorem OG.keep {w w' : World} {base : Nat} {v : Value} {gs : List Gr} (h : OG w base v gs) (hb : Below w.heap.size w w') : OG w' base v gs :=
  ⟨own_below h.own hb (Nat.le_refl _), fun i hi => own_below (h.notes i hi) hb (Nat.le_refl _), h.sep⟩
/-- all that matters to such groups: their own blocks. -/
theorem OG.turn {w w' : World} {base : Nat} {v : Value} {gs : List Gr} (h : OG w base v gs) (ht : ∀ k cur T, base ≤ k → w.heap[k]? = some (.cells cur T (0, 0)) → w'.heap[k]? = some (.cells cur T (0, 0))) : OG w' base v gs := by
  have key : ∀ {e : TypeId} {sz n : Nat} {v : Value} {xs : List Value}, w.ownsRow base e sz v n xs → w'.ownsRow base e sz v n xs := fun h =>
    ⟨h.1, h.2.imp id fun ⟨g, cap, cur, hv, hb, hg, rest⟩ => ⟨g, cap, cur, hv, hb, ht _ _ _ hb hg, rest⟩⟩
  exact ⟨key h.own, fun i hi => key (h.notes i hi), h.sep⟩
theorem OG.form {w : World} {base : Nat} {v : Value} {gs : List Gr} (h : OG w base v gs) : ∃ a c, v = .slice a gs.length c ∧ gs.length ≤ c ∧ c ≤ 9223372036854775807 ∧ ((a = none ∧ gs.length = 0 ∧ c = 0) ∨ ∃ g, a = some ⟨g, 0, none⟩ ∧ base ≤ g ∧ g < w.heap.size) := own_form h.own
theorem OG.grs {w : World} {base c : Nat} {a : Option Addr} {gs : List Gr} (h : OG w base (.slice a gs.length c) gs) : Grs w a c gs :=
  ⟨own_slice (R := grR) (by omega) Gr.cs_len (fun _ => rfl) h.own, fun g hg => by
    obtain ⟨i, hi, rfl⟩ := List.mem_iff_getElem.1 hg
    exact own_slice (R := ntR) (by omega) Nt.cs_len (fun _ => rfl) (h.notes i hi)⟩
theorem gr_info : (Tryd.prog.info? 27).map (fun i => (i.zero, i.size, i.bytes)) = some (some (.agg #[.slice none 0 0, .int .u8 0]), 2, 32) := by kernel_rfl
theorem nt_info : (Tryd.prog.info? 29).map (fun i => (i.zero, i.size, i.bytes)) = some (some (.agg #[.int .u8 0, .int .i64 0, .string ByteArray.empty, .string ByteArray.empty, .string ByteArray.empty]), 5, 64) := by kernel_rfl
/-- a group without notes, not done. -/
def Gr.zero : Gr := ⟨none, 0, [], 0⟩
theorem keeps_mod {S : Nat → Prop} {w W : World} (h : Mod S w W) (hS : ∀ k, S k → ∃ cur T fz, w.heap[k]? = some (.cells cur T fz)) : KeepsOthers w W :=
  ⟨h.size, fun k o hk ho => (h.block k (Array.getElem?_eq_some_iff.1 hk).1 (fun hs => by obtain ⟨cur, T, fz, hc⟩ := hS k hs; rw [hc] at hk; injection hk with hk; subst hk; cases ho)).trans hk⟩
theorem OG.app {w : World} {base : Nat} {v : Value} {gs : List Gr} (h : OG w base v gs) (hl : gs.length ≤ 1000000) (hb : base ≤ w.heap.size) :
    ∃ g cap W, (Builtin.append_ #[22, 22] 22 #[v, .slice (some ⟨w.heap.size, 0, none⟩) 1 1]).run Tryd.prog (w.alloc (.cells #[.slice none 0 0, .int .u8 0] 27)) = .ok (.slice (some ⟨g, 0, none⟩) (gs.length + 1) cap) W ∧
      OG W base (.slice (some ⟨g, 0, none⟩) (gs.length + 1) cap) (gs ++ [Gr.zero]) ∧ Below base w W ∧ KeepsOthers w W := by
  obtain ⟨i0, hi, hz0, hz1, hz2⟩ := info_parts gr_info
  have h2 := h.keep ((Below.refl _ w).alloc (Nat.le_refl _) (.cells #[.slice none 0 0, .int .u8 0] 27))
  obtain ⟨g, cap, W, h3, h4, h5, h6⟩ := step_app 22 Tryd.underlying22 hi hz0 hz1 hz2 rfl (by omega) h2.own ⟨w.heap.size, 0, none⟩ 1 1 [.slice none 0 0, .int .u8 0] rfl (World.news_of_block (Blk.new w #[.slice none 0 0, .int .u8 0] 27)) (by intro u hu; simp at hu; rcases hu with rfl | rfl <;> rfl) (by omega) (by unfold maxLen; omega) (by omega) (by simp; omega)
  refine ⟨g, cap, W, h3, ⟨?_, fun i hi => ?_, fun i j hi hj hij he => ?_⟩, ?_, (KeepsOthers.alloc _ _).trans (keeps_mod h5 (fun k hk => by obtain ⟨-, cur, hc⟩ := own_obj h2.own hk; exact ⟨_, _, _, hc⟩))⟩
  · rw [List.length_append, List.length_singleton, List.flatMap_append]
    exact h4
  · by_cases hlt : i < gs.length
    · rw [List.getElem_append_left hlt]
      exact own_mod (h2.notes i hlt) h5 (fun k hk => own_apart og_ne h2.own (h2.notes i hlt) hk)
    · have : i = gs.length := by simp at hi; omega
      subst this
      rw [List.getElem_append_right (by omega)]
      simp only [Nat.sub_self, List.getElem_singleton]
      exact World.ownsRow_nil _ _ _ _
  · by_cases h1 : i < gs.length
    · rw [List.getElem_append_left h1] at he ⊢
      by_cases h2 : j < gs.length
      · rw [List.getElem_append_left h2] at he
        exact h.sep i j h1 h2 hij he
      · have : j = gs.length := by simp at hj; omega
        subst this
        rw [List.getElem_append_right (by omega)] at he
        simpa [Gr.zero] using he
    · have : i = gs.length := by simp at hi; omega
      subst this
      rw [List.getElem_append_right (by omega)]
      simp [Gr.zero]
  · exact ((Below.refl base w).alloc hb _).trans (h5.below (fun k hk => (own_obj h2.own hk).1) (by simp; omega))

/-- one cell of an own row. -/
theorem own_cell {w : World} {base sz n g cap : Nat} {e : TypeId} {xs : List Value} (h : w.ownsRow base e sz (.slice (some ⟨g, 0, none⟩) n cap) n xs) (j : Nat) (hj : j < xs.length) (v : Value) :
    (w.setCell ⟨g, j, none⟩ v).ownsRow base e sz (.slice (some ⟨g, 0, none⟩) n cap) n (xs.set j v) := by
  rcases h.2 with ⟨hv, -⟩ | ⟨g', cap', cur, hv, hb, hg, h1, h2, h3, h4⟩
  · cases hv
  · injection hv with e1 e2 e3
    injection e1 with e1
    injection e1 with e1
    subst e1 e3
    refine ⟨by rw [List.length_set]; exact h.1, .inr ⟨g, cap, _, rfl, hb, Blk.set hg j v, h1, h2, by rw [Array.size_setIfInBounds]; exact h3, ?_⟩⟩
    rw [Array.toList_setIfInBounds, List.take_set, h4]
theorem flat_set0 (gs : List Gr) (k : Nat) (hk : k < gs.length) (g' : Gr) (h : g'.fin = gs[k].fin) : (gs.flatMap Gr.cs).set (k * 2) (.slice g'.a g'.notes.length g'.c) = (gs.set k g').flatMap Gr.cs := by
  have h1 := setAll_flat Gr.cs_len g' gs k hk
  have h2 := flat_get Gr.cs_len gs k 1 hk (by omega)
  rw [← h1]
  show _ = ((gs.flatMap Gr.cs).set (k * 2) _).set (k * 2 + 1) (.int .u8 g'.fin.toNat)
  have hlt : k * 2 + 1 < (gs.flatMap Gr.cs).length := by rw [flat_len Gr.cs_len]; omega
  have h3 : (gs.flatMap Gr.cs)[k * 2 + 1] = .int .u8 g'.fin.toNat := by
    rw [List.getElem?_eq_getElem hlt] at h2
    rw [h]
    simpa [Gr.cs] using h2
  have h4 : ((gs.flatMap Gr.cs).set (k * 2) (.slice g'.a g'.notes.length g'.c))[k * 2 + 1]'(by rw [List.length_set]; exact hlt) = .int .u8 g'.fin.toNat := by
    rw [List.getElem_set_ne (by omega)]; exact h3
  rw [← h4, List.set_getElem_self]
theorem flat_set1 (gs : List Gr) (k : Nat) (hk : k < gs.length) (f : UInt8) : (gs.flatMap Gr.cs).set (k * 2 + 1) (.int .u8 f.toNat) = (gs.set k { gs[k] with fin := f }).flatMap Gr.cs := by
  have h1 := setAll_flat Gr.cs_len { gs[k] with fin := f } gs k hk
  have h2 := flat_get Gr.cs_len gs k 0 hk (by omega)
  rw [← h1]
  show _ = ((gs.flatMap Gr.cs).set (k * 2) (.slice gs[k].a gs[k].notes.length gs[k].c)).set (k * 2 + 1) (.int .u8 f.toNat)
  have hlt : k * 2 < (gs.flatMap Gr.cs).length := by rw [flat_len Gr.cs_len]; omega
  have h3 : (gs.flatMap Gr.cs)[k * 2] = .slice gs[k].a gs[k].notes.length gs[k].c := by
    rw [Nat.add_zero, List.getElem?_eq_getElem hlt] at h2
    simpa [Gr.cs] using h2
  rw [← h3, List.set_getElem_self]
theorem flat_len2 (gs : List Gr) : (gs.flatMap Gr.cs).length = gs.length * 2 := flat_len Gr.cs_len gs
/-- group k gets another end. -/
theorem OG.fin {w : World} {base g cap : Nat} {gs : List Gr} (h : OG w base (.slice (some ⟨g, 0, none⟩) gs.length cap) gs) (k : Nat) (hk : k < gs.length) (f : UInt8) :
    OG (w.setCell ⟨g, k * 2 + 1, none⟩ (.int .u8 f.toNat)) base (.slice (some ⟨g, 0, none⟩) gs.length cap) (gs.set k { gs[k] with fin := f }) := by
  refine ⟨?_, fun i hi => ?_, fun i j hi hj hij he => ?_⟩
  · rw [List.length_set, ← flat_set1]
    exact own_cell h.own _ (by rw [flat_len2]; omega) _
  · rw [List.length_set] at hi
    have key := own_mod (h.notes i hi) ((Mod.refl (fun k => k = g) w).setCell (a := ⟨g, k * 2 + 1, none⟩) (.inl rfl) (.int .u8 f.toNat)) (fun k hk => by subst hk; exact own_apart og_ne h.own (h.notes i hi) rfl)
    rw [List.getElem_set]
    split
    · rename_i e; subst e; exact key
    · exact key
  · rw [List.length_set] at hi hj
    have key : ∀ i (hi : i < gs.length), ((gs.set k { gs[k] with fin := f })[i]'(by rw [List.length_set]; exact hi)).a = gs[i].a := fun i hi => by
      rw [List.getElem_set]; split
      · rename_i e; subst e; rfl
      · rfl
    rw [key i hi, key j hj] at he
    rw [key i hi]
    exact h.sep i j hi hj hij he
/-- group k gets other notes, that lie in a row of the call's own. -/
theorem OG.put {w : World} {base g cap : Nat} {gs : List Gr} (k : Nat) (hk : k < gs.length) (gn : Gr)
    (ho : w.ownsRow base 27 2 (.slice (some ⟨g, 0, none⟩) gs.length cap) gs.length (gs.flatMap Gr.cs)) (hn : ∀ i (hi : i < gs.length), i ≠ k → NR w base gs[i])
    (hs : ∀ i j (hi : i < gs.length) (hj : j < gs.length), i ≠ j → gs[i].a = gs[j].a → gs[i].a = none) (hr : NR w base gn) (hs2 : ∀ i (hi : i < gs.length), i ≠ k → gs[i].a = gn.a → gn.a = none) (hf : gn.fin = gs[k].fin) :
    OG (w.setCell ⟨g, k * 2, none⟩ (.slice gn.a gn.notes.length gn.c)) base (.slice (some ⟨g, 0, none⟩) gs.length cap) (gs.set k gn) := by
  have hm := (Mod.refl (fun k => k = g) w).setCell (a := ⟨g, k * 2, none⟩) (.inl rfl) (.slice gn.a gn.notes.length gn.c)
  refine ⟨?_, fun i hi => ?_, fun i j hi hj hij he => ?_⟩
  · rw [List.length_set, ← flat_set0 gs k hk gn hf]
    exact own_cell ho _ (by rw [flat_len2]; omega) _
  · rw [List.length_set] at hi
    rw [List.getElem_set]
    split
    · exact own_mod hr hm (fun k hk => by subst hk; exact own_apart og_ne ho hr rfl)
    · rename_i e
      exact own_mod (hn i hi (fun e2 => e e2.symm)) hm (fun k hk => by subst hk; exact own_apart og_ne ho (hn i hi (fun e2 => e e2.symm)) rfl)
  · rw [List.length_set] at hi hj
    simp only [List.getElem_set] at he ⊢
    by_cases h1 : k = i
    · rw [if_pos h1] at he ⊢
      rw [if_neg (by omega)] at he
      exact hs2 j hj (by omega) he.symm
    · rw [if_neg h1] at he ⊢
      by_cases h2 : k = j
      · rw [if_pos h2] at he
        rw [he]
        exact hs2 i hi (by omega) he
      · rw [if_neg h2] at he
        exact hs i j hi hj hij he
end Go.Proofs.YtcjllikngfndhaaDoor

/- Groups of the call's own: a note more. No walk. -/
namespace Go.Proofs.YtcjllikngfndhaaDoor

open Go.RowKit

theorem oneCell_nt (x : Nt) : ∀ u ∈ x.cs, u.oneCell' = true := by
  intro u hu
  simp [Nt.cs] at hu
  rcases hu with rfl | rfl | rfl | rfl | rfl <;> rfl
set_option maxRecDepth 100000 in
theorem NR.app {w : World} {base : Nat} {g : Gr} (h : NR w base g) (x : Nt) (hl : g.notes.length ≤ 1000000) (hb : base ≤ w.heap.size) :
    ∃ b cap W, (Builtin.append_ #[25, 25] 25 #[.slice g.a g.notes.length g.c, .slice (some ⟨w.heap.size, 0, none⟩) 1 1]).run Tryd.prog (w.alloc (.cells x.cs.toArray 29)) = .ok (.slice (some ⟨b, 0, none⟩) (g.notes.length + 1) cap) W ∧
      NR W base ⟨some ⟨b, 0, none⟩, cap, g.notes ++ [x], g.fin⟩ ∧ Mod (fun k => (Value.slice g.a g.notes.length g.c).ownBlock = some k) (w.alloc (.cells x.cs.toArray 29)) W ∧ (g.a = some ⟨b, 0, none⟩ ∨ b = w.heap.size + 1) ∧ base ≤ b := by
  obtain ⟨i0, hi, hz0, hz1, hz2⟩ := info_parts nt_info
  have h2 : NR (w.alloc (.cells x.cs.toArray 29)) base g := own_below h ((Below.refl _ w).alloc (Nat.le_refl _) _) (Nat.le_refl _)
  obtain ⟨b, cap, W, h3, h4, h5, h6⟩ := step_app 25 Tryd.underlying25 hi hz0 hz1 hz2 rfl (by omega) h2 ⟨w.heap.size, 0, none⟩ 1 1 x.cs rfl (World.news_of_block (Blk.new w x.cs.toArray 29)) (oneCell_nt x) (by omega) (by unfold maxLen; omega) (by omega) (by simp; omega)
  refine ⟨b, cap, W, h3, ?_, h5, ?_, ?_⟩
  · unfold NR
    simp only [List.length_append, List.length_singleton, List.flatMap_append]
    exact h4
  · rcases h6 with h6 | h6
    · left
      have := own_form h2
      obtain ⟨a, c, hv, -, -, h7⟩ := this
      injection hv with e1 e2 e3
      rw [e1] at h6 ⊢
      rcases h7 with ⟨rfl, -⟩ | ⟨b', rfl, -⟩
      · cases h6
      · simp only [Value.ownBlock, Option.some.injEq] at h6
        rw [h6]
    · right; rw [h6]; simp
  · exact (own_obj h4 rfl).1
set_option maxRecDepth 100000 in
/-- diary.Parse's step: group k gets a note more. -/
theorem OG.note {w : World} {base b c : Nat} {gs : List Gr} (h : OG w base (.slice (some ⟨b, 0, none⟩) gs.length c) gs) (k : Nat) (hk : k < gs.length) (x : Nt) (hl : gs[k].notes.length ≤ 1000000) (hb : base ≤ w.heap.size) :
    ∃ g cap W, (Builtin.append_ #[25, 25] 25 #[.slice gs[k].a gs[k].notes.length gs[k].c, .slice (some ⟨w.heap.size, 0, none⟩) 1 1]).run Tryd.prog (w.alloc (.cells x.cs.toArray 29)) = .ok (.slice (some ⟨g, 0, none⟩) (gs[k].notes.length + 1) cap) W ∧
      OG (W.setCell ⟨b, k * 2, none⟩ (.slice (some ⟨g, 0, none⟩) (gs[k].notes.length + 1) cap)) base (.slice (some ⟨b, 0, none⟩) gs.length c) (gs.set k ⟨some ⟨g, 0, none⟩, cap, gs[k].notes ++ [x], gs[k].fin⟩) ∧
      Below base w W ∧ (∀ i, W.cell? ⟨b, i, none⟩ = w.cell? ⟨b, i, none⟩) ∧ (∀ i, W.frozen? ⟨b, i, none⟩ = false) ∧ base ≤ b ∧ KeepsOthers w W ∧ (∀ j, j < w.heap.size → (∀ a, gs[k].a = some a → a.block ≠ j) → W.heap[j]? = w.heap[j]?) := by
  have hA := (Below.refl _ w).alloc (Nat.le_refl _) (.cells x.cs.toArray 29)
  have h2 := h.keep hA
  obtain ⟨g, cap, W, h3, h4, h5, h6, h7⟩ := (h.notes k hk).app x hl hb
  have hnk := h2.notes k hk
  have hoW := own_mod h2.own h5 (fun i hi => own_apart (Ne.symm og_ne) hnk h2.own hi)
  have hbm : b < w.heap.size := by
    obtain ⟨-, cur, hc⟩ := own_obj h.own rfl
    exact (Array.getElem?_eq_some_iff.1 hc).1
  refine ⟨g, cap, W, h3, ?_, ?_, ?_, ?_, (own_obj h.own rfl).1, (KeepsOthers.alloc _ _).trans (keeps_mod h5 (fun k hk => by obtain ⟨-, cur, hc⟩ := own_obj hnk hk; exact ⟨_, _, _, hc⟩)), fun j hj hne => (h5.block j (by simp; omega) (fun hs => by
    cases ha : gs[k].a with
    | none => rw [ha] at hs; cases hs
    | some a =>
      rw [ha] at hs
      simp only [Value.ownBlock, Option.some.injEq] at hs
      exact hne a ha hs)).trans (Below.heap_alloc _ _ _ hj)⟩
  · have hp := OG.put (w := W) (base := base) (g := b) (cap := c) (gs := gs) k hk ⟨some ⟨g, 0, none⟩, cap, gs[k].notes ++ [x], gs[k].fin⟩ hoW (fun i hi hik => ?_) h.sep h4 (fun i hi hik he => ?_) rfl
    · simp only [List.length_append, List.length_singleton] at hp
      exact hp
    · refine own_mod (h2.notes i hi) h5 (fun j hj => ?_)
      intro hj2
      have := h.sep i k hi hk hik
      cases ha : gs[i].a with
      | none => rw [ha] at hj2; cases hj2
      | some a1 =>
        cases ha2 : gs[k].a with
        | none => rw [ha2] at hj; cases hj
        | some a2 =>
          rw [ha, ha2] at this
          rw [ha] at hj2
          rw [ha2] at hj
          have f1 := own_form (h.notes i hi)
          have f2 := own_form (h.notes k hk)
          obtain ⟨_, _, e1, -, -, f1⟩ := f1
          obtain ⟨_, _, e2, -, -, f2⟩ := f2
          injection e1 with e1
          injection e2 with e2
          subst e1 e2
          rw [ha] at f1
          rw [ha2] at f2
          rcases f1 with ⟨f1, -⟩ | ⟨b1, f1, -⟩
          · cases f1
          · rcases f2 with ⟨f2, -⟩ | ⟨b2, f2, -⟩
            · cases f2
            · injection f1 with f1
              injection f2 with f2
              subst f1 f2
              simp only [Value.ownBlock, Option.some.injEq] at hj hj2
              subst hj hj2
              exact absurd (this rfl) (by simp)
    · rcases h6 with h6 | h6
      · have := h.sep i k hi hk hik (by rw [h6]; exact he)
        rw [this] at he
        exact absurd he (by simp)
      · exfalso
        have f1 := own_form (h.notes i hi)
        obtain ⟨_, _, e1, -, -, f1⟩ := f1
        injection e1 with e1
        subst e1
        rcases f1 with ⟨f1, -⟩ | ⟨b1, f1, -, f3⟩
        · rw [f1] at he; cases he
        · rw [f1] at he
          injection he with he
          injection he with he
          omega
  · exact ((Below.refl base w).alloc hb _).trans (h5.below (fun j hj => (own_obj hnk hj).1) (by simp; omega))
  · intro i
    have e : W.heap[b]? = w.heap[b]? := by
      rw [h5.block b (by simp; omega) (fun hs => own_apart (Ne.symm og_ne) hnk h2.own hs rfl)]
      exact Below.heap_alloc _ _ _ hbm
    simp only [World.cell?, e]
  · intro i
    obtain ⟨-, cur, hc⟩ := own_obj hoW rfl
    exact Blk.frozen (w := W) hc i
set_option maxRecDepth 100000 in
/-- the reference's first step: the notes of group k anew. -/
theorem OG.copy {w : World} {base b c : Nat} {gs : List Gr} (h : OG w base (.slice (some ⟨b, 0, none⟩) gs.length c) gs) (k : Nat) (hk : k < gs.length) (hl : gs[k].notes.length ≤ 1000000) (hb : base ≤ w.heap.size) :
    ∃ a' c' W, (Builtin.append_ #[25, 25] 25 #[.slice none 0 0, .slice gs[k].a gs[k].notes.length gs[k].c]).run Tryd.prog w = .ok (.slice a' gs[k].notes.length c') W ∧
      NR W base ⟨a', c', gs[k].notes, gs[k].fin⟩ ∧ Below w.heap.size w W ∧ (∀ a, a' = some a → w.heap.size ≤ a.block) := by
  obtain ⟨i0, hi, hz0, hz1, hz2⟩ := info_parts nt_info
  rcases Nat.eq_zero_or_pos gs[k].notes.length with h0 | hpos
  · have hn : gs[k].notes = [] := List.eq_nil_of_length_eq_zero h0
    refine ⟨none, 0, w, ?_, ?_, Below.refl _ _, fun a e => by cases e⟩
    · rw [h0]
      exact step_app_nil (base := base) (sz := 5) (n := 0) (xs := []) 25 Tryd.underlying25 hi (World.ownsRow_nil _ _ _ _) _ _
    · unfold NR
      simp only [hn]
      exact World.ownsRow_nil _ _ _ _
  · obtain ⟨-, -, -, h1 | ⟨b1, off, ha, hlt, hel⟩⟩ := own_slice (R := fun cs x => cs = Nt.cs x) (by omega) Nt.cs_len (fun _ => rfl) (h.notes k hk)
    · omega
    · have hf := own_form (h.notes k hk)
      obtain ⟨_, _, e1, -, -, f1⟩ := hf
      injection e1 with e1
      subst e1
      rcases f1 with ⟨f1, f2, -⟩ | ⟨b2, f1, -⟩
      · omega
      · have hoff : b2 = b1 ∧ off = 0 := by rw [f1] at ha; injection ha with ha; injection ha with e1 e2; exact ⟨e1, e2.symm⟩
        obtain ⟨rfl, rfl⟩ := hoff
        have hnews : ∀ j u, (gs[k].notes.flatMap Nt.cs)[j]? = some u → w.cell? ((⟨b2, 0, none⟩ : Addr).add j) = some u := by
          have := own_part (enc := Nt.cs) (by omega) Nt.cs_len (show w.ownsRow base 29 5 (.slice (some ⟨b2, 0, none⟩) gs[k].notes.length gs[k].c) gs[k].notes.length (gs[k].notes.flatMap Nt.cs) by have := h.notes k hk; unfold NR at this; rw [f1] at this; exact this) 0 gs[k].notes.length (by omega)
          simpa using this
        obtain ⟨g, cap, W, h3, h4, h5, h6⟩ := step_app 25 Tryd.underlying25 hi hz0 hz1 hz2 rfl (by omega) (World.ownsRow_nil w base 29 5) ⟨b2, 0, none⟩ gs[k].notes.length gs[k].c (gs[k].notes.flatMap Nt.cs) (flat_len Nt.cs_len _) hnews
          (by intro u hu; obtain ⟨x, -, hx⟩ := List.mem_flatMap.1 hu; exact oneCell_nt x u hx) hpos (by unfold maxLen; omega) (by omega) hb
        rw [Nat.zero_add, List.nil_append] at h4
        rw [Nat.zero_add] at h3
        refine ⟨some ⟨g, 0, none⟩, cap, W, by rw [f1]; exact h3, h4, ?_, fun a e => ?_⟩
        · exact h5.below (fun j hj => by cases hj) (Nat.le_refl _)
        · injection e with e
          subst e
          rcases h6 with h6 | h6
          · cases h6
          · exact Nat.le_of_eq h6.symm
theorem NR.block {w : World} {base : Nat} {g : Gr} (h : NR w base g) {a : Addr} (ha : g.a = some a) : a = ⟨a.block, 0, none⟩ ∧ a.block < w.heap.size := by
  obtain ⟨_, _, e1, -, -, f1⟩ := own_form h
  injection e1 with e1
  subst e1
  rcases f1 with ⟨f1, -⟩ | ⟨b1, f1, -, f3⟩
  · rw [f1] at ha; cases ha
  · rw [f1] at ha; injection ha with ha; subst ha; exact ⟨rfl, f3⟩
/-- group k gets the notes of a new row, that was built behind all that lay. -/
theorem OG.renote {w W2 W : World} {base b c : Nat} {gs : List Gr} (h : OG w base (.slice (some ⟨b, 0, none⟩) gs.length c) gs) (k : Nat) (hk : k < gs.length) (gL gn : Gr) (hb : Below w.heap.size w W2) (hL : NR W2 base gL)
    (hfr : ∀ a, gL.a = some a → w.heap.size ≤ a.block) (hm : Mod (fun j => (Value.slice gL.a gL.notes.length gL.c).ownBlock = some j) W2 W) (hn : NR W base gn) (hor : gL.a = gn.a ∨ ∃ b2, gn.a = some ⟨b2, 0, none⟩ ∧ w.heap.size ≤ b2) (hf : gn.fin = gs[k].fin) :
    OG (W.setCell ⟨b, k * 2, none⟩ (.slice gn.a gn.notes.length gn.c)) base (.slice (some ⟨b, 0, none⟩) gs.length c) (gs.set k gn) ∧ (∀ i, W.cell? ⟨b, i, none⟩ = w.cell? ⟨b, i, none⟩) ∧ (∀ i, W.frozen? ⟨b, i, none⟩ = false) ∧ b < W.heap.size := by
  have hS : ∀ j, (Value.slice gL.a gL.notes.length gL.c).ownBlock = some j → w.heap.size ≤ j := fun j hj => by
    cases ha : gL.a with
    | none => rw [ha] at hj; cases hj
    | some a =>
      rw [ha] at hj
      simp only [Value.ownBlock, Option.some.injEq] at hj
      subst hj
      exact hfr a ha
  have hBW : Below w.heap.size w W := hb.trans (hm.below hS hb.size)
  have h2 := h.keep hBW
  obtain ⟨-, cur, hc⟩ := own_obj h.own rfl
  have hbm := (Array.getElem?_eq_some_iff.1 hc).1
  refine ⟨OG.put k hk gn h2.own (fun i hi _ => h2.notes i hi) h.sep hn (fun i hi _ he => ?_) hf, fun i => hBW.cell (p := ⟨b, i, none⟩) hbm, fun i => ?_, Nat.lt_of_lt_of_le hbm hBW.size⟩
  · cases ha : gn.a with
    | none => rfl
    | some a =>
      exfalso
      have h3 := ((h.notes i hi).block (he.trans ha)).2
      rcases hor with hor | ⟨b2, hb2, hb3⟩
      · have := hfr a (hor.trans ha)
        omega
      · rw [ha] at hb2
        injection hb2 with hb2
        subst hb2
        exact absurd h3 (by simpa using hb3)
  · rw [hBW.frozen (p := ⟨b, i, none⟩) hbm]
    exact Blk.frozen (w := w) hc i
end Go.Proofs.YtcjllikngfndhaaDoor

/- ragpickerref06.Lines: a text parted at byte 10. -/
namespace Go.Proofs.YtcjllikngfndhaaDoor

open Go.RowKit

set_option maxRecDepth 100000 in
set_option maxHeartbeats 1000000 in
theorem lines_any (s : ByteArray) (w : World) (hs : s.size ≤ 100000) :
    Calls Tryd.prog 25 #[.string s] w fun e w' => (∃ g cap, e = .returned (.slice (some ⟨g, 0, none⟩) (spl 10 s.data.toList).length cap) ∧ OS w' w.heap.size (.slice (some ⟨g, 0, none⟩) (spl 10 s.data.toList).length cap) (spl 10 s.data.toList)) ∧ Below w.heap.size w w' := by
  go_enter Tryd.func25, Tryd.ntmps25
  go_wp2_with fail
  go_loopw [3, 4] (fun t3 t4 wr => ∃ (k g cap : Nat) (ls : List (List UInt8)), k ≤ s.size ∧ t4 = .int .i64 k ∧ t3 = .slice (some ⟨g, 0, none⟩) ls.length cap ∧ OS wr w.heap.size (.slice (some ⟨g, 0, none⟩) ls.length cap) ls ∧ ls = spl 10 (s.data.toList.take k) ∧ Below w.heap.size w wr) (fun _ t4 _ => s.size - (intOf t4).toNat)
  case atStart => exact ⟨0, w.heap.size, 1, [[]], Nat.zero_le _, rfl, rfl, OS.one w _ [] (Nat.le_refl _), by simp [spl], balloc (Below.refl _ _) _⟩
  case round =>
    obtain ⟨k, g, cap, ls, hk, rfl, rfl, hO, hls, hW⟩ := hrel
    have hll : 0 < ls.length ∧ ls.length ≤ 100001 := by
      have h1 := spl_len 10 (s.data.toList.take k)
      have h2 : (s.data.toList.take k).length ≤ k := List.length_take_le _ _
      rw [hls]; omega
    have HO := Lib.hid hO
    have HLs := Lib.hid hls
    have HW := Lib.hid hW
    obtain ⟨hl0, hl1⟩ := hll
    by_cases hlt : k < s.size
    · have Hst := Lib.hid (take_step s k hlt)
      by_cases hc : s[k] = 10
      · have hc1 : ((s[k].toNat : Int) == 10) = true := by rw [hc]; rfl
        have HC := Lib.hid hc
        obtain ⟨g2, cap2, W, hrun, hO2, hB2⟩ := hO.app [] (by omega) hW.size
        have HR := Lib.hid hrun
        have HX := Lib.hid (And.intro hO2 hB2)
        clear hc hO hls hW hrun hO2 hB2
        go_wp2_with (at_builtin; refine wpList_app_run rfl rfl rfl rfl HR.out ?_)
        go_roundw
        case measure => simp [intOf]; omega
        case rel => exact ⟨k + 1, g2, cap2, ls ++ [[]], by omega, by go_num, by simp, by simpa using HX.out.1, by rw [Hst.out, spl_snoc, splStep, if_pos HC.out, ← HLs.out], HW.out.trans HX.out.2⟩
      · have hc1 : ((s[k].toNat : Int) == 10) = false := by
          simp only [beq_eq_false_iff_ne, ne_eq]
          intro h
          exact hc (by rw [u8_eq]; show s[k].toNat = 10; omega)
        have HC := Lib.hid hc
        have hcl := hO.cell (ls.length - 1) (by omega)
        obtain ⟨hfz, -, -⟩ := own_frozen hO
        have hts : (str ls[ls.length - 1]).size ≤ 100000 := by
          rw [str_size]
          have h1 := spl_size 10 (s.data.toList.take k) ls[ls.length - 1] (by rw [← hls]; exact List.getElem_mem _)
          have h2 : (s.data.toList.take k).length ≤ k := List.length_take_le _ _
          omega
        have HX := Lib.hid (fun (t : ByteArray) (ht : t = str (ls[ls.length - 1] ++ [s[k]])) => (show OS (wr.drew.setCell ⟨g, ls.length - 1, none⟩ (.string t)) w.heap.size (.slice (some ⟨g, 0, none⟩) ls.length cap) (ls.set (ls.length - 1) (ls[ls.length - 1] ++ [s[k]])) from by rw [ht]; exact OS.put (w := wr.drew) hO _ (by omega) _))
        have HEq := Lib.hid (show splStep 10 ls s[k] = ls.set (ls.length - 1) (ls[ls.length - 1] ++ [s[k]]) by
          unfold splStep
          rw [if_neg HC.out, List.getD_eq_getElem?_getD, List.getElem?_eq_getElem (show ls.length - 1 < ls.length by omega)]
          rfl)
        have hx := ext1 s k hlt
        have HT := Lib.hid (str_append ls[ls.length - 1] [s[k]])
        have hbg := Lib.hid (own_frozen hO).2
        generalize str ls[ls.length - 1] = t at hcl hts HT
        have HN := Lib.hid (show (1 : Int) ≤ (ls.length : Int) ∧ (0 : Int) ≤ (ls.length : Int) - 1 ∧ (ls.length : Int) - 1 < (ls.length : Int) ∧ ((ls.length : Int) - 1).toNat = ls.length - 1 ∧ (0 : Int) ≤ (k : Int) + 1 ∧ (k : Int) ≤ (k : Int) + 1 ∧ (k : Int) + 1 ≤ (s.size : Int) ∧ ((k : Int) + 1).toNat = k + 1 by omega)
        have hss : (str [s[k]]).size = 1 := rfl
        have HW1 := Lib.hid (And.intro (show IntKind.i64.wrap ((ls.length : Int) - 1) = (ls.length : Int) - 1 by simp [IntKind.wrap, IntKind.bits, IntKind.signed]; omega) (And.intro (show IntKind.i64.wrap ((k : Int) + 1) = (k : Int) + 1 by simp [IntKind.wrap, IntKind.bits, IntKind.signed]; omega) (show ¬ 9223372036854775807 < t.size + 1 by omega)))
        clear hc hO hls hW
        go_wp2_with fail
        obtain ⟨g1, g2, g3⟩ := HW1.out
        obtain ⟨n0, n1, n2, n3, n4, n5, n6, n7⟩ := HN.out
        refine wp_still_tail 17 (by kernel_rfl) (by kernel_rfl) ?_
        simp only [List.take_succ_cons, List.take_zero, List.drop_succ_cons, List.drop_zero]
        repeat still_step
        refine wpStill_nil ?_
        clear g1 g2 g3
        go_wp2_with fail
        go_roundw
        case measure => simp [intOf]; omega
        case rel => exact ⟨k + 1, g, cap, ls.set (ls.length - 1) (ls[ls.length - 1] ++ [s[k]]), by omega, by go_num, by rw [List.length_set], by rw [List.length_set]; exact HX.out _ HT.out, by rw [Hst.out, spl_snoc, ← HLs.out, HEq.out], HW.out.trans ((Below.refl _ _).drew.setCell hbg.out.1 _)⟩
    · obtain rfl : k = s.size := by omega
      have Hst := Lib.hid (take_end s)
      clear hO hls hW
      go_wp2_with fail
      go_ret
      rw [Hst.out] at HLs
      have hls := HLs.out
      subst hls
      exact ⟨⟨g, cap, rfl, HO.out⟩, HW.out⟩
end Go.Proofs.YtcjllikngfndhaaDoor

/- ragpickerref39.Write. -/
namespace Go.Proofs.YtcjllikngfndhaaDoor

open Go.RowKit

set_option maxRecDepth 100000 in
set_option maxHeartbeats 1000000 in
theorem word_any (s : ByteArray) (w : World) (hs : s.size ≤ 100000) :
    Calls Tryd.prog 33 #[.string s] w fun e w' => e = .returned (.string (str (wordL s))) ∧ Below w.heap.size w w' := by
  have hc := Lib.hid (fun w => rencode_any s w hs)
  by_cases h0 : s.size = 0
  · have HV := Lib.hid (show wordL s = [] by unfold wordL; rw [if_pos h0])
    have hn : s.toList = [] := by rw [ba_list]; exact List.eq_nil_of_length_eq_zero (by rw [Array.length_toList]; exact h0)
    clear h0
    go_enter Tryd.func33, Tryd.ntmps33
    go_wp2_with fail
    go_ret
    exact ⟨by rw [HV.out]; rfl, Below.refl _ _⟩
  · have HV := Lib.hid (show wordL s = 32 :: encL s.data.toList by unfold wordL; rw [if_neg h0])
    have hn : ¬ s.toList = [] := by
      rw [ba_list]; intro e
      have : s.data.toList.length = s.size := Array.length_toList
      rw [e] at this; simp at this; omega
    have hn2 : s.toList.isEmpty = false := by simpa using hn
    have hl := encL_len s.data.toList
    rw [show s.data.toList.length = s.size from Array.length_toList] at hl
    have hl2 : (str (encL s.data.toList)).size ≤ 300000 := by rw [str_size]; omega
    clear h0 hl
    go_enter Tryd.func33, Tryd.ntmps33
    go_wp2_with (go_at_call 50; refine (hc.out _).mono ?_; rintro e w1 ⟨rfl, hb1⟩)
    go_ret
    refine ⟨?_, hb1⟩
    rw [HV.out]
    show Ending.returned (.string (str [32] ++ str _)) = _
    rw [str_append]
    rfl

theorem word_size {l : List UInt8} {n : Nat} (h : l.length ≤ n) : (str l).size ≤ n := by rw [str_size]; exact h
theorem wordL_size (s : ByteArray) (h : s.size ≤ 100000) : (str (wordL s)).size ≤ 300001 := by
  rw [str_size]
  unfold wordL
  split
  · simp
  · have := encL_len s.data.toList
    rw [show s.data.toList.length = s.size from Array.length_toList] at this
    rw [List.length_cons]; omega
theorem conv_kind (c : UInt8) (W : World) (g : Nat) (h : W.cell? ⟨g, 0, none⟩ = some (.int .u8 c.toNat)) : (convert 53 9 (.slice (some ⟨g, 0, none⟩) 1 1)).run Tryd.prog W = .ok (.string (str [c])) W := by
  have := conv_bytes (P := Tryd.prog) (src := 53) (dst := 9) Tryd.underlying53 Tryd.underlying5 Tryd.underlying9 W g 0 1 [(c.toNat : Int)] (by
    intro j hj
    simp only [List.length_cons, List.length_nil, Nat.zero_add, Nat.lt_one_iff] at hj
    subst hj
    exact h)
  simpa using this
section

variable {P : Program} {ops : Array Oper} {o : Oper} {a : Act} {w : World} {Q : Exit → Act → World → Prop} {x : Operand} {src dst : TypeId} {v r : Value}

theorem step_conv_run {K : Act → World → Prop} {E : Prop} (hgd : o.guard = none) (ho : o.op = .convert src dst x) (hx : a.eval x = v) (hrun : (convert src dst v).run P w = .ok r w) (h : K (a.put o.dst r) w) :
    if Region.wanted o (yielded ops a.tmps) = true then Oper.wp P o a w K Q else E := by
  have hw : Region.wanted o (yielded ops a.tmps) = true := by simp [Region.wanted, hgd]
  rw [if_pos hw]
  unfold Oper.wp execOp
  simp only [ho, Sem.run_bind, Sem.run_pure, Result.andThen_ok, hx, hrun]
  exact h
end

theorem line_str (o : ByteArray) (x : Nt) (l : List UInt8) (h : o = str l) : o ++ str [x.kind] ++ ByteArray.mk #[32] ++ str (decL x.no) ++ str (wordL x.src) ++ str (wordL x.dst) ++ str (wordL x.tmp) ++ ByteArray.mk #[10] = str (l ++ lineL x) := by
  subst h
  show str l ++ str [x.kind] ++ str [32] ++ str (decL x.no) ++ str (wordL x.src) ++ str (wordL x.dst) ++ str (wordL x.tmp) ++ str [10] = _
  simp only [str_append]
  congr 1
  simp [lineL]

set_option maxRecDepth 100000 in
set_option maxHeartbeats 8000000 in
theorem rwrite_any (a : Option Addr) (c : Nat) (gs : List Gr) (w : World) (hG : Grs w a c gs) (hO : GOk gs) (hT : (textL (gs.map Gr.p)).length ≤ 10000000) :
    Calls Tryd.prog 16 #[.slice a gs.length c] w fun e w' => e = .returned (.string (str (writeB (gs.map Gr.p)))) ∧ Below w.heap.size w w' := by
  have HG := Lib.hid hG
  have HO := Lib.hid hO
  have hlen : gs.length ≤ 9223372036854775807 := Nat.le_trans hG.sl.2.1 hG.sl.2.2.1
  have HF := Lib.hid (rfine_any a c gs w hG hO)
  clear hG hO
  cases hf : fineB (gs.map Gr.p)
  · rw [hf] at HF
    have HV := Lib.hid (show writeB (gs.map Gr.p) = [] by unfold writeB; rw [hf]; rfl)
    clear hf
    go_enter Tryd.func16, Tryd.ntmps16
    go_wp2_with (go_at_call 14; refine HF.out.mono ?_; rintro e w1 ⟨rfl, hb1⟩)
    go_ret
    exact ⟨by rw [HV.out]; rfl, hb1⟩
  · rw [hf] at HF
    have HV := Lib.hid (show writeB (gs.map Gr.p) = textL (gs.map Gr.p) by unfold writeB; rw [hf]; rfl)
    have HAll := Lib.hid (fineB_all hf)
    clear hf
    go_enter Tryd.func16, Tryd.ntmps16
    go_wp2_with (go_at_call 14; refine HF.out.mono ?_; rintro e w1 ⟨rfl, hb1⟩)
    have HB1 := Lib.hid hb1
    clear hb1
    go_loopw [3, 4] (fun t3 t4 wr => ∃ (k : Nat) (o : ByteArray) (l : List UInt8), k ≤ gs.length ∧ t4 = .int .i64 k ∧ t3 = .string o ∧ o = str l ∧ l ++ textL ((gs.drop k).map Gr.p) = textL (gs.map Gr.p) ∧ Below w.heap.size w wr) (fun _ t4 _ => gs.length - (intOf t4).toNat)
    case atStart => exact ⟨0, _, [], Nat.zero_le _, rfl, rfl, rfl, rfl, HB1.out⟩
    case round =>
      obtain ⟨k, o, l, hk, rfl, rfl, ho, htx, hW⟩ := hrel
      have HX := Lib.hid htx
      have Ho := Lib.hid ho
      have HW := Lib.hid hW
      have hos : o.size ≤ 10000000 := by
        have := congrArg List.length htx
        rw [List.length_append] at this
        rw [ho, str_size]; omega
      by_cases hlt : k < gs.length
      · have hG2 := HG.out.below hW (Nat.le_refl _)
        obtain ⟨b, off, rfl⟩ := hG2.addr (by omega)
        obtain ⟨c0, c1, cl⟩ := hG2.cells k hlt
        have HG2 := Lib.hid hG2
        have hA := hG2.at' gs[k] (List.getElem_mem _)
        have hOk := Lib.hid (HO.out gs[k] (List.getElem_mem _))
        have HMay := Lib.hid (HAll.out gs[k].p (List.mem_map_of_mem (List.getElem_mem _)))
        have HS := Lib.hid (text_step gs k hlt)
        have HC := Lib.hid (fun W (h : Grs W (some ⟨b, off, none⟩) c gs) => h.cells k hlt)
        generalize gs[k] = g at c0 c1 hA hOk HS HC HMay
        have hn : g.notes.length ≤ 9223372036854775807 := Nat.le_trans hA.2.1 hA.2.2.1
        have HA := Lib.hid hA
        have hn1 : ¬ 9223372036854775807 < o.size + 2 := by omega
        have HX2 := Lib.hid (show (l ++ [103, 10]) ++ (g.notes.flatMap lineL ++ (endL g.fin ++ textL ((gs.drop (k + 1)).map Gr.p))) = textL (gs.map Gr.p) by rw [← HX.out, HS.out]; simp)
        have Ho2 := Lib.hid (show o ++ ByteArray.mk #[103, 10] = str (l ++ [103, 10]) by rw [Ho.out]; show str l ++ str [103, 10] = _; rw [str_append])
        clear hG2 hA hW htx ho c0 c1
        go_wp2_with fail
        go_loopw [3, 5] (fun t3 t5 w2 => ∃ (j : Nat) (o : ByteArray) (l : List UInt8), j ≤ g.notes.length ∧ t5 = .int .i64 j ∧ t3 = .string o ∧ o = str l ∧ l ++ ((g.notes.drop j).flatMap lineL ++ (endL g.fin ++ textL ((gs.drop (k + 1)).map Gr.p))) = textL (gs.map Gr.p) ∧ Below wr.heap.size wr w2) (fun _ t5 _ => g.notes.length - (intOf t5).toNat)
        case atStart => exact ⟨0, _, _, Nat.zero_le _, rfl, rfl, Ho2.out, HX2.out, Below.refl _ _⟩
        case round =>
          obtain ⟨j, o, l, hj, rfl, rfl, ho, htx, hW2⟩ := hrel
          have HX := Lib.hid htx
          have Ho := Lib.hid ho
          have HW2 := Lib.hid hW2
          have hos : o.size ≤ 10000000 := by
            have := congrArg List.length htx
            rw [List.length_append] at this
            rw [ho, str_size]; omega
          obtain ⟨c0, c1, cl⟩ := HC.out _ (HG2.out.below hW2 (Nat.le_refl _))
          have hA2 := HA.out.below hW2 (Nat.le_refl _)
          by_cases hjl : j < g.notes.length
          · obtain ⟨nb, no, hna⟩ := hA2.addr (by omega)
            obtain ⟨d0, d1, d2, d3, d4, dl⟩ := hA2.cells hna j hjl
            have HOkx := Lib.hid (hOk.out g.notes[j] (List.getElem_mem _))
            have HSt := Lib.hid (lines_step g.notes j hjl)
            generalize g.notes[j] = x at d0 d1 d2 d3 d4 HOkx HSt
            clear hA2 hW2 htx ho
            rw [hna] at c0
            clear hna
            go_wp2_with fail
            have hB := Blk.new wr #[.int .u8 x.kind.toNat, .int .i64 x.no, .string x.src, .string x.dst, .string x.tmp] 29
            have HW3 := Lib.hid (bnext HW2.out (balloc (Below.refl _ _) (.cells #[.int .u8 x.kind.toNat, .int .i64 x.no, .string x.src, .string x.dst, .string x.tmp] 29)))
            generalize wr.alloc (.cells #[.int .u8 x.kind.toNat, .int .i64 x.no, .string x.src, .string x.dst, .string x.tmp] 29) = W at hB HW3 ⊢
            generalize wr.heap.size = B at hB ⊢
            obtain ⟨b0, -, bz⟩ := hB.facts
            have cD := Lib.hid (fun W => rdec_any x.no W HOkx.out.n0 HOkx.out.n1)
            have c1 := Lib.hid (fun W => word_any x.src W HOkx.out.src)
            have c2 := Lib.hid (fun W => word_any x.dst W HOkx.out.dst)
            have c3 := Lib.hid (fun W => word_any x.tmp W HOkx.out.tmp)
            have hK := conv_kind x.kind
            have HL := Lib.hid (line_str o x)
            have hDs := word_size (decL_len x.no HOkx.out.n0 HOkx.out.n1).1
            have hs1 := wordL_size x.src HOkx.out.src
            have hs2 := wordL_size x.dst HOkx.out.dst
            have hs3 := wordL_size x.tmp HOkx.out.tmp
            have hks : (str [x.kind]).size = 1 := rfl
            generalize str [x.kind] = Kb at hK HL hks
            generalize str (decL x.no) = D at cD HL hDs
            generalize str (wordL x.src) = S1 at c1 HL hs1
            generalize str (wordL x.dst) = S2 at c2 HL hs2
            generalize str (wordL x.tmp) = S3 at c3 HL hs3
            have HN := Lib.hid (show ¬ 9223372036854775807 < o.size + 1 ∧ ¬ 9223372036854775807 < o.size + 2 ∧ ¬ 9223372036854775807 < o.size + 2 + D.size ∧ ¬ 9223372036854775807 < o.size + 2 + D.size + S1.size ∧ ¬ 9223372036854775807 < o.size + 2 + D.size + S1.size + S2.size ∧ ¬ 9223372036854775807 < o.size + 2 + D.size + S1.size + S2.size + S3.size ∧ ¬ 9223372036854775807 < o.size + 2 + D.size + S1.size + S2.size + S3.size + 1 by omega)
            clear hB hDs hs1 hs2 hs3 d0 d1 d2 d3 d4 dl
            obtain ⟨n1, n2, n3, n4, n5, n6, n7⟩ := HN.out
            refine wp_region_held_drew (S := (fun w' => (∀ b o, b < W.heap.size → w'.cell? ⟨b, o, none⟩ = W.cell? ⟨b, o, none⟩) ∧ Below W.heap.size W w')) (by kernel_rfl) (keepS_here _) (fun hHeld => ?_)
            refine reg_take 0 36 (v := ?vy1) rfl rfl (by kernel_rfl) (by kernel_rfl) (by kernel_rfl) (fun _ _ _ h => h) rfl ?y1 hHeld ?_
            case y1 => (intro w hSw; (try dsimp only at hSw); go_simp; (try with_reducible rfl))
            simp only [List.setIfInBounds_toArray, List.set_cons_zero, List.set_cons_succ]
            refine reg_take 1 37 (v := ?vy2) rfl rfl (by kernel_rfl) (by kernel_rfl) (by kernel_rfl) (fun _ _ _ h => h) rfl ?y2 hHeld ?_
            case y2 => (intro w hSw; (try dsimp only at hSw); go_simp; (try with_reducible rfl))
            simp only [List.setIfInBounds_toArray, List.set_cons_zero, List.set_cons_succ]
            refine reg_take 2 38 (v := ?vy3) rfl rfl (by kernel_rfl) (by kernel_rfl) (by kernel_rfl) (fun _ _ _ h => h) rfl ?y3 hHeld ?_
            case y3 => (intro w hSw; (try dsimp only at hSw); go_simp; (try with_reducible rfl))
            simp only [List.setIfInBounds_toArray, List.set_cons_zero, List.set_cons_succ]
            refine reg_take 7 43 (v := ?vy4) rfl rfl (by kernel_rfl) (by kernel_rfl) (by kernel_rfl) (fun _ _ _ h => h) rfl ?y4 hHeld ?_
            case y4 => (intro w hSw; (try dsimp only at hSw); go_simp; (try with_reducible rfl))
            simp only [List.setIfInBounds_toArray, List.set_cons_zero, List.set_cons_succ]
            refine reg_take 8 44 (v := ?vy5) rfl rfl (by kernel_rfl) (by kernel_rfl) (by kernel_rfl) (fun _ _ _ h => h) rfl ?y5 hHeld ?_
            case y5 => (intro w hSw; (try dsimp only at hSw); go_simp; (try with_reducible rfl))
            simp only [List.setIfInBounds_toArray, List.set_cons_zero, List.set_cons_succ]
            refine reg_take 11 47 (v := ?vy6) rfl rfl (by kernel_rfl) (by kernel_rfl) (by kernel_rfl) (fun _ _ _ h => h) rfl ?y6 hHeld ?_
            case y6 => (intro w hSw; (try dsimp only at hSw); go_simp; (try with_reducible rfl))
            simp only [List.setIfInBounds_toArray, List.set_cons_zero, List.set_cons_succ]
            refine reg_take 12 48 (v := ?vy7) rfl rfl (by kernel_rfl) (by kernel_rfl) (by kernel_rfl) (fun _ _ _ h => h) rfl ?y7 hHeld ?_
            case y7 => (intro w hSw; (try dsimp only at hSw); go_simp; (try with_reducible rfl))
            simp only [List.setIfInBounds_toArray, List.set_cons_zero, List.set_cons_succ]
            refine reg_take 15 51 (v := ?vy8) rfl rfl (by kernel_rfl) (by kernel_rfl) (by kernel_rfl) (fun _ _ _ h => h) rfl ?y8 hHeld ?_
            case y8 => (intro w hSw; (try dsimp only at hSw); go_simp; (try with_reducible rfl))
            simp only [List.setIfInBounds_toArray, List.set_cons_zero, List.set_cons_succ]
            refine reg_take 16 52 (v := ?vy9) rfl rfl (by kernel_rfl) (by kernel_rfl) (by kernel_rfl) (fun _ _ _ h => h) rfl ?y9 hHeld ?_
            case y9 => (intro w hSw; (try dsimp only at hSw); go_simp; (try with_reducible rfl))
            simp only [List.setIfInBounds_toArray, List.set_cons_zero, List.set_cons_succ]
            refine reg_take 19 55 (v := ?vy10) rfl rfl (by kernel_rfl) (by kernel_rfl) (by kernel_rfl) (fun _ _ _ h => h) rfl ?y10 hHeld ?_
            case y10 => (intro w hSw; (try dsimp only at hSw); go_simp; (try with_reducible rfl))
            simp only [List.setIfInBounds_toArray, List.set_cons_zero, List.set_cons_succ]
            refine reg_take 20 56 (v := ?vy11) rfl rfl (by kernel_rfl) (by kernel_rfl) (by kernel_rfl) (fun _ _ _ h => h) rfl ?y11 hHeld ?_
            case y11 => (intro w hSw; (try dsimp only at hSw); go_simp; (try with_reducible rfl))
            simp only [List.setIfInBounds_toArray, List.set_cons_zero, List.set_cons_succ]
            refine reg_make_call 3 39 9 45 (vi := .slice (some ⟨W.heap.size, 0, none⟩) 1 1) (Wi := (W.alloc (.cells #[.int .u8 x.kind.toNat] 5)).drew) (R := fun v w' => v = .string D ∧ Below W.drew.heap.size W.drew w') (by kernel_rfl) rfl rfl rfl rfl rfl rfl ?e13 (keepS_of (((Below.refl _ W).alloc (Nat.le_refl _) _).drew)) ?e14 ((cD.out _).mono (fun e w' ⟨he, hb⟩ => ⟨_, he, rfl, hb⟩)) (fun v w' ⟨_, hb⟩ => keepS_call hHeld hb) ?m15 ?m16
            case e13 => (go_simp; (try rfl))
            case e14 => (go_simp; (try rfl))
            case m15 =>
              simp only [List.setIfInBounds_toArray, List.set_cons_zero, List.set_cons_succ]
              refine anyH_mono (S' := fun w' => ((∀ b o, b < W.heap.size → w'.cell? ⟨b, o, none⟩ = W.cell? ⟨b, o, none⟩) ∧ Below W.heap.size W w') ∧ Blk w' (W.heap.size) #[.int .u8 x.kind.toNat] 5) (fun _ h => h.1) _ _ _ _ ?_
              have hm12 := And.intro (show _ ∧ Below W.heap.size W ((W.alloc (.cells #[.int .u8 x.kind.toNat] 5)).drew) from keepS_of (((Below.refl _ W).alloc (Nat.le_refl _) _).drew)) ((Blk.new W #[.int .u8 x.kind.toNat] 5).drew)
              refine reg_take 4 40 (v := ?vy20) rfl rfl (by kernel_rfl) (by kernel_rfl) (by kernel_rfl) (fun _ _ _ h => h) rfl ?y20 hm12 ?_
              case y20 => (intro w hSw; have hcv := hK _ _ (hSw.2.cell 0); (try dsimp only at hSw); go_simp; (try with_reducible rfl))
              simp only [List.setIfInBounds_toArray, List.set_cons_zero, List.set_cons_succ]
              refine reg_take 5 41 (v := ?vy21) rfl rfl (by kernel_rfl) (by kernel_rfl) (by kernel_rfl) (fun _ _ _ h => h) rfl ?y21 hm12 ?_
              case y21 => (intro w hSw; (try dsimp only at hSw); go_simp; (try with_reducible rfl))
              simp only [List.setIfInBounds_toArray, List.set_cons_zero, List.set_cons_succ]
              refine reg_take 6 42 (v := ?vy22) rfl rfl (by kernel_rfl) (by kernel_rfl) (by kernel_rfl) (fun _ _ _ h => h) rfl ?y22 hm12 ?_
              case y22 => (intro w hSw; (try dsimp only at hSw); go_simp; (try with_reducible rfl))
              simp only [List.setIfInBounds_toArray, List.set_cons_zero, List.set_cons_succ]
              refine reg_call 9 45 (R := fun v w' => v = .string D ∧ Below ((W.alloc (.cells #[.int .u8 x.kind.toNat] 5)).drew).heap.size ((W.alloc (.cells #[.int .u8 x.kind.toNat] 5)).drew) w') (by kernel_rfl) rfl rfl rfl ?x23 ((cD.out _).mono (fun e w' ⟨he, hb⟩ => ⟨_, he, rfl, hb⟩)) (fun v w' ⟨_, hb⟩ => ⟨keepS_call hm12.1 hb, hm12.2.keep hb⟩) ?_
              case x23 => (go_simp; (try rfl))
              rintro _ wv24 ⟨rfl, hb25⟩
              have hh26 := And.intro (keepS_call hm12.1 hb25) (hm12.2.keep hb25)
              simp only [List.setIfInBounds_toArray, List.set_cons_zero, List.set_cons_succ]
              refine reg_take 10 46 (v := ?vy27) rfl rfl (by kernel_rfl) (by kernel_rfl) (by kernel_rfl) (fun _ _ _ h => h) rfl ?y27 hh26 ?_
              case y27 => (intro w hSw; (try dsimp only at hSw); go_simp; (try with_reducible rfl))
              simp only [List.setIfInBounds_toArray, List.set_cons_zero, List.set_cons_succ]
              refine reg_call 13 49 (R := fun v w' => v = .string S1 ∧ Below wv24.heap.size wv24 w') (by kernel_rfl) rfl rfl rfl ?x28 ((c1.out _).mono (fun e w' ⟨he, hb⟩ => ⟨_, he, rfl, hb⟩)) (fun v w' ⟨_, hb⟩ => ⟨keepS_call hh26.1 hb, hh26.2.keep hb⟩) ?_
              case x28 => (go_simp; (try rfl))
              rintro _ wv29 ⟨rfl, hb30⟩
              have hh31 := And.intro (keepS_call hh26.1 hb30) (hh26.2.keep hb30)
              simp only [List.setIfInBounds_toArray, List.set_cons_zero, List.set_cons_succ]
              refine reg_take 14 50 (v := ?vy32) rfl rfl (by kernel_rfl) (by kernel_rfl) (by kernel_rfl) (fun _ _ _ h => h) rfl ?y32 hh31 ?_
              case y32 => (intro w hSw; (try dsimp only at hSw); go_simp; (try with_reducible rfl))
              simp only [List.setIfInBounds_toArray, List.set_cons_zero, List.set_cons_succ]
              refine reg_call 17 53 (R := fun v w' => v = .string S2 ∧ Below wv29.heap.size wv29 w') (by kernel_rfl) rfl rfl rfl ?x33 ((c2.out _).mono (fun e w' ⟨he, hb⟩ => ⟨_, he, rfl, hb⟩)) (fun v w' ⟨_, hb⟩ => ⟨keepS_call hh31.1 hb, hh31.2.keep hb⟩) ?_
              case x33 => (go_simp; (try rfl))
              rintro _ wv34 ⟨rfl, hb35⟩
              have hh36 := And.intro (keepS_call hh31.1 hb35) (hh31.2.keep hb35)
              simp only [List.setIfInBounds_toArray, List.set_cons_zero, List.set_cons_succ]
              refine reg_take 18 54 (v := ?vy37) rfl rfl (by kernel_rfl) (by kernel_rfl) (by kernel_rfl) (fun _ _ _ h => h) rfl ?y37 hh36 ?_
              case y37 => (intro w hSw; (try dsimp only at hSw); go_simp; (try with_reducible rfl))
              simp only [List.setIfInBounds_toArray, List.set_cons_zero, List.set_cons_succ]
              refine reg_call 21 57 (R := fun v w' => v = .string S3 ∧ Below wv34.heap.size wv34 w') (by kernel_rfl) rfl rfl rfl ?x38 ((c3.out _).mono (fun e w' ⟨he, hb⟩ => ⟨_, he, rfl, hb⟩)) (fun v w' ⟨_, hb⟩ => ⟨keepS_call hh36.1 hb, hh36.2.keep hb⟩) ?_
              case x38 => (go_simp; (try rfl))
              rintro _ wv39 ⟨rfl, hb40⟩
              have hh41 := And.intro (keepS_call hh36.1 hb40) (hh36.2.keep hb40)
              simp only [List.setIfInBounds_toArray, List.set_cons_zero, List.set_cons_succ]
              refine reg_take 22 58 (v := ?vy42) rfl rfl (by kernel_rfl) (by kernel_rfl) (by kernel_rfl) (fun _ _ _ h => h) rfl ?y42 hh41 ?_
              case y42 => (intro w hSw; (try dsimp only at hSw); go_simp; (try with_reducible rfl))
              simp only [List.setIfInBounds_toArray, List.set_cons_zero, List.set_cons_succ]
              refine reg_take 23 59 (v := ?vy43) rfl rfl (by kernel_rfl) (by kernel_rfl) (by kernel_rfl) (fun _ _ _ h => h) rfl ?y43 hh41 ?_
              case y43 => (intro w hSw; (try dsimp only at hSw); go_simp; (try with_reducible rfl))
              simp only [List.setIfInBounds_toArray, List.set_cons_zero, List.set_cons_succ]
              refine reg_take 24 3 (v := ?vy44) rfl rfl (by kernel_rfl) (by kernel_rfl) (by kernel_rfl) (fun _ _ _ h => h) rfl ?y44 hh41 ?_
              case y44 => (intro w hSw; (try dsimp only at hSw); go_simp; (try with_reducible rfl))
              simp only [List.setIfInBounds_toArray, List.set_cons_zero, List.set_cons_succ]
              refine wpAnyH_done (by kernel_rfl) ?_ _
              have HS4 := Lib.hid (bnext HW3.out hh41.1.2)
              go_wp2_with fail
              go_roundw
              case measure => simp [intOf]; omega
              case rel => exact ⟨j + 1, _, l ++ lineL x, by omega, by go_num, rfl, HL.out _ Ho.out, by rw [← HX.out, HSt.out]; simp, HS4.out⟩
            case m16 =>
              rintro _ wu17 ⟨rfl, hb18⟩
              have hh19 := keepS_call hHeld hb18
              simp only [List.setIfInBounds_toArray, List.set_cons_zero, List.set_cons_succ]
              refine reg_make_call 3 39 13 49 (vi := .slice (some ⟨wu17.heap.size, 0, none⟩) 1 1) (Wi := wu17.alloc (.cells #[.int .u8 x.kind.toNat] 5)) (R := fun v w' => v = .string S1 ∧ Below wu17.heap.size wu17 w') (by kernel_rfl) rfl rfl rfl rfl rfl rfl ?e46 (keepS_alloc hh19 _) ?e47 ((c1.out _).mono (fun e w' ⟨he, hb⟩ => ⟨_, he, rfl, hb⟩)) (fun v w' ⟨_, hb⟩ => keepS_call hh19 hb) ?m48 ?m49
              case e46 => (go_simp; (try rfl))
              case e47 => (go_simp; (try rfl))
              case m48 =>
                simp only [List.setIfInBounds_toArray, List.set_cons_zero, List.set_cons_succ]
                refine anyH_mono (S' := fun w' => ((∀ b o, b < W.heap.size → w'.cell? ⟨b, o, none⟩ = W.cell? ⟨b, o, none⟩) ∧ Below W.heap.size W w') ∧ Blk w' (wu17.heap.size) #[.int .u8 x.kind.toNat] 5) (fun _ h => h.1) _ _ _ _ ?_
                have hm45 := And.intro (show _ ∧ Below W.heap.size W (wu17.alloc (.cells #[.int .u8 x.kind.toNat] 5)) from keepS_alloc hh19 _) (Blk.new wu17 #[.int .u8 x.kind.toNat] 5)
                refine reg_take 4 40 (v := ?vy53) rfl rfl (by kernel_rfl) (by kernel_rfl) (by kernel_rfl) (fun _ _ _ h => h) rfl ?y53 hm45 ?_
                case y53 => (intro w hSw; have hcv := hK _ _ (hSw.2.cell 0); (try dsimp only at hSw); go_simp; (try with_reducible rfl))
                simp only [List.setIfInBounds_toArray, List.set_cons_zero, List.set_cons_succ]
                refine reg_take 5 41 (v := ?vy54) rfl rfl (by kernel_rfl) (by kernel_rfl) (by kernel_rfl) (fun _ _ _ h => h) rfl ?y54 hm45 ?_
                case y54 => (intro w hSw; (try dsimp only at hSw); go_simp; (try with_reducible rfl))
                simp only [List.setIfInBounds_toArray, List.set_cons_zero, List.set_cons_succ]
                refine reg_take 6 42 (v := ?vy55) rfl rfl (by kernel_rfl) (by kernel_rfl) (by kernel_rfl) (fun _ _ _ h => h) rfl ?y55 hm45 ?_
                case y55 => (intro w hSw; (try dsimp only at hSw); go_simp; (try with_reducible rfl))
                simp only [List.setIfInBounds_toArray, List.set_cons_zero, List.set_cons_succ]
                refine reg_take 10 46 (v := ?vy56) rfl rfl (by kernel_rfl) (by kernel_rfl) (by kernel_rfl) (fun _ _ _ h => h) rfl ?y56 hm45 ?_
                case y56 => (intro w hSw; (try dsimp only at hSw); go_simp; (try with_reducible rfl))
                simp only [List.setIfInBounds_toArray, List.set_cons_zero, List.set_cons_succ]
                refine reg_call 13 49 (R := fun v w' => v = .string S1 ∧ Below (wu17.alloc (.cells #[.int .u8 x.kind.toNat] 5)).heap.size (wu17.alloc (.cells #[.int .u8 x.kind.toNat] 5)) w') (by kernel_rfl) rfl rfl rfl ?x57 ((c1.out _).mono (fun e w' ⟨he, hb⟩ => ⟨_, he, rfl, hb⟩)) (fun v w' ⟨_, hb⟩ => ⟨keepS_call hm45.1 hb, hm45.2.keep hb⟩) ?_
                case x57 => (go_simp; (try rfl))
                rintro _ wv58 ⟨rfl, hb59⟩
                have hh60 := And.intro (keepS_call hm45.1 hb59) (hm45.2.keep hb59)
                simp only [List.setIfInBounds_toArray, List.set_cons_zero, List.set_cons_succ]
                refine reg_take 14 50 (v := ?vy61) rfl rfl (by kernel_rfl) (by kernel_rfl) (by kernel_rfl) (fun _ _ _ h => h) rfl ?y61 hh60 ?_
                case y61 => (intro w hSw; (try dsimp only at hSw); go_simp; (try with_reducible rfl))
                simp only [List.setIfInBounds_toArray, List.set_cons_zero, List.set_cons_succ]
                refine reg_call 17 53 (R := fun v w' => v = .string S2 ∧ Below wv58.heap.size wv58 w') (by kernel_rfl) rfl rfl rfl ?x62 ((c2.out _).mono (fun e w' ⟨he, hb⟩ => ⟨_, he, rfl, hb⟩)) (fun v w' ⟨_, hb⟩ => ⟨keepS_call hh60.1 hb, hh60.2.keep hb⟩) ?_
                case x62 => (go_simp; (try rfl))
                rintro _ wv63 ⟨rfl, hb64⟩
                have hh65 := And.intro (keepS_call hh60.1 hb64) (hh60.2.keep hb64)
                simp only [List.setIfInBounds_toArray, List.set_cons_zero, List.set_cons_succ]
                refine reg_take 18 54 (v := ?vy66) rfl rfl (by kernel_rfl) (by kernel_rfl) (by kernel_rfl) (fun _ _ _ h => h) rfl ?y66 hh65 ?_
                case y66 => (intro w hSw; (try dsimp only at hSw); go_simp; (try with_reducible rfl))
                simp only [List.setIfInBounds_toArray, List.set_cons_zero, List.set_cons_succ]
                refine reg_call 21 57 (R := fun v w' => v = .string S3 ∧ Below wv63.heap.size wv63 w') (by kernel_rfl) rfl rfl rfl ?x67 ((c3.out _).mono (fun e w' ⟨he, hb⟩ => ⟨_, he, rfl, hb⟩)) (fun v w' ⟨_, hb⟩ => ⟨keepS_call hh65.1 hb, hh65.2.keep hb⟩) ?_
                case x67 => (go_simp; (try rfl))
                rintro _ wv68 ⟨rfl, hb69⟩
                have hh70 := And.intro (keepS_call hh65.1 hb69) (hh65.2.keep hb69)
                simp only [List.setIfInBounds_toArray, List.set_cons_zero, List.set_cons_succ]
                refine reg_take 22 58 (v := ?vy71) rfl rfl (by kernel_rfl) (by kernel_rfl) (by kernel_rfl) (fun _ _ _ h => h) rfl ?y71 hh70 ?_
                case y71 => (intro w hSw; (try dsimp only at hSw); go_simp; (try with_reducible rfl))
                simp only [List.setIfInBounds_toArray, List.set_cons_zero, List.set_cons_succ]
                refine reg_take 23 59 (v := ?vy72) rfl rfl (by kernel_rfl) (by kernel_rfl) (by kernel_rfl) (fun _ _ _ h => h) rfl ?y72 hh70 ?_
                case y72 => (intro w hSw; (try dsimp only at hSw); go_simp; (try with_reducible rfl))
                simp only [List.setIfInBounds_toArray, List.set_cons_zero, List.set_cons_succ]
                refine reg_take 24 3 (v := ?vy73) rfl rfl (by kernel_rfl) (by kernel_rfl) (by kernel_rfl) (fun _ _ _ h => h) rfl ?y73 hh70 ?_
                case y73 => (intro w hSw; (try dsimp only at hSw); go_simp; (try with_reducible rfl))
                simp only [List.setIfInBounds_toArray, List.set_cons_zero, List.set_cons_succ]
                refine wpAnyH_done (by kernel_rfl) ?_ _
                have HS4 := Lib.hid (bnext HW3.out hh70.1.2)
                go_wp2_with fail
                go_roundw
                case measure => simp [intOf]; omega
                case rel => exact ⟨j + 1, _, l ++ lineL x, by omega, by go_num, rfl, HL.out _ Ho.out, by rw [← HX.out, HSt.out]; simp, HS4.out⟩
              case m49 =>
                rintro _ wu50 ⟨rfl, hb51⟩
                have hh52 := keepS_call hh19 hb51
                simp only [List.setIfInBounds_toArray, List.set_cons_zero, List.set_cons_succ]
                refine reg_make_call 3 39 17 53 (vi := .slice (some ⟨wu50.heap.size, 0, none⟩) 1 1) (Wi := wu50.alloc (.cells #[.int .u8 x.kind.toNat] 5)) (R := fun v w' => v = .string S2 ∧ Below wu50.heap.size wu50 w') (by kernel_rfl) rfl rfl rfl rfl rfl rfl ?e75 (keepS_alloc hh52 _) ?e76 ((c2.out _).mono (fun e w' ⟨he, hb⟩ => ⟨_, he, rfl, hb⟩)) (fun v w' ⟨_, hb⟩ => keepS_call hh52 hb) ?m77 ?m78
                case e75 => (go_simp; (try rfl))
                case e76 => (go_simp; (try rfl))
                case m77 =>
                  simp only [List.setIfInBounds_toArray, List.set_cons_zero, List.set_cons_succ]
                  refine anyH_mono (S' := fun w' => ((∀ b o, b < W.heap.size → w'.cell? ⟨b, o, none⟩ = W.cell? ⟨b, o, none⟩) ∧ Below W.heap.size W w') ∧ Blk w' (wu50.heap.size) #[.int .u8 x.kind.toNat] 5) (fun _ h => h.1) _ _ _ _ ?_
                  have hm74 := And.intro (show _ ∧ Below W.heap.size W (wu50.alloc (.cells #[.int .u8 x.kind.toNat] 5)) from keepS_alloc hh52 _) (Blk.new wu50 #[.int .u8 x.kind.toNat] 5)
                  refine reg_take 4 40 (v := ?vy82) rfl rfl (by kernel_rfl) (by kernel_rfl) (by kernel_rfl) (fun _ _ _ h => h) rfl ?y82 hm74 ?_
                  case y82 => (intro w hSw; have hcv := hK _ _ (hSw.2.cell 0); (try dsimp only at hSw); go_simp; (try with_reducible rfl))
                  simp only [List.setIfInBounds_toArray, List.set_cons_zero, List.set_cons_succ]
                  refine reg_take 5 41 (v := ?vy83) rfl rfl (by kernel_rfl) (by kernel_rfl) (by kernel_rfl) (fun _ _ _ h => h) rfl ?y83 hm74 ?_
                  case y83 => (intro w hSw; (try dsimp only at hSw); go_simp; (try with_reducible rfl))
                  simp only [List.setIfInBounds_toArray, List.set_cons_zero, List.set_cons_succ]
                  refine reg_take 6 42 (v := ?vy84) rfl rfl (by kernel_rfl) (by kernel_rfl) (by kernel_rfl) (fun _ _ _ h => h) rfl ?y84 hm74 ?_
                  case y84 => (intro w hSw; (try dsimp only at hSw); go_simp; (try with_reducible rfl))
                  simp only [List.setIfInBounds_toArray, List.set_cons_zero, List.set_cons_succ]
                  refine reg_take 10 46 (v := ?vy85) rfl rfl (by kernel_rfl) (by kernel_rfl) (by kernel_rfl) (fun _ _ _ h => h) rfl ?y85 hm74 ?_
                  case y85 => (intro w hSw; (try dsimp only at hSw); go_simp; (try with_reducible rfl))
                  simp only [List.setIfInBounds_toArray, List.set_cons_zero, List.set_cons_succ]
                  refine reg_take 14 50 (v := ?vy86) rfl rfl (by kernel_rfl) (by kernel_rfl) (by kernel_rfl) (fun _ _ _ h => h) rfl ?y86 hm74 ?_
                  case y86 => (intro w hSw; (try dsimp only at hSw); go_simp; (try with_reducible rfl))
                  simp only [List.setIfInBounds_toArray, List.set_cons_zero, List.set_cons_succ]
                  refine reg_call 17 53 (R := fun v w' => v = .string S2 ∧ Below (wu50.alloc (.cells #[.int .u8 x.kind.toNat] 5)).heap.size (wu50.alloc (.cells #[.int .u8 x.kind.toNat] 5)) w') (by kernel_rfl) rfl rfl rfl ?x87 ((c2.out _).mono (fun e w' ⟨he, hb⟩ => ⟨_, he, rfl, hb⟩)) (fun v w' ⟨_, hb⟩ => ⟨keepS_call hm74.1 hb, hm74.2.keep hb⟩) ?_
                  case x87 => (go_simp; (try rfl))
                  rintro _ wv88 ⟨rfl, hb89⟩
                  have hh90 := And.intro (keepS_call hm74.1 hb89) (hm74.2.keep hb89)
                  simp only [List.setIfInBounds_toArray, List.set_cons_zero, List.set_cons_succ]
                  refine reg_take 18 54 (v := ?vy91) rfl rfl (by kernel_rfl) (by kernel_rfl) (by kernel_rfl) (fun _ _ _ h => h) rfl ?y91 hh90 ?_
                  case y91 => (intro w hSw; (try dsimp only at hSw); go_simp; (try with_reducible rfl))
                  simp only [List.setIfInBounds_toArray, List.set_cons_zero, List.set_cons_succ]
                  refine reg_call 21 57 (R := fun v w' => v = .string S3 ∧ Below wv88.heap.size wv88 w') (by kernel_rfl) rfl rfl rfl ?x92 ((c3.out _).mono (fun e w' ⟨he, hb⟩ => ⟨_, he, rfl, hb⟩)) (fun v w' ⟨_, hb⟩ => ⟨keepS_call hh90.1 hb, hh90.2.keep hb⟩) ?_
                  case x92 => (go_simp; (try rfl))
                  rintro _ wv93 ⟨rfl, hb94⟩
                  have hh95 := And.intro (keepS_call hh90.1 hb94) (hh90.2.keep hb94)
                  simp only [List.setIfInBounds_toArray, List.set_cons_zero, List.set_cons_succ]
                  refine reg_take 22 58 (v := ?vy96) rfl rfl (by kernel_rfl) (by kernel_rfl) (by kernel_rfl) (fun _ _ _ h => h) rfl ?y96 hh95 ?_
                  case y96 => (intro w hSw; (try dsimp only at hSw); go_simp; (try with_reducible rfl))
                  simp only [List.setIfInBounds_toArray, List.set_cons_zero, List.set_cons_succ]
                  refine reg_take 23 59 (v := ?vy97) rfl rfl (by kernel_rfl) (by kernel_rfl) (by kernel_rfl) (fun _ _ _ h => h) rfl ?y97 hh95 ?_
                  case y97 => (intro w hSw; (try dsimp only at hSw); go_simp; (try with_reducible rfl))
                  simp only [List.setIfInBounds_toArray, List.set_cons_zero, List.set_cons_succ]
                  refine reg_take 24 3 (v := ?vy98) rfl rfl (by kernel_rfl) (by kernel_rfl) (by kernel_rfl) (fun _ _ _ h => h) rfl ?y98 hh95 ?_
                  case y98 => (intro w hSw; (try dsimp only at hSw); go_simp; (try with_reducible rfl))
                  simp only [List.setIfInBounds_toArray, List.set_cons_zero, List.set_cons_succ]
                  refine wpAnyH_done (by kernel_rfl) ?_ _
                  have HS4 := Lib.hid (bnext HW3.out hh95.1.2)
                  go_wp2_with fail
                  go_roundw
                  case measure => simp [intOf]; omega
                  case rel => exact ⟨j + 1, _, l ++ lineL x, by omega, by go_num, rfl, HL.out _ Ho.out, by rw [← HX.out, HSt.out]; simp, HS4.out⟩
                case m78 =>
                  rintro _ wu79 ⟨rfl, hb80⟩
                  have hh81 := keepS_call hh52 hb80
                  simp only [List.setIfInBounds_toArray, List.set_cons_zero, List.set_cons_succ]
                  refine reg_make_call 3 39 21 57 (vi := .slice (some ⟨wu79.heap.size, 0, none⟩) 1 1) (Wi := wu79.alloc (.cells #[.int .u8 x.kind.toNat] 5)) (R := fun v w' => v = .string S3 ∧ Below wu79.heap.size wu79 w') (by kernel_rfl) rfl rfl rfl rfl rfl rfl ?e100 (keepS_alloc hh81 _) ?e101 ((c3.out _).mono (fun e w' ⟨he, hb⟩ => ⟨_, he, rfl, hb⟩)) (fun v w' ⟨_, hb⟩ => keepS_call hh81 hb) ?m102 ?m103
                  case e100 => (go_simp; (try rfl))
                  case e101 => (go_simp; (try rfl))
                  case m102 =>
                    simp only [List.setIfInBounds_toArray, List.set_cons_zero, List.set_cons_succ]
                    refine anyH_mono (S' := fun w' => ((∀ b o, b < W.heap.size → w'.cell? ⟨b, o, none⟩ = W.cell? ⟨b, o, none⟩) ∧ Below W.heap.size W w') ∧ Blk w' (wu79.heap.size) #[.int .u8 x.kind.toNat] 5) (fun _ h => h.1) _ _ _ _ ?_
                    have hm99 := And.intro (show _ ∧ Below W.heap.size W (wu79.alloc (.cells #[.int .u8 x.kind.toNat] 5)) from keepS_alloc hh81 _) (Blk.new wu79 #[.int .u8 x.kind.toNat] 5)
                    refine reg_take 4 40 (v := ?vy107) rfl rfl (by kernel_rfl) (by kernel_rfl) (by kernel_rfl) (fun _ _ _ h => h) rfl ?y107 hm99 ?_
                    case y107 => (intro w hSw; have hcv := hK _ _ (hSw.2.cell 0); (try dsimp only at hSw); go_simp; (try with_reducible rfl))
                    simp only [List.setIfInBounds_toArray, List.set_cons_zero, List.set_cons_succ]
                    refine reg_take 5 41 (v := ?vy108) rfl rfl (by kernel_rfl) (by kernel_rfl) (by kernel_rfl) (fun _ _ _ h => h) rfl ?y108 hm99 ?_
                    case y108 => (intro w hSw; (try dsimp only at hSw); go_simp; (try with_reducible rfl))
                    simp only [List.setIfInBounds_toArray, List.set_cons_zero, List.set_cons_succ]
                    refine reg_take 6 42 (v := ?vy109) rfl rfl (by kernel_rfl) (by kernel_rfl) (by kernel_rfl) (fun _ _ _ h => h) rfl ?y109 hm99 ?_
                    case y109 => (intro w hSw; (try dsimp only at hSw); go_simp; (try with_reducible rfl))
                    simp only [List.setIfInBounds_toArray, List.set_cons_zero, List.set_cons_succ]
                    refine reg_take 10 46 (v := ?vy110) rfl rfl (by kernel_rfl) (by kernel_rfl) (by kernel_rfl) (fun _ _ _ h => h) rfl ?y110 hm99 ?_
                    case y110 => (intro w hSw; (try dsimp only at hSw); go_simp; (try with_reducible rfl))
                    simp only [List.setIfInBounds_toArray, List.set_cons_zero, List.set_cons_succ]
                    refine reg_take 14 50 (v := ?vy111) rfl rfl (by kernel_rfl) (by kernel_rfl) (by kernel_rfl) (fun _ _ _ h => h) rfl ?y111 hm99 ?_
                    case y111 => (intro w hSw; (try dsimp only at hSw); go_simp; (try with_reducible rfl))
                    simp only [List.setIfInBounds_toArray, List.set_cons_zero, List.set_cons_succ]
                    refine reg_take 18 54 (v := ?vy112) rfl rfl (by kernel_rfl) (by kernel_rfl) (by kernel_rfl) (fun _ _ _ h => h) rfl ?y112 hm99 ?_
                    case y112 => (intro w hSw; (try dsimp only at hSw); go_simp; (try with_reducible rfl))
                    simp only [List.setIfInBounds_toArray, List.set_cons_zero, List.set_cons_succ]
                    refine reg_call 21 57 (R := fun v w' => v = .string S3 ∧ Below (wu79.alloc (.cells #[.int .u8 x.kind.toNat] 5)).heap.size (wu79.alloc (.cells #[.int .u8 x.kind.toNat] 5)) w') (by kernel_rfl) rfl rfl rfl ?x113 ((c3.out _).mono (fun e w' ⟨he, hb⟩ => ⟨_, he, rfl, hb⟩)) (fun v w' ⟨_, hb⟩ => ⟨keepS_call hm99.1 hb, hm99.2.keep hb⟩) ?_
                    case x113 => (go_simp; (try rfl))
                    rintro _ wv114 ⟨rfl, hb115⟩
                    have hh116 := And.intro (keepS_call hm99.1 hb115) (hm99.2.keep hb115)
                    simp only [List.setIfInBounds_toArray, List.set_cons_zero, List.set_cons_succ]
                    refine reg_take 22 58 (v := ?vy117) rfl rfl (by kernel_rfl) (by kernel_rfl) (by kernel_rfl) (fun _ _ _ h => h) rfl ?y117 hh116 ?_
                    case y117 => (intro w hSw; (try dsimp only at hSw); go_simp; (try with_reducible rfl))
                    simp only [List.setIfInBounds_toArray, List.set_cons_zero, List.set_cons_succ]
                    refine reg_take 23 59 (v := ?vy118) rfl rfl (by kernel_rfl) (by kernel_rfl) (by kernel_rfl) (fun _ _ _ h => h) rfl ?y118 hh116 ?_
                    case y118 => (intro w hSw; (try dsimp only at hSw); go_simp; (try with_reducible rfl))
                    simp only [List.setIfInBounds_toArray, List.set_cons_zero, List.set_cons_succ]
                    refine reg_take 24 3 (v := ?vy119) rfl rfl (by kernel_rfl) (by kernel_rfl) (by kernel_rfl) (fun _ _ _ h => h) rfl ?y119 hh116 ?_
                    case y119 => (intro w hSw; (try dsimp only at hSw); go_simp; (try with_reducible rfl))
                    simp only [List.setIfInBounds_toArray, List.set_cons_zero, List.set_cons_succ]
                    refine wpAnyH_done (by kernel_rfl) ?_ _
                    have HS4 := Lib.hid (bnext HW3.out hh116.1.2)
                    go_wp2_with fail
                    go_roundw
                    case measure => simp [intOf]; omega
                    case rel => exact ⟨j + 1, _, l ++ lineL x, by omega, by go_num, rfl, HL.out _ Ho.out, by rw [← HX.out, HSt.out]; simp, HS4.out⟩
                  case m103 =>
                    rintro _ wu104 ⟨rfl, hb105⟩
                    have hh106 := keepS_call hh81 hb105
                    simp only [List.setIfInBounds_toArray, List.set_cons_zero, List.set_cons_succ]
                    refine reg_one 3 39 (v := .slice (some ⟨wu104.heap.size, 0, none⟩) 1 1) (W := wu104.alloc (.cells #[.int .u8 x.kind.toNat] 5)) (by kernel_rfl) rfl rfl rfl ?e121 (keepS_alloc hh106 _) ?_
                    case e121 => (go_simp; (try rfl))
                    simp only [List.setIfInBounds_toArray, List.set_cons_zero, List.set_cons_succ]
                    refine anyH_mono (S' := fun w' => ((∀ b o, b < W.heap.size → w'.cell? ⟨b, o, none⟩ = W.cell? ⟨b, o, none⟩) ∧ Below W.heap.size W w') ∧ Blk w' (wu104.heap.size) #[.int .u8 x.kind.toNat] 5) (fun _ h => h.1) _ _ _ _ ?_
                    have hm120 := And.intro (show _ ∧ Below W.heap.size W (wu104.alloc (.cells #[.int .u8 x.kind.toNat] 5)) from keepS_alloc hh106 _) (Blk.new wu104 #[.int .u8 x.kind.toNat] 5)
                    refine reg_take 4 40 (v := ?vy122) rfl rfl (by kernel_rfl) (by kernel_rfl) (by kernel_rfl) (fun _ _ _ h => h) rfl ?y122 hm120 ?_
                    case y122 => (intro w hSw; have hcv := hK _ _ (hSw.2.cell 0); (try dsimp only at hSw); go_simp; (try with_reducible rfl))
                    simp only [List.setIfInBounds_toArray, List.set_cons_zero, List.set_cons_succ]
                    refine reg_take 5 41 (v := ?vy123) rfl rfl (by kernel_rfl) (by kernel_rfl) (by kernel_rfl) (fun _ _ _ h => h) rfl ?y123 hm120 ?_
                    case y123 => (intro w hSw; (try dsimp only at hSw); go_simp; (try with_reducible rfl))
                    simp only [List.setIfInBounds_toArray, List.set_cons_zero, List.set_cons_succ]
                    refine reg_take 6 42 (v := ?vy124) rfl rfl (by kernel_rfl) (by kernel_rfl) (by kernel_rfl) (fun _ _ _ h => h) rfl ?y124 hm120 ?_
                    case y124 => (intro w hSw; (try dsimp only at hSw); go_simp; (try with_reducible rfl))
                    simp only [List.setIfInBounds_toArray, List.set_cons_zero, List.set_cons_succ]
                    refine reg_take 10 46 (v := ?vy125) rfl rfl (by kernel_rfl) (by kernel_rfl) (by kernel_rfl) (fun _ _ _ h => h) rfl ?y125 hm120 ?_
                    case y125 => (intro w hSw; (try dsimp only at hSw); go_simp; (try with_reducible rfl))
                    simp only [List.setIfInBounds_toArray, List.set_cons_zero, List.set_cons_succ]
                    refine reg_take 14 50 (v := ?vy126) rfl rfl (by kernel_rfl) (by kernel_rfl) (by kernel_rfl) (fun _ _ _ h => h) rfl ?y126 hm120 ?_
                    case y126 => (intro w hSw; (try dsimp only at hSw); go_simp; (try with_reducible rfl))
                    simp only [List.setIfInBounds_toArray, List.set_cons_zero, List.set_cons_succ]
                    refine reg_take 18 54 (v := ?vy127) rfl rfl (by kernel_rfl) (by kernel_rfl) (by kernel_rfl) (fun _ _ _ h => h) rfl ?y127 hm120 ?_
                    case y127 => (intro w hSw; (try dsimp only at hSw); go_simp; (try with_reducible rfl))
                    simp only [List.setIfInBounds_toArray, List.set_cons_zero, List.set_cons_succ]
                    refine reg_take 22 58 (v := ?vy128) rfl rfl (by kernel_rfl) (by kernel_rfl) (by kernel_rfl) (fun _ _ _ h => h) rfl ?y128 hm120 ?_
                    case y128 => (intro w hSw; (try dsimp only at hSw); go_simp; (try with_reducible rfl))
                    simp only [List.setIfInBounds_toArray, List.set_cons_zero, List.set_cons_succ]
                    refine reg_take 23 59 (v := ?vy129) rfl rfl (by kernel_rfl) (by kernel_rfl) (by kernel_rfl) (fun _ _ _ h => h) rfl ?y129 hm120 ?_
                    case y129 => (intro w hSw; (try dsimp only at hSw); go_simp; (try with_reducible rfl))
                    simp only [List.setIfInBounds_toArray, List.set_cons_zero, List.set_cons_succ]
                    refine reg_take 24 3 (v := ?vy130) rfl rfl (by kernel_rfl) (by kernel_rfl) (by kernel_rfl) (fun _ _ _ h => h) rfl ?y130 hm120 ?_
                    case y130 => (intro w hSw; (try dsimp only at hSw); go_simp; (try with_reducible rfl))
                    simp only [List.setIfInBounds_toArray, List.set_cons_zero, List.set_cons_succ]
                    refine wpAnyH_done (by kernel_rfl) ?_ _
                    have HS4 := Lib.hid (bnext HW3.out hm120.1.2)
                    go_wp2_with fail
                    go_roundw
                    case measure => simp [intOf]; omega
                    case rel => exact ⟨j + 1, _, l ++ lineL x, by omega, by go_num, rfl, HL.out _ Ho.out, by rw [← HX.out, HSt.out]; simp, HS4.out⟩
          · obtain rfl : j = g.notes.length := by omega
            have HX3 := Lib.hid (show l ++ (endL g.fin ++ textL ((gs.drop (k + 1)).map Gr.p)) = textL (gs.map Gr.p) by have := HX.out; simpa using this)
            have HWW := Lib.hid (bnext HW.out HW2.out)
            clear hA2 hW2 htx ho HX
            by_cases hf : g.fin.toNat = 0
            · have hf1 := (int_beq (g.fin.toNat : Int) 0 (by omega)).2
              have HE := Lib.hid (show endL g.fin = [] by unfold endL; rw [if_pos hf])
              clear hf
              go_wp2_with fail
              go_roundw
              case measure => simp [intOf]; omega
              case rel => exact ⟨k + 1, o, l, by omega, by go_num, rfl, Ho.out, by have := HX3.out; rw [HE.out] at this; exact this, HWW.out⟩
            · have hf1 := (int_bne (g.fin.toNat : Int) 0 (by omega)).2
              have HE := Lib.hid (show endL g.fin = [g.fin, 10] by unfold endL; rw [if_neg hf])
              have kc := conv_kind g.fin (wr.alloc (.cells #[.int .u8 g.fin.toNat] 5)) wr.heap.size (by simp)
              have hks : (str [g.fin]).size = 1 := rfl
              have HT := Lib.hid (show o ++ str [g.fin] ++ ByteArray.mk #[10] = str (l ++ [g.fin, 10]) by rw [Ho.out]; show str l ++ str [g.fin] ++ str [10] = _; rw [str_append, str_append]; simp)
              generalize str [g.fin] = Kb at kc hks HT
              have hn2 : ¬ 9223372036854775807 < o.size + 1 := by omega
              have hn3 : ¬ 9223372036854775807 < o.size + 2 := by omega
              clear hf
              go_wp2_with fail
              go_roundw
              case measure => simp [intOf]; omega
              case rel => exact ⟨k + 1, _, l ++ [g.fin, 10], by omega, by go_num, rfl, HT.out, by rw [← HX3.out, HE.out]; simp, balloc HWW.out _⟩
      · obtain rfl : k = gs.length := by omega
        have HX2 := Lib.hid (show l = textL (gs.map Gr.p) by have := HX.out; rw [text_end, List.append_nil] at this; exact this)
        go_wp2_with fail
        go_ret
        exact ⟨show Ending.returned (.string o) = _ from by rw [HV.out, ← HX2.out, Ho.out], HW.out⟩
end Go.Proofs.YtcjllikngfndhaaDoor

/- ragpickerref39.Parse. -/
namespace Go.Proofs.YtcjllikngfndhaaDoor

open Go.RowKit

/-- what the reference's Parse answers. -/
def ParseRes (r : Option (List (List Nt × UInt8))) (e : Ending) (w' : World) : Prop :=
  (r = none ∧ e = .returned (.tuple #[.slice none 0 0, .int .i64 2])) ∨
  ∃ a c gs, r = some (gs.map Gr.p) ∧ e = .returned (.tuple #[.slice a gs.length c, .int .i64 0]) ∧ Grs w' a c gs ∧ GOk gs
theorem parseRes_no {r : Option (List (List Nt × UInt8))} {w' : World} (h : r = none) : ParseRes r (.returned (.tuple #[.slice none 0 0, .int .i64 2])) w' := .inl ⟨h, rfl⟩
theorem parseRes_yes {r : Option (List (List Nt × UInt8))} {w' : World} {a : Option Addr} {c : Nat} {gs : List Gr} (h : r = some (gs.map Gr.p)) (hG : Grs w' a c gs) (hO : GOk gs) : ParseRes r (.returned (.tuple #[.slice a gs.length c, .int .i64 0])) w' := .inr ⟨a, c, gs, h, rfl, hG, hO⟩

theorem ren_le {a : Option Addr} {n c B j : Nat} (hfr : ∀ x, a = some x → B ≤ x.block) (hj : (Value.slice a n c).ownBlock = some j) : B ≤ j := by
  cases a with
  | none => cases hj
  | some x =>
    simp only [Value.ownBlock, Option.some.injEq] at hj
    subst hj
    exact hfr x rfl
theorem map_lastU (gs : List Gr) (h : gs.length - 1 < gs.length) (f : List Nt × UInt8 → List Nt × UInt8) (g' : Gr) (hf : f gs[gs.length - 1].p = g'.p) {h0 : 0 < (gs.map Gr.p).length} : lastU (gs.map Gr.p) h0 f = (gs.set (gs.length - 1) g').map Gr.p := by
  unfold lastU
  rw [List.map_set, ← hf]
  simp
set_option maxRecDepth 100000 in
set_option maxHeartbeats 4000000 in
theorem rparse_any (s : ByteArray) (w : World) (hs : s.size ≤ 100000) :
    Calls Tryd.prog 12 #[.string s] w fun e w' => ParseRes (parseR s.data.toList) e w' ∧ Below w.heap.size w w' := by
  have hsl : s.data.toList.length = s.size := Array.length_toList
  have HL := Lib.hid (lines_any s w (by omega))
  have hpl := (spl_len 10 s.data.toList).2
  have hws := wsum_spl 10 s.data.toList
  have hlz := size_lines (s := s.data.toList) (by omega)
  have HP := Lib.hid (show parseR s.data.toList = ((spl 10 s.data.toList).foldlM stepR []).bind fun out => if writeB out = s.data.toList then some out else none from rfl)
  generalize hls : spl 10 s.data.toList = ls at HL hpl hws hlz HP
  have HLz := Lib.hid hlz
  have hll : ls.length ≤ 100001 := by omega
  have HWs := Lib.hid (show wsum ls ≤ 100001 by omega)
  clear hls hpl hws hlz hsl
  go_enter Tryd.func12, Tryd.ntmps12
  go_wp2_with (go_at_call 25; refine HL.out.mono ?_; rintro e w1 ⟨⟨g0, cap0, rfl, hO⟩, hb1⟩; have HO1 := Lib.hid hO; have HW1 := Lib.hid hb1; clear hO hb1)
  go_loopw [4, 6] (fun t4 t6 wr => ∃ (k : Nat) (gs : List Gr), k ≤ ls.length ∧ t6 = .int .i64 k ∧ OG wr w1.heap.size t4 gs ∧ (ls.take k).foldlM stepR [] = some (gs.map Gr.p) ∧ Below w1.heap.size w1 wr) (fun _ t6 _ => ls.length - (intOf t6).toNat)
  case atStart => exact ⟨0, [], Nat.zero_le _, rfl, OG.nil _ _, rfl, Below.refl _ _⟩
  case round =>
    obtain ⟨k, gs, hk, rfl, hG, hf, hW⟩ := hrel
    have HF := Lib.hid hf
    have HW := Lib.hid hW
    have HG := Lib.hid hG
    obtain ⟨a, c, rfl, hgc, hgm, hfrm⟩ := hG.form
    have hwl := hW.size
    have HOk := Lib.hid (fold_ok stepR_ok _ (fun t ht => HLz.out t (List.mem_of_mem_take ht)) hf)
    have hgl : gs.length ≤ 100001 := by
      have h1 := HOk.out.len
      have h2 : wsum ls = wsum (ls.take k) + wsum (ls.drop k) := by rw [← wsum_append, List.take_append_drop]
      have h3 := HWs.out
      rw [List.length_map] at h1
      omega
    have HFrm := Lib.hid hfrm
    clear hG hf hW hfrm
    by_cases hlt : k < ls.length
    · have HO := Lib.hid (show OS wr w.heap.size _ ls from own_below HO1.out HW.out (Nat.le_refl _))
      have hcl := HO.out.cell2 k hlt
      have HFs := Lib.hid (show (ls.take (k + 1)).foldlM stepR [] = stepR (gs.map Gr.p) ls[k] by rw [List.take_succ_eq_append_getElem hlt, fold_snoc, HF.out]; rfl)
      have htz := HLz.out ls[k] (List.getElem_mem _)
      generalize ls[k] = t at hcl HFs htz
      have htl : (str t).toList = t := by rw [ba_list, str_list]
      have hts : (str t).size = t.length := str_size t
      by_cases h103 : t = [103]
      · subst h103
        obtain ⟨g2, cap2, W, hrun, hO2, hB2, -⟩ := HG.out.app (by omega) hwl
        have HR := Lib.hid hrun
        have HX := Lib.hid (And.intro hO2 hB2)
        clear hrun hO2 hB2 htz
        go_wp2_with (at_builtin; refine wpList_app_run rfl rfl rfl rfl HR.out ?_)
        go_roundw
        case measure => simp [intOf]; omega
        case rel => exact ⟨k + 1, gs ++ [Gr.zero], by omega, by go_num, by simpa using HX.out.1, by rw [HFs.out]; unfold stepR; rw [if_pos rfl, List.map_append]; rfl, HW.out.trans HX.out.2⟩
      · have hb103 : (t == [103]) = false := beq_eq_false_iff_ne.2 h103
        by_cases h0 : t = []
        · subst h0
          clear htz
          go_wp2_with fail
          go_roundw
          case measure => simp [intOf]; omega
          case rel => exact ⟨k + 1, gs, by omega, by go_num, HG.out, by rw [HFs.out]; unfold stepR; rw [if_neg (by decide), if_pos rfl], HW.out⟩
        · have hb0 : (!t.isEmpty) = true := by cases t with | nil => exact absurd rfl h0 | cons => rfl
          have H103 := Lib.hid h103
          have H0 := Lib.hid h0
          by_cases hg0 : gs.length = 0
          · have HN := Lib.hid (show parseR s.data.toList = none by
              have : (ls.take (k + 1)).foldlM stepR [] = none := by
                rw [HFs.out]; unfold stepR; rw [if_neg H103.out, if_neg H0.out, dif_neg (by rw [List.length_map]; omega)]
              rw [HP.out, ← List.take_append_drop (k + 1) ls, List.foldlM_append, this]
              rfl)
            have hi1 : ((gs.length : Int) - 1) < 0 := by omega
            clear hg0 htz
            go_wp2_with fail
            go_ret2
            exact ⟨parseRes_no HN.out, HW1.out.trans (HW.out.mono HW1.out.size)⟩
          · obtain ⟨b, rfl, hb0', hblt⟩ : ∃ b, a = some ⟨b, 0, none⟩ ∧ w1.heap.size ≤ b ∧ b < wr.heap.size := by
              rcases HFrm.out with ⟨-, h, -⟩ | h
              · exact absurd h hg0
              · exact h
            have HK := Lib.hid (show gs.length - 1 < gs.length by omega)
            have hg1 : 1 ≤ gs.length := by omega
            have hx1 : (1 : Int) ≤ (gs.length : Int) := by omega
            have hx2 : (0 : Int) ≤ (gs.length : Int) - 1 := by omega
            have hx3 : (gs.length : Int) - 1 < (gs.length : Int) := by omega
            have hx4 : ((gs.length : Int) - 1).toNat = gs.length - 1 := by omega
            have hGc := HG.out.grs
            obtain ⟨cA, cB, -⟩ := hGc.cells (gs.length - 1) HK.out
            rw [Nat.zero_add] at cA cB
            have hfz := (own_frozen HG.out.own).1
            have hgi : ∀ out : List (List Nt × UInt8), out = gs.map Gr.p → 0 < out.length := fun out e => by rw [e, List.length_map]; exact hg1
            have HGi := Lib.hid hgi
            clear hgi hGc hg0
            by_cases h1 : t.length = 1
            · obtain ⟨f, rfl⟩ := List.length_eq_one_iff.1 h1
              have HX := Lib.hid (HG.out.fin (gs.length - 1) HK.out f)
              have hb1 : (([f] : List UInt8).length : Int) = 1 := rfl
              clear htz h1
              go_wp2_with fail
              go_roundw
              case measure => simp [intOf]; omega
              case rel => exact ⟨k + 1, gs.set (gs.length - 1) { gs[gs.length - 1]'HK.out with fin := f }, by omega, by go_num, HX.out, by rw [HFs.out]; unfold stepR; rw [if_neg H103.out, if_neg H0.out, dif_pos (HGi.out _ rfl), if_pos (show [f].length = 1 from rfl)]; exact congrArg some (map_lastU gs HK.out _ _ rfl), HW.out.trans ((Below.refl _ _).setCell hb0' _)⟩
            · have hb1 : ((t.length : Int) == 1) = false := by rw [beq_eq_false_iff_ne]; omega
              have h1i : ¬ (t.length : Int) = 1 := by omega
              have H1 := Lib.hid h1
              have HNote := Lib.hid (fun w => rnote_any (str t) w (by rw [str_size]; exact htz))
              rw [str_list] at HNote
              have hOx := (noteR_size t htz).1
              have hnl : (gs[gs.length - 1]'HK.out).notes.length ≤ 100001 := by
                have h1 := (HOk.out.notes (gs[gs.length - 1]'HK.out).p (List.mem_map_of_mem (List.getElem_mem _))).1
                have h2 : wsum ls = wsum (ls.take k) + wsum (ls.drop k) := by rw [← wsum_append, List.take_append_drop]
                have h3 := HWs.out
                have h4 : ((gs[gs.length - 1]'HK.out).p).1.length = (gs[gs.length - 1]'HK.out).notes.length := rfl
                omega
              have hnm : (gs[gs.length - 1]'HK.out).notes.length ≤ (gs[gs.length - 1]'HK.out).c := ((HG.out.grs.at' _ (List.getElem_mem (h := HK.out))).2.1)
              have hnm2 : (gs[gs.length - 1]'HK.out).c ≤ 9223372036854775807 := ((HG.out.grs.at' _ (List.getElem_mem (h := HK.out))).2.2.1)
              obtain ⟨a', c', W, hrun1, hnr, hbW, hfr⟩ := HG.out.copy (gs.length - 1) HK.out (by omega) hwl
              have HR1 := Lib.hid hrun1
              have HNR := Lib.hid hnr
              have HBW := Lib.hid hbW
              have HFr := Lib.hid hfr
              have HGW := Lib.hid (HG.out.keep hbW)
              have HOW := Lib.hid (show OS W w.heap.size _ ls from own_below HO.out hbW (Nat.le_refl _))
              have hclW := (hbW.cell (p := ⟨g0, k, none⟩) (cell_some_lt hcl).2).trans hcl
              have hWl := hbW.size
              clear h1 htz hrun1 hnr hbW hfr
              go_upto_region 16 with (at_builtin; refine wpList_app_run rfl rfl rfl rfl HR1.out ?_)
              generalize hxx : noteR t = x at HNote hOx
              have HXx := Lib.hid hxx
              have HOx := Lib.hid hOx
              clear hxx hOx
              unfold Nt.v at HNote
              go_wp2_with (first | (go_at_call 26; refine (HNote.out _).mono ?_; rintro e w2 ⟨rfl, hb2⟩; obtain ⟨b2, cap2, W3, hrun2, hn3, hm3, hor3, hbb3⟩ := NR.app (w := w2) (base := w1.heap.size) (own_below HNR.out hb2 (Nat.le_refl _)) x (by show (gs[gs.length - 1]'HK.out).notes.length ≤ _; omega) (Nat.le_trans hwl (Nat.le_trans hWl hb2.size)); have hRen := HG.out.renote (W := W3) (gL := ⟨a', c', (gs[gs.length - 1]'HK.out).notes, (gs[gs.length - 1]'HK.out).fin⟩) (gn := ⟨some ⟨b2, 0, none⟩, cap2, (gs[gs.length - 1]'HK.out).notes ++ [x], (gs[gs.length - 1]'HK.out).fin⟩) (gs.length - 1) HK.out ((HBW.out.trans (hb2.mono hWl)).trans ((Below.refl _ w2).alloc (Nat.le_trans hWl hb2.size) _)) (own_below (own_below HNR.out hb2 (Nat.le_refl _)) ((Below.refl _ w2).alloc (Nat.le_refl _) _) (Nat.le_refl _)) HFr.out hm3 hn3 (hor3.imp id (fun e => ⟨b2, rfl, by rw [e]; have := hb2.size; omega⟩)) rfl; obtain ⟨hOG, hcW, hfW, hlW⟩ := hRen; have c3 := (hcW ((gs.length - 1) * 2)).trans cA; have HR2 := Lib.hid hrun2; have HOG := Lib.hid hOG; have HBA := Lib.hid (((HBW.out.trans (hb2.mono hWl)).trans ((Below.refl _ w2).alloc (Nat.le_trans hWl hb2.size) _)).trans (hm3.below (B := wr.heap.size) (fun j hj => ren_le HFr.out hj) (by simp; have := hb2.size; omega))); clear hb2 hrun2 hn3 hm3 hor3 hOG hcW) | (at_builtin; refine wpList_app_run rfl rfl rfl rfl HR2.out ?_))
              go_roundw
              case measure => simp [intOf]; omega
              case rel => exact ⟨k + 1, gs.set (gs.length - 1) _, by omega, by go_num, by have := HOG.out; simp only [List.length_append, List.length_singleton] at this; exact this, by rw [HFs.out]; unfold stepR; rw [if_neg H103.out, if_neg H0.out, dif_pos (HGi.out _ rfl), if_neg H1.out, HXx.out]; exact congrArg some (map_lastU gs HK.out _ _ rfl), HW.out.trans ((HBA.out.mono hwl).setCell hb0' _)⟩
    · obtain rfl : k = ls.length := by omega
      have HFe := Lib.hid (show parseR s.data.toList = if writeB (gs.map Gr.p) = s.data.toList then some (gs.map Gr.p) else none by
        have h1 := HF.out
        rw [List.take_length] at h1
        rw [HP.out, h1]; rfl)
      have HOkg := Lib.hid (show GOk gs from fun g hg x hx => (HOk.out.notes g.p (List.mem_map_of_mem hg)).2 x hx)
      have HGr := Lib.hid HG.out.grs
      have HWr := Lib.hid (rwrite_any a c gs wr HGr.out HOkg.out (by
        have h1 := HOk.out.text
        have h3 := HWs.out
        rw [List.take_length] at h1
        omega))
      by_cases hw : writeB (gs.map Gr.p) = s.data.toList
      · have HY := Lib.hid (show parseR s.data.toList = some (gs.map Gr.p) by rw [HFe.out, if_pos hw])
        rw [hw, str_of] at HWr
        clear hw
        go_wp2_with (go_at_call 16; refine HWr.out.mono ?_; rintro e w2 ⟨rfl, hb2⟩)
        go_ret2
        exact ⟨parseRes_yes HY.out (HGr.out.below hb2 (Nat.le_refl _)) HOkg.out, HW1.out.trans ((HW.out.mono HW1.out.size).trans (hb2.mono (Nat.le_trans HW1.out.size hwl)))⟩
      · have HY := Lib.hid (show parseR s.data.toList = none by rw [HFe.out, if_neg hw])
        have hne : str (writeB (gs.map Gr.p)) ≠ s := fun e => hw (by rw [← e, str_list])
        have hn1 := str_bne hne
        have hn2 := str_bne1 hne
        clear hw hne
        generalize str (writeB (gs.map Gr.p)) = D at HWr hn1 hn2
        go_wp2_with (go_at_call 16; refine HWr.out.mono ?_; rintro e w2 ⟨rfl, hb2⟩)
        go_ret2
        exact ⟨parseRes_no HY.out, HW1.out.trans ((HW.out.mono HW1.out.size).trans (hb2.mono (Nat.le_trans HW1.out.size hwl)))⟩
end Go.Proofs.YtcjllikngfndhaaDoor
