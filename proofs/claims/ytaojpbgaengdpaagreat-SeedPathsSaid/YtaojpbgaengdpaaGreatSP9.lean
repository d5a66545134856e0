/- Texts of the proof, part 9. -/
import Derived.Test.YtaojpbgaengdpaaGreatSP7
import Derived.Test.YtaojpbgaengdpaaGreatSP8
set_option linter.unusedVariables false
set_option linter.unusedSimpArgs false
/- what stands between: lists of bytes parted at one byte. No walk. -/
namespace Go.Proofs.YtaojpbgaengdpaaGreat

open Go.RowKit

theorem spl_app (c : UInt8) (a m : List UInt8) : spl c (a ++ c :: m) = spl c a ++ spl c m := by
  refine snoc_ind (P := fun m => spl c (a ++ c :: m) = spl c a ++ spl c m) ?_ (fun m x ih => ?_) m
  · rw [spl_snoc, splStep, if_pos rfl]; rfl
  · rw [show a ++ c :: (m ++ [x]) = (a ++ c :: m) ++ [x] by simp, spl_snoc, ih, spl_snoc]
    have h0 := (spl_len c m).1
    unfold splStep
    split
    · simp
    · rw [List.length_append, List.getD_eq_getElem?_getD, List.getD_eq_getElem?_getD, List.getElem?_append_right (by omega), List.set_append_right _ _ (by omega), show (spl c a).length + (spl c m).length - 1 - (spl c a).length = (spl c m).length - 1 by omega]
theorem spl_none (c : UInt8) (l : List UInt8) : c ∉ l → spl c l = [l] := by
  refine snoc_ind (P := fun l => c ∉ l → spl c l = [l]) (fun _ => rfl) (fun l x ih h => ?_) l
  rw [List.mem_append, List.mem_singleton, not_or] at h
  rw [spl_snoc, ih h.1, splStep, if_neg (fun e => h.2 e.symm)]
  rfl
theorem indexByte_no : ∀ (l : List UInt8) (c : UInt8), Lib.indexByte l c = -1 → c ∉ l
  | [], c, _ => by simp
  | b :: l, c, h => by
    unfold Lib.indexByte at h
    have hge := Lib.indexByte_ge l c
    split at h
    · omega
    · rename_i hb
      split at h
      · rename_i h2
        have := indexByte_no l c (beq_iff_eq.1 h2)
        rw [List.mem_cons, not_or]
        exact ⟨fun e => hb (beq_iff_eq.2 e.symm), this⟩
      · omega
theorem indexByte_yes : ∀ (l : List UInt8) (c : UInt8) (i : Nat), Lib.indexByte l c = i → i < l.length ∧ l = l.take i ++ c :: l.drop (i + 1) ∧ c ∉ l.take i
  | [], c, i, h => by unfold Lib.indexByte at h; omega
  | b :: l, c, i, h => by
    unfold Lib.indexByte at h
    have hge := Lib.indexByte_ge l c
    split at h
    · rename_i hb
      obtain rfl : i = 0 := by omega
      refine ⟨by simp, ?_, by simp⟩
      rw [← beq_iff_eq.1 hb]; simp
    · rename_i hb
      split at h
      · omega
      · rename_i h2
        obtain ⟨j, rfl⟩ : ∃ j, i = j + 1 := ⟨i - 1, by have : Lib.indexByte l c ≠ -1 := fun e => h2 (beq_iff_eq.2 e); omega⟩
        obtain ⟨h3, h4, h5⟩ := indexByte_yes l c j (by omega)
        refine ⟨by simp; omega, ?_, ?_⟩
        · rw [List.take_succ_cons, List.drop_succ_cons, List.cons_append, ← h4]
        · rw [List.take_succ_cons, List.mem_cons, not_or]
          exact ⟨fun e => hb (beq_iff_eq.2 e.symm), h5⟩
theorem indexB_byte (s : ByteArray) (c : UInt8) : Lib.indexB s (ByteArray.mk #[c]) = Lib.indexByte s.data.toList c := Lib.index_one s.data.toList c
theorem extract_list (s : ByteArray) (a b : Nat) : (s.extract a b).data.toList = (s.data.toList.take b).drop a := by
  rw [Lib.extract_data, List.drop_take]
theorem extract_head (s : ByteArray) (i : Nat) : (s.extract 0 (i + 0)).data.toList = s.data.toList.take i := by
  rw [extract_list, List.drop_zero, Nat.add_zero]
theorem extract_tail (s : ByteArray) (i : Nat) : (s.extract (i + 1) s.size).data.toList = s.data.toList.drop (i + 1) := by
  rw [extract_list, List.take_of_length_le (show s.data.toList.length ≤ s.size from Nat.le_of_eq Array.length_toList)]
end Go.Proofs.YtaojpbgaengdpaaGreat

/- Trips (layer 15), plainly: the ways of a round. No walk. -/
namespace Go.Proofs.YtaojpbgaengdpaaGreat

open Go.RowKit

section

variable {S : Fs} {c : Cr} {f must : Bool} {h : Nat} {at' : Int} {p : List UInt8} {l : List (List UInt8)} {n : An}

theorem seek_nil : S.seekH c f h at' must [] = (⟨0, ByteArray.empty, at', true⟩, 0) := by cases h <;> rfl
theorem seek_err (he : (S.step c at' p).2 ≠ 0) : S.seekH c f h at' must (p :: l) = (fd0, (S.step c at' p).2) := by
  cases h
  · show S.seekL c f none (p :: l) at' must = _
    rw [Fs.seekL]; simp only; rw [if_pos he]
  · show S.seekL c f (some _) (p :: l) at' must = _
    rw [Fs.seekL]; simp only; rw [if_pos he]
theorem seek_up (he : (S.step c at' p).2 = 0) (hp : p = [46, 46]) : S.seekH c f h at' must (p :: l) = S.seekH c f h (S.step c at' p).1 must l := by
  cases h
  · show S.seekL c f none (p :: l) at' must = _
    rw [Fs.seekL]; simp only; rw [if_neg (by simp [he]), if_pos hp]; rfl
  · show S.seekL c f (some _) (p :: l) at' must = _
    rw [Fs.seekL]; simp only; rw [if_neg (by simp [he]), if_pos hp]; rfl
theorem seek_new (he : (S.step c at' p).2 = 0) (hp : p ≠ [46, 46]) (hg : S.get (S.step c at' p).1 = none) (hl : l = []) : S.seekH c f h at' must (p :: l) = (⟨at', str p, 0, must⟩, 0) := by
  cases h
  · show S.seekL c f none (p :: l) at' must = _
    rw [Fs.seekL]; simp only; rw [if_neg (by simp [he]), if_neg hp, hg]; simp only; rw [if_pos hl]
  · show S.seekL c f (some _) (p :: l) at' must = _
    rw [Fs.seekL]; simp only; rw [if_neg (by simp [he]), if_neg hp, hg]; simp only; rw [if_pos hl]
theorem seek_gone (he : (S.step c at' p).2 = 0) (hp : p ≠ [46, 46]) (hg : S.get (S.step c at' p).1 = none) (hl : l ≠ []) : S.seekH c f h at' must (p :: l) = (fd0, 5) := by
  cases h
  · show S.seekL c f none (p :: l) at' must = _
    rw [Fs.seekL]; simp only; rw [if_neg (by simp [he]), if_neg hp, hg]; simp only; rw [if_neg hl]
  · show S.seekL c f (some _) (p :: l) at' must = _
    rw [Fs.seekL]; simp only; rw [if_neg (by simp [he]), if_neg hp, hg]; simp only; rw [if_neg hl]
theorem seek_loop (he : (S.step c at' p).2 = 0) (hp : p ≠ [46, 46]) (hg : S.get (S.step c at' p).1 = some n) (hk : n.kind = 3 ∧ (l ≠ [] ∨ must = true ∨ f = true)) : S.seekH c f 0 at' must (p :: l) = (fd0, 12) := by
  show S.seekL c f none (p :: l) at' must = _
  rw [Fs.seekL]; simp only; rw [if_neg (by simp [he]), if_neg hp, hg]; simp only; rw [if_pos hk]
theorem seek_void (he : (S.step c at' p).2 = 0) (hp : p ≠ [46, 46]) (hg : S.get (S.step c at' p).1 = some n) (hk : n.kind = 3 ∧ (l ≠ [] ∨ must = true ∨ f = true)) (hd : n.data.data.toList = []) : S.seekH c f (h + 1) at' must (p :: l) = (fd0, 5) := by
  show S.seekL c f (some _) (p :: l) at' must = _
  rw [Fs.seekL]; simp only; rw [if_neg (by simp [he]), if_neg hp, hg]; simp only; rw [if_pos hk, if_pos hd]
theorem seek_link (he : (S.step c at' p).2 = 0) (hp : p ≠ [46, 46]) (hg : S.get (S.step c at' p).1 = some n) (hk : n.kind = 3 ∧ (l ≠ [] ∨ must = true ∨ f = true)) (hd : n.data.data.toList ≠ []) :
    S.seekH c f (h + 1) at' must (p :: l) = S.seekH c f h (if n.data.data.toList.head? = some 47 then 1 else at') (if l = [] then must || slashB n.data.data.toList else must) (partsL n.data.data.toList ++ l) := by
  show S.seekL c f (some _) (p :: l) at' must = _
  rw [Fs.seekL]; simp only; rw [if_neg (by simp [he]), if_neg hp, hg]; simp only; rw [if_pos hk, if_neg hd]
theorem seek_file (he : (S.step c at' p).2 = 0) (hp : p ≠ [46, 46]) (hg : S.get (S.step c at' p).1 = some n) (hk : ¬ (n.kind = 3 ∧ (l ≠ [] ∨ must = true ∨ f = true))) (hd : n.kind ≠ 1 ∧ (l ≠ [] ∨ must = true)) : S.seekH c f h at' must (p :: l) = (fd0, 9) := by
  cases h
  · show S.seekL c f none (p :: l) at' must = _
    rw [Fs.seekL]; simp only; rw [if_neg (by simp [he]), if_neg hp, hg]; simp only; rw [if_neg hk, if_pos hd]
  · show S.seekL c f (some _) (p :: l) at' must = _
    rw [Fs.seekL]; simp only; rw [if_neg (by simp [he]), if_neg hp, hg]; simp only; rw [if_neg hk, if_pos hd]
theorem seek_last (he : (S.step c at' p).2 = 0) (hp : p ≠ [46, 46]) (hg : S.get (S.step c at' p).1 = some n) (hk : ¬ (n.kind = 3 ∧ (l ≠ [] ∨ must = true ∨ f = true))) (hd : ¬ (n.kind ≠ 1 ∧ (l ≠ [] ∨ must = true))) (hl : l = []) : S.seekH c f h at' must (p :: l) = (⟨at', str p, (S.step c at' p).1, must⟩, 0) := by
  cases h
  · show S.seekL c f none (p :: l) at' must = _
    rw [Fs.seekL]; simp only; rw [if_neg (by simp [he]), if_neg hp, hg]; simp only; rw [if_neg hk, if_neg hd, if_pos hl]
  · show S.seekL c f (some _) (p :: l) at' must = _
    rw [Fs.seekL]; simp only; rw [if_neg (by simp [he]), if_neg hp, hg]; simp only; rw [if_neg hk, if_neg hd, if_pos hl]
theorem seek_on (he : (S.step c at' p).2 = 0) (hp : p ≠ [46, 46]) (hg : S.get (S.step c at' p).1 = some n) (hk : ¬ (n.kind = 3 ∧ (l ≠ [] ∨ must = true ∨ f = true))) (hd : ¬ (n.kind ≠ 1 ∧ (l ≠ [] ∨ must = true))) (hl : l ≠ []) : S.seekH c f h at' must (p :: l) = S.seekH c f h (S.step c at' p).1 must l := by
  cases h
  · show S.seekL c f none (p :: l) at' must = _
    rw [Fs.seekL]; simp only; rw [if_neg (by simp [he]), if_neg hp, hg]; simp only; rw [if_neg hk, if_neg hd, if_neg hl]; rfl
  · show S.seekL c f (some _) (p :: l) at' must = _
    rw [Fs.seekL]; simp only; rw [if_neg (by simp [he]), if_neg hp, hg]; simp only; rw [if_neg hk, if_neg hd, if_neg hl]; rfl
end

theorem parts_len (l : List UInt8) : (partsL l).length ≤ l.length + 1 := Nat.le_trans (List.length_filter_le _ _) (spl_len 47 l).2
/-- the parts of a text behind a slash. -/
theorem parts_app (a b : List UInt8) (ha : ∀ x ∈ a, x ≠ 47) : partsL (a ++ 47 :: b) = (if a = [] ∨ a = [46] then [] else [a]) ++ partsL b := by
  unfold partsL
  rw [spl_app, spl_none 47 a (fun h => ha 47 h rfl), List.filter_append]
  congr 1
  by_cases h1 : a = []
  · subst h1; rfl
  · by_cases h2 : a = [46]
    · subst h2; rfl
    · rw [if_neg (by rintro (h | h); exact h1 h; exact h2 h)]
      have e1 : (a == []) = false := by simpa using h1
      have e2 : (a == [46]) = false := by simpa using h2
      simp [h1, h2]
theorem parts_one (a : List UInt8) (ha : ∀ x ∈ a, x ≠ 47) : partsL a = if a = [] ∨ a = [46] then [] else [a] := by
  unfold partsL
  rw [spl_none 47 a (fun h => ha 47 h rfl)]
  by_cases h1 : a = []
  · subst h1; rfl
  · by_cases h2 : a = [46]
    · subst h2; rfl
    · rw [if_neg (by rintro (h | h); exact h1 h; exact h2 h)]
      have e1 : (a == []) = false := by simpa using h1
      have e2 : (a == [46]) = false := by simpa using h2
      simp [h1, h2]
end Go.Proofs.YtaojpbgaengdpaaGreat
