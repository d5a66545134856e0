/- Texts of the proof, part 32. -/
import Derived.Test.YtaojpbgaengdpaaGreatPL19
set_option linter.unusedVariables false
set_option linter.unusedSimpArgs false
/- A node comes under a name (layer 17): Dir, File, Sym. -/
namespace Go.Proofs.YtaojpbgaengdpaaGreat

open Go.RowKit

section

variable {w w' : World} {pw : Nat} {R : Rp} {S : Fs}

set_option maxRecDepth 100000 in
set_option maxHeartbeats 1000000 in
theorem dir_any (h : WdAt w pw R S) {N : Nat} (hk : FsOk S N) (hN : N ≤ 999999) (c : Cr) (now dir : Int) (s : ByteArray) (hs : s.size ≤ 9223372036854775807) (mode : Int) :
    Calls Tryz.prog 92 #[.pointer (some ⟨pw, 0, none⟩), .agg #[.int .i64 c.u, .int .i64 c.g], .int .i64 now, .int .i64 dir, .string s, .int .i64 mode] w fun e w' =>
      e = .returned (.tuple #[.int .i64 (S.mkdir c now dir s mode).2.1, .int .i64 (S.mkdir c now dir s mode).2.2]) ∧ ∃ R', WdAt w' pw R' (S.mkdir c now dir s mode).1 ∧ Stp (R.F pw) (R'.F pw) w w' := by
  have HP := Lib.hid (fun w1 (hb1 : Below w.heap.size w w1) => put_any (h.keep hb1) hk hN c now dir s hs { an0 with kind := 1, mode := mode, up := dir } rfl (by show (0 : Nat) ≤ _; omega))
  unfold An.v an0 at HP
  have HW := Lib.hid h
  clear h hk
  by_cases h1 : mode < 0
  · have HE := Lib.hid (show S.mkdir c now dir s mode = (S, 0, 1) by unfold Fs.mkdir; rw [if_pos (.inl h1)])
    go_enter Tryz.func92, Tryz.ntmps92
    go_wp2_with fail
    go_ret2
    rw [HE.out]
    exact ⟨rfl, R, HW.out.keep (by go_grown), Stp.of_below (by go_grown)⟩
  · skip
    by_cases h2 : 1023 < mode
    · have HE := Lib.hid (show S.mkdir c now dir s mode = (S, 0, 1) by unfold Fs.mkdir; rw [if_pos (.inr h2)])
      go_enter Tryz.func92, Tryz.ntmps92
      go_wp2_with fail
      go_ret2
      rw [HE.out]
      exact ⟨rfl, R, HW.out.keep (by go_grown), Stp.of_below (by go_grown)⟩
    · skip
      have HE := Lib.hid (show S.mkdir c now dir s mode = S.come c now dir s { an0 with kind := 1, mode := mode, up := dir } by unfold Fs.mkdir; rw [if_neg (by omega)])
      unfold an0 at HE
      go_enter Tryz.func92, Tryz.ntmps92
      go_wp2_with fail
      refine (HP.out _ (by first | exact Below.refl _ _ | exact balloc (Below.refl _ _) _ | exact balloc (balloc (Below.refl _ _) _) _)).mono ?_
      rintro e w1 ⟨rfl, R1, hR1, hS1⟩
      have HR1 := Lib.hid (And.intro hR1 hS1)
      clear hR1 hS1 HP
      go_wp2_with fail
      go_ret2
      rw [HE.out]
      exact ⟨rfl, R1, HR1.out.1, (Stp.of_below (by go_grown)).trans HR1.out.2⟩
set_option maxRecDepth 100000 in
set_option maxHeartbeats 1000000 in
theorem file_any (h : WdAt w pw R S) {N : Nat} (hk : FsOk S N) (hN : N ≤ 999999) (c : Cr) (now dir : Int) (s : ByteArray) (hs : s.size ≤ 9223372036854775807) (mode : Int) (data : ByteArray) (hd : data.size ≤ 9223372036854775807) :
    Calls Tryz.prog 94 #[.pointer (some ⟨pw, 0, none⟩), .agg #[.int .i64 c.u, .int .i64 c.g], .int .i64 now, .int .i64 dir, .string s, .int .i64 mode, .string data] w fun e w' =>
      e = .returned (.tuple #[.int .i64 (S.file c now dir s mode data).2.1, .int .i64 (S.file c now dir s mode data).2.2]) ∧ ∃ R', WdAt w' pw R' (S.file c now dir s mode data).1 ∧ Stp (R.F pw) (R'.F pw) w w' := by
  have HP := Lib.hid (fun w1 (hb1 : Below w.heap.size w w1) => put_any (h.keep hb1) hk hN c now dir s hs { an0 with kind := 2, mode := mode, data := data } rfl (hd))
  unfold An.v an0 at HP
  have HW := Lib.hid h
  clear h hk
  by_cases h1 : mode < 0
  · have HE := Lib.hid (show S.file c now dir s mode data = (S, 0, 1) by unfold Fs.file; rw [if_pos (.inl h1)])
    go_enter Tryz.func94, Tryz.ntmps94
    go_wp2_with fail
    go_ret2
    rw [HE.out]
    exact ⟨rfl, R, HW.out.keep (by go_grown), Stp.of_below (by go_grown)⟩
  · skip
    by_cases h2 : 1023 < mode
    · have HE := Lib.hid (show S.file c now dir s mode data = (S, 0, 1) by unfold Fs.file; rw [if_pos (.inr h2)])
      go_enter Tryz.func94, Tryz.ntmps94
      go_wp2_with fail
      go_ret2
      rw [HE.out]
      exact ⟨rfl, R, HW.out.keep (by go_grown), Stp.of_below (by go_grown)⟩
    · skip
      by_cases h3 : 1048576 < data.size
      · have HE := Lib.hid (show S.file c now dir s mode data = (S, 0, 3) by unfold Fs.file; rw [if_neg (by omega), if_pos h3])
        have h3n : (1048576 : Int) < (data.size : Int) := by omega
        go_enter Tryz.func94, Tryz.ntmps94
        go_wp2_with fail
        go_ret2
        rw [HE.out]
        exact ⟨rfl, R, HW.out.keep (by go_grown), Stp.of_below (by go_grown)⟩
      · skip
        have h3n : ¬ (1048576 : Int) < (data.size : Int) := by omega
        have HE := Lib.hid (show S.file c now dir s mode data = S.come c now dir s { an0 with kind := 2, mode := mode, data := data } by unfold Fs.file; rw [if_neg (by omega), if_neg h3])
        unfold an0 at HE
        go_enter Tryz.func94, Tryz.ntmps94
        go_wp2_with fail
        refine (HP.out _ (by first | exact Below.refl _ _ | exact balloc (Below.refl _ _) _ | exact balloc (balloc (Below.refl _ _) _) _)).mono ?_
        rintro e w1 ⟨rfl, R1, hR1, hS1⟩
        have HR1 := Lib.hid (And.intro hR1 hS1)
        clear hR1 hS1 HP
        go_wp2_with fail
        go_ret2
        rw [HE.out]
        exact ⟨rfl, R1, HR1.out.1, (Stp.of_below (by go_grown)).trans HR1.out.2⟩
set_option maxRecDepth 100000 in
set_option maxHeartbeats 1000000 in
theorem sym_any (h : WdAt w pw R S) {N : Nat} (hk : FsOk S N) (hN : N ≤ 999999) (c : Cr) (now dir : Int) (s : ByteArray) (hs : s.size ≤ 9223372036854775807) (text : ByteArray) (hd : text.size ≤ 9223372036854775807) :
    Calls Tryz.prog 95 #[.pointer (some ⟨pw, 0, none⟩), .agg #[.int .i64 c.u, .int .i64 c.g], .int .i64 now, .int .i64 dir, .string s, .string text] w fun e w' =>
      e = .returned (.tuple #[.int .i64 (S.sym c now dir s text).2.1, .int .i64 (S.sym c now dir s text).2.2]) ∧ ∃ R', WdAt w' pw R' (S.sym c now dir s text).1 ∧ Stp (R.F pw) (R'.F pw) w w' := by
  have HP := Lib.hid (fun w1 (hb1 : Below w.heap.size w w1) => put_any (h.keep hb1) hk hN c now dir s hs { an0 with kind := 3, mode := 511, data := text } rfl (hd))
  unfold An.v an0 at HP
  have HW := Lib.hid h
  clear h hk
  have H0 := Lib.hid (contains_any text)
  have hb : hasB text 0 = decide ((0 : UInt8) ∈ text.data.toList) := rfl
  have HB0 := Lib.hid hb.symm
  clear hb
  generalize hasB text 0 = b0 at H0 HB0
  by_cases h1 : text.toList = []
  · have HE := Lib.hid (show S.sym c now dir s text = (S, 0, 1) by unfold Fs.sym; rw [if_pos (.inl (by rw [← ba_list]; exact h1))])
    go_enter Tryz.func95, Tryz.ntmps95
    go_wp2_with (go_at_call 121; ((with_reducible refine (H0.out _).mono ?_); rintro e w1 ⟨rfl, rfl⟩))
    go_ret2
    rw [HE.out]
    exact ⟨rfl, R, HW.out.keep (by go_grown), Stp.of_below (by go_grown)⟩
  · skip
    have h1' : text.toList.isEmpty = false := by simpa using h1
    by_cases h2 : b0 = true
    · have HE := Lib.hid (show S.sym c now dir s text = (S, 0, 1) by unfold Fs.sym; rw [if_pos (.inr (of_decide_eq_true (HB0.out.trans h2)))])
      subst h2
      go_enter Tryz.func95, Tryz.ntmps95
      go_wp2_with (go_at_call 121; ((with_reducible refine (H0.out _).mono ?_); rintro e w1 ⟨rfl, rfl⟩))
      go_ret2
      rw [HE.out]
      exact ⟨rfl, R, HW.out.keep (by go_grown), Stp.of_below (by go_grown)⟩
    · skip
      have h2' : b0 = false := by simpa using h2
      subst h2'
      by_cases h3 : 4096 < text.size
      · have HE := Lib.hid (show S.sym c now dir s text = (S, 0, 13) by unfold Fs.sym; rw [if_neg (by rintro (h | h); exact h1 (by rw [ba_list]; exact h); exact absurd (HB0.out.symm.trans (decide_eq_true h)) (by decide)), if_pos h3])
        have h3n : (4096 : Int) < (text.size : Int) := by omega
        go_enter Tryz.func95, Tryz.ntmps95
        go_wp2_with (go_at_call 121; ((with_reducible refine (H0.out _).mono ?_); rintro e w1 ⟨rfl, rfl⟩))
        go_ret2
        rw [HE.out]
        exact ⟨rfl, R, HW.out.keep (by go_grown), Stp.of_below (by go_grown)⟩
      · skip
        have h3n : ¬ (4096 : Int) < (text.size : Int) := by omega
        have HE := Lib.hid (show S.sym c now dir s text = S.come c now dir s { an0 with kind := 3, mode := 511, data := text } by unfold Fs.sym; rw [if_neg (by rintro (h | h); exact h1 (by rw [ba_list]; exact h); exact absurd (HB0.out.symm.trans (decide_eq_true h)) (by decide)), if_neg h3])
        unfold an0 at HE
        go_enter Tryz.func95, Tryz.ntmps95
        go_wp2_with (go_at_call 121; ((with_reducible refine (H0.out _).mono ?_); rintro e w1 ⟨rfl, rfl⟩))
        refine (HP.out _ (by first | exact Below.refl _ _ | exact balloc (Below.refl _ _) _ | exact balloc (balloc (Below.refl _ _) _) _)).mono ?_
        rintro e w1 ⟨rfl, R1, hR1, hS1⟩
        have HR1 := Lib.hid (And.intro hR1 hS1)
        clear hR1 hS1 HP
        go_wp2_with fail
        go_ret2
        rw [HE.out]
        exact ⟨rfl, R1, HR1.out.1, (Stp.of_below (by go_grown)).trans HR1.out.2⟩
end

end Go.Proofs.YtaojpbgaengdpaaGreat
