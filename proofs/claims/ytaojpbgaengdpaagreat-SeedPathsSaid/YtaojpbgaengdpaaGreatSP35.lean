/- Texts of the proof, part 35. -/
import Derived.StillTailTactics
import Derived.Test.YtaojpbgaengdpaaGreatSP34
set_option linter.unusedVariables false
set_option linter.unusedSimpArgs false
/- Clean paths: ragpickerref02.Parts, ragpickerref03.Clean. -/
namespace Go.Proofs.YtaojpbgaengdpaaGreat

open Go.RowKit

theorem filter_snoc_yes {α : Type} {p : α → Bool} (l : List α) (k : Nat) (hk : k < l.length) (h : p l[k] = true) : (l.take (k + 1)).filter p = (l.take k).filter p ++ [l[k]] := by
  rw [List.take_succ_eq_append_getElem hk, List.filter_append]
  simp [h]
theorem filter_snoc_no {α : Type} {p : α → Bool} (l : List α) (k : Nat) (hk : k < l.length) (h : p l[k] = false) : (l.take (k + 1)).filter p = (l.take k).filter p := by
  rw [List.take_succ_eq_append_getElem hk, List.filter_append]
  simp [h]
theorem OS.len {w : World} {base : Nat} {v : Value} {ls : List (List UInt8)} (h : OS w base v ls) : ∃ a c, v = .slice a ls.length c ∧ ls.length ≤ c ∧ c ≤ 9223372036854775807 := by
  obtain ⟨a, c, h1, h2, h3, -⟩ := own_form h
  exact ⟨a, c, h1, h2, h3⟩
theorem OS.keep2 {w w' : World} {base : Nat} {v : Value} {ls : List (List UInt8)} (h : OS w base v ls) (hb : Below w.heap.size w w') : OS w' base v ls := own_below h hb (Nat.le_refl _)
theorem tb_eq (a b : Int) (h : a = b) : (a == b) = true ∧ (a != b) = false := by subst h; simp
theorem tb_ne (a b : Int) (h : a ≠ b) : (a == b) = false ∧ (a != b) = true := by simp [h]
/-- a text of the call's own, where it stands. -/
theorem OS.at' {w : World} {base c : Nat} {a : Option Addr} {ls : List (List UInt8)} (h : OS w base (.slice a ls.length c) ls) (k : Nat) (hk : k < ls.length) : ∃ g, a = some ⟨g, 0, none⟩ ∧ g < w.heap.size ∧ w.cell? ⟨g, k, none⟩ = some (.string (str ls[k])) := by
  obtain ⟨a', c', hv, -, -, h1⟩ := own_form h
  injection hv with e1 e2 e3
  subst e1
  subst e3
  rcases h1 with ⟨-, h2, -⟩ | ⟨g, rfl, -, h3⟩
  · omega
  · exact ⟨g, rfl, h3, h.cell k hk⟩
/-- a slice less the last one. -/
theorem OS.less {w : World} {base c n : Nat} {a : Option Addr} {ls : List (List UInt8)} (h : OS w base (.slice a n c) ls) (hn : ls ≠ []) : OS w base (.slice a (ls.length - 1) c) ls.dropLast := by
  have hl : 0 < ls.length := List.length_pos_iff.2 hn
  obtain ⟨h1, ⟨-, h2⟩ | ⟨g, cap, cur, hv, hb, hg, hc, hm, hs, ht⟩⟩ := h
  · omega
  · injection hv with e1 e2 e3
    subst e1
    subst e2
    subst e3
    refine ⟨?_, .inr ⟨g, c, cur, ?_, hb, hg, ?_, hm, hs, ?_⟩⟩
    · rw [flat_len encS_len]
    · rw [List.length_dropLast]
    · rw [List.length_dropLast]; omega
    · rw [List.length_dropLast, show (ls.length - 1) * 1 = ls.length - 1 by omega]
      have e : ls.dropLast.flatMap encS = (ls.flatMap encS).take (ls.length - 1) := by
        conv => rhs; rw [← List.dropLast_concat_getLast hn, List.flatMap_append, List.take_append_of_le_length (by rw [flat_len encS_len, List.length_dropLast]; simp)]
        rw [List.take_of_length_le (by rw [flat_len encS_len, List.length_dropLast]; simp)]
      rw [e, ← ht, List.take_take]
      congr 1
      omega
theorem OS.low2 {w : World} {base base' : Nat} {v : Value} {ls : List (List UInt8)} (h : OS w base v ls) (hb : base' ≤ base) : OS w base' v ls :=
  ⟨h.1, h.2.imp id fun ⟨g, cap, cur, hv, hg, rest⟩ => ⟨g, cap, cur, hv, Nat.le_trans hb hg, rest⟩⟩
theorem OS.max {w : World} {base n c : Nat} {a : Option Addr} {ls : List (List UInt8)} (h : OS w base (.slice a n c) ls) : ls.length ≤ 9223372036854775807 := by
  obtain ⟨_, _, -, h2, h3⟩ := h.len
  omega
def saysB (p : List UInt8) : Bool := !(p == []) && !(p == [46])
set_option maxRecDepth 100000 in
set_option maxHeartbeats 1000000 in
/-- ragpickerref02.Parts. -/
theorem rparts_any (s : ByteArray) (w : World) (hs : s.size ≤ 100000) :
    Calls Tryz.prog 38 #[.string s] w fun e w' => (∃ v, e = .returned v ∧ OS w' w.heap.size v (partsL s.data.toList)) ∧ Below w.heap.size w w' := by
  have HPc := Lib.hid (pieces_any s w hs)
  have HDef := Lib.hid (show partsL s.data.toList = (spl 47 s.data.toList).filter saysB from rfl)
  have hlen : (spl 47 s.data.toList).length ≤ 100001 := by
    have h1 := (spl_len 47 s.data.toList).2
    have h2 : s.data.toList.length = s.size := Array.length_toList
    omega
  generalize partsL s.data.toList = R at HDef ⊢
  generalize spl 47 s.data.toList = ls at HPc HDef hlen
  go_enter Tryz.func38, Tryz.ntmps38
  go_wp2_with fail
  refine HPc.out.mono ?_
  rintro e w1 ⟨⟨g, cap, rfl, hO⟩, hb1⟩
  have HO := Lib.hid hO
  have HB := Lib.hid hb1
  have hw1 := hb1.size
  clear hO hb1
  go_wp2_with fail
  go_loopw [3, 5] (fun t3 t5 wr => ∃ (k : Nat), k ≤ ls.length ∧ t5 = .int .i64 k ∧ OS wr w1.heap.size t3 ((ls.take k).filter saysB) ∧ Below w1.heap.size w1 wr) (fun _ t5 _ => ls.length - (intOf t5).toNat)
  case atStart => exact ⟨0, Nat.zero_le _, rfl, ⟨rfl, .inl ⟨rfl, rfl⟩⟩, Below.refl _ _⟩
  case round =>
    obtain ⟨k, hk, rfl, hO1, hW⟩ := hrel
    have HO1 := Lib.hid hO1
    have HW := Lib.hid hW
    by_cases hlt : k < ls.length
    · obtain ⟨g', hg', hgl, hcl⟩ := (HO.out.keep2 hW).at' k hlt
      injection hg' with hg'
      injection hg' with e1
      subst e1
      have HYes := Lib.hid (filter_snoc_yes (p := saysB) ls k hlt)
      have HNo := Lib.hid (filter_snoc_no (p := saysB) ls k hlt)
      have hfl : ((ls.take k).filter saysB).length ≤ 1000000 := by
        have h1 := List.length_filter_le saysB (ls.take k)
        have h2 : (ls.take k).length ≤ ls.length := by rw [List.length_take]; omega
        omega
      obtain ⟨g2, cap2, W, hrun, hO2, hB2⟩ := hO1.app ls[k] hfl hW.size
      have HX := Lib.hid (And.intro hO2 hB2)
      have HTx := Lib.hid (ba_list (str ls[k]))
      rw [str_list] at HTx
      generalize ls[k] = x at hcl HYes HNo hrun HX HTx
      generalize str x = p at hcl hrun HTx
      clear hO1 hW hO2 hB2 hfl
      by_cases h1 : p.toList = []
      · have HN := Lib.hid (HNo.out (by rw [← HTx.out, h1]; rfl))
        clear hrun
        go_wp2_with fail
        go_roundw
        case measure => simp [intOf]; omega
        case rel => exact ⟨k + 1, by omega, by go_num, by rw [HN.out]; exact HO1.out, HW.out⟩
      · by_cases h2 : p.toList = [46]
        · have HN := Lib.hid (HNo.out (by rw [← HTx.out, h2]; rfl))
          clear hrun
          go_wp2_with fail
          go_roundw
          case measure => simp [intOf]; omega
          case rel => exact ⟨k + 1, by omega, by go_num, by rw [HN.out]; exact HO1.out, HW.out⟩
        · have HY := Lib.hid (HYes.out (by rw [← HTx.out]; unfold saysB; simp [h1, h2]))
          have hp1 : p.toList.isEmpty = false := by simpa using h1
          have hp2 : (p.toList == [46]) = false := by simpa using h2
          have HR := Lib.hid hrun
          clear h1 h2 hrun
          go_wp2_with (at_builtin; refine wpList_app_run rfl rfl rfl rfl HR.out ?_)
          go_roundw
          case measure => simp [intOf]; omega
          case rel => exact ⟨k + 1, by omega, by go_num, by rw [HY.out]; exact HX.out.1, HW.out.trans HX.out.2⟩
    · obtain rfl : k = ls.length := by omega
      rw [List.take_length, ← HDef.out] at HO1
      clear hO1 hW
      go_wp2_with fail
      go_ret
      exact ⟨⟨_, rfl, HO1.out.low2 hw1⟩, bnext HB.out HW.out⟩
end Go.Proofs.YtaojpbgaengdpaaGreat
