/- Texts of the proof, part 17. -/
import Derived.Lib.SliceRun
import Derived.Test.YtaojpbgaengdpaaST16
import Derived.Test.YtaojpbgaengdpaaST9
set_option linter.unusedVariables false
set_option linter.unusedSimpArgs false
/- Mounts (layer 14), what reads alone: none, Devs, Root, Over. -/
namespace Go.Proofs.Ytaojpbgaengdpaa

open Go.RowKit

/-- a mount's cells. -/
structure DvC (w : World) (g o : Nat) (d : Dv) : Prop where
  c0 : w.cell? ⟨g, o, none⟩ = some (.int .i64 d.root)
  c1 : w.cell? ⟨g, o + 1, none⟩ = some (.int .i64 d.over)
  c2 : w.cell? ⟨g, o + 2, none⟩ = some (.int .i64 d.b)
  c3 : w.cell? ⟨g, o + 3, none⟩ = some (.int .i64 d.n)
  c4 : w.cell? ⟨g, o + 4, none⟩ = some (.int .i64 d.mb)
  c5 : w.cell? ⟨g, o + 5, none⟩ = some (.int .i64 d.mn)
def dvQ (cs : List Value) (d : Dv) : Prop := cs = d.cs
section

variable {w w' : World} {pw : Nat} {R : Rp} {S : Fs}

theorem WdAt.devF (h : WdAt w pw R S) (hd : 0 < S.ds.length) : ∃ g cap, R.dv = .slice (some ⟨g, 0, none⟩) S.ds.length cap ∧ S.ds.length ≤ cap ∧ cap ≤ 9223372036854775807 ∧ g < w.heap.size ∧
    (∀ (i : Nat) (hi : i < S.ds.length), DvC w g (i * 6) S.ds[i]) ∧ (∀ i, w.frozen? ⟨g, i, none⟩ = false) ∧ ∃ cur, Blk w g cur 125 := by
  have h0 := h.devs
  obtain ⟨a, cap, hv, hle, h63, hf⟩ := own_form h0
  rcases hf with ⟨-, h1, -⟩ | ⟨g, rfl, -, hg⟩
  · omega
  · rw [hv] at h0
    obtain ⟨-, -, -, h1 | ⟨b, off, he, hb, hel⟩⟩ := own_slice (R := dvQ) (by omega) Dv.cs_len (fun _ => rfl) h0
    · omega
    · injection he with he
      injection he with e1 e2
      subst e1 e2
      obtain ⟨cur, hcur⟩ : ∃ cur, Blk w g cur 125 := by
        rcases h0.2 with ⟨h1, -⟩ | ⟨g', cap', cur, h1, -, hg', -⟩
        · cases h1
        · injection h1 with h1
          injection h1 with h1
          injection h1 with h1
          subst h1
          exact ⟨cur, hg'⟩
      refine ⟨g, cap, hv, hle, h63, hg, fun i hi => ?_, hcur.frozen, cur, hcur⟩
      obtain ⟨cs, h2, h3, h4⟩ := hel i hi
      subst h3
      have e : ∀ j (hj : j < 6), w.cell? ⟨g, i * 6 + j, none⟩ = some (S.ds[i].cs[j]'(by rw [Dv.cs_len]; exact hj)) := fun j hj => by
        have := h4 j (by rw [Dv.cs_len]; exact hj)
        rw [Nat.zero_add] at this
        exact this
      exact ⟨e 0 (by omega), e 1 (by omega), e 2 (by omega), e 3 (by omega), e 4 (by omega), e 5 (by omega)⟩

set_option maxHeartbeats 400000 in
theorem wnone_any (h : WdAt w pw R S) (hd : 0 < S.ds.length) :
    Calls Try.prog 47 #[.pointer (some ⟨pw, 0, none⟩)] w fun e w' => e = .returned (.bool false) ∧ w = w' := by
  obtain ⟨g, cap, hv, -, -, -, -, -, -⟩ := h.devF hd
  obtain ⟨pc, -, -⟩ := h.blk.facts
  rw [hv] at pc
  have hz : ¬ ((S.ds.length : Int) = 0) := by omega
  have hz2 : ((S.ds.length : Int) == 0) = false := by simpa using hz
  generalize S.ds.length = n at pc hz hz2
  clear h hv hd
  go_enter Try.func47, Try.ntmps47
  go_wp2
  go_ret
  exact ⟨rfl, rfl⟩

set_option maxHeartbeats 400000 in
theorem wdevs_any (h : WdAt w pw R S) (hd : 0 < S.ds.length) :
    Calls Try.prog 35 #[.pointer (some ⟨pw, 0, none⟩)] w fun e w' => e = .returned (.int .i64 S.ds.length) ∧ w = w' := by
  have HN := Lib.hid (wnone_any h hd)
  obtain ⟨g, cap, hv, -, -, -, -, -, -⟩ := h.devF hd
  obtain ⟨pc, -, -⟩ := h.blk.facts
  rw [hv] at pc
  generalize S.ds.length = n at pc ⊢
  clear h hv hd
  go_enter Try.func35, Try.ntmps35
  go_wp2_with fail
  refine HN.out.mono ?_
  rintro e w1 ⟨rfl, rfl⟩
  go_wp2
  go_ret
  exact ⟨rfl, rfl⟩

set_option maxHeartbeats 400000 in
theorem wroot_any (h : WdAt w pw R S) (hd : 0 < S.ds.length) (d : Int) :
    Calls Try.prog 49 #[.pointer (some ⟨pw, 0, none⟩), .int .i64 d] w fun e w' => e = .returned (.int .i64 (S.root d)) ∧ w = w' := by
  have HN := Lib.hid (wnone_any h hd)
  obtain ⟨g, cap, hv, hle, h63, hg, hc, -, -⟩ := h.devF hd
  obtain ⟨pc, -, -⟩ := h.blk.facts
  rw [hv] at pc
  clear h hv
  by_cases h1 : 1 ≤ d
  · by_cases h2 : d ≤ S.ds.length
    · obtain ⟨k, rfl⟩ : ∃ k : Nat, d = (k : Int) + 1 := ⟨(d - 1).toNat, by omega⟩
      have hk : k < S.ds.length := by omega
      have hr : S.root ((k : Int) + 1) = S.ds[k].root := by
        unfold Fs.root
        rw [if_pos ⟨h1, h2⟩, show ((k : Int) + 1 - 1).toNat = k by omega, List.getElem?_eq_getElem hk]
      rw [hr]
      have hcc := (hc _ hk).c0
      clear hc hr
      generalize S.ds[k] = v at hcc ⊢
      generalize S.ds.length = n at pc hle h2 hk hd
      go_enter Try.func49, Try.ntmps49
      go_wp2_with fail
      refine HN.out.mono ?_
      rintro e w1 ⟨rfl, rfl⟩
      go_wp2
      go_ret
      exact ⟨rfl, rfl⟩
    · rw [root_no (by omega)]
      have h2' : (S.ds.length : Int) < d := by omega
      clear hc
      generalize S.ds.length = n at pc hle h2 h2' hd
      go_enter Try.func49, Try.ntmps49
      go_wp2_with fail
      refine HN.out.mono ?_
      rintro e w1 ⟨rfl, rfl⟩
      go_wp2
      go_ret
      exact ⟨rfl, rfl⟩
  · rw [root_no (by omega)]
    have h1' : d < 1 := by omega
    clear hc
    generalize S.ds.length = n at pc hle hd
    go_enter Try.func49, Try.ntmps49
    go_wp2_with fail
    refine HN.out.mono ?_
    rintro e w1 ⟨rfl, rfl⟩
    go_wp2
    go_ret
    exact ⟨rfl, rfl⟩
end

end Go.Proofs.Ytaojpbgaengdpaa
