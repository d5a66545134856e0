/- Texts of the proof, part 20. -/
import Derived.Test.YtaojpbgaengdpaaST19
set_option linter.unusedVariables false
set_option linter.unusedSimpArgs false
/- Mounts (layer 14): Make. -/
namespace Go.Proofs.Ytaojpbgaengdpaa

open Go.RowKit

/-- one cell of an own row. -/
theorem own_cell1 {w : World} {base sz n g cap : Nat} {e : TypeId} {xs : List Value} (h : w.ownsRow base e sz (.slice (some ⟨g, 0, none⟩) n cap) n xs) (j : Nat) (hj : j < xs.length) (v : Value) :
    (w.setCell ⟨g, j, none⟩ v).ownsRow base e sz (.slice (some ⟨g, 0, none⟩) n cap) n (xs.set j v) := by
  rcases h.2 with ⟨hv, -⟩ | ⟨g', cap', cur, hv, hb, hg, h1, h2, h3, h4⟩
  · cases hv
  · injection hv with e1 e2 e3
    injection e1 with e1
    injection e1 with e1
    subst e1 e3
    refine ⟨by rw [List.length_set]; exact h.1, .inr ⟨g, cap, _, rfl, hb, Blk.set hg j v, h1, h2, by rw [Array.size_setIfInBounds]; exact h3, ?_⟩⟩
    rw [Array.toList_setIfInBounds, List.take_set, h4]
section

variable {w w' : World} {pw : Nat} {R : Rp} {S : Fs}

theorem flat_len' (ds : List Dv) : (ds.flatMap Dv.cs).length = ds.length * 6 := flat_len Dv.cs_len ds
/-- a mount uses more, or less. -/
theorem WdAt.setQ (h : WdAt w pw R S) {g cap : Nat} (hdv : R.dv = .slice (some ⟨g, 0, none⟩) S.ds.length cap) {k : Nat} (hk : k < S.ds.length) (v : Dv) (hv : S.ds[k] = v) (b n : Int) :
    WdAt ((((w.setCell ⟨g, k * 6 + 2, none⟩ (.int .i64 b)).setCell ⟨g, k * 6 + 3, none⟩ (.int .i64 n)).setCell ⟨g, k * 6 + 4, none⟩ (.int .i64 v.mb)).setCell ⟨g, k * 6 + 5, none⟩ (.int .i64 v.mn)) pw R
      (S.setDev ((k : Int) + 1) { v with b := b, n := n }) ∧
    Mod (fun x => x = g) w ((((w.setCell ⟨g, k * 6 + 2, none⟩ (.int .i64 b)).setCell ⟨g, k * 6 + 3, none⟩ (.int .i64 n)).setCell ⟨g, k * 6 + 4, none⟩ (.int .i64 v.mb)).setCell ⟨g, k * 6 + 5, none⟩ (.int .i64 v.mn)) := by
  have hm : Mod (fun x => x = g) w ((((w.setCell ⟨g, k * 6 + 2, none⟩ (.int .i64 b)).setCell ⟨g, k * 6 + 3, none⟩ (.int .i64 n)).setCell ⟨g, k * 6 + 4, none⟩ (.int .i64 v.mb)).setCell ⟨g, k * 6 + 5, none⟩ (.int .i64 v.mn)) :=
    ((((Mod.refl (fun x => x = g) w).setCell (a := ⟨g, k * 6 + 2, none⟩) (.inl rfl) _).setCell (a := ⟨g, k * 6 + 3, none⟩) (.inl rfl) _).setCell (a := ⟨g, k * 6 + 4, none⟩) (.inl rfl) _).setCell (a := ⟨g, k * 6 + 5, none⟩) (.inl rfl) _
  refine ⟨?_, hm⟩
  obtain ⟨g', cap', hdv', -, -, -, -, -, cur, hcur⟩ := h.devF (by omega)
  have e := hdv.symm.trans hdv'
  injection e with e
  injection e with e
  injection e with e
  subst e
  have hne : ∀ (x : Nat) (vs : Array Value) (T : TypeId), Blk w x vs T → T ≠ 125 → x ≠ g := by
    rintro x vs T hx hT rfl
    unfold Blk at hx hcur
    rw [hcur] at hx
    injection hx with hx
    injection hx with _ hx
    exact hT hx.symm
  have h1 := hne _ _ _ h.blk (by decide)
  have h2 := hne _ _ _ h.tab.blk (by decide)
  have h3 : R.pm ≠ g := by
    rintro e
    have hm := h.tab.map
    unfold MapB at hm
    rw [e] at hm
    unfold Blk at hcur
    rw [hcur] at hm
    cases hm
  have hl : (S.setDev ((k : Int) + 1) { v with b := b, n := n }).ds = S.ds.set k { v with b := b, n := n } := by
    unfold Fs.setDev
    rw [show ((k : Int) + 1 - 1).toNat = k by omega]
  refine ⟨h.blk.mod hm h1, ⟨h.tab.blk.mod hm h2, (hm.block _ h.tab.map.lt h3).trans h.tab.map, h.tab.once, h.tab.low⟩, ?_, h.ns, fun x hx => (h.ents x hx).turn (fun bk cr hc => hm.block bk (Array.getElem?_eq_some_iff.1 hc).1 (hne bk cr _ hc (by decide))) hm.size⟩
  rw [hl, List.length_set]
  have h0 := h.devs
  rw [hdv] at h0 ⊢
  have hkl : k * 6 + 5 < (S.ds.flatMap Dv.cs).length := by rw [flat_len']; omega
  have p1 := own_cell1 h0 (k * 6 + 2) (by omega) (.int .i64 b)
  have p2 := own_cell1 p1 (k * 6 + 3) (by rw [List.length_set]; omega) (.int .i64 n)
  have p3 := own_cell1 p2 (k * 6 + 4) (by rw [List.length_set, List.length_set]; omega) (.int .i64 v.mb)
  have p4 := own_cell1 p3 (k * 6 + 5) (by rw [List.length_set, List.length_set, List.length_set]; omega) (.int .i64 v.mn)
  have hs := setAll_flat Dv.cs_len ({ v with b := b, n := n } : Dv) S.ds k hk
  rw [← hs]
  have c0 : (S.ds.flatMap Dv.cs)[k * 6]? = some (.int .i64 v.root) := by
    have := flat_get Dv.cs_len S.ds k 0 hk (by omega)
    rw [Nat.add_zero] at this
    rw [this, hv]; rfl
  have c1 : (S.ds.flatMap Dv.cs)[k * 6 + 1]? = some (.int .i64 v.over) := by
    rw [flat_get Dv.cs_len S.ds k 1 hk (by omega), hv]; rfl
  have e0 : (S.ds.flatMap Dv.cs).set (k * 6) (.int .i64 v.root) = S.ds.flatMap Dv.cs := by
    have hlt : k * 6 < (S.ds.flatMap Dv.cs).length := by omega
    rw [List.getElem?_eq_getElem hlt] at c0
    injection c0 with c0
    rw [← c0, List.set_getElem_self]
  have e1 : (S.ds.flatMap Dv.cs).set (k * 6 + 1) (.int .i64 v.over) = S.ds.flatMap Dv.cs := by
    have hlt : k * 6 + 1 < (S.ds.flatMap Dv.cs).length := by omega
    rw [List.getElem?_eq_getElem hlt] at c1
    injection c1 with c1
    rw [← c1, List.set_getElem_self]
  show World.ownsRow _ 0 125 6 _ _ ((((((((S.ds.flatMap Dv.cs).set (k * 6) (.int .i64 v.root)).set (k * 6 + 1) (.int .i64 v.over)).set (k * 6 + 2) (.int .i64 b)).set (k * 6 + 3) (.int .i64 n)).set (k * 6 + 4) (.int .i64 v.mb)).set (k * 6 + 5) (.int .i64 v.mn)))
  rw [e0, e1]
  exact p4
/-- a node comes. -/
theorem WdAt.addN (h : WdAt w pw R S) (a : An) {ea : Option Addr} {el ec : Nat} (he : EntsAt w ea el ec a.ents) (hl0 : 0 ≤ S.last) (hl1 : S.last ≤ 1000000) :
    Calls Try.prog 65 #[.pointer (some ⟨R.pt, 0, none⟩), a.v ea el ec] w fun e w' => e = .returned (.int .i64 (S.last + 1)) ∧ ∃ R', WdAt w' pw R' (S.add a) ∧ Stp (R.F pw) (R'.F pw) w w' ∧ R'.pt = R.pt ∧ R'.dv = R.dv := by
  refine (add_any (a.nd ea el ec) w R.pt R.pm S.last _ R.clk h.tab hl0 hl1).mono ?_
  rintro e w' ⟨rfl, hT, hM⟩
  have hM' : Mod (R.F pw) w w' := hM.mono (fun k hk => hk.elim (fun e => .inr (.inl e)) (fun e => .inr (.inr (.inl e))))
  have hst : Stp (R.F pw) (R.F pw) w w' := Stp.of_mod hM'
  have hnw : pw ≠ R.pt := by
    intro e
    have h1 := h.blk
    have h2 := h.tab.blk
    rw [e] at h1
    unfold Blk at h1 h2
    rw [h1] at h2
    injection h2 with h2
    injection h2 with _ h2
    revert h2; decide
  have hnm : pw ≠ R.pm := by
    intro e
    have h1 := h.blk
    have h2 := h.tab.map
    rw [e] at h1
    unfold Blk at h1; unfold MapB at h2
    rw [h1] at h2
    cases h2
  refine ⟨rfl, ⟨R.pt, R.pm, R.dv, R.G ++ [⟨{ a with no := S.last + 1 }, ea, el, ec, R.clk⟩], R.clk + 1⟩, ⟨h.blk.mod hM (fun e => e.elim hnw hnm), ?_, ?_, ?_, ?_⟩, ⟨hM', fun k hk => .inl hk⟩, rfl, rfl⟩
  · show Tab w' R.pt R.pm (S.last + 1) ((R.G ++ [_]).map Gn.e) (R.clk + 1)
    rw [List.map_append]
    exact hT
  · refine ⟨h.devs.1, h.devs.2.imp id fun ⟨g, cap, cur, h1, h2, hg, h3⟩ => ⟨g, cap, cur, h1, h2, (hM.block g (Array.getElem?_eq_some_iff.1 hg).1 ?_).trans hg, h3⟩⟩
    rintro (e | e)
    · subst e
      have h2 := h.tab.blk
      unfold Blk at h2
      rw [hg] at h2
      injection h2 with h2
      injection h2 with _ h2
      revert h2; decide
    · subst e
      have h2 := h.tab.map
      unfold MapB at h2
      rw [hg] at h2
      cases h2
  · show S.ns ++ [_] = (R.G ++ [_]).map (fun g : Gn => g.a)
    rw [List.map_append, ← h.ns]
    rfl
  · intro g hg
    rcases List.mem_append.1 hg with hg | hg
    · exact (h.ents g hg).wd h hst
    · simp only [List.mem_cons, List.not_mem_nil, or_false] at hg
      subst hg
      exact he.wd h hst
end

end Go.Proofs.Ytaojpbgaengdpaa
