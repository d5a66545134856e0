/- Texts of the proof, part 22. -/
import Derived.Test.YtaojpbgaengdpaaST21
set_option linter.unusedVariables false
set_option linter.unusedSimpArgs false
/- A node of a world is another one: Set; a world's first mount. -/
namespace Go.Proofs.Ytaojpbgaengdpaa

open Go.RowKit

theorem own_obj1 {w : World} {base sz n k : Nat} {e : TypeId} {v : Value} {xs : List Value} (h : w.ownsRow base e sz v n xs) (hk : v.ownBlock = some k) : base ≤ k ∧ ∃ cur, w.heap[k]? = some (.cells cur e (0, 0)) := by
  rcases h.2 with ⟨rfl, -⟩ | ⟨g, cap, cur, rfl, hb, hg, -⟩
  · cases hk
  · simp only [Value.ownBlock, Option.some.injEq] at hk
    subst hk
    exact ⟨hb, cur, hg⟩
section

variable {w w' : World} {pw : Nat} {R : Rp} {S : Fs}

/-- blocks of the table's alone turned. -/
theorem WdAt.tabStep (h : WdAt w pw R S) (hM : Mod (fun k => k = R.pt ∨ k = R.pm) w w') : Stp (R.F pw) (R.F pw) w w' ∧ Blk w' pw #[.pointer (some ⟨R.pt, 0, none⟩), R.dv] 38 ∧ w'.ownsRow 0 125 6 R.dv S.ds.length (S.ds.flatMap Dv.cs) := by
  have hM' : Mod (R.F pw) w w' := hM.mono (fun k hk => hk.elim (fun e => .inr (.inl e)) (fun e => .inr (.inr (.inl e))))
  have hap : ∀ (x : Nat) (vs : Array Value) (T : TypeId), Blk w x vs T → T ≠ 68 → ¬ (x = R.pt ∨ x = R.pm) := by
    rintro x vs T hx hT (rfl | rfl)
    · have h2 := h.tab.blk
      unfold Blk at hx h2
      rw [hx] at h2
      injection h2 with h2
      injection h2 with _ h2
      exact hT h2
    · have h2 := h.tab.map
      unfold MapB at h2
      unfold Blk at hx
      rw [hx] at h2
      cases h2
  refine ⟨Stp.of_mod hM', h.blk.mod hM (hap _ _ _ h.blk (by decide)), ⟨h.devs.1, h.devs.2.imp id fun ⟨g, cap, cur, h1, h2, hg, h3⟩ => ⟨g, cap, cur, h1, h2, (hM.block g (Array.getElem?_eq_some_iff.1 hg).1 (hap _ _ _ hg (by decide))).trans hg, h3⟩⟩⟩
def Gn.put (a : An) (ea : Option Addr) (el ec : Nat) (g : Gn) : Gn := if g.a.no == a.no then ⟨a, ea, el, ec, g.clk⟩ else g
theorem WdAt.setN (h : WdAt w pw R S) (a : An) {ea : Option Addr} {el ec : Nat} (he : EntsAt w ea el ec a.ents) {b : An} (hb : S.get a.no = some b) :
    Calls Try.prog 55 #[.pointer (some ⟨R.pt, 0, none⟩), a.v ea el ec] w fun e w' => e = .returned (.bool true) ∧ ∃ R', WdAt w' pw R' (S.set a) ∧ Stp (R.F pw) (R'.F pw) w w' ∧ R'.pt = R.pt ∧ R'.dv = R.dv := by
  obtain ⟨g0, -, -, hf, -⟩ := G_of h hb
  refine (set_yes g0.nd (a.nd ea el ec) w R.pt R.pm S.last _ R.clk h.tab hf).mono ?_
  rintro e w' ⟨rfl, hT, hM⟩
  obtain ⟨hst, hblk, hdv⟩ := h.tabStep hM
  refine ⟨rfl, ⟨R.pt, R.pm, R.dv, R.G.map (Gn.put a ea el ec), R.clk⟩, ⟨hblk, ?_, hdv, ?_, ?_⟩, ⟨hst.mod, fun k hk => .inl hk⟩, rfl, rfl⟩
  · show Tab w' R.pt R.pm S.last ((R.G.map (Gn.put a ea el ec)).map Gn.e) R.clk
    have e : (R.G.map (Gn.put a ea el ec)).map Gn.e = (R.G.map Gn.e).map fun x => if x.1.no == (a.nd ea el ec).no then (a.nd ea el ec, x.2) else x := by
      rw [List.map_map, List.map_map]
      apply List.map_congr_left
      intro g _
      simp only [Function.comp_apply, Gn.put]
      show Gn.e (if (g.a.no == a.no) = true then _ else g) = if (g.a.no == a.no) = true then _ else _
      split
      · rfl
      · rfl
    rw [e]
    exact hT
  · show (S.ns.map _) = (R.G.map (Gn.put a ea el ec)).map (fun g : Gn => g.a)
    rw [h.ns, List.map_map, List.map_map]
    apply List.map_congr_left
    intro g _
    simp only [Function.comp_apply, Gn.put]
    split <;> rfl
  · intro g hg
    obtain ⟨g1, hg1, rfl⟩ := List.mem_map.1 hg
    unfold Gn.put
    split
    · exact he.wd h hst
    · exact (h.ents g1 hg1).wd h hst
theorem WdAt.setN_no (h : WdAt w pw R S) (a : An) (ea : Option Addr) (el ec : Nat) (hb : S.get a.no = none) :
    Calls Try.prog 55 #[.pointer (some ⟨R.pt, 0, none⟩), a.v ea el ec] w fun e w' => e = .returned (.bool false) ∧ Below w.heap.size w w' :=
  set_no (a.nd ea el ec) w R.pt R.pm S.last _ R.clk h.tab (G_no h hb)
theorem dev_info : (Try.prog.info? 125).map (fun i => (i.zero, i.size, i.bytes)) = some (some (.agg #[.int .i64 0, .int .i64 0, .int .i64 0, .int .i64 0, .int .i64 0, .int .i64 0]), 6, 48) := by kernel_rfl
/-- a mount more, its root not yet there. -/
def Fs.addDev (S : Fs) (over b n : Int) : Fs := { S with ds := S.ds ++ [⟨0, over, 1, 1, b, n⟩] }
theorem WdAt.app (h : WdAt w pw R S) (hl : S.ds.length ≤ 100) (ad : Addr) (over b n : Int) (had : ∀ j u, (Dv.cs ⟨0, over, 1, 1, b, n⟩)[j]? = some u → w.cell? (ad.add j) = some u) :
    ∃ g cap W, (Builtin.append_ #[36, 36] 36 #[R.dv, .slice (some ad) 1 1]).run Try.prog w = .ok (.slice (some ⟨g, 0, none⟩) (S.ds.length + 1) cap) W ∧
      WdAt (W.setCell ⟨pw, 1, none⟩ (.slice (some ⟨g, 0, none⟩) (S.ds.length + 1) cap)) pw { R with dv := .slice (some ⟨g, 0, none⟩) (S.ds.length + 1) cap } (S.addDev over b n) ∧
      Stp (R.F pw) (Rp.F { R with dv := .slice (some ⟨g, 0, none⟩) (S.ds.length + 1) cap } pw) w (W.setCell ⟨pw, 1, none⟩ (.slice (some ⟨g, 0, none⟩) (S.ds.length + 1) cap)) ∧
      Blk W pw #[.pointer (some ⟨R.pt, 0, none⟩), R.dv] 38 ∧ Mod (fun k => R.dv.ownBlock = some k) w W := by
  obtain ⟨i0, hi, hz0, hz1, hz2⟩ := info_parts dev_info
  obtain ⟨g, cap, W, h1, h2, h3, h4⟩ := step_app (36) Try.underlying36 hi hz0 hz1 hz2 rfl (by omega) h.devs ad 1 1 (Dv.cs ⟨0, over, 1, 1, b, n⟩) rfl had (by intro u hu; simp [Dv.cs] at hu; rcases hu with rfl | rfl | rfl | rfl | rfl <;> rfl) (by omega) (by unfold maxLen; omega) (by omega) (Nat.zero_le _)
  have hM : Mod (R.F pw) w W := h3.mono (fun k hk => .inr (.inr (.inr hk)))
  have hap : ∀ (x : Nat) (vs : Array Value) (T : TypeId), Blk w x vs T → T ≠ 125 → ¬ (R.dv.ownBlock = some x) := by
    intro x vs T hx hT hk
    obtain ⟨-, cur, hc⟩ := own_obj1 h.devs hk
    unfold Blk at hx
    rw [hx] at hc
    injection hc with hc
    injection hc with _ hc
    exact hT hc
  have hbW : Blk W pw #[.pointer (some ⟨R.pt, 0, none⟩), R.dv] 38 := h.blk.mod h3 (hap _ _ _ h.blk (by decide))
  have hpg : pw ≠ g := by
    rintro rfl
    rcases h4 with h4 | h4
    · exact hap _ _ _ h.blk (by decide) h4
    · have := h.blk.lt; omega
  have hmap : ¬ (R.dv.ownBlock = some R.pm) := fun hk => by
    obtain ⟨-, cur, hc⟩ := own_obj1 h.devs hk
    have := h.tab.map
    unfold MapB at this
    rw [hc] at this
    cases this
  have hs2 : Stp (R.F pw) (R.F pw) w (W.setCell ⟨pw, 1, none⟩ (.slice (some ⟨g, 0, none⟩) (S.ds.length + 1) cap)) := Stp.of_mod (hM.setCell (.inl (.inl rfl)) _)
  have hnt : pw ≠ R.pt := fun e => by
    have h1 := h.blk; have h2 := h.tab.blk
    rw [e] at h1; unfold Blk at h1 h2
    rw [h1] at h2; injection h2 with h2; injection h2 with _ h2
    revert h2; decide
  have hnm : pw ≠ R.pm := fun e => by
    have h1 := h.blk; have h2 := h.tab.map
    rw [e] at h1; unfold Blk at h1; unfold MapB at h2
    rw [h1] at h2; cases h2
  refine ⟨g, cap, W, h1, ⟨?_, ⟨?_, ?_, h.tab.once, h.tab.low⟩, ?_, h.ns, fun x hx => (h.ents x hx).wd h hs2⟩, ⟨hs2.mod, fun k hk => ?_⟩, hbW, h3⟩
  · exact hbW.set 1 _
  · exact (h.tab.blk.mod h3 (hap _ _ _ h.tab.blk (by decide))).setOther _ _ hnt
  · exact MapB.setOther ((h3.block _ h.tab.map.lt hmap).trans h.tab.map) _ _ hnm
  · show World.ownsRow _ 0 125 6 _ (S.ds ++ [_]).length ((S.ds ++ [_]).flatMap Dv.cs)
    rw [List.length_append, List.length_singleton, List.flatMap_append, List.flatMap_singleton]
    refine own_mod h2 ((Mod.refl (fun k => k = pw) W).setCell (a := ⟨pw, 1, none⟩) (.inl rfl) _) (fun k hk e => ?_)
    subst hk
    simp only [Value.ownBlock, Option.some.injEq] at e
    exact hpg e.symm
  · rcases hk with hk | hk | hk | hk
    · exact .inl (.inl hk)
    · exact .inl (.inr (.inl hk))
    · exact .inl (.inr (.inr (.inl hk)))
    · simp only [Value.ownBlock, Option.some.injEq] at hk
      subst hk
      rcases h4 with h4 | h4
      · exact .inl (.inr (.inr (.inr h4)))
      · exact .inr (by omega)
end

end Go.Proofs.Ytaojpbgaengdpaa
