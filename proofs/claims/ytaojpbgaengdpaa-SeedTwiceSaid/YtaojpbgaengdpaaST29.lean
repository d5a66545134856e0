/- Texts of the proof, part 29. -/
import Derived.Laws.CopyRow
import Derived.Laws.Externs
import Derived.Lib.Overlaps
import Derived.Lib.AppendZeros
import Derived.Lib.JoinLaws
import Derived.Deep.AppendSrc
import Derived.Lib.SliceRun
import Derived.Test.YtaojpbgaengdpaaST6
import Derived.Test.YtaojpbgaengdpaaST28
set_option linter.unusedVariables false
set_option linter.unusedSimpArgs false
/- Slices of structs: a copy between rows, what a row of the call's own holds behind it. No program in sight. -/
namespace Go.Proofs.Ytaojpbgaengdpaa

open Go.RowKit

section

variable {P : Program}

theorem run_copy_rowK (w : World) (dT sT ty elem : TypeId) (g o dLen dCap : Nat) (a : Addr) (sLen sCap : Nat) (cur : Array Value) (t : TypeId) (cs : List Value) (n sz : Nat)
    (hu : P.underlying dT = some (.slice elem)) (hs : (P.info? elem).map (·.size) = some sz)
    (hg : w.heap[g]? = some (.cells cur t (0, 0))) (hm : Nat.min sLen dLen = n) (hn : cs.length = n * sz)
    (hsrc : ∀ j v, cs[j]? = some v → w.cell? (a.add j) = some v) (hfit : o + cs.length ≤ cur.size) (h1 : ∀ v ∈ cs, v.oneCell' = true) :
    (Builtin.copy_ #[dT, sT] ty #[.slice (some ⟨g, o, none⟩) dLen dCap, .slice (some a) sLen sCap]).run P w =
      .ok (goInt n) (w.setRow g (cur.toList.take o ++ cs ++ cur.toList.drop (o + cs.length)).toArray) := by
  have hl := run_loadCells_list (P := P) w a cs hsrc
  have hst := run_storeCells_at P g o t cs 0 cur w hg (by simpa using hfit) h1
  cases hq : P.info? elem with
  | none => simp [hq] at hs
  | some i =>
    have hi : i.size = sz := by simpa [hq] using hs
    simp [Builtin.copy_, run_underlying hu, Builtin.lenOf, Builtin.firstCells, sizeOf, typeInfo, hq, hi, hm, ← hn, hl, hst]
/-- a copy whose run is known. -/
theorem wp_copy_run (w : World) {o : Oper} {a : Act} {K : Act → World → Prop} {Q : Exit → Act → World → Prop} (d s : Operand) (t t' : TypeId)
    (ho : o.op = .call { callee := .builtin .copy, args := #[d, s], argTypes := #[t, t'] }) (v u : Value) (hd : a.eval d = v) (hs : a.eval s = u) {v' : Value} {w' : World}
    (hr : (Builtin.copy_ #[t, t'] o.type #[v, u]).run P w = .ok v' w') (h : K (a.put o.dst v') w') : o.wp P a w K Q := by
  unfold Oper.wp execOp
  simp only [ho, resolve, invoke, builtin, Sem.run_bind, Sem.run_pure, Result.andThen_ok, List.map_toArray, List.map_cons, List.map_nil, hd, hs, hr]
  exact h
theorem wpList_copy_run (w : World) {ops : Array Oper} {rest : List Oper} {o : Oper} {a : Act} {Q : Exit → Act → World → Prop} (hgd : o.guard = none) (d s : Operand) (t t' : TypeId)
    (ho : o.op = .call { callee := .builtin .copy, args := #[d, s], argTypes := #[t, t'] }) (v u : Value) (hd : a.eval d = v) (hs : a.eval s = u) {v' : Value} {w' : World}
    (hr : (Builtin.copy_ #[t, t'] o.type #[v, u]).run P w = .ok v' w') (h : wpList P ops Q rest (a.put o.dst v') w') : wpList P ops Q (o :: rest) a w :=
  wpList_plain hgd fun _ hK => wp_copy_run w d s t t' ho v u hd hs hr (hK _ _ h)
theorem step_copy_run {ops : Array Oper} {o : Oper} {a : Act} {w : World} {K : Act → World → Prop} {Q : Exit → Act → World → Prop} {E : Prop}
    (hg : o.guard = none) (d x : Operand) (dT sT : TypeId) (hop : o.op = Op.call { callee := Callee.builtin Builtin.copy, args := #[d, x], argTypes := #[dT, sT] })
    (v u : Value) (hd : a.eval d = v) (hx : a.eval x = u) {v' : Value} {w' : World} (hr : (Builtin.copy_ #[dT, sT] o.type #[v, u]).run P w = .ok v' w') (hK : K (a.put o.dst v') w') :
    if Region.wanted o (yielded ops a.tmps) = true then Oper.wp P o a w K Q else E := by
  have hw : Region.wanted o (yielded ops a.tmps) = true := by simp [Region.wanted, hg]
  rw [if_pos hw]
  unfold Oper.wp
  simp [execOp, hop, resolve, invoke, builtin, hd, hx, hr, Result.andThen]
  exact hK
end

theorem setRow_blk {w : World} {g : Nat} {cur vs : Array Value} {T : TypeId} (h : Blk w g cur T) : Blk (w.setRow g vs) g vs T := setRow_heap w g cur vs T _ h
theorem setRow_mod (w : World) (g : Nat) (vs : Array Value) : Mod (fun k => k = g) w (w.setRow g vs) := by
  refine ⟨rfl, rfl, rfl, by simp [World.setRow], fun k hk hs => ?_⟩
  simp only [World.setRow]
  rw [Array.getElem?_modify, if_neg (fun e => hs e.symm)]
end Go.Proofs.Ytaojpbgaengdpaa

/- slices.Clone and slices.Insert over names in a directory. -/
namespace Go.Proofs.Ytaojpbgaengdpaa

open Go.RowKit

theorem ent_info : (Try.prog.info? 138).map (fun i => (i.zero, i.size, i.bytes)) = some (some (.agg #[.string ByteArray.empty, .int .i64 0]), 2, 24) := by kernel_rfl
theorem entC_one (es : List En) : ∀ u ∈ es.flatMap entC, u.oneCell' = true := by
  intro u hu
  obtain ⟨x, -, hx⟩ := List.mem_flatMap.1 hu
  simp [entC] at hx
  rcases hx with rfl | rfl <;> rfl
theorem EntsAt.news {w : World} {b off n c : Nat} {es : List En} (h : EntsAt w (some ⟨b, off, none⟩) n c es) : ∀ j u, (es.flatMap entC)[j]? = some u → w.cell? ((⟨b, off, none⟩ : Addr).add j) = some u := by
  intro j u hu
  have hlt : j < (es.flatMap entC).length := (List.getElem?_eq_some_iff.1 hu).1
  rw [flat_len entC_len] at hlt
  have hm := Nat.mod_lt j (show 0 < 2 by omega)
  have hdiv : j = j / 2 * 2 + j % 2 := by omega
  have hq : j / 2 < es.length := by omega
  have h1 := flat_get entC_len es (j / 2) (j % 2) hq hm
  rw [← hdiv, hu] at h1
  obtain ⟨c1, c2⟩ := h.cell (j / 2) hq
  rw [addr_add]
  rcases (show j % 2 = 0 ∨ j % 2 = 1 by omega) with hr | hr
  · rw [hr] at h1
    rw [show off + j = off + j / 2 * 2 by omega, c1]
    exact h1.symm
  · rw [hr] at h1
    rw [show off + j = off + j / 2 * 2 + 1 by omega, c2]
    exact h1.symm
/-- entries of the call's own. -/
def OE (w : World) (base : Nat) (v : Value) (es : List En) : Prop := w.ownsRow base 138 2 v es.length (es.flatMap entC)
theorem OE.at {w : World} {base c : Nat} {a : Option Addr} {es : List En} (h : OE w base (.slice a es.length c) es) : EntsAt w a es.length c es := by
  refine ⟨own_slice (R := entQ) (by omega) entC_len (fun _ => rfl) h, fun p hp => ?_⟩
  subst hp
  rcases h.2 with ⟨h1, -⟩ | ⟨g, cap, cur, h1, -, hg, -⟩
  · cases h1
  · injection h1 with h1
    injection h1 with h1
    exact ⟨g, 0, cur, h1, hg⟩
theorem OE.keep {w w' : World} {base : Nat} {v : Value} {es : List En} (h : OE w base v es) (hb : Below w.heap.size w w') : OE w' base v es := own_below h hb (Nat.le_refl _)

set_option maxRecDepth 100000 in
set_option maxHeartbeats 400000 in
theorem eclone_any (es : List En) (a : Option Addr) (n c : Nat) (w : World) (he : EntsAt w a n c es) (hn : n ≤ 1000000) :
    Calls Try.prog 81 #[.slice a n c] w fun e w' => (∃ a' c', e = .returned (.slice a' n c') ∧ OE w' w.heap.size (.slice a' n c') es) ∧ Below w.heap.size w w' := by
  have hl := he.len
  obtain ⟨i0, hi, hz0, hz1, hz2⟩ := info_parts ent_info
  have hq : ∀ (w : World) (r : Option Addr) (n c : Nat), (binOp .eql 95 (.slice r n c) (.slice none 0 0)).run Try.prog w = .ok (.bool r.isNone) w := fun w r n c => Lib.run_eql_slice_nil w _ _ r n c 0 0 Try.underlying95
  cases a with
  | none =>
    have hn0 : n = 0 := by
      rcases Nat.eq_zero_or_pos n with h | h
      · exact h
      · obtain ⟨b, off, h1, -⟩ := he.some_of h
        cases h1
    subst hn0
    obtain rfl : es = [] := List.eq_nil_of_length_eq_zero hl
    have H := Lib.hid (show OE w w.heap.size (.slice none 0 0) [] from World.ownsRow_nil _ _ _ _)
    clear he hl hi hz0 hz1 hz2
    go_enter Try.func81, Try.ntmps81
    go_wp2_with fail
    go_ret
    exact ⟨⟨none, 0, rfl, H.out⟩, Below.refl _ _⟩
  | some p =>
    obtain ⟨b, off, cur, rfl, hblk⟩ := he.blk p rfl
    have he2 := he.keep ((Below.refl _ w).alloc (Nat.le_refl _) (.cells #[] 138))
    have hrun : ∃ a' c' W, (Builtin.append_ #[95, 95] 95 #[.slice (some ⟨w.heap.size, 0, none⟩) 0 0, .slice (some ⟨b, off, none⟩) n c]).run Try.prog (w.alloc (.cells #[] 138)) = .ok (.slice a' n c') W ∧
        OE W w.heap.size (.slice a' n c') es ∧ Below w.heap.size w W := by
      obtain ⟨g, cap, W, h1, h2, h3, h4⟩ := step_app_any (95) Try.underlying95 hi hz0 hz1 hz2 rfl (by omega) (own_empty (base := w.heap.size) (sz := 2) (e := 138) w (Nat.le_refl _)) ⟨b, off, none⟩ n c (es.flatMap entC) (by rw [flat_len entC_len, hl]) he2.news (entC_one es) (by unfold maxLen; omega) (by omega) (by simp)
      refine ⟨some ⟨g, 0, none⟩, cap, W, ?_, ?_, ((Below.refl w.heap.size w).alloc (Nat.le_refl _) _).trans (h3.below (fun k hk => by omega) (by simp))⟩
      · rw [Nat.zero_add] at h1; exact h1
      · rw [Nat.zero_add, List.nil_append] at h2; unfold OE; rw [hl]; exact h2
    obtain ⟨a', c', W, hrun, h2, h3⟩ := hrun
    have H := Lib.hid (And.intro h2 h3)
    clear he he2 hblk h2 h3 hi hz0 hz1 hz2 hl
    go_enter Try.func81, Try.ntmps81
    go_wp2_with (at_builtin; refine wpList_app_run rfl rfl rfl rfl hrun ?_)
    go_ret
    exact ⟨⟨a', c', rfl, H.out.1⟩, H.out.2⟩
end Go.Proofs.Ytaojpbgaengdpaa
