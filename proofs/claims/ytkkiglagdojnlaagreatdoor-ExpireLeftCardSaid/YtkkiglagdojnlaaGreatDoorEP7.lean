/- Texts of the proof, part 7. -/
import Derived.Laws.CopyRow
import Derived.Laws.Externs
import Derived.Lib.Overlaps
import Derived.Lib.AppendZeros
import Derived.Lib.JoinLaws
import Derived.Deep.AppendSrc
import Derived.Lib.SliceRun
import Derived.Sort.Grow
import Derived.Deep.CutBlock
import Derived.Deep.DeepCutAuto
import Derived.RegionTactic
import Derived.BigRegion
import Derived.Shelf.SlSortCmp.PdqK
import Derived.Test.YtkkiglagdojnlaaGreatDoorEP6
import Derived.Test.YtkkiglagdojnlaaGreatDoorEP3
import Derived.Test.YtkkiglagdojnlaaGreatDoorEP2
import Derived.Test.YtkkiglagdojnlaaGreatDoorEP1
set_option linter.unusedVariables false
set_option linter.unusedSimpArgs false
/- Where a name is, or would be: slices.BinarySearchFunc over names in a directory. -/
namespace Go.Proofs.YtkkiglagdojnlaaGreatDoor

open Go.RowKit

def hasE (es : List En) (s : ByteArray) : Bool := (es.find? (fun x => decide (x.name = s))).isSome
set_option maxRecDepth 100000 in
set_option maxHeartbeats 1000000 in
theorem search_any (es : List En) (a : Option Addr) (n c : Nat) (s : ByteArray) (w : World) (he : EntsAt w a n c es) (hr : Rise es) (hn : n ≤ 1000000) :
    Calls Tryz.prog 198 #[.slice a n c, .string s, .func (.func 199) #[] #[]] w fun e w' => e = .returned (.tuple #[.int .i64 (entAt es s), .bool (hasE es s)]) ∧ Below w.heap.size w w' := by
  have hl := he.len
  have HR := Lib.hid hr
  have HE := Lib.hid he
  have hat := entAt_le es s
  clear hr he
  obtain ⟨A, hA⟩ : ∃ A, entAt es s = A := ⟨_, rfl⟩
  have HA := Lib.hid hA
  rw [hA] at hat ⊢
  clear hA
  go_enter Tryz.func198, Tryz.ntmps198
  go_wp2_with fail
  go_loopw [9, 10] (fun i j wr => ∃ lo hi : Nat, lo ≤ A ∧ A ≤ hi ∧ hi ≤ n ∧ i = .int .i64 lo ∧ j = .int .i64 hi ∧ Below w.heap.size w wr) (fun i j _ => (intOf j - intOf i).toNat)
  case atStart => exact ⟨0, n, by omega, by omega, by omega, rfl, rfl, Below.refl _ _⟩
  case round =>
    obtain ⟨lo, hi, h1, h2, h3, rfl, rfl, hB⟩ := hrel
    by_cases hlt : lo < hi
    · obtain ⟨b, off, rfl, hb⟩ := HE.out.some_of (by omega)
      obtain ⟨k, hk⟩ : ∃ k : Nat, (lo + hi) / 2 = k := ⟨_, rfl⟩
      have hkl : k < es.length := by omega
      obtain ⟨c1, c2⟩ := (HE.out.keep hB).cell k hkl
      obtain ⟨x, hx⟩ : ∃ x, es[k] = x := ⟨_, rfl⟩
      rw [hx] at c1 c2
      have hcv : (cmpB x.name s < 0) = (k < A) := by
        rw [cmpB_lt, ← hx, rise_lt HR.out s k hkl, HA.out]
        simp
      by_cases hkA : k < A
      · have hneg : cmpB x.name s < 0 := by rw [hcv]; exact hkA
        clear hcv hx
        go_wp2_with fail
        refine (by_any x s _).mono ?_
        rintro e w1 ⟨rfl, hb1⟩
        go_wp2_with fail
        go_roundw
        case rel => exact ⟨k + 1, hi, by omega, by omega, h3, by go_num, rfl, bnext hB hb1⟩
        case measure => simp [intOf]; omega
      · have hneg : ¬ cmpB x.name s < 0 := by rw [hcv]; exact hkA
        clear hcv hx
        go_wp2_with fail
        refine (by_any x s _).mono ?_
        rintro e w1 ⟨rfl, hb1⟩
        go_wp2_with fail
        go_roundw
        case rel => exact ⟨lo, k, by omega, by omega, by omega, rfl, by rw [show ((lo : Int) + (hi : Int)) / 2 = (k : Int) by omega], bnext hB hb1⟩
        case measure => simp [intOf]; omega
    · obtain rfl : lo = A := by omega
      by_cases hAn : lo < n
      · obtain ⟨b, off, rfl, hb⟩ := HE.out.some_of (by omega)
        have hkl : lo < es.length := by omega
        obtain ⟨c1, c2⟩ := (HE.out.keep hB).cell lo hkl
        obtain ⟨x, hx⟩ : ∃ x, es[lo] = x := ⟨_, rfl⟩
        rw [hx] at c1 c2
        by_cases hxs : x.name = s
        · have hz : cmpB x.name s = 0 := by rw [cmpB_eq]; exact hxs
          have HF := Lib.hid (show hasE es s = true by
            unfold hasE
            rw [find_at HR.out s, dif_pos (by rw [HA.out]; exact hkl), if_pos (by simp only [HA.out, hx]; exact hxs)]
            rfl)
          have Hz := Lib.hid hz
          clear hx hxs hz
          go_wp2_with fail
          refine (by_any x s _).mono ?_
          rw [Hz.out]
          rintro e w1 ⟨rfl, hb1⟩
          go_wp2_with fail
          go_ret2
          exact ⟨by rw [HF.out]; rfl, bnext hB hb1⟩
        · have hz : ¬ cmpB x.name s = 0 := by rw [cmpB_eq]; exact hxs
          have HF := Lib.hid (show hasE es s = false by
            unfold hasE
            rw [find_at HR.out s, dif_pos (by rw [HA.out]; exact hkl), if_neg (by simp only [HA.out, hx]; exact hxs)]
            rfl)
          have hz2 : (cmpB x.name s == 0) = false := by simpa using hz
          clear hx hxs hz
          go_wp2_with fail
          refine (by_any x s _).mono ?_
          rintro e w1 ⟨rfl, hb1⟩
          go_wp2_with fail
          go_ret2
          exact ⟨by rw [HF.out]; rfl, bnext hB hb1⟩
      · have HF := Lib.hid (show hasE es s = false by
          unfold hasE
          rw [find_at HR.out s, dif_neg (by rw [HA.out]; omega)]
          rfl)
        go_wp2_with fail
        go_ret2
        exact ⟨by rw [HF.out]; rfl, hB⟩

/-- what Find answers. -/
theorem has_find {es : List En} {s : ByteArray} (h : hasE es s = false) : entFind es s = 0 := by
  unfold hasE at h
  unfold entFind
  cases hf : es.find? (fun x => decide (x.name = s)) with
  | none => rfl
  | some x => rw [hf] at h; cases h
theorem at_find {es : List En} {s : ByteArray} (hr : Rise es) (h : hasE es s = true) : ∃ hk : entAt es s < es.length, entFind es s = es[entAt es s].no ∧ es[entAt es s].name = s := by
  unfold hasE at h
  unfold entFind
  rw [find_at hr s] at h ⊢
  split at h
  · rename_i hk
    split at h
    · rename_i hx
      refine ⟨hk, ?_, hx⟩
      rw [dif_pos hk, if_pos hx]
    · cases h
  · cases h
set_option maxRecDepth 100000 in
set_option maxHeartbeats 400000 in
theorem efind_any (es : List En) (a : Option Addr) (n c : Nat) (s : ByteArray) (w : World) (he : EntsAt w a n c es) (hr : Rise es) (hn : n ≤ 1000000) :
    Calls Tryz.prog 145 #[.slice a n c, .string s] w fun e w' => e = .returned (.int .i64 (entFind es s)) ∧ Below w.heap.size w w' := by
  have hl := he.len
  have HS := Lib.hid (search_any es a n c s w he hr hn)
  cases hh : hasE es s
  · rw [hh] at HS
    rw [has_find hh]
    go_enter Tryz.func145, Tryz.ntmps145
    go_wp2_with fail
    refine HS.out.mono ?_
    rintro e w1 ⟨rfl, hb1⟩
    go_wp2_with fail
    go_ret
    exact ⟨rfl, hb1⟩
  · rw [hh] at HS
    obtain ⟨hk, hf, -⟩ := at_find hr hh
    rw [hf]
    obtain ⟨b, off, rfl, hb⟩ := he.some_of (by omega)
    obtain ⟨A, hA⟩ : ∃ A, entAt es s = A := ⟨_, rfl⟩
    simp only [hA] at hk HS ⊢
    obtain ⟨x, hx⟩ : ∃ x, es[A] = x := ⟨_, rfl⟩
    rw [hx]
    have HE := Lib.hid he
    clear hf hA he hh
    go_enter Tryz.func145, Tryz.ntmps145
    go_wp2_with fail
    refine HS.out.mono ?_
    rintro e w1 ⟨rfl, hb1⟩
    obtain ⟨c1, c2⟩ := (HE.out.keep hb1).cell A hk
    rw [hx] at c1 c2
    go_wp2_with fail
    go_ret
    exact ⟨rfl, hb1⟩
end Go.Proofs.YtkkiglagdojnlaaGreatDoor

/- Slices of structs: a copy between rows, what a row of the call's own holds behind it. No program in sight. -/
namespace Go.Proofs.YtkkiglagdojnlaaGreatDoor

open Go.RowKit

section

variable {P : Program}

theorem run_copy_rowK (w : World) (dT sT ty elem : TypeId) (g o dLen dCap : Nat) (a : Addr) (sLen sCap : Nat) (cur : Array Value) (t : TypeId) (cs : List Value) (n sz : Nat)
    (hu : P.underlying dT = some (.slice elem)) (hs : (P.info? elem).map (·.size) = some sz)
    (hg : w.heap[g]? = some (.cells cur t (0, 0))) (hm : Nat.min sLen dLen = n) (hn : cs.length = n * sz)
    (hsrc : ∀ j v, cs[j]? = some v → w.cell? (a.add j) = some v) (hfit : o + cs.length ≤ cur.size) (h1 : ∀ v ∈ cs, v.oneCell' = true) :
    (Builtin.copy_ #[dT, sT] ty #[.slice (some ⟨g, o, none⟩) dLen dCap, .slice (some a) sLen sCap]).run P w =
      .ok (goInt n) (w.setRow g (cur.toList.take o ++ cs ++ cur.toList.drop (o + cs.length)).toArray) := by
  have hl := run_loadCells_list (P := P) w a cs hsrc
  have hst := run_storeCells_at P g o t cs 0 cur w hg (by simpa using hfit) h1
  cases hq : P.info? elem with
  | none => simp [hq] at hs
  | some i =>
    have hi : i.size = sz := by simpa [hq] using hs
    simp [Builtin.copy_, run_underlying hu, Builtin.lenOf, Builtin.firstCells, sizeOf, typeInfo, hq, hi, hm, ← hn, hl, hst]
/-- a copy whose run is known. -/
theorem wp_copy_run (w : World) {o : Oper} {a : Act} {K : Act → World → Prop} {Q : Exit → Act → World → Prop} (d s : Operand) (t t' : TypeId)
    (ho : o.op = .call { callee := .builtin .copy, args := #[d, s], argTypes := #[t, t'] }) (v u : Value) (hd : a.eval d = v) (hs : a.eval s = u) {v' : Value} {w' : World}
    (hr : (Builtin.copy_ #[t, t'] o.type #[v, u]).run P w = .ok v' w') (h : K (a.put o.dst v') w') : o.wp P a w K Q := by
  unfold Oper.wp execOp
  simp only [ho, resolve, invoke, builtin, Sem.run_bind, Sem.run_pure, Result.andThen_ok, List.map_toArray, List.map_cons, List.map_nil, hd, hs, hr]
  exact h
theorem wpList_copy_run (w : World) {ops : Array Oper} {rest : List Oper} {o : Oper} {a : Act} {Q : Exit → Act → World → Prop} (hgd : o.guard = none) (d s : Operand) (t t' : TypeId)
    (ho : o.op = .call { callee := .builtin .copy, args := #[d, s], argTypes := #[t, t'] }) (v u : Value) (hd : a.eval d = v) (hs : a.eval s = u) {v' : Value} {w' : World}
    (hr : (Builtin.copy_ #[t, t'] o.type #[v, u]).run P w = .ok v' w') (h : wpList P ops Q rest (a.put o.dst v') w') : wpList P ops Q (o :: rest) a w :=
  wpList_plain hgd fun _ hK => wp_copy_run w d s t t' ho v u hd hs hr (hK _ _ h)
theorem step_copy_run {ops : Array Oper} {o : Oper} {a : Act} {w : World} {K : Act → World → Prop} {Q : Exit → Act → World → Prop} {E : Prop}
    (hg : o.guard = none) (d x : Operand) (dT sT : TypeId) (hop : o.op = Op.call { callee := Callee.builtin Builtin.copy, args := #[d, x], argTypes := #[dT, sT] })
    (v u : Value) (hd : a.eval d = v) (hx : a.eval x = u) {v' : Value} {w' : World} (hr : (Builtin.copy_ #[dT, sT] o.type #[v, u]).run P w = .ok v' w') (hK : K (a.put o.dst v') w') :
    if Region.wanted o (yielded ops a.tmps) = true then Oper.wp P o a w K Q else E := by
  have hw : Region.wanted o (yielded ops a.tmps) = true := by simp [Region.wanted, hg]
  rw [if_pos hw]
  unfold Oper.wp
  simp [execOp, hop, resolve, invoke, builtin, hd, hx, hr, Result.andThen]
  exact hK
end

theorem setRow_blk {w : World} {g : Nat} {cur vs : Array Value} {T : TypeId} (h : Blk w g cur T) : Blk (w.setRow g vs) g vs T := setRow_heap w g cur vs T _ h
theorem setRow_mod (w : World) (g : Nat) (vs : Array Value) : Mod (fun k => k = g) w (w.setRow g vs) := by
  refine ⟨rfl, rfl, rfl, by simp [World.setRow], fun k hk hs => ?_⟩
  simp only [World.setRow]
  rw [Array.getElem?_modify, if_neg (fun e => hs e.symm)]
end Go.Proofs.YtkkiglagdojnlaaGreatDoor

/- slices.Clone and slices.Insert over names in a directory. -/
namespace Go.Proofs.YtkkiglagdojnlaaGreatDoor

open Go.RowKit

theorem ent_info : (Tryz.prog.info? 97).map (fun i => (i.zero, i.size, i.bytes)) = some (some (.agg #[.string ByteArray.empty, .int .i64 0]), 2, 24) := by kernel_rfl
theorem entC_one (es : List En) : ∀ u ∈ es.flatMap entC, u.oneCell' = true := by
  intro u hu
  obtain ⟨x, -, hx⟩ := List.mem_flatMap.1 hu
  simp [entC] at hx
  rcases hx with rfl | rfl <;> rfl
theorem EntsAt.news {w : World} {b off n c : Nat} {es : List En} (h : EntsAt w (some ⟨b, off, none⟩) n c es) : ∀ j u, (es.flatMap entC)[j]? = some u → w.cell? ((⟨b, off, none⟩ : Addr).add j) = some u := by
  intro j u hu
  have hlt : j < (es.flatMap entC).length := (List.getElem?_eq_some_iff.1 hu).1
  rw [flat_len entC_len] at hlt
  have hm := Nat.mod_lt j (show 0 < 2 by omega)
  have hdiv : j = j / 2 * 2 + j % 2 := by omega
  have hq : j / 2 < es.length := by omega
  have h1 := flat_get entC_len es (j / 2) (j % 2) hq hm
  rw [← hdiv, hu] at h1
  obtain ⟨c1, c2⟩ := h.cell (j / 2) hq
  rw [addr_add]
  rcases (show j % 2 = 0 ∨ j % 2 = 1 by omega) with hr | hr
  · rw [hr] at h1
    rw [show off + j = off + j / 2 * 2 by omega, c1]
    exact h1.symm
  · rw [hr] at h1
    rw [show off + j = off + j / 2 * 2 + 1 by omega, c2]
    exact h1.symm
/-- entries of the call's own. -/
def OE (w : World) (base : Nat) (v : Value) (es : List En) : Prop := w.ownsRow base 97 2 v es.length (es.flatMap entC)
theorem OE.at {w : World} {base c : Nat} {a : Option Addr} {es : List En} (h : OE w base (.slice a es.length c) es) : EntsAt w a es.length c es := by
  refine ⟨own_slice (R := entQ) (by omega) entC_len (fun _ => rfl) h, fun p hp => ?_⟩
  subst hp
  rcases h.2 with ⟨h1, -⟩ | ⟨g, cap, cur, h1, -, hg, -⟩
  · cases h1
  · injection h1 with h1
    injection h1 with h1
    exact ⟨g, 0, cur, h1, hg⟩
theorem OE.keep {w w' : World} {base : Nat} {v : Value} {es : List En} (h : OE w base v es) (hb : Below w.heap.size w w') : OE w' base v es := own_below h hb (Nat.le_refl _)

set_option maxRecDepth 100000 in
set_option maxHeartbeats 400000 in
theorem eclone_any (es : List En) (a : Option Addr) (n c : Nat) (w : World) (he : EntsAt w a n c es) (hn : n ≤ 1000000) :
    Calls Tryz.prog 207 #[.slice a n c] w fun e w' => (∃ a' c', e = .returned (.slice a' n c') ∧ OE w' w.heap.size (.slice a' n c') es) ∧ Below w.heap.size w w' := by
  have hl := he.len
  obtain ⟨i0, hi, hz0, hz1, hz2⟩ := info_parts ent_info
  have hq : ∀ (w : World) (r : Option Addr) (n c : Nat), (binOp .eql 93 (.slice r n c) (.slice none 0 0)).run Tryz.prog w = .ok (.bool r.isNone) w := fun w r n c => Lib.run_eql_slice_nil w _ _ r n c 0 0 Tryz.underlying93
  cases a with
  | none =>
    have hn0 : n = 0 := by
      rcases Nat.eq_zero_or_pos n with h | h
      · exact h
      · obtain ⟨b, off, h1, -⟩ := he.some_of h
        cases h1
    subst hn0
    obtain rfl : es = [] := List.eq_nil_of_length_eq_zero hl
    have H := Lib.hid (show OE w w.heap.size (.slice none 0 0) [] from World.ownsRow_nil _ _ _ _)
    clear he hl hi hz0 hz1 hz2
    go_enter Tryz.func207, Tryz.ntmps207
    go_wp2_with fail
    go_ret
    exact ⟨⟨none, 0, rfl, H.out⟩, Below.refl _ _⟩
  | some p =>
    obtain ⟨b, off, cur, rfl, hblk⟩ := he.blk p rfl
    have he2 := he.keep ((Below.refl _ w).alloc (Nat.le_refl _) (.cells #[] 97))
    have hrun : ∃ a' c' W, (Builtin.append_ #[93, 93] 93 #[.slice (some ⟨w.heap.size, 0, none⟩) 0 0, .slice (some ⟨b, off, none⟩) n c]).run Tryz.prog (w.alloc (.cells #[] 97)) = .ok (.slice a' n c') W ∧
        OE W w.heap.size (.slice a' n c') es ∧ Below w.heap.size w W := by
      obtain ⟨g, cap, W, h1, h2, h3, h4⟩ := step_app_any (93) Tryz.underlying93 hi hz0 hz1 hz2 rfl (by omega) (own_empty (base := w.heap.size) (sz := 2) (e := 97) w (Nat.le_refl _)) ⟨b, off, none⟩ n c (es.flatMap entC) (by rw [flat_len entC_len, hl]) he2.news (entC_one es) (by unfold maxLen; omega) (by omega) (by simp)
      refine ⟨some ⟨g, 0, none⟩, cap, W, ?_, ?_, ((Below.refl w.heap.size w).alloc (Nat.le_refl _) _).trans (h3.below (fun k hk => by omega) (by simp))⟩
      · rw [Nat.zero_add] at h1; exact h1
      · rw [Nat.zero_add, List.nil_append] at h2; unfold OE; rw [hl]; exact h2
    obtain ⟨a', c', W, hrun, h2, h3⟩ := hrun
    have H := Lib.hid (And.intro h2 h3)
    clear he he2 hblk h2 h3 hi hz0 hz1 hz2 hl
    go_enter Tryz.func207, Tryz.ntmps207
    go_wp2_with (at_builtin; refine wpList_app_run rfl rfl rfl rfl hrun ?_)
    go_ret
    exact ⟨⟨a', c', rfl, H.out.1⟩, H.out.2⟩
end Go.Proofs.YtkkiglagdojnlaaGreatDoor

/- The reference's entries (layer 14): Find, Put. -/
namespace Go.Proofs.YtkkiglagdojnlaaGreatDoor

open Go.RowKit

theorem ba_beq (a b : ByteArray) : (a.toList == b.toList) = decide (a = b) := by
  rw [ByteArray.toList_eq, ByteArray.toList_eq]
  by_cases h : a = b
  · subst h; simp
  · rw [decide_eq_false h]
    simp only [beq_eq_false_iff_ne, ne_eq]
    exact fun e => h (ba_eq e)
def belowL (n : ByteArray) (x : En) : Bool := ltB x.name n
def aboveL (n : ByteArray) (x : En) : Bool := ltB n x.name
end Go.Proofs.YtkkiglagdojnlaaGreatDoor

/- How two entries stand to one another (layer 34): cmp.Compare, cmp.Or, stock.Earlier, and the reference's Ahead. -/
namespace Go.Proofs.YtkkiglagdojnlaaGreatDoor

open Go.RowKit Go.Sort

theorem isnanI_any (a : Int) (w : World) : Calls Tryz.prog 54 #[.int .i64 a] w fun e w' => e = .returned (.bool false) ∧ w = w' := by
  go_enter Tryz.func54, Tryz.ntmps54
  go_wp2_with fail
  go_ret
  exact ⟨by simp, rfl⟩
theorem isnanS_any (a : ByteArray) (w : World) : Calls Tryz.prog 55 #[.string a] w fun e w' => e = .returned (.bool false) ∧ w = w' := by
  go_enter Tryz.func55, Tryz.ntmps55
  go_wp2_with fail
  go_ret
  exact ⟨by simp, rfl⟩
theorem cmpI_any (a b : Int) (w : World) : Calls Tryz.prog 27 #[.int .i64 a, .int .i64 b] w fun e w' => e = .returned (.int .i64 (cmpI a b)) ∧ w = w' := by
  have HN := Lib.hid isnanI_any
  by_cases h1 : a < b
  · have HE := Lib.hid (show cmpI a b = -1 by unfold cmpI; rw [if_pos h1])
    go_enter Tryz.func27, Tryz.ntmps27
    go_wp2_with fail
    refine (HN.out _ _).mono ?_
    rintro e w1 ⟨rfl, rfl⟩
    go_wp2_with fail
    refine (HN.out _ _).mono ?_
    rintro e w1 ⟨rfl, rfl⟩
    go_wp2_with fail
    go_ret
    exact ⟨by rw [HE.out]; rfl, rfl⟩
  · by_cases h2 : b < a
    · have HE := Lib.hid (show cmpI a b = 1 by unfold cmpI; rw [if_neg h1, if_pos h2])
      go_enter Tryz.func27, Tryz.ntmps27
      go_wp2_with fail
      refine (HN.out _ _).mono ?_
      rintro e w1 ⟨rfl, rfl⟩
      go_wp2_with fail
      refine (HN.out _ _).mono ?_
      rintro e w1 ⟨rfl, rfl⟩
      go_wp2_with fail
      go_ret
      exact ⟨by rw [HE.out]; rfl, rfl⟩
    · have HE := Lib.hid (show cmpI a b = 0 by unfold cmpI; rw [if_neg h1, if_neg h2])
      go_enter Tryz.func27, Tryz.ntmps27
      go_wp2_with fail
      refine (HN.out _ _).mono ?_
      rintro e w1 ⟨rfl, rfl⟩
      go_wp2_with fail
      refine (HN.out _ _).mono ?_
      rintro e w1 ⟨rfl, rfl⟩
      go_wp2_with fail
      go_ret
      exact ⟨by rw [HE.out]; rfl, rfl⟩
/-- three ways. -/
theorem lss_cases (a b : ByteArray) : (Op.bytesLess a.toList b.toList = true ∧ cmpS a b = -1) ∨ (Op.bytesLess a.toList b.toList = false ∧ (a.toList == b.toList) = false ∧ cmpS a b = 1) ∨ (Op.bytesLess a.toList b.toList = false ∧ (a.toList == b.toList) = true ∧ cmpS a b = 0) := by
  unfold cmpS
  rw [ltB_mk, ba_beq]
  cases h1 : ltB a b with
  | true => exact .inl ⟨rfl, rfl⟩
  | false =>
    right
    cases h2 : ltB b a with
    | true => exact .inl ⟨rfl, decide_eq_false (fun e => by rw [e, ltB_irrefl] at h2; cases h2), rfl⟩
    | false => exact .inr ⟨rfl, decide_eq_true (ltB_total h1 h2), rfl⟩
theorem cmpS_any (a b : ByteArray) (w : World) : Calls Tryz.prog 28 #[.string a, .string b] w fun e w' => e = .returned (.int .i64 (cmpS a b)) ∧ w = w' := by
  have HN := Lib.hid isnanS_any
  have key := lss_cases a b
  generalize cmpS a b = r at key ⊢
  rcases key with ⟨h1, rfl⟩ | ⟨h1, h2, rfl⟩ | ⟨h1, h2, rfl⟩
  all_goals
    go_enter Tryz.func28, Tryz.ntmps28
    go_wp2_with fail
    refine (HN.out _ _).mono ?_
    rintro e w1 ⟨rfl, rfl⟩
    go_wp2_with fail
    refine (HN.out _ _).mono ?_
    rintro e w1 ⟨rfl, rfl⟩
    go_wp2_with fail
    go_ret
    exact ⟨rfl, rfl⟩
def orL : List Int → Int
  | [] => 0
  | x :: l => if x ≠ 0 then x else orL l
theorem orL_4 (a b c d : Int) : orL [a, b, c, d] = orI a (orI b (orI c d)) := by
  unfold orI orL orL orL orL orL
  by_cases hd : d = 0 <;> simp [hd]
set_option maxHeartbeats 1000000 in
theorem or_any (b c : Nat) (xs : List Int) (w : World) (hl : xs.length ≤ 1000000) (hx : ∀ i (h : i < xs.length), w.cell? ⟨b, i, none⟩ = some (.int .i64 xs[i])) :
    Calls Tryz.prog 26 #[.slice (some ⟨b, 0, none⟩) xs.length c] w fun e w' => e = .returned (.int .i64 (orL xs)) ∧ w = w' := by
  have HX := Lib.hid hx
  clear hx
  go_enter Tryz.func26, Tryz.ntmps26
  go_wp2_with fail
  go_loopw [8] (fun t8 wr => ∃ k : Nat, k ≤ xs.length ∧ t8 = .int .i64 k ∧ orL xs = orL (xs.drop k) ∧ wr = w) (fun t8 _ => xs.length - (intOf t8).toNat)
  case atStart => exact ⟨0, Nat.zero_le _, rfl, rfl, rfl⟩
  case round =>
    obtain ⟨k, hk, rfl, hfin, rfl⟩ := hrel
    have HF := Lib.hid hfin
    clear hfin
    by_cases hlt : k < xs.length
    · have hc := HX.out k hlt
      have HS := Lib.hid (show orL (xs.drop k) = if xs[k] ≠ 0 then xs[k] else orL (xs.drop (k + 1)) by rw [List.drop_eq_getElem_cons hlt]; rfl)
      generalize xs[k] = x at hc HS
      by_cases hz : x = 0
      · have hz' : (x != 0) = false := by simpa using hz
        have HG := Lib.hid (HF.out.trans (HS.out.trans (if_neg (by simpa using hz))))
        clear hz
        go_wp2_with fail
        go_roundw
        case measure => simp [intOf]; omega
        case rel => exact ⟨k + 1, by omega, by go_num, HG.out, by first | rfl | trivial⟩
      · have hz' : (x != 0) = true := by simpa using hz
        have HG := Lib.hid (HF.out.trans (HS.out.trans (if_pos hz)))
        clear hz
        go_wp2_with fail
        go_ret
        exact ⟨by rw [HG.out]; rfl, rfl⟩
    · have HG := Lib.hid (HF.out.trans (show orL (xs.drop k) = 0 by rw [List.drop_eq_nil_of_le (by omega)]; rfl))
      go_wp2_with fail
      go_ret
      exact ⟨by rw [HG.out]; rfl, rfl⟩
theorem grow_of {w w' : World} (h : Below w.heap.size w w') (hd : w.drawn ≤ w'.drawn) : ∃ q os, w' = Go.Sort.grow (w.drewN q) os := by
  refine ⟨w'.drawn - w.drawn, w'.heap.extract w.heap.size w'.heap.size, ?_⟩
  have hh : w'.heap = w.heap ++ w'.heap.extract w.heap.size w'.heap.size := by
    refine Array.ext_getElem? fun i => ?_
    by_cases hi : i < w.heap.size
    · rw [h.block i hi, Array.getElem?_append_left hi]
    · rw [Array.getElem?_append_right (by omega), Array.getElem?_extract]
      have := h.size
      by_cases h2 : i < w'.heap.size
      · rw [if_pos (by omega)]
        congr 1
        omega
      · rw [if_neg (by omega), Array.getElem?_eq_none (by omega)]
  have h1 := h.os
  have h2 := h.tape
  have h3 := h.output
  obtain ⟨a, b, c, d, e⟩ := w
  obtain ⟨a', b', c', d', e'⟩ := w'
  simp only at h1 h2 h3 hh hd
  subst h1 h2 h3
  unfold Go.Sort.grow World.drewN
  simp only
  rw [← hh]
  congr 1
  omega
/-- .. of four, just laid. -/
theorem or_new (a b c d : Int) (w : World) : Calls Tryz.prog 26 #[.slice (some ⟨w.heap.size, 0, none⟩) 4 4] (w.alloc (.cells #[.int .i64 a, .int .i64 b, .int .i64 c, .int .i64 d] 3)).drew fun e w' => e = .returned (.int .i64 (orL [a, b, c, d])) ∧ (w.alloc (.cells #[.int .i64 a, .int .i64 b, .int .i64 c, .int .i64 d] 3)).drew = w' := by
  have h := (Blk.new w #[.int .i64 a, .int .i64 b, .int .i64 c, .int .i64 d] 3).drew
  refine or_any w.heap.size 4 [a, b, c, d] _ (by simp) (fun i hi => ?_)
  have hi4 : i < 4 := hi
  rcases (by omega : i = 0 ∨ i = 1 ∨ i = 2 ∨ i = 3) with rfl | rfl | rfl | rfl
  · exact h.cell 0
  · exact h.cell 1
  · exact h.cell 2
  · exact h.cell 3
theorem keepD_here (W : World) : (∀ b o, b < W.heap.size → W.drew.cell? ⟨b, o, none⟩ = W.cell? ⟨b, o, none⟩) ∧ Below W.heap.size W W.drew ∧ W.drawn ≤ W.drew.drawn := ⟨fun _ _ _ => rfl, (Below.refl _ _).drew, Nat.le_succ _⟩
theorem keepD_alloc {W p : World} (h : (∀ b o, b < W.heap.size → p.cell? ⟨b, o, none⟩ = W.cell? ⟨b, o, none⟩) ∧ Below W.heap.size W p ∧ W.drawn ≤ p.drawn) (o : Obj) :
    (∀ b i, b < W.heap.size → (p.alloc o).cell? ⟨b, i, none⟩ = W.cell? ⟨b, i, none⟩) ∧ Below W.heap.size W (p.alloc o) ∧ W.drawn ≤ (p.alloc o).drawn :=
  ⟨(keepS_alloc ⟨h.1, h.2.1⟩ o).1, (keepS_alloc ⟨h.1, h.2.1⟩ o).2, h.2.2⟩
theorem keepD_allocD {W p : World} (h : (∀ b o, b < W.heap.size → p.drew.cell? ⟨b, o, none⟩ = W.cell? ⟨b, o, none⟩) ∧ Below W.heap.size W p.drew ∧ W.drawn ≤ p.drew.drawn) (o : Obj) :
    (∀ b i, b < W.heap.size → (p.alloc o).drew.cell? ⟨b, i, none⟩ = W.cell? ⟨b, i, none⟩) ∧ Below W.heap.size W (p.alloc o).drew ∧ W.drawn ≤ (p.alloc o).drew.drawn := keepD_alloc (p := p.drew) h o
set_option maxRecDepth 100000 in
set_option maxHeartbeats 4000000 in
theorem earlier_any (x y : Ey) (w : World) : Calls Tryz.prog 7 #[.agg (eyC x).toArray, .agg (eyC y).toArray] w fun e w' => e = .returned (.int .i64 (earF x y)) ∧ ∃ q os, w' = Go.Sort.grow (w.drewN q) os := by
  obtain ⟨x1, x2, x3, x4, x5, x6⟩ := x
  obtain ⟨y1, y2, y3, y4, y5, y6⟩ := y
  unfold eyC
  have HI := Lib.hid cmpI_any
  have HS := Lib.hid cmpS_any
  have HE := Lib.hid (show earF ⟨x1, x2, x3, x4, x5, x6⟩ ⟨y1, y2, y3, y4, y5, y6⟩ = orL [cmpI x4 y4, cmpI x2.size y2.size, cmpS x2 y2, cmpS x1 y1] from (orL_4 _ _ _ _).symm)
  generalize earF ⟨x1, x2, x3, x4, x5, x6⟩ ⟨y1, y2, y3, y4, y5, y6⟩ = r at HE ⊢
  have HX := Lib.hid (Blk.new w #[.string x1, .string x2, .string x3, .int .i64 x4, .int .i64 x5, .bool x6] 23)
  have hB := balloc (balloc (Below.refl w.heap.size w) (.cells #[.string x1, .string x2, .string x3, .int .i64 x4, .int .i64 x5, .bool x6] 23)) (.cells #[.string y1, .string y2, .string y3, .int .i64 y4, .int .i64 y5, .bool y6] 23)
  have hXB := HX.out.old (.cells #[.string y1, .string y2, .string y3, .int .i64 y4, .int .i64 y5, .bool y6] 23)
  have hYB := Blk.new (w.alloc (.cells #[.string x1, .string x2, .string x3, .int .i64 x4, .int .i64 x5, .bool x6] 23)) #[.string y1, .string y2, .string y3, .int .i64 y4, .int .i64 y5, .bool y6] 23
  rw [World.size_alloc] at hYB
  have hdr : w.drawn ≤ ((w.alloc (.cells #[.string x1, .string x2, .string x3, .int .i64 x4, .int .i64 x5, .bool x6] 23)).alloc (.cells #[.string y1, .string y2, .string y3, .int .i64 y4, .int .i64 y5, .bool y6] 23)).drawn := Nat.le_refl _
  have HO := Lib.hid or_new
  go_enter Tryz.func7, Tryz.ntmps7
  go_upto_region 1 with fail
  generalize (w.alloc (.cells #[.string x1, .string x2, .string x3, .int .i64 x4, .int .i64 x5, .bool x6] 23)).alloc (.cells #[.string y1, .string y2, .string y3, .int .i64 y4, .int .i64 y5, .bool y6] 23) = W at hB hXB hYB hdr ⊢
  obtain ⟨xc, -, xz⟩ := hXB.facts
  obtain ⟨yc, -, yz⟩ := hYB.facts
  have HB := Lib.hid hB
  have HD := Lib.hid hdr
  clear hB hXB hYB hdr
  go_region_held3 (fun w' => (∀ b o, b < W.heap.size → w'.cell? ⟨b, o, none⟩ = W.cell? ⟨b, o, none⟩) ∧ Below W.heap.size W w' ∧ W.drawn ≤ w'.drawn) (first | with_reducible assumption | with_reducible exact keepD_here _ | with_reducible exact keepD_allocD (by assumption) _)
    ((first
      | (go_at_call 27; ((with_reducible refine (HI.out _ _ _).mono ?_); rintro e w4 ⟨rfl, rfl⟩))
      | (go_at_call 28; ((with_reducible refine (HS.out _ _ _).mono ?_); rintro e w4 ⟨rfl, rfl⟩))
      | (go_at_call 26; ((refine (HO.out _ _ _ _ _).mono ?_); rintro e w4 ⟨rfl, rfl⟩))))
  all_goals
    go_wp2_with fail
    go_ret
    exact ⟨by rw [HE.out]; rfl, grow_of (balloc HB.out _).drew (Nat.le_trans HD.out (Nat.le_succ _))⟩
end Go.Proofs.YtkkiglagdojnlaaGreatDoor

/- slices.SortStableFunc's parts at rows of structs (zsortanyfunc.go), over any program that bears these bodies: swapRange, rotate. -/
namespace Go.Proofs.YtkkiglagdojnlaaGreatDoor

open Go.RowKit Go.Shelf Go.Lib Go.Sort

/-- the bodies, and the types that they name. -/
structure SoL (P : Program) (k : Nat) : Prop where
  mixed : P.follows .mixedOrders = true
  fS : P.funcs[246]? = some Tryz.f246
  fR : P.funcs[197]? = some Tryz.f197
  fM : P.funcs[142]? = some Tryz.f142
  fT : P.funcs[88]? = some Tryz.f88
  fI : P.funcs[141]? = some Tryz.f141
  t0 : P.underlying 0 = some (TypeDesc.tuple #[])
  a0 : ∀ w, (isAgg 0).run P w = .ok false w
  z0 : ∀ w, (Go.sizeOf 0).run P w = .ok 1 w
  v0 : ∀ w, (zeroValue 0).run P w = .ok (Value.tuple #[]) w
  t3 : P.underlying 3 = some (TypeDesc.int IntKind.i64)
  a3 : ∀ w, (isAgg 3).run P w = .ok false w
  z3 : ∀ w, (Go.sizeOf 3).run P w = .ok 1 w
  v3 : ∀ w, (zeroValue 3).run P w = .ok (Value.int IntKind.i64 0) w
  t4 : P.underlying 4 = some TypeDesc.bool
  a4 : ∀ w, (isAgg 4).run P w = .ok false w
  z4 : ∀ w, (Go.sizeOf 4).run P w = .ok 1 w
  v4 : ∀ w, (zeroValue 4).run P w = .ok (Value.bool false) w
  tu : P.underlying 48 = some (TypeDesc.int IntKind.u64)
  au : ∀ w, (isAgg 48).run P w = .ok false w
  zu : ∀ w, (Go.sizeOf 48).run P w = .ok 1 w
  vu : ∀ w, (zeroValue 48).run P w = .ok (Value.int IntKind.u64 0) w
  tS : P.underlying 56 = some (TypeDesc.slice 23)
  aS : ∀ w, (isAgg 56).run P w = .ok false w
  zS : ∀ w, (Go.sizeOf 56).run P w = .ok 1 w
  vS : ∀ w, (zeroValue 56).run P w = .ok (Value.slice none 0 0) w
  tF : P.underlying 24 = some (TypeDesc.func #[23, 23] #[3] false)
  aF : ∀ w, (isAgg 24).run P w = .ok false w
  zF : ∀ w, (Go.sizeOf 24).run P w = .ok 1 w
  vF : ∀ w, (zeroValue 24).run P w = .ok Value.nilFunc w
  aE : ∀ w, (isAgg 23).run P w = .ok true w
  zE : ∀ w, (Go.sizeOf 23).run P w = .ok k w
theorem so_lays : SoL Tryz.prog 6 := {
  mixed := by kernel_rfl
  fS := Tryz.func246
  fR := Tryz.func197
  fM := Tryz.func142
  fT := Tryz.func88
  fI := Tryz.func141
  t0 := Tryz.underlying0, a0 := Tryz.isAgg0, z0 := Tryz.sizeOf0, v0 := Tryz.zeroValue0
  t3 := Tryz.underlying3, a3 := Tryz.isAgg3, z3 := Tryz.sizeOf3, v3 := Tryz.zeroValue3
  t4 := Tryz.underlying4, a4 := Tryz.isAgg4, z4 := Tryz.sizeOf4, v4 := Tryz.zeroValue4
  tu := Tryz.underlying48, au := Tryz.isAgg48, zu := Tryz.sizeOf48, vu := Tryz.zeroValue48
  tS := Tryz.underlying56, aS := Tryz.isAgg56, zS := Tryz.sizeOf56, vS := Tryz.zeroValue56
  tF := Tryz.underlying24, aF := Tryz.isAgg24, zF := Tryz.sizeOf24, vF := Tryz.zeroValue24
  aE := Tryz.isAgg23, zE := Tryz.sizeOf23 }
section

variable {P : Program} {k : Nat} {α : Type} [Inhabited α] {enc : α → List Value} {w0 : World} {blk off : Nat} {d0 : Array α}

set_option maxHeartbeats 4000000 in
set_option maxRecDepth 1000000 in
theorem so_swap (L : SoL P k) (g : Nat) (cb : Array Value) (cap a b n : Nat) (d : Array α) (w : World) (R : RowK enc k w0 blk off d0) (hs : d0.size = d.size) (S : SWK enc k w0 blk off d w) (hab : a + n ≤ b) (hb : b + n ≤ d.size) (hsz : d.size < 4611686018427387904) :
    Calls P 246 #[.slice (some ⟨blk, off, none⟩) d.size cap, .int .i64 a, .int .i64 b, .int .i64 n, .func (.func g) #[] cb] w fun e w' => e = .returned (.tuple #[]) ∧ SWK enc k w0 blk off (swpR d a b n) w' := by
  have mixed := L.mixed; have t0 := L.t0; have a0 := L.a0; have z0 := L.z0; have v0 := L.v0; have t3 := L.t3; have a3 := L.a3; have z3 := L.z3; have v3 := L.v3; have t4 := L.t4; have a4 := L.a4; have z4 := L.z4; have v4 := L.v4; have tS := L.tS; have aS := L.aS; have zS := L.zS; have vS := L.vS; have tF := L.tF; have aF := L.aF; have zF := L.zF; have vF := L.vF; have aE := L.aE; have zE := L.zE
  have FG := L.fS
  have S0 : Aside (SWK enc k w0 blk off d w) := S
  clear S L
  go_enter FG, Tryz.ntmps246
  go_wp2
  go_loopg [10] n (fun kx s10 wr => ∃ i : Nat, s10 = .int .i64 i ∧ i ≤ n ∧ n - i ≤ kx ∧ Aside (SWK enc k w0 blk off (swpR d a b i) wr))
  case atStart => exact ⟨0, rfl, by omega, by omega, S0⟩
  case round =>
    clear S0
    obtain ⟨i, rfl, hin, hkx, S1⟩ := hrel
    by_cases hlt : i < n
    · have hltz : (i : Int) < (n : Int) := by omega
      go_wp2_with fail
      have hds : (swpR d a b i).size = d.size := swpR_size d a b i
      have HSW := Lib.hid (show swpR d a b (i + 1) = swp (swpR d a b i) (a + i) (b + i) from rfl)
      generalize swpR d a b i = dk at S1 hds HSW
      have ea : ((a : Int) + (i : Int)).toNat = a + i := by omega
      have pa : (0 : Int) ≤ (a : Int) + (i : Int) := by omega
      have ba : (a : Int) + (i : Int) < (d.size : Int) := by omega
      have ra : IntKind.i64.wrap ((a : Int) + (i : Int)) = (a : Int) + (i : Int) := by rw [IntKind.wrap_i64]; omega
      have ec : ((b : Int) + (i : Int)).toNat = b + i := by omega
      have pc : (0 : Int) ≤ (b : Int) + (i : Int) := by omega
      have bc : (b : Int) + (i : Int) < (d.size : Int) := by omega
      have rc : IntKind.i64.wrap ((b : Int) + (i : Int)) = (b : Int) + (i : Int) := by rw [IntKind.wrap_i64]; omega
      have S2 : Aside (SWK enc k w0 blk off (swp dk (a + i) (b + i)) ((wr.drew.setCells blk (off + (a + i) * k) (enc dk[b + i]!)).setCells blk (off + (b + i) * k) (enc dk[a + i]!))) := S1.out.swapped R (a + i) (b + i) (by omega) (by omega)
      have la := S1.out.ld1 R (by omega) P (a + i) (by omega)
      have lb := S1.out.ld1 R (by omega) P (b + i) (by omega)
      have sa := S1.out.st1 R (by omega) P (a + i) (by omega) dk[b + i]!
      have sb := S1.out.st2 R (by omega) P (a + i) (b + i) (by omega) (by omega) dk[b + i]! dk[a + i]!
      have na : (enc dk[a + i]!).length = k := R.hk _
      have nb : (enc dk[b + i]!).length = k := R.hk _
      generalize enc dk[a + i]! = cI at S2 la sb na
      generalize enc dk[b + i]! = cJ at S2 lb sa sb nb
      clear S1
      go_wp2_with fail
      go_big_region_o
      clear la lb sa sb
      generalize (wr.drew.setCells blk (off + (a + i) * k) cJ).setCells blk (off + (b + i) * k) cI = w2 at S2 ⊢
      go_wp2
      go_roundg (n - (i + 1))
      case measure => omega
      case rel => exact ⟨i + 1, by first | rfl | go_num, by omega, Nat.le_refl _, by rw [HSW.out]; exact S2⟩
    · obtain rfl : i = n := by omega
      go_wp2
      go_end0
      exact ⟨rfl, S1.out⟩
set_option maxHeartbeats 4000000 in
set_option maxRecDepth 1000000 in
theorem so_rot (L : SoL P k) (g : Nat) (cb : Array Value) (cap a m b : Nat) (d : Array α) (w : World) (R : RowK enc k w0 blk off d0) (hs : d0.size = d.size) (S : SWK enc k w0 blk off d w) (hsz : d.size < 4611686018427387904)
    {X Y : List α} (hX : Seg d a X) (hY : Seg d m Y) (ha : a + X.length = m) (hb : m + Y.length = b) (hx : 0 < X.length) (hy : 0 < Y.length) :
    Calls P 197 #[.slice (some ⟨blk, off, none⟩) d.size cap, .int .i64 a, .int .i64 m, .int .i64 b, .func (.func g) #[] cb] w fun e w' => e = .returned (.tuple #[]) ∧ ∃ d', SWK enc k w0 blk off d' w' ∧ Seg d' a (Y ++ X) ∧ SameOut a b d d' := by
  have mixed := L.mixed; have t0 := L.t0; have a0 := L.a0; have z0 := L.z0; have v0 := L.v0; have t3 := L.t3; have a3 := L.a3; have z3 := L.z3; have v3 := L.v3; have t4 := L.t4; have a4 := L.a4; have z4 := L.z4; have v4 := L.v4; have tS := L.tS; have aS := L.aS; have zS := L.zS; have vS := L.vS; have tF := L.tF; have aF := L.aF; have zF := L.zF; have vF := L.vF
  have eS : ∀ args w, (callFunc 246 args).run P w = .ok (.enter 246 args) w := enters_of L.fS (by kernel_rfl) rfl
  have FG := L.fR
  have HL := Lib.hid L
  have hbd := hY.1
  have S0 : Aside (SWK enc k w0 blk off d w) := S
  have HX := Lib.hid (And.intro hX hY)
  obtain ⟨i0, hi0⟩ : ∃ i, i = X.length := ⟨_, rfl⟩
  obtain ⟨j0, hj0⟩ : ∃ j, j = Y.length := ⟨_, rfl⟩
  rw [← hi0] at ha hx
  rw [← hj0] at hb hy hbd
  have hw1 : IntKind.i64.wrap ((m : Int) - (a : Int)) = (i0 : Int) := by rw [IntKind.wrap_i64]; omega
  have hw2 : IntKind.i64.wrap ((b : Int) - (m : Int)) = (j0 : Int) := by rw [IntKind.wrap_i64]; omega
  have HI := Lib.hid (And.intro hi0 hj0)
  clear S L hX hY hi0 hj0
  go_enter FG, Tryz.ntmps197
  go_wp2_with fail
  go_loopg [10, 11] (i0 + j0) (fun kx s10 s11 wr => ∃ (i j : Nat) (dk : Array α) (X' Y' : List α), s10 = .int .i64 i ∧ s11 = .int .i64 j ∧ 0 < i ∧ 0 < j ∧ i ≤ m ∧ m + j ≤ d.size ∧ i + j ≤ kx ∧ Hid (X'.length = i ∧ Y'.length = j ∧ Seg dk (m - i) X' ∧ Seg dk m Y') ∧ dk.size = d.size ∧ Aside (SWK enc k w0 blk off dk wr) ∧
    Hid (∀ d'', Seg d'' (m - i) (Y' ++ X') → SameOut (m - i) (m + j) dk d'' → Seg d'' a (Y ++ X) ∧ SameOut a b d d''))
  case atStart =>
    have hma : m - i0 = a := by omega
    refine ⟨i0, j0, d, X, Y, rfl, rfl, hx, hy, by omega, by omega, Nat.le_refl _, ⟨HI.out.1.symm, HI.out.2.symm, by rw [hma]; exact HX.out.1, HX.out.2⟩, rfl, S0, fun d'' h1 h2 => ?_⟩
    rw [hma] at h1 h2
    exact ⟨h1, h2.mono (Nat.le_refl _) (by omega)⟩
  case round =>
    clear S0 hw1 hw2
    obtain ⟨i, j, dk, X', Y', rfl, rfl, hi, hj, him, hjd, hkx, HS, hds, S1, HF⟩ := hrel
    obtain ⟨q, hq⟩ : ∃ q, q + i = m := ⟨m - i, by omega⟩
    have hqm : m - i = q := by omega
    have hwq : IntKind.i64.wrap ((m : Int) - (i : Int)) = (q : Int) := by rw [IntKind.wrap_i64]; omega
    by_cases hne : i = j
    · have hneb : ((i : Int) != (j : Int)) = false := by subst hne; simp
      obtain ⟨hx1, hy1, hX1, hY1⟩ := HS.out
      have HE := Lib.hid (rot_eq (i := i) hX1 hY1 hx1 (by omega) him)
      rw [hqm] at HE
      have hc := so_swap HL.out g cb cap q m i dk wr R (by omega) S1.out (by omega) (by omega) (by omega)
      rw [hds] at hc
      have HC := Lib.hid hc
      have HFn := Lib.hid (show ∀ d'', Seg d'' q (Y' ++ X') → SameOut q (m + i) dk d'' → Seg d'' a (Y ++ X) ∧ SameOut a b d d'' by have := HF.out; rw [hqm, ← hne] at this; exact this)
      clear hc hx1 hy1 hX1 hY1 hne hqm HF HS S1
      go_wp2_with fail
      refine HC.out.mono ?_
      rintro e w2 ⟨rfl, S2⟩
      have HS2 := Lib.hid S2
      clear S2
      go_wp2_with fail
      go_end0
      exact ⟨rfl, _, HS2.out, HFn.out _ HE.out.1 HE.out.2⟩
    · have hneb : ((i : Int) != (j : Int)) = true := by
        rw [bne_iff_ne]
        omega
      obtain ⟨hx1, hy1, hX1, hY1⟩ := HS.out
      by_cases hlt : j < i
      · have hltz : (j : Int) < (i : Int) := by omega
        have hwi : IntKind.i64.wrap ((i : Int) - (j : Int)) = ((i - j : Nat) : Int) := by rw [IntKind.wrap_i64]; omega
        obtain ⟨i', hi'⟩ : ∃ x, i - j = x := ⟨_, rfl⟩
        rw [hi'] at hwi
        obtain ⟨X1, X2, l1, l2, g1, g2, g3, g4⟩ := rot_gt hX1 hY1 hx1 hy1 him hlt
        rw [hqm] at g1 g2 g3 g4
        rw [hi'] at l2 g1 g4
        have hc := so_swap HL.out g cb cap q m j dk wr R (by omega) S1.out (by omega) (by omega) (by omega)
        rw [hds] at hc
        have HC := Lib.hid hc
        have HG := Lib.hid (And.intro g1 (And.intro g2 (And.intro l1 l2)))
        have HN := Lib.hid (show ∀ d'', Seg d'' (m - i') (X1 ++ X2) → SameOut (m - i') (m + j) (swpR dk q m j) d'' → Seg d'' a (Y ++ X) ∧ SameOut a b d d'' from fun d'' k1 k2 => by
          have := g4 d'' k1 k2
          exact HF.out d'' (by rw [hqm]; exact this.1) (by rw [hqm]; exact this.2))
        have g3' : (swpR dk q m j).size = d.size := g3.trans hds
        generalize swpR dk q m j = dn at HC HG HN g3'
        clear hc hx1 hy1 hX1 hY1 hne hqm HF HS S1 g1 g2 g3 g4 l1 l2
        go_wp2_with fail
        refine HC.out.mono ?_
        rintro e w2 ⟨rfl, S2⟩
        have HS2 := Lib.hid S2
        clear S2
        go_wp2_with fail
        go_roundg (i' + j)
        case measure => omega
        case rel => exact ⟨i', j, dn, X2, X1, by first | rfl | go_num, rfl, by omega, hj, by omega, hjd, Nat.le_refl _, ⟨HG.out.2.2.2, HG.out.2.2.1, HG.out.1, HG.out.2.1⟩, g3', HS2.out, HN.out⟩
      · have hltz : ¬ (j : Int) < (i : Int) := by omega
        have hlt2 : i < j := by omega
        have hwj : IntKind.i64.wrap ((j : Int) - (i : Int)) = ((j - i : Nat) : Int) := by rw [IntKind.wrap_i64]; omega
        obtain ⟨j', hj'⟩ : ∃ x, j - i = x := ⟨_, rfl⟩
        rw [hj'] at hwj
        have hwm : IntKind.i64.wrap ((m : Int) + (j : Int)) = (m : Int) + (j : Int) := by rw [IntKind.wrap_i64]; omega
        have hwm2 : IntKind.i64.wrap ((m : Int) + (j : Int) - (i : Int)) = ((m + j - i : Nat) : Int) := by rw [IntKind.wrap_i64]; omega
        obtain ⟨r, hr⟩ : ∃ x, m + j - i = x := ⟨_, rfl⟩
        rw [hr] at hwm2
        obtain ⟨Y1, Y2, l1, l2, g1, g2, g3, g4⟩ := rot_lt hX1 hY1 hx1 hy1 him hlt2
        rw [hqm, hr] at g1 g2 g3 g4
        rw [hj'] at l2 g4
        have hc := so_swap HL.out g cb cap q r i dk wr R (by omega) S1.out (by omega) (by omega) (by omega)
        rw [hds] at hc
        have HC := Lib.hid hc
        have HG := Lib.hid (And.intro g1 (And.intro g2 (And.intro l1 l2)))
        have HN := Lib.hid (show ∀ d'', Seg d'' (m - i) (Y1 ++ Y2) → SameOut (m - i) (m + j') (swpR dk q r i) d'' → Seg d'' a (Y ++ X) ∧ SameOut a b d d'' from fun d'' k1 k2 => by
          rw [hqm] at k1 k2
          have := g4 d'' k1 k2
          exact HF.out d'' (by rw [hqm]; exact this.1) (by rw [hqm]; exact this.2))
        have HQ := Lib.hid hqm
        have g3' : (swpR dk q r i).size = d.size := g3.trans hds
        generalize swpR dk q r i = dn at HC HG HN g3'
        clear hc hx1 hy1 hX1 hY1 hne hqm HF HS S1 g1 g2 g3 g4 l1 l2
        go_wp2_with fail
        refine HC.out.mono ?_
        rintro e w2 ⟨rfl, S2⟩
        have HS2 := Lib.hid S2
        clear S2
        go_wp2_with fail
        go_roundg (i + j')
        case measure => omega
        case rel => exact ⟨i, j', dn, Y2, Y1, rfl, by first | rfl | go_num, hi, by omega, him, by omega, Nat.le_refl _, ⟨HG.out.2.2.1, HG.out.2.2.2, by rw [HQ.out]; exact HG.out.1, HG.out.2.1⟩, g3', HS2.out, HN.out⟩
end

end Go.Proofs.YtkkiglagdojnlaaGreatDoor
