/- Texts of the proof, part 21. -/
import Derived.Deep.LoopGhost
import Derived.Laws.CopyRow
import Derived.Laws.Externs
import Derived.Lib.Overlaps
import Derived.Lib.AppendZeros
import Derived.Lib.JoinLaws
import Derived.Deep.AppendSrc
import Derived.Lib.SliceRun
import Derived.Test.YtaojpbgaengdpaaGreatSP13
import Derived.Test.YtaojpbgaengdpaaGreatSP6
set_option linter.unusedVariables false
set_option linter.unusedSimpArgs false
/- Names in a directory (layer 11): how they are held against each other; where a name is, or would be. -/
namespace Go.Proofs.YtaojpbgaengdpaaGreat

open Go.RowKit

def cmpB (a b : ByteArray) : Int := if ltB a b = true then -1 else if ltB b a = true then 1 else 0
theorem cmpB_lt (a b : ByteArray) : (cmpB a b < 0) = (ltB a b = true) := by
  unfold cmpB
  cases h : ltB a b
  · simp; split <;> omega
  · simp
theorem cmpB_eq (a b : ByteArray) : (cmpB a b = 0) = (a = b) := by
  unfold cmpB
  cases h : ltB a b
  · cases k : ltB b a
    · simp [ltB_total h k]
    · simp [(ltB_ne k).symm]
  · simp [ltB_ne h]

set_option maxHeartbeats 400000 in
theorem nan_any (s : ByteArray) (w : World) :
    Calls Tryz.prog 167 #[.string s] w fun e w' => e = .returned (.bool false) ∧ w = w' := by
  go_enter Tryz.func167, Tryz.ntmps167
  go_wp2
  go_ret
  exact ⟨rfl, rfl⟩

set_option maxHeartbeats 400000 in
theorem compare_any (a b : ByteArray) (w : World) :
    Calls Tryz.prog 157 #[.string a, .string b] w fun e w' => e = .returned (.int .i64 (cmpB a b)) ∧ w = w' := by
  unfold cmpB
  cases h : ltB a b
  · cases k : ltB b a
    · obtain rfl : a = b := ltB_total h k
      rw [← ltB_mk] at h
      clear k
      go_enter Tryz.func157, Tryz.ntmps157
      go_wp2
      go_ret
      exact ⟨rfl, rfl⟩
    · have hne : ¬ a.toList = b.toList := fun e => by
        rw [ByteArray.toList_eq, ByteArray.toList_eq] at e
        rw [ba_eq e, ltB_irrefl] at k
        cases k
      have hq : (a.toList == b.toList) = false := by simpa using hne
      rw [← ltB_mk] at h
      clear k
      go_enter Tryz.func157, Tryz.ntmps157
      go_wp2
      go_ret
      exact ⟨rfl, rfl⟩
  · rw [← ltB_mk] at h
    go_enter Tryz.func157, Tryz.ntmps157
    go_wp2
    go_ret
    exact ⟨rfl, rfl⟩

set_option maxHeartbeats 400000 in
theorem by_any (x : En) (n : ByteArray) (w : World) :
    Calls Tryz.prog 143 #[.agg #[.string x.name, .int .i64 x.no], .string n] w fun e w' => e = .returned (.int .i64 (cmpB x.name n)) ∧ Below w.heap.size w w' := by
  go_enter Tryz.func143, Tryz.ntmps143
  go_wp2_with (go_at_call 157; refine (compare_any _ _ _).mono ?_; rintro e w1 ⟨rfl, rfl⟩)
  go_ret
  exact ⟨rfl, by go_grown⟩
end Go.Proofs.YtaojpbgaengdpaaGreat

/- Where a name is, or would be: slices.BinarySearchFunc over names in a directory. -/
namespace Go.Proofs.YtaojpbgaengdpaaGreat

open Go.RowKit

def hasE (es : List En) (s : ByteArray) : Bool := (es.find? (fun x => decide (x.name = s))).isSome
set_option maxRecDepth 100000 in
set_option maxHeartbeats 1000000 in
theorem search_any (es : List En) (a : Option Addr) (n c : Nat) (s : ByteArray) (w : World) (he : EntsAt w a n c es) (hr : Rise es) (hn : n ≤ 1000000) :
    Calls Tryz.prog 142 #[.slice a n c, .string s, .func (.func 143) #[] #[]] w fun e w' => e = .returned (.tuple #[.int .i64 (entAt es s), .bool (hasE es s)]) ∧ Below w.heap.size w w' := by
  have hl := he.len
  have HR := Lib.hid hr
  have HE := Lib.hid he
  have hat := entAt_le es s
  clear hr he
  obtain ⟨A, hA⟩ : ∃ A, entAt es s = A := ⟨_, rfl⟩
  have HA := Lib.hid hA
  rw [hA] at hat ⊢
  clear hA
  go_enter Tryz.func142, Tryz.ntmps142
  go_wp2_with fail
  go_loopw [9, 10] (fun i j wr => ∃ lo hi : Nat, lo ≤ A ∧ A ≤ hi ∧ hi ≤ n ∧ i = .int .i64 lo ∧ j = .int .i64 hi ∧ Below w.heap.size w wr) (fun i j _ => (intOf j - intOf i).toNat)
  case atStart => exact ⟨0, n, by omega, by omega, by omega, rfl, rfl, Below.refl _ _⟩
  case round =>
    obtain ⟨lo, hi, h1, h2, h3, rfl, rfl, hB⟩ := hrel
    by_cases hlt : lo < hi
    · obtain ⟨b, off, rfl, hb⟩ := HE.out.some_of (by omega)
      obtain ⟨k, hk⟩ : ∃ k : Nat, (lo + hi) / 2 = k := ⟨_, rfl⟩
      have hkl : k < es.length := by omega
      obtain ⟨c1, c2⟩ := (HE.out.keep hB).cell k hkl
      obtain ⟨x, hx⟩ : ∃ x, es[k] = x := ⟨_, rfl⟩
      rw [hx] at c1 c2
      have hcv : (cmpB x.name s < 0) = (k < A) := by
        rw [cmpB_lt, ← hx, rise_lt HR.out s k hkl, HA.out]
        simp
      by_cases hkA : k < A
      · have hneg : cmpB x.name s < 0 := by rw [hcv]; exact hkA
        clear hcv hx
        go_wp2_with fail
        refine (by_any x s _).mono ?_
        rintro e w1 ⟨rfl, hb1⟩
        go_wp2_with fail
        go_roundw
        case rel => exact ⟨k + 1, hi, by omega, by omega, h3, by go_num, rfl, bnext hB hb1⟩
        case measure => simp [intOf]; omega
      · have hneg : ¬ cmpB x.name s < 0 := by rw [hcv]; exact hkA
        clear hcv hx
        go_wp2_with fail
        refine (by_any x s _).mono ?_
        rintro e w1 ⟨rfl, hb1⟩
        go_wp2_with fail
        go_roundw
        case rel => exact ⟨lo, k, by omega, by omega, by omega, rfl, by rw [show ((lo : Int) + (hi : Int)) / 2 = (k : Int) by omega], bnext hB hb1⟩
        case measure => simp [intOf]; omega
    · obtain rfl : lo = A := by omega
      by_cases hAn : lo < n
      · obtain ⟨b, off, rfl, hb⟩ := HE.out.some_of (by omega)
        have hkl : lo < es.length := by omega
        obtain ⟨c1, c2⟩ := (HE.out.keep hB).cell lo hkl
        obtain ⟨x, hx⟩ : ∃ x, es[lo] = x := ⟨_, rfl⟩
        rw [hx] at c1 c2
        by_cases hxs : x.name = s
        · have hz : cmpB x.name s = 0 := by rw [cmpB_eq]; exact hxs
          have HF := Lib.hid (show hasE es s = true by
            unfold hasE
            rw [find_at HR.out s, dif_pos (by rw [HA.out]; exact hkl), if_pos (by simp only [HA.out, hx]; exact hxs)]
            rfl)
          have Hz := Lib.hid hz
          clear hx hxs hz
          go_wp2_with fail
          refine (by_any x s _).mono ?_
          rw [Hz.out]
          rintro e w1 ⟨rfl, hb1⟩
          go_wp2_with fail
          go_ret2
          exact ⟨by rw [HF.out]; rfl, bnext hB hb1⟩
        · have hz : ¬ cmpB x.name s = 0 := by rw [cmpB_eq]; exact hxs
          have HF := Lib.hid (show hasE es s = false by
            unfold hasE
            rw [find_at HR.out s, dif_pos (by rw [HA.out]; exact hkl), if_neg (by simp only [HA.out, hx]; exact hxs)]
            rfl)
          have hz2 : (cmpB x.name s == 0) = false := by simpa using hz
          clear hx hxs hz
          go_wp2_with fail
          refine (by_any x s _).mono ?_
          rintro e w1 ⟨rfl, hb1⟩
          go_wp2_with fail
          go_ret2
          exact ⟨by rw [HF.out]; rfl, bnext hB hb1⟩
      · have HF := Lib.hid (show hasE es s = false by
          unfold hasE
          rw [find_at HR.out s, dif_neg (by rw [HA.out]; omega)]
          rfl)
        go_wp2_with fail
        go_ret2
        exact ⟨by rw [HF.out]; rfl, hB⟩

/-- what Find answers. -/
theorem has_find {es : List En} {s : ByteArray} (h : hasE es s = false) : entFind es s = 0 := by
  unfold hasE at h
  unfold entFind
  cases hf : es.find? (fun x => decide (x.name = s)) with
  | none => rfl
  | some x => rw [hf] at h; cases h
theorem at_find {es : List En} {s : ByteArray} (hr : Rise es) (h : hasE es s = true) : ∃ hk : entAt es s < es.length, entFind es s = es[entAt es s].no ∧ es[entAt es s].name = s := by
  unfold hasE at h
  unfold entFind
  rw [find_at hr s] at h ⊢
  split at h
  · rename_i hk
    split at h
    · rename_i hx
      refine ⟨hk, ?_, hx⟩
      rw [dif_pos hk, if_pos hx]
    · cases h
  · cases h
set_option maxRecDepth 100000 in
set_option maxHeartbeats 400000 in
theorem efind_any (es : List En) (a : Option Addr) (n c : Nat) (s : ByteArray) (w : World) (he : EntsAt w a n c es) (hr : Rise es) (hn : n ≤ 1000000) :
    Calls Tryz.prog 125 #[.slice a n c, .string s] w fun e w' => e = .returned (.int .i64 (entFind es s)) ∧ Below w.heap.size w w' := by
  have hl := he.len
  have HS := Lib.hid (search_any es a n c s w he hr hn)
  cases hh : hasE es s
  · rw [hh] at HS
    rw [has_find hh]
    go_enter Tryz.func125, Tryz.ntmps125
    go_wp2_with fail
    refine HS.out.mono ?_
    rintro e w1 ⟨rfl, hb1⟩
    go_wp2_with fail
    go_ret
    exact ⟨rfl, hb1⟩
  · rw [hh] at HS
    obtain ⟨hk, hf, -⟩ := at_find hr hh
    rw [hf]
    obtain ⟨b, off, rfl, hb⟩ := he.some_of (by omega)
    obtain ⟨A, hA⟩ : ∃ A, entAt es s = A := ⟨_, rfl⟩
    simp only [hA] at hk HS ⊢
    obtain ⟨x, hx⟩ : ∃ x, es[A] = x := ⟨_, rfl⟩
    rw [hx]
    have HE := Lib.hid he
    clear hf hA he hh
    go_enter Tryz.func125, Tryz.ntmps125
    go_wp2_with fail
    refine HS.out.mono ?_
    rintro e w1 ⟨rfl, hb1⟩
    obtain ⟨c1, c2⟩ := (HE.out.keep hb1).cell A hk
    rw [hx] at c1 c2
    go_wp2_with fail
    go_ret
    exact ⟨rfl, hb1⟩
end Go.Proofs.YtaojpbgaengdpaaGreat

/- Slices of structs: a copy between rows, what a row of the call's own holds behind it. No program in sight. -/
namespace Go.Proofs.YtaojpbgaengdpaaGreat

open Go.RowKit

section

variable {P : Program}

theorem run_copy_rowK (w : World) (dT sT ty elem : TypeId) (g o dLen dCap : Nat) (a : Addr) (sLen sCap : Nat) (cur : Array Value) (t : TypeId) (cs : List Value) (n sz : Nat)
    (hu : P.underlying dT = some (.slice elem)) (hs : (P.info? elem).map (·.size) = some sz)
    (hg : w.heap[g]? = some (.cells cur t (0, 0))) (hm : Nat.min sLen dLen = n) (hn : cs.length = n * sz)
    (hsrc : ∀ j v, cs[j]? = some v → w.cell? (a.add j) = some v) (hfit : o + cs.length ≤ cur.size) (h1 : ∀ v ∈ cs, v.oneCell' = true) :
    (Builtin.copy_ #[dT, sT] ty #[.slice (some ⟨g, o, none⟩) dLen dCap, .slice (some a) sLen sCap]).run P w =
      .ok (goInt n) (w.setRow g (cur.toList.take o ++ cs ++ cur.toList.drop (o + cs.length)).toArray) := by
  have hl := run_loadCells_list (P := P) w a cs hsrc
  have hst := run_storeCells_at P g o t cs 0 cur w hg (by simpa using hfit) h1
  cases hq : P.info? elem with
  | none => simp [hq] at hs
  | some i =>
    have hi : i.size = sz := by simpa [hq] using hs
    simp [Builtin.copy_, run_underlying hu, Builtin.lenOf, Builtin.firstCells, sizeOf, typeInfo, hq, hi, hm, ← hn, hl, hst]
/-- a copy whose run is known. -/
theorem wp_copy_run (w : World) {o : Oper} {a : Act} {K : Act → World → Prop} {Q : Exit → Act → World → Prop} (d s : Operand) (t t' : TypeId)
    (ho : o.op = .call { callee := .builtin .copy, args := #[d, s], argTypes := #[t, t'] }) (v u : Value) (hd : a.eval d = v) (hs : a.eval s = u) {v' : Value} {w' : World}
    (hr : (Builtin.copy_ #[t, t'] o.type #[v, u]).run P w = .ok v' w') (h : K (a.put o.dst v') w') : o.wp P a w K Q := by
  unfold Oper.wp execOp
  simp only [ho, resolve, invoke, builtin, Sem.run_bind, Sem.run_pure, Result.andThen_ok, List.map_toArray, List.map_cons, List.map_nil, hd, hs, hr]
  exact h
theorem wpList_copy_run (w : World) {ops : Array Oper} {rest : List Oper} {o : Oper} {a : Act} {Q : Exit → Act → World → Prop} (hgd : o.guard = none) (d s : Operand) (t t' : TypeId)
    (ho : o.op = .call { callee := .builtin .copy, args := #[d, s], argTypes := #[t, t'] }) (v u : Value) (hd : a.eval d = v) (hs : a.eval s = u) {v' : Value} {w' : World}
    (hr : (Builtin.copy_ #[t, t'] o.type #[v, u]).run P w = .ok v' w') (h : wpList P ops Q rest (a.put o.dst v') w') : wpList P ops Q (o :: rest) a w :=
  wpList_plain hgd fun _ hK => wp_copy_run w d s t t' ho v u hd hs hr (hK _ _ h)
theorem step_copy_run {ops : Array Oper} {o : Oper} {a : Act} {w : World} {K : Act → World → Prop} {Q : Exit → Act → World → Prop} {E : Prop}
    (hg : o.guard = none) (d x : Operand) (dT sT : TypeId) (hop : o.op = Op.call { callee := Callee.builtin Builtin.copy, args := #[d, x], argTypes := #[dT, sT] })
    (v u : Value) (hd : a.eval d = v) (hx : a.eval x = u) {v' : Value} {w' : World} (hr : (Builtin.copy_ #[dT, sT] o.type #[v, u]).run P w = .ok v' w') (hK : K (a.put o.dst v') w') :
    if Region.wanted o (yielded ops a.tmps) = true then Oper.wp P o a w K Q else E := by
  have hw : Region.wanted o (yielded ops a.tmps) = true := by simp [Region.wanted, hg]
  rw [if_pos hw]
  unfold Oper.wp
  simp [execOp, hop, resolve, invoke, builtin, hd, hx, hr, Result.andThen]
  exact hK
end

theorem setRow_blk {w : World} {g : Nat} {cur vs : Array Value} {T : TypeId} (h : Blk w g cur T) : Blk (w.setRow g vs) g vs T := setRow_heap w g cur vs T _ h
theorem setRow_mod (w : World) (g : Nat) (vs : Array Value) : Mod (fun k => k = g) w (w.setRow g vs) := by
  refine ⟨rfl, rfl, rfl, by simp [World.setRow], fun k hk hs => ?_⟩
  simp only [World.setRow]
  rw [Array.getElem?_modify, if_neg (fun e => hs e.symm)]
end Go.Proofs.YtaojpbgaengdpaaGreat

/- slices.Clone and slices.Insert over names in a directory. -/
namespace Go.Proofs.YtaojpbgaengdpaaGreat

open Go.RowKit

theorem ent_info : (Tryz.prog.info? 178).map (fun i => (i.zero, i.size, i.bytes)) = some (some (.agg #[.string ByteArray.empty, .int .i64 0]), 2, 24) := by kernel_rfl
theorem entC_one (es : List En) : ∀ u ∈ es.flatMap entC, u.oneCell' = true := by
  intro u hu
  obtain ⟨x, -, hx⟩ := List.mem_flatMap.1 hu
  simp [entC] at hx
  rcases hx with rfl | rfl <;> rfl
theorem EntsAt.news {w : World} {b off n c : Nat} {es : List En} (h : EntsAt w (some ⟨b, off, none⟩) n c es) : ∀ j u, (es.flatMap entC)[j]? = some u → w.cell? ((⟨b, off, none⟩ : Addr).add j) = some u := by
  intro j u hu
  have hlt : j < (es.flatMap entC).length := (List.getElem?_eq_some_iff.1 hu).1
  rw [flat_len entC_len] at hlt
  have hm := Nat.mod_lt j (show 0 < 2 by omega)
  have hdiv : j = j / 2 * 2 + j % 2 := by omega
  have hq : j / 2 < es.length := by omega
  have h1 := flat_get entC_len es (j / 2) (j % 2) hq hm
  rw [← hdiv, hu] at h1
  obtain ⟨c1, c2⟩ := h.cell (j / 2) hq
  rw [addr_add]
  rcases (show j % 2 = 0 ∨ j % 2 = 1 by omega) with hr | hr
  · rw [hr] at h1
    rw [show off + j = off + j / 2 * 2 by omega, c1]
    exact h1.symm
  · rw [hr] at h1
    rw [show off + j = off + j / 2 * 2 + 1 by omega, c2]
    exact h1.symm
/-- entries of the call's own. -/
def OE (w : World) (base : Nat) (v : Value) (es : List En) : Prop := w.ownsRow base 178 2 v es.length (es.flatMap entC)
theorem OE.at {w : World} {base c : Nat} {a : Option Addr} {es : List En} (h : OE w base (.slice a es.length c) es) : EntsAt w a es.length c es := by
  refine ⟨own_slice (R := entQ) (by omega) entC_len (fun _ => rfl) h, fun p hp => ?_⟩
  subst hp
  rcases h.2 with ⟨h1, -⟩ | ⟨g, cap, cur, h1, -, hg, -⟩
  · cases h1
  · injection h1 with h1
    injection h1 with h1
    exact ⟨g, 0, cur, h1, hg⟩
theorem OE.keep {w w' : World} {base : Nat} {v : Value} {es : List En} (h : OE w base v es) (hb : Below w.heap.size w w') : OE w' base v es := own_below h hb (Nat.le_refl _)

set_option maxRecDepth 100000 in
set_option maxHeartbeats 400000 in
theorem eclone_any (es : List En) (a : Option Addr) (n c : Nat) (w : World) (he : EntsAt w a n c es) (hn : n ≤ 1000000) :
    Calls Tryz.prog 149 #[.slice a n c] w fun e w' => (∃ a' c', e = .returned (.slice a' n c') ∧ OE w' w.heap.size (.slice a' n c') es) ∧ Below w.heap.size w w' := by
  have hl := he.len
  obtain ⟨i0, hi, hz0, hz1, hz2⟩ := info_parts ent_info
  have hq : ∀ (w : World) (r : Option Addr) (n c : Nat), (binOp .eql 108 (.slice r n c) (.slice none 0 0)).run Tryz.prog w = .ok (.bool r.isNone) w := fun w r n c => Lib.run_eql_slice_nil w _ _ r n c 0 0 Tryz.underlying108
  cases a with
  | none =>
    have hn0 : n = 0 := by
      rcases Nat.eq_zero_or_pos n with h | h
      · exact h
      · obtain ⟨b, off, h1, -⟩ := he.some_of h
        cases h1
    subst hn0
    obtain rfl : es = [] := List.eq_nil_of_length_eq_zero hl
    have H := Lib.hid (show OE w w.heap.size (.slice none 0 0) [] from World.ownsRow_nil _ _ _ _)
    clear he hl hi hz0 hz1 hz2
    go_enter Tryz.func149, Tryz.ntmps149
    go_wp2_with fail
    go_ret
    exact ⟨⟨none, 0, rfl, H.out⟩, Below.refl _ _⟩
  | some p =>
    obtain ⟨b, off, cur, rfl, hblk⟩ := he.blk p rfl
    have he2 := he.keep ((Below.refl _ w).alloc (Nat.le_refl _) (.cells #[] 178))
    have hrun : ∃ a' c' W, (Builtin.append_ #[108, 108] 108 #[.slice (some ⟨w.heap.size, 0, none⟩) 0 0, .slice (some ⟨b, off, none⟩) n c]).run Tryz.prog (w.alloc (.cells #[] 178)) = .ok (.slice a' n c') W ∧
        OE W w.heap.size (.slice a' n c') es ∧ Below w.heap.size w W := by
      obtain ⟨g, cap, W, h1, h2, h3, h4⟩ := step_app_any (108) Tryz.underlying108 hi hz0 hz1 hz2 rfl (by omega) (own_empty (base := w.heap.size) (sz := 2) (e := 178) w (Nat.le_refl _)) ⟨b, off, none⟩ n c (es.flatMap entC) (by rw [flat_len entC_len, hl]) he2.news (entC_one es) (by unfold maxLen; omega) (by omega) (by simp)
      refine ⟨some ⟨g, 0, none⟩, cap, W, ?_, ?_, ((Below.refl w.heap.size w).alloc (Nat.le_refl _) _).trans (h3.below (fun k hk => by omega) (by simp))⟩
      · rw [Nat.zero_add] at h1; exact h1
      · rw [Nat.zero_add, List.nil_append] at h2; unfold OE; rw [hl]; exact h2
    obtain ⟨a', c', W, hrun, h2, h3⟩ := hrun
    have H := Lib.hid (And.intro h2 h3)
    clear he he2 hblk h2 h3 hi hz0 hz1 hz2 hl
    go_enter Tryz.func149, Tryz.ntmps149
    go_wp2_with (at_builtin; refine wpList_app_run rfl rfl rfl rfl hrun ?_)
    go_ret
    exact ⟨⟨a', c', rfl, H.out.1⟩, H.out.2⟩
end Go.Proofs.YtaojpbgaengdpaaGreat
