/- Texts of the proof, part 38. -/
import Derived.Test.YtaojpbgaengdpaaGreatSP34
import Derived.Test.YtaojpbgaengdpaaGreatSP33
import Derived.Test.YtaojpbgaengdpaaGreatSP37
import Derived.Test.YtaojpbgaengdpaaGreatSP35
set_option linter.unusedVariables false
set_option linter.unusedSimpArgs false
/- Counts of texts in a map, plainly. -/
namespace Go.Proofs.YtaojpbgaengdpaaGreat

open Go.RowKit

/-- how often each has come. -/
def CntS (l : List (ByteArray × Value × Nat)) (pre : List ByteArray) : Prop :=
  KeysOnceS l ∧ (∀ q, q ∉ onceL pre → mapFindS l q = none) ∧ ∀ q, q ∈ onceL pre → ∃ n : Nat, mapFindS l q = some (.int .i64 n) ∧ 1 ≤ n ∧ n ≤ pre.length
theorem CntS.nil : CntS [] [] := ⟨List.nodup_nil, fun _ _ => rfl, fun q hq => by simp [onceL] at hq⟩
theorem mapFindS_none_mem {l : List (ByteArray × Value × Nat)} {k : ByteArray} (h : mapFindS l k = none) : k ∉ l.map (·.1) := by
  unfold mapFindS at h
  simp only [Option.map_eq_none_iff, List.find?_eq_none] at h
  intro hm
  obtain ⟨x, hx, rfl⟩ := List.mem_map.1 hm
  exact h x hx (by simp)
theorem mapFindS_app (l : List (ByteArray × Value × Nat)) (k : ByteArray) (v : Value) (b : Nat) (q : ByteArray) (hk : mapFindS l k = none) :
    mapFindS (l ++ [(k, v, b)]) q = if q = k then some v else mapFindS l q := by
  unfold mapFindS at hk ⊢
  rw [List.find?_append]
  by_cases h : q = k
  · subst h
    rw [if_pos rfl]
    simp only [Option.map_eq_none_iff] at hk
    rw [hk]
    simp
  · rw [if_neg h]
    have : List.find? (fun x : ByteArray × Value × Nat => x.1 == q) [(k, v, b)] = none := by
      rw [List.find?_eq_none]
      intro x hx
      rw [List.mem_singleton] at hx
      subst hx
      simpa using fun e => h e.symm
    rw [this, Option.or_none]
theorem mapPutS_key (k : ByteArray) (v : Value) (x : ByteArray × Value × Nat) : (if x.1 == k then (k, v, x.2.2) else x).1 = x.1 := by
  by_cases h : (x.1 == k) = true
  · rw [if_pos h]; exact (eq_of_beq h).symm
  · rw [if_neg h]
theorem mapPutS_keys (l : List (ByteArray × Value × Nat)) (k : ByteArray) (v : Value) : (mapPutS l k v).map (·.1) = l.map (·.1) := by
  unfold mapPutS
  rw [List.map_map]
  exact List.map_congr_left fun x _ => mapPutS_key k v x
theorem mapFindS_put (l : List (ByteArray × Value × Nat)) (k : ByteArray) (v v0 : Value) (q : ByteArray) (hk : mapFindS l k = some v0) :
    mapFindS (mapPutS l k v) q = if q = k then some v else mapFindS l q := by
  have h1 : mapFindS (mapPutS l k v) q = (l.find? (fun x => x.1 == q)).map (fun x => (if x.1 == k then (k, v, x.2.2) else x).2.1) := by
    unfold mapFindS mapPutS
    rw [List.find?_map]
    have : ((fun x : ByteArray × Value × Nat => x.1 == q) ∘ fun x => if x.1 == k then (k, v, x.2.2) else x) = fun x => x.1 == q := by
      funext x
      simp only [Function.comp, mapPutS_key]
    rw [this, Option.map_map]
    rfl
  rw [h1]
  by_cases h : q = k
  · subst h
    rw [if_pos rfl]
    unfold mapFindS at hk
    simp only [Option.map_eq_some_iff] at hk
    obtain ⟨x, hx, -⟩ := hk
    have hxk := List.find?_some hx
    rw [hx]
    simp only [Option.map_some, Option.some.injEq]
    rw [if_pos hxk]
  · rw [if_neg h]
    unfold mapFindS
    cases hx : l.find? (fun x => x.1 == q) with
    | none => rfl
    | some x =>
      have hxk := List.find?_some hx
      have : ¬ (x.1 == k) = true := fun e => h ((eq_of_beq hxk).symm.trans (eq_of_beq e))
      simp only [Option.map_some, Option.some.injEq]
      rw [if_neg this]
theorem CntS.add {l : List (ByteArray × Value × Nat)} {pre : List ByteArray} {p : ByteArray} (h : CntS l pre) (hp : p ∉ onceL pre) (clk : Nat) : CntS (l ++ [(p, .int .i64 1, clk)]) (pre ++ [p]) := by
  obtain ⟨h1, h2, h3⟩ := h
  have hn := h2 p hp
  refine ⟨?_, fun q hq => ?_, fun q hq => ?_⟩
  · unfold KeysOnceS at h1 ⊢
    rw [List.map_append, List.nodup_append]
    refine ⟨h1, by simp, fun a ha b hb => ?_⟩
    simp at hb
    subst hb
    rintro rfl
    exact mapFindS_none_mem hn ha
  · rw [onceL_snoc, if_neg hp, List.mem_append, not_or, List.mem_singleton] at hq
    rw [mapFindS_app _ _ _ _ _ hn, if_neg hq.2]
    exact h2 q hq.1
  · rw [mapFindS_app _ _ _ _ _ hn]
    by_cases e : q = p
    · rw [if_pos e]
      exact ⟨1, rfl, Nat.le_refl _, by rw [List.length_append]; simp⟩
    · rw [if_neg e]
      rw [onceL_snoc, if_neg hp, List.mem_append, List.mem_singleton] at hq
      obtain ⟨n, g1, g2, g3⟩ := h3 q (hq.resolve_right e)
      exact ⟨n, g1, g2, by rw [List.length_append]; omega⟩
theorem CntS.put {l : List (ByteArray × Value × Nat)} {pre : List ByteArray} {p : ByteArray} (h : CntS l pre) (hp : p ∈ onceL pre) {n : Nat} (hf : mapFindS l p = some (.int .i64 n)) (hn : n ≤ pre.length) : CntS (mapPutS l p (.int .i64 ((n : Int) + 1))) (pre ++ [p]) := by
  obtain ⟨h1, h2, h3⟩ := h
  refine ⟨?_, fun q hq => ?_, fun q hq => ?_⟩
  · unfold KeysOnceS at h1 ⊢
    rw [mapPutS_keys]
    exact h1
  · rw [onceL_snoc, if_pos hp] at hq
    rw [mapFindS_put _ _ _ _ _ hf, if_neg (fun e : q = p => hq (by rw [e]; exact hp))]
    exact h2 q hq
  · rw [mapFindS_put _ _ _ _ _ hf]
    by_cases e : q = p
    · rw [if_pos e]
      exact ⟨n + 1, rfl, by omega, by rw [List.length_append, List.length_singleton]; omega⟩
    · rw [if_neg e]
      rw [onceL_snoc, if_pos hp] at hq
      obtain ⟨m, g1, g2, g3⟩ := h3 q hq
      exact ⟨m, g1, g2, by rw [List.length_append]; omega⟩
theorem cnt_len {l : List ByteArray} : (onceL l).length ≤ l.length := onceL_len l
end Go.Proofs.YtaojpbgaengdpaaGreat

/- The paths of a seed's items: seed.Paths. -/
namespace Go.Proofs.YtaojpbgaengdpaaGreat

open Go.RowKit

def tlB (p : ByteArray) : List UInt8 := p.data.toList
theorem str_tl (p : ByteArray) : str (tlB p) = p := str_of p
theorem os_map {w w' : World} {base m : Nat} {v : Value} {ls : List (List UInt8)} {l : List (ByteArray × Value × Nat)} {clk : Nat} (h : OS w base v ls) (hM : MapBS w m l clk) (hm : Mod (fun k => k = m) w w') : OS w' base v ls :=
  own_mod h hm (fun k hk he => by
    obtain ⟨-, cur, hc⟩ := own_obj1 h he
    subst hk
    unfold MapBS at hM
    rw [hM] at hc
    cases hc)
/-- between two rounds of Paths. -/
structure PaI (w : World) (m : Nat) (v : Value) (ps : List ByteArray) (wr : World) : Prop where
  out : OS wr w.heap.size v ((onceL ps).map tlB)
  map : ∃ l clk, MapBS wr m l clk ∧ CntS l ps
  below : Below w.heap.size w wr
theorem PaI.keep {w wr w' : World} {m : Nat} {v : Value} {ps : List ByteArray} (h : PaI w m v ps wr) (hb : Below wr.heap.size wr w') : PaI w m v ps w' := by
  obtain ⟨h1, ⟨l, clk, h2, h3⟩, h4⟩ := h
  exact ⟨h1.keep2 hb, ⟨l, clk, h2.keep hb, h3⟩, bnext h4 hb⟩
theorem zero_intS (w : World) : (zeroValue 3).run Tryz.prog w = .ok (.int .i64 0) w := by kernel_rfl
/-- a text that has not come yet. -/
theorem PaI.fresh {w wr : World} {m : Nat} {v : Value} {ps : List ByteArray} {p : ByteArray} (h : PaI w m v ps wr) (hm : w.heap.size ≤ m) (hp : p ∉ onceL ps) (hl : ps.length ≤ 100000) :
    (Instr.lookup 80 (.map (some m)) (.string p) false).run Tryz.prog wr = .ok (.int .i64 0) wr ∧
    ∃ W2, (Instr.mapUpdate 80 (.map (some m)) (.string p) (.int .i64 1)).run Tryz.prog wr = .ok () W2 ∧
      (Instr.lookup 80 (.map (some m)) (.string p) false).run Tryz.prog W2 = .ok (.int .i64 1) W2 ∧
      ∃ g cap W3, (Builtin.append_ #[41, 41] 41 #[v, .slice (some ⟨W2.heap.size, 0, none⟩) 1 1]).run Tryz.prog (W2.alloc (.cells #[.string p] 9)) = .ok (.slice (some ⟨g, 0, none⟩) ((onceL ps).length + 1) cap) W3 ∧
        PaI w m (.slice (some ⟨g, 0, none⟩) ((onceL ps).length + 1) cap) (ps ++ [p]) W3 := by
  obtain ⟨hO, ⟨l, clk, hM, hC⟩, hB⟩ := h
  have hf := hC.2.1 p hp
  refine ⟨run_look_noS Tryz.underlying80 Tryz.underlying9 hM hf (zero_intS wr), ?_⟩
  obtain ⟨W2, hrun, hM2, hbl, hmod⟩ := step_addS (w := wr) Tryz.underlying80 Tryz.underlying9 hM (.int .i64 1) hf
  refine ⟨W2, hrun, run_look_yesS Tryz.underlying80 Tryz.underlying9 hM2 (by rw [mapFindS_app _ _ _ _ _ hf, if_pos rfl]), ?_⟩
  have hO2 := os_map hO hM hmod
  have hB2 : Below w.heap.size w W2 := hB.trans (hmod.below (fun k hk => by omega) hB.size)
  have hol := onceL_len ps
  obtain ⟨g, cap, W3, hr, hO3, hB3, hKO, -⟩ := hO2.appK (tlB p) (by rw [List.length_map]; omega) hB2.size
  rw [str_tl, List.length_map] at hr
  refine ⟨g, cap, W3, hr, ?_, ⟨_, _, hKO.same m _ hM2 rfl, hC.add hp clk⟩, hB2.trans hB3⟩
  rw [onceL_snoc, if_neg hp, List.map_append]
  rw [List.length_map] at hO3
  exact hO3
/-- a text that has come. -/
theorem PaI.again {w wr : World} {m : Nat} {v : Value} {ps : List ByteArray} {p : ByteArray} (h : PaI w m v ps wr) (hm : w.heap.size ≤ m) (hp : p ∈ onceL ps) :
    ∃ n : Nat, 1 ≤ n ∧ n ≤ ps.length ∧ (Instr.lookup 80 (.map (some m)) (.string p) false).run Tryz.prog wr = .ok (.int .i64 n) wr ∧
    ∃ W2, (Instr.mapUpdate 80 (.map (some m)) (.string p) (.int .i64 ((n : Int) + 1))).run Tryz.prog wr = .ok () W2 ∧
      (Instr.lookup 80 (.map (some m)) (.string p) false).run Tryz.prog W2 = .ok (.int .i64 ((n : Int) + 1)) W2 ∧ PaI w m v (ps ++ [p]) W2 := by
  obtain ⟨hO, ⟨l, clk, hM, hC⟩, hB⟩ := h
  obtain ⟨n, hf, hn1, hn2⟩ := hC.2.2 p hp
  obtain ⟨W2, hrun, hM2, hbl, hmod⟩ := step_putS (w := wr) Tryz.underlying80 Tryz.underlying9 hM hC.1 (.int .i64 ((n : Int) + 1)) hf
  refine ⟨n, hn1, hn2, run_look_yesS Tryz.underlying80 Tryz.underlying9 hM hf, W2, hrun, run_look_yesS Tryz.underlying80 Tryz.underlying9 hM2 (by rw [mapFindS_put _ _ _ _ _ hf, if_pos rfl]), ?_, ⟨_, _, hM2, hC.put hp hf hn2⟩, hB.trans (hmod.below (fun k hk => by omega) hB.size)⟩
  rw [onceL_snoc, if_pos hp]
  exact os_map hO hM hmod
set_option maxRecDepth 100000 in
set_option maxHeartbeats 2000000 in
/-- seed.Paths. -/
theorem paths_any (w : World) {ma : Option Addr} {mn mc : Nat} {ia : Option Addr} {il ic : Nat} {ms : List Mt} {is : List It} (h : SdAt w ma mn mc ia il ic ms is) (hil : is.length ≤ 100000) (hip : ∀ x ∈ is, x.path.size ≤ 100000) :
    Calls Tryz.prog 17 #[.agg #[.slice ma mn mc, .slice ia il ic]] w fun e w' => (∃ v, e = .returned v ∧ OS w' w.heap.size v ((onceL (is.map fun x => cleanB x.path)).map tlB)) ∧ Below w.heap.size w w' := by
  have hli := h.i.1
  subst hli
  have hic := h.i.2.1
  have hix := h.i.2.2.1
  have HI := Lib.hid h.i
  have HIp := Lib.hid hip
  clear h hip
  have hmm := @run_makeMap Tryz.prog
  go_enter Tryz.func17, Tryz.ntmps17
  go_upto_region 4 with fail
  clear hmm
  have hb0 := balloc (balloc (Below.refl w.heap.size w) (.cells #[.slice ma mn mc, .slice ia is.length ic] 25)) (.map #[] 0)
  have hm0 : MapBS ((w.alloc (.cells #[.slice ma mn mc, .slice ia is.length ic] 25)).alloc (.map #[] 0)) (w.alloc (.cells #[.slice ma mn mc, .slice ia is.length ic] 25)).heap.size [] 0 := by
    unfold MapBS
    exact World.alloc_heap_new _ _
  have hz : (w.alloc (.cells #[.slice ma mn mc, .slice ia is.length ic] 25)).heap.size = w.heap.size + 1 := by simp
  rw [hz] at hm0
  have HP0 := Lib.hid (show PaI w (w.heap.size + 1) (.slice none 0 0) [] ((w.alloc (.cells #[.slice ma mn mc, .slice ia is.length ic] 25)).alloc (.map #[] 0)) from ⟨⟨rfl, .inl ⟨rfl, rfl⟩⟩, ⟨[], 0, hm0, CntS.nil⟩, hb0⟩)
  generalize (w.alloc (.cells #[.slice ma mn mc, .slice ia is.length ic] 25)).alloc (.map #[] 0) = W0 at HP0 ⊢
  clear hb0 hm0 hz
  go_loopw [3, 12] (fun t3 t12 wr => ∃ (k : Nat), k ≤ is.length ∧ t12 = .int .i64 k ∧ PaI w (w.heap.size + 1) t3 ((is.take k).map fun x => cleanB x.path) wr) (fun _ t12 _ => is.length - (intOf t12).toNat)
  case atStart => exact ⟨0, Nat.zero_le _, rfl, HP0.out⟩
  case round =>
    obtain ⟨k, hk, rfl, hP⟩ := hrel
    by_cases hlt : k < is.length
    · obtain ⟨b, off, rfl, hbl⟩ := slice_some HI.out (by omega)
      obtain ⟨c0, c1, c2, c3, c4, c5, c6⟩ := it_cells (HI.out.below hP.below (Nat.le_refl _)) k hlt
      have HSt := Lib.hid (show (is.take (k + 1)).map (fun x => cleanB x.path) = (is.take k).map (fun x => cleanB x.path) ++ [cleanB is[k].path] by rw [List.take_succ_eq_append_getElem hlt, List.map_append]; rfl)
      have HMk := Lib.hid (HIp.out is[k] (List.getElem_mem hlt))
      have hpl : ((is.take k).map fun x => cleanB x.path).length = k := by rw [List.length_map, List.length_take]; omega
      generalize is[k] = it at c0 c1 c2 c3 c4 c5 c6 HSt HMk
      have hX := Blk.new wr #[.string it.path, .int .i64 it.kind, .int .i64 it.mode, .int .i64 it.uid, .int .i64 it.gid, .int .i64 it.mtime, .string it.data] 44
      have hbX := (Below.refl _ wr).alloc (Nat.le_refl _) (.cells #[.string it.path, .int .i64 it.kind, .int .i64 it.mode, .int .i64 it.uid, .int .i64 it.gid, .int .i64 it.mtime, .string it.data] 44)
      go_upto_region 6 with fail
      generalize wr.alloc (.cells #[.string it.path, .int .i64 it.kind, .int .i64 it.mode, .int .i64 it.uid, .int .i64 it.gid, .int .i64 it.mtime, .string it.data] 44) = X at hX hbX ⊢
      have HPX := Lib.hid (hP.keep hbX)
      have HCl := Lib.hid (clean_any it.path X HMk.out)
      obtain ⟨xc, xf, xz⟩ := hX.facts
      generalize cleanB it.path = p at HSt HCl
      generalize (is.take k).map (fun x => cleanB x.path) = ps at HSt HPX hpl hP
      clear hX hbX c0 c1 c2 c3 c4 c5 c6 hP
      go_wp2_with fail
      refine HCl.out.mono ?_
      rintro e w3 ⟨rfl, hb3⟩
      have hP3 := HPX.out.keep hb3
      clear hb3 xc xf xz
      by_cases hp : p ∈ onceL ps
      · obtain ⟨n, hn1, hn2, hlk, W2, hup, hlk2, hP4⟩ := hP3.again (by omega) hp
        have HP4 := Lib.hid hP4
        have hne : ((n : Int) + 1 == 1) = false := by simp only [beq_eq_false_iff_ne, ne_eq]; omega
        clear hP3 hP4 hp
        go_wp2_with fail
        go_roundw
        case measure => simp [intOf]; omega
        case rel => exact ⟨k + 1, by omega, by go_num, by rw [HSt.out]; exact HP4.out⟩
      · obtain ⟨hlk, W2, hup, hlk2, g, cap, W3, hrun, hP4⟩ := hP3.fresh (by omega) hp (by omega)
        have HP4 := Lib.hid hP4
        have HR := Lib.hid hrun
        clear hP3 hP4 hp hrun
        go_wp2_with (at_builtin; refine wpList_app_run rfl rfl rfl rfl HR.out ?_)
        go_roundw
        case measure => simp [intOf]; omega
        case rel => exact ⟨k + 1, by omega, by go_num, by rw [HSt.out]; exact HP4.out⟩
    · obtain rfl : k = is.length := by omega
      rw [List.take_length] at hP
      have HP := Lib.hid hP
      clear hP
      go_wp2_with fail
      go_ret
      exact ⟨⟨_, rfl, HP.out.out⟩, HP.out.below⟩
end Go.Proofs.YtaojpbgaengdpaaGreat

/- ragpickerref02.Same: are lists of texts the same? -/
namespace Go.Proofs.YtaojpbgaengdpaaGreat

open Go.RowKit

def tsofar (xs ys : List (List UInt8)) (k : Nat) : Prop := xs.take k = ys.take k
theorem tsofar_step {xs ys : List (List UInt8)} {k : Nat} (h : tsofar xs ys k) (h1 : k < xs.length) (h2 : k < ys.length) (he : xs[k] = ys[k]) : tsofar xs ys (k + 1) := by
  unfold tsofar at *
  rw [List.take_add_one, List.take_add_one, h, List.getElem?_eq_getElem h1, List.getElem?_eq_getElem h2, he]
theorem tsofar_end {xs ys : List (List UInt8)} (h : tsofar xs ys xs.length) (hl : xs.length = ys.length) : xs = ys := by
  unfold tsofar at h
  rw [List.take_length, hl, List.take_length] at h
  exact h
theorem tsame_no {xs ys : List (List UInt8)} {k : Nat} (h1 : k < xs.length) (h2 : k < ys.length) (he : xs[k] ≠ ys[k]) : xs ≠ ys := fun e => he (by subst e; rfl)
set_option maxRecDepth 100000 in
set_option maxHeartbeats 2000000 in
theorem tsame_any (a b : Option Addr) (c d : Nat) (xs ys : List (List UInt8)) {na nb : Nat} (w : World) (hA : OS w na (.slice a xs.length c) xs) (hB : OS w nb (.slice b ys.length d) ys) :
    Calls Tryz.prog 16 #[.slice a xs.length c, .slice b ys.length d] w fun e w' => e = .returned (.bool (decide (xs = ys))) ∧ Below w.heap.size w w' := by
  have HA := Lib.hid hA
  have HB := Lib.hid hB
  have hlx := hA.max
  have hly := hB.max
  clear hA hB
  by_cases hlen : xs.length = ys.length
  · have hl1 := (tb_eq (xs.length : Int) ys.length (by omega)).2
    have HLen := Lib.hid hlen
    clear hlen
    go_enter Tryz.func16, Tryz.ntmps16
    go_wp2_with fail
    go_loopw [5] (fun t5 wr => ∃ (k : Nat), k ≤ xs.length ∧ t5 = .int .i64 k ∧ tsofar xs ys k ∧ Below w.heap.size w wr) (fun t5 _ => xs.length - (intOf t5).toNat)
    case atStart => exact ⟨0, Nat.zero_le _, rfl, rfl, Below.refl _ _⟩
    case round =>
      obtain ⟨k, hk, rfl, hso, hW⟩ := hrel
      have HS := Lib.hid hso
      have HW := Lib.hid hW
      clear hso
      by_cases hlt : k < xs.length
      · have hlt2 : k < ys.length := by have := HLen.out; omega
        obtain ⟨ga, rfl, ha0, ha1⟩ := (HA.out.keep2 hW).at' k hlt
        obtain ⟨gb, rfl, hb0, hb1⟩ := (HB.out.keep2 hW).at' k hlt2
        have HStep := Lib.hid (tsofar_step HS.out hlt hlt2)
        have HNo := Lib.hid (tsame_no hlt hlt2)
        have HTx := Lib.hid (ba_list (str xs[k]))
        have HTy := Lib.hid (ba_list (str ys[k]))
        rw [str_list] at HTx HTy
        generalize xs[k] = x at ha1 HStep HNo HTx
        generalize ys[k] = y at hb1 HStep HNo HTy
        generalize str x = tx at ha1 HTx
        generalize str y = ty at hb1 HTy
        clear hW
        by_cases hxy : tx.toList = ty.toList
        · have hb : (tx.toList == ty.toList) = true := by simpa using hxy
          have HEq := Lib.hid (show x = y by rw [← HTx.out, ← HTy.out, hxy])
          go_wp2_with fail
          go_region
          all_goals
            go_wp2_with fail
            refine ⟨⟨k + 1, by omega, by go_num, HStep.out HEq.out, HW.out.drew⟩, ?_⟩
            simp [intOf]; omega
        · have hb : (tx.toList == ty.toList) = false := by simpa using hxy
          have HNe := Lib.hid (HNo.out (fun e => hxy (by rw [HTx.out, HTy.out, e])))
          go_wp2_with fail
          go_region
          all_goals
            go_wp2_with fail
            go_ret
            exact ⟨ret_bool (by rw [decide_eq_false HNe.out]), HW.out.drew⟩
      · obtain rfl : k = xs.length := by omega
        go_wp2_with fail
        go_ret
        exact ⟨ret_bool (by rw [decide_eq_true (tsofar_end HS.out HLen.out)]), HW.out⟩
  · have hl1 := (tb_ne (xs.length : Int) ys.length (by omega)).2
    go_enter Tryz.func16, Tryz.ntmps16
    go_wp2_with fail
    go_ret
    exact ⟨ret_bool (by rw [decide_eq_false (fun e => hlen (by rw [e]))]), Below.refl _ _⟩
end Go.Proofs.YtaojpbgaengdpaaGreat
