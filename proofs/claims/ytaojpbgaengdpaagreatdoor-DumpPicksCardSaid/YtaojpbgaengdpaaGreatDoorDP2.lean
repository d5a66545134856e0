/- Texts of the proof, part 2. -/
import Derived.Test.YtaojpbgaengdpaaGreatDoorDP1
import Derived.Test.YtaojpbgaengdpaaGreatDoorDU14
import Derived.Test.YtaojpbgaengdpaaGreatDoorDU2
set_option linter.unusedVariables false
set_option linter.unusedSimpArgs false
/- Clean paths: track.Clean. -/
namespace Go.Proofs.YtaojpbgaengdpaaGreatDoor

open Go.RowKit Go.Shelf

attribute [local go_sem] Oper.semAt_some

theorem prefix_whole (l : List UInt8) : Lib.hasPrefix l [47] = wholeB l := by
  cases l with
  | nil => rfl
  | cons x l =>
    unfold wholeB Lib.hasPrefix
    simp [List.isPrefixOf, BEq.comm]
theorem blkc_turn {T : Nat → Prop} {N B : Nat} {vs : Array Value} {ty : TypeId} {w w' : World} (h : Blk w B vs ty) (ht : Turn T N notCells w w') (hT : ¬ T B) : Blk w' B vs ty := ht.block B _ h hT (fun _ => rfl)
theorem belowc_turn {T : Nat → Prop} {N M : Nat} {w0 w w' : World} (h : Below M w0 w) (ht : Turn T N notCells w w') (hN : M ≤ N) (hT : ∀ k, T k → M ≤ k) (hM : M ≤ w0.heap.size) : Below M w0 w' := by
  refine ⟨ht.os.trans h.os, ht.tape.trans h.tape, ht.output.trans h.output, Nat.le_trans h.size ht.size, fun k hk => ?_⟩
  obtain ⟨o, ho⟩ : ∃ o, w0.heap[k]? = some o := ⟨w0.heap[k]'(by omega), Array.getElem?_eq_getElem _⟩
  have h1 := (h.block k hk).trans ho
  rw [ht.block k o h1 (fun h => by have := hT k h; omega) (fun h => by omega), ho]
/-- between two rounds: the parts so far; whether the path begins at the top. -/
structure CC (w : World) (base : Nat) (wh : Bool) (pre : List (List UInt8)) (W : World) : Prop where
  whole : Blk W w.heap.size #[.bool wh] 4
  box : ∃ v, Blk W (w.heap.size + 1) #[v] 51 ∧ OS W base v (clL wh pre)
  below : Below w.heap.size w W
/-- a round's end, where the box is written anew. -/
theorem cc_put {w W1 W W' : World} {wh : Bool} {pre : List (List UInt8)} {x : List UInt8} (hz : W1.heap.size = w.heap.size + 3) (hW : W1.heap.size ≤ W.heap.size) (hK : KeepsOthers W W') (hb : Below W1.heap.size W W')
    (b3 : Blk W w.heap.size #[.bool wh] 4) (v0 v : Value) (b4 : Blk W (w.heap.size + 1) #[v0] 51) (hB : Below w.heap.size w W) (hO : OS W' W1.heap.size v (clL wh (pre ++ [x]))) :
    KeepsFrom W1.heap.size W (W'.setCell ⟨w.heap.size + 1, 0, none⟩ v) ∧ KT (fun k => k = w.heap.size + 2) W (W'.setCell ⟨w.heap.size + 1, 0, none⟩ v) ∧ CC w W1.heap.size wh (pre ++ [x]) (W'.setCell ⟨w.heap.size + 1, 0, none⟩ v) := by
  have hm : Mod (fun k => k = w.heap.size + 1) W' (W'.setCell ⟨w.heap.size + 1, 0, none⟩ v) := (Mod.refl (fun k => k = w.heap.size + 1) W').setCell (a := ⟨w.heap.size + 1, 0, none⟩) (.inl rfl) v
  refine ⟨(hK.trans (KeepsOthers.setCell _ _ _)).from _, ⟨Nat.le_trans hb.size hm.size, fun k hk => ?_⟩, ?_, ⟨v, ?_, ?_⟩, ?_⟩
  · subst hk
    rw [hm.block _ (by have := hb.size; omega) (by omega), hb.block _ (by omega)]
  · exact (b3.keepB hb (by omega)).setOther _ _ (by simp)
  · exact (b4.keepB hb (by omega)).set 0 v
  · exact own_mod hO hm (fun k hk he => by
      have := (own_obj1 hO he).1
      omega)
  · exact (hB.trans (hb.mono (by omega))).setCell (show w.heap.size ≤ w.heap.size + 1 by omega) v
theorem cc_same {w W1 W : World} {wh : Bool} {pre : List (List UInt8)} {x : List UInt8} (h : CC w W1.heap.size wh pre W) (hs : clL wh (pre ++ [x]) = clL wh pre) :
    KeepsFrom W1.heap.size W W ∧ KT (fun k => k = w.heap.size + 2) W W ∧ CC w W1.heap.size wh (pre ++ [x]) W :=
  ⟨(KeepsOthers.refl W).from _, KT.refl _ _, h.whole, by rw [hs]; exact h.box, h.below⟩
theorem map_str_list (l : List (List UInt8)) : (l.map str).map (·.data.toList) = l := by
  rw [List.map_map]
  conv => rhs; rw [← List.map_id l]
  exact List.map_congr_left fun x _ => str_list x
/-- strings.Join over texts of the call's own. -/
theorem join_any {base c : Nat} {a : Option Addr} {out : List (List UInt8)} (w : World) (h : OS w base (.slice a out.length c) out) (hl : out.length ≤ 100001) (hj : (Lib.join out [47]).length ≤ 100001 * 100001) :
    Calls Tryz.prog 123 #[.slice a out.length c, .string (ByteArray.mk #[47])] w fun e w' => e = .returned (.string (str (Lib.join out [47]))) ∧ Below w.heap.size w w' := by
  by_cases h0 : out.length = 0
  · obtain rfl := List.eq_nil_of_length_eq_zero h0
    refine (Tryz.strings_Join_none a c (ByteArray.mk #[47]) w).mono ?_
    rintro e w' ⟨rfl, rfl⟩
    exact ⟨rfl, Below.refl _ _⟩
  · obtain ⟨g, rfl, hg, -⟩ := h.at' 0 (by omega)
    obtain ⟨_, _, hv, hc1, hc2⟩ := h.len
    injection hv with e1 e2 e3
    have hcc : out.length ≤ c := by omega
    have key := Tryz.strings_Join g 0 c (out.map str) (ByteArray.mk #[47]) w (fun j x hx => by
      have hjl : j < out.length := by
        have := (List.getElem?_eq_some_iff.1 hx).1
        rwa [List.length_map] at this
      rw [List.getElem?_map, List.getElem?_eq_getElem hjl] at hx
      injection hx with hx
      obtain ⟨g', hg', -, h3⟩ := h.at' j hjl
      injection hg' with hg'
      injection hg' with e
      subst e
      rw [Nat.zero_add, ← hx]
      exact h3) hg (by rw [List.length_map]; omega) (by rw [List.length_map]; exact hcc) (by rw [map_str_list]; exact Nat.le_trans hj (by omega))
    rw [List.length_map, map_str_list] at key
    exact key
/-- track.Clean's end. -/
theorem cc_ret {R : ByteArray} {tmps : Array Value} {w W : World} {D : Nat} (hK : W.heap[D]? = some (.deferred (some []))) (hb : Below w.heap.size w W) (hD : w.heap.size ≤ D) (h2 : tmps.getD 2 undef = .string R) :
    bodyPostM Fence.wide 5 Tryz.prog Tryz.f89 (fun e w' => e = .returned (.string R) ∧ Below w.heap.size w w') .ret { tmps, defers := [{ target := .collected D, args := #[] }] } W := by
  rw [Array.getD_eq_getD_getElem?] at h2
  show LeavesInM Fence.wide 5 Tryz.prog Tryz.f89 _ _ _ _ W
  refine ⟨by simp, .inl ⟨_, _, rfl, run_takeDeferred hK, ?_⟩⟩
  refine ⟨.string R, ?_, rfl, ⟨hb.os, hb.tape, hb.output, Nat.le_trans hb.size (by simp), fun k hk => (World.putObj_heap_other (fun e => by omega)).trans (hb.block k hk)⟩⟩
  simp [results, Tryz.results89, go_sem, h2]
set_option maxRecDepth 100000 in
set_option maxHeartbeats 4000000 in
/-- track.Clean. -/
theorem clean_any (s : ByteArray) (w : World) (hs : s.size ≤ 100000) :
    Calls Tryz.prog 89 #[.string s] w fun e w' => e = .returned (.string (cleanB s)) ∧ Below w.heap.size w w' := by
  have HHp := Lib.hid (show ∀ w, Calls Tryz.prog 90 #[.string s, .string (ByteArray.mk #[47])] w fun e w' => e = .returned (.bool (wholeB s.data.toList)) ∧ w' = w from fun w => by
    have h := Tryz.strings_HasPrefix s (ByteArray.mk #[47]) w
    rw [show (ByteArray.mk #[47]).data.toList = [47] from rfl, prefix_whole] at h
    exact h)
  have HRs := Lib.hid (show cleanB s = str (if wholeB s.data.toList = true then 47 :: Lib.join (clL (wholeB s.data.toList) (partsL s.data.toList)) [47] else if Lib.join (clL (wholeB s.data.toList) (partsL s.data.toList)) [47] = [] then [46] else Lib.join (clL (wholeB s.data.toList) (partsL s.data.toList)) [47]) by
    unfold cleanB cleanL
    cases wholeB s.data.toList <;> rfl)
  generalize cleanB s = R at HRs ⊢
  generalize wholeB s.data.toList = wh at HRs HHp
  have HPa := Lib.hid (fun w => nparts_any s w)
  have hpn : (partsL s.data.toList).length ≤ 100001 := by
    have h1 := parts_len s.data.toList
    have h2 : s.data.toList.length = s.size := Array.length_toList
    omega
  refine (callsIn_wide (n := 5)).1 ?_
  refine callsIn_of_wp_marks Tryz.func89 rfl trivial ?_ rfl
  simp only [Tryz.ntmps89, List.size_toArray, List.length_cons, List.length_nil, Nat.reduceAdd, Nat.reduceSub, Array.replicate_succ, Array.replicate_zero, List.push_toArray, List.append_toArray, List.nil_append, List.cons_append]
  gi_wp2
  refine ⟨trivial, ?_⟩
  refine (callsIn_wide.2 (HHp.out _)).mono ?_
  rintro e w1 ⟨rfl, rfl⟩
  have q3 := ((Blk.new w1 #[.bool wh] 4).old (.cells #[.slice none 0 0] 51)).old (.cells #[.string s] 9)
  have q4 := (Blk.new (w1.alloc (.cells #[.bool wh] 4)) #[.slice none 0 0] 51).old (.cells #[.string s] 9)
  have qs := Blk.new ((w1.alloc (.cells #[.bool wh] 4)).alloc (.cells #[.slice none 0 0] 51)) #[.string s] 9
  have hB0 := balloc (balloc (balloc (Below.refl w1.heap.size w1) (.cells #[.bool wh] 4)) (.cells #[.slice none 0 0] 51)) (.cells #[.string s] 9)
  have hz : (((w1.alloc (.cells #[.bool wh] 4)).alloc (.cells #[.slice none 0 0] 51)).alloc (.cells #[.string s] 9)).heap.size = w1.heap.size + 3 := by simp
  have hz2 : ((w1.alloc (.cells #[.bool wh] 4)).alloc (.cells #[.slice none 0 0] 51)).heap.size = w1.heap.size + 2 := by simp
  have hz1 : (w1.alloc (.cells #[.bool wh] 4)).heap.size = w1.heap.size + 1 := by simp
  rw [hz1] at q4
  rw [hz2] at qs
  gi_wp2
  refine ⟨trivial, ?_⟩
  refine (callsIn_wide.2 (HPa.out _)).mono ?_
  rintro e W1 ⟨rfl, rfl⟩
  generalize ((w1.alloc (.cells #[.bool wh] 4)).alloc (.cells #[.slice none 0 0] 51)).alloc (.cells #[.string s] 9) = W1 at q3 q4 qs hB0 hz ⊢
  rw [hz2]
  have Q3 := Lib.hid q3
  have Q4 := Lib.hid q4
  have QS := Lib.hid qs
  have HB0 := Lib.hid hB0
  clear q3 q4 qs hB0 hz2 hz1
  gi_wp2
  refine' wpIn_rangeT (T := fun k => k = w1.heap.size + 2) rfl (by omega) (gf := 147) (lb := #[.pointer (some ⟨w1.heap.size + 2, 0, none⟩)]) rfl trivial (enters_of Tryz.func147 (by kernel_rfl) rfl)
    (parts_stops (5 - 1) (by omega) (w1.heap.size + 2) s hs W1 QS.out) (fun k hk => by omega) (KT.refl _ _) (fun _ => rfl)
    (fun pre W => CC w1 W1.heap.size wh pre W)
    (fun _ _ _ => False)
    (fun pre A B h ht => ?own) (fun c pre A B h ht => h) ⟨Q3.out, ⟨_, Q4.out, OS.nil _ _⟩, HB0.out⟩ _ ?assign ?body ?done (fun D c pre W _ _ h _ => h.elim)
  case own =>
    obtain ⟨h0, ⟨v, h1, h2⟩, h3⟩ := h
    exact ⟨blkc_turn h0 ht (fun e => by omega), ⟨v, blkc_turn h1 ht (fun e => by omega), h2.turn (fun k cur hk hc => ht.block _ _ hc (fun e => by omega) (fun _ => rfl))⟩, belowc_turn h3 ht (by omega) (fun k e => by omega) (Nat.le_refl _)⟩
  case assign =>
    intro L x W K hK
    gi_wp2
    exact hK
  case body =>
    rintro L pre x W hL hLW ⟨b3, ⟨v, b4, hO⟩, hB⟩ hv
    have hcl : clL wh (pre ++ [x]) = clS wh (clL wh pre) x := clL_snoc wh pre x
    have hol : (clL wh pre).length ≤ 100001 := by
      have h1 := clL_len wh pre
      have h2 := hv.length_le
      rw [List.length_append, List.length_singleton] at h2
      omega
    have HC := Lib.hid (show CC w1 W1.heap.size wh pre W from ⟨b3, ⟨v, b4, hO⟩, hB⟩)
    obtain ⟨a, c, rfl, hc1, hc2⟩ := hO.len
    obtain ⟨g2, cap2, W2, hrun, hO2, hB2, hKO, hg2⟩ := hO.appK x (by omega) (show W1.heap.size ≤ W.heap.size by omega)
    have HCl := Lib.hid hcl
    have HR := Lib.hid hrun
    have k3 := b3.keepB hB2 (show w1.heap.size < W1.heap.size by omega)
    have k4 := b4.keepB hB2 (show w1.heap.size + 1 < W1.heap.size by omega)
    obtain ⟨x3, f3, z3⟩ := b3.facts
    obtain ⟨x4, f4, z4⟩ := b4.facts
    obtain ⟨y4, e4, u4⟩ := k4.facts
    have HB3 := Lib.hid b3
    have HB4 := Lib.hid b4
    have HOS := Lib.hid hO
    have HX := Lib.hid (And.intro hO2 (And.intro hB2 (And.intro hKO hB)))
    have HT := Lib.hid (ba_list (str x))
    rw [str_list] at HT
    clear hrun hO2 hB2 hKO hB hcl k3 k4 b3 b4 hv
    obtain ⟨out, hout⟩ : ∃ out, clL wh pre = out := ⟨_, rfl⟩
    rw [hout] at HCl HR HX HOS hc1 x4 hol
    have HOut := Lib.hid hout
    clear hout
    by_cases hx : x = ddB
    · subst hx
      have hp : ((str ddB).toList == [46, 46]) = true := by rw [HT.out]; rfl
      by_cases hstay : out = [] ∨ out.getLast? = some ddB
      · have HSt := Lib.hid (HCl.out.trans (clS_stay hstay))
        have hfacts : out = [] ∨ ((0 : Int) < (out.length : Int) ∧ ∃ (g3 : Nat) (q : ByteArray), a = some ⟨g3, 0, none⟩ ∧ g3 < W.heap.size ∧ W.cell? ⟨g3, out.length - 1, none⟩ = some (.string q) ∧ (q.toList == [46, 46]) = true) := by
          by_cases h0 : out.length = 0
          · left; exact List.eq_nil_of_length_eq_zero h0
          · right
            refine ⟨by omega, ?_⟩
            obtain ⟨g3, h1, h2, h3⟩ := HOS.out.at' (out.length - 1) (by omega)
            refine ⟨g3, _, h1, h2, h3, ?_⟩
            rcases hstay with h | h
            · rw [h] at h0; exact absurd rfl h0
            · rw [last_get (by omega)] at h
              injection h with h
              rw [h, ba_list, str_list]
              rfl
        clear hstay
        rcases hfacts with rfl | ⟨hz0, g3, q, rfl, hg3, hcl3, hq⟩
        · simp only [List.length_nil] at HR HX HOS x4
          cases wh
          · gi_wp2_with (gi_at_builtin; refine wpListIn_app_run1 rfl rfl rfl rfl HR.out ?_)
            exact cc_put (w := w1) (W1 := W1) (W' := W2) hz (by omega) HX.out.2.2.1 HX.out.2.1 HB3.out _ _ HB4.out HX.out.2.2.2 (by rw [HSt.out, if_neg (by decide)]; exact HX.out.1)
          · gi_wp2
            have hend := cc_same HC.out (x := ddB) (by rw [HSt.out, HOut.out]; simp)
            rw [hz] at hend
            exact hend
        · cases wh
          · gi_wp2_with (gi_at_builtin; refine wpListIn_app_run1 rfl rfl rfl rfl HR.out ?_)
            exact cc_put (w := w1) (W1 := W1) (W' := W2) hz (by omega) HX.out.2.2.1 HX.out.2.1 HB3.out _ _ HB4.out HX.out.2.2.2 (by rw [HSt.out, if_neg (by decide)]; exact HX.out.1)
          · gi_wp2
            have hend := cc_same HC.out (x := ddB) (by rw [HSt.out, HOut.out]; simp)
            rw [hz] at hend
            exact hend
      · have hne : out ≠ [] := fun e => hstay (.inl e)
        have h0 : 0 < out.length := List.length_pos_iff.2 hne
        have hz0 : (0 : Int) < (out.length : Int) := by omega
        have HSt := Lib.hid (HCl.out.trans (clS_less hne (fun y hy e => hstay (.inr (by rw [hy, e])))))
        have HL := Lib.hid (HOS.out.less hne)
        obtain ⟨g3, rfl, hg3, hcl3⟩ := HOS.out.at' (out.length - 1) (by omega)
        have hq : ((str out[out.length - 1]).toList == [46, 46]) = false := by
          rw [ba_list, str_list]
          simp only [beq_eq_false_iff_ne, ne_eq]
          intro e
          exact hstay (.inr (by rw [last_get h0, e]; rfl))
        generalize str out[out.length - 1] = q at hcl3 hq
        clear hstay hne
        gi_wp2
        exact cc_put (w := w1) (W1 := W1) (W' := W) hz (by omega) (KeepsOthers.refl W) (Below.refl _ W) HB3.out _ _ HB4.out HX.out.2.2.2 (by rw [HSt.out]; exact HL.out)
    · have hp : ((str x).toList == [46, 46]) = false := by
        rw [HT.out]
        simp only [beq_eq_false_iff_ne, ne_eq]
        exact hx
      have HSt := Lib.hid (HCl.out.trans (clS_other hx))
      clear hx
      gi_wp2_with (gi_at_builtin; refine wpListIn_app_run1 rfl rfl rfl rfl HR.out ?_)
      exact cc_put (w := w1) (W1 := W1) (W' := W2) hz (by omega) HX.out.2.2.1 HX.out.2.1 HB3.out _ _ HB4.out HX.out.2.2.2 (by rw [HSt.out]; exact HX.out.1)
  case done =>
    rintro D xs W hD rfl ⟨b3, ⟨v, b4, hO⟩, hB⟩ hK
    obtain ⟨a, c, rfl, -, -⟩ := hO.len
    have hol : (clL wh (partsL s.data.toList)).length ≤ 100001 := Nat.le_trans (clL_len _ _) hpn
    have hjl : (Lib.join (clL wh (partsL s.data.toList)) [47]).length ≤ 100001 * 100001 := by
      have h1 := join_len 100000 (clL wh (partsL s.data.toList)) (fun x hx => by
        have h2 := clL_mem hx
        have h3 := spl_size 47 s.data.toList x (List.mem_filter.1 h2).1
        have h4 : s.data.toList.length = s.size := Array.length_toList
        omega)
      exact Nat.le_trans h1 (Nat.mul_le_mul hol (by omega))
    generalize clL wh (partsL s.data.toList) = out at hO hol hjl HRs b4
    have HJ := Lib.hid (join_any W hO hol hjl)
    have HJl := Lib.hid hjl
    obtain ⟨x3, f3, z3⟩ := b3.facts
    obtain ⟨x4, f4, z4⟩ := b4.facts
    have H3 := Lib.hid b3
    have HB := Lib.hid hB
    have HK := Lib.hid hK
    clear b3 b4 hO hB hK hjl
    gi_wp2
    refine ⟨trivial, ?_⟩
    refine (callsIn_wide.2 HJ.out).mono ?_
    rintro e w2 ⟨rfl, hb2⟩
    have k3 := H3.out.keep hb2
    obtain ⟨y3, g3, u3⟩ := k3.facts
    have HKK := Lib.hid ((hb2.block D (Array.getElem?_eq_some_iff.1 HK.out).1).trans HK.out)
    have HBB := Lib.hid (bnext HB.out hb2)
    clear hb2 k3 x3 f3 z3 x4 f4 z4
    have HTl := Lib.hid (ba_list (str (Lib.join out [47])))
    rw [str_list] at HTl
    have HStr := Lib.hid (show str (47 :: Lib.join out [47]) = ByteArray.mk #[47] ++ str (Lib.join out [47]) by rw [show (47 :: Lib.join out [47]) = [47] ++ Lib.join out [47] from rfl, ← str_append]; rfl)
    have hts : (str (Lib.join out [47])).size ≤ 100001 * 100001 := by rw [str_size]; exact HJl.out
    have HTs := Lib.hid (show str (Lib.join out [47]) = str (Lib.join out [47]) from rfl)
    generalize Lib.join out [47] = jn at HRs HTl HStr hts HTs ⊢
    generalize htj : str jn = tj at HTl HStr hts ⊢
    have HTj := Lib.hid htj
    clear htj HTs
    cases wh with
    | true =>
      have hs1 : ¬ 9223372036854775807 < 1 + tj.size := by omega
      have h : R = ByteArray.mk #[47] ++ tj := by rw [HRs.out, ← HStr.out]; simp
      have HE := Lib.hid h
      clear h
      have hD2 : w1.heap.size ≤ D := by omega
      gi_wp2
      exact cc_ret HKK.out HBB.out hD2 (by rw [HE.out]; rfl)
    | false =>
      have hD2 : w1.heap.size ≤ D := by omega
      by_cases hte : tj.toList = []
      · have h : R = ByteArray.mk #[46] := by rw [HRs.out, show jn = [] by rw [← HTl.out, hte]]; rfl
        have HE := Lib.hid h
        clear h
        gi_wp2
        exact cc_ret HKK.out HBB.out hD2 (by rw [HE.out]; rfl)
      · have hp1 : tj.toList.isEmpty = false := by simpa using hte
        have h : R = tj := by
          have hjn : ¬ jn = [] := by rw [← HTl.out]; exact hte
          rw [HRs.out, ← HTj.out]; simp [hjn]
        have HE := Lib.hid h
        clear h hte
        gi_wp2
        exact cc_ret HKK.out HBB.out hD2 (by rw [HE.out]; rfl)
end Go.Proofs.YtaojpbgaengdpaaGreatDoor

/- Rows of some alone: the reference's Inside; Join and Rel of both. -/
namespace Go.Proofs.YtaojpbgaengdpaaGreatDoor

open Go.RowKit

theorem trim_size (b : ByteArray) : (str (trimL b.data.toList)).size ≤ b.size := by
  rw [str_size]
  have h1 := trimL_len b.data.toList
  have h2 : b.data.toList.length = b.size := Array.length_toList
  omega
set_option maxRecDepth 100000 in
set_option maxHeartbeats 2000000 in
theorem rinside_any (b s : ByteArray) (w : World) (hb : b.size ≤ 100000) (hs : s.size ≤ 9223372036854775807) :
    Calls Tryz.prog 55 #[.string b, .string s] w fun e w' => e = .returned (.bool (insideB b s)) ∧ w' = w := by
  have HT := Lib.hid (rcut_any b w hb)
  have hz : (str (trimL b.data.toList)).size ≤ 100000 := Nat.le_trans (trim_size b) hb
  by_cases hbs : s = b
  · have HR := Lib.hid (show insideB b s = true by unfold insideB; rw [decide_eq_true hbs.symm]; rfl)
    subst hbs
    generalize insideB s s = r at HR ⊢
    generalize str (trimL s.data.toList) = t at HT hz
    have h1 : ¬ 9223372036854775807 < t.size + 1 := by omega
    go_enter Tryz.func55, Tryz.ntmps55
    go_wp2_with fail
    refine HT.out.mono ?_
    rintro e w1 ⟨rfl, rfl⟩
    go_wp2_with fail
    go_ret
    exact ⟨ret_bool HR.out.symm, rfl⟩
  · have HR := Lib.hid (show insideB b s = (decide ((str (trimL b.data.toList) ++ ByteArray.mk #[47]).size ≤ s.size) && ((s.extract 0 (str (trimL b.data.toList) ++ ByteArray.mk #[47]).size).toList == (str (trimL b.data.toList) ++ ByteArray.mk #[47]).toList)) by
      rw [Lib.hasPrefix_raw]
      unfold insideB
      rw [decide_eq_false (fun e => hbs e.symm), show ByteArray.mk #[47] = str [47] from rfl, str_append, str_list]
      rfl)
    have g1 := tl_ne hbs
    have g2 : (s.toList == b.toList) = false := by simpa using g1
    generalize insideB b s = r at HR ⊢
    generalize str (trimL b.data.toList) = t at HT HR hz
    have h1 : ¬ 9223372036854775807 < t.size + 1 := by omega
    have hts : (t ++ ByteArray.mk #[47]).size ≤ 100001 := by
      rw [ByteArray.size_append]
      show t.size + 1 ≤ _
      omega
    clear hbs
    go_enter Tryz.func55, Tryz.ntmps55
    go_wp2_with fail
    refine HT.out.mono ?_
    rintro e w1 ⟨rfl, rfl⟩
    go_upto_region 2 with fail
    generalize t ++ ByteArray.mk #[47] = u at HR hts ⊢
    by_cases hle : u.size ≤ s.size
    · have hle2 : (u.size : Int) ≤ (s.size : Int) := by omega
      rw [decide_eq_true hle, Bool.true_and] at HR
      obtain ⟨v, hv⟩ : ∃ v, ((s.extract 0 u.size).toList == u.toList) = v := ⟨_, rfl⟩
      rw [hv] at HR
      clear hle
      go_wp2_with fail
      go_ret
      exact ⟨ret_bool HR.out.symm, rfl⟩
    · have hle2 : ¬ (u.size : Int) ≤ (s.size : Int) := by omega
      rw [decide_eq_false hle, Bool.false_and] at HR
      clear hle
      go_wp2_with fail
      go_ret
      exact ⟨ret_bool HR.out.symm, rfl⟩
set_option maxRecDepth 100000 in
set_option maxHeartbeats 400000 in
theorem tjoin_any (a b : ByteArray) (w : World) (ha : a.size ≤ 40000) (hb : b.size ≤ 40000) :
    Calls Tryz.prog 50 #[.string a, .string b] w fun e w' => e = .returned (.string (joinB a b)) ∧ Below w.heap.size w w' := by
  have HP := Lib.hid (Tryz.strings_HasPrefix b (ByteArray.mk #[47]) w)
  rw [show (ByteArray.mk #[47]).data.toList = [47] from rfl, prefix_whole] at HP
  have HC := Lib.hid (fun w => clean_any b w (by omega))
  have HC2 := Lib.hid (fun w => clean_any (a ++ ByteArray.mk #[47] ++ b) w (by
    rw [ByteArray.size_append, ByteArray.size_append]
    show a.size + 1 + b.size ≤ _
    omega))
  have h1 : ¬ 9223372036854775807 < a.size + 1 := by omega
  have h2 : ¬ 9223372036854775807 < (a ++ ByteArray.mk #[47]).size + b.size := by
    rw [ByteArray.size_append]
    show ¬ 9223372036854775807 < a.size + 1 + b.size
    omega
  cases hw : wholeB b.data.toList with
  | true =>
    have HJ := Lib.hid (show joinB a b = cleanB b by unfold joinB; rw [if_pos (.inl hw)])
    generalize joinB a b = z at HJ ⊢
    rw [hw] at HP
    clear hw
    go_enter Tryz.func50, Tryz.ntmps50
    go_wp2_with fail
    refine HP.out.mono ?_
    rintro e w1 ⟨rfl, rfl⟩
    go_wp2_with fail
    refine (HC.out _).mono ?_
    rintro e w2 ⟨rfl, hb2⟩
    go_wp2_with fail
    go_ret
    exact ⟨by rw [HJ.out]; rfl, hb2⟩
  | false =>
    rw [hw] at HP
    by_cases hae : a = ByteArray.empty
    · have HJ := Lib.hid (show joinB a b = cleanB b by unfold joinB; rw [if_pos (.inr hae)])
      generalize joinB a b = z at HJ ⊢
      subst hae
      clear hw
      go_enter Tryz.func50, Tryz.ntmps50
      go_wp2_with fail
      refine HP.out.mono ?_
      rintro e w1 ⟨rfl, rfl⟩
      go_wp2_with fail
      refine (HC.out _).mono ?_
      rintro e w2 ⟨rfl, hb2⟩
      go_wp2_with fail
      go_ret
      exact ⟨by rw [HJ.out]; rfl, hb2⟩
    · have HJ := Lib.hid (show joinB a b = cleanB (a ++ ByteArray.mk #[47] ++ b) by
        unfold joinB
        rw [if_neg]
        rintro (h | h)
        · rw [hw] at h; cases h
        · exact hae h)
      generalize joinB a b = z at HJ ⊢
      have g1 : ¬ a.toList = [] := fun e => tl_ne hae (e.trans (by rw [ba_list]; rfl))
      have g2 : (a.toList == []) = false := by simpa using g1
      clear hw hae
      go_enter Tryz.func50, Tryz.ntmps50
      go_wp2_with fail
      refine HP.out.mono ?_
      rintro e w1 ⟨rfl, rfl⟩
      go_wp2_with fail
      refine (HC2.out _).mono ?_
      rintro e w2 ⟨rfl, hb2⟩
      go_wp2_with fail
      go_ret
      exact ⟨by rw [HJ.out]; rfl, hb2⟩
theorem whole_key (s : ByteArray) : wholeB s.data.toList = true ∧ (∃ h : 0 < s.size, s[0] = 47) ∨ wholeB s.data.toList = false ∧ ∀ h : 0 < s.size, s[0] ≠ 47 := by
  have h0 : wholeB s.data.toList = (decide (0 < s.size) && (if h : 0 < s.size then decide (s[0] = 47) else false)) := by
    obtain ⟨⟨l⟩⟩ := s
    cases l with
    | nil => rfl
    | cons x l => rfl
  rw [h0]
  by_cases h : 0 < s.size
  · by_cases h2 : s[0] = 47
    · exact .inl ⟨by simp [h, h2], h, h2⟩
    · exact .inr ⟨by simp [h, h2], fun _ => h2⟩
  · exact .inr ⟨by simp [h], fun h' => absurd h' h⟩
theorem u8_is {x : UInt8} (h : x = 47) : ((x.toNat : Int) == 47) = true := by rw [h]; rfl
theorem u8_isnt {x : UInt8} (h : x ≠ 47) : ((x.toNat : Int) == 47) = false := by
  simp only [beq_eq_false_iff_ne, ne_eq]
  intro h2
  exact h (by rw [u8_eq]; show x.toNat = 47; omega)
set_option maxRecDepth 100000 in
set_option maxHeartbeats 1000000 in
theorem rjoin_any (a b : ByteArray) (w : World) (ha : a.size ≤ 40000) (hb : b.size ≤ 40000) :
    Calls Tryz.prog 52 #[.string a, .string b] w fun e w' => e = .returned (.string (joinB a b)) ∧ Below w.heap.size w w' := by
  have HC := Lib.hid (fun w => rclean_any b w (by omega))
  have HC2 := Lib.hid (fun w => rclean_any (a ++ ByteArray.mk #[47] ++ b) w (by
    rw [ByteArray.size_append, ByteArray.size_append]
    show a.size + 1 + b.size ≤ _
    omega))
  have h1 : ¬ 9223372036854775807 < a.size + 1 := by omega
  have h2 : ¬ 9223372036854775807 < (a ++ ByteArray.mk #[47]).size + b.size := by
    rw [ByteArray.size_append]
    show ¬ 9223372036854775807 < a.size + 1 + b.size
    omega
  by_cases hae : a = ByteArray.empty
  · have HJ := Lib.hid (show joinB a b = cleanB b by unfold joinB; rw [if_pos (.inr hae)])
    generalize joinB a b = z at HJ ⊢
    subst hae
    go_enter Tryz.func52, Tryz.ntmps52
    go_wp2_with fail
    refine (HC.out _).mono ?_
    rintro e w2 ⟨rfl, hb2⟩
    go_wp2_with fail
    go_ret
    exact ⟨by rw [HJ.out]; rfl, hb2⟩
  · have g1 : ¬ a.toList = [] := fun e => tl_ne hae (e.trans (by rw [ba_list]; rfl))
    have g2 : (a.toList == []) = false := by simpa using g1
    rcases whole_key b with ⟨hw, hpos, h47⟩ | ⟨hw, hno⟩
    · have HJ := Lib.hid (show joinB a b = cleanB b by unfold joinB; rw [if_pos (.inl hw)])
      generalize joinB a b = z at HJ ⊢
      have hp2 : (0 : Int) < (b.size : Int) := by omega
      have hc := u8_is h47
      clear hw hae h47
      go_enter Tryz.func52, Tryz.ntmps52
      go_wp2_with fail
      refine (HC.out _).mono ?_
      rintro e w2 ⟨rfl, hb2⟩
      go_wp2_with fail
      go_ret
      exact ⟨by rw [HJ.out]; rfl, hb2⟩
    · have HJ := Lib.hid (show joinB a b = cleanB (a ++ ByteArray.mk #[47] ++ b) by
        unfold joinB
        rw [if_neg]
        rintro (h | h)
        · rw [hw] at h; cases h
        · exact hae h)
      generalize joinB a b = z at HJ ⊢
      by_cases hpos : 0 < b.size
      · have hp2 : (0 : Int) < (b.size : Int) := by omega
        have hc := u8_isnt (hno hpos)
        clear hw hae hno
        go_enter Tryz.func52, Tryz.ntmps52
        go_wp2_with fail
        refine (HC2.out _).mono ?_
        rintro e w2 ⟨rfl, hb2⟩
        go_wp2_with fail
        go_ret
        exact ⟨by rw [HJ.out]; rfl, hb2⟩
      · have hp2 : ¬ (0 : Int) < (b.size : Int) := by omega
        clear hw hae hno
        go_enter Tryz.func52, Tryz.ntmps52
        go_wp2_with fail
        refine (HC2.out _).mono ?_
        rintro e w2 ⟨rfl, hb2⟩
        go_wp2_with fail
        go_ret
        exact ⟨by rw [HJ.out]; rfl, hb2⟩
set_option maxRecDepth 100000 in
set_option maxHeartbeats 1000000 in
theorem trel_any (a b : ByteArray) (w : World) (ha : a.size ≤ 90000) (hb : b.size ≤ 90000) :
    Calls Tryz.prog 49 #[.string a, .string b] w fun e w' => e = .returned (.tuple #[.string (relB a b).1, .bool (relB a b).2]) ∧ Below w.heap.size w w' := by
  have HA := Lib.hid (fun w => clean_any a w (by omega))
  have HB := Lib.hid (fun w => clean_any b w (by omega))
  have hsa := clean_size a
  have hsb := clean_size b
  have HW1 := Lib.hid (fun (h : wholeB (cleanB a).data.toList = true) => (show CleanW (cleanB a).data.toList by unfold cleanB at h ⊢; rw [str_list] at h ⊢; exact (clean_whole h).2))
  have HW2 := Lib.hid (fun (h : wholeB (cleanB b).data.toList = true) => (show CleanW (cleanB b).data.toList by unfold cleanB at h ⊢; rw [str_list] at h ⊢; exact (clean_whole h).2))
  have HR := Lib.hid (show relB a b = if wholeB (cleanB a).data.toList = true ∧ wholeB (cleanB b).data.toList = true ∧ insideB (cleanB a) (cleanB b) = true then
    (if cleanB a = cleanB b then ptB else str ((cleanB b).data.toList.drop ((trimL (cleanB a).data.toList).length + 1)), true)
    else (ByteArray.empty, false) from rfl)
  generalize relB a b = R at HR ⊢
  generalize cleanB a = x at HA HW1 HR hsa
  generalize cleanB b = y at HB HW2 HR hsb
  have HP := Lib.hid (fun (s : ByteArray) w => Tryz.strings_HasPrefix s (ByteArray.mk #[47]) w)
  simp only [prefix_whole] at HP
  have HI := Lib.hid (fun w => tinside_any x y w (by omega))
  have HT := Lib.hid (fun w => show Calls Tryz.prog 85 #[.string x, .string (ByteArray.mk #[47])] w fun e w' => e = .returned (.string (str (trimL x.data.toList))) ∧ w' = w from by
    refine (Tryz.strings_TrimRight_one x 47 (by decide) w (by omega)).mono ?_
    rintro e w' ⟨rfl, rfl⟩
    exact ⟨rfl, rfl⟩)
  have HTp := Lib.hid (fun (s : ByteArray) w => Tryz.strings_TrimPrefix s (ByteArray.mk #[47]) w)
  go_enter Tryz.func49, Tryz.ntmps49
  go_wp2_with fail
  refine (HA.out _).mono ?_
  rintro e w1 ⟨rfl, hb1⟩
  have HB1 := Lib.hid hb1
  clear hb1
  go_wp2_with fail
  refine (HB.out _).mono ?_
  rintro e w2 ⟨rfl, hb2⟩
  have HB2 := Lib.hid (bnext HB1.out hb2)
  clear hb2
  go_wp2_with fail
  refine (HP.out _ _).mono ?_
  rintro e w3 ⟨rfl, rfl⟩
  cases hwx : wholeB x.data.toList with
  | false =>
    have HRr := Lib.hid (show R = (ByteArray.empty, false) by rw [HR.out, if_neg]; rintro ⟨h, -⟩; rw [hwx] at h; cases h)
    clear hwx
    go_wp2_with fail
    go_ret2
    exact ⟨by rw [HRr.out]; rfl, HB2.out⟩
  | true =>
    have HX := Lib.hid (HW1.out hwx)
    have HWx := Lib.hid hwx
    clear hwx
    go_wp2_with fail
    refine (HP.out _ _).mono ?_
    rintro e w4 ⟨rfl, rfl⟩
    cases hwy : wholeB y.data.toList with
    | false =>
      have HRr := Lib.hid (show R = (ByteArray.empty, false) by rw [HR.out, if_neg]; rintro ⟨-, h, -⟩; rw [hwy] at h; cases h)
      clear hwy
      go_wp2_with fail
      go_ret2
      exact ⟨by rw [HRr.out]; rfl, HB2.out⟩
    | true =>
      have HY := Lib.hid (HW2.out hwy)
      have HWy := Lib.hid hwy
      clear hwy
      go_wp2_with fail
      refine (HI.out _).mono ?_
      rintro e w5 ⟨rfl, rfl⟩
      cases hin : insideB x y with
      | false =>
        have HRr := Lib.hid (show R = (ByteArray.empty, false) by rw [HR.out, if_neg]; rintro ⟨-, -, h⟩; rw [hin] at h; cases h)
        clear hin
        go_wp2_with fail
        go_ret2
        exact ⟨by rw [HRr.out]; rfl, HB2.out⟩
      | true =>
        have HRr := Lib.hid (show R = (if x = y then ptB else str (y.data.toList.drop ((trimL x.data.toList).length + 1)), true) by rw [HR.out, if_pos ⟨HWx.out, HWy.out, hin⟩])
        have hle : (str (trimL x.data.toList)).size ≤ y.size := by
          rw [str_size]
          unfold insideB at hin
          rcases Bool.or_eq_true_iff.1 hin with h | h
          · have := of_decide_eq_true h
            subst this
            have h1 := trimL_len x.data.toList
            have h2 : x.data.toList.length = x.size := Array.length_toList
            omega
          · have h1 := (List.isPrefixOf_iff_prefix.1 (by unfold Lib.hasPrefix at h; exact h)).length_le
            rw [List.length_append, List.length_singleton] at h1
            have h2 : y.data.toList.length = y.size := Array.length_toList
            omega
        have HIn := Lib.hid hin
        have hlx : (str (trimL x.data.toList)).size = (trimL x.data.toList).length := by rw [str_size]
        have Hex := Lib.hid (show (y.extract (str (trimL x.data.toList)).size y.size).data.toList = y.data.toList.drop (trimL x.data.toList).length by
          rw [hlx, ByteArray.data_extract, Array.toList_extract, List.extract_eq_take_drop]
          refine List.take_of_length_le ?_
          rw [List.length_drop]
          have h2 : y.data.toList.length = y.size := Array.length_toList
          omega)
        have hle2 : ((str (trimL x.data.toList)).size : Int) ≤ (y.size : Int) := by omega
        clear hin hlx
        go_wp2_with fail
        refine (HT.out _).mono ?_
        rintro e w6 ⟨rfl, rfl⟩
        obtain ⟨u, hu⟩ : ∃ u, str (trimL x.data.toList) = u := ⟨_, rfl⟩
        rw [hu] at hle hle2 Hex
        rw [hu]
        clear hu
        go_wp2_with fail
        refine (HTp.out _ _).mono ?_
        rintro e w7 ⟨rfl, rfl⟩
        by_cases hxy : x = y
        · have hz : Lib.trimPrefix (y.extract u.size y.size).data.toList [47] = [] := by
            rw [Hex.out, ← hxy]
            exact rel_same HX.out
          rw [hz, show (ByteArray.mk ([] : List UInt8).toArray) = ByteArray.empty from rfl]
          rw [if_pos hxy] at HRr
          clear hz hxy
          go_wp2_with fail
          go_ret2
          exact ⟨by rw [HRr.out]; rfl, HB2.out⟩
        · obtain ⟨hz, hz2⟩ := rel_in HX.out HY.out (fun e => hxy (by rw [← str_of x, ← str_of y, e])) (by
            have h := HIn.out
            unfold insideB at h
            rw [decide_eq_false hxy, Bool.false_or] at h
            exact h)
          rw [← Hex.out] at hz
          rw [if_neg hxy] at HRr
          obtain ⟨r, hr⟩ : ∃ r, y.data.toList.drop ((trimL x.data.toList).length + 1) = r := ⟨_, rfl⟩
          rw [hr] at hz hz2 HRr
          rw [hz]
          have hq : ((str r).toList == []) = false := by
            rw [ba_list, str_list]
            simpa using hz2
          clear hz hz2 hr hxy
          generalize hg : str r = q at HRr hq
          rw [show (ByteArray.mk r.toArray) = q from hg]
          clear hg
          go_wp2_with fail
          go_ret2
          exact ⟨by rw [HRr.out]; rfl, HB2.out⟩
end Go.Proofs.YtaojpbgaengdpaaGreatDoor
