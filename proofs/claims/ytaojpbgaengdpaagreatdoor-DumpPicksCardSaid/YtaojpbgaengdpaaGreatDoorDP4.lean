/- Texts of the proof, part 4. -/
import Derived.Test.YtaojpbgaengdpaaGreatDoorDP3
set_option linter.unusedVariables false
set_option linter.unusedSimpArgs false
/- Rows of some alone: the reference's At. -/
namespace Go.Proofs.YtaojpbgaengdpaaGreatDoor

open Go.RowKit

set_option maxRecDepth 100000 in
set_option maxHeartbeats 4000000 in
theorem rat22_any (w : World) {a : Option Addr} {n c : Nat} {l : List Rw} (hA : SliceAt w 10 rwQ a n c l) (hl : n ≤ 10000) (p tg : ByteArray) (hp : p.size ≤ 30000) (ht : tg.size ≤ 30000) (hr : ∀ r ∈ l, r.path.size ≤ 30000) :
    Calls Tryz.prog 18 #[.slice a n c, .string p, .string tg] w fun e w' => ∃ v, e = .returned v ∧ OR w' w.heap.size v (atL l p tg) ∧ Below w.heap.size w w' := by
  obtain rfl := hA.1
  have HA := Lib.hid hA
  have HRs := Lib.hid hr
  have HO0 := Lib.hid (show OR w w.heap.size (.slice none 0 0) ((l.take 0).filterMap (atR p tg)) from OR.nil w w.heap.size)
  have HE := Lib.hid (show atL l p tg = anewL ((l.take l.length).filterMap (atR p tg)) by rw [List.take_length]; rfl)
  generalize atL l p tg = Z at HE ⊢
  clear hA hr
  go_enter Tryz.func18, Tryz.ntmps18
  go_wp2_with fail
  go_loopw [7, 8] (fun t7 t8 wr => ∃ k : Nat, k ≤ l.length ∧ t8 = .int .i64 k ∧ OR wr w.heap.size t7 ((l.take k).filterMap (atR p tg)) ∧ Below w.heap.size w wr) (fun _ t8 _ => l.length - (intOf t8).toNat)
  case atStart => exact ⟨0, Nat.zero_le _, rfl, HO0.out, Below.refl _ _⟩
  case round =>
    obtain ⟨k, hk, rfl, hO, hb⟩ := hrel
    have HO := Lib.hid hO
    have HB := Lib.hid hb
    by_cases hlt : k < l.length
    · obtain ⟨ba, oa, rfl, -⟩ := rowsAt_some HA.out (by omega)
      have HC := Lib.hid (fun w3 (hb : Below w.heap.size w w3) => rows_cell (HA.out.below hb (Nat.le_refl _)) k hlt)
      have HStep := Lib.hid (at_step hlt (atR p tg))
      have hlen : ((l.take k).filterMap (atR p tg)).length ≤ 10000 := by
        have h1 := List.length_filterMap_le (atR p tg) (l.take k)
        rw [List.length_take] at h1
        omega
      have hrp := HRs.out _ (List.getElem_mem hlt)
      generalize (l.take k).filterMap (atR p tg) = kept at HO hO HStep hlen
      obtain ⟨r, hr⟩ : ∃ r, l[k] = r := ⟨_, rfl⟩
      rw [hr] at HC HStep hrp
      have HRl := Lib.hid (rrel_any p r.path wr (by omega) (by omega))
      have hrs := rel_size p r.path
      have HAt := Lib.hid (show atR p tg r = if (relB p r.path).2 = true then some { r with path := joinB tg (relB p r.path).1 } else none from rfl)
      obtain ⟨sf, hsf⟩ : ∃ x, (relB p r.path).1 = x := ⟨_, rfl⟩
      obtain ⟨sb, hsb⟩ : ∃ x, (relB p r.path).2 = x := ⟨_, rfl⟩
      rw [hsf] at HRl hrs HAt
      rw [hsb] at HRl HAt
      have HJn := Lib.hid (fun w => rjoin_any tg sf w (by omega) (by omega))
      generalize joinB tg sf = jn at HJn HAt
      obtain ⟨c0, -, -, -, -, -, -, -, -, -⟩ := HC.out _ hb
      clear hO hb hr hsf hsb
      go_wp2_with fail
      refine HRl.out.mono ?_
      rintro e w1 ⟨rfl, hb1⟩
      have HO1 := Lib.hid (own_keep HO.out hb1)
      have HB1 := Lib.hid (bnext HB.out hb1)
      clear hb1 c0
      cases sb with
      | false =>
        have HK := Lib.hid (show (l.take (k + 1)).filterMap (atR p tg) = kept by rw [HStep.out, HAt.out, if_neg (by simp)]; simp)
        go_wp2_with fail
        go_roundw
        case measure => simp [intOf]; omega
        case rel => exact ⟨k + 1, by omega, by go_num, by rw [HK.out]; exact HO1.out, HB1.out⟩
      | true =>
        have HK := Lib.hid (show (l.take (k + 1)).filterMap (atR p tg) = kept ++ [{ r with path := jn }] by rw [HStep.out, HAt.out, if_pos rfl]; rfl)
        have hO1 := HO1.out
        obtain ⟨oo, oc, ht5, ho1, ho2, -⟩ := own_form hO1
        subst ht5
        obtain ⟨c0, c1, c2, c3, c4, c5, c6, c7, c8, c9⟩ := HC.out _ HB1.out
        have hX := Blk.new w1 (rwC r).toArray 47
        have hbX := balloc HB1.out (.cells (rwC r).toArray 47)
        have hOX := own_keep hO1 ((Below.refl _ w1).alloc (Nat.le_refl _) (.cells (rwC r).toArray 47))
        have hne : (Value.slice oo kept.length oc).ownBlock ≠ some w1.heap.size := fun he => by
          obtain ⟨-, cur, hc⟩ := own_obj1 hO1 he
          have := (Array.getElem?_eq_some_iff.1 hc).1
          omega
        have HNe := Lib.hid hne
        have hbw : w.heap.size ≤ w1.heap.size := HB1.out.size
        simp only [rwC] at hX hbX hOX
        clear hO1 hne
        go_upto_region 8 with fail
        generalize w1.alloc (.cells #[.string r.path, .int .i64 r.kind, .int .i64 r.mode, .int .i64 r.uid, .int .i64 r.gid, .int .i64 r.mtime, .int .i64 r.ctime, .int .i64 r.dev, .int .i64 r.first, .string r.data] 47) = X at hX hbX hOX ⊢
        generalize w1.heap.size = bx at hX HNe hbw ⊢
        have HX := Lib.hid hX
        have HBX := Lib.hid hbX
        have HOX := Lib.hid hOX
        clear c0 c1 c2 c3 c4 c5 c6 c7 c8 c9 hX hOX hbX
        go_wp2_with fail
        refine (HJn.out _).mono ?_
        rintro e w2 ⟨rfl, hb2⟩
        have hX2 := HX.out.keep hb2
        have hO2 := own_keep HOX.out hb2
        have hB2 := bnext HBX.out hb2
        obtain ⟨xc, xf, xz⟩ := hX2.facts
        have hXc := hX2.set 0 (.string jn)
        have hOc := OR.box hO2 hX2 HNe.out 0 (.string jn)
        have hBc := below_box hB2 hbw hB2.size (b := bx) 0 (.string jn)
        clear hX2 hO2 hB2 hb2
        go_upto_region 9 with fail
        generalize w2.setCell ⟨bx, 0, none⟩ (.string jn) = Q2 at hXc hOc hBc ⊢
        simp only [List.setIfInBounds_toArray, List.set_cons_zero] at hXc
        obtain ⟨qc, qf, qz⟩ := hXc.facts
        obtain ⟨g9, cap9, W9, hrun9, hO9, hm9⟩ := OR.app hOc { r with path := jn } (by omega) hBc.size
        simp only [rwC] at hrun9
        have HR9 := Lib.hid hrun9
        have HO9 := Lib.hid hO9
        have HB9 := Lib.hid (hBc.trans (hm9.below (fun _ hk => (own_obj1 hOc hk).1) hBc.size))
        clear hrun9 hO9 hm9 hOc hBc hXc xc xf xz
        go_wp2_with (at_builtin; refine wpList_app_run rfl rfl rfl rfl HR9.out ?_)
        go_roundw
        case measure => simp [intOf]; omega
        case rel => exact ⟨k + 1, by omega, by go_num, by rw [HK.out]; exact HO9.out, HB9.out⟩
    · obtain rfl : k = l.length := by omega
      have hkl : ((l.take l.length).filterMap (atR p tg)).length ≤ 10000 := by
        have := List.length_filterMap_le (atR p tg) (l.take l.length)
        rw [List.length_take] at this
        omega
      obtain ⟨kept, hkept⟩ : ∃ y, (l.take l.length).filterMap (atR p tg) = y := ⟨_, rfl⟩
      rw [hkept] at hO HE hkl
      obtain ⟨oo, oc, ht3, ho1, ho2, -⟩ := own_form hO
      subst ht3
      have HN := Lib.hid (ranew_any wr (OR.at hO) hkl)
      clear hO hb HO0 HA HO hkept
      go_wp2_with fail
      refine HN.out.mono ?_
      rintro e w3 ⟨v, rfl, ho, hb3⟩
      have HV := Lib.hid (own_base ho HB.out.size)
      have HB3 := Lib.hid (bnext HB.out hb3)
      clear ho hb3
      go_wp2_with fail
      go_ret
      exact ⟨_, rfl, by rw [HE.out]; exact HV.out, HB3.out⟩
end Go.Proofs.YtaojpbgaengdpaaGreatDoor

/- Rows without times: dump.Still, the reference's Still. -/
namespace Go.Proofs.YtaojpbgaengdpaaGreatDoor

open Go.RowKit

def Rw.still (r : Rw) : Rw := { r with mtime := 0, ctime := 0 }
def stillL (l : List Rw) : List Rw := l.map Rw.still
theorem rwC_one (l : List Rw) : ∀ u ∈ l.flatMap rwC, u.oneCell' = true := by
  intro u hu
  obtain ⟨x, -, hx⟩ := List.mem_flatMap.1 hu
  simp [rwC] at hx
  rcases hx with rfl | rfl | rfl | rfl | rfl | rfl | rfl | rfl | rfl | rfl <;> rfl
theorem rows_news {w : World} {b off n c : Nat} {l : List Rw} (h : SliceAt w 10 rwQ (some ⟨b, off, none⟩) n c l) : ∀ j u, (l.flatMap rwC)[j]? = some u → w.cell? ((⟨b, off, none⟩ : Addr).add j) = some u := by
  intro j u hu
  have hlt : j < (l.flatMap rwC).length := (List.getElem?_eq_some_iff.1 hu).1
  rw [flat_len rwC_len] at hlt
  have hm := Nat.mod_lt j (show 0 < 10 by omega)
  have hdiv : j = j / 10 * 10 + j % 10 := by omega
  have hq : j / 10 < l.length := by omega
  have h1 := flat_get rwC_len l (j / 10) (j % 10) hq hm
  rw [← hdiv, hu] at h1
  obtain ⟨hl, -, -, h0 | ⟨b', off', he, hb, hel⟩⟩ := h
  · omega
  · injection he with he
    injection he with e1 e2
    subst e1 e2
    obtain ⟨cs, k1, k2, k3⟩ := hel (j / 10) hq
    unfold rwQ at k2
    subst k2
    have hm2 : j % 10 < (rwC l[j / 10]).length := by rw [rwC_len]; exact hm
    have h4 := k3 (j % 10) hm2
    rw [addr_add, show off + j = off + j / 10 * 10 + j % 10 by omega, h4, h1, List.getElem?_eq_getElem hm2]
theorem rclone_any (l : List Rw) (a : Option Addr) (n c : Nat) (w : World) (he : SliceAt w 10 rwQ a n c l) (hn : n ≤ 10000) :
    Calls Tryz.prog 56 #[.slice a n c] w fun e w' => (∃ v, e = .returned v ∧ OR w' w.heap.size v l) ∧ Below w.heap.size w w' := by
  have hl := he.1
  obtain ⟨i0, hi, hz0, hz1, hz2⟩ := info_parts row_info
  have hq : ∀ (w : World) (r : Option Addr) (n c : Nat), (binOp .eql 33 (.slice r n c) (.slice none 0 0)).run Tryz.prog w = .ok (.bool r.isNone) w := fun w r n c => Lib.run_eql_slice_nil w _ _ r n c 0 0 Tryz.underlying33
  cases a with
  | none =>
    have hn0 : n = 0 := by
      rcases Nat.eq_zero_or_pos n with h | h
      · exact h
      · obtain ⟨b, off, h1, -⟩ := rowsAt_some he h
        cases h1
    subst hn0
    obtain rfl : l = [] := List.eq_nil_of_length_eq_zero hl
    have H := Lib.hid (show OR w w.heap.size (.slice none 0 0) [] from World.ownsRow_nil _ _ _ _)
    clear he hl hi hz0 hz1 hz2
    go_enter Tryz.func56, Tryz.ntmps56
    go_wp2_with fail
    go_ret
    exact ⟨⟨.slice none 0 0, rfl, H.out⟩, Below.refl _ _⟩
  | some p =>
    have he2 := he.below ((Below.refl _ w).alloc (Nat.le_refl _) (.cells #[] 47)) (Nat.le_refl _)
    have hnews : ∀ j u, (l.flatMap rwC)[j]? = some u → (w.alloc (.cells #[] 47)).cell? (p.add j) = some u := by
      rcases Nat.eq_zero_or_pos n with h | h
      · obtain rfl : l = [] := List.eq_nil_of_length_eq_zero (by omega)
        intro j u hu
        simp at hu
      · obtain ⟨b, off, hp, -⟩ := rowsAt_some he h
        injection hp with hp
        subst hp
        exact rows_news he2
    have hrun : ∃ v W, (Builtin.append_ #[33, 33] 33 #[.slice (some ⟨w.heap.size, 0, none⟩) 0 0, .slice (some p) n c]).run Tryz.prog (w.alloc (.cells #[] 47)) = .ok v W ∧
        OR W w.heap.size v l ∧ Below w.heap.size w W := by
      obtain ⟨g, cap, W, h1, h2, h3, h4⟩ := step_app_any (33) Tryz.underlying33 hi hz0 hz1 hz2 rfl (by omega) (own_empty (base := w.heap.size) (sz := 10) (e := 47) w (Nat.le_refl _)) p n c (l.flatMap rwC) (by rw [flat_len rwC_len, hl]) hnews (rwC_one l) (by unfold maxLen; omega) (by omega) (by simp)
      refine ⟨_, W, h1, ?_, ((Below.refl w.heap.size w).alloc (Nat.le_refl _) _).trans (h3.below (fun k hk => by omega) (by simp))⟩
      rw [Nat.zero_add, List.nil_append] at h2
      rw [Nat.zero_add]
      unfold OR
      rw [hl]
      exact h2
    obtain ⟨v, W, hrun, h2, h3⟩ := hrun
    have H := Lib.hid (And.intro h2 h3)
    clear he he2 hnews h2 h3 hi hz0 hz1 hz2 hl
    go_enter Tryz.func56, Tryz.ntmps56
    go_wp2_with (at_builtin; refine wpList_app_run rfl rfl rfl rfl hrun ?_)
    go_ret
    exact ⟨⟨v, rfl, H.out.1⟩, H.out.2⟩
/-- one cell of an own row. -/
theorem own_cell' {w : World} {base sz n g cap : Nat} {e : TypeId} {xs : List Value} (h : w.ownsRow base e sz (.slice (some ⟨g, 0, none⟩) n cap) n xs) (j : Nat) (v : Value) :
    (w.setCell ⟨g, j, none⟩ v).ownsRow base e sz (.slice (some ⟨g, 0, none⟩) n cap) n (xs.set j v) := by
  rcases h.2 with ⟨hv, -⟩ | ⟨g', cap', cur, hv, hb, hg, h1, h2, h3, h4⟩
  · cases hv
  · injection hv with e1 e2 e3
    injection e1 with e1
    injection e1 with e1
    subst e1 e3
    refine ⟨by rw [List.length_set]; exact h.1, .inr ⟨g, cap, _, rfl, hb, Blk.set hg j v, h1, h2, by rw [Array.size_setIfInBounds]; exact h3, ?_⟩⟩
    rw [Array.toList_setIfInBounds, List.take_set, h4]
theorem flat_setR : ∀ (l : List Rw) (i : Nat) (hi : i < l.length) (j : Nat) (hj : j < 10) (v : Value) (r : Rw), (rwC l[i]).set j v = rwC r → (l.flatMap rwC).set (i * 10 + j) v = (l.set i r).flatMap rwC
  | [], _, hi, _, _, _, _, _ => by simp at hi
  | x :: l, 0, _, j, hj, v, r, h => by
    rw [List.flatMap_cons, List.set_cons_zero, List.flatMap_cons, Nat.zero_mul, Nat.zero_add, List.set_append_left _ _ (by rw [rwC_len]; exact hj)]
    congr 1
  | x :: l, i + 1, hi, j, hj, v, r, h => by
    rw [List.flatMap_cons, List.set_cons_succ, List.flatMap_cons, List.set_append_right _ _ (by rw [rwC_len]; omega), rwC_len, show (i + 1) * 10 + j - 10 = i * 10 + j by omega]
    congr 1
    exact flat_setR l i (by simpa using hi) j hj v r h
theorem still_step {l : List Rw} {k : Nat} (hk : k < l.length) : (((l.take k).map Rw.still ++ l.drop k).set k { l[k] with mtime := 0 }).set k l[k].still = (l.take (k + 1)).map Rw.still ++ l.drop (k + 1) := by
  have h1 : ((l.take k).map Rw.still).length = k := by rw [List.length_map, List.length_take]; omega
  rw [List.set_set, List.set_append_right _ _ (by omega), h1, Nat.sub_self, List.drop_eq_getElem_cons hk, List.set_cons_zero, List.take_succ_eq_append_getElem hk, List.map_append, List.append_assoc]
  rfl
theorem OR.still {w : World} {base g cap : Nat} {l : List Rw} {k : Nat} (hk : k < l.length) (h : OR w base (.slice (some ⟨g, 0, none⟩) l.length cap) ((l.take k).map Rw.still ++ l.drop k)) :
    OR ((w.setCell ⟨g, k * 10 + 5, none⟩ (.int .i64 0)).setCell ⟨g, k * 10 + 6, none⟩ (.int .i64 0)) base (.slice (some ⟨g, 0, none⟩) l.length cap) ((l.take (k + 1)).map Rw.still ++ l.drop (k + 1)) := by
  have h1 : ((l.take k).map Rw.still).length = k := by rw [List.length_map, List.length_take]; omega
  have hlen : ((l.take k).map Rw.still ++ l.drop k).length = l.length := by rw [List.length_append, h1, List.length_drop]; omega
  have hlen2 : ((l.take (k + 1)).map Rw.still ++ l.drop (k + 1)).length = l.length := by rw [List.length_append, List.length_map, List.length_take, List.length_drop]; omega
  have hget : ((l.take k).map Rw.still ++ l.drop k)[k]'(by omega) = l[k] := by
    rw [List.getElem_append_right (by omega)]
    simp only [h1, Nat.sub_self, List.getElem_drop, Nat.add_zero]
  unfold OR at h ⊢
  rw [hlen] at h
  rw [hlen2, ← still_step hk]
  have h2 := own_cell' h (k * 10 + 5) (.int .i64 0)
  rw [flat_setR _ k (by omega) 5 (by omega) (.int .i64 0) { l[k] with mtime := 0 } (by rw [hget]; rfl)] at h2
  have h3 := own_cell' h2 (k * 10 + 6) (.int .i64 0)
  rw [flat_setR _ k (by rw [List.length_set]; omega) 6 (by omega) (.int .i64 0) l[k].still (by rw [List.getElem_set_self]; rfl)] at h3
  exact h3
set_option maxRecDepth 100000 in
set_option maxHeartbeats 4000000 in
theorem dstill_any (w : World) {a : Option Addr} {n c : Nat} {l : List Rw} (hA : SliceAt w 10 rwQ a n c l) (hl : n ≤ 10000) :
    Calls Tryz.prog 21 #[.slice a n c] w fun e w' => ∃ v, e = .returned v ∧ OR w' w.heap.size v (stillL l) ∧ Below w.heap.size w w' := by
  obtain rfl := hA.1
  have HC := Lib.hid (rclone_any l a _ c w hA hl)
  clear hA
  go_enter Tryz.func21, Tryz.ntmps21
  go_wp2_with fail
  refine HC.out.mono ?_
  rintro e w1 ⟨⟨v, rfl, ho⟩, hb1⟩
  have HB1 := Lib.hid hb1
  obtain ⟨oa, oc, rfl, ho1, ho2, hform⟩ := own_form ho
  have HO := Lib.hid ho
  have HForm := Lib.hid hform
  clear ho hb1 hform
  go_wp2_with fail
  go_loopw [9] (fun t9 wr => ∃ k : Nat, k ≤ l.length ∧ t9 = .int .i64 k ∧ OR wr w.heap.size (.slice oa l.length oc) ((l.take k).map Rw.still ++ l.drop k) ∧ Below w.heap.size w wr) (fun t9 _ => l.length - (intOf t9).toNat)
  case atStart => exact ⟨0, Nat.zero_le _, rfl, HO.out, HB1.out⟩
  case round =>
    obtain ⟨k, hk, rfl, hO, hb⟩ := hrel
    have HOr := Lib.hid hO
    have HB := Lib.hid hb
    by_cases hlt : k < l.length
    · obtain ⟨g, rfl, hg1, hg2⟩ : ∃ g, oa = some ⟨g, 0, none⟩ ∧ w.heap.size ≤ g ∧ g < w1.heap.size := by
        rcases HForm.out with ⟨-, h, -⟩ | ⟨g, h1, h2, h3⟩
        · omega
        · exact ⟨g, h1, h2, h3⟩
      have hfr : ∀ i, wr.frozen? ⟨g, i, none⟩ = false := by
        rcases hO.2 with ⟨hv, -⟩ | ⟨g', cap', cur, hv, hb', hg, h1, h2, h3, h4⟩
        · cases hv
        · injection hv with e1 e2 e3
          injection e1 with e1
          injection e1 with e1
          subst e1
          have hB : Blk wr g cur 47 := hg
          exact hB.facts.2.1
      have f5 := hfr (k * 10 + 5)
      have f6 := hfr (k * 10 + 6)
      have HSt := Lib.hid (OR.still hlt hO)
      have hlt0 : g < wr.heap.size := by
        rcases hO.2 with ⟨hv, -⟩ | ⟨g', cap', cur, hv, hb', hg, h1, h2, h3, h4⟩
        · cases hv
        · injection hv with e1 e2 e3
          injection e1 with e1
          injection e1 with e1
          subst e1
          exact (Array.getElem?_eq_some_iff.1 hg).1
      obtain ⟨p5, p6, hp5, hp6⟩ : ∃ v v', wr.cell? ⟨g, k * 10 + 5, none⟩ = some v ∧ wr.cell? ⟨g, k * 10 + 6, none⟩ = some v' := by
        have h10 : ((l.take k).map Rw.still ++ l.drop k).length = l.length := by simp; omega
        have hO' := hO
        rw [show (Value.slice (some ⟨g, 0, none⟩) l.length oc) = .slice (some ⟨g, 0, none⟩) ((l.take k).map Rw.still ++ l.drop k).length oc by rw [h10]] at hO'
        have h1 := (rows_cell (OR.at hO') k (by omega)).2.2.2.2.2.1
        have h2 := (rows_cell (OR.at hO') k (by omega)).2.2.2.2.2.2.1
        rw [Nat.zero_add] at h1 h2
        exact ⟨_, _, h1, h2⟩
      have hB1 := below_box HB.out hg1 HB.out.size (k * 10 + 5) (.int .i64 0)
      have HB2 := Lib.hid (below_box hB1 hg1 hB1.size (k * 10 + 6) (.int .i64 0))
      clear hO hb hfr hB1
      go_wp2_with fail
      go_roundw
      case measure => simp [intOf]; omega
      case rel => exact ⟨k + 1, by omega, by go_num, HSt.out, HB2.out⟩
    · obtain rfl : k = l.length := by omega
      have HZ := Lib.hid (show OR wr w.heap.size (.slice oa l.length oc) (stillL l) by
        have := HOr.out
        rw [List.take_length, List.drop_length, List.append_nil] at this
        exact this)
      clear hO hb
      go_wp2_with fail
      go_ret
      exact ⟨_, rfl, HZ.out, HB.out⟩
theorem stillL_take {l : List Rw} {k : Nat} (hk : k < l.length) : stillL (l.take (k + 1)) = stillL (l.take k) ++ [l[k].still] := by
  unfold stillL
  rw [List.take_succ_eq_append_getElem hk, List.map_append]
  rfl
set_option maxRecDepth 100000 in
set_option maxHeartbeats 4000000 in
theorem rstill_any (w : World) {a : Option Addr} {n c : Nat} {l : List Rw} (hA : SliceAt w 10 rwQ a n c l) (hl : n ≤ 10000) :
    Calls Tryz.prog 22 #[.slice a n c] w fun e w' => ∃ v, e = .returned v ∧ OR w' w.heap.size v (stillL l) ∧ Below w.heap.size w w' := by
  obtain rfl := hA.1
  have HA := Lib.hid hA
  have HO0 := Lib.hid (show OR w w.heap.size (.slice none 0 0) (stillL (l.take 0)) from OR.nil w w.heap.size)
  have HE := Lib.hid (show stillL l = stillL (l.take l.length) by rw [List.take_length])
  generalize stillL l = Z at HE ⊢
  clear hA
  go_enter Tryz.func22, Tryz.ntmps22
  go_wp2_with fail
  go_loopw [3, 4] (fun t3 t4 wr => ∃ k : Nat, k ≤ l.length ∧ t4 = .int .i64 k ∧ OR wr w.heap.size t3 (stillL (l.take k)) ∧ Below w.heap.size w wr) (fun _ t4 _ => l.length - (intOf t4).toNat)
  case atStart => exact ⟨0, Nat.zero_le _, rfl, HO0.out, Below.refl _ _⟩
  case round =>
    obtain ⟨k, hk, rfl, hO, hb⟩ := hrel
    have HB := Lib.hid hb
    by_cases hlt : k < l.length
    · have hA2 := HA.out.below hb (Nat.le_refl _)
      obtain ⟨ba, oa, rfl, -⟩ := rowsAt_some hA2 (by omega)
      obtain ⟨c0, c1, c2, c3, c4, c5, c6, c7, c8, c9⟩ := rows_cell hA2 k hlt
      have HStep := Lib.hid (stillL_take hlt)
      have hlk : (stillL (l.take k)).length = k := by unfold stillL; rw [List.length_map, List.length_take]; omega
      generalize l[k] = r at c0 c1 c2 c3 c4 c5 c6 c7 c8 c9 HStep
      obtain ⟨oo, oc, ht3, ho1, ho2, -⟩ := own_form hO
      rw [hlk] at ht3
      subst ht3
      have hX := Blk.new wr (rwC r).toArray 47
      have hbX := balloc hb (.cells (rwC r).toArray 47)
      have hOX := own_keep hO ((Below.refl _ wr).alloc (Nat.le_refl _) (.cells (rwC r).toArray 47))
      have hne : (Value.slice oo k oc).ownBlock ≠ some wr.heap.size := fun he => by
        obtain ⟨-, cur, hc⟩ := own_obj1 hO he
        have := (Array.getElem?_eq_some_iff.1 hc).1
        omega
      have hbw : w.heap.size ≤ wr.heap.size := HB.out.size
      simp only [rwC] at hX hbX hOX
      clear hO hA2 hb
      go_upto_region 6 with fail
      generalize wr.alloc (.cells #[.string r.path, .int .i64 r.kind, .int .i64 r.mode, .int .i64 r.uid, .int .i64 r.gid, .int .i64 r.mtime, .int .i64 r.ctime, .int .i64 r.dev, .int .i64 r.first, .string r.data] 47) = X at hX hbX hOX ⊢
      generalize wr.heap.size = bx at hX hne hbw ⊢
      obtain ⟨xc, xf, xz⟩ := hX.facts
      have hX5 := hX.set 5 (.int .i64 0)
      have hO5 := OR.box hOX hX hne 5 (.int .i64 0)
      have hB5 := below_box hbX hbw hbX.size (b := bx) 5 (.int .i64 0)
      clear c0 c1 c2 c3 c4 c5 c6 c7 c8 c9 hX hOX hbX
      go_upto_region 7 with fail
      generalize X.setCell ⟨bx, 5, none⟩ (.int .i64 0) = X5 at hX5 hO5 hB5 ⊢
      simp only [List.setIfInBounds_toArray, List.set_cons_zero, List.set_cons_succ] at hX5
      clear xc xf xz
      obtain ⟨xc, xf, xz⟩ := hX5.facts
      have hX6 := hX5.set 6 (.int .i64 0)
      have hO6 := OR.box hO5 hX5 hne 6 (.int .i64 0)
      have hB6 := below_box hB5 hbw hB5.size (b := bx) 6 (.int .i64 0)
      clear hX5 hO5 hB5
      go_upto_region 8 with fail
      generalize X5.setCell ⟨bx, 6, none⟩ (.int .i64 0) = X6 at hX6 hO6 hB6 ⊢
      simp only [List.setIfInBounds_toArray, List.set_cons_zero, List.set_cons_succ] at hX6
      clear xc xf xz
      obtain ⟨xc, xf, xz⟩ := hX6.facts
      obtain ⟨g9, cap9, W9, hrun9, hO9, hm9⟩ := OR.app hO6 r.still (by omega) hB6.size
      simp only [rwC, Rw.still] at hrun9
      rw [hlk] at hrun9 hO9
      have HR9 := Lib.hid hrun9
      have HO9 := Lib.hid hO9
      have HB9 := Lib.hid (hB6.trans (hm9.below (fun _ hk => (own_obj1 hO6 hk).1) hB6.size))
      clear hrun9 hO9 hm9 hO6 hB6 hX6
      go_wp2_with (at_builtin; refine wpList_app_run rfl rfl rfl rfl HR9.out ?_)
      go_roundw
      case measure => simp [intOf]; omega
      case rel => exact ⟨k + 1, by omega, by go_num, by rw [HStep.out]; exact HO9.out, HB9.out⟩
    · obtain rfl : k = l.length := by omega
      rw [← HE.out] at hO
      have HO := Lib.hid hO
      clear hO hb
      go_wp2_with fail
      go_ret
      exact ⟨_, rfl, HO.out, HB.out⟩
end Go.Proofs.YtaojpbgaengdpaaGreatDoor
