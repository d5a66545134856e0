/- Texts of the proof, part 2. -/
import Derived.Deep.CutBlock
import Derived.Deep.DeepCutAuto
import Derived.RegionTactic
import Derived.BigRegion
import Derived.Test.YtaojpbgaengdpaaGreatDoorDU39
import Derived.Test.YtaojpbgaengdpaaGreatDoorDU14
import Derived.Test.YtaojpbgaengdpaaGreatDoorDU2
set_option linter.unusedVariables false
set_option linter.unusedSimpArgs false
/- Clean paths: ragpickerref03.Clean. -/
namespace Go.Proofs.YtaojpbgaengdpaaGreatDoor

open Go.RowKit

/-- one part more, as the reference asks. -/
theorem clS_other {whole : Bool} {out : List (List UInt8)} {p : List UInt8} (h : p ≠ ddB) : clS whole out p = out ++ [p] := by unfold clS; rw [if_pos h]
theorem clS_less {whole : Bool} {out : List (List UInt8)} (h : out ≠ []) (h2 : ∀ x, out.getLast? = some x → x ≠ ddB) : clS whole out ddB = out.dropLast := by
  unfold clS
  rw [if_neg (fun e => e rfl), if_pos]
  refine ⟨h, fun e => h2 _ e rfl⟩
theorem clS_stay {whole : Bool} {out : List (List UInt8)} (h : out = [] ∨ out.getLast? = some ddB) : clS whole out ddB = if whole then out else out ++ [ddB] := by
  unfold clS
  rw [if_neg (fun e => e rfl), if_neg]
  rintro ⟨h1, h2⟩
  exact h.elim h1 h2
theorem last_get {l : List (List UInt8)} (h : 0 < l.length) : l.getLast? = some l[l.length - 1] := by
  rw [List.getLast?_eq_getElem?, List.getElem?_eq_getElem (by omega)]
theorem join_take (l : List (List UInt8)) (k : Nat) (hk : k < l.length) : Lib.join (l.take (k + 1)) [47] = if k = 0 then l[k] else Lib.join (l.take k) [47] ++ [47] ++ l[k] := by
  rw [List.take_succ_eq_append_getElem hk]
  by_cases h : k = 0
  · subst h
    rw [if_pos rfl, List.take_zero, List.nil_append, join_one]
  · rw [if_neg h]
    obtain ⟨y, r, e⟩ : ∃ y r, l.take k = y :: r := by
      cases e : l.take k with
      | nil => have h3 := congrArg List.length e; rw [List.length_take, List.length_nil] at h3; omega
      | cons y r => exact ⟨y, r, rfl⟩
    rw [e, join_snoc]
    simp
set_option maxRecDepth 100000 in
set_option maxHeartbeats 4000000 in
/-- ragpickerref03.Clean. -/
theorem rclean_any (s : ByteArray) (w : World) (hs : s.size ≤ 100000) :
    Calls Tryz.prog 47 #[.string s] w fun e w' => e = .returned (.string (cleanB s)) ∧ Below w.heap.size w w' := by
  have HPt := Lib.hid (rparts_any s w hs)
  have hpl : ∀ x ∈ partsL s.data.toList, x.length ≤ 100000 := fun x hx => by
    have h1 := spl_size 47 s.data.toList x (List.mem_filter.1 hx).1
    have h2 : s.data.toList.length = s.size := Array.length_toList
    omega
  have hpn : (partsL s.data.toList).length ≤ 100001 := by
    have h1 := Nat.le_trans (List.length_filter_le (fun p => !(p == []) && !(p == [46])) (spl 47 s.data.toList)) (spl_len 47 s.data.toList).2
    have h2 : s.data.toList.length = s.size := Array.length_toList
    unfold partsL
    omega
  have HRs := Lib.hid (show cleanB s = str (if wholeB s.data.toList then 47 :: Lib.join (clL true (partsL s.data.toList)) [47] else if Lib.join (clL false (partsL s.data.toList)) [47] = [] then [46] else Lib.join (clL false (partsL s.data.toList)) [47]) from rfl)
  have HW0 := Lib.hid (show wholeB s.data.toList = (decide (0 < s.size) && (if h : 0 < s.size then decide (s[0] = 47) else false)) by
    obtain ⟨⟨l⟩⟩ := s
    cases l with
    | nil => rfl
    | cons x l => rfl)
  generalize partsL s.data.toList = ls at HPt HRs hpl hpn
  generalize cleanB s = R at HRs ⊢
  generalize wholeB s.data.toList = wh at HRs HW0
  have HPl := Lib.hid hpl
  clear hpl
  have hjl : ∀ (b : Bool) (k : Nat), (Lib.join ((clL b ls).take k) [47]).length ≤ 100001 * 100001 := fun b k => by
    have h1 := join_len 100000 ((clL b ls).take k) (fun x hx => HPl.out x (clL_mem (List.mem_of_mem_take hx)))
    have h2 := clL_len b ls
    have h3 : ((clL b ls).take k).length ≤ 100001 := by rw [List.length_take]; omega
    exact Nat.le_trans h1 (Nat.mul_le_mul h3 (by omega))
  have HJl := Lib.hid hjl
  clear hjl
  have key : wh = true ∧ (∃ h : 0 < s.size, s[0] = 47) ∨ wh = false ∧ ∀ h : 0 < s.size, s[0] ≠ 47 := by
    rw [HW0.out]
    by_cases h : 0 < s.size
    · by_cases h2 : s[0] = 47
      · exact .inl ⟨by simp [h, h2], h, h2⟩
      · exact .inr ⟨by simp [h, h2], fun _ => h2⟩
    · exact .inr ⟨by simp [h], fun h' => absurd h' h⟩
  have hfst : ∃ v : Value, v = .bool wh := ⟨_, rfl⟩
  go_enter Tryz.func47, Tryz.ntmps47
  go_upto_region 1 with fail
  go_cut [3] (fun t3 wx => t3 = .bool wh ∧ wx = w)
  case first =>
    rcases key with ⟨rfl, h0, h1⟩ | ⟨rfl, h1⟩
    · have h2 : (((s[0] : UInt8).toNat : Int) == 47) = true := by rw [h1]; rfl
      go_wp2_with fail
      go_meet
      exact ⟨rfl, rfl⟩
    · by_cases h0 : 0 < s.size
      · have h2 : (((s[0] : UInt8).toNat : Int) == 47) = false := by
          simp only [beq_eq_false_iff_ne, ne_eq]
          intro h
          exact h1 h0 (by rw [u8_eq]; show (s[0] : UInt8).toNat = 47; omega)
        go_wp2_with fail
        go_meet
        exact ⟨rfl, rfl⟩
      · go_wp2_with fail
        go_meet
        exact ⟨rfl, rfl⟩
  case rest =>
    obtain ⟨rfl, rfl⟩ := hcut
    clear key hfst HW0
    go_wp2_with fail
    refine HPt.out.mono ?_
    rintro e w1 ⟨⟨pv, rfl, hO⟩, hb1⟩
    obtain ⟨a0, c0, rfl, -, -⟩ := hO.len
    have HO := Lib.hid hO
    have HB := Lib.hid hb1
    clear hO hb1
    go_wp2_with fail
    go_loopw [4, 6] (fun t4 t6 wr => ∃ (k : Nat), k ≤ ls.length ∧ t6 = .int .i64 k ∧ OS wr w1.heap.size t4 (clL wh (ls.take k)) ∧ Below w1.heap.size w1 wr) (fun _ t6 _ => ls.length - (intOf t6).toNat)
    case atStart => exact ⟨0, Nat.zero_le _, rfl, ⟨rfl, .inl ⟨rfl, rfl⟩⟩, Below.refl _ _⟩
    case round =>
      obtain ⟨k, hk, rfl, hO1, hW⟩ := hrel
      obtain ⟨a1, c1, rfl, hc1, hc2⟩ := hO1.len
      have HW := Lib.hid hW
      by_cases hlt : k < ls.length
      · obtain ⟨g, rfl, hgl, hcl⟩ := (HO.out.keep2 hW).at' k hlt
        have HSt := Lib.hid (show clL wh (ls.take (k + 1)) = clS wh (clL wh (ls.take k)) ls[k] by rw [List.take_succ_eq_append_getElem hlt, clL_snoc])
        have hol : (clL wh (ls.take k)).length ≤ 100001 := by
          have h1 := clL_len wh (ls.take k)
          have h2 : (ls.take k).length ≤ ls.length := by rw [List.length_take]; omega
          omega
        obtain ⟨g2, cap2, W, hrun, hO2, hB2⟩ := hO1.app ls[k] (by omega) hW.size
        have HO1 := Lib.hid hO1
        have HX := Lib.hid (And.intro hO2 hB2)
        have HTx := Lib.hid (ba_list (str ls[k]))
        rw [str_list] at HTx
        clear hO2 hB2
        generalize ls[k] = x at hcl HSt hrun HX HTx
        generalize clL wh (ls.take k) = out at HSt hrun HX HO1 hO1 hol hc1
        generalize str x = p at hcl hrun HTx
        have HR := Lib.hid hrun
        clear hrun
        by_cases hx : p.toList = [46, 46]
        · have hp : (p.toList == [46, 46]) = true := by simpa using hx
          obtain rfl : x = ddB := by rw [← HTx.out, hx]; rfl
          clear hx
          by_cases hstay : out = [] ∨ out.getLast? = some ddB
          · have HSt2 := Lib.hid (HSt.out.trans (clS_stay hstay))
            have hfacts : out = [] ∨ ((0 : Int) < (out.length : Int) ∧ ∃ (g3 : Nat) (q : ByteArray), a1 = some ⟨g3, 0, none⟩ ∧ g3 < wr.heap.size ∧ wr.cell? ⟨g3, out.length - 1, none⟩ = some (.string q) ∧ (q.toList == [46, 46]) = true) := by
              by_cases h0 : out.length = 0
              · left; exact List.eq_nil_of_length_eq_zero h0
              · right
                refine ⟨by omega, ?_⟩
                obtain ⟨g3, h1, h2, h3⟩ := hO1.at' (out.length - 1) (by omega)
                refine ⟨g3, _, h1, h2, h3, ?_⟩
                rcases hstay with h | h
                · subst h; exact absurd rfl h0
                · rw [last_get (by omega)] at h
                  injection h with h
                  rw [h, ba_list, str_list]
                  rfl
            clear hstay hO1
            rcases hfacts with rfl | ⟨hz, g3, q, rfl, hg3, hcl3, hq⟩
            · simp only [List.length_nil] at HR HX HO1 ⊢
              cases wh
              · go_wp2_with (at_builtin; refine wpList_app_run rfl rfl rfl rfl HR.out ?_)
                go_roundw
                case measure => simp [intOf]; omega
                case rel => exact ⟨k + 1, by omega, by go_num, by rw [HSt2.out]; exact HX.out.1, HW.out.trans HX.out.2⟩
              · go_wp2_with fail
                go_roundw
                case measure => simp [intOf]; omega
                case rel => exact ⟨k + 1, by omega, by go_num, by rw [HSt2.out]; exact HO1.out, HW.out⟩
            · cases wh
              · go_wp2_with (at_builtin; refine wpList_app_run rfl rfl rfl rfl HR.out ?_)
                go_roundw
                case measure => simp [intOf]; omega
                case rel => exact ⟨k + 1, by omega, by go_num, by rw [HSt2.out]; exact HX.out.1, HW.out.trans HX.out.2⟩
              · go_wp2_with fail
                go_roundw
                case measure => simp [intOf]; omega
                case rel => exact ⟨k + 1, by omega, by go_num, by rw [HSt2.out]; exact HO1.out, HW.out⟩
          · have hne : out ≠ [] := fun e => hstay (.inl e)
            have h0 : 0 < out.length := List.length_pos_iff.2 hne
            have hz : (0 : Int) < (out.length : Int) := by omega
            have HSt2 := Lib.hid (HSt.out.trans (clS_less hne (fun y hy e => hstay (.inr (by rw [hy, e])))))
            have HL := Lib.hid (hO1.less hne)
            have hdl : out.dropLast.length = out.length - 1 := List.length_dropLast
            obtain ⟨g3, rfl, hg3, hcl3⟩ := hO1.at' (out.length - 1) (by omega)
            have hq : ((str out[out.length - 1]).toList == [46, 46]) = false := by
              rw [ba_list, str_list]
              simp only [beq_eq_false_iff_ne, ne_eq]
              intro e
              exact hstay (.inr (by rw [last_get h0, e]; rfl))
            generalize str out[out.length - 1] = q at hcl3 hq
            clear hstay hO1 hne hdl
            go_wp2_with fail
            go_roundw
            case measure => simp [intOf]; omega
            case rel => exact ⟨k + 1, by omega, by go_num, by rw [HSt2.out]; exact HL.out, HW.out⟩
        · have hp : (p.toList == [46, 46]) = false := by simpa using hx
          have HSt2 := Lib.hid (HSt.out.trans (clS_other (fun e => hx (by rw [HTx.out, e]; rfl))))
          clear hx hO1
          go_wp2_with (at_builtin; refine wpList_app_run rfl rfl rfl rfl HR.out ?_)
          go_roundw
          case measure => simp [intOf]; omega
          case rel => exact ⟨k + 1, by omega, by go_num, by rw [HSt2.out]; exact HX.out.1, HW.out.trans HX.out.2⟩
      · obtain rfl : k = ls.length := by omega
        rw [List.take_length] at hO1 hc1 ⊢
        have hol : (clL wh ls).length ≤ 100001 := Nat.le_trans (clL_len wh ls) hpn
        have HJ2 := Lib.hid (HJl.out wh)
        have HRs2 := Lib.hid (show R = str (if wh = true then 47 :: Lib.join (clL wh ls) [47] else if Lib.join (clL wh ls) [47] = [] then [46] else Lib.join (clL wh ls) [47]) by
          rw [HRs.out]
          cases wh <;> rfl)
        clear HRs HJl hpn HPl
        generalize clL wh ls = out at hO1 hol HJ2 HRs2 hc1 ⊢
        have HO2 := Lib.hid hO1
        clear hO1
        go_wp2_with fail
        go_loopw [7, 8] (fun t7 t8 w2 => ∃ (j : Nat), j ≤ out.length ∧ t8 = .int .i64 j ∧ t7 = .string (str (Lib.join (out.take j) [47])) ∧ w2 = wr) (fun _ t8 _ => out.length - (intOf t8).toNat)
        case atStart => exact ⟨0, Nat.zero_le _, rfl, rfl, rfl⟩
        case round =>
          obtain ⟨j, hj, rfl, rfl, rfl⟩ := hrel
          have hts : (str (Lib.join (out.take j) [47])).size ≤ 100001 * 100001 := by rw [str_size]; exact HJ2.out j
          by_cases hjl : j < out.length
          · obtain ⟨g3, rfl, hg3, hcl3⟩ := HO2.out.at' j hjl
            have HJn := Lib.hid (join_take out j hjl)
            have hns : (str (Lib.join (out.take (j + 1)) [47])).size ≤ 100001 * 100001 := by rw [str_size]; exact HJ2.out (j + 1)
            have HA := Lib.hid (show (str (Lib.join (out.take (j + 1)) [47])) = if j = 0 then str out[j] else str (Lib.join (out.take j) [47]) ++ ByteArray.mk #[47] ++ str out[j] by
              rw [HJn.out]
              split
              · rfl
              · rw [← str_append, ← str_append]; rfl)
            clear HJn
            have HZ := Lib.hid (show j = 0 → str (Lib.join (out.take j) [47]) = ByteArray.empty by rintro rfl; rfl)
            rw [HA.out] at hns
            generalize str (Lib.join (out.take j) [47]) = tj at HA HZ hts hns ⊢
            generalize str out[j] = q at hcl3 HA hns
            by_cases hj0 : j = 0
            · rw [if_pos hj0] at HA hns
              have HZ2 := Lib.hid (HZ.out hj0)
              clear HZ
              subst hj0
              have hs1 : ¬ 9223372036854775807 < tj.size + q.size := by omega
              go_wp2_with fail
              go_roundw
              case measure => simp [intOf]; omega
              case rel => exact ⟨0 + 1, by omega, by go_num, by rw [HA.out, HZ2.out]; simp, by trivial⟩
            · rw [if_neg hj0] at HA hns
              have hs2 : tj.size + 1 + q.size ≤ 100001 * 100001 := by
                rw [ByteArray.size_append, ByteArray.size_append] at hns
                exact hns
              have hj1 : (0 : Int) < (j : Int) := by omega
              have hs0 : ¬ 9223372036854775807 < tj.size + 1 := by omega
              have hs1 : ¬ 9223372036854775807 < (tj ++ ByteArray.mk #[47]).size + q.size := by rw [ByteArray.size_append]; show ¬ 9223372036854775807 < tj.size + 1 + q.size; omega
              go_wp2_with fail
              go_roundw
              case measure => simp [intOf]; omega
              case rel => exact ⟨j + 1, by omega, by go_num, by rw [HA.out], by trivial⟩
          · obtain rfl : j = out.length := by omega
            rw [List.take_length] at hts ⊢
            have HTl := Lib.hid (ba_list (str (Lib.join out [47])))
            rw [str_list] at HTl
            have HStr := Lib.hid (show str (47 :: Lib.join out [47]) = ByteArray.mk #[47] ++ str (Lib.join out [47]) by rw [show (47 :: Lib.join out [47]) = [47] ++ Lib.join out [47] from rfl, ← str_append]; rfl)
            generalize hJ : Lib.join out [47] = jn at *
            generalize str jn = tj at *
            cases wh with
            | true =>
              have hs1 : ¬ 9223372036854775807 < 1 + tj.size := by omega
              go_wp2_with fail
              go_ret
              have h : R = ByteArray.mk #[47] ++ tj := by rw [HRs2.out, ← HStr.out]; simp
              exact ⟨by rw [h]; rfl, bnext HB.out HW.out⟩
            | false =>
              by_cases hte : tj.toList = []
              · have HE := Lib.hid (show jn = [] by rw [← HTl.out, hte])
                go_wp2_with fail
                go_ret
                have h : R = ByteArray.mk #[46] := by rw [HRs2.out, HE.out]; rfl
                exact ⟨by rw [h]; rfl, bnext HB.out HW.out⟩
              · have hp1 : tj.toList.isEmpty = false := by simpa using hte
                have HE := Lib.hid (show ¬ jn = [] by rw [← HTl.out]; exact hte)
                have HTs := Lib.hid (show str jn = tj by rw [← HTl.out, ba_list, str_of])
                clear hte
                go_wp2_with fail
                go_ret
                have h : R = tj := by rw [HRs2.out, ← HTs.out]; simp [HE.out]
                exact ⟨by rw [h]; rfl, bnext HB.out HW.out⟩
end Go.Proofs.YtaojpbgaengdpaaGreatDoor

/- Clean paths: track.Clean. -/
namespace Go.Proofs.YtaojpbgaengdpaaGreatDoor

open Go.RowKit Go.Shelf

attribute [local go_sem] Oper.semAt_some

theorem prefix_whole (l : List UInt8) : Lib.hasPrefix l [47] = wholeB l := by
  cases l with
  | nil => rfl
  | cons x l =>
    unfold wholeB Lib.hasPrefix
    simp [List.isPrefixOf, BEq.comm]
theorem blkc_turn {T : Nat → Prop} {N B : Nat} {vs : Array Value} {ty : TypeId} {w w' : World} (h : Blk w B vs ty) (ht : Turn T N notCells w w') (hT : ¬ T B) : Blk w' B vs ty := ht.block B _ h hT (fun _ => rfl)
theorem belowc_turn {T : Nat → Prop} {N M : Nat} {w0 w w' : World} (h : Below M w0 w) (ht : Turn T N notCells w w') (hN : M ≤ N) (hT : ∀ k, T k → M ≤ k) (hM : M ≤ w0.heap.size) : Below M w0 w' := by
  refine ⟨ht.os.trans h.os, ht.tape.trans h.tape, ht.output.trans h.output, Nat.le_trans h.size ht.size, fun k hk => ?_⟩
  obtain ⟨o, ho⟩ : ∃ o, w0.heap[k]? = some o := ⟨w0.heap[k]'(by omega), Array.getElem?_eq_getElem _⟩
  have h1 := (h.block k hk).trans ho
  rw [ht.block k o h1 (fun h => by have := hT k h; omega) (fun h => by omega), ho]
/-- between two rounds: the parts so far; whether the path begins at the top. -/
structure CC (w : World) (base : Nat) (wh : Bool) (pre : List (List UInt8)) (W : World) : Prop where
  whole : Blk W w.heap.size #[.bool wh] 4
  box : ∃ v, Blk W (w.heap.size + 1) #[v] 51 ∧ OS W base v (clL wh pre)
  below : Below w.heap.size w W
/-- a round's end, where the box is written anew. -/
theorem cc_put {w W1 W W' : World} {wh : Bool} {pre : List (List UInt8)} {x : List UInt8} (hz : W1.heap.size = w.heap.size + 3) (hW : W1.heap.size ≤ W.heap.size) (hK : KeepsOthers W W') (hb : Below W1.heap.size W W')
    (b3 : Blk W w.heap.size #[.bool wh] 4) (v0 v : Value) (b4 : Blk W (w.heap.size + 1) #[v0] 51) (hB : Below w.heap.size w W) (hO : OS W' W1.heap.size v (clL wh (pre ++ [x]))) :
    KeepsFrom W1.heap.size W (W'.setCell ⟨w.heap.size + 1, 0, none⟩ v) ∧ KT (fun k => k = w.heap.size + 2) W (W'.setCell ⟨w.heap.size + 1, 0, none⟩ v) ∧ CC w W1.heap.size wh (pre ++ [x]) (W'.setCell ⟨w.heap.size + 1, 0, none⟩ v) := by
  have hm : Mod (fun k => k = w.heap.size + 1) W' (W'.setCell ⟨w.heap.size + 1, 0, none⟩ v) := (Mod.refl (fun k => k = w.heap.size + 1) W').setCell (a := ⟨w.heap.size + 1, 0, none⟩) (.inl rfl) v
  refine ⟨(hK.trans (KeepsOthers.setCell _ _ _)).from _, ⟨Nat.le_trans hb.size hm.size, fun k hk => ?_⟩, ?_, ⟨v, ?_, ?_⟩, ?_⟩
  · subst hk
    rw [hm.block _ (by have := hb.size; omega) (by omega), hb.block _ (by omega)]
  · exact (b3.keepB hb (by omega)).setOther _ _ (by simp)
  · exact (b4.keepB hb (by omega)).set 0 v
  · exact own_mod hO hm (fun k hk he => by
      have := (own_obj1 hO he).1
      omega)
  · exact (hB.trans (hb.mono (by omega))).setCell (show w.heap.size ≤ w.heap.size + 1 by omega) v
theorem cc_same {w W1 W : World} {wh : Bool} {pre : List (List UInt8)} {x : List UInt8} (h : CC w W1.heap.size wh pre W) (hs : clL wh (pre ++ [x]) = clL wh pre) :
    KeepsFrom W1.heap.size W W ∧ KT (fun k => k = w.heap.size + 2) W W ∧ CC w W1.heap.size wh (pre ++ [x]) W :=
  ⟨(KeepsOthers.refl W).from _, KT.refl _ _, h.whole, by rw [hs]; exact h.box, h.below⟩
theorem map_str_list (l : List (List UInt8)) : (l.map str).map (·.data.toList) = l := by
  rw [List.map_map]
  conv => rhs; rw [← List.map_id l]
  exact List.map_congr_left fun x _ => str_list x
/-- strings.Join over texts of the call's own. -/
theorem join_any {base c : Nat} {a : Option Addr} {out : List (List UInt8)} (w : World) (h : OS w base (.slice a out.length c) out) (hl : out.length ≤ 100001) (hj : (Lib.join out [47]).length ≤ 100001 * 100001) :
    Calls Tryz.prog 123 #[.slice a out.length c, .string (ByteArray.mk #[47])] w fun e w' => e = .returned (.string (str (Lib.join out [47]))) ∧ Below w.heap.size w w' := by
  by_cases h0 : out.length = 0
  · obtain rfl := List.eq_nil_of_length_eq_zero h0
    refine (Tryz.strings_Join_none a c (ByteArray.mk #[47]) w).mono ?_
    rintro e w' ⟨rfl, rfl⟩
    exact ⟨rfl, Below.refl _ _⟩
  · obtain ⟨g, rfl, hg, -⟩ := h.at' 0 (by omega)
    obtain ⟨_, _, hv, hc1, hc2⟩ := h.len
    injection hv with e1 e2 e3
    have hcc : out.length ≤ c := by omega
    have key := Tryz.strings_Join g 0 c (out.map str) (ByteArray.mk #[47]) w (fun j x hx => by
      have hjl : j < out.length := by
        have := (List.getElem?_eq_some_iff.1 hx).1
        rwa [List.length_map] at this
      rw [List.getElem?_map, List.getElem?_eq_getElem hjl] at hx
      injection hx with hx
      obtain ⟨g', hg', -, h3⟩ := h.at' j hjl
      injection hg' with hg'
      injection hg' with e
      subst e
      rw [Nat.zero_add, ← hx]
      exact h3) hg (by rw [List.length_map]; omega) (by rw [List.length_map]; exact hcc) (by rw [map_str_list]; exact Nat.le_trans hj (by omega))
    rw [List.length_map, map_str_list] at key
    exact key
/-- track.Clean's end. -/
theorem cc_ret {R : ByteArray} {tmps : Array Value} {w W : World} {D : Nat} (hK : W.heap[D]? = some (.deferred (some []))) (hb : Below w.heap.size w W) (hD : w.heap.size ≤ D) (h2 : tmps.getD 2 undef = .string R) :
    bodyPostM Fence.wide 5 Tryz.prog Tryz.f89 (fun e w' => e = .returned (.string R) ∧ Below w.heap.size w w') .ret { tmps, defers := [{ target := .collected D, args := #[] }] } W := by
  rw [Array.getD_eq_getD_getElem?] at h2
  show LeavesInM Fence.wide 5 Tryz.prog Tryz.f89 _ _ _ _ W
  refine ⟨by simp, .inl ⟨_, _, rfl, run_takeDeferred hK, ?_⟩⟩
  refine ⟨.string R, ?_, rfl, ⟨hb.os, hb.tape, hb.output, Nat.le_trans hb.size (by simp), fun k hk => (World.putObj_heap_other (fun e => by omega)).trans (hb.block k hk)⟩⟩
  simp [results, Tryz.results89, go_sem, h2]
set_option maxRecDepth 100000 in
set_option maxHeartbeats 4000000 in
/-- track.Clean. -/
theorem clean_any (s : ByteArray) (w : World) (hs : s.size ≤ 100000) :
    Calls Tryz.prog 89 #[.string s] w fun e w' => e = .returned (.string (cleanB s)) ∧ Below w.heap.size w w' := by
  have HHp := Lib.hid (show ∀ w, Calls Tryz.prog 90 #[.string s, .string (ByteArray.mk #[47])] w fun e w' => e = .returned (.bool (wholeB s.data.toList)) ∧ w' = w from fun w => by
    have h := Tryz.strings_HasPrefix s (ByteArray.mk #[47]) w
    rw [show (ByteArray.mk #[47]).data.toList = [47] from rfl, prefix_whole] at h
    exact h)
  have HRs := Lib.hid (show cleanB s = str (if wholeB s.data.toList = true then 47 :: Lib.join (clL (wholeB s.data.toList) (partsL s.data.toList)) [47] else if Lib.join (clL (wholeB s.data.toList) (partsL s.data.toList)) [47] = [] then [46] else Lib.join (clL (wholeB s.data.toList) (partsL s.data.toList)) [47]) by
    unfold cleanB cleanL
    cases wholeB s.data.toList <;> rfl)
  generalize cleanB s = R at HRs ⊢
  generalize wholeB s.data.toList = wh at HRs HHp
  have HPa := Lib.hid (fun w => nparts_any s w)
  have hpn : (partsL s.data.toList).length ≤ 100001 := by
    have h1 := parts_len s.data.toList
    have h2 : s.data.toList.length = s.size := Array.length_toList
    omega
  refine (callsIn_wide (n := 5)).1 ?_
  refine callsIn_of_wp_marks Tryz.func89 rfl trivial ?_ rfl
  simp only [Tryz.ntmps89, List.size_toArray, List.length_cons, List.length_nil, Nat.reduceAdd, Nat.reduceSub, Array.replicate_succ, Array.replicate_zero, List.push_toArray, List.append_toArray, List.nil_append, List.cons_append]
  gi_wp2
  refine ⟨trivial, ?_⟩
  refine (callsIn_wide.2 (HHp.out _)).mono ?_
  rintro e w1 ⟨rfl, rfl⟩
  have q3 := ((Blk.new w1 #[.bool wh] 4).old (.cells #[.slice none 0 0] 51)).old (.cells #[.string s] 9)
  have q4 := (Blk.new (w1.alloc (.cells #[.bool wh] 4)) #[.slice none 0 0] 51).old (.cells #[.string s] 9)
  have qs := Blk.new ((w1.alloc (.cells #[.bool wh] 4)).alloc (.cells #[.slice none 0 0] 51)) #[.string s] 9
  have hB0 := balloc (balloc (balloc (Below.refl w1.heap.size w1) (.cells #[.bool wh] 4)) (.cells #[.slice none 0 0] 51)) (.cells #[.string s] 9)
  have hz : (((w1.alloc (.cells #[.bool wh] 4)).alloc (.cells #[.slice none 0 0] 51)).alloc (.cells #[.string s] 9)).heap.size = w1.heap.size + 3 := by simp
  have hz2 : ((w1.alloc (.cells #[.bool wh] 4)).alloc (.cells #[.slice none 0 0] 51)).heap.size = w1.heap.size + 2 := by simp
  have hz1 : (w1.alloc (.cells #[.bool wh] 4)).heap.size = w1.heap.size + 1 := by simp
  rw [hz1] at q4
  rw [hz2] at qs
  gi_wp2
  refine ⟨trivial, ?_⟩
  refine (callsIn_wide.2 (HPa.out _)).mono ?_
  rintro e W1 ⟨rfl, rfl⟩
  generalize ((w1.alloc (.cells #[.bool wh] 4)).alloc (.cells #[.slice none 0 0] 51)).alloc (.cells #[.string s] 9) = W1 at q3 q4 qs hB0 hz ⊢
  rw [hz2]
  have Q3 := Lib.hid q3
  have Q4 := Lib.hid q4
  have QS := Lib.hid qs
  have HB0 := Lib.hid hB0
  clear q3 q4 qs hB0 hz2 hz1
  gi_wp2
  refine' wpIn_rangeT (T := fun k => k = w1.heap.size + 2) rfl (by omega) (gf := 147) (lb := #[.pointer (some ⟨w1.heap.size + 2, 0, none⟩)]) rfl trivial (enters_of Tryz.func147 (by kernel_rfl) rfl)
    (parts_stops (5 - 1) (by omega) (w1.heap.size + 2) s hs W1 QS.out) (fun k hk => by omega) (KT.refl _ _) (fun _ => rfl)
    (fun pre W => CC w1 W1.heap.size wh pre W)
    (fun _ _ _ => False)
    (fun pre A B h ht => ?own) (fun c pre A B h ht => h) ⟨Q3.out, ⟨_, Q4.out, OS.nil _ _⟩, HB0.out⟩ _ ?assign ?body ?done (fun D c pre W _ _ h _ => h.elim)
  case own =>
    obtain ⟨h0, ⟨v, h1, h2⟩, h3⟩ := h
    exact ⟨blkc_turn h0 ht (fun e => by omega), ⟨v, blkc_turn h1 ht (fun e => by omega), h2.turn (fun k cur hk hc => ht.block _ _ hc (fun e => by omega) (fun _ => rfl))⟩, belowc_turn h3 ht (by omega) (fun k e => by omega) (Nat.le_refl _)⟩
  case assign =>
    intro L x W K hK
    gi_wp2
    exact hK
  case body =>
    rintro L pre x W hL hLW ⟨b3, ⟨v, b4, hO⟩, hB⟩ hv
    have hcl : clL wh (pre ++ [x]) = clS wh (clL wh pre) x := clL_snoc wh pre x
    have hol : (clL wh pre).length ≤ 100001 := by
      have h1 := clL_len wh pre
      have h2 := hv.length_le
      rw [List.length_append, List.length_singleton] at h2
      omega
    have HC := Lib.hid (show CC w1 W1.heap.size wh pre W from ⟨b3, ⟨v, b4, hO⟩, hB⟩)
    obtain ⟨a, c, rfl, hc1, hc2⟩ := hO.len
    obtain ⟨g2, cap2, W2, hrun, hO2, hB2, hKO, hg2⟩ := hO.appK x (by omega) (show W1.heap.size ≤ W.heap.size by omega)
    have HCl := Lib.hid hcl
    have HR := Lib.hid hrun
    have k3 := b3.keepB hB2 (show w1.heap.size < W1.heap.size by omega)
    have k4 := b4.keepB hB2 (show w1.heap.size + 1 < W1.heap.size by omega)
    obtain ⟨x3, f3, z3⟩ := b3.facts
    obtain ⟨x4, f4, z4⟩ := b4.facts
    obtain ⟨y4, e4, u4⟩ := k4.facts
    have HB3 := Lib.hid b3
    have HB4 := Lib.hid b4
    have HOS := Lib.hid hO
    have HX := Lib.hid (And.intro hO2 (And.intro hB2 (And.intro hKO hB)))
    have HT := Lib.hid (ba_list (str x))
    rw [str_list] at HT
    clear hrun hO2 hB2 hKO hB hcl k3 k4 b3 b4 hv
    obtain ⟨out, hout⟩ : ∃ out, clL wh pre = out := ⟨_, rfl⟩
    rw [hout] at HCl HR HX HOS hc1 x4 hol
    have HOut := Lib.hid hout
    clear hout
    by_cases hx : x = ddB
    · subst hx
      have hp : ((str ddB).toList == [46, 46]) = true := by rw [HT.out]; rfl
      by_cases hstay : out = [] ∨ out.getLast? = some ddB
      · have HSt := Lib.hid (HCl.out.trans (clS_stay hstay))
        have hfacts : out = [] ∨ ((0 : Int) < (out.length : Int) ∧ ∃ (g3 : Nat) (q : ByteArray), a = some ⟨g3, 0, none⟩ ∧ g3 < W.heap.size ∧ W.cell? ⟨g3, out.length - 1, none⟩ = some (.string q) ∧ (q.toList == [46, 46]) = true) := by
          by_cases h0 : out.length = 0
          · left; exact List.eq_nil_of_length_eq_zero h0
          · right
            refine ⟨by omega, ?_⟩
            obtain ⟨g3, h1, h2, h3⟩ := HOS.out.at' (out.length - 1) (by omega)
            refine ⟨g3, _, h1, h2, h3, ?_⟩
            rcases hstay with h | h
            · rw [h] at h0; exact absurd rfl h0
            · rw [last_get (by omega)] at h
              injection h with h
              rw [h, ba_list, str_list]
              rfl
        clear hstay
        rcases hfacts with rfl | ⟨hz0, g3, q, rfl, hg3, hcl3, hq⟩
        · simp only [List.length_nil] at HR HX HOS x4
          cases wh
          · gi_wp2_with (gi_at_builtin; refine wpListIn_app_run1 rfl rfl rfl rfl HR.out ?_)
            exact cc_put (w := w1) (W1 := W1) (W' := W2) hz (by omega) HX.out.2.2.1 HX.out.2.1 HB3.out _ _ HB4.out HX.out.2.2.2 (by rw [HSt.out, if_neg (by decide)]; exact HX.out.1)
          · gi_wp2
            have hend := cc_same HC.out (x := ddB) (by rw [HSt.out, HOut.out]; simp)
            rw [hz] at hend
            exact hend
        · cases wh
          · gi_wp2_with (gi_at_builtin; refine wpListIn_app_run1 rfl rfl rfl rfl HR.out ?_)
            exact cc_put (w := w1) (W1 := W1) (W' := W2) hz (by omega) HX.out.2.2.1 HX.out.2.1 HB3.out _ _ HB4.out HX.out.2.2.2 (by rw [HSt.out, if_neg (by decide)]; exact HX.out.1)
          · gi_wp2
            have hend := cc_same HC.out (x := ddB) (by rw [HSt.out, HOut.out]; simp)
            rw [hz] at hend
            exact hend
      · have hne : out ≠ [] := fun e => hstay (.inl e)
        have h0 : 0 < out.length := List.length_pos_iff.2 hne
        have hz0 : (0 : Int) < (out.length : Int) := by omega
        have HSt := Lib.hid (HCl.out.trans (clS_less hne (fun y hy e => hstay (.inr (by rw [hy, e])))))
        have HL := Lib.hid (HOS.out.less hne)
        obtain ⟨g3, rfl, hg3, hcl3⟩ := HOS.out.at' (out.length - 1) (by omega)
        have hq : ((str out[out.length - 1]).toList == [46, 46]) = false := by
          rw [ba_list, str_list]
          simp only [beq_eq_false_iff_ne, ne_eq]
          intro e
          exact hstay (.inr (by rw [last_get h0, e]; rfl))
        generalize str out[out.length - 1] = q at hcl3 hq
        clear hstay hne
        gi_wp2
        exact cc_put (w := w1) (W1 := W1) (W' := W) hz (by omega) (KeepsOthers.refl W) (Below.refl _ W) HB3.out _ _ HB4.out HX.out.2.2.2 (by rw [HSt.out]; exact HL.out)
    · have hp : ((str x).toList == [46, 46]) = false := by
        rw [HT.out]
        simp only [beq_eq_false_iff_ne, ne_eq]
        exact hx
      have HSt := Lib.hid (HCl.out.trans (clS_other hx))
      clear hx
      gi_wp2_with (gi_at_builtin; refine wpListIn_app_run1 rfl rfl rfl rfl HR.out ?_)
      exact cc_put (w := w1) (W1 := W1) (W' := W2) hz (by omega) HX.out.2.2.1 HX.out.2.1 HB3.out _ _ HB4.out HX.out.2.2.2 (by rw [HSt.out]; exact HX.out.1)
  case done =>
    rintro D xs W hD rfl ⟨b3, ⟨v, b4, hO⟩, hB⟩ hK
    obtain ⟨a, c, rfl, -, -⟩ := hO.len
    have hol : (clL wh (partsL s.data.toList)).length ≤ 100001 := Nat.le_trans (clL_len _ _) hpn
    have hjl : (Lib.join (clL wh (partsL s.data.toList)) [47]).length ≤ 100001 * 100001 := by
      have h1 := join_len 100000 (clL wh (partsL s.data.toList)) (fun x hx => by
        have h2 := clL_mem hx
        have h3 := spl_size 47 s.data.toList x (List.mem_filter.1 h2).1
        have h4 : s.data.toList.length = s.size := Array.length_toList
        omega)
      exact Nat.le_trans h1 (Nat.mul_le_mul hol (by omega))
    generalize clL wh (partsL s.data.toList) = out at hO hol hjl HRs b4
    have HJ := Lib.hid (join_any W hO hol hjl)
    have HJl := Lib.hid hjl
    obtain ⟨x3, f3, z3⟩ := b3.facts
    obtain ⟨x4, f4, z4⟩ := b4.facts
    have H3 := Lib.hid b3
    have HB := Lib.hid hB
    have HK := Lib.hid hK
    clear b3 b4 hO hB hK hjl
    gi_wp2
    refine ⟨trivial, ?_⟩
    refine (callsIn_wide.2 HJ.out).mono ?_
    rintro e w2 ⟨rfl, hb2⟩
    have k3 := H3.out.keep hb2
    obtain ⟨y3, g3, u3⟩ := k3.facts
    have HKK := Lib.hid ((hb2.block D (Array.getElem?_eq_some_iff.1 HK.out).1).trans HK.out)
    have HBB := Lib.hid (bnext HB.out hb2)
    clear hb2 k3 x3 f3 z3 x4 f4 z4
    have HTl := Lib.hid (ba_list (str (Lib.join out [47])))
    rw [str_list] at HTl
    have HStr := Lib.hid (show str (47 :: Lib.join out [47]) = ByteArray.mk #[47] ++ str (Lib.join out [47]) by rw [show (47 :: Lib.join out [47]) = [47] ++ Lib.join out [47] from rfl, ← str_append]; rfl)
    have hts : (str (Lib.join out [47])).size ≤ 100001 * 100001 := by rw [str_size]; exact HJl.out
    have HTs := Lib.hid (show str (Lib.join out [47]) = str (Lib.join out [47]) from rfl)
    generalize Lib.join out [47] = jn at HRs HTl HStr hts HTs ⊢
    generalize htj : str jn = tj at HTl HStr hts ⊢
    have HTj := Lib.hid htj
    clear htj HTs
    cases wh with
    | true =>
      have hs1 : ¬ 9223372036854775807 < 1 + tj.size := by omega
      have h : R = ByteArray.mk #[47] ++ tj := by rw [HRs.out, ← HStr.out]; simp
      have HE := Lib.hid h
      clear h
      have hD2 : w1.heap.size ≤ D := by omega
      gi_wp2
      exact cc_ret HKK.out HBB.out hD2 (by rw [HE.out]; rfl)
    | false =>
      have hD2 : w1.heap.size ≤ D := by omega
      by_cases hte : tj.toList = []
      · have h : R = ByteArray.mk #[46] := by rw [HRs.out, show jn = [] by rw [← HTl.out, hte]]; rfl
        have HE := Lib.hid h
        clear h
        gi_wp2
        exact cc_ret HKK.out HBB.out hD2 (by rw [HE.out]; rfl)
      · have hp1 : tj.toList.isEmpty = false := by simpa using hte
        have h : R = tj := by
          have hjn : ¬ jn = [] := by rw [← HTl.out]; exact hte
          rw [HRs.out, ← HTj.out]; simp [hjn]
        have HE := Lib.hid h
        clear h hte
        gi_wp2
        exact cc_ret HKK.out HBB.out hD2 (by rw [HE.out]; rfl)
end Go.Proofs.YtaojpbgaengdpaaGreatDoor
