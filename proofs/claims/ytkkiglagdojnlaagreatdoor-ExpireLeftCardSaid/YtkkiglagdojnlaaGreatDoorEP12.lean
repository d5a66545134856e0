/- Texts of the proof, part 12. -/
import Derived.Shelf.Abstract
import Derived.Shelf.RegionOpen
import Derived.OwnWalkIn
import Derived.TacticsInMore
import Derived.LoopNIn
import Derived.LoopIn
import Derived.StillTail
import Derived.StillTactics
import Derived.RangeFuncNested
import Derived.WalkKit
import Derived.Test.YtkkiglagdojnlaaGreatDoorEP11
import Derived.Test.YtkkiglagdojnlaaGreatDoorEP6
set_option linter.unusedVariables false
set_option linter.unusedSimpArgs false
/- name.Parts: its iterator hands on the parts of a text. -/
namespace Go.Proofs.YtkkiglagdojnlaaGreatDoor

open Go.RowKit Go.Shelf

attribute [local go_sem] Oper.semAt_some

/-- on the way through a text: what has come, where the part at hand begins, where we are. -/
def PSt (l : List UInt8) (pre : List (List UInt8)) (fr k : Nat) : Prop :=
  fr ≤ l.length + 1 ∧ ((k ≤ l.length ∧ fr ≤ k ∧ partsL l = pre ++ partsL (l.drop fr) ∧ ∀ x ∈ (l.take k).drop fr, x ≠ 47) ∨ (k = l.length + 1 ∧ partsL l = pre))
theorem pst_start (l : List UInt8) : PSt l [] 0 0 := ⟨by omega, .inl ⟨by omega, Nat.le_refl _, by simp, by simp⟩⟩
theorem pst_skip {l : List UInt8} {pre : List (List UInt8)} {fr k : Nat} (h : PSt l pre fr k) (hk : k < l.length) (hx : l[k] ≠ 47) : PSt l pre fr (k + 1) := by
  obtain ⟨h1, ⟨h2, h3, h4, h5⟩ | ⟨h2, -⟩⟩ := h
  · refine ⟨h1, .inl ⟨hk, by omega, h4, fun x hxm => ?_⟩⟩
    rw [List.take_succ_eq_append_getElem hk, List.drop_append_of_le_length (by rw [List.length_take]; omega)] at hxm
    rcases List.mem_append.1 hxm with hxm | hxm
    · exact h5 x hxm
    · rw [List.mem_singleton] at hxm; subst hxm; exact hx
  · omega
theorem pst_end {l : List UInt8} {pre : List (List UInt8)} {fr k : Nat} (h : PSt l pre fr k) (hk : l.length < k) : partsL l = pre := by
  obtain ⟨-, ⟨h2, -⟩ | ⟨-, h3⟩⟩ := h
  · omega
  · exact h3
/-- the part at hand. -/
def segP (l : List UInt8) (fr k : Nat) : List UInt8 := (l.take k).drop fr
theorem pst_split {l : List UInt8} {fr k : Nat} (hk : k < l.length) (hf : fr ≤ k) (hx : l[k] = 47) : l.drop fr = segP l fr k ++ 47 :: l.drop (k + 1) := by
  unfold segP
  conv => lhs; rw [← List.take_append_drop k l]
  rw [List.drop_append_of_le_length (by rw [List.length_take]; omega), List.drop_eq_getElem_cons hk, hx]
theorem pst_cut {l : List UInt8} {pre : List (List UInt8)} {fr k : Nat} (h : PSt l pre fr k) (hk : k ≤ l.length) (hx : ∀ (h : k < l.length), l[k] = 47) :
    fr ≤ k ∧ partsL l = pre ++ ((if segP l fr k = [] ∨ segP l fr k = [46] then [] else [segP l fr k]) ++ (if k < l.length then partsL (l.drop (k + 1)) else [])) ∧
      ∀ pre', (partsL l = pre' ++ (if k < l.length then partsL (l.drop (k + 1)) else [])) → PSt l pre' (k + 1) (k + 1) := by
  obtain ⟨h1, ⟨h2, h3, h4, h5⟩ | ⟨h2, -⟩⟩ := h
  · by_cases hlt : k < l.length
    · refine ⟨h3, ?_, fun pre' hp => ⟨by omega, .inl ⟨by omega, Nat.le_refl _, ?_, ?_⟩⟩⟩
      · rw [h4, pst_split hlt h3 (hx hlt), parts_app (segP l fr k) _ h5, if_pos hlt]
      · rw [if_pos hlt] at hp; exact hp
      · rw [List.drop_eq_nil_of_le (by rw [List.length_take]; omega)]; simp
    · refine ⟨h3, ?_, fun pre' hp => ⟨by omega, .inr ⟨by omega, ?_⟩⟩⟩
      · obtain rfl : k = l.length := by omega
        rw [h4, if_neg hlt, List.append_nil]
        have : l.drop fr = segP l fr l.length := by unfold segP; rw [List.take_length]
        rw [this, parts_one (segP l fr l.length) h5]
      · rw [if_neg hlt, List.append_nil] at hp; exact hp
  · omega
theorem pst_none {l : List UInt8} {pre : List (List UInt8)} {fr k : Nat} (h : PSt l pre fr k) (hk : k ≤ l.length) (hx : ∀ (h : k < l.length), l[k] = 47) (hs : segP l fr k = [] ∨ segP l fr k = [46]) : PSt l pre (k + 1) (k + 1) := by
  obtain ⟨-, h2, h3⟩ := pst_cut h hk hx
  refine h3 pre ?_
  rw [h2, if_pos hs, List.nil_append]
theorem pst_some {l : List UInt8} {pre : List (List UInt8)} {fr k : Nat} (h : PSt l pre fr k) (hk : k ≤ l.length) (hx : ∀ (h : k < l.length), l[k] = 47) (hs : ¬ (segP l fr k = [] ∨ segP l fr k = [46])) :
    PSt l (pre ++ [segP l fr k]) (k + 1) (k + 1) ∧ (pre ++ [segP l fr k]) <+: partsL l := by
  obtain ⟨-, h2, h3⟩ := pst_cut h hk hx
  rw [if_neg hs, ← List.append_assoc] at h2
  exact ⟨h3 _ h2, ⟨_, h2.symm⟩⟩
theorem pst_le {l : List UInt8} {pre : List (List UInt8)} {fr k : Nat} (h : PSt l pre fr k) (hk : k ≤ l.length) : fr ≤ k := by
  obtain ⟨h1, ⟨h2, h3, h4, h5⟩ | ⟨h2, -⟩⟩ := h
  · exact h3
  · omega
theorem pst_size {l : List UInt8} {pre : List (List UInt8)} {fr k : Nat} (h : PSt l pre fr k) : k ≤ l.length + 1 := by
  obtain ⟨h1, ⟨h2, h3, h4, h5⟩ | ⟨h2, -⟩⟩ := h
  · omega
  · omega
theorem str_extr (l : List UInt8) (a b : Nat) : (str l).extract a b = str ((l.take b).drop a) := by
  have : ((str l).extract a b).data.toList = (str ((l.take b).drop a)).data.toList := by rw [extract_list, str_list, str_list]
  rw [← str_of ((str l).extract a b), this, str_list]
theorem prefix_take {α : Type} {a b : List α} (h : a <+: b) : ∃ m, a = b.take m := ⟨a.length, (List.prefix_iff_eq_take.1 h)⟩
/-- a function without results ends within a scope. -/
theorem scope_end {P : Program} {fn : Func} {R : Ending → World → Prop} {tmps : Array Value} {W : World} {v : Value} (h : (results fn tmps).run P W = .ok v W) (hR : R (.returned v) W) : Exit.noGoto (bodyPost P fn R) .ret { tmps, defers := [] } W :=
  bodyPost_ret h rfl hR
theorem seg_str (s : ByteArray) (a b : Nat) : s.extract a b = str (segP s.data.toList a b) := by
  show s.extract a b = str ((s.data.toList.take b).drop a)
  rw [← str_extr, str_of]
set_option maxRecDepth 100000 in
set_option maxHeartbeats 2000000 in
theorem parts_stops (n : Nat) (hn : 1 ≤ n) (Bs : Nat) (s : ByteArray) (hl : s.size ≤ 100000) (w : World) (hs : Blk w Bs #[.string s] 9) :
    SeqT (fun k => k = Bs) Fence.wide n Tryz.prog 116 #[.pointer (some ⟨Bs, 0, none⟩)] (fun x : List UInt8 => #[.string (str x)])
      (fun xs => xs = partsL s.data.toList) (fun pre => ∃ m, pre = (partsL s.data.toList).take m) (fun pre x => (pre ++ [x]) <+: partsL s.data.toList) w := fun L J Jx W hW hWs hJ hJx hY h0 => by
  have Hs := Lib.hid (show Blk W Bs #[.string s] 9 from (hW.2 Bs rfl).trans hs)
  have HSz := Lib.hid (show s.data.toList.length = s.size from Array.length_toList)
  have HCh := Lib.hid (fun (k : Nat) (hk : k < s.data.toList.length) (hk2 : k < s.size) => show s.data.toList[k] = s[k] from rfl)
  have HY := Lib.hid hY
  clear hs hW hWs hY
  refine callsIn_of_wp Tryz.func116 rfl trivial ?_ rfl
  simp only [Tryz.ntmps116, List.size_toArray, List.length_cons, List.length_nil, Nat.reduceAdd, Nat.reduceSub, Array.replicate_succ, Array.replicate_zero, List.push_toArray, List.append_toArray, List.nil_append, List.cons_append]
  refine (wpIn_wide (n := n)).2 (wp_scope_straight ((wpIn_wide (n := n)).1 ?_))
  refine wpIn_seq ?_
  gi_wp2
  refine wpIn_label ?_
  gi_wp2
  gi_loopw [3, 4] (fun f a wr => ∃ (pre : List (List UInt8)) (fr k : Nat), f = .int .i64 fr ∧ a = .int .i64 k ∧ PSt s.data.toList pre fr k ∧ J pre wr ∧ Blk wr Bs #[.string s] 9) (fun _ a _ => s.size + 1 - (intOf a).toNat)
  case atStart => exact ⟨[], 0, 0, rfl, rfl, pst_start _, h0, Hs.out⟩
  case round =>
    obtain ⟨pre, fr, k, rfl, rfl, hp, hJp, hbs⟩ := hrel
    have HP := Lib.hid hp
    have HJ0 := Lib.hid hJp
    have HBs := Lib.hid hbs
    have hks : k ≤ s.size + 1 := by have := pst_size hp; rw [HSz.out] at this; exact this
    obtain ⟨cs, fs, ls⟩ := hbs.facts
    clear hp hJp hbs
    by_cases hk : k ≤ s.size
    · have hfr : fr ≤ k := pst_le HP.out (by rw [HSz.out]; exact hk)
      by_cases hc : ∃ h : k < s.size, s[k] ≠ 47
      · obtain ⟨hkl, hc⟩ := hc
        have HN := Lib.hid (pst_skip HP.out (by rw [HSz.out]; exact hkl) hc)
        have hc1 : ((s[k].toNat : Int) != 47) = true := by
          simp only [bne_iff_ne, ne_eq]
          intro h
          exact hc (by rw [u8_eq]; show s[k].toNat = 47; omega)
        clear hc
        gi_wp2
        go_roundw
        case rel => exact ⟨pre, fr, k + 1, rfl, by go_num, HN.out, HJ0.out, HBs.out⟩
        case measure => simp [intOf]; omega
      · have HX := Lib.hid (show ∀ (h : k < s.data.toList.length), s.data.toList[k] = 47 from fun h => Decidable.not_not.1 (fun h2 => hc ⟨by rw [← HSz.out]; exact h, h2⟩))
        have HK := Lib.hid (show k ≤ s.data.toList.length by rw [HSz.out]; exact hk)
        obtain ⟨p, hp⟩ : ∃ p, s.extract fr k = p := ⟨_, rfl⟩
        have HPe := Lib.hid (show p = str (segP s.data.toList fr k) by rw [← hp, seg_str])
        have hpl : p.toList = segP s.data.toList fr k := by rw [HPe.out, ba_list, str_list]
        have HPl := Lib.hid hpl
        clear hpl
        have htest : ((k : Int) < (s.size : Int) → ∀ h : k < s.size, ((s[k].toNat : Int) != 47) = false) := fun _ h => by
          have := HX.out (by rw [HSz.out]; exact h)
          have h2 : s[k] = 47 := this
          rw [h2]; rfl
        by_cases he : segP s.data.toList fr k = []
        · have HN := Lib.hid (pst_none HP.out HK.out HX.out (.inl he))
          have hp1 : p.toList = [] := by rw [HPl.out]; exact he
          clear he
          by_cases hkl : k < s.size
          · have hc1 := htest (by omega) hkl
            clear htest
            gi_wp2
            go_roundw
            case rel => exact ⟨pre, k + 1, k + 1, by go_num, by go_num, HN.out, HJ0.out, HBs.out⟩
            case measure => simp [intOf]; omega
          · obtain rfl : k = s.size := by omega
            clear htest
            gi_wp2
            go_roundw
            case rel => exact ⟨pre, _, _, by go_num, by go_num, HN.out, HJ0.out, HBs.out⟩
            case measure => simp [intOf]
        · by_cases hd : segP s.data.toList fr k = [46]
          · have HN := Lib.hid (pst_none HP.out HK.out HX.out (.inr hd))
            have hp1 : p.toList = [46] := by rw [HPl.out]; exact hd
            clear he hd
            by_cases hkl : k < s.size
            · have hc1 := htest (by omega) hkl
              clear htest
              gi_wp2
              go_roundw
              case rel => exact ⟨pre, k + 1, k + 1, by go_num, by go_num, HN.out, HJ0.out, HBs.out⟩
              case measure => simp [intOf]; omega
            · obtain rfl : k = s.size := by omega
              clear htest
              gi_wp2
              go_roundw
              case rel => exact ⟨pre, _, _, by go_num, by go_num, HN.out, HJ0.out, HBs.out⟩
              case measure => simp [intOf]
          · have hN := pst_some HP.out HK.out HX.out (by rintro (h | h); exact he h; exact hd h)
            have HN := Lib.hid hN.1
            have HV := Lib.hid hN.2
            have hp1 : p.toList.isEmpty = false := by rw [HPl.out]; simpa using he
            have hp2 : (p.toList == [46]) = false := by rw [HPl.out]; simpa using hd
            clear he hd hN
            by_cases hkl : k < s.size
            · have hc1 := htest (by omega) hkl
              clear htest
              obtain ⟨fn, tmps, assign, body, hy, hR⟩ := HY.out pre _ wr HJ0.out HV.out
              have hy2 : (Instr.yield L #[.string p]).run Tryz.prog wr = .ok (.round L fn tmps assign body) wr := by rw [HPe.out]; exact hy
              have HR := Lib.hid hR
              clear hy hR
              gi_wp2
              refine HR.out.mono ?_
              rintro e W3 (⟨rfl, hJ3, hk3⟩ | ⟨rfl, hJx3⟩)
              · have HJ3 := Lib.hid hJ3
                have HB3 := Lib.hid (show Blk W3 Bs #[.string s] 9 from (hk3.2 Bs rfl).trans HBs.out)
                clear hJ3 hk3 hy2
                gi_wp2
                go_roundw
                case rel => exact ⟨_, k + 1, k + 1, by go_num, by go_num, HN.out, HJ3.out, HB3.out⟩
                case measure => simp [intOf]; omega
              · have HJx := Lib.hid hJx3
                clear hJx3 hy2
                gi_wp2
                exact scope_end (results_none rfl _ _ _) ⟨⟨_, rfl⟩, .inr ⟨_, prefix_take HV.out, HJx.out⟩⟩
            · obtain rfl : k = s.size := by omega
              clear htest
              obtain ⟨fn, tmps, assign, body, hy, hR⟩ := HY.out pre _ wr HJ0.out HV.out
              have hy2 : (Instr.yield L #[.string p]).run Tryz.prog wr = .ok (.round L fn tmps assign body) wr := by rw [HPe.out]; exact hy
              have HR := Lib.hid hR
              clear hy hR
              gi_wp2
              refine HR.out.mono ?_
              rintro e W3 (⟨rfl, hJ3, hk3⟩ | ⟨rfl, hJx3⟩)
              · have HJ3 := Lib.hid hJ3
                have HB3 := Lib.hid (show Blk W3 Bs #[.string s] 9 from (hk3.2 Bs rfl).trans HBs.out)
                clear hJ3 hk3 hy2
                gi_wp2
                go_roundw
                case rel => exact ⟨_, _, _, by go_num, by go_num, HN.out, HJ3.out, HB3.out⟩
                case measure => simp [intOf]
              · have HJx := Lib.hid hJx3
                clear hJx3 hy2
                gi_wp2
                exact scope_end (results_none rfl _ _ _) ⟨⟨_, rfl⟩, .inr ⟨_, prefix_take HV.out, HJx.out⟩⟩
    · have HE := Lib.hid (pst_end HP.out (by rw [HSz.out]; omega))
      have hk' : ¬ (k : Int) ≤ (s.size : Int) := by omega
      gi_wp2
      go_end0
      exact ⟨⟨_, rfl⟩, .inl (by rw [HE.out]; exact HJ0.out)⟩
end Go.Proofs.YtkkiglagdojnlaaGreatDoor

/- A region that draws its order inside a round of a range over a function: first what only reads, then a chain of operations. No program in sight. -/
namespace Go.Proofs.YtkkiglagdojnlaaGreatDoor

open Go

/-- no operation defers. -/
def noDefer (ops : Array Oper) : Bool := ops.all fun o => match o.op with | .defer _ => false | _ => true
section

variable {P : Program} {ops : Array Oper} {md : Region.Mode} {w : World} {l : Nat} {n : Nat}

end

end Go.Proofs.YtkkiglagdojnlaaGreatDoor

/- slices.Collect over an iterator that keeps cells of its own: texts, in their order. -/
namespace Go.Proofs.YtkkiglagdojnlaaGreatDoor

open Go.RowKit Go.Shelf

attribute [local go_sem] Oper.semAt_some

theorem keeps_mod1 {S : Nat → Prop} {w W : World} (h : Mod S w W) (hS : ∀ k, S k → ∃ cur T fz, w.heap[k]? = some (.cells cur T fz)) : KeepsOthers w W :=
  ⟨h.size, fun k o hk ho => (h.block k (Array.getElem?_eq_some_iff.1 hk).1 (fun hs => by obtain ⟨cur, T, fz, hc⟩ := hS k hs; rw [hc] at hk; injection hk with hk; subst hk; cases ho)).trans hk⟩
theorem OS.nil (w : World) (base : Nat) : OS w base (.slice none 0 0) [] := ⟨rfl, .inl ⟨rfl, rfl⟩⟩
theorem OS.turn {w w' : World} {base : Nat} {v : Value} {ls : List (List UInt8)} (h : OS w base v ls) (ht : ∀ k cur, base ≤ k → w.heap[k]? = some (.cells cur 9 (0, 0)) → w'.heap[k]? = some (.cells cur 9 (0, 0))) : OS w' base v ls :=
  ⟨h.1, h.2.imp id fun ⟨g, cap, cur, hv, hb, hg, rest⟩ => ⟨g, cap, cur, hv, hb, ht _ _ hb hg, rest⟩⟩
theorem OS.low {w : World} {base base' : Nat} {v : Value} {ls : List (List UInt8)} (h : OS w base v ls) (hb : base' ≤ base) : OS w base' v ls :=
  ⟨h.1, h.2.imp id fun ⟨g, cap, cur, hv, hg, rest⟩ => ⟨g, cap, cur, hv, Nat.le_trans hb hg, rest⟩⟩
theorem OS.appK {w : World} {base : Nat} {v : Value} {ls : List (List UInt8)} (h : OS w base v ls) (l : List UInt8) (hl : ls.length ≤ 1000000) (hb : base ≤ w.heap.size) :
    ∃ g cap W, (Builtin.append_ #[210, 210] 210 #[v, .slice (some ⟨w.heap.size, 0, none⟩) 1 1]).run Tryz.prog (w.alloc (.cells #[.string (str l)] 9)) = .ok (.slice (some ⟨g, 0, none⟩) (ls.length + 1) cap) W ∧
      OS W base (.slice (some ⟨g, 0, none⟩) (ls.length + 1) cap) (ls ++ [l]) ∧ Below base w W ∧ KeepsOthers w W ∧ (v.ownBlock = some g ∨ w.heap.size ≤ g) := by
  obtain ⟨i0, hi, hz0, hz1, hz2⟩ := info_parts str_info
  have ho := World.ownsRow.alloc h (.cells #[.string (str l)] 9)
  obtain ⟨g, cap, W, h1, h2, h3, h4⟩ := step_app 210 Tryz.underlying210 hi hz0 hz1 hz2 rfl (by omega) ho ⟨w.heap.size, 0, none⟩ 1 1 [.string (str l)] rfl (World.news_of_block (Blk.new w #[.string (str l)] 9)) (by intro u hu; simp at hu; subst hu; rfl) (by omega) (by unfold maxLen; omega) (by omega) (by simp; omega)
  refine ⟨g, cap, W, h1, ?_, ?_, (KeepsOthers.alloc _ _).trans (keeps_mod1 h3 (fun k hk => by obtain ⟨-, cur, hc⟩ := own_obj1 ho hk; exact ⟨_, _, _, hc⟩)), h4.imp id (fun h => by rw [h]; simp)⟩
  · unfold OS
    rw [List.length_append, List.length_singleton, List.flatMap_append]
    exact h2
  · refine (((Below.refl base w).alloc hb _)).trans (h3.below (fun k hk => (h.lt k hk).1) (by simp; omega))
theorem wpListIn_app_run1 {F : Fence} {n : Nat} {P : Program} {ops : Array Oper} {rest : List Oper} {o : Oper} {a : Act} {w W : World} {Q : Exit → Act → World → Prop} {s x : Operand} {t : TypeId} {v y r : Value}
    (hgd : o.guard = none) (ho : o.op = .call { callee := .builtin .append, args := #[s, x], argTypes := #[t, t] }) (hs : a.eval s = v) (hx : a.eval x = y)
    (hrun : (Builtin.append_ #[t, t] o.type #[v, y]).run P w = .ok r W) (h : wpListIn F n P ops Q rest (a.put o.dst r) W) : wpListIn F n P ops Q (o :: rest) a w :=
  wpListIn_plain hgd fun K hK => by
    unfold Oper.wpIn
    refine ⟨by simp [Oper.about, ho, resolve, Target.leads, Sem.run_pure], ?_⟩
    rw [Oper.semAt_plain F _ _ (by rw [ho]; intro c hc; cases hc)]
    simp [execOp, ho, resolve, invoke, builtin, hs, hx, hrun, Result.andThen]
    exact hK _ _ h
/-- between two rounds. -/
structure CI (T : Nat → Prop) (w : World) (B base : Nat) (pre : List (List UInt8)) (W : World) : Prop where
  box : ∃ v, Blk W B #[v] 210 ∧ OS W base v pre
  mod : Mod T w W
theorem mod_turn {T : Nat → Prop} {N : Nat} {w W W' : World} (h : Mod T w W) (ht : Turn T N notCells W W') (hN : w.heap.size ≤ N) : Mod T w W' := by
  refine ⟨ht.os.trans h.os, ht.tape.trans h.tape, ht.output.trans h.output, Nat.le_trans h.size ht.size, fun k hk hs => ?_⟩
  obtain ⟨o, ho⟩ : ∃ o, w.heap[k]? = some o := ⟨w.heap[k]'(by omega), Array.getElem?_eq_getElem _⟩
  rw [ht.block k o ((h.block k hk hs).trans ho) hs (fun h => by omega), ho]
set_option maxRecDepth 100000 in
set_option maxHeartbeats 2000000 in
theorem appseq_any {g : Nat} {lb : Array Value} (eg : ∀ args w, (callFunc g args).run Tryz.prog w = .ok (.enter g args) w) {T : Nat → Prop} {S Sp : List (List UInt8) → Prop} {V : List (List UInt8) → List UInt8 → Prop} (w : World)
    (hseq : SeqT T Fence.wide 4 Tryz.prog g lb (fun x : List UInt8 => #[.string (str x)]) S Sp V w) (hT : ∀ k, T k → k < w.heap.size) (hV : ∀ pre x, V pre x → pre.length ≤ 1000000) :
    Calls Tryz.prog 255 #[.slice none 0 0, .func (.func g) #[] lb] w fun e w' => (∃ v ss, e = .returned v ∧ S ss ∧ OS w' w.heap.size v ss) ∧ Mod T w w' := by
  refine (callsIn_wide (n := 5)).1 ?_
  refine callsIn_of_wp_marks Tryz.func255 rfl trivial ?_ rfl
  simp only [Tryz.ntmps255, List.size_toArray, List.length_cons, List.length_nil, Nat.reduceAdd, Nat.reduceSub, Array.replicate_succ, Array.replicate_zero, List.push_toArray, List.append_toArray, List.nil_append, List.cons_append]
  have q0 := Blk.new w #[.slice none 0 0] 210
  have hB0 := balloc (Below.refl w.heap.size w) (.cells #[.slice none 0 0] 210)
  have hz : (w.alloc (.cells #[.slice none 0 0] 210)).heap.size = w.heap.size + 1 := by simp
  have HSq := Lib.hid hseq
  clear hseq
  gi_wp2
  generalize w.alloc (.cells #[.slice none 0 0] 210) = W1 at q0 hB0 hz ⊢
  refine' wpIn_rangeT (T := T) rfl (by omega) (gf := g) (lb := lb) rfl trivial eg HSq.out (fun k hk => by have := hT k hk; omega) (KT.of_below hB0 hT) (fun _ => rfl)
    (fun pre W => CI T w w.heap.size W1.heap.size pre W)
    (fun _ _ _ => False)
    (fun pre A B h ht => ?own) (fun c pre A B h ht => h) ⟨⟨_, q0, OS.nil _ _⟩, Mod.of_below hB0⟩ _ ?assign ?body ?done (fun D c pre W _ _ h _ => h.elim)
  case own =>
    obtain ⟨⟨v, h1, h2⟩, h3⟩ := h
    exact ⟨⟨v, ht.block _ _ h1 (fun e => by have := hT _ e; omega) (fun _ => rfl), h2.turn (fun k cur hk hc => ht.block _ _ hc (fun e => by have := hT _ e; omega) (fun _ => rfl))⟩, mod_turn h3 ht (by omega)⟩
  case assign =>
    intro L x W K hK
    gi_wp2
    exact hK
  case body =>
    rintro L pre x W hL hLW ⟨⟨v, b1, hO⟩, hM⟩ hv
    obtain ⟨a, c, rfl, -, -, -⟩ := own_form hO
    obtain ⟨g2, cap2, W2, hrun, hO2, hB2, hKO, hg2⟩ := hO.appK x (hV _ _ hv) (show W1.heap.size ≤ W.heap.size by omega)
    have hlp := hO.1
    have HR := Lib.hid hrun
    have k1 := b1.keepB hB2 (show w.heap.size < W1.heap.size by omega)
    obtain ⟨c1, f1, z1⟩ := b1.facts
    obtain ⟨d1, e1, y1⟩ := k1.facts
    have K1 := Lib.hid k1
    have HX := Lib.hid (And.intro hO2 (And.intro hB2 (And.intro hKO (And.intro hM hg2))))
    clear hrun hO2 hB2 k1 b1 hKO hM hO hg2 hlp
    gi_wp2_with (gi_at_builtin; refine wpListIn_app_run1 rfl rfl rfl rfl HR.out ?_)
    obtain ⟨hO2, hB2, hKO, hM, hg2⟩ := HX.out
    have hm := (Mod.refl (fun k => k = w.heap.size) W2).setCell (a := ⟨w.heap.size, 0, none⟩) (.inl rfl) (.slice (some ⟨g2, 0, none⟩) (pre.length + 1) cap2)
    refine ⟨(hKO.trans (KeepsOthers.setCell _ _ _)).from _, ⟨Nat.le_trans hB2.size hm.size, fun k hk => ?_⟩, ⟨⟨_, K1.out.set 0 _, hO2.turn (fun k cur hk hc => (hm.block k (Array.getElem?_eq_some_iff.1 hc).1 (by omega)).trans hc)⟩, ?_⟩⟩
    · have := hT k hk
      rw [hm.block k (by have := hB2.size; omega) (by omega)]
      exact hB2.block k (by omega)
    · refine ⟨hm.os.trans (hB2.os.trans hM.os), hm.tape.trans (hB2.tape.trans hM.tape), hm.output.trans (hB2.output.trans hM.output), Nat.le_trans hM.size (Nat.le_trans hB2.size hm.size), fun k hk hs => ?_⟩
      rw [hm.block k (by have := hB2.size; have := hM.size; omega) (by omega), hB2.block k (by omega)]
      exact hM.block k hk hs
  case done =>
    rintro D xs W hD hS ⟨⟨v, b1, hO⟩, hM⟩ hK
    obtain ⟨a, c, rfl, -, -, -⟩ := own_form hO
    obtain ⟨c1, f1, z1⟩ := b1.facts
    have HO := Lib.hid (And.intro hO hM)
    clear hO hM b1
    gi_wp2
    show LeavesInM Fence.wide 5 Tryz.prog Tryz.f255 _ _ _ _ W
    refine ⟨by simp, .inl ⟨_, _, rfl, run_takeDeferred hK, ?_⟩⟩
    refine ⟨.slice a xs.length c, by simp [results, Tryz.results255, go_sem], ⟨_, _, rfl, hS, (HO.out.1.low (show w.heap.size ≤ W1.heap.size by omega)).turn (fun k cur hk hc => (World.putObj_heap_other (fun e => by subst e; rw [hK] at hc; cases hc)).trans hc)⟩, ?_⟩
    have hm := HO.out.2
    exact ⟨hm.os, hm.tape, hm.output, Nat.le_trans hm.size (by simp), fun k hk hs => (World.putObj_heap_other (fun e => by omega)).trans (hm.block k hk hs)⟩
/-- slices.Collect over such an iterator. -/
theorem collect_any {g : Nat} {lb : Array Value} (eg : ∀ args w, (callFunc g args).run Tryz.prog w = .ok (.enter g args) w) {T : Nat → Prop} {S Sp : List (List UInt8) → Prop} {V : List (List UInt8) → List UInt8 → Prop} (w : World)
    (hseq : SeqT T Fence.wide 4 Tryz.prog g lb (fun x : List UInt8 => #[.string (str x)]) S Sp V w) (hT : ∀ k, T k → k < w.heap.size) (hV : ∀ pre x, V pre x → pre.length ≤ 1000000) :
    Calls Tryz.prog 213 #[.func (.func g) #[] lb] w fun e w' => (∃ v ss, e = .returned v ∧ S ss ∧ OS w' w.heap.size v ss) ∧ Mod T w w' := by
  have HA := Lib.hid (appseq_any eg w hseq hT hV)
  clear hseq hT hV eg
  go_enter Tryz.func213, Tryz.ntmps213
  go_wp2_with fail
  refine HA.out.mono ?_
  rintro e w1 ⟨⟨v, ss, rfl, hS, hO⟩, hM⟩
  have HX := Lib.hid (And.intro hS (And.intro hO hM))
  clear hS hO hM
  go_wp2_with fail
  go_ret
  exact ⟨⟨v, ss, rfl, HX.out.1, HX.out.2.1⟩, HX.out.2.2⟩
/-- name.Parts, collected. -/
theorem nparts_any (s : ByteArray) (w : World) :
    Calls Tryz.prog 65 #[.string s] w fun e w' => e = .returned (.func (.func 116) #[] #[.pointer (some ⟨w.heap.size, 0, none⟩)]) ∧ w' = w.alloc (.cells #[.string s] 9) := by
  go_enter Tryz.func65, Tryz.ntmps65
  go_wp2_with fail
  go_ret
  exact ⟨rfl, rfl⟩
theorem pcollect_any (s : ByteArray) (hs : s.size ≤ 100000) (w : World) :
    Calls Tryz.prog 213 #[.func (.func 116) #[] #[.pointer (some ⟨w.heap.size, 0, none⟩)]] (w.alloc (.cells #[.string s] 9)) fun e w' => (∃ v, e = .returned v ∧ OS w' w.heap.size v (partsL s.data.toList)) ∧ Below w.heap.size w w' := by
  have hz : (w.alloc (.cells #[.string s] 9)).heap.size = w.heap.size + 1 := by simp
  refine (collect_any (enters_of Tryz.func116 (by kernel_rfl) rfl) (w.alloc (.cells #[.string s] 9)) (parts_stops 4 (by omega) w.heap.size s hs _ (Blk.new w #[.string s] 9)) (fun k hk => by omega) (fun pre x h => ?_)).mono ?_
  · have h1 := h.length_le
    have h2 := parts_len s.data.toList
    have h3 : s.data.toList.length = s.size := Array.length_toList
    rw [List.length_append, List.length_singleton] at h1
    omega
  · rintro e w1 ⟨⟨v, ss, rfl, rfl, hO⟩, hM⟩
    exact ⟨⟨v, rfl, hO.low (by omega)⟩, (balloc (Below.refl w.heap.size w) _).trans (hM.below (fun k hk => by omega) (by omega))⟩
end Go.Proofs.YtkkiglagdojnlaaGreatDoor

/- Mounts (layer 14): a mount comes. -/
namespace Go.Proofs.YtkkiglagdojnlaaGreatDoor

open Go.RowKit

section

variable {w w' : World} {pw : Nat} {R : Rp} {S : Fs}

theorem tk_root (b n : Int) (h : limB b n = true) : tkV 0 0 b n 1 1 = .tuple #[.agg #[.int .i64 1, .int .i64 1, .int .i64 b, .int .i64 n], .int .i64 0] := by
  obtain ⟨h1, h2, h3, h4⟩ := lim_of h
  have e : tkE 0 0 b n 1 1 = 0 := by
    unfold tkE tkBad fineB
    simp
    omega
  have := tkV_ok 0 0 b n 1 1 e
  simpa using this
/-- a mount's root is known. -/
theorem WdAt.setRoot (h : WdAt w pw R S) {g cap : Nat} (hdv : R.dv = .slice (some ⟨g, 0, none⟩) S.ds.length cap) {k : Nat} (hk : k < S.ds.length) (v : Dv) (hv : S.ds[k] = v) (r : Int) :
    WdAt (w.setCell ⟨g, k * 6, none⟩ (.int .i64 r)) pw R { S with ds := S.ds.set k { v with root := r } } ∧ Mod (fun x => x = g) w (w.setCell ⟨g, k * 6, none⟩ (.int .i64 r)) := by
  have hm : Mod (fun x => x = g) w (w.setCell ⟨g, k * 6, none⟩ (.int .i64 r)) := (Mod.refl (fun x => x = g) w).setCell (a := ⟨g, k * 6, none⟩) (.inl rfl) _
  refine ⟨?_, hm⟩
  obtain ⟨g', cap', hdv', -, -, -, -, -, cur, hcur⟩ := h.devF (by omega)
  have e := hdv.symm.trans hdv'
  injection e with e
  injection e with e
  injection e with e
  subst e
  have hne : ∀ (x : Nat) (vs : Array Value) (T : TypeId), Blk w x vs T → T ≠ 226 → x ≠ g := by
    rintro x vs T hx hT rfl
    unfold Blk at hx hcur
    rw [hcur] at hx
    injection hx with hx
    injection hx with _ hx
    exact hT hx.symm
  have h3 : R.pm ≠ g := by
    rintro e
    have hm := h.tab.map
    unfold MapB at hm
    rw [e] at hm
    unfold Blk at hcur
    rw [hcur] at hm
    cases hm
  refine ⟨h.blk.mod hm (hne _ _ _ h.blk (by decide)), ⟨h.tab.blk.mod hm (hne _ _ _ h.tab.blk (by decide)), (hm.block _ h.tab.map.lt h3).trans h.tab.map, h.tab.once, h.tab.low⟩, ?_, h.ns, fun x hx => (h.ents x hx).turn (fun bk cr hc => hm.block bk (Array.getElem?_eq_some_iff.1 hc).1 (hne bk cr _ hc (by decide))) hm.size⟩
  show World.ownsRow _ 0 226 6 R.dv (S.ds.set k _).length ((S.ds.set k _).flatMap Dv.cs)
  rw [List.length_set]
  have h0 := h.devs
  rw [hdv] at h0 ⊢
  have hkl : k * 6 + 5 < (S.ds.flatMap Dv.cs).length := by rw [flat_len']; omega
  have p1 := own_cell1 h0 (k * 6) (by omega) (.int .i64 r)
  have hs := setAll_flat Dv.cs_len ({ v with root := r } : Dv) S.ds k hk
  rw [← hs]
  have hsame : ∀ (l : List Value) (j : Nat) (u : Value), l[j]? = some u → l.set j u = l := by
    intro l j u hu
    obtain ⟨hlt, rfl⟩ := List.getElem?_eq_some_iff.1 hu
    rw [List.set_getElem_self]
  have c : ∀ j (hj : j < 6), (S.ds.flatMap Dv.cs)[k * 6 + j]? = (Dv.cs v)[j]? := fun j hj => by rw [flat_get Dv.cs_len S.ds k j hk hj, hv]
  have c' : ∀ j (u : Value), 1 ≤ j → j < 6 → (Dv.cs v)[j]? = some u → ((S.ds.flatMap Dv.cs).set (k * 6) (.int .i64 r)).set (k * 6 + j) u = (S.ds.flatMap Dv.cs).set (k * 6) (.int .i64 r) := fun j u h1 h6 hu =>
    hsame _ _ _ (by rw [List.getElem?_set_ne (by omega), c j h6, hu])
  show World.ownsRow _ 0 226 6 _ _ ((((((((S.ds.flatMap Dv.cs).set (k * 6) (.int .i64 r)).set (k * 6 + 1) (.int .i64 v.over)).set (k * 6 + 2) (.int .i64 v.b)).set (k * 6 + 3) (.int .i64 v.n)).set (k * 6 + 4) (.int .i64 v.mb)).set (k * 6 + 5) (.int .i64 v.mn)))
  rw [c' 1 _ (by omega) (by omega) rfl, c' 2 _ (by omega) (by omega) rfl, c' 3 _ (by omega) (by omega) rfl, c' 4 _ (by omega) (by omega) rfl, c' 5 _ (by omega) (by omega) rfl]
  exact p1
def rootN (S : Fs) : An := { an0 with dev := (S.ds.length : Int) + 1, kind := 1, mode := 493, links := 1 }
theorem addRoot_eq (S : Fs) (hn : Nums S) (over b n : Int) :
    { (((S.addDev over b n).add (rootN S)).set { rootN S with no := S.last + 1, up := S.last + 1 }) with ds := (S.addDev over b n).ds.set S.ds.length { (⟨0, over, 1, 1, b, n⟩ : Dv) with root := S.last + 1 } } = S.addRoot over b n := by
  unfold Fs.addRoot Fs.set Fs.add Fs.addDev
  simp only [List.map_append, List.map_cons, List.map_nil]
  congr 1
  · congr 1
    · conv => rhs; rw [← List.map_id S.ns]
      apply List.map_congr_left
      intro x hx
      have := hn.low x hx
      simp only [id_eq]
      rw [if_neg]
      simp; omega
    · simp [rootN]
  · rw [List.set_append_right _ _ (Nat.le_refl _)]
    simp
theorem nums_addDev {S : Fs} (hn : Nums S) (over b n : Int) : Nums (S.addDev over b n) := ⟨hn.rise, hn.low⟩
set_option maxRecDepth 100000 in
set_option maxHeartbeats 400000 in
theorem wadd_no (over b n : Int) (hlim : limB b n = false) (w : World) (pw : Nat) :
    Calls Tryz.prog 165 #[.pointer (some ⟨pw, 0, none⟩), .int .i64 over, .int .i64 b, .int .i64 n] w fun e w' => e = .returned (.int .i64 3) ∧ Below w.heap.size w w' := by
  have HNw := Lib.hid (fun w => new_no b n hlim w)
  clear hlim
  go_enter Tryz.func165, Tryz.ntmps165
  go_wp2_with fail
  refine (HNw.out _).mono ?_
  rintro e w1 ⟨rfl, hb1⟩
  go_wp2_with fail
  go_ret
  exact ⟨rfl, balloc hb1 _⟩
set_option maxRecDepth 100000 in
set_option maxHeartbeats 2000000 in
theorem wadd_any (h : WdAt w pw R S) (hn : Nums S) (hl0 : 0 ≤ S.last) (hl1 : S.last ≤ 1000000) (hd : S.ds.length ≤ 7) (over b n : Int) (hlim : limB b n = true) :
    Calls Tryz.prog 165 #[.pointer (some ⟨pw, 0, none⟩), .int .i64 over, .int .i64 b, .int .i64 n] w fun e w' => e = .returned (.int .i64 0) ∧ ∃ R', WdAt w' pw R' (S.addRoot over b n) ∧ Stp (R.F pw) (R'.F pw) w w' := by
  have HNw := Lib.hid (fun w => new_yes b n hlim w)
  have hT := fun w => take_any 0 0 b n 1 1 w
  rw [tk_root b n hlim] at hT
  have HT := Lib.hid hT
  have HW0 := Lib.hid h
  obtain ⟨pc, -, pz⟩ := h.blk.facts
  clear hlim hT h
  go_enter Tryz.func165, Tryz.ntmps165
  go_wp2_with fail
  refine (HNw.out _).mono ?_
  rintro e w1 ⟨rfl, hb1⟩
  go_wp2_with fail
  refine (HT.out _).mono ?_
  rintro e w2 ⟨rfl, hb2⟩
  have hB9 := new_keep hb2
  have hbA := bnext (balloc hb1 (.cells #[.int .i64 0, .int .i64 0, .int .i64 b, .int .i64 n] 224)) hb2
  have hle1 := hb1.size
  have HB9 := Lib.hid hB9
  obtain ⟨qc, qf, qz⟩ := hB9.facts
  have HX := Lib.hid (below_set4 (v0 := .int .i64 1) (v1 := .int .i64 1) (v2 := .int .i64 b) (v3 := .int .i64 n) hbA hle1)
  have hB5 := hB9.set4 (v0 := .int .i64 1) (v1 := .int .i64 1) (v2 := .int .i64 b) (v3 := .int .i64 n)
  clear hB9 hb1 hb2
  go_wp2_with fail
  generalize (((w2.setCell ⟨w1.heap.size, 0, none⟩ (.int .i64 1)).setCell ⟨w1.heap.size, 1, none⟩ (.int .i64 1)).setCell ⟨w1.heap.size, 2, none⟩ (.int .i64 b)).setCell ⟨w1.heap.size, 3, none⟩ (.int .i64 n) = X at HX hB5 ⊢
  clear qc qf qz
  obtain ⟨qc, qf, qz⟩ := hB5.facts
  have hWX := HW0.out.keep HX.out
  have hb3 : Below X.heap.size X (X.alloc (.cells #[.int .i64 0, .int .i64 over, .int .i64 1, .int .i64 1, .int .i64 b, .int .i64 n] 226)).drew := ((Below.refl _ X).alloc (Nat.le_refl _) _).drew
  obtain ⟨g, cap, Y, hrun, hWY, hSY, hbY, hMY⟩ := (hWX.keep hb3).app (by omega) ⟨X.heap.size, 0, none⟩ over b n (World.news_of_block ((Blk.new X #[.int .i64 0, .int .i64 over, .int .i64 1, .int .i64 1, .int .i64 b, .int .i64 n] 226).drew))
  obtain ⟨xc, -, xz⟩ := hWX.blk.facts
  obtain ⟨yc, yf, yz⟩ := hbY.facts
  have mixed : Tryz.prog.follows .mixedOrders = true := by kernel_rfl
  have HWY := Lib.hid hWY
  have HSY := Lib.hid ((Stp.of_below (HX.out.trans (hb3.mono HX.out.size))).trans hSY)
  obtain ⟨da, dc, hdv, -, -, -⟩ := own_form HW0.out.devs
  rw [hdv] at xc yc hrun
  clear pc hWY hSY hWX hMY hbY hdv
  have HRun := Lib.hid hrun
  clear hrun
  go_upto_region 5 with (fail)
  go_cut [] (fun wx => wx = Y.setCell ⟨pw, 1, none⟩ (.slice (some ⟨g, 0, none⟩) (S.ds.length + 1) cap))
  case first =>
    have hrun := HRun.out
    go_region_law_o (refine step_app_run rfl rfl rfl rfl hrun ?_)
    all_goals
      go_wp2_with fail
      go_meet
      rfl
  case rest =>
    subst hcut
    generalize Y.setCell ⟨pw, 1, none⟩ (.slice (some ⟨g, 0, none⟩) (S.ds.length + 1) cap) = Z at HWY HSY ⊢
    clear xc xz yc yf yz qc qf qz hb3 hbA HB9 hB5 HRun
    have hWZ := HWY.out
    obtain ⟨zc, zf, zz⟩ := hWZ.blk.facts
    obtain ⟨m, hm⟩ : ∃ m, S.ds.length = m := ⟨_, rfl⟩
    have Hm := Lib.hid hm
    obtain ⟨S2, hS2⟩ : ∃ S2, (S.addDev over b n).add (rootN S) = S2 := ⟨_, rfl⟩
    obtain ⟨a5, ha5⟩ : ∃ a5 : An, { rootN S with no := S.last + 1 } = a5 := ⟨_, rfl⟩
    obtain ⟨a6, ha6⟩ : ∃ a6 : An, { rootN S with no := S.last + 1, up := S.last + 1 } = a6 := ⟨_, rfl⟩
    have HAdd := Lib.hid (show Calls Tryz.prog 205 #[.pointer (some ⟨R.pt, 0, none⟩), .agg #[.int .i64 0, .int .i64 ((m : Int) + 1), .int .i64 1, .int .i64 493, .int .i64 0, .int .i64 0, .int .i64 0, .int .i64 0, .int .i64 1, .int .i64 0, .string ByteArray.empty, .slice none 0 0]] Z fun e w' => e = .returned (.int .i64 (S.last + 1)) ∧ ∃ R' : Rp, WdAt w' pw R' S2 ∧ Stp (Rp.F { R with dv := .slice (some ⟨g, 0, none⟩) (S.ds.length + 1) cap } pw) (R'.F pw) Z w' ∧ R'.pt = R.pt ∧ R'.dv = .slice (some ⟨g, 0, none⟩) (S.ds.length + 1) cap by
      rw [← hm, ← hS2]
      exact hWZ.addN (rootN S) (EntsAt.nil Z) hl0 hl1)
    have HGet := Lib.hid (show S2.get (S.last + 1) = some a5 by rw [← hS2, ← ha5, an_add (nums_addDev hn over b n)]; exact if_pos rfl)
    have HV5 := Lib.hid (fun (ea : Option Addr) (el ec : Nat) => show a5.v ea el ec = .agg #[.int .i64 (S.last + 1), .int .i64 ((m : Int) + 1), .int .i64 1, .int .i64 493, .int .i64 0, .int .i64 0, .int .i64 0, .int .i64 0, .int .i64 1, .int .i64 0, .string ByteArray.empty, .slice ea el ec] by rw [← ha5, ← hm]; rfl)
    have HV6 := Lib.hid (fun (ea : Option Addr) (el ec : Nat) => show a6.v ea el ec = .agg #[.int .i64 (S.last + 1), .int .i64 ((m : Int) + 1), .int .i64 1, .int .i64 493, .int .i64 0, .int .i64 0, .int .i64 0, .int .i64 0, .int .i64 1, .int .i64 (S.last + 1), .string ByteArray.empty, .slice ea el ec] by rw [← ha6, ← hm]; rfl)
    have HA6 := Lib.hid (show a6.no = S.last + 1 ∧ a6.ents = a5.ents by rw [← ha6, ← ha5]; exact ⟨rfl, rfl⟩)
    have HEq := Lib.hid (show { (S2.set a6) with ds := (S2.set a6).ds.set m { (⟨0, over, 1, 1, b, n⟩ : Dv) with root := S.last + 1 } } = S.addRoot over b n by rw [← hS2, ← ha6, ← hm]; exact addRoot_eq S hn over b n)
    have HDk := Lib.hid (show (S2.set a6).ds[m]? = some ⟨0, over, 1, 1, b, n⟩ ∧ (S2.set a6).ds.length = m + 1 by
      rw [← hS2, ← hm]
      exact ⟨by show (S.ds ++ [_])[S.ds.length]? = _; rw [List.getElem?_append_right (Nat.le_refl _)]; simp, by show (S.ds ++ [_]).length = _; simp⟩)
    rw [hm] at zc
    clear hWZ hm hS2 ha5 ha6
    go_wp2_with fail
    refine HAdd.out.mono ?_
    rintro e w5 ⟨rfl, R5, hR1, hR2, hR3, hR4⟩
    have HR5 := Lib.hid (And.intro hR1 (And.intro ((HSY.out).trans hR2) hR4))
    obtain ⟨rc, -, rz⟩ := hR1.blk.facts
    rw [hR4, Hm.out] at rc
    obtain ⟨ea, el, ec, hE, hG⟩ := wget_yes hR1 HGet.out
    rw [HV5.out] at hG
    have HG := Lib.hid hG
    have HE := Lib.hid hE
    clear hR1 hR2 hR3 hR4 hG hE zc zf zz
    go_wp2_with fail
    refine HG.out.mono ?_
    rintro e w6 ⟨rfl, hb6⟩
    have rc0 : w6.cell? ⟨pw, 0, none⟩ = _ := (hb6.cell (p := ⟨pw, 0, none⟩) rz).trans (rc 0)
    have hz6 := Nat.lt_of_lt_of_le rz hb6.size
    have HB6 := Lib.hid (balloc hb6 (.cells #[.int .i64 (S.last + 1), .int .i64 ((m : Int) + 1), .int .i64 1, .int .i64 493, .int .i64 0, .int .i64 0, .int .i64 0, .int .i64 0, .int .i64 1, .int .i64 (S.last + 1), .string ByteArray.empty, .slice ea el ec] 170))
    have B7 := Blk.new w6 #[.int .i64 (S.last + 1), .int .i64 ((m : Int) + 1), .int .i64 1, .int .i64 493, .int .i64 0, .int .i64 0, .int .i64 0, .int .i64 0, .int .i64 1, .int .i64 (S.last + 1), .string ByteArray.empty, .slice ea el ec] 170
    clear rc hb6 rz
    go_wp2_with fail
    have rc7 : (w6.alloc (.cells #[.int .i64 (S.last + 1), .int .i64 ((m : Int) + 1), .int .i64 1, .int .i64 493, .int .i64 0, .int .i64 0, .int .i64 0, .int .i64 0, .int .i64 1, .int .i64 (S.last + 1), .string ByteArray.empty, .slice ea el ec] 170)).cell? ⟨pw, 0, none⟩ = _ := (((Below.refl w6.heap.size w6).alloc (Nat.le_refl _) (.cells #[.int .i64 (S.last + 1), .int .i64 ((m : Int) + 1), .int .i64 1, .int .i64 493, .int .i64 0, .int .i64 0, .int .i64 0, .int .i64 0, .int .i64 1, .int .i64 (S.last + 1), .string ByteArray.empty, .slice ea el ec] 170)).cell (p := ⟨pw, 0, none⟩) hz6).trans rc0
    generalize w6.alloc (.cells #[.int .i64 (S.last + 1), .int .i64 ((m : Int) + 1), .int .i64 1, .int .i64 493, .int .i64 0, .int .i64 0, .int .i64 0, .int .i64 0, .int .i64 1, .int .i64 (S.last + 1), .string ByteArray.empty, .slice ea el ec] 170) = W7 at rc7 HB6 B7 ⊢
    generalize w6.heap.size = B6 at B7 ⊢
    obtain ⟨bc, -, bz⟩ := B7.facts
    have hd7 : Below W7.heap.size W7 W7.drew := (Below.refl _ W7).drew
    have hb57 := HB6.out.trans (hd7.mono HB6.out.size)
    have hSet := (HR5.out.1.keep hb57).setN a6 (ea := ea) (el := el) (ec := ec) (by rw [HA6.out.2]; exact HE.out.keep hb57) (b := a5) (by rw [HA6.out.1]; exact HGet.out)
    rw [HV6.out] at hSet
    have HSet := Lib.hid hSet
    clear hSet rc0 hz6
    refine wp_region_lex 5 mixed (by kernel_rfl) then_panic ?_
    simp only [List.take_succ_cons, List.take_zero, List.drop_succ_cons, List.drop_zero]
    repeat still_step
    refine wpStill_nil ?_
    go_wp2_with fail
    refine HSet.out.mono ?_
    rintro e w8 ⟨rfl, R8, hR1, hR2, hR3, hR4⟩
    have hdv8 : R8.dv = .slice (some ⟨g, 0, none⟩) (m + 1) cap := by rw [hR4, HR5.out.2.2, Hm.out]
    have hl8 : (S2.set a6).ds.length = m + 1 := HDk.out.2
    have hk8 : m < (S2.set a6).ds.length := by omega
    have hv8 : (S2.set a6).ds[m] = ⟨0, over, 1, 1, b, n⟩ := by
      have := HDk.out.1
      rw [List.getElem?_eq_getElem hk8] at this
      simpa using this
    obtain ⟨g8, cap8, hdv9, hle8, h638, -, hc8, hf8, -⟩ := hR1.devF (by omega)
    have e8 := hdv9.symm.trans hdv8
    injection e8 with e8 e9 e10
    injection e8 with e8
    injection e8 with e8
    subst e8 e10
    have c8 := (hc8 m hk8).c0
    rw [hv8] at c8
    obtain ⟨rc, -, rz⟩ := hR1.blk.facts
    rw [hdv8] at rc
    obtain ⟨hWF, hMF⟩ := hR1.setRoot (by rw [hl8]; exact hdv8) hk8 _ hv8 (S.last + 1)
    have HF := Lib.hid (And.intro hWF (show Stp (R.F pw) (R8.F pw) w _ from ((HR5.out.2.1.trans (Stp.of_below hb57)).trans hR2).trans (Stp.of_mod (hMF.mono (fun x hx => .inr (.inr (.inr (by rw [hdv8, hx]; rfl))))))))
    rw [hl8] at hle8
    clear hR1 hR2 hR3 hR4 hdv8 hl8 hk8 hv8 hc8 hWF hMF hdv9 e9 bc bz hd7 hb57 rc7
    have hb3 : (m : Int) < (m : Int) + 1 := by omega
    have hb4 : (0 : Int) ≤ (m : Int) := by omega
    go_wp2_with fail
    go_ret
    refine ⟨rfl, R8, ?_, HF.out.2⟩
    rw [← HEq.out]
    exact HF.out.1
end

end Go.Proofs.YtkkiglagdojnlaaGreatDoor
