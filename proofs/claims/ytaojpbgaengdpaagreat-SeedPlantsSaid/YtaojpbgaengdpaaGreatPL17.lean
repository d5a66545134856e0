/- Texts of the proof, part 17. -/
import Derived.Deep.LoopGhost
import Derived.Laws.CopyRow
import Derived.Laws.Externs
import Derived.Lib.Overlaps
import Derived.Lib.AppendZeros
import Derived.Lib.JoinLaws
import Derived.Deep.AppendSrc
import Derived.Test.YtaojpbgaengdpaaGreatPL16
import Derived.Test.YtaojpbgaengdpaaGreatPL11
import Derived.Test.YtaojpbgaengdpaaGreatPL14
import Derived.Test.YtaojpbgaengdpaaGreatPL7
import Derived.Test.YtaojpbgaengdpaaGreatPL3
set_option linter.unusedVariables false
set_option linter.unusedSimpArgs false
/- slices.Collect over an iterator that keeps cells of its own: texts, in their order. -/
namespace Go.Proofs.YtaojpbgaengdpaaGreat

open Go.RowKit Go.Shelf

attribute [local go_sem] Oper.semAt_some

theorem keeps_mod1 {S : Nat → Prop} {w W : World} (h : Mod S w W) (hS : ∀ k, S k → ∃ cur T fz, w.heap[k]? = some (.cells cur T fz)) : KeepsOthers w W :=
  ⟨h.size, fun k o hk ho => (h.block k (Array.getElem?_eq_some_iff.1 hk).1 (fun hs => by obtain ⟨cur, T, fz, hc⟩ := hS k hs; rw [hc] at hk; injection hk with hk; subst hk; cases ho)).trans hk⟩
theorem OS.nil (w : World) (base : Nat) : OS w base (.slice none 0 0) [] := ⟨rfl, .inl ⟨rfl, rfl⟩⟩
theorem OS.turn {w w' : World} {base : Nat} {v : Value} {ls : List (List UInt8)} (h : OS w base v ls) (ht : ∀ k cur, base ≤ k → w.heap[k]? = some (.cells cur 9 (0, 0)) → w'.heap[k]? = some (.cells cur 9 (0, 0))) : OS w' base v ls :=
  ⟨h.1, h.2.imp id fun ⟨g, cap, cur, hv, hb, hg, rest⟩ => ⟨g, cap, cur, hv, hb, ht _ _ hb hg, rest⟩⟩
theorem OS.low {w : World} {base base' : Nat} {v : Value} {ls : List (List UInt8)} (h : OS w base v ls) (hb : base' ≤ base) : OS w base' v ls :=
  ⟨h.1, h.2.imp id fun ⟨g, cap, cur, hv, hg, rest⟩ => ⟨g, cap, cur, hv, Nat.le_trans hb hg, rest⟩⟩
theorem OS.appK {w : World} {base : Nat} {v : Value} {ls : List (List UInt8)} (h : OS w base v ls) (l : List UInt8) (hl : ls.length ≤ 1000000) (hb : base ≤ w.heap.size) :
    ∃ g cap W, (Builtin.append_ #[41, 41] 41 #[v, .slice (some ⟨w.heap.size, 0, none⟩) 1 1]).run Tryz.prog (w.alloc (.cells #[.string (str l)] 9)) = .ok (.slice (some ⟨g, 0, none⟩) (ls.length + 1) cap) W ∧
      OS W base (.slice (some ⟨g, 0, none⟩) (ls.length + 1) cap) (ls ++ [l]) ∧ Below base w W ∧ KeepsOthers w W ∧ (v.ownBlock = some g ∨ w.heap.size ≤ g) := by
  obtain ⟨i0, hi, hz0, hz1, hz2⟩ := info_parts str_info
  have ho := World.ownsRow.alloc h (.cells #[.string (str l)] 9)
  obtain ⟨g, cap, W, h1, h2, h3, h4⟩ := step_app 41 Tryz.underlying41 hi hz0 hz1 hz2 rfl (by omega) ho ⟨w.heap.size, 0, none⟩ 1 1 [.string (str l)] rfl (World.news_of_block (Blk.new w #[.string (str l)] 9)) (by intro u hu; simp at hu; subst hu; rfl) (by omega) (by unfold maxLen; omega) (by omega) (by simp; omega)
  refine ⟨g, cap, W, h1, ?_, ?_, (KeepsOthers.alloc _ _).trans (keeps_mod1 h3 (fun k hk => by obtain ⟨-, cur, hc⟩ := own_obj1 ho hk; exact ⟨_, _, _, hc⟩)), h4.imp id (fun h => by rw [h]; simp)⟩
  · unfold OS
    rw [List.length_append, List.length_singleton, List.flatMap_append]
    exact h2
  · refine (((Below.refl base w).alloc hb _)).trans (h3.below (fun k hk => (h.lt k hk).1) (by simp; omega))
theorem wpListIn_app_run1 {F : Fence} {n : Nat} {P : Program} {ops : Array Oper} {rest : List Oper} {o : Oper} {a : Act} {w W : World} {Q : Exit → Act → World → Prop} {s x : Operand} {t : TypeId} {v y r : Value}
    (hgd : o.guard = none) (ho : o.op = .call { callee := .builtin .append, args := #[s, x], argTypes := #[t, t] }) (hs : a.eval s = v) (hx : a.eval x = y)
    (hrun : (Builtin.append_ #[t, t] o.type #[v, y]).run P w = .ok r W) (h : wpListIn F n P ops Q rest (a.put o.dst r) W) : wpListIn F n P ops Q (o :: rest) a w :=
  wpListIn_plain hgd fun K hK => by
    unfold Oper.wpIn
    refine ⟨by simp [Oper.about, ho, resolve, Target.leads, Sem.run_pure], ?_⟩
    rw [Oper.semAt_plain F _ _ (by rw [ho]; intro c hc; cases hc)]
    simp [execOp, ho, resolve, invoke, builtin, hs, hx, hrun, Result.andThen]
    exact hK _ _ h
/-- between two rounds. -/
structure CI (T : Nat → Prop) (w : World) (B base : Nat) (pre : List (List UInt8)) (W : World) : Prop where
  box : ∃ v, Blk W B #[v] 41 ∧ OS W base v pre
  mod : Mod T w W
theorem mod_turn {T : Nat → Prop} {N : Nat} {w W W' : World} (h : Mod T w W) (ht : Turn T N notCells W W') (hN : w.heap.size ≤ N) : Mod T w W' := by
  refine ⟨ht.os.trans h.os, ht.tape.trans h.tape, ht.output.trans h.output, Nat.le_trans h.size ht.size, fun k hk hs => ?_⟩
  obtain ⟨o, ho⟩ : ∃ o, w.heap[k]? = some o := ⟨w.heap[k]'(by omega), Array.getElem?_eq_getElem _⟩
  rw [ht.block k o ((h.block k hk hs).trans ho) hs (fun h => by omega), ho]
set_option maxRecDepth 100000 in
set_option maxHeartbeats 2000000 in
theorem appseq_any {g : Nat} {lb : Array Value} (eg : ∀ args w, (callFunc g args).run Tryz.prog w = .ok (.enter g args) w) {T : Nat → Prop} {S Sp : List (List UInt8) → Prop} {V : List (List UInt8) → List UInt8 → Prop} (w : World)
    (hseq : SeqT T Fence.wide 4 Tryz.prog g lb (fun x : List UInt8 => #[.string (str x)]) S Sp V w) (hT : ∀ k, T k → k < w.heap.size) (hV : ∀ pre x, V pre x → pre.length ≤ 1000000) :
    Calls Tryz.prog 122 #[.slice none 0 0, .func (.func g) #[] lb] w fun e w' => (∃ v ss, e = .returned v ∧ S ss ∧ OS w' w.heap.size v ss) ∧ Mod T w w' := by
  refine (callsIn_wide (n := 5)).1 ?_
  refine callsIn_of_wp_marks Tryz.func122 rfl trivial ?_ rfl
  simp only [Tryz.ntmps122, List.size_toArray, List.length_cons, List.length_nil, Nat.reduceAdd, Nat.reduceSub, Array.replicate_succ, Array.replicate_zero, List.push_toArray, List.append_toArray, List.nil_append, List.cons_append]
  have q0 := Blk.new w #[.slice none 0 0] 41
  have hB0 := balloc (Below.refl w.heap.size w) (.cells #[.slice none 0 0] 41)
  have hz : (w.alloc (.cells #[.slice none 0 0] 41)).heap.size = w.heap.size + 1 := by simp
  have HSq := Lib.hid hseq
  clear hseq
  gi_wp2
  generalize w.alloc (.cells #[.slice none 0 0] 41) = W1 at q0 hB0 hz ⊢
  refine' wpIn_rangeT (T := T) rfl (by omega) (gf := g) (lb := lb) rfl trivial eg HSq.out (fun k hk => by have := hT k hk; omega) (KT.of_below hB0 hT) (fun _ => rfl)
    (fun pre W => CI T w w.heap.size W1.heap.size pre W)
    (fun _ _ _ => False)
    (fun pre A B h ht => ?own) (fun c pre A B h ht => h) ⟨⟨_, q0, OS.nil _ _⟩, Mod.of_below hB0⟩ _ ?assign ?body ?done (fun D c pre W _ _ h _ => h.elim)
  case own =>
    obtain ⟨⟨v, h1, h2⟩, h3⟩ := h
    exact ⟨⟨v, ht.block _ _ h1 (fun e => by have := hT _ e; omega) (fun _ => rfl), h2.turn (fun k cur hk hc => ht.block _ _ hc (fun e => by have := hT _ e; omega) (fun _ => rfl))⟩, mod_turn h3 ht (by omega)⟩
  case assign =>
    intro L x W K hK
    gi_wp2
    exact hK
  case body =>
    rintro L pre x W hL hLW ⟨⟨v, b1, hO⟩, hM⟩ hv
    obtain ⟨a, c, rfl, -, -, -⟩ := own_form hO
    obtain ⟨g2, cap2, W2, hrun, hO2, hB2, hKO, hg2⟩ := hO.appK x (hV _ _ hv) (show W1.heap.size ≤ W.heap.size by omega)
    have hlp := hO.1
    have HR := Lib.hid hrun
    have k1 := b1.keepB hB2 (show w.heap.size < W1.heap.size by omega)
    obtain ⟨c1, f1, z1⟩ := b1.facts
    obtain ⟨d1, e1, y1⟩ := k1.facts
    have K1 := Lib.hid k1
    have HX := Lib.hid (And.intro hO2 (And.intro hB2 (And.intro hKO (And.intro hM hg2))))
    clear hrun hO2 hB2 k1 b1 hKO hM hO hg2 hlp
    gi_wp2_with (gi_at_builtin; refine wpListIn_app_run1 rfl rfl rfl rfl HR.out ?_)
    obtain ⟨hO2, hB2, hKO, hM, hg2⟩ := HX.out
    have hm := (Mod.refl (fun k => k = w.heap.size) W2).setCell (a := ⟨w.heap.size, 0, none⟩) (.inl rfl) (.slice (some ⟨g2, 0, none⟩) (pre.length + 1) cap2)
    refine ⟨(hKO.trans (KeepsOthers.setCell _ _ _)).from _, ⟨Nat.le_trans hB2.size hm.size, fun k hk => ?_⟩, ⟨⟨_, K1.out.set 0 _, hO2.turn (fun k cur hk hc => (hm.block k (Array.getElem?_eq_some_iff.1 hc).1 (by omega)).trans hc)⟩, ?_⟩⟩
    · have := hT k hk
      rw [hm.block k (by have := hB2.size; omega) (by omega)]
      exact hB2.block k (by omega)
    · refine ⟨hm.os.trans (hB2.os.trans hM.os), hm.tape.trans (hB2.tape.trans hM.tape), hm.output.trans (hB2.output.trans hM.output), Nat.le_trans hM.size (Nat.le_trans hB2.size hm.size), fun k hk hs => ?_⟩
      rw [hm.block k (by have := hB2.size; have := hM.size; omega) (by omega), hB2.block k (by omega)]
      exact hM.block k hk hs
  case done =>
    rintro D xs W hD hS ⟨⟨v, b1, hO⟩, hM⟩ hK
    obtain ⟨a, c, rfl, -, -, -⟩ := own_form hO
    obtain ⟨c1, f1, z1⟩ := b1.facts
    have HO := Lib.hid (And.intro hO hM)
    clear hO hM b1
    gi_wp2
    show LeavesInM Fence.wide 5 Tryz.prog Tryz.f122 _ _ _ _ W
    refine ⟨by simp, .inl ⟨_, _, rfl, run_takeDeferred hK, ?_⟩⟩
    refine ⟨.slice a xs.length c, by simp [results, Tryz.results122, go_sem], ⟨_, _, rfl, hS, (HO.out.1.low (show w.heap.size ≤ W1.heap.size by omega)).turn (fun k cur hk hc => (World.putObj_heap_other (fun e => by subst e; rw [hK] at hc; cases hc)).trans hc)⟩, ?_⟩
    have hm := HO.out.2
    exact ⟨hm.os, hm.tape, hm.output, Nat.le_trans hm.size (by simp), fun k hk hs => (World.putObj_heap_other (fun e => by omega)).trans (hm.block k hk hs)⟩
/-- slices.Collect over such an iterator. -/
theorem collect_any {g : Nat} {lb : Array Value} (eg : ∀ args w, (callFunc g args).run Tryz.prog w = .ok (.enter g args) w) {T : Nat → Prop} {S Sp : List (List UInt8) → Prop} {V : List (List UInt8) → List UInt8 → Prop} (w : World)
    (hseq : SeqT T Fence.wide 4 Tryz.prog g lb (fun x : List UInt8 => #[.string (str x)]) S Sp V w) (hT : ∀ k, T k → k < w.heap.size) (hV : ∀ pre x, V pre x → pre.length ≤ 1000000) :
    Calls Tryz.prog 85 #[.func (.func g) #[] lb] w fun e w' => (∃ v ss, e = .returned v ∧ S ss ∧ OS w' w.heap.size v ss) ∧ Mod T w w' := by
  have HA := Lib.hid (appseq_any eg w hseq hT hV)
  clear hseq hT hV eg
  go_enter Tryz.func85, Tryz.ntmps85
  go_wp2_with fail
  refine HA.out.mono ?_
  rintro e w1 ⟨⟨v, ss, rfl, hS, hO⟩, hM⟩
  have HX := Lib.hid (And.intro hS (And.intro hO hM))
  clear hS hO hM
  go_wp2_with fail
  go_ret
  exact ⟨⟨v, ss, rfl, HX.out.1, HX.out.2.1⟩, HX.out.2.2⟩
/-- name.Parts, collected. -/
theorem nparts_any (s : ByteArray) (w : World) :
    Calls Tryz.prog 82 #[.string s] w fun e w' => e = .returned (.func (.func 119) #[] #[.pointer (some ⟨w.heap.size, 0, none⟩)]) ∧ w' = w.alloc (.cells #[.string s] 9) := by
  go_enter Tryz.func82, Tryz.ntmps82
  go_wp2_with fail
  go_ret
  exact ⟨rfl, rfl⟩
theorem pcollect_any (s : ByteArray) (hs : s.size ≤ 100000) (w : World) :
    Calls Tryz.prog 85 #[.func (.func 119) #[] #[.pointer (some ⟨w.heap.size, 0, none⟩)]] (w.alloc (.cells #[.string s] 9)) fun e w' => (∃ v, e = .returned v ∧ OS w' w.heap.size v (partsL s.data.toList)) ∧ Below w.heap.size w w' := by
  have hz : (w.alloc (.cells #[.string s] 9)).heap.size = w.heap.size + 1 := by simp
  refine (collect_any (enters_of Tryz.func119 (by kernel_rfl) rfl) (w.alloc (.cells #[.string s] 9)) (parts_stops 4 (by omega) w.heap.size s hs _ (Blk.new w #[.string s] 9)) (fun k hk => by omega) (fun pre x h => ?_)).mono ?_
  · have h1 := h.length_le
    have h2 := parts_len s.data.toList
    have h3 : s.data.toList.length = s.size := Array.length_toList
    rw [List.length_append, List.length_singleton] at h1
    omega
  · rintro e w1 ⟨⟨v, ss, rfl, rfl, hO⟩, hM⟩
    exact ⟨⟨v, rfl, hO.low (by omega)⟩, (balloc (Below.refl w.heap.size w) _).trans (hM.below (fun k hk => by omega) (by omega))⟩
end Go.Proofs.YtaojpbgaengdpaaGreat

/- A directory has other names (layer 17): Touch. -/
namespace Go.Proofs.YtaojpbgaengdpaaGreat

open Go.RowKit

section

variable {w w' : World} {pw : Nat} {R : Rp} {S : Fs}

theorem body_panic {P : Program} {fn : Func} {R : Ending → World → Prop} : ∀ c d v a w, bodyPost P fn R (.panic c) (Act.put a d v) w → bodyPost P fn R (.panic c) a w :=
  fun c d v a w h => by
    have h' : (Act.put a d v).defers = [] ∧ R (.panicked c) w := h
    exact show a.defers = [] ∧ R (.panicked c) w from ⟨by rw [← h'.1]; cases d <;> rfl, h'.2⟩
set_option maxRecDepth 100000 in
set_option maxHeartbeats 2000000 in
theorem touch_any (h : WdAt w pw R S) (dir now : Int) (d : An) (hg : S.get dir = some d) (l : List En) (a : Option Addr) (n c : Nat) (hl : EntsAt w a n c l) :
    Calls Tryz.prog 131 #[.pointer (some ⟨pw, 0, none⟩), .int .i64 dir, .int .i64 now, .slice a n c] w fun e w' => e = .returned (.tuple #[]) ∧ ∃ R', WdAt w' pw R' (S.touch now dir l) ∧ Stp (R.F pw) (R'.F pw) w w' := by
  obtain ⟨ea, el, ec, he, hG⟩ := wget_fix h hg
  have HG := Lib.hid (hG w (Below.refl _ _))
  unfold An.v at HG
  have HT := Lib.hid (show S.touch now dir l = S.set { d with ents := l, mtime := now, ctime := now } by unfold Fs.touch; rw [hg])
  have hno := an_no hg
  have HSet := Lib.hid (fun w1 (hb1 : Below w.heap.size w w1) => (h.keep hb1).setN { d with ents := l, mtime := now, ctime := now } (hl.keep hb1) (b := d) (by rw [show ({ d with ents := l, mtime := now, ctime := now } : An).no = d.no from rfl, hno]; exact hg))
  unfold An.v at HSet
  obtain ⟨pc, -, pz⟩ := h.blk.facts
  have mixed : Tryz.prog.follows .mixedOrders = true := by kernel_rfl
  clear h hg he hG hno hl
  go_enter Tryz.func131, Tryz.ntmps131
  go_wp2_with fail
  refine HG.out.mono ?_
  rintro e w1 ⟨rfl, hb1⟩
  have pc0 : (w1.alloc (.cells #[.int .i64 d.no, .int .i64 d.dev, .int .i64 d.kind, .int .i64 d.mode, .int .i64 d.uid, .int .i64 d.gid, .int .i64 now, .int .i64 now, .int .i64 d.links, .int .i64 d.up, .string d.data, .slice a n c] 110)).cell? ⟨pw, 0, none⟩ = _ := ((balloc hb1 (.cells #[.int .i64 d.no, .int .i64 d.dev, .int .i64 d.kind, .int .i64 d.mode, .int .i64 d.uid, .int .i64 d.gid, .int .i64 now, .int .i64 now, .int .i64 d.links, .int .i64 d.up, .string d.data, .slice a n c] 110)).cell (p := ⟨pw, 0, none⟩) pz).trans (pc 0)
  have hB := Blk.new w1 #[.int .i64 d.no, .int .i64 d.dev, .int .i64 d.kind, .int .i64 d.mode, .int .i64 d.uid, .int .i64 d.gid, .int .i64 now, .int .i64 now, .int .i64 d.links, .int .i64 d.up, .string d.data, .slice a n c] 110
  have hbX := balloc hb1 (.cells #[.int .i64 d.no, .int .i64 d.dev, .int .i64 d.kind, .int .i64 d.mode, .int .i64 d.uid, .int .i64 d.gid, .int .i64 now, .int .i64 now, .int .i64 d.links, .int .i64 d.up, .string d.data, .slice a n c] 110)
  clear pc hb1
  go_wp2_with fail
  generalize w1.alloc (.cells #[.int .i64 d.no, .int .i64 d.dev, .int .i64 d.kind, .int .i64 d.mode, .int .i64 d.uid, .int .i64 d.gid, .int .i64 now, .int .i64 now, .int .i64 d.links, .int .i64 d.up, .string d.data, .slice a n c] 110) = X at pc0 hB hbX ⊢
  obtain ⟨bc, -, bz⟩ := hB.facts
  have HS := Lib.hid (HSet.out _ hbX.drew)
  have HX := Lib.hid hbX
  clear hB hbX
  refine wp_region_lex 5 mixed (by kernel_rfl) body_panic ?_
  simp only [List.take_succ_cons, List.take_zero, List.drop_succ_cons, List.drop_zero]
  repeat still_step
  refine wpStill_nil ?_
  go_wp2_with fail
  refine HS.out.mono ?_
  rintro e w5 ⟨rfl, R', hR1, hR2, -, -⟩
  have HR := Lib.hid (And.intro hR1 hR2)
  clear hR1 hR2
  go_wp2_with fail
  go_end0
  rw [HT.out]
  exact ⟨rfl, R', HR.out.1, (Stp.of_below HX.out.drew).trans HR.out.2⟩
end

end Go.Proofs.YtaojpbgaengdpaaGreat

/- Names in a directory (layer 11): how they are held against each other; where a name is, or would be. -/
namespace Go.Proofs.YtaojpbgaengdpaaGreat

open Go.RowKit

def cmpB (a b : ByteArray) : Int := if ltB a b = true then -1 else if ltB b a = true then 1 else 0
theorem cmpB_lt (a b : ByteArray) : (cmpB a b < 0) = (ltB a b = true) := by
  unfold cmpB
  cases h : ltB a b
  · simp; split <;> omega
  · simp
theorem cmpB_eq (a b : ByteArray) : (cmpB a b = 0) = (a = b) := by
  unfold cmpB
  cases h : ltB a b
  · cases k : ltB b a
    · simp [ltB_total h k]
    · simp [(ltB_ne k).symm]
  · simp [ltB_ne h]

set_option maxHeartbeats 400000 in
theorem nan_any (s : ByteArray) (w : World) :
    Calls Tryz.prog 167 #[.string s] w fun e w' => e = .returned (.bool false) ∧ w = w' := by
  go_enter Tryz.func167, Tryz.ntmps167
  go_wp2
  go_ret
  exact ⟨rfl, rfl⟩

set_option maxHeartbeats 400000 in
theorem compare_any (a b : ByteArray) (w : World) :
    Calls Tryz.prog 157 #[.string a, .string b] w fun e w' => e = .returned (.int .i64 (cmpB a b)) ∧ w = w' := by
  unfold cmpB
  cases h : ltB a b
  · cases k : ltB b a
    · obtain rfl : a = b := ltB_total h k
      rw [← ltB_mk] at h
      clear k
      go_enter Tryz.func157, Tryz.ntmps157
      go_wp2
      go_ret
      exact ⟨rfl, rfl⟩
    · have hne : ¬ a.toList = b.toList := fun e => by
        rw [ByteArray.toList_eq, ByteArray.toList_eq] at e
        rw [ba_eq e, ltB_irrefl] at k
        cases k
      have hq : (a.toList == b.toList) = false := by simpa using hne
      rw [← ltB_mk] at h
      clear k
      go_enter Tryz.func157, Tryz.ntmps157
      go_wp2
      go_ret
      exact ⟨rfl, rfl⟩
  · rw [← ltB_mk] at h
    go_enter Tryz.func157, Tryz.ntmps157
    go_wp2
    go_ret
    exact ⟨rfl, rfl⟩

set_option maxHeartbeats 400000 in
theorem by_any (x : En) (n : ByteArray) (w : World) :
    Calls Tryz.prog 143 #[.agg #[.string x.name, .int .i64 x.no], .string n] w fun e w' => e = .returned (.int .i64 (cmpB x.name n)) ∧ Below w.heap.size w w' := by
  go_enter Tryz.func143, Tryz.ntmps143
  go_wp2_with (go_at_call 157; refine (compare_any _ _ _).mono ?_; rintro e w1 ⟨rfl, rfl⟩)
  go_ret
  exact ⟨rfl, by go_grown⟩
end Go.Proofs.YtaojpbgaengdpaaGreat

/- Where a name is, or would be: slices.BinarySearchFunc over names in a directory. -/
namespace Go.Proofs.YtaojpbgaengdpaaGreat

open Go.RowKit

def hasE (es : List En) (s : ByteArray) : Bool := (es.find? (fun x => decide (x.name = s))).isSome
set_option maxRecDepth 100000 in
set_option maxHeartbeats 1000000 in
theorem search_any (es : List En) (a : Option Addr) (n c : Nat) (s : ByteArray) (w : World) (he : EntsAt w a n c es) (hr : Rise es) (hn : n ≤ 1000000) :
    Calls Tryz.prog 142 #[.slice a n c, .string s, .func (.func 143) #[] #[]] w fun e w' => e = .returned (.tuple #[.int .i64 (entAt es s), .bool (hasE es s)]) ∧ Below w.heap.size w w' := by
  have hl := he.len
  have HR := Lib.hid hr
  have HE := Lib.hid he
  have hat := entAt_le es s
  clear hr he
  obtain ⟨A, hA⟩ : ∃ A, entAt es s = A := ⟨_, rfl⟩
  have HA := Lib.hid hA
  rw [hA] at hat ⊢
  clear hA
  go_enter Tryz.func142, Tryz.ntmps142
  go_wp2_with fail
  go_loopw [9, 10] (fun i j wr => ∃ lo hi : Nat, lo ≤ A ∧ A ≤ hi ∧ hi ≤ n ∧ i = .int .i64 lo ∧ j = .int .i64 hi ∧ Below w.heap.size w wr) (fun i j _ => (intOf j - intOf i).toNat)
  case atStart => exact ⟨0, n, by omega, by omega, by omega, rfl, rfl, Below.refl _ _⟩
  case round =>
    obtain ⟨lo, hi, h1, h2, h3, rfl, rfl, hB⟩ := hrel
    by_cases hlt : lo < hi
    · obtain ⟨b, off, rfl, hb⟩ := HE.out.some_of (by omega)
      obtain ⟨k, hk⟩ : ∃ k : Nat, (lo + hi) / 2 = k := ⟨_, rfl⟩
      have hkl : k < es.length := by omega
      obtain ⟨c1, c2⟩ := (HE.out.keep hB).cell k hkl
      obtain ⟨x, hx⟩ : ∃ x, es[k] = x := ⟨_, rfl⟩
      rw [hx] at c1 c2
      have hcv : (cmpB x.name s < 0) = (k < A) := by
        rw [cmpB_lt, ← hx, rise_lt HR.out s k hkl, HA.out]
        simp
      by_cases hkA : k < A
      · have hneg : cmpB x.name s < 0 := by rw [hcv]; exact hkA
        clear hcv hx
        go_wp2_with fail
        refine (by_any x s _).mono ?_
        rintro e w1 ⟨rfl, hb1⟩
        go_wp2_with fail
        go_roundw
        case rel => exact ⟨k + 1, hi, by omega, by omega, h3, by go_num, rfl, bnext hB hb1⟩
        case measure => simp [intOf]; omega
      · have hneg : ¬ cmpB x.name s < 0 := by rw [hcv]; exact hkA
        clear hcv hx
        go_wp2_with fail
        refine (by_any x s _).mono ?_
        rintro e w1 ⟨rfl, hb1⟩
        go_wp2_with fail
        go_roundw
        case rel => exact ⟨lo, k, by omega, by omega, by omega, rfl, by rw [show ((lo : Int) + (hi : Int)) / 2 = (k : Int) by omega], bnext hB hb1⟩
        case measure => simp [intOf]; omega
    · obtain rfl : lo = A := by omega
      by_cases hAn : lo < n
      · obtain ⟨b, off, rfl, hb⟩ := HE.out.some_of (by omega)
        have hkl : lo < es.length := by omega
        obtain ⟨c1, c2⟩ := (HE.out.keep hB).cell lo hkl
        obtain ⟨x, hx⟩ : ∃ x, es[lo] = x := ⟨_, rfl⟩
        rw [hx] at c1 c2
        by_cases hxs : x.name = s
        · have hz : cmpB x.name s = 0 := by rw [cmpB_eq]; exact hxs
          have HF := Lib.hid (show hasE es s = true by
            unfold hasE
            rw [find_at HR.out s, dif_pos (by rw [HA.out]; exact hkl), if_pos (by simp only [HA.out, hx]; exact hxs)]
            rfl)
          have Hz := Lib.hid hz
          clear hx hxs hz
          go_wp2_with fail
          refine (by_any x s _).mono ?_
          rw [Hz.out]
          rintro e w1 ⟨rfl, hb1⟩
          go_wp2_with fail
          go_ret2
          exact ⟨by rw [HF.out]; rfl, bnext hB hb1⟩
        · have hz : ¬ cmpB x.name s = 0 := by rw [cmpB_eq]; exact hxs
          have HF := Lib.hid (show hasE es s = false by
            unfold hasE
            rw [find_at HR.out s, dif_pos (by rw [HA.out]; exact hkl), if_neg (by simp only [HA.out, hx]; exact hxs)]
            rfl)
          have hz2 : (cmpB x.name s == 0) = false := by simpa using hz
          clear hx hxs hz
          go_wp2_with fail
          refine (by_any x s _).mono ?_
          rintro e w1 ⟨rfl, hb1⟩
          go_wp2_with fail
          go_ret2
          exact ⟨by rw [HF.out]; rfl, bnext hB hb1⟩
      · have HF := Lib.hid (show hasE es s = false by
          unfold hasE
          rw [find_at HR.out s, dif_neg (by rw [HA.out]; omega)]
          rfl)
        go_wp2_with fail
        go_ret2
        exact ⟨by rw [HF.out]; rfl, hB⟩

/-- what Find answers. -/
theorem has_find {es : List En} {s : ByteArray} (h : hasE es s = false) : entFind es s = 0 := by
  unfold hasE at h
  unfold entFind
  cases hf : es.find? (fun x => decide (x.name = s)) with
  | none => rfl
  | some x => rw [hf] at h; cases h
theorem at_find {es : List En} {s : ByteArray} (hr : Rise es) (h : hasE es s = true) : ∃ hk : entAt es s < es.length, entFind es s = es[entAt es s].no ∧ es[entAt es s].name = s := by
  unfold hasE at h
  unfold entFind
  rw [find_at hr s] at h ⊢
  split at h
  · rename_i hk
    split at h
    · rename_i hx
      refine ⟨hk, ?_, hx⟩
      rw [dif_pos hk, if_pos hx]
    · cases h
  · cases h
set_option maxRecDepth 100000 in
set_option maxHeartbeats 400000 in
theorem efind_any (es : List En) (a : Option Addr) (n c : Nat) (s : ByteArray) (w : World) (he : EntsAt w a n c es) (hr : Rise es) (hn : n ≤ 1000000) :
    Calls Tryz.prog 125 #[.slice a n c, .string s] w fun e w' => e = .returned (.int .i64 (entFind es s)) ∧ Below w.heap.size w w' := by
  have hl := he.len
  have HS := Lib.hid (search_any es a n c s w he hr hn)
  cases hh : hasE es s
  · rw [hh] at HS
    rw [has_find hh]
    go_enter Tryz.func125, Tryz.ntmps125
    go_wp2_with fail
    refine HS.out.mono ?_
    rintro e w1 ⟨rfl, hb1⟩
    go_wp2_with fail
    go_ret
    exact ⟨rfl, hb1⟩
  · rw [hh] at HS
    obtain ⟨hk, hf, -⟩ := at_find hr hh
    rw [hf]
    obtain ⟨b, off, rfl, hb⟩ := he.some_of (by omega)
    obtain ⟨A, hA⟩ : ∃ A, entAt es s = A := ⟨_, rfl⟩
    simp only [hA] at hk HS ⊢
    obtain ⟨x, hx⟩ : ∃ x, es[A] = x := ⟨_, rfl⟩
    rw [hx]
    have HE := Lib.hid he
    clear hf hA he hh
    go_enter Tryz.func125, Tryz.ntmps125
    go_wp2_with fail
    refine HS.out.mono ?_
    rintro e w1 ⟨rfl, hb1⟩
    obtain ⟨c1, c2⟩ := (HE.out.keep hb1).cell A hk
    rw [hx] at c1 c2
    go_wp2_with fail
    go_ret
    exact ⟨rfl, hb1⟩
end Go.Proofs.YtaojpbgaengdpaaGreat

/- Slices of structs: a copy between rows, what a row of the call's own holds behind it. No program in sight. -/
namespace Go.Proofs.YtaojpbgaengdpaaGreat

open Go.RowKit

section

variable {P : Program}

theorem run_copy_rowK (w : World) (dT sT ty elem : TypeId) (g o dLen dCap : Nat) (a : Addr) (sLen sCap : Nat) (cur : Array Value) (t : TypeId) (cs : List Value) (n sz : Nat)
    (hu : P.underlying dT = some (.slice elem)) (hs : (P.info? elem).map (·.size) = some sz)
    (hg : w.heap[g]? = some (.cells cur t (0, 0))) (hm : Nat.min sLen dLen = n) (hn : cs.length = n * sz)
    (hsrc : ∀ j v, cs[j]? = some v → w.cell? (a.add j) = some v) (hfit : o + cs.length ≤ cur.size) (h1 : ∀ v ∈ cs, v.oneCell' = true) :
    (Builtin.copy_ #[dT, sT] ty #[.slice (some ⟨g, o, none⟩) dLen dCap, .slice (some a) sLen sCap]).run P w =
      .ok (goInt n) (w.setRow g (cur.toList.take o ++ cs ++ cur.toList.drop (o + cs.length)).toArray) := by
  have hl := run_loadCells_list (P := P) w a cs hsrc
  have hst := run_storeCells_at P g o t cs 0 cur w hg (by simpa using hfit) h1
  cases hq : P.info? elem with
  | none => simp [hq] at hs
  | some i =>
    have hi : i.size = sz := by simpa [hq] using hs
    simp [Builtin.copy_, run_underlying hu, Builtin.lenOf, Builtin.firstCells, sizeOf, typeInfo, hq, hi, hm, ← hn, hl, hst]
/-- a copy whose run is known. -/
theorem wp_copy_run (w : World) {o : Oper} {a : Act} {K : Act → World → Prop} {Q : Exit → Act → World → Prop} (d s : Operand) (t t' : TypeId)
    (ho : o.op = .call { callee := .builtin .copy, args := #[d, s], argTypes := #[t, t'] }) (v u : Value) (hd : a.eval d = v) (hs : a.eval s = u) {v' : Value} {w' : World}
    (hr : (Builtin.copy_ #[t, t'] o.type #[v, u]).run P w = .ok v' w') (h : K (a.put o.dst v') w') : o.wp P a w K Q := by
  unfold Oper.wp execOp
  simp only [ho, resolve, invoke, builtin, Sem.run_bind, Sem.run_pure, Result.andThen_ok, List.map_toArray, List.map_cons, List.map_nil, hd, hs, hr]
  exact h
theorem wpList_copy_run (w : World) {ops : Array Oper} {rest : List Oper} {o : Oper} {a : Act} {Q : Exit → Act → World → Prop} (hgd : o.guard = none) (d s : Operand) (t t' : TypeId)
    (ho : o.op = .call { callee := .builtin .copy, args := #[d, s], argTypes := #[t, t'] }) (v u : Value) (hd : a.eval d = v) (hs : a.eval s = u) {v' : Value} {w' : World}
    (hr : (Builtin.copy_ #[t, t'] o.type #[v, u]).run P w = .ok v' w') (h : wpList P ops Q rest (a.put o.dst v') w') : wpList P ops Q (o :: rest) a w :=
  wpList_plain hgd fun _ hK => wp_copy_run w d s t t' ho v u hd hs hr (hK _ _ h)
theorem step_copy_run {ops : Array Oper} {o : Oper} {a : Act} {w : World} {K : Act → World → Prop} {Q : Exit → Act → World → Prop} {E : Prop}
    (hg : o.guard = none) (d x : Operand) (dT sT : TypeId) (hop : o.op = Op.call { callee := Callee.builtin Builtin.copy, args := #[d, x], argTypes := #[dT, sT] })
    (v u : Value) (hd : a.eval d = v) (hx : a.eval x = u) {v' : Value} {w' : World} (hr : (Builtin.copy_ #[dT, sT] o.type #[v, u]).run P w = .ok v' w') (hK : K (a.put o.dst v') w') :
    if Region.wanted o (yielded ops a.tmps) = true then Oper.wp P o a w K Q else E := by
  have hw : Region.wanted o (yielded ops a.tmps) = true := by simp [Region.wanted, hg]
  rw [if_pos hw]
  unfold Oper.wp
  simp [execOp, hop, resolve, invoke, builtin, hd, hx, hr, Result.andThen]
  exact hK
end

theorem setRow_blk {w : World} {g : Nat} {cur vs : Array Value} {T : TypeId} (h : Blk w g cur T) : Blk (w.setRow g vs) g vs T := setRow_heap w g cur vs T _ h
theorem setRow_mod (w : World) (g : Nat) (vs : Array Value) : Mod (fun k => k = g) w (w.setRow g vs) := by
  refine ⟨rfl, rfl, rfl, by simp [World.setRow], fun k hk hs => ?_⟩
  simp only [World.setRow]
  rw [Array.getElem?_modify, if_neg (fun e => hs e.symm)]
end Go.Proofs.YtaojpbgaengdpaaGreat
