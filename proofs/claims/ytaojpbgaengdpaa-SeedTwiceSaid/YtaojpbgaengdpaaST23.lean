/- Texts of the proof, part 23. -/
import Derived.Test.YtaojpbgaengdpaaST12
import Derived.Test.YtaojpbgaengdpaaST13
import Derived.Test.YtaojpbgaengdpaaST22
set_option linter.unusedVariables false
set_option linter.unusedSimpArgs false
/- slices.Collect over an iterator that keeps cells of its own: texts, in their order. -/
namespace Go.Proofs.Ytaojpbgaengdpaa

open Go.RowKit Go.Shelf

attribute [local go_sem] Oper.semAt_some

theorem keeps_mod1 {S : Nat → Prop} {w W : World} (h : Mod S w W) (hS : ∀ k, S k → ∃ cur T fz, w.heap[k]? = some (.cells cur T fz)) : KeepsOthers w W :=
  ⟨h.size, fun k o hk ho => (h.block k (Array.getElem?_eq_some_iff.1 hk).1 (fun hs => by obtain ⟨cur, T, fz, hc⟩ := hS k hs; rw [hc] at hk; injection hk with hk; subst hk; cases ho)).trans hk⟩
theorem OS.nil (w : World) (base : Nat) : OS w base (.slice none 0 0) [] := ⟨rfl, .inl ⟨rfl, rfl⟩⟩
theorem OS.turn {w w' : World} {base : Nat} {v : Value} {ls : List (List UInt8)} (h : OS w base v ls) (ht : ∀ k cur, base ≤ k → w.heap[k]? = some (.cells cur 9 (0, 0)) → w'.heap[k]? = some (.cells cur 9 (0, 0))) : OS w' base v ls :=
  ⟨h.1, h.2.imp id fun ⟨g, cap, cur, hv, hb, hg, rest⟩ => ⟨g, cap, cur, hv, hb, ht _ _ hb hg, rest⟩⟩
theorem OS.low {w : World} {base base' : Nat} {v : Value} {ls : List (List UInt8)} (h : OS w base v ls) (hb : base' ≤ base) : OS w base' v ls :=
  ⟨h.1, h.2.imp id fun ⟨g, cap, cur, hv, hg, rest⟩ => ⟨g, cap, cur, hv, Nat.le_trans hb hg, rest⟩⟩
theorem OS.appK {w : World} {base : Nat} {v : Value} {ls : List (List UInt8)} (h : OS w base v ls) (l : List UInt8) (hl : ls.length ≤ 1000000) (hb : base ≤ w.heap.size) :
    ∃ g cap W, (Builtin.append_ #[86, 86] 86 #[v, .slice (some ⟨w.heap.size, 0, none⟩) 1 1]).run Try.prog (w.alloc (.cells #[.string (str l)] 9)) = .ok (.slice (some ⟨g, 0, none⟩) (ls.length + 1) cap) W ∧
      OS W base (.slice (some ⟨g, 0, none⟩) (ls.length + 1) cap) (ls ++ [l]) ∧ Below base w W ∧ KeepsOthers w W ∧ (v.ownBlock = some g ∨ w.heap.size ≤ g) := by
  obtain ⟨i0, hi, hz0, hz1, hz2⟩ := info_parts str_info
  have ho := World.ownsRow.alloc h (.cells #[.string (str l)] 9)
  obtain ⟨g, cap, W, h1, h2, h3, h4⟩ := step_app 86 Try.underlying86 hi hz0 hz1 hz2 rfl (by omega) ho ⟨w.heap.size, 0, none⟩ 1 1 [.string (str l)] rfl (World.news_of_block (Blk.new w #[.string (str l)] 9)) (by intro u hu; simp at hu; subst hu; rfl) (by omega) (by unfold maxLen; omega) (by omega) (by simp; omega)
  refine ⟨g, cap, W, h1, ?_, ?_, (KeepsOthers.alloc _ _).trans (keeps_mod1 h3 (fun k hk => by obtain ⟨-, cur, hc⟩ := own_obj1 ho hk; exact ⟨_, _, _, hc⟩)), h4.imp id (fun h => by rw [h]; simp)⟩
  · unfold OS
    rw [List.length_append, List.length_singleton, List.flatMap_append]
    exact h2
  · refine (((Below.refl base w).alloc hb _)).trans (h3.below (fun k hk => (h.lt k hk).1) (by simp; omega))
theorem wpListIn_app_run1 {F : Fence} {n : Nat} {P : Program} {ops : Array Oper} {rest : List Oper} {o : Oper} {a : Act} {w W : World} {Q : Exit → Act → World → Prop} {s x : Operand} {t : TypeId} {v y r : Value}
    (hgd : o.guard = none) (ho : o.op = .call { callee := .builtin .append, args := #[s, x], argTypes := #[t, t] }) (hs : a.eval s = v) (hx : a.eval x = y)
    (hrun : (Builtin.append_ #[t, t] o.type #[v, y]).run P w = .ok r W) (h : wpListIn F n P ops Q rest (a.put o.dst r) W) : wpListIn F n P ops Q (o :: rest) a w :=
  wpListIn_plain hgd fun K hK => by
    unfold Oper.wpIn
    refine ⟨by simp [Oper.about, ho, resolve, Target.leads, Sem.run_pure], ?_⟩
    rw [Oper.semAt_plain F _ _ (by rw [ho]; intro c hc; cases hc)]
    simp [execOp, ho, resolve, invoke, builtin, hs, hx, hrun, Result.andThen]
    exact hK _ _ h
/-- between two rounds. -/
structure CI (T : Nat → Prop) (w : World) (B base : Nat) (pre : List (List UInt8)) (W : World) : Prop where
  box : ∃ v, Blk W B #[v] 86 ∧ OS W base v pre
  mod : Mod T w W
theorem mod_turn {T : Nat → Prop} {N : Nat} {w W W' : World} (h : Mod T w W) (ht : Turn T N notCells W W') (hN : w.heap.size ≤ N) : Mod T w W' := by
  refine ⟨ht.os.trans h.os, ht.tape.trans h.tape, ht.output.trans h.output, Nat.le_trans h.size ht.size, fun k hk hs => ?_⟩
  obtain ⟨o, ho⟩ : ∃ o, w.heap[k]? = some o := ⟨w.heap[k]'(by omega), Array.getElem?_eq_getElem _⟩
  rw [ht.block k o ((h.block k hk hs).trans ho) hs (fun h => by omega), ho]
set_option maxRecDepth 100000 in
set_option maxHeartbeats 2000000 in
theorem appseq_any {g : Nat} {lb : Array Value} (eg : ∀ args w, (callFunc g args).run Try.prog w = .ok (.enter g args) w) {T : Nat → Prop} {S Sp : List (List UInt8) → Prop} {V : List (List UInt8) → List UInt8 → Prop} (w : World)
    (hseq : SeqT T Fence.wide 4 Try.prog g lb (fun x : List UInt8 => #[.string (str x)]) S Sp V w) (hT : ∀ k, T k → k < w.heap.size) (hV : ∀ pre x, V pre x → pre.length ≤ 1000000) :
    Calls Try.prog 57 #[.slice none 0 0, .func (.func g) #[] lb] w fun e w' => (∃ v ss, e = .returned v ∧ S ss ∧ OS w' w.heap.size v ss) ∧ Mod T w w' := by
  refine (callsIn_wide (n := 5)).1 ?_
  refine callsIn_of_wp_marks Try.func57 rfl trivial ?_ rfl
  simp only [Try.ntmps57, List.size_toArray, List.length_cons, List.length_nil, Nat.reduceAdd, Nat.reduceSub, Array.replicate_succ, Array.replicate_zero, List.push_toArray, List.append_toArray, List.nil_append, List.cons_append]
  have q0 := Blk.new w #[.slice none 0 0] 86
  have hB0 := balloc (Below.refl w.heap.size w) (.cells #[.slice none 0 0] 86)
  have hz : (w.alloc (.cells #[.slice none 0 0] 86)).heap.size = w.heap.size + 1 := by simp
  have HSq := Lib.hid hseq
  clear hseq
  gi_wp2
  generalize w.alloc (.cells #[.slice none 0 0] 86) = W1 at q0 hB0 hz ⊢
  refine' wpIn_rangeT (T := T) rfl (by omega) (gf := g) (lb := lb) rfl trivial eg HSq.out (fun k hk => by have := hT k hk; omega) (KT.of_below hB0 hT) (fun _ => rfl)
    (fun pre W => CI T w w.heap.size W1.heap.size pre W)
    (fun _ _ _ => False)
    (fun pre A B h ht => ?own) (fun c pre A B h ht => h) ⟨⟨_, q0, OS.nil _ _⟩, Mod.of_below hB0⟩ _ ?assign ?body ?done (fun D c pre W _ _ h _ => h.elim)
  case own =>
    obtain ⟨⟨v, h1, h2⟩, h3⟩ := h
    exact ⟨⟨v, ht.block _ _ h1 (fun e => by have := hT _ e; omega) (fun _ => rfl), h2.turn (fun k cur hk hc => ht.block _ _ hc (fun e => by have := hT _ e; omega) (fun _ => rfl))⟩, mod_turn h3 ht (by omega)⟩
  case assign =>
    intro L x W K hK
    gi_wp2
    exact hK
  case body =>
    rintro L pre x W hL hLW ⟨⟨v, b1, hO⟩, hM⟩ hv
    obtain ⟨a, c, rfl, -, -, -⟩ := own_form hO
    obtain ⟨g2, cap2, W2, hrun, hO2, hB2, hKO, hg2⟩ := hO.appK x (hV _ _ hv) (show W1.heap.size ≤ W.heap.size by omega)
    have hlp := hO.1
    have HR := Lib.hid hrun
    have k1 := b1.keepB hB2 (show w.heap.size < W1.heap.size by omega)
    obtain ⟨c1, f1, z1⟩ := b1.facts
    obtain ⟨d1, e1, y1⟩ := k1.facts
    have K1 := Lib.hid k1
    have HX := Lib.hid (And.intro hO2 (And.intro hB2 (And.intro hKO (And.intro hM hg2))))
    clear hrun hO2 hB2 k1 b1 hKO hM hO hg2 hlp
    gi_wp2_with (gi_at_builtin; refine wpListIn_app_run1 rfl rfl rfl rfl HR.out ?_)
    obtain ⟨hO2, hB2, hKO, hM, hg2⟩ := HX.out
    have hm := (Mod.refl (fun k => k = w.heap.size) W2).setCell (a := ⟨w.heap.size, 0, none⟩) (.inl rfl) (.slice (some ⟨g2, 0, none⟩) (pre.length + 1) cap2)
    refine ⟨(hKO.trans (KeepsOthers.setCell _ _ _)).from _, ⟨Nat.le_trans hB2.size hm.size, fun k hk => ?_⟩, ⟨⟨_, K1.out.set 0 _, hO2.turn (fun k cur hk hc => (hm.block k (Array.getElem?_eq_some_iff.1 hc).1 (by omega)).trans hc)⟩, ?_⟩⟩
    · have := hT k hk
      rw [hm.block k (by have := hB2.size; omega) (by omega)]
      exact hB2.block k (by omega)
    · refine ⟨hm.os.trans (hB2.os.trans hM.os), hm.tape.trans (hB2.tape.trans hM.tape), hm.output.trans (hB2.output.trans hM.output), Nat.le_trans hM.size (Nat.le_trans hB2.size hm.size), fun k hk hs => ?_⟩
      rw [hm.block k (by have := hB2.size; have := hM.size; omega) (by omega), hB2.block k (by omega)]
      exact hM.block k hk hs
  case done =>
    rintro D xs W hD hS ⟨⟨v, b1, hO⟩, hM⟩ hK
    obtain ⟨a, c, rfl, -, -, -⟩ := own_form hO
    obtain ⟨c1, f1, z1⟩ := b1.facts
    have HO := Lib.hid (And.intro hO hM)
    clear hO hM b1
    gi_wp2
    show LeavesInM Fence.wide 5 Try.prog Try.f57 _ _ _ _ W
    refine ⟨by simp, .inl ⟨_, _, rfl, run_takeDeferred hK, ?_⟩⟩
    refine ⟨.slice a xs.length c, by simp [results, Try.results57, go_sem], ⟨_, _, rfl, hS, (HO.out.1.low (show w.heap.size ≤ W1.heap.size by omega)).turn (fun k cur hk hc => (World.putObj_heap_other (fun e => by subst e; rw [hK] at hc; cases hc)).trans hc)⟩, ?_⟩
    have hm := HO.out.2
    exact ⟨hm.os, hm.tape, hm.output, Nat.le_trans hm.size (by simp), fun k hk hs => (World.putObj_heap_other (fun e => by omega)).trans (hm.block k hk hs)⟩
/-- slices.Collect over such an iterator. -/
theorem collect_any {g : Nat} {lb : Array Value} (eg : ∀ args w, (callFunc g args).run Try.prog w = .ok (.enter g args) w) {T : Nat → Prop} {S Sp : List (List UInt8) → Prop} {V : List (List UInt8) → List UInt8 → Prop} (w : World)
    (hseq : SeqT T Fence.wide 4 Try.prog g lb (fun x : List UInt8 => #[.string (str x)]) S Sp V w) (hT : ∀ k, T k → k < w.heap.size) (hV : ∀ pre x, V pre x → pre.length ≤ 1000000) :
    Calls Try.prog 37 #[.func (.func g) #[] lb] w fun e w' => (∃ v ss, e = .returned v ∧ S ss ∧ OS w' w.heap.size v ss) ∧ Mod T w w' := by
  have HA := Lib.hid (appseq_any eg w hseq hT hV)
  clear hseq hT hV eg
  go_enter Try.func37, Try.ntmps37
  go_wp2_with fail
  refine HA.out.mono ?_
  rintro e w1 ⟨⟨v, ss, rfl, hS, hO⟩, hM⟩
  have HX := Lib.hid (And.intro hS (And.intro hO hM))
  clear hS hO hM
  go_wp2_with fail
  go_ret
  exact ⟨⟨v, ss, rfl, HX.out.1, HX.out.2.1⟩, HX.out.2.2⟩
/-- name.Parts, collected. -/
theorem nparts_any (s : ByteArray) (w : World) :
    Calls Try.prog 38 #[.string s] w fun e w' => e = .returned (.func (.func 58) #[] #[.pointer (some ⟨w.heap.size, 0, none⟩)]) ∧ w' = w.alloc (.cells #[.string s] 9) := by
  go_enter Try.func38, Try.ntmps38
  go_wp2_with fail
  go_ret
  exact ⟨rfl, rfl⟩
theorem pcollect_any (s : ByteArray) (hs : s.size ≤ 100000) (w : World) :
    Calls Try.prog 37 #[.func (.func 58) #[] #[.pointer (some ⟨w.heap.size, 0, none⟩)]] (w.alloc (.cells #[.string s] 9)) fun e w' => (∃ v, e = .returned v ∧ OS w' w.heap.size v (partsL s.data.toList)) ∧ Below w.heap.size w w' := by
  have hz : (w.alloc (.cells #[.string s] 9)).heap.size = w.heap.size + 1 := by simp
  refine (collect_any (enters_of Try.func58 (by kernel_rfl) rfl) (w.alloc (.cells #[.string s] 9)) (parts_stops 4 (by omega) w.heap.size s hs _ (Blk.new w #[.string s] 9)) (fun k hk => by omega) (fun pre x h => ?_)).mono ?_
  · have h1 := h.length_le
    have h2 := parts_len s.data.toList
    have h3 : s.data.toList.length = s.size := Array.length_toList
    rw [List.length_append, List.length_singleton] at h1
    omega
  · rintro e w1 ⟨⟨v, ss, rfl, rfl, hO⟩, hM⟩
    exact ⟨⟨v, rfl, hO.low (by omega)⟩, (balloc (Below.refl w.heap.size w) _).trans (hM.below (fun k hk => by omega) (by omega))⟩
end Go.Proofs.Ytaojpbgaengdpaa
