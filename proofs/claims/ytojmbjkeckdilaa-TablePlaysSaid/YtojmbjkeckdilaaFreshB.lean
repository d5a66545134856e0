/- fresh.Names and fresh.Free: their contracts. -/
import Derived.Test.YtojmbjkeckdilaaFreshA
import Derived.Test.YtojmbjkeckdilaaFrame2
import Derived.WalkMore
namespace Go.Proofs.Ytojmbjkeckdilaa
open Go.RowKit Go.Shelf
attribute [local go_sem] Oper.semAt_some

set_option maxHeartbeats 400000 in
theorem names_any (base : ByteArray) (w : World) :
    Calls Try.prog 24 #[.string base] w fun e w' => e = .returned (.func (.func 36) #[] #[.pointer (some ⟨w.heap.size, 0, none⟩)]) ∧ w.alloc (.cells #[.string base] 9) = w' := by
  have hmf : ∀ (fn : Fn) (first cap : Array Value) (w : World), (Instr.makeFunc fn first cap).run Try.prog w = .ok (.func fn first cap) w := fun _ _ _ _ => rfl
  go_enter Try.func24, Try.ntmps24
  go_wp2
  go_ret
  exact ⟨rfl, rfl⟩

/-- a string, one cell. -/
def strR (cs : List Value) (s : ByteArray) : Prop := cs = [.string s] ∧ s.size ≤ 9223372036854775807

/-- what Free answers. -/
def FreePost (base : ByteArray) (xs : List ByteArray) (e : Ending) : Prop :=
  (∃ m, m < 1000 ∧ nthS base ((m : Nat) + 1) ∉ xs ∧ (∀ j < m, nthS base ((j : Nat) + 1) ∈ xs) ∧ e = .returned (.tuple #[.string (nthS base (m + 1)), .bool true])) ∨
  ((∀ j < 1000, nthS base ((j : Nat) + 1) ∈ xs) ∧ e = .returned (.tuple #[.string ByteArray.empty, .bool false]))

theorem Blk.put {w : World} {B : Nat} {vs : Array Value} {T : TypeId} (h : Blk w B vs T) {D : Nat} {o : Obj} (ho : w.heap[D]? = some o) (hc : o.isCells = false) (o' : Obj) : Blk (w.putObj D o') B vs T :=
  h.kept (grownBy_putObj' w D o') (fun r e => by cases e; exact ⟨o, ho, hc⟩)

theorem free_leave {N : Nat} {a : Act} {w W : World} {D p4 p5 : Nat} {s : ByteArray} {b : Bool} {R : Ending → Prop}
    (hK : W.heap[D]? = some (.deferred (some []))) (b1 : Blk W p4 #[.string s] 9) (b2 : Blk W p5 #[.bool b] 4) (hB : Below w.heap.size w W) (hD : w.heap.size ≤ D)
    {t0 t1 t2 t3 t6 t7 t8 t9 t10 t11 t12 t13 t14 t15 t16 t17 t18 t19 t20 t21 t22 : Value}
    (ha : a = { tmps := #[t0, t1, t2, t3, .pointer (some ⟨p4, 0, none⟩), .pointer (some ⟨p5, 0, none⟩), t6, t7, t8, t9, t10, t11, t12, t13, t14, t15, t16, t17, t18, t19, t20, t21, t22], defers := [{ target := .collected D, args := #[] }] })
    (hR : R (.returned (.tuple #[.string s, .bool b]))) :
    Exit.noGoto (bodyPostM Fence.wide N Try.prog Try.f28 fun e w' => R e ∧ Below w.heap.size w w') .ret a W := by
  subst ha
  have e1 := (b1.put hK rfl (.deferred none)).cell
  have e2 := (b2.put hK rfl (.deferred none)).cell
  have hb : Below w.heap.size w (W.putObj D (.deferred none)) := hB.trans (belowK_b (Nat.le_refl _) W D _ _ hD hK rfl rfl)
  show LeavesInM Fence.wide N Try.prog Try.f28 _ _ _ _ W
  refine ⟨by simp, .inl ⟨_, _, rfl, run_takeDeferred hK, ?_⟩⟩
  refine ⟨.tuple #[.string s, .bool b], ?_, hR, hb⟩
  simp [results, Try.results28, go_sem, e1, e2]

set_option maxRecDepth 100000 in
set_option maxHeartbeats 2000000 in
theorem free_any (base : ByteArray) (hs : base.size ≤ 9223372036854775807) (a : Option Addr) (len cap : Nat) (xs : List ByteArray) (w : World) (hz : SliceAt w 1 strR a len cap xs) :
    Calls Try.prog 28 #[.string base, .slice a len cap] w fun e w' => FreePost base xs e ∧ Below w.heap.size w w' := by
  refine (callsIn_wide (n := 5)).1 ?_
  refine callsIn_of_wp_marks Try.func28 rfl trivial ?_ rfl
  simp only [Try.ntmps28, List.size_toArray, List.length_cons, List.length_nil, Nat.reduceAdd, Nat.reduceSub, Array.replicate_succ, Array.replicate_zero, List.push_toArray, List.append_toArray, List.nil_append, List.cons_append]
  gi_wp2
  refine (wpIn_wide (n := 5)).2 (wp_scope_straight (wp_seq (wp_label ?_)))
  refine (wpIn_wide (n := 5)).1 ?_
  gi_wp2_with (refine ⟨trivial, ?_⟩; gi_at_call 24; refine (callsIn_wide.2 (names_any _ _)).mono ?_; rintro e w' ⟨rfl, rfl⟩)
  have q0 := (((Blk.new w #[.slice a len cap] 53).old (.cells #[.string { data := #[] }] 9)).old (.cells #[.bool false] 4)).old (.cells #[.string base] 9)
  have q1 := ((Blk.new (w.alloc (.cells #[.slice a len cap] 53)) #[.string { data := #[] }] 9).old (.cells #[.bool false] 4)).old (.cells #[.string base] 9)
  have q2 := (Blk.new ((w.alloc (.cells #[.slice a len cap] 53)).alloc (.cells #[.string { data := #[] }] 9)) #[.bool false] 4).old (.cells #[.string base] 9)
  have q3 := Blk.new (((w.alloc (.cells #[.slice a len cap] 53)).alloc (.cells #[.string { data := #[] }] 9)).alloc (.cells #[.bool false] 4)) #[.string base] 9
  have hB0 : Below w.heap.size w ((((w.alloc (.cells #[.slice a len cap] 53)).alloc (.cells #[.string { data := #[] }] 9)).alloc (.cells #[.bool false] 4)).alloc (.cells #[.string base] 9)) := balloc (balloc (balloc (balloc (Below.refl _ _) _) _) _) _
  have hsz : ((((w.alloc (.cells #[.slice a len cap] 53)).alloc (.cells #[.string { data := #[] }] 9)).alloc (.cells #[.bool false] 4)).alloc (.cells #[.string base] 9)).heap.size = w.heap.size + 4 := by simp
  simp only [World.size_alloc] at q1 q2 q3
  generalize (((w.alloc (.cells #[.slice a len cap] 53)).alloc (.cells #[.string { data := #[] }] 9)).alloc (.cells #[.bool false] 4)).alloc (.cells #[.string base] 9) = W0 at q0 q1 q2 q3 hB0 hsz ⊢
  have hz0 := hz.below hB0 (Nat.le_refl _)
  refine wpIn_rangeFunc_ownF rfl (by omega) (gf := 36) (lb := #[.pointer (some ⟨w.heap.size + 1 + 1 + 1, 0, none⟩)]) rfl trivial (enters_of Try.func36 (by kernel_rfl) rfl)
    (names_stops (5 - 1) (by omega) (w.heap.size + 1 + 1 + 1) W0.heap.size base hs W0 (by omega) (Nat.le_refl _) q3) belowK_t (belowK_b (Nat.le_refl _)) (Below.refl _ _) (fun _ => rfl)
    (fun pre W => (Blk W w.heap.size #[.slice a len cap] 53 ∧ Blk W (w.heap.size + 1) #[.string { data := #[] }] 9 ∧ Blk W (w.heap.size + 1 + 1) #[.bool false] 4 ∧ (∀ x ∈ pre, nthS base ((x : Nat) + 1) ∈ xs)) ∧ Below w.heap.size w W)
    (fun c pre W => (c = .ret ∧ ∃ (pre' : List Nat) (x : Nat), pre = pre' ++ [x] ∧ (∀ y ∈ pre', nthS base ((y : Nat) + 1) ∈ xs) ∧ nthS base ((x : Nat) + 1) ∉ xs ∧ Blk W (w.heap.size + 1) #[.string (nthS base (x + 1))] 9 ∧ Blk W (w.heap.size + 1 + 1) #[.bool true] 4) ∧ Below w.heap.size w W)
    (OwnFrom.and (Own.from (fun s A B row hh hg hr => ⟨hh.1.kept hg hr, hh.2.1.kept hg hr, hh.2.2.1.kept hg hr, hh.2.2.2⟩) _) (ownFrom_below (Nat.le_refl _) (by omega)))
    (fun c => OwnFrom.and (Own.from (fun s A B row hh hg hr => by obtain ⟨h1, pre', x, h2, h3, h4, h5, h6⟩ := hh; exact ⟨h1, pre', x, h2, h3, h4, h5.kept hg hr, h6.kept hg hr⟩) _) (ownFrom_below (Nat.le_refl _) (by omega)))
    ⟨⟨q0, q1, q2, by simp⟩, hB0⟩
    (fun k => { tmps := #[.string base, .slice a len cap, undef, .pointer (some ⟨w.heap.size, 0, none⟩), .pointer (some ⟨w.heap.size + 1, 0, none⟩), .pointer (some ⟨w.heap.size + 1 + 1, 0, none⟩), .string (nthS base (k + 1)), undef, undef, .string base, .func (.func 36) #[] #[.pointer (some ⟨w.heap.size + 1 + 1 + 1, 0, none⟩)], .string (nthS base (k + 1)), undef, undef, undef, undef, undef, undef, undef, undef, undef, undef, undef], defers := [] }) ?assign ?body ?done ?stop
  case assign =>
    intro l x W K hK
    gi_wp2
    exact hK
  case body =>
    rintro l pre x W ⟨⟨b0, b1, b2, hpre⟩, hB⟩ _
    obtain ⟨c0, -, z0⟩ := b0.facts
    obtain ⟨c1, f1, z1⟩ := b1.facts
    obtain ⟨c2, f2, z2⟩ := b2.facts
    have hzW : SliceAt W 1 strR a len cap xs := hz.below hB (Nat.le_refl _)
    have hlen : len ≤ 9223372036854775807 := by obtain ⟨-, h2, h3, -⟩ := hz; omega
    have hxl : xs.length = len := hz.1
    have Hxl := Lib.hid hxl
    clear hxl
    gi_wp2
    gi_loop [14] (fun t => ∃ k : Nat, k ≤ len ∧ t = .int .i64 k ∧ ∀ (j : Nat) (h : j < xs.length), j < k → xs[j] ≠ nthS base ((x : Nat) + 1)) (fun t => len - (intOf t).toNat)
    case atStart => exact ⟨0, Nat.zero_le _, rfl, fun j _ h => by omega⟩
    case round =>
      obtain ⟨k, hk, rfl, hne⟩ := hrel
      have Hne := Lib.hid hne
      clear hne
      by_cases hlt : k < len
      · obtain ⟨-, -, -, h | ⟨bb, off, rfl, hbb, hel⟩⟩ := hzW
        · omega
        obtain ⟨cs, -, ⟨hcs, hss⟩, hcc⟩ := hel k (by have := Hxl.out; omega)
        have hck : W.cell? ⟨bb, off + k, none⟩ = some (.string (xs[k]'(by have := Hxl.out; omega))) := by
          subst hcs
          have := hcc 0 (by simp)
          simpa using this
        clear hcs hcc hel
        generalize hv : xs[k]'(by have := Hxl.out; omega) = v at hck hss
        have Hv := Lib.hid hv
        clear hv
        by_cases he : nthS base ((x : Nat) + 1) = v
        · have he1 := str_beq he
          have Hin := Lib.hid (show nthS base ((x : Nat) + 1) ∈ xs by rw [he, ← Hv.out]; exact List.getElem_mem _)
          clear he
          gi_wp2
          refine ⟨KeepsOthers.refl _, Below.refl _ _, ⟨b0, b1, b2, fun y hy => ?_⟩, hB⟩
          rcases List.mem_append.1 hy with hy | hy
          · exact hpre y hy
          · simp only [List.mem_cons, List.not_mem_nil, or_false] at hy
            subst hy; exact Hin.out
        · have he1 := str_bne he
          have He := Lib.hid he
          clear he
          gi_wp2
          refine ⟨⟨k + 1, by omega, by go_num, fun j hj hjk => ?_⟩, by simp [intOf]; omega⟩
          by_cases e : j = k
          · subst e; rw [Hv.out]; exact fun h => He.out h.symm
          · exact Hne.out j hj (by omega)
      · have Hni := Lib.hid (show nthS base ((x : Nat) + 1) ∉ xs by
          intro hm
          obtain ⟨j, hj, hjx⟩ := List.getElem_of_mem hm
          exact Hne.out j hj (by have := Hxl.out; omega) hjx)
        gi_wp2
        refine ⟨(KeepsOthers.setCell _ _ _).trans (KeepsOthers.setCell _ _ _), ⟨rfl, pre, x, rfl, hpre, Hni.out, ?_, ?_⟩, ?_⟩
        · exact (b1.set 0 _).setOther _ _ (by simp)
        · exact (b2.setOther _ _ (by simp)).set 0 _
        · exact (hB.setCell (p := ⟨w.heap.size + 1, 0, none⟩) (by simp) _).setCell (p := ⟨w.heap.size + 1 + 1, 0, none⟩) (by simp; omega) _
  case done =>
    rintro D ys W hD rfl ⟨⟨b0, b1, b2, hpre⟩, hB⟩ hK
    obtain ⟨c1, f1, z1⟩ := b1.facts
    obtain ⟨c2, f2, z2⟩ := b2.facts
    have d1 : Blk ((W.setCell ⟨w.heap.size + 1, 0, none⟩ (.string { data := #[] })).setCell ⟨w.heap.size + 1 + 1, 0, none⟩ (.bool false)) (w.heap.size + 1) #[.string { data := #[] }] 9 := (b1.set 0 _).setOther _ _ (by simp)
    have d2 : Blk ((W.setCell ⟨w.heap.size + 1, 0, none⟩ (.string { data := #[] })).setCell ⟨w.heap.size + 1 + 1, 0, none⟩ (.bool false)) (w.heap.size + 1 + 1) #[.bool false] 4 := (b2.setOther _ _ (by simp)).set 0 _
    have hB2 : Below w.heap.size w ((W.setCell ⟨w.heap.size + 1, 0, none⟩ (.string { data := #[] })).setCell ⟨w.heap.size + 1 + 1, 0, none⟩ (.bool false)) :=
      (hB.setCell (p := ⟨w.heap.size + 1, 0, none⟩) (by simp) _).setCell (p := ⟨w.heap.size + 1 + 1, 0, none⟩) (by simp; omega) _
    have hK2 : ((W.setCell ⟨w.heap.size + 1, 0, none⟩ (.string { data := #[] })).setCell ⟨w.heap.size + 1 + 1, 0, none⟩ (.bool false)).heap[D]? = some (.deferred (some [])) :=
      ((KeepsOthers.setCell _ _ _).trans (KeepsOthers.setCell _ _ _)).same D _ hK rfl
    gi_wp2
    exact free_leave hK2 d1 d2 hB2 (by omega) rfl (.inr ⟨fun j hj => hpre j (List.mem_range.2 hj), rfl⟩)
  case stop =>
    rintro D c pre W hD ⟨m, hm0, hm1, hm⟩ ⟨⟨rfl, pre', x, hp, hin, hni, b1, b2⟩, hB⟩ hK
    have hx : pre' = List.range x ∧ x < 1000 := by
      rw [hp] at hm
      obtain ⟨m', rfl⟩ : ∃ m', m = m' + 1 := ⟨m - 1, by omega⟩
      rw [List.range_succ] at hm
      obtain ⟨h1, h2⟩ := List.append_inj' hm rfl
      simp at h2
      subst h2
      exact ⟨h1, by omega⟩
    gi_wp2
    exact free_leave hK b1 b2 hB (by omega) rfl (.inl ⟨x, hx.2, hni, fun j hj => hin j (by rw [hx.1]; exact List.mem_range.2 hj), rfl⟩)
end Go.Proofs.Ytojmbjkeckdilaa
