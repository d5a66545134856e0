/- Texts of the proof, part 36. -/
import Derived.Test.YtihdbncoijhihaaGreatCK35
import Derived.Test.YtihdbncoijhihaaGreatCK10
import Derived.Test.YtihdbncoijhihaaGreatCK25
import Derived.Test.YtihdbncoijhihaaGreatCK29
set_option linter.unusedVariables false
set_option linter.unusedSimpArgs false
/- Names in a can (layer 32): the iterator fresh.Names for a body that changes a tree; claim.File; what claim.Name holds between its steps. -/
namespace Go.Proofs.YtihdbncoijhihaaGreat

open Go.RowKit Go.Shelf

attribute [local go_sem] Oper.semAt_some

set_option maxRecDepth 100000 in
set_option maxHeartbeats 1000000 in
theorem names_stopsV (n : Nat) (hn : 1 ≤ n) (Bn : Nat) (base : ByteArray) (hs : base.size ≤ 9223372036854775807) (w : World) (hb : Blk w Bn #[.string base] 9) :
    SeqV (fun k => k = Bn) Fence.wide n Tryz.prog 120 #[.pointer (some ⟨Bn, 0, none⟩)] (fun k : Nat => #[.string (nthS base (k + 1))]) (fun xs => xs = List.range 1000) (fun pre => ∃ m, 0 < m ∧ m ≤ 1000 ∧ pre = List.range m) (fun pre x => pre = List.range x ∧ x < 1000) w := fun l J Jx W hW hWs hJ hJx hY h0 => by
  have hb1 : Blk W Bn #[.string base] 9 := (hW.2 Bn rfl).trans hb
  have Hb1 := Lib.hid hb1
  clear hb hb1 hW
  refine callsIn_of_wp Tryz.func120 rfl trivial ?_ rfl
  simp only [Tryz.ntmps120, List.size_toArray, List.length_cons, List.length_nil, Nat.reduceAdd, Nat.reduceSub, Array.replicate_succ, Array.replicate_zero, List.push_toArray, List.append_toArray, List.nil_append, List.cons_append]
  gi_wp2
  gi_loopw [4] (fun t4 wr => ∃ i : Nat, i ≤ 1000 ∧ t4 = .int .i64 i ∧ J (List.range i) wr ∧ Blk wr Bn #[.string base] 9) (fun t4 _ => 1000 - (intOf t4).toNat)
  case atStart => exact ⟨0, by omega, rfl, h0, Hb1.out⟩
  case round =>
    obtain ⟨i, hi, rfl, hJs, hbk⟩ := hrel
    by_cases hlt : i < 1000
    · obtain ⟨hc, -, -⟩ := hbk.facts
      gi_wp2
      refine ⟨trivial, ?_⟩
      refine (callsIn_wide.2 (nth_any base ((i : Int) + 1) wr hs (by omega) (by omega))).mono ?_
      rintro e w1 ⟨rfl, hB1⟩
      have hJ1 : J (List.range i) w1 := hJ _ _ _ hJs (Turn.of_below hB1)
      have hbk1 := hbk.keep hB1
      obtain ⟨fn, tmps, assign, body, hy, hR⟩ := hY (List.range i) i w1 hJ1 ⟨rfl, hlt⟩
      clear hc
      gi_wp2
      refine hR.mono ?_
      rintro e W3 (⟨rfl, hJ3, hk3⟩ | ⟨rfl, hJx3⟩)
      · gi_wp2
        go_roundw
        case rel => exact ⟨i + 1, by omega, by go_num, by rw [List.range_succ]; exact hJ3, (hk3.2 Bn rfl).trans hbk1⟩
        case measure => simp [intOf]; omega
      · gi_wp2
        refine bodyPost_ret (results_none rfl _ _ _) rfl ?_
        exact ⟨⟨_, rfl⟩, .inr ⟨List.range (i + 1), ⟨i + 1, by omega, by omega, rfl⟩, by rw [List.range_succ]; exact hJx3⟩⟩
    · obtain rfl : i = 1000 := by omega
      gi_wp2
      go_end0
      exact ⟨⟨_, rfl⟩, .inl ⟨_, rfl, hJs⟩⟩
theorem cfile_any (n : ByteArray) (hn : n.size ≤ 1000) (w : World) : Calls Tryz.prog 26 #[.string n] w fun e w' => e = .returned (.string (n ++ nSfx)) ∧ w = w' := by
  have hz : ¬ 9223372036854775807 < n.size + 10 := by omega
  unfold nSfx
  go_enter Tryz.func26, Tryz.ntmps26
  go_wp2_with fail
  go_ret
  exact ⟨rfl, rfl⟩
section

variable {w w' A B : World} {pf pw : Nat} {R : Rp} {pv : Value} {Y Z : Sy} {N : Nat}

theorem off_tk {o : Obj} (h : tkKind o = true) : offTree o = false := by
  cases o <;> simp [tkKind] at h ⊢ <;> rfl
theorem Turn.tk (ht : Turn NoT N offTree A B) : KT (TK A) A B := ⟨ht.size, fun k ⟨o, ho, hk⟩ => (ht.block k o ho (fun h => h) (fun _ => off_tk hk)).trans ho.symm⟩
theorem Turn.blkV (ht : Turn NoT N offTree A B) {b : Nat} {vs : Array Value} {T : TypeId} (h : Blk A b vs T) : Blk B b vs T := ht.block b _ h (fun h => h) (fun _ => rfl)
theorem SyAt.turnV (h : SyAt A pf pw R pv Y) (ht : Turn NoT N offTree A B) : SyAt B pf pw R pv Y :=
  ⟨ht.blkV h.blk, tk_wd h.wd ht.tk, own_turn h.plan (fun k hk => by
    obtain ⟨-, cur, hc⟩ := own_obj1 h.plan hk
    exact (ht.block k _ hc (fun h => h) (fun _ => rfl)).trans hc.symm)⟩
theorem Mod.turnV {S : Nat → Prop} (h : Mod S w A) (ht : Turn NoT N offTree A B) (hN : w.heap.size ≤ N) : Mod S w B :=
  ⟨ht.os.trans h.os, ht.tape.trans h.tape, ht.output.trans h.output, Nat.le_trans h.size ht.size, fun k hk hs => by
    have hlt : k < A.heap.size := Nat.lt_of_lt_of_le hk h.size
    have hA : A.heap[k]? = some A.heap[k] := Array.getElem?_eq_getElem hlt
    rw [ht.block k _ hA (fun h => h) (fun hB => by omega), ← hA]
    exact h.block k hk hs⟩
theorem Goes.turnV (h : Goes w A pf pw R pv Z) (ht : Turn NoT N offTree A B) (hN : w.heap.size ≤ N) : Goes w B pf pw R pv Z := by
  obtain ⟨R', h1, h2⟩ := h
  exact ⟨R', h1.turnV ht, ⟨h2.mod.turnV ht hN, h2.new⟩⟩
/-- what turns with a tree is cells or a map. -/
theorem SyAt.offY (h : SyAt A pf pw R pv Y) {k : Nat} (hk : R.Y pf pw k) {o : Obj} (ho : A.heap[k]? = some o) : offTree o = false := by
  rcases hk with rfl | hk
  · have hb := h.blk
    unfold Blk at hb
    rw [hb] at ho
    injection ho with ho
    subst ho
    rfl
  · obtain ⟨o', ho', hd⟩ := h.wd.kind hk
    rw [ho] at ho'
    injection ho' with ho'
    subst ho'
    cases o <;> simp [wdKind] at hd <;> rfl
/-- what claim.Name holds between its steps. -/
structure NmI (w : World) (pf pw : Nat) (R : Rp) (pv : Value) (u : Us) (x : Cn) (text : ByteArray) (bc : Nat) (Z : Sy) (W : World) : Prop where
  g : Goes w W pf pw R pv Z
  f : Blk W w.heap.size #[.pointer (some ⟨pf, 0, none⟩)] 33
  x : Blk W (w.heap.size + 1 + 1) #[.string x.path, .int .i64 x.dir, .int .i64 x.info, .int .i64 x.files, .int .i64 x.out, .int .i64 x.way, .string x.top] 38
  t : Blk W (w.heap.size + 1 + 1 + 1) #[.string text] 9
  c : Blk W bc #[.int .i64 u.u, .int .i64 u.g] 67
  o : Blk W (w.heap.size + 1 + 1 + 1 + 1) #[.string ByteArray.empty] 9
  e : Blk W (w.heap.size + 1 + 1 + 1 + 1 + 1) #[.int .i64 0] 39
section

variable {u : Us} {x : Cn} {text : ByteArray} {bc : Nat}

theorem NmI.keep (h : NmI w pf pw R pv u x text bc Z A) (hb : Below A.heap.size A B) : NmI w pf pw R pv u x text bc Z B :=
  ⟨h.g.below hb, h.f.keep hb, h.x.keep hb, h.t.keep hb, h.c.keep hb, h.o.keep hb, h.e.keep hb⟩
theorem NmI.turn (h : NmI w pf pw R pv u x text bc Z A) (ht : Turn NoT N offTree A B) (hN : w.heap.size ≤ N) : NmI w pf pw R pv u x text bc Z B :=
  ⟨h.g.turnV ht hN, ht.blkV h.f, ht.blkV h.x, ht.blkV h.t, ht.blkV h.c, ht.blkV h.o, ht.blkV h.e⟩
theorem NmI.step {Z' : Sy} {R1 R2 : Rp} (h : NmI w pf pw R pv u x text bc Z A) (h1 : SyAt A pf pw R1 pv Z) (hs : Stp (R.Y pf pw) (R1.Y pf pw) w A) (h2 : SyAt B pf pw R2 pv Z') (hs2 : Stp (R1.Y pf pw) (R2.Y pf pw) A B) : NmI w pf pw R pv u x text bc Z' B :=
  ⟨⟨R2, h2, hs.trans hs2⟩, h.f.sy h1 hs2 (by decide) (by decide), h.x.sy h1 hs2 (by decide) (by decide), h.t.sy h1 hs2 (by decide) (by decide), h.c.sy h1 hs2 (by decide) (by decide), h.o.sy h1 hs2 (by decide) (by decide), h.e.sy h1 hs2 (by decide) (by decide)⟩
end

end

end Go.Proofs.YtihdbncoijhihaaGreat

/- Trees that are to be (layer 22): chapter 22's example. -/
namespace Go.Proofs.YtihdbncoijhihaaGreat

open Go.RowKit

def bA : ByteArray := ⟨#[47, 97]⟩
def bAX : ByteArray := ⟨#[47, 97, 47, 120]⟩
def bBX : ByteArray := ⟨#[47, 98, 47, 120]⟩
def bX : ByteArray := ⟨#[120]⟩
def its22 : List It := [⟨bA, 1, 448, 5, 0, 9, ⟨#[]⟩⟩, ⟨bAX, 2, 0, 0, 0, 0, bX⟩, ⟨bBX, 2, 0, 0, 0, 0, ⟨#[]⟩⟩]
def C22 : Array Value := #[.string (ByteArray.mk #[47, 97]), .int .i64 1, .int .i64 448, .int .i64 5, .int .i64 0, .int .i64 9, .string (ByteArray.mk #[]), .string (ByteArray.mk #[47, 97, 47, 120]), .int .i64 2, .int .i64 0, .int .i64 0, .int .i64 0, .int .i64 0, .string (ByteArray.mk #[120]), .string (ByteArray.mk #[47, 98, 47, 120]), .int .i64 2, .int .i64 0, .int .i64 0, .int .i64 0, .int .i64 0, .string (ByteArray.mk #[])]
end Go.Proofs.YtihdbncoijhihaaGreat

/- Trees that are to be (layer 22): seeds that are not too great. -/
namespace Go.Proofs.YtihdbncoijhihaaGreat

open Go.RowKit

def few22 (ms : List Mt) (is : List It) (n : Int) : Bool := decide (ms.length ≤ 10 ∧ (is.length : Int) ≤ n ∧ (∀ m ∈ ms, m.path.size ≤ 300) ∧ ∀ x ∈ is, x.path.size ≤ 300 ∧ x.data.size ≤ 1500)
theorem few22_of {ms : List Mt} {is : List It} {n : Int} (h : few22 ms is n = true) : ms.length ≤ 10 ∧ (is.length : Int) ≤ n ∧ (∀ m ∈ ms, m.path.size ≤ 300) ∧ ∀ x ∈ is, x.path.size ≤ 300 ∧ x.data.size ≤ 1500 := of_decide_eq_true h
set_option maxRecDepth 100000 in
set_option maxHeartbeats 2000000 in
theorem few22_any (w : World) {ma : Option Addr} {mn mc : Nat} {ia : Option Addr} {il ic : Nat} {ms : List Mt} {is : List It} (h : SdAt w ma mn mc ia il ic ms is) (n : Int) :
    Calls Tryz.prog 48 #[.agg #[.slice ma mn mc, .slice ia il ic], .int .i64 n] w fun e w' => e = .returned (.bool (few22 ms is n)) ∧ Below w.heap.size w w' := by
  have hln := h.m.1
  have hli := h.i.1
  subst hln hli
  have hB := Blk.new w #[.slice ma ms.length mc, .slice ia is.length ic] 25
  have hb := balloc (Below.refl w.heap.size w) (.cells #[.slice ma ms.length mc, .slice ia is.length ic] 25)
  have HS := Lib.hid (h.keep ((Below.refl _ w).alloc (Nat.le_refl _) (.cells #[.slice ma ms.length mc, .slice ia is.length ic] 25)))
  have HF := Lib.hid (show few22 ms is n = decide (ms.length ≤ 10 ∧ (is.length : Int) ≤ n ∧ (∀ m ∈ ms, m.path.size ≤ 300) ∧ ∀ x ∈ is, x.path.size ≤ 300 ∧ x.data.size ≤ 1500) from rfl)
  have hmc := h.m.2.1
  have hmx := h.m.2.2.1
  have hic := h.i.2.1
  have hix := h.i.2.2.1
  generalize few22 ms is n = fb at HF ⊢
  clear h
  go_enter Tryz.func48, Tryz.ntmps48
  go_upto_region 1 with fail
  generalize w.alloc (.cells #[.slice ma ms.length mc, .slice ia is.length ic] 25) = W at hB hb HS ⊢
  have HB := Lib.hid hb
  obtain ⟨bc, bf, bz⟩ := hB.facts
  clear hB hb
  by_cases h1 : 10 < ms.length
  · have h1a : (10 : Int) < (ms.length : Int) := by omega
    have HE := Lib.hid (show fb = false by rw [HF.out, decide_eq_false_iff_not]; rintro ⟨h, -⟩; omega)
    go_wp2_with fail
    go_ret
    rw [HE.out]
    exact ⟨rfl, HB.out⟩
  have h1a : ¬ (10 : Int) < (ms.length : Int) := by omega
  by_cases h2 : n < (is.length : Int)
  · have HE := Lib.hid (show fb = false by rw [HF.out, decide_eq_false_iff_not]; rintro ⟨-, h, -⟩; omega)
    go_wp2_with fail
    go_ret
    rw [HE.out]
    exact ⟨rfl, HB.out⟩
  go_wp2_with fail
  go_loop [5] (fun t5 => ∃ k : Nat, k ≤ ms.length ∧ t5 = .int .i64 k ∧ ∀ j (hj : j < ms.length), j < k → ms[j].path.size ≤ 300) (fun t5 => ms.length - (intOf t5).toNat)
  case atStart => exact ⟨0, Nat.zero_le _, rfl, fun j _ h => absurd h (Nat.not_lt_zero _)⟩
  case round =>
    obtain ⟨k, hk, rfl, hbef⟩ := hrel
    have HBe := Lib.hid hbef
    clear hbef
    by_cases hlt : k < ms.length
    · obtain ⟨b, off, rfl, hbl⟩ := slice_some HS.out.m (by omega)
      obtain ⟨c0, -, -⟩ := mt_cells HS.out.m k hlt
      have HM := Lib.hid (List.getElem_mem hlt)
      have HMk := Lib.hid (show ∀ j (hj : j < ms.length), j = k → ms[j] = ms[k] from fun j hj e => by subst e; rfl)
      generalize ms[k] = m at c0 HM HMk
      by_cases h3 : 300 < m.path.size
      · have h3a : (300 : Int) < (m.path.size : Int) := by omega
        have HE := Lib.hid (show fb = false by rw [HF.out, decide_eq_false_iff_not]; rintro ⟨-, -, h, -⟩; have := h m HM.out; omega)
        go_wp2_with fail
        go_ret
        rw [HE.out]
        exact ⟨rfl, HB.out⟩
      · have h3a : ¬ (300 : Int) < (m.path.size : Int) := by omega
        go_wp2_with fail
        go_round
        case rel => exact ⟨k + 1, by omega, by go_num, fun j hj hlt2 => by
          by_cases hjk : j = k
          · rw [HMk.out j hj hjk]; omega
          · exact HBe.out j hj (by omega)⟩
        case measure => simp [intOf]; omega
    · obtain rfl : k = ms.length := by omega
      go_wp2_with fail
      go_loop [6] (fun t6 => ∃ k : Nat, k ≤ is.length ∧ t6 = .int .i64 k ∧ ∀ j (hj : j < is.length), j < k → is[j].path.size ≤ 300 ∧ is[j].data.size ≤ 1500) (fun t6 => is.length - (intOf t6).toNat)
      case atStart => exact ⟨0, Nat.zero_le _, rfl, fun j _ h => absurd h (Nat.not_lt_zero _)⟩
      case round =>
        obtain ⟨k, hk, rfl, hbef⟩ := hrel
        have HBi := Lib.hid hbef
        clear hbef
        by_cases hlt : k < is.length
        · obtain ⟨b, off, rfl, hbl⟩ := slice_some HS.out.i (by omega)
          obtain ⟨c0, -, -, -, -, -, c6⟩ := it_cells HS.out.i k hlt
          have HM := Lib.hid (List.getElem_mem hlt)
          have HMk := Lib.hid (show ∀ j (hj : j < is.length), j = k → is[j] = is[k] from fun j hj e => by subst e; rfl)
          generalize is[k] = it at c0 c6 HM HMk
          by_cases h3 : 300 < it.path.size
          · have h3a : (300 : Int) < (it.path.size : Int) := by omega
            have HE := Lib.hid (show fb = false by rw [HF.out, decide_eq_false_iff_not]; rintro ⟨-, -, -, h⟩; have := (h it HM.out).1; omega)
            go_wp2_with fail
            go_ret
            rw [HE.out]
            exact ⟨rfl, HB.out⟩
          · have h3a : ¬ (300 : Int) < (it.path.size : Int) := by omega
            by_cases h4 : 1500 < it.data.size
            · have h4a : (1500 : Int) < (it.data.size : Int) := by omega
              have HE := Lib.hid (show fb = false by rw [HF.out, decide_eq_false_iff_not]; rintro ⟨-, -, -, h⟩; have := (h it HM.out).2; omega)
              go_wp2_with fail
              go_ret
              rw [HE.out]
              exact ⟨rfl, HB.out⟩
            · have h4a : ¬ (1500 : Int) < (it.data.size : Int) := by omega
              go_wp2_with fail
              go_round
              case rel => exact ⟨k + 1, by omega, by go_num, fun j hj hlt2 => by
                by_cases hjk : j = k
                · rw [HMk.out j hj hjk]; omega
                · exact HBi.out j hj (by omega)⟩
              case measure => simp [intOf]; omega
        · obtain rfl : k = is.length := by omega
          have HE := Lib.hid (show fb = true by
            rw [HF.out, decide_eq_true_eq]
            refine ⟨by omega, by omega, fun m hm => ?_, fun x hx => ?_⟩
            · obtain ⟨j, hj, rfl⟩ := List.mem_iff_getElem.1 hm; exact HBe.out j hj hj
            · obtain ⟨j, hj, rfl⟩ := List.mem_iff_getElem.1 hx; exact HBi.out j hj hj)
          go_wp2_with fail
          go_ret
          rw [HE.out]
          exact ⟨rfl, HB.out⟩
end Go.Proofs.YtihdbncoijhihaaGreat
