/- Texts of the proof, part 28. -/
import Derived.Deep.LoopGhost
import Derived.Test.YtaojpbgaengdpaaST27
import Derived.Test.YtaojpbgaengdpaaST16
set_option linter.unusedVariables false
set_option linter.unusedSimpArgs false
/- A directory has other names (layer 17): Touch. -/
namespace Go.Proofs.Ytaojpbgaengdpaa

open Go.RowKit

section

variable {w w' : World} {pw : Nat} {R : Rp} {S : Fs}

theorem body_panic {P : Program} {fn : Func} {R : Ending → World → Prop} : ∀ c d v a w, bodyPost P fn R (.panic c) (Act.put a d v) w → bodyPost P fn R (.panic c) a w :=
  fun c d v a w h => by
    have h' : (Act.put a d v).defers = [] ∧ R (.panicked c) w := h
    exact show a.defers = [] ∧ R (.panicked c) w from ⟨by rw [← h'.1]; cases d <;> rfl, h'.2⟩
set_option maxRecDepth 100000 in
set_option maxHeartbeats 2000000 in
theorem touch_any (h : WdAt w pw R S) (dir now : Int) (d : An) (hg : S.get dir = some d) (l : List En) (a : Option Addr) (n c : Nat) (hl : EntsAt w a n c l) :
    Calls Try.prog 68 #[.pointer (some ⟨pw, 0, none⟩), .int .i64 dir, .int .i64 now, .slice a n c] w fun e w' => e = .returned (.tuple #[]) ∧ ∃ R', WdAt w' pw R' (S.touch now dir l) ∧ Stp (R.F pw) (R'.F pw) w w' := by
  obtain ⟨ea, el, ec, he, hG⟩ := wget_fix h hg
  have HG := Lib.hid (hG w (Below.refl _ _))
  unfold An.v at HG
  have HT := Lib.hid (show S.touch now dir l = S.set { d with ents := l, mtime := now, ctime := now } by unfold Fs.touch; rw [hg])
  have hno := an_no hg
  have HSet := Lib.hid (fun w1 (hb1 : Below w.heap.size w w1) => (h.keep hb1).setN { d with ents := l, mtime := now, ctime := now } (hl.keep hb1) (b := d) (by rw [show ({ d with ents := l, mtime := now, ctime := now } : An).no = d.no from rfl, hno]; exact hg))
  unfold An.v at HSet
  obtain ⟨pc, -, pz⟩ := h.blk.facts
  have mixed : Try.prog.follows .mixedOrders = true := by kernel_rfl
  clear h hg he hG hno hl
  go_enter Try.func68, Try.ntmps68
  go_wp2_with fail
  refine HG.out.mono ?_
  rintro e w1 ⟨rfl, hb1⟩
  have pc0 : (w1.alloc (.cells #[.int .i64 d.no, .int .i64 d.dev, .int .i64 d.kind, .int .i64 d.mode, .int .i64 d.uid, .int .i64 d.gid, .int .i64 now, .int .i64 now, .int .i64 d.links, .int .i64 d.up, .string d.data, .slice a n c] 97)).cell? ⟨pw, 0, none⟩ = _ := ((balloc hb1 (.cells #[.int .i64 d.no, .int .i64 d.dev, .int .i64 d.kind, .int .i64 d.mode, .int .i64 d.uid, .int .i64 d.gid, .int .i64 now, .int .i64 now, .int .i64 d.links, .int .i64 d.up, .string d.data, .slice a n c] 97)).cell (p := ⟨pw, 0, none⟩) pz).trans (pc 0)
  have hB := Blk.new w1 #[.int .i64 d.no, .int .i64 d.dev, .int .i64 d.kind, .int .i64 d.mode, .int .i64 d.uid, .int .i64 d.gid, .int .i64 now, .int .i64 now, .int .i64 d.links, .int .i64 d.up, .string d.data, .slice a n c] 97
  have hbX := balloc hb1 (.cells #[.int .i64 d.no, .int .i64 d.dev, .int .i64 d.kind, .int .i64 d.mode, .int .i64 d.uid, .int .i64 d.gid, .int .i64 now, .int .i64 now, .int .i64 d.links, .int .i64 d.up, .string d.data, .slice a n c] 97)
  clear pc hb1
  go_wp2_with fail
  generalize w1.alloc (.cells #[.int .i64 d.no, .int .i64 d.dev, .int .i64 d.kind, .int .i64 d.mode, .int .i64 d.uid, .int .i64 d.gid, .int .i64 now, .int .i64 now, .int .i64 d.links, .int .i64 d.up, .string d.data, .slice a n c] 97) = X at pc0 hB hbX ⊢
  obtain ⟨bc, -, bz⟩ := hB.facts
  have HS := Lib.hid (HSet.out _ hbX.drew)
  have HX := Lib.hid hbX
  clear hB hbX
  refine wp_region_lex 5 mixed (by kernel_rfl) body_panic ?_
  simp only [List.take_succ_cons, List.take_zero, List.drop_succ_cons, List.drop_zero]
  repeat still_step
  refine wpStill_nil ?_
  go_wp2_with fail
  refine HS.out.mono ?_
  rintro e w5 ⟨rfl, R', hR1, hR2, -, -⟩
  have HR := Lib.hid (And.intro hR1 hR2)
  clear hR1 hR2
  go_wp2_with fail
  go_end0
  rw [HT.out]
  exact ⟨rfl, R', HR.out.1, (Stp.of_below HX.out.drew).trans HR.out.2⟩
end

end Go.Proofs.Ytaojpbgaengdpaa

/- Names in a directory (layer 11): how they are held against each other; where a name is, or would be. -/
namespace Go.Proofs.Ytaojpbgaengdpaa

open Go.RowKit

def cmpB (a b : ByteArray) : Int := if ltB a b = true then -1 else if ltB b a = true then 1 else 0
theorem cmpB_lt (a b : ByteArray) : (cmpB a b < 0) = (ltB a b = true) := by
  unfold cmpB
  cases h : ltB a b
  · simp; split <;> omega
  · simp
theorem cmpB_eq (a b : ByteArray) : (cmpB a b = 0) = (a = b) := by
  unfold cmpB
  cases h : ltB a b
  · cases k : ltB b a
    · simp [ltB_total h k]
    · simp [(ltB_ne k).symm]
  · simp [ltB_ne h]

set_option maxHeartbeats 400000 in
theorem nan_any (s : ByteArray) (w : World) :
    Calls Try.prog 93 #[.string s] w fun e w' => e = .returned (.bool false) ∧ w = w' := by
  go_enter Try.func93, Try.ntmps93
  go_wp2
  go_ret
  exact ⟨rfl, rfl⟩

set_option maxHeartbeats 400000 in
theorem compare_any (a b : ByteArray) (w : World) :
    Calls Try.prog 84 #[.string a, .string b] w fun e w' => e = .returned (.int .i64 (cmpB a b)) ∧ w = w' := by
  unfold cmpB
  cases h : ltB a b
  · cases k : ltB b a
    · obtain rfl : a = b := ltB_total h k
      rw [← ltB_mk] at h
      clear k
      go_enter Try.func84, Try.ntmps84
      go_wp2
      go_ret
      exact ⟨rfl, rfl⟩
    · have hne : ¬ a.toList = b.toList := fun e => by
        rw [ByteArray.toList_eq, ByteArray.toList_eq] at e
        rw [ba_eq e, ltB_irrefl] at k
        cases k
      have hq : (a.toList == b.toList) = false := by simpa using hne
      rw [← ltB_mk] at h
      clear k
      go_enter Try.func84, Try.ntmps84
      go_wp2
      go_ret
      exact ⟨rfl, rfl⟩
  · rw [← ltB_mk] at h
    go_enter Try.func84, Try.ntmps84
    go_wp2
    go_ret
    exact ⟨rfl, rfl⟩

set_option maxHeartbeats 400000 in
theorem by_any (x : En) (n : ByteArray) (w : World) :
    Calls Try.prog 75 #[.agg #[.string x.name, .int .i64 x.no], .string n] w fun e w' => e = .returned (.int .i64 (cmpB x.name n)) ∧ Below w.heap.size w w' := by
  go_enter Try.func75, Try.ntmps75
  go_wp2_with (go_at_call 84; refine (compare_any _ _ _).mono ?_; rintro e w1 ⟨rfl, rfl⟩)
  go_ret
  exact ⟨rfl, by go_grown⟩
end Go.Proofs.Ytaojpbgaengdpaa

/- Where a name is, or would be: slices.BinarySearchFunc over names in a directory. -/
namespace Go.Proofs.Ytaojpbgaengdpaa

open Go.RowKit

def hasE (es : List En) (s : ByteArray) : Bool := (es.find? (fun x => decide (x.name = s))).isSome
set_option maxRecDepth 100000 in
set_option maxHeartbeats 1000000 in
theorem search_any (es : List En) (a : Option Addr) (n c : Nat) (s : ByteArray) (w : World) (he : EntsAt w a n c es) (hr : Rise es) (hn : n ≤ 1000000) :
    Calls Try.prog 74 #[.slice a n c, .string s, .func (.func 75) #[] #[]] w fun e w' => e = .returned (.tuple #[.int .i64 (entAt es s), .bool (hasE es s)]) ∧ Below w.heap.size w w' := by
  have hl := he.len
  have HR := Lib.hid hr
  have HE := Lib.hid he
  have hat := entAt_le es s
  clear hr he
  obtain ⟨A, hA⟩ : ∃ A, entAt es s = A := ⟨_, rfl⟩
  have HA := Lib.hid hA
  rw [hA] at hat ⊢
  clear hA
  go_enter Try.func74, Try.ntmps74
  go_wp2_with fail
  go_loopw [9, 10] (fun i j wr => ∃ lo hi : Nat, lo ≤ A ∧ A ≤ hi ∧ hi ≤ n ∧ i = .int .i64 lo ∧ j = .int .i64 hi ∧ Below w.heap.size w wr) (fun i j _ => (intOf j - intOf i).toNat)
  case atStart => exact ⟨0, n, by omega, by omega, by omega, rfl, rfl, Below.refl _ _⟩
  case round =>
    obtain ⟨lo, hi, h1, h2, h3, rfl, rfl, hB⟩ := hrel
    by_cases hlt : lo < hi
    · obtain ⟨b, off, rfl, hb⟩ := HE.out.some_of (by omega)
      obtain ⟨k, hk⟩ : ∃ k : Nat, (lo + hi) / 2 = k := ⟨_, rfl⟩
      have hkl : k < es.length := by omega
      obtain ⟨c1, c2⟩ := (HE.out.keep hB).cell k hkl
      obtain ⟨x, hx⟩ : ∃ x, es[k] = x := ⟨_, rfl⟩
      rw [hx] at c1 c2
      have hcv : (cmpB x.name s < 0) = (k < A) := by
        rw [cmpB_lt, ← hx, rise_lt HR.out s k hkl, HA.out]
        simp
      by_cases hkA : k < A
      · have hneg : cmpB x.name s < 0 := by rw [hcv]; exact hkA
        clear hcv hx
        go_wp2_with fail
        refine (by_any x s _).mono ?_
        rintro e w1 ⟨rfl, hb1⟩
        go_wp2_with fail
        go_roundw
        case rel => exact ⟨k + 1, hi, by omega, by omega, h3, by go_num, rfl, bnext hB hb1⟩
        case measure => simp [intOf]; omega
      · have hneg : ¬ cmpB x.name s < 0 := by rw [hcv]; exact hkA
        clear hcv hx
        go_wp2_with fail
        refine (by_any x s _).mono ?_
        rintro e w1 ⟨rfl, hb1⟩
        go_wp2_with fail
        go_roundw
        case rel => exact ⟨lo, k, by omega, by omega, by omega, rfl, by rw [show ((lo : Int) + (hi : Int)) / 2 = (k : Int) by omega], bnext hB hb1⟩
        case measure => simp [intOf]; omega
    · obtain rfl : lo = A := by omega
      by_cases hAn : lo < n
      · obtain ⟨b, off, rfl, hb⟩ := HE.out.some_of (by omega)
        have hkl : lo < es.length := by omega
        obtain ⟨c1, c2⟩ := (HE.out.keep hB).cell lo hkl
        obtain ⟨x, hx⟩ : ∃ x, es[lo] = x := ⟨_, rfl⟩
        rw [hx] at c1 c2
        by_cases hxs : x.name = s
        · have hz : cmpB x.name s = 0 := by rw [cmpB_eq]; exact hxs
          have HF := Lib.hid (show hasE es s = true by
            unfold hasE
            rw [find_at HR.out s, dif_pos (by rw [HA.out]; exact hkl), if_pos (by simp only [HA.out, hx]; exact hxs)]
            rfl)
          have Hz := Lib.hid hz
          clear hx hxs hz
          go_wp2_with fail
          refine (by_any x s _).mono ?_
          rw [Hz.out]
          rintro e w1 ⟨rfl, hb1⟩
          go_wp2_with fail
          go_ret2
          exact ⟨by rw [HF.out]; rfl, bnext hB hb1⟩
        · have hz : ¬ cmpB x.name s = 0 := by rw [cmpB_eq]; exact hxs
          have HF := Lib.hid (show hasE es s = false by
            unfold hasE
            rw [find_at HR.out s, dif_pos (by rw [HA.out]; exact hkl), if_neg (by simp only [HA.out, hx]; exact hxs)]
            rfl)
          have hz2 : (cmpB x.name s == 0) = false := by simpa using hz
          clear hx hxs hz
          go_wp2_with fail
          refine (by_any x s _).mono ?_
          rintro e w1 ⟨rfl, hb1⟩
          go_wp2_with fail
          go_ret2
          exact ⟨by rw [HF.out]; rfl, bnext hB hb1⟩
      · have HF := Lib.hid (show hasE es s = false by
          unfold hasE
          rw [find_at HR.out s, dif_neg (by rw [HA.out]; omega)]
          rfl)
        go_wp2_with fail
        go_ret2
        exact ⟨by rw [HF.out]; rfl, hB⟩

/-- what Find answers. -/
theorem has_find {es : List En} {s : ByteArray} (h : hasE es s = false) : entFind es s = 0 := by
  unfold hasE at h
  unfold entFind
  cases hf : es.find? (fun x => decide (x.name = s)) with
  | none => rfl
  | some x => rw [hf] at h; cases h
theorem at_find {es : List En} {s : ByteArray} (hr : Rise es) (h : hasE es s = true) : ∃ hk : entAt es s < es.length, entFind es s = es[entAt es s].no ∧ es[entAt es s].name = s := by
  unfold hasE at h
  unfold entFind
  rw [find_at hr s] at h ⊢
  split at h
  · rename_i hk
    split at h
    · rename_i hx
      refine ⟨hk, ?_, hx⟩
      rw [dif_pos hk, if_pos hx]
    · cases h
  · cases h
set_option maxRecDepth 100000 in
set_option maxHeartbeats 400000 in
theorem efind_any (es : List En) (a : Option Addr) (n c : Nat) (s : ByteArray) (w : World) (he : EntsAt w a n c es) (hr : Rise es) (hn : n ≤ 1000000) :
    Calls Try.prog 62 #[.slice a n c, .string s] w fun e w' => e = .returned (.int .i64 (entFind es s)) ∧ Below w.heap.size w w' := by
  have hl := he.len
  have HS := Lib.hid (search_any es a n c s w he hr hn)
  cases hh : hasE es s
  · rw [hh] at HS
    rw [has_find hh]
    go_enter Try.func62, Try.ntmps62
    go_wp2_with fail
    refine HS.out.mono ?_
    rintro e w1 ⟨rfl, hb1⟩
    go_wp2_with fail
    go_ret
    exact ⟨rfl, hb1⟩
  · rw [hh] at HS
    obtain ⟨hk, hf, -⟩ := at_find hr hh
    rw [hf]
    obtain ⟨b, off, rfl, hb⟩ := he.some_of (by omega)
    obtain ⟨A, hA⟩ : ∃ A, entAt es s = A := ⟨_, rfl⟩
    simp only [hA] at hk HS ⊢
    obtain ⟨x, hx⟩ : ∃ x, es[A] = x := ⟨_, rfl⟩
    rw [hx]
    have HE := Lib.hid he
    clear hf hA he hh
    go_enter Try.func62, Try.ntmps62
    go_wp2_with fail
    refine HS.out.mono ?_
    rintro e w1 ⟨rfl, hb1⟩
    obtain ⟨c1, c2⟩ := (HE.out.keep hb1).cell A hk
    rw [hx] at c1 c2
    go_wp2_with fail
    go_ret
    exact ⟨rfl, hb1⟩
end Go.Proofs.Ytaojpbgaengdpaa
