/- The statement DiaryTells, as a tied card: for every input the law answers true, and each argument reads behind the call as before. -/
import Derived.Deep.DeepHandedRow
import Derived.Lay
import Derived.Test.YtcjllikngfndhaaDoorDB5
import Derived.Test.YtcjllikngfndhaaDoorCards
import Derived.Test.YtcjllikngfndhaaDoorTie
import Derived.Test.YtcjllikngfndhaaDoorDB1
/- ragpickerlaw39.Same. -/
namespace Go.Proofs.YtcjllikngfndhaaDoor

open Go.RowKit

deriving instance DecidableEq for Nt
def sameB (xs ys : List Gr) : Bool := decide (xs.map Gr.p = ys.map Gr.p)
theorem sameB_len {xs ys : List Gr} (h : xs.length ≠ ys.length) : sameB xs ys = false := decide_eq_false fun e => h (by simpa using congrArg List.length e)
/-- the same so far. -/
def sofar (xs ys : List Gr) (k : Nat) : Prop := (xs.take k).map Gr.p = (ys.take k).map Gr.p
theorem sofar_step {xs ys : List Gr} {k : Nat} (h : sofar xs ys k) (h1 : k < xs.length) (h2 : k < ys.length) (he : xs[k].p = ys[k].p) : sofar xs ys (k + 1) := by
  unfold sofar at *
  rw [List.take_add_one, List.take_add_one, List.map_append, List.map_append, h, List.getElem?_eq_getElem h1, List.getElem?_eq_getElem h2]
  simp [he]
theorem sofar_end {xs ys : List Gr} (h : sofar xs ys xs.length) (hl : xs.length = ys.length) : sameB xs ys = true := by
  unfold sofar at h
  rw [List.take_length, hl, List.take_length] at h
  exact decide_eq_true h
theorem same_no {xs ys : List Gr} {k : Nat} (h1 : k < xs.length) (h2 : k < ys.length) (he : xs[k].p ≠ ys[k].p) : sameB xs ys = false := decide_eq_false fun e => he (by
  have := congrArg (fun l => l[k]?) e
  simpa [List.getElem?_eq_getElem h1, List.getElem?_eq_getElem h2] using this)
def nsofar (xs ys : List Nt) (k : Nat) : Prop := xs.take k = ys.take k
theorem nsofar_step {xs ys : List Nt} {k : Nat} (h : nsofar xs ys k) (h1 : k < xs.length) (h2 : k < ys.length) (he : xs[k] = ys[k]) : nsofar xs ys (k + 1) := by
  unfold nsofar at *
  rw [List.take_add_one, List.take_add_one, h, List.getElem?_eq_getElem h1, List.getElem?_eq_getElem h2, he]
theorem nsofar_end {xs ys : List Nt} (h : nsofar xs ys xs.length) (hl : xs.length = ys.length) : xs = ys := by
  unfold nsofar at h
  rw [List.take_length, hl, List.take_length] at h
  exact h
theorem nsame_no {xs ys : List Nt} {k : Nat} (h1 : k < xs.length) (h2 : k < ys.length) (he : xs[k] ≠ ys[k]) : xs ≠ ys := fun e => he (by subst e; rfl)

theorem nt_cases (m n : Nt) : m = n ∨ (m ≠ n ∧ ¬ (m.kind.toNat : Int) = n.kind.toNat) ∨ (m ≠ n ∧ (m.kind.toNat : Int) = n.kind.toNat ∧ ¬ m.no = n.no) ∨
    (m ≠ n ∧ (m.kind.toNat : Int) = n.kind.toNat ∧ m.no = n.no ∧ ¬ m.src.toList = n.src.toList) ∨ (m ≠ n ∧ (m.kind.toNat : Int) = n.kind.toNat ∧ m.no = n.no ∧ m.src.toList = n.src.toList ∧ ¬ m.dst.toList = n.dst.toList) ∨
    (m ≠ n ∧ (m.kind.toNat : Int) = n.kind.toNat ∧ m.no = n.no ∧ m.src.toList = n.src.toList ∧ m.dst.toList = n.dst.toList ∧ ¬ m.tmp.toList = n.tmp.toList) := by
  have tl : ∀ {s t : ByteArray}, s.toList = t.toList → s = t := fun {s t} h => by
    rw [ba_list, ba_list] at h
    cases s; cases t
    congr 1
    exact Array.toList_inj.1 h
  obtain ⟨k, o, s, d, t⟩ := m
  obtain ⟨k', o', s', d', t'⟩ := n
  by_cases e1 : (k.toNat : Int) = k'.toNat
  · have e1' : k = k' := UInt8.toNat_inj.1 (by omega)
    subst e1'
    by_cases e2 : o = o'
    · subst e2
      by_cases e3 : s.toList = s'.toList
      · by_cases e4 : d.toList = d'.toList
        · by_cases e5 : t.toList = t'.toList
          · left; rw [tl e3, tl e4, tl e5]
          · right; right; right; right; right
            exact ⟨fun e => e5 (by injection e with _ _ _ _ h; rw [h]), rfl, rfl, e3, e4, e5⟩
        · right; right; right; right; left
          exact ⟨fun e => e4 (by injection e with _ _ _ h; rw [h]), rfl, rfl, e3, e4⟩
      · right; right; right; left
        exact ⟨fun e => e3 (by injection e with _ _ h; rw [h]), rfl, rfl, e3⟩
    · right; right; left
      exact ⟨fun e => e2 (by injection e), rfl, e2⟩
  · right; left
    exact ⟨fun e => e1 (by injection e with h; rw [h]), e1⟩

set_option maxRecDepth 100000 in
set_option maxHeartbeats 2000000 in
theorem same_any (a b : Option Addr) (c d : Nat) (xs ys : List Gr) (w : World) (hA : Grs w a c xs) (hB : Grs w b d ys) :
    Calls Tryd.prog 17 #[.slice a xs.length c, .slice b ys.length d] w fun e w' => e = .returned (.bool (sameB xs ys)) ∧ Below w.heap.size w w' := by
  have HA := Lib.hid hA
  have HB := Lib.hid hB
  have hlx : xs.length ≤ 9223372036854775807 := Nat.le_trans hA.sl.2.1 hA.sl.2.2.1
  have hly : ys.length ≤ 9223372036854775807 := Nat.le_trans hB.sl.2.1 hB.sl.2.2.1
  clear hA hB
  by_cases hlen : xs.length = ys.length
  · have hl1 := (int_beq (xs.length : Int) ys.length (by omega)).2
    have HLen := Lib.hid hlen
    clear hlen
    go_enter Tryd.func17, Tryd.ntmps17
    go_wp2_with fail
    go_loopw [5] (fun t5 wr => ∃ (k : Nat), k ≤ xs.length ∧ t5 = .int .i64 k ∧ sofar xs ys k ∧ Below w.heap.size w wr) (fun t5 _ => xs.length - (intOf t5).toNat)
    case atStart => exact ⟨0, Nat.zero_le _, rfl, rfl, Below.refl _ _⟩
    case round =>
      obtain ⟨k, hk, rfl, hso, hW⟩ := hrel
      have HS := Lib.hid hso
      have HW := Lib.hid hW
      clear hso
      by_cases hlt : k < xs.length
      · have hlt2 : k < ys.length := by have := HLen.out; omega
        have hA2 := HA.out.below hW (Nat.le_refl _)
        have hB2 := HB.out.below hW (Nat.le_refl _)
        obtain ⟨ba, oa, rfl⟩ := hA2.addr (by omega)
        obtain ⟨bb, ob, rfl⟩ := hB2.addr (by omega)
        obtain ⟨c0, c1, cl⟩ := hA2.cells k hlt
        obtain ⟨d0, d1, dl⟩ := hB2.cells k hlt2
        have HA2 := Lib.hid hA2
        have HB2 := Lib.hid hB2
        have hx := hA2.at' xs[k] (List.getElem_mem _)
        have hy := hB2.at' ys[k] (List.getElem_mem _)
        have HC := Lib.hid (fun W (h : Grs W (some ⟨ba, oa, none⟩) c xs) => h.cells k hlt)
        have HD := Lib.hid (fun W (h : Grs W (some ⟨bb, ob, none⟩) d ys) => h.cells k hlt2)
        have HStep := Lib.hid (sofar_step HS.out hlt hlt2)
        have HNo := Lib.hid (same_no hlt hlt2)
        generalize xs[k] = x at c0 c1 hx HC HStep HNo
        generalize ys[k] = y at d0 d1 hy HD HStep HNo
        have hnx : x.notes.length ≤ 9223372036854775807 := Nat.le_trans hx.2.1 hx.2.2.1
        have hny : y.notes.length ≤ 9223372036854775807 := Nat.le_trans hy.2.1 hy.2.2.1
        have HX := Lib.hid hx
        have HY := Lib.hid hy
        clear hA2 hB2 hx hy hW
        by_cases hf : x.fin.toNat = y.fin.toNat
        · have hf1 := (int_beq (x.fin.toNat : Int) y.fin.toNat (by omega)).2
          have HFin := Lib.hid hf
          clear hf
          by_cases hn : x.notes.length = y.notes.length
          · have hn1 := (int_beq (x.notes.length : Int) y.notes.length (by omega)).2
            go_wp2_with fail
            go_region
            go_wp2_with fail
            clear c0 c1 d0 d1 hf1
            go_loopw [6] (fun t6 w2 => ∃ (j : Nat), j ≤ x.notes.length ∧ t6 = .int .i64 j ∧ nsofar x.notes y.notes j ∧ Below wr.heap.size wr w2) (fun t6 _ => x.notes.length - (intOf t6).toNat)
            case atStart => exact ⟨0, Nat.zero_le _, rfl, rfl, (Below.refl _ _).drew⟩
            case round =>
              obtain ⟨j, hj, rfl, hns, hW2⟩ := hrel
              have HNs := Lib.hid hns
              have HW2 := Lib.hid hW2
              clear hns
              obtain ⟨c0, c1, cl⟩ := HC.out _ (HA2.out.below hW2 (Nat.le_refl _))
              obtain ⟨d0, d1, dl⟩ := HD.out _ (HB2.out.below hW2 (Nat.le_refl _))
              have hx2 := HX.out.below hW2 (Nat.le_refl _)
              have hy2 := HY.out.below hW2 (Nat.le_refl _)
              by_cases hjl : j < x.notes.length
              · have hjl2 : j < y.notes.length := by omega
                obtain ⟨na, pa, hna⟩ := hx2.addr (by omega)
                obtain ⟨nb, pb, hnb⟩ := hy2.addr (by omega)
                obtain ⟨e0, e1, e2, e3, e4, el⟩ := hx2.cells hna j hjl
                obtain ⟨f0, f1, f2, f3, f4, fl⟩ := hy2.cells hnb j hjl2
                have HNStep := Lib.hid (nsofar_step HNs.out hjl hjl2)
                have HNNo := Lib.hid (nsame_no hjl hjl2)
                generalize x.notes[j] = m at e0 e1 e2 e3 e4 HNStep HNNo
                generalize y.notes[j] = n at f0 f1 f2 f3 f4 HNStep HNNo
                clear hx2 hy2 hW2
                rw [hna] at c0
                rw [hnb] at d0
                clear hna hnb
                rcases nt_cases m n with rfl | ⟨g1, g2⟩ | ⟨g1, g2, g3⟩ | ⟨g1, g2, g3, g4⟩ | ⟨g1, g2, g3, g4, g5⟩ | ⟨g1, g2, g3, g4, g5, g6⟩
                · go_wp2_with fail
                  go_region
                  go_wp2_with fail
                  go_roundw
                  case measure => simp [intOf]; omega
                  case rel => exact ⟨j + 1, by omega, by go_num, HNStep.out trivial, HW2.out.drew⟩
                all_goals
                  have HR := Lib.hid (HNo.out (fun e => HNNo.out g1 (congrArg (fun g : List Nt × UInt8 => g.1) e)))
                  clear g1 HNNo HNStep
                  go_wp2_with fail
                  go_region
                  go_wp2_with fail
                  go_ret
                  exact ⟨ret_bool (by rw [HR.out]), bnext HW.out HW2.out.drew⟩
              · obtain rfl : j = x.notes.length := by omega
                have HEq := Lib.hid (nsofar_end HNs.out hn)
                have HWW := Lib.hid (bnext HW.out HW2.out)
                clear hx2 hy2 hW2 HW2 HNs
                go_wp2_with fail
                go_roundw
                case measure => simp [intOf]; omega
                case rel => exact ⟨k + 1, by omega, by go_num, HStep.out (Prod.ext HEq.out (UInt8.toNat_inj.1 HFin.out)), HWW.out⟩
          · have hn1 := (int_bne (x.notes.length : Int) y.notes.length (by omega)).2
            go_wp2_with fail
            go_region
            go_wp2_with fail
            go_ret
            exact ⟨ret_bool (by rw [HNo.out (fun e => hn (congrArg (fun g : List Nt × UInt8 => g.1.length) e))]), HW.out.drew⟩
        · have hf1 := (int_bne (x.fin.toNat : Int) y.fin.toNat (by omega)).2
          have HFin := Lib.hid hf
          clear hf
          go_wp2_with fail
          go_region
          go_wp2_with fail
          go_ret
          exact ⟨ret_bool (by rw [HNo.out (fun e => HFin.out (congrArg (fun g : List Nt × UInt8 => g.2.toNat) e))]), HW.out.drew⟩
      · obtain rfl : k = xs.length := by omega
        go_wp2_with fail
        go_ret
        exact ⟨ret_bool (by rw [sofar_end HS.out HLen.out]), HW.out⟩
  · have hl1 := (int_bne (xs.length : Int) ys.length (by omega)).2
    go_enter Tryd.func17, Tryd.ntmps17
    go_wp2_with fail
    go_ret
    exact ⟨ret_bool (by rw [sameB_len hlen]), Below.refl _ _⟩
end Go.Proofs.YtcjllikngfndhaaDoor

/- ragpickerlaw39.awake answers true. -/
namespace Go.Proofs.YtcjllikngfndhaaDoor

open Go.RowKit

theorem parse_some {s : ByteArray} {out : List (List Nt × UInt8)} (h : parseP s.data.toList = some out) (w : World) (hs : s.size ≤ 100000) (hm : MaxL w) :
    Calls Tryd.prog 11 #[.string s] w fun e w' => (∃ a c gs, gs.map Gr.p = out ∧ e = .returned (.tuple #[.slice a gs.length c, .int .i64 0]) ∧ Grs w' a c gs ∧ GOk gs) ∧ Below w.heap.size w w' :=
  (parse_any s w hs hm).mono fun e w' ⟨hr, hb⟩ => ⟨by
    rcases hr with ⟨h2, -⟩ | ⟨a, c, gs, h2, h3⟩
    · rw [h] at h2; exact absurd h2 (by simp)
    · rw [h] at h2; injection h2 with h2; exact ⟨a, c, gs, h2.symm, h3⟩, hb⟩
theorem parse_none {s : ByteArray} (h : parseP s.data.toList = none) (w : World) (hs : s.size ≤ 100000) (hm : MaxL w) :
    Calls Tryd.prog 11 #[.string s] w fun e w' => e = .returned (.tuple #[.slice none 0 0, .int .i64 2]) ∧ Below w.heap.size w w' :=
  (parse_any s w hs hm).mono fun e w' ⟨hr, hb⟩ => ⟨by
    rcases hr with ⟨-, h2⟩ | ⟨a, c, gs, h2, h3⟩
    · exact h2
    · rw [h] at h2; exact absurd h2 (by simp), hb⟩
def ntA : Nt := ⟨109, 7, ByteArray.mk #[47, 97], ByteArray.mk #[47, 98], ByteArray.empty⟩
def txtA : ByteArray := ByteArray.mk #[103, 10, 109, 32, 55, 32, 47, 97, 32, 47, 98, 10, 101, 10]
def txtB : ByteArray := ByteArray.mk #[103, 10, 109, 32, 48, 55, 32, 47, 97, 32, 47, 98, 10, 101, 10]
theorem awA_fine : fineB [([ntA], 101)] = true := by decide +kernel
theorem awA_text : textL [([ntA], 101)] = txtA.data.toList := by decide +kernel
theorem awA_ok : Nt.Ok ntA := ⟨by decide, by decide, by decide, by decide, by decide⟩
theorem awA_parse : parseP txtA.data.toList = some [([ntA], 101)] := by
  rw [← awA_text]
  exact parseP_text awA_fine (fun g hg x hx => by simp at hg; subst hg; simp at hx; subst hx; exact ⟨awA_ok.n0, awA_ok.n1⟩)
theorem awB_parse : parseP txtB.data.toList = none := by
  have : (parseP txtB.data.toList).isNone = true := by decide +kernel
  simpa using this
theorem grs_one {w : World} {bn bg : Nat} {x : Nt} {f : UInt8} (hn : Blk w bn #[.int .u8 x.kind.toNat, .int .i64 x.no, .string x.src, .string x.dst, .string x.tmp] 29) (hg : Blk w bg #[.slice (some ⟨bn, 0, none⟩) 1 1, .int .u8 f.toNat] 27) :
    Grs w (some ⟨bg, 0, none⟩) 1 [⟨some ⟨bn, 0, none⟩, 1, [x], f⟩] := by
  refine ⟨⟨rfl, Nat.le_refl _, by decide, .inr ⟨bg, 0, rfl, hg.lt, fun i hi => ?_⟩⟩, fun g hgm => ?_⟩
  · simp at hi
    subst hi
    refine ⟨[.slice (some ⟨bn, 0, none⟩) 1 1, .int .u8 f.toNat], rfl, rfl, fun j hj => ?_⟩
    rw [hg.cell]
    match j, hj with
    | 0, _ => rfl
    | 1, _ => rfl
  · simp at hgm
    subst hgm
    refine ⟨rfl, Nat.le_refl _, (show (1 : Nat) ≤ 9223372036854775807 by decide), .inr ⟨bn, 0, rfl, hn.lt, fun i hi => ?_⟩⟩
    simp at hi
    subst hi
    refine ⟨x.cs, rfl, rfl, fun j hj => ?_⟩
    rw [hn.cell]
    match j, hj with
    | 0, _ => rfl
    | 1, _ => rfl
    | 2, _ => rfl
    | 3, _ => rfl
    | 4, _ => rfl
theorem grs_zero {w : World} {bg : Nat} (hg : Blk w bg #[.slice none 0 0, .int .u8 0] 27) : Grs w (some ⟨bg, 0, none⟩) 1 [Gr.zero] := by
  refine ⟨⟨rfl, Nat.le_refl _, by decide, .inr ⟨bg, 0, rfl, hg.lt, fun i hi => ?_⟩⟩, fun g hgm => ?_⟩
  · simp at hi
    subst hi
    refine ⟨[.slice none 0 0, .int .u8 0], rfl, rfl, fun j hj => ?_⟩
    rw [hg.cell]
    match j, hj with
    | 0, _ => rfl
    | 1, _ => rfl
  · simp at hgm
    subst hgm
    exact ⟨rfl, Nat.le_refl _, by decide, .inl rfl⟩

set_option maxRecDepth 100000 in
set_option maxHeartbeats 1500000 in
theorem awakeD_any (w : World) (hm : MaxL w) : Calls Tryd.prog 6 #[] w fun e w' => e = .returned (.bool true) ∧ Below w.heap.size w w' := by
  have hbA := balloc (balloc (Below.refl w.heap.size w) (.cells #[.int .u8 109, .int .i64 7, .string (ByteArray.mk #[47, 97]), .string (ByteArray.mk #[47, 98]), .string ByteArray.empty] 29)) (.cells #[.slice (some ⟨w.heap.size, 0, none⟩) 1 1, .int .u8 101] 27)
  have h1 := (Blk.new w #[.int .u8 109, .int .i64 7, .string (ByteArray.mk #[47, 97]), .string (ByteArray.mk #[47, 98]), .string ByteArray.empty] 29).old (.cells #[.slice (some ⟨w.heap.size, 0, none⟩) 1 1, .int .u8 101] 27)
  have h2 := Blk.new (w.alloc (.cells #[.int .u8 109, .int .i64 7, .string (ByteArray.mk #[47, 97]), .string (ByteArray.mk #[47, 98]), .string ByteArray.empty] 29)) #[.slice (some ⟨w.heap.size, 0, none⟩) 1 1, .int .u8 101] 27
  have hG0 := grs_one (x := ntA) (f := 101) h1 h2
  have hO0 : GOk [⟨some ⟨w.heap.size, 0, none⟩, 1, [ntA], 101⟩] := fun g hg x hx => by simp at hg; subst hg; simp at hx; subst hx; exact awA_ok
  have HBA := Lib.hid hbA
  have HG0 := Lib.hid hG0
  have HO0 := Lib.hid hO0
  have HM := Lib.hid (hm.keep hbA)
  clear hm hbA h1 h2 hG0 hO0
  go_enter Tryd.func6, Tryd.ntmps6
  go_upto_region 2 with (fail)
  rw [World.size_alloc] at HG0
  show Code.wp Tryd.prog _ _ _ ((w.alloc (.cells #[.int .u8 109, .int .i64 7, .string (ByteArray.mk #[47, 97]), .string (ByteArray.mk #[47, 98]), .string ByteArray.empty] 29)).alloc (.cells #[.slice (some ⟨w.heap.size, 0, none⟩) 1 1, .int .u8 101] 27))
  generalize (w.alloc (.cells #[.int .u8 109, .int .i64 7, .string (ByteArray.mk #[47, 97]), .string (ByteArray.mk #[47, 98]), .string ByteArray.empty] 29)).alloc (.cells #[.slice (some ⟨w.heap.size, 0, none⟩) 1 1, .int .u8 101] 27) = W0 at HBA HG0 HM ⊢
  generalize hg0 : (⟨some ⟨w.heap.size, 0, none⟩, 1, [ntA], 101⟩ : Gr) = g0 at HG0 HO0
  have hp0 : g0.p = ([ntA], 101) := by rw [← hg0]; rfl
  have HP0 := Lib.hid hp0
  have HPar := Lib.hid (fun (w : World) (hm : MaxL w) => parse_some (s := ByteArray.mk #[103, 10, 109, 32, 55, 32, 47, 97, 32, 47, 98, 10, 101, 10]) awA_parse w (by decide) hm)
  have HPbr := Lib.hid (fun (w : World) (hm : MaxL w) => parse_none (s := ByteArray.mk #[103, 10, 109, 32, 48, 55, 32, 47, 97, 32, 47, 98, 10, 101, 10]) awB_parse w (by decide) hm)
  have HWr := Lib.hid (fun (w : World) (hb : Below W0.heap.size W0 w) => (show Calls Tryd.prog 15 #[.slice (some ⟨_, 0, none⟩) 1 1] w fun e w' => e = .returned (.string (ByteArray.mk #[103, 10, 109, 32, 55, 32, 47, 97, 32, 47, 98, 10, 101, 10])) ∧ Below w.heap.size w w' from by
    have h := write_any _ _ [g0] w (HG0.out.below hb (Nat.le_refl _)) HO0.out (by show (textL [g0.p]).length ≤ _; rw [HP0.out, awA_text]; decide)
    have e : writeB ([g0].map Gr.p) = txtA.data.toList := by show writeB [g0.p] = _; rw [HP0.out]; unfold writeB; rw [awA_fine]; exact awA_text
    rw [e] at h
    exact h))
  have HFi := Lib.hid (fun (w : World) (hb : Below W0.heap.size W0 w) => (show Calls Tryd.prog 13 #[.slice (some ⟨_, 0, none⟩) 1 1] w fun e w' => e = .returned (.bool true) ∧ Below w.heap.size w w' from by
    have h := fine_any _ _ [g0] w (HG0.out.below hb (Nat.le_refl _)) HO0.out
    have e : fineB ([g0].map Gr.p) = true := by show fineB [g0.p] = _; rw [HP0.out]; exact awA_fine
    rw [e] at h
    exact h))
  have HFz := Lib.hid (fun (w : World) => (show Calls Tryd.prog 13 #[.slice (some ⟨w.heap.size, 0, none⟩) 1 1] (w.alloc (.cells #[.slice none 0 0, .int .u8 0] 27)) fun e w' => e = .returned (.bool false) ∧ Below (w.alloc (.cells #[.slice none 0 0, .int .u8 0] 27)).heap.size (w.alloc (.cells #[.slice none 0 0, .int .u8 0] 27)) w' from by
    exact fine_any _ _ [Gr.zero] _ (grs_zero (Blk.new w _ _)) (fun g hg x hx => by simp at hg; subst hg; simp [Gr.zero] at hx)))
  have HSm := Lib.hid (fun (w : World) (a : Option Addr) (c : Nat) (gs : List Gr) (hb : Below W0.heap.size W0 w) (hm : gs.map Gr.p = [([ntA], 101)]) (hG : Grs w a c gs) => (show Calls Tryd.prog 17 #[.slice (some ⟨_, 0, none⟩) 1 1, .slice a gs.length c] w fun e w' => e = .returned (.bool true) ∧ Below w.heap.size w w' from by
    have h := same_any _ a _ c [g0] gs w (HG0.out.below hb (Nat.le_refl _)) hG
    have e : sameB [g0] gs = true := by unfold sameB; rw [hm]; exact decide_eq_true (by show [g0.p] = _; rw [HP0.out])
    rw [e] at h
    exact h))
  clear hg0 hp0
  go_upto_region 3 with (go_at_call 11; refine (HPar.out _ HM.out).mono ?_; rintro e w1 ⟨⟨a1, c1, gs1, hm1, rfl, hG1, -⟩, hb1⟩; have HM1 := Lib.hid hm1; have HG1 := Lib.hid hG1; have HB1 := Lib.hid hb1; clear hm1 hG1 hb1)
  go_upto_region 4 with (go_at_call 11; refine (HPbr.out _ (HM.out.keep HB1.out)).mono ?_; rintro e w2 ⟨rfl, hb2⟩; have HB2 := Lib.hid (bnext HB1.out hb2); have HG2 := Lib.hid (HG1.out.below hb2 (Nat.le_refl _)); clear hb2)
  go_wp2_with (go_at_call 15; refine (HWr.out _ HB2.out).mono ?_; rintro e w3 ⟨rfl, hb3⟩; have HB3 := Lib.hid (bnext HB2.out hb3); have HG3 := Lib.hid (HG2.out.below hb3 (Nat.le_refl _)); clear hb3)
  refine (HSm.out _ _ _ _ HB3.out HM1.out HG3.out).mono ?_
  rintro e w4 ⟨rfl, hb4⟩
  have HB4 := Lib.hid (bnext HB3.out hb4)
  clear hb4
  go_wp2_with fail
  refine (HFi.out _ HB4.out).mono ?_
  rintro e w5 ⟨rfl, hb5⟩
  have HB5 := Lib.hid (bnext HB4.out hb5)
  clear hb5
  go_wp2_with fail
  refine (HFz.out _).mono ?_
  rintro e w6 ⟨rfl, hb6⟩
  have HB6 := Lib.hid (bnext (balloc HB5.out _) hb6)
  clear hb6
  go_wp2_with fail
  go_ret
  exact ⟨rfl, HBA.out.trans (HB6.out.mono HBA.out.size)⟩
end Go.Proofs.YtcjllikngfndhaaDoor

/- ragpickerlaw39.DiaryBack answers true. -/
namespace Go.Proofs.YtcjllikngfndhaaDoor

open Go.RowKit

/-- the numbers in notes are ints. -/
def GNum (gs : List Gr) : Prop := ∀ g ∈ gs, ∀ x ∈ g.notes, -9223372036854775808 ≤ x.no ∧ x.no ≤ 9223372036854775807
theorem few_ok {gs : List Gr} (h : fewB gs = true) (hn : GNum gs) : GOk gs := fun g hg x hx => by
  unfold fewB at h
  rw [Bool.and_eq_true] at h
  have h1 := List.all_eq_true.1 h.1 g hg
  unfold fewG at h1
  rw [Bool.and_eq_true] at h1
  have h2 := List.all_eq_true.1 h1.2 x hx
  unfold fewN at h2
  simp only [Bool.and_eq_true, decide_eq_true_eq] at h2
  exact ⟨by omega, by omega, by omega, (hn g hg x hx).1, (hn g hg x hx).2⟩
theorem sum_le (k : Nat) : ∀ l : List Nat, (∀ x ∈ l, x ≤ k) → l.sum ≤ l.length * k
  | [], _ => by simp
  | a :: l, h => by
    rw [List.sum_cons, List.length_cons, Nat.succ_mul]
    have := sum_le k l (fun x hx => h x (by simp [hx]))
    have := h a (by simp)
    omega
theorem few_text {gs : List Gr} (h : fewB gs = true) (hn : GNum gs) : (textL (gs.map Gr.p)).length ≤ 90000 := by
  have hO := few_ok h hn
  unfold fewB at h
  rw [Bool.and_eq_true, decide_eq_true_eq] at h
  have key : ∀ g ∈ gs, (groupL g.p).length ≤ 10920 := fun g hg => by
    have h1 := List.all_eq_true.1 h.1 g hg
    unfold fewG at h1
    rw [Bool.and_eq_true, decide_eq_true_eq] at h1
    have h2 : (g.notes.flatMap lineL).length ≤ g.notes.length * 2727 := by
      rw [List.length_flatMap]
      have := sum_le 2727 (g.notes.map fun x => (lineL x).length) (fun y hy => by
        obtain ⟨x, hx, rfl⟩ := List.mem_map.1 hy
        have h3 := List.all_eq_true.1 h1.2 x hx
        unfold fewN at h3
        simp only [Bool.and_eq_true, decide_eq_true_eq] at h3
        exact lineL_len (m := 300) (hO g hg x hx) h3.1.1 h3.1.2 h3.2)
      rwa [List.length_map] at this
    have h3 := endL_len g.fin
    unfold groupL Gr.p
    simp only [List.length_cons, List.length_append]
    omega
  unfold textL
  rw [List.length_flatMap]
  have := sum_le 10920 ((gs.map Gr.p).map fun g => (groupL g).length) (fun y hy => by
    obtain ⟨q, hq, rfl⟩ := List.mem_map.1 hy
    obtain ⟨g, hg, rfl⟩ := List.mem_map.1 hq
    exact key g hg)
  rw [List.length_map, List.length_map] at this
  omega
theorem nums_map {gs : List Gr} (hn : GNum gs) : NumsOk (gs.map Gr.p) := fun g hg x hx => by
  obtain ⟨g', hg', rfl⟩ := List.mem_map.1 hg
  exact hn g' hg' x hx

theorem parseP_ok {s : List UInt8} {out : List (List Nt × UInt8)} (hs : s.length ≤ 100000) (h : parseP s = some out) : writeB out = s ∧ (textL out).length ≤ 10000000 := by
  unfold parseP at h
  split at h
  · rename_i h0
    injection h with h
    subst h h0
    exact ⟨rfl, by simp [textL]⟩
  · cases hf : (spl 10 (Lib.trimSuffix s [10])).foldlM stepP [] with
    | none => rw [hf] at h; cases h
    | some o =>
      rw [hf] at h
      simp only [Option.bind_some] at h
      split at h
      · rename_i hw
        injection h with h; subst h
        have h1 := (fold_ok stepP_ok _ (size_lines (Nat.le_trans (trim_len s) hs)) hf).text
        rw [wsum_spl] at h1
        have h2 := trim_len s
        exact ⟨hw, by omega⟩
      · cases h

set_option maxRecDepth 100000 in
set_option maxHeartbeats 2000000 in
theorem backD_any (a : Option Addr) (c : Nat) (gs : List Gr) (s : ByteArray) (w : World) (hG : Grs w a c gs) (hN : GNum gs) (hs : s.size ≤ 9223372036854775807) (hm : MaxL w) :
    Calls Tryd.prog 4 #[.slice a gs.length c, .string s] w fun e w' => e = .returned (.bool true) ∧ Below w.heap.size w w' := by
  have HG := Lib.hid hG
  have HM := Lib.hid hm
  have HAw := Lib.hid (fun (w2 : World) (hb : Below w.heap.size w w2) => awakeD_any w2 (HM.out.keep hb))
  have HFew := Lib.hid (few_any a c gs w hG)
  by_cases hfew : fewB gs = true ∧ s.size ≤ 600
  · obtain ⟨hf, hs6⟩ := hfew
    have HO := Lib.hid (few_ok hf hN)
    have HT := Lib.hid (few_text hf hN)
    have HNu := Lib.hid (nums_map hN)
    have hs6i : (s.size : Int) ≤ 600 := by omega
    rw [hf] at HFew
    have HFine := Lib.hid (fun (w2 : World) (hb : Below w.heap.size w w2) => rfine_any a c gs w2 (HG.out.below hb (Nat.le_refl _)) HO.out)
    have hsl : s.data.toList.length = s.size := Array.length_toList
    have HMk := Lib.hid (fun (w2 : World) (hb : Below w.heap.size w w2) => HM.out.keep hb)
    have hst := str_beq (rfl : s = s)
    cases hp : parseP s.data.toList with
    | none =>
      have HPn := Lib.hid (fun (w2 : World) (hb : Below w.heap.size w w2) => parse_none hp w2 (by omega) (HM.out.keep hb))
      clear hG hN hm hf hp hsl
      cases hfi : fineB (gs.map Gr.p) with
      | false =>
        rw [hfi] at HFine
        clear hfi
        go_enter Tryd.func4, Tryd.ntmps4
        go_upto_region 7 with (first | (go_at_call 5; refine HFew.out.mono ?_; rintro e w1 ⟨rfl, hb1⟩; have HB1 := Lib.hid hb1; clear hb1) | (go_at_call 14; refine (HFine.out _ HB1.out).mono ?_; rintro e w2 ⟨rfl, hb2⟩; have HB := Lib.hid (bnext HB1.out hb2); clear hb2))
        go_wp2_with (first | (go_at_call 11; refine (HPn.out _ HB.out).mono ?_; rintro e w8 ⟨rfl, hb8⟩; have HB8 := Lib.hid (bnext HB.out hb8); clear hb8) | (go_at_call 6; refine (HAw.out _ HB8.out).mono ?_; rintro e w9 ⟨rfl, hb9⟩; have HB9 := Lib.hid (bnext HB8.out hb9); clear hb9))
        go_ret
        exact ⟨rfl, HB9.out⟩
      | true =>
        rw [hfi] at HFine
        have HTx := Lib.hid (show writeB (gs.map Gr.p) = textL (gs.map Gr.p) by unfold writeB; rw [hfi]; rfl)
        have HPt := Lib.hid (parseP_text hfi HNu.out)
        have HWr := Lib.hid (fun (w2 : World) (hb : Below w.heap.size w w2) => write_any a c gs w2 (HG.out.below hb (Nat.le_refl _)) HO.out (by have := HT.out; omega))
        have HPa := Lib.hid (fun (w2 : World) (hb : Below w.heap.size w w2) => parse_some (s := str (writeB (gs.map Gr.p))) (out := gs.map Gr.p) (by rw [str_list, HTx.out]; exact HPt.out) w2 (by rw [str_size, HTx.out]; have := HT.out; omega) (HM.out.keep hb))
        have HSm := Lib.hid (fun (w2 : World) (a2 : Option Addr) (c2 : Nat) (gs2 : List Gr) (hb : Below w.heap.size w w2) (hm2 : gs2.map Gr.p = gs.map Gr.p) (hG2 : Grs w2 a2 c2 gs2) => (show Calls Tryd.prog 17 #[.slice a gs.length c, .slice a2 gs2.length c2] w2 fun e w' => e = .returned (.bool true) ∧ Below w2.heap.size w2 w' from by
          have h := same_any a a2 c c2 gs gs2 w2 (HG.out.below hb (Nat.le_refl _)) hG2
          have e : sameB gs gs2 = true := by unfold sameB; rw [hm2]; exact decide_eq_true rfl
          rw [e] at h
          exact h))
        generalize str (writeB (gs.map Gr.p)) = T0 at HWr HPa
        clear hfi
        go_enter Tryd.func4, Tryd.ntmps4
        go_upto_region 4 with (first | (go_at_call 5; refine HFew.out.mono ?_; rintro e w1 ⟨rfl, hb1⟩; have HB1 := Lib.hid hb1; clear hb1) | (go_at_call 14; refine (HFine.out _ HB1.out).mono ?_; rintro e w2 ⟨rfl, hb2⟩; have HB2 := Lib.hid (bnext HB1.out hb2); clear hb2))
        go_upto_region 5 with (first | (go_at_call 15; refine (HWr.out _ HB2.out).mono ?_; rintro e w3 ⟨rfl, hb3⟩; have HB3 := Lib.hid (bnext HB2.out hb3); clear hb3) | (go_at_call 11; refine (HPa.out _ HB3.out).mono ?_; rintro e w4 ⟨⟨a2, c2, gs2, hm2, rfl, hG2, hO2⟩, hb4⟩; have HB4 := Lib.hid (bnext HB3.out hb4); have HM4 := Lib.hid hm2; have HG4 := Lib.hid hG2; clear hb4 hm2 hG2 hO2))
        go_upto_region 7 with (go_at_call 17; refine (HSm.out _ _ _ _ HB4.out HM4.out HG4.out).mono ?_; rintro e w5 ⟨rfl, hb5⟩; have HB := Lib.hid (bnext HB4.out hb5); clear hb5)
        go_wp2_with (first | (go_at_call 11; refine (HPn.out _ HB.out).mono ?_; rintro e w8 ⟨rfl, hb8⟩; have HB8 := Lib.hid (bnext HB.out hb8); clear hb8) | (go_at_call 6; refine (HAw.out _ HB8.out).mono ?_; rintro e w9 ⟨rfl, hb9⟩; have HB9 := Lib.hid (bnext HB8.out hb9); clear hb9))
        go_ret
        exact ⟨rfl, HB9.out⟩
    | some out =>
      obtain ⟨hwo, hto⟩ := parseP_ok (by omega) hp
      have HPy := Lib.hid (fun (w2 : World) (hb : Below w.heap.size w w2) => parse_some hp w2 (by omega) (HM.out.keep hb))
      have HWo := Lib.hid (fun (w2 : World) (a2 : Option Addr) (c2 : Nat) (gs2 : List Gr) (hm2 : gs2.map Gr.p = out) (hG2 : Grs w2 a2 c2 gs2) (hO2 : GOk gs2) => (show Calls Tryd.prog 15 #[.slice a2 gs2.length c2] w2 fun e w' => e = .returned (.string s) ∧ Below w2.heap.size w2 w' from by
        have h := write_any a2 c2 gs2 w2 hG2 hO2 (by rw [hm2]; exact hto)
        rw [hm2, hwo, str_of] at h
        exact h))
      clear hG hN hm hf hp hsl hwo hto
      cases hfi : fineB (gs.map Gr.p) with
      | false =>
        rw [hfi] at HFine
        clear hfi
        go_enter Tryd.func4, Tryd.ntmps4
        go_upto_region 7 with (first | (go_at_call 5; refine HFew.out.mono ?_; rintro e w1 ⟨rfl, hb1⟩; have HB1 := Lib.hid hb1; clear hb1) | (go_at_call 14; refine (HFine.out _ HB1.out).mono ?_; rintro e w2 ⟨rfl, hb2⟩; have HB := Lib.hid (bnext HB1.out hb2); clear hb2))
        go_upto_region 8 with (go_at_call 11; refine (HPy.out _ HB.out).mono ?_; rintro e w8 ⟨⟨a2, c2, gs2, hm2, rfl, hG2, hO2⟩, hb8⟩; have HB8 := Lib.hid (bnext HB.out hb8); have HM2 := Lib.hid hm2; have HG2 := Lib.hid hG2; have HO2 := Lib.hid hO2; clear hb8 hm2 hG2 hO2)
        go_wp2_with (first | (go_at_call 15; refine (HWo.out _ _ _ _ HM2.out HG2.out HO2.out).mono ?_; rintro e w9 ⟨rfl, hb9⟩; have HB9 := Lib.hid (bnext HB8.out hb9); clear hb9) | (go_at_call 6; refine (HAw.out _ HB9.out).mono ?_; rintro e w10 ⟨rfl, hb10⟩; have HB10 := Lib.hid (bnext HB9.out hb10); clear hb10))
        go_ret
        exact ⟨rfl, HB10.out⟩
      | true =>
        rw [hfi] at HFine
        have HTx := Lib.hid (show writeB (gs.map Gr.p) = textL (gs.map Gr.p) by unfold writeB; rw [hfi]; rfl)
        have HPt := Lib.hid (parseP_text hfi HNu.out)
        have HWr := Lib.hid (fun (w2 : World) (hb : Below w.heap.size w w2) => write_any a c gs w2 (HG.out.below hb (Nat.le_refl _)) HO.out (by have := HT.out; omega))
        have HPa := Lib.hid (fun (w2 : World) (hb : Below w.heap.size w w2) => parse_some (s := str (writeB (gs.map Gr.p))) (out := gs.map Gr.p) (by rw [str_list, HTx.out]; exact HPt.out) w2 (by rw [str_size, HTx.out]; have := HT.out; omega) (HM.out.keep hb))
        have HSm := Lib.hid (fun (w2 : World) (a2 : Option Addr) (c2 : Nat) (gs2 : List Gr) (hb : Below w.heap.size w w2) (hm2 : gs2.map Gr.p = gs.map Gr.p) (hG2 : Grs w2 a2 c2 gs2) => (show Calls Tryd.prog 17 #[.slice a gs.length c, .slice a2 gs2.length c2] w2 fun e w' => e = .returned (.bool true) ∧ Below w2.heap.size w2 w' from by
          have h := same_any a a2 c c2 gs gs2 w2 (HG.out.below hb (Nat.le_refl _)) hG2
          have e : sameB gs gs2 = true := by unfold sameB; rw [hm2]; exact decide_eq_true rfl
          rw [e] at h
          exact h))
        generalize str (writeB (gs.map Gr.p)) = T0 at HWr HPa
        clear hfi
        go_enter Tryd.func4, Tryd.ntmps4
        go_upto_region 4 with (first | (go_at_call 5; refine HFew.out.mono ?_; rintro e w1 ⟨rfl, hb1⟩; have HB1 := Lib.hid hb1; clear hb1) | (go_at_call 14; refine (HFine.out _ HB1.out).mono ?_; rintro e w2 ⟨rfl, hb2⟩; have HB2 := Lib.hid (bnext HB1.out hb2); clear hb2))
        go_upto_region 5 with (first | (go_at_call 15; refine (HWr.out _ HB2.out).mono ?_; rintro e w3 ⟨rfl, hb3⟩; have HB3 := Lib.hid (bnext HB2.out hb3); clear hb3) | (go_at_call 11; refine (HPa.out _ HB3.out).mono ?_; rintro e w4 ⟨⟨a2, c2, gs2, hm2, rfl, hG2, hO2⟩, hb4⟩; have HB4 := Lib.hid (bnext HB3.out hb4); have HM4 := Lib.hid hm2; have HG4 := Lib.hid hG2; clear hb4 hm2 hG2 hO2))
        go_upto_region 7 with (go_at_call 17; refine (HSm.out _ _ _ _ HB4.out HM4.out HG4.out).mono ?_; rintro e w5 ⟨rfl, hb5⟩; have HB := Lib.hid (bnext HB4.out hb5); clear hb5)
        go_upto_region 8 with (go_at_call 11; refine (HPy.out _ HB.out).mono ?_; rintro e w8 ⟨⟨a2, c2, gs2, hm2, rfl, hG2, hO2⟩, hb8⟩; have HB8 := Lib.hid (bnext HB.out hb8); have HM2 := Lib.hid hm2; have HG2 := Lib.hid hG2; have HO2 := Lib.hid hO2; clear hb8 hm2 hG2 hO2)
        go_wp2_with (first | (go_at_call 15; refine (HWo.out _ _ _ _ HM2.out HG2.out HO2.out).mono ?_; rintro e w9 ⟨rfl, hb9⟩; have HB9 := Lib.hid (bnext HB8.out hb9); clear hb9) | (go_at_call 6; refine (HAw.out _ HB9.out).mono ?_; rintro e w10 ⟨rfl, hb10⟩; have HB10 := Lib.hid (bnext HB9.out hb10); clear hb10))
        go_ret
        exact ⟨rfl, HB10.out⟩
  · have hnot : fewB gs = false ∨ 600 < s.size := by
      cases h : fewB gs with
      | false => exact .inl rfl
      | true => exact .inr (Decidable.byContradiction fun h2 => hfew ⟨h, by omega⟩)
    clear hfew hG hN hm
    cases hf : fewB gs with
    | false =>
      rw [hf] at HFew
      clear hf hnot
      go_enter Tryd.func4, Tryd.ntmps4
      go_wp2_with (first | (go_at_call 5; refine HFew.out.mono ?_; rintro e w1 ⟨rfl, hb1⟩; have HB1 := Lib.hid hb1; clear hb1) | (go_at_call 6; refine (HAw.out _ HB1.out).mono ?_; rintro e w2 ⟨rfl, hb2⟩; have HB2 := Lib.hid (bnext HB1.out hb2); clear hb2))
      go_ret
      exact ⟨rfl, HB2.out⟩
    | true =>
      have h6 : (600 : Int) < s.size := by rw [hf] at hnot; rcases hnot with h | h; exact absurd h (by simp); omega
      rw [hf] at HFew
      clear hf hnot
      go_enter Tryd.func4, Tryd.ntmps4
      go_wp2_with (first | (go_at_call 5; refine HFew.out.mono ?_; rintro e w1 ⟨rfl, hb1⟩; have HB1 := Lib.hid hb1; clear hb1) | (go_at_call 6; refine (HAw.out _ HB1.out).mono ?_; rintro e w2 ⟨rfl, hb2⟩; have HB2 := Lib.hid (bnext HB1.out hb2); clear hb2))
      go_ret
      exact ⟨rfl, HB2.out⟩
end Go.Proofs.YtcjllikngfndhaaDoor

/- ragpickerlaw39.DiaryTells answers true. -/
namespace Go.Proofs.YtcjllikngfndhaaDoor

open Go.RowKit

theorem rparse_some {s : ByteArray} {out : List (List Nt × UInt8)} (h : parseP s.data.toList = some out) (w : World) (hs : s.size ≤ 100000) :
    Calls Tryd.prog 12 #[.string s] w fun e w' => (∃ a c gs, gs.map Gr.p = out ∧ e = .returned (.tuple #[.slice a gs.length c, .int .i64 0]) ∧ Grs w' a c gs ∧ GOk gs) ∧ Below w.heap.size w w' :=
  (rparse_any s w hs).mono fun e w' ⟨hr, hb⟩ => ⟨by
    rw [← parse_same s.data.toList (by rw [show s.data.toList.length = s.size from Array.length_toList]; exact hs)] at hr
    rcases hr with ⟨h2, -⟩ | ⟨a, c, gs, h2, h3⟩
    · rw [h] at h2; exact absurd h2 (by simp)
    · rw [h] at h2; injection h2 with h2; exact ⟨a, c, gs, h2.symm, h3⟩, hb⟩
theorem rparse_none {s : ByteArray} (h : parseP s.data.toList = none) (w : World) (hs : s.size ≤ 100000) :
    Calls Tryd.prog 12 #[.string s] w fun e w' => e = .returned (.tuple #[.slice none 0 0, .int .i64 2]) ∧ Below w.heap.size w w' :=
  (rparse_any s w hs).mono fun e w' ⟨hr, hb⟩ => ⟨by
    rw [← parse_same s.data.toList (by rw [show s.data.toList.length = s.size from Array.length_toList]; exact hs)] at hr
    rcases hr with ⟨-, h2⟩ | ⟨a, c, gs, h2, h3⟩
    · exact h2
    · rw [h] at h2; exact absurd h2 (by simp), hb⟩

set_option maxRecDepth 100000 in
set_option maxHeartbeats 4000000 in
theorem tellsD_any (a : Option Addr) (c : Nat) (gs : List Gr) (s : ByteArray) (w : World) (hG : Grs w a c gs) (hN : GNum gs) (hs : s.size ≤ 9223372036854775807) (hm : MaxL w) :
    Calls Tryd.prog 3 #[.slice a gs.length c, .string s] w fun e w' => e = .returned (.bool true) ∧ Below w.heap.size w w' := by
  have HG := Lib.hid hG
  have HM := Lib.hid hm
  have HAw := Lib.hid (fun (w2 : World) (hb : Below w.heap.size w w2) => awakeD_any w2 (HM.out.keep hb))
  have HFew := Lib.hid (few_any a c gs w hG)
  by_cases hfew : fewB gs = true ∧ s.size ≤ 600
  · obtain ⟨hf, hs6⟩ := hfew
    have HO := Lib.hid (few_ok hf hN)
    have HT := Lib.hid (few_text hf hN)
    have hs6i : (s.size : Int) ≤ 600 := by omega
    have hlen : gs.length ≤ 9223372036854775807 := Nat.le_trans hG.sl.2.1 hG.sl.2.2.1
    rw [hf] at HFew
    have HFi := Lib.hid (fun (w2 : World) (hb : Below w.heap.size w w2) => fine_any a c gs w2 (HG.out.below hb (Nat.le_refl _)) HO.out)
    have HRf := Lib.hid (fun (w2 : World) (hb : Below w.heap.size w w2) => rfine_any a c gs w2 (HG.out.below hb (Nat.le_refl _)) HO.out)
    have HWr := Lib.hid (fun (w2 : World) (hb : Below w.heap.size w w2) => write_any a c gs w2 (HG.out.below hb (Nat.le_refl _)) HO.out (by have := HT.out; omega))
    have HRw := Lib.hid (fun (w2 : World) (hb : Below w.heap.size w w2) => rwrite_any a c gs w2 (HG.out.below hb (Nat.le_refl _)) HO.out (by have := HT.out; omega))
    clear hG hN hm hf
    go_enter Tryd.func3, Tryd.ntmps3
    go_wp2_with (go_at_call 5; refine HFew.out.mono ?_; rintro e w1 ⟨rfl, hb1⟩; have HB1 := Lib.hid hb1; clear hb1)
    go_loopw [5] (fun t5 wr => ∃ k : Nat, k ≤ gs.length ∧ t5 = .int .i64 k ∧ Below w.heap.size w wr) (fun t5 _ => gs.length - (intOf t5).toNat)
    case atStart => exact ⟨0, Nat.zero_le _, rfl, HB1.out⟩
    case round =>
      obtain ⟨k, hk, rfl, hW⟩ := hrel
      have HW := Lib.hid hW
      have hwz := hW.size
      by_cases hlt : k < gs.length
      · have hG2 := HG.out.below hW (Nat.le_refl _)
        obtain ⟨gb, off, rfl⟩ := hG2.addr (by omega)
        obtain ⟨c0, -, cl⟩ := hG2.cells k hlt
        have hA0 := HG.out.at' gs[k] (List.getElem_mem _)
        have hOk := Lib.hid (HO.out gs[k] (List.getElem_mem _))
        generalize hgk : gs[k] = g at c0 hA0 hOk
        have HGk := Lib.hid hgk
        clear hgk
        have hn : g.notes.length ≤ 9223372036854775807 := Nat.le_trans hA0.2.1 hA0.2.2.1
        have HA := Lib.hid hA0
        clear hG2 hA0 hW
        go_wp2_with fail
        go_loopw [6] (fun t6 w3 => ∃ j : Nat, j ≤ g.notes.length ∧ t6 = .int .i64 j ∧ Below w.heap.size w w3) (fun t6 _ => g.notes.length - (intOf t6).toNat)
        case atStart => exact ⟨0, Nat.zero_le _, rfl, HW.out⟩
        case round =>
          obtain ⟨j, hj, rfl, hW3⟩ := hrel
          have HW3 := Lib.hid hW3
          have hG3 := HG.out.below hW3 (Nat.le_refl _)
          obtain ⟨c03, -, cl3⟩ := hG3.cells k hlt
          rw [HGk.out] at c03
          clear hG3 c0 cl
          by_cases hjl : j < g.notes.length
          · have hA3 := HA.out.below hW3 (Nat.le_refl _)
            obtain ⟨nb, no, hna⟩ := hA3.addr (by omega)
            obtain ⟨d0, d1, d2, d3, d4, dl⟩ := hA3.cells hna j hjl
            rw [hna] at c03
            have HX := Lib.hid (hOk.out g.notes[j] (List.getElem_mem _))
            generalize g.notes[j] = x at d0 d1 d2 d3 d4 HX
            clear hA3 hW3 hna
            go_upto_region 10 with (fail)
            have HW4 := Lib.hid (balloc HW3.out (.cells #[.int .u8 x.kind.toNat, .int .i64 x.no, .string x.src, .string x.dst, .string x.tmp] 29))
            have hB7 := Blk.new wr #[.int .u8 x.kind.toNat, .int .i64 x.no, .string x.src, .string x.dst, .string x.tmp] 29
            obtain ⟨r0, r1, r2, r3, r4⟩ := hB7.five
            have rl := hB7.lt
            clear d0 d1 d2 d3 d4 hB7 c03
            show Code.wp Tryd.prog _ _ _ (wr.alloc (.cells #[.int .u8 x.kind.toNat, .int .i64 x.no, .string x.src, .string x.dst, .string x.tmp] 29))
            generalize wr.alloc (.cells #[.int .u8 x.kind.toNat, .int .i64 x.no, .string x.src, .string x.dst, .string x.tmp] 29) = W at HW4 r0 r1 r2 r3 r4 rl ⊢
            generalize wr.heap.size = B7 at r0 r1 r2 r3 r4 rl ⊢
            have hgd : (mayB x != mayB x) = false := by simp
            have HXv := Lib.hid (show Nt.v x = .agg #[.int .u8 x.kind.toNat, .int .i64 x.no, .string x.src, .string x.dst, .string x.tmp] from rfl)
            go_region_held3 (fun w' => (∀ b o, b < W.heap.size → w'.cell? ⟨b, o, none⟩ = W.cell? ⟨b, o, none⟩) ∧ Below W.heap.size W w') (first | with_reducible assumption | with_reducible exact keepS_here _ | with_reducible exact keepS_here2 _ | with_reducible exact keepS_call (by assumption) (by assumption) | with_reducible exact keepS_alloc (by assumption) _ | with_reducible exact keepS_allocD (by assumption) _ | with_reducible exact keepS_realloc (by assumption) (by assumption) | with_reducible exact keepS_set4 (by assumption) (by assumption)) (first | (go_at_call 7; refine (may_any x _ HX.out).mono ?_; rintro e w4 ⟨rfl, hb4⟩) | (go_at_call 8; refine (rmay_any x _ HX.out).mono ?_; rintro e w4 ⟨rfl, hb4⟩) | (go_at_call 9; refine (dpath_any x.dst _ HX.out.dst).mono ?_; rintro e w4 ⟨rfl, rfl⟩) | (go_at_call 10; refine (rdpath_any x.dst _ HX.out.dst).mono ?_; rintro e w4 ⟨rfl, hb4⟩))
            have hbw : Below W.heap.size W w4 := And.right (by assumption)
            have HBw := Lib.hid (bnext HW4.out hbw)
            have hpd : (pathB x.dst != pathB x.dst) = false := by simp
            go_wp2_with fail
            go_roundw
            case measure => simp [intOf]; omega
            case rel => exact ⟨j + 1, by omega, by go_num, HBw.out⟩
          · go_wp2_with fail
            go_roundw
            case measure => simp [intOf]; omega
            case rel => exact ⟨k + 1, by omega, by go_num, HW3.out⟩
      · obtain rfl : k = gs.length := by omega
        clear hlt hwz
        have hsl : s.data.toList.length = s.size := Array.length_toList
        have hfe : (fineB (gs.map Gr.p) == fineB (gs.map Gr.p)) = true := by simp
        have hwe := str_beq (rfl : str (writeB (gs.map Gr.p)) = str (writeB (gs.map Gr.p)))
        generalize str (writeB (gs.map Gr.p)) = T0 at HWr HRw hwe
        generalize fineB (gs.map Gr.p) = F0 at HFi HRf hfe
        cases hp : parseP s.data.toList with
        | none =>
          have HPn := Lib.hid (fun (w2 : World) (hb : Below w.heap.size w w2) => parse_none hp w2 (by omega) (HM.out.keep hb))
          have HRn := Lib.hid (fun (w2 : World) => rparse_none hp w2 (by omega))
          have HSm := Lib.hid (fun (w2 : World) (_ : Below w.heap.size w w2) => (show Calls Tryd.prog 17 #[.slice none 0 0, .slice none 0 0] w2 fun e w' => e = .returned (.bool true) ∧ Below w2.heap.size w2 w' from by
            have hz : Grs w2 none 0 [] := ⟨⟨rfl, Nat.le_refl _, by omega, .inl rfl⟩, fun g hg => by simp at hg⟩
            exact same_any none none 0 0 [] [] w2 hz hz))
          clear hp hsl hW
          go_upto_region 14 with (first | (go_at_call 11; refine (HPn.out _ HW.out).mono ?_; rintro e w4 ⟨rfl, hb4⟩; have HB1' := Lib.hid (bnext HW.out hb4); clear hb4) | (go_at_call 12; refine (HRn.out _).mono ?_; rintro e w5 ⟨rfl, hb5⟩; have HB2 := Lib.hid (bnext HB1'.out hb5); clear hb5))
          go_wp2_with (first | (go_at_call 13; refine (HFi.out _ HB2.out).mono ?_; rintro e w6 ⟨rfl, hb6⟩; have HB6 := Lib.hid (bnext HB2.out hb6); have HD6 := Lib.hid (hb6); clear hb6) | (go_at_call 14; refine (HRf.out _ HB6.out).mono ?_; rintro e w7 ⟨rfl, hb7⟩; have HB7 := Lib.hid (bnext HB6.out hb7); have HD7 := Lib.hid (bnext HD6.out hb7); clear hb7) | (go_at_call 15; refine (HWr.out _ HB7.out).mono ?_; rintro e w8 ⟨rfl, hb8⟩; have HB8 := Lib.hid (bnext HB7.out hb8); have HD8 := Lib.hid (bnext HD7.out hb8); clear hb8) | (go_at_call 16; refine (HRw.out _ HB8.out).mono ?_; rintro e w9 ⟨rfl, hb9⟩; have HB9 := Lib.hid (bnext HB8.out hb9); have HD9 := Lib.hid (bnext HD8.out hb9); clear hb9) | (go_at_call 17; refine (HSm.out _ HB9.out).mono ?_; rintro e w10 ⟨rfl, hb10⟩; have HB10 := Lib.hid (bnext HB9.out hb10); clear hb10) | (go_at_call 6; refine (HAw.out _ HB10.out).mono ?_; rintro e w11 ⟨rfl, hb11⟩; have HB11 := Lib.hid (bnext HB10.out hb11); clear hb11))
          go_ret
          exact ⟨rfl, HB11.out⟩
        | some out =>
          have HPy := Lib.hid (fun (w2 : World) (hb : Below w.heap.size w w2) => parse_some hp w2 (by omega) (HM.out.keep hb))
          have HRy := Lib.hid (fun (w2 : World) => rparse_some hp w2 (by omega))
          have HSm := Lib.hid (fun (w2 : World) (a1 a2 : Option Addr) (c1 c2 : Nat) (g1 g2 : List Gr) (_ : Below w.heap.size w w2) (h1 : g1.map Gr.p = out) (h2 : g2.map Gr.p = out) (k1 : Grs w2 a1 c1 g1) (k2 : Grs w2 a2 c2 g2) => (show Calls Tryd.prog 17 #[.slice a1 g1.length c1, .slice a2 g2.length c2] w2 fun e w' => e = .returned (.bool true) ∧ Below w2.heap.size w2 w' from by
            have h := same_any a1 a2 c1 c2 g1 g2 w2 k1 k2
            have e : sameB g1 g2 = true := by unfold sameB; rw [h1, h2]; exact decide_eq_true rfl
            rw [e] at h
            exact h))
          clear hp hsl hW
          go_upto_region 13 with (go_at_call 11; refine (HPy.out _ HW.out).mono ?_; rintro e w4 ⟨⟨a1, c1, g1, hm1, rfl, hG1, -⟩, hb4⟩; have HB1' := Lib.hid (bnext HW.out hb4); have HM1 := Lib.hid hm1; have HG1 := Lib.hid hG1; clear hb4 hm1 hG1)
          go_upto_region 14 with (go_at_call 12; refine (HRy.out _).mono ?_; rintro e w5 ⟨⟨a2, c2, g2, hm2, rfl, hG2, -⟩, hb5⟩; have HB2 := Lib.hid (bnext HB1'.out hb5); have HM2 := Lib.hid hm2; have HG2 := Lib.hid hG2; have HG1' := Lib.hid (HG1.out.below hb5 (Nat.le_refl _)); clear hb5 hm2 hG2)
          go_wp2_with (first | (go_at_call 13; refine (HFi.out _ HB2.out).mono ?_; rintro e w6 ⟨rfl, hb6⟩; have HB6 := Lib.hid (bnext HB2.out hb6); have HD6 := Lib.hid (hb6); clear hb6) | (go_at_call 14; refine (HRf.out _ HB6.out).mono ?_; rintro e w7 ⟨rfl, hb7⟩; have HB7 := Lib.hid (bnext HB6.out hb7); have HD7 := Lib.hid (bnext HD6.out hb7); clear hb7) | (go_at_call 15; refine (HWr.out _ HB7.out).mono ?_; rintro e w8 ⟨rfl, hb8⟩; have HB8 := Lib.hid (bnext HB7.out hb8); have HD8 := Lib.hid (bnext HD7.out hb8); clear hb8) | (go_at_call 16; refine (HRw.out _ HB8.out).mono ?_; rintro e w9 ⟨rfl, hb9⟩; have HB9 := Lib.hid (bnext HB8.out hb9); have HD9 := Lib.hid (bnext HD8.out hb9); clear hb9) | (go_at_call 17; refine (HSm.out _ _ _ _ _ _ _ HB9.out HM1.out HM2.out (HG1'.out.below HD9.out (Nat.le_refl _)) (HG2.out.below HD9.out (Nat.le_refl _))).mono ?_; rintro e w10 ⟨rfl, hb10⟩; have HB10 := Lib.hid (bnext HB9.out hb10); clear hb10) | (go_at_call 6; refine (HAw.out _ HB10.out).mono ?_; rintro e w11 ⟨rfl, hb11⟩; have HB11 := Lib.hid (bnext HB10.out hb11); clear hb11))
          go_ret
          exact ⟨rfl, HB11.out⟩
  · have hnot : fewB gs = false ∨ 600 < s.size := by
      cases h : fewB gs with
      | false => exact .inl rfl
      | true => exact .inr (Decidable.byContradiction fun h2 => hfew ⟨h, by omega⟩)
    clear hfew hG hN hm
    cases hf : fewB gs with
    | false =>
      rw [hf] at HFew
      clear hf hnot
      go_enter Tryd.func3, Tryd.ntmps3
      go_wp2_with (first | (go_at_call 5; refine HFew.out.mono ?_; rintro e w1 ⟨rfl, hb1⟩; have HB1 := Lib.hid hb1; clear hb1) | (go_at_call 6; refine (HAw.out _ HB1.out).mono ?_; rintro e w2 ⟨rfl, hb2⟩; have HB2 := Lib.hid (bnext HB1.out hb2); clear hb2))
      go_ret
      exact ⟨rfl, HB2.out⟩
    | true =>
      have h6 : (600 : Int) < s.size := by rw [hf] at hnot; rcases hnot with h | h; exact absurd h (by simp); omega
      rw [hf] at HFew
      clear hf hnot
      go_enter Tryd.func3, Tryd.ntmps3
      go_wp2_with (first | (go_at_call 5; refine HFew.out.mono ?_; rintro e w1 ⟨rfl, hb1⟩; have HB1 := Lib.hid hb1; clear hb1) | (go_at_call 6; refine (HAw.out _ HB1.out).mono ?_; rintro e w2 ⟨rfl, hb2⟩; have HB2 := Lib.hid (bnext HB1.out hb2); clear hb2))
      go_ret
      exact ⟨rfl, HB2.out⟩
end Go.Proofs.YtcjllikngfndhaaDoor

/- How a note, and a group of notes, read. -/
namespace Go.Proofs.YtcjllikngfndhaaDoor

open Go.RowKit Go.ChangeShapes Go.WideShapes Go.ChangeAt

theorem SliceAt.imp {α : Type} {w : World} {sz n c : Nat} {R R' : List Value → α → Prop} {a : Option Addr} {xs : List α} (h : SliceAt w sz R a n c xs) (hR : ∀ cs x, R cs x → R' cs x) : SliceAt w sz R' a n c xs := by
  obtain ⟨h1, h2, h3, h4⟩ := h
  refine ⟨h1, h2, h3, h4.imp id fun ⟨b, off, he, hlt, hel⟩ => ⟨b, off, he, hlt, fun i hi => ?_⟩⟩
  obtain ⟨cs, k1, k2, k3⟩ := hel i hi
  exact ⟨cs, k1, hR _ _ k2, k3⟩
theorem SliceAt.all {α : Type} {w : World} {sz n c : Nat} {R : List Value → α → Prop} {a : Option Addr} {xs : List α} {Q : α → Prop} (h : SliceAt w sz R a n c xs) (hR : ∀ cs x, R cs x → Q x) : ∀ x ∈ xs, Q x := by
  obtain ⟨h1, -, -, h4⟩ := h
  intro x hx
  rcases h4 with h4 | ⟨b, off, -, -, hel⟩
  · have : xs = [] := List.eq_nil_of_length_eq_zero (by omega)
    rw [this] at hx; cases hx
  · obtain ⟨i, hi, rfl⟩ := List.mem_iff_getElem.1 hx
    obtain ⟨cs, -, k2, -⟩ := hel i hi
    exact hR _ _ k2
section

variable {H : Type} {enc : TypeId × Value → H} {w : World} {base : Nat} {spare : Nat → Bool} {held : Bool}

theorem trod_fields {P : Program} {t : TypeId} {fs : Array Field} {fuel : Nat} {cs : List Value} {x : DataW H × List MemPlace} (ht : P.underlying t = some (.struct fs)) (h : DataW.trod enc P w base spare held fuel t cs = some x) :
    cs.length = P.cellsOf t ∧ ∃ n, ∀ (i : Nat) (ty : TypeId) (off k : Nat) (l : List Value), (fs[i]?.map fun f => (f.type, f.offset)) = some (ty, off) → P.cellsOf ty = k → (cs.drop off).take k = l → ∃ y, DataW.trod enc P w base spare held n ty l = some y := by
  obtain ⟨xs, n, -, -, h1, h2, h3⟩ := DataW.trod_struct ht h
  refine ⟨h1, n, fun i ty off k l hf hk hl => ?_⟩
  obtain ⟨f, hf1, e⟩ := Option.map_eq_some_iff.1 hf
  clear hf
  injection e with e1 e2
  subst e1 e2 hk hl
  have hi : i < xs.length := by
    rw [h2]
    exact (Array.getElem?_eq_some_iff.1 hf1).1
  exact ⟨xs[i], by rw [h3 i f hf1, List.getElem?_eq_getElem hi]⟩

theorem u8_of {n : Int} (h0 : 0 ≤ n) (h1 : n ≤ 255) : n = ((UInt8.ofNat n.toNat).toNat : Int) := by
  simp [UInt8.toNat_ofNat']
  omega
set_option maxRecDepth 100000 in
theorem trod_note {fuel : Nat} {cs : List Value} {x : DataW H × List MemPlace} (h : DataW.trod enc Tryd.prog w base spare held fuel 29 cs = some x) : ∃ y : Nt, cs = y.cs ∧ (-9223372036854775808 ≤ y.no ∧ y.no ≤ 9223372036854775807) := by
  obtain ⟨h1, n, h2⟩ := trod_fields Tryd.underlying29 h
  have hc : Tryd.prog.cellsOf 29 = 5 := by kernel_rfl
  have c0 : Tryd.prog.cellsOf 5 = 1 := by kernel_rfl
  have c1 : Tryd.prog.cellsOf 3 = 1 := by kernel_rfl
  have c2 : Tryd.prog.cellsOf 9 = 1 := by kernel_rfl
  rw [hc] at h1
  match cs, h1 with
  | [a0, a1, a2, a3, a4], _ =>
    obtain ⟨y0, k0⟩ := h2 0 5 0 1 [a0] rfl c0 rfl
    obtain ⟨y1, k1⟩ := h2 1 3 1 1 [a1] rfl c1 rfl
    obtain ⟨y2, k2⟩ := h2 2 9 2 1 [a2] rfl c2 rfl
    obtain ⟨y3, k3⟩ := h2 3 9 3 1 [a3] rfl c2 rfl
    obtain ⟨y4, k4⟩ := h2 4 9 4 1 [a4] rfl c2 rfl
    obtain ⟨n0, e0, m0, m1⟩ := trod_u8 Tryd.underlying5 k0
    obtain ⟨n1, e1, r1⟩ := trod_i64 Tryd.underlying3 k1
    obtain ⟨s2, e2, -⟩ := trod_str Tryd.underlying9 k2
    obtain ⟨s3, e3, -⟩ := trod_str Tryd.underlying9 k3
    obtain ⟨s4, e4, -⟩ := trod_str Tryd.underlying9 k4
    simp at e0 e1 e2 e3 e4
    subst e0 e1 e2 e3 e4
    refine ⟨⟨UInt8.ofNat n0.toNat, n1, s2, s3, s4⟩, ?_, r1⟩
    unfold Nt.cs
    simp only
    rw [← u8_of m0 m1]
set_option maxRecDepth 100000 in
theorem trod_group {fuel : Nat} {cs : List Value} {x : DataW H × List MemPlace} (h : DataW.trod enc Tryd.prog w base spare held fuel 27 cs = some x) : ∃ g : Gr, grR cs g ∧ g.At w ∧ ∀ y ∈ g.notes, -9223372036854775808 ≤ y.no ∧ y.no ≤ 9223372036854775807 := by
  obtain ⟨h1, n, h2⟩ := trod_fields Tryd.underlying27 h
  have hc : Tryd.prog.cellsOf 27 = 2 := by kernel_rfl
  have c0 : Tryd.prog.cellsOf 25 = 1 := by kernel_rfl
  have c1 : Tryd.prog.cellsOf 5 = 1 := by kernel_rfl
  rw [hc] at h1
  match cs, h1 with
  | [a0, a1], _ =>
    obtain ⟨y0, k0⟩ := h2 0 25 0 1 [a0] rfl c0 rfl
    obtain ⟨y1, k1⟩ := h2 1 5 1 1 [a1] rfl c1 rfl
    obtain ⟨a, len, cap, xs, e0, hS⟩ := open_sl (sz := 5) (R := fun cs (y : Nt) => cs = y.cs ∧ (-9223372036854775808 ≤ y.no ∧ y.no ≤ 9223372036854775807)) Tryd.underlying25 (by kernel_rfl) (by decide) (fun fuel cs x h => trod_note h) k0
    obtain ⟨n1, e1, m0, m1⟩ := trod_u8 Tryd.underlying5 k1
    simp at e0 e1
    subst e0 e1
    have hl := hS.1
    subst hl
    refine ⟨⟨a, cap, xs, UInt8.ofNat n1.toNat⟩, ?_, hS.imp (fun _ _ h => h.1), hS.all (fun _ _ h => h.2)⟩
    show [Value.slice a xs.length cap, Value.int .u8 n1] = [.slice a xs.length cap, .int .u8 ((UInt8.ofNat n1.toNat).toNat : Int)]
    rw [← u8_of m0 m1]
end

end Go.Proofs.YtcjllikngfndhaaDoor

/- The statement DiaryTells, as a tied card: for every input the law answers true, and each argument reads behind the call as before. -/
namespace Go.Proofs.YtcjllikngfndhaaDoor.diaryTells

open Go.ChangeShapes Go.WideShapes Go.ChangeAt Go.RowKit

set_option linter.unusedVariables false

theorem own : ownKnob Tryd.prog.godebug = none := by kernel_rfl
theorem laidOut : laidOutB Tryd.prog = true := by kernel_rfl

set_option maxRecDepth 100000 in
theorem contract (H : Type) (enc : TypeId × Value → H) (W : World) (base : Nat) (args : Array Value) (ds gs : List (DataW H)) (before : List MemPlace)
    (hval0 : ∀ (j : Nat) t v, Tryd.f3.params[j]? = some t → args[j]? = some v → Value.okWide Tryd.prog W .any base t v)
    (hW : DataW.Whole enc Tryd.prog Tryd.f3.params.toList Rows.diaryTellsSpec.vars false W args.toList ds gs before) (hsh : W.ShapedOpen Tryd.prog) :
    Calls Tryd.prog 3 args W fun e W' => ∃ v, e = .returned v ∧ Rows.diaryTellsSpec.post enc Tryd.prog Tryd.f3 false true false false W args v W' := by
  have hval : ∀ (j : Nat) t v, Tryd.f3.params[j]? = some t → args[j]? = some v → Value.okWide Tryd.prog W .any base t v := hval0
  have hW' := hW
  obtain ⟨p, q, hA0, hV, rfl, hfz, hnd⟩ := hW
  have hA : DataW.TrodAll enc Tryd.prog W 0 (fun _ => true) true Tryd.f3.params.toList args.toList ds p := hA0
  rw [Tryd.params3] at hA hval
  have hA2 := hA
  obtain ⟨v0, vs0, d0, ds0, p0, q0, hargs, rfl, rfl, h0, r0⟩ := trodAll_cons hA
  obtain ⟨v1, vs1, d1, ds1, p1, q1, rfl, rfl, rfl, h1, r1⟩ := trodAll_cons r0
  obtain ⟨rfl, rfl, rfl⟩ := trodAll_nil r1
  obtain rfl : args = #[v0, v1] := by cases args; simp_all
  obtain ⟨rfl, rfl⟩ := trodVars_none hV
  obtain ⟨a0, len0, cap0, rfl⟩ := okWide_slice Tryd.underlying22 (hval 0 22 v0 rfl rfl)
  obtain ⟨a', len', cap', zs, e, hz⟩ : ∃ a len cap zs, [Value.slice a0 len0 cap0] = [.slice a len cap] ∧ SliceAt W 2 (fun cs (g : Gr) => grR cs g ∧ g.At W ∧ ∀ y ∈ g.notes, -9223372036854775808 ≤ y.no ∧ y.no ≤ 9223372036854775807) a len cap zs := by
    obtain ⟨fuel, hf⟩ := h0
    exact open_sl (sz := 2) Tryd.underlying22 (by kernel_rfl) (by decide) (fun fuel cs x h => trod_group h) hf
  simp only [List.cons.injEq, Value.slice.injEq, and_true] at e
  obtain ⟨rfl, rfl, rfl⟩ := e
  obtain ⟨s1, rfl, -, -, hs1⟩ := ChangeMaps.open_string Tryd.underlying9 (hval 1 9 v1 rfl rfl) h1
  have hl := hz.1
  subst hl
  clear hA0 hval0
  refine (tellsD_any a0 cap0 zs s1 W ⟨hz.imp (fun _ _ h => h.1), hz.all (fun _ _ h => h.2.1)⟩ (hz.all (fun _ _ h => h.2.2)) (by unfold maxLen at hs1; exact hs1) (MaxL.of_shaped hsh)).mono fun e W' ⟨he, bel⟩ => ?_
  subst he
  exact ⟨_, rfl, _, _, _, [], _, [], hW', trodAll_mk1 (shut_bool Tryd.underlying4 _), trodAll_below laidOut bel _ _ _ _ (by kernel_rfl) hA2, rfl, bel.frame _, fun h => by cases h⟩

theorem laid_met (os : Os) : laidMetH Tryd.prog Rows.diaryTellsRow.laid ((World.laidAll Tryd.prog os Rows.diaryTellsRow.laid).forCall (fun _ _ => 0) ⟨#[], #[.slice none 0 0, .string ByteArray.empty], []⟩).memory :=
  laidMet_laidAll _ (by kernel_rfl) (by kernel_rfl)
theorem reads (os : Os) {H : Type} (enc : TypeId × Value → H) : ∃ places, DataW.whole enc Tryd.prog ((World.laidAll Tryd.prog os Rows.diaryTellsRow.laid).forCall (fun _ _ => 0) ⟨#[], #[.slice none 0 0, .string ByteArray.empty], []⟩).memory Tryd.f3.params.toList Rows.diaryTellsSpec.vars false #[(.slice none 0 0 : Value), (.string ByteArray.empty : Value)].toList 8 = some ([.nil, .lit (.string [])], [], places) :=
  ⟨[], by kernel_rfl⟩

set_option maxRecDepth 100000 in
theorem lifted (os : Os) (started : os.Started) (H : Type) (enc : TypeId × Value → H) (F : Stop.Interp) :
    ReturnsInHanded {} Tryd.checked os 3 .any ((OpenSpec.ofChange Rows.diaryTellsSpec).preRow enc Tryd.prog Tryd.f3 Rows.diaryTellsRow.domain false Rows.diaryTellsRow.laid) (((OpenSpec.ofChange Rows.diaryTellsSpec).at F).post enc Tryd.prog Tryd.f3 false true false false) := by
  obtain ⟨places, hx⟩ := reads os enc
  refine returnsInHanded_of_row (C := Tryd.checked) (s := OpenSpec.ofChange Rows.diaryTellsSpec) own started (by kernel_rfl) Tryd.func3
    (witness_row_at (enc := enc) (C := Tryd.checked) false (World.laidAll Tryd.prog os Rows.diaryTellsRow.laid) #[.slice none 0 0, .string ByteArray.empty] rfl (by kernel_rfl) (by kernel_rfl) (by kernel_rfl)
      (OpenSpec.preRow_of_cond 8 hx (by kernel_rfl) (fun k hk => by cases hk) (by kernel_rfl) (laid_met os))) ?_
  intro W base args ds gs before hval hW _ _ _ _ hsh _
  exact contract H enc W base args ds gs before hval hW hsh

theorem said : Rows.DiaryTellsSaid :=
  OpenClaim.holds_of_cond 3 Tryd.f3 rfl rfl rfl rfl rfl rfl rfl ⟨rfl, rfl, rfl, rfl, rfl⟩ rfl rfl rfl rfl rfl (by kernel_rfl) Tryd.func3 (by kernel_rfl)
    (of_decide_eq_true (by kernel_rfl)) (by unfold Func.isWrapper; first | (rw [if_pos (by decide +kernel)]; kernel_rfl) | (rw [if_neg (by decide +kernel)]; exact ⟨rfl, rfl⟩))
    (fun os started H enc _ F => by rw [OpenClaim.pre_eq_preRow]; exact lifted os started H enc F)
theorem plain (f : FuncId) (fn : Func) (hf : Tryd.pinned.checked.prog.funcNamed "ragpicker/ragpickerlaw39.DiaryTells" = some f) (hfn : Tryd.pinned.checked.prog.funcs[f]? = some fn) :
    false = Tryd.pinned.checked.prog.looks [] ∧ ∀ (j : Nat) t, fn.params[j]? = some t → Tryd.pinned.checked.prog.wantsStandIn t = false := by
  obtain rfl : f = 3 := Option.some.inj ((show Tryd.prog.funcNamed "ragpicker/ragpickerlaw39.DiaryTells" = some 3 by kernel_rfl).symm.trans hf) |>.symm
  obtain rfl : fn = Tryd.f3 := (Option.some.inj (Tryd.func3.symm.trans hfn)).symm
  refine ⟨by kernel_rfl, fun j t ht => ?_⟩
  rw [Tryd.params3] at ht
  have hm := Array.mem_of_getElem? ht
  simp only [List.mem_toArray, List.mem_cons, List.not_mem_nil, or_false] at hm
  rcases hm with rfl | rfl
  · exact (show Tryd.prog.wantsStandIn 22 = false by kernel_rfl)
  · exact (show Tryd.prog.wantsStandIn 9 = false by kernel_rfl)
/-- the card. -/
theorem proved : Rows.DiaryTellsCardSaid :=
  Claim7.holds_tied_plain_at .later [] _ _ _ _ said (fun _ h => by cases h) (by kernel_rfl) (fun _ h => by cases h) diaryTells_row_tie rfl ⟨rfl, rfl⟩ (by kernel_rfl) rfl plain (by kernel_rfl)
#print axioms proved

end Go.Proofs.YtcjllikngfndhaaDoor.diaryTells
