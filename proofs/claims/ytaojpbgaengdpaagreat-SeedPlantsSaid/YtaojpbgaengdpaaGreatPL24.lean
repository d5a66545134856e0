/- Texts of the proof, part 24. -/
import Derived.Test.YtaojpbgaengdpaaGreatPL23
import Derived.Test.YtaojpbgaengdpaaGreatPL7
set_option linter.unusedVariables false
set_option linter.unusedSimpArgs false
/- Where directories lie (layer 14): plain functions. No walk. -/
namespace Go.Proofs.YtaojpbgaengdpaaGreat

open Go.RowKit

def Fs.withinN (S : Fs) (base : Int) : Nat → Int → Bool
  | 0, _ => false
  | n + 1, no => if no = 0 then false else if no = base then true else S.withinN base n (S.above no)
def Fs.within (S : Fs) (no base : Int) : Bool := S.withinN base (S.ns.length + 1) no
def Fs.busy (S : Fs) (no : Int) : Bool := (S.ds.drop 1).any (fun d => S.within d.over no)
def entName (l : List En) (no : Int) : Option ByteArray := (l.find? (fun x => x.no == no)).map (·.name)
def Fs.entsOf (S : Fs) (no : Int) : List En := match S.get no with | some a => a.ents | none => []
def Fs.child (S : Fs) (no : Int) : Int := match S.get no with
  | none => no
  | some a => if S.root a.dev = no ∧ 1 < a.dev then (match S.dev a.dev with | some v => v.over | none => no) else no
def Fs.whereN (S : Fs) : Nat → Int → ByteArray → Option ByteArray
  | 0, _, _ => none
  | n + 1, no, s => if no = 1 then some (if s.size = 0 then topB else s) else match entName (S.entsOf (S.above no)) (S.child no) with
    | none => none
    | some nm => S.whereN n (S.above no) (topB ++ nm ++ s)
def Fs.place_ (S : Fs) (no : Int) : Option ByteArray := S.whereN (S.ns.length + 1) no ByteArray.empty

theorem entName_cons (x : En) (l : List En) (no : Int) : entName (x :: l) no = if x.no = no then some x.name else entName l no := by
  unfold entName
  rw [List.find?_cons]
  by_cases h : x.no = no
  · rw [if_pos h, show (x.no == no) = true by simpa using h]; rfl
  · rw [if_neg h, show (x.no == no) = false by simpa using h]
theorem entName_mem {l : List En} {no : Int} {s : ByteArray} (h : entName l no = some s) : ∃ x ∈ l, x.name = s := by
  unfold entName at h
  cases hf : l.find? (fun x => x.no == no) with
  | none => rw [hf] at h; cases h
  | some x =>
    rw [hf] at h
    exact ⟨x, List.mem_of_find?_eq_some hf, by simpa using h⟩
section

variable {S : Fs} {N : Nat}

theorem get_zero (hk : FsOk S N) : S.get 0 = none := by
  cases h : S.get 0 with
  | none => rfl
  | some a =>
    have := (hk.get h).2.2.1
    omega
theorem above_zero (hk : FsOk S N) : S.above 0 = 0 := above_none (get_zero hk)
theorem ents_zero (hk : FsOk S N) : S.entsOf 0 = [] := by unfold Fs.entsOf; rw [get_zero hk]
/-- upwards. -/
theorem above_step (hk : FsOk S N) (h : Pl S) {no : Int} (hne : S.above no ≠ no) : S.above no = 0 ∨ (1 ≤ S.above no ∧ S.above no < no ∧ no ≤ S.last ∧ no ≠ 1) := by
  cases hg : S.get no with
  | none => exact .inl (above_none hg)
  | some a =>
    by_cases hd : a.kind = 1
    · by_cases h1 : no = 1
      · subst h1
        exact absurd (above_top hk h hg hd) hne
      · have := above_lt hk h hg hd h1
        exact .inr ⟨this.1, this.2, get_low hk.nums hg, h1⟩
    · exact .inl (above_leaf hg hd)
theorem above_end (hk : FsOk S N) (h : Pl S) {no : Int} (he : S.above no = no) : no = 0 ∨ no = 1 := by
  cases hg : S.get no with
  | none => rw [above_none hg] at he; exact .inl he.symm
  | some a =>
    by_cases hd : a.kind = 1
    · by_cases h1 : no = 1
      · exact .inr h1
      · have := above_lt hk h hg hd h1
        omega
    · rw [above_leaf hg hd] at he
      exact .inl he.symm
theorem above_ends (hk : FsOk S N) (h : Pl S) {no : Int} (h0 : no ≠ 0) (hz : S.above no = no) : no = 1 := (above_end hk h hz).resolve_left h0
/-- the top is there. -/
theorem pl_one (hk : FsOk S N) (h : Pl S) : 1 ≤ S.ns.length := by
  have h1 := h.top
  have h2 := hk.d1
  have h3 := h.len
  unfold Fs.root at h1
  rw [if_pos (by omega)] at h1
  rw [show ((1 : Int) - 1).toNat = 0 from rfl, List.getElem?_eq_getElem (by omega)] at h1
  have h4 := hk.root S.ds[0] (List.getElem_mem _)
  simp only at h1
  omega
theorem above_one (hk : FsOk S N) (h : Pl S) : S.above 1 = 1 := by
  obtain ⟨a, hg, hd⟩ := h.one
  exact above_top hk h hg hd
theorem within_zero (base : Int) (n : Nat) : S.withinN base n 0 = false := by cases n <;> simp [Fs.withinN]
theorem within_fix {base no : Int} (h1 : S.above no = no) (h2 : no ≠ base) (n : Nat) : S.withinN base n no = false := by
  induction n with
  | zero => rfl
  | succ n ih =>
    rw [Fs.withinN, if_neg h2, h1, ih]
    split <;> rfl
/-- how many steps are enough. -/
def Fs.need (S : Fs) (k : Nat) (no : Int) : Prop := no = 0 ∨ no < k ∧ 1 ≤ k ∨ (S.above no = 0 ∧ 2 ≤ k)
theorem need_start (hk : FsOk S N) (h : Pl S) (no : Int) : S.need (S.ns.length + 1) no := by
  have h1 := pl_one hk h
  by_cases hne : S.above no = no
  · rcases above_end hk h hne with h0 | h0
    · exact .inl h0
    · exact .inr (.inl ⟨by omega, by omega⟩)
  · rcases above_step hk h hne with h0 | ⟨-, -, h3, -⟩
    · exact .inr (.inr ⟨h0, by omega⟩)
    · have := h.len
      exact .inr (.inl ⟨by omega, by omega⟩)
theorem within_yes {no base : Int} {k : Nat} (hn : S.need k no) (h0 : no ≠ 0) (hb : no = base) : S.withinN base k no = true := by
  cases k with
  | zero => rcases hn with h | ⟨-, h⟩ | ⟨-, h⟩ <;> omega
  | succ k => unfold Fs.withinN; rw [if_neg h0, if_pos hb]
theorem within_step (hk : FsOk S N) (h : Pl S) {no base : Int} {k : Nat} (hn : S.need k no) (h0 : no ≠ 0) (hb : no ≠ base) (hu : S.above no ≠ no) : S.withinN base k no = S.withinN base (k - 1) (S.above no) ∧ S.need (k - 1) (S.above no) := by
  have h1 : 1 ≤ k := by rcases hn with h | ⟨-, h⟩ | ⟨-, h⟩ <;> omega
  obtain ⟨k, rfl⟩ : ∃ j, k = j + 1 := ⟨k - 1, by omega⟩
  refine ⟨by rw [Fs.withinN, if_neg h0, if_neg hb]; rfl, ?_⟩
  rcases above_step hk h hu with h0 | ⟨h1, h2, h3, -⟩
  · exact .inl h0
  · rcases hn with h | ⟨h, -⟩ | ⟨h, -⟩
    · exact absurd h h0
    · exact .inr (.inl ⟨by omega, by omega⟩)
    · omega
/-- what the walk up to the top gathers. -/
def catL (l : List (List UInt8)) : List UInt8 := l.reverse.flatMap (fun s => 47 :: s)
theorem catL_snoc (l : List (List UInt8)) (s : List UInt8) : catL (l ++ [s]) = 47 :: (s ++ catL l) := by simp [catL]
theorem catL_nil (l : List (List UInt8)) : catL l = [] ↔ l = [] := by
  constructor
  · intro h
    cases l with
    | nil => rfl
    | cons x l => simp [catL] at h
  · rintro rfl; rfl
theorem catL_len {l : List (List UInt8)} (h : ∀ x ∈ l, x.length ≤ 255) : (catL l).length ≤ 256 * l.length := by
  unfold catL
  rw [List.length_flatMap]
  have : ∀ m : List (List UInt8), (∀ x ∈ m, x.length ≤ 255) → (m.map (fun s => (47 :: s).length)).sum ≤ 256 * m.length := by
    intro m
    induction m with
    | nil => intro _; simp
    | cons x m ih =>
      intro hx
      have h1 := ih (fun y hy => hx y (List.mem_cons_of_mem _ hy))
      have h2 := hx x List.mem_cons_self
      simp only [List.map_cons, List.sum_cons, List.length_cons]
      simp only [List.length_cons] at h1
      omega
  have h1 := this l.reverse (fun x hx => h x (List.mem_reverse.1 hx))
  rw [List.length_reverse] at h1
  exact h1
structure WhSt (S : Fs) (no0 no : Int) (l : List (List UInt8)) : Prop where
  few : l.length ≤ S.ns.length
  small : ∀ x ∈ l, x.length ≤ 255
  eq : S.place_ no0 = S.whereN (S.ns.length + 1 - l.length) no (str (catL l))
  room : 1 ≤ no → no ≤ S.last → no.toNat + l.length ≤ S.ns.length + 1
theorem WhSt.start (h : Pl S) (no : Int) : WhSt S no no [] := ⟨Nat.zero_le _, (by intro x hx; cases hx), rfl, fun _ h2 => by
  have := h.len
  show no.toNat + 0 ≤ _
  omega⟩
theorem where_zero (hk : FsOk S N) (k : Nat) (s : ByteArray) : S.whereN k 0 s = none := by
  cases k with
  | zero => rfl
  | succ k =>
    unfold Fs.whereN
    rw [if_neg (by decide), above_zero hk, ents_zero hk]
    rfl
theorem WhSt.top (hk : FsOk S N) (h : Pl S) {no0 : Int} {l : List (List UInt8)} (hs : WhSt S no0 1 l) : S.place_ no0 = some (if l = [] then topB else str (catL l)) := by
  have h1 := pl_one hk h
  have h2 := h.len
  have h3 := hs.room (Int.le_refl _) (by omega)
  rw [hs.eq]
  obtain ⟨k, hkk⟩ : ∃ j, S.ns.length + 1 - l.length = j + 1 := ⟨S.ns.length - l.length, by omega⟩
  rw [hkk]
  unfold Fs.whereN
  rw [if_pos rfl]
  by_cases hl : l = []
  · subst hl; rfl
  · rw [if_neg hl, if_neg]
    rw [str_size]
    intro h0
    exact hl ((catL_nil l).1 (List.eq_nil_of_length_eq_zero h0))
theorem WhSt.other (hk : FsOk S N) (h : Pl S) {no0 no : Int} {l : List (List UInt8)} (hs : WhSt S no0 no l) (he : S.above no = no) (h1 : no ≠ 1) : S.place_ no0 = none := by
  obtain rfl : no = 0 := (above_end hk h he).resolve_right h1
  rw [hs.eq, where_zero hk]
theorem WhSt.fail (hk : FsOk S N) (h : Pl S) {no0 no : Int} {l : List (List UInt8)} (hs : WhSt S no0 no l) (hu : S.above no ≠ no) (hn : entName (S.entsOf (S.above no)) (S.child no) = none) : S.place_ no0 = none := by
  rw [hs.eq]
  have h1 : no ≠ 1 := by
    rintro rfl
    exact hu (above_one hk h)
  cases S.ns.length + 1 - l.length with
  | zero => rfl
  | succ k => unfold Fs.whereN; rw [if_neg h1, hn]
theorem child_eq (S : Fs) (no : Int) : S.child no = match S.get no with
  | none => no
  | some a => if S.root a.dev = no ∧ 1 < a.dev then (match S.dev a.dev with | some v => v.over | none => no) else no := rfl
/-- what a mount's root lies over. -/
theorem child_none {no : Int} (hg : S.get no = none) : S.child no = no := by rw [child_eq, hg]
theorem child_same {no : Int} {a : An} (hg : S.get no = some a) (hr : S.root a.dev ≠ no) : S.child no = no := by rw [child_eq, hg]; exact if_neg (fun h => hr h.1)
theorem child_over (hk : FsOk S N) (h : Pl S) {no : Int} {a : An} (hg : S.get no = some a) (hr : S.root a.dev = no) (h1 : no ≠ 1) : 1 < a.dev ∧ ∃ v, S.dev a.dev = some v ∧ S.child no = v.over := by
  have hd := (hk.get hg).1.dev
  have hd1 : 1 < a.dev := by
    rcases Int.lt_or_le 1 a.dev with h2 | h2
    · exact h2
    · exfalso
      have h3 : a.dev = 1 := by omega
      rw [h3, h.top] at hr
      exact h1 hr.symm
  obtain ⟨v, hv, -, -, -⟩ := root_of hk hd.1 hd.2
  refine ⟨hd1, v, hv, ?_⟩
  rw [child_eq, hg]
  show (if _ then _ else _) = _
  rw [if_pos ⟨hr, hd1⟩, hv]
theorem WhSt.more (hk : FsOk S N) (h : Pl S) {no0 no : Int} {l : List (List UInt8)} (hs : WhSt S no0 no l) (hu : S.above no ≠ no) {s : ByteArray} (hn : entName (S.entsOf (S.above no)) (S.child no) = some s) : WhSt S no0 (S.above no) (l ++ [s.data.toList]) ∧ l.length + 1 ≤ S.ns.length := by
  have hab : 1 ≤ S.above no ∧ S.above no < no ∧ no ≤ S.last ∧ no ≠ 1 := by
    rcases above_step hk h hu with h0 | h0
    · rw [h0, ents_zero hk] at hn
      cases hn
    · exact h0
  obtain ⟨h1, h2, h3, h4⟩ := hab
  have hro := hs.room (by omega) h3
  have hln : l.length + 1 ≤ S.ns.length := by omega
  have hnm : NmOk s := by
    obtain ⟨x, hx, rfl⟩ := entName_mem hn
    unfold Fs.entsOf at hx
    cases hg : S.get (S.above no) with
    | none => rw [hg] at hx; cases hx
    | some a =>
      rw [hg] at hx
      exact h.names a (an_mem hg) x hx
  refine ⟨⟨by simp; omega, fun x hx => ?_, ?_, fun _ _ => by simp; omega⟩, hln⟩
  · rcases List.mem_append.1 hx with hx | hx
    · exact hs.small x hx
    · simp at hx
      subst hx
      have := hnm.2
      have h5 : s.data.toList.length = s.size := Array.length_toList
      omega
  · rw [hs.eq, catL_snoc]
    obtain ⟨k, hkk⟩ : ∃ j, S.ns.length + 1 - l.length = j + 1 := ⟨S.ns.length - l.length, by omega⟩
    rw [hkk, show S.ns.length + 1 - (l ++ [s.data.toList]).length = k by simp; omega, Fs.whereN, if_neg h4, hn]
    show S.whereN k _ _ = S.whereN k _ _
    congr 1
end

end Go.Proofs.YtaojpbgaengdpaaGreat

/- The reference's tree (layer 14): Within, Busy. -/
namespace Go.Proofs.YtaojpbgaengdpaaGreat

open Go.RowKit

section

variable {w w' : World} {pf : Nat} {R : Rf} {S : Fs}

set_option maxRecDepth 100000 in
set_option maxHeartbeats 2000000 in
theorem rwithin_any (h : RfAt w pf R S) {N : Nat} (hk : FsOk S N) (hl : S.ns.length ≤ 100000) (no base : Int) :
    Calls Tryz.prog 117 #[.pointer (some ⟨pf, 0, none⟩), .int .i64 no, .int .i64 base] w fun e w' => e = .returned (.bool (S.within no base)) ∧ Below w.heap.size w w' := by
  obtain ⟨na, nc, hnv, hn1, hn2⟩ := h.nform
  have hlen := h.len
  have HW := Lib.hid h
  have HS := Lib.hid (show S.within no base = S.withinN base (S.ns.length + 1) no from rfl)
  have HA := Lib.hid (fun w1 (hb1 : Below w.heap.size w w1) x => rabove_any (h.keep hb1) hk x)
  have hb := h.blk
  rw [hnv] at hb
  have HB := Lib.hid hb
  rw [← hlen] at HB hn1
  generalize S.ns.length = n at HB hn1 HS hl
  generalize S.within no base = out at HS ⊢
  clear h hk hnv hlen hb
  go_enter Tryz.func117, Tryz.ntmps117
  go_wp2_with fail
  go_loopw [1, 7] (fun t1 t7 wr => ∃ (k : Nat) (x : Int), k ≤ n + 1 ∧ t1 = .int .i64 x ∧ t7 = .int .i64 k ∧ out = S.withinN base (n + 1 - k) x ∧ Below w.heap.size w wr) (fun _ t7 _ => n + 1 - (intOf t7).toNat)
  case atStart => exact ⟨0, no, Nat.zero_le _, rfl, rfl, HS.out, Below.refl _ _⟩
  case round =>
    obtain ⟨k, x, hk1, rfl, rfl, hE, hbw⟩ := hrel
    have HE := Lib.hid hE
    have HBw := Lib.hid hbw
    obtain ⟨bc, -, -⟩ := (HB.out.keep hbw).facts
    clear hE hbw
    by_cases hlt : k ≤ n
    · have hlt2 : (k : Int) ≤ (n : Int) := by omega
      have HE2 := Lib.hid (show out = if x = 0 then false else if x = base then true else S.withinN base (n + 1 - (k + 1)) (S.above x) by
        rw [HE.out, show n + 1 - k = (n + 1 - (k + 1)) + 1 by omega]; rfl)
      by_cases h0 : x = 0
      · have p0 : (x != 0) = false := by simpa using h0
        have HO := Lib.hid (HE2.out.trans (if_pos h0))
        clear h0
        go_wp2_with fail
        go_ret
        rw [HO.out]
        exact ⟨rfl, HBw.out⟩
      · have p0 : (x != 0) = true := by simpa using h0
        have HO0 := Lib.hid (HE2.out.trans (if_neg h0))
        clear h0
        by_cases h1 : x = base
        · have p1 : (x == base) = true := by simpa using h1
          have HO := Lib.hid (HO0.out.trans (if_pos h1))
          clear h1
          go_wp2_with fail
          go_ret
          rw [HO.out]
          exact ⟨rfl, HBw.out⟩
        · have p1 : (x == base) = false := by simpa using h1
          have HO := Lib.hid (HO0.out.trans (if_neg h1))
          have HAx := Lib.hid (HA.out wr HBw.out x)
          clear h1
          go_wp2_with fail
          refine HAx.out.mono ?_
          rintro e w1 ⟨rfl, hb1⟩
          have HB1 := Lib.hid (bnext HBw.out hb1)
          clear hb1
          go_wp2_with fail
          go_roundw
          case rel => exact ⟨k + 1, S.above x, by omega, rfl, by go_num, HO.out, HB1.out⟩
          case measure => simp [intOf]; omega
    · have hkn : k = n + 1 := by omega
      subst hkn
      have hgt : ¬ ((n : Int) + 1 ≤ (n : Int)) := by omega
      have HO := Lib.hid (show out = false by rw [HE.out, Nat.sub_self]; rfl)
      go_wp2_with fail
      go_ret
      rw [HO.out]
      exact ⟨rfl, HBw.out⟩
theorem busy_drop {S : Fs} {no : Int} {k : Nat} (hk : k < S.ds.length) : (S.ds.drop k).any (fun d => S.within d.over no) = (S.within S.ds[k].over no || (S.ds.drop (k + 1)).any (fun d => S.within d.over no)) := by
  rw [List.drop_eq_getElem_cons hk, List.any_cons]
set_option maxRecDepth 100000 in
set_option maxHeartbeats 2000000 in
theorem rbusy_any (h : RfAt w pf R S) {N : Nat} (hk : FsOk S N) (hl : S.ns.length ≤ 100000) (no : Int) :
    Calls Tryz.prog 79 #[.pointer (some ⟨pf, 0, none⟩), .int .i64 no] w fun e w' => e = .returned (.bool (S.busy no)) ∧ Below w.heap.size w w' := by
  obtain ⟨g, cap, hdv, hle, h63, hgl, hc, -, -⟩ := h.devF hk.d1
  have hd1 := hk.d1
  have hd8 := hk.d8
  have HS := Lib.hid (show S.busy no = (S.ds.drop 1).any (fun d => S.within d.over no) from rfl)
  have HA := Lib.hid (fun w1 (hb1 : Below w.heap.size w w1) x => rwithin_any (h.keep hb1) hk hl x no)
  have hb := h.blk
  rw [hdv] at hb
  have HB := Lib.hid hb
  have HC := Lib.hid (fun k (hk : k < S.ds.length) => (hc k hk).c1)
  have HD := Lib.hid (fun k (hk : k < S.ds.length) => busy_drop (S := S) (no := no) hk)
  obtain ⟨m, hm⟩ : ∃ m, S.ds.length = m := ⟨_, rfl⟩
  have HM := Lib.hid hm
  rw [hm] at HB hle hd1 hd8
  generalize S.busy no = out at HS ⊢
  clear h hk hdv hb hc hm
  go_enter Tryz.func79, Tryz.ntmps79
  go_wp2_with fail
  go_loopw [5] (fun t5 wr => ∃ (k : Nat), 1 ≤ k ∧ k ≤ m ∧ t5 = .int .i64 k ∧ out = (S.ds.drop k).any (fun d => S.within d.over no) ∧ Below w.heap.size w wr) (fun t5 _ => m - (intOf t5).toNat)
  case atStart => exact ⟨1, Nat.le_refl _, hd1, rfl, HS.out, Below.refl _ _⟩
  case round =>
    obtain ⟨k, hk1, hk2, rfl, hE, hbw⟩ := hrel
    have HE := Lib.hid hE
    have HBw := Lib.hid hbw
    obtain ⟨bc, -, -⟩ := (HB.out.keep hbw).facts
    clear hE
    by_cases hlt : k < m
    · have hkl : k < S.ds.length := by rw [HM.out]; exact hlt
      have cc := (hbw.cell (p := ⟨g, k * 6 + 1, none⟩) hgl).trans (HC.out k hkl)
      have HE2 := Lib.hid (HE.out.trans (HD.out k hkl))
      have HAx := Lib.hid (HA.out wr HBw.out S.ds[k].over)
      generalize S.ds[k].over = ov at cc HE2 HAx
      clear hbw hkl
      cases hwn : S.within ov no with
      | true =>
        rw [hwn] at HE2 HAx
        have HO := Lib.hid (show out = true from HE2.out)
        go_wp2_with fail
        refine HAx.out.mono ?_
        rintro e w1 ⟨rfl, hb1⟩
        have HB1 := Lib.hid (bnext HBw.out hb1)
        clear hb1
        go_wp2_with fail
        go_ret
        rw [HO.out]
        exact ⟨rfl, HB1.out⟩
      | false =>
        rw [hwn] at HE2 HAx
        have HO := Lib.hid (show out = (S.ds.drop (k + 1)).any (fun d => S.within d.over no) by rw [HE2.out]; rfl)
        go_wp2_with fail
        refine HAx.out.mono ?_
        rintro e w1 ⟨rfl, hb1⟩
        have HB1 := Lib.hid (bnext HBw.out hb1)
        clear hb1
        go_wp2_with fail
        go_roundw
        case rel => exact ⟨k + 1, by omega, by omega, by go_num, HO.out, HB1.out⟩
        case measure => simp [intOf]; omega
    · obtain rfl : k = m := by omega
      have HO := Lib.hid (show out = false by rw [HE.out, ← HM.out, List.drop_length]; rfl)
      clear hbw
      go_wp2_with fail
      go_ret
      rw [HO.out]
      exact ⟨rfl, HBw.out⟩
end

end Go.Proofs.YtaojpbgaengdpaaGreat
