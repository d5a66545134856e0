/- Texts of the proof, part 2. -/
import Derived.Test.YtihdbncoijhihaaGreatCK1
import Derived.Test.YtihdbncoijhihaaGreatProg
set_option linter.unusedVariables false
set_option linter.unusedSimpArgs false
/- The tree of nodes, plainly: entries of a directory, nodes, mounts; what the layers 11 to 14 compute. No program in sight. -/
namespace Go.Proofs.YtihdbncoijhihaaGreat

open Go.RowKit

/-- a name in a directory. -/
structure En where
  name : ByteArray
  no : Int
  deriving DecidableEq
/-- a node. -/
structure An where
  no : Int
  dev : Int
  kind : Int
  mode : Int
  uid : Int
  gid : Int
  mtime : Int
  ctime : Int
  links : Int
  up : Int
  data : ByteArray
  ents : List En
  deriving DecidableEq
def an0 : An := ⟨0, 0, 0, 0, 0, 0, 0, 0, 0, 0, ByteArray.empty, []⟩
/-- a mount. -/
structure Dv where
  root : Int
  over : Int
  b : Int
  n : Int
  mb : Int
  mn : Int
  deriving DecidableEq
structure Fs where
  ns : List An
  ds : List Dv
  last : Int
  deriving DecidableEq

/-- Go's order of texts. -/
def ltB (a b : ByteArray) : Bool := Op.bytesLess a.data.toList b.data.toList
theorem ltB_mk (a b : ByteArray) : Op.bytesLess a.toList b.toList = ltB a b := by unfold ltB; rw [ByteArray.toList_eq, ByteArray.toList_eq]
theorem less_irrefl : ∀ l : List UInt8, Op.bytesLess l l = false
  | [] => rfl
  | a :: l => by simp [Op.bytesLess, less_irrefl l]
theorem less_trans : ∀ a b c : List UInt8, Op.bytesLess a b = true → Op.bytesLess b c = true → Op.bytesLess a c = true
  | [], [], _, h, _ => by simp [Op.bytesLess] at h
  | [], _ :: _, [], _, h => by simp [Op.bytesLess] at h
  | [], _ :: _, _ :: _, _, _ => rfl
  | _ :: _, [], _, h, _ => by simp [Op.bytesLess] at h
  | _ :: _, _ :: _, [], _, h => by simp [Op.bytesLess] at h
  | x :: a, y :: b, z :: c, h, k => by
    simp only [Op.bytesLess, Bool.or_eq_true, Bool.and_eq_true, decide_eq_true_eq, beq_iff_eq] at h k ⊢
    rcases h with h | ⟨rfl, h⟩
    · rcases k with k | ⟨rfl, k⟩
      · exact .inl (UInt8.lt_trans h k)
      · exact .inl h
    · rcases k with k | ⟨rfl, k⟩
      · exact .inl k
      · exact .inr ⟨rfl, less_trans a b c h k⟩
theorem less_total : ∀ a b : List UInt8, Op.bytesLess a b = false → Op.bytesLess b a = false → a = b
  | [], [], _, _ => rfl
  | [], _ :: _, h, _ => by simp [Op.bytesLess] at h
  | _ :: _, [], _, h => by simp [Op.bytesLess] at h
  | x :: a, y :: b, h, k => by
    simp only [Op.bytesLess, Bool.or_eq_false_iff, Bool.and_eq_false_iff, decide_eq_false_iff_not, beq_eq_false_iff_ne] at h k
    have hxy : x = y := by
      have h1 := h.1
      have h2 := k.1
      rw [UInt8.not_lt] at h1 h2
      exact UInt8.le_antisymm h2 h1
    subst hxy
    have h1 := h.2.resolve_left (by simp)
    have h2 := k.2.resolve_left (by simp)
    rw [less_total a b h1 h2]
theorem ba_eq {a b : ByteArray} (h : a.data.toList = b.data.toList) : a = b := by
  cases a; cases b
  simp at h ⊢
  exact h
theorem ltB_irrefl (a : ByteArray) : ltB a a = false := less_irrefl _
theorem ltB_trans {a b c : ByteArray} (h : ltB a b = true) (k : ltB b c = true) : ltB a c = true := less_trans _ _ _ h k
theorem ltB_total {a b : ByteArray} (h : ltB a b = false) (k : ltB b a = false) : a = b := ba_eq (less_total _ _ h k)
theorem ltB_asymm {a b : ByteArray} (h : ltB a b = true) : ltB b a = false := by
  cases k : ltB b a with
  | false => rfl
  | true => have := ltB_trans h k; rw [ltB_irrefl] at this; cases this
theorem ltB_ne {a b : ByteArray} (h : ltB a b = true) : a ≠ b := by
  rintro rfl
  rw [ltB_irrefl] at h
  cases h

/-- the number of a name; 0: it is not there. -/
def entFind (l : List En) (n : ByteArray) : Int := match l.find? (fun x => decide (x.name = n)) with | some x => x.no | none => 0
def entPut (l : List En) (n : ByteArray) (no : Int) : List En := l.filter (fun x => ltB x.name n) ++ ⟨n, no⟩ :: l.filter (fun x => ltB n x.name)
def entDrop (l : List En) (n : ByteArray) : List En := l.filter (fun x => !decide (x.name = n))
/-- names rise, each once. -/
def Rise (l : List En) : Prop := l.Pairwise (fun a b => ltB a.name b.name = true)
/-- how many names are ahead. -/
def entAt (l : List En) (n : ByteArray) : Nat := (l.filter (fun x => ltB x.name n)).length

theorem entAt_le (l : List En) (n : ByteArray) : entAt l n ≤ l.length := List.length_filter_le _ _
theorem rise_take {l : List En} (h : Rise l) (n : ByteArray) : l.filter (fun x => ltB x.name n) = l.take (entAt l n) := by
  unfold entAt
  induction l with
  | nil => rfl
  | cons x l ih =>
    have hx := List.pairwise_cons.1 h
    by_cases hc : ltB x.name n = true
    · rw [List.filter_cons_of_pos (by simpa using hc), List.length_cons, List.take_succ_cons, ← ih hx.2]
    · rw [List.filter_cons_of_neg (by simpa using hc)]
      have : l.filter (fun x => ltB x.name n) = [] := by
        rw [List.filter_eq_nil_iff]
        intro y hy hyn
        exact hc (ltB_trans (hx.1 y hy) hyn)
      rw [this]
      rfl
theorem rise_lt {l : List En} (h : Rise l) (n : ByteArray) (k : Nat) (hk : k < l.length) : ltB l[k].name n = decide (k < entAt l n) := by
  unfold entAt
  induction l generalizing k with
  | nil => simp at hk
  | cons x l ih =>
    have hx := List.pairwise_cons.1 h
    by_cases hc : ltB x.name n = true
    · rw [List.filter_cons_of_pos (by simpa using hc), List.length_cons]
      cases k with
      | zero => simp [hc]
      | succ k => simpa using ih hx.2 k (by simpa using hk)
    · rw [List.filter_cons_of_neg (by simpa using hc)]
      have : l.filter (fun x => ltB x.name n) = [] := by
        rw [List.filter_eq_nil_iff]
        intro y hy hyn
        exact hc (ltB_trans (hx.1 y hy) hyn)
      rw [this]
      cases k with
      | zero => simpa using hc
      | succ k =>
        have hm : l[k]'(by simpa using hk) ∈ l := List.getElem_mem _
        simp only [List.getElem_cons_succ, List.length_nil, Nat.not_lt_zero, decide_false]
        cases hq : ltB (l[k]'(by simpa using hk)).name n with
        | false => rfl
        | true => exact absurd (ltB_trans (hx.1 _ hm) hq) hc
/-- the place of a name tells whether it is there. -/
theorem find_at {l : List En} (h : Rise l) (n : ByteArray) : l.find? (fun x => decide (x.name = n)) = if hk : entAt l n < l.length then (if l[entAt l n].name = n then some l[entAt l n] else none) else none := by
  have key : ∀ (k : Nat) (hk : k < l.length), l[k].name = n → k = entAt l n := by
    intro k hk he
    have h1 := rise_lt h n k hk
    rw [he, ltB_irrefl] at h1
    have h2 : ¬ k < entAt l n := by simpa using h1.symm
    by_cases h3 : k = entAt l n
    · exact h3
    · exfalso
      have hlt : entAt l n < k := by omega
      have h4 := List.pairwise_iff_getElem.1 h (entAt l n) k (by omega) hk hlt
      rw [he] at h4
      have h5 := rise_lt h n (entAt l n) (by omega)
      rw [h4] at h5
      simp at h5
  split
  · rename_i hk
    split
    · rename_i he
      rw [List.find?_eq_some_iff_getElem]
      refine ⟨by simpa using he, entAt l n, hk, rfl, fun j hj => ?_⟩
      simp only [Bool.not_eq_eq_eq_not, Bool.not_true, decide_eq_false_iff_not]
      intro hj2
      have := key j (by omega) hj2
      omega
    · rename_i he
      rw [List.find?_eq_none]
      intro x hx
      simp only [decide_eq_true_eq]
      intro hxn
      obtain ⟨j, hj, rfl⟩ := List.mem_iff_getElem.1 hx
      have := key j hj hxn
      subst this
      exact he hxn
  · rename_i hk
    rw [List.find?_eq_none]
    intro x hx
    simp only [decide_eq_true_eq]
    intro hxn
    obtain ⟨j, hj, rfl⟩ := List.mem_iff_getElem.1 hx
    have := key j hj hxn
    subst this
    exact hk hj
theorem rise_drop {l : List En} (h : Rise l) (n : ByteArray) : l.filter (fun x => ltB n x.name) = l.drop (entAt l n + (if (∃ hk : entAt l n < l.length, l[entAt l n].name = n) then 1 else 0)) := by
  unfold entAt
  induction l with
  | nil => simp
  | cons x l ih =>
    have hx := List.pairwise_cons.1 h
    by_cases hc : ltB x.name n = true
    · have h1 : ltB n x.name = false := ltB_asymm hc
      rw [List.filter_cons_of_neg (by simp [h1])]
      simp only [List.filter_cons_of_pos (p := fun x : En => ltB x.name n) (a := x) (l := l) (by simpa using hc), List.length_cons]
      rw [ih hx.2]
      have : (∃ hk : (l.filter fun x => ltB x.name n).length + 1 < l.length + 1, ((x :: l)[(l.filter fun x => ltB x.name n).length + 1]'hk).name = n) ↔ (∃ hk : (l.filter fun x => ltB x.name n).length < l.length, (l[(l.filter fun x => ltB x.name n).length]'hk).name = n) := by
        constructor
        · rintro ⟨hk, he⟩; exact ⟨by omega, by simpa using he⟩
        · rintro ⟨hk, he⟩; exact ⟨by omega, by simpa using he⟩
      simp only [this]
      rw [Nat.add_right_comm, List.drop_succ_cons]
    · have he : l.filter (fun x => ltB x.name n) = [] := by
        rw [List.filter_eq_nil_iff]
        intro y hy hyn
        exact hc (ltB_trans (hx.1 y hy) hyn)
      have hall : ∀ y ∈ l, ltB n x.name = true ∨ x.name = n → ltB n y.name = true := by
        rintro y hy (h1 | rfl)
        · exact ltB_trans h1 (hx.1 y hy)
        · exact hx.1 y hy
      have hor : ltB n x.name = true ∨ x.name = n := by
        cases hq : ltB n x.name with
        | true => exact .inl rfl
        | false => exact .inr (ltB_total (by simpa using hc) hq)
      have hrest : l.filter (fun x => ltB n x.name) = l := by
        rw [List.filter_eq_self]
        intro y hy
        exact hall y hy hor
      rw [List.filter_cons_of_neg (p := fun x : En => ltB x.name n) (by simpa using hc), he]
      rcases hor with h1 | h1
      · rw [List.filter_cons_of_pos (by simpa using h1), hrest, if_neg]
        · rfl
        · rintro ⟨hk, he⟩
          simp only [List.length_nil, List.getElem_cons_zero] at he
          rw [he, ltB_irrefl] at h1
          cases h1
      · rw [List.filter_cons_of_neg (by rw [h1]; simp [ltB_irrefl]), hrest, if_pos ⟨by simp, by simpa using h1⟩]
        rfl
theorem put_at {l : List En} (h : Rise l) (n : ByteArray) (no : Int) : entPut l n no = l.take (entAt l n) ++ ⟨n, no⟩ :: l.drop (entAt l n + (if (∃ hk : entAt l n < l.length, l[entAt l n].name = n) then 1 else 0)) := by
  unfold entPut
  rw [rise_take h, rise_drop h]
theorem rise_put {l : List En} (h : Rise l) (n : ByteArray) (no : Int) : Rise (entPut l n no) := by
  unfold entPut Rise
  rw [List.pairwise_append]
  refine ⟨List.Pairwise.filter _ h, ?_, ?_⟩
  · rw [List.pairwise_cons]
    refine ⟨fun y hy => ?_, List.Pairwise.filter _ h⟩
    simpa using (List.mem_filter.1 hy).2
  · intro a ha b hb
    have h1 : ltB a.name n = true := by simpa using (List.mem_filter.1 ha).2
    rcases List.mem_cons.1 hb with rfl | hb
    · exact h1
    · have h2 : ltB n b.name = true := by simpa using (List.mem_filter.1 hb).2
      exact ltB_trans h1 h2
/-- the node of a number. -/
def Fs.get (S : Fs) (k : Int) : Option An := S.ns.find? (fun x => x.no == k)
def Fs.set (S : Fs) (a : An) : Fs := { S with ns := S.ns.map fun x => if x.no == a.no then a else x }
def Fs.add (S : Fs) (a : An) : Fs := { S with ns := S.ns ++ [{ a with no := S.last + 1 }], last := S.last + 1 }
def Fs.del (S : Fs) (k : Int) : Fs := { S with ns := S.ns.filter fun x => !(x.no == k) }
def Fs.root (S : Fs) (d : Int) : Int := if 1 ≤ d ∧ d ≤ S.ds.length then (match S.ds[(d - 1).toNat]? with | some v => v.root | none => 0) else 0
def Fs.over (S : Fs) (k : Int) : Int := if 0 < k then (match S.ds.find? (fun d => d.over == k) with | some d => d.root | none => k) else k
theorem an_no {S : Fs} {k : Int} {a : An} (h : S.get k = some a) : a.no = k := by
  have := List.find?_some h
  simpa using this
theorem an_mem {S : Fs} {k : Int} {a : An} (h : S.get k = some a) : a ∈ S.ns := List.mem_of_find?_eq_some h
/-- the numbers of nodes rise, from 1 on. -/
structure Nums (S : Fs) : Prop where
  rise : (S.ns.map (·.no)).Pairwise (· < ·)
  low : ∀ x ∈ S.ns, 1 ≤ x.no ∧ x.no ≤ S.last
theorem an_set {S : Fs} {a b : An} (h : S.get a.no = some b) (k : Int) : (S.set a).get k = if k = a.no then some a else S.get k := by
  unfold Fs.get Fs.set at *
  simp only
  rw [List.find?_map]
  by_cases hk : k = a.no
  · subst hk
    rw [if_pos rfl]
    have : ((fun x : An => x.no == a.no) ∘ fun x : An => if x.no == a.no then a else x) = fun x : An => x.no == a.no := by
      funext x
      simp only [Function.comp_apply]
      split
      · rename_i he; rw [he]; simp
      · rfl
    rw [this, h]
    have hb : b.no = a.no := by simpa using List.find?_some h
    simp [hb]
  · rw [if_neg hk]
    have : ((fun x : An => x.no == k) ∘ fun x : An => if x.no == a.no then a else x) = fun x : An => x.no == k := by
      funext x
      simp only [Function.comp_apply]
      split
      · rename_i he
        have : x.no = a.no := by simpa using he
        rw [this]
      · rfl
    rw [this]
    cases hf : List.find? (fun x : An => x.no == k) S.ns with
    | none => rfl
    | some x =>
      have hx : x.no = k := by simpa using List.find?_some hf
      simp [hx, hk]
theorem an_add {S : Fs} (h : Nums S) (a : An) (k : Int) : (S.add a).get k = if k = S.last + 1 then some { a with no := S.last + 1 } else S.get k := by
  unfold Fs.get Fs.add
  simp only [List.find?_append]
  by_cases hk : k = S.last + 1
  · subst hk
    have : S.ns.find? (fun x => x.no == S.last + 1) = none := by
      rw [List.find?_eq_none]
      intro x hx
      have := h.low x hx
      simp; omega
    rw [if_pos rfl, this]
    simp
  · rw [if_neg hk]
    have hne : ¬ S.last + 1 = k := fun e => hk e.symm
    simp [hne]
theorem an_nos {S : Fs} (a : An) : (S.set a).ns.map (·.no) = S.ns.map (·.no) := by
  unfold Fs.set
  simp only [List.map_map]
  apply List.map_congr_left
  intro x _
  simp only [Function.comp_apply]
  split
  · rename_i he; simpa using (beq_iff_eq.1 he).symm
  · rfl
theorem Nums.set {S : Fs} (h : Nums S) (a : An) : Nums (S.set a) := by
  refine ⟨by rw [an_nos]; exact h.rise, fun x hx => ?_⟩
  have hm : x.no ∈ (S.set a).ns.map (·.no) := List.mem_map_of_mem hx
  rw [an_nos] at hm
  obtain ⟨y, hy, he⟩ := List.mem_map.1 hm
  have := h.low y hy
  show 1 ≤ x.no ∧ x.no ≤ S.last
  omega
theorem Nums.add {S : Fs} (h : Nums S) (h0 : 0 ≤ S.last) (a : An) : Nums (S.add a) := by
  refine ⟨?_, fun x hx => ?_⟩
  · show ((S.ns ++ [_]).map _).Pairwise _
    rw [List.map_append, List.pairwise_append]
    refine ⟨h.rise, by simp, fun x hx y hy => ?_⟩
    obtain ⟨z, hz, rfl⟩ := List.mem_map.1 hx
    have := h.low z hz
    simp at hy
    omega
  · show 1 ≤ x.no ∧ x.no ≤ S.last + 1
    rcases List.mem_append.1 hx with hx | hx
    · have := h.low x hx; omega
    · simp at hx; subst hx; simp; omega
end Go.Proofs.YtihdbncoijhihaaGreat

/- Contracts of quota.Fine, ragpickerref12.Fine and quota.Take, over this program; no condition. -/
namespace Go.Proofs.YtihdbncoijhihaaGreat

open Go.RowKit

def fineB (b n mb mn : Int) : Bool := decide (0 ≤ b ∧ 0 ≤ n ∧ b ≤ mb ∧ n ≤ mn ∧ mb ≤ 1073741824 ∧ mn ≤ 65536)

set_option maxHeartbeats 400000 in
theorem fine_any (b n mb mn : Int) (w : World) :
    Calls Tryz.prog 275 #[.agg #[.int .i64 b, .int .i64 n, .int .i64 mb, .int .i64 mn]] w fun e w' => e = .returned (.bool (fineB b n mb mn)) ∧ w.alloc (.cells #[.int .i64 b, .int .i64 n, .int .i64 mb, .int .i64 mn] 212) = w' := by
  unfold fineB
  go_enter Tryz.func275, Tryz.ntmps275
  go_wp2
  all_goals (go_ret; simp [*]; try omega)

set_option maxHeartbeats 400000 in
theorem rfine_any (b n mb mn : Int) (w : World) :
    Calls Tryz.prog 284 #[.agg #[.int .i64 b, .int .i64 n, .int .i64 mb, .int .i64 mn]] w fun e w' => e = .returned (.bool (fineB b n mb mn)) ∧ w.alloc (.cells #[.int .i64 b, .int .i64 n, .int .i64 mb, .int .i64 mn] 212) = w' := by
  unfold fineB
  go_enter Tryz.func284, Tryz.ntmps284
  go_wp2
  all_goals (go_ret; simp [*]; try omega)

/-- what Take answers. -/
def tkBad (b n mb mn x y : Int) : Bool := !fineB b n mb mn || decide (x < -1073741824) || decide (1073741824 < x) || decide (y < -1073741824) || decide (1073741824 < y)
def tkE (b n mb mn x y : Int) : Int := if tkBad b n mb mn x y then 1 else if mn < n + y then 15 else if mb < b + x then 14 else if fineB (b+x) (n+y) mb mn then 0 else 1
def tkB (b n mb mn x y : Int) : Int := if tkE b n mb mn x y = 0 then b + x else b
def tkN (b n mb mn x y : Int) : Int := if tkE b n mb mn x y = 0 then n + y else n
def tkV (b n mb mn x y : Int) : Value := .tuple #[.agg #[.int .i64 (tkB b n mb mn x y), .int .i64 (tkN b n mb mn x y), .int .i64 mb, .int .i64 mn], .int .i64 (tkE b n mb mn x y)]


theorem tkBad_eq (b n mb mn x y : Int) (hf : fineB b n mb mn = true) (h1 : -1073741824 ≤ x) (h2 : x ≤ 1073741824) (h3 : -1073741824 ≤ y) (h4 : y ≤ 1073741824) : tkBad b n mb mn x y = false := by
  unfold tkBad; simp [hf]; omega
theorem tkV_of (b n mb mn x y e : Int) (h : tkE b n mb mn x y = e) (he : e ≠ 0) : tkV b n mb mn x y = .tuple #[.agg #[.int .i64 b, .int .i64 n, .int .i64 mb, .int .i64 mn], .int .i64 e] := by
  unfold tkV tkB tkN; rw [h]; simp [he]
theorem tkV_ok (b n mb mn x y : Int) (h : tkE b n mb mn x y = 0) : tkV b n mb mn x y = .tuple #[.agg #[.int .i64 (b+x), .int .i64 (n+y), .int .i64 mb, .int .i64 mn], .int .i64 0] := by
  unfold tkV tkB tkN; rw [h]; simp

set_option maxHeartbeats 1000000 in
theorem take_any (b n mb mn x y : Int) (w : World) :
    Calls Tryz.prog 252 #[.agg #[.int .i64 b, .int .i64 n, .int .i64 mb, .int .i64 mn], .int .i64 x, .int .i64 y] w fun e w' => e = .returned (tkV b n mb mn x y) ∧ Below w.heap.size w w' := by
  by_cases hf : fineB b n mb mn = true
  · have hf' := hf
    unfold fineB at hf'
    simp only [decide_eq_true_eq] at hf'
    obtain ⟨f1, f2, f3, f4, f5, f6⟩ := hf'
    by_cases hx : x < -1073741824 ∨ 1073741824 < x ∨ y < -1073741824 ∨ 1073741824 < y
    · have hv := tkV_of b n mb mn x y 1 (by unfold tkE tkBad; rw [if_pos]; simp; omega) (by decide)
      have Hv := Lib.hid hv
      clear hv
      have hd : (decide (x < -1073741824) || decide (1073741824 < x) || decide (y < -1073741824) || decide (1073741824 < y)) = true := by simp; omega
      go_enter Tryz.func252, Tryz.ntmps252
      go_wp2_with (go_at_call 275; refine (fine_any _ _ _ _ _).mono ?_; rintro e w' ⟨rfl, rfl⟩)
      all_goals (first | (exfalso; omega) | (go_returns; exact ⟨by rw [Hv.out], by go_grown⟩))
    · obtain ⟨x1, x2, y1, y2⟩ : -1073741824 ≤ x ∧ x ≤ 1073741824 ∧ -1073741824 ≤ y ∧ y ≤ 1073741824 := by omega
      clear hx
      have Hb := Lib.hid (tkBad_eq b n mb mn x y hf x1 x2 y1 y2)
      by_cases g1 : mn < n + y
      · have Hv := Lib.hid (tkV_of b n mb mn x y 15 (by unfold tkE; rw [Hb.out]; simp [g1]) (by decide))
        go_enter Tryz.func252, Tryz.ntmps252
        go_wp2_with (go_at_call 275; refine (fine_any _ _ _ _ _).mono ?_; rintro e w' ⟨rfl, rfl⟩)
        go_returns; exact ⟨by rw [Hv.out], by go_grown⟩
      · by_cases g2 : mb < b + x
        · have Hv := Lib.hid (tkV_of b n mb mn x y 14 (by unfold tkE; rw [Hb.out]; simp [g1, g2]) (by decide))
          go_enter Tryz.func252, Tryz.ntmps252
          go_wp2_with (go_at_call 275; refine (fine_any _ _ _ _ _).mono ?_; rintro e w' ⟨rfl, rfl⟩)
          go_returns; exact ⟨by rw [Hv.out], by go_grown⟩
        · by_cases g3 : fineB (b+x) (n+y) mb mn = true
          · have Hv := Lib.hid (tkV_ok b n mb mn x y (by unfold tkE; rw [Hb.out]; simp [g1, g2, g3]))
            go_enter Tryz.func252, Tryz.ntmps252
            go_wp2_with (go_at_call 275; refine (fine_any _ _ _ _ _).mono ?_; rintro e w' ⟨rfl, rfl⟩)
            go_returns; exact ⟨by rw [Hv.out], by go_grown⟩
          · have Hv := Lib.hid (tkV_of b n mb mn x y 1 (by unfold tkE; rw [Hb.out]; simp [g1, g2, g3]) (by decide))
            simp only [Bool.not_eq_true] at g3
            go_enter Tryz.func252, Tryz.ntmps252
            go_wp2_with (go_at_call 275; refine (fine_any _ _ _ _ _).mono ?_; rintro e w' ⟨rfl, rfl⟩)
            go_returns; exact ⟨by rw [Hv.out], by go_grown⟩
  · simp only [Bool.not_eq_true] at hf
    have Hv := Lib.hid (tkV_of b n mb mn x y 1 (by unfold tkE tkBad; simp [hf]) (by decide))
    go_enter Tryz.func252, Tryz.ntmps252
    go_wp2_with (go_at_call 275; refine (fine_any _ _ _ _ _).mono ?_; rintro e w' ⟨rfl, rfl⟩)
    go_returns; exact ⟨by rw [Hv.out], by go_grown⟩
end Go.Proofs.YtihdbncoijhihaaGreat

/- Contracts of ragpickerref12.Take, quota.New, quota.Blocks, ragpickerref12.Blocks and ragpickerref12.Limits, over this seat's program; no conditions but those written out. -/
namespace Go.Proofs.YtihdbncoijhihaaGreat

open Go.RowKit

set_option maxHeartbeats 1000000 in
theorem rtake_any (b n mb mn x y : Int) (w : World) :
    Calls Tryz.prog 273 #[.agg #[.int .i64 b, .int .i64 n, .int .i64 mb, .int .i64 mn], .int .i64 x, .int .i64 y] w fun e w' => e = .returned (tkV b n mb mn x y) ∧ Below w.heap.size w w' := by
  by_cases hf : fineB b n mb mn = true
  · have hf' := hf
    unfold fineB at hf'
    simp only [decide_eq_true_eq] at hf'
    obtain ⟨f1, f2, f3, f4, f5, f6⟩ := hf'
    by_cases hx : x < -1073741824 ∨ 1073741824 < x ∨ y < -1073741824 ∨ 1073741824 < y
    · have hv := tkV_of b n mb mn x y 1 (by unfold tkE tkBad; rw [if_pos]; simp; omega) (by decide)
      have Hv := Lib.hid hv
      clear hv
      have hd : (decide (1073741824 < x) || decide (x < -1073741824) || decide (1073741824 < y) || decide (y < -1073741824)) = true := by simp; omega
      go_enter Tryz.func273, Tryz.ntmps273
      go_wp2_with (go_at_call 284; refine (rfine_any _ _ _ _ _).mono ?_; rintro e w' ⟨rfl, rfl⟩)
      all_goals (first | (exfalso; omega) | (go_returns; exact ⟨by rw [Hv.out], by go_grown⟩))
    · obtain ⟨x1, x2, y1, y2⟩ : -1073741824 ≤ x ∧ x ≤ 1073741824 ∧ -1073741824 ≤ y ∧ y ≤ 1073741824 := by omega
      clear hx
      have Hb := Lib.hid (tkBad_eq b n mb mn x y hf x1 x2 y1 y2)
      by_cases g1 : mn < n + y
      · have Hv := Lib.hid (tkV_of b n mb mn x y 15 (by unfold tkE; rw [Hb.out]; simp [g1]) (by decide))
        go_enter Tryz.func273, Tryz.ntmps273
        go_wp2_with (go_at_call 284; refine (rfine_any _ _ _ _ _).mono ?_; rintro e w' ⟨rfl, rfl⟩)
        go_returns; exact ⟨by rw [Hv.out], by go_grown⟩
      · by_cases g2 : mb < b + x
        · have Hv := Lib.hid (tkV_of b n mb mn x y 14 (by unfold tkE; rw [Hb.out]; simp [g1, g2]) (by decide))
          go_enter Tryz.func273, Tryz.ntmps273
          go_wp2_with (go_at_call 284; refine (rfine_any _ _ _ _ _).mono ?_; rintro e w' ⟨rfl, rfl⟩)
          go_returns; exact ⟨by rw [Hv.out], by go_grown⟩
        · by_cases g3 : fineB (b+x) (n+y) mb mn = true
          · have Hv := Lib.hid (tkV_ok b n mb mn x y (by unfold tkE; rw [Hb.out]; simp [g1, g2, g3]))
            have g3' := g3
            unfold fineB at g3'
            simp only [decide_eq_true_eq] at g3'
            obtain ⟨k1, k2, -⟩ := g3'
            go_enter Tryz.func273, Tryz.ntmps273
            go_wp2_with (go_at_call 284; refine (rfine_any _ _ _ _ _).mono ?_; rintro e w' ⟨rfl, rfl⟩)
            go_returns; exact ⟨by rw [Hv.out], by go_grown⟩
          · have Hv := Lib.hid (tkV_of b n mb mn x y 1 (by unfold tkE; rw [Hb.out]; simp [g1, g2, g3]) (by decide))
            have k : n + y < 0 ∨ b + x < 0 := by
              unfold fineB at g3
              simp only [decide_eq_true_eq] at g3
              omega
            clear g3
            by_cases k1 : n + y < 0
            · clear k
              go_enter Tryz.func273, Tryz.ntmps273
              go_wp2_with (go_at_call 284; refine (rfine_any _ _ _ _ _).mono ?_; rintro e w' ⟨rfl, rfl⟩)
              go_returns; exact ⟨by rw [Hv.out], by go_grown⟩
            · have k2 : b + x < 0 := by omega
              clear k
              go_enter Tryz.func273, Tryz.ntmps273
              go_wp2_with (go_at_call 284; refine (rfine_any _ _ _ _ _).mono ?_; rintro e w' ⟨rfl, rfl⟩)
              go_returns; exact ⟨by rw [Hv.out], by go_grown⟩
  · simp only [Bool.not_eq_true] at hf
    have Hv := Lib.hid (tkV_of b n mb mn x y 1 (by unfold tkE tkBad; simp [hf]) (by decide))
    go_enter Tryz.func273, Tryz.ntmps273
    go_wp2_with (go_at_call 284; refine (rfine_any _ _ _ _ _).mono ?_; rintro e w' ⟨rfl, rfl⟩)
    go_returns; exact ⟨by rw [Hv.out], by go_grown⟩

/-- may a mount have so much? -/
def limB (b n : Int) : Bool := decide (1 ≤ b ∧ b ≤ 1073741824 ∧ 1 ≤ n ∧ n ≤ 65536)
theorem lim_mk (b n : Int) (h1 : 1 ≤ b) (h2 : b ≤ 1073741824) (h3 : 1 ≤ n) (h4 : n ≤ 65536) : limB b n = true := by
  unfold limB; simp [h1, h2, h3, h4]
theorem lim_of {b n : Int} (h : limB b n = true) : 1 ≤ b ∧ b ≤ 1073741824 ∧ 1 ≤ n ∧ n ≤ 65536 := by
  unfold limB at h; simpa using h

set_option maxHeartbeats 400000 in
theorem limits_any (b n : Int) (w : World) :
    Calls Tryz.prog 237 #[.int .i64 b, .int .i64 n] w fun e w' => e = .returned (.bool (limB b n)) ∧ w = w' := by
  unfold limB
  go_enter Tryz.func237, Tryz.ntmps237
  go_wp2
  all_goals (go_ret; simp [*]; try omega)

set_option maxHeartbeats 400000 in
theorem new_yes (b n : Int) (h : limB b n = true) (w : World) :
    Calls Tryz.prog 267 #[.int .i64 b, .int .i64 n] w fun e w' => e = .returned (.tuple #[.agg #[.int .i64 0, .int .i64 0, .int .i64 b, .int .i64 n], .int .i64 0]) ∧ Below w.heap.size w w' := by
  obtain ⟨h1, h2, h3, h4⟩ := lim_of h
  clear h
  go_enter Tryz.func267, Tryz.ntmps267
  go_wp2
  go_returns; exact ⟨rfl, by go_grown⟩
set_option maxHeartbeats 400000 in
theorem new_no (b n : Int) (h : limB b n = false) (w : World) :
    Calls Tryz.prog 267 #[.int .i64 b, .int .i64 n] w fun e w' => e = .returned (.tuple #[.agg #[.int .i64 0, .int .i64 0, .int .i64 0, .int .i64 0], .int .i64 3]) ∧ Below w.heap.size w w' := by
  have hd : (decide (b < 1) || decide (1073741824 < b) || decide (n < 1) || decide (65536 < n)) = true := by
    unfold limB at h; simp at h ⊢; omega
  have hn : ¬ (1 ≤ b ∧ b ≤ 1073741824 ∧ 1 ≤ n ∧ n ≤ 65536) := by unfold limB at h; simpa using h
  clear h
  go_enter Tryz.func267, Tryz.ntmps267
  go_wp2
  all_goals (first | (exfalso; omega) | (go_returns; exact ⟨rfl, by go_grown⟩))

/-- how many blocks a node of a kind has. -/
def blkI (kind size : Int) : Int := if kind = 1 then 1 else if kind = 2 ∧ 0 < size then (size - 1) / 512 + 1 else 0
set_option maxHeartbeats 400000 in
theorem blocks_any (k s : Int) (hs : s ≤ 9223372036854775807) (w : World) :
    Calls Tryz.prog 253 #[.int .i64 k, .int .i64 s] w fun e w' => e = .returned (.int .i64 (blkI k s)) ∧ w = w' := by
  by_cases h1 : k = 1
  · have Hv := Lib.hid (show blkI k s = 1 by unfold blkI; rw [if_pos h1])
    subst h1
    go_enter Tryz.func253, Tryz.ntmps253
    go_wp2
    go_ret; exact ⟨by rw [Hv.out]; rfl, rfl⟩
  · have e1 : (k == 1) = false := by simpa using h1
    by_cases h2 : k = 2
    · subst h2
      by_cases h3 : 0 < s
      · have Hv := Lib.hid (show blkI 2 s = (s - 1) / 512 + 1 by unfold blkI; rw [if_neg h1, if_pos ⟨rfl, h3⟩])
        go_enter Tryz.func253, Tryz.ntmps253
        go_wp2
        go_ret; exact ⟨by rw [Hv.out]; rfl, rfl⟩
      · have Hv := Lib.hid (show blkI 2 s = 0 by unfold blkI; rw [if_neg h1, if_neg (by omega)])
        go_enter Tryz.func253, Tryz.ntmps253
        go_wp2
        go_ret; exact ⟨by rw [Hv.out]; rfl, rfl⟩
    · have e2 : (k == 2) = false := by simpa using h2
      have Hv := Lib.hid (show blkI k s = 0 by unfold blkI; rw [if_neg h1, if_neg (by omega)])
      clear h1 h2
      go_enter Tryz.func253, Tryz.ntmps253
      go_wp2
      go_ret; exact ⟨by rw [Hv.out]; rfl, rfl⟩

set_option maxHeartbeats 400000 in
theorem rblocks_any (k s : Int) (hs : s ≤ 2000000) (w : World) :
    Calls Tryz.prog 274 #[.int .i64 k, .int .i64 s] w fun e w' => e = .returned (.int .i64 (blkI k s)) ∧ w = w' := by
  by_cases h1 : k = 1
  · have Hv := Lib.hid (show blkI k s = 1 by unfold blkI; rw [if_pos h1])
    subst h1
    go_enter Tryz.func274, Tryz.ntmps274
    go_wp2
    go_ret; exact ⟨by rw [Hv.out]; rfl, rfl⟩
  · have e1 : (k == 1) = false := by simpa using h1
    by_cases h2 : k = 2
    · subst h2
      clear h1
      go_enter Tryz.func274, Tryz.ntmps274
      go_wp2
      go_loop [5] (fun t => ∃ n : Int, 0 ≤ n ∧ n ≤ 4000 ∧ (n = 0 ∨ 512 * (n - 1) < s) ∧ t = .int .i64 n) (fun t => (4000 - intOf t).toNat)
      case atStart => exact ⟨0, by omega, by omega, .inl rfl, rfl⟩
      case round =>
        obtain ⟨n, hn0, hn1, hn2, rfl⟩ := hrel
        by_cases hc : 512 * n < s
        · go_wp2
          go_round
          case rel => exact ⟨n + 1, by omega, by omega, .inr (by omega), rfl⟩
          case measure => simp [intOf]; omega
        · have Hv := Lib.hid (show blkI 2 s = n by unfold blkI; rw [if_neg (by decide)]; split <;> omega)
          go_wp2
          go_ret; exact ⟨by rw [Hv.out]; rfl, rfl⟩
    · have e2 : (k == 2) = false := by simpa using h2
      have Hv := Lib.hid (show blkI k s = 0 by unfold blkI; rw [if_neg h1, if_neg (by omega)])
      clear h1 h2
      go_enter Tryz.func274, Tryz.ntmps274
      go_wp2
      refine wp_loop_rounds 1 ?_
      rw [rounds_succ]
      go_wp2
      go_ret; exact ⟨by rw [Hv.out]; rfl, rfl⟩
end Go.Proofs.YtihdbncoijhihaaGreat
