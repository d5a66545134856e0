/- Texts of the proof, part 7. -/
import Derived.Lib.LastIndexByte
import Derived.Test.YtaojpbgaengdpaaGreatPL6
import Derived.Test.YtaojpbgaengdpaaGreatPL4
import Derived.Test.YtaojpbgaengdpaaGreatPL5
import Derived.Test.YtaojpbgaengdpaaGreatPL2
import Derived.Test.YtaojpbgaengdpaaGreatPL3
set_option linter.unusedVariables false
set_option linter.unusedSimpArgs false
/- Paths (layer 2): the last part, and whether a text may be a path: of the program and of the reference. -/
namespace Go.Proofs.YtaojpbgaengdpaaGreat

open Go.RowKit

/-- what stands behind the last slash. -/
def segL (l : List UInt8) : List UInt8 := (l.reverse.takeWhile (· != 47)).reverse
/-- without the slashes at its end. -/
def trimL (l : List UInt8) : List UInt8 := (l.reverse.dropWhile (· == 47)).reverse
/-- the last part; nothing, if it is a point or two. -/
def lastL (l : List UInt8) : List UInt8 := if segL (trimL l) = [46] ∨ segL (trimL l) = [46, 46] then [] else segL (trimL l)
def pathE (s : ByteArray) : Int := if s.data.toList = [] then 5 else if s.data.toList.head? ≠ some 47 ∨ (0 : UInt8) ∈ s.data.toList then 1 else if 4096 < s.size then 13 else 0
def pathB (s : ByteArray) : Bool := pathE s == 0 && lastL s.data.toList != []

theorem segL_snoc (l : List UInt8) (x : UInt8) : segL (l ++ [x]) = if x = 47 then [] else segL l ++ [x] := by
  unfold segL
  rw [List.reverse_append, List.reverse_singleton, List.singleton_append, List.takeWhile_cons]
  by_cases h : x = 47
  · subst h; simp
  · have : (x != 47) = true := by simpa using h
    rw [this, if_neg h]
    simp
theorem spl_last (l : List UInt8) : (spl 47 l).getLast? = some (segL l) := by
  refine snoc_ind (P := fun l => (spl 47 l).getLast? = some (segL l)) rfl (fun l x ih => ?_) l
  rw [spl_snoc, segL_snoc]
  unfold splStep
  have hl := (spl_len 47 l).1
  by_cases h : x = 47
  · rw [if_pos h, if_pos h]; simp
  · rw [if_neg h, if_neg h]
    rw [List.getLast?_eq_getElem?] at ih ⊢
    rw [List.length_set, List.getElem?_set_self (by omega)]
    rw [List.getD_eq_getElem?_getD, ih]
    rfl

/-- is a byte in a text? -/
def hasB (s : ByteArray) (c : UInt8) : Bool := decide (c ∈ s.data.toList)

set_option maxRecDepth 100000 in
set_option maxHeartbeats 400000 in
theorem has_any (s : ByteArray) (c : UInt8) (w : World) (hs : s.size ≤ 100000) :
    Calls Tryz.prog 107 #[.string s, .int .u8 c.toNat] w fun e w' => e = .returned (.bool (hasB s c)) ∧ w = w' := by
  go_enter Tryz.func107, Tryz.ntmps107
  go_wp2_with fail
  go_loop [5] (fun t5 => ∃ k : Nat, k ≤ s.size ∧ t5 = .int .i64 k ∧ ∀ j (h : j < s.size), j < k → s[j] ≠ c) (fun t5 => s.size - (intOf t5).toNat)
  case atStart => exact ⟨0, Nat.zero_le _, rfl, fun j _ h => absurd h (Nat.not_lt_zero _)⟩
  case round =>
    obtain ⟨k, hk, rfl, hn⟩ := hrel
    have Hn := Lib.hid hn
    clear hn
    by_cases hlt : k < s.size
    · by_cases he : s[k] = c
      · have HE := Lib.hid he
        have he1 : ((s[k].toNat : Int) == (c.toNat : Int)) = true := by rw [he]; simp
        clear he
        go_wp2_with fail
        go_ret
        refine ⟨ret_bool ?_, rfl⟩
        have : c ∈ s.data.toList := by
          rw [← HE.out]
          exact List.getElem_mem (l := s.data.toList) (n := k) (by simpa using hlt)
        exact (decide_eq_true this).symm
      · have HE := Lib.hid he
        have he1 : ((s[k].toNat : Int) == (c.toNat : Int)) = false := by
          simp only [beq_eq_false_iff_ne, ne_eq]
          intro h
          exact he (by rw [u8_eq]; omega)
        clear he
        go_wp2_with fail
        go_round
        case measure => simp [intOf]; omega
        case rel =>
          refine ⟨k + 1, by omega, by go_num, fun j hj hjk => ?_⟩
          by_cases e : j = k
          · subst e; exact HE.out
          · exact Hn.out j hj (by omega)
    · obtain rfl : k = s.size := by omega
      go_wp2_with fail
      go_ret
      refine ⟨ret_bool ?_, rfl⟩
      have : ¬ c ∈ s.data.toList := by
        intro h
        obtain ⟨j, hj, rfl⟩ := List.getElem_of_mem h
        have hj' : j < s.size := by simpa using hj
        exact Hn.out j hj' hj' rfl
      exact (decide_eq_false this).symm

theorem segL_app (a b : List UInt8) (hb : ∀ x ∈ b, x ≠ 47) : segL (a ++ b) = segL a ++ b := by
  revert hb
  refine snoc_ind (P := fun b => (∀ x ∈ b, x ≠ 47) → segL (a ++ b) = segL a ++ b) (by simp) (fun b x ih hb => ?_) b
  rw [← List.append_assoc, segL_snoc, if_neg (hb x (by simp)), ih (fun y hy => hb y (List.mem_append_left _ hy)), List.append_assoc]
theorem seg_idx (s : ByteArray) : ∃ i : Nat, Lib.lastIndexByte s 47 = (i : Int) - 1 ∧ i ≤ s.size ∧ s.data.toList.drop i = segL s.data.toList := by
  have hg : ∀ j (h : j < s.size), s.data[j]! = s.data.toList[j]'(by simpa using h) := fun j h => by
    rw [getElem!_pos s.data j h]; rfl
  rcases Lib.lastIdx_spec s 47 s.size with ⟨h1, h2⟩ | ⟨i, hi, h1, h2, h3⟩
  · refine ⟨0, by unfold Lib.lastIndexByte; rw [h1]; rfl, Nat.zero_le _, ?_⟩
    have hb : ∀ x ∈ s.data.toList, x ≠ 47 := by
      intro x hx
      obtain ⟨j, hj, rfl⟩ := List.getElem_of_mem hx
      have hj' : j < s.size := by simpa using hj
      have := h2 j hj'
      rw [hg j hj'] at this
      intro e
      rw [e] at this
      exact this rfl
    have := segL_app [] s.data.toList hb
    rw [List.nil_append] at this
    rw [this]
    rfl
  · refine ⟨i + 1, by unfold Lib.lastIndexByte; rw [h1]; omega, hi, ?_⟩
    have hi' : i < s.data.toList.length := by simpa using hi
    have hb : ∀ x ∈ s.data.toList.drop (i + 1), x ≠ 47 := by
      intro x hx
      obtain ⟨j, hj, rfl⟩ := List.getElem_of_mem hx
      rw [List.length_drop] at hj
      have hj' : i + 1 + j < s.size := by
        have : s.data.toList.length = s.size := Array.length_toList
        omega
      have := h3 (i + 1 + j) (by omega) hj'
      rw [hg _ hj'] at this
      intro e
      rw [List.getElem_drop] at e
      rw [e] at this
      exact this rfl
    have h47 : s.data.toList[i] = 47 := by
      rw [hg i hi] at h2
      rw [u8_eq]
      show (s.data.toList[i]).toNat = 47
      omega
    have hsp : s.data.toList = (s.data.toList.take i ++ [47]) ++ s.data.toList.drop (i + 1) := by
      rw [← h47, ← List.take_succ_eq_append_getElem, List.take_append_drop]
    have h5 := segL_app (s.data.toList.take i ++ [47]) (s.data.toList.drop (i + 1)) hb
    rw [← hsp, segL_snoc, if_pos rfl, List.nil_append] at h5
    exact h5.symm

set_option maxRecDepth 100000 in
set_option maxHeartbeats 400000 in
theorem tail_any (s : ByteArray) (w : World) (hs : s.size ≤ 100000) :
    Calls Tryz.prog 123 #[.string s] w fun e w' => e = .returned (.string (str (segL s.data.toList))) ∧ w = w' := by
  obtain ⟨i, h1, h2, h3⟩ := seg_idx s
  have hc := Lib.hid (show ∀ w, Calls Tryz.prog 140 #[.string s, .int .u8 47] w fun e w' => e = .returned (.int .i64 ((i : Int) - 1)) ∧ w = w' from fun w => by
    refine (Tryz.strings_LastIndexByte s 47 (by omega) w).mono ?_
    rintro e w' ⟨rfl, rfl⟩
    exact ⟨by rw [h1], rfl⟩)
  have hx := Lib.hid (show s.extract i s.size = str (segL s.data.toList) by
    rw [← h3]
    apply ba_ext
    rw [ByteArray.toList_eq, ByteArray.toList_eq, ByteArray.data_extract]
    show (s.data.extract i s.data.size).toList = _
    rw [Array.toList_extract, List.extract_eq_take_drop]
    show List.take (s.data.size - i) (List.drop i s.data.toList) = List.drop i s.data.toList
    exact List.take_of_length_le (by rw [List.length_drop, Array.length_toList]; omega))
  clear h1 h3
  go_enter Tryz.func123, Tryz.ntmps123
  go_wp2_with (go_at_call 140; refine (hc.out _).mono ?_; rintro e w1 ⟨rfl, rfl⟩)
  go_ret
  exact ⟨by rw [← hx.out]; rfl, rfl⟩
end Go.Proofs.YtaojpbgaengdpaaGreat

/- Paths (layer 2): Last, Path, of the program and of the reference; whether a text may be a path in a note. -/
namespace Go.Proofs.YtaojpbgaengdpaaGreat

open Go.RowKit

theorem str_list (l : List UInt8) : (str l).data.toList = l := by simp [str]
theorem ba_list (t : ByteArray) : t.toList = t.data.toList := ByteArray.toList_eq t
theorem trimL_len (l : List UInt8) : (trimL l).length ≤ l.length := by
  unfold trimL
  rw [List.length_reverse]
  have := (List.dropWhile_sublist (l := l.reverse) (fun x => x == 47)).length_le
  rwa [List.length_reverse] at this
theorem segL_len (l : List UInt8) : (segL l).length ≤ l.length := by
  unfold segL
  rw [List.length_reverse]
  have := (List.takeWhile_sublist (l := l.reverse) (fun x => x != 47)).length_le
  rwa [List.length_reverse] at this
theorem lastL_len (l : List UInt8) : (lastL l).length ≤ l.length := by
  unfold lastL
  have h1 := segL_len (trimL l)
  have h2 := trimL_len l
  split
  · simp
  · omega

theorem trimL_snoc (l : List UInt8) (x : UInt8) : trimL (l ++ [x]) = if x = 47 then trimL l else l ++ [x] := by
  unfold trimL
  rw [List.reverse_append, List.reverse_singleton, List.singleton_append, List.dropWhile_cons]
  by_cases h : x = 47
  · subst h; simp
  · have : (x == 47) = false := by simpa using h
    rw [this, if_neg h]
    simp

end Go.Proofs.YtaojpbgaengdpaaGreat

/- What the layers 10, 14, 15, 17, 20 and 21 compute over a tree of nodes, plainly. -/
namespace Go.Proofs.YtaojpbgaengdpaaGreat

open Go.RowKit

/-- may somebody (cu, cg) do all that is wanted? -/
def permB (cu cg uid gid mode want : Int) : Bool :=
  if cu = 0 then true else
    (bits .and .i64 (bits .and .i64 (if cu = uid then mode / 64 else if cg = gid then mode / 8 else mode) want) 7 == bits .and .i64 want 7)
structure Cr where
  u : Int
  g : Int
def An.may (a : An) (c : Cr) (want : Int) : Bool := permB c.u c.g a.uid a.gid a.mode want
def ownsB (c : Cr) (a : An) : Bool := (c.u == 0) || (c.u == a.uid)
def idB (u g : Int) : Bool := decide (0 ≤ u ∧ u ≤ 2147483648 ∧ 0 ≤ g ∧ g ≤ 2147483648)

def Fs.dev (S : Fs) (d : Int) : Option Dv := if 1 ≤ d then S.ds[(d - 1).toNat]? else none
def Fs.setDev (S : Fs) (d : Int) (v : Dv) : Fs := { S with ds := S.ds.set (d - 1).toNat v }
/-- a mount's root comes. -/
def Fs.addRoot (S : Fs) (over blocks nodes : Int) : Fs :=
  { ns := S.ns ++ [{ an0 with no := S.last + 1, dev := S.ds.length + 1, kind := 1, mode := 493, links := 1, up := S.last + 1 }]
    ds := S.ds ++ [⟨S.last + 1, over, 1, 1, blocks, nodes⟩]
    last := S.last + 1 }
def fs0 : Fs := ⟨[], [], 0⟩
def Fs.mount (S : Fs) (k blocks nodes : Int) : Fs × Int × Int :=
  match S.get k with
  | none => (S, 0, 5)
  | some a =>
    if a.kind ≠ 1 then (S, 0, 9)
    else if S.over k ≠ k ∨ S.root a.dev = k then (S, 0, 16)
    else if 8 ≤ S.ds.length ∨ limB blocks nodes = false then (S, 0, 3)
    else (S.addRoot k blocks nodes, S.last + 1, 0)
def Fs.above (S : Fs) (k : Int) : Int :=
  match S.get k with
  | none => 0
  | some a =>
    if a.kind ≠ 1 then 0
    else if S.root a.dev = k ∧ 1 < a.dev then
      (match S.dev a.dev with
       | none => 0
       | some v => match S.get v.over with | none => 0 | some b => b.up)
    else a.up
/-- a node comes on its mount. -/
def Fs.make (S : Fs) (a : An) : Fs × Int × Int :=
  if S.root a.dev = 0 then (S, 0, 1) else
  match S.dev a.dev with
  | none => (S, 0, 1)
  | some v =>
    let e := tkE v.b v.n v.mb v.mn (blkI a.kind a.data.size) 1
    if e = 0 then (((S.setDev a.dev { v with b := v.b + blkI a.kind a.data.size, n := v.n + 1 }).add a), S.last + 1, 0)
    else (S, 0, e)

/-- what a text says between slashes. -/
def partsL (l : List UInt8) : List (List UInt8) := (spl 47 l).filter fun p => !(p == []) && !(p == [46])
def slashB (l : List UInt8) : Bool := segL l == [] || segL l == [46] || segL l == [46, 46]
structure Fd where
  dir : Int
  name : ByteArray
  no : Int
  slash : Bool
def fd0 : Fd := ⟨0, ByteArray.empty, 0, false⟩
/-- one step of a trip: the number, the error. -/
def Fs.step (S : Fs) (c : Cr) (at' : Int) (p : List UInt8) : Int × Int :=
  match S.get at' with
  | none => (0, 9)
  | some d =>
    if d.kind ≠ 1 then (0, 9)
    else if d.may c 1 = false then (0, 6)
    else if p = [46, 46] then (S.above at', 0)
    else if 255 < p.length then (0, 13)
    else (S.over (entFind d.ents (str p)), 0)
def Fs.seekL (S : Fs) (c : Cr) (follow : Bool) (k : Option (Int → Bool → List (List UInt8) → Fd × Int)) : List (List UInt8) → Int → Bool → Fd × Int
  | [], at', _ => (⟨0, ByteArray.empty, at', true⟩, 0)
  | p :: l, at', must =>
    let r := S.step c at' p
    if r.2 ≠ 0 then (fd0, r.2)
    else if p = [46, 46] then S.seekL c follow k l r.1 must
    else match S.get r.1 with
    | none => if l = [] then (⟨at', str p, 0, must⟩, 0) else (fd0, 5)
    | some n =>
      if n.kind = 3 ∧ (l ≠ [] ∨ must = true ∨ follow = true) then
        (match k with
         | none => (fd0, 12)
         | some k =>
           if n.data.data.toList = [] then (fd0, 5)
           else k (if n.data.data.toList.head? = some 47 then 1 else at') (if l = [] then must || slashB n.data.data.toList else must) (partsL n.data.data.toList ++ l))
      else if n.kind ≠ 1 ∧ (l ≠ [] ∨ must = true) then (fd0, 9)
      else if l = [] then (⟨at', str p, r.1, must⟩, 0)
      else S.seekL c follow k l r.1 must
def Fs.seekH (S : Fs) (c : Cr) (follow : Bool) : Nat → Int → Bool → List (List UInt8) → Fd × Int
  | 0, at', must, l => S.seekL c follow none l at' must
  | h + 1, at', must, l => S.seekL c follow (some (S.seekH c follow h)) l at' must
def Fs.path (S : Fs) (c : Cr) (s : ByteArray) (follow : Bool) : Fd × Int :=
  if pathE s ≠ 0 then (fd0, pathE s) else S.seekH c follow 8 1 (slashB s.data.toList) (partsL s.data.toList)

/-- the error of a name. -/
def checkE (s : ByteArray) : Int :=
  if s.data.toList = [] ∨ s.data.toList = [46] ∨ s.data.toList = [46, 46] ∨ (47 : UInt8) ∈ s.data.toList ∨ (0 : UInt8) ∈ s.data.toList then 1 else if 255 < s.size then 13 else 0
/-- a directory in which names may come and go: the error. -/
def Fs.placeE (S : Fs) (c : Cr) (dir : Int) (s : ByteArray) : Int :=
  match S.get dir with
  | none => 5
  | some d => if d.kind ≠ 1 then 9 else if checkE s ≠ 0 then checkE s else if d.may c 3 = false then 6 else 0
def Fs.touch (S : Fs) (now dir : Int) (l : List En) : Fs :=
  match S.get dir with
  | none => S
  | some d => S.set { d with ents := l, mtime := now, ctime := now }
def Fs.come (S : Fs) (c : Cr) (now dir : Int) (s : ByteArray) (a : An) : Fs × Int × Int :=
  if S.placeE c dir s ≠ 0 then (S, 0, S.placeE c dir s) else
  match S.get dir with
  | none => (S, 0, 5)
  | some d =>
    if entFind d.ents s ≠ 0 then (S, 0, 7)
    else
      let r := S.make { a with dev := d.dev, uid := c.u, gid := c.g, mtime := now, ctime := now, links := 1 }
      if r.2.2 ≠ 0 then (S, 0, r.2.2)
      else (r.1.touch now dir (entPut d.ents s r.2.1), r.2.1, 0)
def Fs.mkdir (S : Fs) (c : Cr) (now dir : Int) (s : ByteArray) (mode : Int) : Fs × Int × Int :=
  if mode < 0 ∨ 1023 < mode then (S, 0, 1) else S.come c now dir s { an0 with kind := 1, mode := mode, up := dir }
def Fs.file (S : Fs) (c : Cr) (now dir : Int) (s : ByteArray) (mode : Int) (data : ByteArray) : Fs × Int × Int :=
  if mode < 0 ∨ 1023 < mode then (S, 0, 1) else if 1048576 < data.size then (S, 0, 3) else S.come c now dir s { an0 with kind := 2, mode := mode, data := data }
def Fs.sym (S : Fs) (c : Cr) (now dir : Int) (s text : ByteArray) : Fs × Int × Int :=
  if text.data.toList = [] ∨ (0 : UInt8) ∈ text.data.toList then (S, 0, 1) else if 4096 < text.size then (S, 0, 13) else S.come c now dir s { an0 with kind := 3, mode := 511, data := text }
def Fs.hard (S : Fs) (c : Cr) (now no dir : Int) (s : ByteArray) : Fs × Int :=
  if S.placeE c dir s ≠ 0 then (S, S.placeE c dir s) else
  match S.get dir, S.get no with
  | some d, some n =>
    if n.kind = 1 then (S, 4)
    else if entFind d.ents s ≠ 0 then (S, 7)
    else if n.dev ≠ d.dev then (S, 11)
    else if 1000 ≤ n.links then (S, 18)
    else ((S.set { n with links := n.links + 1, ctime := now }).touch now dir (entPut d.ents s no), 0)
  | _, _ => (S, 5)
def Fs.chmod (S : Fs) (c : Cr) (now no mode : Int) : Fs × Int :=
  match S.get no with
  | none => (S, 5)
  | some n => if ownsB c n = false then (S, 4) else if mode < 0 ∨ 1023 < mode ∨ n.kind = 3 then (S, 1) else (S.set { n with mode := mode, ctime := now }, 0)
def Fs.chown (S : Fs) (c : Cr) (now no u g : Int) : Fs × Int :=
  match S.get no with
  | none => (S, 5)
  | some n => if ownsB c n = false then (S, 4) else if c.u ≠ 0 then (S, 4) else if idB u g = false then (S, 1) else (S.set { n with uid := u, gid := g, ctime := now }, 0)
def Fs.utime (S : Fs) (c : Cr) (now no t : Int) : Fs × Int :=
  match S.get no with
  | none => (S, 5)
  | some n => if ownsB c n = false then (S, 4) else if t < 0 ∨ 253402300799 < t then (S, 1) else (S.set { n with mtime := t, ctime := now }, 0)

/-- a tree with a clock, whose changes may fail. -/
structure Sy where
  fs : Fs
  now : Int
  count : Int
  plan : List (Int × Int)
  dead : Bool
/-- does the next change go? -/
def Sy.change (Y : Sy) : Sy × Int :=
  if Y.dead then (Y, 20) else
  match Y.plan.find? (fun x => x.1 == Y.count + 1) with
  | none => ({ Y with count := Y.count + 1 }, 0)
  | some x => ({ Y with count := Y.count + 1, dead := x.2 == 20 }, x.2)
end Go.Proofs.YtaojpbgaengdpaaGreat

/- How the program lays a tree of nodes in memory: entries, nodes in the table, mounts; what turns and what stays. -/
namespace Go.Proofs.YtaojpbgaengdpaaGreat

open Go.RowKit

def entC (x : En) : List Value := [.string x.name, .int .i64 x.no]
theorem entC_len (x : En) : (entC x).length = 2 := rfl
def entQ (cs : List Value) (x : En) : Prop := cs = entC x
/-- entries, as they lie. -/
structure EntsAt (w : World) (a : Option Addr) (n c : Nat) (es : List En) : Prop where
  sl : SliceAt w 2 entQ a n c es
  blk : ∀ p, a = some p → ∃ b off cur, p = ⟨b, off, none⟩ ∧ w.heap[b]? = some (.cells cur 178 (0, 0))
theorem EntsAt.nil (w : World) : EntsAt w none 0 0 [] := ⟨⟨rfl, Nat.le_refl _, by omega, .inl rfl⟩, fun p h => by cases h⟩
theorem EntsAt.len {w : World} {a : Option Addr} {n c : Nat} {es : List En} (h : EntsAt w a n c es) : es.length = n := h.sl.1
/-- what is not laid for entries may turn. -/
theorem EntsAt.turn {w w' : World} {a : Option Addr} {n c : Nat} {es : List En} (h : EntsAt w a n c es) (ht : ∀ (b : Nat) (cur : Array Value), w.heap[b]? = some (.cells cur 178 (0, 0)) → w'.heap[b]? = w.heap[b]?) (hs : w.heap.size ≤ w'.heap.size) : EntsAt w' a n c es := by
  refine ⟨⟨h.sl.1, h.sl.2.1, h.sl.2.2.1, h.sl.2.2.2.imp id ?_⟩, fun p hp => ?_⟩
  · rintro ⟨b, off, rfl, hb, hel⟩
    obtain ⟨b', off', cur, e, hblk⟩ := h.blk _ rfl
    injection e with e1 e2
    subst e1 e2
    refine ⟨b, off, rfl, Nat.lt_of_lt_of_le hb hs, fun i hi => ?_⟩
    obtain ⟨cs, h1, h2, h3⟩ := hel i hi
    refine ⟨cs, h1, h2, fun j hj => ?_⟩
    rw [← h3 j hj]
    simp only [World.cell?, ht _ _ hblk]
  · obtain ⟨b, off, cur, e, hblk⟩ := h.blk p hp
    exact ⟨b, off, cur, e, (ht _ _ hblk).trans hblk⟩
theorem EntsAt.keep {w w' : World} {a : Option Addr} {n c : Nat} {es : List En} (h : EntsAt w a n c es) (hb : Below w.heap.size w w') : EntsAt w' a n c es :=
  h.turn (fun b cur hc => hb.block b (Array.getElem?_eq_some_iff.1 hc).1) hb.size
theorem EntsAt.keepB {w w' : World} {a : Option Addr} {n c N : Nat} {es : List En} (h : EntsAt w a n c es) (hb : Below N w w') (hN : w.heap.size ≤ N) : EntsAt w' a n c es :=
  h.turn (fun b cur hc => hb.block b (Nat.lt_of_lt_of_le (Array.getElem?_eq_some_iff.1 hc).1 hN)) hb.size
theorem EntsAt.cell {w : World} {b off n c : Nat} {es : List En} (h : EntsAt w (some ⟨b, off, none⟩) n c es) (k : Nat) (hk : k < es.length) :
    w.cell? ⟨b, off + k * 2, none⟩ = some (.string es[k].name) ∧ w.cell? ⟨b, off + k * 2 + 1, none⟩ = some (.int .i64 es[k].no) := by
  obtain ⟨hl, -, -, h0 | ⟨b', off', he, hb, hel⟩⟩ := h.sl
  · omega
  · injection he with he
    injection he with e1 e2
    subst e1 e2
    obtain ⟨cs, h1, h2, h3⟩ := hel k hk
    subst h2
    exact ⟨h3 0 (by rw [entC_len]; omega), h3 1 (by rw [entC_len]; omega)⟩
theorem EntsAt.some_of {w : World} {a : Option Addr} {n c : Nat} {es : List En} (h : EntsAt w a n c es) (hn : 0 < n) : ∃ b off, a = some ⟨b, off, none⟩ ∧ b < w.heap.size := by
  obtain ⟨-, -, -, h0 | ⟨b', off', he, hb, -⟩⟩ := h.sl
  · omega
  · exact ⟨b', off', he, hb⟩

/-- a node's value. -/
def An.v (a : An) (ea : Option Addr) (el ec : Nat) : Value := .agg #[.int .i64 a.no, .int .i64 a.dev, .int .i64 a.kind, .int .i64 a.mode, .int .i64 a.uid, .int .i64 a.gid, .int .i64 a.mtime, .int .i64 a.ctime, .int .i64 a.links, .int .i64 a.up, .string a.data, .slice ea el ec]
def An.nd (a : An) (ea : Option Addr) (el ec : Nat) : Nd := ⟨a.no, a.dev, a.kind, a.mode, a.uid, a.gid, a.mtime, a.ctime, a.links, a.up, a.data, ea, el, ec⟩
theorem nd_v (a : An) (ea : Option Addr) (el ec : Nat) : (a.nd ea el ec).v = a.v ea el ec := rfl
structure Gn where
  a : An
  ea : Option Addr
  el : Nat
  ec : Nat
  clk : Nat
def Gn.nd (g : Gn) : Nd := g.a.nd g.ea g.el g.ec
def Gn.e (g : Gn) : Nd × Nat := (g.nd, g.clk)
def Dv.cs (d : Dv) : List Value := [.int .i64 d.root, .int .i64 d.over, .int .i64 d.b, .int .i64 d.n, .int .i64 d.mb, .int .i64 d.mn]
theorem Dv.cs_len (d : Dv) : d.cs.length = 6 := rfl
/-- where a world lies. -/
structure Rp where
  pt : Nat
  pm : Nat
  dv : Value
  G : List Gn
  clk : Nat
/-- the blocks that its methods write. -/
def Rp.F (R : Rp) (pw : Nat) (k : Nat) : Prop := k = pw ∨ k = R.pt ∨ k = R.pm ∨ R.dv.ownBlock = some k
/-- the tree S lies at pw, as R says. -/
structure WdAt (w : World) (pw : Nat) (R : Rp) (S : Fs) : Prop where
  blk : Blk w pw #[.pointer (some ⟨R.pt, 0, none⟩), R.dv] 65
  tab : Tab w R.pt R.pm S.last (R.G.map Gn.e) R.clk
  devs : w.ownsRow 0 166 6 R.dv S.ds.length (S.ds.flatMap Dv.cs)
  ns : S.ns = R.G.map (·.a)
  ents : ∀ g ∈ R.G, EntsAt w g.ea g.el g.ec g.a.ents
/-- from one world to the next one only such blocks have turned, and what it has more of them is new. -/
structure Stp (F F' : Nat → Prop) (w w' : World) : Prop where
  mod : Mod F w w'
  new : ∀ k, F' k → F k ∨ w.heap.size ≤ k
theorem Stp.refl (F : Nat → Prop) (w : World) : Stp F F w w := ⟨Mod.refl _ _, fun _ h => .inl h⟩
theorem Stp.of_below {F : Nat → Prop} {w w' : World} (h : Below w.heap.size w w') : Stp F F w w' := ⟨Mod.of_below h, fun _ h => .inl h⟩
theorem Stp.of_mod {F : Nat → Prop} {w w' : World} (h : Mod F w w') : Stp F F w w' := ⟨h, fun _ h => .inl h⟩
theorem Stp.trans {F F' F'' : Nat → Prop} {w w' w'' : World} (h : Stp F F' w w') (k : Stp F' F'' w' w'') : Stp F F'' w w'' :=
  ⟨⟨k.mod.os.trans h.mod.os, k.mod.tape.trans h.mod.tape, k.mod.output.trans h.mod.output, Nat.le_trans h.mod.size k.mod.size, fun i hi hs =>
      (k.mod.block i (Nat.lt_of_lt_of_le hi h.mod.size) (fun h' => (h.new i h').elim hs (fun hlt => by omega))).trans (h.mod.block i hi hs)⟩,
    fun i hi => (k.new i hi).elim (fun h' => h.new i h') (fun hlt => .inr (Nat.le_trans h.mod.size hlt))⟩
theorem Stp.below {F F' : Nat → Prop} {w w' : World} {N : Nat} (h : Stp F F' w w') (hF : ∀ k, F k → N ≤ k) (hN : N ≤ w.heap.size) : Below N w w' := h.mod.below hF hN
theorem Stp.above {F F' : Nat → Prop} {w w' : World} {N : Nat} (h : Stp F F' w w') (hF : ∀ k, F k → N ≤ k) (hN : N ≤ w.heap.size) : ∀ k, F' k → N ≤ k :=
  fun k hk => (h.new k hk).elim (hF k) (fun h' => Nat.le_trans hN h')
/-- such blocks are of these kinds. -/
def wdKind (o : Obj) : Bool := match o with
  | .cells _ t _ => t == 65 || t == 87 || t == 166
  | .map _ _ => true
  | _ => false
section

variable {w w' : World} {pw : Nat} {R : Rp} {S : Fs}

theorem WdAt.kind (h : WdAt w pw R S) {k : Nat} (hk : R.F pw k) : ∃ o, w.heap[k]? = some o ∧ wdKind o = true := by
  rcases hk with rfl | rfl | rfl | hk
  · exact ⟨_, h.blk, rfl⟩
  · exact ⟨_, h.tab.blk, rfl⟩
  · exact ⟨_, h.tab.map, rfl⟩
  · rcases h.devs.2 with ⟨h1, -⟩ | ⟨g, cap, cur, h1, -, hg, -⟩
    · rw [h1] at hk; cases hk
    · rw [h1] at hk
      simp only [Value.ownBlock, Option.some.injEq] at hk
      subst hk
      exact ⟨_, hg, rfl⟩
theorem WdAt.lt (h : WdAt w pw R S) {k : Nat} (hk : R.F pw k) : k < w.heap.size := by
  obtain ⟨o, ho, -⟩ := h.kind hk
  exact (Array.getElem?_eq_some_iff.1 ho).1
/-- entries stay where only a world's own blocks turn. -/
theorem EntsAt.wd {a : Option Addr} {n c : Nat} {es : List En} (he : EntsAt w a n c es) (h : WdAt w pw R S) {F' : Nat → Prop} (hs : Stp (R.F pw) F' w w') : EntsAt w' a n c es :=
  he.turn (fun b cur hc => hs.mod.block b (Array.getElem?_eq_some_iff.1 hc).1 (fun hk => by
    obtain ⟨o, ho, hd⟩ := h.kind hk
    rw [hc] at ho
    injection ho with ho
    subst ho
    rw [show wdKind (.cells cur 178 (0, 0)) = false from rfl] at hd
    cases hd)) hs.mod.size
/-- a block of another kind stays. -/
theorem Blk.wd {B : Nat} {vs : Array Value} {T : TypeId} (hb : Blk w B vs T) (h : WdAt w pw R S) {F' : Nat → Prop} (hs : Stp (R.F pw) F' w w') (hT : wdKind (.cells #[] T (0, 0)) = false) : Blk w' B vs T :=
  hb.mod hs.mod (fun hk => by
    obtain ⟨o, ho, hd⟩ := h.kind hk
    unfold Blk at hb
    rw [hb] at ho
    injection ho with ho
    subst ho
    rw [show wdKind (.cells vs T (0, 0)) = wdKind (.cells #[] T (0, 0)) from rfl, hT] at hd
    cases hd)
theorem WdAt.turn (h : WdAt w pw R S) (ht : ∀ (k : Nat) (o : Obj), w.heap[k]? = some o → (wdKind o = true ∨ ∃ cur, o = .cells cur 178 (0, 0)) → w'.heap[k]? = w.heap[k]?) (hs : w.heap.size ≤ w'.heap.size) : WdAt w' pw R S where
  blk := (ht _ _ h.blk (.inl rfl)).trans h.blk
  tab := ⟨(ht _ _ h.tab.blk (.inl rfl)).trans h.tab.blk, (ht _ _ h.tab.map (.inl rfl)).trans h.tab.map, h.tab.once, h.tab.low⟩
  devs := ⟨h.devs.1, h.devs.2.imp id fun ⟨g, cap, cur, h1, h2, hg, h3⟩ => ⟨g, cap, cur, h1, h2, (ht _ _ hg (.inl rfl)).trans hg, h3⟩⟩
  ns := h.ns
  ents := fun g hg => (h.ents g hg).turn (fun b cur hc => ht _ _ hc (.inr ⟨cur, rfl⟩)) hs
theorem WdAt.keep (h : WdAt w pw R S) (hb : Below w.heap.size w w') : WdAt w' pw R S :=
  h.turn (fun k o ho _ => hb.block k (Array.getElem?_eq_some_iff.1 ho).1) hb.size
/-- blocks of other kinds may turn. -/
theorem WdAt.mod (h : WdAt w pw R S) {F : Nat → Prop} (hm : Mod F w w') (hF : ∀ (k : Nat) (o : Obj), F k → w.heap[k]? = some o → wdKind o = false ∧ ∀ cur, o ≠ .cells cur 178 (0, 0)) : WdAt w' pw R S :=
  h.turn (fun k o ho hk => hm.block k (Array.getElem?_eq_some_iff.1 ho).1 (fun hf => by
    obtain ⟨h1, h2⟩ := hF k o hf ho
    rcases hk with hk | ⟨cur, hk⟩
    · rw [h1] at hk; cases hk
    · exact h2 cur hk)) hm.size
theorem findNd_G (G : List Gn) (k : Int) : findNd (G.map Gn.e) k = (G.find? (fun g => g.a.no == k)).map Gn.nd := by
  unfold findNd
  rw [List.find?_map]
  have : (fun x : Nd × Nat => x.1.no == k) ∘ Gn.e = fun g : Gn => g.a.no == k := rfl
  rw [this, Option.map_map]
  rfl
theorem get_G (h : WdAt w pw R S) (k : Int) : S.get k = (R.G.find? (fun g => g.a.no == k)).map (·.a) := by
  unfold Fs.get
  rw [h.ns, List.find?_map]
  rfl
end

end Go.Proofs.YtaojpbgaengdpaaGreat
