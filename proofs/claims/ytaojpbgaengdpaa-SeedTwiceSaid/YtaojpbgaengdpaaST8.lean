/- Texts of the proof, part 8. -/
import Derived.Test.YtaojpbgaengdpaaST2
import Derived.Test.YtaojpbgaengdpaaST3
import Derived.Test.YtaojpbgaengdpaaST7
set_option linter.unusedVariables false
set_option linter.unusedSimpArgs false
/- What the layers 10, 14, 15, 17, 20 and 21 compute over a tree of nodes, plainly. -/
namespace Go.Proofs.Ytaojpbgaengdpaa

open Go.RowKit

/-- may somebody (cu, cg) do all that is wanted? -/
def permB (cu cg uid gid mode want : Int) : Bool :=
  if cu = 0 then true else
    (bits .and .i64 (bits .and .i64 (if cu = uid then mode / 64 else if cg = gid then mode / 8 else mode) want) 7 == bits .and .i64 want 7)
structure Cr where
  u : Int
  g : Int
def An.may (a : An) (c : Cr) (want : Int) : Bool := permB c.u c.g a.uid a.gid a.mode want
def ownsB (c : Cr) (a : An) : Bool := (c.u == 0) || (c.u == a.uid)
def idB (u g : Int) : Bool := decide (0 ≤ u ∧ u ≤ 2147483648 ∧ 0 ≤ g ∧ g ≤ 2147483648)

def Fs.dev (S : Fs) (d : Int) : Option Dv := if 1 ≤ d then S.ds[(d - 1).toNat]? else none
def Fs.setDev (S : Fs) (d : Int) (v : Dv) : Fs := { S with ds := S.ds.set (d - 1).toNat v }
/-- a mount's root comes. -/
def Fs.addRoot (S : Fs) (over blocks nodes : Int) : Fs :=
  { ns := S.ns ++ [{ an0 with no := S.last + 1, dev := S.ds.length + 1, kind := 1, mode := 493, links := 1, up := S.last + 1 }]
    ds := S.ds ++ [⟨S.last + 1, over, 1, 1, blocks, nodes⟩]
    last := S.last + 1 }
def fs0 : Fs := ⟨[], [], 0⟩
def Fs.mount (S : Fs) (k blocks nodes : Int) : Fs × Int × Int :=
  match S.get k with
  | none => (S, 0, 5)
  | some a =>
    if a.kind ≠ 1 then (S, 0, 9)
    else if S.over k ≠ k ∨ S.root a.dev = k then (S, 0, 16)
    else if 8 ≤ S.ds.length ∨ limB blocks nodes = false then (S, 0, 3)
    else (S.addRoot k blocks nodes, S.last + 1, 0)
def Fs.above (S : Fs) (k : Int) : Int :=
  match S.get k with
  | none => 0
  | some a =>
    if a.kind ≠ 1 then 0
    else if S.root a.dev = k ∧ 1 < a.dev then
      (match S.dev a.dev with
       | none => 0
       | some v => match S.get v.over with | none => 0 | some b => b.up)
    else a.up
/-- a node comes on its mount. -/
def Fs.make (S : Fs) (a : An) : Fs × Int × Int :=
  if S.root a.dev = 0 then (S, 0, 1) else
  match S.dev a.dev with
  | none => (S, 0, 1)
  | some v =>
    let e := tkE v.b v.n v.mb v.mn (blkI a.kind a.data.size) 1
    if e = 0 then (((S.setDev a.dev { v with b := v.b + blkI a.kind a.data.size, n := v.n + 1 }).add a), S.last + 1, 0)
    else (S, 0, e)

/-- what a text says between slashes. -/
def partsL (l : List UInt8) : List (List UInt8) := (spl 47 l).filter fun p => !(p == []) && !(p == [46])
def slashB (l : List UInt8) : Bool := segL l == [] || segL l == [46] || segL l == [46, 46]
structure Fd where
  dir : Int
  name : ByteArray
  no : Int
  slash : Bool
def fd0 : Fd := ⟨0, ByteArray.empty, 0, false⟩
/-- one step of a trip: the number, the error. -/
def Fs.step (S : Fs) (c : Cr) (at' : Int) (p : List UInt8) : Int × Int :=
  match S.get at' with
  | none => (0, 9)
  | some d =>
    if d.kind ≠ 1 then (0, 9)
    else if d.may c 1 = false then (0, 6)
    else if p = [46, 46] then (S.above at', 0)
    else if 255 < p.length then (0, 13)
    else (S.over (entFind d.ents (str p)), 0)
def Fs.seekL (S : Fs) (c : Cr) (follow : Bool) (k : Option (Int → Bool → List (List UInt8) → Fd × Int)) : List (List UInt8) → Int → Bool → Fd × Int
  | [], at', _ => (⟨0, ByteArray.empty, at', true⟩, 0)
  | p :: l, at', must =>
    let r := S.step c at' p
    if r.2 ≠ 0 then (fd0, r.2)
    else if p = [46, 46] then S.seekL c follow k l r.1 must
    else match S.get r.1 with
    | none => if l = [] then (⟨at', str p, 0, must⟩, 0) else (fd0, 5)
    | some n =>
      if n.kind = 3 ∧ (l ≠ [] ∨ must = true ∨ follow = true) then
        (match k with
         | none => (fd0, 12)
         | some k =>
           if n.data.data.toList = [] then (fd0, 5)
           else k (if n.data.data.toList.head? = some 47 then 1 else at') (if l = [] then must || slashB n.data.data.toList else must) (partsL n.data.data.toList ++ l))
      else if n.kind ≠ 1 ∧ (l ≠ [] ∨ must = true) then (fd0, 9)
      else if l = [] then (⟨at', str p, r.1, must⟩, 0)
      else S.seekL c follow k l r.1 must
def Fs.seekH (S : Fs) (c : Cr) (follow : Bool) : Nat → Int → Bool → List (List UInt8) → Fd × Int
  | 0, at', must, l => S.seekL c follow none l at' must
  | h + 1, at', must, l => S.seekL c follow (some (S.seekH c follow h)) l at' must
def Fs.path (S : Fs) (c : Cr) (s : ByteArray) (follow : Bool) : Fd × Int :=
  if pathE s ≠ 0 then (fd0, pathE s) else S.seekH c follow 8 1 (slashB s.data.toList) (partsL s.data.toList)

/-- the error of a name. -/
def checkE (s : ByteArray) : Int :=
  if s.data.toList = [] ∨ s.data.toList = [46] ∨ s.data.toList = [46, 46] ∨ (47 : UInt8) ∈ s.data.toList ∨ (0 : UInt8) ∈ s.data.toList then 1 else if 255 < s.size then 13 else 0
/-- a directory in which names may come and go: the error. -/
def Fs.placeE (S : Fs) (c : Cr) (dir : Int) (s : ByteArray) : Int :=
  match S.get dir with
  | none => 5
  | some d => if d.kind ≠ 1 then 9 else if checkE s ≠ 0 then checkE s else if d.may c 3 = false then 6 else 0
def Fs.touch (S : Fs) (now dir : Int) (l : List En) : Fs :=
  match S.get dir with
  | none => S
  | some d => S.set { d with ents := l, mtime := now, ctime := now }
def Fs.come (S : Fs) (c : Cr) (now dir : Int) (s : ByteArray) (a : An) : Fs × Int × Int :=
  if S.placeE c dir s ≠ 0 then (S, 0, S.placeE c dir s) else
  match S.get dir with
  | none => (S, 0, 5)
  | some d =>
    if entFind d.ents s ≠ 0 then (S, 0, 7)
    else
      let r := S.make { a with dev := d.dev, uid := c.u, gid := c.g, mtime := now, ctime := now, links := 1 }
      if r.2.2 ≠ 0 then (S, 0, r.2.2)
      else (r.1.touch now dir (entPut d.ents s r.2.1), r.2.1, 0)
def Fs.mkdir (S : Fs) (c : Cr) (now dir : Int) (s : ByteArray) (mode : Int) : Fs × Int × Int :=
  if mode < 0 ∨ 1023 < mode then (S, 0, 1) else S.come c now dir s { an0 with kind := 1, mode := mode, up := dir }
def Fs.file (S : Fs) (c : Cr) (now dir : Int) (s : ByteArray) (mode : Int) (data : ByteArray) : Fs × Int × Int :=
  if mode < 0 ∨ 1023 < mode then (S, 0, 1) else if 1048576 < data.size then (S, 0, 3) else S.come c now dir s { an0 with kind := 2, mode := mode, data := data }
def Fs.sym (S : Fs) (c : Cr) (now dir : Int) (s text : ByteArray) : Fs × Int × Int :=
  if text.data.toList = [] ∨ (0 : UInt8) ∈ text.data.toList then (S, 0, 1) else if 4096 < text.size then (S, 0, 13) else S.come c now dir s { an0 with kind := 3, mode := 511, data := text }
def Fs.hard (S : Fs) (c : Cr) (now no dir : Int) (s : ByteArray) : Fs × Int :=
  if S.placeE c dir s ≠ 0 then (S, S.placeE c dir s) else
  match S.get dir, S.get no with
  | some d, some n =>
    if n.kind = 1 then (S, 4)
    else if entFind d.ents s ≠ 0 then (S, 7)
    else if n.dev ≠ d.dev then (S, 11)
    else if 1000 ≤ n.links then (S, 18)
    else ((S.set { n with links := n.links + 1, ctime := now }).touch now dir (entPut d.ents s no), 0)
  | _, _ => (S, 5)
def Fs.chmod (S : Fs) (c : Cr) (now no mode : Int) : Fs × Int :=
  match S.get no with
  | none => (S, 5)
  | some n => if ownsB c n = false then (S, 4) else if mode < 0 ∨ 1023 < mode ∨ n.kind = 3 then (S, 1) else (S.set { n with mode := mode, ctime := now }, 0)
def Fs.chown (S : Fs) (c : Cr) (now no u g : Int) : Fs × Int :=
  match S.get no with
  | none => (S, 5)
  | some n => if ownsB c n = false then (S, 4) else if c.u ≠ 0 then (S, 4) else if idB u g = false then (S, 1) else (S.set { n with uid := u, gid := g, ctime := now }, 0)
def Fs.utime (S : Fs) (c : Cr) (now no t : Int) : Fs × Int :=
  match S.get no with
  | none => (S, 5)
  | some n => if ownsB c n = false then (S, 4) else if t < 0 ∨ 253402300799 < t then (S, 1) else (S.set { n with mtime := t, ctime := now }, 0)

/-- a tree with a clock, whose changes may fail. -/
structure Sy where
  fs : Fs
  now : Int
  count : Int
  plan : List (Int × Int)
  dead : Bool
/-- does the next change go? -/
def Sy.change (Y : Sy) : Sy × Int :=
  if Y.dead then (Y, 20) else
  match Y.plan.find? (fun x => x.1 == Y.count + 1) with
  | none => ({ Y with count := Y.count + 1 }, 0)
  | some x => ({ Y with count := Y.count + 1, dead := x.2 == 20 }, x.2)
end Go.Proofs.Ytaojpbgaengdpaa
