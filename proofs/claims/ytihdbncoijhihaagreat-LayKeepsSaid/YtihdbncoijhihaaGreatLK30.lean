/- Texts of the proof, part 30. -/
import Derived.Test.YtihdbncoijhihaaGreatLK28
import Derived.Test.YtihdbncoijhihaaGreatLK7
import Derived.Test.YtihdbncoijhihaaGreatLK29
import Derived.Test.YtihdbncoijhihaaGreatLK25
import Derived.Test.YtihdbncoijhihaaGreatLK11
import Derived.Test.YtihdbncoijhihaaGreatLK8
import Derived.Test.YtihdbncoijhihaaGreatLK24
import Derived.Test.YtihdbncoijhihaaGreatLK22
set_option linter.unusedVariables false
set_option linter.unusedSimpArgs false
/- Trash cans (layers 30 to 32), purely: a directory of one's own, where cans may be, which are there, what they keep; how they are made. -/
namespace Go.Proofs.YtihdbncoijhihaaGreat

open Go.RowKit

structure Us where
  u : Int
  g : Int
  data : ByteArray
def Us.c (x : Us) : Cr := ⟨x.u, x.g⟩
def Us.v (x : Us) : Value := .agg #[.int .i64 x.u, .int .i64 x.g, .string x.data]
/-- a place where a can may be. -/
structure Plc where
  dir : Int
  name : ByteArray
  top : ByteArray
/-- a can. -/
structure Cn where
  path : ByteArray
  dir : Int
  info : Int
  files : Int
  out : Int
  way : Int
  top : ByteArray
  deriving DecidableEq
def cn0 : Cn := ⟨ByteArray.empty, 0, 0, 0, 0, 0, ByteArray.empty⟩
def nHome : ByteArray := ByteArray.mk #[84, 114, 97, 115, 104]
def nShared : ByteArray := ByteArray.mk #[46, 84, 114, 97, 115, 104]
def nInfo : ByteArray := ByteArray.mk #[105, 110, 102, 111]
def nFiles : ByteArray := ByteArray.mk #[102, 105, 108, 101, 115]
def nOut : ByteArray := ByteArray.mk #[101, 120, 112, 117, 110, 103, 101, 100]
def nWay : ByteArray := ByteArray.mk #[109, 111, 118, 105, 110, 103]
def nDiary : ByteArray := ByteArray.mk #[114, 97, 103, 112, 105, 99, 107, 101, 114, 46, 117, 110, 100, 111]
/-- the node of a name in a directory (d: nothing goes). -/
def Fs.lookF (S : Fs) (d : Bool) (c : Cr) (dir : Int) (n : ByteArray) : Int × Int :=
  if d = true then (0, 20) else if S.openE c dir 1 1 ≠ 0 then (0, S.openE c dir 1 1)
  else if entFind (S.entsOf dir) n = 0 then (0, 5) else (S.over (entFind (S.entsOf dir) n), 0)
def ownV (c : Cr) (x y : An) (no : Int) : Int × Int :=
  if x.kind ≠ 1 then (0, 9) else if x.dev ≠ y.dev then (0, 16) else if x.uid ≠ c.u then (0, 4) else if x.may c 7 = false then (0, 6) else (no, 0)
def Fs.ownF (S : Fs) (d : Bool) (c : Cr) (dir : Int) (n : ByteArray) : Int × Int :=
  if (S.lookF d c dir n).2 = 5 then (0, 0) else if (S.lookF d c dir n).2 ≠ 0 then (0, (S.lookF d c dir n).2)
  else ownV c (S.getZ (S.lookF d c dir n).1) (S.getZ dir) (S.lookF d c dir n).1
def Fs.dataF (S : Fs) (d : Bool) (u : Us) : Int × Int :=
  if d = true then (0, 20) else if (S.path u.c u.data true).2 ≠ 0 then (0, (S.path u.c u.data true).2)
  else if (S.path u.c u.data true).1.no = 0 then (0, 5) else if (S.getZ (S.path u.c u.data true).1.no).kind ≠ 1 then (0, 9) else ((S.path u.c u.data true).1.no, 0)
def comV (x y : An) (no : Int) : Int × Int :=
  if x.kind ≠ 1 then (0, 9) else if x.dev ≠ y.dev then (0, 16) else if x.mode < 512 then (0, 4) else (no, 0)
def Fs.commonF (S : Fs) (d : Bool) (c : Cr) (top : Int) : Int × Int :=
  if (S.lookF d c top nShared).2 ≠ 0 then (0, (S.lookF d c top nShared).2)
  else comV (S.getZ (S.lookF d c top nShared).1) (S.getZ top) (S.lookF d c top nShared).1
def decB (n : Int) : ByteArray := str (decL n)
def nSharedU (u : Int) : ByteArray := ByteArray.mk #[46, 84, 114, 97, 115, 104, 45] ++ decB u
def Fs.placesF (S : Fs) (d : Bool) (u : Us) (top : Int) (path : ByteArray) : List Plc :=
  (if (S.commonF d u.c top).2 = 0 then [⟨(S.commonF d u.c top).1, decB u.u, path⟩] else []) ++ [⟨top, nSharedU u.u, path⟩]
/-- what must be there. -/
def thereV (r : Int × Int) : Int × Int := if r.2 = 0 ∧ r.1 = 0 then (0, 5) else r
/-- a can, part by part: what is left to look up. -/
def Fs.openK0 (S : Fs) (dir : Int) (top : ByteArray) (i f o y : Int) : Cn × Int := match S.place_ dir with
  | none => (cn0, 5)
  | some s => (⟨s, dir, i, f, o, y, top⟩, 0)
def Fs.openK1 (S : Fs) (d : Bool) (c : Cr) (dir : Int) (top : ByteArray) (i f o : Int) : Cn × Int :=
  if (S.ownF d c dir nWay).2 ≠ 0 then (cn0, (S.ownF d c dir nWay).2) else S.openK0 dir top i f o (S.ownF d c dir nWay).1
def Fs.openK2 (S : Fs) (d : Bool) (c : Cr) (dir : Int) (top : ByteArray) (i f : Int) : Cn × Int :=
  if (S.ownF d c dir nOut).2 ≠ 0 then (cn0, (S.ownF d c dir nOut).2) else S.openK1 d c dir top i f (S.ownF d c dir nOut).1
def Fs.openK3 (S : Fs) (d : Bool) (c : Cr) (dir : Int) (top : ByteArray) (i : Int) : Cn × Int :=
  if (thereV (S.ownF d c dir nFiles)).2 ≠ 0 then (cn0, (thereV (S.ownF d c dir nFiles)).2) else S.openK2 d c dir top i (thereV (S.ownF d c dir nFiles)).1
def Fs.openK4 (S : Fs) (d : Bool) (c : Cr) (dir : Int) (top : ByteArray) : Cn × Int :=
  if (thereV (S.ownF d c dir nInfo)).2 ≠ 0 then (cn0, (thereV (S.ownF d c dir nInfo)).2) else S.openK3 d c dir top (thereV (S.ownF d c dir nInfo)).1
def Fs.openF (S : Fs) (d : Bool) (u : Us) (p : Plc) : Cn × Int :=
  if (thereV (S.ownF d u.c p.dir p.name)).2 ≠ 0 then (cn0, (thereV (S.ownF d u.c p.dir p.name)).2) else S.openK4 d u.c (thereV (S.ownF d u.c p.dir p.name)).1 p.top
theorem thereV_0 {no : Int} (h : no ≠ 0) : thereV (no, 0) = (no, 0) := by
  unfold thereV
  rw [if_neg (by simpa using h)]
theorem thereV_z : thereV (0, 0) = (0, 5) := rfl
theorem thereV_e (no : Int) {e : Int} (h : e ≠ 0) : thereV (no, e) = (no, e) := by
  unfold thereV
  rw [if_neg (fun k => h k.1)]
/-- a can more, if it is not there. -/
def putCn (l : List Cn) (x : Cn) : List Cn := if l.any (fun y => y.dir == x.dir) = true then l else l ++ [x]
def Fs.addCn (S : Fs) (d : Bool) (u : Us) (l : List Cn) (p : Plc) : List Cn := if (S.openF d u p).2 = 0 then putCn l (S.openF d u p).1 else l
def Fs.homeL (S : Fs) (d : Bool) (u : Us) : List Cn :=
  if (S.dataF d u).2 = 0 then (if (S.openF d u ⟨(S.dataF d u).1, nHome, ByteArray.empty⟩).2 = 0 then [(S.openF d u ⟨(S.dataF d u).1, nHome, ByteArray.empty⟩).1] else []) else []
def Fs.topCn (S : Fs) (d : Bool) (u : Us) (l : List Cn) (t : Int × ByteArray) : List Cn := (S.placesF d u t.1 t.2).foldl (S.addCn d u) l
def Fs.allCn (S : Fs) (d : Bool) (u : Us) : List Cn := S.topsL.foldl (S.topCn d u) (S.homeL d u)
def Fs.keepsF (S : Fs) (d : Bool) (u : Us) (no dir : Int) (n : ByteArray) : Int :=
  if (S.allCn d u).any (fun x => S.within x.dir no || S.within dir x.dir) = true then 17
  else if (S.dataF d u).2 = 0 ∧ (S.within (S.dataF d u).1 no = true ∨ dir = (S.dataF d u).1 ∧ n = nDiary) then 17 else 0
def Fs.homeP (S : Fs) (d : Bool) (u : Us) : List ByteArray :=
  if (S.dataF d u).2 = 0 then (match S.place_ (S.dataF d u).1 with | some s => [belowB s nHome] | none => []) else []
def pathP (u : Us) (t : Int × ByteArray) : List ByteArray := [belowB (belowB t.2 nShared) (decB u.u), belowB t.2 (nSharedU u.u)]
def Fs.pathsF (S : Fs) (d : Bool) (u : Us) : List ByteArray := S.homeP d u ++ S.topsL.flatMap (pathP u)

/-- all that holds of a planted tree, and stays so. -/
structure Fine (S : Fs) (N : Nat) : Prop where
  ok : FsOk S N
  pl : Pl S
  tr : Tr S
  wy : Wy S
  nm : Nm S
theorem plant_fine (ms : List Mt) (is : List It) : Fine (plantF ms is) (1 + 2 * ms.length + is.length) := ⟨plant_ok ms is, plant_pl ms is, plant_tr ms is, plant_wy ms is, plant_nm ms is⟩
theorem Fine.mkdir {S : Fs} {N : Nat} (h : Fine S N) (c : Cr) (now dir : Int) (s : ByteArray) (m : Int) : Fine (S.mkdir c now dir s m).1 (N + 1) :=
  ⟨mkdir_ok h.ok c now dir s m, h.pl.mkdir h.ok c now dir s m, h.tr.mkdir h.ok c now dir s m, h.wy.mkdir h.ok h.tr c now dir s m, h.nm.mkdir c now dir s m⟩
theorem Fine.file {S : Fs} {N : Nat} (h : Fine S N) (c : Cr) (now dir : Int) (s : ByteArray) (m : Int) (t : ByteArray) : Fine (S.file c now dir s m t).1 (N + 1) :=
  ⟨file_ok h.ok c now dir s m t, h.pl.file h.ok c now dir s m t, h.tr.file h.ok c now dir s m t, h.wy.file h.ok h.tr c now dir s m t, h.nm.file c now dir s m t⟩
theorem Fine.mono {S : Fs} {N M : Nat} (h : Fine S N) (hM : N ≤ M) : Fine S M := ⟨h.ok.mono hM, h.pl, h.tr, h.wy, h.nm⟩

theorem getZ_cases (S : Fs) (k : Int) : (∃ a, S.get k = some a ∧ S.getZ k = a) ∨ (S.get k = none ∧ S.getZ k = an0) := by
  cases hg : S.get k with
  | none => exact .inr ⟨rfl, getZ_none hg⟩
  | some a => exact .inl ⟨a, rfl, getZ_some hg⟩
theorem getZ_ents (S : Fs) (k : Int) : (S.getZ k).ents = S.entsOf k := by
  unfold Fs.getZ Fs.entsOf
  cases S.get k <;> rfl
/-- the directory above one is there. -/
theorem above_there {S : Fs} {N : Nat} (hk : FsOk S N) (hp : Pl S) (hw : Wy S) {k : Int} {a : An} (hg : S.get k = some a) (hd : a.kind = 1) : ∃ b, S.get (S.above k) = some b := by
  unfold Fs.above
  rw [hg]
  dsimp only
  rw [if_neg (by omega)]
  by_cases hr : S.root a.dev = k ∧ 1 < a.dev
  · rw [if_pos hr]
    have h8 := (hk.get hg).1.dev
    obtain ⟨v, hv, hi⟩ := dev_of h8.1 h8.2
    obtain ⟨hlt, he⟩ := List.getElem?_eq_some_iff.1 hi
    obtain ⟨b, hb, hbk, -⟩ := hp.over _ hlt (by omega)
    rw [he] at hb
    obtain ⟨x, hx, -⟩ := hw.ud b (an_mem hb) hbk
    exact ⟨x, by rw [hv]; dsimp only; rw [hb]; exact hx⟩
  · rw [if_neg hr]
    obtain ⟨x, hx, -⟩ := hw.ud a (an_mem hg) hd
    exact ⟨x, hx⟩
/-- what a trip ends at is there. -/
def Ends (S : Fs) (x : Fd × Int) : Prop := x.2 = 0 → x.1.no ≠ 0 → ∃ a, S.get x.1.no = some a
theorem ends_bad (S : Fs) {e : Int} (x : Fd) (h : e ≠ 0) : Ends S (x, e) := fun h' => absurd h' h
theorem seekL_ends {S : Fs} {N : Nat} (hk : FsOk S N) (hp : Pl S) (hw : Wy S) (c : Cr) (f : Bool) (k : Option (Int → Bool → List (List UInt8) → Fd × Int))
    (hkk : ∀ g, k = some g → ∀ at' must l, (∃ a, S.get at' = some a) → Ends S (g at' must l)) :
    ∀ (l : List (List UInt8)) (at' : Int) (must : Bool), (∃ a, S.get at' = some a) → Ends S (S.seekL c f k l at' must)
  | [], at', must, h => fun _ _ => h
  | p :: l, at', must, h => by
    rw [Fs.seekL]
    split
    · rename_i h2
      exact ends_bad S _ h2
    · rename_i h2
      have h2' : (S.step c at' p).2 = 0 := by simpa using h2
      split
      · rename_i hpp
        refine seekL_ends hk hp hw c f k hkk l _ must ?_
        obtain ⟨a, ha⟩ := h
        unfold Fs.step at h2' ⊢
        rw [ha] at h2' ⊢
        dsimp only at h2' ⊢
        by_cases hd : a.kind = 1
        · rw [if_neg (by omega)] at h2' ⊢
          by_cases hm : a.may c 1 = false
          · rw [if_pos hm] at h2'
            cases h2'
          · rw [if_neg hm, if_pos hpp]
            exact above_there hk hp hw ha hd
        · rw [if_pos hd] at h2'
          cases h2'
      · split
        · split
          · exact fun _ h0 => absurd rfl h0
          · exact ends_bad S _ (by decide)
        · rename_i n hn
          split
          · split
            · exact ends_bad S _ (by decide)
            · rename_i g hgk
              split
              · exact ends_bad S _ (by decide)
              · refine hkk _ rfl _ _ _ ?_
                split
                · obtain ⟨a, ha, -⟩ := hp.one
                  exact ⟨a, ha⟩
                · exact h
          · split
            · exact ends_bad S _ (by decide)
            · split
              · exact fun _ _ => ⟨n, hn⟩
              · exact seekL_ends hk hp hw c f k hkk l _ must ⟨n, hn⟩
theorem seekH_ends {S : Fs} {N : Nat} (hk : FsOk S N) (hp : Pl S) (hw : Wy S) (c : Cr) (f : Bool) : ∀ (h : Nat) (at' : Int) (must : Bool) (l : List (List UInt8)), (∃ a, S.get at' = some a) → Ends S (S.seekH c f h at' must l)
  | 0, at', must, l, ha => seekL_ends hk hp hw c f none (fun _ h => by cases h) l at' must ha
  | h + 1, at', must, l, ha => seekL_ends hk hp hw c f _ (fun g hg at2 must2 l2 h2 => by
    injection hg with hg
    subst hg
    exact seekH_ends hk hp hw c f h at2 must2 l2 h2) l at' must ha
theorem path_ends {S : Fs} {N : Nat} (hk : FsOk S N) (hp : Pl S) (hw : Wy S) (c : Cr) (s : ByteArray) (f : Bool) : Ends S (S.path c s f) := by
  unfold Fs.path
  split
  · rename_i h
    exact ends_bad S _ h
  · obtain ⟨a, ha, -⟩ := hp.one
    exact seekH_ends hk hp hw c f 8 1 _ _ ⟨a, ha⟩
end Go.Proofs.YtihdbncoijhihaaGreat

/- Cans are made ready (layer 31), purely; all that was there stays, but for the times of directories. -/
namespace Go.Proofs.YtihdbncoijhihaaGreat

open Go.RowKit

def Sy.dirF (Y : Sy) (u : Us) (dir : Int) (n : ByteArray) : Sy × Int × Int :=
  if (Y.fs.ownF Y.dead u.c dir n).2 = 0 ∧ (Y.fs.ownF Y.dead u.c dir n).1 = 0 then Y.op (fun S now => S.mkdir u.c now dir n 448) else (Y, Y.fs.ownF Y.dead u.c dir n)
def Sy.dirsF (Y : Sy) (u : Us) (dir : Int) : List ByteArray → Sy × Int
  | [] => (Y, 0)
  | n :: l => if (Y.dirF u dir n).2.2 ≠ 0 then ((Y.dirF u dir n).1, (Y.dirF u dir n).2.2) else (Y.dirF u dir n).1.dirsF u dir l
def partNs : List ByteArray := [nInfo, nFiles, nOut, nWay]
def Sy.readyF (Y : Sy) (u : Us) (p : Plc) : Sy × Cn × Int :=
  let r := Y.dirF u p.dir p.name
  if r.2.2 ≠ 0 then (r.1, cn0, r.2.2) else
  let q := r.1.dirsF u r.2.1 partNs
  if q.2 ≠ 0 then (q.1, cn0, q.2) else (q.1, q.1.fs.openF q.1.dead u p)
/-- places are tried: the tree, whether one was taken, the can, the last error. -/
def Sy.triesF (Y : Sy) (u : Us) : List Plc → Int → Sy × Bool × Cn × Int
  | [], e => (Y, false, cn0, e)
  | p :: l, _ => if (Y.readyF u p).2.2 = 0 ∨ (Y.readyF u p).1.dead = true then ((Y.readyF u p).1, true, (Y.readyF u p).2.1, (Y.readyF u p).2.2) else (Y.readyF u p).1.triesF u l (Y.readyF u p).2.2
def Sy.homeF (Y : Sy) (u : Us) (top : Int) : List Plc :=
  if (Y.fs.dataF Y.dead u).2 = 0 ∧ Y.fs.root (Y.fs.getZ (Y.fs.dataF Y.dead u).1).dev = top then [⟨(Y.fs.dataF Y.dead u).1, nHome, ByteArray.empty⟩] else []
def Sy.chooseF (Y : Sy) (u : Us) (no : Int) : Sy × Cn × Int :=
  let t := Y.fs.topF no
  if t.2.2 ≠ 0 then (Y, cn0, t.2.2) else
  let h := Y.fs.dataF Y.dead u
  let a := Y.triesF u (Y.homeF u t.1) 0
  if a.2.1 = true then (a.1, a.2.2) else
  let b := a.1.triesF u (a.1.fs.placesF a.1.dead u t.1 t.2.1) a.2.2.2
  if b.2.1 = true then (b.1, b.2.2) else
  if h.2 ≠ 0 then (b.1, cn0, b.2.2.2) else b.1.readyF u ⟨h.1, nHome, ByteArray.empty⟩

/-- what always holds of a tree with a clock: N bounds the nodes and the changes. -/
structure SyOk (Y : Sy) (N : Nat) : Prop where
  fine : Fine Y.fs N
  c0 : 0 ≤ Y.count
  cN : Y.count ≤ N
  pl : Y.plan.length ≤ 1000
theorem SyOk.mono {Y : Sy} {N M : Nat} (h : SyOk Y N) (hM : N ≤ M) : SyOk Y M := ⟨h.fine.mono hM, h.c0, by have := h.cN; omega, h.pl⟩
theorem change_count (Y : Sy) : Y.change.1.count = Y.count ∨ Y.change.1.count = Y.count + 1 := by
  unfold Sy.change
  split
  · exact .inl rfl
  · split <;> exact .inr rfl
theorem SyOk.change {Y : Sy} {N : Nat} (h : SyOk Y N) : SyOk Y.change.1 (N + 1) := by
  obtain ⟨h1, h2, h3⟩ := change_fs Y
  refine ⟨by rw [h1]; exact h.fine.mono (by omega), ?_, ?_, by rw [h3]; exact h.pl⟩ <;>
  · have := h.c0
    have := h.cN
    rcases change_count Y with e | e <;> rw [e] <;> omega
theorem SyOk.op {Y : Sy} {N : Nat} (h : SyOk Y N) {g : Fs → Int → Fs × Int × Int} (hg : Fine (g Y.fs Y.now).1 (N + 1)) : SyOk (Y.op g).1 (N + 1) := by
  have hc := h.change
  unfold Sy.op
  split
  · exact hc
  · exact ⟨hg, hc.c0, hc.cN, hc.pl⟩
theorem SyOk.dirF {Y : Sy} {N : Nat} (h : SyOk Y N) (u : Us) (dir : Int) (n : ByteArray) : SyOk (Y.dirF u dir n).1 (N + 1) := by
  unfold Sy.dirF
  split
  · exact h.op (h.fine.mkdir _ _ _ _ _)
  · exact h.mono (by omega)
theorem SyOk.dirsF {u : Us} {dir : Int} : ∀ {l : List ByteArray} {Y : Sy} {N : Nat}, SyOk Y N → SyOk (Y.dirsF u dir l).1 (N + l.length)
  | [], _, _, h => h
  | n :: l, Y, N, h => by
    rw [Sy.dirsF]
    split
    · exact (h.dirF u dir n).mono (by simp)
    · have := (h.dirF u dir n).dirsF (u := u) (dir := dir) (l := l)
      exact this.mono (by simp; omega)
theorem SyOk.readyF {Y : Sy} {N : Nat} (h : SyOk Y N) (u : Us) (p : Plc) : SyOk (Y.readyF u p).1 (N + 5) := by
  unfold Sy.readyF
  dsimp only
  have h1 := h.dirF u p.dir p.name
  split
  · exact h1.mono (by omega)
  · have h2 := h1.dirsF (u := u) (dir := (Y.dirF u p.dir p.name).2.1) (l := partNs)
    have h3 : N + 1 + partNs.length = N + 5 := rfl
    rw [h3] at h2
    split <;> exact h2
theorem SyOk.triesF {u : Us} : ∀ {l : List Plc} {Y : Sy} {N : Nat} (e : Int), SyOk Y N → SyOk (Y.triesF u l e).1 (N + 5 * l.length)
  | [], _, _, _, h => h
  | p :: l, Y, N, e, h => by
    rw [Sy.triesF]
    split
    · exact (h.readyF u p).mono (by simp; omega)
    · exact ((h.readyF u p).triesF (u := u) (l := l) _).mono (by simp; omega)
theorem places_len (S : Fs) (d : Bool) (u : Us) (top : Int) (path : ByteArray) : 1 ≤ (S.placesF d u top path).length ∧ (S.placesF d u top path).length ≤ 2 := by
  unfold Fs.placesF
  split <;> simp
theorem home_len (Y : Sy) (u : Us) (top : Int) : (Y.homeF u top).length ≤ 1 := by
  unfold Sy.homeF
  split <;> simp
theorem SyOk.chooseF {Y : Sy} {N : Nat} (h : SyOk Y N) (u : Us) (no : Int) : SyOk (Y.chooseF u no).1 (N + 20) := by
  unfold Sy.chooseF
  dsimp only
  have h1 := home_len Y u (Y.fs.topF no).1
  have h2 := h.triesF (u := u) (l := Y.homeF u (Y.fs.topF no).1) 0
  split
  · exact h.mono (by omega)
  · split
    · exact h2.mono (by omega)
    · generalize Y.triesF u (Y.homeF u (Y.fs.topF no).1) 0 = a at h2 ⊢
      have h3 := (places_len a.1.fs a.1.dead u (Y.fs.topF no).1 (Y.fs.topF no).2.1).2
      have h4 := h2.triesF (u := u) (l := a.1.fs.placesF a.1.dead u (Y.fs.topF no).1 (Y.fs.topF no).2.1) a.2.2.2
      split
      · exact h4.mono (by omega)
      · split
        · exact h4.mono (by omega)
        · exact (h4.readyF u _).mono (by omega)

/-- all that was there is there, as it was, but for the times of directories. -/
structure Keep1 (a b : An) : Prop where
  kind : b.kind = a.kind
  mode : b.mode = a.mode
  uid : b.uid = a.uid
  data : b.data = a.data
  links : b.links = a.links
  ents : a.ents.length ≤ b.ents.length
  ctime : a.kind ≠ 1 → b.ctime = a.ctime
def Keep (S S' : Fs) : Prop := ∀ k a, S.get k = some a → ∃ b, S'.get k = some b ∧ Keep1 a b
theorem Keep1.refl (a : An) : Keep1 a a := ⟨rfl, rfl, rfl, rfl, rfl, Nat.le_refl _, fun _ => rfl⟩
theorem Keep.refl (S : Fs) : Keep S S := fun _ a h => ⟨a, h, .refl a⟩
theorem Keep.trans {A B C : Fs} (h : Keep A B) (k : Keep B C) : Keep A C := fun n a ha => by
  obtain ⟨b, hb, h1⟩ := h n a ha
  obtain ⟨c, hc, h2⟩ := k n b hb
  exact ⟨c, hc, h2.kind.trans h1.kind, h2.mode.trans h1.mode, h2.uid.trans h1.uid, h2.data.trans h1.data, h2.links.trans h1.links, Nat.le_trans h1.ents h2.ents, fun hk => (h2.ctime (by rw [h1.kind]; exact hk)).trans (h1.ctime hk)⟩
theorem put_more {l : List En} (h : Rise l) (n : ByteArray) (no : Int) : l.length ≤ (entPut l n no).length := by
  rw [put_at h]
  have := entAt_le l n
  simp only [List.length_append, List.length_take, List.length_cons, List.length_drop]
  split <;> omega
theorem Keep.come {S : Fs} {N : Nat} (hk : FsOk S N) (c : Cr) (now dir : Int) (s : ByteArray) (a : An) : Keep S (S.come c now dir s a).1 := by
  unfold Fs.come
  split
  · exact .refl S
  · rename_i hpe
    have hpe' : S.placeE c dir s = 0 := by simpa using hpe
    split
    · exact .refl S
    · rename_i d hd
      split
      · exact .refl S
      · dsimp only
        split
        · exact .refl S
        · obtain ⟨d', hd', hdk, -⟩ := place_check hpe'
          obtain rfl : d = d' := by rw [hd] at hd'; exact Option.some.inj hd'
          intro k x hx
          have h1 := get_make hk { a with dev := d.dev, uid := c.u, gid := c.g, mtime := now, ctime := now, links := 1 } hx
          have h2 := get_make hk { a with dev := d.dev, uid := c.u, gid := c.g, mtime := now, ctime := now, links := 1 } hd
          generalize S.make { a with dev := d.dev, uid := c.u, gid := c.g, mtime := now, ctime := now, links := 1 } = m at h1 h2 ⊢
          unfold Fs.touch
          rw [h2]
          dsimp only
          have hno := an_no hd
          rw [an_set (b := d) (by dsimp only; rw [hno]; exact h2)]
          dsimp only
          by_cases he : k = d.no
          · rw [if_pos he]
            have hxd : x = d := by
              rw [he, hno, h2] at h1
              exact (Option.some.inj h1).symm
            subst hxd
            refine ⟨_, rfl, rfl, rfl, rfl, rfl, rfl, put_more (hk.get hd).1.rise _ _, fun hne => absurd hdk hne⟩
          · rw [if_neg he]
            exact ⟨x, h1, .refl x⟩
theorem Keep.mkdir {S : Fs} {N : Nat} (hk : FsOk S N) (c : Cr) (now dir : Int) (s : ByteArray) (m : Int) : Keep S (S.mkdir c now dir s m).1 := by
  unfold Fs.mkdir
  split
  · exact .refl S
  · exact Keep.come hk c now dir s _
theorem Keep.op {Y : Sy} {g : Fs → Int → Fs × Int × Int} (hg : Keep Y.fs (g Y.fs Y.now).1) : Keep Y.fs (Y.op g).1.fs := by
  unfold Sy.op
  split
  · rw [(change_fs Y).1]
    exact .refl _
  · exact hg
theorem Keep.dirF {Y : Sy} {N : Nat} (h : SyOk Y N) (u : Us) (dir : Int) (n : ByteArray) : Keep Y.fs (Y.dirF u dir n).1.fs := by
  unfold Sy.dirF
  split
  · exact Keep.op (Keep.mkdir h.fine.ok _ _ _ _ _)
  · exact .refl _
theorem Keep.dirsF {u : Us} {dir : Int} : ∀ {l : List ByteArray} {Y : Sy} {N : Nat}, SyOk Y N → Keep Y.fs (Y.dirsF u dir l).1.fs
  | [], Y, _, _ => .refl Y.fs
  | n :: l, Y, N, h => by
    rw [Sy.dirsF]
    split
    · exact Keep.dirF h u dir n
    · exact (Keep.dirF h u dir n).trans (Keep.dirsF (h.dirF u dir n))
theorem Keep.readyF {Y : Sy} {N : Nat} (h : SyOk Y N) (u : Us) (p : Plc) : Keep Y.fs (Y.readyF u p).1.fs := by
  unfold Sy.readyF
  dsimp only
  have h1 := Keep.dirF h u p.dir p.name
  have h2 := Keep.dirsF (u := u) (dir := (Y.dirF u p.dir p.name).2.1) (l := partNs) (h.dirF u p.dir p.name)
  split
  · exact h1
  · split <;> exact h1.trans h2
theorem Keep.triesF {u : Us} : ∀ {l : List Plc} {Y : Sy} {N : Nat} (e : Int), SyOk Y N → Keep Y.fs (Y.triesF u l e).1.fs
  | [], Y, _, _, _ => .refl Y.fs
  | p :: l, Y, N, e, h => by
    rw [Sy.triesF]
    split
    · exact Keep.readyF h u p
    · exact (Keep.readyF h u p).trans (Keep.triesF _ (h.readyF u p))
theorem Keep.chooseF {Y : Sy} {N : Nat} (h : SyOk Y N) (u : Us) (no : Int) : Keep Y.fs (Y.chooseF u no).1.fs := by
  unfold Sy.chooseF
  dsimp only
  have h2 := h.triesF (u := u) (l := Y.homeF u (Y.fs.topF no).1) 0
  have k2 := Keep.triesF (u := u) (l := Y.homeF u (Y.fs.topF no).1) 0 h
  split
  · exact .refl _
  · split
    · exact k2
    · generalize Y.triesF u (Y.homeF u (Y.fs.topF no).1) 0 = a at h2 k2 ⊢
      have h4 := h2.triesF (u := u) (l := a.1.fs.placesF a.1.dead u (Y.fs.topF no).1 (Y.fs.topF no).2.1) a.2.2.2
      have k4 := k2.trans (Keep.triesF (u := u) (l := a.1.fs.placesF a.1.dead u (Y.fs.topF no).1 (Y.fs.topF no).2.1) a.2.2.2 h2)
      split
      · exact k4
      · split
        · exact k4
        · exact k4.trans (Keep.readyF h4 u _)
end Go.Proofs.YtihdbncoijhihaaGreat

/- Cans are made ready (layer 31): nothing is dead where nothing failed; what it is that a tree has turned. -/
namespace Go.Proofs.YtihdbncoijhihaaGreat

open Go.RowKit

/-- the tree has turned. -/
def Goes (w w' : World) (pf pw : Nat) (R : Rp) (pv : Value) (Z : Sy) : Prop := ∃ R', SyAt w' pf pw R' pv Z ∧ Stp (R.Y pf pw) (R'.Y pf pw) w w'
section

variable {w w' w'' : World} {pf pw : Nat} {R R' : Rp} {pv : Value} {Y Z : Sy}

theorem Goes.of (h : SyAt w pf pw R pv Y) (hb : Below w.heap.size w w') : Goes w w' pf pw R pv Y := ⟨R, h.keep hb, Stp.of_below hb⟩
theorem Goes.below (h : Goes w w' pf pw R pv Z) (hb : Below w'.heap.size w' w'') : Goes w w'' pf pw R pv Z := by
  obtain ⟨R', h1, h2⟩ := h
  exact ⟨R', h1.keep hb, h2.trans (Stp.of_below hb)⟩
end

end Go.Proofs.YtihdbncoijhihaaGreat
