/- Texts of the proof, part 27. -/
import Derived.Test.YtihdbncoijhihaaGreatCK25
import Derived.Test.YtihdbncoijhihaaGreatCK7
import Derived.Test.YtihdbncoijhihaaGreatCK26
import Derived.Test.YtihdbncoijhihaaGreatCK22
import Derived.Test.YtihdbncoijhihaaGreatCK10
import Derived.Test.YtihdbncoijhihaaGreatCK21
import Derived.Test.YtihdbncoijhihaaGreatCK19
import Derived.Test.YtihdbncoijhihaaGreatCK18
import Derived.Test.YtihdbncoijhihaaGreatCK5
set_option linter.unusedVariables false
set_option linter.unusedSimpArgs false
/- Trash cans (layers 30 to 32), purely: a directory of one's own, where cans may be, which are there, what they keep; how they are made. -/
namespace Go.Proofs.YtihdbncoijhihaaGreat

open Go.RowKit

structure Us where
  u : Int
  g : Int
  data : ByteArray
def Us.c (x : Us) : Cr := ⟨x.u, x.g⟩
def Us.v (x : Us) : Value := .agg #[.int .i64 x.u, .int .i64 x.g, .string x.data]
/-- a place where a can may be. -/
structure Plc where
  dir : Int
  name : ByteArray
  top : ByteArray
/-- a can. -/
structure Cn where
  path : ByteArray
  dir : Int
  info : Int
  files : Int
  out : Int
  way : Int
  top : ByteArray
  deriving DecidableEq
def cn0 : Cn := ⟨ByteArray.empty, 0, 0, 0, 0, 0, ByteArray.empty⟩
def nHome : ByteArray := ByteArray.mk #[84, 114, 97, 115, 104]
def nShared : ByteArray := ByteArray.mk #[46, 84, 114, 97, 115, 104]
def nInfo : ByteArray := ByteArray.mk #[105, 110, 102, 111]
def nFiles : ByteArray := ByteArray.mk #[102, 105, 108, 101, 115]
def nOut : ByteArray := ByteArray.mk #[101, 120, 112, 117, 110, 103, 101, 100]
def nWay : ByteArray := ByteArray.mk #[109, 111, 118, 105, 110, 103]
def nDiary : ByteArray := ByteArray.mk #[114, 97, 103, 112, 105, 99, 107, 101, 114, 46, 117, 110, 100, 111]
/-- the node of a name in a directory (d: nothing goes). -/
def Fs.lookF (S : Fs) (d : Bool) (c : Cr) (dir : Int) (n : ByteArray) : Int × Int :=
  if d = true then (0, 20) else if S.openE c dir 1 1 ≠ 0 then (0, S.openE c dir 1 1)
  else if entFind (S.entsOf dir) n = 0 then (0, 5) else (S.over (entFind (S.entsOf dir) n), 0)
def ownV (c : Cr) (x y : An) (no : Int) : Int × Int :=
  if x.kind ≠ 1 then (0, 9) else if x.dev ≠ y.dev then (0, 16) else if x.uid ≠ c.u then (0, 4) else if x.may c 7 = false then (0, 6) else (no, 0)
def Fs.ownF (S : Fs) (d : Bool) (c : Cr) (dir : Int) (n : ByteArray) : Int × Int :=
  if (S.lookF d c dir n).2 = 5 then (0, 0) else if (S.lookF d c dir n).2 ≠ 0 then (0, (S.lookF d c dir n).2)
  else ownV c (S.getZ (S.lookF d c dir n).1) (S.getZ dir) (S.lookF d c dir n).1
def Fs.dataF (S : Fs) (d : Bool) (u : Us) : Int × Int :=
  if d = true then (0, 20) else if (S.path u.c u.data true).2 ≠ 0 then (0, (S.path u.c u.data true).2)
  else if (S.path u.c u.data true).1.no = 0 then (0, 5) else if (S.getZ (S.path u.c u.data true).1.no).kind ≠ 1 then (0, 9) else ((S.path u.c u.data true).1.no, 0)
def comV (x y : An) (no : Int) : Int × Int :=
  if x.kind ≠ 1 then (0, 9) else if x.dev ≠ y.dev then (0, 16) else if x.mode < 512 then (0, 4) else (no, 0)
def Fs.commonF (S : Fs) (d : Bool) (c : Cr) (top : Int) : Int × Int :=
  if (S.lookF d c top nShared).2 ≠ 0 then (0, (S.lookF d c top nShared).2)
  else comV (S.getZ (S.lookF d c top nShared).1) (S.getZ top) (S.lookF d c top nShared).1
def decB (n : Int) : ByteArray := str (decL n)
def nSharedU (u : Int) : ByteArray := ByteArray.mk #[46, 84, 114, 97, 115, 104, 45] ++ decB u
def Fs.placesF (S : Fs) (d : Bool) (u : Us) (top : Int) (path : ByteArray) : List Plc :=
  (if (S.commonF d u.c top).2 = 0 then [⟨(S.commonF d u.c top).1, decB u.u, path⟩] else []) ++ [⟨top, nSharedU u.u, path⟩]
/-- what must be there. -/
def thereV (r : Int × Int) : Int × Int := if r.2 = 0 ∧ r.1 = 0 then (0, 5) else r
/-- a can, part by part: what is left to look up. -/
def Fs.openK0 (S : Fs) (dir : Int) (top : ByteArray) (i f o y : Int) : Cn × Int := match S.place_ dir with
  | none => (cn0, 5)
  | some s => (⟨s, dir, i, f, o, y, top⟩, 0)
def Fs.openK1 (S : Fs) (d : Bool) (c : Cr) (dir : Int) (top : ByteArray) (i f o : Int) : Cn × Int :=
  if (S.ownF d c dir nWay).2 ≠ 0 then (cn0, (S.ownF d c dir nWay).2) else S.openK0 dir top i f o (S.ownF d c dir nWay).1
def Fs.openK2 (S : Fs) (d : Bool) (c : Cr) (dir : Int) (top : ByteArray) (i f : Int) : Cn × Int :=
  if (S.ownF d c dir nOut).2 ≠ 0 then (cn0, (S.ownF d c dir nOut).2) else S.openK1 d c dir top i f (S.ownF d c dir nOut).1
def Fs.openK3 (S : Fs) (d : Bool) (c : Cr) (dir : Int) (top : ByteArray) (i : Int) : Cn × Int :=
  if (thereV (S.ownF d c dir nFiles)).2 ≠ 0 then (cn0, (thereV (S.ownF d c dir nFiles)).2) else S.openK2 d c dir top i (thereV (S.ownF d c dir nFiles)).1
def Fs.openK4 (S : Fs) (d : Bool) (c : Cr) (dir : Int) (top : ByteArray) : Cn × Int :=
  if (thereV (S.ownF d c dir nInfo)).2 ≠ 0 then (cn0, (thereV (S.ownF d c dir nInfo)).2) else S.openK3 d c dir top (thereV (S.ownF d c dir nInfo)).1
def Fs.openF (S : Fs) (d : Bool) (u : Us) (p : Plc) : Cn × Int :=
  if (thereV (S.ownF d u.c p.dir p.name)).2 ≠ 0 then (cn0, (thereV (S.ownF d u.c p.dir p.name)).2) else S.openK4 d u.c (thereV (S.ownF d u.c p.dir p.name)).1 p.top
theorem thereV_0 {no : Int} (h : no ≠ 0) : thereV (no, 0) = (no, 0) := by
  unfold thereV
  rw [if_neg (by simpa using h)]
theorem thereV_z : thereV (0, 0) = (0, 5) := rfl
theorem thereV_e (no : Int) {e : Int} (h : e ≠ 0) : thereV (no, e) = (no, e) := by
  unfold thereV
  rw [if_neg (fun k => h k.1)]
/-- a can more, if it is not there. -/
def putCn (l : List Cn) (x : Cn) : List Cn := if l.any (fun y => y.dir == x.dir) = true then l else l ++ [x]
def Fs.addCn (S : Fs) (d : Bool) (u : Us) (l : List Cn) (p : Plc) : List Cn := if (S.openF d u p).2 = 0 then putCn l (S.openF d u p).1 else l
def Fs.homeL (S : Fs) (d : Bool) (u : Us) : List Cn :=
  if (S.dataF d u).2 = 0 then (if (S.openF d u ⟨(S.dataF d u).1, nHome, ByteArray.empty⟩).2 = 0 then [(S.openF d u ⟨(S.dataF d u).1, nHome, ByteArray.empty⟩).1] else []) else []
def Fs.topCn (S : Fs) (d : Bool) (u : Us) (l : List Cn) (t : Int × ByteArray) : List Cn := (S.placesF d u t.1 t.2).foldl (S.addCn d u) l
def Fs.allCn (S : Fs) (d : Bool) (u : Us) : List Cn := S.topsL.foldl (S.topCn d u) (S.homeL d u)
def Fs.keepsF (S : Fs) (d : Bool) (u : Us) (no dir : Int) (n : ByteArray) : Int :=
  if (S.allCn d u).any (fun x => S.within x.dir no || S.within dir x.dir) = true then 17
  else if (S.dataF d u).2 = 0 ∧ (S.within (S.dataF d u).1 no = true ∨ dir = (S.dataF d u).1 ∧ n = nDiary) then 17 else 0
def Fs.homeP (S : Fs) (d : Bool) (u : Us) : List ByteArray :=
  if (S.dataF d u).2 = 0 then (match S.place_ (S.dataF d u).1 with | some s => [belowB s nHome] | none => []) else []
def pathP (u : Us) (t : Int × ByteArray) : List ByteArray := [belowB (belowB t.2 nShared) (decB u.u), belowB t.2 (nSharedU u.u)]
def Fs.pathsF (S : Fs) (d : Bool) (u : Us) : List ByteArray := S.homeP d u ++ S.topsL.flatMap (pathP u)

/-- all that holds of a planted tree, and stays so. -/
structure Fine (S : Fs) (N : Nat) : Prop where
  ok : FsOk S N
  pl : Pl S
  tr : Tr S
  wy : Wy S
  nm : Nm S
theorem plant_fine (ms : List Mt) (is : List It) : Fine (plantF ms is) (1 + 2 * ms.length + is.length) := ⟨plant_ok ms is, plant_pl ms is, plant_tr ms is, plant_wy ms is, plant_nm ms is⟩
theorem Fine.mkdir {S : Fs} {N : Nat} (h : Fine S N) (c : Cr) (now dir : Int) (s : ByteArray) (m : Int) : Fine (S.mkdir c now dir s m).1 (N + 1) :=
  ⟨mkdir_ok h.ok c now dir s m, h.pl.mkdir h.ok c now dir s m, h.tr.mkdir h.ok c now dir s m, h.wy.mkdir h.ok h.tr c now dir s m, h.nm.mkdir c now dir s m⟩
theorem Fine.file {S : Fs} {N : Nat} (h : Fine S N) (c : Cr) (now dir : Int) (s : ByteArray) (m : Int) (t : ByteArray) : Fine (S.file c now dir s m t).1 (N + 1) :=
  ⟨file_ok h.ok c now dir s m t, h.pl.file h.ok c now dir s m t, h.tr.file h.ok c now dir s m t, h.wy.file h.ok h.tr c now dir s m t, h.nm.file c now dir s m t⟩
theorem Fine.mono {S : Fs} {N M : Nat} (h : Fine S N) (hM : N ≤ M) : Fine S M := ⟨h.ok.mono hM, h.pl, h.tr, h.wy, h.nm⟩

theorem getZ_cases (S : Fs) (k : Int) : (∃ a, S.get k = some a ∧ S.getZ k = a) ∨ (S.get k = none ∧ S.getZ k = an0) := by
  cases hg : S.get k with
  | none => exact .inr ⟨rfl, getZ_none hg⟩
  | some a => exact .inl ⟨a, rfl, getZ_some hg⟩
/-- the directory above one is there. -/
theorem above_there {S : Fs} {N : Nat} (hk : FsOk S N) (hp : Pl S) (hw : Wy S) {k : Int} {a : An} (hg : S.get k = some a) (hd : a.kind = 1) : ∃ b, S.get (S.above k) = some b := by
  unfold Fs.above
  rw [hg]
  dsimp only
  rw [if_neg (by omega)]
  by_cases hr : S.root a.dev = k ∧ 1 < a.dev
  · rw [if_pos hr]
    have h8 := (hk.get hg).1.dev
    obtain ⟨v, hv, hi⟩ := dev_of h8.1 h8.2
    obtain ⟨hlt, he⟩ := List.getElem?_eq_some_iff.1 hi
    obtain ⟨b, hb, hbk, -⟩ := hp.over _ hlt (by omega)
    rw [he] at hb
    obtain ⟨x, hx, -⟩ := hw.ud b (an_mem hb) hbk
    exact ⟨x, by rw [hv]; dsimp only; rw [hb]; exact hx⟩
  · rw [if_neg hr]
    obtain ⟨x, hx, -⟩ := hw.ud a (an_mem hg) hd
    exact ⟨x, hx⟩
/-- what a trip ends at is there. -/
def Ends (S : Fs) (x : Fd × Int) : Prop := x.2 = 0 → x.1.no ≠ 0 → ∃ a, S.get x.1.no = some a
theorem ends_bad (S : Fs) {e : Int} (x : Fd) (h : e ≠ 0) : Ends S (x, e) := fun h' => absurd h' h
theorem seekL_ends {S : Fs} {N : Nat} (hk : FsOk S N) (hp : Pl S) (hw : Wy S) (c : Cr) (f : Bool) (k : Option (Int → Bool → List (List UInt8) → Fd × Int))
    (hkk : ∀ g, k = some g → ∀ at' must l, (∃ a, S.get at' = some a) → Ends S (g at' must l)) :
    ∀ (l : List (List UInt8)) (at' : Int) (must : Bool), (∃ a, S.get at' = some a) → Ends S (S.seekL c f k l at' must)
  | [], at', must, h => fun _ _ => h
  | p :: l, at', must, h => by
    rw [Fs.seekL]
    split
    · rename_i h2
      exact ends_bad S _ h2
    · rename_i h2
      have h2' : (S.step c at' p).2 = 0 := by simpa using h2
      split
      · rename_i hpp
        refine seekL_ends hk hp hw c f k hkk l _ must ?_
        obtain ⟨a, ha⟩ := h
        unfold Fs.step at h2' ⊢
        rw [ha] at h2' ⊢
        dsimp only at h2' ⊢
        by_cases hd : a.kind = 1
        · rw [if_neg (by omega)] at h2' ⊢
          by_cases hm : a.may c 1 = false
          · rw [if_pos hm] at h2'
            cases h2'
          · rw [if_neg hm, if_pos hpp]
            exact above_there hk hp hw ha hd
        · rw [if_pos hd] at h2'
          cases h2'
      · split
        · split
          · exact fun _ h0 => absurd rfl h0
          · exact ends_bad S _ (by decide)
        · rename_i n hn
          split
          · split
            · exact ends_bad S _ (by decide)
            · rename_i g hgk
              split
              · exact ends_bad S _ (by decide)
              · refine hkk _ rfl _ _ _ ?_
                split
                · obtain ⟨a, ha, -⟩ := hp.one
                  exact ⟨a, ha⟩
                · exact h
          · split
            · exact ends_bad S _ (by decide)
            · split
              · exact fun _ _ => ⟨n, hn⟩
              · exact seekL_ends hk hp hw c f k hkk l _ must ⟨n, hn⟩
theorem seekH_ends {S : Fs} {N : Nat} (hk : FsOk S N) (hp : Pl S) (hw : Wy S) (c : Cr) (f : Bool) : ∀ (h : Nat) (at' : Int) (must : Bool) (l : List (List UInt8)), (∃ a, S.get at' = some a) → Ends S (S.seekH c f h at' must l)
  | 0, at', must, l, ha => seekL_ends hk hp hw c f none (fun _ h => by cases h) l at' must ha
  | h + 1, at', must, l, ha => seekL_ends hk hp hw c f _ (fun g hg at2 must2 l2 h2 => by
    injection hg with hg
    subst hg
    exact seekH_ends hk hp hw c f h at2 must2 l2 h2) l at' must ha
theorem path_ends {S : Fs} {N : Nat} (hk : FsOk S N) (hp : Pl S) (hw : Wy S) (c : Cr) (s : ByteArray) (f : Bool) : Ends S (S.path c s f) := by
  unfold Fs.path
  split
  · rename_i h
    exact ends_bad S _ h
  · obtain ⟨a, ha, -⟩ := hp.one
    exact seekH_ends hk hp hw c f 8 1 _ _ ⟨a, ha⟩
end Go.Proofs.YtihdbncoijhihaaGreat

/- Cans are made ready (layer 31), purely; all that was there stays, but for the times of directories. -/
namespace Go.Proofs.YtihdbncoijhihaaGreat

open Go.RowKit

def Sy.dirF (Y : Sy) (u : Us) (dir : Int) (n : ByteArray) : Sy × Int × Int :=
  if (Y.fs.ownF Y.dead u.c dir n).2 = 0 ∧ (Y.fs.ownF Y.dead u.c dir n).1 = 0 then Y.op (fun S now => S.mkdir u.c now dir n 448) else (Y, Y.fs.ownF Y.dead u.c dir n)
def Sy.dirsF (Y : Sy) (u : Us) (dir : Int) : List ByteArray → Sy × Int
  | [] => (Y, 0)
  | n :: l => if (Y.dirF u dir n).2.2 ≠ 0 then ((Y.dirF u dir n).1, (Y.dirF u dir n).2.2) else (Y.dirF u dir n).1.dirsF u dir l
def partNs : List ByteArray := [nInfo, nFiles, nOut, nWay]
def Sy.readyF (Y : Sy) (u : Us) (p : Plc) : Sy × Cn × Int :=
  let r := Y.dirF u p.dir p.name
  if r.2.2 ≠ 0 then (r.1, cn0, r.2.2) else
  let q := r.1.dirsF u r.2.1 partNs
  if q.2 ≠ 0 then (q.1, cn0, q.2) else (q.1, q.1.fs.openF q.1.dead u p)
/-- places are tried: the tree, whether one was taken, the can, the last error. -/
def Sy.triesF (Y : Sy) (u : Us) : List Plc → Int → Sy × Bool × Cn × Int
  | [], e => (Y, false, cn0, e)
  | p :: l, _ => if (Y.readyF u p).2.2 = 0 ∨ (Y.readyF u p).1.dead = true then ((Y.readyF u p).1, true, (Y.readyF u p).2.1, (Y.readyF u p).2.2) else (Y.readyF u p).1.triesF u l (Y.readyF u p).2.2
def Sy.homeF (Y : Sy) (u : Us) (top : Int) : List Plc :=
  if (Y.fs.dataF Y.dead u).2 = 0 ∧ Y.fs.root (Y.fs.getZ (Y.fs.dataF Y.dead u).1).dev = top then [⟨(Y.fs.dataF Y.dead u).1, nHome, ByteArray.empty⟩] else []
def Sy.chooseF (Y : Sy) (u : Us) (no : Int) : Sy × Cn × Int :=
  let t := Y.fs.topF no
  if t.2.2 ≠ 0 then (Y, cn0, t.2.2) else
  let h := Y.fs.dataF Y.dead u
  let a := Y.triesF u (Y.homeF u t.1) 0
  if a.2.1 = true then (a.1, a.2.2) else
  let b := a.1.triesF u (a.1.fs.placesF a.1.dead u t.1 t.2.1) a.2.2.2
  if b.2.1 = true then (b.1, b.2.2) else
  if h.2 ≠ 0 then (b.1, cn0, b.2.2.2) else b.1.readyF u ⟨h.1, nHome, ByteArray.empty⟩

/-- what always holds of a tree with a clock: N bounds the nodes and the changes. -/
structure SyOk (Y : Sy) (N : Nat) : Prop where
  fine : Fine Y.fs N
  c0 : 0 ≤ Y.count
  cN : Y.count ≤ N
  pl : Y.plan.length ≤ 1000
theorem SyOk.mono {Y : Sy} {N M : Nat} (h : SyOk Y N) (hM : N ≤ M) : SyOk Y M := ⟨h.fine.mono hM, h.c0, by have := h.cN; omega, h.pl⟩
theorem change_count (Y : Sy) : Y.change.1.count = Y.count ∨ Y.change.1.count = Y.count + 1 := by
  unfold Sy.change
  split
  · exact .inl rfl
  · split <;> exact .inr rfl
theorem SyOk.change {Y : Sy} {N : Nat} (h : SyOk Y N) : SyOk Y.change.1 (N + 1) := by
  obtain ⟨h1, h2, h3⟩ := change_fs Y
  refine ⟨by rw [h1]; exact h.fine.mono (by omega), ?_, ?_, by rw [h3]; exact h.pl⟩ <;>
  · have := h.c0
    have := h.cN
    rcases change_count Y with e | e <;> rw [e] <;> omega
theorem SyOk.op {Y : Sy} {N : Nat} (h : SyOk Y N) {g : Fs → Int → Fs × Int × Int} (hg : Fine (g Y.fs Y.now).1 (N + 1)) : SyOk (Y.op g).1 (N + 1) := by
  have hc := h.change
  unfold Sy.op
  split
  · exact hc
  · exact ⟨hg, hc.c0, hc.cN, hc.pl⟩
theorem SyOk.dirF {Y : Sy} {N : Nat} (h : SyOk Y N) (u : Us) (dir : Int) (n : ByteArray) : SyOk (Y.dirF u dir n).1 (N + 1) := by
  unfold Sy.dirF
  split
  · exact h.op (h.fine.mkdir _ _ _ _ _)
  · exact h.mono (by omega)
theorem SyOk.dirsF {u : Us} {dir : Int} : ∀ {l : List ByteArray} {Y : Sy} {N : Nat}, SyOk Y N → SyOk (Y.dirsF u dir l).1 (N + l.length)
  | [], _, _, h => h
  | n :: l, Y, N, h => by
    rw [Sy.dirsF]
    split
    · exact (h.dirF u dir n).mono (by simp)
    · have := (h.dirF u dir n).dirsF (u := u) (dir := dir) (l := l)
      exact this.mono (by simp; omega)
theorem SyOk.readyF {Y : Sy} {N : Nat} (h : SyOk Y N) (u : Us) (p : Plc) : SyOk (Y.readyF u p).1 (N + 5) := by
  unfold Sy.readyF
  dsimp only
  have h1 := h.dirF u p.dir p.name
  split
  · exact h1.mono (by omega)
  · have h2 := h1.dirsF (u := u) (dir := (Y.dirF u p.dir p.name).2.1) (l := partNs)
    have h3 : N + 1 + partNs.length = N + 5 := rfl
    rw [h3] at h2
    split <;> exact h2
theorem SyOk.triesF {u : Us} : ∀ {l : List Plc} {Y : Sy} {N : Nat} (e : Int), SyOk Y N → SyOk (Y.triesF u l e).1 (N + 5 * l.length)
  | [], _, _, _, h => h
  | p :: l, Y, N, e, h => by
    rw [Sy.triesF]
    split
    · exact (h.readyF u p).mono (by simp; omega)
    · exact ((h.readyF u p).triesF (u := u) (l := l) _).mono (by simp; omega)
theorem places_len (S : Fs) (d : Bool) (u : Us) (top : Int) (path : ByteArray) : 1 ≤ (S.placesF d u top path).length ∧ (S.placesF d u top path).length ≤ 2 := by
  unfold Fs.placesF
  split <;> simp
theorem home_len (Y : Sy) (u : Us) (top : Int) : (Y.homeF u top).length ≤ 1 := by
  unfold Sy.homeF
  split <;> simp
theorem SyOk.chooseF {Y : Sy} {N : Nat} (h : SyOk Y N) (u : Us) (no : Int) : SyOk (Y.chooseF u no).1 (N + 20) := by
  unfold Sy.chooseF
  dsimp only
  have h1 := home_len Y u (Y.fs.topF no).1
  have h2 := h.triesF (u := u) (l := Y.homeF u (Y.fs.topF no).1) 0
  split
  · exact h.mono (by omega)
  · split
    · exact h2.mono (by omega)
    · generalize Y.triesF u (Y.homeF u (Y.fs.topF no).1) 0 = a at h2 ⊢
      have h3 := (places_len a.1.fs a.1.dead u (Y.fs.topF no).1 (Y.fs.topF no).2.1).2
      have h4 := h2.triesF (u := u) (l := a.1.fs.placesF a.1.dead u (Y.fs.topF no).1 (Y.fs.topF no).2.1) a.2.2.2
      split
      · exact h4.mono (by omega)
      · split
        · exact h4.mono (by omega)
        · exact (h4.readyF u _).mono (by omega)

/-- all that was there is there, as it was, but for the times of directories. -/
structure Keep1 (a b : An) : Prop where
  kind : b.kind = a.kind
  mode : b.mode = a.mode
  uid : b.uid = a.uid
  data : b.data = a.data
  links : b.links = a.links
  ents : a.ents.length ≤ b.ents.length
  ctime : a.kind ≠ 1 → b.ctime = a.ctime
def Keep (S S' : Fs) : Prop := ∀ k a, S.get k = some a → ∃ b, S'.get k = some b ∧ Keep1 a b
end Go.Proofs.YtihdbncoijhihaaGreat

/- Cans are made ready (layer 31): nothing is dead where nothing failed; what it is that a tree has turned. -/
namespace Go.Proofs.YtihdbncoijhihaaGreat

open Go.RowKit

/-- the tree has turned. -/
def Goes (w w' : World) (pf pw : Nat) (R : Rp) (pv : Value) (Z : Sy) : Prop := ∃ R', SyAt w' pf pw R' pv Z ∧ Stp (R.Y pf pw) (R'.Y pf pw) w w'
section

variable {w w' w'' : World} {pf pw : Nat} {R R' : Rp} {pv : Value} {Y Z : Sy}

theorem Goes.of (h : SyAt w pf pw R pv Y) (hb : Below w.heap.size w w') : Goes w w' pf pw R pv Y := ⟨R, h.keep hb, Stp.of_below hb⟩
theorem Goes.below (h : Goes w w' pf pw R pv Z) (hb : Below w'.heap.size w' w'') : Goes w w'' pf pw R pv Z := by
  obtain ⟨R', h1, h2⟩ := h
  exact ⟨R', h1.keep hb, h2.trans (Stp.of_below hb)⟩
end

end Go.Proofs.YtihdbncoijhihaaGreat

/- How long a clean path is. -/
namespace Go.Proofs.YtihdbncoijhihaaGreat

open Go.RowKit

def wtL (l : List (List UInt8)) : Nat := (l.map fun p => p.length + 1).sum
end Go.Proofs.YtihdbncoijhihaaGreat

/- Trees that are to be (layer 22): how a seed lies; Limits. -/
namespace Go.Proofs.YtihdbncoijhihaaGreat

open Go.RowKit

def mtC (m : Mt) : List Value := [.string m.path, .int .i64 m.b, .int .i64 m.n]
theorem mtC_len (m : Mt) : (mtC m).length = 3 := rfl
def mtR (cs : List Value) (m : Mt) : Prop := cs = mtC m
def itC (x : It) : List Value := [.string x.path, .int .i64 x.kind, .int .i64 x.mode, .int .i64 x.uid, .int .i64 x.gid, .int .i64 x.mtime, .string x.data]
theorem itC_len (x : It) : (itC x).length = 7 := rfl
def itR (cs : List Value) (x : It) : Prop := cs = itC x
theorem SliceAt.keep {α : Type} {w w' : World} {sz n c : Nat} {Rl : List Value → α → Prop} {a : Option Addr} {xs : List α} (h : SliceAt w sz Rl a n c xs) (hb : Below w.heap.size w w') : SliceAt w' sz Rl a n c xs := h.below hb (Nat.le_refl _)
/-- a seed: where its mounts and items lie. -/
structure SdAt (w : World) (ma : Option Addr) (mn mc : Nat) (ia : Option Addr) (il ic : Nat) (ms : List Mt) (is : List It) : Prop where
  m : SliceAt w 3 mtR ma mn mc ms
  i : SliceAt w 7 itR ia il ic is
theorem SdAt.keep {w w' : World} {ma : Option Addr} {mn mc : Nat} {ia : Option Addr} {il ic : Nat} {ms : List Mt} {is : List It} (h : SdAt w ma mn mc ia il ic ms is) (hb : Below w.heap.size w w') : SdAt w' ma mn mc ia il ic ms is := ⟨h.m.keep hb, h.i.keep hb⟩
theorem mt_cells {w : World} {b off n c : Nat} {ms : List Mt} (h : SliceAt w 3 mtR (some ⟨b, off, none⟩) n c ms) (k : Nat) (hk : k < ms.length) :
    w.cell? ⟨b, off + k * 3, none⟩ = some (.string ms[k].path) ∧ w.cell? ⟨b, off + k * 3 + 1, none⟩ = some (.int .i64 ms[k].b) ∧ w.cell? ⟨b, off + k * 3 + 2, none⟩ = some (.int .i64 ms[k].n) := by
  obtain ⟨hl, -, -, h0 | ⟨b', off', he, hb, hel⟩⟩ := h
  · omega
  · injection he with he
    injection he with e1 e2
    subst e1 e2
    obtain ⟨cs, h1, h2, h3⟩ := hel k hk
    unfold mtR at h2
    subst h2
    exact ⟨h3 0 (by rw [mtC_len]; omega), h3 1 (by rw [mtC_len]; omega), h3 2 (by rw [mtC_len]; omega)⟩
theorem it_cells {w : World} {b off n c : Nat} {is : List It} (h : SliceAt w 7 itR (some ⟨b, off, none⟩) n c is) (k : Nat) (hk : k < is.length) :
    w.cell? ⟨b, off + k * 7, none⟩ = some (.string is[k].path) ∧ w.cell? ⟨b, off + k * 7 + 1, none⟩ = some (.int .i64 is[k].kind) ∧ w.cell? ⟨b, off + k * 7 + 2, none⟩ = some (.int .i64 is[k].mode) ∧
    w.cell? ⟨b, off + k * 7 + 3, none⟩ = some (.int .i64 is[k].uid) ∧ w.cell? ⟨b, off + k * 7 + 4, none⟩ = some (.int .i64 is[k].gid) ∧ w.cell? ⟨b, off + k * 7 + 5, none⟩ = some (.int .i64 is[k].mtime) ∧ w.cell? ⟨b, off + k * 7 + 6, none⟩ = some (.string is[k].data) := by
  obtain ⟨hl, -, -, h0 | ⟨b', off', he, hb, hel⟩⟩ := h
  · omega
  · injection he with he
    injection he with e1 e2
    subst e1 e2
    obtain ⟨cs, h1, h2, h3⟩ := hel k hk
    unfold itR at h2
    subst h2
    exact ⟨h3 0 (by rw [itC_len]; omega), h3 1 (by rw [itC_len]; omega), h3 2 (by rw [itC_len]; omega), h3 3 (by rw [itC_len]; omega), h3 4 (by rw [itC_len]; omega), h3 5 (by rw [itC_len]; omega), h3 6 (by rw [itC_len]; omega)⟩
theorem slice_some {α : Type} {w : World} {sz n c : Nat} {Rl : List Value → α → Prop} {a : Option Addr} {xs : List α} (h : SliceAt w sz Rl a n c xs) (hn : 0 < n) : ∃ b off, a = some ⟨b, off, none⟩ ∧ b < w.heap.size := by
  obtain ⟨-, -, -, h0 | ⟨b, off, he, hb, -⟩⟩ := h
  · omega
  · exact ⟨b, off, he, hb⟩
theorem limitsF_drop {ms : List Mt} {k : Nat} (hk : k < ms.length) : limitsF (ms.drop k) = if ms[k].path = topB ∧ limB ms[k].b ms[k].n = true then (ms[k].b, ms[k].n) else limitsF (ms.drop (k + 1)) := by
  rw [List.drop_eq_getElem_cons hk, limitsF]
set_option maxRecDepth 100000 in
set_option maxHeartbeats 2000000 in
theorem slimits_any (w : World) {ma : Option Addr} {mn mc : Nat} {ia : Option Addr} {il ic : Nat} {ms : List Mt} {is : List It} (h : SdAt w ma mn mc ia il ic ms is) :
    Calls Tryz.prog 104 #[.agg #[.slice ma mn mc, .slice ia il ic]] w fun e w' => e = .returned (.tuple #[.int .i64 (limitsF ms).1, .int .i64 (limitsF ms).2]) ∧ Below w.heap.size w w' := by
  have HS := Lib.hid h
  have hln := h.m.1
  have hmc := h.m.2.1
  have hmx := h.m.2.2.1
  clear h
  go_enter Tryz.func104, Tryz.ntmps104
  go_wp2_with fail
  go_loopw [9] (fun t9 wr => ∃ k : Nat, k ≤ ms.length ∧ t9 = .int .i64 k ∧ limitsF ms = limitsF (ms.drop k) ∧ Below w.heap.size w wr) (fun t9 _ => ms.length - (intOf t9).toNat)
  case atStart => exact ⟨0, Nat.zero_le _, rfl, rfl, balloc (Below.refl _ _) _⟩
  case round =>
    obtain ⟨k, hk, rfl, hE, hb⟩ := hrel
    have HE := Lib.hid hE
    have HB := Lib.hid hb
    clear hE
    by_cases hlt : k < ms.length
    · obtain ⟨b, off, rfl, hbl⟩ := slice_some HS.out.m (by omega)
      obtain ⟨c0, c1, c2⟩ := mt_cells (HS.out.m.below hb (Nat.le_refl _)) k hlt
      have HQ := Lib.hid (limitsF_drop hlt)
      generalize ms[k] = m at c0 c1 c2 HQ
      obtain ⟨mp, mb, mk⟩ := m
      have hX := Blk.new wr #[.string mp, .int .i64 mb, .int .i64 mk] 114
      have hbX := balloc hb (.cells #[.string mp, .int .i64 mb, .int .i64 mk] 114)
      clear hb
      go_upto_region 4 with fail
      generalize wr.alloc (.cells #[.string mp, .int .i64 mb, .int .i64 mk] 114) = X at hX hbX ⊢
      have HX := Lib.hid hX
      have HBX := Lib.hid hbX
      obtain ⟨xc, xf, xz⟩ := hX.facts
      clear hX hbX c0 c1 c2
      by_cases h1 : mp = topB
      · have h1' : mp.toList = [47] := by rw [h1, ba_list]; rfl
        have HP := Lib.hid h1
        clear h1
        by_cases h2 : mb < 1
        · skip
          have HN := Lib.hid (HE.out.trans (HQ.out.trans (if_neg (fun h => by have h9 : 1 ≤ mb := (lim_of h.2).1; omega))))
          go_wp2_with fail
          go_roundw
          case rel => exact ⟨k + 1, by omega, by go_num, HN.out, HBX.out⟩
          case measure => simp [intOf]; omega
        by_cases h3 : 1073741824 < mb
        · skip
          have HN := Lib.hid (HE.out.trans (HQ.out.trans (if_neg (fun h => by have h9 : mb ≤ 1073741824 := (lim_of h.2).2.1; omega))))
          go_wp2_with fail
          go_roundw
          case rel => exact ⟨k + 1, by omega, by go_num, HN.out, HBX.out⟩
          case measure => simp [intOf]; omega
        by_cases h4 : mk < 1
        · skip
          have HN := Lib.hid (HE.out.trans (HQ.out.trans (if_neg (fun h => by have h9 : 1 ≤ mk := (lim_of h.2).2.2.1; omega))))
          go_wp2_with fail
          go_roundw
          case rel => exact ⟨k + 1, by omega, by go_num, HN.out, HBX.out⟩
          case measure => simp [intOf]; omega
        by_cases h5 : 65536 < mk
        · skip
          have HN := Lib.hid (HE.out.trans (HQ.out.trans (if_neg (fun h => by have h9 : mk ≤ 65536 := (lim_of h.2).2.2.2; omega))))
          go_wp2_with fail
          go_roundw
          case rel => exact ⟨k + 1, by omega, by go_num, HN.out, HBX.out⟩
          case measure => simp [intOf]; omega
        have HN := Lib.hid (HE.out.trans (HQ.out.trans (if_pos ⟨HP.out, lim_mk mb mk (by omega) (by omega) (by omega) (by omega)⟩)))
        have mixed : Tryz.prog.follows .mixedOrders = true := by kernel_rfl
        go_wp2_with fail
        go_region
        all_goals
          go_wp2_with fail
          go_ret2
          rw [HN.out]
          exact ⟨rfl, HBX.out.drew⟩
      · have h1' : (mp.toList == [47]) = false := by
          rw [ba_list]
          simp only [beq_eq_false_iff_ne, ne_eq]
          exact fun e => h1 (ba_eq e)
        have HN := Lib.hid (HE.out.trans (HQ.out.trans (if_neg (fun h => h1 h.1))))
        go_wp2_with fail
        go_roundw
        case rel => exact ⟨k + 1, by omega, by go_num, HN.out, HBX.out⟩
        case measure => simp [intOf]; omega
    · obtain rfl : k = ms.length := by omega
      have HE2 := Lib.hid (show limitsF ms = (65536, 65536) by rw [HE.out, List.drop_length]; rfl)
      clear hb
      go_wp2_with fail
      go_ret2
      rw [HE2.out]
      exact ⟨rfl, HB.out⟩
end Go.Proofs.YtihdbncoijhihaaGreat

/- Trees that are to be (layer 22): a mount comes. -/
namespace Go.Proofs.YtihdbncoijhihaaGreat

open Go.RowKit

section

variable {w w' : World} {pf pw : Nat} {R : Rp} {pv : Value} {Y : Sy}

/-- a block of another kind turns. -/
theorem SyAt.other (h : SyAt w pf pw R pv Y) {B : Nat} {vs : Array Value} {T : TypeId} (hb : Blk w B vs T) (hT : wdKind (.cells #[] T (0, 0)) = false) (h1 : T ≠ 54) (h2 : T ≠ 146) (h3 : T ≠ 242) (hm : Mod (fun k => k = B) w w') : SyAt w' pf pw R pv Y := by
  unfold Blk at hb
  refine ⟨h.blk.mod hm (fun e => ?_), h.wd.mod hm (fun k o hk ho => ?_), own_mod h.plan hm (fun k hk he => ?_)⟩
  · subst e
    have hq := h.blk
    unfold Blk at hq
    rw [hb] at hq
    injection hq with hq
    injection hq with hq e
    exact h1 e
  · subst hk
    rw [hb] at ho
    injection ho with ho
    subst ho
    exact ⟨hT, fun cur e => by injection e with e1 e2; exact h2 e2⟩
  · subst hk
    obtain ⟨-, cur, hc⟩ := own_obj1 h.plan he
    rw [hb] at hc
    injection hc with hc
    injection hc with hc e
    exact h3 e
theorem Stp.newCell {F F' : Nat → Prop} (h : Stp F F' w w') {B : Nat} (hB : w.heap.size ≤ B) (i : Nat) (v : Value) : Stp F F' w (w'.setCell ⟨B, i, none⟩ v) :=
  ⟨h.mod.setCell (a := ⟨B, i, none⟩) (.inr hB) v, h.new⟩
theorem mount_err {S : Fs} {m : Mt} (h : (S.path c00 m.path false).2 ≠ 0) : mountF S m = S := by unfold mountF; rw [if_pos h]
theorem mount_new {S : Fs} {m : Mt} (h : (S.path c00 m.path false).2 = 0) (h0 : (S.path c00 m.path false).1.no = 0) (he : (S.mkdir c00 0 (S.path c00 m.path false).1.dir (S.path c00 m.path false).1.name 493).2.2 = 0) :
    mountF S m = ((S.mkdir c00 0 (S.path c00 m.path false).1.dir (S.path c00 m.path false).1.name 493).1.mount (S.mkdir c00 0 (S.path c00 m.path false).1.dir (S.path c00 m.path false).1.name 493).2.1 m.b m.n).1 := by
  unfold mountF; rw [if_neg (by simp [h]), if_pos h0]; simp only; rw [if_neg (by simp [he])]
theorem mount_full {S : Fs} {m : Mt} (h : (S.path c00 m.path false).2 = 0) (h0 : (S.path c00 m.path false).1.no = 0) (he : (S.mkdir c00 0 (S.path c00 m.path false).1.dir (S.path c00 m.path false).1.name 493).2.2 ≠ 0) :
    mountF S m = (S.mkdir c00 0 (S.path c00 m.path false).1.dir (S.path c00 m.path false).1.name 493).1 := by
  unfold mountF; rw [if_neg (by simp [h]), if_pos h0]; simp only; rw [if_pos he]
theorem mount_old {S : Fs} {m : Mt} (h : (S.path c00 m.path false).2 = 0) (h0 : (S.path c00 m.path false).1.no ≠ 0) : mountF S m = (S.mount (S.path c00 m.path false).1.no m.b m.n).1 := by
  unfold mountF; rw [if_neg (by simp [h]), if_neg h0]
set_option maxRecDepth 100000 in
set_option maxHeartbeats 2000000 in
theorem smount_any (h : SyAt w pf pw R pv Y) {N : Nat} (hk : FsOk Y.fs N) (hN : N ≤ 999990) (hc : Calm Y) (hcc : Y.count ≤ 4000000) (m : Mt) (hp : m.path.size ≤ 100000) :
    Calls Tryz.prog 105 #[.pointer (some ⟨pf, 0, none⟩), .agg #[.string m.path, .int .i64 m.b, .int .i64 m.n]] w fun e w' => e = .returned (.tuple #[]) ∧ Became w w' pf pw R pv Y (mountF Y.fs m) 1 := by
  have HY := Lib.hid h
  have HK := Lib.hid hk
  have HC := Lib.hid hc
  have HF := Lib.hid (fun w1 (hb1 : Below w.heap.size w w1) => sfind_any (h.keep hb1) hk (by omega) hc.dead c00 m.path hp false)
  have HSz := Lib.hid (path_size hk c00 m.path (by omega) false)
  have mixed : Tryz.prog.follows .mixedOrders = true := by kernel_rfl
  have HE1 := Lib.hid (mount_err (S := Y.fs) (m := m))
  have HE2 := Lib.hid (mount_new (S := Y.fs) (m := m))
  have HE3 := Lib.hid (mount_full (S := Y.fs) (m := m))
  have HE4 := Lib.hid (mount_old (S := Y.fs) (m := m))
  generalize mountF Y.fs m = Z at HE1 HE2 HE3 HE4 ⊢
  generalize Y.fs.path c00 m.path false = x at HF HSz HE1 HE2 HE3 HE4
  obtain ⟨⟨xd, xn, xk, xs⟩, xe⟩ := x
  unfold Fd.v at HF
  have hM0 := Blk.new w #[.string m.path, .int .i64 m.b, .int .i64 m.n] 114
  have hb0 := balloc (Below.refl w.heap.size w) (.cells #[.string m.path, .int .i64 m.b, .int .i64 m.n] 114)
  clear h hk hc
  go_enter Tryz.func105, Tryz.ntmps105
  go_wp2_with fail
  refine (HF.out _ hb0).mono ?_
  rintro e w1 ⟨rfl, hb1⟩
  have hMX := (hM0.keep hb1).old (.cells #[.int .i64 xd, .string xn, .int .i64 xk, .bool xs] 118)
  have hXX := Blk.new w1 #[.int .i64 xd, .string xn, .int .i64 xk, .bool xs] 118
  have hbX := balloc (bnext hb0 hb1) (.cells #[.int .i64 xd, .string xn, .int .i64 xk, .bool xs] 118)
  have hlw : w.heap.size < w1.heap.size := by have := hb1.size; simp at this; omega
  clear hM0 hb0 hb1
  go_upto_region 2 with fail
  generalize w1.alloc (.cells #[.int .i64 xd, .string xn, .int .i64 xk, .bool xs] 118) = X at hMX hXX hbX ⊢
  have HMX := Lib.hid hMX
  have HXX := Lib.hid hXX
  have HBX := Lib.hid hbX
  obtain ⟨xc, xf, xz⟩ := hXX.facts
  obtain ⟨mc, mf, mz⟩ := hMX.facts
  have hYX := HY.out.keep hbX
  have HYX := Lib.hid hYX
  obtain ⟨pc, -, pz⟩ := hYX.blk.facts
  clear hMX hXX hbX hYX
  by_cases he : xe = 0
  · have heb : (xe == 0) = true := by simpa using he
    subst he
    by_cases hno : xk = 0
    · have hnb : (xk == 0) = true := by simpa using hno
      have HM := Lib.hid (smkdir_any HYX.out HK.out (by omega) ⟨HC.out.c0, by omega⟩ (by rw [HC.out.plan]; exact Nat.zero_le _) c00 xd xn 493 (by have h9 : xn.size ≤ 1048576 := HSz.out; omega))
      rw [HC.out.op] at HM
      have HE2a := Lib.hid (HE2.out rfl hno)
      have HE3a := Lib.hid (HE3.out rfl hno)
      dsimp only at HE2a HE3a HM
      have HOk := Lib.hid (mkdir_ok HK.out c00 0 xd xn 493)
      clear HE1 HE2 HE3 HE4 hno
      generalize Y.fs.mkdir c00 0 xd xn 493 = q at HM HE2a HE3a HOk
      obtain ⟨S1, n1, e1⟩ := q
      dsimp only at HM HE2a HE3a HOk
      go_wp2_with fail
      refine HM.out.mono ?_
      rintro e w3 ⟨rfl, R3, hY3, hS3⟩
      have hM3 := HMX.out.sy HYX.out hS3 rfl (by decide)
      have hX3 := HXX.out.sy HYX.out hS3 rfl (by decide)
      have HX3 := Lib.hid hX3
      have HM3 := Lib.hid hM3
      have HY3 := Lib.hid hY3
      have HS3 := Lib.hid ((Stp.of_below HBX.out).trans hS3)
      clear xc xf xz mc mf mz pc pz
      obtain ⟨xc, xf, xz⟩ := hX3.facts
      clear hM3 hX3 hY3 hS3
      go_upto_region 4 with fail
      have hY4 := HY3.out.other (HX3.out) rfl (by decide) (by decide) (by decide) ((Mod.refl (fun k => k = w1.heap.size) w3).setCell (a := ⟨w1.heap.size, 2, none⟩) (.inl rfl) (.int .i64 n1))
      have hX4 := HX3.out.set 2 (.int .i64 n1)
      have hne : w1.heap.size ≠ w.heap.size := by have := HX3.out.lt; have := HMX.out.lt; have := hlw; omega
      have hM4 := HM3.out.setOther ⟨w1.heap.size, 2, none⟩ (.int .i64 n1) hne
      have hS4 : Stp (R.Y pf pw) (R3.Y pf pw) w (w3.setCell ⟨w1.heap.size, 2, none⟩ (.int .i64 n1)) := HS3.out.newCell (show w.heap.size ≤ w1.heap.size by have := hlw; omega) _ _
      generalize w3.setCell ⟨w1.heap.size, 2, none⟩ (.int .i64 n1) = W4 at hY4 hX4 hM4 hS4 ⊢
      have HY4 := Lib.hid hY4
      have HS4 := Lib.hid hS4
      clear xc xf xz
      obtain ⟨xc, xf, xz⟩ := hX4.facts
      obtain ⟨mc, mf, mz⟩ := hM4.facts
      obtain ⟨pc, -, pz⟩ := hY4.blk.facts
      clear hY4 hX4 hM4 hS4
      by_cases he1 : e1 = 0
      · have he1b : (e1 == 0) = true := by simpa using he1
        have HE := Lib.hid (HE2a.out he1)
        have HMt := Lib.hid (wmount_any (HY4.out.wd.keep (Below.refl _ W4).drew) HOk.out (by omega) n1 m.b m.n)
        subst he1
        go_wp2_with fail
        refine wp_region_lex 10 mixed (by kernel_rfl) (show PanicOk _ from by repeat (first | exact pk_body | refine pk_then ?_ | refine pk_block ?_ | refine pk_scope ?_)) ?_
        simp only [List.take_succ_cons, List.take_zero, List.drop_succ_cons, List.drop_zero]
        repeat still_step
        refine wpStill_nil ?_
        go_wp2_with fail
        refine HMt.out.mono ?_
        rintro e w5 ⟨rfl, R5, hR5, hS5⟩
        have HX := Lib.hid (And.intro ((HY4.out.keep (Below.refl _ W4).drew).step hR5 hS5) ((HS4.out.trans (stpY (Stp.of_below (F := R3.F pw) (Below.refl _ W4).drew))).trans (stpY hS5)))
        clear hR5 hS5
        go_wp2_with fail
        go_end0
        rw [HE.out]
        exact ⟨rfl, R5, _, HX.out.1, rfl, (HC.out.next S1).fs _, by show Y.count + 1 ≤ _; omega, HX.out.2⟩
      · have he1b : (e1 == 0) = false := by simpa using he1
        have HE := Lib.hid (HE3a.out he1)
        clear he1
        go_wp2_with fail
        go_end0
        rw [HE.out]
        exact ⟨rfl, R3, _, HY4.out, rfl, HC.out.next S1, by show Y.count + 1 ≤ _; omega, HS4.out⟩
    · have hnb : (xk == 0) = false := by simpa using hno
      have HE := Lib.hid (HE4.out rfl hno)
      have HMt := Lib.hid (wmount_any (HYX.out.wd.keep (Below.refl _ X).drew) HK.out (by omega) xk m.b m.n)
      clear HE1 HE2 HE3 HE4 hno
      go_wp2_with fail
      refine wp_region_lex 10 mixed (by kernel_rfl) (show PanicOk _ from by repeat (first | exact pk_body | refine pk_then ?_ | refine pk_block ?_ | refine pk_scope ?_)) ?_
      simp only [List.take_succ_cons, List.take_zero, List.drop_succ_cons, List.drop_zero]
      repeat still_step
      refine wpStill_nil ?_
      go_wp2_with fail
      refine HMt.out.mono ?_
      rintro e w5 ⟨rfl, R5, hR5, hS5⟩
      have HX := Lib.hid (And.intro ((HYX.out.keep (Below.refl _ X).drew).step hR5 hS5) (((Stp.of_below (F := R.Y pf pw) HBX.out).trans (Stp.of_below (F := R.Y pf pw) (Below.refl _ X).drew)).trans (stpY hS5)))
      clear hR5 hS5
      go_wp2_with fail
      go_end0
      rw [HE.out]
      exact ⟨rfl, R5, _, HX.out.1, rfl, HC.out.fs _, by show Y.count ≤ _; omega, HX.out.2⟩
  · have heb : (xe == 0) = false := by simpa using he
    have HE := Lib.hid (HE1.out he)
    clear he
    go_wp2_with fail
    go_end0
    rw [HE.out]
    exact ⟨rfl, (Became.same HY.out HC.out HBX.out).mono (by omega)⟩
end

end Go.Proofs.YtihdbncoijhihaaGreat
