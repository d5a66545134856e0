/- Texts of the proof, part 5. -/
import Derived.Lib.SliceRun
import Derived.StillTail
import Derived.StillTactics
import Derived.OrdersHeld
import Derived.WalkKit
import Derived.Test.YtkkiglagdojnlaaGreatDoorEP4
set_option linter.unusedVariables false
set_option linter.unusedSimpArgs false
/- What always holds of a tree of nodes: numbers, mounts, entries within bounds; kept by what the layers do. No walk. -/
namespace Go.Proofs.YtkkiglagdojnlaaGreatDoor

open Go.RowKit

theorem put_len (l : List En) (n : ByteArray) (no : Int) (h : Rise l) : (entPut l n no).length ≤ l.length + 1 := by
  rw [put_at h, List.length_append, List.length_take, List.length_cons, List.length_drop]
  have := entAt_le l n
  omega
/-- what holds of a single node. -/
structure AnOk (a : An) (D N : Nat) : Prop where
  rise : Rise a.ents
  few : a.ents.length ≤ N
  dev : 1 ≤ a.dev ∧ a.dev ≤ D
  links : 0 ≤ a.links ∧ a.links ≤ 1000
  data : a.data.size ≤ 1048576
  mode : 0 ≤ a.mode ∧ a.mode ≤ 1023
  kind : 1 ≤ a.kind ∧ a.kind ≤ 3
  nz : ∀ x ∈ a.ents, 1 ≤ x.no
  sy : a.kind = 3 → a.data.size ≤ 4096
theorem put_nz {l : List En} (h : ∀ x ∈ l, 1 ≤ x.no) (n : ByteArray) {no : Int} (hn : 1 ≤ no) : ∀ x ∈ entPut l n no, 1 ≤ x.no := by
  intro x hx
  unfold entPut at hx
  rcases List.mem_append.1 hx with hx | hx
  · exact h x (List.mem_filter.1 hx).1
  · rcases List.mem_cons.1 hx with rfl | hx
    · exact hn
    · exact h x (List.mem_filter.1 hx).1
structure FsOk (S : Fs) (N : Nat) : Prop where
  nums : Nums S
  l0 : 0 ≤ S.last
  lN : S.last ≤ N
  all : ∀ a ∈ S.ns, AnOk a S.ds.length N
  d1 : 1 ≤ S.ds.length
  d8 : S.ds.length ≤ 8
  root : ∀ d ∈ S.ds, 1 ≤ d.root ∧ d.root ≤ S.last
theorem AnOk.mono {a : An} {D D' N N' : Nat} (h : AnOk a D N) (hD : D ≤ D') (hN : N ≤ N') : AnOk a D' N' :=
  ⟨h.rise, Nat.le_trans h.few hN, ⟨h.dev.1, by have := h.dev.2; omega⟩, h.links, h.data, h.mode, h.kind, h.nz, h.sy⟩
theorem FsOk.mono {S : Fs} {N N' : Nat} (h : FsOk S N) (hN : N ≤ N') : FsOk S N' :=
  ⟨h.nums, h.l0, by have := h.lN; omega, fun a ha => (h.all a ha).mono (Nat.le_refl _) hN, h.d1, h.d8, h.root⟩
theorem FsOk.get {S : Fs} {N : Nat} (h : FsOk S N) {k : Int} {a : An} (hg : S.get k = some a) : AnOk a S.ds.length N ∧ a.no = k ∧ 1 ≤ k ∧ k ≤ S.last := by
  have hm := an_mem hg
  have hn := an_no hg
  have := h.nums.low a hm
  exact ⟨h.all a hm, hn, by omega, by omega⟩
theorem FsOk.set {S : Fs} {N : Nat} (h : FsOk S N) {a : An} (ha : AnOk a S.ds.length N) : FsOk (S.set a) N := by
  refine ⟨h.nums.set a, h.l0, h.lN, fun x hx => ?_, h.d1, h.d8, h.root⟩
  unfold Fs.set at hx
  simp only [List.mem_map] at hx
  obtain ⟨y, hy, rfl⟩ := hx
  split
  · exact ha
  · exact h.all y hy
theorem FsOk.add {S : Fs} {N : Nat} (h : FsOk S N) {a : An} (ha : AnOk a S.ds.length (N + 1)) : FsOk (S.add a) (N + 1) := by
  refine ⟨h.nums.add h.l0 a, ?_, ?_, fun x hx => ?_, h.d1, h.d8, fun d hd => ?_⟩
  · show 0 ≤ S.last + 1; have := h.l0; omega
  · show S.last + 1 ≤ ((N + 1 : Nat) : Int); have := h.lN; omega
  · rcases List.mem_append.1 hx with hx | hx
    · exact (h.all x hx).mono (Nat.le_refl _) (by omega)
    · simp at hx; subst hx; exact ⟨ha.rise, ha.few, ha.dev, ha.links, ha.data, ha.mode, ha.kind, ha.nz, ha.sy⟩
  · have := h.root d hd
    show 1 ≤ d.root ∧ d.root ≤ S.last + 1
    omega
theorem FsOk.setDev {S : Fs} {N : Nat} (h : FsOk S N) {d : Int} {v u : Dv} (hv : S.dev d = some v) (hu : u.root = v.root) : FsOk (S.setDev d u) N := by
  unfold Fs.dev at hv
  split at hv
  · refine ⟨⟨h.nums.rise, h.nums.low⟩, h.l0, h.lN, fun a ha => ?_, ?_, ?_, fun x hx => ?_⟩
    · unfold Fs.setDev; simp only [List.length_set]; exact h.all a ha
    · unfold Fs.setDev; simp only [List.length_set]; exact h.d1
    · unfold Fs.setDev; simp only [List.length_set]; exact h.d8
    · rcases List.mem_or_eq_of_mem_set hx with hx | rfl
      · exact h.root x hx
      · rw [hu]; exact h.root v (List.mem_of_getElem? hv)
  · cases hv
theorem dev_of {S : Fs} {d : Int} (h1 : 1 ≤ d) (h2 : d ≤ S.ds.length) : ∃ v, S.dev d = some v ∧ S.ds[(d - 1).toNat]? = some v := by
  unfold Fs.dev
  rw [if_pos h1]
  have : (d - 1).toNat < S.ds.length := by omega
  exact ⟨_, List.getElem?_eq_getElem this, List.getElem?_eq_getElem this⟩
theorem root_of {S : Fs} {N : Nat} (h : FsOk S N) {d : Int} (h1 : 1 ≤ d) (h2 : d ≤ S.ds.length) : ∃ v, S.dev d = some v ∧ S.root d = v.root ∧ 1 ≤ v.root ∧ v ∈ S.ds := by
  obtain ⟨v, hv, hg⟩ := dev_of h1 h2
  refine ⟨v, hv, ?_, (h.root v (List.mem_of_getElem? hg)).1, List.mem_of_getElem? hg⟩
  unfold Fs.root
  rw [if_pos ⟨h1, h2⟩, hg]
theorem root_no {S : Fs} {d : Int} (h : ¬ (1 ≤ d ∧ d ≤ S.ds.length)) : S.root d = 0 := by
  unfold Fs.root
  rw [if_neg h]
theorem rise_nil : Rise [] := List.Pairwise.nil
theorem FsOk.addRoot {S : Fs} {N : Nat} (hn : Nums S) (l0 : 0 ≤ S.last) (lN : S.last ≤ N) (hall : ∀ a ∈ S.ns, AnOk a S.ds.length N) (d8 : S.ds.length ≤ 7) (hroot : ∀ d ∈ S.ds, 1 ≤ d.root ∧ d.root ≤ S.last) (over b n : Int) : FsOk (S.addRoot over b n) (N + 1) := by
  refine ⟨?_, ?_, ?_, fun x hx => ?_, ?_, ?_, fun d hd => ?_⟩
  · have := hn.add l0 { an0 with dev := S.ds.length + 1, kind := 1, mode := 493, links := 1, up := S.last + 1 }
    exact ⟨this.rise, this.low⟩
  · show 0 ≤ S.last + 1; omega
  · show S.last + 1 ≤ ((N + 1 : Nat) : Int); omega
  · show AnOk x (S.ds ++ [_]).length (N + 1)
    rw [List.length_append, List.length_singleton]
    rcases List.mem_append.1 hx with hx | hx
    · exact (hall x hx).mono (by omega) (by omega)
    · simp at hx; subst hx
      exact ⟨rise_nil, Nat.zero_le _, ⟨by show 1 ≤ (S.ds.length : Int) + 1; omega, by show (S.ds.length : Int) + 1 ≤ ((S.ds.length + 1 : Nat) : Int); omega⟩, ⟨by dsimp only; decide, by dsimp only; decide⟩, by show (0 : Nat) ≤ _; omega, ⟨by dsimp only; decide, by dsimp only; decide⟩, ⟨by dsimp only; decide, by dsimp only; decide⟩, fun x hx => (by simp [an0] at hx), fun h => absurd h (by dsimp only; decide)⟩
  · show 1 ≤ (S.ds ++ [_]).length; rw [List.length_append, List.length_singleton]; omega
  · show (S.ds ++ [_]).length ≤ 8; rw [List.length_append, List.length_singleton]; omega
  · show 1 ≤ d.root ∧ d.root ≤ S.last + 1
    rcases List.mem_append.1 hd with hd | hd
    · have := hroot d hd; omega
    · simp at hd; subst hd; simp; omega
theorem FsOk.new (b n : Int) : FsOk (fs0.addRoot 0 b n) 1 :=
  FsOk.addRoot (S := fs0) (N := 0) ⟨List.Pairwise.nil, fun x hx => by simp [fs0] at hx⟩ (by decide) (by decide) (fun x hx => by simp [fs0] at hx) (by decide) (fun x hx => by simp [fs0] at hx) 0 b n
theorem FsOk.mount {S : Fs} {N : Nat} (h : FsOk S N) (k b n : Int) : FsOk (S.mount k b n).1 (N + 1) := by
  have h1 := h.mono (Nat.le_succ N)
  unfold Fs.mount
  split
  · exact h1
  · split
    · exact h1
    · split
      · exact h1
      · split
        · exact h1
        · rename_i hd
          exact FsOk.addRoot h.nums h.l0 h.lN h.all (by omega) h.root k b n
theorem FsOk.make {S : Fs} {N : Nat} (h : FsOk S N) {a : An} (ha : AnOk a S.ds.length (N + 1)) : FsOk (S.make a).1 (N + 1) := by
  have h1 := h.mono (Nat.le_succ N)
  unfold Fs.make
  split
  · exact h1
  · split
    · exact h1
    · rename_i v hv
      simp only
      split
      · have h2 := h.setDev (u := { v with b := v.b + blkI a.kind a.data.size, n := v.n + 1 }) hv rfl
        exact h2.add (by unfold Fs.setDev; simp only [List.length_set]; exact ha)
      · exact h1
theorem FsOk.touch {S : Fs} {N : Nat} (h : FsOk S N) (now dir : Int) (l : List En) (hl : Rise l) (hN : l.length ≤ N) (hz : ∀ x ∈ l, 1 ≤ x.no) : FsOk (S.touch now dir l) N := by
  unfold Fs.touch
  split
  · exact h
  · rename_i d hd
    have := h.get hd
    exact h.set ⟨hl, hN, this.1.dev, this.1.links, this.1.data, this.1.mode, this.1.kind, hz, this.1.sy⟩
theorem make_nz {S : Fs} (h : 0 ≤ S.last) (a : An) (hz : (S.make a).2.2 = 0) : 1 ≤ (S.make a).2.1 := by
  revert hz
  unfold Fs.make
  split
  · intro hz; cases hz
  · split
    · intro hz; cases hz
    · simp only
      split
      · intro _; show 1 ≤ S.last + 1; omega
      · rename_i hz; intro hz2; exact absurd hz2 hz
theorem come_ok {S : Fs} {N : Nat} (h : FsOk S N) {a : An} (c : Cr) (now dir : Int) (s : ByteArray) (hr : a.ents = []) (hd : a.data.size ≤ 1048576) (hm : 0 ≤ a.mode ∧ a.mode ≤ 1023) (hk : 1 ≤ a.kind ∧ a.kind ≤ 3) (hsy : a.kind = 3 → a.data.size ≤ 4096) : FsOk (S.come c now dir s a).1 (N + 1) := by
  have h1 := h.mono (Nat.le_succ N)
  unfold Fs.come
  split
  · exact h1
  · split
    · exact h1
    · rename_i d hg
      split
      · exact h1
      · obtain ⟨hdo, -, -, -⟩ := h.get hg
        have h2 := h.make (a := { a with dev := d.dev, uid := c.u, gid := c.g, mtime := now, ctime := now, links := 1 }) ⟨by rw [show ({ a with dev := d.dev, uid := c.u, gid := c.g, mtime := now, ctime := now, links := 1 } : An).ents = a.ents from rfl, hr]; exact rise_nil, by show a.ents.length ≤ N + 1; rw [hr]; exact Nat.zero_le _, hdo.dev, ⟨by dsimp only; decide, by dsimp only; decide⟩, hd, hm, hk, fun x hx => (by rw [show ({ a with dev := d.dev, uid := c.u, gid := c.g, mtime := now, ctime := now, links := 1 } : An).ents = a.ents from rfl, hr] at hx; cases hx), hsy⟩
        simp only
        split
        · exact h1
        · refine h2.touch _ _ _ (rise_put hdo.rise _ _) ?_ (put_nz hdo.nz _ (make_nz h.l0 _ (by rename_i hz; simpa using hz)))
          have := put_len d.ents s (S.make { a with dev := d.dev, uid := c.u, gid := c.g, mtime := now, ctime := now, links := 1 }).2.1 hdo.rise
          have := hdo.few
          omega
theorem mkdir_ok {S : Fs} {N : Nat} (h : FsOk S N) (c : Cr) (now dir : Int) (s : ByteArray) (m : Int) : FsOk (S.mkdir c now dir s m).1 (N + 1) := by
  unfold Fs.mkdir
  split
  · exact h.mono (Nat.le_succ N)
  · exact come_ok h c now dir s rfl (by show (0 : Nat) ≤ 1048576; decide) ⟨by show 0 ≤ m; omega, by show m ≤ 1023; omega⟩ ⟨by dsimp only; decide, by dsimp only; decide⟩ (fun h => absurd h (by dsimp only; decide))
theorem file_ok {S : Fs} {N : Nat} (h : FsOk S N) (c : Cr) (now dir : Int) (s : ByteArray) (m : Int) (t : ByteArray) : FsOk (S.file c now dir s m t).1 (N + 1) := by
  unfold Fs.file
  split
  · exact h.mono (Nat.le_succ N)
  · split
    · exact h.mono (Nat.le_succ N)
    · exact come_ok h c now dir s rfl (by show t.size ≤ _; omega) ⟨by show 0 ≤ m; omega, by show m ≤ 1023; omega⟩ ⟨by show (1 : Int) ≤ 2; decide, by show (2 : Int) ≤ 3; decide⟩ (fun h => absurd h (by dsimp only; decide))
theorem sym_ok {S : Fs} {N : Nat} (h : FsOk S N) (c : Cr) (now dir : Int) (s t : ByteArray) : FsOk (S.sym c now dir s t).1 (N + 1) := by
  unfold Fs.sym
  split
  · exact h.mono (Nat.le_succ N)
  · split
    · exact h.mono (Nat.le_succ N)
    · exact come_ok h c now dir s rfl (by show t.size ≤ _; omega) ⟨by show (0 : Int) ≤ 511; decide, by show (511 : Int) ≤ 1023; decide⟩ ⟨by show (1 : Int) ≤ 3; decide, by show (3 : Int) ≤ 3; decide⟩ (fun _ => by show t.size ≤ 4096; omega)
theorem hard_ok {S : Fs} {N : Nat} (h : FsOk S N) (c : Cr) (now no dir : Int) (s : ByteArray) : FsOk (S.hard c now no dir s).1 (N + 1) := by
  have h1 := h.mono (Nat.le_succ N)
  unfold Fs.hard
  split
  · exact h1
  · split
    · rename_i d n hd hn
      split
      · exact h1
      · split
        · exact h1
        · split
          · exact h1
          · split
            · exact h1
            · obtain ⟨ho, -, -, -⟩ := h.get hd
              obtain ⟨hm, -, -, -⟩ := h.get hn
              have hm1 := hm.mono (Nat.le_refl _) (Nat.le_succ N)
              refine FsOk.touch (h1.set (a := { n with links := n.links + 1, ctime := now }) ⟨hm1.rise, hm1.few, hm1.dev, ⟨by have := hm1.links.1; show 0 ≤ n.links + 1; omega, by show n.links + 1 ≤ 1000; omega⟩, hm1.data, hm1.mode, hm1.kind, hm1.nz, hm1.sy⟩) _ _ _ (rise_put ho.rise _ _) ?_ (put_nz ho.nz _ (h.get hn).2.2.1)
              have := put_len d.ents s no ho.rise
              have := ho.few
              omega
    · exact h1
theorem chmod_ok {S : Fs} {N : Nat} (h : FsOk S N) (c : Cr) (now no m : Int) : FsOk (S.chmod c now no m).1 N := by
  unfold Fs.chmod
  split
  · exact h
  · rename_i n hn
    split
    · exact h
    · split
      · exact h
      · obtain ⟨hm, -, -, -⟩ := h.get hn
        exact h.set ⟨hm.rise, hm.few, hm.dev, hm.links, hm.data, ⟨by show 0 ≤ m; omega, by show m ≤ 1023; omega⟩, hm.kind, hm.nz, hm.sy⟩
theorem chown_ok {S : Fs} {N : Nat} (h : FsOk S N) (c : Cr) (now no u g : Int) : FsOk (S.chown c now no u g).1 N := by
  unfold Fs.chown
  split
  · exact h
  · rename_i n hn
    split
    · exact h
    · split
      · exact h
      · split
        · exact h
        · obtain ⟨hm, -, -, -⟩ := h.get hn
          exact h.set ⟨hm.rise, hm.few, hm.dev, hm.links, hm.data, hm.mode, hm.kind, hm.nz, hm.sy⟩
theorem utime_ok {S : Fs} {N : Nat} (h : FsOk S N) (c : Cr) (now no t : Int) : FsOk (S.utime c now no t).1 N := by
  unfold Fs.utime
  split
  · exact h
  · rename_i n hn
    split
    · exact h
    · split
      · exact h
      · obtain ⟨hm, -, -, -⟩ := h.get hn
        exact h.set ⟨hm.rise, hm.few, hm.dev, hm.links, hm.data, hm.mode, hm.kind, hm.nz, hm.sy⟩
end Go.Proofs.YtkkiglagdojnlaaGreatDoor

/- Mounts (layer 14), what reads alone: none, Devs, Root, Over. -/
namespace Go.Proofs.YtkkiglagdojnlaaGreatDoor

open Go.RowKit

/-- a mount's cells. -/
structure DvC (w : World) (g o : Nat) (d : Dv) : Prop where
  c0 : w.cell? ⟨g, o, none⟩ = some (.int .i64 d.root)
  c1 : w.cell? ⟨g, o + 1, none⟩ = some (.int .i64 d.over)
  c2 : w.cell? ⟨g, o + 2, none⟩ = some (.int .i64 d.b)
  c3 : w.cell? ⟨g, o + 3, none⟩ = some (.int .i64 d.n)
  c4 : w.cell? ⟨g, o + 4, none⟩ = some (.int .i64 d.mb)
  c5 : w.cell? ⟨g, o + 5, none⟩ = some (.int .i64 d.mn)
def dvQ (cs : List Value) (d : Dv) : Prop := cs = d.cs
section

variable {w w' : World} {pw : Nat} {R : Rp} {S : Fs}

theorem WdAt.devF (h : WdAt w pw R S) (hd : 0 < S.ds.length) : ∃ g cap, R.dv = .slice (some ⟨g, 0, none⟩) S.ds.length cap ∧ S.ds.length ≤ cap ∧ cap ≤ 9223372036854775807 ∧ g < w.heap.size ∧
    (∀ (i : Nat) (hi : i < S.ds.length), DvC w g (i * 6) S.ds[i]) ∧ (∀ i, w.frozen? ⟨g, i, none⟩ = false) ∧ ∃ cur, Blk w g cur 226 := by
  have h0 := h.devs
  obtain ⟨a, cap, hv, hle, h63, hf⟩ := own_form h0
  rcases hf with ⟨-, h1, -⟩ | ⟨g, rfl, -, hg⟩
  · omega
  · rw [hv] at h0
    obtain ⟨-, -, -, h1 | ⟨b, off, he, hb, hel⟩⟩ := own_slice (R := dvQ) (by omega) Dv.cs_len (fun _ => rfl) h0
    · omega
    · injection he with he
      injection he with e1 e2
      subst e1 e2
      obtain ⟨cur, hcur⟩ : ∃ cur, Blk w g cur 226 := by
        rcases h0.2 with ⟨h1, -⟩ | ⟨g', cap', cur, h1, -, hg', -⟩
        · cases h1
        · injection h1 with h1
          injection h1 with h1
          injection h1 with h1
          subst h1
          exact ⟨cur, hg'⟩
      refine ⟨g, cap, hv, hle, h63, hg, fun i hi => ?_, hcur.frozen, cur, hcur⟩
      obtain ⟨cs, h2, h3, h4⟩ := hel i hi
      subst h3
      have e : ∀ j (hj : j < 6), w.cell? ⟨g, i * 6 + j, none⟩ = some (S.ds[i].cs[j]'(by rw [Dv.cs_len]; exact hj)) := fun j hj => by
        have := h4 j (by rw [Dv.cs_len]; exact hj)
        rw [Nat.zero_add] at this
        exact this
      exact ⟨e 0 (by omega), e 1 (by omega), e 2 (by omega), e 3 (by omega), e 4 (by omega), e 5 (by omega)⟩

set_option maxHeartbeats 400000 in
theorem wnone_any (h : WdAt w pw R S) (hd : 0 < S.ds.length) :
    Calls Tryz.prog 129 #[.pointer (some ⟨pw, 0, none⟩)] w fun e w' => e = .returned (.bool false) ∧ w = w' := by
  obtain ⟨g, cap, hv, -, -, -, -, -, -⟩ := h.devF hd
  obtain ⟨pc, -, -⟩ := h.blk.facts
  rw [hv] at pc
  have hz : ¬ ((S.ds.length : Int) = 0) := by omega
  have hz2 : ((S.ds.length : Int) == 0) = false := by simpa using hz
  generalize S.ds.length = n at pc hz hz2
  clear h hv hd
  go_enter Tryz.func129, Tryz.ntmps129
  go_wp2
  go_ret
  exact ⟨rfl, rfl⟩

set_option maxHeartbeats 400000 in
theorem wdevs_any (h : WdAt w pw R S) (hd : 0 < S.ds.length) :
    Calls Tryz.prog 161 #[.pointer (some ⟨pw, 0, none⟩)] w fun e w' => e = .returned (.int .i64 S.ds.length) ∧ w = w' := by
  have HN := Lib.hid (wnone_any h hd)
  obtain ⟨g, cap, hv, -, -, -, -, -, -⟩ := h.devF hd
  obtain ⟨pc, -, -⟩ := h.blk.facts
  rw [hv] at pc
  generalize S.ds.length = n at pc ⊢
  clear h hv hd
  go_enter Tryz.func161, Tryz.ntmps161
  go_wp2_with fail
  refine HN.out.mono ?_
  rintro e w1 ⟨rfl, rfl⟩
  go_wp2
  go_ret
  exact ⟨rfl, rfl⟩

set_option maxHeartbeats 400000 in
theorem wroot_any (h : WdAt w pw R S) (hd : 0 < S.ds.length) (d : Int) :
    Calls Tryz.prog 77 #[.pointer (some ⟨pw, 0, none⟩), .int .i64 d] w fun e w' => e = .returned (.int .i64 (S.root d)) ∧ w = w' := by
  have HN := Lib.hid (wnone_any h hd)
  obtain ⟨g, cap, hv, hle, h63, hg, hc, -, -⟩ := h.devF hd
  obtain ⟨pc, -, -⟩ := h.blk.facts
  rw [hv] at pc
  clear h hv
  by_cases h1 : 1 ≤ d
  · by_cases h2 : d ≤ S.ds.length
    · obtain ⟨k, rfl⟩ : ∃ k : Nat, d = (k : Int) + 1 := ⟨(d - 1).toNat, by omega⟩
      have hk : k < S.ds.length := by omega
      have hr : S.root ((k : Int) + 1) = S.ds[k].root := by
        unfold Fs.root
        rw [if_pos ⟨h1, h2⟩, show ((k : Int) + 1 - 1).toNat = k by omega, List.getElem?_eq_getElem hk]
      rw [hr]
      have hcc := (hc _ hk).c0
      clear hc hr
      generalize S.ds[k] = v at hcc ⊢
      generalize S.ds.length = n at pc hle h2 hk hd
      go_enter Tryz.func77, Tryz.ntmps77
      go_wp2_with fail
      refine HN.out.mono ?_
      rintro e w1 ⟨rfl, rfl⟩
      go_wp2
      go_ret
      exact ⟨rfl, rfl⟩
    · rw [root_no (by omega)]
      have h2' : (S.ds.length : Int) < d := by omega
      clear hc
      generalize S.ds.length = n at pc hle h2 h2' hd
      go_enter Tryz.func77, Tryz.ntmps77
      go_wp2_with fail
      refine HN.out.mono ?_
      rintro e w1 ⟨rfl, rfl⟩
      go_wp2
      go_ret
      exact ⟨rfl, rfl⟩
  · rw [root_no (by omega)]
    have h1' : d < 1 := by omega
    clear hc
    generalize S.ds.length = n at pc hle hd
    go_enter Tryz.func77, Tryz.ntmps77
    go_wp2_with fail
    refine HN.out.mono ?_
    rintro e w1 ⟨rfl, rfl⟩
    go_wp2
    go_ret
    exact ⟨rfl, rfl⟩
end

end Go.Proofs.YtkkiglagdojnlaaGreatDoor

/- A region that draws its order: first what only reads (the world is as it was), then calls, stores and moves of which the order is bound but for moves: the order of the text serves. No program in sight. -/
namespace Go.Proofs.YtkkiglagdojnlaaGreatDoor

open Go

theorem then_panic {P : Program} {fn : Func} {R : Ending → World → Prop} {K : Act → World → Prop} : ∀ c d v a w, Exit.then K (bodyPost P fn R) (.panic c) (Act.put a d v) w → Exit.then K (bodyPost P fn R) (.panic c) a w :=
  fun c d v a w h => by
    have h' : (Act.put a d v).defers = [] ∧ R (.panicked c) w := h
    exact show a.defers = [] ∧ R (.panicked c) w from ⟨by rw [← h'.1]; cases d <;> rfl, h'.2⟩
/-- an operation that looks at no memory. -/
def pureOp : Op → Bool
  | .move _ => true
  | .assign _ => true
  | .extract _ _ => true
  | _ => false
section

variable {P : Program} {ops : Array Oper} {md : Region.Mode} {Q : Exit → Act → World → Prop}

theorem pure_yields {o : Oper} (hp : pureOp o.op = true) {w : World} {K : Act → World → Prop} {a : Act} (h : o.wp P a w K Q ∨ (o.asks P a w ∧ LetsOut Q)) :
    ∃ v, (∀ w', (execOp a.eval o).run P w' = .ok (.value v) w') ∧ K (a.put o.dst v) w := by
  have key : ∀ v, (∀ w', (execOp a.eval o).run P w' = .ok (.value v) w') → ((execOp a.eval o).runT P w #[]).2 = #[] → ∃ v, (∀ w', (execOp a.eval o).run P w' = .ok (.value v) w') ∧ K (a.put o.dst v) w := by
    intro v hr ht
    refine ⟨v, hr, ?_⟩
    rcases h with h | h
    · unfold Oper.wp at h; rw [hr] at h; exact h
    · have := h.1.1; rw [ht] at this; simp at this
  have bad : (∀ w', ∃ m, (execOp a.eval o).run P w' = .halt (.stuck m) w') → ((execOp a.eval o).runT P w #[]).2 = #[] → ∃ v, (∀ w', (execOp a.eval o).run P w' = .ok (.value v) w') ∧ K (a.put o.dst v) w := by
    intro hr ht
    rcases h with h | h
    · obtain ⟨m, hm⟩ := hr w
      unfold Oper.wp at h; rw [hm] at h; exact h.elim
    · have := h.1.1; rw [ht] at this; simp at this
  unfold pureOp at hp
  split at hp
  · rename_i x hx
    exact key (a.eval x) (fun w' => by simp [execOp, hx]) (by simp only [execOp, hx]; rfl)
  · rename_i x hx
    exact key (a.eval x) (fun w' => by simp [execOp, hx]) (by simp only [execOp, hx]; rfl)
  · rename_i t ix hx
    cases ht : a.eval t with
    | tuple vs =>
      cases hv : vs[ix]? with
      | some v => exact key v (fun w' => by simp [execOp, hx, Instr.extract, ht, hv]) (by simp only [execOp, hx, Instr.extract, ht, hv]; rfl)
      | none => exact bad (fun w' => ⟨_, by simp only [execOp, hx, Instr.extract, ht, hv]; rfl⟩) (by simp only [execOp, hx, Instr.extract, ht, hv]; rfl)
    | _ => exact bad (fun w' => ⟨_, by simp only [execOp, hx, Instr.extract, ht]; rfl⟩) (by simp only [execOp, hx, Instr.extract, ht]; rfl)
  · cases hp

/-- from number k on the operations come up in the text's order, but for such as look at no memory. -/
def lexB2 (md : Region.Mode) (ops : Array Oper) : Nat → Nat → Array Bool → Bool
  | 0, _, listed => (Region.ready md ops listed).isEmpty
  | g + 1, k, listed =>
    (decide (Region.ready md ops listed = [k]) || (match ops[k]? with
      | some o => pureOp o.op && o.guard.isNone && (Region.ready md ops listed).contains k && Region.free md ops listed k
      | none => false)) && lexB2 md ops g (k + 1) (listed.setIfInBounds k true)
theorem wanted_of {o : Oper} {T : Nat → Option Bool} (h : o.guard.isNone = true) : Region.wanted o T = true := by
  simp [Region.wanted, Option.isNone_iff_eq_none.1 h]
theorem anyH_lex2 (hsel : Region.noSelect ops = true) (hQ : ∀ c d v a w, Q (.panic c) (Act.put a d v) w → Q (.panic c) a w) : ∀ (l : List Oper) (k : Nat) (listed : Array Bool) (a : Act) (w : World), (∀ j, l[j]? = ops[k + j]?) →
    lexB2 md ops l.length k listed = true → wpList P ops Q l a w → wpAnyH P md ops Q (fun _ => True) l.length listed a w
  | [], _, _, _, _, _, hB, h => ⟨by simpa [lexB2] using hB, h⟩
  | o :: l, k, listed, a, w, hl, hB, h => by
    have h0 : ops[k]? = some o := by simpa using (hl 0).symm
    have hl' : ∀ j, l[j]? = ops[k + 1 + j]? := fun j => by have := hl (j + 1); simpa [Nat.add_assoc, Nat.add_comm 1 j] using this
    simp only [List.length_cons, lexB2, Bool.and_eq_true, Bool.or_eq_true, decide_eq_true_eq, h0] at hB
    rcases hB.1 with h1 | ⟨⟨⟨hp, hg⟩, hr⟩, hf⟩
    · refine ⟨fun h2 => (by rw [h2] at h1; cases h1), fun i hi => ?_⟩
      rw [h1] at hi
      have hik : i = k := by simpa using hi
      subst hik
      have hw : wpOp P ops Q i (wpList P ops Q l) a w := by unfold wpOp; simp only [h0]; exact h
      exact wpOp_mono (fun a' w' h' => ⟨trivial, anyH_lex2 hsel hQ l (i + 1) _ a' w' hl' hB.2 h'⟩) hw
    · have hw : Region.wanted o (yielded ops a.tmps) = true := wanted_of hg
      unfold wpList at h
      rw [if_pos hw] at h
      obtain ⟨v, hy, hK⟩ := pure_yields hp h
      exact wpAnyH_take h0 hsel hf hr (fun c a w hq => hQ c _ _ a w hq) (.inl ⟨hw, fun w' _ => hy w'⟩) trivial (anyH_lex2 hsel hQ l (k + 1) _ _ w hl' hB.2 hK)

/-- each operation behind number n waits for one from n on. -/
def chainB2 (md : Region.Mode) (ops : Array Oper) (n : Nat) : Bool :=
  (List.range ops.size).all fun t => decide (t ≤ n) || (List.range t).any fun j => decide (n ≤ j) && Region.waitsFor md ops t j
theorem tail_waits2 {n : Nat} {listed : Array Bool} (hs : Region.sinkB md ops n = true) (hc : chainB2 md ops n = true) (hn : n < ops.size) (inv : HeadInv md ops n listed) {i : Nat} (hi : i < n) (hun : listed.getD i true = false) :
    ∀ t, n ≤ t → t ∉ Region.ready md ops listed := by
  have low : ∀ (d i : Nat), n - i = d → i < n → listed.getD i true = false → n ∉ Region.ready md ops listed := by
    intro d
    induction d using Nat.strongRecOn with
    | _ d ih =>
      intro i hd hi hun hr
      obtain ⟨-, on, hon, hall⟩ := mem_ready.1 hr
      obtain ⟨j, hj, hj2⟩ := List.any_eq_true.1 (List.all_eq_true.1 hs i (List.mem_range.2 hi))
      simp only [Bool.and_eq_true, decide_eq_true_eq] at hj2
      obtain ⟨oj, hoj, e, he, hb, hei⟩ := Region.waitsFor_spec hj2.2
      have hjn : j ≤ n := by have := List.mem_range.1 hj; omega
      have hno : listed.getD i false = false := getD_both hun
      rcases Nat.lt_or_ge j n with hlt | hge
      · cases hl : listed.getD j false with
        | true =>
          have := inv.closed j oj hoj hl e he hb
          rw [hei, hno] at this
          cases this
        | false => exact ih (n - j) (by omega) j rfl hlt (getD_in (by rw [inv.size]; omega) hl) hr
      · obtain rfl : j = n := by omega
        obtain rfl : oj = on := Option.some.inj (hoj.symm.trans hon)
        have := hall e he hb
        rw [hei, hno] at this
        cases this
  intro t ht hr
  rcases Nat.eq_or_lt_of_le ht with rfl | hlt
  · exact low _ i rfl hi hun hr
  · obtain ⟨-, ot, hot, hall⟩ := mem_ready.1 hr
    have htl : t < ops.size := (Array.getElem?_eq_some_iff.1 hot).1
    have h1 := List.all_eq_true.1 hc t (List.mem_range.2 htl)
    simp only [Bool.or_eq_true, decide_eq_true_eq] at h1
    rcases h1 with h1 | h1
    · omega
    · obtain ⟨j, hj, hj2⟩ := List.any_eq_true.1 h1
      simp only [Bool.and_eq_true, decide_eq_true_eq] at hj2
      obtain ⟨o', ho', e, he, hb, hej⟩ := Region.waitsFor_spec hj2.2
      obtain rfl : o' = ot := Option.some.inj (ho'.symm.trans hot)
      have := hall e he hb
      rw [hej, getD_both (inv.tail j hj2.1 (by have := List.mem_range.1 hj; omega))] at this
      cases this

variable {w : World}

theorem anyL_first2 {n i : Nat} {oi : Oper} {v : Value} {L : Array Bool → Act → Prop} (hi : ops[i]? = some oi) (hsel : Region.noSelect ops = true)
    (hs : Region.sinkB md ops n = true) (hc : chainB2 md ops n = true) (hn : n < ops.size) (hin : i < n) (hdone : ∀ listed a, L listed a → ∀ j ∈ Region.ready md ops listed, n ≤ j) :
    ∀ (f : Nat) (listed : Array Bool) (a : Act), HeadInv md ops n listed →
      (∀ j oj, ops[j]? = some oj → j ≠ i → listed.getD j true = false → (∀ e ∈ oj.after, Region.binds md e = true → e.on ≠ i) → oi.apart ops oj = true) →
      i ∈ Region.ready md ops listed → YieldsAt P ops w oi v a → wpAnyL P md ops w n L f (listed.setIfInBounds i true) (a.put oi.dst v) → wpAnyL P md ops w n L (f + 1) listed a
  | f, listed, a, inv, hfree, hr, hy, H => by
    have hun := (mem_ready.1 hr).1
    have hlow : ∀ j ∈ Region.ready md ops listed, j < n := fun j hj => Nat.lt_of_not_le fun h => tail_waits2 hs hc hn inv hin hun j h hj
    refine ⟨List.ne_nil_of_mem hr, fun j hj => ⟨hlow j hj, ?_⟩⟩
    by_cases hji : j = i
    · subst hji; exact hy.stOp hi H
    · cases f with
      | zero => exact absurd (hdone _ _ H j (ready_mono hj hji)) (Nat.not_le_of_lt (hlow j hj))
      | succ f =>
        have h1 := (H.2 j (ready_mono hj hji)).2
        obtain ⟨hjun, oj, hoj, hall⟩ := mem_ready.1 hj
        have hnot : ∀ e ∈ oj.after, Region.binds md e = true → e.on ≠ i := fun e he hb heq => by
          have h2 := hall e he hb
          rw [heq, getD_both hun] at h2
          cases h2
        refine stOp_mono (fun a' h3 => ?_) (stOp_put hoj (hfree j oj hoj hji hjun hnot) (fun cs b => Region.noSelect_spec hsel i oi cs b hi) (fun cs b => Region.noSelect_spec hsel j oj cs b hoj) hy h1)
        refine anyL_first2 hi hsel hs hc hn hin hdone f (listed.setIfInBounds j true) a' (inv.set hj (hlow j hj)) (fun k ok hk hki hku hno => hfree k ok hk hki ?_ hno) (ready_mono hr (Ne.symm hji)) h3.1 ?_
        · by_cases hjk : j = k
          · subst hjk; exact hjun
          · rw [getD_set_ne true hjk] at hku; exact hku
        · rw [Array.setIfInBounds_comm _ _ hji]; exact h3.2
def headB2 (md : Region.Mode) (ops : Array Oper) (g : Nat) : Nat → Nat → Array Bool → Bool
  | 0, k, listed => lexB2 md ops g k listed && (Region.ready md ops listed).all fun j => decide (k ≤ j)
  | f + 1, k, listed => (Region.ready md ops listed).contains k && Region.free md ops listed k && headB2 md ops g f (k + 1) (listed.setIfInBounds k true)
theorem anyL_lex2 {n g : Nat} {Lq : Act → Prop} (hsel : Region.noSelect ops = true) (hs : Region.sinkB md ops n = true) (hc : chainB2 md ops n = true) (hn : n < ops.size) :
    ∀ (l : List Oper) (k : Nat) (listed : Array Bool) (a : Act), (∀ j, j < l.length → l[j]? = ops[k + j]?) → k + l.length = n → HeadInv md ops n listed → headB2 md ops g l.length k listed = true → wpStill P ops w Lq l a →
    wpAnyL P md ops w n (fun listed' a' => (lexB2 md ops g n listed' = true ∧ ∀ j ∈ Region.ready md ops listed', n ≤ j) ∧ Lq a') l.length listed a
  | [], k, listed, a, _, hk, _, hB, h => by
    obtain rfl : k = n := by simpa using hk
    simp only [List.length_nil, headB2, Bool.and_eq_true, List.all_eq_true, decide_eq_true_eq] at hB
    exact ⟨hB, h⟩
  | o :: l, k, listed, a, hl, hk, inv, hB, h => by
    have h0 : ops[k]? = some o := by simpa using (hl 0 (by simp)).symm
    simp only [List.length_cons, headB2, Bool.and_eq_true] at hB
    obtain ⟨⟨hr, hf⟩, hB'⟩ := hB
    have hkn : k < n := by simp only [List.length_cons] at hk; omega
    have hr' : k ∈ Region.ready md ops listed := by simpa using hr
    have hst : stOp P ops w k (wpStill P ops w Lq l) a := by unfold stOp; simp only [h0]; exact h
    obtain ⟨v, hy, hK⟩ := yieldsAt_of_stOp h0 hst
    exact anyL_first2 h0 hsel hs hc hn hkn (fun _ _ hL => hL.1.2) l.length listed a inv (Region.free_spec h0 hf) hr' hy
      (anyL_lex2 hsel hs hc hn l (k + 1) _ _ (fun j hj => by have := hl (j + 1) (by simp; omega); simpa [Nat.add_assoc, Nat.add_comm 1 j] using this) (by simp only [List.length_cons] at hk; omega) (inv.set hr' hkn) hB' hK)
def lexRegionB (ops : Array Oper) (n : Nat) : Bool :=
  Region.noSelect ops && decide (n < ops.size) && Region.sinkB .any ops n && chainB2 .any ops n && headB2 .any ops (ops.size - n) n 0 (Array.replicate ops.size false)
/-- THE LAW: the first n operations only read; the rest goes in the text's order. -/
theorem wp_region_lex {id : Nat} {a : Act} {l : List Oper} (n : Nat) (hm : P.follows .mixedOrders = true) (hB : lexRegionB l.toArray n = true) (hQ : ∀ c d v a w, Q (.panic c) (Act.put a d v) w → Q (.panic c) a w)
    (h : wpStill P l.toArray w.drew (fun a' => wpList P l.toArray Q (l.drop n) a' w.drew) (l.take n) a) : (Code.region id l.toArray true).wp P Q a w := by
  simp only [lexRegionB, Bool.and_eq_true, decide_eq_true_eq] at hB
  obtain ⟨⟨⟨⟨hsel, hn⟩, hs⟩, hc⟩, hlex⟩ := hB
  have hn' : n < l.length := by simpa using hn
  have htl : (l.take n).length = n := by simp; omega
  have hdl : (l.drop n).length = l.toArray.size - n := by simp
  have inv0 : HeadInv .any l.toArray n (Array.replicate l.toArray.size false) :=
    ⟨by simp, fun j oj _ hl => (by rw [getD_replicate_false] at hl; cases hl), fun t _ ht => getD_in (by simpa using ht) (getD_replicate_false _ _)⟩
  have H := anyL_lex2 (md := .any) (g := l.toArray.size - n) hsel hs hc hn (l.take n) 0 _ a (fun j hj => by
    have hj' : j < n := by rw [htl] at hj; exact hj
    simp [hj']) (by simpa using htl) inv0 (by rw [htl]; exact hlex) h
  refine wp_region_any hm ?_
  have := wpAny_of_head (Q' := Q) (g := l.toArray.size - n) (fun listed a' hL => by
    have := wpAny_of_held _ _ _ _ (anyH_lex2 (md := .any) hsel hQ (l.drop n) n listed a' w.drew (fun j => by simp [List.getElem?_drop]) (by rw [hdl]; exact hL.1.1) hL.2)
    rwa [hdl] at this) _ _ _ H
  rw [htl, show n + (l.toArray.size - n) = l.toArray.size by omega] at this
  exact this
end

end Go.Proofs.YtkkiglagdojnlaaGreatDoor
