/- Texts of the proof, part 35. -/
import Derived.RangeFuncNested
import Derived.RangeFuncBound
import Derived.RangeFuncCalls
import Derived.RangeFuncLeaves
import Derived.Shelf.Abstract
import Derived.Shelf.RegionOpen
import Derived.OwnWalkIn
import Derived.TacticsInMore
import Derived.LoopNIn
import Derived.LoopIn
import Derived.WalkMore
import Derived.Test.YtihdbncoijhihaaGreatCK27
import Derived.Test.YtihdbncoijhihaaGreatCK26
import Derived.Test.YtihdbncoijhihaaGreatCK34
import Derived.Test.YtihdbncoijhihaaGreatCK1
import Derived.Test.YtihdbncoijhihaaGreatCK3
import Derived.Test.YtihdbncoijhihaaGreatCK19
set_option linter.unusedVariables false
set_option linter.unusedSimpArgs false
/- Names in a can (layer 32), purely: which are free; a name is taken by making its trashinfo file. -/
namespace Go.Proofs.YtihdbncoijhihaaGreat

open Go.RowKit

def nSfx : ByteArray := ByteArray.mk #[46, 116, 114, 97, 115, 104, 105, 110, 102, 111]
/-- is a name in one of some directories? -/
def Fs.takenF (S : Fs) (d : Bool) (c : Cr) (n : ByteArray) : List Int → Bool × Int
  | [] => (false, 0)
  | x :: l => if (S.lookF d c x n).2 = 0 then (true, 0) else if (S.lookF d c x n).2 ≠ 5 then (false, (S.lookF d c x n).2) else S.takenF d c n l
def Sy.tryF (Y : Sy) (c : Cr) (info : Int) (text n : ByteArray) : Sy × Int × Int := Y.op (fun S now => S.file c now info (n ++ nSfx) 384 text)
def Cn.three (x : Cn) : List Int := [x.files, x.way, x.out]
def Sy.nameL (Y : Sy) (c : Cr) (x : Cn) (text : ByteArray) : List ByteArray → Sy × ByteArray × Int
  | [] => (Y, ByteArray.empty, 7)
  | n :: l =>
    if (Y.fs.takenF Y.dead c n x.three).2 ≠ 0 then (Y, ByteArray.empty, (Y.fs.takenF Y.dead c n x.three).2)
    else if (Y.fs.takenF Y.dead c n x.three).1 = true then Y.nameL c x text l
    else if (Y.tryF c x.info text n).2.2 = 7 then (Y.tryF c x.info text n).1.nameL c x text l
    else if (Y.tryF c x.info text n).2.2 ≠ 0 then ((Y.tryF c x.info text n).1, ByteArray.empty, (Y.tryF c x.info text n).2.2)
    else ((Y.tryF c x.info text n).1, n, 0)
def namesL (base : ByteArray) : List ByteArray := (List.range 1000).map fun k => nthS base ((k : Nat) + 1)
def Sy.nameF (Y : Sy) (c : Cr) (x : Cn) (base text : ByteArray) : Sy × ByteArray × Int := Y.nameL c x text (namesL base)
def Fs.freeL (S : Fs) (d : Bool) (c : Cr) (dirs : List Int) : List ByteArray → ByteArray × Int
  | [] => (ByteArray.empty, 7)
  | n :: l => if (S.takenF d c n dirs).2 ≠ 0 then (ByteArray.empty, (S.takenF d c n dirs).2) else if (S.takenF d c n dirs).1 = true then S.freeL d c dirs l else (n, 0)
theorem SyOk.tryF {Y : Sy} {N : Nat} (h : SyOk Y N) (c : Cr) (info : Int) (text n : ByteArray) : SyOk (Y.tryF c info text n).1 (N + 1) := h.op (h.fine.file _ _ _ _ _ _)
theorem SyOk.nameL {c : Cr} {x : Cn} {text : ByteArray} : ∀ {l : List ByteArray} {Y : Sy} {N : Nat}, SyOk Y N → SyOk (Y.nameL c x text l).1 (N + l.length)
  | [], _, _, h => h
  | n :: l, Y, N, h => by
    have h1 := h.tryF c x.info text n
    rw [Sy.nameL]
    split
    · exact h.mono (by simp)
    · split
      · exact (h.nameL (l := l)).mono (by simp)
      · split
        · exact (h1.nameL (l := l)).mono (by simp; omega)
        · split
          · exact h1.mono (by simp)
          · exact h1.mono (by simp)

/-- no plan, nothing dead. -/
structure Still (Y : Sy) : Prop where
  plan : Y.plan = []
  dead : Y.dead = false
theorem Still.op {Y : Sy} (h : Still Y) (g : Fs → Int → Fs × Int × Int) : (Y.op g).2 = (g Y.fs Y.now).2 ∧ (Y.op g).1.fs = (g Y.fs Y.now).1 ∧ Still (Y.op g).1 ∧ (Y.op g).1.now = Y.now := by
  have hc : Y.change = ({ Y with count := Y.count + 1 }, 0) := by
    unfold Sy.change
    rw [if_neg (by simp [h.dead]), h.plan]
    rfl
  unfold Sy.op
  rw [if_neg (by rw [hc]; simp), hc]
  exact ⟨rfl, rfl, ⟨h.plan, h.dead⟩, rfl⟩
theorem come_fail {S : Fs} {c : Cr} {now dir : Int} {s : ByteArray} {a : An} (h : (S.come c now dir s a).2.2 ≠ 0) : (S.come c now dir s a).1 = S := by
  revert h
  unfold Fs.come
  split
  · intro _; rfl
  · split
    · intro _; rfl
    · split
      · intro _; rfl
      · dsimp only
        split
        · intro _; rfl
        · intro h; exact absurd rfl h
theorem file_fail {S : Fs} {c : Cr} {now dir : Int} {s t : ByteArray} {m : Int} (h : (S.file c now dir s m t).2.2 ≠ 0) : (S.file c now dir s m t).1 = S := by
  revert h
  unfold Fs.file
  split
  · intro _; rfl
  · split
    · intro _; rfl
    · exact come_fail
/-- what was tried before has changed nothing. -/
theorem nameL_took {c : Cr} {x : Cn} {text : ByteArray} : ∀ {l : List ByteArray} {Y : Sy}, Still Y → (Y.nameL c x text l).2.2 = 0 →
    ∃ n now, (Y.nameL c x text l).2.1 = n ∧ Still (Y.nameL c x text l).1 ∧ Y.fs.takenF false c n x.three = (false, 0) ∧ (Y.fs.file c now x.info (n ++ nSfx) 384 text).2.2 = 0 ∧ (Y.nameL c x text l).1.fs = (Y.fs.file c now x.info (n ++ nSfx) 384 text).1
  | [], _, _, h => absurd (show (7 : Int) = 0 from h) (by decide)
  | n :: l, Y, hs, h => by
    rw [Sy.nameL] at h ⊢
    rw [hs.dead] at h ⊢
    obtain ⟨h1, h2, h3, h4⟩ := hs.op (fun S now => S.file c now x.info (n ++ nSfx) 384 text)
    by_cases ht : (Y.fs.takenF false c n x.three).2 = 0
    · rw [if_neg (by simpa using ht)] at h ⊢
      by_cases hb : (Y.fs.takenF false c n x.three).1 = true
      · rw [if_pos hb] at h ⊢
        exact nameL_took hs h
      · rw [if_neg hb] at h ⊢
        by_cases h7 : (Y.tryF c x.info text n).2.2 = 7
        · rw [if_pos h7] at h ⊢
          obtain ⟨m, now, e1, e2, e3, e4, e5⟩ := nameL_took (l := l) h3 h
          have hf : (Y.tryF c x.info text n).1.fs = Y.fs := by
            refine h2.trans (file_fail ?_)
            rw [← h1]
            show (Y.tryF c x.info text n).2.2 ≠ 0
            rw [h7]
            decide
          have hf' : (Y.op (fun S now => S.file c now x.info (n ++ nSfx) 384 text)).1.fs = Y.fs := hf
          rw [hf'] at e3 e4 e5
          exact ⟨m, now, e1, e2, e3, e4, e5⟩
        · rw [if_neg h7] at h ⊢
          by_cases h0 : (Y.tryF c x.info text n).2.2 = 0
          · rw [if_neg (by simpa using h0)] at h ⊢
            refine ⟨n, Y.now, rfl, h3, ?_, ?_, h2⟩
            · exact Prod.ext (by simpa using hb) ht
            · rw [← h1]; exact h0
          · rw [if_pos h0] at h
            exact absurd h h0
    · rw [if_pos ht] at h
      exact absurd h ht

theorem entFind_none {l : List En} {s : ByteArray} (h : ¬ ∃ e ∈ l, e.name = s) : entFind l s = 0 := by
  unfold entFind
  rw [List.find?_eq_none.2 (fun x hx => by simpa using fun he => h ⟨x, hx, he⟩)]
theorem find_put_other {l : List En} (h : Rise l) (s t : ByteArray) (no : Int) (hst : t ≠ s) : entFind (entPut l s no) t = entFind l t := by
  have hr := rise_put h s no
  by_cases hx : ∃ e ∈ l, e.name = t
  · obtain ⟨e, he, rfl⟩ := hx
    rw [entFind_mem h he]
    refine entFind_mem hr ?_
    unfold entPut
    rw [List.mem_append, List.mem_cons]
    cases hc : ltB e.name s with
    | true => exact .inl (List.mem_filter.2 ⟨he, hc⟩)
    | false =>
      cases hd : ltB s e.name with
      | true => exact .inr (.inr (List.mem_filter.2 ⟨he, hd⟩))
      | false => exact absurd (ltB_total hd hc).symm hst
  · rw [entFind_none hx]
    refine entFind_none ?_
    rintro ⟨e, he, hn⟩
    unfold entPut at he
    rw [List.mem_append, List.mem_cons] at he
    rcases he with he | rfl | he
    · exact hx ⟨e, (List.mem_filter.1 he).1, hn⟩
    · exact hst hn.symm
    · exact hx ⟨e, (List.mem_filter.1 he).1, hn⟩
theorem find_put_same {l : List En} (h : Rise l) (s : ByteArray) (no : Int) : entFind (entPut l s no) s = no := by
  have := entFind_mem (rise_put h s no) (e := ⟨s, no⟩) (by unfold entPut; simp)
  exact this
theorem may_tab : ∀ k : Fin 1024, (bits .and .i64 (bits .and .i64 (k.val : Int) 3) 7 == bits .and .i64 3 7) = true → (bits .and .i64 (bits .and .i64 (k.val : Int) 1) 7 == bits .and .i64 1 7) = true := by decide +kernel
theorem may_go {a : An} {c : Cr} (hm : 0 ≤ a.mode ∧ a.mode ≤ 1023) (h : a.may c 3 = true) : a.may c 1 = true := by
  unfold An.may permB at h ⊢
  split
  · rfl
  · rename_i h0
    rw [if_neg h0] at h
    generalize hx : (if c.u = a.uid then a.mode / 64 else if c.g = a.gid then a.mode / 8 else a.mode) = x at h ⊢
    have hb : 0 ≤ x ∧ x ≤ 1023 := by
      subst hx
      split
      · omega
      · split <;> omega
    have := may_tab ⟨x.toNat, by omega⟩
    have hc : ((x.toNat : Nat) : Int) = x := by omega
    simp only [hc] at this
    exact this h
theorem may_own {a : An} {c : Cr} (hm : a.mode = 384) (hu : a.uid = c.u) : a.may c 4 = true := by
  unfold An.may permB
  split
  · rfl
  · rw [if_pos hu.symm, hm]
    decide
/-- no mount covers what is no directory. -/
theorem over_leaf {S : Fs} {N : Nat} (h : Fine S N) {k : Int} {a : An} (hg : S.get k = some a) (hk : a.kind ≠ 1) : S.over k = k := by
  rcases over_cases S k with h1 | ⟨i, hi, h2, h3, -⟩
  · exact h1
  · by_cases h0 : i = 0
    · subst h0
      have := h.tr.zero S.ds[0] (by simp)
      rw [h2] at this
      exact absurd this h3
    · obtain ⟨b, hb, hb1, -⟩ := h.pl.over i hi (by omega)
      rw [h2, hg] at hb
      injection hb with hb
      subst hb
      exact absurd hb1 hk
/-- a file was made. -/
theorem file_took {S : Fs} {N : Nat} (hk : Fine S N) {c : Cr} {now dir : Int} {s t : ByteArray} (he : (S.file c now dir s 384 t).2.2 = 0) :
    ∃ d no, S.get dir = some d ∧ d.kind = 1 ∧ d.may c 1 = true ∧ entFind d.ents s = 0 ∧ Rise d.ents ∧
      (∃ d', (S.file c now dir s 384 t).1.get dir = some d' ∧ d'.ents = entPut d.ents s no) ∧
      (∀ k, k ≠ dir → ∀ a, S.get k = some a → (S.file c now dir s 384 t).1.get k = some a) ∧
      (S.file c now dir s 384 t).1.lookF false c dir s = (no, 0) ∧ (S.file c now dir s 384 t).1.read c no = (t, 0) ∧
      (∀ k, (∀ a, S.get k ≠ some a) → k ≠ no → (S.file c now dir s 384 t).1.get k = none) ∧ (S.file c now dir s 384 t).1.entsOf no = [] ∧ no ≠ 0 := by
  have hF := hk.file c now dir s 384 t
  revert he hF
  unfold Fs.file
  rw [if_neg (by omega)]
  split
  · intro he; exact absurd (show (3 : Int) = 0 from he) (by decide)
  · unfold Fs.come
    split
    · intro he; exact absurd he (by assumption)
    · rename_i hp
      have hp0 : S.placeE c dir s = 0 := by simpa using hp
      cases hd : S.get dir with
      | none => intro he; exact absurd (show (5 : Int) = 0 from he) (by decide)
      | some d =>
        have hao := (hk.ok.get hd).1
        obtain ⟨d1, hd1, hdk, -⟩ := place_check hp0
        obtain rfl : d = d1 := by rw [hd] at hd1; exact Option.some.inj hd1
        have hm3 : d.may c 3 = true := by
          unfold Fs.placeE at hp0
          rw [hd] at hp0
          dsimp only at hp0
          rw [if_neg (by simpa using hdk)] at hp0
          split at hp0
          · rename_i h; exact absurd hp0 h
          · split at hp0
            · exact absurd hp0 (by decide)
            · simpa using ‹¬ d.may c 3 = false›
        dsimp only
        split
        · intro he; exact absurd (show (7 : Int) = 0 from he) (by decide)
        · rename_i hf
          have hf0 : entFind d.ents s = 0 := by simpa using hf
          generalize hna : ({ an0 with kind := 2, mode := 384, data := t, dev := d.dev, uid := c.u, gid := c.g, mtime := now, ctime := now, links := 1 } : An) = na
          split
          · intro he; exact absurd he (by assumption)
          · rename_i hme
            intro _ hF
            have hdno := an_no hd
            have hgd := get_make hk.ok na hd
            have hlow := get_low hk.ok.nums hd
            obtain ⟨v, hv⟩ : ∃ v, S.make na = ((S.setDev na.dev v).add na, S.last + 1, 0) ∧ Nums (S.setDev na.dev v) ∧ (S.setDev na.dev v).last = S.last ∧ (S.setDev na.dev v).ns = S.ns := by
              revert hme
              unfold Fs.make
              split
              · intro h; exact absurd (show (1 : Int) ≠ 0 by decide) h
              · split
                · intro h; exact absurd (show (1 : Int) ≠ 0 by decide) h
                · rename_i v hv
                  dsimp only
                  split
                  · intro _
                    exact ⟨_, rfl, (hk.ok.setDev (u := { v with b := v.b + blkI na.kind na.data.size, n := v.n + 1 }) hv rfl).nums, rfl, rfl⟩
                  · rename_i h1
                    intro h2
                    exact absurd (by simpa using h2) h1
            obtain ⟨hmk, hnu, hla, hns⟩ := hv
            have hget : ∀ k, (S.make na).1.get k = if k = S.last + 1 then some { na with no := S.last + 1 } else S.get k := fun k => by
              rw [hmk]
              show ((S.setDev na.dev v).add na).get k = _
              rw [an_add hnu, hla]
              unfold Fs.get
              rw [hns]
            have hno2 : (S.make na).2.1 = S.last + 1 := by rw [hmk]
            rw [hno2] at hF ⊢
            unfold Fs.touch at hF ⊢
            rw [hgd] at hF ⊢
            dsimp only at hF ⊢
            have hset : ∀ k, ((S.make na).1.set { d with ents := entPut d.ents s (S.last + 1), mtime := now, ctime := now }).get k = if k = d.no then some { d with ents := entPut d.ents s (S.last + 1), mtime := now, ctime := now } else (S.make na).1.get k := fun k => an_set (b := d) (by dsimp only; rw [hdno]; exact hgd) k
            have hno0 : S.last + 1 ≠ 0 := by have := hk.ok.l0; omega
            have hndir : S.last + 1 ≠ dir := by omega
            have hgn : ((S.make na).1.set { d with ents := entPut d.ents s (S.last + 1), mtime := now, ctime := now }).get (S.last + 1) = some { na with no := S.last + 1 } := by
              rw [hset, if_neg (by omega), hget, if_pos rfl]
            have hgd' : ((S.make na).1.set { d with ents := entPut d.ents s (S.last + 1), mtime := now, ctime := now }).get dir = some { d with ents := entPut d.ents s (S.last + 1), mtime := now, ctime := now } := by
              rw [hset, if_pos hdno.symm]
            have hov := over_leaf hF hgn (by rw [← hna]; show (2 : Int) ≠ 1; decide)
            refine ⟨d, S.last + 1, rfl, hdk, may_go hao.mode hm3, hf0, hao.rise, ⟨_, hgd', rfl⟩, ?_, ?_, ?_, ?_, ?_, hno0⟩
            · intro k hk1 a ha
              have := get_low hk.ok.nums ha
              rw [hset, if_neg (by omega), hget, if_neg (by omega), ha]
            · have ho : ((S.make na).1.set { d with ents := entPut d.ents s (S.last + 1), mtime := now, ctime := now }).openE c dir 1 1 = 0 := by
                unfold Fs.openE
                rw [hgd']
                dsimp only
                rw [if_pos hdk]
                have : ({ d with ents := entPut d.ents s (S.last + 1), mtime := now, ctime := now } : An).may c 1 = true := may_go hao.mode hm3
                rw [if_pos this]
              have hen : ((S.make na).1.set { d with ents := entPut d.ents s (S.last + 1), mtime := now, ctime := now }).entsOf dir = entPut d.ents s (S.last + 1) := by
                unfold Fs.entsOf
                rw [hgd']
              unfold Fs.lookF
              rw [if_neg (by decide), if_neg (by simpa using ho), hen, find_put_same hao.rise, if_neg hno0, hov]
            · have ho : ((S.make na).1.set { d with ents := entPut d.ents s (S.last + 1), mtime := now, ctime := now }).openE c (S.last + 1) 2 4 = 0 := by
                unfold Fs.openE
                rw [hgn]
                dsimp only
                rw [if_pos (by rw [← hna])]
                have : ({ na with no := S.last + 1 } : An).may c 4 = true := may_own (by rw [← hna]) (by rw [← hna])
                rw [if_pos this]
              unfold Fs.read
              rw [if_pos ho, hgn, ← hna]
            · intro k hk1 hk2
              rw [hset, if_neg (fun e => hk1 d (by rw [e, hdno]; exact hd)), hget, if_neg hk2]
              cases h : S.get k with
              | none => rfl
              | some a => exact absurd h (hk1 a)
            · unfold Fs.entsOf
              rw [hgn, ← hna]
              rfl
/-- a name that was taken: its trashinfo file, and nothing else in the can. -/
theorem took_all {S : Fs} {N : Nat} (hk : Fine S N) {c : Cr} {now : Int} {x : Cn} {n t : ByteArray} (hne : ∀ m : ByteArray, m ≠ m ++ nSfx) (hT : S.takenF false c n x.three = (false, 0)) (he : (S.file c now x.info (n ++ nSfx) 384 t).2.2 = 0) :
    (∃ no, (S.file c now x.info (n ++ nSfx) 384 t).1.lookF false c x.info (n ++ nSfx) = (no, 0) ∧ (S.file c now x.info (n ++ nSfx) 384 t).1.read c no = (t, 0)) ∧
    entFind ((S.file c now x.info (n ++ nSfx) 384 t).1.entsOf x.files) n = 0 ∧ entFind ((S.file c now x.info (n ++ nSfx) 384 t).1.entsOf x.way) n = 0 ∧
    entFind (S.entsOf x.info) (n ++ nSfx) = 0 ∧ entFind ((S.file c now x.info (n ++ nSfx) 384 t).1.entsOf x.info) (n ++ nSfx) ≠ 0 ∧
    (∀ m, entFind (S.entsOf x.info) m ≠ 0 → entFind ((S.file c now x.info (n ++ nSfx) 384 t).1.entsOf x.info) m ≠ 0) := by
  obtain ⟨d, no, hd, hdk, hdm, hf, hr, ⟨d', hd', hde⟩, hold, hlook, hread, hgone, hleaf, hno0⟩ := file_took hk he
  generalize (S.file c now x.info (n ++ nSfx) 384 t).1 = S' at *
  have hS : S.entsOf x.info = d.ents := by unfold Fs.entsOf; rw [hd]
  have hS' : S'.entsOf x.info = entPut d.ents (n ++ nSfx) no := by unfold Fs.entsOf; rw [hd']; exact hde
  have hlk : ∀ k, (S.lookF false c k n).2 = 5 → entFind (S'.entsOf k) n = 0 := fun k h5 => by
    by_cases hki : k = x.info
    · subst hki
      rw [hS', find_put_other hr _ _ _ (hne n)]
      unfold Fs.lookF at h5
      have ho : S.openE c x.info 1 1 = 0 := by
        unfold Fs.openE
        rw [hd]
        dsimp only
        rw [if_pos hdk, if_pos hdm]
      rw [if_neg (by decide), if_neg (by simpa using ho), hS] at h5
      by_cases h0 : entFind d.ents n = 0
      · exact h0
      · rw [if_neg h0] at h5
        exact absurd (show (0 : Int) = 5 from h5) (by decide)
    · cases hg : S.get k with
      | none =>
        by_cases hkn : k = no
        · rw [hkn, hleaf]
          rfl
        · have := hgone k (fun a h => by rw [hg] at h; cases h) hkn
          unfold Fs.entsOf
          rw [this]
          rfl
      | some a =>
        have h1 := hold k hki a hg
        have h2 : S'.entsOf k = a.ents := by unfold Fs.entsOf; rw [h1]
        have h3 : S.entsOf k = a.ents := by unfold Fs.entsOf; rw [hg]
        rw [h2]
        unfold Fs.lookF at h5
        rw [if_neg (by decide)] at h5
        by_cases ho : S.openE c k 1 1 = 0
        · rw [if_neg (by simpa using ho), h3] at h5
          by_cases h0 : entFind a.ents n = 0
          · exact h0
          · rw [if_neg h0] at h5
            exact absurd (show (0 : Int) = 5 from h5) (by decide)
        · exfalso
          rw [if_pos ho] at h5
          unfold Fs.openE at h5
          rw [hg] at h5
          dsimp only at h5
          split at h5
          · split at h5
            · exact absurd h5 (by decide)
            · exact absurd h5 (by decide)
          · rw [if_pos rfl] at h5
            exact absurd h5 (by decide)
  have step : ∀ k l, S.takenF false c n (k :: l) = (false, 0) → (S.lookF false c k n).2 = 5 ∧ S.takenF false c n l = (false, 0) := fun k l h => by
    rw [Fs.takenF] at h
    split at h
    · cases h
    · split at h
      · rename_i h1 h2
        rw [Prod.mk.injEq] at h
        exact absurd h.2 h1
      · rename_i h2
        exact ⟨by simpa using h2, h⟩
  obtain ⟨h1, hT1⟩ := step _ _ hT
  obtain ⟨h2, -⟩ := step _ _ hT1
  refine ⟨⟨no, hlook, hread⟩, hlk _ h1, hlk _ h2, by rw [hS]; exact hf, by rw [hS', find_put_same hr]; exact hno0, fun m hm => ?_⟩
  rw [hS']
  rw [hS] at hm
  by_cases hms : m = n ++ nSfx
  · rw [hms, find_put_same hr]; exact hno0
  · rw [find_put_other hr _ _ _ hms]; exact hm
end Go.Proofs.YtihdbncoijhihaaGreat

/- A range over a function whose rounds change maps and cells (a tree of nodes): all that the iterator and the loop hold aside stays. -/
namespace Go.Proofs.YtihdbncoijhihaaGreat

open Go.RowKit

/-- what is neither cells nor a map. -/
def offTree (o : Obj) : Bool := match o with | .cells .. => false | .map .. => false | _ => true
/-- such objects stay, from B on. -/
def KeepsV (B : Nat) (W W' : World) : Prop := ∀ (k : Nat) (o : Obj), B ≤ k → W.heap[k]? = some o → offTree o = true → W'.heap[k]? = some o
theorem KeepsV.trans {B : Nat} {W X Z : World} (h : KeepsV B W X) (k : KeepsV B X Z) : KeepsV B W Z := fun i o hi h1 h2 => k i o hi (h i o hi h1 h2) h2
theorem KeepsV.of_below {B : Nat} {W X : World} (h : Below W.heap.size W X) : KeepsV B W X := fun i o _ h1 _ => (h.block i (Array.getElem?_eq_some_iff.1 h1).1).trans h1
theorem KeepsV.of_mod {B : Nat} {S : Nat → Prop} {W X : World} (h : Mod S W X) (hS : ∀ k o, S k → W.heap[k]? = some o → offTree o = false) : KeepsV B W X := fun i o _ h1 h2 =>
  (h.block i (Array.getElem?_eq_some_iff.1 h1).1 (fun hs => by have := hS i o hs h1; rw [h2] at this; cases this)).trans h1
/-- the body's word. -/
def ownPostV {α : Type} (B : Nat) (Kp : World → World → Prop) (I : List α → World → Prop) (Ix : Code → List α → World → Prop) (xs : List α) (W : World) : Exit → Act → World → Prop
  | .normal, _, W' => KeepsV B W W' ∧ Kp W W' ∧ I xs W'
  | .ret, _, W' => KeepsV B W W' ∧ Ix .ret xs W'
  | .exit id, _, W' => KeepsV B W W' ∧ Ix (.exit id) xs W'
  | .goto t, _, W' => KeepsV B W W' ∧ Ix (.goto t) xs W'
  | .panic _, _, _ => False
  | .outgrown, _, _ => False
/-- an iterator's contract: it hands on things, one by one, as far as the rounds go on; V: what may come behind what has come. -/
def SeqV {α : Type} (T : Nat → Prop) (F : Fence) (n : Nat) (P : Program) (g : Nat) (lb : Array Value) (encs : α → Array Value) (S Sp : List α → Prop) (V : List α → α → Prop) (w : World) : Prop :=
  ∀ (l : Nat) (J Jx : List α → World → Prop) (W : World), KT T w W → w.heap.size ≤ W.heap.size → AbT NoT W.heap.size offTree J → AbT NoT W.heap.size offTree Jx →
    (∀ pre x W1, J pre W1 → V pre x → YieldAt F (n - 1) P l (encs x) W1 fun e W' =>
      (e = .returned (.bool true) ∧ J (pre ++ [x]) W' ∧ KT T W1 W') ∨ (e = .returned (.bool false) ∧ Jx (pre ++ [x]) W')) →
    J [] W →
    CallsIn F n P g (#[.func (.yield l) #[] #[]] ++ lb) W fun e W' => (∃ v, e = .returned v) ∧ ((∃ xs, S xs ∧ J xs W') ∨ (∃ pre, Sp pre ∧ Jx pre W'))

/-- the loop over such an iterator. -/
theorem wpIn_rangeV {F : Fence} {n : Nat} {P : Program} {w : World} {α : Type} {T : Nat → Prop} {g : Operand} {ps : Array Tmp} {assign body : Code} {Q : Exit → Act → World → Prop} {a : Act}
    (hro : F.round = none) (h1 : 1 ≤ n) {gf : Nat} {lb : Array Value} (hg : a.eval g = .func (.func gf) #[] lb) (hFg : F.fn gf) (eg : ∀ args w, (callFunc gf args).run P w = .ok (.enter gf args) w)
    {encs : α → Array Value} {S Sp : List α → Prop} {V : List α → α → Prop} {w0 : World} (hseq : SeqV T F (n - 1) P gf lb encs S Sp V w0)
    (hT : ∀ k, T k → k < w.heap.size) (hb0 : KT T w0 w) (hps : ∀ x, (encs x).size = ps.size)
    (I : List α → World → Prop) (Ix : Code → List α → World → Prop) (hI : AbT NoT w.heap.size offTree I) (hIx : ∀ c, AbT NoT w.heap.size offTree (Ix c)) (h0 : I [] w) (a₁ : α → Act)
    (hassign : ∀ (l : Nat) (x : α) (W : World) (K : Act → World → Prop), K (a₁ x) W →
      assign.wpIn (F.inRound l) (n - 1 - 1) P (Exit.then K (fun _ _ _ => False)) { tmps := (ps.zip (encs x)).foldl (fun t (p, v) => t.setIfInBounds p v) a.tmps, defers := [] } W)
    (hbody : ∀ (l : Nat) (pre : List α) (x : α) (W : World), w.heap.size ≤ l → l < W.heap.size → I pre W → V pre x → body.wpIn (F.inRound l) (n - 1 - 1) P (ownPostV w.heap.size (KT T) I Ix (pre ++ [x]) W) (a₁ x) W)
    (hdone : ∀ (D : Nat) (xs : List α) (W : World), w.heap.size ≤ D → S xs → I xs W → W.heap[D]? = some (.deferred (some [])) → Q .normal { a with defers := { target := .collected D, args := #[] } :: a.defers } W)
    (hstop : ∀ (D : Nat) (c : Code) (pre : List α) (W : World), w.heap.size ≤ D → Sp pre → Ix c pre W → W.heap[D]? = some (.deferred (some [])) → c.wpIn F n P Q { a with defers := { target := .collected D, args := #[] } :: a.defers } W) :
    (Code.rangeFunc g ps assign body).wpIn F n P Q a w := by
  refine wpIn_rangeFunc fun fn hfn => ?_
  rw [hro]
  obtain ⟨rc, hrc⟩ : ∃ rc : LoopState → Option Code → Loop, rc = fun st pe => { state := st, pending := pe, fn, tmps := a.tmps, params := ps, assign, body, defers := w.heap.size } := ⟨_, rfl⟩
  have hTl : ¬ T (w.heap.size + 1) := fun h => by have := hT _ h; omega
  have hTd : ¬ T w.heap.size := fun h => by have := hT _ h; omega
  generalize hW1 : (w.alloc (.deferred (some []))).alloc (.loop (rc .ready none)) = W1
  have hs1 : W1.heap.size = w.heap.size + 2 := by rw [← hW1]; simp
  have hL1 : W1.heap[w.heap.size + 1]? = some (.loop (rc .ready none)) := by
    have := World.alloc_heap_new (w.alloc (.deferred (some []))) (.loop (rc .ready none))
    rw [World.size_alloc] at this
    rw [← hW1]; exact this
  have hD1 : W1.heap[w.heap.size]? = some (.deferred (some [])) := by
    rw [← hW1]; exact (Below.heap_alloc _ _ _ (by simp)).trans (World.alloc_heap_new w _)
  have hI1 : I [] W1 := by rw [← hW1]; exact hI _ _ _ (hI _ _ _ h0 (Turn.alloc _ _)) (Turn.alloc _ _)
  have hK1 : KT T w W1 := by rw [← hW1]; exact KT.of_below ((((Below.refl _ w).alloc (Nat.le_refl _) _).alloc (by simp) _)) hT
  refine ⟨w.heap.size + 1, [{ target := .collected w.heap.size, args := #[] }], W1, { target := .fn (.func gf) lb, args := #[.func (.yield (w.heap.size + 1)) #[] #[]] }, W1, gf,
    #[.func (.yield (w.heap.size + 1)) #[] #[]] ++ lb, W1, ?_, ?_, ?_, ?_, fun _ => h1, ?_⟩
  · rw [← hW1, hrc]; exact run_enterLoop_outer _ _ _ _ _
  · simp only [resolve, hg]; simp [go_sem]
  · intro f' hf'; simp [Target.leads] at hf'; subst hf'; exact hFg
  · simp [invoke, go_sem, eg]
  have turnW : ∀ {A B : World}, Turn NoT W1.heap.size offTree A B → Turn NoT w.heap.size offTree A B := fun h =>
    ⟨h.os, h.tape, h.output, h.size, fun k o hk ht hp => h.block k o hk ht (fun hB => hp (by omega))⟩
  have keepL : ∀ {A B : World} {k : Nat} {o : Obj}, Turn NoT W1.heap.size offTree A B → A.heap[k]? = some o → k < w.heap.size + 2 → B.heap[k]? = some o := fun h hk hw => h.block _ _ hk (fun h => h) (fun hB => by omega)
  refine (hseq (w.heap.size + 1)
    (fun pre W => I pre W ∧ W.heap[w.heap.size + 1]? = some (.loop (rc .ready none)) ∧ W.heap[w.heap.size]? = some (.deferred (some [])))
    (fun pre W => ∃ c, Ix c pre W ∧ W.heap[w.heap.size + 1]? = some (.loop (rc .done (some c))) ∧ W.heap[w.heap.size]? = some (.deferred (some [])))
    W1 (hb0.trans hK1) (Nat.le_trans hb0.1 hK1.1)
    (fun s A B hs ht => ⟨hI s A B hs.1 (turnW ht), keepL ht hs.2.1 (by omega), keepL ht hs.2.2 (by omega)⟩)
    (fun s A B hs ht => by
      obtain ⟨c, hc, hl, hk⟩ := hs
      exact ⟨c, hIx c s A B hc (turnW ht), keepL ht hl (by omega), keepL ht hk (by omega)⟩)
    ?_ ⟨hI1, hL1, hD1⟩).mono ?_
  · rintro pre x W ⟨hi, hl, hk⟩ hlen
    have hlt : w.heap.size + 1 < W.heap.size := (Array.getElem?_eq_some_iff.1 hl).1
    have hy := run_yield (P := P) (args := encs x) hl (by rw [hrc]; exact hps x)
    rw [hrc] at hy
    refine ⟨fn, _, assign, body, hy, roundIn_of_wpIn hfn (hassign _ x W _ ?_)⟩
    clear hy
    refine ⟨_, run_beginRound hl (by rw [hrc]), ?_⟩
    generalize hWb : W.putObj (w.heap.size + 1) (.loop { rc .ready none with state := .busy }) = Wb
    have hl2 : Wb.heap[w.heap.size + 1]? = some (.loop { rc .ready none with state := .busy }) := by rw [← hWb]; exact World.putObj_heap_same hlt
    have hk2 : Wb.heap[w.heap.size]? = some (.deferred (some [])) := by rw [← hWb]; exact (World.putObj_heap_other (by omega)).trans hk
    have hw2 : KT T W Wb := by rw [← hWb]; exact KT.put _ _ _ hTl
    have hib : I pre Wb := by rw [← hWb]; exact hI _ _ _ hi (Turn.put (by omega) hl rfl)
    refine wpIn_mono (hbody _ pre x Wb (by omega) (by have := hw2.1; omega) hib hlen) ?_
    have fin : ∀ (jump : Option Code) (W3 : World), KeepsV w.heap.size Wb W3 →
        (Instr.endRound (w.heap.size + 1) jump).run P W3 = .ok (.bool jump.isNone) (W3.putObj (w.heap.size + 1) (.loop (rc (if jump.isNone then .ready else .done) jump))) ∧
        W3.heap[w.heap.size + 1]? = some (.loop { rc .ready none with state := .busy }) ∧
        (W3.putObj (w.heap.size + 1) (.loop (rc (if jump.isNone then .ready else .done) jump))).heap[w.heap.size + 1]? = some (.loop (rc (if jump.isNone then .ready else .done) jump)) ∧
        (W3.putObj (w.heap.size + 1) (.loop (rc (if jump.isNone then .ready else .done) jump))).heap[w.heap.size]? = some (.deferred (some [])) := fun jump W3 hk3 => by
      have hl3 := hk3 _ _ (by omega) hl2 rfl
      have := run_endRound (P := P) jump hl3
      rw [hrc] at this ⊢
      exact ⟨this, by rw [hrc] at hl3; exact hl3, World.putObj_heap_same (Array.getElem?_eq_some_iff.1 hl3).1, (World.putObj_heap_other (by omega)).trans (hk3 _ _ (Nat.le_refl _) hk2 rfl)⟩
    have leave : ∀ (c : Code) (W3 : World), KeepsV w.heap.size Wb W3 → Ix c (pre ++ [x]) W3 → ∃ v W4, (Instr.endRound (w.heap.size + 1) (some c)).run P W3 = .ok (.bool v) W4 ∧ v = false ∧ ∃ c', Ix c' (pre ++ [x]) W4 ∧ W4.heap[w.heap.size + 1]? = some (.loop (rc .done (some c'))) ∧ W4.heap[w.heap.size]? = some (.deferred (some [])) := fun c W3 hk3 hi3 => by
      obtain ⟨hr, hl3, hl4, hk4⟩ := fin (some c) W3 hk3
      exact ⟨_, _, hr, rfl, c, hIx _ _ _ _ hi3 (Turn.put (by omega) hl3 rfl), hl4, hk4⟩
    rintro e a3 W3 hp
    cases e with
    | normal =>
      obtain ⟨hk3, hkp3, hi3⟩ := hp
      obtain ⟨hr, hl3, hl4, hk4⟩ := fin none W3 hk3
      exact ⟨_, _, hr, .inl ⟨rfl, ⟨hI _ _ _ hi3 (Turn.put (by omega) hl3 rfl), hl4, hk4⟩, hw2.trans (hkp3.trans (KT.put _ _ _ hTl))⟩⟩
    | ret => obtain ⟨v, W4, hr, rfl, h⟩ := leave .ret W3 hp.1 hp.2; exact ⟨_, _, hr, .inr ⟨rfl, h⟩⟩
    | exit id => obtain ⟨v, W4, hr, rfl, h⟩ := leave (.exit id) W3 hp.1 hp.2; exact ⟨_, _, hr, .inr ⟨rfl, h⟩⟩
    | goto t => obtain ⟨v, W4, hr, rfl, h⟩ := leave (.goto t) W3 hp.1 hp.2; exact ⟨_, _, hr, .inr ⟨rfl, h⟩⟩
    | panic ch => exact hp.elim
    | outgrown => exact hp.elim
  · rintro e W2 ⟨⟨v, rfl⟩, (⟨xs, hS, hi, hl, hk⟩ | ⟨pre, hSp, c, hi, hl, hk⟩)⟩
    · exact ⟨none, _, by have := run_endLoop (P := P) hl (by rw [hrc]; simp); rw [hrc] at this; exact this, hdone _ xs _ (Nat.le_refl _) hS (hI _ _ _ hi (Turn.put (by omega) hl rfl)) ((World.putObj_heap_other (by omega)).trans hk)⟩
    · exact ⟨some c, _, by have := run_endLoop (P := P) hl (by rw [hrc]; simp); rw [hrc] at this; exact this, hstop _ c pre _ (Nat.le_refl _) hSp (hIx c _ _ _ hi (Turn.put (by omega) hl rfl)) ((World.putObj_heap_other (by omega)).trans hk)⟩
end Go.Proofs.YtihdbncoijhihaaGreat

/- The iterator of fresh.Names: its contract: all names, in order, as far as the loop's body asks. -/
namespace Go.Proofs.YtihdbncoijhihaaGreat

open Go.RowKit Go.Shelf

attribute [local go_sem] Oper.semAt_some

theorem Blk.kept {w w' : World} {B : Nat} {vs : Array Value} {T : TypeId} {row : Option Nat} (h : Blk w B vs T) (hg : w.grownBy w' row) (hr : ∀ r, row = some r → ∃ o : Obj, w.heap[r]? = some o ∧ o.isCells = false) : Blk w' B vs T := by
  refine (hg.block B h.lt ?_).trans h
  intro e
  obtain ⟨o, ho, hc⟩ := hr B e.symm
  unfold Blk at h
  rw [h] at ho
  cases ho
  cases hc

end Go.Proofs.YtihdbncoijhihaaGreat

/- fresh.Names and fresh.Free: their contracts. -/
namespace Go.Proofs.YtihdbncoijhihaaGreat

open Go.RowKit Go.Shelf

attribute [local go_sem] Oper.semAt_some

set_option maxHeartbeats 400000 in
theorem names_any (base : ByteArray) (w : World) :
    Calls Tryz.prog 60 #[.string base] w fun e w' => e = .returned (.func (.func 120) #[] #[.pointer (some ⟨w.heap.size, 0, none⟩)]) ∧ w.alloc (.cells #[.string base] 9) = w' := by
  have hmf : ∀ (fn : Fn) (first cap : Array Value) (w : World), (Instr.makeFunc fn first cap).run Tryz.prog w = .ok (.func fn first cap) w := fun _ _ _ _ => rfl
  go_enter Tryz.func60, Tryz.ntmps60
  go_wp2
  go_ret
  exact ⟨rfl, rfl⟩

/-- a string, one cell. -/
def strR (cs : List Value) (s : ByteArray) : Prop := cs = [.string s] ∧ s.size ≤ 9223372036854775807

/-- what Free answers. -/
def FreePost (base : ByteArray) (xs : List ByteArray) (e : Ending) : Prop :=
  (∃ m, m < 1000 ∧ nthS base ((m : Nat) + 1) ∉ xs ∧ (∀ j < m, nthS base ((j : Nat) + 1) ∈ xs) ∧ e = .returned (.tuple #[.string (nthS base (m + 1)), .bool true])) ∨
  ((∀ j < 1000, nthS base ((j : Nat) + 1) ∈ xs) ∧ e = .returned (.tuple #[.string ByteArray.empty, .bool false]))

theorem Blk.put {w : World} {B : Nat} {vs : Array Value} {T : TypeId} (h : Blk w B vs T) {D : Nat} {o : Obj} (ho : w.heap[D]? = some o) (hc : o.isCells = false) (o' : Obj) : Blk (w.putObj D o') B vs T :=
  h.kept (grownBy_putObj' w D o') (fun r e => by cases e; exact ⟨o, ho, hc⟩)

end Go.Proofs.YtihdbncoijhihaaGreat

/- What a tree is made of, block by block. -/
namespace Go.Proofs.YtihdbncoijhihaaGreat

open Go.RowKit

/-- what a tree is made of, and a variable that holds it. -/
def tkKind (o : Obj) : Bool := match o with
  | .cells _ t _ => t == 58 || t == 136 || t == 214 || t == 146 || t == 33 || t == 54
  | .map _ _ => true
  | _ => false
def TK (w : World) (k : Nat) : Prop := ∃ o, w.heap[k]? = some o ∧ tkKind o = true
theorem tk_wd {w w' : World} {pw : Nat} {R : Rp} {S : Fs} (h : WdAt w pw R S) (hk : KT (TK w) w w') : WdAt w' pw R S :=
  h.turn (fun k o ho hor => hk.2 k ⟨o, ho, by
    rcases hor with h1 | ⟨cur, rfl⟩
    · cases o <;> simp [wdKind, tkKind] at h1 ⊢
      rcases h1 with (h1 | h1) | h1 <;> simp [h1]
    · rfl⟩) hk.1
end Go.Proofs.YtihdbncoijhihaaGreat
