/- Texts of the proof, part 6. -/
import Derived.Test.YtihdbncoijhihaaGreatCK5
import Derived.Test.YtihdbncoijhihaaGreatCK4
set_option linter.unusedVariables false
set_option linter.unusedSimpArgs false
/- What always holds of a planted tree: directories lie below earlier ones. No walk. -/
namespace Go.Proofs.YtihdbncoijhihaaGreat

open Go.RowKit

/-- what a name of an entry is. -/
def NmOk (s : ByteArray) : Prop := s ≠ ByteArray.empty ∧ s.size ≤ 255
structure Pl (S : Fs) : Prop where
  len : (S.ns.length : Int) = S.last
  names : ∀ a ∈ S.ns, ∀ x ∈ a.ents, NmOk x.name
  up : ∀ a ∈ S.ns, a.kind = 1 → (S.root a.dev = a.no ∧ a.up = a.no) ∨ (S.root a.dev ≠ a.no ∧ 1 ≤ a.up ∧ a.up < a.no)
  top : S.root 1 = 1
  one : ∃ a, S.get 1 = some a ∧ a.kind = 1
  over : ∀ (i : Nat) (hi : i < S.ds.length), 1 ≤ i → ∃ b, S.get S.ds[i].over = some b ∧ b.kind = 1 ∧ S.ds[i].over < S.ds[i].root
/-- the directory above one is an earlier one. -/
theorem above_lt {S : Fs} {N : Nat} (hk : FsOk S N) (h : Pl S) {no : Int} {a : An} (hg : S.get no = some a) (hd : a.kind = 1) (h1 : no ≠ 1) : 1 ≤ S.above no ∧ S.above no < no := by
  obtain ⟨ho, hn, hl, -⟩ := hk.get hg
  have hup := h.up a (an_mem hg) hd
  unfold Fs.above
  rw [hg]
  simp only
  rw [if_neg (by simpa using hd)]
  by_cases hr : S.root a.dev = no ∧ 1 < a.dev
  · rw [if_pos hr]
    obtain ⟨v, hv, hvg⟩ := dev_of ho.dev.1 ho.dev.2
    obtain ⟨v2, hv2, hrt, -, -⟩ := root_of hk ho.dev.1 ho.dev.2
    rw [hv] at hv2
    injection hv2 with hv2
    subst hv2
    have hi : (a.dev - 1).toNat < S.ds.length := (List.getElem?_eq_some_iff.1 hvg).1
    obtain ⟨b, hb, hbk, hlt⟩ := h.over _ hi (by omega)
    have hvi : S.ds[(a.dev - 1).toNat] = v := (List.getElem?_eq_some_iff.1 hvg).2
    rw [hvi] at hb hlt
    rw [hv]
    simp only
    rw [hb]
    simp only
    have hbn := an_no hb
    have h3 := (hk.get hb).2.2.1
    rcases h.up b (an_mem hb) hbk with ⟨-, h2⟩ | ⟨-, h2, h4⟩
    · have := hr.1; omega
    · have := hr.1; omega
  · rw [if_neg hr]
    rcases hup with ⟨h2, h3⟩ | ⟨-, h2, h3⟩
    · exfalso
      have h4 : a.dev = 1 := by
        have := ho.dev.1
        by_cases h5 : 1 < a.dev
        · exact absurd ⟨h2.trans hn, h5⟩ hr
        · omega
      rw [h4, h.top] at h2
      omega
    · omega
theorem above_none {S : Fs} {no : Int} (hg : S.get no = none) : S.above no = 0 := by unfold Fs.above; rw [hg]
theorem above_leaf {S : Fs} {no : Int} {a : An} (hg : S.get no = some a) (hd : a.kind ≠ 1) : S.above no = 0 := by
  unfold Fs.above; rw [hg]; simp only; rw [if_pos hd]
/-- the top lies above itself. -/
theorem above_top {S : Fs} {N : Nat} (hk : FsOk S N) (h : Pl S) {a : An} (hg : S.get 1 = some a) (hd : a.kind = 1) : S.above 1 = 1 := by
  obtain ⟨ho, hn, -, -⟩ := hk.get hg
  unfold Fs.above
  rw [hg]
  simp only
  rw [if_neg (by simpa using hd)]
  have hno : ¬ (S.root a.dev = 1 ∧ 1 < a.dev) := by
    rintro ⟨h1, h2⟩
    obtain ⟨v, hv, hvg⟩ := dev_of ho.dev.1 ho.dev.2
    obtain ⟨v2, hv2, hrt, -, -⟩ := root_of hk ho.dev.1 ho.dev.2
    rw [hv] at hv2
    injection hv2 with hv2
    subst hv2
    have hi : (a.dev - 1).toNat < S.ds.length := (List.getElem?_eq_some_iff.1 hvg).1
    obtain ⟨b, hb, -, hlt⟩ := h.over _ hi (by omega)
    rw [show S.ds[(a.dev - 1).toNat] = v from (List.getElem?_eq_some_iff.1 hvg).2] at hb hlt
    have := (hk.get hb).2.2.1
    omega
  rw [if_neg hno]
  rcases h.up a (an_mem hg) hd with ⟨-, h2⟩ | ⟨-, h2, h3⟩
  · rw [h2, hn]
  · omega
theorem Pl.set {S : Fs} (h : Pl S) {a b : An} (hb : S.get a.no = some b) (hk : a.kind = b.kind) (hd : a.dev = b.dev) (hu : a.up = b.up) (hn : ∀ x ∈ a.ents, NmOk x.name) : Pl (S.set a) := by
  refine ⟨?_, fun y hy => ?_, fun y hy hyk => ?_, h.top, ?_, fun i hi h1 => ?_⟩
  · show ((S.ns.map _).length : Int) = S.last
    rw [List.length_map]; exact h.len
  · unfold Fs.set at hy
    simp only [List.mem_map] at hy
    obtain ⟨z, hz, rfl⟩ := hy
    split
    · exact hn
    · exact h.names z hz
  · unfold Fs.set at hy
    simp only [List.mem_map] at hy
    obtain ⟨z, hz, rfl⟩ := hy
    show (S.root _ = _ ∧ _) ∨ (S.root _ ≠ _ ∧ _)
    split at hyk
    · rename_i he
      rw [if_pos he]
      have hbn := an_no hb
      have := h.up b (an_mem hb) (by rw [← hk]; exact hyk)
      rw [hd, hu, ← hbn]
      exact this
    · rename_i he
      rw [if_neg he]
      exact h.up z hz hyk
  · obtain ⟨c, hc, h2⟩ := h.one
    refine ⟨if (1 : Int) = a.no then a else c, ?_, ?_⟩
    · rw [an_set hb]
      split
      · rfl
      · exact hc
    · split
      · rename_i he
        rw [he, hb] at hc
        injection hc with hc
        rw [hk, hc]; exact h2
      · exact h2
  · obtain ⟨c, hc, h2, h3⟩ := h.over i hi h1
    refine ⟨if S.ds[i].over = a.no then a else c, ?_, ?_, h3⟩
    · show (S.set a).get S.ds[i].over = _
      rw [an_set hb]
      split
      · rfl
      · exact hc
    · split
      · rename_i he
        rw [he, hb] at hc
        injection hc with hc
        rw [hk, hc]; exact h2
      · exact h2
theorem Pl.setDev {S : Fs} (h : Pl S) {d : Int} {v u : Dv} (hv : S.dev d = some v) (hr : u.root = v.root) (ho : u.over = v.over) : Pl (S.setDev d u) := by
  unfold Fs.dev at hv
  split at hv
  · rename_i hd
    have hi := (List.getElem?_eq_some_iff.1 hv).1
    have hvi := (List.getElem?_eq_some_iff.1 hv).2
    have hroot : ∀ e, (S.setDev d u).root e = S.root e := fun e => by
      unfold Fs.root Fs.setDev
      simp only [List.length_set, List.getElem?_set]
      split
      · rename_i he
        by_cases hq : (d - 1).toNat = (e - 1).toNat
        · rw [if_pos hq, ← hq, hv]
          first | exact hr | (rw [if_pos hi]; exact hr)
        · rw [if_neg hq]
      · rfl
    refine ⟨h.len, h.names, fun y hy hk => by rw [hroot]; exact h.up y hy hk, by rw [hroot]; exact h.top, h.one, fun i hi2 h1 => ?_⟩
    have hi3 : i < S.ds.length := by
      have := hi2
      unfold Fs.setDev at this
      simpa using this
    obtain ⟨b, hb, h2, h3⟩ := h.over i hi3 h1
    have he : (S.setDev d u).ds[i] = if (d - 1).toNat = i then u else S.ds[i] := by
      exact List.getElem_set (l := S.ds) (i := (d - 1).toNat) (a := u) (j := i) (by rw [List.length_set]; exact hi3)
    rw [he]
    by_cases hq : (d - 1).toNat = i
    · subst hq
      rw [if_pos rfl, ho, hr, ← hvi]
      exact ⟨b, hb, h2, h3⟩
    · rw [if_neg hq]
      exact ⟨b, hb, h2, h3⟩
  · cases hv
theorem get_low {S : Fs} (h : Nums S) {k : Int} {b : An} (hb : S.get k = some b) : k ≤ S.last := by
  have h1 := an_no hb
  have h2 := h.low b (an_mem hb)
  omega
theorem Pl.add {S : Fs} {N : Nat} (hk : FsOk S N) (h : Pl S) {a : An} (he : a.ents = []) (hdv : 1 ≤ a.dev ∧ a.dev ≤ S.ds.length) (hu : a.kind = 1 → 1 ≤ a.up ∧ a.up ≤ S.last) : Pl (S.add a) := by
  refine ⟨?_, fun y hy => ?_, fun y hy hyk => ?_, h.top, ?_, fun i hi h1 => ?_⟩
  · show ((S.ns ++ [_]).length : Int) = S.last + 1
    rw [List.length_append, List.length_singleton]
    have := h.len
    omega
  · rcases List.mem_append.1 hy with hy | hy
    · exact h.names y hy
    · simp at hy; subst hy
      intro x hx
      rw [show ({ a with no := S.last + 1 } : An).ents = a.ents from rfl, he] at hx
      cases hx
  · show (S.root _ = _ ∧ _) ∨ (S.root _ ≠ _ ∧ _)
    rcases List.mem_append.1 hy with hy | hy
    · exact h.up y hy hyk
    · simp at hy; subst hy
      right
      obtain ⟨v, -, hrt, -, hm⟩ := root_of hk hdv.1 hdv.2
      have h2 := (hk.root v hm).2
      have h3 := hu hyk
      refine ⟨?_, h3.1, ?_⟩
      · show S.root a.dev ≠ S.last + 1
        omega
      · show a.up < S.last + 1
        omega
  · obtain ⟨c, hc, h2⟩ := h.one
    refine ⟨c, ?_, h2⟩
    rw [an_add hk.nums, if_neg]
    · exact hc
    · have := get_low hk.nums hc
      omega
  · obtain ⟨c, hc, h2, h3⟩ := h.over i hi h1
    refine ⟨c, ?_, h2, h3⟩
    show (S.add a).get S.ds[i].over = some c
    rw [an_add hk.nums, if_neg]
    · exact hc
    · have := get_low hk.nums hc
      omega
theorem Pl.addRoot {S : Fs} {N : Nat} (hk : FsOk S N) (h : Pl S) {k : Int} {a : An} (hg : S.get k = some a) (hd : a.kind = 1) (b n : Int) : Pl (S.addRoot k b n) := by
  have hroot : ∀ e : Int, e ≤ S.ds.length → (S.addRoot k b n).root e = S.root e := fun e he => by
    unfold Fs.root Fs.addRoot
    simp only [List.length_append, List.length_singleton]
    by_cases h1 : (1 : Int) ≤ e
    · rw [if_pos ⟨h1, by omega⟩, if_pos ⟨h1, he⟩, List.getElem?_append_left (by omega)]
    · rw [if_neg (fun h => h1 h.1), if_neg (fun h => h1 h.1)]
  have hrl : (S.addRoot k b n).root (S.ds.length + 1) = S.last + 1 := by
    unfold Fs.root Fs.addRoot
    simp only [List.length_append, List.length_singleton]
    rw [if_pos ⟨by omega, by omega⟩, List.getElem?_append_right (by omega)]
    rw [show ((S.ds.length : Int) + 1 - 1).toNat - S.ds.length = 0 by omega]
    rfl
  have hget : ∀ q c, S.get q = some c → (S.addRoot k b n).get q = some c := fun q c hq => by
    unfold Fs.get Fs.addRoot at *
    simp only [List.find?_append, hq, Option.some_or]
  have hl0 := hk.l0
  have hgl := get_low hk.nums hg
  refine ⟨?_, fun y hy => ?_, fun y hy hyk => ?_, ?_, ?_, fun i hi h1 => ?_⟩
  · show ((S.ns ++ [_]).length : Int) = S.last + 1
    rw [List.length_append, List.length_singleton]
    have := h.len
    omega
  · rcases List.mem_append.1 hy with hy | hy
    · exact h.names y hy
    · simp at hy; subst hy
      intro x hx
      simp [an0] at hx
  · rcases List.mem_append.1 hy with hy | hy
    · rw [hroot _ (hk.all y hy).dev.2]
      exact h.up y hy hyk
    · simp at hy; subst hy
      left
      exact ⟨hrl, rfl⟩
  · rw [hroot _ (by have := hk.d1; omega)]
    exact h.top
  · obtain ⟨c, hc, h2⟩ := h.one
    exact ⟨c, hget _ _ hc, h2⟩
  · by_cases hi2 : i < S.ds.length
    · obtain ⟨c, hc, h2, h3⟩ := h.over i hi2 h1
      have he : (S.addRoot k b n).ds[i] = S.ds[i] := List.getElem_append_left hi2
      rw [he]
      exact ⟨c, hget _ _ hc, h2, h3⟩
    · have hi3 : i = S.ds.length := by
        have h4 : i < (S.ds ++ [(⟨S.last + 1, k, 1, 1, b, n⟩ : Dv)]).length := hi
        rw [List.length_append, List.length_singleton] at h4
        omega
      subst hi3
      have he : (S.addRoot k b n).ds[S.ds.length] = ⟨S.last + 1, k, 1, 1, b, n⟩ := by
        have h5 : (S.ds ++ [(⟨S.last + 1, k, 1, 1, b, n⟩ : Dv)])[S.ds.length]? = some ⟨S.last + 1, k, 1, 1, b, n⟩ := by
          rw [List.getElem?_append_right (Nat.le_refl _)]
          simp
        exact (List.getElem?_eq_some_iff.1 h5).2
      rw [he]
      exact ⟨a, hget _ _ hg, hd, by show k < S.last + 1; omega⟩
theorem Pl.new (b n : Int) : Pl (fs0.addRoot 0 b n) := by
  refine ⟨rfl, fun a ha => ?_, fun a ha _ => ?_, rfl, ⟨_, rfl, rfl⟩, fun i hi h1 => ?_⟩
  · simp [Fs.addRoot, fs0] at ha
    subst ha
    intro x hx
    simp [an0] at hx
  · simp [Fs.addRoot, fs0] at ha
    subst ha
    left
    exact ⟨rfl, rfl⟩
  · have : i < 1 := hi
    omega
theorem Pl.make {S : Fs} {N : Nat} (hk : FsOk S N) (h : Pl S) {a : An} (he : a.ents = []) (hdv : 1 ≤ a.dev ∧ a.dev ≤ S.ds.length) (hu : a.kind = 1 → 1 ≤ a.up ∧ a.up ≤ S.last) : Pl (S.make a).1 := by
  unfold Fs.make
  split
  · exact h
  · split
    · exact h
    · rename_i v hv
      simp only
      split
      · have h2 := h.setDev (u := { v with b := v.b + blkI a.kind a.data.size, n := v.n + 1 }) hv rfl rfl
        have hk2 := hk.setDev (u := { v with b := v.b + blkI a.kind a.data.size, n := v.n + 1 }) hv rfl
        exact h2.add hk2 he (by unfold Fs.setDev; simp only [List.length_set]; exact hdv) hu
      · exact h
theorem put_names {l : List En} (h : ∀ x ∈ l, NmOk x.name) {s : ByteArray} (hs : NmOk s) (no : Int) : ∀ x ∈ entPut l s no, NmOk x.name := by
  intro x hx
  unfold entPut at hx
  rcases List.mem_append.1 hx with hx | hx
  · exact h x (List.mem_filter.1 hx).1
  · rcases List.mem_cons.1 hx with rfl | hx
    · exact hs
    · exact h x (List.mem_filter.1 hx).1
theorem Pl.touch {S : Fs} (h : Pl S) (now dir : Int) (l : List En) (hl : ∀ x ∈ l, NmOk x.name) : Pl (S.touch now dir l) := by
  unfold Fs.touch
  split
  · exact h
  · rename_i d hd
    exact h.set (b := d) (by show S.get d.no = _; rw [an_no hd]; exact hd) rfl rfl rfl hl
theorem check_ne {s : ByteArray} (h : checkE s = 0) : NmOk s := by
  refine ⟨?_, ?_⟩
  · rintro rfl
    revert h
    decide
  · unfold checkE at h
    split at h
    · cases h
    · split at h
      · cases h
      · omega
theorem place_check {S : Fs} {c : Cr} {dir : Int} {s : ByteArray} (h : S.placeE c dir s = 0) : ∃ d, S.get dir = some d ∧ d.kind = 1 ∧ checkE s = 0 := by
  unfold Fs.placeE at h
  split at h
  · cases h
  · rename_i d hd
    split at h
    · cases h
    · rename_i hk
      split at h
      · rename_i he; exact absurd h he
      · rename_i he
        exact ⟨d, hd, by simpa using hk, by simpa using he⟩
theorem get_make {S : Fs} {N : Nat} (hk : FsOk S N) (a : An) {k : Int} {d : An} (hd : S.get k = some d) : (S.make a).1.get k = some d := by
  unfold Fs.make
  split
  · exact hd
  · split
    · exact hd
    · rename_i v hv
      simp only
      split
      · have hk2 := hk.setDev (u := { v with b := v.b + blkI a.kind a.data.size, n := v.n + 1 }) hv rfl
        rw [an_add hk2.nums, if_neg]
        · exact hd
        · have := get_low hk.nums hd
          show ¬ k = S.last + 1
          omega
      · exact hd
theorem Pl.come {S : Fs} {N : Nat} (hk : FsOk S N) (h : Pl S) {a : An} (c : Cr) (now dir : Int) (s : ByteArray) (he : a.ents = []) (hu : a.kind = 1 → a.up = dir) : Pl (S.come c now dir s a).1 := by
  unfold Fs.come
  split
  · exact h
  · rename_i hpl
    obtain ⟨d, hd, hdk, hce⟩ := place_check (by simpa using hpl)
    rw [hd]
    simp only
    split
    · exact h
    · obtain ⟨hdo, hdn, h1, h2⟩ := hk.get hd
      have hm := h.make hk (a := { a with dev := d.dev, uid := c.u, gid := c.g, mtime := now, ctime := now, links := 1 }) he hdo.dev (fun hq => by
        have := hu hq
        show 1 ≤ a.up ∧ a.up ≤ S.last
        omega)
      split
      · exact h
      · exact hm.touch _ _ _ (put_names (h.names d (an_mem hd)) (check_ne hce) _)
theorem Pl.mkdir {S : Fs} {N : Nat} (hk : FsOk S N) (h : Pl S) (c : Cr) (now dir : Int) (s : ByteArray) (m : Int) : Pl (S.mkdir c now dir s m).1 := by
  unfold Fs.mkdir
  split
  · exact h
  · exact h.come hk c now dir s rfl (fun _ => rfl)
theorem Pl.file {S : Fs} {N : Nat} (hk : FsOk S N) (h : Pl S) (c : Cr) (now dir : Int) (s : ByteArray) (m : Int) (t : ByteArray) : Pl (S.file c now dir s m t).1 := by
  unfold Fs.file
  split
  · exact h
  · split
    · exact h
    · exact h.come hk c now dir s rfl (fun hq => absurd hq (by dsimp only; decide))
theorem Pl.sym {S : Fs} {N : Nat} (hk : FsOk S N) (h : Pl S) (c : Cr) (now dir : Int) (s t : ByteArray) : Pl (S.sym c now dir s t).1 := by
  unfold Fs.sym
  split
  · exact h
  · split
    · exact h
    · exact h.come hk c now dir s rfl (fun hq => absurd hq (by dsimp only; decide))
theorem Pl.hard {S : Fs} {N : Nat} (hk : FsOk S N) (h : Pl S) (c : Cr) (now no dir : Int) (s : ByteArray) : Pl (S.hard c now no dir s).1 := by
  unfold Fs.hard
  split
  · exact h
  · rename_i hpl
    obtain ⟨d0, hd0, hdk, hce⟩ := place_check (by simpa using hpl)
    split
    · rename_i d n hd hn
      split
      · exact h
      · split
        · exact h
        · split
          · exact h
          · split
            · exact h
            · refine Pl.touch (h.set (a := { n with links := n.links + 1, ctime := now }) (b := n) (by show S.get n.no = _; rw [an_no hn]; exact hn) rfl rfl rfl (h.names n (an_mem hn))) _ _ _ (put_names (h.names d (an_mem hd)) (check_ne hce) _)
    · exact h
theorem Pl.chmod {S : Fs} (h : Pl S) (c : Cr) (now no m : Int) : Pl (S.chmod c now no m).1 := by
  unfold Fs.chmod
  split
  · exact h
  · rename_i n hn
    split
    · exact h
    · split
      · exact h
      · exact h.set (b := n) (by show S.get n.no = _; rw [an_no hn]; exact hn) rfl rfl rfl (h.names n (an_mem hn))
theorem Pl.chown {S : Fs} (h : Pl S) (c : Cr) (now no u g : Int) : Pl (S.chown c now no u g).1 := by
  unfold Fs.chown
  split
  · exact h
  · rename_i n hn
    split
    · exact h
    · split
      · exact h
      · split
        · exact h
        · exact h.set (b := n) (by show S.get n.no = _; rw [an_no hn]; exact hn) rfl rfl rfl (h.names n (an_mem hn))
theorem Pl.utime {S : Fs} (h : Pl S) (c : Cr) (now no t : Int) : Pl (S.utime c now no t).1 := by
  unfold Fs.utime
  split
  · exact h
  · rename_i n hn
    split
    · exact h
    · split
      · exact h
      · exact h.set (b := n) (by show S.get n.no = _; rw [an_no hn]; exact hn) rfl rfl rfl (h.names n (an_mem hn))
theorem Pl.mount {S : Fs} {N : Nat} (hk : FsOk S N) (h : Pl S) (k b n : Int) : Pl (S.mount k b n).1 := by
  unfold Fs.mount
  split
  · exact h
  · rename_i a ha
    split
    · exact h
    · rename_i hd
      split
      · exact h
      · split
        · exact h
        · exact h.addRoot hk ha (by simpa using hd) b n
theorem Pl.mountF {S : Fs} {N : Nat} (hk : FsOk S N) (h : Pl S) (m : Mt) : Pl (mountF S m) := by
  unfold Go.Proofs.YtihdbncoijhihaaGreat.mountF
  split
  · exact h
  · split
    · have h1 := h.mkdir hk c00 0 (S.path c00 m.path false).1.dir (S.path c00 m.path false).1.name 493
      have hk1 := mkdir_ok hk c00 0 (S.path c00 m.path false).1.dir (S.path c00 m.path false).1.name 493
      simp only
      split
      · exact h1
      · exact h1.mount hk1 _ _ _
    · exact h.mount hk _ _ _
theorem Pl.mountsF {S : Fs} {N : Nat} (hk : FsOk S N) (h : Pl S) (l : List Mt) : Pl (mountsF S l) := by
  induction l generalizing S N with
  | nil => exact h
  | cons m l ih =>
    unfold Go.Proofs.YtihdbncoijhihaaGreat.mountsF
    by_cases hm : m.path = topB
    · rw [if_pos hm]; exact ih hk h
    · rw [if_neg hm]; exact ih (mountF_ok hk m) (h.mountF hk m)
theorem Pl.nodeF {S : Fs} {N : Nat} (hk : FsOk S N) (h : Pl S) (it : It) : Pl (nodeF S it).1 := by
  unfold Go.Proofs.YtihdbncoijhihaaGreat.nodeF
  simp only
  split
  · exact h
  · split
    · split <;> exact h
    · split
      · exact h.mkdir hk _ _ _ _ _
      · split
        · exact h.file hk _ _ _ _ _ _
        · split
          · exact h.sym hk _ _ _ _ _
          · split
            · split
              · exact h.hard hk _ _ _ _ _
              · exact h
            · exact h
theorem Pl.itemF {S : Fs} {N : Nat} (hk : FsOk S N) (h : Pl S) (it : It) : Pl (itemF S it).1 := by
  unfold Go.Proofs.YtihdbncoijhihaaGreat.itemF
  have h1 := h.nodeF hk it
  simp only
  split
  · exact (h1.chown _ _ _ _ _).chmod _ _ _ _
  · exact h1
theorem itemF_ok2 {S : Fs} {N : Nat} (h : FsOk S N) (it : It) : FsOk (itemF S it).1 (N + 1) := by
  have := itemsF_ok h [it]
  exact this
theorem Pl.itemsF {S : Fs} {N : Nat} (hk : FsOk S N) (h : Pl S) (l : List It) : Pl (itemsF S l).1 := by
  induction l generalizing S N with
  | nil => exact h
  | cons x l ih => exact ih (itemF_ok2 hk x) (h.itemF hk x)
theorem Pl.timesF {S : Fs} (h : Pl S) (l : List (It × Int)) : Pl (timesF S l) := by
  induction l generalizing S with
  | nil => exact h
  | cons x l ih =>
    unfold Go.Proofs.YtihdbncoijhihaaGreat.timesF
    refine ih ?_
    split
    · exact h.utime _ _ _ _
    · exact h
theorem plant_pl (ms : List Mt) (is : List It) : Pl (plantF ms is) := by
  unfold plantF
  simp only
  have hk := FsOk.new (limitsF ms).1 (limitsF ms).2
  exact Pl.timesF (Pl.itemsF (mountsF_ok hk ms) (Pl.mountsF hk (Pl.new _ _) ms) is) _
end Go.Proofs.YtihdbncoijhihaaGreat

/- Where directories lie (layer 14): plain functions. No walk. -/
namespace Go.Proofs.YtihdbncoijhihaaGreat

open Go.RowKit

def Fs.withinN (S : Fs) (base : Int) : Nat → Int → Bool
  | 0, _ => false
  | n + 1, no => if no = 0 then false else if no = base then true else S.withinN base n (S.above no)
def Fs.within (S : Fs) (no base : Int) : Bool := S.withinN base (S.ns.length + 1) no
def Fs.busy (S : Fs) (no : Int) : Bool := (S.ds.drop 1).any (fun d => S.within d.over no)
def entName (l : List En) (no : Int) : Option ByteArray := (l.find? (fun x => x.no == no)).map (·.name)
def Fs.entsOf (S : Fs) (no : Int) : List En := match S.get no with | some a => a.ents | none => []
def Fs.child (S : Fs) (no : Int) : Int := match S.get no with
  | none => no
  | some a => if S.root a.dev = no ∧ 1 < a.dev then (match S.dev a.dev with | some v => v.over | none => no) else no
def Fs.whereN (S : Fs) : Nat → Int → ByteArray → Option ByteArray
  | 0, _, _ => none
  | n + 1, no, s => if no = 1 then some (if s.size = 0 then topB else s) else match entName (S.entsOf (S.above no)) (S.child no) with
    | none => none
    | some nm => S.whereN n (S.above no) (topB ++ nm ++ s)
def Fs.place_ (S : Fs) (no : Int) : Option ByteArray := S.whereN (S.ns.length + 1) no ByteArray.empty

theorem entName_cons (x : En) (l : List En) (no : Int) : entName (x :: l) no = if x.no = no then some x.name else entName l no := by
  unfold entName
  rw [List.find?_cons]
  by_cases h : x.no = no
  · rw [if_pos h, show (x.no == no) = true by simpa using h]; rfl
  · rw [if_neg h, show (x.no == no) = false by simpa using h]
theorem entName_mem {l : List En} {no : Int} {s : ByteArray} (h : entName l no = some s) : ∃ x ∈ l, x.name = s := by
  unfold entName at h
  cases hf : l.find? (fun x => x.no == no) with
  | none => rw [hf] at h; cases h
  | some x =>
    rw [hf] at h
    exact ⟨x, List.mem_of_find?_eq_some hf, by simpa using h⟩
section

variable {S : Fs} {N : Nat}

theorem get_zero (hk : FsOk S N) : S.get 0 = none := by
  cases h : S.get 0 with
  | none => rfl
  | some a =>
    have := (hk.get h).2.2.1
    omega
theorem above_zero (hk : FsOk S N) : S.above 0 = 0 := above_none (get_zero hk)
theorem ents_zero (hk : FsOk S N) : S.entsOf 0 = [] := by unfold Fs.entsOf; rw [get_zero hk]
/-- upwards. -/
theorem above_step (hk : FsOk S N) (h : Pl S) {no : Int} (hne : S.above no ≠ no) : S.above no = 0 ∨ (1 ≤ S.above no ∧ S.above no < no ∧ no ≤ S.last ∧ no ≠ 1) := by
  cases hg : S.get no with
  | none => exact .inl (above_none hg)
  | some a =>
    by_cases hd : a.kind = 1
    · by_cases h1 : no = 1
      · subst h1
        exact absurd (above_top hk h hg hd) hne
      · have := above_lt hk h hg hd h1
        exact .inr ⟨this.1, this.2, get_low hk.nums hg, h1⟩
    · exact .inl (above_leaf hg hd)
theorem above_end (hk : FsOk S N) (h : Pl S) {no : Int} (he : S.above no = no) : no = 0 ∨ no = 1 := by
  cases hg : S.get no with
  | none => rw [above_none hg] at he; exact .inl he.symm
  | some a =>
    by_cases hd : a.kind = 1
    · by_cases h1 : no = 1
      · exact .inr h1
      · have := above_lt hk h hg hd h1
        omega
    · rw [above_leaf hg hd] at he
      exact .inl he.symm
/-- the top is there. -/
theorem pl_one (hk : FsOk S N) (h : Pl S) : 1 ≤ S.ns.length := by
  have h1 := h.top
  have h2 := hk.d1
  have h3 := h.len
  unfold Fs.root at h1
  rw [if_pos (by omega)] at h1
  rw [show ((1 : Int) - 1).toNat = 0 from rfl, List.getElem?_eq_getElem (by omega)] at h1
  have h4 := hk.root S.ds[0] (List.getElem_mem _)
  simp only at h1
  omega
theorem above_one (hk : FsOk S N) (h : Pl S) : S.above 1 = 1 := by
  obtain ⟨a, hg, hd⟩ := h.one
  exact above_top hk h hg hd
/-- how many steps are enough. -/
def Fs.need (S : Fs) (k : Nat) (no : Int) : Prop := no = 0 ∨ no < k ∧ 1 ≤ k ∨ (S.above no = 0 ∧ 2 ≤ k)
/-- what the walk up to the top gathers. -/
def catL (l : List (List UInt8)) : List UInt8 := l.reverse.flatMap (fun s => 47 :: s)
theorem catL_snoc (l : List (List UInt8)) (s : List UInt8) : catL (l ++ [s]) = 47 :: (s ++ catL l) := by simp [catL]
theorem catL_nil (l : List (List UInt8)) : catL l = [] ↔ l = [] := by
  constructor
  · intro h
    cases l with
    | nil => rfl
    | cons x l => simp [catL] at h
  · rintro rfl; rfl
theorem catL_len {l : List (List UInt8)} (h : ∀ x ∈ l, x.length ≤ 255) : (catL l).length ≤ 256 * l.length := by
  unfold catL
  rw [List.length_flatMap]
  have : ∀ m : List (List UInt8), (∀ x ∈ m, x.length ≤ 255) → (m.map (fun s => (47 :: s).length)).sum ≤ 256 * m.length := by
    intro m
    induction m with
    | nil => intro _; simp
    | cons x m ih =>
      intro hx
      have h1 := ih (fun y hy => hx y (List.mem_cons_of_mem _ hy))
      have h2 := hx x List.mem_cons_self
      simp only [List.map_cons, List.sum_cons, List.length_cons]
      simp only [List.length_cons] at h1
      omega
  have h1 := this l.reverse (fun x hx => h x (List.mem_reverse.1 hx))
  rw [List.length_reverse] at h1
  exact h1
structure WhSt (S : Fs) (no0 no : Int) (l : List (List UInt8)) : Prop where
  few : l.length ≤ S.ns.length
  small : ∀ x ∈ l, x.length ≤ 255
  eq : S.place_ no0 = S.whereN (S.ns.length + 1 - l.length) no (str (catL l))
  room : 1 ≤ no → no ≤ S.last → no.toNat + l.length ≤ S.ns.length + 1
theorem WhSt.start (h : Pl S) (no : Int) : WhSt S no no [] := ⟨Nat.zero_le _, (by intro x hx; cases hx), rfl, fun _ h2 => by
  have := h.len
  show no.toNat + 0 ≤ _
  omega⟩
theorem where_zero (hk : FsOk S N) (k : Nat) (s : ByteArray) : S.whereN k 0 s = none := by
  cases k with
  | zero => rfl
  | succ k =>
    unfold Fs.whereN
    rw [if_neg (by decide), above_zero hk, ents_zero hk]
    rfl
theorem WhSt.top (hk : FsOk S N) (h : Pl S) {no0 : Int} {l : List (List UInt8)} (hs : WhSt S no0 1 l) : S.place_ no0 = some (if l = [] then topB else str (catL l)) := by
  have h1 := pl_one hk h
  have h2 := h.len
  have h3 := hs.room (Int.le_refl _) (by omega)
  rw [hs.eq]
  obtain ⟨k, hkk⟩ : ∃ j, S.ns.length + 1 - l.length = j + 1 := ⟨S.ns.length - l.length, by omega⟩
  rw [hkk]
  unfold Fs.whereN
  rw [if_pos rfl]
  by_cases hl : l = []
  · subst hl; rfl
  · rw [if_neg hl, if_neg]
    rw [str_size]
    intro h0
    exact hl ((catL_nil l).1 (List.eq_nil_of_length_eq_zero h0))
theorem WhSt.other (hk : FsOk S N) (h : Pl S) {no0 no : Int} {l : List (List UInt8)} (hs : WhSt S no0 no l) (he : S.above no = no) (h1 : no ≠ 1) : S.place_ no0 = none := by
  obtain rfl : no = 0 := (above_end hk h he).resolve_right h1
  rw [hs.eq, where_zero hk]
theorem WhSt.fail (hk : FsOk S N) (h : Pl S) {no0 no : Int} {l : List (List UInt8)} (hs : WhSt S no0 no l) (hu : S.above no ≠ no) (hn : entName (S.entsOf (S.above no)) (S.child no) = none) : S.place_ no0 = none := by
  rw [hs.eq]
  have h1 : no ≠ 1 := by
    rintro rfl
    exact hu (above_one hk h)
  cases S.ns.length + 1 - l.length with
  | zero => rfl
  | succ k => unfold Fs.whereN; rw [if_neg h1, hn]
theorem child_eq (S : Fs) (no : Int) : S.child no = match S.get no with
  | none => no
  | some a => if S.root a.dev = no ∧ 1 < a.dev then (match S.dev a.dev with | some v => v.over | none => no) else no := rfl
/-- what a mount's root lies over. -/
theorem child_none {no : Int} (hg : S.get no = none) : S.child no = no := by rw [child_eq, hg]
theorem child_same {no : Int} {a : An} (hg : S.get no = some a) (hr : S.root a.dev ≠ no) : S.child no = no := by rw [child_eq, hg]; exact if_neg (fun h => hr h.1)
theorem child_over (hk : FsOk S N) (h : Pl S) {no : Int} {a : An} (hg : S.get no = some a) (hr : S.root a.dev = no) (h1 : no ≠ 1) : 1 < a.dev ∧ ∃ v, S.dev a.dev = some v ∧ S.child no = v.over := by
  have hd := (hk.get hg).1.dev
  have hd1 : 1 < a.dev := by
    rcases Int.lt_or_le 1 a.dev with h2 | h2
    · exact h2
    · exfalso
      have h3 : a.dev = 1 := by omega
      rw [h3, h.top] at hr
      exact h1 hr.symm
  obtain ⟨v, hv, -, -, -⟩ := root_of hk hd.1 hd.2
  refine ⟨hd1, v, hv, ?_⟩
  rw [child_eq, hg]
  show (if _ then _ else _) = _
  rw [if_pos ⟨hr, hd1⟩, hv]
theorem WhSt.more (hk : FsOk S N) (h : Pl S) {no0 no : Int} {l : List (List UInt8)} (hs : WhSt S no0 no l) (hu : S.above no ≠ no) {s : ByteArray} (hn : entName (S.entsOf (S.above no)) (S.child no) = some s) : WhSt S no0 (S.above no) (l ++ [s.data.toList]) ∧ l.length + 1 ≤ S.ns.length := by
  have hab : 1 ≤ S.above no ∧ S.above no < no ∧ no ≤ S.last ∧ no ≠ 1 := by
    rcases above_step hk h hu with h0 | h0
    · rw [h0, ents_zero hk] at hn
      cases hn
    · exact h0
  obtain ⟨h1, h2, h3, h4⟩ := hab
  have hro := hs.room (by omega) h3
  have hln : l.length + 1 ≤ S.ns.length := by omega
  have hnm : NmOk s := by
    obtain ⟨x, hx, rfl⟩ := entName_mem hn
    unfold Fs.entsOf at hx
    cases hg : S.get (S.above no) with
    | none => rw [hg] at hx; cases hx
    | some a =>
      rw [hg] at hx
      exact h.names a (an_mem hg) x hx
  refine ⟨⟨by simp; omega, fun x hx => ?_, ?_, fun _ _ => by simp; omega⟩, hln⟩
  · rcases List.mem_append.1 hx with hx | hx
    · exact hs.small x hx
    · simp at hx
      subst hx
      have := hnm.2
      have h5 : s.data.toList.length = s.size := Array.length_toList
      omega
  · rw [hs.eq, catL_snoc]
    obtain ⟨k, hkk⟩ : ∃ j, S.ns.length + 1 - l.length = j + 1 := ⟨S.ns.length - l.length, by omega⟩
    rw [hkk, show S.ns.length + 1 - (l ++ [s.data.toList]).length = k by simp; omega, Fs.whereN, if_neg h4, hn]
    show S.whereN k _ _ = S.whereN k _ _
    congr 1
end

end Go.Proofs.YtihdbncoijhihaaGreat
