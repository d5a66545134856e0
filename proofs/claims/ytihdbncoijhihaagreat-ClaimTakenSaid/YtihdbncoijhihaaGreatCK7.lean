/- Texts of the proof, part 7. -/
import Derived.Test.YtihdbncoijhihaaGreatCK6
import Derived.Test.YtihdbncoijhihaaGreatCK4
import Derived.Test.YtihdbncoijhihaaGreatCK1
set_option linter.unusedVariables false
set_option linter.unusedSimpArgs false
/- A planted tree is a tree: each directory stands in one directory, once. -/
namespace Go.Proofs.YtihdbncoijhihaaGreat

open Go.RowKit

/-- names of a directory `no`: whose nodes are there; directories among them stand here alone, once. -/
structure RowOk (S : Fs) (no : Int) (l : List En) : Prop where
  down : ∀ x ∈ l, ∃ b, S.get x.no = some b ∧ (b.kind = 1 → b.up = no ∧ S.root b.dev ≠ b.no)
  once : l.Pairwise (fun x y => x.no = y.no → ∀ b, S.get x.no = some b → b.kind ≠ 1)
structure Tr (S : Fs) : Prop where
  leaf : ∀ a ∈ S.ns, a.kind ≠ 1 → a.ents = []
  row : ∀ a ∈ S.ns, RowOk S a.no a.ents
  zero : ∀ d, S.ds[0]? = some d → d.over = 0
  rts : ∀ (i : Nat) (hi : i < S.ds.length), ∃ r, S.get S.ds[i].root = some r ∧ r.kind = 1 ∧ r.dev = (i : Int) + 1
/-- what was there is there. -/
def Sub (S S' : Fs) : Prop := ∀ k c, S.get k = some c → ∃ c', S'.get k = some c' ∧ c'.kind = c.kind ∧ c'.up = c.up ∧ c'.dev = c.dev ∧ S'.root c.dev = S.root c.dev
theorem Sub.row {S S' : Fs} (h : Sub S S') {no : Int} {l : List En} (hr : RowOk S no l) : RowOk S' no l := by
  refine ⟨fun x hx => ?_, ?_⟩
  · obtain ⟨b, hb, h1⟩ := hr.down x hx
    obtain ⟨c, hc, e1, e2, e3, e4⟩ := h _ _ hb
    refine ⟨c, hc, fun hk => ?_⟩
    obtain ⟨h2, h3⟩ := h1 (e1 ▸ hk)
    rw [e2, e3, e4, an_no hc, ← an_no hb]
    exact ⟨h2, h3⟩
  · have hd := hr.down
    have ho := hr.once
    clear hr
    induction l with
    | nil => exact List.Pairwise.nil
    | cons y l ih =>
      rw [List.pairwise_cons] at ho ⊢
      refine ⟨fun z hz he b hb => ?_, ih (fun x hx => hd x (List.mem_cons_of_mem _ hx)) ho.2⟩
      obtain ⟨c, hc, -⟩ := hd y List.mem_cons_self
      obtain ⟨c', hc', e1, -⟩ := h _ _ hc
      rw [hb] at hc'
      injection hc' with hc'
      subst hc'
      rw [e1]
      exact ho.1 z hz he c hc
theorem RowOk.put {S : Fs} {no : Int} {l : List En} (h : RowOk S no l) (s : ByteArray) {k : Int} {b : An} (hb : S.get k = some b) (h1 : b.kind = 1 → b.up = no ∧ S.root b.dev ≠ b.no) (h2 : b.kind = 1 → ∀ x ∈ l, x.no ≠ k) : RowOk S no (entPut l s k) := by
  unfold entPut
  refine ⟨fun x hx => ?_, ?_⟩
  · rcases List.mem_append.1 hx with hx | hx
    · exact h.down x (List.mem_filter.1 hx).1
    · rcases List.mem_cons.1 hx with rfl | hx
      · exact ⟨b, hb, h1⟩
      · exact h.down x (List.mem_filter.1 hx).1
  · have hk : ∀ x ∈ l, x.no = k → ∀ c, S.get x.no = some c → c.kind ≠ 1 := fun x hx he c hc hc1 => by
      rw [he, hb] at hc
      injection hc with hc
      subst hc
      exact h2 hc1 x hx he
    rw [List.pairwise_append]
    refine ⟨h.once.sublist List.filter_sublist, ?_, fun x hx y hy => ?_⟩
    · rw [List.pairwise_cons]
      refine ⟨fun y hy he c hc => ?_, h.once.sublist List.filter_sublist⟩
      refine hk y (List.mem_filter.1 hy).1 he.symm c ?_
      rw [← he]
      exact hc
    · rcases List.mem_cons.1 hy with rfl | hy
      · intro he c hc
        exact hk x (List.mem_filter.1 hx).1 he c hc
      · intro he c hc
        have hx' := (List.mem_filter.1 hx)
        have hy' := (List.mem_filter.1 hy)
        obtain ⟨i, hi, rfl⟩ := List.mem_iff_getElem.1 hx'.1
        obtain ⟨j, hj, rfl⟩ := List.mem_iff_getElem.1 hy'.1
        rcases Nat.lt_trichotomy i j with hij | hij | hij
        · exact List.pairwise_iff_getElem.1 h.once i j hi hj hij he c hc
        · subst hij
          have e1 := hx'.2
          have e2 := hy'.2
          rw [ltB_asymm (by simpa using e1)] at e2
          cases e2
        · exact List.pairwise_iff_getElem.1 h.once j i hj hi hij he.symm c (by rw [← he]; exact hc)
theorem Tr.set {S : Fs} (h : Tr S) {a b : An} (hb : S.get a.no = some b) (hk : a.kind = b.kind) (hd : a.dev = b.dev) (hu : a.up = b.up) (hl : a.kind ≠ 1 → a.ents = []) (hr : RowOk S a.no a.ents) : Tr (S.set a) := by
  have hsub : Sub S (S.set a) := fun k c hc => by
    rw [an_set hb]
    by_cases hka : k = a.no
    · rw [if_pos hka]
      rw [hka, hb] at hc
      injection hc with hc
      subst hc
      exact ⟨a, rfl, hk, hu, hd, rfl⟩
    · rw [if_neg hka]
      exact ⟨c, hc, rfl, rfl, rfl, rfl⟩
  refine ⟨fun y hy => ?_, fun y hy => hsub.row ?_, h.zero, fun i hi => ?_⟩
  · unfold Fs.set at hy
    simp only [List.mem_map] at hy
    obtain ⟨z, hz, rfl⟩ := hy
    split
    · exact hl
    · exact h.leaf z hz
  · unfold Fs.set at hy
    simp only [List.mem_map] at hy
    obtain ⟨z, hz, rfl⟩ := hy
    split
    · exact hr
    · exact h.row z hz
  · obtain ⟨r, h1, h2, h3⟩ := h.rts i hi
    obtain ⟨c, hc, e1, -, e3, -⟩ := hsub _ _ h1
    exact ⟨c, hc, by rw [e1]; exact h2, by rw [e3]; exact h3⟩
theorem setDev_root {S : Fs} {d : Int} {v u : Dv} (hv : S.dev d = some v) (hr : u.root = v.root) (e : Int) : (S.setDev d u).root e = S.root e := by
  unfold Fs.dev at hv
  split at hv
  · have hi := (List.getElem?_eq_some_iff.1 hv).1
    unfold Fs.root Fs.setDev
    simp only [List.length_set, List.getElem?_set]
    split
    · by_cases hq : (d - 1).toNat = (e - 1).toNat
      · rw [if_pos hq, ← hq, hv]
        first | exact hr | (rw [if_pos hi]; exact hr)
      · rw [if_neg hq]
    · rfl
  · cases hv
theorem Tr.setDev {S : Fs} (h : Tr S) {d : Int} {v u : Dv} (hv : S.dev d = some v) (hr : u.root = v.root) (ho : u.over = v.over) : Tr (S.setDev d u) := by
  have hsub : Sub S (S.setDev d u) := fun k c hc => ⟨c, hc, rfl, rfl, rfl, setDev_root hv hr _⟩
  have hv0 := hv
  unfold Fs.dev at hv
  split at hv
  · have hi := (List.getElem?_eq_some_iff.1 hv).1
    have hvi := (List.getElem?_eq_some_iff.1 hv).2
    refine ⟨h.leaf, fun y hy => hsub.row (h.row y hy), fun e he => ?_, fun i hi2 => ?_⟩
    · unfold Fs.setDev at he
      simp only [List.getElem?_set] at he
      by_cases hq : (d - 1).toNat = 0
      · rw [if_pos hq] at he
        rw [hq] at hv
        split at he
        · injection he with he
          rw [← he, ho]
          exact h.zero v hv
        · rename_i hq2
          exact absurd hi hq2
      · rw [if_neg hq] at he
        exact h.zero e he
    · have hi3 : i < S.ds.length := by
        have := hi2
        unfold Fs.setDev at this
        simpa using this
      obtain ⟨r, h1, h2, h3⟩ := h.rts i hi3
      have he : (S.setDev d u).ds[i] = if (d - 1).toNat = i then u else S.ds[i] :=
        List.getElem_set (l := S.ds) (i := (d - 1).toNat) (a := u) (j := i) (by rw [List.length_set]; exact hi3)
      rw [he]
      by_cases hq : (d - 1).toNat = i
      · subst hq
        rw [if_pos rfl, hr, ← hvi]
        exact ⟨r, h1, h2, h3⟩
      · rw [if_neg hq]
        exact ⟨r, h1, h2, h3⟩
  · cases hv
theorem sub_add {S : Fs} {N : Nat} (hk : FsOk S N) (a : An) : Sub S (S.add a) := fun k c hc => by
  refine ⟨c, ?_, rfl, rfl, rfl, rfl⟩
  rw [an_add hk.nums, if_neg]
  · exact hc
  · have := get_low hk.nums hc
    omega
theorem Tr.add {S : Fs} {N : Nat} (hk : FsOk S N) (h : Tr S) {a : An} (he : a.ents = []) : Tr (S.add a) := by
  have hsub := sub_add hk a
  refine ⟨fun y hy hyk => ?_, fun y hy => ?_, h.zero, fun i hi => ?_⟩
  · rcases List.mem_append.1 hy with hy | hy
    · exact h.leaf y hy hyk
    · simp at hy; subst hy
      exact he
  · rcases List.mem_append.1 hy with hy | hy
    · exact hsub.row (h.row y hy)
    · simp at hy; subst hy
      rw [show ({ a with no := S.last + 1 } : An).ents = a.ents from rfl, he]
      exact ⟨fun x hx => (by cases hx), List.Pairwise.nil⟩
  · obtain ⟨r, h1, h2, h3⟩ := h.rts i hi
    obtain ⟨c, hc, e1, -, e3, -⟩ := hsub _ _ h1
    exact ⟨c, hc, by rw [e1]; exact h2, by rw [e3]; exact h3⟩
theorem addRoot_root (S : Fs) (k b n : Int) {e : Int} (he : e ≤ S.ds.length) : (S.addRoot k b n).root e = S.root e := by
  unfold Fs.root Fs.addRoot
  simp only [List.length_append, List.length_singleton]
  by_cases h1 : (1 : Int) ≤ e
  · rw [if_pos ⟨h1, by omega⟩, if_pos ⟨h1, he⟩, List.getElem?_append_left (by omega)]
  · rw [if_neg (fun h => h1 h.1), if_neg (fun h => h1 h.1)]
theorem addRoot_get {S : Fs} (hn : Nums S) (k b n : Int) : (S.addRoot k b n).get (S.last + 1) = some { an0 with no := S.last + 1, dev := S.ds.length + 1, kind := 1, mode := 493, links := 1, up := S.last + 1 } := by
  have := an_add hn { an0 with dev := S.ds.length + 1, kind := 1, mode := 493, links := 1, up := S.last + 1 } (S.last + 1)
  rw [if_pos rfl] at this
  exact this
theorem Tr.addRoot {S : Fs} (hn : Nums S) (hdev : ∀ a ∈ S.ns, a.dev ≤ S.ds.length) (h : Tr S) (k b n : Int) (h0 : S.ds = [] → k = 0) : Tr (S.addRoot k b n) := by
  have hsub : Sub S (S.addRoot k b n) := fun q c hq => by
    refine ⟨c, ?_, rfl, rfl, rfl, addRoot_root S k b n (hdev c (an_mem hq))⟩
    unfold Fs.get Fs.addRoot at *
    simp only [List.find?_append, hq, Option.some_or]
  refine ⟨fun y hy hyk => ?_, fun y hy => ?_, fun d hd => ?_, fun i hi => ?_⟩
  · rcases List.mem_append.1 hy with hy | hy
    · exact h.leaf y hy hyk
    · simp at hy; subst hy
      rfl
  · rcases List.mem_append.1 hy with hy | hy
    · exact hsub.row (h.row y hy)
    · simp at hy; subst hy
      exact ⟨fun x hx => by simp [an0] at hx, List.Pairwise.nil⟩
  · unfold Fs.addRoot at hd
    cases hds : S.ds with
    | nil =>
      rw [hds] at hd
      simp at hd
      rw [← hd]
      exact h0 hds
    | cons x l =>
      rw [hds] at hd
      simp at hd
      subst hd
      exact h.zero x (by rw [hds]; rfl)
  · by_cases hi2 : i < S.ds.length
    · obtain ⟨r, h1, h2, h3⟩ := h.rts i hi2
      have he : (S.addRoot k b n).ds[i] = S.ds[i] := List.getElem_append_left hi2
      rw [he]
      obtain ⟨c, hc, e1, -, e3, -⟩ := hsub _ _ h1
      exact ⟨c, hc, by rw [e1]; exact h2, by rw [e3]; exact h3⟩
    · have hi3 : i = S.ds.length := by
        have h4 : i < (S.ds ++ [(⟨S.last + 1, k, 1, 1, b, n⟩ : Dv)]).length := hi
        rw [List.length_append, List.length_singleton] at h4
        omega
      subst hi3
      have he : (S.addRoot k b n).ds[S.ds.length] = ⟨S.last + 1, k, 1, 1, b, n⟩ := by
        have h5 : (S.ds ++ [(⟨S.last + 1, k, 1, 1, b, n⟩ : Dv)])[S.ds.length]? = some ⟨S.last + 1, k, 1, 1, b, n⟩ := by
          rw [List.getElem?_append_right (Nat.le_refl _)]
          simp
        exact (List.getElem?_eq_some_iff.1 h5).2
      rw [he]
      exact ⟨_, addRoot_get hn k b n, rfl, rfl⟩
theorem Tr.new (b n : Int) : Tr (fs0.addRoot 0 b n) :=
  Tr.addRoot ⟨List.Pairwise.nil, fun x hx => by cases hx⟩ (fun x hx => by cases hx) ⟨fun x hx => (by cases hx), fun x hx => (by cases hx), fun d hd => (by cases hd), fun i hi => (by cases hi)⟩ 0 b n (fun _ => rfl)
/-- a node that comes: the tree, and the node. -/
theorem Tr.make {S : Fs} {N : Nat} (hk : FsOk S N) (h : Tr S) {a : An} (he : a.ents = []) : Tr (S.make a).1 ∧ Sub S (S.make a).1 ∧ ((S.make a).2.2 = 0 → (S.make a).2.1 = S.last + 1 ∧ (S.make a).1.get (S.last + 1) = some { a with no := S.last + 1 } ∧ (S.make a).1.root a.dev = S.root a.dev) := by
  have hrefl : Sub S S := fun k c hc => ⟨c, hc, rfl, rfl, rfl, rfl⟩
  unfold Fs.make
  split
  · exact ⟨h, hrefl, fun h => by cases h⟩
  · split
    · exact ⟨h, hrefl, fun h => by cases h⟩
    · rename_i v hv
      simp only
      split
      · have h2 := h.setDev (u := { v with b := v.b + blkI a.kind a.data.size, n := v.n + 1 }) hv rfl rfl
        have hk2 := hk.setDev (u := { v with b := v.b + blkI a.kind a.data.size, n := v.n + 1 }) hv rfl
        have hrt := setDev_root (u := { v with b := v.b + blkI a.kind a.data.size, n := v.n + 1 }) hv rfl
        refine ⟨h2.add hk2 he, fun k c hc => ?_, fun _ => ⟨rfl, ?_, hrt _⟩⟩
        · obtain ⟨c', h3, h4, h5, h6, -⟩ := sub_add hk2 a k c hc
          exact ⟨c', h3, h4, h5, h6, hrt _⟩
        · show Fs.get (Fs.add _ a) (S.last + 1) = _
          rw [an_add hk2.nums]
          exact if_pos rfl
      · rename_i he2
        exact ⟨h, hrefl, fun h => absurd h he2⟩
theorem Tr.touch {S : Fs} (h : Tr S) (now dir : Int) (l : List En) (hl : ∀ d, S.get dir = some d → d.kind = 1 ∧ RowOk S dir l) : Tr (S.touch now dir l) := by
  unfold Fs.touch
  split
  · exact h
  · rename_i d hd
    obtain ⟨h1, h2⟩ := hl d hd
    exact h.set (b := d) (by show S.get d.no = _; rw [an_no hd]; exact hd) rfl rfl rfl (fun hq => absurd h1 hq) (by show RowOk S d.no l; rw [an_no hd]; exact h2)
theorem Tr.come {S : Fs} {N : Nat} (hk : FsOk S N) (h : Tr S) {a : An} (c : Cr) (now dir : Int) (s : ByteArray) (he : a.ents = []) (hu : a.kind = 1 → a.up = dir) : Tr (S.come c now dir s a).1 := by
  unfold Fs.come
  split
  · exact h
  · rename_i hpl
    obtain ⟨d, hd, hdk, hce⟩ := place_check (by simpa using hpl)
    rw [hd]
    simp only
    split
    · exact h
    · obtain ⟨hdo, hdn, h1, h2⟩ := hk.get hd
      obtain ⟨m1, m2, m3⟩ := h.make hk (a := { a with dev := d.dev, uid := c.u, gid := c.g, mtime := now, ctime := now, links := 1 }) he
      split
      · exact h
      · rename_i h0
        obtain ⟨e1, e2, e3⟩ := m3 (by simpa using h0)
        refine m1.touch _ _ _ fun d2 hd2 => ?_
        obtain ⟨d3, hd3, hk3, -⟩ := m2 _ _ hd
        rw [hd2] at hd3
        injection hd3 with hd3
        subst hd3
        refine ⟨by rw [hk3]; exact hdk, ?_⟩
        have hrow := m2.row (h.row d (an_mem hd))
        rw [an_no hd] at hrow
        rw [e1]
        refine hrow.put s e2 (fun hq => ⟨hu hq, ?_⟩) (fun _ x hx => ?_)
        · show Fs.root _ d.dev ≠ S.last + 1
          rw [e3]
          show S.root d.dev ≠ S.last + 1
          obtain ⟨v, -, hrt, -, hm⟩ := root_of hk hdo.dev.1 hdo.dev.2
          have h4 := (hk.root v hm).2
          omega
        · obtain ⟨y, hy, -⟩ := (h.row d (an_mem hd)).down x hx
          have := get_low hk.nums hy
          omega
theorem Tr.mkdir {S : Fs} {N : Nat} (hk : FsOk S N) (h : Tr S) (c : Cr) (now dir : Int) (s : ByteArray) (m : Int) : Tr (S.mkdir c now dir s m).1 := by
  unfold Fs.mkdir
  split
  · exact h
  · exact h.come hk c now dir s rfl (fun _ => rfl)
theorem Tr.file {S : Fs} {N : Nat} (hk : FsOk S N) (h : Tr S) (c : Cr) (now dir : Int) (s : ByteArray) (m : Int) (t : ByteArray) : Tr (S.file c now dir s m t).1 := by
  unfold Fs.file
  split
  · exact h
  · split
    · exact h
    · exact h.come hk c now dir s rfl (fun hq => absurd hq (by dsimp only; decide))
theorem Tr.sym {S : Fs} {N : Nat} (hk : FsOk S N) (h : Tr S) (c : Cr) (now dir : Int) (s t : ByteArray) : Tr (S.sym c now dir s t).1 := by
  unfold Fs.sym
  split
  · exact h
  · split
    · exact h
    · exact h.come hk c now dir s rfl (fun hq => absurd hq (by dsimp only; decide))
/-- a node turned in what is no part of the tree's shape. -/
theorem Tr.same {S : Fs} (h : Tr S) {n m : An} (hn : S.get n.no = some n) (h0 : m.no = n.no) (h1 : m.kind = n.kind) (h2 : m.dev = n.dev) (h3 : m.up = n.up) (h4 : m.ents = n.ents) : Tr (S.set m) :=
  h.set (b := n) (by rw [h0]; exact hn) h1 h2 h3 (by rw [h1, h4]; exact h.leaf n (an_mem hn)) (by rw [h0, h4]; exact h.row n (an_mem hn))
theorem get_self {S : Fs} {k : Int} {n : An} (h : S.get k = some n) : S.get n.no = some n := by rw [an_no h]; exact h
theorem Tr.hard {S : Fs} (h : Tr S) (c : Cr) (now no dir : Int) (s : ByteArray) : Tr (S.hard c now no dir s).1 := by
  unfold Fs.hard
  split
  · exact h
  · rename_i hpl
    obtain ⟨d0, hd0, hdk, hce⟩ := place_check (by simpa using hpl)
    split
    · rename_i d n hd hn
      rw [hd] at hd0
      injection hd0 with hd0
      subst hd0
      split
      · exact h
      · rename_i hnk
        split
        · exact h
        · split
          · exact h
          · split
            · exact h
            · have hs := h.same (m := { n with links := n.links + 1, ctime := now }) (get_self hn) rfl rfl rfl rfl rfl
              have hset : S.get ({ n with links := n.links + 1, ctime := now } : An).no = some n := get_self hn
              have hno := an_no hn
              refine hs.touch _ _ _ fun d2 hd2 => ?_
              rw [an_set hset] at hd2
              have hdn : dir ≠ n.no := by
                rintro rfl
                rw [hset] at hd
                injection hd with hd
                subst hd
                exact hnk hdk
              rw [if_neg hdn, hd] at hd2
              injection hd2 with hd2
              subst hd2
              refine ⟨hdk, ?_⟩
              have hsub : Sub S (S.set { n with links := n.links + 1, ctime := now }) := fun k c hc => by
                rw [an_set hset]
                split
                · rename_i hkn
                  rw [hkn, hset] at hc
                  injection hc with hc
                  subst hc
                  exact ⟨_, rfl, rfl, rfl, rfl, rfl⟩
                · exact ⟨c, hc, rfl, rfl, rfl, rfl⟩
              have hrow := hsub.row (h.row d (an_mem hd))
              rw [an_no hd] at hrow
              refine hrow.put s (b := { n with links := n.links + 1, ctime := now }) ?_ (fun hq => absurd hq hnk) (fun hq => absurd hq hnk)
              rw [an_set hset, if_pos hno.symm]
    · exact h
theorem Tr.chmod {S : Fs} (h : Tr S) (c : Cr) (now no m : Int) : Tr (S.chmod c now no m).1 := by
  unfold Fs.chmod
  split
  · exact h
  · rename_i n hn
    split
    · exact h
    · split
      · exact h
      · exact h.same (get_self hn) rfl rfl rfl rfl rfl
theorem Tr.chown {S : Fs} (h : Tr S) (c : Cr) (now no u g : Int) : Tr (S.chown c now no u g).1 := by
  unfold Fs.chown
  split
  · exact h
  · rename_i n hn
    split
    · exact h
    · split
      · exact h
      · split
        · exact h
        · exact h.same (get_self hn) rfl rfl rfl rfl rfl
theorem Tr.utime {S : Fs} (h : Tr S) (c : Cr) (now no t : Int) : Tr (S.utime c now no t).1 := by
  unfold Fs.utime
  split
  · exact h
  · rename_i n hn
    split
    · exact h
    · split
      · exact h
      · exact h.same (get_self hn) rfl rfl rfl rfl rfl
theorem Tr.mount {S : Fs} {N : Nat} (hk : FsOk S N) (h : Tr S) (k b n : Int) : Tr (S.mount k b n).1 := by
  unfold Fs.mount
  split
  · exact h
  · split
    · exact h
    · split
      · exact h
      · split
        · exact h
        · exact h.addRoot hk.nums (fun a ha => (hk.all a ha).dev.2) k b n (fun h0 => by
            have := hk.d1
            rw [h0] at this
            cases this)
theorem Tr.mountF {S : Fs} {N : Nat} (hk : FsOk S N) (h : Tr S) (m : Mt) : Tr (mountF S m) := by
  unfold Go.Proofs.YtihdbncoijhihaaGreat.mountF
  split
  · exact h
  · split
    · have h1 := h.mkdir hk c00 0 (S.path c00 m.path false).1.dir (S.path c00 m.path false).1.name 493
      have hk1 := mkdir_ok hk c00 0 (S.path c00 m.path false).1.dir (S.path c00 m.path false).1.name 493
      simp only
      split
      · exact h1
      · exact h1.mount hk1 _ _ _
    · exact h.mount hk _ _ _
theorem Tr.mountsF {S : Fs} {N : Nat} (hk : FsOk S N) (h : Tr S) (l : List Mt) : Tr (mountsF S l) := by
  induction l generalizing S N with
  | nil => exact h
  | cons m l ih =>
    unfold Go.Proofs.YtihdbncoijhihaaGreat.mountsF
    by_cases hm : m.path = topB
    · rw [if_pos hm]; exact ih hk h
    · rw [if_neg hm]; exact ih (mountF_ok hk m) (h.mountF hk m)
theorem Tr.nodeF {S : Fs} {N : Nat} (hk : FsOk S N) (h : Tr S) (it : It) : Tr (nodeF S it).1 := by
  unfold Go.Proofs.YtihdbncoijhihaaGreat.nodeF
  simp only
  split
  · exact h
  · split
    · split <;> exact h
    · split
      · exact h.mkdir hk _ _ _ _ _
      · split
        · exact h.file hk _ _ _ _ _ _
        · split
          · exact h.sym hk _ _ _ _ _
          · split
            · split
              · exact h.hard _ _ _ _ _
              · exact h
            · exact h
theorem Tr.itemF {S : Fs} {N : Nat} (hk : FsOk S N) (h : Tr S) (it : It) : Tr (itemF S it).1 := by
  unfold Go.Proofs.YtihdbncoijhihaaGreat.itemF
  have h1 := h.nodeF hk it
  simp only
  split
  · exact (h1.chown _ _ _ _ _).chmod _ _ _ _
  · exact h1
theorem Tr.itemsF {S : Fs} {N : Nat} (hk : FsOk S N) (h : Tr S) (l : List It) : Tr (itemsF S l).1 := by
  induction l generalizing S N with
  | nil => exact h
  | cons x l ih => exact ih (itemF_ok2 hk x) (h.itemF hk x)
theorem Tr.timesF {S : Fs} (h : Tr S) (l : List (It × Int)) : Tr (timesF S l) := by
  induction l generalizing S with
  | nil => exact h
  | cons x l ih =>
    unfold Go.Proofs.YtihdbncoijhihaaGreat.timesF
    refine ih ?_
    split
    · exact h.utime _ _ _ _
    · exact h
theorem plant_tr (ms : List Mt) (is : List It) : Tr (plantF ms is) := by
  unfold plantF
  simp only
  have hk := FsOk.new (limitsF ms).1 (limitsF ms).2
  exact Tr.timesF (Tr.itemsF (mountsF_ok hk ms) (Tr.mountsF hk (Tr.new _ _) ms) is) _
end Go.Proofs.YtihdbncoijhihaaGreat

/- Rows of a tree (layer 23), purely. -/
namespace Go.Proofs.YtihdbncoijhihaaGreat

open Go.RowKit

structure Rw where
  path : ByteArray
  kind : Int
  mode : Int
  uid : Int
  gid : Int
  mtime : Int
  ctime : Int
  dev : Int
  first : Int
  data : ByteArray
  deriving DecidableEq
def belowB (s n : ByteArray) : ByteArray := str (trimL s.data.toList ++ 47 :: n.data.toList)
def An.rw (n : An) (p : ByteArray) (first : Int) : Rw := ⟨p, n.kind, n.mode, n.uid, n.gid, n.mtime, n.ctime, n.dev, first, n.data⟩
def kidsL (p : ByteArray) (n : An) : List En := n.ents.map fun e => ⟨belowB p e.name, e.no⟩
/-- the rows: `f` steps. -/
def Fs.rowsN (S : Fs) : Nat → List En → List Int → List Rw → List Rw
  | 0, _, _, out => out
  | _ + 1, [], _, out => out
  | f + 1, x :: todo, nos, out =>
    match S.get (S.over x.no) with
    | none => S.rowsN f todo nos out
    | some n => S.rowsN f (kidsL x.name n ++ todo) (nos ++ [n.no]) (out ++ [n.rw x.name (nos.idxOf n.no)])
def Fs.rowsF (S : Fs) (N : Nat) : Nat := 1 + (N + 1) * S.ns.length
def Fs.rows (S : Fs) (N : Nat) (no : Int) (p : ByteArray) : List Rw := S.rowsN (S.rowsF N) [⟨p, no⟩] [] []
def Fs.isDir (S : Fs) (k : Int) : Bool := match S.get k with | some n => n.kind == 1 | none => false
def Fs.dirsT (S : Fs) (l : List En) : List Int := (l.map fun x => S.over x.no).filter S.isDir
/-- between the steps. -/
structure TrSt (S : Fs) (N : Nat) (s0 : Int) (B : Nat) (todo : List En) (nos : List Int) (f : Nat) : Prop where
  nodup : (S.dirsT todo ++ nos.filter S.isDir).Nodup
  src : ∀ c ∈ S.dirsT todo ++ nos.filter S.isDir, c = s0 ∨ S.above c ∈ nos.filter S.isDir
  low : ∀ c ∈ S.dirsT todo ++ nos.filter S.isDir, s0 ≤ c
  fuel : todo.length + (N + 1) * (S.ns.length - (nos.filter S.isDir).length) ≤ f
  size : ∀ x ∈ todo, x.name.size ≤ B + 256 * (if S.isDir (S.over x.no) then (S.over x.no).toNat else S.last.toNat + 1)
end Go.Proofs.YtihdbncoijhihaaGreat

/- The tops of mounts, paths of names, operands (layer 29), purely. -/
namespace Go.Proofs.YtihdbncoijhihaaGreat

open Go.RowKit

def Fs.topF (S : Fs) (no : Int) : Int × ByteArray × Int :=
  match S.get no with
  | none => (0, ByteArray.empty, 5)
  | some a => match S.place_ (S.root a.dev) with
    | none => (0, ByteArray.empty, 5)
    | some s => (S.root a.dev, s, 0)
def Fs.pathF (S : Fs) (dir : Int) (n : ByteArray) : ByteArray × Int :=
  if checkE n ≠ 0 then (ByteArray.empty, checkE n) else
  match S.get dir with
  | none => (ByteArray.empty, 5)
  | some a => if a.kind ≠ 1 then (ByteArray.empty, 9) else
    match S.place_ dir with
    | none => (ByteArray.empty, 5)
    | some s => if 4096 < (belowB s n).size then (ByteArray.empty, 13) else (belowB s n, 0)
def Fs.isRoot (S : Fs) (no : Int) : Bool := match S.get no with | none => false | some a => S.root a.dev == no
def Fs.operandF (S : Fs) (c : Cr) (p : ByteArray) : Fd × Int :=
  if pathE p ≠ 0 then (fd0, pathE p)
  else if lastL p.data.toList = [] then (fd0, 1)
  else if (S.path c p false).2 ≠ 0 then (fd0, (S.path c p false).2)
  else if (S.path c p false).1.no = 0 then (fd0, 5)
  else if (S.path c p false).1.name = ByteArray.empty then (fd0, 1)
  else if S.busy (S.path c p false).1.no = true ∨ S.isRoot (S.path c p false).1.no = true then (fd0, 16)
  else ((S.path c p false).1, 0)
/-- what a path leads to is there. -/
def There (S : Fs) (x : Fd × Int) : Prop := x.1.name = ByteArray.empty ∨ x.1.no = 0 ∨ ∃ a, S.get x.1.no = some a
section

variable {S : Fs} {no dir : Int} {n s : ByteArray} {a : An}

theorem topF_none (h : S.get no = none) : S.topF no = (0, ByteArray.empty, 5) := by unfold Fs.topF; rw [h]
theorem topF_gone (h : S.get no = some a) (hp : S.place_ (S.root a.dev) = none) : S.topF no = (0, ByteArray.empty, 5) := by unfold Fs.topF; rw [h]; simp only; rw [hp]
theorem topF_some (h : S.get no = some a) (hp : S.place_ (S.root a.dev) = some s) : S.topF no = (S.root a.dev, s, 0) := by unfold Fs.topF; rw [h]; simp only; rw [hp]
end

end Go.Proofs.YtihdbncoijhihaaGreat

/- A map whose keys are ints, as a list in the order of its entries: what a look-up, a store, a delete and len do to it. No program in sight but the map's type. -/
namespace Go.Proofs.YtihdbncoijhihaaGreat

open Go.RowKit

/-- one entry: key, value, when it came. -/
def ent (x : Int × Value × Nat) : MapEntry := { key := .int .i64 x.1, val := x.2.1, born := x.2.2 }
/-- block m is the map of these entries. -/
def MapB (w : World) (m : Nat) (l : List (Int × Value × Nat)) (clk : Nat) : Prop := w.heap[m]? = some (.map (l.map ent).toArray clk)
/-- each key once. -/
def KeysOnce (l : List (Int × Value × Nat)) : Prop := (l.map (·.1)).Nodup

def mapFind (l : List (Int × Value × Nat)) (k : Int) : Option Value := (l.find? (fun x => x.1 == k)).map (·.2.1)
def mapPut (l : List (Int × Value × Nat)) (k : Int) (v : Value) : List (Int × Value × Nat) := l.map fun x => if x.1 == k then (k, v, x.2.2) else x
def mapDel (l : List (Int × Value × Nat)) (k : Int) : List (Int × Value × Nat) := l.filter fun x => !(x.1 == k)

theorem MapB.lt {w : World} {m : Nat} {l : List (Int × Value × Nat)} {clk : Nat} (h : MapB w m l clk) : m < w.heap.size := by
  unfold MapB at h
  exact (Array.getElem?_eq_some_iff.1 h).1
theorem MapB.old {w : World} {m : Nat} {l : List (Int × Value × Nat)} {clk : Nat} (h : MapB w m l clk) (o : Obj) : MapB (w.alloc o) m l clk :=
  (Below.heap_alloc w o m h.lt).trans h
theorem MapB.keep {w w' : World} {m : Nat} {l : List (Int × Value × Nat)} {clk : Nat} (h : MapB w m l clk) (hb : Below w.heap.size w w') : MapB w' m l clk :=
  (hb.block m h.lt).trans h
theorem MapB.setOther {w : World} {m : Nat} {l : List (Int × Value × Nat)} {clk : Nat} (h : MapB w m l clk) (a : Addr) (v : Value) (hne : a.block ≠ m) : MapB (w.setCell a v) m l clk :=
  (Below.heap_setCell w a v m (fun e => hne e.symm)).trans h

theorem findNow_list (k : Int) : ∀ (l : List (Int × Value × Nat)) (i : Nat),
    Instr.findNow (.int .i64) (.int .i64 k) (l.map ent) i = some ((l.findIdx? (fun x => x.1 == k)).bind fun j => (l[j]?).map fun x => (i + j, x.2.1))
  | [], i => by simp [Instr.findNow]
  | x :: l, i => by
    have ih := findNow_list k l (i + 1)
    rw [List.map_cons]
    unfold Instr.findNow
    have hs : Instr.sameNow (.int .i64) (.int .i64 k) (ent x).key = some (k == x.1) := by simp [Instr.sameNow, ent]
    rw [hs]
    by_cases e : x.1 = k
    · subst e; simp [List.findIdx?_cons, ent]
    · have e1 : (k == x.1) = false := by simpa using fun h => e h.symm
      have e2 : (x.1 == k) = false := by simpa using e
      rw [e1]
      show Instr.findNow _ _ _ _ = _
      rw [ih]
      simp only [List.findIdx?_cons, e2, Bool.false_eq_true, if_false]
      congr 1
      cases List.findIdx? (fun x => x.1 == k) l with
      | none => rfl
      | some j => simp; congr 1; funext y; simp; omega

theorem mapFind_idx (k : Int) : ∀ (l : List (Int × Value × Nat)), mapFind l k = (l.findIdx? (fun x => x.1 == k)).bind fun j => (l[j]?).map fun x => x.2.1
  | [] => rfl
  | x :: l => by
    have ih := mapFind_idx k l
    unfold mapFind at ih ⊢
    by_cases e : (x.1 == k) = true
    · simp [List.findIdx?_cons, e]
    · simp only [Bool.not_eq_true] at e
      simp only [List.find?_cons, List.findIdx?_cons, e, Bool.false_eq_true, if_false, ih]
      cases List.findIdx? (fun x => x.1 == k) l <;> simp

theorem mapPut_idx (k : Int) (v : Value) : ∀ (l : List (Int × Value × Nat)) (j : Nat), KeysOnce l → l.findIdx? (fun x => x.1 == k) = some j →
    ((l.map ent).modify j fun e => { e with key := .int .i64 k, val := v }) = (mapPut l k v).map ent
  | [], j, _, h => by simp at h
  | x :: l, j, hn, h => by
    unfold KeysOnce at hn
    simp only [List.map_cons, List.nodup_cons] at hn
    obtain ⟨hx, hl⟩ := hn
    by_cases e : (x.1 == k) = true
    · simp only [List.findIdx?_cons, e, if_true, Option.some.injEq] at h
      subst h
      have e' : x.1 = k := by simpa using e
      have hrest : mapPut l k v = l := by
        unfold mapPut
        rw [List.map_congr_left (g := id)]
        · simp
        · intro y hy
          have : ¬ y.1 = k := fun h' => hx (by rw [e', ← h']; exact List.mem_map.2 ⟨y, hy, rfl⟩)
          simp [this]
      have hput : mapPut (x :: l) k v = (k, v, x.2.2) :: l := by
        unfold mapPut at hrest ⊢
        rw [List.map_cons, hrest, e, if_pos rfl]
      rw [hput]
      rfl
    · simp only [Bool.not_eq_true] at e
      simp only [List.findIdx?_cons, e, Bool.false_eq_true, if_false, Option.map_eq_some_iff] at h
      obtain ⟨j', hj, rfl⟩ := h
      have ih := mapPut_idx k v l j' hl hj
      unfold mapPut at ih ⊢
      simp only [List.map_cons, List.modify_succ_cons, e, Bool.false_eq_true, if_false]
      rw [ih]

theorem mapFind_none {l : List (Int × Value × Nat)} {k : Int} : mapFind l k = none ↔ l.findIdx? (fun x => x.1 == k) = none := by
  rw [List.findIdx?_eq_none_iff]
  unfold mapFind
  simp

section

variable {P : Program} {K E T : TypeId} {w : World} {m : Nat} {l : List (Int × Value × Nat)} {clk : Nat}

theorem checkKey_int (b : Bool) (hk : P.underlying K = some (.int .i64)) (v : Value) (w : World) : (Instr.checkKey b 10000 K v).run P w = .ok () w := by
  unfold Instr.checkKey
  simp [run_underlying hk]

theorem run_findKey (hk : P.underlying K = some (.int .i64)) (k : Int) (w : World) : (Instr.findKey K (.int .i64 k) (l.map ent)).run P w = .ok ((l.findIdx? (fun x => x.1 == k)).bind fun j => (l[j]?).map fun x => (j, x.2.1)) w := by
  unfold Instr.findKey
  simp [run_underlying hk, findNow_list]

/-- 'v, ok := m[k]'. -/
theorem run_lookup_yes (ht : P.underlying T = some (.map K E)) (hk : P.underlying K = some (.int .i64)) (h : MapB w m l clk) {k : Int} {v : Value} (hf : mapFind l k = some v) :
    (Instr.lookup T (.map (some m)) (.int .i64 k) true).run P w = .ok (.tuple #[v, .bool true]) w := by
  rw [mapFind_idx] at hf
  unfold MapB at h
  simp only [Option.bind_eq_some_iff, Option.map_eq_some_iff] at hf
  obtain ⟨j, hj, x, hx, rfl⟩ := hf
  unfold Instr.lookup
  simp [run_underlying ht, getObj, Sem.run, h, checkKey_int _ hk, run_findKey hk, hj, hx]
theorem run_lookup_no (ht : P.underlying T = some (.map K E)) (hk : P.underlying K = some (.int .i64)) (h : MapB w m l clk) {k : Int} (hf : mapFind l k = none) {z : Value} (hz : (zeroValue E).run P w = .ok z w) :
    (Instr.lookup T (.map (some m)) (.int .i64 k) true).run P w = .ok (.tuple #[z, .bool false]) w := by
  rw [mapFind_none] at hf
  unfold MapB at h
  unfold Instr.lookup
  simp [run_underlying ht, getObj, Sem.run, h, checkKey_int _ hk, run_findKey hk, hf, hz]
theorem run_put (ht : P.underlying T = some (.map K E)) (hk : P.underlying K = some (.int .i64)) (h : MapB w m l clk) (hn : KeysOnce l) {k : Int} {v0 v : Value} (hf : mapFind l k = some v0) :
    (Instr.mapUpdate T (.map (some m)) (.int .i64 k) v).run P w = .ok () (ChangeMaps.setBlock w m (.map ((mapPut l k v).map ent).toArray clk)) := by
  rw [mapFind_idx] at hf
  unfold MapB at h
  simp only [Option.bind_eq_some_iff, Option.map_eq_some_iff] at hf
  obtain ⟨j, hj, x, hx, rfl⟩ := hf
  have hp := mapPut_idx k v l j hn hj
  have hxk : x.1 = k := by
    obtain ⟨hlt, h1, -⟩ := List.findIdx?_eq_some_iff_getElem.1 hj
    rw [List.getElem?_eq_getElem hlt] at hx
    obtain rfl := Option.some.inj hx
    simpa using h1
  have hst : (Instr.keyThatStays (ent x).key (.int .i64 k)).run P w = .ok (.int .i64 k) w := by
    subst hxk
    simp [Instr.keyThatStays, Instr.sameBits, ent]
  unfold Instr.mapUpdate
  simp [run_underlying ht, getObj, setObj, Sem.run, h, checkKey_int _ hk, run_findKey hk, hj, hx, hst, hp, ChangeMaps.setBlock]
theorem run_add (ht : P.underlying T = some (.map K E)) (hk : P.underlying K = some (.int .i64)) (h : MapB w m l clk) {k : Int} {v : Value} (hf : mapFind l k = none) :
    (Instr.mapUpdate T (.map (some m)) (.int .i64 k) v).run P w = .ok () (ChangeMaps.setBlock w m (.map ((l ++ [(k, v, clk)]).map ent).toArray (clk + 1))) := by
  rw [mapFind_none] at hf
  unfold MapB at h
  unfold Instr.mapUpdate
  simp [run_underlying ht, getObj, setObj, Sem.run, h, checkKey_int _ hk, run_findKey hk, hf, ChangeMaps.setBlock, ent]
theorem MapB.set (h : MapB w m l clk) (l' : List (Int × Value × Nat)) (clk' : Nat) :
    MapB (ChangeMaps.setBlock w m (.map (l'.map ent).toArray clk')) m l' clk' ∧ (∀ B vs T, Blk w B vs T → Blk (ChangeMaps.setBlock w m (.map (l'.map ent).toArray clk')) B vs T) ∧
      Mod (fun k => k = m) w (ChangeMaps.setBlock w m (.map (l'.map ent).toArray clk')) := by
  have hlt := h.lt
  refine ⟨?_, ?_, (Mod.refl (fun k => k = m) w).setBlock (b := m) (.inl rfl) _⟩
  · unfold MapB
    simp [ChangeMaps.setBlock, hlt]
  · intro B vs T hB
    refine hB.setBlock ?_ _
    rintro rfl
    unfold Blk at hB
    unfold MapB at h
    rw [h] at hB
    cases hB

theorem step_put (ht : P.underlying T = some (.map K E)) (hk : P.underlying K = some (.int .i64)) (h : MapB w m l clk) (hn : KeysOnce l) {k : Int} {v0 : Value} (v : Value) (hf : mapFind l k = some v0) :
    ∃ W, (Instr.mapUpdate T (.map (some m)) (.int .i64 k) v).run P w = .ok () W ∧ MapB W m (mapPut l k v) clk ∧ (∀ B vs T, Blk w B vs T → Blk W B vs T) ∧ Mod (fun k => k = m) w W :=
  ⟨_, run_put ht hk h hn hf, h.set _ _⟩
theorem step_add (ht : P.underlying T = some (.map K E)) (hk : P.underlying K = some (.int .i64)) (h : MapB w m l clk) {k : Int} (v : Value) (hf : mapFind l k = none) :
    ∃ W, (Instr.mapUpdate T (.map (some m)) (.int .i64 k) v).run P w = .ok () W ∧ MapB W m (l ++ [(k, v, clk)]) (clk + 1) ∧ (∀ B vs T, Blk w B vs T → Blk W B vs T) ∧ Mod (fun k => k = m) w W :=
  ⟨_, run_add ht hk h hf, h.set _ _⟩
end

end Go.Proofs.YtihdbncoijhihaaGreat
