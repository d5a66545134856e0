/- Texts of the proof, part 3. -/
import Derived.Test.YtihdbncoijhihaaGreatDoorTT7
import Derived.Test.YtihdbncoijhihaaGreatDoorTR2
import Derived.Test.YtihdbncoijhihaaGreatDoorTT8
set_option linter.unusedVariables false
set_option linter.unusedSimpArgs false
/- A planted tree, purely: directories stand below directories, names on their own device, mounts over no mount's root. -/
namespace Go.Proofs.YtihdbncoijhihaaGreatDoor

open Go.RowKit

structure Wy (S : Fs) : Prop where
  ud : ∀ a ∈ S.ns, a.kind = 1 → ∃ b, S.get a.up = some b ∧ b.kind = 1
  sd : ∀ a ∈ S.ns, ∀ x ∈ a.ents, ∃ b, S.get x.no = some b ∧ b.dev = a.dev
  mp : ∀ d ∈ S.ds, d.over ≠ 0 → ∃ b, S.get d.over = some b ∧ S.root b.dev ≠ b.no
theorem Sub.up {S S' : Fs} (h : Sub S S') {k : Int} (hk : ∃ b, S.get k = some b ∧ b.kind = 1) : ∃ b, S'.get k = some b ∧ b.kind = 1 := by
  obtain ⟨b, hb, h1⟩ := hk
  obtain ⟨c, hc, e1, -⟩ := h _ _ hb
  exact ⟨c, hc, by rw [e1]; exact h1⟩
theorem Sub.dev {S S' : Fs} (h : Sub S S') {k d : Int} (hk : ∃ b, S.get k = some b ∧ b.dev = d) : ∃ b, S'.get k = some b ∧ b.dev = d := by
  obtain ⟨b, hb, h1⟩ := hk
  obtain ⟨c, hc, -, -, e3, -⟩ := h _ _ hb
  exact ⟨c, hc, by rw [e3]; exact h1⟩
theorem Sub.mp {S S' : Fs} (h : Sub S S') {k : Int} (hk : ∃ b, S.get k = some b ∧ S.root b.dev ≠ b.no) : ∃ b, S'.get k = some b ∧ S'.root b.dev ≠ b.no := by
  obtain ⟨b, hb, h1⟩ := hk
  obtain ⟨c, hc, -, -, e3, e4⟩ := h _ _ hb
  refine ⟨c, hc, ?_⟩
  rw [e3, e4, an_no hc, ← an_no hb]
  exact h1
theorem Wy.set {S : Fs} (h : Wy S) {a b : An} (hb : S.get a.no = some b) (hk : a.kind = b.kind) (hd : a.dev = b.dev) (hu : a.up = b.up) (hr : ∀ x ∈ a.ents, ∃ c, S.get x.no = some c ∧ c.dev = a.dev) : Wy (S.set a) := by
  have hsub : Sub S (S.set a) := fun k c hc => by
    rw [an_set hb]
    by_cases hka : k = a.no
    · rw [if_pos hka]
      rw [hka, hb] at hc
      injection hc with hc
      subst hc
      exact ⟨a, rfl, hk, hu, hd, rfl⟩
    · rw [if_neg hka]
      exact ⟨c, hc, rfl, rfl, rfl, rfl⟩
  refine ⟨fun y hy hyk => ?_, fun y hy x hx => ?_, fun d hd0 ho => hsub.mp (h.mp d hd0 ho)⟩
  · unfold Fs.set at hy
    simp only [List.mem_map] at hy
    obtain ⟨z, hz, rfl⟩ := hy
    split at hyk
    · rename_i he
      rw [if_pos he]
      have := h.ud b (an_mem hb) (by rw [← hk]; exact hyk)
      rw [← hu] at this
      exact hsub.up this
    · rename_i he
      rw [if_neg he]
      exact hsub.up (h.ud z hz hyk)
  · unfold Fs.set at hy
    simp only [List.mem_map] at hy
    obtain ⟨z, hz, rfl⟩ := hy
    split at hx
    · rename_i he
      rw [if_pos he]
      exact hsub.dev (hr x hx)
    · rename_i he
      rw [if_neg he]
      exact hsub.dev (h.sd z hz x hx)
theorem Wy.setDev {S : Fs} (h : Wy S) {d : Int} {v u : Dv} (hv : S.dev d = some v) (hr : u.root = v.root) (ho : u.over = v.over) : Wy (S.setDev d u) := by
  have hsub : Sub S (S.setDev d u) := fun k c hc => ⟨c, hc, rfl, rfl, rfl, setDev_root hv hr _⟩
  refine ⟨h.ud, h.sd, fun e he h0 => ?_⟩
  have hvm : v ∈ S.ds := by
    unfold Fs.dev at hv
    split at hv
    · exact List.mem_of_getElem? hv
    · cases hv
  unfold Fs.setDev at he
  rcases List.mem_or_eq_of_mem_set he with he | rfl
  · exact hsub.mp (h.mp e he h0)
  · rw [ho] at h0 ⊢
    exact hsub.mp (h.mp v hvm h0)
theorem Wy.add {S : Fs} {N : Nat} (hk : FsOk S N) (h : Wy S) {a : An} (he : a.ents = []) (hu : a.kind = 1 → ∃ b, S.get a.up = some b ∧ b.kind = 1) : Wy (S.add a) := by
  have hsub := sub_add hk a
  refine ⟨fun y hy hyk => ?_, fun y hy x hx => ?_, fun d hd0 ho => hsub.mp (h.mp d hd0 ho)⟩
  · rcases List.mem_append.1 hy with hy | hy
    · exact hsub.up (h.ud y hy hyk)
    · simp at hy; subst hy
      exact hsub.up (hu hyk)
  · rcases List.mem_append.1 hy with hy | hy
    · exact hsub.dev (h.sd y hy x hx)
    · simp at hy; subst hy
      rw [show ({ a with no := S.last + 1 } : An).ents = a.ents from rfl, he] at hx
      cases hx
theorem Wy.addRoot {S : Fs} (hn : Nums S) (hdev : ∀ a ∈ S.ns, a.dev ≤ S.ds.length) (h : Wy S) (k b n : Int) (h0 : k ≠ 0 → ∃ b, S.get k = some b ∧ S.root b.dev ≠ b.no) : Wy (S.addRoot k b n) := by
  have hsub : Sub S (S.addRoot k b n) := fun q c hq => by
    refine ⟨c, ?_, rfl, rfl, rfl, addRoot_root S k b n (hdev c (an_mem hq))⟩
    unfold Fs.get Fs.addRoot at *
    simp only [List.find?_append, hq, Option.some_or]
  refine ⟨fun y hy hyk => ?_, fun y hy x hx => ?_, fun d hd0 ho => ?_⟩
  · rcases List.mem_append.1 hy with hy | hy
    · exact hsub.up (h.ud y hy hyk)
    · simp at hy; subst hy
      exact ⟨_, addRoot_get hn k b n, rfl⟩
  · rcases List.mem_append.1 hy with hy | hy
    · exact hsub.dev (h.sd y hy x hx)
    · simp at hy; subst hy
      simp [an0] at hx
  · unfold Fs.addRoot at hd0
    rcases List.mem_append.1 hd0 with hd0 | hd0
    · exact hsub.mp (h.mp d hd0 ho)
    · simp at hd0
      subst hd0
      exact hsub.mp (h0 ho)
theorem Wy.new (b n : Int) : Wy (fs0.addRoot 0 b n) :=
  Wy.addRoot ⟨List.Pairwise.nil, fun x hx => by cases hx⟩ (fun x hx => by cases hx) ⟨fun x hx => (by cases hx), fun x hx => (by cases hx), fun d hd => (by cases hd)⟩ 0 b n (fun h => absurd rfl h)
theorem Wy.make {S : Fs} {N : Nat} (hk : FsOk S N) (h : Wy S) {a : An} (he : a.ents = []) (hu : a.kind = 1 → ∃ b, S.get a.up = some b ∧ b.kind = 1) : Wy (S.make a).1 := by
  unfold Fs.make
  split
  · exact h
  · split
    · exact h
    · rename_i v hv
      simp only
      split
      · have h2 := h.setDev (u := { v with b := v.b + blkI a.kind a.data.size, n := v.n + 1 }) hv rfl rfl
        have hk2 := hk.setDev (u := { v with b := v.b + blkI a.kind a.data.size, n := v.n + 1 }) hv rfl
        exact h2.add hk2 he hu
      · exact h
theorem Wy.touch {S : Fs} (h : Wy S) (now dir : Int) (l : List En) (hl : ∀ d, S.get dir = some d → ∀ x ∈ l, ∃ c, S.get x.no = some c ∧ c.dev = d.dev) : Wy (S.touch now dir l) := by
  unfold Fs.touch
  split
  · exact h
  · rename_i d hd
    exact h.set (b := d) (by show S.get d.no = _; rw [an_no hd]; exact hd) rfl rfl rfl (hl d hd)
theorem put_dev {S : Fs} {l : List En} {q : Int} (h : ∀ x ∈ l, ∃ c, S.get x.no = some c ∧ c.dev = q) {s : ByteArray} {k : Int} (hk : ∃ c, S.get k = some c ∧ c.dev = q) : ∀ x ∈ entPut l s k, ∃ c, S.get x.no = some c ∧ c.dev = q := by
  intro x hx
  unfold entPut at hx
  rcases List.mem_append.1 hx with hx | hx
  · exact h x (List.mem_filter.1 hx).1
  · rcases List.mem_cons.1 hx with rfl | hx
    · exact hk
    · exact h x (List.mem_filter.1 hx).1
theorem Wy.come {S : Fs} {N : Nat} (hk : FsOk S N) (ht : Tr S) (h : Wy S) {a : An} (c : Cr) (now dir : Int) (s : ByteArray) (he : a.ents = []) (hu : a.kind = 1 → a.up = dir) : Wy (S.come c now dir s a).1 := by
  unfold Fs.come
  split
  · exact h
  · rename_i hpl
    obtain ⟨d, hd, hdk, hce⟩ := place_check (by simpa using hpl)
    rw [hd]
    simp only
    split
    · exact h
    · obtain ⟨m1, m2, m3⟩ := ht.make hk (a := { a with dev := d.dev, uid := c.u, gid := c.g, mtime := now, ctime := now, links := 1 }) he
      have hm := h.make hk (a := { a with dev := d.dev, uid := c.u, gid := c.g, mtime := now, ctime := now, links := 1 }) he (fun hq => ⟨d, by rw [show ({ a with dev := d.dev, uid := c.u, gid := c.g, mtime := now, ctime := now, links := 1 } : An).up = dir from hu hq]; exact hd, hdk⟩)
      split
      · exact h
      · rename_i h0
        obtain ⟨e1, e2, e3⟩ := m3 (by simpa using h0)
        refine hm.touch _ _ _ fun d2 hd2 => ?_
        obtain ⟨d3, hd3, -, -, hv3, -⟩ := m2 _ _ hd
        rw [hd2] at hd3
        injection hd3 with hd3
        subst hd3
        rw [e1, hv3]
        exact put_dev (fun x hx => m2.dev (h.sd d (an_mem hd) x hx)) ⟨_, e2, rfl⟩
theorem Wy.mkdir {S : Fs} {N : Nat} (hk : FsOk S N) (ht : Tr S) (h : Wy S) (c : Cr) (now dir : Int) (s : ByteArray) (m : Int) : Wy (S.mkdir c now dir s m).1 := by
  unfold Fs.mkdir
  split
  · exact h
  · exact h.come hk ht c now dir s rfl (fun _ => rfl)
theorem Wy.file {S : Fs} {N : Nat} (hk : FsOk S N) (ht : Tr S) (h : Wy S) (c : Cr) (now dir : Int) (s : ByteArray) (m : Int) (t : ByteArray) : Wy (S.file c now dir s m t).1 := by
  unfold Fs.file
  split
  · exact h
  · split
    · exact h
    · exact h.come hk ht c now dir s rfl (fun hq => absurd hq (by dsimp only; decide))
theorem Wy.sym {S : Fs} {N : Nat} (hk : FsOk S N) (ht : Tr S) (h : Wy S) (c : Cr) (now dir : Int) (s t : ByteArray) : Wy (S.sym c now dir s t).1 := by
  unfold Fs.sym
  split
  · exact h
  · split
    · exact h
    · exact h.come hk ht c now dir s rfl (fun hq => absurd hq (by dsimp only; decide))
theorem Wy.same {S : Fs} (h : Wy S) {n m : An} (hn : S.get n.no = some n) (h0 : m.no = n.no) (h1 : m.kind = n.kind) (h2 : m.dev = n.dev) (h3 : m.up = n.up) (h4 : m.ents = n.ents) : Wy (S.set m) :=
  h.set (b := n) (by rw [h0]; exact hn) h1 h2 h3 (by rw [h2, h4]; exact h.sd n (an_mem hn))
theorem Wy.hard {S : Fs} (h : Wy S) (c : Cr) (now no dir : Int) (s : ByteArray) : Wy (S.hard c now no dir s).1 := by
  unfold Fs.hard
  split
  · exact h
  · rename_i hpl
    obtain ⟨d0, hd0, hdk, hce⟩ := place_check (by simpa using hpl)
    split
    · rename_i d n hd hn
      rw [hd] at hd0
      injection hd0 with hd0
      subst hd0
      split
      · exact h
      · rename_i hnk
        split
        · exact h
        · split
          · exact h
          · rename_i hdv
            split
            · exact h
            · have hs := h.same (m := { n with links := n.links + 1, ctime := now }) (get_self hn) rfl rfl rfl rfl rfl
              have hset : S.get ({ n with links := n.links + 1, ctime := now } : An).no = some n := get_self hn
              have hno := an_no hn
              have hsub : Sub S (S.set { n with links := n.links + 1, ctime := now }) := fun k c hc => by
                rw [an_set hset]
                split
                · rename_i hkn
                  rw [hkn, hset] at hc
                  injection hc with hc
                  subst hc
                  exact ⟨_, rfl, rfl, rfl, rfl, rfl⟩
                · exact ⟨c, hc, rfl, rfl, rfl, rfl⟩
              refine hs.touch _ _ _ fun d2 hd2 => ?_
              obtain ⟨d3, hd3, -, -, hv3, -⟩ := hsub _ _ hd
              rw [hd2] at hd3
              injection hd3 with hd3
              subst hd3
              rw [hv3]
              exact put_dev (fun x hx => hsub.dev (h.sd d (an_mem hd) x hx)) (hsub.dev ⟨n, hn, by simpa using hdv⟩)
    · exact h
theorem Wy.mount {S : Fs} {N : Nat} (hk : FsOk S N) (h : Wy S) (k b n : Int) : Wy (S.mount k b n).1 := by
  unfold Fs.mount
  split
  · exact h
  · rename_i a ha
    split
    · exact h
    · split
      · exact h
      · rename_i hr
        split
        · exact h
        · exact h.addRoot hk.nums (fun a ha => (hk.all a ha).dev.2) k b n (fun _ => ⟨a, ha, by rw [an_no ha]; exact fun e => hr (.inr e)⟩)
theorem Wy.chmod {S : Fs} (h : Wy S) (c : Cr) (now no m : Int) : Wy (S.chmod c now no m).1 := by
  unfold Fs.chmod
  split
  · exact h
  · rename_i n hn
    split
    · exact h
    · split
      · exact h
      · exact h.same (get_self hn) rfl rfl rfl rfl rfl
theorem Wy.chown {S : Fs} (h : Wy S) (c : Cr) (now no u g : Int) : Wy (S.chown c now no u g).1 := by
  unfold Fs.chown
  split
  · exact h
  · rename_i n hn
    split
    · exact h
    · split
      · exact h
      · split
        · exact h
        · exact h.same (get_self hn) rfl rfl rfl rfl rfl
theorem Wy.utime {S : Fs} (h : Wy S) (c : Cr) (now no t : Int) : Wy (S.utime c now no t).1 := by
  unfold Fs.utime
  split
  · exact h
  · rename_i n hn
    split
    · exact h
    · split
      · exact h
      · exact h.same (get_self hn) rfl rfl rfl rfl rfl
theorem Wy.mountF {S : Fs} {N : Nat} (hk : FsOk S N) (ht : Tr S) (h : Wy S) (m : Mt) : Wy (mountF S m) := by
  unfold Go.Proofs.YtihdbncoijhihaaGreatDoor.mountF
  split
  · exact h
  · split
    · have h1 := h.mkdir hk ht c00 0 (S.path c00 m.path false).1.dir (S.path c00 m.path false).1.name 493
      have hk1 := mkdir_ok hk c00 0 (S.path c00 m.path false).1.dir (S.path c00 m.path false).1.name 493
      simp only
      split
      · exact h1
      · exact h1.mount hk1 _ _ _
    · exact h.mount hk _ _ _
theorem Wy.mountsF {S : Fs} {N : Nat} (hk : FsOk S N) (ht : Tr S) (h : Wy S) (l : List Mt) : Wy (mountsF S l) := by
  induction l generalizing S N with
  | nil => exact h
  | cons m l ih =>
    unfold Go.Proofs.YtihdbncoijhihaaGreatDoor.mountsF
    by_cases hm : m.path = topB
    · rw [if_pos hm]; exact ih hk ht h
    · rw [if_neg hm]; exact ih (mountF_ok hk m) (ht.mountF hk m) (h.mountF hk ht m)
theorem Wy.nodeF {S : Fs} {N : Nat} (hk : FsOk S N) (ht : Tr S) (h : Wy S) (it : It) : Wy (nodeF S it).1 := by
  unfold Go.Proofs.YtihdbncoijhihaaGreatDoor.nodeF
  simp only
  split
  · exact h
  · split
    · split <;> exact h
    · split
      · exact h.mkdir hk ht _ _ _ _ _
      · split
        · exact h.file hk ht _ _ _ _ _ _
        · split
          · exact h.sym hk ht _ _ _ _ _
          · split
            · split
              · exact h.hard _ _ _ _ _
              · exact h
            · exact h
theorem Wy.itemF {S : Fs} {N : Nat} (hk : FsOk S N) (ht : Tr S) (h : Wy S) (it : It) : Wy (itemF S it).1 := by
  unfold Go.Proofs.YtihdbncoijhihaaGreatDoor.itemF
  have h1 := h.nodeF hk ht it
  simp only
  split
  · exact (h1.chown _ _ _ _ _).chmod _ _ _ _
  · exact h1
theorem Wy.itemsF {S : Fs} {N : Nat} (hk : FsOk S N) (ht : Tr S) (h : Wy S) (l : List It) : Wy (itemsF S l).1 := by
  induction l generalizing S N with
  | nil => exact h
  | cons x l ih => exact ih (itemF_ok2 hk x) (ht.itemF hk x) (h.itemF hk ht x)
theorem Wy.timesF {S : Fs} (h : Wy S) (l : List (It × Int)) : Wy (timesF S l) := by
  induction l generalizing S with
  | nil => exact h
  | cons x l ih =>
    unfold Go.Proofs.YtihdbncoijhihaaGreatDoor.timesF
    refine ih ?_
    split
    · exact h.utime _ _ _ _
    · exact h
theorem plant_wy (ms : List Mt) (is : List It) : Wy (plantF ms is) := by
  unfold plantF
  simp only
  have hk := FsOk.new (limitsF ms).1 (limitsF ms).2
  exact Wy.timesF (Wy.itemsF (mountsF_ok hk ms) (Tr.mountsF hk (Tr.new _ _) ms) (Wy.mountsF hk (Tr.new _ _) (Wy.new _ _) ms) is) _
end Go.Proofs.YtihdbncoijhihaaGreatDoor

/- The way to each row of a planted tree, purely. -/
namespace Go.Proofs.YtihdbncoijhihaaGreatDoor

open Go.RowKit

inductive Way (S : Fs) : List (List UInt8) → Int → Prop
  | top : Way S [] 1
  | down {ns : List (List UInt8)} {d : Int} {a : An} {e : En} (h : Way S ns d) (hg : S.get d = some a) (he : e ∈ a.ents) : Way S (ns ++ [e.name.data.toList]) (S.over e.no)
structure Grown (S : Fs) (N : Nat) : Prop where
  ok : FsOk S N
  pl : Pl S
  tr : Tr S
  nm : Nm S
  wy : Wy S
section

variable {S : Fs} {N : Nat}

theorem one_dev (h : Grown S N) {a : An} (ha : S.get 1 = some a) : a.dev = 1 ∧ S.root a.dev = a.no := by
  have hd1 : 0 < S.ds.length := h.ok.d1
  obtain ⟨r, h1, h2, h3⟩ := h.tr.rts 0 h.ok.d1
  obtain ⟨-, h4⟩ := dev_at (S := S) (i := 0) h.ok.d1
  have h5 : S.root 1 = S.ds[0].root := h4
  rw [← h5, h.pl.top, ha] at h1
  injection h1 with h1
  subst h1
  have h6 : a.dev = 1 := by omega
  exact ⟨h6, by rw [h6, h.pl.top, an_no ha]⟩
theorem over_cases (S : Fs) (k : Int) : S.over k = k ∨ ∃ (i : Nat) (hi : i < S.ds.length), S.ds[i].over = k ∧ k ≠ 0 ∧ S.over k = S.ds[i].root := by
  unfold Fs.over
  split
  · rename_i hk
    split
    · rename_i d hd
      obtain ⟨i, hi, hid⟩ := List.mem_iff_getElem.1 (List.mem_of_find?_eq_some hd)
      subst hid
      refine .inr ⟨i, hi, by simpa using List.find?_some hd, by omega, rfl⟩
    · exact .inl rfl
  · exact .inl rfl
theorem over_one (h : Grown S N) : S.over 1 = 1 := by
  rcases over_cases S 1 with h1 | ⟨i, hi, h2, -, -⟩
  · exact h1
  · obtain ⟨b, hb, hr⟩ := h.wy.mp S.ds[i] (List.getElem_mem hi) (by rw [h2]; decide)
    rw [h2] at hb
    exact absurd (one_dev h hb).2 hr
theorem dir_of_ents (h : Grown S N) {d : Int} {a : An} (hg : S.get d = some a) {e : En} (he : e ∈ a.ents) : a.kind = 1 := by
  by_cases hk : a.kind = 1
  · exact hk
  · rw [h.tr.leaf a (an_mem hg) hk] at he
    cases he
theorem entFind_mem {l : List En} (h : Rise l) {e : En} (he : e ∈ l) : entFind l e.name = e.no := by
  induction l with
  | nil => cases he
  | cons y l ih =>
    unfold Rise at h
    rw [List.pairwise_cons] at h
    unfold entFind
    rw [List.find?_cons]
    by_cases hy : y.name = e.name
    · rw [show decide (y.name = e.name) = true by simpa using hy]
      rcases List.mem_cons.1 he with rfl | he
      · rfl
      · have := h.1 e he
        rw [hy, ltB_irrefl] at this
        cases this
    · rw [show decide (y.name = e.name) = false by simpa using hy]
      rcases List.mem_cons.1 he with rfl | he
      · exact absurd rfl hy
      · exact ih h.2 he
theorem entName_mem2 {l : List En} (h : l.Pairwise (fun x y => x.no = y.no → ∀ b, S.get x.no = some b → b.kind ≠ 1)) {e : En} (he : e ∈ l) {b : An} (hb : S.get e.no = some b) (hk : b.kind = 1) : entName l e.no = some e.name := by
  induction l with
  | nil => cases he
  | cons y l ih =>
    rw [List.pairwise_cons] at h
    rw [entName_cons]
    rcases List.mem_cons.1 he with rfl | he
    · rw [if_pos rfl]
    · rw [if_neg (fun hy => h.1 e he hy b (by rw [hy]; exact hb) hk)]
      exact ih h.2 he
theorem nm_good (h : Grown S N) {d : Int} {a : An} (hg : S.get d = some a) {e : En} (he : e ∈ a.ents) : GoodN e.name.data.toList ∧ e.name.size ≤ 255 := by
  have hc := h.nm a (an_mem hg) e he
  refine ⟨good_of hc, ?_⟩
  unfold checkE at hc
  split at hc
  · cases hc
  · split at hc
    · cases hc
    · omega
theorem way_good (h : Grown S N) {ns : List (List UInt8)} {no : Int} (hw : Way S ns no) : ∀ p ∈ ns, GoodN p := by
  induction hw with
  | top => intro p hp; cases hp
  | down _ hg he ih =>
    intro p hp
    rcases List.mem_append.1 hp with hp | hp
    · exact ih p hp
    · simp at hp
      subst hp
      exact (nm_good h hg he).1
theorem step_way (h : Grown S N) {d : Int} {a : An} (hg : S.get d = some a) {e : En} (he : e ∈ a.ents) (g : Int) : S.step ⟨0, g⟩ d e.name.data.toList = (S.over e.no, 0) := by
  obtain ⟨hgd, hsz⟩ := nm_good h hg he
  have hl : e.name.data.toList.length = e.name.size := Array.length_toList
  unfold Fs.step
  rw [hg]
  simp only
  rw [if_neg (fun h1 => h1 (dir_of_ents h hg he)), if_neg (show ¬ (a.may ⟨0, g⟩ 1 = false) by unfold An.may permB; simp), if_neg hgd.n2, if_neg (by omega), str_of, entFind_mem (h.ok.get hg).1.rise he]
theorem seek_way (h : Grown S N) {ns : List (List UInt8)} {d : Int} (hw : Way S ns d) : ∀ {a : An}, S.get d = some a → a.kind = 1 → ∀ (rest : List (List UInt8)), rest ≠ [] → ∀ (g : Int) (f : Bool) (k : Option (Int → Bool → List (List UInt8) → Fd × Int)) (must : Bool),
    S.seekL ⟨0, g⟩ f k (ns ++ rest) 1 must = S.seekL ⟨0, g⟩ f k rest d must := by
  induction hw with
  | top => intros; rfl
  | @down ns d0 a0 e hw0 hg he ih =>
    intro a ha hk rest hr g f k must
    rw [List.append_assoc, ih hg (dir_of_ents h hg he) _ (by simp) g f k must]
    obtain ⟨hgd, hsz⟩ := nm_good h hg he
    rw [List.singleton_append]
    rw [Fs.seekL]
    (try simp only)
    rw [step_way h hg he, if_neg (fun h1 => h1 rfl), if_neg hgd.n2, ha]
    (try simp only)
    rw [if_neg (fun h1 => by rw [hk] at h1; exact absurd h1.1 (by decide)), if_neg (fun h1 => h1.1 hk), if_neg hr]
theorem pth_mem {ns : List (List UInt8)} : ∀ z ∈ pthL ns, z = 47 ∨ ∃ p ∈ ns, z ∈ p := by
  refine snoc_ind (P := fun ns => ∀ z ∈ pthL ns, z = 47 ∨ ∃ p ∈ ns, z ∈ p) (fun z hz => ?_) (fun l x ih z hz => ?_) ns
  · rw [show pthL [] = [47] from rfl] at hz
    exact .inl (by simpa using hz)
  · rw [pthL_snoc] at hz
    rcases List.mem_append.1 hz with hz | hz
    · split at hz
      · cases hz
      · rcases ih z hz with h1 | ⟨p, h1, h2⟩
        · exact .inl h1
        · exact .inr ⟨p, List.mem_append_left _ h1, h2⟩
    · rcases List.mem_cons.1 hz with rfl | hz
      · exact .inl rfl
      · exact .inr ⟨x, by simp, hz⟩
theorem good_zero {p : List UInt8} (h : GoodN p) : (0 : UInt8) ∉ p := fun h0 => by
  have hc := h.chk
  unfold checkE at hc
  rw [str_list] at hc
  rw [if_pos (.inr (.inr (.inr (.inr h0))))] at hc
  cases hc
theorem segL_pth (ns : List (List UInt8)) {x : List UInt8} (hx : GoodN x) : segL (pthL (ns ++ [x])) = x := by
  rw [pthL_snoc, show ∀ l : List UInt8, l ++ 47 :: x = (l ++ [47]) ++ x by simp, segL_app _ _ hx.no, segL_snoc, if_pos rfl, List.nil_append]
theorem pathE_pth {ns : List (List UInt8)} (h : ∀ p ∈ ns, GoodN p) (hs : (pth ns).size ≤ 4096) : pathE (pth ns) = 0 := by
  have h0 : (pth ns).data.toList = pthL ns := str_list _
  unfold pathE
  rw [h0, if_neg (by unfold pthL; simp), if_neg, if_neg (by omega)]
  rintro (h1 | h1)
  · exact h1 (by unfold pthL; rfl)
  · rcases pth_mem _ h1 with h2 | ⟨p, hp, h2⟩
    · cases h2
    · exact good_zero (h p hp) h2
theorem lastL_pth {ns : List (List UInt8)} {x : List UInt8} (h : ∀ p ∈ ns ++ [x], GoodN p) : lastL (pth (ns ++ [x])).data.toList = x := by
  have hx := h x (by simp)
  have h0 : (pth (ns ++ [x])).data.toList = pthL (ns ++ [x]) := str_list _
  have ht : trimL (pthL (ns ++ [x])) = pthL (ns ++ [x]) := by rw [pthL_trim h, if_neg (by simp)]
  unfold lastL
  rw [h0, ht, segL_pth ns hx, if_neg]
  rintro (h1 | h1)
  · exact hx.n1 h1
  · exact hx.n2 h1
theorem path_way (h : Grown S N) {ns : List (List UInt8)} {d : Int} {a : An} {e : En} {n : An} (hw : Way S ns d) (hg : S.get d = some a) (he : e ∈ a.ents) (hn : S.get (S.over e.no) = some n) (hs : (pth (ns ++ [e.name.data.toList])).size ≤ 4096) (g : Int) :
    S.path ⟨0, g⟩ (pth (ns ++ [e.name.data.toList])) false = (⟨d, e.name, S.over e.no, false⟩, 0) := by
  have hgd := way_good h (Way.down hw hg he)
  have hx := hgd e.name.data.toList (by simp)
  have h0 : (pth (ns ++ [e.name.data.toList])).data.toList = pthL (ns ++ [e.name.data.toList]) := str_list _
  have hsl : ∀ x, GoodN x → slashB (pthL (ns ++ [x])) = false := by
    intro x hx
    unfold slashB
    rw [segL_pth ns hx]
    simp [hx.ne, hx.n1, hx.n2]
  unfold Fs.path
  rw [pathE_pth hgd hs, if_neg (fun h => h rfl), h0, hsl _ hx, parts_pth hgd, Fs.seekH, seek_way h hw hg (dir_of_ents h hg he) _ (by simp), Fs.seekL]
  (try simp only)
  rw [step_way h hg he]
  (try simp only)
  rw [if_neg (fun h1 => h1 rfl), if_neg hx.n2, hn]
  (try simp only)
  rw [if_neg (by simp), if_neg (by simp), if_pos trivial, str_of]
end

end Go.Proofs.YtihdbncoijhihaaGreatDoor

/- Where rows of a planted tree lie, purely. -/
namespace Go.Proofs.YtihdbncoijhihaaGreatDoor

open Go.RowKit

section

variable {S : Fs} {N : Nat}

theorem pthL_flat {ns : List (List UInt8)} (hn : ns ≠ []) : pthL ns = ns.flatMap (47 :: ·) := by
  have key : ∀ ns : List (List UInt8), (if ns = [] then [] else pthL ns) = ns.flatMap (47 :: ·) := by
    intro ns
    refine snoc_ind (P := fun ns => (if ns = [] then [] else pthL ns) = ns.flatMap (47 :: ·)) rfl (fun l x ih => ?_) ns
    rw [if_neg (by simp), pthL_snoc, ih, List.flatMap_append]
    simp
  have := key ns
  rwa [if_neg hn] at this
theorem whereN_way (h : Grown S N) {ns : List (List UInt8)} {no : Int} (hw : Way S ns no) : S.isDir no = true → ∀ (n : Nat) (s : ByteArray), no.toNat ≤ n →
    S.whereN n no s = some (if ns.flatMap (47 :: ·) ++ s.data.toList = [] then topB else str (ns.flatMap (47 :: ·) ++ s.data.toList)) := by
  induction hw with
  | top =>
    intro _ n s hn
    obtain ⟨m, rfl⟩ : ∃ m, n = m + 1 := ⟨n - 1, by have : (1 : Int).toNat = 1 := rfl; omega⟩
    rw [Fs.whereN, if_pos rfl]
    have hl : s.data.toList.length = s.size := Array.length_toList
    by_cases h0 : s.size = 0
    · rw [if_pos h0, if_pos]
      rw [List.flatMap_nil, List.nil_append]
      exact List.eq_nil_of_length_eq_zero (by omega)
    · rw [if_neg h0, if_neg]
      · rw [List.flatMap_nil, List.nil_append, str_of]
      · rw [List.flatMap_nil, List.nil_append]
        intro h1
        rw [h1] at hl
        exact h0 hl.symm
  | @down ns d a e hw0 hg he ih =>
    intro hd n s hn
    have hno := an_no hg
    obtain ⟨k1, k2, k3, k4⟩ := kid_of h.ok h.pl h.tr (an_mem hg) he hd
    rw [hno] at k1 k2
    have hd1 := (h.ok.get hg).2.2.1
    obtain ⟨m, rfl⟩ : ∃ m, n = m + 1 := ⟨n - 1, by omega⟩
    obtain ⟨b, hb, hbk⟩ := isDir_some k4
    have hrow := (h.tr.row a (an_mem hg)).once
    rw [Fs.whereN, if_neg (by omega), k1, k3, show S.entsOf d = a.ents by unfold Fs.entsOf; rw [hg], entName_mem2 hrow he hb hbk]
    simp only
    rw [ih (isDir_of hg (dir_of_ents h hg he)) m _ (by omega)]
    have e1 : (topB ++ e.name ++ s).data.toList = 47 :: (e.name.data.toList ++ s.data.toList) := by
      simp [topB]
    rw [e1, List.flatMap_append]
    simp
theorem place_way (h : Grown S N) {ns : List (List UInt8)} {no : Int} (hw : Way S ns no) (hd : S.isDir no = true) : S.place_ no = some (pth ns) := by
  obtain ⟨n, hn, -⟩ := isDir_some hd
  have h1 := get_low h.ok.nums hn
  have h2 := h.pl.len
  unfold Fs.place_
  rw [whereN_way h hw hd _ _ (by omega)]
  have h0 : ByteArray.empty.data.toList = [] := rfl
  rw [h0, List.append_nil]
  by_cases hns : ns = []
  · subst hns; rfl
  · rw [← pthL_flat hns, if_neg (by unfold pthL; simp)]
    rfl
theorem root_dir (h : Grown S N) {a : An} (ha : a ∈ S.ns) : S.isDir (S.root a.dev) = true := by
  have hd := (h.ok.all a ha).dev
  obtain ⟨-, h2⟩ := dev_at (S := S) (i := (a.dev - 1).toNat) (by omega)
  obtain ⟨r, h3, h4, -⟩ := h.tr.rts (a.dev - 1).toNat (by omega)
  rw [show (((a.dev - 1).toNat : Nat) : Int) + 1 = a.dev by omega] at h2
  rw [h2]
  exact isDir_of h3 h4
theorem root_way (h : Grown S N) {ns : List (List UInt8)} {no : Int} (hw : Way S ns no) : ∀ {n : An}, S.get no = some n → ∃ q, q <+: ns ∧ Way S q (S.root n.dev) := by
  induction hw with
  | top =>
    intro n hn
    refine ⟨[], List.prefix_refl _, ?_⟩
    rw [(one_dev h hn).2, an_no hn]
    exact Way.top
  | @down ns d a e hw0 hg he ih =>
    intro n hn
    rcases over_cases S e.no with h1 | ⟨i, hi, h2, h3, h4⟩
    · obtain ⟨b, hb, hbd⟩ := h.wy.sd a (an_mem hg) e he
      rw [h1, hb] at hn
      injection hn with hn
      subst hn
      obtain ⟨q, hq, hw⟩ := ih hg
      exact ⟨q, hq.trans (List.prefix_append _ _), by rw [hbd]; exact hw⟩
    · obtain ⟨r, g1, g2, g3⟩ := h.tr.rts i hi
      rw [← h4, hn] at g1
      injection g1 with g1
      subst g1
      refine ⟨_, List.prefix_refl _, ?_⟩
      obtain ⟨-, g4⟩ := dev_at hi
      rw [g3, g4, ← h4]
      exact Way.down hw0 hg he
theorem inside_way {q ns : List (List UInt8)} (hq : q <+: ns) (hg : ∀ p ∈ ns, GoodN p) : insideB (pth q) (pth ns) = true := by
  obtain ⟨t, rfl⟩ := hq
  unfold insideB
  by_cases ht : t = []
  · subst ht
    rw [List.append_nil]
    simp
  · have h1 : (pth q).data.toList = pthL q := str_list _
    have h2 : (pth (q ++ t)).data.toList = pthL (q ++ t) := str_list _
    have h3 : trimL (pthL q) = q.flatMap (47 :: ·) := by
      rw [pthL_trim (fun p hp => hg p (List.mem_append_left _ hp))]
      split
      · rename_i h; subst h; rfl
      · rename_i h; exact pthL_flat h
    obtain ⟨x, t', rfl⟩ : ∃ x t', t = x :: t' := by
      cases t with
      | nil => exact absurd rfl ht
      | cons x t' => exact ⟨x, t', rfl⟩
    rw [h1, h2, h3, pthL_flat (by simp), List.flatMap_append, List.flatMap_cons, Bool.or_eq_true]
    right
    rw [← Lib.hasPrefix_of_take]
    have h4 : ∀ A B : List UInt8, A ++ (47 :: x ++ B) = (A ++ [47]) ++ (x ++ B) := by simp
    rw [h4, List.take_left']
    · simp
    · simp
theorem above_dir (h : Grown S N) {x : Int} (hx : S.isDir x = true) : S.above x = 0 ∨ S.isDir (S.above x) = true := by
  obtain ⟨a, ha, hk⟩ := isDir_some hx
  have hud : ∀ {k : Int} {a : An}, S.get k = some a → a.kind = 1 → S.isDir a.up = true := fun hg hk => by
    obtain ⟨b, hb, hbk⟩ := h.wy.ud _ (an_mem hg) hk
    exact isDir_of hb hbk
  unfold Fs.above
  rw [ha]
  simp only
  rw [if_neg (by simpa using hk)]
  split
  · rename_i hr
    split
    · exact .inl rfl
    · rename_i v hv
      cases hg : S.get v.over with
      | none => exact .inl rfl
      | some b =>
        right
        simp only
        have hvm : ∃ i, ∃ hi : i < S.ds.length, 1 ≤ i ∧ S.ds[i] = v := by
          unfold Fs.dev at hv
          split at hv
          · obtain ⟨hi, hv⟩ := List.getElem?_eq_some_iff.1 hv
            exact ⟨_, hi, by omega, hv⟩
          · cases hv
        obtain ⟨i, hi, h1, rfl⟩ := hvm
        obtain ⟨b2, hb2, hbk, -⟩ := h.pl.over i hi h1
        rw [hg] at hb2
        injection hb2 with hb2
        subst hb2
        exact hud hg hbk
  · exact .inr (hud ha hk)
theorem within_zero2 (S : Fs) (base : Int) (n : Nat) : S.withinN base n 0 = false := by
  cases n with
  | zero => rfl
  | succ n => rw [Fs.withinN, if_pos rfl]
theorem within_dir (h : Grown S N) {base : Int} : ∀ (n : Nat) {x : Int}, S.isDir x = true → S.withinN base n x = true → S.isDir base = true
  | 0, _, _, hw => by cases hw
  | n + 1, x, hx, hw => by
    rw [Fs.withinN] at hw
    by_cases h0 : x = 0
    · rw [if_pos h0] at hw; cases hw
    · rw [if_neg h0] at hw
      by_cases h1 : x = base
      · rw [← h1]; exact hx
      · rw [if_neg h1] at hw
        rcases above_dir h hx with h2 | h2
        · rw [h2, within_zero2] at hw; cases hw
        · exact within_dir h n h2 hw
theorem busy_dir (h : Grown S N) {no : Int} (hb : S.busy no = true) : S.isDir no = true ∧ 2 ≤ S.ds.length := by
  unfold Fs.busy at hb
  rw [List.any_eq_true] at hb
  obtain ⟨d, hd, hw⟩ := hb
  obtain ⟨i, hi, hid⟩ := List.mem_iff_getElem.1 hd
  rw [List.length_drop] at hi
  rw [List.getElem_drop] at hid
  obtain ⟨b, hb2, hbk, -⟩ := h.pl.over (1 + i) (by omega) (by omega)
  rw [hid] at hb2
  exact ⟨within_dir h _ (isDir_of hb2 hbk) hw, by omega⟩
theorem isRoot_dir (h : Grown S N) {d : Int} {a : An} {e : En} (hg : S.get d = some a) (he : e ∈ a.ents) (hr : S.isRoot (S.over e.no) = true) : S.isDir (S.over e.no) = true ∧ 2 ≤ S.ds.length := by
  unfold Fs.isRoot at hr
  cases hn : S.get (S.over e.no) with
  | none => rw [hn] at hr; cases hr
  | some n =>
    rw [hn] at hr
    have hr : S.root n.dev = S.over e.no := by simpa using hr
    have hd := root_dir h (an_mem hn)
    rw [hr] at hd
    refine ⟨hd, ?_⟩
    rcases Nat.lt_or_ge 1 S.ds.length with h2 | h2
    · exact h2
    · exfalso
      have hd1 := h.ok.d1
      rcases over_cases S e.no with h1 | ⟨i, hi, h3, h4, h5⟩
      · obtain ⟨b, hb, hbu⟩ := (h.tr.row a (an_mem hg)).down e he
        rw [h1, hb] at hn
        injection hn with hn
        subst hn
        obtain ⟨b2, hb2, hbk⟩ := isDir_some hd
        rw [h1, hb] at hb2
        injection hb2 with hb2
        subst hb2
        refine (hbu hbk).2 ?_
        rw [hr, h1, an_no hb]
      · have hi0 : i = 0 := by omega
        subst hi0
        exact h4 ((h.tr.zero S.ds[0] (List.getElem?_eq_getElem hi)).symm ▸ h3.symm)
end

end Go.Proofs.YtihdbncoijhihaaGreatDoor
