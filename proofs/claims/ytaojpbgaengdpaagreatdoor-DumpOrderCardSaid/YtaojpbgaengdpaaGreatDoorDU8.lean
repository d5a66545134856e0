/- Texts of the proof, part 8. -/
import Derived.Test.YtaojpbgaengdpaaGreatDoorDU7
import Derived.Test.YtaojpbgaengdpaaGreatDoorDU2
set_option linter.unusedVariables false
set_option linter.unusedSimpArgs false
/- Rows of a tree (layer 23), purely. -/
namespace Go.Proofs.YtaojpbgaengdpaaGreatDoor

open Go.RowKit

structure Rw where
  path : ByteArray
  kind : Int
  mode : Int
  uid : Int
  gid : Int
  mtime : Int
  ctime : Int
  dev : Int
  first : Int
  data : ByteArray
  deriving DecidableEq
def belowB (s n : ByteArray) : ByteArray := str (trimL s.data.toList ++ 47 :: n.data.toList)
def An.rw (n : An) (p : ByteArray) (first : Int) : Rw := ⟨p, n.kind, n.mode, n.uid, n.gid, n.mtime, n.ctime, n.dev, first, n.data⟩
def kidsL (p : ByteArray) (n : An) : List En := n.ents.map fun e => ⟨belowB p e.name, e.no⟩
/-- the rows: `f` steps. -/
def Fs.rowsN (S : Fs) : Nat → List En → List Int → List Rw → List Rw
  | 0, _, _, out => out
  | _ + 1, [], _, out => out
  | f + 1, x :: todo, nos, out =>
    match S.get (S.over x.no) with
    | none => S.rowsN f todo nos out
    | some n => S.rowsN f (kidsL x.name n ++ todo) (nos ++ [n.no]) (out ++ [n.rw x.name (nos.idxOf n.no)])
def Fs.rowsF (S : Fs) (N : Nat) : Nat := 1 + (N + 1) * S.ns.length
def Fs.rows (S : Fs) (N : Nat) (no : Int) (p : ByteArray) : List Rw := S.rowsN (S.rowsF N) [⟨p, no⟩] [] []
theorem rows_nil (S : Fs) (f : Nat) (nos : List Int) (out : List Rw) : S.rowsN f [] nos out = out := by cases f <;> rfl
theorem rows_none {S : Fs} {x : En} (h : S.get (S.over x.no) = none) (f : Nat) (todo : List En) (nos : List Int) (out : List Rw) : S.rowsN (f + 1) (x :: todo) nos out = S.rowsN f todo nos out := by
  rw [Fs.rowsN, h]
theorem rows_some {S : Fs} {x : En} {n : An} (h : S.get (S.over x.no) = some n) (f : Nat) (todo : List En) (nos : List Int) (out : List Rw) : S.rowsN (f + 1) (x :: todo) nos out = S.rowsN f (kidsL x.name n ++ todo) (nos ++ [n.no]) (out ++ [n.rw x.name (nos.idxOf n.no)]) := by
  rw [Fs.rowsN, h]
theorem below_size (s n : ByteArray) : (belowB s n).size ≤ s.size + n.size + 1 := by
  unfold belowB
  rw [str_size, List.length_append, List.length_cons]
  have h1 := trimL_len s.data.toList
  have h2 : s.data.toList.length = s.size := Array.length_toList
  have h3 : n.data.toList.length = n.size := Array.length_toList
  omega
def Fs.isDir (S : Fs) (k : Int) : Bool := match S.get k with | some n => n.kind == 1 | none => false
theorem isDir_some {S : Fs} {k : Int} (h : S.isDir k = true) : ∃ n, S.get k = some n ∧ n.kind = 1 := by
  unfold Fs.isDir at h
  split at h
  · rename_i n hn
    exact ⟨n, hn, by simpa using h⟩
  · cases h
theorem isDir_of {S : Fs} {k : Int} {n : An} (h : S.get k = some n) (hk : n.kind = 1) : S.isDir k = true := by
  unfold Fs.isDir
  rw [h]
  simpa using hk
theorem isDir_not {S : Fs} {k : Int} {n : An} (h : S.get k = some n) (hk : n.kind ≠ 1) : S.isDir k = false := by
  unfold Fs.isDir
  rw [h]
  simpa using hk
theorem dev_at {S : Fs} {i : Nat} (hi : i < S.ds.length) : S.dev ((i : Int) + 1) = some S.ds[i] ∧ S.root ((i : Int) + 1) = S.ds[i].root := by
  refine ⟨?_, ?_⟩
  · unfold Fs.dev
    rw [if_pos (by omega), show ((i : Int) + 1 - 1).toNat = i by omega, List.getElem?_eq_getElem hi]
  · unfold Fs.root
    rw [if_pos ⟨by omega, by omega⟩, show ((i : Int) + 1 - 1).toNat = i by omega, List.getElem?_eq_getElem hi]
/-- what stands in a directory: a directory there lies right below it. -/
theorem kid_of {S : Fs} {N : Nat} (hk : FsOk S N) (hp : Pl S) (ht : Tr S) {n : An} (hn : n ∈ S.ns) {e : En} (he : e ∈ n.ents) (hd : S.isDir (S.over e.no) = true) :
    S.above (S.over e.no) = n.no ∧ n.no < S.over e.no ∧ S.child (S.over e.no) = e.no ∧ S.isDir e.no = true := by
  have hnz : 1 ≤ e.no := (hk.all n hn).nz e he
  obtain ⟨b, hb, hb1⟩ := (ht.row n hn).down e he
  obtain ⟨r, hr, hr1⟩ := isDir_some hd
  have ho : S.over e.no = match S.ds.find? (fun d => d.over == e.no) with | some d => d.root | none => e.no := by
    unfold Fs.over
    rw [if_pos (by omega)]
    rfl
  cases hf : S.ds.find? (fun d => d.over == e.no) with
  | none =>
    rw [hf] at ho
    simp only at ho
    rw [ho] at hr ⊢
    rw [hb] at hr
    injection hr with hr
    subst hr
    obtain ⟨h1, h2⟩ := hb1 hr1
    have hbn := an_no hb
    have hup := hp.up b (an_mem hb) hr1
    refine ⟨?_, ?_, ?_, isDir_of hb hr1⟩
    · unfold Fs.above
      rw [hb]
      simp only
      rw [if_neg (by simpa using hr1), if_neg (fun h => h2 (by rw [hbn]; exact h.1))]
      exact h1
    · rcases hup with h | h
      · exact absurd h.1 h2
      · omega
    · unfold Fs.child
      rw [hb]
      simp only
      rw [if_neg (fun h => h2 (by rw [hbn]; exact h.1))]
  | some d =>
    rw [hf] at ho
    simp only at ho
    have hdo : d.over = e.no := by simpa using List.find?_some hf
    obtain ⟨i, hi, hid⟩ := List.mem_iff_getElem.1 (List.mem_of_find?_eq_some hf)
    subst hid
    have hi1 : 1 ≤ i := by
      rcases Nat.eq_zero_or_pos i with h0 | h0
      · subst h0
        have := ht.zero S.ds[0] (List.getElem?_eq_getElem hi)
        omega
      · exact h0
    obtain ⟨b2, hb2, hbk, hlt⟩ := hp.over i hi hi1
    rw [hdo, hb] at hb2
    injection hb2 with hb2
    subst hb2
    obtain ⟨h1, h2⟩ := hb1 hbk
    obtain ⟨r2, hr2, hr2k, hr2d⟩ := ht.rts i hi
    obtain ⟨d1, d2⟩ := dev_at hi
    have hbn := an_no hb
    have hup := hp.up b (an_mem hb) hbk
    rw [ho]
    refine ⟨?_, ?_, ?_, isDir_of hb hbk⟩
    · unfold Fs.above
      rw [hr2]
      simp only
      rw [if_neg (by simpa using hr2k), hr2d, if_pos ⟨d2, by omega⟩, d1]
      simp only
      rw [hdo, hb]
      exact h1
    · rcases hup with h | h
      · exact absurd h.1 h2
      · omega
    · unfold Fs.child
      rw [hr2]
      simp only
      rw [hr2d, if_pos ⟨d2, by omega⟩, d1]
      exact hdo
def Fs.dirsT (S : Fs) (l : List En) : List Int := (l.map fun x => S.over x.no).filter S.isDir
theorem dirsT_append (S : Fs) (a b : List En) : S.dirsT (a ++ b) = S.dirsT a ++ S.dirsT b := by
  unfold Fs.dirsT
  rw [List.map_append, List.filter_append]
theorem mem_kids {S : Fs} {p : ByteArray} {n : An} {c : Int} (h : c ∈ S.dirsT (kidsL p n)) : ∃ e ∈ n.ents, S.over e.no = c ∧ S.isDir c = true := by
  unfold Fs.dirsT kidsL at h
  rw [List.map_map] at h
  obtain ⟨h1, h2⟩ := List.mem_filter.1 h
  obtain ⟨e, he, rfl⟩ := List.mem_map.1 h1
  exact ⟨e, he, rfl, h2⟩
theorem kids_nodup {S : Fs} {N : Nat} (hk : FsOk S N) (hp : Pl S) (ht : Tr S) {n : An} (hn : n ∈ S.ns) (p : ByteArray) : (S.dirsT (kidsL p n)).Nodup := by
  unfold Fs.dirsT kidsL
  rw [List.map_map, List.Nodup, List.pairwise_filter, List.pairwise_map]
  have h1 : ∀ (l : List En), (∀ x ∈ l, x ∈ n.ents) → l.Pairwise (fun x y => x.no = y.no → ∀ b, S.get x.no = some b → b.kind ≠ 1) → l.Pairwise (fun x y => S.isDir (S.over x.no) = true → S.isDir (S.over y.no) = true → S.over x.no ≠ S.over y.no) := by
    intro l
    induction l with
    | nil => intro _ _; exact List.Pairwise.nil
    | cons x l ih =>
      intro hm hl
      rw [List.pairwise_cons] at hl ⊢
      refine ⟨fun y hy hx1 hy1 he => ?_, ih (fun z hz => hm z (List.mem_cons_of_mem _ hz)) hl.2⟩
      obtain ⟨-, -, c1, i1⟩ := kid_of hk hp ht hn (hm x List.mem_cons_self) hx1
      obtain ⟨-, -, c2, -⟩ := kid_of hk hp ht hn (hm y (List.mem_cons_of_mem _ hy)) hy1
      rw [he, c2] at c1
      obtain ⟨b, hb, hb1⟩ := isDir_some i1
      exact hl.1 y hy c1.symm b hb hb1
  exact h1 n.ents (fun x hx => hx) (ht.row n hn).once
theorem nodup_len : ∀ (l m : List Int), l.Nodup → (∀ c ∈ l, c ∈ m) → l.length ≤ m.length := by
  intro l
  induction l with
  | nil => intro m _ _; exact Nat.zero_le _
  | cons c l ih =>
    intro m hl hm
    rw [List.nodup_cons] at hl
    have h1 := ih (m.erase c) hl.2 (fun d hd => by
      have hdc : d ≠ c := by rintro rfl; exact hl.1 hd
      exact (List.mem_erase_of_ne hdc).2 (hm d (List.mem_cons_of_mem _ hd)))
    have h2 := hm c List.mem_cons_self
    rw [List.length_erase_of_mem h2] at h1
    have h3 := List.length_pos_of_mem h2
    rw [List.length_cons]
    omega
/-- between the steps. -/
structure TrSt (S : Fs) (N : Nat) (s0 : Int) (B : Nat) (todo : List En) (nos : List Int) (f : Nat) : Prop where
  nodup : (S.dirsT todo ++ nos.filter S.isDir).Nodup
  src : ∀ c ∈ S.dirsT todo ++ nos.filter S.isDir, c = s0 ∨ S.above c ∈ nos.filter S.isDir
  low : ∀ c ∈ S.dirsT todo ++ nos.filter S.isDir, s0 ≤ c
  fuel : todo.length + (N + 1) * (S.ns.length - (nos.filter S.isDir).length) ≤ f
  size : ∀ x ∈ todo, x.name.size ≤ B + 256 * (if S.isDir (S.over x.no) then (S.over x.no).toNat else S.last.toNat + 1)
theorem TrSt.start (S : Fs) (N : Nat) (no : Int) (p : ByteArray) : TrSt S N (S.over no) p.size [⟨p, no⟩] [] (S.rowsF N) := by
  have h1 : ∀ c ∈ S.dirsT [⟨p, no⟩] ++ ([] : List Int).filter S.isDir, c = S.over no := fun c hc => by
    simp only [List.filter_nil, List.append_nil] at hc
    unfold Fs.dirsT at hc
    simpa using (List.mem_filter.1 hc).1
  refine ⟨?_, fun c hc => .inl (h1 c hc), fun c hc => by rw [h1 c hc]; exact Int.le_refl _, ?_, fun x hx => ?_⟩
  · simp only [List.filter_nil, List.append_nil]
    unfold Fs.dirsT
    refine List.Pairwise.filter _ ?_
    simp
  · unfold Fs.rowsF
    simp
  · simp at hx
    subst hx
    exact Nat.le_add_right _ _
theorem TrSt.none {S : Fs} {N : Nat} {s0 : Int} {B : Nat} {x : En} {todo : List En} {nos : List Int} {f : Nat} (h : TrSt S N s0 B (x :: todo) nos (f + 1)) (hg : S.get (S.over x.no) = none) : TrSt S N s0 B todo nos f := by
  have hd : S.dirsT (x :: todo) = S.dirsT todo := by
    unfold Fs.dirsT
    rw [List.map_cons, List.filter_cons_of_neg]
    unfold Fs.isDir
    rw [hg]
    simp
  have h1 := h.nodup
  have h2 := h.src
  have h3 := h.low
  have h4 := h.fuel
  rw [hd] at h1 h2 h3
  rw [List.length_cons] at h4
  exact ⟨h1, h2, h3, by omega, fun y hy => h.size y (List.mem_cons_of_mem _ hy)⟩
theorem TrSt.pos {S : Fs} {N : Nat} {s0 : Int} {B : Nat} {x : En} {todo : List En} {nos : List Int} {f : Nat} (h : TrSt S N s0 B (x :: todo) nos f) : ∃ f', f = f' + 1 := by
  have h4 := h.fuel
  rw [List.length_cons] at h4
  exact ⟨f - 1, by omega⟩
theorem TrSt.some {S : Fs} {N : Nat} {s0 : Int} {B : Nat} (hk : FsOk S N) (hp : Pl S) (ht : Tr S) {x : En} {todo : List En} {nos : List Int} {f : Nat} (h : TrSt S N s0 B (x :: todo) nos (f + 1)) {n : An} (hg : S.get (S.over x.no) = some n) : TrSt S N s0 B (kidsL x.name n ++ todo) (nos ++ [n.no]) f := by
  have hm := an_mem hg
  have hno := an_no hg
  have h4 := h.fuel
  have hnl := h.size x List.mem_cons_self
  rw [List.length_cons] at h4
  by_cases hd : n.kind = 1
  · have hdir : S.isDir (S.over x.no) = true := isDir_of hg hd
    have hd1 : S.dirsT (x :: todo) = S.over x.no :: S.dirsT todo := by
      unfold Fs.dirsT
      rw [List.map_cons, List.filter_cons_of_pos hdir]
    have hv1 : (nos ++ [n.no]).filter S.isDir = nos.filter S.isDir ++ [S.over x.no] := by
      rw [List.filter_append, hno, List.filter_cons_of_pos hdir]
      rfl
    have h1 := h.nodup
    have h2 := h.src
    have h3 := h.low
    rw [hd1] at h1 h2 h3
    rw [if_pos hdir] at hnl
    have hlow : s0 ≤ S.over x.no := h3 _ (by simp)
    have hkid : ∀ c ∈ S.dirsT (kidsL x.name n), S.above c = S.over x.no ∧ S.over x.no < c := fun c hc => by
      obtain ⟨e, he, rfl, hdc⟩ := mem_kids hc
      obtain ⟨k1, k2, -, -⟩ := kid_of hk hp ht hm he hdc
      rw [hno] at k1 k2
      exact ⟨k1, k2⟩
    have h1' := h1
    rw [List.cons_append, List.nodup_cons] at h1'
    obtain ⟨hx1, hx2⟩ := h1'
    generalize S.over x.no = k at *
    have hnew : ∀ c ∈ S.dirsT (kidsL x.name n), c ∉ S.dirsT todo ++ nos.filter S.isDir := fun c hc hin => by
      obtain ⟨k1, k2⟩ := hkid c hc
      rcases h2 c (by rw [List.cons_append]; exact List.mem_cons_of_mem _ hin) with h5 | h5
      · omega
      · rw [k1] at h5
        exact hx1 (List.mem_append_right _ h5)
    have hcnt : (k :: nos.filter S.isDir).length ≤ S.ns.length := by
      have := nodup_len (k :: nos.filter S.isDir) (S.ns.map (·.no)) (by
        rw [List.nodup_cons]
        exact ⟨fun h => hx1 (List.mem_append_right _ h), (List.nodup_append.1 hx2).2.1⟩) (fun c hc => by
        have hc1 : S.isDir c = true := by
          rcases List.mem_cons.1 hc with rfl | hc
          · exact hdir
          · exact (List.mem_filter.1 hc).2
        obtain ⟨b, hb, -⟩ := isDir_some hc1
        exact List.mem_map.2 ⟨b, an_mem hb, an_no hb⟩)
      rwa [List.length_map] at this
    rw [List.length_cons] at hcnt
    refine ⟨?_, fun c hc => ?_, fun c hc => ?_, ?_, fun y hy => ?_⟩
    · rw [hv1, dirsT_append]
      have hperm : (S.dirsT (kidsL x.name n) ++ (S.dirsT todo ++ nos.filter S.isDir ++ [k])).Nodup := by
        rw [List.nodup_append]
        refine ⟨kids_nodup hk hp ht hm x.name, ?_, fun c hc d hcd => ?_⟩
        · rw [List.nodup_append]
          refine ⟨hx2, by simp, fun c hc d hcd => ?_⟩
          simp at hcd
          subst hcd
          rintro rfl
          exact hx1 hc
        · rintro rfl
          rcases List.mem_append.1 hcd with h5 | h5
          · exact hnew c hc h5
          · simp at h5
            have := (hkid c hc).2
            omega
      simpa only [List.append_assoc] using hperm
    · rw [hv1, dirsT_append] at hc
      rw [hv1]
      simp only [List.append_assoc] at hc
      rcases List.mem_append.1 hc with hc | hc
      · exact .inr (by rw [(hkid c hc).1]; simp)
      · rw [← List.append_assoc] at hc
        rcases List.mem_append.1 hc with hc | hc
        · rcases h2 c (by rw [List.cons_append]; exact List.mem_cons_of_mem _ hc) with h5 | h5
          · exact .inl h5
          · exact .inr (List.mem_append_left _ h5)
        · simp at hc
          subst hc
          rcases h2 c (by simp) with h5 | h5
          · exact .inl h5
          · exact .inr (List.mem_append_left _ h5)
    · rw [hv1, dirsT_append] at hc
      simp only [List.append_assoc] at hc
      rcases List.mem_append.1 hc with hc | hc
      · have := (hkid c hc).2
        omega
      · rw [← List.append_assoc] at hc
        rcases List.mem_append.1 hc with hc | hc
        · exact h3 c (by rw [List.cons_append]; exact List.mem_cons_of_mem _ hc)
        · simp at hc
          subst hc
          exact hlow
    · rw [hv1, List.length_append, List.length_append, List.length_singleton]
      have hkl : (kidsL x.name n).length ≤ N := by
        unfold kidsL
        rw [List.length_map]
        exact (hk.all n hm).few
      obtain ⟨u, hu⟩ : ∃ u, S.ns.length - (nos.filter S.isDir).length = u + 1 := ⟨S.ns.length - (nos.filter S.isDir).length - 1, by omega⟩
      rw [hu, Nat.mul_succ] at h4
      rw [show S.ns.length - ((nos.filter S.isDir).length + 1) = u by omega]
      omega
    · rcases List.mem_append.1 hy with hy | hy
      · unfold kidsL at hy
        obtain ⟨e, he, rfl⟩ := List.mem_map.1 hy
        have h5 := below_size x.name e.name
        have h6 := (hp.names n hm e he).2
        have h7 := hk.get hg
        have h8 : k.toNat + 1 ≤ (if S.isDir (S.over e.no) then (S.over e.no).toNat else S.last.toNat + 1) := by
          split
          · rename_i hdc
            obtain ⟨-, k2, -, -⟩ := kid_of hk hp ht hm he hdc
            rw [hno] at k2
            omega
          · omega
        simp only
        have h9 : 256 * (k.toNat + 1) ≤ 256 * (if S.isDir (S.over e.no) then (S.over e.no).toNat else S.last.toNat + 1) := Nat.mul_le_mul_left _ h8
        omega
      · exact h.size y (List.mem_cons_of_mem _ hy)
  · have hdir : S.isDir (S.over x.no) = false := isDir_not hg hd
    have hd1 : S.dirsT (x :: todo) = S.dirsT todo := by
      unfold Fs.dirsT
      rw [List.map_cons, List.filter_cons_of_neg (by rw [hdir]; simp)]
    have hv1 : (nos ++ [n.no]).filter S.isDir = nos.filter S.isDir := by
      rw [List.filter_append, hno, List.filter_cons_of_neg (by rw [hdir]; simp)]
      simp
    have hkl : kidsL x.name n = [] := by unfold kidsL; rw [ht.leaf n hm hd]; rfl
    have h1 := h.nodup
    have h2 := h.src
    have h3 := h.low
    rw [hd1] at h1 h2 h3
    rw [hkl]
    refine ⟨?_, ?_, ?_, ?_, fun y hy => h.size y (List.mem_cons_of_mem _ hy)⟩
    · rw [hv1]; exact h1
    · rw [hv1]; exact h2
    · rw [hv1]; exact h3
    · rw [hv1, List.nil_append]; omega
end Go.Proofs.YtaojpbgaengdpaaGreatDoor

/- A name below a path: of both (track.Below, ref03.Below). -/
namespace Go.Proofs.YtaojpbgaengdpaaGreatDoor

open Go.RowKit

theorem below_str (s n : ByteArray) : str (trimL s.data.toList) ++ ByteArray.mk #[47] ++ n = belowB s n := by
  unfold belowB
  rw [← str_of n, str_list, show ByteArray.mk #[47] = str [47] from rfl, str_append, str_append, List.append_assoc]
  rfl
set_option maxRecDepth 100000 in
set_option maxHeartbeats 1000000 in
theorem rcut_any (s : ByteArray) (w : World) (hs : s.size ≤ 100000) :
    Calls Tryz.prog 87 #[.string s] w fun e w' => e = .returned (.string (str (trimL s.data.toList))) ∧ w' = w := by
  go_enter Tryz.func87, Tryz.ntmps87
  go_wp2_with fail
  go_loop [0] (fun t0 => ∃ t : ByteArray, t0 = .string t ∧ t.size ≤ s.size ∧ trimL t.data.toList = trimL s.data.toList) (fun t0 => match t0 with | .string t => t.size | _ => 0)
  case atStart => exact ⟨s, rfl, Nat.le_refl _, rfl⟩
  case round =>
    obtain ⟨t, rfl, hts, htr⟩ := hrel
    have HTr := Lib.hid htr
    clear htr
    rcases Nat.eq_zero_or_pos t.size with h0 | hpos
    · have hnil := Lib.hid (show t.data.toList = [] from List.eq_nil_of_length_eq_zero (by rw [Array.length_toList]; exact h0))
      have HTt := Lib.hid (show str (trimL s.data.toList) = t from by rw [← HTr.out, hnil.out, ← str_of t, hnil.out]; rfl)
      go_wp2_with fail
      go_ret
      exact ⟨by rw [HTt.out]; rfl, rfl⟩
    · have hsn : t.data.toList = t.data.toList.take (t.size - 1) ++ [t[t.size - 1]] := by
        have := take_step t (t.size - 1) (by omega)
        rw [show t.size - 1 + 1 = t.size by omega, take_end] at this
        exact this
      have Hsn := Lib.hid hsn
      have q1 : (1 : Int) ≤ (t.size : Int) := by omega
      have q2 : ((t.size : Int) - 1).toNat = t.size - 1 := by omega
      by_cases hc : t[t.size - 1] = 47
      · have hc1 : ((t[t.size - 1].toNat : Int) == 47) = true := by rw [hc]; rfl
        have HTq := Lib.hid (show trimL (t.extract 0 (t.size - 1)).data.toList = trimL s.data.toList by
          rw [← HTr.out, Hsn.out, trimL_snoc, if_pos hc, ByteArray.data_extract, Array.toList_extract, List.extract_eq_take_drop]
          simp)
        have hsz : (t.extract 0 (t.size - 1)).size = t.size - 1 := by simp
        have Hsz := Lib.hid hsz
        clear hc hsn hsz
        go_wp2_with fail
        go_round
        case rel => exact ⟨_, rfl, by rw [Hsz.out]; omega, HTq.out⟩
        case measure =>
          show (t.extract 0 (t.size - 1)).size < t.size
          rw [Hsz.out]; omega
      · have hc1 : ((t[t.size - 1].toNat : Int) == 47) = false := by
          simp only [beq_eq_false_iff_ne, ne_eq]
          intro h
          exact hc (by rw [u8_eq]; show (t[t.size - 1]).toNat = 47; omega)
        have HTt := Lib.hid (show str (trimL s.data.toList) = t from by
          rw [← HTr.out, Hsn.out, trimL_snoc, if_neg hc, ← Hsn.out, str_of])
        clear hc hsn
        go_wp2_with fail
        go_ret
        exact ⟨by rw [HTt.out]; rfl, rfl⟩
set_option maxRecDepth 100000 in
theorem rbelow_any (s n : ByteArray) (w : World) (hs : s.size ≤ 100000) (hn : n.size ≤ 100000) :
    Calls Tryz.prog 46 #[.string s, .string n] w fun e w' => e = .returned (.string (belowB s n)) ∧ w' = w := by
  have HC := Lib.hid (rcut_any s w hs)
  have HE := Lib.hid (below_str s n)
  have hz : (str (trimL s.data.toList)).size ≤ 100000 := by
    rw [str_size]
    have h1 := trimL_len s.data.toList
    have h2 : s.data.toList.length = s.size := Array.length_toList
    omega
  generalize str (trimL s.data.toList) = t at HC HE hz
  generalize belowB s n = r at HE ⊢
  have h1 : ¬ 9223372036854775807 < t.size + 1 := by omega
  have h2 : ¬ 9223372036854775807 < (t ++ ByteArray.mk #[47]).size + n.size := by
    rw [ByteArray.size_append]
    show ¬ 9223372036854775807 < t.size + 1 + n.size
    omega
  go_enter Tryz.func46, Tryz.ntmps46
  go_wp2_with fail
  refine HC.out.mono ?_
  rintro e w1 ⟨rfl, rfl⟩
  go_wp2_with fail
  go_ret
  exact ⟨by rw [← HE.out]; rfl, rfl⟩
set_option maxRecDepth 100000 in
theorem tbelow_any (s n : ByteArray) (w : World) (hs : s.size ≤ 100000) (hn : n.size ≤ 100000) :
    Calls Tryz.prog 42 #[.string s, .string n] w fun e w' => e = .returned (.string (belowB s n)) ∧ w' = w := by
  have HC := Lib.hid (show Calls Tryz.prog 85 #[.string s, .string (ByteArray.mk #[47])] w fun e w' => e = .returned (.string (str (trimL s.data.toList))) ∧ w' = w from by
    refine (Tryz.strings_TrimRight_one s 47 (by decide) w (by omega)).mono ?_
    rintro e w' ⟨rfl, rfl⟩
    exact ⟨rfl, rfl⟩)
  have HE := Lib.hid (below_str s n)
  have hz : (str (trimL s.data.toList)).size ≤ 100000 := by
    rw [str_size]
    have h1 := trimL_len s.data.toList
    have h2 : s.data.toList.length = s.size := Array.length_toList
    omega
  generalize str (trimL s.data.toList) = t at HC HE hz
  generalize belowB s n = r at HE ⊢
  have h1 : ¬ 9223372036854775807 < t.size + 1 := by omega
  have h2 : ¬ 9223372036854775807 < (t ++ ByteArray.mk #[47]).size + n.size := by
    rw [ByteArray.size_append]
    show ¬ 9223372036854775807 < t.size + 1 + n.size
    omega
  go_enter Tryz.func42, Tryz.ntmps42
  go_wp2_with fail
  refine HC.out.mono ?_
  rintro e w1 ⟨rfl, rfl⟩
  go_wp2_with fail
  go_ret
  exact ⟨by rw [← HE.out]; rfl, rfl⟩
end Go.Proofs.YtaojpbgaengdpaaGreatDoor
