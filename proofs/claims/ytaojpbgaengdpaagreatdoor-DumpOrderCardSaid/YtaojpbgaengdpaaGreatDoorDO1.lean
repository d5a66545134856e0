/- Texts of the proof, part 1. -/
import Derived.Test.YtaojpbgaengdpaaGreatDoorDU6
import Derived.Test.YtaojpbgaengdpaaGreatDoorDU39
import Derived.Test.YtaojpbgaengdpaaGreatDoorDU40
import Derived.Test.YtaojpbgaengdpaaGreatDoorDU37
import Derived.Test.YtaojpbgaengdpaaGreatDoorDU13
set_option linter.unusedVariables false
set_option linter.unusedSimpArgs false
/- A planted tree, purely: every name in it is a good one. -/
namespace Go.Proofs.YtaojpbgaengdpaaGreatDoor

open Go.RowKit

def Nm (S : Fs) : Prop := ∀ a ∈ S.ns, ∀ x ∈ a.ents, checkE x.name = 0
theorem Nm.set {S : Fs} (h : Nm S) {a : An} (hn : ∀ x ∈ a.ents, checkE x.name = 0) : Nm (S.set a) := by
  intro y hy
  unfold Fs.set at hy
  simp only [List.mem_map] at hy
  obtain ⟨z, hz, rfl⟩ := hy
  split
  · exact hn
  · exact h z hz
theorem Nm.add {S : Fs} (h : Nm S) {a : An} (hn : a.ents = []) : Nm (S.add a) := by
  intro y hy
  unfold Fs.add at hy
  rcases List.mem_append.1 hy with hy | hy
  · exact h y hy
  · simp at hy
    subst hy
    intro x hx
    rw [show ({ a with no := S.last + 1 } : An).ents = a.ents from rfl, hn] at hx
    cases hx
theorem Nm.addRoot {S : Fs} (h : Nm S) (o b n : Int) : Nm (S.addRoot o b n) := by
  intro y hy
  unfold Fs.addRoot at hy
  rcases List.mem_append.1 hy with hy | hy
  · exact h y hy
  · simp at hy
    subst hy
    intro x hx
    cases hx
theorem Nm.make {S : Fs} (h : Nm S) {a : An} (hn : a.ents = []) : Nm (S.make a).1 := by
  unfold Fs.make
  split
  · exact h
  · split
    · exact h
    · simp only
      split
      · exact Nm.add (S := S.setDev _ _) (fun y hy => h y hy) hn
      · exact h
theorem put_check {l : List En} (h : ∀ x ∈ l, checkE x.name = 0) {s : ByteArray} (hs : checkE s = 0) (no : Int) : ∀ x ∈ entPut l s no, checkE x.name = 0 := by
  intro x hx
  unfold entPut at hx
  rcases List.mem_append.1 hx with hx | hx
  · exact h x (List.mem_filter.1 hx).1
  · rcases List.mem_cons.1 hx with rfl | hx
    · exact hs
    · exact h x (List.mem_filter.1 hx).1
theorem Nm.touch {S : Fs} (h : Nm S) (now dir : Int) (l : List En) (hl : ∀ x ∈ l, checkE x.name = 0) : Nm (S.touch now dir l) := by
  unfold Fs.touch
  split
  · exact h
  · exact h.set hl
theorem Nm.come {S : Fs} (h : Nm S) {a : An} (c : Cr) (now dir : Int) (s : ByteArray) (he : a.ents = []) : Nm (S.come c now dir s a).1 := by
  unfold Fs.come
  split
  · exact h
  · rename_i hpl
    obtain ⟨d, hd, hdk, hce⟩ := place_check (by simpa using hpl)
    rw [hd]
    simp only
    split
    · exact h
    · have hm := h.make (a := { a with dev := d.dev, uid := c.u, gid := c.g, mtime := now, ctime := now, links := 1 }) he
      split
      · exact h
      · exact hm.touch _ _ _ (put_check (h d (an_mem hd)) hce _)
theorem Nm.mkdir {S : Fs} (h : Nm S) (c : Cr) (now dir : Int) (s : ByteArray) (m : Int) : Nm (S.mkdir c now dir s m).1 := by
  unfold Fs.mkdir
  split
  · exact h
  · exact h.come c now dir s rfl
theorem Nm.file {S : Fs} (h : Nm S) (c : Cr) (now dir : Int) (s : ByteArray) (m : Int) (t : ByteArray) : Nm (S.file c now dir s m t).1 := by
  unfold Fs.file
  split
  · exact h
  · split
    · exact h
    · exact h.come c now dir s rfl
theorem Nm.sym {S : Fs} (h : Nm S) (c : Cr) (now dir : Int) (s t : ByteArray) : Nm (S.sym c now dir s t).1 := by
  unfold Fs.sym
  split
  · exact h
  · split
    · exact h
    · exact h.come c now dir s rfl
theorem Nm.hard {S : Fs} (h : Nm S) (c : Cr) (now no dir : Int) (s : ByteArray) : Nm (S.hard c now no dir s).1 := by
  unfold Fs.hard
  split
  · exact h
  · rename_i hpl
    obtain ⟨d0, hd0, hdk, hce⟩ := place_check (by simpa using hpl)
    split
    · rename_i d n hd hn
      split
      · exact h
      · split
        · exact h
        · split
          · exact h
          · split
            · exact h
            · exact Nm.touch (h.set (a := { n with links := n.links + 1, ctime := now }) (h n (an_mem hn))) _ _ _ (put_check (h d (an_mem hd)) hce _)
    · exact h
theorem Nm.chmod {S : Fs} (h : Nm S) (c : Cr) (now no m : Int) : Nm (S.chmod c now no m).1 := by
  unfold Fs.chmod
  split
  · exact h
  · rename_i n hn
    split
    · exact h
    · split
      · exact h
      · exact h.set (h n (an_mem hn))
theorem Nm.chown {S : Fs} (h : Nm S) (c : Cr) (now no u g : Int) : Nm (S.chown c now no u g).1 := by
  unfold Fs.chown
  split
  · exact h
  · rename_i n hn
    split
    · exact h
    · split
      · exact h
      · split
        · exact h
        · exact h.set (h n (an_mem hn))
theorem Nm.utime {S : Fs} (h : Nm S) (c : Cr) (now no t : Int) : Nm (S.utime c now no t).1 := by
  unfold Fs.utime
  split
  · exact h
  · rename_i n hn
    split
    · exact h
    · split
      · exact h
      · exact h.set (h n (an_mem hn))
theorem Nm.mount {S : Fs} (h : Nm S) (k b n : Int) : Nm (S.mount k b n).1 := by
  unfold Fs.mount
  split
  · exact h
  · split
    · exact h
    · split
      · exact h
      · split
        · exact h
        · exact h.addRoot _ b n
theorem Nm.mountF {S : Fs} (h : Nm S) (m : Mt) : Nm (mountF S m) := by
  unfold Go.Proofs.YtaojpbgaengdpaaGreatDoor.mountF
  split
  · exact h
  · split
    · have h1 := h.mkdir c00 0 (S.path c00 m.path false).1.dir (S.path c00 m.path false).1.name 493
      simp only
      split
      · exact h1
      · exact h1.mount _ _ _
    · exact h.mount _ _ _
theorem Nm.mountsF {S : Fs} (h : Nm S) (l : List Mt) : Nm (mountsF S l) := by
  induction l generalizing S with
  | nil => exact h
  | cons m l ih =>
    unfold Go.Proofs.YtaojpbgaengdpaaGreatDoor.mountsF
    by_cases hm : m.path = topB
    · rw [if_pos hm]; exact ih h
    · rw [if_neg hm]; exact ih (h.mountF m)
theorem Nm.nodeF {S : Fs} (h : Nm S) (it : It) : Nm (nodeF S it).1 := by
  unfold Go.Proofs.YtaojpbgaengdpaaGreatDoor.nodeF
  simp only
  split
  · exact h
  · split
    · split <;> exact h
    · split
      · exact h.mkdir _ _ _ _ _
      · split
        · exact h.file _ _ _ _ _ _
        · split
          · exact h.sym _ _ _ _ _
          · split
            · split
              · exact h.hard _ _ _ _ _
              · exact h
            · exact h
theorem Nm.itemF {S : Fs} (h : Nm S) (it : It) : Nm (itemF S it).1 := by
  unfold Go.Proofs.YtaojpbgaengdpaaGreatDoor.itemF
  have h1 := h.nodeF it
  simp only
  split
  · exact (h1.chown _ _ _ _ _).chmod _ _ _ _
  · exact h1
theorem Nm.itemsF {S : Fs} (h : Nm S) (l : List It) : Nm (itemsF S l).1 := by
  induction l generalizing S with
  | nil => exact h
  | cons x l ih => exact ih (h.itemF x)
theorem Nm.timesF {S : Fs} (h : Nm S) (l : List (It × Int)) : Nm (timesF S l) := by
  induction l generalizing S with
  | nil => exact h
  | cons x l ih =>
    unfold Go.Proofs.YtaojpbgaengdpaaGreatDoor.timesF
    refine ih ?_
    split
    · exact h.utime _ _ _ _
    · exact h
theorem plant_nm (ms : List Mt) (is : List It) : Nm (plantF ms is) := by
  unfold plantF
  simp only
  refine Nm.timesF (Nm.itemsF (Nm.mountsF ?_ ms) is) _
  exact Nm.addRoot (S := fs0) (fun a ha => by cases ha) _ _ _
end Go.Proofs.YtaojpbgaengdpaaGreatDoor

/- How long a clean path is. -/
namespace Go.Proofs.YtaojpbgaengdpaaGreatDoor

open Go.RowKit

def wtL (l : List (List UInt8)) : Nat := (l.map fun p => p.length + 1).sum
theorem wtL_append (a b : List (List UInt8)) : wtL (a ++ b) = wtL a + wtL b := by
  unfold wtL
  rw [List.map_append, List.sum_append]
theorem wtL_one (p : List UInt8) : wtL [p] = p.length + 1 := by simp [wtL]
theorem spl_wt (c : UInt8) (l : List UInt8) : wtL (spl c l) = l.length + 1 := by
  refine snoc_ind (P := fun l => wtL (spl c l) = l.length + 1) (by simp [spl, wtL]) (fun l x ih => ?_) l
  rw [spl_snoc, List.length_append]
  obtain ⟨a, b, hab⟩ : ∃ a b, spl c l = a ++ [b] := by
    have h := (spl_len c l).1
    exact ⟨_, _, (List.dropLast_concat_getLast (List.ne_nil_of_length_pos h)).symm⟩
  rw [hab] at ih ⊢
  unfold splStep
  rw [wtL_append, wtL_one] at ih
  split
  · rw [wtL_append, wtL_append, wtL_one, wtL_one]
    simp
    omega
  · simp [wtL_append, wtL_one]
    omega
theorem wtL_filter (f : List UInt8 → Bool) : ∀ l, wtL (l.filter f) ≤ wtL l
  | [] => Nat.le_refl _
  | x :: l => by
    have h := wtL_filter f l
    rw [List.filter_cons]
    split
    · rw [← List.singleton_append, wtL_append, ← List.singleton_append (l := l), wtL_append]; omega
    · rw [← List.singleton_append (l := l), wtL_append]; omega
theorem wtL_dropLast (l : List (List UInt8)) : wtL l.dropLast ≤ wtL l := by
  by_cases h : l = []
  · subst h; exact Nat.le_refl _
  · have := congrArg wtL (List.dropLast_concat_getLast h)
    rw [wtL_append] at this
    omega
theorem clS_wt (whole : Bool) (out : List (List UInt8)) (p : List UInt8) : wtL (clS whole out p) ≤ wtL out + (p.length + 1) := by
  have h1 := wtL_dropLast out
  unfold clS
  split
  · rw [wtL_append, wtL_one]; omega
  · split
    · omega
    · split
      · omega
      · rw [wtL_append, wtL_one]; omega
theorem clL_wt (whole : Bool) (l : List (List UInt8)) : wtL (clL whole l) ≤ wtL l := by
  refine snoc_ind (P := fun l => wtL (clL whole l) ≤ wtL l) (Nat.le_refl _) (fun l p ih => ?_) l
  rw [clL_snoc, wtL_append, wtL_one]
  have := clS_wt whole (clL whole l) p
  omega
theorem joinTail_wt : ∀ r : List (List UInt8), (Lib.joinTail [47] r).length = wtL r
  | [] => rfl
  | x :: r => by
    have := joinTail_wt r
    simp [Lib.joinTail, wtL] at this ⊢
    omega
theorem join_wt (l : List (List UInt8)) : (Lib.join l [47]).length ≤ wtL l := by
  cases l with
  | nil => exact Nat.le_refl _
  | cons x r =>
    have := joinTail_wt r
    rw [Lib.join_cons, List.length_append, this]
    simp [wtL]
theorem clean_size (s : ByteArray) : (cleanB s).size ≤ s.size + 2 := by
  unfold cleanB cleanL
  rw [str_size]
  have h2 : s.data.toList.length = s.size := Array.length_toList
  have h1 : wtL (partsL s.data.toList) ≤ s.size + 1 := by
    have := wtL_filter (fun p => !(p == []) && !(p == [46])) (spl 47 s.data.toList)
    rw [spl_wt, h2] at this
    exact this
  have h3 := join_wt (clL true (partsL s.data.toList))
  have h4 := clL_wt true (partsL s.data.toList)
  have h5 := join_wt (clL false (partsL s.data.toList))
  have h6 := clL_wt false (partsL s.data.toList)
  split
  · rw [List.length_cons]; omega
  · split
    · simp
    · omega
end Go.Proofs.YtaojpbgaengdpaaGreatDoor

/- Paths told from another one on, purely. -/
namespace Go.Proofs.YtaojpbgaengdpaaGreatDoor

open Go.RowKit

theorem spl_in (l : List UInt8) : ∀ p ∈ spl 47 l, ∀ x ∈ p, x ≠ 47 := by
  refine snoc_ind (P := fun l => ∀ p ∈ spl 47 l, ∀ x ∈ p, x ≠ 47) (by simp [spl]) (fun l x ih => ?_) l
  rw [spl_snoc]
  unfold splStep
  intro p hp
  split at hp
  · rcases List.mem_append.1 hp with hp | hp
    · exact ih p hp
    · simp at hp; subst hp; simp
  · rename_i hx
    have h := (spl_len 47 l).1
    rcases List.mem_or_eq_of_mem_set hp with hp | hp
    · exact ih p hp
    · subst hp
      intro y hy
      rcases List.mem_append.1 hy with hy | hy
      · refine ih ((spl 47 l).getD ((spl 47 l).length - 1) []) ?_ y hy
        rw [List.getD_eq_getElem?_getD, List.getElem?_eq_getElem (by omega)]
        exact List.getElem_mem _
      · simp at hy; subst hy; exact hx
theorem parts_in {l p : List UInt8} (h : p ∈ partsL l) : p ≠ [] ∧ p ≠ [46] ∧ ∀ x ∈ p, x ≠ 47 := by
  unfold partsL at h
  obtain ⟨h1, h2⟩ := List.mem_filter.1 h
  simp only [Bool.and_eq_true, Bool.not_eq_true', beq_eq_false_iff_ne, ne_eq] at h2
  exact ⟨h2.1, h2.2, spl_in l p h1⟩
/-- a path that ends in no slash. -/
theorem trimL_last {l : List UInt8} {x : UInt8} (h : l.getLast? = some x) (hx : x ≠ 47) : trimL l = l := by
  obtain ⟨a, rfl⟩ : ∃ a, l = a ++ [x] := by
    obtain ⟨ys, rfl⟩ := List.getLast?_eq_some_iff.1 h
    exact ⟨ys, rfl⟩
  rw [trimL_snoc, if_neg hx]
theorem join_last {l : List (List UInt8)} (hl : l ≠ []) (h : ∀ p ∈ l, p ≠ [] ∧ ∀ x ∈ p, x ≠ 47) : ∃ x, (Lib.join l [47]).getLast? = some x ∧ x ≠ 47 := by
  obtain ⟨a, p, rfl⟩ : ∃ a p, l = a ++ [p] := ⟨_, _, (List.dropLast_concat_getLast hl).symm⟩
  obtain ⟨h1, h2⟩ := h p (by simp)
  have h3 : ∃ pre, Lib.join (a ++ [p]) [47] = pre ++ p := by
    cases a with
    | nil => exact ⟨[], by rw [List.nil_append, join_one, List.nil_append]⟩
    | cons y r => exact ⟨Lib.join (y :: r) [47] ++ [47], by rw [join_snoc]; simp⟩
  obtain ⟨pre, h3⟩ := h3
  rw [h3]
  refine ⟨p.getLast h1, ?_, h2 _ (List.getLast_mem h1)⟩
  rw [List.getLast?_append, List.getLast?_eq_some_getLast h1]
  rfl
/-- a clean and whole path: the top, or one that ends in no slash. -/
def CleanW (l : List UInt8) : Prop := l = [47] ∨ (l.head? = some 47 ∧ trimL l = l)
theorem cl_in {w : Bool} {s p : List UInt8} (h : p ∈ clL w (partsL s)) : p ≠ [] ∧ ∀ x ∈ p, x ≠ 47 := by
  have h1 := parts_in (clL_mem h)
  exact ⟨h1.1, h1.2.2⟩
theorem clean_ne (s : List UInt8) : cleanL s ≠ [] := by
  unfold cleanL
  split
  · simp
  · split
    · simp
    · assumption
theorem clean_whole {s : List UInt8} (h : wholeB (cleanL s) = true) : wholeB s = true ∧ CleanW (cleanL s) := by
  by_cases hs : wholeB s = true
  · refine ⟨hs, ?_⟩
    unfold cleanL
    rw [if_pos hs]
    by_cases hl : clL true (partsL s) = []
    · rw [hl]; exact .inl rfl
    · obtain ⟨x, h1, h2⟩ := join_last hl (fun p hp => cl_in hp)
      refine .inr ⟨rfl, trimL_last (x := x) ?_ h2⟩
      rw [List.getLast?_cons, h1]
      rfl
  · exfalso
    unfold cleanL at h
    rw [if_neg hs] at h
    split at h
    · exact absurd h (by decide)
    · rename_i hj
      have hne : clL false (partsL s) ≠ [] := by
        intro e
        rw [e] at hj
        exact hj rfl
      obtain ⟨p, r, hpr⟩ := List.exists_cons_of_ne_nil hne
      have hp := cl_in (w := false) (s := s) (p := p) (by rw [hpr]; simp)
      rw [hpr, Lib.join_cons] at h
      obtain ⟨x, q, rfl⟩ := List.exists_cons_of_ne_nil hp.1
      unfold wholeB at h
      simp at h
      exact hp.2 x (by simp) h
/-- what the program leaves of a path that is inside. -/
theorem rel_same {a : List UInt8} (ha : CleanW a) : Lib.trimPrefix (a.drop (trimL a).length) [47] = [] := by
  rcases ha with rfl | ⟨-, h⟩
  · rfl
  · rw [h, List.drop_length]
    rfl
theorem rel_in {a b : List UInt8} (ha : CleanW a) (hb : CleanW b) (hne : a ≠ b) (hin : Lib.hasPrefix b (trimL a ++ [47]) = true) :
    Lib.trimPrefix (b.drop (trimL a).length) [47] = b.drop ((trimL a).length + 1) ∧ b.drop ((trimL a).length + 1) ≠ [] := by
  unfold Lib.hasPrefix at hin
  obtain ⟨r, hr⟩ := List.isPrefixOf_iff_prefix.1 hin
  have hd : b.drop (trimL a).length = 47 :: r := by
    rw [← hr, List.append_assoc, List.drop_append]
    simp
  have hd1 : b.drop ((trimL a).length + 1) = r := by
    rw [← List.drop_drop, hd]
    rfl
  refine ⟨?_, ?_⟩
  · rw [hd, hd1]
    unfold Lib.trimPrefix Lib.hasPrefix
    simp
  · rw [hd1]
    rintro rfl
    rw [List.append_nil] at hr
    rcases hb with rfl | ⟨-, hb⟩
    · have ht : trimL a = [] := by
        have := congrArg List.length hr
        simp at this
        exact this
      rcases ha with rfl | ⟨ha1, ha2⟩
      · exact hne rfl
      · rw [ht] at ha2
        rw [← ha2] at ha1
        simp at ha1
    · rw [← hr, trimL_snoc, if_pos rfl] at hb
      have h1 := trimL_len (trimL a)
      have h2 := congrArg List.length hb
      rw [List.length_append, List.length_singleton] at h2
      omega
def ptB : ByteArray := ByteArray.mk #[46]
def relB (base s : ByteArray) : ByteArray × Bool :=
  if wholeB (cleanB base).data.toList = true ∧ wholeB (cleanB s).data.toList = true ∧ insideB (cleanB base) (cleanB s) = true then
    (if cleanB base = cleanB s then ptB else str ((cleanB s).data.toList.drop ((trimL (cleanB base).data.toList).length + 1)), true)
  else (ByteArray.empty, false)
def joinB (a b : ByteArray) : ByteArray := if wholeB b.data.toList = true ∨ a = ByteArray.empty then cleanB b else cleanB (a ++ ByteArray.mk #[47] ++ b)
end Go.Proofs.YtaojpbgaengdpaaGreatDoor

/- Rows of a tree lie in order, purely. -/
namespace Go.Proofs.YtaojpbgaengdpaaGreatDoor

open Go.RowKit

structure GoodN (p : List UInt8) : Prop where
  ne : p ≠ []
  n1 : p ≠ [46]
  n2 : p ≠ [46, 46]
  no : ∀ x ∈ p, x ≠ 47
  chk : checkE (str p) = 0
theorem good_of {s : ByteArray} (h : checkE s = 0) : GoodN s.data.toList := by
  have h0 := h
  unfold checkE at h
  split at h
  · cases h
  · rename_i hn
    simp only [not_or] at hn
    exact ⟨hn.1, hn.2.1, hn.2.2.1, fun x hx e => hn.2.2.2.1 (by rw [← e]; exact hx), by rw [str_of]; exact h0⟩
def pthL (ns : List (List UInt8)) : List UInt8 := 47 :: Lib.join ns [47]
def pth (ns : List (List UInt8)) : ByteArray := str (pthL ns)
theorem pth_nil : pth [] = ByteArray.mk #[47] := rfl
theorem pthL_snoc (ns : List (List UInt8)) (p : List UInt8) : pthL (ns ++ [p]) = (if ns = [] then [] else pthL ns) ++ 47 :: p := by
  unfold pthL
  cases ns with
  | nil => rw [List.nil_append, join_one, if_pos rfl, List.nil_append]
  | cons y r => rw [join_snoc, if_neg (by simp), List.cons_append]
theorem pthL_trim {ns : List (List UInt8)} (h : ∀ p ∈ ns, GoodN p) : trimL (pthL ns) = if ns = [] then [] else pthL ns := by
  by_cases hn : ns = []
  · subst hn; rfl
  · rw [if_neg hn]
    obtain ⟨x, h1, h2⟩ := join_last hn (fun p hp => ⟨(h p hp).ne, (h p hp).no⟩)
    refine trimL_last (x := x) ?_ h2
    unfold pthL
    rw [List.getLast?_cons, h1]
    rfl
theorem below_pth {ns : List (List UInt8)} (h : ∀ p ∈ ns, GoodN p) (s : ByteArray) : belowB (pth ns) s = pth (ns ++ [s.data.toList]) := by
  unfold belowB pth
  rw [str_list, pthL_trim h, pthL_snoc]
theorem join_two (x y : List UInt8) (r : List (List UInt8)) : Lib.join (x :: y :: r) [47] = x ++ 47 :: Lib.join (y :: r) [47] := by
  rw [Lib.join_cons, Lib.join_cons]
  simp [Lib.joinTail]
theorem parts_join : ∀ (ns : List (List UInt8)), (∀ p ∈ ns, GoodN p) → partsL (Lib.join ns [47]) = ns
  | [], _ => rfl
  | [x], h => by
    have hx := h x (by simp)
    rw [join_one, parts_one x hx.no, if_neg]
    rintro (h1 | h1)
    · exact hx.ne h1
    · exact hx.n1 h1
  | x :: y :: r, h => by
    have hx := h x (by simp)
    rw [join_two, parts_app x _ hx.no, if_neg, parts_join (y :: r) (fun p hp => h p (List.mem_cons_of_mem _ hp))]
    · rfl
    · rintro (h1 | h1)
      · exact hx.ne h1
      · exact hx.n1 h1
theorem parts_pth {ns : List (List UInt8)} (h : ∀ p ∈ ns, GoodN p) : partsL (pthL ns) = ns := by
  have := parts_app [] (Lib.join ns [47]) (by simp)
  rw [if_pos (.inl rfl), List.nil_append, List.nil_append, parts_join ns h] at this
  exact this
theorem clL_good (w : Bool) (ns : List (List UInt8)) (h : ∀ p ∈ ns, GoodN p) : clL w ns = ns := by
  have key : ∀ l : List (List UInt8), (∀ p ∈ l, GoodN p) → clL w l = l := by
    refine snoc_ind (fun _ => rfl) (fun l p ih hl => ?_)
    rw [clL_snoc, ih (fun q hq => hl q (List.mem_append_left _ hq))]
    unfold clS
    rw [if_pos (show p ≠ ddB from (hl p (by simp)).n2)]
  exact key ns h
theorem clean_pth {ns : List (List UInt8)} (h : ∀ p ∈ ns, GoodN p) : cleanL (pthL ns) = pthL ns := by
  unfold cleanL
  rw [parts_pth h, clL_good _ _ h]
  rfl
theorem cleanB_pth {ns : List (List UInt8)} (h : ∀ p ∈ ns, GoodN p) : cleanB (pth ns) = pth ns := by
  unfold cleanB pth
  rw [str_list, clean_pth h]
theorem pth_inj {a b : List (List UInt8)} (ha : ∀ p ∈ a, GoodN p) (hb : ∀ p ∈ b, GoodN p) (h : pth a = pth b) : a = b := by
  have h1 : pthL a = pthL b := by
    have := congrArg (fun s : ByteArray => s.data.toList) h
    unfold pth at this
    simpa only [str_list] using this
  rw [← parts_pth ha, ← parts_pth hb, h1]
/-- what lies where. -/
def OrdR (a b : List (List UInt8)) : Prop := a ≠ b ∧ ∀ p x y, a = p ++ [x] → b = p ++ [y] → Op.bytesLess x y = true
structure OrdSt (S : Fs) (vis : List (List (List UInt8) × An)) (td : List (List (List UInt8) × Int)) : Prop where
  vgood : ∀ y ∈ vis, ∀ p ∈ y.1, GoodN p
  tgood : ∀ y ∈ td, ∀ p ∈ y.1, GoodN p
  par : ∀ (i : Nat) (y : List (List UInt8) × An), vis[i]? = some y → ∀ p x, y.1 = p ++ [x] → ∃ (k : Nat) (z : List (List UInt8) × An), k < i ∧ vis[k]? = some z ∧ z.1 = p ∧ z.2.kind = 1
  tpar : ∀ y ∈ td, ∀ p x, y.1 = p ++ [x] → ∃ z ∈ vis, z.1 = p ∧ z.2.kind = 1
  ord : (vis.map (·.1) ++ td.map (·.1)).Pairwise OrdR
  get : ∀ y ∈ vis, S.get y.2.no = some y.2
theorem OrdSt.start (S : Fs) (no : Int) : OrdSt S [] [([], no)] := by
  refine ⟨fun y hy => (by cases hy), fun y hy p hp => ?_, fun i y hy => (by simp at hy), fun y hy p x he => ?_, by simp, fun y hy => (by cases hy)⟩
  · simp at hy
    subst hy
    cases hp
  · simp at hy
    subst hy
    simp at he
theorem OrdSt.drop {S : Fs} {vis : List (List (List UInt8) × An)} {x : List (List UInt8) × Int} {td : List (List (List UInt8) × Int)} (h : OrdSt S vis (x :: td)) : OrdSt S vis td :=
  ⟨h.vgood, fun y hy => h.tgood y (List.mem_cons_of_mem _ hy), h.par, fun y hy => h.tpar y (List.mem_cons_of_mem _ hy), h.ord.sublist (List.Sublist.append_left (by rw [List.map_cons]; exact List.sublist_cons_self _ _) _), h.get⟩
theorem OrdSt.stop {S : Fs} {vis : List (List (List UInt8) × An)} {td : List (List (List UInt8) × Int)} (h : OrdSt S vis td) : OrdSt S vis [] := by
  induction td with
  | nil => exact h
  | cons x td ih => exact ih h.drop
def kidsN (ns : List (List UInt8)) (n : An) : List (List (List UInt8) × Int) := n.ents.map fun e => (ns ++ [e.name.data.toList], e.no)
theorem OrdSt.step {S : Fs} {N : Nat} (hk : FsOk S N) (ht : Tr S) (hn : Nm S) {vis : List (List (List UInt8) × An)} {x : List (List UInt8) × Int} {td : List (List (List UInt8) × Int)} (h : OrdSt S vis (x :: td)) {n : An} (hg : S.get (S.over x.2) = some n) :
    OrdSt S (vis ++ [(x.1, n)]) (kidsN x.1 n ++ td) := by
  have hm := an_mem hg
  have hno := an_no hg
  have hxg := h.tgood x List.mem_cons_self
  have hord := h.ord
  rw [List.map_cons, List.pairwise_append] at hord
  obtain ⟨ho1, ho2, ho3⟩ := hord
  rw [List.pairwise_cons] at ho2
  -- nobody else has x's number of names above
  have hnv : ∀ y ∈ vis, y.1 ≠ x.1 := fun y hy he => (ho3 y.1 (List.mem_map.2 ⟨y, hy, rfl⟩) x.1 List.mem_cons_self).1 he
  have hch1 : ∀ y ∈ vis, ∀ q, y.1 ≠ x.1 ++ [q] := fun y hy q he => by
    obtain ⟨i, hi⟩ := List.mem_iff_getElem?.1 hy
    obtain ⟨k, z, -, hz, hz1, -⟩ := h.par i y hi x.1 q he
    exact hnv z (List.mem_iff_getElem?.2 ⟨k, hz⟩) hz1
  have hch2 : ∀ y ∈ td, ∀ q, y.1 ≠ x.1 ++ [q] := fun y hy q he => by
    obtain ⟨z, hz, hz1, -⟩ := h.tpar y (List.mem_cons_of_mem _ hy) x.1 q he
    exact hnv z hz hz1
  have hch3 : ∀ q, x.1 ≠ x.1 ++ [q] := fun q he => by
    have := congrArg List.length he
    simp at this
  have hkid : ∀ y ∈ kidsN x.1 n, ∃ e ∈ n.ents, y.1 = x.1 ++ [e.name.data.toList] := fun y hy => by
    unfold kidsN at hy
    obtain ⟨e, he, rfl⟩ := List.mem_map.1 hy
    exact ⟨e, he, rfl⟩
  have hdir : n.ents ≠ [] → n.kind = 1 := fun he => by
    by_cases hd : n.kind = 1
    · exact hd
    · exact absurd (ht.leaf n hm hd) he
  refine ⟨fun y hy => ?_, fun y hy => ?_, fun i y hy p q he => ?_, fun y hy p q he => ?_, ?_, fun y hy => ?_⟩
  · rcases List.mem_append.1 hy with hy | hy
    · exact h.vgood y hy
    · simp at hy; subst hy; exact hxg
  · rcases List.mem_append.1 hy with hy | hy
    · obtain ⟨e, he, h1⟩ := hkid y hy
      intro p hp
      rw [h1] at hp
      rcases List.mem_append.1 hp with hp | hp
      · exact hxg p hp
      · simp at hp; subst hp; exact good_of (hn n hm e he)
    · exact h.tgood y (List.mem_cons_of_mem _ hy)
  · by_cases hi : i < vis.length
    · rw [List.getElem?_append_left hi] at hy
      obtain ⟨k, z, h1, h2, h3⟩ := h.par i y hy p q he
      exact ⟨k, z, h1, by rw [List.getElem?_append_left (by omega)]; exact h2, h3⟩
    · rw [List.getElem?_append_right (by omega)] at hy
      have h0 : i - vis.length = 0 := by
        have := (List.getElem?_eq_some_iff.1 hy).1
        simp at this
        omega
      rw [h0] at hy
      simp at hy
      subst hy
      obtain ⟨z, hz, h1⟩ := h.tpar x List.mem_cons_self p q he
      obtain ⟨k, hk2⟩ := List.mem_iff_getElem?.1 hz
      have hkl := (List.getElem?_eq_some_iff.1 hk2).1
      exact ⟨k, z, by omega, by rw [List.getElem?_append_left hkl]; exact hk2, h1⟩
  · rcases List.mem_append.1 hy with hy | hy
    · obtain ⟨e, hee, h1⟩ := hkid y hy
      rw [h1] at he
      obtain ⟨h2, -⟩ := List.append_inj' he rfl
      exact ⟨(x.1, n), by simp, h2, hdir (List.ne_nil_of_mem hee)⟩
    · obtain ⟨z, hz, h1⟩ := h.tpar y (List.mem_cons_of_mem _ hy) p q he
      exact ⟨z, List.mem_append_left _ hz, h1⟩
  · rw [List.map_append, List.map_append, List.append_assoc]
    rw [List.pairwise_append]
    refine ⟨ho1, ?_, fun a ha b hb => ?_⟩
    · show (x.1 :: ((kidsN x.1 n).map (·.1) ++ td.map (·.1))).Pairwise OrdR
      rw [List.pairwise_cons, List.pairwise_append]
      refine ⟨fun b hb => ?_, ?_, ho2.2, fun a ha b hb => ?_⟩
      · rcases List.mem_append.1 hb with hb | hb
        · obtain ⟨y, hy, rfl⟩ := List.mem_map.1 hb
          obtain ⟨e, he, h1⟩ := hkid y hy
          refine ⟨fun he2 => hch3 _ (he2.trans h1), fun p a b ha hb => ?_⟩
          rw [h1] at hb
          obtain ⟨h2, -⟩ := List.append_inj' hb rfl
          rw [← h2] at ha
          exact absurd ha (hch3 _)
        · exact ho2.1 b hb
      · unfold kidsN
        rw [List.map_map, List.pairwise_map]
        refine List.Pairwise.imp (fun {e f} hef => ?_) (hk.all n hm).rise
        refine ⟨fun he => ?_, fun p a b ha hb => ?_⟩
        · have h1 : x.1 ++ [e.name.data.toList] = x.1 ++ [f.name.data.toList] := he
          obtain ⟨-, h2⟩ := List.append_inj' h1 rfl
          have h3 : e.name.data.toList = f.name.data.toList := by simpa using h2
          unfold ltB at hef
          rw [h3, less_irrefl] at hef
          cases hef
        · have ha : x.1 ++ [e.name.data.toList] = p ++ [a] := ha
          have hb : x.1 ++ [f.name.data.toList] = p ++ [b] := hb
          obtain ⟨-, h2⟩ := List.append_inj' ha rfl
          obtain ⟨-, h3⟩ := List.append_inj' hb rfl
          have h4 : e.name.data.toList = a := by simpa using h2
          have h5 : f.name.data.toList = b := by simpa using h3
          rw [← h4, ← h5]
          exact hef
      · obtain ⟨y, hy, rfl⟩ := List.mem_map.1 ha
        obtain ⟨z, hz, rfl⟩ := List.mem_map.1 hb
        obtain ⟨e, he, h1⟩ := hkid y hy
        refine ⟨fun he2 => hch2 z hz _ (he2.symm.trans h1), fun p a b ha hb => ?_⟩
        rw [h1] at ha
        obtain ⟨h2, -⟩ := List.append_inj' ha rfl
        rw [← h2] at hb
        exact absurd hb (hch2 z hz _)
    · have hb' : b = x.1 ∨ b ∈ (kidsN x.1 n).map (·.1) ∨ b ∈ td.map (·.1) := by
        simpa using hb
      rcases hb' with rfl | hb | hb
      · exact ho3 a ha _ List.mem_cons_self
      · obtain ⟨y, hy, rfl⟩ := List.mem_map.1 hb
        obtain ⟨z, hz, rfl⟩ := List.mem_map.1 ha
        obtain ⟨e, he, h1⟩ := hkid y hy
        refine ⟨fun he2 => hch1 z hz _ (he2.trans h1), fun p a b ha hb => ?_⟩
        rw [h1] at hb
        obtain ⟨h2, -⟩ := List.append_inj' hb rfl
        rw [← h2] at ha
        exact absurd ha (hch1 z hz _)
      · exact ho3 a ha b (List.mem_cons_of_mem _ hb)
  · rcases List.mem_append.1 hy with hy | hy
    · exact h.get y hy
    · simp at hy; subst hy
      show S.get n.no = _
      rw [hno]; exact hg
end Go.Proofs.YtaojpbgaengdpaaGreatDoor
