/- Texts of the proof, part 1. -/
import Derived.Deep.CutBlock
import Derived.Deep.DeepCutAuto
import Derived.RegionTactic
import Derived.BigRegion
import Derived.Test.YtaojpbgaengdpaaGreatDoorDU39
import Derived.Test.YtaojpbgaengdpaaGreatDoorDU40
set_option linter.unusedVariables false
set_option linter.unusedSimpArgs false
/- How long a clean path is. -/
namespace Go.Proofs.YtaojpbgaengdpaaGreatDoor

open Go.RowKit

def wtL (l : List (List UInt8)) : Nat := (l.map fun p => p.length + 1).sum
theorem wtL_append (a b : List (List UInt8)) : wtL (a ++ b) = wtL a + wtL b := by
  unfold wtL
  rw [List.map_append, List.sum_append]
theorem wtL_one (p : List UInt8) : wtL [p] = p.length + 1 := by simp [wtL]
theorem spl_wt (c : UInt8) (l : List UInt8) : wtL (spl c l) = l.length + 1 := by
  refine snoc_ind (P := fun l => wtL (spl c l) = l.length + 1) (by simp [spl, wtL]) (fun l x ih => ?_) l
  rw [spl_snoc, List.length_append]
  obtain ⟨a, b, hab⟩ : ∃ a b, spl c l = a ++ [b] := by
    have h := (spl_len c l).1
    exact ⟨_, _, (List.dropLast_concat_getLast (List.ne_nil_of_length_pos h)).symm⟩
  rw [hab] at ih ⊢
  unfold splStep
  rw [wtL_append, wtL_one] at ih
  split
  · rw [wtL_append, wtL_append, wtL_one, wtL_one]
    simp
    omega
  · simp [wtL_append, wtL_one]
    omega
theorem wtL_filter (f : List UInt8 → Bool) : ∀ l, wtL (l.filter f) ≤ wtL l
  | [] => Nat.le_refl _
  | x :: l => by
    have h := wtL_filter f l
    rw [List.filter_cons]
    split
    · rw [← List.singleton_append, wtL_append, ← List.singleton_append (l := l), wtL_append]; omega
    · rw [← List.singleton_append (l := l), wtL_append]; omega
theorem wtL_dropLast (l : List (List UInt8)) : wtL l.dropLast ≤ wtL l := by
  by_cases h : l = []
  · subst h; exact Nat.le_refl _
  · have := congrArg wtL (List.dropLast_concat_getLast h)
    rw [wtL_append] at this
    omega
theorem clS_wt (whole : Bool) (out : List (List UInt8)) (p : List UInt8) : wtL (clS whole out p) ≤ wtL out + (p.length + 1) := by
  have h1 := wtL_dropLast out
  unfold clS
  split
  · rw [wtL_append, wtL_one]; omega
  · split
    · omega
    · split
      · omega
      · rw [wtL_append, wtL_one]; omega
theorem clL_wt (whole : Bool) (l : List (List UInt8)) : wtL (clL whole l) ≤ wtL l := by
  refine snoc_ind (P := fun l => wtL (clL whole l) ≤ wtL l) (Nat.le_refl _) (fun l p ih => ?_) l
  rw [clL_snoc, wtL_append, wtL_one]
  have := clS_wt whole (clL whole l) p
  omega
theorem joinTail_wt : ∀ r : List (List UInt8), (Lib.joinTail [47] r).length = wtL r
  | [] => rfl
  | x :: r => by
    have := joinTail_wt r
    simp [Lib.joinTail, wtL] at this ⊢
    omega
theorem join_wt (l : List (List UInt8)) : (Lib.join l [47]).length ≤ wtL l := by
  cases l with
  | nil => exact Nat.le_refl _
  | cons x r =>
    have := joinTail_wt r
    rw [Lib.join_cons, List.length_append, this]
    simp [wtL]
theorem clean_size (s : ByteArray) : (cleanB s).size ≤ s.size + 2 := by
  unfold cleanB cleanL
  rw [str_size]
  have h2 : s.data.toList.length = s.size := Array.length_toList
  have h1 : wtL (partsL s.data.toList) ≤ s.size + 1 := by
    have := wtL_filter (fun p => !(p == []) && !(p == [46])) (spl 47 s.data.toList)
    rw [spl_wt, h2] at this
    exact this
  have h3 := join_wt (clL true (partsL s.data.toList))
  have h4 := clL_wt true (partsL s.data.toList)
  have h5 := join_wt (clL false (partsL s.data.toList))
  have h6 := clL_wt false (partsL s.data.toList)
  split
  · rw [List.length_cons]; omega
  · split
    · simp
    · omega
end Go.Proofs.YtaojpbgaengdpaaGreatDoor

/- Paths told from another one on, purely. -/
namespace Go.Proofs.YtaojpbgaengdpaaGreatDoor

open Go.RowKit

theorem spl_in (l : List UInt8) : ∀ p ∈ spl 47 l, ∀ x ∈ p, x ≠ 47 := by
  refine snoc_ind (P := fun l => ∀ p ∈ spl 47 l, ∀ x ∈ p, x ≠ 47) (by simp [spl]) (fun l x ih => ?_) l
  rw [spl_snoc]
  unfold splStep
  intro p hp
  split at hp
  · rcases List.mem_append.1 hp with hp | hp
    · exact ih p hp
    · simp at hp; subst hp; simp
  · rename_i hx
    have h := (spl_len 47 l).1
    rcases List.mem_or_eq_of_mem_set hp with hp | hp
    · exact ih p hp
    · subst hp
      intro y hy
      rcases List.mem_append.1 hy with hy | hy
      · refine ih ((spl 47 l).getD ((spl 47 l).length - 1) []) ?_ y hy
        rw [List.getD_eq_getElem?_getD, List.getElem?_eq_getElem (by omega)]
        exact List.getElem_mem _
      · simp at hy; subst hy; exact hx
theorem parts_in {l p : List UInt8} (h : p ∈ partsL l) : p ≠ [] ∧ p ≠ [46] ∧ ∀ x ∈ p, x ≠ 47 := by
  unfold partsL at h
  obtain ⟨h1, h2⟩ := List.mem_filter.1 h
  simp only [Bool.and_eq_true, Bool.not_eq_true', beq_eq_false_iff_ne, ne_eq] at h2
  exact ⟨h2.1, h2.2, spl_in l p h1⟩
/-- a path that ends in no slash. -/
theorem trimL_last {l : List UInt8} {x : UInt8} (h : l.getLast? = some x) (hx : x ≠ 47) : trimL l = l := by
  obtain ⟨a, rfl⟩ : ∃ a, l = a ++ [x] := by
    obtain ⟨ys, rfl⟩ := List.getLast?_eq_some_iff.1 h
    exact ⟨ys, rfl⟩
  rw [trimL_snoc, if_neg hx]
theorem join_last {l : List (List UInt8)} (hl : l ≠ []) (h : ∀ p ∈ l, p ≠ [] ∧ ∀ x ∈ p, x ≠ 47) : ∃ x, (Lib.join l [47]).getLast? = some x ∧ x ≠ 47 := by
  obtain ⟨a, p, rfl⟩ : ∃ a p, l = a ++ [p] := ⟨_, _, (List.dropLast_concat_getLast hl).symm⟩
  obtain ⟨h1, h2⟩ := h p (by simp)
  have h3 : ∃ pre, Lib.join (a ++ [p]) [47] = pre ++ p := by
    cases a with
    | nil => exact ⟨[], by rw [List.nil_append, join_one, List.nil_append]⟩
    | cons y r => exact ⟨Lib.join (y :: r) [47] ++ [47], by rw [join_snoc]; simp⟩
  obtain ⟨pre, h3⟩ := h3
  rw [h3]
  refine ⟨p.getLast h1, ?_, h2 _ (List.getLast_mem h1)⟩
  rw [List.getLast?_append, List.getLast?_eq_some_getLast h1]
  rfl
/-- a clean and whole path: the top, or one that ends in no slash. -/
def CleanW (l : List UInt8) : Prop := l = [47] ∨ (l.head? = some 47 ∧ trimL l = l)
theorem cl_in {w : Bool} {s p : List UInt8} (h : p ∈ clL w (partsL s)) : p ≠ [] ∧ ∀ x ∈ p, x ≠ 47 := by
  have h1 := parts_in (clL_mem h)
  exact ⟨h1.1, h1.2.2⟩
theorem clean_ne (s : List UInt8) : cleanL s ≠ [] := by
  unfold cleanL
  split
  · simp
  · split
    · simp
    · assumption
theorem clean_whole {s : List UInt8} (h : wholeB (cleanL s) = true) : wholeB s = true ∧ CleanW (cleanL s) := by
  by_cases hs : wholeB s = true
  · refine ⟨hs, ?_⟩
    unfold cleanL
    rw [if_pos hs]
    by_cases hl : clL true (partsL s) = []
    · rw [hl]; exact .inl rfl
    · obtain ⟨x, h1, h2⟩ := join_last hl (fun p hp => cl_in hp)
      refine .inr ⟨rfl, trimL_last (x := x) ?_ h2⟩
      rw [List.getLast?_cons, h1]
      rfl
  · exfalso
    unfold cleanL at h
    rw [if_neg hs] at h
    split at h
    · exact absurd h (by decide)
    · rename_i hj
      have hne : clL false (partsL s) ≠ [] := by
        intro e
        rw [e] at hj
        exact hj rfl
      obtain ⟨p, r, hpr⟩ := List.exists_cons_of_ne_nil hne
      have hp := cl_in (w := false) (s := s) (p := p) (by rw [hpr]; simp)
      rw [hpr, Lib.join_cons] at h
      obtain ⟨x, q, rfl⟩ := List.exists_cons_of_ne_nil hp.1
      unfold wholeB at h
      simp at h
      exact hp.2 x (by simp) h
/-- what the program leaves of a path that is inside. -/
theorem rel_same {a : List UInt8} (ha : CleanW a) : Lib.trimPrefix (a.drop (trimL a).length) [47] = [] := by
  rcases ha with rfl | ⟨-, h⟩
  · rfl
  · rw [h, List.drop_length]
    rfl
theorem rel_in {a b : List UInt8} (ha : CleanW a) (hb : CleanW b) (hne : a ≠ b) (hin : Lib.hasPrefix b (trimL a ++ [47]) = true) :
    Lib.trimPrefix (b.drop (trimL a).length) [47] = b.drop ((trimL a).length + 1) ∧ b.drop ((trimL a).length + 1) ≠ [] := by
  unfold Lib.hasPrefix at hin
  obtain ⟨r, hr⟩ := List.isPrefixOf_iff_prefix.1 hin
  have hd : b.drop (trimL a).length = 47 :: r := by
    rw [← hr, List.append_assoc, List.drop_append]
    simp
  have hd1 : b.drop ((trimL a).length + 1) = r := by
    rw [← List.drop_drop, hd]
    rfl
  refine ⟨?_, ?_⟩
  · rw [hd, hd1]
    unfold Lib.trimPrefix Lib.hasPrefix
    simp
  · rw [hd1]
    rintro rfl
    rw [List.append_nil] at hr
    rcases hb with rfl | ⟨-, hb⟩
    · have ht : trimL a = [] := by
        have := congrArg List.length hr
        simp at this
        exact this
      rcases ha with rfl | ⟨ha1, ha2⟩
      · exact hne rfl
      · rw [ht] at ha2
        rw [← ha2] at ha1
        simp at ha1
    · rw [← hr, trimL_snoc, if_pos rfl] at hb
      have h1 := trimL_len (trimL a)
      have h2 := congrArg List.length hb
      rw [List.length_append, List.length_singleton] at h2
      omega
def ptB : ByteArray := ByteArray.mk #[46]
def relB (base s : ByteArray) : ByteArray × Bool :=
  if wholeB (cleanB base).data.toList = true ∧ wholeB (cleanB s).data.toList = true ∧ insideB (cleanB base) (cleanB s) = true then
    (if cleanB base = cleanB s then ptB else str ((cleanB s).data.toList.drop ((trimL (cleanB base).data.toList).length + 1)), true)
  else (ByteArray.empty, false)
def joinB (a b : ByteArray) : ByteArray := if wholeB b.data.toList = true ∨ a = ByteArray.empty then cleanB b else cleanB (a ++ ByteArray.mk #[47] ++ b)
end Go.Proofs.YtaojpbgaengdpaaGreatDoor

/- Clean paths: ragpickerref03.Clean. -/
namespace Go.Proofs.YtaojpbgaengdpaaGreatDoor

open Go.RowKit

/-- one part more, as the reference asks. -/
theorem clS_other {whole : Bool} {out : List (List UInt8)} {p : List UInt8} (h : p ≠ ddB) : clS whole out p = out ++ [p] := by unfold clS; rw [if_pos h]
theorem clS_less {whole : Bool} {out : List (List UInt8)} (h : out ≠ []) (h2 : ∀ x, out.getLast? = some x → x ≠ ddB) : clS whole out ddB = out.dropLast := by
  unfold clS
  rw [if_neg (fun e => e rfl), if_pos]
  refine ⟨h, fun e => h2 _ e rfl⟩
theorem clS_stay {whole : Bool} {out : List (List UInt8)} (h : out = [] ∨ out.getLast? = some ddB) : clS whole out ddB = if whole then out else out ++ [ddB] := by
  unfold clS
  rw [if_neg (fun e => e rfl), if_neg]
  rintro ⟨h1, h2⟩
  exact h.elim h1 h2
theorem last_get {l : List (List UInt8)} (h : 0 < l.length) : l.getLast? = some l[l.length - 1] := by
  rw [List.getLast?_eq_getElem?, List.getElem?_eq_getElem (by omega)]
theorem join_take (l : List (List UInt8)) (k : Nat) (hk : k < l.length) : Lib.join (l.take (k + 1)) [47] = if k = 0 then l[k] else Lib.join (l.take k) [47] ++ [47] ++ l[k] := by
  rw [List.take_succ_eq_append_getElem hk]
  by_cases h : k = 0
  · subst h
    rw [if_pos rfl, List.take_zero, List.nil_append, join_one]
  · rw [if_neg h]
    obtain ⟨y, r, e⟩ : ∃ y r, l.take k = y :: r := by
      cases e : l.take k with
      | nil => have h3 := congrArg List.length e; rw [List.length_take, List.length_nil] at h3; omega
      | cons y r => exact ⟨y, r, rfl⟩
    rw [e, join_snoc]
    simp
set_option maxRecDepth 100000 in
set_option maxHeartbeats 4000000 in
/-- ragpickerref03.Clean. -/
theorem rclean_any (s : ByteArray) (w : World) (hs : s.size ≤ 100000) :
    Calls Tryz.prog 47 #[.string s] w fun e w' => e = .returned (.string (cleanB s)) ∧ Below w.heap.size w w' := by
  have HPt := Lib.hid (rparts_any s w hs)
  have hpl : ∀ x ∈ partsL s.data.toList, x.length ≤ 100000 := fun x hx => by
    have h1 := spl_size 47 s.data.toList x (List.mem_filter.1 hx).1
    have h2 : s.data.toList.length = s.size := Array.length_toList
    omega
  have hpn : (partsL s.data.toList).length ≤ 100001 := by
    have h1 := Nat.le_trans (List.length_filter_le (fun p => !(p == []) && !(p == [46])) (spl 47 s.data.toList)) (spl_len 47 s.data.toList).2
    have h2 : s.data.toList.length = s.size := Array.length_toList
    unfold partsL
    omega
  have HRs := Lib.hid (show cleanB s = str (if wholeB s.data.toList then 47 :: Lib.join (clL true (partsL s.data.toList)) [47] else if Lib.join (clL false (partsL s.data.toList)) [47] = [] then [46] else Lib.join (clL false (partsL s.data.toList)) [47]) from rfl)
  have HW0 := Lib.hid (show wholeB s.data.toList = (decide (0 < s.size) && (if h : 0 < s.size then decide (s[0] = 47) else false)) by
    obtain ⟨⟨l⟩⟩ := s
    cases l with
    | nil => rfl
    | cons x l => rfl)
  generalize partsL s.data.toList = ls at HPt HRs hpl hpn
  generalize cleanB s = R at HRs ⊢
  generalize wholeB s.data.toList = wh at HRs HW0
  have HPl := Lib.hid hpl
  clear hpl
  have hjl : ∀ (b : Bool) (k : Nat), (Lib.join ((clL b ls).take k) [47]).length ≤ 100001 * 100001 := fun b k => by
    have h1 := join_len 100000 ((clL b ls).take k) (fun x hx => HPl.out x (clL_mem (List.mem_of_mem_take hx)))
    have h2 := clL_len b ls
    have h3 : ((clL b ls).take k).length ≤ 100001 := by rw [List.length_take]; omega
    exact Nat.le_trans h1 (Nat.mul_le_mul h3 (by omega))
  have HJl := Lib.hid hjl
  clear hjl
  have key : wh = true ∧ (∃ h : 0 < s.size, s[0] = 47) ∨ wh = false ∧ ∀ h : 0 < s.size, s[0] ≠ 47 := by
    rw [HW0.out]
    by_cases h : 0 < s.size
    · by_cases h2 : s[0] = 47
      · exact .inl ⟨by simp [h, h2], h, h2⟩
      · exact .inr ⟨by simp [h, h2], fun _ => h2⟩
    · exact .inr ⟨by simp [h], fun h' => absurd h' h⟩
  have hfst : ∃ v : Value, v = .bool wh := ⟨_, rfl⟩
  go_enter Tryz.func47, Tryz.ntmps47
  go_upto_region 1 with fail
  go_cut [3] (fun t3 wx => t3 = .bool wh ∧ wx = w)
  case first =>
    rcases key with ⟨rfl, h0, h1⟩ | ⟨rfl, h1⟩
    · have h2 : (((s[0] : UInt8).toNat : Int) == 47) = true := by rw [h1]; rfl
      go_wp2_with fail
      go_meet
      exact ⟨rfl, rfl⟩
    · by_cases h0 : 0 < s.size
      · have h2 : (((s[0] : UInt8).toNat : Int) == 47) = false := by
          simp only [beq_eq_false_iff_ne, ne_eq]
          intro h
          exact h1 h0 (by rw [u8_eq]; show (s[0] : UInt8).toNat = 47; omega)
        go_wp2_with fail
        go_meet
        exact ⟨rfl, rfl⟩
      · go_wp2_with fail
        go_meet
        exact ⟨rfl, rfl⟩
  case rest =>
    obtain ⟨rfl, rfl⟩ := hcut
    clear key hfst HW0
    go_wp2_with fail
    refine HPt.out.mono ?_
    rintro e w1 ⟨⟨pv, rfl, hO⟩, hb1⟩
    obtain ⟨a0, c0, rfl, -, -⟩ := hO.len
    have HO := Lib.hid hO
    have HB := Lib.hid hb1
    clear hO hb1
    go_wp2_with fail
    go_loopw [4, 6] (fun t4 t6 wr => ∃ (k : Nat), k ≤ ls.length ∧ t6 = .int .i64 k ∧ OS wr w1.heap.size t4 (clL wh (ls.take k)) ∧ Below w1.heap.size w1 wr) (fun _ t6 _ => ls.length - (intOf t6).toNat)
    case atStart => exact ⟨0, Nat.zero_le _, rfl, ⟨rfl, .inl ⟨rfl, rfl⟩⟩, Below.refl _ _⟩
    case round =>
      obtain ⟨k, hk, rfl, hO1, hW⟩ := hrel
      obtain ⟨a1, c1, rfl, hc1, hc2⟩ := hO1.len
      have HW := Lib.hid hW
      by_cases hlt : k < ls.length
      · obtain ⟨g, rfl, hgl, hcl⟩ := (HO.out.keep2 hW).at' k hlt
        have HSt := Lib.hid (show clL wh (ls.take (k + 1)) = clS wh (clL wh (ls.take k)) ls[k] by rw [List.take_succ_eq_append_getElem hlt, clL_snoc])
        have hol : (clL wh (ls.take k)).length ≤ 100001 := by
          have h1 := clL_len wh (ls.take k)
          have h2 : (ls.take k).length ≤ ls.length := by rw [List.length_take]; omega
          omega
        obtain ⟨g2, cap2, W, hrun, hO2, hB2⟩ := hO1.app ls[k] (by omega) hW.size
        have HO1 := Lib.hid hO1
        have HX := Lib.hid (And.intro hO2 hB2)
        have HTx := Lib.hid (ba_list (str ls[k]))
        rw [str_list] at HTx
        clear hO2 hB2
        generalize ls[k] = x at hcl HSt hrun HX HTx
        generalize clL wh (ls.take k) = out at HSt hrun HX HO1 hO1 hol hc1
        generalize str x = p at hcl hrun HTx
        have HR := Lib.hid hrun
        clear hrun
        by_cases hx : p.toList = [46, 46]
        · have hp : (p.toList == [46, 46]) = true := by simpa using hx
          obtain rfl : x = ddB := by rw [← HTx.out, hx]; rfl
          clear hx
          by_cases hstay : out = [] ∨ out.getLast? = some ddB
          · have HSt2 := Lib.hid (HSt.out.trans (clS_stay hstay))
            have hfacts : out = [] ∨ ((0 : Int) < (out.length : Int) ∧ ∃ (g3 : Nat) (q : ByteArray), a1 = some ⟨g3, 0, none⟩ ∧ g3 < wr.heap.size ∧ wr.cell? ⟨g3, out.length - 1, none⟩ = some (.string q) ∧ (q.toList == [46, 46]) = true) := by
              by_cases h0 : out.length = 0
              · left; exact List.eq_nil_of_length_eq_zero h0
              · right
                refine ⟨by omega, ?_⟩
                obtain ⟨g3, h1, h2, h3⟩ := hO1.at' (out.length - 1) (by omega)
                refine ⟨g3, _, h1, h2, h3, ?_⟩
                rcases hstay with h | h
                · subst h; exact absurd rfl h0
                · rw [last_get (by omega)] at h
                  injection h with h
                  rw [h, ba_list, str_list]
                  rfl
            clear hstay hO1
            rcases hfacts with rfl | ⟨hz, g3, q, rfl, hg3, hcl3, hq⟩
            · simp only [List.length_nil] at HR HX HO1 ⊢
              cases wh
              · go_wp2_with (at_builtin; refine wpList_app_run rfl rfl rfl rfl HR.out ?_)
                go_roundw
                case measure => simp [intOf]; omega
                case rel => exact ⟨k + 1, by omega, by go_num, by rw [HSt2.out]; exact HX.out.1, HW.out.trans HX.out.2⟩
              · go_wp2_with fail
                go_roundw
                case measure => simp [intOf]; omega
                case rel => exact ⟨k + 1, by omega, by go_num, by rw [HSt2.out]; exact HO1.out, HW.out⟩
            · cases wh
              · go_wp2_with (at_builtin; refine wpList_app_run rfl rfl rfl rfl HR.out ?_)
                go_roundw
                case measure => simp [intOf]; omega
                case rel => exact ⟨k + 1, by omega, by go_num, by rw [HSt2.out]; exact HX.out.1, HW.out.trans HX.out.2⟩
              · go_wp2_with fail
                go_roundw
                case measure => simp [intOf]; omega
                case rel => exact ⟨k + 1, by omega, by go_num, by rw [HSt2.out]; exact HO1.out, HW.out⟩
          · have hne : out ≠ [] := fun e => hstay (.inl e)
            have h0 : 0 < out.length := List.length_pos_iff.2 hne
            have hz : (0 : Int) < (out.length : Int) := by omega
            have HSt2 := Lib.hid (HSt.out.trans (clS_less hne (fun y hy e => hstay (.inr (by rw [hy, e])))))
            have HL := Lib.hid (hO1.less hne)
            have hdl : out.dropLast.length = out.length - 1 := List.length_dropLast
            obtain ⟨g3, rfl, hg3, hcl3⟩ := hO1.at' (out.length - 1) (by omega)
            have hq : ((str out[out.length - 1]).toList == [46, 46]) = false := by
              rw [ba_list, str_list]
              simp only [beq_eq_false_iff_ne, ne_eq]
              intro e
              exact hstay (.inr (by rw [last_get h0, e]; rfl))
            generalize str out[out.length - 1] = q at hcl3 hq
            clear hstay hO1 hne hdl
            go_wp2_with fail
            go_roundw
            case measure => simp [intOf]; omega
            case rel => exact ⟨k + 1, by omega, by go_num, by rw [HSt2.out]; exact HL.out, HW.out⟩
        · have hp : (p.toList == [46, 46]) = false := by simpa using hx
          have HSt2 := Lib.hid (HSt.out.trans (clS_other (fun e => hx (by rw [HTx.out, e]; rfl))))
          clear hx hO1
          go_wp2_with (at_builtin; refine wpList_app_run rfl rfl rfl rfl HR.out ?_)
          go_roundw
          case measure => simp [intOf]; omega
          case rel => exact ⟨k + 1, by omega, by go_num, by rw [HSt2.out]; exact HX.out.1, HW.out.trans HX.out.2⟩
      · obtain rfl : k = ls.length := by omega
        rw [List.take_length] at hO1 hc1 ⊢
        have hol : (clL wh ls).length ≤ 100001 := Nat.le_trans (clL_len wh ls) hpn
        have HJ2 := Lib.hid (HJl.out wh)
        have HRs2 := Lib.hid (show R = str (if wh = true then 47 :: Lib.join (clL wh ls) [47] else if Lib.join (clL wh ls) [47] = [] then [46] else Lib.join (clL wh ls) [47]) by
          rw [HRs.out]
          cases wh <;> rfl)
        clear HRs HJl hpn HPl
        generalize clL wh ls = out at hO1 hol HJ2 HRs2 hc1 ⊢
        have HO2 := Lib.hid hO1
        clear hO1
        go_wp2_with fail
        go_loopw [7, 8] (fun t7 t8 w2 => ∃ (j : Nat), j ≤ out.length ∧ t8 = .int .i64 j ∧ t7 = .string (str (Lib.join (out.take j) [47])) ∧ w2 = wr) (fun _ t8 _ => out.length - (intOf t8).toNat)
        case atStart => exact ⟨0, Nat.zero_le _, rfl, rfl, rfl⟩
        case round =>
          obtain ⟨j, hj, rfl, rfl, rfl⟩ := hrel
          have hts : (str (Lib.join (out.take j) [47])).size ≤ 100001 * 100001 := by rw [str_size]; exact HJ2.out j
          by_cases hjl : j < out.length
          · obtain ⟨g3, rfl, hg3, hcl3⟩ := HO2.out.at' j hjl
            have HJn := Lib.hid (join_take out j hjl)
            have hns : (str (Lib.join (out.take (j + 1)) [47])).size ≤ 100001 * 100001 := by rw [str_size]; exact HJ2.out (j + 1)
            have HA := Lib.hid (show (str (Lib.join (out.take (j + 1)) [47])) = if j = 0 then str out[j] else str (Lib.join (out.take j) [47]) ++ ByteArray.mk #[47] ++ str out[j] by
              rw [HJn.out]
              split
              · rfl
              · rw [← str_append, ← str_append]; rfl)
            clear HJn
            have HZ := Lib.hid (show j = 0 → str (Lib.join (out.take j) [47]) = ByteArray.empty by rintro rfl; rfl)
            rw [HA.out] at hns
            generalize str (Lib.join (out.take j) [47]) = tj at HA HZ hts hns ⊢
            generalize str out[j] = q at hcl3 HA hns
            by_cases hj0 : j = 0
            · rw [if_pos hj0] at HA hns
              have HZ2 := Lib.hid (HZ.out hj0)
              clear HZ
              subst hj0
              have hs1 : ¬ 9223372036854775807 < tj.size + q.size := by omega
              go_wp2_with fail
              go_roundw
              case measure => simp [intOf]; omega
              case rel => exact ⟨0 + 1, by omega, by go_num, by rw [HA.out, HZ2.out]; simp, by trivial⟩
            · rw [if_neg hj0] at HA hns
              have hs2 : tj.size + 1 + q.size ≤ 100001 * 100001 := by
                rw [ByteArray.size_append, ByteArray.size_append] at hns
                exact hns
              have hj1 : (0 : Int) < (j : Int) := by omega
              have hs0 : ¬ 9223372036854775807 < tj.size + 1 := by omega
              have hs1 : ¬ 9223372036854775807 < (tj ++ ByteArray.mk #[47]).size + q.size := by rw [ByteArray.size_append]; show ¬ 9223372036854775807 < tj.size + 1 + q.size; omega
              go_wp2_with fail
              go_roundw
              case measure => simp [intOf]; omega
              case rel => exact ⟨j + 1, by omega, by go_num, by rw [HA.out], by trivial⟩
          · obtain rfl : j = out.length := by omega
            rw [List.take_length] at hts ⊢
            have HTl := Lib.hid (ba_list (str (Lib.join out [47])))
            rw [str_list] at HTl
            have HStr := Lib.hid (show str (47 :: Lib.join out [47]) = ByteArray.mk #[47] ++ str (Lib.join out [47]) by rw [show (47 :: Lib.join out [47]) = [47] ++ Lib.join out [47] from rfl, ← str_append]; rfl)
            generalize hJ : Lib.join out [47] = jn at *
            generalize str jn = tj at *
            cases wh with
            | true =>
              have hs1 : ¬ 9223372036854775807 < 1 + tj.size := by omega
              go_wp2_with fail
              go_ret
              have h : R = ByteArray.mk #[47] ++ tj := by rw [HRs2.out, ← HStr.out]; simp
              exact ⟨by rw [h]; rfl, bnext HB.out HW.out⟩
            | false =>
              by_cases hte : tj.toList = []
              · have HE := Lib.hid (show jn = [] by rw [← HTl.out, hte])
                go_wp2_with fail
                go_ret
                have h : R = ByteArray.mk #[46] := by rw [HRs2.out, HE.out]; rfl
                exact ⟨by rw [h]; rfl, bnext HB.out HW.out⟩
              · have hp1 : tj.toList.isEmpty = false := by simpa using hte
                have HE := Lib.hid (show ¬ jn = [] by rw [← HTl.out]; exact hte)
                have HTs := Lib.hid (show str jn = tj by rw [← HTl.out, ba_list, str_of])
                clear hte
                go_wp2_with fail
                go_ret
                have h : R = tj := by rw [HRs2.out, ← HTs.out]; simp [HE.out]
                exact ⟨by rw [h]; rfl, bnext HB.out HW.out⟩
end Go.Proofs.YtaojpbgaengdpaaGreatDoor
