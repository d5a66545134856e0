/- Texts of the proof, part 5. -/
import Derived.Test.YtaojpbgaengdpaaGreatDoorDO4
import Derived.Test.YtaojpbgaengdpaaGreatDoorDO2
import Derived.Test.YtaojpbgaengdpaaGreatDoorDU41
import Derived.Test.YtaojpbgaengdpaaGreatDoorDU44
import Derived.Test.YtaojpbgaengdpaaGreatDoorDU32
import Derived.Test.YtaojpbgaengdpaaGreatDoorDU24
import Derived.Test.YtaojpbgaengdpaaGreatDoorDU3
set_option linter.unusedVariables false
set_option linter.unusedSimpArgs false
/- Rows of a tree lie in order, purely: what the statement asks. -/
namespace Go.Proofs.YtaojpbgaengdpaaGreatDoor

open Go.RowKit

/-- a path, its directory, its last part. -/
def SplitOk (s d m : ByteArray) : Prop := (s = pth [] ∧ d = pth [] ∧ m = ByteArray.empty) ∨ ∃ (p : List (List UInt8)) (x : List UInt8), (∀ q ∈ p ++ [x], GoodN q) ∧ s = pth (p ++ [x]) ∧ d = pth p ∧ m = str x
theorem snoc_of {α : Type} (l : List α) (h : l ≠ []) : ∃ p x, l = p ++ [x] := ⟨_, _, (List.dropLast_concat_getLast h).symm⟩
section

variable {S : Fs} {vis : VisT}

theorem mk_get (i : Nat) (hi : i < (mkOut vis).length) : ∃ y, vis[i]? = some y ∧ y ∈ vis ∧ (mkOut vis)[i] = y.2.rw (pth y.1) ((vis.map (·.2.no)).idxOf y.2.no : Nat) := by
  have hv : i < vis.length := by rw [← mkOut_len]; exact hi
  refine ⟨vis[i], List.getElem?_eq_getElem hv, List.getElem_mem hv, ?_⟩
  simp only [mkOut, List.getElem_map]
theorem idx_le (nos : List Int) (i : Nat) (hi : i < nos.length) : nos.idxOf nos[i] ≤ i := by
  obtain ⟨k, hk⟩ : ∃ k, nos[i] = k := ⟨_, rfl⟩
  have h1 : nos = nos.take i ++ nos[i] :: nos.drop (i + 1) := by rw [← List.drop_eq_getElem_cons hi, List.take_append_drop]
  have h2 : (nos.take i).length = i := by rw [List.length_take]; omega
  rw [hk] at h1 ⊢
  rw [h1, List.idxOf_append]
  split
  · rename_i hm
    have := List.idxOf_lt_length_of_mem hm
    omega
  · rw [List.idxOf_cons, h2]
    simp
theorem ord_ne (h : OrdSt S vis []) {i k : Nat} {y z : List (List UInt8) × An} (hy : vis[i]? = some y) (hz : vis[k]? = some z) (hki : k < i) : OrdR z.1 y.1 := by
  have ho := h.ord
  rw [List.map_nil, List.append_nil, List.pairwise_map] at ho
  obtain ⟨h1, rfl⟩ := List.getElem?_eq_some_iff.1 hy
  obtain ⟨h2, rfl⟩ := List.getElem?_eq_some_iff.1 hz
  exact List.pairwise_iff_getElem.1 ho k i h2 h1 hki
theorem ord_top (h : OrdSt S vis []) {y : List (List UInt8) × An} (hy : vis[0]? = some y) : y.1 = [] := by
  by_cases hn : y.1 = []
  · exact hn
  · obtain ⟨p, x, he⟩ := snoc_of _ hn
    obtain ⟨k, z, hk, -⟩ := h.par 0 y hy p x he
    omega
theorem ord_low (h : OrdSt S vis []) {i : Nat} (hi : 1 ≤ i) {y : List (List UInt8) × An} (hy : vis[i]? = some y) : y.1 ≠ [] := by
  have h0 : 0 < vis.length := by
    have := (List.getElem?_eq_some_iff.1 hy).1
    omega
  have ht := ord_top h (List.getElem?_eq_getElem h0)
  have hr := (ord_ne h hy (List.getElem?_eq_getElem h0) (by omega)).1
  rw [ht] at hr
  exact fun e => hr e.symm
theorem ord_split (h : OrdSt S vis []) (i : Nat) (hi : i < (mkOut vis).length) : ∃ d m, SplitOk (mkOut vis)[i].path d m := by
  obtain ⟨y, hy, hm, he⟩ := mk_get i hi
  rw [he]
  by_cases hn : y.1 = []
  · exact ⟨pth [], ByteArray.empty, .inl ⟨by show pth y.1 = _; rw [hn], rfl, rfl⟩⟩
  · obtain ⟨p, x, hx⟩ := snoc_of _ hn
    refine ⟨pth p, str x, .inr ⟨p, x, ?_, by show pth y.1 = _; rw [hx], rfl, rfl⟩⟩
    rw [← hx]
    exact h.vgood y hm
theorem ord_facts (h : OrdSt S vis []) (i : Nat) (hi1 : 1 ≤ i) (hi : i < (mkOut vis).length) : ∃ d m, SplitOk (mkOut vis)[i].path d m ∧ checkE m = 0 ∧ m.size ≤ 255 ∧
    (∃ (k : Nat) (hk : k < i), ((mkOut vis)[k]'(by omega)).path = d) ∧ (∀ (k : Nat) (hk : k < i), ((mkOut vis)[k]'(by omega)).path = d → ((mkOut vis)[k]'(by omega)).kind = 1) ∧
    (∀ (k : Nat) (hk : k < i), 1 ≤ k → ∀ m', SplitOk ((mkOut vis)[k]'(by omega)).path d m' → Op.bytesLess m'.toList m.toList = true) := by
  obtain ⟨y, hy, hm, he⟩ := mk_get i hi
  obtain ⟨p, x, hx⟩ := snoc_of _ (ord_low h hi1 hy)
  have hg : ∀ q ∈ p ++ [x], GoodN q := by rw [← hx]; exact h.vgood y hm
  have hgp : ∀ q ∈ p, GoodN q := fun q hq => hg q (List.mem_append_left _ hq)
  have hc := (hg x (by simp)).chk
  obtain ⟨k0, z0, hk0, hz0, hzp, hzk⟩ := h.par i y hy p x hx
  refine ⟨pth p, str x, .inr ⟨p, x, hg, by rw [he]; show pth y.1 = _; rw [hx], rfl, rfl⟩, hc, ?_, ⟨k0, hk0, ?_⟩, fun k hk hp => ?_, fun k hk hk1 m' hs => ?_⟩
  · unfold checkE at hc
    split at hc
    · cases hc
    · split at hc
      · cases hc
      · omega
  · obtain ⟨z, hz, -, hze⟩ := mk_get (vis := vis) k0 (by omega)
    rw [hz0] at hz
    injection hz with hz
    subst hz
    rw [hze]
    show pth z0.1 = _
    rw [hzp]
  · obtain ⟨z, hz, hzm, hze⟩ := mk_get (vis := vis) k (by omega)
    rw [hze] at hp ⊢
    have hp2 : z.1 = p := pth_inj (h.vgood z hzm) hgp hp
    rcases Nat.lt_trichotomy k k0 with hlt | heq | hgt
    · exact absurd (hp2.trans hzp.symm) (ord_ne h hz0 hz hlt).1
    · subst heq
      rw [hz0] at hz
      injection hz with hz
      subst hz
      exact hzk
    · exact absurd (hzp.trans hp2.symm) (ord_ne h hz hz0 hgt).1
  · obtain ⟨z, hz, hzm, hze⟩ := mk_get (vis := vis) k (by omega)
    rw [hze] at hs
    have hzg := h.vgood z hzm
    rcases hs with ⟨h1, -, -⟩ | ⟨p', x', hg', h1, h2, h3⟩
    · exact absurd (pth_inj hzg (fun q hq => by cases hq) h1) (ord_low h hk1 hz)
    · have e1 : z.1 = p' ++ [x'] := pth_inj hzg hg' h1
      have e2 : p = p' := pth_inj hgp (fun q hq => hg' q (List.mem_append_left _ hq)) h2
      subst e2
      have := (ord_ne h hy hz hk).2 p x' x e1 hx
      rw [h3, ba_list, ba_list, str_list, str_list]
      exact this
theorem ord_first (h : OrdSt S vis []) (i : Nat) (hi : i < (mkOut vis).length) : ∃ (j : Nat) (hj : j ≤ i), (mkOut vis)[i].first = (j : Int) ∧ ((mkOut vis)[j]'(by omega)).data = (mkOut vis)[i].data := by
  obtain ⟨y, hy, hm, he⟩ := mk_get i hi
  have hv : i < vis.length := by rw [← mkOut_len]; exact hi
  have hyv : vis[i] = y := by
    rw [List.getElem?_eq_getElem hv] at hy
    injection hy
  have hle : (vis.map (·.2.no)).idxOf y.2.no ≤ i := by
    have h1 : (vis.map (·.2.no))[i]'(by rw [List.length_map]; exact hv) = y.2.no := by rw [List.getElem_map, hyv]
    have h2 := idx_le (vis.map (·.2.no)) i (by rw [List.length_map]; exact hv)
    rwa [h1] at h2
  refine ⟨_, hle, by rw [he]; rfl, ?_⟩
  obtain ⟨z, hz, hzm, hze⟩ := mk_get (vis := vis) ((vis.map (·.2.no)).idxOf y.2.no) (by omega)
  have hmem : y.2.no ∈ vis.map (·.2.no) := List.mem_map.2 ⟨y, hm, rfl⟩
  have h4 := List.idxOf_lt_length_of_mem hmem
  have hno : z.2.no = y.2.no := by
    have h5 : (vis.map (·.2.no))[(vis.map (·.2.no)).idxOf y.2.no] = y.2.no := List.getElem_idxOf h4
    rw [List.getElem_map] at h5
    have h6 := (List.getElem?_eq_some_iff.1 hz).2
    rw [h6] at h5
    exact h5
  have hzy : z.2 = y.2 := by
    have h7 := h.get z hzm
    rw [hno, h.get y hm] at h7
    injection h7 with h7
    exact h7.symm
  rw [hze, he]
  show z.2.data = y.2.data
  rw [hzy]
end

theorem rowsN_len (S : Fs) : ∀ (f : Nat) (todo : List En) (nos : List Int) (out : List Rw), (S.rowsN f todo nos out).length ≤ out.length + f
  | 0, _, _, _ => Nat.le_refl _
  | f + 1, [], _, _ => by rw [rows_nil]; omega
  | f + 1, x :: todo, nos, out => by
    cases hg : S.get (S.over x.no) with
    | none =>
      rw [rows_none hg]
      have := rowsN_len S f todo nos out
      omega
    | some n =>
      rw [rows_some hg]
      have := rowsN_len S f (kidsL x.name n ++ todo) (nos ++ [n.no]) (out ++ [n.rw x.name (nos.idxOf n.no)])
      rw [List.length_append, List.length_singleton] at this
      omega
/-- rows in order. -/
structure OrderP (L : List Rw) (Z : Nat) : Prop where
  size : ∀ r ∈ L, r.path.size ≤ Z
  same : atL L (ByteArray.mk #[47]) (ByteArray.mk #[47]) = L
  facts : ∀ (i : Nat) (_ : 1 ≤ i) (hi : i < L.length), ∃ d m, SplitOk L[i].path d m ∧ checkE m = 0 ∧ m.size ≤ 255 ∧
    (∃ (k : Nat) (hk : k < i), (L[k]'(by omega)).path = d) ∧ (∀ (k : Nat) (hk : k < i), (L[k]'(by omega)).path = d → (L[k]'(by omega)).kind = 1) ∧
    (∀ (k : Nat) (hk : k < i), 1 ≤ k → ∀ m', SplitOk (L[k]'(by omega)).path d m' → Op.bytesLess m'.toList m.toList = true)
  split : ∀ (i : Nat) (hi : i < L.length), ∃ d m, SplitOk L[i].path d m
  first : ∀ (i : Nat) (hi : i < L.length), ∃ (j : Nat) (hj : j ≤ i), L[i].first = (j : Int) ∧ (L[j]'(by omega)).data = L[i].data
  pos : 0 < L.length
theorem rows_order {S : Fs} {N : Nat} (hk : FsOk S N) (hp : Pl S) (ht : Tr S) (hn : Nm S) : OrderP (S.rows N 1 (ByteArray.mk #[47])) (1 + 256 * (S.last.toNat + 1)) ∧ (S.rows N 1 (ByteArray.mk #[47])).length ≤ S.rowsF N := by
  refine ⟨?_, Nat.le_trans (rowsN_len S _ _ _ _) (by simp)⟩
  have hz := rows_size hk hp ht (S.rowsF N) [⟨ByteArray.mk #[47], 1⟩] [] [] (TrSt.start S N 1 (ByteArray.mk #[47])) (fun r hr => by cases hr)
  have hz : ∀ r ∈ S.rows N 1 (ByteArray.mk #[47]), r.path.size ≤ 1 + 256 * (S.last.toNat + 1) := hz
  obtain ⟨vis, h1, h2, h3⟩ := rows_ord hk hp ht hn
  rw [h2] at hz ⊢
  exact ⟨hz, at_same h1, ord_facts h1, ord_split h1, ord_first h1, by rw [mkOut_len]; exact List.length_pos_iff.2 h3⟩
end Go.Proofs.YtaojpbgaengdpaaGreatDoor

/- The reference's Split, of clean and whole paths. -/
namespace Go.Proofs.YtaojpbgaengdpaaGreatDoor

open Go.RowKit

theorem ba_get (s : ByteArray) (i : Nat) (h : i < s.size) : s[i] = s.data.toList[i]'(by rw [Array.length_toList]; exact h) := by
  rw [Array.getElem_toList]
  rfl
theorem ba_extr (s : ByteArray) (i j : Nat) (h : j = s.size) : s.extract i j = str (s.data.toList.drop i) := by
  subst h
  rw [← str_of (s.extract i s.size), ByteArray.data_extract, Array.toList_extract, List.extract_eq_take_drop]
  congr 1
  refine List.take_of_length_le ?_
  rw [List.length_drop]
  have h2 : s.data.toList.length = s.size := Array.length_toList
  omega
theorem ba_pre (s : ByteArray) (j : Nat) : s.extract 0 j = str (s.data.toList.take j) := by
  rw [← str_of (s.extract 0 j), ByteArray.data_extract, Array.toList_extract, List.extract_eq_take_drop]
  simp
set_option maxRecDepth 100000 in
set_option maxHeartbeats 1000000 in
theorem rsplit_any (s d m : ByteArray) (h : SplitOk s d m) (w : World) (hs : s.size ≤ 90000) :
    Calls Tryz.prog 15 #[.string s] w fun e w' => e = .returned (.tuple #[.string d, .string m]) ∧ Below w.heap.size w w' := by
  have HC := Lib.hid (fun w => rclean_any s w (by omega))
  rcases h with ⟨rfl, rfl, rfl⟩ | ⟨p, x, hg, h1, h2, h3⟩
  · rw [cleanB_pth (fun p hp => by cases hp)] at HC
    rw [pth_nil] at HC ⊢
    go_enter Tryz.func15, Tryz.ntmps15
    go_wp2_with fail
    refine (HC.out _).mono ?_
    rintro e w1 ⟨rfl, hb1⟩
    go_wp2_with fail
    go_ret2
    exact ⟨rfl, hb1⟩
  · have hc : cleanB s = s := by rw [h1]; exact cleanB_pth hg
    rw [hc] at HC
    obtain ⟨pre, hpre⟩ : ∃ pre, (if p = [] then [] else pthL p) = pre := ⟨_, rfl⟩
    have hL : s.data.toList = pre ++ 47 :: x := by
      rw [h1]
      unfold pth
      rw [str_list, pthL_snoc, hpre]
    have hx := (hg x (by simp)).no
    have hxne := (hg x (by simp)).ne
    have hsz : s.size = pre.length + 1 + x.length := by
      have h2 : s.data.toList.length = s.size := Array.length_toList
      rw [← h2, hL, List.length_append, List.length_cons]
      omega
    have hxl : 0 < x.length := List.length_pos_iff.2 hxne
    have hl : s.toList = pre ++ 47 :: x := by rw [ba_list]; exact hL
    have e1 : (s.toList == [47]) = false := by
      rw [hl]
      simp only [beq_eq_false_iff_ne, ne_eq]
      intro e
      have := congrArg List.length e
      rw [List.length_append, List.length_cons, List.length_singleton] at this
      omega
    have e2 : (s.toList == [46]) = false := by
      rw [hl]
      simp only [beq_eq_false_iff_ne, ne_eq]
      intro e
      have := congrArg List.length e
      rw [List.length_append, List.length_cons, List.length_singleton] at this
      omega
    have HG := Lib.hid (fun (k : Nat) (hk : k < s.size) => show (k = pre.length → s[k] = 47) ∧ (pre.length < k → s[k] ≠ 47) by
      rw [ba_get s k hk]
      refine ⟨fun e => ?_, fun e => ?_⟩
      · subst e
        simp only [hL]
        rw [List.getElem_append_right (Nat.le_refl _)]
        simp
      · simp only [hL]
        rw [List.getElem_append_right (by omega)]
        obtain ⟨q, hq⟩ : ∃ q, k - pre.length = q + 1 := ⟨k - pre.length - 1, by omega⟩
        simp only [hq, List.getElem_cons_succ]
        exact hx _ (List.getElem_mem _))
    have HM := Lib.hid (show s.extract (pre.length + 1) s.size = m by
      rw [ba_extr _ _ _ rfl, hL, h3]
      congr 1
      rw [List.drop_append]
      simp)
    have HD := Lib.hid (show (pre = [] → d = ByteArray.mk #[47]) ∧ (pre ≠ [] → s.extract 0 pre.length = d) by
      refine ⟨fun e => ?_, fun e => ?_⟩
      · have : p = [] := by
          by_cases hp : p = []
          · exact hp
          · rw [if_neg hp] at hpre
            unfold pthL at hpre
            rw [e] at hpre
            cases hpre
        rw [h2, this]
        rfl
      · rw [ba_pre, hL, h2, List.take_left]
        by_cases hp : p = []
        · rw [if_pos hp] at hpre
          exact absurd hpre.symm e
        · rw [if_neg hp] at hpre
          unfold pth
          rw [hpre])
    have HPn := Lib.hid (show pre = [] ↔ pre.length = 0 from List.length_eq_zero_iff.symm)
    generalize pre.length = q at HG HM HD HPn hsz
    have HSz := Lib.hid (show q < s.size by omega)
    clear hsz hxl
    clear hc hpre hL hx hxne hl h1 h2 h3 hg
    go_enter Tryz.func15, Tryz.ntmps15
    go_wp2_with fail
    refine (HC.out _).mono ?_
    rintro e w1 ⟨rfl, hb1⟩
    have HB1 := Lib.hid hb1
    clear hb1
    go_wp2_with fail
    clear e1 e2
    go_loop [5, 6] (fun t5 t6 => ∃ (k : Nat) (v : Int), k ≤ s.size ∧ t6 = .int .i64 k ∧ t5 = .int .i64 v ∧ (q < k → v = q)) (fun _ t6 => s.size - (intOf t6).toNat)
    case atStart => exact ⟨0, -1, Nat.zero_le _, rfl, rfl, fun h => by omega⟩
    case round =>
      obtain ⟨k, v, hk, rfl, rfl, hv⟩ := hrel
      have HV := Lib.hid hv
      clear hv
      by_cases hlt : k < s.size
      · obtain ⟨g1, g2⟩ := HG.out k hlt
        by_cases h47 : s[k] = 47
        · have hc1 := u8_is h47
          have HK := Lib.hid (show ¬ q < k from fun h => g2 h h47)
          clear g1 g2 h47
          go_wp2_with fail
          go_round
          case measure => simp [intOf]; omega
          case rel => exact ⟨k + 1, k, by omega, by go_num, rfl, fun h => by have := HK.out; omega⟩
        · have hc1 := u8_isnt h47
          have HK := Lib.hid (show k ≠ q from fun h => h47 (g1 h))
          clear g1 g2 h47
          go_wp2_with fail
          go_round
          case measure => simp [intOf]; omega
          case rel => exact ⟨k + 1, v, by omega, by go_num, rfl, fun h => HV.out (by have := HK.out; omega)⟩
      · obtain rfl : k = s.size := by omega
        have hqs := HSz.out
        have hvq : v = q := HV.out hqs
        subst hvq
        have hq0 : ¬ (q : Int) < 0 := by omega
        by_cases hqz : q = 0
        · subst hqz
          have HDd := Lib.hid (HD.out.1 (HPn.out.2 rfl))
          have hq1 : (1 : Int) ≤ (s.size : Int) := by omega
          have HMm := Lib.hid HM.out
          clear hlt hk
          go_wp2_with fail
          go_quiet (fail)
          go_wp2_with fail
          go_ret2
          exact ⟨by rw [HDd.out, ← HMm.out]; rfl, below_drewN HB1.out _⟩
        · have HDd := Lib.hid (HD.out.2 (fun e => hqz (HPn.out.1 e)))
          have hq1 : ¬ (q : Int) = 0 := by omega
          have hq2 : ((q : Int) == 0) = false := by simpa using hq1
          have hq3 : (q : Int) ≤ (s.size : Int) := by omega
          have hq4 : (q : Int) + 1 ≤ (s.size : Int) := by omega
          clear hlt hk
          go_wp2_with fail
          go_quiet (fail)
          go_wp2_with fail
          go_ret2
          exact ⟨by rw [← HDd.out, ← HM.out]; rfl, below_drewN HB1.out _⟩
end Go.Proofs.YtaojpbgaengdpaaGreatDoor

/- The statement DumpOrder's function. -/
namespace Go.Proofs.YtaojpbgaengdpaaGreatDoor

open Go.RowKit

set_option maxRecDepth 100000 in
set_option maxHeartbeats 8000000 in
theorem dumpOrder_any (w : World) {ma : Option Addr} {mn mc : Nat} {ia : Option Addr} {il ic : Nat} {ms : List Mt} {is : List It} (h : SdAt w ma mn mc ia il ic ms is) :
    Calls Tryz.prog 4 #[.agg #[.slice ma mn mc, .slice ia il ic]] w fun e w' => e = .returned (.bool true) ∧ Below w.heap.size w w' := by
  have hX := Blk.new w #[.slice ma mn mc, .slice ia il ic] 25
  have hbX := balloc (Below.refl w.heap.size w) (.cells #[.slice ma mn mc, .slice ia il ic] 25)
  have HFw := Lib.hid (few22_any _ (h.keep ((Below.refl _ w).alloc (Nat.le_refl _) (.cells #[.slice ma mn mc, .slice ia il ic] 25))) 40)
  have HS := Lib.hid h
  have HAw := Lib.hid awake23_any
  clear h
  go_enter Tryz.func4, Tryz.ntmps4
  go_wp2_with fail
  refine HFw.out.mono ?_
  rintro e w1 ⟨rfl, hb1⟩
  have hB1 := hX.keep hb1
  have hbw := bnext hbX hb1
  have HBw := Lib.hid hbw
  obtain ⟨bc, bf, bz⟩ := hB1.facts
  clear hX hbX hb1 hB1 hbw
  cases hf : few22 ms is 40 with
  | false =>
    clear hf
    go_wp2_with fail
    refine (HAw.out _).mono ?_
    rintro e w2 ⟨rfl, hb2⟩
    have HB2 := Lib.hid (bnext HBw.out hb2)
    clear hb2
    go_wp2_with fail
    go_ret
    exact ⟨rfl, HB2.out⟩
  | true =>
    obtain ⟨hm10, hi40, hmp, hip⟩ := few22_of hf
    have hil : is.length ≤ 40 := by omega
    have hM : ∀ m ∈ ms, m.path.size ≤ 100000 := fun m hm => Nat.le_trans (hmp m hm) (by omega)
    have hI : ∀ x ∈ is, x.path.size ≤ 100000 ∧ x.data.size ≤ 100000 := fun x hx => by
      have := hip x hx
      omega
    have HP1 := Lib.hid (plant_any w1 (HS.out.keep HBw.out) (by omega) (by omega) hM hI)
    have HOk := Lib.hid (plant_ok ms is)
    have HPl := Lib.hid (plant_pl ms is)
    have HTr := Lib.hid (plant_tr ms is)
    have HNm := Lib.hid (plant_nm ms is)
    have hsm := pl_small (plant_ok ms is) (plant_pl ms is)
    obtain ⟨N, hN⟩ : ∃ N, 1 + 2 * ms.length + is.length = N := ⟨_, rfl⟩
    have hNs : N ≤ 61 := by omega
    have HNs := Lib.hid hNs
    have HRf := Lib.hid (show (plantF ms is).rowsF N ≤ 10000 by
      unfold Fs.rowsF
      have h1 : (N + 1) * (plantF ms is).ns.length ≤ 62 * 61 := Nat.mul_le_mul (by omega) (by omega)
      omega)
    rw [hN] at HOk
    generalize plantF ms is = S at HP1 HOk HPl HTr HRf HNm
    obtain ⟨hord, hlen⟩ := rows_order HOk.out HPl.out HTr.out HNm.out
    have hz2 : 1 + 256 * (S.last.toNat + 1) ≤ 30000 := by
      have h2 := HOk.out.lN
      omega
    obtain ⟨L, hL⟩ : ∃ L, S.rows N 1 (ByteArray.mk #[47]) = L := ⟨_, rfl⟩
    rw [hL] at hord hlen
    have HRows := Lib.hid hL
    have HSize := Lib.hid (fun r hr => Nat.le_trans (hord.size r hr) hz2)
    have HOrd := Lib.hid hord
    have hLpos : 0 < L.length := hord.pos
    have hlx : L.length ≤ 10000 := Nat.le_trans hlen HRf.out
    clear hf hip hmp hi40 hm10 hil hM hI hsm HFw hN hNs hL hord hlen hz2
    go_wp2_with fail
    refine HP1.out.mono ?_
    rintro e w2 ⟨p1, q1, R1, v1, Y1, rfl, hY1, rfl, -, hb2⟩
    have HB2 := Lib.hid (bnext HBw.out hb2)
    have HA1 := Lib.hid (drowsA_any hY1 HOk.out HPl.out HTr.out HRf.out (by have := HNs.out; omega))
    dsimp only at HA1
    rw [HRows.out] at HA1
    clear hb2 hY1 bc bf bz HP1
    go_wp2_with fail
    refine HA1.out.mono ?_
    rintro e w3 ⟨v3, rfl, ho3, hb3⟩
    have HB3 := Lib.hid (bnext HB2.out hb3)
    obtain ⟨a3, c3, rfl, hc3, hc4, -⟩ := own_form ho3
    have hsl := OR.at ho3
    obtain ⟨b, off, rfl, hblt⟩ := rowsAt_some hsl hLpos
    have HSl := Lib.hid hsl
    clear hb3 ho3 hsl HA1
    go_wp2_with fail
    go_loopw [5] (fun t5 wr => ∃ i : Nat, 1 ≤ i ∧ i ≤ L.length ∧ t5 = .int .i64 i ∧ Below w3.heap.size w3 wr) (fun t5 _ => L.length - (intOf t5).toNat)
    case atStart => exact ⟨1, Nat.le_refl _, hLpos, rfl, Below.refl _ _⟩
    case round =>
      obtain ⟨i, hi1, hi, rfl, hb⟩ := hrel
      have HB := Lib.hid hb
      have hsl2 := HSl.out.below hb (Nat.le_refl _)
      clear hb
      by_cases hlt : i < L.length
      · obtain ⟨d, m, hsp, hchk, hmz, ⟨k0, hk0, hk0p⟩, hkd, hasc⟩ := HOrd.out.facts i hi1 hlt
        obtain ⟨c0, -, -, -, -, -, -, -, -, -⟩ := rows_cell hsl2 i hlt
        have HSp := Lib.hid (rsplit_any _ d m hsp wr (by have := HSize.out _ (List.getElem_mem hlt); omega))
        have HChk := Lib.hid hchk
        have HMz := Lib.hid hmz
        have HK0 := Lib.hid hk0p
        have HKd := Lib.hid hkd
        have HAsc := Lib.hid hasc
        clear hsp hchk hmz hk0p hkd hasc hsl2
        go_wp2_with fail
        refine HSp.out.mono ?_
        rintro e w4 ⟨rfl, hb4⟩
        have HB4 := Lib.hid (bnext HB.out hb4)
        clear hb4 c0
        go_wp2_with fail
        go_loopw [8, 9] (fun t8 t9 w2 => ∃ (j : Nat) (u : Int), j ≤ i ∧ t9 = .int .i64 j ∧ t8 = .int .i64 u ∧ ((u = -1 ∧ ∀ (k : Nat) (hk : k < i), k < j → (L[k]'(by omega)).path ≠ d) ∨ ∃ (k : Nat) (hk : k < i), u = k ∧ (L[k]'(by omega)).path = d) ∧ Below w3.heap.size w3 w2) (fun _ t9 _ => i - (intOf t9).toNat)
        case atStart => exact ⟨0, -1, Nat.zero_le _, rfl, rfl, .inl ⟨rfl, fun k hk h => by omega⟩, HB4.out⟩
        case round =>
          obtain ⟨j, u, hj, rfl, rfl, hu, hb⟩ := hrel
          have HU := Lib.hid hu
          have HBj := Lib.hid hb
          have hsl2 := HSl.out.below hb (Nat.le_refl _)
          clear hb hu
          by_cases hji : j < i
          · have hjl : j < L.length := by omega
            obtain ⟨c0, -, -, -, -, -, -, -, -, -⟩ := rows_cell hsl2 j hjl
            obtain ⟨d', m', hsp⟩ := HOrd.out.split j hjl
            have HSp := Lib.hid (fun w => rsplit_any _ d' m' hsp w (by have := HSize.out _ (List.getElem_mem hjl); omega))
            have HLt := Lib.hid (fun (h1 : 1 ≤ j) (h2 : d' = d) => HAsc.out j hji h1 m' (h2 ▸ hsp))
            have HUn := Lib.hid (fun (h : L[j].path ≠ d) => show ((u = -1 ∧ ∀ (k : Nat) (hk : k < i), k < j + 1 → (L[k]'(by omega)).path ≠ d) ∨ ∃ (k : Nat) (hk : k < i), u = k ∧ (L[k]'(by omega)).path = d) by
              rcases HU.out with ⟨h1, h2⟩ | h1
              · refine .inl ⟨h1, fun k hk hk2 => ?_⟩
                rcases Nat.lt_or_ge k j with h3 | h3
                · exact h2 k hk h3
                · have : k = j := by omega
                  subst this
                  exact h
              · exact .inr h1)
            have HUy := Lib.hid (fun (h : L[j].path = d) => show (∃ (k : Nat) (hk : k < i), (j : Int) = k ∧ (L[k]'(by omega)).path = d) from ⟨j, hji, rfl, h⟩)
            generalize L[j].path = s at c0 HSp HUn HUy
            clear hsp hsl2
            have hcase : ¬ (0 : Int) < (j : Int) ∨ ((0 : Int) < (j : Int) ∧ (d'.toList == d.toList) = false) ∨ ((0 : Int) < (j : Int) ∧ (d'.toList == d.toList) = true ∧ Op.bytesLess m'.toList m.toList = true) := by
              by_cases h0 : j = 0
              · exact .inl (by omega)
              · by_cases hdd : d' = d
                · exact .inr (.inr ⟨by omega, str_beq hdd, HLt.out (by omega) hdd⟩)
                · exact .inr (.inl ⟨by omega, str_bne hdd⟩)
            have HCase := Lib.hid hcase
            clear hcase
            by_cases hsd : s = d
            · have HNew := Lib.hid (HUy.out hsd)
              have hs1 := str_beq hsd
              clear hsd
              go_wp2_with fail
              refine (HSp.out _).mono ?_
              rintro e w5 ⟨rfl, hb5⟩
              have HB5 := Lib.hid (bnext HBj.out hb5)
              clear hb5 c0 hs1
              rcases HCase.out with h1 | ⟨h1, h2⟩ | ⟨h1, h2, h3⟩
              all_goals
                go_wp2_with fail
                go_roundw
                case measure => simp [intOf]; omega
                case rel => exact ⟨j + 1, j, by omega, by go_num, rfl, .inr HNew.out, HB5.out⟩
            · have HNew := Lib.hid (HUn.out hsd)
              have hs1 := str_bne hsd
              clear hsd
              go_wp2_with fail
              refine (HSp.out _).mono ?_
              rintro e w5 ⟨rfl, hb5⟩
              have HB5 := Lib.hid (bnext HBj.out hb5)
              clear hb5 c0 hs1
              rcases HCase.out with h1 | ⟨h1, h2⟩ | ⟨h1, h2, h3⟩
              all_goals
                go_wp2_with fail
                go_roundw
                case measure => simp [intOf]; omega
                case rel => exact ⟨j + 1, u, by omega, by go_num, rfl, HNew.out, HB5.out⟩
          · obtain rfl : j = i := by omega
            obtain ⟨k, hk, huk, hkp⟩ : ∃ (k : Nat) (hk : k < j), u = k ∧ (L[k]'(by omega)).path = d := by
              rcases HU.out with ⟨h1, h2⟩ | h1
              · exact absurd HK0.out (h2 k0 hk0 hk0)
              · exact h1
            subst huk
            have hkl : k < L.length := by omega
            have hkind := HKd.out k hk hkp
            obtain ⟨f, hf, hff, hfd⟩ := HOrd.out.first j hlt
            have hfl : f < L.length := by omega
            obtain ⟨-, k1, -, -, -, -, -, -, -, -⟩ := rows_cell hsl2 k hkl
            obtain ⟨-, -, -, -, -, -, -, -, i8, i9⟩ := rows_cell hsl2 j hlt
            obtain ⟨-, -, -, -, -, -, -, -, -, f9⟩ := rows_cell hsl2 f hfl
            rw [hkind] at k1
            rw [hff] at i8
            rw [hfd] at f9
            have HCh := Lib.hid (fun w => rcheck_any m w (by have := HMz.out; omega))
            rw [HChk.out] at HCh
            generalize L[j].data = dd at i9 f9
            have hu0 : ¬ (k : Int) < 0 := by omega
            have hfi : ¬ (j : Int) < (f : Int) := by omega
            have hf0 : (0 : Int) ≤ (f : Int) := by omega
            have hfl2 : (f : Int) < (L.length : Int) := by omega
            have hkl2 : (k : Int) < (L.length : Int) := by omega
            clear hsl2 hkp hkind hff hfd
            go_wp2_with fail
            go_quiet ((go_at_call 16; exact Calls.quiet_of_same (HCh.out _)))
            go_wp2_with fail
            go_roundw
            case measure => simp [intOf]; omega
            case rel => exact ⟨j + 1, by omega, by omega, by go_num, below_drewN HBj.out _⟩
      · obtain rfl : i = L.length := by omega
        have HD := Lib.hid (dat_any wr hsl2 (by omega) (ByteArray.mk #[47]) (ByteArray.mk #[47]) (by decide) (by decide) HSize.out)
        rw [HOrd.out.same] at HD
        have hLp : (0 : Int) < (L.length : Int) := by omega
        clear hsl2
        go_wp2_with fail
        refine HD.out.mono ?_
        rintro e w4 ⟨v4, rfl, ho4, hb4⟩
        have HB4 := Lib.hid (bnext HB.out hb4)
        obtain ⟨a4, c4, rfl, -, -, -⟩ := own_form ho4
        have HSm := Lib.hid (rsame22_any w4 (OR.at ho4) (HSl.out.below HB4.out (Nat.le_refl _)))
        rw [decide_eq_true rfl] at HSm
        clear ho4 hb4
        go_wp2_with fail
        refine HSm.out.mono ?_
        rintro e w5 ⟨rfl, hb5⟩
        have HB5 := Lib.hid (bnext HB4.out hb5)
        clear hb5
        go_wp2_with fail
        refine (HAw.out _).mono ?_
        rintro e w6 ⟨rfl, hb6⟩
        have HB6 := Lib.hid (bnext HB3.out (bnext HB5.out hb6))
        clear hb6
        go_wp2_with fail
        go_ret
        exact ⟨rfl, HB6.out⟩
end Go.Proofs.YtaojpbgaengdpaaGreatDoor

/- How a seed reads: its mounts and its items. -/
namespace Go.Proofs.YtaojpbgaengdpaaGreatDoor

open Go.RowKit Go.ChangeShapes Go.WideShapes Go.ChangeAt

section

variable {H : Type} {enc : TypeId × Value → H} {w : World} {base : Nat} {spare : Nat → Bool} {held : Bool}

theorem trod_fields5 {P : Program} {t : TypeId} {fs : Array Field} {fuel : Nat} {cs : List Value} {x : DataW H × List MemPlace} (ht : P.underlying t = some (.struct fs)) (h : DataW.trod enc P w base spare held fuel t cs = some x) :
    cs.length = P.cellsOf t ∧ ∃ n, ∀ (i : Nat) (ty : TypeId) (off k : Nat) (l : List Value), (fs[i]?.map fun f => (f.type, f.offset)) = some (ty, off) → P.cellsOf ty = k → (cs.drop off).take k = l → ∃ y, DataW.trod enc P w base spare held n ty l = some y := by
  obtain ⟨xs, n, -, -, h1, h2, h3⟩ := DataW.trod_struct ht h
  refine ⟨h1, n, fun i ty off k l hf hk hl => ?_⟩
  obtain ⟨f, hf1, e⟩ := Option.map_eq_some_iff.1 hf
  clear hf
  injection e with e1 e2
  subst e1 e2 hk hl
  have hi : i < xs.length := by
    rw [h2]
    exact (Array.getElem?_eq_some_iff.1 hf1).1
  exact ⟨xs[i], by rw [h3 i f hf1, List.getElem?_eq_getElem hi]⟩
set_option maxRecDepth 100000 in
theorem trod_mt {fuel : Nat} {cs : List Value} {x : DataW H × List MemPlace} (h : DataW.trod enc Tryz.prog w base spare held fuel 57 cs = some x) : ∃ y : Mt, mtR cs y := by
  obtain ⟨h1, n, h2⟩ := trod_fields5 Tryz.underlying57 h
  have hc : Tryz.prog.cellsOf 57 = 3 := by kernel_rfl
  have c1 : Tryz.prog.cellsOf 9 = 1 := by kernel_rfl
  have c2 : Tryz.prog.cellsOf 3 = 1 := by kernel_rfl
  rw [hc] at h1
  match cs, h1 with
  | [a0, a1, a2], _ =>
    obtain ⟨y0, k0⟩ := h2 0 9 0 1 [a0] rfl c1 rfl
    obtain ⟨y1, k1⟩ := h2 1 3 1 1 [a1] rfl c2 rfl
    obtain ⟨y2, k2⟩ := h2 2 3 2 1 [a2] rfl c2 rfl
    obtain ⟨s, e0, -⟩ := trod_str Tryz.underlying9 k0
    obtain ⟨n1, e1, -⟩ := trod_i64 Tryz.underlying3 k1
    obtain ⟨n2, e2, -⟩ := trod_i64 Tryz.underlying3 k2
    simp at e0 e1 e2
    subst e0 e1 e2
    exact ⟨⟨s, n1, n2⟩, rfl⟩
set_option maxRecDepth 100000 in
theorem trod_it {fuel : Nat} {cs : List Value} {x : DataW H × List MemPlace} (h : DataW.trod enc Tryz.prog w base spare held fuel 59 cs = some x) : ∃ y : It, itR cs y := by
  obtain ⟨h1, n, h2⟩ := trod_fields5 Tryz.underlying59 h
  have hc : Tryz.prog.cellsOf 59 = 7 := by kernel_rfl
  have c1 : Tryz.prog.cellsOf 9 = 1 := by kernel_rfl
  have c2 : Tryz.prog.cellsOf 3 = 1 := by kernel_rfl
  rw [hc] at h1
  match cs, h1 with
  | [a0, a1, a2, a3, a4, a5, a6], _ =>
    obtain ⟨y0, k0⟩ := h2 0 9 0 1 [a0] rfl c1 rfl
    obtain ⟨y1, k1⟩ := h2 1 3 1 1 [a1] rfl c2 rfl
    obtain ⟨y2, k2⟩ := h2 2 3 2 1 [a2] rfl c2 rfl
    obtain ⟨y3, k3⟩ := h2 3 3 3 1 [a3] rfl c2 rfl
    obtain ⟨y4, k4⟩ := h2 4 3 4 1 [a4] rfl c2 rfl
    obtain ⟨y5, k5⟩ := h2 5 3 5 1 [a5] rfl c2 rfl
    obtain ⟨y6, k6⟩ := h2 6 9 6 1 [a6] rfl c1 rfl
    obtain ⟨s, e0, -⟩ := trod_str Tryz.underlying9 k0
    obtain ⟨n1, e1, -⟩ := trod_i64 Tryz.underlying3 k1
    obtain ⟨n2, e2, -⟩ := trod_i64 Tryz.underlying3 k2
    obtain ⟨n3, e3, -⟩ := trod_i64 Tryz.underlying3 k3
    obtain ⟨n4, e4, -⟩ := trod_i64 Tryz.underlying3 k4
    obtain ⟨n5, e5, -⟩ := trod_i64 Tryz.underlying3 k5
    obtain ⟨s6, e6, -⟩ := trod_str Tryz.underlying9 k6
    simp at e0 e1 e2 e3 e4 e5 e6
    subst e0 e1 e2 e3 e4 e5 e6
    exact ⟨⟨s, n1, n2, n3, n4, n5, s6⟩, rfl⟩
set_option maxRecDepth 100000 in
theorem trod_seed {fuel : Nat} {cs : List Value} {x : DataW H × List MemPlace} (h : DataW.trod enc Tryz.prog w base spare held fuel 25 cs = some x) :
    ∃ ma mn mc ia il ic ms is, cs = [.slice ma mn mc, .slice ia il ic] ∧ SdAt w ma mn mc ia il ic ms is := by
  obtain ⟨h1, n, h2⟩ := trod_fields5 Tryz.underlying25 h
  have hc : Tryz.prog.cellsOf 25 = 2 := by kernel_rfl
  have c1 : Tryz.prog.cellsOf 22 = 1 := by kernel_rfl
  have c2 : Tryz.prog.cellsOf 23 = 1 := by kernel_rfl
  rw [hc] at h1
  match cs, h1 with
  | [a0, a1], _ =>
    obtain ⟨y0, k0⟩ := h2 0 22 0 1 [a0] rfl c1 rfl
    obtain ⟨y1, k1⟩ := h2 1 23 1 1 [a1] rfl c2 rfl
    obtain ⟨ma, mn, mc, ms, e0, hm⟩ := open_sl (R := mtR) (sz := 3) Tryz.underlying22 (by kernel_rfl) (by decide) (fun fuel cs x h => trod_mt h) k0
    obtain ⟨ia, il, ic, is, e1, hi⟩ := open_sl (R := itR) (sz := 7) Tryz.underlying23 (by kernel_rfl) (by decide) (fun fuel cs x h => trod_it h) k1
    simp at e0 e1
    subst e0 e1
    exact ⟨ma, mn, mc, ia, il, ic, ms, is, rfl, ⟨hm, hi⟩⟩
end

end Go.Proofs.YtaojpbgaengdpaaGreatDoor
