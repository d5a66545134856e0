/- The statement TopdirRows, as a tied card: for every input the law answers true, and each argument reads behind the call as before. -/
import Derived.Deep.CutBlock
import Derived.Deep.DeepCutAuto
import Derived.RegionTactic
import Derived.BigRegion
import Derived.Deep.DeepHandedRow
import Derived.Lay
import Derived.Test.YtihdbncoijhihaaGreatDoorTR3
import Derived.Test.YtihdbncoijhihaaGreatDoorTT22
import Derived.Test.YtihdbncoijhihaaGreatDoorTT15
import Derived.Test.YtihdbncoijhihaaGreatDoorTT3
import Derived.Test.YtihdbncoijhihaaGreatDoorTR1
import Derived.Test.YtihdbncoijhihaaGreatDoorTT42
import Derived.Test.YtihdbncoijhihaaGreatDoorTR2
import Derived.Test.YtihdbncoijhihaaGreatDoorCards
import Derived.Test.YtihdbncoijhihaaGreatDoorTie
import Derived.Test.YtihdbncoijhihaaGreatDoorTT47
set_option linter.unusedVariables false
set_option linter.unusedSimpArgs false
/- Each row of a planted tree is an operand, or a mount's root or above one, purely. -/
namespace Go.Proofs.YtihdbncoijhihaaGreatDoor

open Go.RowKit

def Rw.pk (r : Rw) : ByteArray × Int := (r.path, r.kind)
def tdW (td : List (List (List UInt8) × Int)) : List En := td.map fun q => ⟨pth q.1, q.2⟩
def kidsW (ns : List (List UInt8)) (n : An) : List (List (List UInt8) × Int) := n.ents.map fun e => (ns ++ [e.name.data.toList], e.no)
theorem kids_tdW {ns : List (List UInt8)} (h : ∀ p ∈ ns, GoodN p) (n : An) (td : List (List (List UInt8) × Int)) : kidsL (pth ns) n ++ tdW td = tdW (kidsW ns n ++ td) := by
  unfold tdW kidsL kidsW
  rw [List.map_append, List.map_map]
  congr 1
  refine List.map_congr_left fun e he => ?_
  rw [below_pth h]
  rfl
section

variable {S : Fs} {N : Nat}

theorem kidsW_way {ns : List (List UInt8)} {n : An} (hw : Way S ns n.no) (hg : S.get n.no = some n) : ∀ y ∈ kidsW ns n, y.1 ≠ [] ∧ Way S y.1 (S.over y.2) := by
  intro y hy
  unfold kidsW at hy
  obtain ⟨e, he, rfl⟩ := List.mem_map.1 hy
  exact ⟨by simp, Way.down hw hg he⟩
theorem rowsN_way (h : Grown S N) : ∀ (f : Nat) (td : List (List (List UInt8) × Int)) (nos : List Int) (out : List Rw), (∀ y ∈ td, y.1 ≠ [] ∧ Way S y.1 (S.over y.2)) →
    ∃ more : List (List (List UInt8) × An), (∀ y ∈ more, y.1 ≠ [] ∧ Way S y.1 y.2.no ∧ S.get y.2.no = some y.2) ∧ (S.rowsN f (tdW td) nos out).map Rw.pk = out.map Rw.pk ++ more.map (fun y => (pth y.1, y.2.kind))
  | 0, _, _, out, _ => ⟨[], fun y hy => (by cases hy), by rw [List.map_nil, List.append_nil]; rfl⟩
  | f + 1, [], nos, out, _ => ⟨[], fun y hy => (by cases hy), by rw [List.map_nil, List.append_nil]; rfl⟩
  | f + 1, x :: td, nos, out, ht => by
    obtain ⟨hx1, hxw⟩ := ht x List.mem_cons_self
    have hxg := way_good h hxw
    cases hg : S.get (S.over x.2) with
    | none =>
      obtain ⟨m, h1, h2⟩ := rowsN_way h f td nos out (fun y hy => ht y (List.mem_cons_of_mem _ hy))
      refine ⟨m, h1, ?_⟩
      rw [← h2]
      exact congrArg _ (rows_none (x := ⟨pth x.1, x.2⟩) hg f _ _ _)
    | some n =>
      have hno := an_no hg
      rw [← hno] at hxw
      have hg2 : S.get n.no = some n := by rw [hno]; exact hg
      obtain ⟨m, h1, h2⟩ := rowsN_way h f (kidsW x.1 n ++ td) (nos ++ [n.no]) (out ++ [n.rw (pth x.1) (nos.idxOf n.no)]) (fun y hy => by
        rcases List.mem_append.1 hy with hy | hy
        · exact kidsW_way hxw hg2 y hy
        · exact ht y (List.mem_cons_of_mem _ hy))
      refine ⟨(x.1, n) :: m, fun y hy => ?_, ?_⟩
      · rcases List.mem_cons.1 hy with rfl | hy
        · exact ⟨hx1, hxw, hg2⟩
        · exact h1 y hy
      · rw [← kids_tdW hxg, List.map_append, List.append_assoc] at h2
        exact (congrArg _ (rows_some (x := ⟨pth x.1, x.2⟩) hg f _ _ _)).trans h2
theorem rows_way (h : Grown S N) (i : Nat) (hi1 : 1 ≤ i) (hi : i < (S.rows N 1 (ByteArray.mk #[47])).length) :
    ∃ ns n, ns ≠ [] ∧ Way S ns n.no ∧ S.get n.no = some n ∧ (S.rows N 1 (ByteArray.mk #[47]))[i].path = pth ns ∧ (S.rows N 1 (ByteArray.mk #[47]))[i].kind = n.kind := by
  obtain ⟨a, ha, hak⟩ := h.pl.one
  have h1 := over_one h
  have ha2 : S.get (S.over 1) = some a := by rw [h1]; exact ha
  have hno := an_no ha
  have hg2 : S.get a.no = some a := by rw [hno]; exact ha
  have hw : Way S [] a.no := by rw [hno]; exact Way.top
  obtain ⟨m, h2, h3⟩ := rowsN_way h ((N + 1) * S.ns.length) (kidsW [] a) [a.no] [a.rw (pth []) (([] : List Int).idxOf a.no)] (kidsW_way hw hg2)
  have h4 : S.rows N 1 (ByteArray.mk #[47]) = S.rowsN ((N + 1) * S.ns.length) (tdW (kidsW [] a)) [a.no] [a.rw (pth []) (([] : List Int).idxOf a.no)] := by
    have hk := kids_tdW (ns := []) (fun p hp => by cases hp) a []
    rw [List.append_nil] at hk
    rw [← hk]
    unfold Fs.rows Fs.rowsF
    rw [show 1 + (N + 1) * S.ns.length = (N + 1) * S.ns.length + 1 by omega]
    exact rows_some (x := ⟨pth [], 1⟩) ha2 _ _ _ _
  rw [← h4] at h3
  generalize S.rows N 1 (ByteArray.mk #[47]) = L at h3 hi ⊢
  have hl := congrArg List.length h3
  rw [List.length_map, List.length_append, List.length_map, List.length_map, List.length_singleton] at hl
  have h5 : (L.map Rw.pk)[i]? = some (L[i].pk) := by rw [List.getElem?_map, List.getElem?_eq_getElem hi]; rfl
  obtain ⟨j, rfl⟩ : ∃ j, i = j + 1 := ⟨i - 1, by omega⟩
  have hj : j < m.length := by omega
  rw [h3] at h5
  rw [show ([a.rw (pth []) (([] : List Int).idxOf a.no)].map Rw.pk ++ m.map (fun y => (pth y.1, y.2.kind)))[j + 1]? = (m.map (fun y => (pth y.1, y.2.kind)))[j]? from rfl, List.getElem?_map, List.getElem?_eq_getElem hj] at h5
  obtain ⟨g1, g2, g3⟩ := h2 m[j] (List.getElem_mem hj)
  have h6 : (pth m[j].1, m[j].2.kind) = L[j + 1].pk := by simpa using h5
  unfold Rw.pk at h6
  injection h6 with h6 h7
  exact ⟨m[j].1, m[j].2, g1, g2, g3, h6.symm, h7.symm⟩
theorem rows_pos (h : Grown S N) : 0 < (S.rows N 1 (ByteArray.mk #[47])).length := by
  obtain ⟨a, ha, hak⟩ := h.pl.one
  have ha2 : S.get (S.over 1) = some a := by rw [over_one h]; exact ha
  have hno := an_no ha
  have hg2 : S.get a.no = some a := by rw [hno]; exact ha
  have hw : Way S [] a.no := by rw [hno]; exact Way.top
  obtain ⟨m, h2, h3⟩ := rowsN_way h ((N + 1) * S.ns.length) (kidsW [] a) [a.no] [a.rw (pth []) (([] : List Int).idxOf a.no)] (kidsW_way hw hg2)
  have h4 : S.rows N 1 (ByteArray.mk #[47]) = S.rowsN ((N + 1) * S.ns.length) (tdW (kidsW [] a)) [a.no] [a.rw (pth []) (([] : List Int).idxOf a.no)] := by
    have hk := kids_tdW (ns := []) (fun p hp => by cases hp) a []
    rw [List.append_nil] at hk
    rw [← hk]
    unfold Fs.rows Fs.rowsF
    rw [show 1 + (N + 1) * S.ns.length = (N + 1) * S.ns.length + 1 by omega]
    exact rows_some (x := ⟨pth [], 1⟩) ha2 _ _ _ _
  rw [← h4] at h3
  have hl := congrArg List.length h3
  rw [List.length_map, List.length_append, List.length_map, List.length_map, List.length_singleton] at hl
  omega
theorem way_last {ns : List (List UInt8)} {no : Int} (hw : Way S ns no) (hn : ns ≠ []) : ∃ p d a e, ns = p ++ [e.name.data.toList] ∧ no = S.over e.no ∧ Way S p d ∧ S.get d = some a ∧ e ∈ a.ents := by
  cases hw with
  | top => exact absurd rfl hn
  | down h hg he => exact ⟨_, _, _, _, rfl, rfl, h, hg, he⟩
/-- what the statement asks of a row. -/
theorem row_facts (h : Grown S N) (i : Nat) (hi1 : 1 ≤ i) (hi : i < (S.rows N 1 (ByteArray.mk #[47])).length) (hs : (S.rows N 1 (ByteArray.mk #[47]))[i].path.size ≤ 4096) :
    (S.operandF ⟨0, 0⟩ (S.rows N 1 (ByteArray.mk #[47]))[i].path = (fd0, 16) ∧ (S.rows N 1 (ByteArray.mk #[47]))[i].kind = 1 ∧ 2 ≤ S.ds.length) ∨
    ∃ d x no r t, S.operandF ⟨0, 0⟩ (S.rows N 1 (ByteArray.mk #[47]))[i].path = (⟨d, x, no, false⟩, 0) ∧ x.size ≤ 255 ∧ S.pathF d x = ((S.rows N 1 (ByteArray.mk #[47]))[i].path, 0) ∧ S.topF no = (r, t, 0) ∧ t.size ≤ 100000 ∧
      (∀ s, S.place_ d = some s → s.size ≤ 100000) ∧ insideB t (S.rows N 1 (ByteArray.mk #[47]))[i].path = true := by
  obtain ⟨ns, n, hns, hw, hg, hp, hk⟩ := rows_way h i hi1 hi
  rw [hp] at hs ⊢
  rw [hk]
  obtain ⟨p, d, a, e, rfl, hno, hwp, hgd, he⟩ := way_last hw hns
  have hgood := way_good h hw
  have hgp := way_good h hwp
  have hx := hgood e.name.data.toList (by simp)
  obtain ⟨-, hx255⟩ := nm_good h hgd he
  rw [hno] at hg hw
  have hpath := path_way h hwp hgd he hg hs 0
  have hne : e.name ≠ ByteArray.empty := fun h0 => hx.ne (by rw [h0]; rfl)
  have hn1 := (h.ok.get hg).2.2.1
  have hop : S.operandF ⟨0, 0⟩ (pth (p ++ [e.name.data.toList])) = if S.busy (S.over e.no) = true ∨ S.isRoot (S.over e.no) = true then (fd0, 16) else (⟨d, e.name, S.over e.no, false⟩, 0) := by
    unfold Fs.operandF
    rw [if_neg (fun h1 => h1 (pathE_pth hgood hs)), if_neg (by rw [lastL_pth hgood]; exact hx.ne), hpath]
    simp only
    rw [if_neg (fun h1 => h1 rfl), if_neg (by omega), if_neg hne]
  rw [hop]
  by_cases hb : S.busy (S.over e.no) = true ∨ S.isRoot (S.over e.no) = true
  · rw [if_pos hb]
    have hd : S.isDir (S.over e.no) = true ∧ 2 ≤ S.ds.length := by
      rcases hb with hb | hb
      · exact busy_dir h hb
      · exact isRoot_dir h hgd he hb
    obtain ⟨b, hb1, hb2⟩ := isDir_some hd.1
    rw [hg] at hb1
    injection hb1 with hb1
    subst hb1
    exact .inl ⟨rfl, hb2, hd.2⟩
  · rw [if_neg hb]
    right
    have hak := dir_of_ents h hgd he
    have hpl := place_way h hwp (isDir_of hgd hak)
    obtain ⟨q, hq, hwq⟩ := root_way h hw hg
    have htop := place_way h hwq (root_dir h (an_mem hg))
    have hpz : (pth p).size ≤ 4096 := by
      have h1 := below_pth hgp e.name
      have h2 : (pth p).size ≤ (pth (p ++ [e.name.data.toList])).size := by
        unfold pth
        rw [str_size, str_size, pthL_snoc, List.length_append]
        split
        · rename_i h0
          subst h0
          rw [List.length_cons]
          show 1 ≤ _
          omega
        · omega
      omega
    have hqz : (pth q).size ≤ (pth (p ++ [e.name.data.toList])).size := by
      obtain ⟨t, ht⟩ := hq
      by_cases hq0 : q = []
      · subst hq0
        unfold pth
        rw [str_size, str_size]
        unfold pthL
        rw [List.length_cons, List.length_cons]
        simp [Lib.join]
      · rw [← ht]
        unfold pth
        rw [str_size, str_size, pthL_flat hq0, pthL_flat (by simp [hq0]), List.flatMap_append, List.length_append]
        omega
    refine ⟨d, e.name, S.over e.no, S.root n.dev, pth q, rfl, hx255, ?_, topF_some hg htop, by omega, fun s hs2 => ?_, inside_way hq hgood⟩
    · rw [pathF_some (h.nm a (an_mem hgd) e he) hgd hak hpl, below_pth hgp, if_neg (by omega)]
    · rw [hpl] at hs2
      injection hs2 with hs2
      rw [← hs2]
      omega
theorem row_factsL (h : Grown S N) {L : List Rw} (hL : S.rows N 1 (ByteArray.mk #[47]) = L) (i : Nat) (hi1 : 1 ≤ i) (hi : i < L.length) (hs : L[i].path.size ≤ 4096) :
    (S.operandF ⟨0, 0⟩ L[i].path = (fd0, 16) ∧ L[i].kind = 1 ∧ 2 ≤ S.ds.length) ∨
    ∃ d x no r t, S.operandF ⟨0, 0⟩ L[i].path = (⟨d, x, no, false⟩, 0) ∧ x.size ≤ 255 ∧ S.pathF d x = (L[i].path, 0) ∧ S.topF no = (r, t, 0) ∧ t.size ≤ 100000 ∧
      (∀ s, S.place_ d = some s → s.size ≤ 100000) ∧ insideB t L[i].path = true := by
  subst hL
  exact row_facts h i hi1 hi hs
end

theorem plant_grown (ms : List Mt) (is : List It) : Grown (plantF ms is) (1 + 2 * ms.length + is.length) := ⟨plant_ok ms is, plant_pl ms is, plant_tr ms is, plant_nm ms is, plant_wy ms is⟩
end Go.Proofs.YtihdbncoijhihaaGreatDoor

/- Clean paths: ragpickerref03.Clean. -/
namespace Go.Proofs.YtihdbncoijhihaaGreatDoor

open Go.RowKit

end Go.Proofs.YtihdbncoijhihaaGreatDoor

/- Clean paths: track.Clean. -/
namespace Go.Proofs.YtihdbncoijhihaaGreatDoor

open Go.RowKit Go.Shelf

attribute [local go_sem] Oper.semAt_some

/-- between two rounds: the parts so far; whether the path begins at the top. -/
structure CC (w : World) (base : Nat) (wh : Bool) (pre : List (List UInt8)) (W : World) : Prop where
  whole : Blk W w.heap.size #[.bool wh] 4
  box : ∃ v, Blk W (w.heap.size + 1) #[v] 38 ∧ OS W base v (clL wh pre)
  below : Below w.heap.size w W
end Go.Proofs.YtihdbncoijhihaaGreatDoor

/- Rows of some alone: the reference's Inside; Join and Rel of both. -/
namespace Go.Proofs.YtihdbncoijhihaaGreatDoor

open Go.RowKit

theorem trim_size (b : ByteArray) : (str (trimL b.data.toList)).size ≤ b.size := by
  rw [str_size]
  have h1 := trimL_len b.data.toList
  have h2 : b.data.toList.length = b.size := Array.length_toList
  omega
set_option maxRecDepth 100000 in
set_option maxHeartbeats 2000000 in
theorem rinside_any (b s : ByteArray) (w : World) (hb : b.size ≤ 100000) (hs : s.size ≤ 9223372036854775807) :
    Calls Tryz.prog 22 #[.string b, .string s] w fun e w' => e = .returned (.bool (insideB b s)) ∧ w' = w := by
  have HT := Lib.hid (rcut_any b w hb)
  have hz : (str (trimL b.data.toList)).size ≤ 100000 := Nat.le_trans (trim_size b) hb
  by_cases hbs : s = b
  · have HR := Lib.hid (show insideB b s = true by unfold insideB; rw [decide_eq_true hbs.symm]; rfl)
    subst hbs
    generalize insideB s s = r at HR ⊢
    generalize str (trimL s.data.toList) = t at HT hz
    have h1 : ¬ 9223372036854775807 < t.size + 1 := by omega
    go_enter Tryz.func22, Tryz.ntmps22
    go_wp2_with fail
    refine HT.out.mono ?_
    rintro e w1 ⟨rfl, rfl⟩
    go_wp2_with fail
    go_ret
    exact ⟨ret_bool HR.out.symm, rfl⟩
  · have HR := Lib.hid (show insideB b s = (decide ((str (trimL b.data.toList) ++ ByteArray.mk #[47]).size ≤ s.size) && ((s.extract 0 (str (trimL b.data.toList) ++ ByteArray.mk #[47]).size).toList == (str (trimL b.data.toList) ++ ByteArray.mk #[47]).toList)) by
      rw [Lib.hasPrefix_raw]
      unfold insideB
      rw [decide_eq_false (fun e => hbs e.symm), show ByteArray.mk #[47] = str [47] from rfl, str_append, str_list]
      rfl)
    have g1 := tl_ne hbs
    have g2 : (s.toList == b.toList) = false := by simpa using g1
    generalize insideB b s = r at HR ⊢
    generalize str (trimL b.data.toList) = t at HT HR hz
    have h1 : ¬ 9223372036854775807 < t.size + 1 := by omega
    have hts : (t ++ ByteArray.mk #[47]).size ≤ 100001 := by
      rw [ByteArray.size_append]
      show t.size + 1 ≤ _
      omega
    clear hbs
    go_enter Tryz.func22, Tryz.ntmps22
    go_wp2_with fail
    refine HT.out.mono ?_
    rintro e w1 ⟨rfl, rfl⟩
    go_upto_region 2 with fail
    generalize t ++ ByteArray.mk #[47] = u at HR hts ⊢
    by_cases hle : u.size ≤ s.size
    · have hle2 : (u.size : Int) ≤ (s.size : Int) := by omega
      rw [decide_eq_true hle, Bool.true_and] at HR
      obtain ⟨v, hv⟩ : ∃ v, ((s.extract 0 u.size).toList == u.toList) = v := ⟨_, rfl⟩
      rw [hv] at HR
      clear hle
      go_wp2_with fail
      go_ret
      exact ⟨ret_bool HR.out.symm, rfl⟩
    · have hle2 : ¬ (u.size : Int) ≤ (s.size : Int) := by omega
      rw [decide_eq_false hle, Bool.false_and] at HR
      clear hle
      go_wp2_with fail
      go_ret
      exact ⟨ret_bool HR.out.symm, rfl⟩
end Go.Proofs.YtihdbncoijhihaaGreatDoor

/- The statement TopdirRows's function. -/
namespace Go.Proofs.YtihdbncoijhihaaGreatDoor

open Go.RowKit Go.Shelf

attribute [local go_sem] Oper.semAt_some

theorem rrowsB_any {w : World} {pf : Nat} {Rr : Rf} {S : Fs} (h : RfAt w pf Rr S) {N : Nat} (hk : FsOk S N) (hp : Pl S) (ht : Tr S) (hF : S.rowsF N ≤ 10000) (hN : N ≤ 100) :
    Calls Tryz.prog 21 #[.pointer (some ⟨pf, 0, none⟩)] w fun e w' => ∃ v, e = .returned v ∧ OR w' w.heap.size v (S.rows N 1 (ByteArray.mk #[47])) ∧ Below w.heap.size w w' := by
  have HE := Lib.hid (rrows_any h hk hp ht hF hN 1 (ByteArray.mk #[47]) (by decide))
  clear h hk hp ht
  go_enter Tryz.func21, Tryz.ntmps21
  go_wp2_with fail
  refine HE.out.mono ?_
  rintro e w1 ⟨v, rfl, ho, hb⟩
  go_wp2_with fail
  go_ret
  exact ⟨v, rfl, ho, hb⟩
set_option maxRecDepth 100000 in
set_option maxHeartbeats 8000000 in
theorem topdirRows_any (w : World) {ma : Option Addr} {mn mc : Nat} {ia : Option Addr} {il ic : Nat} {ms : List Mt} {is : List It} (h : SdAt w ma mn mc ia il ic ms is) (u g at' to' : Int) (nm : ByteArray) {pa : Option Addr} {pn pc : Nat} {pl : List (Int × Int)} (hpl : SliceAt w 2 fltR pa pn pc pl) (ke : Bool) :
    Calls Tryz.prog 4 #[.agg #[.slice ma mn mc, .slice ia il ic, .int .i64 u, .int .i64 g, .int .i64 at', .int .i64 to', .string nm, .slice pa pn pc, .bool ke]] w fun e w' => e = .returned (.bool true) ∧ Below w.heap.size w w' := by
  have hX := Blk.new w #[.slice ma mn mc, .slice ia il ic, .int .i64 u, .int .i64 g, .int .i64 at', .int .i64 to', .string nm, .slice pa pn pc, .bool ke] 30
  have hbX := balloc (Below.refl w.heap.size w) (.cells #[.slice ma mn mc, .slice ia il ic, .int .i64 u, .int .i64 g, .int .i64 at', .int .i64 to', .string nm, .slice pa pn pc, .bool ke] 30)
  have hbI := ((Below.refl _ w).alloc (Nat.le_refl _) (.cells #[.slice ma mn mc, .slice ia il ic, .int .i64 u, .int .i64 g, .int .i64 at', .int .i64 to', .string nm, .slice pa pn pc, .bool ke] 30))
  have HFw := Lib.hid (few24_any _ (h.keep hbI) u g at' to' nm (pa := pa) (pc := pc) hpl.1 ke)
  have HS := Lib.hid (And.intro h hpl)
  have HAw := Lib.hid awake29_any
  clear h hpl hbI
  go_enter Tryz.func4, Tryz.ntmps4
  go_wp2_with fail
  refine HFw.out.mono ?_
  rintro e w1 ⟨rfl, hb1⟩
  have hB1 := hX.keep hb1
  have hbw := bnext hbX hb1
  have HBw := Lib.hid hbw
  obtain ⟨bc, bf, bz⟩ := hB1.facts
  clear hX hbX hb1 hB1 hbw HFw
  cases hf : few24 ms is nm pl with
  | false =>
    clear hf
    go_wp2_with fail
    refine (HAw.out _).mono ?_
    rintro e w2 ⟨rfl, hb2⟩
    have HB2 := Lib.hid (bnext HBw.out hb2)
    clear hb2
    go_wp2_with fail
    go_ret
    exact ⟨rfl, HB2.out⟩
  | true =>
    have HBo := Lib.hid (both24_any w1 (HS.out.1.keep HBw.out) u g at' to' nm (HS.out.2.keep HBw.out) ke hf)
    obtain ⟨hf2, -, -⟩ := few24_of hf
    obtain ⟨hm10, hi30, -, -⟩ := few22_of hf2
    have HG := Lib.hid (plant_grown ms is)
    have hsm := pl_small (plant_ok ms is) (plant_pl ms is)
    obtain ⟨N, hN⟩ : ∃ N, 1 + 2 * ms.length + is.length = N := ⟨_, rfl⟩
    have hNs : N ≤ 51 := by omega
    rw [hN] at HG hsm
    generalize plantF ms is = S at HBo HG hsm
    have HNs := Lib.hid (show N ≤ 51 ∧ S.ns.length ≤ 51 from ⟨hNs, by omega⟩)
    have HRf := Lib.hid (show S.rowsF N ≤ 10000 by
      unfold Fs.rowsF
      have h1 : (N + 1) * S.ns.length ≤ 52 * 51 := Nat.mul_le_mul (by omega) (by omega)
      omega)
    obtain ⟨L, hL⟩ : ∃ L, S.rows N 1 (ByteArray.mk #[47]) = L := ⟨_, rfl⟩
    have hLpos := rows_pos HG.out
    rw [hL] at hLpos
    have HLf := Lib.hid (row_factsL HG.out hL)
    have HL := Lib.hid hL
    have hLp : (0 : Int) < (L.length : Int) := by omega
    clear hf hf2 hi30 hm10 hsm hNs hN
    clear hL
    go_wp2_with fail
    refine HBo.out.mono ?_
    rintro e w2 ⟨p1, q1, R1, v1, pf, R2, rfl, hBo⟩
    have HB2 := Lib.hid (bnext HBw.out hBo.below)
    have HBt := Lib.hid hBo
    have HRw := Lib.hid (rrowsB_any hBo.r HG.out.ok HG.out.pl HG.out.tr HRf.out (by have := HNs.out.1; omega))
    rw [HL.out] at HRw
    clear hBo bc bf bz
    go_wp2_with fail
    refine HRw.out.mono ?_
    rintro e w3 ⟨v3, rfl, ho3, hb3⟩
    have HB3 := Lib.hid (bnext HB2.out hb3)
    obtain ⟨a3, c3, rfl, hc3, hc4, -⟩ := own_form ho3
    have hsl := OR.at ho3
    obtain ⟨b, off, rfl, hblt⟩ := rowsAt_some hsl hLpos
    have HSl := Lib.hid hsl
    have HY3 := Lib.hid (And.intro (HBt.out.y.keep hb3) (HBt.out.r.keep hb3))
    obtain ⟨da, dc, hdv, -, -⟩ := HBt.out.r.dform
    have HDv := Lib.hid hdv
    have hd8 := HG.out.ok.d8
    clear hb3 ho3 hsl HRw hdv
    go_wp2_with fail
    go_loopw [6] (fun t6 wr => ∃ i : Nat, 1 ≤ i ∧ i ≤ L.length ∧ t6 = .int .i64 i ∧ Below w3.heap.size w3 wr) (fun t6 _ => L.length - (intOf t6).toNat)
    case atStart => exact ⟨1, Nat.le_refl _, hLpos, rfl, Below.refl _ _⟩
    case round =>
      obtain ⟨i, hi1, hi, rfl, hb⟩ := hrel
      have HB := Lib.hid hb
      have hsl2 := HSl.out.below hb (Nat.le_refl _)
      have HSl2 := Lib.hid hsl2
      by_cases hlt : i < L.length
      · have hlt2 : (i : Int) < (L.length : Int) := by omega
        have hi0 : ¬ (i : Int) < 0 := by omega
        have hi00 : (0 : Int) ≤ (i : Int) := by omega
        obtain ⟨c0, c1, -, -, -, -, -, -, -, -⟩ := rows_cell hsl2 i hlt
        have HF := Lib.hid (HLf.out i hi1 hlt)
        have HY := Lib.hid (And.intro (HY3.out.1.keep hb) (HY3.out.2.keep hb))
        have HCell := Lib.hid (fun w4 (hb4 : Below wr.heap.size wr w4) => (rows_cell (hsl2.below hb4 (Nat.le_refl _)) i hlt))
        generalize L[i] = r at c0 c1 HF HCell
        clear hsl2 hb
        by_cases hps : r.path.size ≤ 4096
        · have hps1 : ¬ (4096 : Int) < (r.path.size : Int) := by omega
          have HOp := Lib.hid (toperand_any HY.out.1 HG.out.ok (by have := HNs.out.1; omega) HG.out.pl rfl ⟨0, 0⟩ r.path (by omega))
          dsimp only at HOp
          rcases HF.out hps with ⟨hop, hrk, hd2⟩ | ⟨d, x, no, rt, t, hop, hx255, hpf, htf, htz, hpz, hin⟩
          · rw [hop] at HOp
            dsimp only [Fd.v, fd0] at HOp
            have hd2' : ¬ (S.ds.length : Int) < 2 := by omega
            rw [hrk] at c1
            have HCell2 := Lib.hid (fun w4 (hb4 : Below wr.heap.size wr w4) => (HCell.out w4 hb4).2.1)
            rw [hrk] at HCell2
            clear hop hrk HF HCell hps
            go_wp2_with fail
            refine HOp.out.mono ?_
            rintro e w4 ⟨rfl, hb4⟩
            have hb5 := (Below.refl wr.heap.size wr).trans hb4
            have hb6 := balloc hb5 (.cells #[.int .i64 0, .string ByteArray.empty, .int .i64 0, .bool false] 58)
            have k1 := HCell2.out _ hb6
            have hrb := (HY.out.2.keep hb6).blk
            rw [HDv.out] at hrb
            obtain ⟨rc, rf, rz⟩ := hrb.facts
            have HB6 := Lib.hid (bnext HB.out hb6)
            clear hb4 hb5 hb6 hrb c0 c1
            go_wp2_with fail
            go_roundw
            case measure => simp [intOf]; omega
            case rel => exact ⟨i + 1, by omega, by omega, by go_num, HB6.out⟩
          · rw [hop] at HOp
            dsimp only [Fd.v] at HOp
            have HPt := Lib.hid (fun w4 (hb4 : Below wr.heap.size wr w4) => tpath_any (HY.out.1.keep hb4) HG.out.ok HG.out.pl (by show S.ns.length ≤ _; have := HNs.out.2; omega) rfl d x (by omega) hpz)
            have HTp := Lib.hid (fun w4 (hb4 : Below wr.heap.size wr w4) => ttop_any (HY.out.1.keep hb4) HG.out.ok HG.out.pl (by show S.ns.length ≤ _; have := HNs.out.2; omega) rfl no)
            dsimp only at HPt HTp
            rw [hpf] at HPt
            rw [htf] at HTp
            dsimp only at HPt HTp
            have HIn := Lib.hid (fun w4 => rinside_any t r.path w4 htz (by omega))
            rw [hin] at HIn
            have HCell2 := Lib.hid (fun w4 (hb4 : Below wr.heap.size wr w4) => (HCell.out w4 hb4).1)
            clear hop hpf htf hin hpz HF HCell hps
            go_wp2_with fail
            refine HOp.out.mono ?_
            rintro e w4 ⟨rfl, hb4⟩
            have hb6 := balloc ((Below.refl wr.heap.size wr).trans hb4) (.cells #[.int .i64 d, .string x, .int .i64 no, .bool false] 58)
            have HX6 := Lib.hid (Blk.new w4 #[.int .i64 d, .string x, .int .i64 no, .bool false] 58)
            obtain ⟨xc, xf, xz⟩ := HX6.out.facts
            have HB6 := Lib.hid hb6
            clear hb4 hb6 c0 c1
            go_wp2_with fail
            refine (HPt.out _ HB6.out).mono ?_
            rintro e w7 ⟨rfl, hb7⟩
            have HB7 := Lib.hid (bnext HB6.out hb7)
            have HX7 := Lib.hid (HX6.out.keep hb7)
            obtain ⟨yc, yf, yz⟩ := HX7.out.facts
            clear hb7 xc xf xz
            go_wp2_with fail
            refine (HTp.out _ HB7.out).mono ?_
            rintro e w8 ⟨rfl, hb8⟩
            have HB8 := Lib.hid (bnext HB7.out hb8)
            have k1 := HCell2.out _ HB8.out
            have HB9 := Lib.hid (bnext HB.out HB8.out)
            clear hb8 yc yf yz
            go_wp2_with fail
            refine (HIn.out _).mono ?_
            rintro e w9 ⟨rfl, rfl⟩
            go_wp2_with fail
            go_roundw
            case measure => simp [intOf]; omega
            case rel => exact ⟨i + 1, by omega, by omega, by go_num, HB9.out⟩
        · have hps1 : (4096 : Int) < (r.path.size : Int) := by omega
          go_wp2_with fail
          go_roundw
          case measure => simp [intOf]; omega
          case rel => exact ⟨i + 1, by omega, by omega, by go_num, HB.out⟩
      · obtain rfl : i = L.length := by omega
        go_wp2_with fail
        refine (HAw.out _).mono ?_
        rintro e w12 ⟨rfl, hb12⟩
        have HZ := Lib.hid (bnext HB3.out (bnext HB.out hb12))
        clear hb12
        go_wp2_with fail
        go_ret
        exact ⟨rfl, HZ.out⟩
end Go.Proofs.YtihdbncoijhihaaGreatDoor

/- The statement TopdirRows, as a tied card: for every input the law answers true, and each argument reads behind the call as before. -/
namespace Go.Proofs.YtihdbncoijhihaaGreatDoor.topdirRows

open Go.ChangeShapes Go.WideShapes Go.ChangeAt Go.RowKit

set_option linter.unusedVariables false

theorem own : ownKnob Tryz.prog.godebug = none := by kernel_rfl
theorem laidOut : laidOutB Tryz.prog = true := by kernel_rfl

set_option maxRecDepth 100000 in
theorem contract (H : Type) (enc : TypeId × Value → H) (W : World) (base : Nat) (args : Array Value) (ds gs : List (DataW H)) (before : List MemPlace)
    (hval0 : ∀ (j : Nat) t v, Tryz.f4.params[j]? = some t → args[j]? = some v → Value.okWide Tryz.prog W .any base t v)
    (hW : DataW.Whole enc Tryz.prog Tryz.f4.params.toList Rows.topdirRowsSpec.vars false W args.toList ds gs before) (hsh : W.ShapedOpen Tryz.prog) :
    Calls Tryz.prog 4 args W fun e W' => ∃ v, e = .returned v ∧ Rows.topdirRowsSpec.post enc Tryz.prog Tryz.f4 false true false false W args v W' := by
  have hval : ∀ (j : Nat) t v, Tryz.f4.params[j]? = some t → args[j]? = some v → Value.okWide Tryz.prog W .any base t v := hval0
  have hW' := hW
  obtain ⟨p, q, hA0, hV, rfl, hfz, hnd⟩ := hW
  have hA : DataW.TrodAll enc Tryz.prog W 0 (fun _ => true) true Tryz.f4.params.toList args.toList ds p := hA0
  rw [Tryz.params4] at hA hval
  have hA2 := hA
  obtain ⟨v0, vs0, d0, ds0, p0, q0, hargs, rfl, rfl, h0, r0⟩ := trodAll_cons hA
  obtain ⟨rfl, rfl, rfl⟩ := trodAll_nil r0
  obtain rfl : args = #[v0] := by cases args; simp_all
  obtain ⟨rfl, rfl⟩ := trodVars_none hV
  obtain ⟨cs, rfl, hsz, hok⟩ := struct_ok Tryz.underlying30 (hval 0 30 v0 rfl rfl)
  obtain ⟨ma, mn, mc, ia, il, ic, ms, is, u, g, at', to', nm, pa, pn, pc, pl, ke, e, hsd, hsp, hnm⟩ : ∃ ma mn mc ia il ic ms is u g at' to' nm pa pn pc pl ke, cs = #[.slice ma mn mc, .slice ia il ic, .int .i64 u, .int .i64 g, .int .i64 at', .int .i64 to', .string nm, .slice pa pn pc, .bool ke] ∧ SdAt W ma mn mc ia il ic ms is ∧ SliceAt W 2 fltR pa pn pc pl ∧ nm.size ≤ 9223372036854775807 := by
    obtain ⟨fuel, hf⟩ := h0
    obtain ⟨ma, mn, mc, ia, il, ic, ms, is, u, g, at', to', nm, pa, pn, pc, pl, ke, e, h⟩ := trod_case hf
    exact ⟨ma, mn, mc, ia, il, ic, ms, is, u, g, at', to', nm, pa, pn, pc, pl, ke, Array.ext' e, h⟩
  subst e
  clear hA0 hval0
  refine (topdirRows_any W hsd u g at' to' nm hsp ke).mono fun e W' ⟨he, bel⟩ => ?_
  subst he
  exact ⟨_, rfl, _, _, _, [], _, [], hW', trodAll_mk1 (shut_bool Tryz.underlying4 _), trodAll_below laidOut bel _ _ _ _ (by kernel_rfl) hA2, rfl, bel.frame _, fun h => by cases h⟩

theorem laid_met (os : Os) : laidMetH Tryz.prog Rows.topdirRowsRow.laid ((World.laidAll Tryz.prog os Rows.topdirRowsRow.laid).forCall (fun _ _ => 0) ⟨#[], #[.agg #[.slice none 0 0, .slice none 0 0, .int .i64 0, .int .i64 0, .int .i64 0, .int .i64 0, .string ByteArray.empty, .slice none 0 0, .bool false]], []⟩).memory :=
  laidMet_laidAll _ (by kernel_rfl) (by kernel_rfl)
theorem reads (os : Os) {H : Type} (enc : TypeId × Value → H) : ∃ places, DataW.whole enc Tryz.prog ((World.laidAll Tryz.prog os Rows.topdirRowsRow.laid).forCall (fun _ _ => 0) ⟨#[], #[.agg #[.slice none 0 0, .slice none 0 0, .int .i64 0, .int .i64 0, .int .i64 0, .int .i64 0, .string ByteArray.empty, .slice none 0 0, .bool false]], []⟩).memory Tryz.f4.params.toList Rows.topdirRowsSpec.vars false #[(.agg #[.slice none 0 0, .slice none 0 0, .int .i64 0, .int .i64 0, .int .i64 0, .int .i64 0, .string ByteArray.empty, .slice none 0 0, .bool false] : Value)].toList 8 = some ([.agg [.agg [.nil, .nil], .agg [.lit (.int .i64 0), .lit (.int .i64 0)], .lit (.int .i64 0), .lit (.int .i64 0), .lit (.string []), .nil, .lit (.bool false)]], [], places) :=
  ⟨[], by kernel_rfl⟩

set_option maxRecDepth 100000 in
theorem lifted (os : Os) (started : os.Started) (H : Type) (enc : TypeId × Value → H) (F : Stop.Interp) :
    ReturnsInHanded {} Tryz.checked os 4 .any ((OpenSpec.ofChange Rows.topdirRowsSpec).preRow enc Tryz.prog Tryz.f4 Rows.topdirRowsRow.domain false Rows.topdirRowsRow.laid) (((OpenSpec.ofChange Rows.topdirRowsSpec).at F).post enc Tryz.prog Tryz.f4 false true false false) := by
  obtain ⟨places, hx⟩ := reads os enc
  refine returnsInHanded_of_row (C := Tryz.checked) (s := OpenSpec.ofChange Rows.topdirRowsSpec) own started (by kernel_rfl) Tryz.func4
    (witness_row_at (enc := enc) (C := Tryz.checked) false (World.laidAll Tryz.prog os Rows.topdirRowsRow.laid) #[.agg #[.slice none 0 0, .slice none 0 0, .int .i64 0, .int .i64 0, .int .i64 0, .int .i64 0, .string ByteArray.empty, .slice none 0 0, .bool false]] rfl (by kernel_rfl) (by kernel_rfl) (by kernel_rfl)
      (OpenSpec.preRow_of_cond 8 hx (by kernel_rfl) (fun k hk => by cases hk) (by kernel_rfl) (laid_met os))) ?_
  intro W base args ds gs before hval hW _ _ _ _ hsh _
  exact contract H enc W base args ds gs before hval hW hsh

set_option maxHeartbeats 100000000 in
theorem said : Rows.TopdirRowsSaid :=
  OpenClaim.holds_of_cond 4 Tryz.f4 rfl rfl rfl rfl rfl rfl rfl ⟨rfl, rfl, rfl, rfl, rfl⟩ rfl rfl rfl rfl rfl (by as_aux_lemma => kernel_rfl) Tryz.func4
    (joined_of (by as_aux_lemma => kernel_rfl) (by as_aux_lemma => kernel_rfl) (by as_aux_lemma => kernel_rfl) (by as_aux_lemma => kernel_rfl) (by as_aux_lemma => kernel_rfl) (by as_aux_lemma => kernel_rfl) (by as_aux_lemma => kernel_rfl) (by as_aux_lemma => kernel_rfl) (by as_aux_lemma => kernel_rfl) (by as_aux_lemma => kernel_rfl) (by as_aux_lemma => kernel_rfl) (by as_aux_lemma => kernel_rfl) (by as_aux_lemma => kernel_rfl) (by as_aux_lemma => kernel_rfl) (by as_aux_lemma => kernel_rfl) (by as_aux_lemma => kernel_rfl) (by as_aux_lemma => kernel_rfl) (by as_aux_lemma => kernel_rfl) (by as_aux_lemma => kernel_rfl) (by as_aux_lemma => kernel_rfl) (by as_aux_lemma => kernel_rfl) (by as_aux_lemma => kernel_rfl) (by as_aux_lemma => kernel_rfl) (by as_aux_lemma => kernel_rfl) (by as_aux_lemma => kernel_rfl) (by as_aux_lemma => kernel_rfl) (by as_aux_lemma => kernel_rfl) (by as_aux_lemma => kernel_rfl) (by as_aux_lemma => kernel_rfl) (by as_aux_lemma => kernel_rfl) (by as_aux_lemma => kernel_rfl) (by as_aux_lemma => kernel_rfl))
    (of_decide_eq_true (by as_aux_lemma => kernel_rfl)) (by unfold Func.isWrapper; first | (rw [if_pos (by decide +kernel)]; kernel_rfl) | (rw [if_neg (by decide +kernel)]; exact ⟨rfl, rfl⟩))
    (fun os started H enc _ F => by rw [OpenClaim.pre_eq_preRow]; exact lifted os started H enc F)
theorem plain (f : FuncId) (fn : Func) (hf : Tryz.pinned.checked.prog.funcNamed "ragpicker/ragpickerlaw29.TopdirRows" = some f) (hfn : Tryz.pinned.checked.prog.funcs[f]? = some fn) :
    false = Tryz.pinned.checked.prog.looks [] ∧ ∀ (j : Nat) t, fn.params[j]? = some t → Tryz.pinned.checked.prog.wantsStandIn t = false := by
  obtain rfl : f = 4 := Option.some.inj ((show Tryz.prog.funcNamed "ragpicker/ragpickerlaw29.TopdirRows" = some 4 by kernel_rfl).symm.trans hf) |>.symm
  obtain rfl : fn = Tryz.f4 := (Option.some.inj (Tryz.func4.symm.trans hfn)).symm
  refine ⟨by kernel_rfl, fun j t ht => ?_⟩
  rw [Tryz.params4] at ht
  have hm := Array.mem_of_getElem? ht
  simp only [List.mem_toArray, List.mem_cons, List.not_mem_nil, or_false] at hm
  rcases hm with rfl
  · exact (show Tryz.prog.wantsStandIn 30 = false by kernel_rfl)
/-- the card. -/
theorem proved : Rows.TopdirRowsCardSaid :=
  Claim7.holds_tied_plain_at .later [] _ _ _ _ said (fun _ h => by cases h) (by kernel_rfl) (fun _ h => by cases h) topdirRows_row_tie rfl ⟨rfl, rfl⟩ (by kernel_rfl) rfl plain (by kernel_rfl)
#print axioms proved

end Go.Proofs.YtihdbncoijhihaaGreatDoor.topdirRows
