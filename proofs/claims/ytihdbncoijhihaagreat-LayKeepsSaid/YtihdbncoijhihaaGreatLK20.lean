/- Texts of the proof, part 20. -/
import Derived.Shelf.Strings.BuilderK
import Derived.Lib.Join
import Derived.StillTailTactics
import Derived.Test.YtihdbncoijhihaaGreatLK19
import Derived.Test.YtihdbncoijhihaaGreatLK10
import Derived.Test.YtihdbncoijhihaaGreatLK3
import Derived.Test.YtihdbncoijhihaaGreatLK1
import Derived.Test.YtihdbncoijhihaaGreatLK5
set_option linter.unusedVariables false
set_option linter.unusedSimpArgs false
/- Where directories lie (layer 14): ents.Name; Use, Within, Busy of a world. -/
namespace Go.Proofs.YtihdbncoijhihaaGreat

open Go.RowKit

theorem entName_drop {es : List En} {no : Int} {k : Nat} (hk : k < es.length) : entName (es.drop k) no = if es[k].no = no then some es[k].name else entName (es.drop (k + 1)) no := by
  rw [List.drop_eq_getElem_cons hk, entName_cons]
set_option maxRecDepth 100000 in
set_option maxHeartbeats 1000000 in
theorem ename_any (es : List En) (a : Option Addr) (n c : Nat) (no : Int) (w : World) (he : EntsAt w a n c es) :
    Calls Tryz.prog 183 #[.slice a n c, .int .i64 no] w fun e w' => e = .returned (whereV (entName es no)) ∧ Below w.heap.size w w' := by
  have hl := he.len
  subst hl
  have hc1 := he.sl.2.1
  have hc2 := he.sl.2.2.1
  have HE := Lib.hid he
  have HS := Lib.hid (show entName es no = entName (es.drop 0) no from rfl)
  generalize entName es no = out at HS ⊢
  clear he
  go_enter Tryz.func183, Tryz.ntmps183
  go_wp2_with fail
  go_loopw [10] (fun t10 wr => ∃ k : Nat, k ≤ es.length ∧ t10 = .int .i64 k ∧ out = entName (es.drop k) no ∧ Below w.heap.size w wr) (fun t10 _ => es.length - (intOf t10).toNat)
  case atStart => exact ⟨0, Nat.zero_le _, rfl, HS.out, Below.refl _ _⟩
  case round =>
    obtain ⟨k, hk, rfl, hf, hb⟩ := hrel
    by_cases hlt : k < es.length
    · have he2 := HE.out.keep hb
      obtain ⟨b, off, rfl, hbl⟩ := he2.some_of (by omega)
      obtain ⟨c0, c1⟩ := he2.cell k hlt
      rw [entName_drop hlt] at hf
      have HF := Lib.hid hf
      have HB := Lib.hid hb
      generalize es[k] = x at c0 c1 HF
      clear hf hb he2
      by_cases hx : x.no = no
      · have HR := Lib.hid (HF.out.trans (if_pos hx))
        have hq : (x.no == no) = true := by simpa using hx
        clear hx
        go_wp2_with fail
        go_ret2
        exact ⟨by rw [HR.out]; rfl, balloc HB.out _⟩
      · have HR := Lib.hid (HF.out.trans (if_neg hx))
        have hq : (x.no == no) = false := by simpa using hx
        clear hx
        go_wp2_with fail
        go_roundw
        case measure => simp [intOf]; omega
        case rel => exact ⟨k + 1, by omega, by go_num, HR.out, balloc HB.out _⟩
    · obtain rfl : k = es.length := by omega
      rw [List.drop_length] at hf
      have HR := Lib.hid (show out = none from hf)
      have HB := Lib.hid hb
      clear hf hb
      go_wp2_with fail
      go_ret2
      exact ⟨by rw [HR.out]; rfl, HB.out⟩
section

variable {w w' : World} {pw : Nat} {R : Rp} {S : Fs}

set_option maxRecDepth 100000 in
set_option maxHeartbeats 1000000 in
theorem wwithin_any (h : WdAt w pw R S) {N : Nat} (hk : FsOk S N) (hp : Pl S) (no base : Int) :
    Calls Tryz.prog 205 #[.pointer (some ⟨pw, 0, none⟩), .int .i64 no, .int .i64 base] w fun e w' => e = .returned (.bool (S.within no base)) ∧ Below w.heap.size w w' := by
  have HS := Lib.hid (show S.within no base = S.withinN base (S.ns.length + 1) no ∧ S.need (S.ns.length + 1) no from ⟨rfl, need_start hk hp no⟩)
  have HA := Lib.hid (fun w1 (hb1 : Below w.heap.size w w1) x => wabove_any (h.keep hb1) hk x)
  have HK := Lib.hid (And.intro hk hp)
  generalize S.within no base = out at HS ⊢
  clear h hk hp
  go_enter Tryz.func205, Tryz.ntmps205
  go_wp2_with fail
  go_loopw [1] (fun t1 wr => ∃ (k : Nat) (x : Int), t1 = .int .i64 x ∧ out = S.withinN base k x ∧ S.need k x ∧ Below w.heap.size w wr) (fun t1 _ => if intOf t1 = 0 then 0 else (intOf t1).toNat + 1)
  case atStart => exact ⟨_, no, rfl, HS.out.1, HS.out.2, Below.refl _ _⟩
  case round =>
    obtain ⟨k, x, rfl, hE, hn, hb⟩ := hrel
    have HE := Lib.hid hE
    have HN := Lib.hid hn
    have HB := Lib.hid hb
    clear hE hn hb
    by_cases h0 : x = 0
    · have p0 : (x != 0) = false := by simpa using h0
      have HO := Lib.hid (show out = false by rw [HE.out, h0, within_zero])
      clear h0
      go_wp2_with fail
      go_ret
      rw [HO.out]
      exact ⟨rfl, HB.out⟩
    · have p0 : (x != 0) = true := by simpa using h0
      have H0 := Lib.hid h0
      clear h0
      by_cases h1 : x = base
      · have p1 : (x == base) = true := by simpa using h1
        have HO := Lib.hid (show out = true by rw [HE.out, within_yes HN.out H0.out h1])
        clear h1
        go_wp2_with fail
        go_ret
        rw [HO.out]
        exact ⟨rfl, HB.out⟩
      · have p1 : (x == base) = false := by simpa using h1
        have H1 := Lib.hid h1
        have HAx := Lib.hid (HA.out wr HB.out x)
        clear h1
        by_cases h2 : S.above x = x
        · have p2 : (S.above x == x) = true := by simpa using h2
          have HO := Lib.hid (show out = false by rw [HE.out, within_fix h2 H1.out])
          generalize S.above x = ab at HAx p2
          clear h2
          go_wp2_with fail
          refine HAx.out.mono ?_
          rintro e w1 ⟨rfl, hb1⟩
          have HB1 := Lib.hid (bnext HB.out hb1)
          clear hb1
          go_wp2_with fail
          go_ret
          rw [HO.out]
          exact ⟨rfl, HB1.out⟩
        · have p2 : (S.above x == x) = false := by simpa using h2
          have hst := within_step HK.out.1 HK.out.2 HN.out H0.out H1.out h2
          have HO := Lib.hid (show out = _ from HE.out.trans hst.1)
          have HN2 := Lib.hid hst.2
          have hup := above_step HK.out.1 HK.out.2 h2
          have HUp := Lib.hid hup
          generalize S.above x = ab at HAx p2 HO HN2 HUp
          clear h2 hst hup
          go_wp2_with fail
          refine HAx.out.mono ?_
          rintro e w1 ⟨rfl, hb1⟩
          have HB1 := Lib.hid (bnext HB.out hb1)
          clear hb1
          go_wp2_with fail
          go_roundw
          case rel => exact ⟨k - 1, ab, rfl, HO.out, HN2.out, HB1.out⟩
          case measure =>
            have h0 := H0.out
            show (if ab = 0 then 0 else ab.toNat + 1) < (if x = 0 then 0 else x.toNat + 1)
            rw [if_neg h0]
            rcases HUp.out with h | ⟨h1, h2, -, -⟩
            · rw [if_pos h]; omega
            · rw [if_neg (by omega)]; omega
set_option maxRecDepth 100000 in
set_option maxHeartbeats 1000000 in
theorem wbusy_any (h : WdAt w pw R S) {N : Nat} (hk : FsOk S N) (hp : Pl S) (no : Int) :
    Calls Tryz.prog 196 #[.pointer (some ⟨pw, 0, none⟩), .int .i64 no] w fun e w' => e = .returned (.bool (S.busy no)) ∧ Below w.heap.size w w' := by
  have HNn := Lib.hid (wnone_any h hk.d1)
  obtain ⟨g, cap, hv, hle, h63, hgl, hc, -, -⟩ := h.devF hk.d1
  have hd1 := hk.d1
  have hd8 := hk.d8
  have HS := Lib.hid (show S.busy no = (S.ds.drop (0 + 1)).any (fun d => S.within d.over no) from rfl)
  have HA := Lib.hid (fun w1 (hb1 : Below w.heap.size w w1) x => wwithin_any (h.keep hb1) hk hp x no)
  obtain ⟨pc, -, -⟩ := h.blk.facts
  rw [hv] at pc
  have HC := Lib.hid (fun k (hk : k < S.ds.length) => hc k hk)
  have HD := Lib.hid (fun k (hk : k < S.ds.length) => busy_drop (S := S) (no := no) hk)
  obtain ⟨m, hm⟩ : ∃ m, S.ds.length = m + 1 := ⟨S.ds.length - 1, by omega⟩
  have HM := Lib.hid hm
  rw [hm] at pc hle hd1 hd8
  generalize S.busy no = out at HS ⊢
  clear h hk hp hv hc hm
  go_enter Tryz.func196, Tryz.ntmps196
  go_wp2_with fail
  refine HNn.out.mono ?_
  rintro e w1 ⟨rfl, rfl⟩
  by_cases hcap : cap = 1
  · obtain rfl : m = 0 := by omega
    subst hcap
    have HO := Lib.hid (show out = false by rw [HS.out, List.drop_of_length_le (by rw [HM.out]; exact Nat.le_refl _)]; rfl)
    go_wp2_with fail
    go_loopw [15] (fun t15 wr => t15 = .int .i64 0 ∧ wr = w) (fun _ _ => 0)
    case atStart => exact ⟨rfl, rfl⟩
    case round =>
      obtain ⟨rfl, rfl⟩ := hrel
      go_wp2_with fail
      go_ret
      rw [HO.out]
      exact ⟨rfl, Below.refl _ _⟩
  · have hcap1 : ¬ (cap : Int) = 1 := by omega
    go_wp2_with fail
    go_loopw [15] (fun t15 wr => ∃ (k : Nat), k ≤ m ∧ t15 = .int .i64 k ∧ out = (S.ds.drop (k + 1)).any (fun d => S.within d.over no) ∧ Below w.heap.size w wr) (fun t15 _ => m - (intOf t15).toNat)
    case atStart => exact ⟨0, Nat.zero_le _, rfl, HS.out, Below.refl _ _⟩
    case round =>
      obtain ⟨k, hk2, rfl, hE, hbw⟩ := hrel
      have HE := Lib.hid hE
      have HBw := Lib.hid hbw
      clear hE
      by_cases hlt : k < m
      · have hkl : k + 1 < S.ds.length := by rw [HM.out]; omega
        obtain ⟨c0, c1, c2, c3, c4, c5⟩ := HC.out (k + 1) hkl
        rw [← hbw.cell (p := ⟨g, (k + 1) * 6, none⟩) hgl, show (k + 1) * 6 = 6 + k * 6 by omega] at c0
        rw [← hbw.cell (p := ⟨g, (k + 1) * 6 + 1, none⟩) hgl, show (k + 1) * 6 = 6 + k * 6 by omega] at c1
        rw [← hbw.cell (p := ⟨g, (k + 1) * 6 + 2, none⟩) hgl, show (k + 1) * 6 = 6 + k * 6 by omega] at c2
        rw [← hbw.cell (p := ⟨g, (k + 1) * 6 + 3, none⟩) hgl, show (k + 1) * 6 = 6 + k * 6 by omega] at c3
        rw [← hbw.cell (p := ⟨g, (k + 1) * 6 + 4, none⟩) hgl, show (k + 1) * 6 = 6 + k * 6 by omega] at c4
        rw [← hbw.cell (p := ⟨g, (k + 1) * 6 + 5, none⟩) hgl, show (k + 1) * 6 = 6 + k * 6 by omega] at c5
        have HE2 := Lib.hid (HE.out.trans (HD.out (k + 1) hkl))
        have HAx := Lib.hid (fun w1 hb1 => HA.out w1 hb1 S.ds[k + 1].over)
        generalize S.ds[k + 1] = v at c0 c1 c2 c3 c4 c5 HE2 HAx
        have hbX := balloc hbw (.cells #[.int .i64 v.root, .int .i64 v.over, .int .i64 v.b, .int .i64 v.n, .int .i64 v.mb, .int .i64 v.mn] 214)
        have hX := Blk.new wr #[.int .i64 v.root, .int .i64 v.over, .int .i64 v.b, .int .i64 v.n, .int .i64 v.mb, .int .i64 v.mn] 214
        clear hbw hkl
        go_upto_region 6 with fail
        generalize wr.alloc (.cells #[.int .i64 v.root, .int .i64 v.over, .int .i64 v.b, .int .i64 v.n, .int .i64 v.mb, .int .i64 v.mn] 214) = X at hbX hX ⊢
        obtain ⟨xc, xf, xz⟩ := hX.facts
        have HAy := Lib.hid (HAx.out X hbX)
        have HBX := Lib.hid hbX
        clear hbX hX c0 c1 c2 c3 c4 c5 HAx
        cases hwn : S.within v.over no with
        | true =>
          rw [hwn] at HE2 HAy
          have HO := Lib.hid (show out = true from HE2.out)
          go_wp2_with fail
          refine HAy.out.mono ?_
          rintro e w1 ⟨rfl, hb1⟩
          have HB1 := Lib.hid (bnext HBX.out hb1)
          clear hb1
          go_wp2_with fail
          go_ret
          rw [HO.out]
          exact ⟨rfl, HB1.out⟩
        | false =>
          rw [hwn] at HE2 HAy
          have HO := Lib.hid (show out = (S.ds.drop (k + 1 + 1)).any (fun d => S.within d.over no) by rw [HE2.out]; rfl)
          go_wp2_with fail
          refine HAy.out.mono ?_
          rintro e w1 ⟨rfl, hb1⟩
          have HB1 := Lib.hid (bnext HBX.out hb1)
          clear hb1
          go_wp2_with fail
          go_roundw
          case rel => exact ⟨k + 1, by omega, by go_num, HO.out, HB1.out⟩
          case measure => simp [intOf]; omega
      · obtain rfl : k = m := by omega
        have HO := Lib.hid (show out = false by rw [HE.out, ← HM.out, List.drop_length]; rfl)
        clear hbw
        go_wp2_with fail
        go_ret
        rw [HO.out]
        exact ⟨rfl, HBw.out⟩
/-- what a mount uses. -/
def useV (S : Fs) (d : Int) : Value := match S.dev d with
  | some v => .agg #[.int .i64 v.b, .int .i64 v.n, .int .i64 v.mb, .int .i64 v.mn]
  | none => .agg #[.int .i64 0, .int .i64 0, .int .i64 0, .int .i64 0]
theorem dev_out {S : Fs} {d : Int} (h : ¬ (1 ≤ d ∧ d ≤ S.ds.length)) : S.dev d = none ∧ S.root d = 0 := by
  refine ⟨?_, by unfold Fs.root; rw [if_neg h]⟩
  unfold Fs.dev
  split
  · rename_i h1
    rw [List.getElem?_eq_none]
    have : ¬ d ≤ S.ds.length := fun h2 => h ⟨h1, h2⟩
    omega
  · rfl
theorem dev_in {S : Fs} {N : Nat} (hk : FsOk S N) {k : Nat} (hkl : k < S.ds.length) : S.dev ((k : Int) + 1) = some S.ds[k] ∧ S.root ((k : Int) + 1) = S.ds[k].root ∧ S.ds[k].root ≠ 0 := by
  refine ⟨?_, ?_, ?_⟩
  · unfold Fs.dev
    rw [if_pos (by omega), show ((k : Int) + 1 - 1).toNat = k by omega, List.getElem?_eq_getElem hkl]
  · unfold Fs.root
    rw [if_pos ⟨by omega, by omega⟩, show ((k : Int) + 1 - 1).toNat = k by omega, List.getElem?_eq_getElem hkl]
  · have := (hk.root S.ds[k] (List.getElem_mem hkl)).1
    omega
theorem use_results {tmps : Array Value} {W : World} {B : Nat} {b n mb mn : Int} (hb : Blk W B #[.int .i64 b, .int .i64 n, .int .i64 mb, .int .i64 mn] 212)
    (h4 : tmps.getD 4 undef = .pointer (some ⟨B, 0, none⟩)) : (results Tryz.f194 tmps).run Tryz.prog W = .ok (.agg #[.int .i64 b, .int .i64 n, .int .i64 mb, .int .i64 mn]) W := by
  have q0 := hb.cell 0
  have q1 := hb.cell 1
  have q2 := hb.cell 2
  have q3 := hb.cell 3
  rw [Array.getD_eq_getD_getElem?] at h4
  simp only [List.getElem?_toArray, List.getElem?_cons_zero, List.getElem?_cons_succ] at q0 q1 q2 q3
  simp [results, Tryz.results194, go_sem, h4, q0, q1, q2, q3]
set_option maxRecDepth 100000 in
set_option maxHeartbeats 1000000 in
theorem wuse_any (h : WdAt w pw R S) {N : Nat} (hk : FsOk S N) (d : Int) :
    Calls Tryz.prog 194 #[.pointer (some ⟨pw, 0, none⟩), .int .i64 d] w fun e w' => e = .returned (useV S d) ∧ Below w.heap.size w w' := by
  have mixed : Tryz.prog.follows .mixedOrders = true := by kernel_rfl
  have hb0 := balloc (Below.refl w.heap.size w) (.cells #[.int .i64 0, .int .i64 0, .int .i64 0, .int .i64 0] 212)
  have HRo := Lib.hid (wroot_any (h.keep hb0) hk.d1 d)
  by_cases hd : 1 ≤ d ∧ d ≤ S.ds.length
  · obtain ⟨g, cap, hv, hle, h63, hgl, hc, -, -⟩ := h.devF hk.d1
    obtain ⟨pc, -, pz⟩ := h.blk.facts
    rw [hv] at pc
    obtain ⟨k, rfl⟩ : ∃ k : Nat, d = (k : Int) + 1 := ⟨(d - 1).toNat, by omega⟩
    have hkl : k < S.ds.length := by omega
    obtain ⟨h1, h2, h3⟩ := dev_in hk hkl
    obtain ⟨c0, c1, c2, c3, c4, c5⟩ := hc k hkl
    have hu : useV S ((k : Int) + 1) = .agg #[.int .i64 S.ds[k].b, .int .i64 S.ds[k].n, .int .i64 S.ds[k].mb, .int .i64 S.ds[k].mn] := by unfold useV; rw [h1]
    have hq : (S.ds[k].root == 0) = false := by simpa using h3
    rw [h2] at HRo
    rw [hu]
    have hkl2 : k < S.ds.length := hkl
    generalize S.ds[k] = v at c0 c1 c2 c3 c4 c5 hq HRo ⊢
    generalize S.ds.length = m at pc hle hkl2
    have c2' := (hb0.cell (p := ⟨g, k * 6 + 2, none⟩) hgl).trans c2
    have c3' := (hb0.cell (p := ⟨g, k * 6 + 3, none⟩) hgl).trans c3
    have c4' := (hb0.cell (p := ⟨g, k * 6 + 4, none⟩) hgl).trans c4
    have c5' := (hb0.cell (p := ⟨g, k * 6 + 5, none⟩) hgl).trans c5
    have pc2 := fun i => (hb0.cell (p := ⟨pw, i, none⟩) pz).trans (pc i)
    have hX := Blk.new w #[.int .i64 0, .int .i64 0, .int .i64 0, .int .i64 0] 212
    clear h hk hd hv hc hkl h1 h2 h3 hu pc c0 c1 c2 c3 c4 c5
    go_enter Tryz.func194, Tryz.ntmps194
    go_upto_region 1 with fail
    generalize w.alloc (.cells #[.int .i64 0, .int .i64 0, .int .i64 0, .int .i64 0] 212) = X at hb0 HRo c2' c3' c4' c5' pc2 hX ⊢
    obtain ⟨xc, xf, xz⟩ := hX.facts
    have HB := Lib.hid hb0
    have HX := Lib.hid hX
    clear hb0 hX
    go_wp2_with fail
    refine HRo.out.mono ?_
    rintro e w1 ⟨rfl, rfl⟩
    go_wp2_with fail
    exact bodyPost_ret (use_results HX.out.set4 rfl) rfl ⟨rfl, below_set4 HB.out (Nat.le_refl _)⟩
  · obtain ⟨h1, h2⟩ := dev_out hd
    have hu : useV S d = .agg #[.int .i64 0, .int .i64 0, .int .i64 0, .int .i64 0] := by unfold useV; rw [h1]
    rw [h2] at HRo
    rw [hu]
    have hX := Blk.new w #[.int .i64 0, .int .i64 0, .int .i64 0, .int .i64 0] 212
    clear h hk hd h1 h2 hu
    go_enter Tryz.func194, Tryz.ntmps194
    go_upto_region 1 with fail
    generalize w.alloc (.cells #[.int .i64 0, .int .i64 0, .int .i64 0, .int .i64 0] 212) = X at hb0 HRo hX ⊢
    obtain ⟨xc, xf, xz⟩ := hX.facts
    have HB := Lib.hid hb0
    have HX := Lib.hid hX
    clear hb0 hX
    go_wp2_with fail
    refine HRo.out.mono ?_
    rintro e w1 ⟨rfl, rfl⟩
    go_wp2_with fail
    exact bodyPost_ret (use_results HX.out.set4 rfl) rfl ⟨rfl, below_set4 HB.out (Nat.le_refl _)⟩
end

end Go.Proofs.YtihdbncoijhihaaGreat

/- A strings.Builder whose calls leave what lies above it as it was. -/
namespace Go.Proofs.YtihdbncoijhihaaGreat

open Go.RowKit

/-- block b is a builder that holds l; its rows lie behind it. -/
def BldK (b : Nat) (l : List UInt8) (w : World) : Prop := Lib.IsBuilderF 179 5 b b (Lib.byteCells l) w
theorem BldK.of {b : Nat} {l : List UInt8} {w : World} (h : Bld b l w) : BldK b l w := Lib.IsBuilderF.of h
theorem BldK.lt {b : Nat} {l : List UInt8} {w : World} (h : BldK b l w) : b < w.heap.size := by
  rcases h with h | h <;> exact h.lt
/-- all blocks but b and the rows of bytes are as they were. -/
abbrev Oth (b : Nat) (w w' : World) : Prop := Lib.OthersKept 5 (some b) w w'
theorem wsK_any (b : Nat) (l : List UInt8) (s : ByteArray) (w : World) (h : BldK b l w) (hl : l.length ≤ 1000000000) (hm : s.size ≤ 1000000000) :
    Calls Tryz.prog 86 #[.pointer (some ⟨b, 0, none⟩), .string s] w fun e w' => e = .returned (.tuple #[.int .i64 s.size, .nilIface]) ∧ BldK b (l ++ s.data.toList) w' ∧ Below b w w' ∧ Oth b w w' := by
  refine (Any.Builder_WriteString_k Tryz.lays166 Tryz.Builder_Extra_166 b b (Lib.byteCells l) s w h (by rw [byteCells_len]; omega) (Nat.le_of_lt h.lt)).mono ?_
  rintro e w' ⟨rfl, h1, h2, h3⟩
  refine ⟨rfl, .inr ?_, h2, h3⟩
  have : Lib.byteCells (l ++ s.data.toList) = Lib.byteCells l ++ Lib.strCells s := by simp [Lib.byteCells, Lib.strCells]
  rw [this]
  exact h1
theorem bsK_any (b : Nat) (l : List UInt8) (w : World) (h : BldK b l w) (h0 : l ≠ []) :
    Calls Tryz.prog 89 #[.pointer (some ⟨b, 0, none⟩)] w fun e w' => e = .returned (.string (str l)) ∧ Below b w w' := by
  refine (Any.Builder_String_k Tryz.lays169 Tryz.Builder_Extra_169 b b l w h h0).mono ?_
  rintro e w' ⟨rfl, -, h2, -⟩
  exact ⟨rfl, h2⟩
end Go.Proofs.YtihdbncoijhihaaGreat

/- A map whose keys are strings, as a list in the order of its entries: what a look-up, a store, a delete and len do to it. No program in sight but the map's type. -/
namespace Go.Proofs.YtihdbncoijhihaaGreat

open Go.RowKit

instance lawfulBA : LawfulBEq ByteArray where
  eq_of_beq {a b} h := by
    obtain ⟨a⟩ := a
    obtain ⟨b⟩ := b
    have h2 : (a == b) = true := h
    rw [eq_of_beq h2]
  rfl {a} := by
    obtain ⟨a⟩ := a
    show (a == a) = true
    simp

/-- one entry: key, value, when it came. -/
def entS (x : ByteArray × Value × Nat) : MapEntry := { key := .string x.1, val := x.2.1, born := x.2.2 }
/-- block m is the map of these entries. -/
def MapBS (w : World) (m : Nat) (l : List (ByteArray × Value × Nat)) (clk : Nat) : Prop := w.heap[m]? = some (.map (l.map entS).toArray clk)
/-- each key once. -/
def KeysOnceS (l : List (ByteArray × Value × Nat)) : Prop := (l.map (·.1)).Nodup

def mapFindS (l : List (ByteArray × Value × Nat)) (k : ByteArray) : Option Value := (l.find? (fun x => x.1 == k)).map (·.2.1)
def mapPutS (l : List (ByteArray × Value × Nat)) (k : ByteArray) (v : Value) : List (ByteArray × Value × Nat) := l.map fun x => if x.1 == k then (k, v, x.2.2) else x
def mapDelS (l : List (ByteArray × Value × Nat)) (k : ByteArray) : List (ByteArray × Value × Nat) := l.filter fun x => !(x.1 == k)

section

variable {P : Program} {K E T : TypeId} {w : World} {m : Nat} {l : List (ByteArray × Value × Nat)} {clk : Nat}

end

end Go.Proofs.YtihdbncoijhihaaGreat

/- Clean paths (layer 3), plainly; each of some texts once. -/
namespace Go.Proofs.YtihdbncoijhihaaGreat

open Go.RowKit

def ddB : List UInt8 := [46, 46]
/-- one part more. -/
def clS (whole : Bool) (out : List (List UInt8)) (p : List UInt8) : List (List UInt8) :=
  if p ≠ ddB then out ++ [p] else if out ≠ [] ∧ out.getLast? ≠ some ddB then out.dropLast else if whole then out else out ++ [p]
def clL (whole : Bool) (l : List (List UInt8)) : List (List UInt8) := l.foldl (clS whole) []
def wholeB (s : List UInt8) : Bool := s.head? == some 47
def cleanL (s : List UInt8) : List UInt8 :=
  if wholeB s then 47 :: Lib.join (clL true (partsL s)) [47] else if Lib.join (clL false (partsL s)) [47] = [] then [46] else Lib.join (clL false (partsL s)) [47]
def cleanB (s : ByteArray) : ByteArray := str (cleanL s.data.toList)
theorem join_snoc (y : List UInt8) (r : List (List UInt8)) (x : List UInt8) : Lib.join ((y :: r) ++ [x]) [47] = Lib.join (y :: r) [47] ++ 47 :: x := by
  rw [List.cons_append, Lib.join_cons, Lib.join_cons]
  simp [Lib.joinTail]
theorem join_one (x : List UInt8) : Lib.join [x] [47] = x := by
  rw [Lib.join_cons]
  simp [Lib.joinTail]
/-- each once, as they come first. -/
def onceL (l : List ByteArray) : List ByteArray := l.foldl (fun out p => if p ∈ out then out else out ++ [p]) []
end Go.Proofs.YtihdbncoijhihaaGreat

/- Clean paths: ragpickerref02.Parts, ragpickerref03.Clean. -/
namespace Go.Proofs.YtihdbncoijhihaaGreat

open Go.RowKit

theorem filter_snoc_yes {α : Type} {p : α → Bool} (l : List α) (k : Nat) (hk : k < l.length) (h : p l[k] = true) : (l.take (k + 1)).filter p = (l.take k).filter p ++ [l[k]] := by
  rw [List.take_succ_eq_append_getElem hk, List.filter_append]
  simp [h]
theorem filter_snoc_no {α : Type} {p : α → Bool} (l : List α) (k : Nat) (hk : k < l.length) (h : p l[k] = false) : (l.take (k + 1)).filter p = (l.take k).filter p := by
  rw [List.take_succ_eq_append_getElem hk, List.filter_append]
  simp [h]
theorem OS.len {w : World} {base : Nat} {v : Value} {ls : List (List UInt8)} (h : OS w base v ls) : ∃ a c, v = .slice a ls.length c ∧ ls.length ≤ c ∧ c ≤ 9223372036854775807 := by
  obtain ⟨a, c, h1, h2, h3, -⟩ := own_form h
  exact ⟨a, c, h1, h2, h3⟩
theorem OS.keep2 {w w' : World} {base : Nat} {v : Value} {ls : List (List UInt8)} (h : OS w base v ls) (hb : Below w.heap.size w w') : OS w' base v ls := own_below h hb (Nat.le_refl _)
/-- a text of the call's own, where it stands. -/
theorem OS.at' {w : World} {base c : Nat} {a : Option Addr} {ls : List (List UInt8)} (h : OS w base (.slice a ls.length c) ls) (k : Nat) (hk : k < ls.length) : ∃ g, a = some ⟨g, 0, none⟩ ∧ g < w.heap.size ∧ w.cell? ⟨g, k, none⟩ = some (.string (str ls[k])) := by
  obtain ⟨a', c', hv, -, -, h1⟩ := own_form h
  injection hv with e1 e2 e3
  subst e1
  subst e3
  rcases h1 with ⟨-, h2, -⟩ | ⟨g, rfl, -, h3⟩
  · omega
  · exact ⟨g, rfl, h3, h.cell k hk⟩
theorem OS.low2 {w : World} {base base' : Nat} {v : Value} {ls : List (List UInt8)} (h : OS w base v ls) (hb : base' ≤ base) : OS w base' v ls :=
  ⟨h.1, h.2.imp id fun ⟨g, cap, cur, hv, hg, rest⟩ => ⟨g, cap, cur, hv, Nat.le_trans hb hg, rest⟩⟩
theorem OS.max {w : World} {base n c : Nat} {a : Option Addr} {ls : List (List UInt8)} (h : OS w base (.slice a n c) ls) : ls.length ≤ 9223372036854775807 := by
  obtain ⟨_, _, -, h2, h3⟩ := h.len
  omega
def saysB (p : List UInt8) : Bool := !(p == []) && !(p == [46])
set_option maxRecDepth 100000 in
set_option maxHeartbeats 1000000 in
/-- ragpickerref02.Parts. -/
theorem rparts_any (s : ByteArray) (w : World) (hs : s.size ≤ 100000) :
    Calls Tryz.prog 248 #[.string s] w fun e w' => (∃ v, e = .returned v ∧ OS w' w.heap.size v (partsL s.data.toList)) ∧ Below w.heap.size w w' := by
  have HPc := Lib.hid (pieces_any s w hs)
  have HDef := Lib.hid (show partsL s.data.toList = (spl 47 s.data.toList).filter saysB from rfl)
  have hlen : (spl 47 s.data.toList).length ≤ 100001 := by
    have h1 := (spl_len 47 s.data.toList).2
    have h2 : s.data.toList.length = s.size := Array.length_toList
    omega
  generalize partsL s.data.toList = R at HDef ⊢
  generalize spl 47 s.data.toList = ls at HPc HDef hlen
  go_enter Tryz.func248, Tryz.ntmps248
  go_wp2_with fail
  refine HPc.out.mono ?_
  rintro e w1 ⟨⟨g, cap, rfl, hO⟩, hb1⟩
  have HO := Lib.hid hO
  have HB := Lib.hid hb1
  have hw1 := hb1.size
  clear hO hb1
  go_wp2_with fail
  go_loopw [3, 5] (fun t3 t5 wr => ∃ (k : Nat), k ≤ ls.length ∧ t5 = .int .i64 k ∧ OS wr w1.heap.size t3 ((ls.take k).filter saysB) ∧ Below w1.heap.size w1 wr) (fun _ t5 _ => ls.length - (intOf t5).toNat)
  case atStart => exact ⟨0, Nat.zero_le _, rfl, ⟨rfl, .inl ⟨rfl, rfl⟩⟩, Below.refl _ _⟩
  case round =>
    obtain ⟨k, hk, rfl, hO1, hW⟩ := hrel
    have HO1 := Lib.hid hO1
    have HW := Lib.hid hW
    by_cases hlt : k < ls.length
    · obtain ⟨g', hg', hgl, hcl⟩ := (HO.out.keep2 hW).at' k hlt
      injection hg' with hg'
      injection hg' with e1
      subst e1
      have HYes := Lib.hid (filter_snoc_yes (p := saysB) ls k hlt)
      have HNo := Lib.hid (filter_snoc_no (p := saysB) ls k hlt)
      have hfl : ((ls.take k).filter saysB).length ≤ 1000000 := by
        have h1 := List.length_filter_le saysB (ls.take k)
        have h2 : (ls.take k).length ≤ ls.length := by rw [List.length_take]; omega
        omega
      obtain ⟨g2, cap2, W, hrun, hO2, hB2⟩ := hO1.app ls[k] hfl hW.size
      have HX := Lib.hid (And.intro hO2 hB2)
      have HTx := Lib.hid (ba_list (str ls[k]))
      rw [str_list] at HTx
      generalize ls[k] = x at hcl HYes HNo hrun HX HTx
      generalize str x = p at hcl hrun HTx
      clear hO1 hW hO2 hB2 hfl
      by_cases h1 : p.toList = []
      · have HN := Lib.hid (HNo.out (by rw [← HTx.out, h1]; rfl))
        clear hrun
        go_wp2_with fail
        go_roundw
        case measure => simp [intOf]; omega
        case rel => exact ⟨k + 1, by omega, by go_num, by rw [HN.out]; exact HO1.out, HW.out⟩
      · by_cases h2 : p.toList = [46]
        · have HN := Lib.hid (HNo.out (by rw [← HTx.out, h2]; rfl))
          clear hrun
          go_wp2_with fail
          go_roundw
          case measure => simp [intOf]; omega
          case rel => exact ⟨k + 1, by omega, by go_num, by rw [HN.out]; exact HO1.out, HW.out⟩
        · have HY := Lib.hid (HYes.out (by rw [← HTx.out]; unfold saysB; simp [h1, h2]))
          have hp1 : p.toList.isEmpty = false := by simpa using h1
          have hp2 : (p.toList == [46]) = false := by simpa using h2
          have HR := Lib.hid hrun
          clear h1 h2 hrun
          go_wp2_with (at_builtin; refine wpList_app_run rfl rfl rfl rfl HR.out ?_)
          go_roundw
          case measure => simp [intOf]; omega
          case rel => exact ⟨k + 1, by omega, by go_num, by rw [HY.out]; exact HX.out.1, HW.out.trans HX.out.2⟩
    · obtain rfl : k = ls.length := by omega
      rw [List.take_length, ← HDef.out] at HO1
      clear hO1 hW
      go_wp2_with fail
      go_ret
      exact ⟨⟨_, rfl, HO1.out.low2 hw1⟩, bnext HB.out HW.out⟩
end Go.Proofs.YtihdbncoijhihaaGreat
