/- Texts of the proof, part 30. -/
import Derived.Test.YtaojpbgaengdpaaGreatPL19
set_option linter.unusedVariables false
set_option linter.unusedSimpArgs false
/- A node that somebody may change as its owner (layer 20): own. -/
namespace Go.Proofs.YtaojpbgaengdpaaGreat

open Go.RowKit

set_option maxRecDepth 100000 in
set_option maxHeartbeats 1000000 in
theorem own_results {tmps : Array Value} {W : World} {B : Nat} {a : An} {ea : Option Addr} {el ec : Nat} {e : Int} (hb : Blk W B #[.int .i64 a.no, .int .i64 a.dev, .int .i64 a.kind, .int .i64 a.mode, .int .i64 a.uid, .int .i64 a.gid, .int .i64 a.mtime, .int .i64 a.ctime, .int .i64 a.links, .int .i64 a.up, .string a.data, .slice ea el ec] 110)
    (h8 : tmps.getD 6 undef = .pointer (some ⟨B, 0, none⟩)) (h9 : tmps.getD 7 undef = .int .i64 e) : (results Tryz.f97 tmps).run Tryz.prog W = .ok (.tuple #[a.v ea el ec, .int .i64 e]) W := by
  obtain ⟨q0, q1, q2, q3, q4, q5, q6, q7, q8, q9, q10, q11⟩ := hb.cells12
  rw [Array.getD_eq_getD_getElem?] at h8 h9
  simp [results, Tryz.results97, go_sem, An.v, h8, h9, q0, q1, q2, q3, q4, q5, q6, q7, q8, q9, q10, q11]
/-- the error of own. -/
def Fs.ownE (S : Fs) (c : Cr) (no : Int) : Int := match S.get no with
  | none => 5
  | some n => if ownsB c n = false then 4 else 0
section

variable {w w' : World} {pw : Nat} {R : Rp} {S : Fs}

set_option maxRecDepth 100000 in
set_option maxHeartbeats 1000000 in
theorem own_none (h : WdAt w pw R S) {N : Nat} (hk : FsOk S N) (c : Cr) (no : Int) (hg : S.get no = none) :
    Calls Tryz.prog 97 #[.pointer (some ⟨pw, 0, none⟩), .agg #[.int .i64 c.u, .int .i64 c.g], .int .i64 no] w fun e w' => e = .returned (.tuple #[an0.v none 0 0, .int .i64 5]) ∧ Below w.heap.size w w' := by
  have HDv := Lib.hid (fun w1 (hb1 : Below w.heap.size w w1) => wdevs_any (h.keep hb1) hk.d1)
  have hnz := hk.d1
  generalize S.ds.length = n at HDv hnz
  have hz : ((n : Int) == 0) = false := by simp; omega
  have HG := Lib.hid (fun w1 (hb1 : Below w.heap.size w w1) => wget_no (h.keep hb1) hg)
  obtain ⟨pc, -, pz⟩ := h.blk.facts
  unfold An.v an0 at HG
  clear h hk hg
  go_enter Tryz.func97, Tryz.ntmps97
  go_wp2_with fail
  refine (HDv.out _ (balloc (balloc (Below.refl _ _) _) _)).mono ?_
  rintro e w1 ⟨rfl, rfl⟩
  go_wp2_with fail
  refine (HG.out _ (balloc (balloc (Below.refl _ _) _) _)).mono ?_
  rintro e w1 ⟨rfl, hb1⟩
  have hb2 := bnext (balloc (balloc (Below.refl w.heap.size w) _) _) hb1
  have hR : Blk w1 (w.heap.size + 1) #[.int .i64 0, .int .i64 0, .int .i64 0, .int .i64 0, .int .i64 0, .int .i64 0, .int .i64 0, .int .i64 0, .int .i64 0, .int .i64 0, .string ⟨#[]⟩, .slice none 0 0] 110 := by
    have := ((Blk.new (w.alloc (.cells #[.int .i64 c.u, .int .i64 c.g] 55)) #[.int .i64 0, .int .i64 0, .int .i64 0, .int .i64 0, .int .i64 0, .int .i64 0, .int .i64 0, .int .i64 0, .int .i64 0, .int .i64 0, .string ⟨#[]⟩, .slice none 0 0] 110).keep hb1)
    rwa [World.size_alloc] at this
  have hRX := hR.old (.cells #[.int .i64 0, .int .i64 0, .int .i64 0, .int .i64 0, .int .i64 0, .int .i64 0, .int .i64 0, .int .i64 0, .int .i64 0, .int .i64 0, .string ByteArray.empty, .slice none 0 0] 110)
  have hbX := balloc hb2 (.cells #[.int .i64 0, .int .i64 0, .int .i64 0, .int .i64 0, .int .i64 0, .int .i64 0, .int .i64 0, .int .i64 0, .int .i64 0, .int .i64 0, .string ByteArray.empty, .slice none 0 0] 110)
  clear hR hb1 hb2 pc
  go_upto_region 4 with fail
  generalize w1.alloc (.cells #[.int .i64 0, .int .i64 0, .int .i64 0, .int .i64 0, .int .i64 0, .int .i64 0, .int .i64 0, .int .i64 0, .int .i64 0, .int .i64 0, .string ByteArray.empty, .slice none 0 0] 110) = X at hRX hbX ⊢
  have HRX := Lib.hid hRX
  have HBX := Lib.hid hbX
  obtain ⟨rc, rf, rz⟩ := hRX.facts
  clear hRX hbX
  go_wp2_with fail
  exact bodyPost_ret (own_results (a := an0) HRX.out.set12 rfl rfl) rfl ⟨rfl, below_set12 HBX.out (Nat.le_succ _)⟩
set_option maxRecDepth 100000 in
set_option maxHeartbeats 2000000 in
theorem own_some (h : WdAt w pw R S) {N : Nat} (hk : FsOk S N) (c : Cr) (no : Int) (d : An) (hg : S.get no = some d) :
    Calls Tryz.prog 97 #[.pointer (some ⟨pw, 0, none⟩), .agg #[.int .i64 c.u, .int .i64 c.g], .int .i64 no] w fun e w' => ((ownsB c d = false ∧ e = .returned (.tuple #[an0.v none 0 0, .int .i64 4])) ∨ (ownsB c d = true ∧ ∃ ea el ec, e = .returned (.tuple #[d.v ea el ec, .int .i64 0]) ∧ EntsAt w ea el ec d.ents)) ∧ Below w.heap.size w w' := by
  have HDv := Lib.hid (fun w1 (hb1 : Below w.heap.size w w1) => wdevs_any (h.keep hb1) hk.d1)
  have hnz := hk.d1
  generalize S.ds.length = n at HDv hnz
  have hz : ((n : Int) == 0) = false := by simp; omega
  obtain ⟨ea, el, ec, he, hG⟩ := wget_fix h hg
  have HE := Lib.hid he
  have HG := Lib.hid hG
  unfold An.v at HG
  have HNd := Lib.hid (fun w => powns_any c d ea el ec w)
  unfold Cr.v An.v at HNd
  obtain ⟨pc, -, pz⟩ := h.blk.facts
  generalize ownsB c d = my at HNd ⊢
  clear h hk hg he hG
  go_enter Tryz.func97, Tryz.ntmps97
  go_wp2_with fail
  refine (HDv.out _ (balloc (balloc (Below.refl _ _) _) _)).mono ?_
  rintro e w1 ⟨rfl, rfl⟩
  go_wp2_with fail
  refine (HG.out _ (balloc (balloc (Below.refl _ _) _) _)).mono ?_
  rintro e w1 ⟨rfl, hb1⟩
  have hb2 := bnext (balloc (balloc (Below.refl w.heap.size w) _) _) hb1
  have hR : Blk w1 (w.heap.size + 1) #[.int .i64 0, .int .i64 0, .int .i64 0, .int .i64 0, .int .i64 0, .int .i64 0, .int .i64 0, .int .i64 0, .int .i64 0, .int .i64 0, .string ⟨#[]⟩, .slice none 0 0] 110 := by
    have := ((Blk.new (w.alloc (.cells #[.int .i64 c.u, .int .i64 c.g] 55)) #[.int .i64 0, .int .i64 0, .int .i64 0, .int .i64 0, .int .i64 0, .int .i64 0, .int .i64 0, .int .i64 0, .int .i64 0, .int .i64 0, .string ⟨#[]⟩, .slice none 0 0] 110).keep hb1)
    rwa [World.size_alloc] at this
  have hCr : Blk w1 w.heap.size #[.int .i64 c.u, .int .i64 c.g] 55 := ((Blk.new w #[.int .i64 c.u, .int .i64 c.g] 55).old (.cells #[.int .i64 0, .int .i64 0, .int .i64 0, .int .i64 0, .int .i64 0, .int .i64 0, .int .i64 0, .int .i64 0, .int .i64 0, .int .i64 0, .string ⟨#[]⟩, .slice none 0 0] 110)).keep hb1
  have hRX := hR.old (.cells #[.int .i64 d.no, .int .i64 d.dev, .int .i64 d.kind, .int .i64 d.mode, .int .i64 d.uid, .int .i64 d.gid, .int .i64 d.mtime, .int .i64 d.ctime, .int .i64 d.links, .int .i64 d.up, .string d.data, .slice ea el ec] 110)
  have hCX := hCr.old (.cells #[.int .i64 d.no, .int .i64 d.dev, .int .i64 d.kind, .int .i64 d.mode, .int .i64 d.uid, .int .i64 d.gid, .int .i64 d.mtime, .int .i64 d.ctime, .int .i64 d.links, .int .i64 d.up, .string d.data, .slice ea el ec] 110)
  have hDX := Blk.new w1 #[.int .i64 d.no, .int .i64 d.dev, .int .i64 d.kind, .int .i64 d.mode, .int .i64 d.uid, .int .i64 d.gid, .int .i64 d.mtime, .int .i64 d.ctime, .int .i64 d.links, .int .i64 d.up, .string d.data, .slice ea el ec] 110
  have hbX := balloc hb2 (.cells #[.int .i64 d.no, .int .i64 d.dev, .int .i64 d.kind, .int .i64 d.mode, .int .i64 d.uid, .int .i64 d.gid, .int .i64 d.mtime, .int .i64 d.ctime, .int .i64 d.links, .int .i64 d.up, .string d.data, .slice ea el ec] 110)
  clear hR hCr hb1 hb2 pc
  go_upto_region 4 with fail
  generalize w1.alloc (.cells #[.int .i64 d.no, .int .i64 d.dev, .int .i64 d.kind, .int .i64 d.mode, .int .i64 d.uid, .int .i64 d.gid, .int .i64 d.mtime, .int .i64 d.ctime, .int .i64 d.links, .int .i64 d.up, .string d.data, .slice ea el ec] 110) = X at hRX hCX hDX hbX ⊢
  have HRX := Lib.hid hRX
  have HBX := Lib.hid hbX
  have HDX := Lib.hid hDX
  have HCX := Lib.hid hCX
  obtain ⟨rc, rf, rz⟩ := hRX.facts
  obtain ⟨dc, df, dz⟩ := hDX.facts
  obtain ⟨cc, -, -⟩ := hCX.facts
  clear hRX hbX hDX hCX
  go_wp2_with fail
  refine (HNd.out _).mono ?_
  rintro e w5 ⟨rfl, hb5⟩
  have hRX5 := HRX.out.keep hb5
  have hDX5 := HDX.out.keep hb5
  have hBX5 := HBX.out.trans (hb5.mono HBX.out.size)
  have HRX5 := Lib.hid hRX5
  have HBX5 := Lib.hid hBX5
  clear rc rf rz dc df dz cc
  obtain ⟨rc, rf, rz⟩ := hRX5.facts
  obtain ⟨dc, -, -⟩ := hDX5.facts
  clear hRX5 hBX5 hb5 hDX5
  cases my
  · go_wp2_with fail
    exact bodyPost_ret (own_results (a := an0) HRX5.out.set12 rfl rfl) rfl ⟨rfl, below_set12 HBX5.out (Nat.le_succ _)⟩
  · go_wp2_with fail
    exact bodyPost_ret (own_results (a := d) (ea := ea) (el := el) (ec := ec) HRX5.out.set12 rfl rfl) rfl ⟨⟨ea, el, ec, rfl, HE.out⟩, below_set12 HBX5.out (Nat.le_succ _)⟩
theorem own_any (h : WdAt w pw R S) {N : Nat} (hk : FsOk S N) (c : Cr) (no : Int) :
    Calls Tryz.prog 97 #[.pointer (some ⟨pw, 0, none⟩), .agg #[.int .i64 c.u, .int .i64 c.g], .int .i64 no] w fun e w' => ((S.ownE c no ≠ 0 ∧ e = .returned (.tuple #[an0.v none 0 0, .int .i64 (S.ownE c no)])) ∨ (S.ownE c no = 0 ∧ ∃ d ea el ec, S.get no = some d ∧ e = .returned (.tuple #[d.v ea el ec, .int .i64 0]) ∧ EntsAt w ea el ec d.ents)) ∧ Below w.heap.size w w' := by
  cases hg : S.get no with
  | none =>
    refine (own_none h hk c no hg).mono ?_
    rintro e w1 ⟨rfl, hb⟩
    have : S.ownE c no = 5 := by unfold Fs.ownE; rw [hg]
    rw [this]
    exact ⟨.inl ⟨by decide, rfl⟩, hb⟩
  | some d =>
    refine (own_some h hk c no d hg).mono ?_
    rintro e w1 ⟨⟨h1, rfl⟩ | ⟨h1, ea, el, ec, h2, h3⟩, hb⟩
    · have : S.ownE c no = 4 := by unfold Fs.ownE; rw [hg]; simp only; rw [if_pos h1]
      rw [this]
      exact ⟨.inl ⟨by decide, rfl⟩, hb⟩
    · have : S.ownE c no = 0 := by unfold Fs.ownE; rw [hg]; simp only; rw [if_neg (by simp [h1])]
      rw [this]
      exact ⟨.inr ⟨rfl, d, ea, el, ec, rfl, h2, h3⟩, hb⟩
end

end Go.Proofs.YtaojpbgaengdpaaGreat
