/- Texts of the proof, part 16. -/
import Derived.Deep.CutBlock
import Derived.Deep.DeepCutAuto
import Derived.RegionTactic
import Derived.BigRegion
import Derived.Test.YtkkiglagdojnlaaGreatDoorEP14
set_option linter.unusedVariables false
set_option linter.unusedSimpArgs false
/- A node that somebody may change as its owner (layer 20): own. -/
namespace Go.Proofs.YtkkiglagdojnlaaGreatDoor

open Go.RowKit

set_option maxRecDepth 100000 in
set_option maxHeartbeats 1000000 in
theorem own_results {tmps : Array Value} {W : World} {B : Nat} {a : An} {ea : Option Addr} {el ec : Nat} {e : Int} (hb : Blk W B #[.int .i64 a.no, .int .i64 a.dev, .int .i64 a.kind, .int .i64 a.mode, .int .i64 a.uid, .int .i64 a.gid, .int .i64 a.mtime, .int .i64 a.ctime, .int .i64 a.links, .int .i64 a.up, .string a.data, .slice ea el ec] 170)
    (h8 : tmps.getD 6 undef = .pointer (some ⟨B, 0, none⟩)) (h9 : tmps.getD 7 undef = .int .i64 e) : (results Tryz.f169 tmps).run Tryz.prog W = .ok (.tuple #[a.v ea el ec, .int .i64 e]) W := by
  obtain ⟨q0, q1, q2, q3, q4, q5, q6, q7, q8, q9, q10, q11⟩ := hb.cells12
  rw [Array.getD_eq_getD_getElem?] at h8 h9
  simp [results, Tryz.results169, go_sem, An.v, h8, h9, q0, q1, q2, q3, q4, q5, q6, q7, q8, q9, q10, q11]
/-- the error of own. -/
def Fs.ownE (S : Fs) (c : Cr) (no : Int) : Int := match S.get no with
  | none => 5
  | some n => if ownsB c n = false then 4 else 0
section

variable {w w' : World} {pw : Nat} {R : Rp} {S : Fs}

set_option maxRecDepth 100000 in
set_option maxHeartbeats 1000000 in
theorem own_none (h : WdAt w pw R S) {N : Nat} (hk : FsOk S N) (c : Cr) (no : Int) (hg : S.get no = none) :
    Calls Tryz.prog 169 #[.pointer (some ⟨pw, 0, none⟩), .agg #[.int .i64 c.u, .int .i64 c.g], .int .i64 no] w fun e w' => e = .returned (.tuple #[an0.v none 0 0, .int .i64 5]) ∧ Below w.heap.size w w' := by
  have HDv := Lib.hid (fun w1 (hb1 : Below w.heap.size w w1) => wdevs_any (h.keep hb1) hk.d1)
  have hnz := hk.d1
  generalize S.ds.length = n at HDv hnz
  have hz : ((n : Int) == 0) = false := by simp; omega
  have HG := Lib.hid (fun w1 (hb1 : Below w.heap.size w w1) => wget_no (h.keep hb1) hg)
  obtain ⟨pc, -, pz⟩ := h.blk.facts
  unfold An.v an0 at HG
  clear h hk hg
  go_enter Tryz.func169, Tryz.ntmps169
  go_wp2_with fail
  refine (HDv.out _ (balloc (balloc (Below.refl _ _) _) _)).mono ?_
  rintro e w1 ⟨rfl, rfl⟩
  go_wp2_with fail
  refine (HG.out _ (balloc (balloc (Below.refl _ _) _) _)).mono ?_
  rintro e w1 ⟨rfl, hb1⟩
  have hb2 := bnext (balloc (balloc (Below.refl w.heap.size w) _) _) hb1
  have hR : Blk w1 (w.heap.size + 1) #[.int .i64 0, .int .i64 0, .int .i64 0, .int .i64 0, .int .i64 0, .int .i64 0, .int .i64 0, .int .i64 0, .int .i64 0, .int .i64 0, .string ⟨#[]⟩, .slice none 0 0] 170 := by
    have := ((Blk.new (w.alloc (.cells #[.int .i64 c.u, .int .i64 c.g] 54)) #[.int .i64 0, .int .i64 0, .int .i64 0, .int .i64 0, .int .i64 0, .int .i64 0, .int .i64 0, .int .i64 0, .int .i64 0, .int .i64 0, .string ⟨#[]⟩, .slice none 0 0] 170).keep hb1)
    rwa [World.size_alloc] at this
  have hRX := hR.old (.cells #[.int .i64 0, .int .i64 0, .int .i64 0, .int .i64 0, .int .i64 0, .int .i64 0, .int .i64 0, .int .i64 0, .int .i64 0, .int .i64 0, .string ByteArray.empty, .slice none 0 0] 170)
  have hbX := balloc hb2 (.cells #[.int .i64 0, .int .i64 0, .int .i64 0, .int .i64 0, .int .i64 0, .int .i64 0, .int .i64 0, .int .i64 0, .int .i64 0, .int .i64 0, .string ByteArray.empty, .slice none 0 0] 170)
  clear hR hb1 hb2 pc
  go_upto_region 4 with fail
  generalize w1.alloc (.cells #[.int .i64 0, .int .i64 0, .int .i64 0, .int .i64 0, .int .i64 0, .int .i64 0, .int .i64 0, .int .i64 0, .int .i64 0, .int .i64 0, .string ByteArray.empty, .slice none 0 0] 170) = X at hRX hbX ⊢
  have HRX := Lib.hid hRX
  have HBX := Lib.hid hbX
  obtain ⟨rc, rf, rz⟩ := hRX.facts
  clear hRX hbX
  go_wp2_with fail
  exact bodyPost_ret (own_results (a := an0) HRX.out.set12 rfl rfl) rfl ⟨rfl, below_set12 HBX.out (Nat.le_succ _)⟩
set_option maxRecDepth 100000 in
set_option maxHeartbeats 2000000 in
theorem own_some (h : WdAt w pw R S) {N : Nat} (hk : FsOk S N) (c : Cr) (no : Int) (d : An) (hg : S.get no = some d) :
    Calls Tryz.prog 169 #[.pointer (some ⟨pw, 0, none⟩), .agg #[.int .i64 c.u, .int .i64 c.g], .int .i64 no] w fun e w' => ((ownsB c d = false ∧ e = .returned (.tuple #[an0.v none 0 0, .int .i64 4])) ∨ (ownsB c d = true ∧ ∃ ea el ec, e = .returned (.tuple #[d.v ea el ec, .int .i64 0]) ∧ EntsAt w ea el ec d.ents)) ∧ Below w.heap.size w w' := by
  have HDv := Lib.hid (fun w1 (hb1 : Below w.heap.size w w1) => wdevs_any (h.keep hb1) hk.d1)
  have hnz := hk.d1
  generalize S.ds.length = n at HDv hnz
  have hz : ((n : Int) == 0) = false := by simp; omega
  obtain ⟨ea, el, ec, he, hG⟩ := wget_fix h hg
  have HE := Lib.hid he
  have HG := Lib.hid hG
  unfold An.v at HG
  have HNd := Lib.hid (fun w => powns_any c d ea el ec w)
  unfold Cr.v An.v at HNd
  obtain ⟨pc, -, pz⟩ := h.blk.facts
  generalize ownsB c d = my at HNd ⊢
  clear h hk hg he hG
  go_enter Tryz.func169, Tryz.ntmps169
  go_wp2_with fail
  refine (HDv.out _ (balloc (balloc (Below.refl _ _) _) _)).mono ?_
  rintro e w1 ⟨rfl, rfl⟩
  go_wp2_with fail
  refine (HG.out _ (balloc (balloc (Below.refl _ _) _) _)).mono ?_
  rintro e w1 ⟨rfl, hb1⟩
  have hb2 := bnext (balloc (balloc (Below.refl w.heap.size w) _) _) hb1
  have hR : Blk w1 (w.heap.size + 1) #[.int .i64 0, .int .i64 0, .int .i64 0, .int .i64 0, .int .i64 0, .int .i64 0, .int .i64 0, .int .i64 0, .int .i64 0, .int .i64 0, .string ⟨#[]⟩, .slice none 0 0] 170 := by
    have := ((Blk.new (w.alloc (.cells #[.int .i64 c.u, .int .i64 c.g] 54)) #[.int .i64 0, .int .i64 0, .int .i64 0, .int .i64 0, .int .i64 0, .int .i64 0, .int .i64 0, .int .i64 0, .int .i64 0, .int .i64 0, .string ⟨#[]⟩, .slice none 0 0] 170).keep hb1)
    rwa [World.size_alloc] at this
  have hCr : Blk w1 w.heap.size #[.int .i64 c.u, .int .i64 c.g] 54 := ((Blk.new w #[.int .i64 c.u, .int .i64 c.g] 54).old (.cells #[.int .i64 0, .int .i64 0, .int .i64 0, .int .i64 0, .int .i64 0, .int .i64 0, .int .i64 0, .int .i64 0, .int .i64 0, .int .i64 0, .string ⟨#[]⟩, .slice none 0 0] 170)).keep hb1
  have hRX := hR.old (.cells #[.int .i64 d.no, .int .i64 d.dev, .int .i64 d.kind, .int .i64 d.mode, .int .i64 d.uid, .int .i64 d.gid, .int .i64 d.mtime, .int .i64 d.ctime, .int .i64 d.links, .int .i64 d.up, .string d.data, .slice ea el ec] 170)
  have hCX := hCr.old (.cells #[.int .i64 d.no, .int .i64 d.dev, .int .i64 d.kind, .int .i64 d.mode, .int .i64 d.uid, .int .i64 d.gid, .int .i64 d.mtime, .int .i64 d.ctime, .int .i64 d.links, .int .i64 d.up, .string d.data, .slice ea el ec] 170)
  have hDX := Blk.new w1 #[.int .i64 d.no, .int .i64 d.dev, .int .i64 d.kind, .int .i64 d.mode, .int .i64 d.uid, .int .i64 d.gid, .int .i64 d.mtime, .int .i64 d.ctime, .int .i64 d.links, .int .i64 d.up, .string d.data, .slice ea el ec] 170
  have hbX := balloc hb2 (.cells #[.int .i64 d.no, .int .i64 d.dev, .int .i64 d.kind, .int .i64 d.mode, .int .i64 d.uid, .int .i64 d.gid, .int .i64 d.mtime, .int .i64 d.ctime, .int .i64 d.links, .int .i64 d.up, .string d.data, .slice ea el ec] 170)
  clear hR hCr hb1 hb2 pc
  go_upto_region 4 with fail
  generalize w1.alloc (.cells #[.int .i64 d.no, .int .i64 d.dev, .int .i64 d.kind, .int .i64 d.mode, .int .i64 d.uid, .int .i64 d.gid, .int .i64 d.mtime, .int .i64 d.ctime, .int .i64 d.links, .int .i64 d.up, .string d.data, .slice ea el ec] 170) = X at hRX hCX hDX hbX ⊢
  have HRX := Lib.hid hRX
  have HBX := Lib.hid hbX
  have HDX := Lib.hid hDX
  have HCX := Lib.hid hCX
  obtain ⟨rc, rf, rz⟩ := hRX.facts
  obtain ⟨dc, df, dz⟩ := hDX.facts
  obtain ⟨cc, -, -⟩ := hCX.facts
  clear hRX hbX hDX hCX
  go_wp2_with fail
  refine (HNd.out _).mono ?_
  rintro e w5 ⟨rfl, hb5⟩
  have hRX5 := HRX.out.keep hb5
  have hDX5 := HDX.out.keep hb5
  have hBX5 := HBX.out.trans (hb5.mono HBX.out.size)
  have HRX5 := Lib.hid hRX5
  have HBX5 := Lib.hid hBX5
  clear rc rf rz dc df dz cc
  obtain ⟨rc, rf, rz⟩ := hRX5.facts
  obtain ⟨dc, -, -⟩ := hDX5.facts
  clear hRX5 hBX5 hb5 hDX5
  cases my
  · go_wp2_with fail
    exact bodyPost_ret (own_results (a := an0) HRX5.out.set12 rfl rfl) rfl ⟨rfl, below_set12 HBX5.out (Nat.le_succ _)⟩
  · go_wp2_with fail
    exact bodyPost_ret (own_results (a := d) (ea := ea) (el := el) (ec := ec) HRX5.out.set12 rfl rfl) rfl ⟨⟨ea, el, ec, rfl, HE.out⟩, below_set12 HBX5.out (Nat.le_succ _)⟩
theorem own_any (h : WdAt w pw R S) {N : Nat} (hk : FsOk S N) (c : Cr) (no : Int) :
    Calls Tryz.prog 169 #[.pointer (some ⟨pw, 0, none⟩), .agg #[.int .i64 c.u, .int .i64 c.g], .int .i64 no] w fun e w' => ((S.ownE c no ≠ 0 ∧ e = .returned (.tuple #[an0.v none 0 0, .int .i64 (S.ownE c no)])) ∨ (S.ownE c no = 0 ∧ ∃ d ea el ec, S.get no = some d ∧ e = .returned (.tuple #[d.v ea el ec, .int .i64 0]) ∧ EntsAt w ea el ec d.ents)) ∧ Below w.heap.size w w' := by
  cases hg : S.get no with
  | none =>
    refine (own_none h hk c no hg).mono ?_
    rintro e w1 ⟨rfl, hb⟩
    have : S.ownE c no = 5 := by unfold Fs.ownE; rw [hg]
    rw [this]
    exact ⟨.inl ⟨by decide, rfl⟩, hb⟩
  | some d =>
    refine (own_some h hk c no d hg).mono ?_
    rintro e w1 ⟨⟨h1, rfl⟩ | ⟨h1, ea, el, ec, h2, h3⟩, hb⟩
    · have : S.ownE c no = 4 := by unfold Fs.ownE; rw [hg]; simp only; rw [if_pos h1]
      rw [this]
      exact ⟨.inl ⟨by decide, rfl⟩, hb⟩
    · have : S.ownE c no = 0 := by unfold Fs.ownE; rw [hg]; simp only; rw [if_neg (by simp [h1])]
      rw [this]
      exact ⟨.inr ⟨rfl, d, ea, el, ec, rfl, h2, h3⟩, hb⟩
end

end Go.Proofs.YtkkiglagdojnlaaGreatDoor

/- Whoever owns a node changes it (layer 20): Mode, Owner, Time. Printed by gen_attr.py. -/
namespace Go.Proofs.YtkkiglagdojnlaaGreatDoor

open Go.RowKit

section

variable {w w' : World} {pw : Nat} {R : Rp} {S : Fs}

theorem ownE_yes {S : Fs} {c : Cr} {no : Int} {d : An} (h : S.ownE c no = 0) (hg : S.get no = some d) : ownsB c d = true := by
  unfold Fs.ownE at h
  rw [hg] at h
  simp only at h
  cases ho : ownsB c d with
  | true => rfl
  | false => rw [ho] at h; simp at h
theorem chmod_no {S : Fs} {c : Cr} {now no m : Int} (h : S.ownE c no ≠ 0) : S.chmod c now no m = (S, S.ownE c no) := by
  unfold Fs.chmod Fs.ownE at *
  cases hg : S.get no with
  | none => rfl
  | some d =>
    simp only [hg] at h ⊢
    cases ho : ownsB c d with
    | true => rw [ho] at h; simp at h
    | false => rfl
theorem chown_no {S : Fs} {c : Cr} {now no u g : Int} (h : S.ownE c no ≠ 0) : S.chown c now no u g = (S, S.ownE c no) := by
  unfold Fs.chown Fs.ownE at *
  cases hg : S.get no with
  | none => rfl
  | some d =>
    simp only [hg] at h ⊢
    cases ho : ownsB c d with
    | true => rw [ho] at h; simp at h
    | false => rfl
theorem utime_no {S : Fs} {c : Cr} {now no t : Int} (h : S.ownE c no ≠ 0) : S.utime c now no t = (S, S.ownE c no) := by
  unfold Fs.utime Fs.ownE at *
  cases hg : S.get no with
  | none => rfl
  | some d =>
    simp only [hg] at h ⊢
    cases ho : ownsB c d with
    | true => rw [ho] at h; simp at h
    | false => rfl
set_option maxRecDepth 100000 in
set_option maxHeartbeats 2000000 in
theorem mode_any (h : WdAt w pw R S) {N : Nat} (hk : FsOk S N) (c : Cr) (now no mode : Int) :
    Calls Tryz.prog 111 #[.pointer (some ⟨pw, 0, none⟩), .agg #[.int .i64 c.u, .int .i64 c.g], .int .i64 now, .int .i64 no, .int .i64 mode] w fun e w' =>
      e = .returned (.int .i64 (S.chmod c now no mode).2) ∧ ∃ R', WdAt w' pw R' (S.chmod c now no mode).1 ∧ Stp (R.F pw) (R'.F pw) w w' := by
  have HO := Lib.hid (fun w1 (hb1 : Below w.heap.size w w1) => own_any (h.keep hb1) hk c no)
  have HW := Lib.hid h
  have mixed : Tryz.prog.follows .mixedOrders = true := by kernel_rfl
  obtain ⟨pc, -, pz⟩ := h.blk.facts
  clear h hk
  go_enter Tryz.func111, Tryz.ntmps111
  go_wp2_with fail
  refine (HO.out _ (balloc (Below.refl _ _) _)).mono ?_
  clear HO
  rintro e w1 ⟨⟨h0, rfl⟩ | ⟨h0, d, ea, el, ec, hg, rfl, he⟩, hb1⟩
  · have hbX := bnext (balloc (Below.refl w.heap.size w) _) hb1
    have HB := Lib.hid hbX
    have HC := Lib.hid (chmod_no (now := now) (m := mode) h0)
    have hz : (S.ownE c no == 0) = false := by simpa using h0
    generalize S.ownE c no = pe at HC hz ⊢
    unfold An.v an0
    clear h0 hb1 hbX pc
    go_wp2_with fail
    go_ret
    rw [HC.out]
    exact ⟨rfl, R, HW.out.keep (balloc HB.out _), Stp.of_below (balloc HB.out _)⟩
  · have hbX := balloc hb1 (.cells #[.int .i64 d.no, .int .i64 d.dev, .int .i64 d.kind, .int .i64 d.mode, .int .i64 d.uid, .int .i64 d.gid, .int .i64 d.mtime, .int .i64 d.ctime, .int .i64 d.links, .int .i64 d.up, .string d.data, .slice ea el ec] 170)
    have hCX := ((Blk.new w #[.int .i64 c.u, .int .i64 c.g] 54).keep hb1).old (.cells #[.int .i64 d.no, .int .i64 d.dev, .int .i64 d.kind, .int .i64 d.mode, .int .i64 d.uid, .int .i64 d.gid, .int .i64 d.mtime, .int .i64 d.ctime, .int .i64 d.links, .int .i64 d.up, .string d.data, .slice ea el ec] 170)
    have hDX := Blk.new w1 #[.int .i64 d.no, .int .i64 d.dev, .int .i64 d.kind, .int .i64 d.mode, .int .i64 d.uid, .int .i64 d.gid, .int .i64 d.mtime, .int .i64 d.ctime, .int .i64 d.links, .int .i64 d.up, .string d.data, .slice ea el ec] 170
    have hsz := hb1.size
    have HOw := Lib.hid (ownE_yes h0 hg)
    have HSet := Lib.hid (fun w1 (hb1 : Below (w.alloc (.cells #[.int .i64 c.u, .int .i64 c.g] 54)).heap.size (w.alloc (.cells #[.int .i64 c.u, .int .i64 c.g] 54)) w1) => (HW.out.keep (bnext (balloc (Below.refl _ _) _) hb1)).setN { d with mode := mode, ctime := now } (he.keep hb1) (b := d) (by rw [show ({ d with mode := mode, ctime := now } : An).no = d.no from rfl, an_no hg]; exact hg))
    have HG := Lib.hid hg
    unfold An.v at HSet
    unfold An.v
    clear h0 hb1 he hg
    go_upto_region 2 with fail
    generalize w1.alloc (.cells #[.int .i64 d.no, .int .i64 d.dev, .int .i64 d.kind, .int .i64 d.mode, .int .i64 d.uid, .int .i64 d.gid, .int .i64 d.mtime, .int .i64 d.ctime, .int .i64 d.links, .int .i64 d.up, .string d.data, .slice ea el ec] 170) = X at hbX hCX hDX ⊢
    obtain ⟨dc, df, dz⟩ := hDX.facts
    obtain ⟨cc, -, -⟩ := hCX.facts
    have HCX := Lib.hid hCX
    have HDX := Lib.hid hDX
    have HBX := Lib.hid hbX
    have HPC := Lib.hid pc
    have HPZ := Lib.hid pz
    clear hCX hDX hbX pc pz
    by_cases h1 : mode < 0
    · skip
      have HE := Lib.hid (show S.chmod c now no mode = (S, 1) by unfold Fs.chmod; rw [HG.out]; simp only; rw [if_neg (by rw [HOw.out]; decide), if_pos (.inl h1)])
      go_wp2_with fail
      go_ret
      rw [HE.out]
      exact ⟨rfl, R, HW.out.keep (bnext (balloc (Below.refl _ _) _) HBX.out), Stp.of_below (bnext (balloc (Below.refl _ _) _) HBX.out)⟩
    by_cases h2 : 1023 < mode
    · skip
      have HE := Lib.hid (show S.chmod c now no mode = (S, 1) by unfold Fs.chmod; rw [HG.out]; simp only; rw [if_neg (by rw [HOw.out]; decide), if_pos (.inr (.inl h2))])
      go_wp2_with fail
      go_ret
      rw [HE.out]
      exact ⟨rfl, R, HW.out.keep (bnext (balloc (Below.refl _ _) _) HBX.out), Stp.of_below (bnext (balloc (Below.refl _ _) _) HBX.out)⟩
    by_cases h3 : d.kind = 3
    · have h3' : (d.kind == 3) = true := by simpa using h3
      have HE := Lib.hid (show S.chmod c now no mode = (S, 1) by unfold Fs.chmod; rw [HG.out]; simp only; rw [if_neg (by rw [HOw.out]; decide), if_pos (.inr (.inr h3))])
      clear h3
      go_wp2_with fail
      go_ret
      rw [HE.out]
      exact ⟨rfl, R, HW.out.keep (bnext (balloc (Below.refl _ _) _) HBX.out), Stp.of_below (bnext (balloc (Below.refl _ _) _) HBX.out)⟩
    have h3' : (d.kind == 3) = false := by simpa using h3
    have HE := Lib.hid (show S.chmod c now no mode = (S.set { d with mode := mode, ctime := now }, 0) by unfold Fs.chmod; rw [HG.out]; simp only; rw [if_neg (by rw [HOw.out]; decide), if_neg (by omega)])
    go_wp2_with fail
    have hDY := ((HDX.out.set 3 (.int .i64 mode)).set 7 (.int .i64 now))
    have hbY : Below (w.alloc (.cells #[.int .i64 c.u, .int .i64 c.g] 54)).heap.size (w.alloc (.cells #[.int .i64 c.u, .int .i64 c.g] 54)) ((X.setCell ⟨w1.heap.size, 3, none⟩ (.int .i64 mode)).setCell ⟨w1.heap.size, 7, none⟩ (.int .i64 now)) := ((HBX.out.setCell hsz _).setCell hsz _)
    generalize ((X.setCell ⟨w1.heap.size, 3, none⟩ (.int .i64 mode)).setCell ⟨w1.heap.size, 7, none⟩ (.int .i64 now)) = Y at hDY hbY ⊢
    obtain ⟨q0, q1, q2, q3, q4, q5, q6, q7, q8, q9, q10, q11⟩ := Blk.cells12 (x0 := .int .i64 d.no) hDY
    have pc0 : Y.cell? ⟨pw, 0, none⟩ = some (.pointer (some ⟨R.pt, 0, none⟩)) := ((bnext (balloc (Below.refl w.heap.size w) (.cells #[.int .i64 c.u, .int .i64 c.g] 54)) hbY).cell (p := ⟨pw, 0, none⟩) HPZ.out).trans (HPC.out 0)
    have HS := Lib.hid (HSet.out _ hbY.drew)
    have HY := Lib.hid hbY
    clear hDY hbY dc df dz
    try clear cc
    refine wp_region_lex 5 mixed (by kernel_rfl) then_panic ?_
    simp only [List.take_succ_cons, List.take_zero, List.drop_succ_cons, List.drop_zero]
    repeat still_step
    refine wpStill_nil ?_
    go_wp2_with fail
    refine HS.out.mono ?_
    rintro e w5 ⟨rfl, R', hR1, hR2, -, -⟩
    have HR := Lib.hid (And.intro hR1 hR2)
    clear hR1 hR2
    go_wp2_with fail
    go_ret
    rw [HE.out]
    exact ⟨rfl, R', HR.out.1, (Stp.of_below (bnext (balloc (Below.refl _ _) _) HY.out.drew)).trans HR.out.2⟩
set_option maxRecDepth 100000 in
set_option maxHeartbeats 2000000 in
theorem owner_any (h : WdAt w pw R S) {N : Nat} (hk : FsOk S N) (c : Cr) (now no u g : Int) :
    Calls Tryz.prog 110 #[.pointer (some ⟨pw, 0, none⟩), .agg #[.int .i64 c.u, .int .i64 c.g], .int .i64 now, .int .i64 no, .int .i64 u, .int .i64 g] w fun e w' =>
      e = .returned (.int .i64 (S.chown c now no u g).2) ∧ ∃ R', WdAt w' pw R' (S.chown c now no u g).1 ∧ Stp (R.F pw) (R'.F pw) w w' := by
  have HO := Lib.hid (fun w1 (hb1 : Below w.heap.size w w1) => own_any (h.keep hb1) hk c no)
  have HW := Lib.hid h
  have mixed : Tryz.prog.follows .mixedOrders = true := by kernel_rfl
  obtain ⟨pc, -, pz⟩ := h.blk.facts
  clear h hk
  go_enter Tryz.func110, Tryz.ntmps110
  go_wp2_with fail
  refine (HO.out _ (balloc (Below.refl _ _) _)).mono ?_
  clear HO
  rintro e w1 ⟨⟨h0, rfl⟩ | ⟨h0, d, ea, el, ec, hg, rfl, he⟩, hb1⟩
  · have hbX := bnext (balloc (Below.refl w.heap.size w) _) hb1
    have HB := Lib.hid hbX
    have HC := Lib.hid (chown_no (now := now) (u := u) (g := g) h0)
    have hz : (S.ownE c no == 0) = false := by simpa using h0
    generalize S.ownE c no = pe at HC hz ⊢
    unfold An.v an0
    clear h0 hb1 hbX pc
    go_wp2_with fail
    go_ret
    rw [HC.out]
    exact ⟨rfl, R, HW.out.keep (balloc HB.out _), Stp.of_below (balloc HB.out _)⟩
  · have hbX := balloc hb1 (.cells #[.int .i64 d.no, .int .i64 d.dev, .int .i64 d.kind, .int .i64 d.mode, .int .i64 d.uid, .int .i64 d.gid, .int .i64 d.mtime, .int .i64 d.ctime, .int .i64 d.links, .int .i64 d.up, .string d.data, .slice ea el ec] 170)
    have hCX := ((Blk.new w #[.int .i64 c.u, .int .i64 c.g] 54).keep hb1).old (.cells #[.int .i64 d.no, .int .i64 d.dev, .int .i64 d.kind, .int .i64 d.mode, .int .i64 d.uid, .int .i64 d.gid, .int .i64 d.mtime, .int .i64 d.ctime, .int .i64 d.links, .int .i64 d.up, .string d.data, .slice ea el ec] 170)
    have hDX := Blk.new w1 #[.int .i64 d.no, .int .i64 d.dev, .int .i64 d.kind, .int .i64 d.mode, .int .i64 d.uid, .int .i64 d.gid, .int .i64 d.mtime, .int .i64 d.ctime, .int .i64 d.links, .int .i64 d.up, .string d.data, .slice ea el ec] 170
    have hsz := hb1.size
    have HOw := Lib.hid (ownE_yes h0 hg)
    have HSet := Lib.hid (fun w1 (hb1 : Below (w.alloc (.cells #[.int .i64 c.u, .int .i64 c.g] 54)).heap.size (w.alloc (.cells #[.int .i64 c.u, .int .i64 c.g] 54)) w1) => (HW.out.keep (bnext (balloc (Below.refl _ _) _) hb1)).setN { d with uid := u, gid := g, ctime := now } (he.keep hb1) (b := d) (by rw [show ({ d with uid := u, gid := g, ctime := now } : An).no = d.no from rfl, an_no hg]; exact hg))
    have HG := Lib.hid hg
    unfold An.v at HSet
    unfold An.v
    clear h0 hb1 he hg
    go_upto_region 2 with fail
    generalize w1.alloc (.cells #[.int .i64 d.no, .int .i64 d.dev, .int .i64 d.kind, .int .i64 d.mode, .int .i64 d.uid, .int .i64 d.gid, .int .i64 d.mtime, .int .i64 d.ctime, .int .i64 d.links, .int .i64 d.up, .string d.data, .slice ea el ec] 170) = X at hbX hCX hDX ⊢
    obtain ⟨dc, df, dz⟩ := hDX.facts
    obtain ⟨cc, -, -⟩ := hCX.facts
    have HCX := Lib.hid hCX
    have HDX := Lib.hid hDX
    have HBX := Lib.hid hbX
    have HPC := Lib.hid pc
    have HPZ := Lib.hid pz
    clear hCX hDX hbX pc pz
    by_cases h1 : c.u ≠ 0
    · have h1' : (c.u != 0) = true := by simpa using h1
      have HE := Lib.hid (show S.chown c now no u g = (S, 4) by unfold Fs.chown; rw [HG.out]; simp only; rw [if_neg (by rw [HOw.out]; decide), if_pos h1])
      clear h1
      go_wp2_with fail
      go_ret
      rw [HE.out]
      exact ⟨rfl, R, HW.out.keep (bnext (balloc (Below.refl _ _) _) HBX.out), Stp.of_below (bnext (balloc (Below.refl _ _) _) HBX.out)⟩
    have h1 : c.u = 0 := Decidable.not_not.1 h1
    have h1' : (c.u != 0) = false := by simpa using h1
    have HF := Lib.hid (fun w => pfine_any u g w)
    by_cases h2 : idB u g = false
    · have h2' := h2
      have HE := Lib.hid (show S.chown c now no u g = (S, 1) by unfold Fs.chown; rw [HG.out]; simp only; rw [if_neg (by rw [HOw.out]; decide), if_neg (by simp [h1]), if_pos h2'])
      rw [h2'] at HF
      clear h1 h2 h2'
      go_wp2_with fail
      refine (HF.out _).mono ?_
      rintro e w5 ⟨rfl, hb5⟩
      have HB5 := Lib.hid (HBX.out.trans (hb5.mono HBX.out.size))
      clear hb5
      go_wp2_with fail
      go_ret
      rw [HE.out]
      exact ⟨rfl, R, HW.out.keep (bnext (balloc (Below.refl _ _) _) HB5.out), Stp.of_below (bnext (balloc (Below.refl _ _) _) HB5.out)⟩
    have HE := Lib.hid (show S.chown c now no u g = (S.set { d with uid := u, gid := g, ctime := now }, 0) by unfold Fs.chown; rw [HG.out]; simp only; rw [if_neg (by rw [HOw.out]; decide), if_neg (by simp [h1]), if_neg h2])
    have h2 : idB u g = true := by simpa using h2
    rw [h2] at HF
    clear h1 h2
    go_wp2_with fail
    refine (HF.out _).mono ?_
    rintro e w5 ⟨rfl, hb5⟩
    have HB5 := Lib.hid (HBX.out.trans (hb5.mono HBX.out.size))
    have HD5 := Lib.hid (HDX.out.keep hb5)
    have hD5 := HD5.out
    clear dc df dz cc hb5
    obtain ⟨dc, df, dz⟩ := hD5.facts
    clear hD5
    go_wp2_with fail
    have hDY := (((HD5.out.set 4 (.int .i64 u)).set 5 (.int .i64 g)).set 7 (.int .i64 now))
    have hbY : Below (w.alloc (.cells #[.int .i64 c.u, .int .i64 c.g] 54)).heap.size (w.alloc (.cells #[.int .i64 c.u, .int .i64 c.g] 54)) (((w5.setCell ⟨w1.heap.size, 4, none⟩ (.int .i64 u)).setCell ⟨w1.heap.size, 5, none⟩ (.int .i64 g)).setCell ⟨w1.heap.size, 7, none⟩ (.int .i64 now)) := (((HB5.out.setCell hsz _).setCell hsz _).setCell hsz _)
    generalize (((w5.setCell ⟨w1.heap.size, 4, none⟩ (.int .i64 u)).setCell ⟨w1.heap.size, 5, none⟩ (.int .i64 g)).setCell ⟨w1.heap.size, 7, none⟩ (.int .i64 now)) = Y at hDY hbY ⊢
    obtain ⟨q0, q1, q2, q3, q4, q5, q6, q7, q8, q9, q10, q11⟩ := Blk.cells12 (x0 := .int .i64 d.no) hDY
    have pc0 : Y.cell? ⟨pw, 0, none⟩ = some (.pointer (some ⟨R.pt, 0, none⟩)) := ((bnext (balloc (Below.refl w.heap.size w) (.cells #[.int .i64 c.u, .int .i64 c.g] 54)) hbY).cell (p := ⟨pw, 0, none⟩) HPZ.out).trans (HPC.out 0)
    have HS := Lib.hid (HSet.out _ hbY.drew)
    have HY := Lib.hid hbY
    clear hDY hbY dc df dz
    try clear cc
    refine wp_region_lex 5 mixed (by kernel_rfl) then_panic ?_
    simp only [List.take_succ_cons, List.take_zero, List.drop_succ_cons, List.drop_zero]
    repeat still_step
    refine wpStill_nil ?_
    go_wp2_with fail
    refine HS.out.mono ?_
    rintro e w5 ⟨rfl, R', hR1, hR2, -, -⟩
    have HR := Lib.hid (And.intro hR1 hR2)
    clear hR1 hR2
    go_wp2_with fail
    go_ret
    rw [HE.out]
    exact ⟨rfl, R', HR.out.1, (Stp.of_below (bnext (balloc (Below.refl _ _) _) HY.out.drew)).trans HR.out.2⟩
set_option maxRecDepth 100000 in
set_option maxHeartbeats 2000000 in
theorem time_any (h : WdAt w pw R S) {N : Nat} (hk : FsOk S N) (c : Cr) (now no t : Int) :
    Calls Tryz.prog 112 #[.pointer (some ⟨pw, 0, none⟩), .agg #[.int .i64 c.u, .int .i64 c.g], .int .i64 now, .int .i64 no, .int .i64 t] w fun e w' =>
      e = .returned (.int .i64 (S.utime c now no t).2) ∧ ∃ R', WdAt w' pw R' (S.utime c now no t).1 ∧ Stp (R.F pw) (R'.F pw) w w' := by
  have HO := Lib.hid (fun w1 (hb1 : Below w.heap.size w w1) => own_any (h.keep hb1) hk c no)
  have HW := Lib.hid h
  have mixed : Tryz.prog.follows .mixedOrders = true := by kernel_rfl
  obtain ⟨pc, -, pz⟩ := h.blk.facts
  clear h hk
  go_enter Tryz.func112, Tryz.ntmps112
  go_wp2_with fail
  refine (HO.out _ (balloc (Below.refl _ _) _)).mono ?_
  clear HO
  rintro e w1 ⟨⟨h0, rfl⟩ | ⟨h0, d, ea, el, ec, hg, rfl, he⟩, hb1⟩
  · have hbX := bnext (balloc (Below.refl w.heap.size w) _) hb1
    have HB := Lib.hid hbX
    have HC := Lib.hid (utime_no (now := now) (t := t) h0)
    have hz : (S.ownE c no == 0) = false := by simpa using h0
    generalize S.ownE c no = pe at HC hz ⊢
    unfold An.v an0
    clear h0 hb1 hbX pc
    go_wp2_with fail
    go_ret
    rw [HC.out]
    exact ⟨rfl, R, HW.out.keep (balloc HB.out _), Stp.of_below (balloc HB.out _)⟩
  · have hbX := balloc hb1 (.cells #[.int .i64 d.no, .int .i64 d.dev, .int .i64 d.kind, .int .i64 d.mode, .int .i64 d.uid, .int .i64 d.gid, .int .i64 d.mtime, .int .i64 d.ctime, .int .i64 d.links, .int .i64 d.up, .string d.data, .slice ea el ec] 170)
    have hCX := ((Blk.new w #[.int .i64 c.u, .int .i64 c.g] 54).keep hb1).old (.cells #[.int .i64 d.no, .int .i64 d.dev, .int .i64 d.kind, .int .i64 d.mode, .int .i64 d.uid, .int .i64 d.gid, .int .i64 d.mtime, .int .i64 d.ctime, .int .i64 d.links, .int .i64 d.up, .string d.data, .slice ea el ec] 170)
    have hDX := Blk.new w1 #[.int .i64 d.no, .int .i64 d.dev, .int .i64 d.kind, .int .i64 d.mode, .int .i64 d.uid, .int .i64 d.gid, .int .i64 d.mtime, .int .i64 d.ctime, .int .i64 d.links, .int .i64 d.up, .string d.data, .slice ea el ec] 170
    have hsz := hb1.size
    have HOw := Lib.hid (ownE_yes h0 hg)
    have HSet := Lib.hid (fun w1 (hb1 : Below (w.alloc (.cells #[.int .i64 c.u, .int .i64 c.g] 54)).heap.size (w.alloc (.cells #[.int .i64 c.u, .int .i64 c.g] 54)) w1) => (HW.out.keep (bnext (balloc (Below.refl _ _) _) hb1)).setN { d with mtime := t, ctime := now } (he.keep hb1) (b := d) (by rw [show ({ d with mtime := t, ctime := now } : An).no = d.no from rfl, an_no hg]; exact hg))
    have HG := Lib.hid hg
    unfold An.v at HSet
    unfold An.v
    clear h0 hb1 he hg
    go_upto_region 2 with fail
    generalize w1.alloc (.cells #[.int .i64 d.no, .int .i64 d.dev, .int .i64 d.kind, .int .i64 d.mode, .int .i64 d.uid, .int .i64 d.gid, .int .i64 d.mtime, .int .i64 d.ctime, .int .i64 d.links, .int .i64 d.up, .string d.data, .slice ea el ec] 170) = X at hbX hCX hDX ⊢
    obtain ⟨dc, df, dz⟩ := hDX.facts
    obtain ⟨cc, -, -⟩ := hCX.facts
    have HCX := Lib.hid hCX
    have HDX := Lib.hid hDX
    have HBX := Lib.hid hbX
    have HPC := Lib.hid pc
    have HPZ := Lib.hid pz
    clear hCX hDX hbX pc pz
    by_cases h1 : t < 0
    · skip
      have HE := Lib.hid (show S.utime c now no t = (S, 1) by unfold Fs.utime; rw [HG.out]; simp only; rw [if_neg (by rw [HOw.out]; decide), if_pos (.inl h1)])
      go_wp2_with fail
      go_ret
      rw [HE.out]
      exact ⟨rfl, R, HW.out.keep (bnext (balloc (Below.refl _ _) _) HBX.out), Stp.of_below (bnext (balloc (Below.refl _ _) _) HBX.out)⟩
    by_cases h2 : 253402300799 < t
    · skip
      have HE := Lib.hid (show S.utime c now no t = (S, 1) by unfold Fs.utime; rw [HG.out]; simp only; rw [if_neg (by rw [HOw.out]; decide), if_pos (.inr h2)])
      go_wp2_with fail
      go_ret
      rw [HE.out]
      exact ⟨rfl, R, HW.out.keep (bnext (balloc (Below.refl _ _) _) HBX.out), Stp.of_below (bnext (balloc (Below.refl _ _) _) HBX.out)⟩
    have HE := Lib.hid (show S.utime c now no t = (S.set { d with mtime := t, ctime := now }, 0) by unfold Fs.utime; rw [HG.out]; simp only; rw [if_neg (by rw [HOw.out]; decide), if_neg (by omega)])
    go_wp2_with fail
    have hDY := ((HDX.out.set 6 (.int .i64 t)).set 7 (.int .i64 now))
    have hbY : Below (w.alloc (.cells #[.int .i64 c.u, .int .i64 c.g] 54)).heap.size (w.alloc (.cells #[.int .i64 c.u, .int .i64 c.g] 54)) ((X.setCell ⟨w1.heap.size, 6, none⟩ (.int .i64 t)).setCell ⟨w1.heap.size, 7, none⟩ (.int .i64 now)) := ((HBX.out.setCell hsz _).setCell hsz _)
    generalize ((X.setCell ⟨w1.heap.size, 6, none⟩ (.int .i64 t)).setCell ⟨w1.heap.size, 7, none⟩ (.int .i64 now)) = Y at hDY hbY ⊢
    obtain ⟨q0, q1, q2, q3, q4, q5, q6, q7, q8, q9, q10, q11⟩ := Blk.cells12 (x0 := .int .i64 d.no) hDY
    have pc0 : Y.cell? ⟨pw, 0, none⟩ = some (.pointer (some ⟨R.pt, 0, none⟩)) := ((bnext (balloc (Below.refl w.heap.size w) (.cells #[.int .i64 c.u, .int .i64 c.g] 54)) hbY).cell (p := ⟨pw, 0, none⟩) HPZ.out).trans (HPC.out 0)
    have HS := Lib.hid (HSet.out _ hbY.drew)
    have HY := Lib.hid hbY
    clear hDY hbY dc df dz
    try clear cc
    refine wp_region_lex 5 mixed (by kernel_rfl) then_panic ?_
    simp only [List.take_succ_cons, List.take_zero, List.drop_succ_cons, List.drop_zero]
    repeat still_step
    refine wpStill_nil ?_
    go_wp2_with fail
    refine HS.out.mono ?_
    rintro e w5 ⟨rfl, R', hR1, hR2, -, -⟩
    have HR := Lib.hid (And.intro hR1 hR2)
    clear hR1 hR2
    go_wp2_with fail
    go_ret
    rw [HE.out]
    exact ⟨rfl, R', HR.out.1, (Stp.of_below (bnext (balloc (Below.refl _ _) _) HY.out.drew)).trans HR.out.2⟩
end

end Go.Proofs.YtkkiglagdojnlaaGreatDoor

/- A node comes under a name (layer 17): Dir, File, Sym. -/
namespace Go.Proofs.YtkkiglagdojnlaaGreatDoor

open Go.RowKit

section

variable {w w' : World} {pw : Nat} {R : Rp} {S : Fs}

set_option maxRecDepth 100000 in
set_option maxHeartbeats 1000000 in
theorem dir_any (h : WdAt w pw R S) {N : Nat} (hk : FsOk S N) (hN : N ≤ 999999) (c : Cr) (now dir : Int) (s : ByteArray) (hs : s.size ≤ 9223372036854775807) (mode : Int) :
    Calls Tryz.prog 81 #[.pointer (some ⟨pw, 0, none⟩), .agg #[.int .i64 c.u, .int .i64 c.g], .int .i64 now, .int .i64 dir, .string s, .int .i64 mode] w fun e w' =>
      e = .returned (.tuple #[.int .i64 (S.mkdir c now dir s mode).2.1, .int .i64 (S.mkdir c now dir s mode).2.2]) ∧ ∃ R', WdAt w' pw R' (S.mkdir c now dir s mode).1 ∧ Stp (R.F pw) (R'.F pw) w w' := by
  have HP := Lib.hid (fun w1 (hb1 : Below w.heap.size w w1) => put_any (h.keep hb1) hk hN c now dir s hs { an0 with kind := 1, mode := mode, up := dir } rfl (by show (0 : Nat) ≤ _; omega))
  unfold An.v an0 at HP
  have HW := Lib.hid h
  clear h hk
  by_cases h1 : mode < 0
  · have HE := Lib.hid (show S.mkdir c now dir s mode = (S, 0, 1) by unfold Fs.mkdir; rw [if_pos (.inl h1)])
    go_enter Tryz.func81, Tryz.ntmps81
    go_wp2_with fail
    go_ret2
    rw [HE.out]
    exact ⟨rfl, R, HW.out.keep (by go_grown), Stp.of_below (by go_grown)⟩
  · skip
    by_cases h2 : 1023 < mode
    · have HE := Lib.hid (show S.mkdir c now dir s mode = (S, 0, 1) by unfold Fs.mkdir; rw [if_pos (.inr h2)])
      go_enter Tryz.func81, Tryz.ntmps81
      go_wp2_with fail
      go_ret2
      rw [HE.out]
      exact ⟨rfl, R, HW.out.keep (by go_grown), Stp.of_below (by go_grown)⟩
    · skip
      have HE := Lib.hid (show S.mkdir c now dir s mode = S.come c now dir s { an0 with kind := 1, mode := mode, up := dir } by unfold Fs.mkdir; rw [if_neg (by omega)])
      unfold an0 at HE
      go_enter Tryz.func81, Tryz.ntmps81
      go_wp2_with fail
      refine (HP.out _ (by first | exact Below.refl _ _ | exact balloc (Below.refl _ _) _ | exact balloc (balloc (Below.refl _ _) _) _)).mono ?_
      rintro e w1 ⟨rfl, R1, hR1, hS1⟩
      have HR1 := Lib.hid (And.intro hR1 hS1)
      clear hR1 hS1 HP
      go_wp2_with fail
      go_ret2
      rw [HE.out]
      exact ⟨rfl, R1, HR1.out.1, (Stp.of_below (by go_grown)).trans HR1.out.2⟩
set_option maxRecDepth 100000 in
set_option maxHeartbeats 1000000 in
theorem file_any (h : WdAt w pw R S) {N : Nat} (hk : FsOk S N) (hN : N ≤ 999999) (c : Cr) (now dir : Int) (s : ByteArray) (hs : s.size ≤ 9223372036854775807) (mode : Int) (data : ByteArray) (hd : data.size ≤ 9223372036854775807) :
    Calls Tryz.prog 43 #[.pointer (some ⟨pw, 0, none⟩), .agg #[.int .i64 c.u, .int .i64 c.g], .int .i64 now, .int .i64 dir, .string s, .int .i64 mode, .string data] w fun e w' =>
      e = .returned (.tuple #[.int .i64 (S.file c now dir s mode data).2.1, .int .i64 (S.file c now dir s mode data).2.2]) ∧ ∃ R', WdAt w' pw R' (S.file c now dir s mode data).1 ∧ Stp (R.F pw) (R'.F pw) w w' := by
  have HP := Lib.hid (fun w1 (hb1 : Below w.heap.size w w1) => put_any (h.keep hb1) hk hN c now dir s hs { an0 with kind := 2, mode := mode, data := data } rfl (hd))
  unfold An.v an0 at HP
  have HW := Lib.hid h
  clear h hk
  by_cases h1 : mode < 0
  · have HE := Lib.hid (show S.file c now dir s mode data = (S, 0, 1) by unfold Fs.file; rw [if_pos (.inl h1)])
    go_enter Tryz.func43, Tryz.ntmps43
    go_wp2_with fail
    go_ret2
    rw [HE.out]
    exact ⟨rfl, R, HW.out.keep (by go_grown), Stp.of_below (by go_grown)⟩
  · skip
    by_cases h2 : 1023 < mode
    · have HE := Lib.hid (show S.file c now dir s mode data = (S, 0, 1) by unfold Fs.file; rw [if_pos (.inr h2)])
      go_enter Tryz.func43, Tryz.ntmps43
      go_wp2_with fail
      go_ret2
      rw [HE.out]
      exact ⟨rfl, R, HW.out.keep (by go_grown), Stp.of_below (by go_grown)⟩
    · skip
      by_cases h3 : 1048576 < data.size
      · have HE := Lib.hid (show S.file c now dir s mode data = (S, 0, 3) by unfold Fs.file; rw [if_neg (by omega), if_pos h3])
        have h3n : (1048576 : Int) < (data.size : Int) := by omega
        go_enter Tryz.func43, Tryz.ntmps43
        go_wp2_with fail
        go_ret2
        rw [HE.out]
        exact ⟨rfl, R, HW.out.keep (by go_grown), Stp.of_below (by go_grown)⟩
      · skip
        have h3n : ¬ (1048576 : Int) < (data.size : Int) := by omega
        have HE := Lib.hid (show S.file c now dir s mode data = S.come c now dir s { an0 with kind := 2, mode := mode, data := data } by unfold Fs.file; rw [if_neg (by omega), if_neg h3])
        unfold an0 at HE
        go_enter Tryz.func43, Tryz.ntmps43
        go_wp2_with fail
        refine (HP.out _ (by first | exact Below.refl _ _ | exact balloc (Below.refl _ _) _ | exact balloc (balloc (Below.refl _ _) _) _)).mono ?_
        rintro e w1 ⟨rfl, R1, hR1, hS1⟩
        have HR1 := Lib.hid (And.intro hR1 hS1)
        clear hR1 hS1 HP
        go_wp2_with fail
        go_ret2
        rw [HE.out]
        exact ⟨rfl, R1, HR1.out.1, (Stp.of_below (by go_grown)).trans HR1.out.2⟩
set_option maxRecDepth 100000 in
set_option maxHeartbeats 1000000 in
theorem sym_any (h : WdAt w pw R S) {N : Nat} (hk : FsOk S N) (hN : N ≤ 999999) (c : Cr) (now dir : Int) (s : ByteArray) (hs : s.size ≤ 9223372036854775807) (text : ByteArray) (hd : text.size ≤ 9223372036854775807) :
    Calls Tryz.prog 167 #[.pointer (some ⟨pw, 0, none⟩), .agg #[.int .i64 c.u, .int .i64 c.g], .int .i64 now, .int .i64 dir, .string s, .string text] w fun e w' =>
      e = .returned (.tuple #[.int .i64 (S.sym c now dir s text).2.1, .int .i64 (S.sym c now dir s text).2.2]) ∧ ∃ R', WdAt w' pw R' (S.sym c now dir s text).1 ∧ Stp (R.F pw) (R'.F pw) w w' := by
  have HP := Lib.hid (fun w1 (hb1 : Below w.heap.size w w1) => put_any (h.keep hb1) hk hN c now dir s hs { an0 with kind := 3, mode := 511, data := text } rfl (hd))
  unfold An.v an0 at HP
  have HW := Lib.hid h
  clear h hk
  have H0 := Lib.hid (contains_any text)
  have hb : hasB text 0 = decide ((0 : UInt8) ∈ text.data.toList) := rfl
  have HB0 := Lib.hid hb.symm
  clear hb
  generalize hasB text 0 = b0 at H0 HB0
  by_cases h1 : text.toList = []
  · have HE := Lib.hid (show S.sym c now dir s text = (S, 0, 1) by unfold Fs.sym; rw [if_pos (.inl (by rw [← ba_list]; exact h1))])
    go_enter Tryz.func167, Tryz.ntmps167
    go_wp2_with (go_at_call 120; ((with_reducible refine (H0.out _).mono ?_); rintro e w1 ⟨rfl, rfl⟩))
    go_ret2
    rw [HE.out]
    exact ⟨rfl, R, HW.out.keep (by go_grown), Stp.of_below (by go_grown)⟩
  · skip
    have h1' : text.toList.isEmpty = false := by simpa using h1
    by_cases h2 : b0 = true
    · have HE := Lib.hid (show S.sym c now dir s text = (S, 0, 1) by unfold Fs.sym; rw [if_pos (.inr (of_decide_eq_true (HB0.out.trans h2)))])
      subst h2
      go_enter Tryz.func167, Tryz.ntmps167
      go_wp2_with (go_at_call 120; ((with_reducible refine (H0.out _).mono ?_); rintro e w1 ⟨rfl, rfl⟩))
      go_ret2
      rw [HE.out]
      exact ⟨rfl, R, HW.out.keep (by go_grown), Stp.of_below (by go_grown)⟩
    · skip
      have h2' : b0 = false := by simpa using h2
      subst h2'
      by_cases h3 : 4096 < text.size
      · have HE := Lib.hid (show S.sym c now dir s text = (S, 0, 13) by unfold Fs.sym; rw [if_neg (by rintro (h | h); exact h1 (by rw [ba_list]; exact h); exact absurd (HB0.out.symm.trans (decide_eq_true h)) (by decide)), if_pos h3])
        have h3n : (4096 : Int) < (text.size : Int) := by omega
        go_enter Tryz.func167, Tryz.ntmps167
        go_wp2_with (go_at_call 120; ((with_reducible refine (H0.out _).mono ?_); rintro e w1 ⟨rfl, rfl⟩))
        go_ret2
        rw [HE.out]
        exact ⟨rfl, R, HW.out.keep (by go_grown), Stp.of_below (by go_grown)⟩
      · skip
        have h3n : ¬ (4096 : Int) < (text.size : Int) := by omega
        have HE := Lib.hid (show S.sym c now dir s text = S.come c now dir s { an0 with kind := 3, mode := 511, data := text } by unfold Fs.sym; rw [if_neg (by rintro (h | h); exact h1 (by rw [ba_list]; exact h); exact absurd (HB0.out.symm.trans (decide_eq_true h)) (by decide)), if_neg h3])
        unfold an0 at HE
        go_enter Tryz.func167, Tryz.ntmps167
        go_wp2_with (go_at_call 120; ((with_reducible refine (H0.out _).mono ?_); rintro e w1 ⟨rfl, rfl⟩))
        refine (HP.out _ (by first | exact Below.refl _ _ | exact balloc (Below.refl _ _) _ | exact balloc (balloc (Below.refl _ _) _) _)).mono ?_
        rintro e w1 ⟨rfl, R1, hR1, hS1⟩
        have HR1 := Lib.hid (And.intro hR1 hS1)
        clear hR1 hS1 HP
        go_wp2_with fail
        go_ret2
        rw [HE.out]
        exact ⟨rfl, R1, HR1.out.1, (Stp.of_below (by go_grown)).trans HR1.out.2⟩
end

end Go.Proofs.YtkkiglagdojnlaaGreatDoor
