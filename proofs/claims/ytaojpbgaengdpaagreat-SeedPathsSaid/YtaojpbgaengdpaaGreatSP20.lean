/- Texts of the proof, part 20. -/
import Derived.Test.YtaojpbgaengdpaaGreatSP19
set_option linter.unusedVariables false
set_option linter.unusedSimpArgs false
/- A name, whether it may be (layer 2). -/
namespace Go.Proofs.YtaojpbgaengdpaaGreat

open Go.RowKit

theorem contains47_any (s : ByteArray) (w : World) :
    Calls Tryz.prog 121 #[.string s, .string (ByteArray.mk #[47])] w fun e w' => e = .returned (.bool (hasB s 47)) ∧ w = w' := by
  refine (Tryz.strings_Contains_one s 47 w).mono ?_
  rintro e w' ⟨rfl, rfl⟩
  refine ⟨ret_bool ?_, rfl⟩
  unfold hasB
  rw [decide_eq_decide]
  exact idx_pos 47 _
set_option maxRecDepth 100000 in
set_option maxHeartbeats 1000000 in
theorem ncheck_any (s : ByteArray) (w : World) (hs : s.size ≤ 9223372036854775807) :
    Calls Tryz.prog 146 #[.string s] w fun e w' => e = .returned (.int .i64 (checkE s)) ∧ w = w' := by
  have hl : s.toList = s.data.toList := ba_list s
  have HC := Lib.hid (show checkE s = if s.toList = [] ∨ s.toList = [46] ∨ s.toList = [46, 46] ∨ hasB s 47 = true ∨ hasB s 0 = true then 1 else if 255 < s.size then 13 else 0 by
    unfold checkE hasB; rw [hl]; simp only [decide_eq_true_eq])
  have H47 := Lib.hid (contains47_any s)
  have H0 := Lib.hid (contains_any s)
  generalize hasB s 47 = b47 at HC H47
  generalize hasB s 0 = b0 at HC H0
  clear hl
  by_cases h1 : s.toList = []
  · have HE := Lib.hid (HC.out.trans (if_pos (.inl h1)))
    go_enter Tryz.func146, Tryz.ntmps146
    go_wp2_with fail
    go_ret
    exact ⟨by rw [HE.out]; rfl, rfl⟩
  · have h1' : s.toList.isEmpty = false := by simpa using h1
    by_cases h2 : s.toList = [46]
    · have HE := Lib.hid (HC.out.trans (if_pos (.inr (.inl h2))))
      go_enter Tryz.func146, Tryz.ntmps146
      go_wp2_with fail
      go_ret
      exact ⟨by rw [HE.out]; rfl, rfl⟩
    · have h2' : (s.toList == [46]) = false := by simpa using h2
      by_cases h3 : s.toList = [46, 46]
      · have HE := Lib.hid (HC.out.trans (if_pos (.inr (.inr (.inl h3)))))
        go_enter Tryz.func146, Tryz.ntmps146
        go_wp2_with fail
        go_ret
        exact ⟨by rw [HE.out]; rfl, rfl⟩
      · have h3' : (s.toList == [46, 46]) = false := by simpa using h3
        cases b47
        · cases b0
          · have HE := Lib.hid (HC.out.trans (if_neg (by simp [h1, h2, h3])))
            by_cases h4 : 255 < s.size
            · have HE2 := Lib.hid (HE.out.trans (if_pos h4))
              have h4' : (255 : Int) < (s.size : Int) := by omega
              go_enter Tryz.func146, Tryz.ntmps146
              go_wp2_with (first | (go_at_call 121; ((with_reducible refine (H47.out _).mono ?_); rintro e w1 ⟨rfl, rfl⟩)) | (go_at_call 121; ((with_reducible refine (H0.out _).mono ?_); rintro e w1 ⟨rfl, rfl⟩)))
              go_ret
              exact ⟨by rw [HE2.out]; rfl, rfl⟩
            · have HE2 := Lib.hid (HE.out.trans (if_neg h4))
              have h4' : ¬ (255 : Int) < (s.size : Int) := by omega
              go_enter Tryz.func146, Tryz.ntmps146
              go_wp2_with (first | (go_at_call 121; ((with_reducible refine (H47.out _).mono ?_); rintro e w1 ⟨rfl, rfl⟩)) | (go_at_call 121; ((with_reducible refine (H0.out _).mono ?_); rintro e w1 ⟨rfl, rfl⟩)))
              go_ret
              exact ⟨by rw [HE2.out]; rfl, rfl⟩
          · have HE := Lib.hid (HC.out.trans (if_pos (by simp)))
            go_enter Tryz.func146, Tryz.ntmps146
            go_wp2_with (first | (go_at_call 121; ((with_reducible refine (H47.out _).mono ?_); rintro e w1 ⟨rfl, rfl⟩)) | (go_at_call 121; ((with_reducible refine (H0.out _).mono ?_); rintro e w1 ⟨rfl, rfl⟩)))
            go_ret
            exact ⟨by rw [HE.out]; rfl, rfl⟩
        · have HE := Lib.hid (HC.out.trans (if_pos (by simp)))
          go_enter Tryz.func146, Tryz.ntmps146
          go_wp2_with (go_at_call 121; ((with_reducible refine (H47.out _).mono ?_); rintro e w1 ⟨rfl, rfl⟩))
          go_ret
          exact ⟨by rw [HE.out]; rfl, rfl⟩
end Go.Proofs.YtaojpbgaengdpaaGreat

/- A directory in which names come and go (layer 17): Place, Touch. -/
namespace Go.Proofs.YtaojpbgaengdpaaGreat

open Go.RowKit

theorem Blk.row {w : World} {B : Nat} {xs vs : List Value} {T : TypeId} (h : Blk w B xs.toArray T) (hl : xs.length = vs.length) : Blk (putRow w B 0 vs) B vs.toArray T := by
  have h1 := putRow_blk vs w 0 _ h
  have h2 := setAll_head vs xs [] hl
  rw [List.append_nil, List.append_nil] at h2
  rw [List.toList_toArray, h2] at h1
  exact h1
set_option maxRecDepth 100000 in
theorem Blk.set12 {w : World} {B : Nat} {x0 x1 x2 x3 x4 x5 x6 x7 x8 x9 x10 x11 v0 v1 v2 v3 v4 v5 v6 v7 v8 v9 v10 v11 : Value} {T : TypeId} (h : Blk w B #[x0, x1, x2, x3, x4, x5, x6, x7, x8, x9, x10, x11] T) : Blk ((((((((((((w.setCell ⟨B, 0, none⟩ v0).setCell ⟨B, 1, none⟩ v1).setCell ⟨B, 2, none⟩ v2).setCell ⟨B, 3, none⟩ v3).setCell ⟨B, 4, none⟩ v4).setCell ⟨B, 5, none⟩ v5).setCell ⟨B, 6, none⟩ v6).setCell ⟨B, 7, none⟩ v7).setCell ⟨B, 8, none⟩ v8).setCell ⟨B, 9, none⟩ v9).setCell ⟨B, 10, none⟩ v10).setCell ⟨B, 11, none⟩ v11) B #[v0, v1, v2, v3, v4, v5, v6, v7, v8, v9, v10, v11] T :=
  Blk.row (xs := [x0, x1, x2, x3, x4, x5, x6, x7, x8, x9, x10, x11]) (vs := [v0, v1, v2, v3, v4, v5, v6, v7, v8, v9, v10, v11]) h rfl
theorem below_row {N : Nat} {w0 : World} {B : Nat} (hB : N ≤ B) : ∀ (vs : List Value) (w : World) (o : Nat), Below N w0 w → Below N w0 (putRow w B o vs)
  | [], _, _, h => h
  | v :: vs, w, o, h => by unfold putRow; exact below_row hB vs _ _ (h.setCell hB v)
set_option maxRecDepth 100000 in
theorem below_set12 {N : Nat} {w0 w : World} {B : Nat} {v0 v1 v2 v3 v4 v5 v6 v7 v8 v9 v10 v11 : Value} (h : Below N w0 w) (hB : N ≤ B) : Below N w0 ((((((((((((w.setCell ⟨B, 0, none⟩ v0).setCell ⟨B, 1, none⟩ v1).setCell ⟨B, 2, none⟩ v2).setCell ⟨B, 3, none⟩ v3).setCell ⟨B, 4, none⟩ v4).setCell ⟨B, 5, none⟩ v5).setCell ⟨B, 6, none⟩ v6).setCell ⟨B, 7, none⟩ v7).setCell ⟨B, 8, none⟩ v8).setCell ⟨B, 9, none⟩ v9).setCell ⟨B, 10, none⟩ v10).setCell ⟨B, 11, none⟩ v11) :=
  below_row hB [v0, v1, v2, v3, v4, v5, v6, v7, v8, v9, v10, v11] w 0 h
theorem Blk.cells12 {w : World} {B : Nat} {x0 x1 x2 x3 x4 x5 x6 x7 x8 x9 x10 x11 : Value} {T : TypeId} (h : Blk w B #[x0, x1, x2, x3, x4, x5, x6, x7, x8, x9, x10, x11] T) :
    w.cell? ⟨B, 0, none⟩ = some (x0) ∧ w.cell? ⟨B, 1, none⟩ = some (x1) ∧ w.cell? ⟨B, 2, none⟩ = some (x2) ∧ w.cell? ⟨B, 3, none⟩ = some (x3) ∧ w.cell? ⟨B, 4, none⟩ = some (x4) ∧ w.cell? ⟨B, 5, none⟩ = some (x5) ∧ w.cell? ⟨B, 6, none⟩ = some (x6) ∧ w.cell? ⟨B, 7, none⟩ = some (x7) ∧ w.cell? ⟨B, 8, none⟩ = some (x8) ∧ w.cell? ⟨B, 9, none⟩ = some (x9) ∧ w.cell? ⟨B, 10, none⟩ = some (x10) ∧ w.cell? ⟨B, 11, none⟩ = some (x11) :=
  ⟨h.cell 0, h.cell 1, h.cell 2, h.cell 3, h.cell 4, h.cell 5, h.cell 6, h.cell 7, h.cell 8, h.cell 9, h.cell 10, h.cell 11⟩
set_option maxRecDepth 100000 in
set_option maxHeartbeats 1000000 in
theorem place_results {tmps : Array Value} {W : World} {B : Nat} {a : An} {ea : Option Addr} {el ec : Nat} {e : Int} (hb : Blk W B #[.int .i64 a.no, .int .i64 a.dev, .int .i64 a.kind, .int .i64 a.mode, .int .i64 a.uid, .int .i64 a.gid, .int .i64 a.mtime, .int .i64 a.ctime, .int .i64 a.links, .int .i64 a.up, .string a.data, .slice ea el ec] 110)
    (h8 : tmps.getD 8 undef = .pointer (some ⟨B, 0, none⟩)) (h9 : tmps.getD 9 undef = .int .i64 e) : (results Tryz.f130 tmps).run Tryz.prog W = .ok (.tuple #[a.v ea el ec, .int .i64 e]) W := by
  obtain ⟨q0, q1, q2, q3, q4, q5, q6, q7, q8, q9, q10, q11⟩ := hb.cells12
  rw [Array.getD_eq_getD_getElem?] at h8 h9
  simp [results, Tryz.results130, go_sem, An.v, h8, h9, q0, q1, q2, q3, q4, q5, q6, q7, q8, q9, q10, q11]
section

variable {w w' : World} {pw : Nat} {R : Rp} {S : Fs}

set_option maxRecDepth 100000 in
set_option maxHeartbeats 1000000 in
theorem place_none (h : WdAt w pw R S) {N : Nat} (hk : FsOk S N) (c : Cr) (dir : Int) (s : ByteArray) (hs : s.size ≤ 9223372036854775807) (hg : S.get dir = none) :
    Calls Tryz.prog 130 #[.pointer (some ⟨pw, 0, none⟩), .agg #[.int .i64 c.u, .int .i64 c.g], .int .i64 dir, .string s] w fun e w' => e = .returned (.tuple #[an0.v none 0 0, .int .i64 5]) ∧ Below w.heap.size w w' := by
  have HDv := Lib.hid (fun w1 (hb1 : Below w.heap.size w w1) => wdevs_any (h.keep hb1) hk.d1)
  have hnz := hk.d1
  generalize S.ds.length = n at HDv hnz
  have hz : ((n : Int) == 0) = false := by simp; omega
  have HG := Lib.hid (fun w1 (hb1 : Below w.heap.size w w1) => wget_no (h.keep hb1) hg)
  have HCk := Lib.hid (fun w => ncheck_any s w hs)
  obtain ⟨pc, -, pz⟩ := h.blk.facts
  unfold An.v an0 at HG
  generalize checkE s = ce at HCk
  clear h hk hg
  go_enter Tryz.func130, Tryz.ntmps130
  go_wp2_with fail
  refine (HDv.out _ (balloc (balloc (Below.refl _ _) _) _)).mono ?_
  rintro e w1 ⟨rfl, rfl⟩
  go_wp2_with fail
  refine (HG.out _ (balloc (balloc (Below.refl _ _) _) _)).mono ?_
  rintro e w1 ⟨rfl, hb1⟩
  have hb2 := bnext (balloc (balloc (Below.refl w.heap.size w) _) _) hb1
  have hR : Blk w1 (w.heap.size + 1) #[.int .i64 0, .int .i64 0, .int .i64 0, .int .i64 0, .int .i64 0, .int .i64 0, .int .i64 0, .int .i64 0, .int .i64 0, .int .i64 0, .string ⟨#[]⟩, .slice none 0 0] 110 := by
    have := ((Blk.new (w.alloc (.cells #[.int .i64 c.u, .int .i64 c.g] 55)) #[.int .i64 0, .int .i64 0, .int .i64 0, .int .i64 0, .int .i64 0, .int .i64 0, .int .i64 0, .int .i64 0, .int .i64 0, .int .i64 0, .string ⟨#[]⟩, .slice none 0 0] 110).keep hb1)
    rwa [World.size_alloc] at this
  have hRX := hR.old (.cells #[.int .i64 0, .int .i64 0, .int .i64 0, .int .i64 0, .int .i64 0, .int .i64 0, .int .i64 0, .int .i64 0, .int .i64 0, .int .i64 0, .string ByteArray.empty, .slice none 0 0] 110)
  have hbX := balloc hb2 (.cells #[.int .i64 0, .int .i64 0, .int .i64 0, .int .i64 0, .int .i64 0, .int .i64 0, .int .i64 0, .int .i64 0, .int .i64 0, .int .i64 0, .string ByteArray.empty, .slice none 0 0] 110)
  clear hR hb1 hb2 pc
  go_wp2_with fail
  generalize w1.alloc (.cells #[.int .i64 0, .int .i64 0, .int .i64 0, .int .i64 0, .int .i64 0, .int .i64 0, .int .i64 0, .int .i64 0, .int .i64 0, .int .i64 0, .string ByteArray.empty, .slice none 0 0] 110) = X at hRX hbX ⊢
  refine (HCk.out _).mono ?_
  rintro e w2 ⟨rfl, rfl⟩
  have HRX := Lib.hid hRX
  have HBX := Lib.hid hbX
  obtain ⟨rc, rf, rz⟩ := hRX.facts
  clear hRX hbX
  go_wp2_with fail
  exact bodyPost_ret (place_results (a := an0) HRX.out.set12 rfl rfl) rfl ⟨rfl, below_set12 HBX.out (Nat.le_succ _)⟩
/-- the directory is there: Get, and what lies beside it. -/
theorem wget_fix (h : WdAt w pw R S) {k : Int} {a : An} (hg : S.get k = some a) : ∃ ea el ec, EntsAt w ea el ec a.ents ∧ ∀ w1, Below w.heap.size w w1 →
    Calls Tryz.prog 70 #[.pointer (some ⟨R.pt, 0, none⟩), .int .i64 k] w1 fun e w' => e = .returned (.tuple #[a.v ea el ec, .bool true]) ∧ Below w1.heap.size w1 w' := by
  obtain ⟨g, -, rfl, hf, he⟩ := G_of h hg
  exact ⟨g.ea, g.el, g.ec, he, fun w1 hb1 => get_yes g.nd k w1 R.pt R.pm S.last _ R.clk (h.keep hb1).tab hf⟩
set_option maxRecDepth 100000 in
set_option maxHeartbeats 2000000 in
theorem place_some (h : WdAt w pw R S) {N : Nat} (hk : FsOk S N) (c : Cr) (dir : Int) (s : ByteArray) (hs : s.size ≤ 9223372036854775807) (d : An) (hg : S.get dir = some d) :
    Calls Tryz.prog 130 #[.pointer (some ⟨pw, 0, none⟩), .agg #[.int .i64 c.u, .int .i64 c.g], .int .i64 dir, .string s] w fun e w' => ((S.placeE c dir s ≠ 0 ∧ e = .returned (.tuple #[an0.v none 0 0, .int .i64 (S.placeE c dir s)])) ∨ (S.placeE c dir s = 0 ∧ ∃ ea el ec, e = .returned (.tuple #[d.v ea el ec, .int .i64 0]) ∧ EntsAt w ea el ec d.ents)) ∧ Below w.heap.size w w' := by
  have HDv := Lib.hid (fun w1 (hb1 : Below w.heap.size w w1) => wdevs_any (h.keep hb1) hk.d1)
  have hnz := hk.d1
  generalize S.ds.length = n at HDv hnz
  have hz : ((n : Int) == 0) = false := by simp; omega
  obtain ⟨ea, el, ec, he, hG⟩ := wget_fix h hg
  have HE := Lib.hid he
  have HG := Lib.hid hG
  unfold An.v at HG
  have HCk := Lib.hid (fun w => ncheck_any s w hs)
  have HPl := Lib.hid (show S.placeE c dir s = if d.kind ≠ 1 then 9 else if checkE s ≠ 0 then checkE s else if d.may c 3 = false then 6 else 0 by unfold Fs.placeE; rw [hg])
  have HNd := Lib.hid (fun w => pnode_any c d ea el ec 3 w)
  unfold Cr.v An.v at HNd
  obtain ⟨pc, -, pz⟩ := h.blk.facts
  generalize checkE s = ce at HCk HPl
  generalize S.placeE c dir s = pe at HPl ⊢
  generalize d.may c 3 = my at HPl HNd
  clear h hk hg he hG
  go_enter Tryz.func130, Tryz.ntmps130
  go_wp2_with fail
  refine (HDv.out _ (balloc (balloc (Below.refl _ _) _) _)).mono ?_
  rintro e w1 ⟨rfl, rfl⟩
  go_wp2_with fail
  refine (HG.out _ (balloc (balloc (Below.refl _ _) _) _)).mono ?_
  rintro e w1 ⟨rfl, hb1⟩
  have hb2 := bnext (balloc (balloc (Below.refl w.heap.size w) _) _) hb1
  have hR : Blk w1 (w.heap.size + 1) #[.int .i64 0, .int .i64 0, .int .i64 0, .int .i64 0, .int .i64 0, .int .i64 0, .int .i64 0, .int .i64 0, .int .i64 0, .int .i64 0, .string ⟨#[]⟩, .slice none 0 0] 110 := by
    have := ((Blk.new (w.alloc (.cells #[.int .i64 c.u, .int .i64 c.g] 55)) #[.int .i64 0, .int .i64 0, .int .i64 0, .int .i64 0, .int .i64 0, .int .i64 0, .int .i64 0, .int .i64 0, .int .i64 0, .int .i64 0, .string ⟨#[]⟩, .slice none 0 0] 110).keep hb1)
    rwa [World.size_alloc] at this
  have hCr : Blk w1 w.heap.size #[.int .i64 c.u, .int .i64 c.g] 55 := ((Blk.new w #[.int .i64 c.u, .int .i64 c.g] 55).old (.cells #[.int .i64 0, .int .i64 0, .int .i64 0, .int .i64 0, .int .i64 0, .int .i64 0, .int .i64 0, .int .i64 0, .int .i64 0, .int .i64 0, .string ⟨#[]⟩, .slice none 0 0] 110)).keep hb1
  have hRX := hR.old (.cells #[.int .i64 d.no, .int .i64 d.dev, .int .i64 d.kind, .int .i64 d.mode, .int .i64 d.uid, .int .i64 d.gid, .int .i64 d.mtime, .int .i64 d.ctime, .int .i64 d.links, .int .i64 d.up, .string d.data, .slice ea el ec] 110)
  have hCX := hCr.old (.cells #[.int .i64 d.no, .int .i64 d.dev, .int .i64 d.kind, .int .i64 d.mode, .int .i64 d.uid, .int .i64 d.gid, .int .i64 d.mtime, .int .i64 d.ctime, .int .i64 d.links, .int .i64 d.up, .string d.data, .slice ea el ec] 110)
  have hDX := Blk.new w1 #[.int .i64 d.no, .int .i64 d.dev, .int .i64 d.kind, .int .i64 d.mode, .int .i64 d.uid, .int .i64 d.gid, .int .i64 d.mtime, .int .i64 d.ctime, .int .i64 d.links, .int .i64 d.up, .string d.data, .slice ea el ec] 110
  have hbX := balloc hb2 (.cells #[.int .i64 d.no, .int .i64 d.dev, .int .i64 d.kind, .int .i64 d.mode, .int .i64 d.uid, .int .i64 d.gid, .int .i64 d.mtime, .int .i64 d.ctime, .int .i64 d.links, .int .i64 d.up, .string d.data, .slice ea el ec] 110)
  clear hR hCr hb1 hb2 pc
  go_wp2_with fail
  generalize w1.alloc (.cells #[.int .i64 d.no, .int .i64 d.dev, .int .i64 d.kind, .int .i64 d.mode, .int .i64 d.uid, .int .i64 d.gid, .int .i64 d.mtime, .int .i64 d.ctime, .int .i64 d.links, .int .i64 d.up, .string d.data, .slice ea el ec] 110) = X at hRX hCX hDX hbX ⊢
  refine (HCk.out _).mono ?_
  rintro e w2 ⟨rfl, rfl⟩
  have HRX := Lib.hid hRX
  have HBX := Lib.hid hbX
  have HDX := Lib.hid hDX
  have HCX := Lib.hid hCX
  obtain ⟨rc, rf, rz⟩ := hRX.facts
  obtain ⟨dc, df, dz⟩ := hDX.facts
  obtain ⟨cc, -, -⟩ := hCX.facts
  clear hRX hbX hDX hCX
  by_cases h1 : d.kind = 1
  · have q1 : (d.kind == 1) = true := by simpa using h1
    have q2 : (d.kind != 1) = false := by simpa using h1
    by_cases h2 : ce = 0
    · have q3 : (ce != 0) = false := by simpa using h2
      cases my
      · have HE6 := Lib.hid (show pe = 6 by rw [HPl.out]; simp [h1, h2])
        clear h1 h2
        go_wp2_with fail
        refine (HNd.out _).mono ?_
        rintro e w5 ⟨rfl, hb5⟩
        have hRX5 := HRX.out.keep hb5
        have hBX5 := HBX.out.trans (hb5.mono HBX.out.size)
        have HRX5 := Lib.hid hRX5
        have HBX5 := Lib.hid hBX5
        clear rc rf rz dc df dz cc
        obtain ⟨rc, rf, rz⟩ := hRX5.facts
        clear hRX5 hBX5 hb5
        go_wp2_with fail
        exact bodyPost_ret (place_results (a := an0) HRX5.out.set12 rfl rfl) rfl ⟨.inl ⟨by rw [HE6.out]; decide, by rw [HE6.out]⟩, below_set12 HBX5.out (Nat.le_succ _)⟩
      · have HE0 := Lib.hid (show pe = 0 by rw [HPl.out]; simp [h1, h2])
        clear h1 h2
        go_wp2_with fail
        refine (HNd.out _).mono ?_
        rintro e w5 ⟨rfl, hb5⟩
        have hRX5 := HRX.out.keep hb5
        have hDX5 := HDX.out.keep hb5
        have hBX5 := HBX.out.trans (hb5.mono HBX.out.size)
        have HRX5 := Lib.hid hRX5
        have HBX5 := Lib.hid hBX5
        clear rc rf rz dc df dz cc
        obtain ⟨rc, rf, rz⟩ := hRX5.facts
        obtain ⟨dc, -, -⟩ := hDX5.facts
        clear hRX5 hBX5 hb5 hDX5
        go_wp2_with fail
        exact bodyPost_ret (place_results (a := d) (ea := ea) (el := el) (ec := ec) HRX5.out.set12 rfl rfl) rfl ⟨.inr ⟨HE0.out, ea, el, ec, rfl, HE.out⟩, below_set12 HBX5.out (Nat.le_succ _)⟩
    · have q3 : (ce != 0) = true := by simpa using h2
      have HEc := Lib.hid (show pe = ce ∧ ce ≠ 0 by refine ⟨?_, h2⟩; rw [HPl.out]; simp [h1, h2])
      clear h1 h2
      go_wp2_with fail
      exact bodyPost_ret (place_results (a := an0) HRX.out.set12 rfl rfl) rfl ⟨.inl ⟨by rw [HEc.out.1]; exact HEc.out.2, by rw [HEc.out.1]⟩, below_set12 HBX.out (Nat.le_succ _)⟩
  · have q2 : (d.kind != 1) = true := by simpa using h1
    have HE9 := Lib.hid (show pe = 9 by rw [HPl.out]; simp [h1])
    clear h1
    go_wp2_with fail
    exact bodyPost_ret (place_results (a := an0) HRX.out.set12 rfl rfl) rfl ⟨.inl ⟨by rw [HE9.out]; decide, by rw [HE9.out]⟩, below_set12 HBX.out (Nat.le_succ _)⟩
end

end Go.Proofs.YtaojpbgaengdpaaGreat

/- A directory has other names (layer 17): Touch. -/
namespace Go.Proofs.YtaojpbgaengdpaaGreat

open Go.RowKit

section

variable {w w' : World} {pw : Nat} {R : Rp} {S : Fs}

theorem body_panic {P : Program} {fn : Func} {R : Ending → World → Prop} : ∀ c d v a w, bodyPost P fn R (.panic c) (Act.put a d v) w → bodyPost P fn R (.panic c) a w :=
  fun c d v a w h => by
    have h' : (Act.put a d v).defers = [] ∧ R (.panicked c) w := h
    exact show a.defers = [] ∧ R (.panicked c) w from ⟨by rw [← h'.1]; cases d <;> rfl, h'.2⟩
set_option maxRecDepth 100000 in
set_option maxHeartbeats 2000000 in
theorem touch_any (h : WdAt w pw R S) (dir now : Int) (d : An) (hg : S.get dir = some d) (l : List En) (a : Option Addr) (n c : Nat) (hl : EntsAt w a n c l) :
    Calls Tryz.prog 131 #[.pointer (some ⟨pw, 0, none⟩), .int .i64 dir, .int .i64 now, .slice a n c] w fun e w' => e = .returned (.tuple #[]) ∧ ∃ R', WdAt w' pw R' (S.touch now dir l) ∧ Stp (R.F pw) (R'.F pw) w w' := by
  obtain ⟨ea, el, ec, he, hG⟩ := wget_fix h hg
  have HG := Lib.hid (hG w (Below.refl _ _))
  unfold An.v at HG
  have HT := Lib.hid (show S.touch now dir l = S.set { d with ents := l, mtime := now, ctime := now } by unfold Fs.touch; rw [hg])
  have hno := an_no hg
  have HSet := Lib.hid (fun w1 (hb1 : Below w.heap.size w w1) => (h.keep hb1).setN { d with ents := l, mtime := now, ctime := now } (hl.keep hb1) (b := d) (by rw [show ({ d with ents := l, mtime := now, ctime := now } : An).no = d.no from rfl, hno]; exact hg))
  unfold An.v at HSet
  obtain ⟨pc, -, pz⟩ := h.blk.facts
  have mixed : Tryz.prog.follows .mixedOrders = true := by kernel_rfl
  clear h hg he hG hno hl
  go_enter Tryz.func131, Tryz.ntmps131
  go_wp2_with fail
  refine HG.out.mono ?_
  rintro e w1 ⟨rfl, hb1⟩
  have pc0 : (w1.alloc (.cells #[.int .i64 d.no, .int .i64 d.dev, .int .i64 d.kind, .int .i64 d.mode, .int .i64 d.uid, .int .i64 d.gid, .int .i64 now, .int .i64 now, .int .i64 d.links, .int .i64 d.up, .string d.data, .slice a n c] 110)).cell? ⟨pw, 0, none⟩ = _ := ((balloc hb1 (.cells #[.int .i64 d.no, .int .i64 d.dev, .int .i64 d.kind, .int .i64 d.mode, .int .i64 d.uid, .int .i64 d.gid, .int .i64 now, .int .i64 now, .int .i64 d.links, .int .i64 d.up, .string d.data, .slice a n c] 110)).cell (p := ⟨pw, 0, none⟩) pz).trans (pc 0)
  have hB := Blk.new w1 #[.int .i64 d.no, .int .i64 d.dev, .int .i64 d.kind, .int .i64 d.mode, .int .i64 d.uid, .int .i64 d.gid, .int .i64 now, .int .i64 now, .int .i64 d.links, .int .i64 d.up, .string d.data, .slice a n c] 110
  have hbX := balloc hb1 (.cells #[.int .i64 d.no, .int .i64 d.dev, .int .i64 d.kind, .int .i64 d.mode, .int .i64 d.uid, .int .i64 d.gid, .int .i64 now, .int .i64 now, .int .i64 d.links, .int .i64 d.up, .string d.data, .slice a n c] 110)
  clear pc hb1
  go_wp2_with fail
  generalize w1.alloc (.cells #[.int .i64 d.no, .int .i64 d.dev, .int .i64 d.kind, .int .i64 d.mode, .int .i64 d.uid, .int .i64 d.gid, .int .i64 now, .int .i64 now, .int .i64 d.links, .int .i64 d.up, .string d.data, .slice a n c] 110) = X at pc0 hB hbX ⊢
  obtain ⟨bc, -, bz⟩ := hB.facts
  have HS := Lib.hid (HSet.out _ hbX.drew)
  have HX := Lib.hid hbX
  clear hB hbX
  refine wp_region_lex 5 mixed (by kernel_rfl) body_panic ?_
  simp only [List.take_succ_cons, List.take_zero, List.drop_succ_cons, List.drop_zero]
  repeat still_step
  refine wpStill_nil ?_
  go_wp2_with fail
  refine HS.out.mono ?_
  rintro e w5 ⟨rfl, R', hR1, hR2, -, -⟩
  have HR := Lib.hid (And.intro hR1 hR2)
  clear hR1 hR2
  go_wp2_with fail
  go_end0
  rw [HT.out]
  exact ⟨rfl, R', HR.out.1, (Stp.of_below HX.out.drew).trans HR.out.2⟩
end

end Go.Proofs.YtaojpbgaengdpaaGreat
