/- Texts of the proof, part 16. -/
import Derived.Lib.AppendZerosOnto
import Derived.Test.YtaojpbgaengdpaaGreatDoorDU15
import Derived.Test.YtaojpbgaengdpaaGreatDoorDU10
set_option linter.unusedVariables false
set_option linter.unusedSimpArgs false
/- A directory in which names come and go (layer 17): Place, Touch. -/
namespace Go.Proofs.YtaojpbgaengdpaaGreatDoor

open Go.RowKit

theorem Blk.row {w : World} {B : Nat} {xs vs : List Value} {T : TypeId} (h : Blk w B xs.toArray T) (hl : xs.length = vs.length) : Blk (putRow w B 0 vs) B vs.toArray T := by
  have h1 := putRow_blk vs w 0 _ h
  have h2 := setAll_head vs xs [] hl
  rw [List.append_nil, List.append_nil] at h2
  rw [List.toList_toArray, h2] at h1
  exact h1
set_option maxRecDepth 100000 in
theorem Blk.set12 {w : World} {B : Nat} {x0 x1 x2 x3 x4 x5 x6 x7 x8 x9 x10 x11 v0 v1 v2 v3 v4 v5 v6 v7 v8 v9 v10 v11 : Value} {T : TypeId} (h : Blk w B #[x0, x1, x2, x3, x4, x5, x6, x7, x8, x9, x10, x11] T) : Blk ((((((((((((w.setCell ⟨B, 0, none⟩ v0).setCell ⟨B, 1, none⟩ v1).setCell ⟨B, 2, none⟩ v2).setCell ⟨B, 3, none⟩ v3).setCell ⟨B, 4, none⟩ v4).setCell ⟨B, 5, none⟩ v5).setCell ⟨B, 6, none⟩ v6).setCell ⟨B, 7, none⟩ v7).setCell ⟨B, 8, none⟩ v8).setCell ⟨B, 9, none⟩ v9).setCell ⟨B, 10, none⟩ v10).setCell ⟨B, 11, none⟩ v11) B #[v0, v1, v2, v3, v4, v5, v6, v7, v8, v9, v10, v11] T :=
  Blk.row (xs := [x0, x1, x2, x3, x4, x5, x6, x7, x8, x9, x10, x11]) (vs := [v0, v1, v2, v3, v4, v5, v6, v7, v8, v9, v10, v11]) h rfl
theorem below_row {N : Nat} {w0 : World} {B : Nat} (hB : N ≤ B) : ∀ (vs : List Value) (w : World) (o : Nat), Below N w0 w → Below N w0 (putRow w B o vs)
  | [], _, _, h => h
  | v :: vs, w, o, h => by unfold putRow; exact below_row hB vs _ _ (h.setCell hB v)
set_option maxRecDepth 100000 in
theorem below_set12 {N : Nat} {w0 w : World} {B : Nat} {v0 v1 v2 v3 v4 v5 v6 v7 v8 v9 v10 v11 : Value} (h : Below N w0 w) (hB : N ≤ B) : Below N w0 ((((((((((((w.setCell ⟨B, 0, none⟩ v0).setCell ⟨B, 1, none⟩ v1).setCell ⟨B, 2, none⟩ v2).setCell ⟨B, 3, none⟩ v3).setCell ⟨B, 4, none⟩ v4).setCell ⟨B, 5, none⟩ v5).setCell ⟨B, 6, none⟩ v6).setCell ⟨B, 7, none⟩ v7).setCell ⟨B, 8, none⟩ v8).setCell ⟨B, 9, none⟩ v9).setCell ⟨B, 10, none⟩ v10).setCell ⟨B, 11, none⟩ v11) :=
  below_row hB [v0, v1, v2, v3, v4, v5, v6, v7, v8, v9, v10, v11] w 0 h
theorem Blk.cells12 {w : World} {B : Nat} {x0 x1 x2 x3 x4 x5 x6 x7 x8 x9 x10 x11 : Value} {T : TypeId} (h : Blk w B #[x0, x1, x2, x3, x4, x5, x6, x7, x8, x9, x10, x11] T) :
    w.cell? ⟨B, 0, none⟩ = some (x0) ∧ w.cell? ⟨B, 1, none⟩ = some (x1) ∧ w.cell? ⟨B, 2, none⟩ = some (x2) ∧ w.cell? ⟨B, 3, none⟩ = some (x3) ∧ w.cell? ⟨B, 4, none⟩ = some (x4) ∧ w.cell? ⟨B, 5, none⟩ = some (x5) ∧ w.cell? ⟨B, 6, none⟩ = some (x6) ∧ w.cell? ⟨B, 7, none⟩ = some (x7) ∧ w.cell? ⟨B, 8, none⟩ = some (x8) ∧ w.cell? ⟨B, 9, none⟩ = some (x9) ∧ w.cell? ⟨B, 10, none⟩ = some (x10) ∧ w.cell? ⟨B, 11, none⟩ = some (x11) :=
  ⟨h.cell 0, h.cell 1, h.cell 2, h.cell 3, h.cell 4, h.cell 5, h.cell 6, h.cell 7, h.cell 8, h.cell 9, h.cell 10, h.cell 11⟩
set_option maxRecDepth 100000 in
set_option maxHeartbeats 1000000 in
theorem place_results {tmps : Array Value} {W : World} {B : Nat} {a : An} {ea : Option Addr} {el ec : Nat} {e : Int} (hb : Blk W B #[.int .i64 a.no, .int .i64 a.dev, .int .i64 a.kind, .int .i64 a.mode, .int .i64 a.uid, .int .i64 a.gid, .int .i64 a.mtime, .int .i64 a.ctime, .int .i64 a.links, .int .i64 a.up, .string a.data, .slice ea el ec] 86)
    (h8 : tmps.getD 8 undef = .pointer (some ⟨B, 0, none⟩)) (h9 : tmps.getD 9 undef = .int .i64 e) : (results Tryz.f137 tmps).run Tryz.prog W = .ok (.tuple #[a.v ea el ec, .int .i64 e]) W := by
  obtain ⟨q0, q1, q2, q3, q4, q5, q6, q7, q8, q9, q10, q11⟩ := hb.cells12
  rw [Array.getD_eq_getD_getElem?] at h8 h9
  simp [results, Tryz.results137, go_sem, An.v, h8, h9, q0, q1, q2, q3, q4, q5, q6, q7, q8, q9, q10, q11]
section

variable {w w' : World} {pw : Nat} {R : Rp} {S : Fs}

set_option maxRecDepth 100000 in
set_option maxHeartbeats 1000000 in
theorem place_none (h : WdAt w pw R S) {N : Nat} (hk : FsOk S N) (c : Cr) (dir : Int) (s : ByteArray) (hs : s.size ≤ 9223372036854775807) (hg : S.get dir = none) :
    Calls Tryz.prog 137 #[.pointer (some ⟨pw, 0, none⟩), .agg #[.int .i64 c.u, .int .i64 c.g], .int .i64 dir, .string s] w fun e w' => e = .returned (.tuple #[an0.v none 0 0, .int .i64 5]) ∧ Below w.heap.size w w' := by
  have HDv := Lib.hid (fun w1 (hb1 : Below w.heap.size w w1) => wdevs_any (h.keep hb1) hk.d1)
  have hnz := hk.d1
  generalize S.ds.length = n at HDv hnz
  have hz : ((n : Int) == 0) = false := by simp; omega
  have HG := Lib.hid (fun w1 (hb1 : Below w.heap.size w w1) => wget_no (h.keep hb1) hg)
  have HCk := Lib.hid (fun w => ncheck_any s w hs)
  obtain ⟨pc, -, pz⟩ := h.blk.facts
  unfold An.v an0 at HG
  generalize checkE s = ce at HCk
  clear h hk hg
  go_enter Tryz.func137, Tryz.ntmps137
  go_wp2_with fail
  refine (HDv.out _ (balloc (balloc (Below.refl _ _) _) _)).mono ?_
  rintro e w1 ⟨rfl, rfl⟩
  go_wp2_with fail
  refine (HG.out _ (balloc (balloc (Below.refl _ _) _) _)).mono ?_
  rintro e w1 ⟨rfl, hb1⟩
  have hb2 := bnext (balloc (balloc (Below.refl w.heap.size w) _) _) hb1
  have hR : Blk w1 (w.heap.size + 1) #[.int .i64 0, .int .i64 0, .int .i64 0, .int .i64 0, .int .i64 0, .int .i64 0, .int .i64 0, .int .i64 0, .int .i64 0, .int .i64 0, .string ⟨#[]⟩, .slice none 0 0] 86 := by
    have := ((Blk.new (w.alloc (.cells #[.int .i64 c.u, .int .i64 c.g] 70)) #[.int .i64 0, .int .i64 0, .int .i64 0, .int .i64 0, .int .i64 0, .int .i64 0, .int .i64 0, .int .i64 0, .int .i64 0, .int .i64 0, .string ⟨#[]⟩, .slice none 0 0] 86).keep hb1)
    rwa [World.size_alloc] at this
  have hRX := hR.old (.cells #[.int .i64 0, .int .i64 0, .int .i64 0, .int .i64 0, .int .i64 0, .int .i64 0, .int .i64 0, .int .i64 0, .int .i64 0, .int .i64 0, .string ByteArray.empty, .slice none 0 0] 86)
  have hbX := balloc hb2 (.cells #[.int .i64 0, .int .i64 0, .int .i64 0, .int .i64 0, .int .i64 0, .int .i64 0, .int .i64 0, .int .i64 0, .int .i64 0, .int .i64 0, .string ByteArray.empty, .slice none 0 0] 86)
  clear hR hb1 hb2 pc
  go_wp2_with fail
  generalize w1.alloc (.cells #[.int .i64 0, .int .i64 0, .int .i64 0, .int .i64 0, .int .i64 0, .int .i64 0, .int .i64 0, .int .i64 0, .int .i64 0, .int .i64 0, .string ByteArray.empty, .slice none 0 0] 86) = X at hRX hbX ⊢
  refine (HCk.out _).mono ?_
  rintro e w2 ⟨rfl, rfl⟩
  have HRX := Lib.hid hRX
  have HBX := Lib.hid hbX
  obtain ⟨rc, rf, rz⟩ := hRX.facts
  clear hRX hbX
  go_wp2_with fail
  exact bodyPost_ret (place_results (a := an0) HRX.out.set12 rfl rfl) rfl ⟨rfl, below_set12 HBX.out (Nat.le_succ _)⟩
/-- the directory is there: Get, and what lies beside it. -/
theorem wget_fix (h : WdAt w pw R S) {k : Int} {a : An} (hg : S.get k = some a) : ∃ ea el ec, EntsAt w ea el ec a.ents ∧ ∀ w1, Below w.heap.size w w1 →
    Calls Tryz.prog 39 #[.pointer (some ⟨R.pt, 0, none⟩), .int .i64 k] w1 fun e w' => e = .returned (.tuple #[a.v ea el ec, .bool true]) ∧ Below w1.heap.size w1 w' := by
  obtain ⟨g, -, rfl, hf, he⟩ := G_of h hg
  exact ⟨g.ea, g.el, g.ec, he, fun w1 hb1 => get_yes g.nd k w1 R.pt R.pm S.last _ R.clk (h.keep hb1).tab hf⟩
set_option maxRecDepth 100000 in
set_option maxHeartbeats 2000000 in
theorem place_some (h : WdAt w pw R S) {N : Nat} (hk : FsOk S N) (c : Cr) (dir : Int) (s : ByteArray) (hs : s.size ≤ 9223372036854775807) (d : An) (hg : S.get dir = some d) :
    Calls Tryz.prog 137 #[.pointer (some ⟨pw, 0, none⟩), .agg #[.int .i64 c.u, .int .i64 c.g], .int .i64 dir, .string s] w fun e w' => ((S.placeE c dir s ≠ 0 ∧ e = .returned (.tuple #[an0.v none 0 0, .int .i64 (S.placeE c dir s)])) ∨ (S.placeE c dir s = 0 ∧ ∃ ea el ec, e = .returned (.tuple #[d.v ea el ec, .int .i64 0]) ∧ EntsAt w ea el ec d.ents)) ∧ Below w.heap.size w w' := by
  have HDv := Lib.hid (fun w1 (hb1 : Below w.heap.size w w1) => wdevs_any (h.keep hb1) hk.d1)
  have hnz := hk.d1
  generalize S.ds.length = n at HDv hnz
  have hz : ((n : Int) == 0) = false := by simp; omega
  obtain ⟨ea, el, ec, he, hG⟩ := wget_fix h hg
  have HE := Lib.hid he
  have HG := Lib.hid hG
  unfold An.v at HG
  have HCk := Lib.hid (fun w => ncheck_any s w hs)
  have HPl := Lib.hid (show S.placeE c dir s = if d.kind ≠ 1 then 9 else if checkE s ≠ 0 then checkE s else if d.may c 3 = false then 6 else 0 by unfold Fs.placeE; rw [hg])
  have HNd := Lib.hid (fun w => pnode_any c d ea el ec 3 w)
  unfold Cr.v An.v at HNd
  obtain ⟨pc, -, pz⟩ := h.blk.facts
  generalize checkE s = ce at HCk HPl
  generalize S.placeE c dir s = pe at HPl ⊢
  generalize d.may c 3 = my at HPl HNd
  clear h hk hg he hG
  go_enter Tryz.func137, Tryz.ntmps137
  go_wp2_with fail
  refine (HDv.out _ (balloc (balloc (Below.refl _ _) _) _)).mono ?_
  rintro e w1 ⟨rfl, rfl⟩
  go_wp2_with fail
  refine (HG.out _ (balloc (balloc (Below.refl _ _) _) _)).mono ?_
  rintro e w1 ⟨rfl, hb1⟩
  have hb2 := bnext (balloc (balloc (Below.refl w.heap.size w) _) _) hb1
  have hR : Blk w1 (w.heap.size + 1) #[.int .i64 0, .int .i64 0, .int .i64 0, .int .i64 0, .int .i64 0, .int .i64 0, .int .i64 0, .int .i64 0, .int .i64 0, .int .i64 0, .string ⟨#[]⟩, .slice none 0 0] 86 := by
    have := ((Blk.new (w.alloc (.cells #[.int .i64 c.u, .int .i64 c.g] 70)) #[.int .i64 0, .int .i64 0, .int .i64 0, .int .i64 0, .int .i64 0, .int .i64 0, .int .i64 0, .int .i64 0, .int .i64 0, .int .i64 0, .string ⟨#[]⟩, .slice none 0 0] 86).keep hb1)
    rwa [World.size_alloc] at this
  have hCr : Blk w1 w.heap.size #[.int .i64 c.u, .int .i64 c.g] 70 := ((Blk.new w #[.int .i64 c.u, .int .i64 c.g] 70).old (.cells #[.int .i64 0, .int .i64 0, .int .i64 0, .int .i64 0, .int .i64 0, .int .i64 0, .int .i64 0, .int .i64 0, .int .i64 0, .int .i64 0, .string ⟨#[]⟩, .slice none 0 0] 86)).keep hb1
  have hRX := hR.old (.cells #[.int .i64 d.no, .int .i64 d.dev, .int .i64 d.kind, .int .i64 d.mode, .int .i64 d.uid, .int .i64 d.gid, .int .i64 d.mtime, .int .i64 d.ctime, .int .i64 d.links, .int .i64 d.up, .string d.data, .slice ea el ec] 86)
  have hCX := hCr.old (.cells #[.int .i64 d.no, .int .i64 d.dev, .int .i64 d.kind, .int .i64 d.mode, .int .i64 d.uid, .int .i64 d.gid, .int .i64 d.mtime, .int .i64 d.ctime, .int .i64 d.links, .int .i64 d.up, .string d.data, .slice ea el ec] 86)
  have hDX := Blk.new w1 #[.int .i64 d.no, .int .i64 d.dev, .int .i64 d.kind, .int .i64 d.mode, .int .i64 d.uid, .int .i64 d.gid, .int .i64 d.mtime, .int .i64 d.ctime, .int .i64 d.links, .int .i64 d.up, .string d.data, .slice ea el ec] 86
  have hbX := balloc hb2 (.cells #[.int .i64 d.no, .int .i64 d.dev, .int .i64 d.kind, .int .i64 d.mode, .int .i64 d.uid, .int .i64 d.gid, .int .i64 d.mtime, .int .i64 d.ctime, .int .i64 d.links, .int .i64 d.up, .string d.data, .slice ea el ec] 86)
  clear hR hCr hb1 hb2 pc
  go_wp2_with fail
  generalize w1.alloc (.cells #[.int .i64 d.no, .int .i64 d.dev, .int .i64 d.kind, .int .i64 d.mode, .int .i64 d.uid, .int .i64 d.gid, .int .i64 d.mtime, .int .i64 d.ctime, .int .i64 d.links, .int .i64 d.up, .string d.data, .slice ea el ec] 86) = X at hRX hCX hDX hbX ⊢
  refine (HCk.out _).mono ?_
  rintro e w2 ⟨rfl, rfl⟩
  have HRX := Lib.hid hRX
  have HBX := Lib.hid hbX
  have HDX := Lib.hid hDX
  have HCX := Lib.hid hCX
  obtain ⟨rc, rf, rz⟩ := hRX.facts
  obtain ⟨dc, df, dz⟩ := hDX.facts
  obtain ⟨cc, -, -⟩ := hCX.facts
  clear hRX hbX hDX hCX
  by_cases h1 : d.kind = 1
  · have q1 : (d.kind == 1) = true := by simpa using h1
    have q2 : (d.kind != 1) = false := by simpa using h1
    by_cases h2 : ce = 0
    · have q3 : (ce != 0) = false := by simpa using h2
      cases my
      · have HE6 := Lib.hid (show pe = 6 by rw [HPl.out]; simp [h1, h2])
        clear h1 h2
        go_wp2_with fail
        refine (HNd.out _).mono ?_
        rintro e w5 ⟨rfl, hb5⟩
        have hRX5 := HRX.out.keep hb5
        have hBX5 := HBX.out.trans (hb5.mono HBX.out.size)
        have HRX5 := Lib.hid hRX5
        have HBX5 := Lib.hid hBX5
        clear rc rf rz dc df dz cc
        obtain ⟨rc, rf, rz⟩ := hRX5.facts
        clear hRX5 hBX5 hb5
        go_wp2_with fail
        exact bodyPost_ret (place_results (a := an0) HRX5.out.set12 rfl rfl) rfl ⟨.inl ⟨by rw [HE6.out]; decide, by rw [HE6.out]⟩, below_set12 HBX5.out (Nat.le_succ _)⟩
      · have HE0 := Lib.hid (show pe = 0 by rw [HPl.out]; simp [h1, h2])
        clear h1 h2
        go_wp2_with fail
        refine (HNd.out _).mono ?_
        rintro e w5 ⟨rfl, hb5⟩
        have hRX5 := HRX.out.keep hb5
        have hDX5 := HDX.out.keep hb5
        have hBX5 := HBX.out.trans (hb5.mono HBX.out.size)
        have HRX5 := Lib.hid hRX5
        have HBX5 := Lib.hid hBX5
        clear rc rf rz dc df dz cc
        obtain ⟨rc, rf, rz⟩ := hRX5.facts
        obtain ⟨dc, -, -⟩ := hDX5.facts
        clear hRX5 hBX5 hb5 hDX5
        go_wp2_with fail
        exact bodyPost_ret (place_results (a := d) (ea := ea) (el := el) (ec := ec) HRX5.out.set12 rfl rfl) rfl ⟨.inr ⟨HE0.out, ea, el, ec, rfl, HE.out⟩, below_set12 HBX5.out (Nat.le_succ _)⟩
    · have q3 : (ce != 0) = true := by simpa using h2
      have HEc := Lib.hid (show pe = ce ∧ ce ≠ 0 by refine ⟨?_, h2⟩; rw [HPl.out]; simp [h1, h2])
      clear h1 h2
      go_wp2_with fail
      exact bodyPost_ret (place_results (a := an0) HRX.out.set12 rfl rfl) rfl ⟨.inl ⟨by rw [HEc.out.1]; exact HEc.out.2, by rw [HEc.out.1]⟩, below_set12 HBX.out (Nat.le_succ _)⟩
  · have q2 : (d.kind != 1) = true := by simpa using h1
    have HE9 := Lib.hid (show pe = 9 by rw [HPl.out]; simp [h1])
    clear h1
    go_wp2_with fail
    exact bodyPost_ret (place_results (a := an0) HRX.out.set12 rfl rfl) rfl ⟨.inl ⟨by rw [HE9.out]; decide, by rw [HE9.out]⟩, below_set12 HBX.out (Nat.le_succ _)⟩
end

end Go.Proofs.YtaojpbgaengdpaaGreatDoor

/- A directory has other names (layer 17): Touch. -/
namespace Go.Proofs.YtaojpbgaengdpaaGreatDoor

open Go.RowKit

section

variable {w w' : World} {pw : Nat} {R : Rp} {S : Fs}

theorem body_panic {P : Program} {fn : Func} {R : Ending → World → Prop} : ∀ c d v a w, bodyPost P fn R (.panic c) (Act.put a d v) w → bodyPost P fn R (.panic c) a w :=
  fun c d v a w h => by
    have h' : (Act.put a d v).defers = [] ∧ R (.panicked c) w := h
    exact show a.defers = [] ∧ R (.panicked c) w from ⟨by rw [← h'.1]; cases d <;> rfl, h'.2⟩
set_option maxRecDepth 100000 in
set_option maxHeartbeats 2000000 in
theorem touch_any (h : WdAt w pw R S) (dir now : Int) (d : An) (hg : S.get dir = some d) (l : List En) (a : Option Addr) (n c : Nat) (hl : EntsAt w a n c l) :
    Calls Tryz.prog 139 #[.pointer (some ⟨pw, 0, none⟩), .int .i64 dir, .int .i64 now, .slice a n c] w fun e w' => e = .returned (.tuple #[]) ∧ ∃ R', WdAt w' pw R' (S.touch now dir l) ∧ Stp (R.F pw) (R'.F pw) w w' := by
  obtain ⟨ea, el, ec, he, hG⟩ := wget_fix h hg
  have HG := Lib.hid (hG w (Below.refl _ _))
  unfold An.v at HG
  have HT := Lib.hid (show S.touch now dir l = S.set { d with ents := l, mtime := now, ctime := now } by unfold Fs.touch; rw [hg])
  have hno := an_no hg
  have HSet := Lib.hid (fun w1 (hb1 : Below w.heap.size w w1) => (h.keep hb1).setN { d with ents := l, mtime := now, ctime := now } (hl.keep hb1) (b := d) (by rw [show ({ d with ents := l, mtime := now, ctime := now } : An).no = d.no from rfl, hno]; exact hg))
  unfold An.v at HSet
  obtain ⟨pc, -, pz⟩ := h.blk.facts
  have mixed : Tryz.prog.follows .mixedOrders = true := by kernel_rfl
  clear h hg he hG hno hl
  go_enter Tryz.func139, Tryz.ntmps139
  go_wp2_with fail
  refine HG.out.mono ?_
  rintro e w1 ⟨rfl, hb1⟩
  have pc0 : (w1.alloc (.cells #[.int .i64 d.no, .int .i64 d.dev, .int .i64 d.kind, .int .i64 d.mode, .int .i64 d.uid, .int .i64 d.gid, .int .i64 now, .int .i64 now, .int .i64 d.links, .int .i64 d.up, .string d.data, .slice a n c] 86)).cell? ⟨pw, 0, none⟩ = _ := ((balloc hb1 (.cells #[.int .i64 d.no, .int .i64 d.dev, .int .i64 d.kind, .int .i64 d.mode, .int .i64 d.uid, .int .i64 d.gid, .int .i64 now, .int .i64 now, .int .i64 d.links, .int .i64 d.up, .string d.data, .slice a n c] 86)).cell (p := ⟨pw, 0, none⟩) pz).trans (pc 0)
  have hB := Blk.new w1 #[.int .i64 d.no, .int .i64 d.dev, .int .i64 d.kind, .int .i64 d.mode, .int .i64 d.uid, .int .i64 d.gid, .int .i64 now, .int .i64 now, .int .i64 d.links, .int .i64 d.up, .string d.data, .slice a n c] 86
  have hbX := balloc hb1 (.cells #[.int .i64 d.no, .int .i64 d.dev, .int .i64 d.kind, .int .i64 d.mode, .int .i64 d.uid, .int .i64 d.gid, .int .i64 now, .int .i64 now, .int .i64 d.links, .int .i64 d.up, .string d.data, .slice a n c] 86)
  clear pc hb1
  go_wp2_with fail
  generalize w1.alloc (.cells #[.int .i64 d.no, .int .i64 d.dev, .int .i64 d.kind, .int .i64 d.mode, .int .i64 d.uid, .int .i64 d.gid, .int .i64 now, .int .i64 now, .int .i64 d.links, .int .i64 d.up, .string d.data, .slice a n c] 86) = X at pc0 hB hbX ⊢
  obtain ⟨bc, -, bz⟩ := hB.facts
  have HS := Lib.hid (HSet.out _ hbX.drew)
  have HX := Lib.hid hbX
  clear hB hbX
  refine wp_region_lex 5 mixed (by kernel_rfl) body_panic ?_
  simp only [List.take_succ_cons, List.take_zero, List.drop_succ_cons, List.drop_zero]
  repeat still_step
  refine wpStill_nil ?_
  go_wp2_with fail
  refine HS.out.mono ?_
  rintro e w5 ⟨rfl, R', hR1, hR2, -, -⟩
  have HR := Lib.hid (And.intro hR1 hR2)
  clear hR1 hR2
  go_wp2_with fail
  go_end0
  rw [HT.out]
  exact ⟨rfl, R', HR.out.1, (Stp.of_below HX.out.drew).trans HR.out.2⟩
end

end Go.Proofs.YtaojpbgaengdpaaGreatDoor

/- slices.Insert over names in a directory. -/
namespace Go.Proofs.YtaojpbgaengdpaaGreatDoor

open Go.RowKit

/-- an own row, by its block. -/
theorem OE.mk {w : World} {base g cap : Nat} {cur : Array Value} {es : List En} (hb : base ≤ g) (hg : Blk w g cur 101) (h1 : es.length ≤ cap) (h2 : cap ≤ maxLen) (h3 : cur.size = cap * 2) (h4 : cur.toList.take (es.length * 2) = es.flatMap entC) :
    OE w base (.slice (some ⟨g, 0, none⟩) es.length cap) es := ⟨flat_len entC_len es, .inr ⟨g, cap, cur, rfl, hb, hg, h1, h2, h3, h4⟩⟩
theorem flat_take (es : List En) (i : Nat) : (es.flatMap entC).take (i * 2) = (es.take i).flatMap entC := by
  induction es generalizing i with
  | nil => simp
  | cons x es ih =>
    cases i with
    | zero => simp
    | succ i =>
      rw [List.flatMap_cons, List.take_succ_cons, List.flatMap_cons, show (i + 1) * 2 = (entC x).length + i * 2 by rw [entC_len]; omega, List.take_append, List.take_of_length_le (by omega), Nat.add_sub_cancel_left, ih]
theorem flat_drop (es : List En) (i : Nat) : (es.flatMap entC).drop (i * 2) = (es.drop i).flatMap entC := by
  induction es generalizing i with
  | nil => simp
  | cons x es ih =>
    cases i with
    | zero => simp
    | succ i =>
      rw [List.flatMap_cons, List.drop_succ_cons, show (i + 1) * 2 = (entC x).length + i * 2 by rw [entC_len]; omega, List.drop_append, List.drop_eq_nil_of_le (by omega), Nat.add_sub_cancel_left, ih, List.nil_append]

set_option maxRecDepth 100000 in
set_option maxHeartbeats 400000 in
/-- at the end. -/
theorem einsert_end (es : List En) (a : Option Addr) (c base vb : Nat) (x : En) (w : World) (h : OE w base (.slice a es.length c) es) (hb : Blk w vb #[.string x.name, .int .i64 x.no] 101) (hbase : base ≤ w.heap.size) (hn : es.length ≤ 1000000) :
    Calls Tryz.prog 162 #[.slice a es.length c, .int .i64 es.length, .slice (some ⟨vb, 0, none⟩) 1 1] w fun e w' => (∃ a' c', e = .returned (.slice a' (es.length + 1) c') ∧ OE w' base (.slice a' (es.length + 1) c') (es ++ [x])) ∧ Mod (fun k => (Value.slice a es.length c).ownBlock = some k) w w' := by
  obtain ⟨i0, hi, hz0, hz1, hz2⟩ := info_parts ent_info
  obtain ⟨g, cap, W, h1, h2, h3, h4⟩ := step_app (84) Tryz.underlying84 hi hz0 hz1 hz2 rfl (by omega) h ⟨vb, 0, none⟩ 1 1 (entC x) rfl (World.news_of_block hb) (by intro u hu; simp [entC] at hu; rcases hu with rfl | rfl <;> rfl) (by omega) (by unfold maxLen; omega) (by omega) hbase
  have h2' : OE W base (.slice (some ⟨g, 0, none⟩) (es.length + 1) cap) (es ++ [x]) := by
    unfold OE
    rw [List.length_append, List.length_singleton, List.flatMap_append, List.flatMap_singleton]
    exact h2
  obtain ⟨b', c', hv, hle, -⟩ := own_form h
  injection hv with e1 e2 e3
  subst e1 e3
  have H := Lib.hid (And.intro h2' h3)
  clear h2 h2' h3 h4 hi hz0 hz1 hz2 hb h
  obtain ⟨n, hnn⟩ : ∃ n, es.length = n := ⟨_, rfl⟩
  rw [hnn] at H h1 hle hn ⊢
  clear hnn
  cases a with
  | none =>
    go_enter Tryz.func162, Tryz.ntmps162
    go_wp2_with (at_builtin; refine wpList_app_run rfl rfl rfl rfl h1 ?_)
    all_goals (go_ret; exact ⟨⟨_, _, rfl, H.out.1⟩, H.out.2⟩)
  | some p =>
    go_enter Tryz.func162, Tryz.ntmps162
    go_wp2_with (at_builtin; refine wpList_app_run rfl rfl rfl rfl h1 ?_)
    all_goals (go_ret; exact ⟨⟨_, _, rfl, H.out.1⟩, H.out.2⟩)

theorem zero_cells (k : Nat) : (Builtin.zeroCells (Value.cells (.agg #[.string ByteArray.empty, .int .i64 0])) k).size = k * 2 := by
  rw [size_zeroCells]; rfl
theorem take_app_len {α : Type} (a b : List α) (n : Nat) (h : a.length = n) : (a ++ b).take n = a := by
  subst h; simp

set_option maxRecDepth 100000 in
set_option maxHeartbeats 1000000 in
/-- amidst, and no room. -/
theorem einsert_grow (es : List En) (g c i base vb : Nat) (x : En) (w : World) (h : OE w base (.slice (some ⟨g, 0, none⟩) es.length c) es) (hb : Blk w vb #[.string x.name, .int .i64 x.no] 101) (hbase : base ≤ w.heap.size) (hn : es.length ≤ 1000000) (hil : i < es.length) (hroom : c < es.length + 1) :
    Calls Tryz.prog 162 #[.slice (some ⟨g, 0, none⟩) es.length c, .int .i64 i, .slice (some ⟨vb, 0, none⟩) 1 1] w fun e w' => (∃ a' c', e = .returned (.slice a' (es.length + 1) c') ∧ OE w' base (.slice a' (es.length + 1) c') (es.take i ++ x :: es.drop i)) ∧ Below w.heap.size w w' := by
  obtain ⟨i0, hi, hz0, hz1, hz2⟩ := info_parts ent_info
  have hA := h.at
  have hlt := (hA.some_of (by omega))
  obtain ⟨gg, oo, hgg, hgl⟩ := hlt
  injection hgg with hgg
  injection hgg with e1 e2
  subst e1 e2
  obtain ⟨b', c', hv, hle, -⟩ := own_form h
  injection hv with e1 e2 e3
  subst e1 e3
  have hsz : (Tryz.prog.info? 101).map (·.size) = some 2 := by rw [hi]; simp [hz1]
  obtain ⟨n, hnn⟩ : ∃ n, es.length = n := ⟨_, rfl⟩
  have hold : (Builtin.firstCells i0.size i (.slice (some ⟨g, 0, none⟩) i c)).run Tryz.prog w.drew = .ok ((es.take i).flatMap entC).toArray w.drew := by
    rw [hz1]
    refine run_firstCells_some w.drew 2 i ⟨g, 0, none⟩ i c _ (by rw [flat_len entC_len, List.length_take]; omega) (fun j v hj => ?_)
    rw [← flat_take, List.getElem?_take] at hj
    split at hj
    · exact hA.news j v hj
    · cases hj
  have hr0 := Lib.run_append_grow_zeros w 84 3 84 101 i0 _ .i64 .i64 Tryz.underlying84 Tryz.underlying3 hi hz0 (some ⟨g, 0, none⟩) i c _ hold (n + 1 - i) (by omega) (by rw [hz1]; omega) (by omega) (by omega) (by rw [hz2]; omega) (by rw [hz2]; exact growslice_fits (by omega) (by omega))
  rw [show i + (n + 1 - i) = n + 1 by omega] at hr0
  have hk : ((n + 1 - i : Nat) : Int) = (n : Int) + 1 - (i : Int) := by omega
  rw [hk] at hr0
  obtain ⟨G, hG⟩ : ∃ G, grownCap w (n + 1) c 101 = G := ⟨_, rfl⟩
  have hG1 : n + 1 ≤ G := by rw [← hG]; exact grownCap_ge w _ _ _
  have hG2 : G ≤ maxLen := by rw [← hG]; exact grownCap_le_maxLen w _ _ _ (by unfold maxLen; omega)
  rw [hG] at hr0
  obtain ⟨ROW, hROW⟩ : ∃ R, ((es.take i).flatMap entC).toArray ++ Builtin.zeroCells (Value.cells (.agg #[.string ByteArray.empty, .int .i64 0])) (n + 1 - i) ++ Builtin.zeroCells (Value.cells (.agg #[.string ByteArray.empty, .int .i64 0])) (G - (n + 1)) = R := ⟨_, rfl⟩
  rw [hROW] at hr0
  have hRs : ROW.size = G * 2 := by
    rw [← hROW, Array.size_append, Array.size_append, zero_cells, zero_cells, List.size_toArray, flat_len entC_len, List.length_take]
    omega
  have hRt : ROW.toList.take (i * 2) = (es.take i).flatMap entC := by
    rw [← hROW, Array.toList_append, Array.toList_append, List.append_assoc]
    exact take_app_len _ _ _ (by rw [flat_len entC_len, List.length_take]; omega)
  have b1 : Blk (w.drew.alloc (.cells ROW 101)) w.heap.size ROW 101 := Blk.new w.drew ROW 101
  have B1 : Below w.heap.size w (w.drew.alloc (.cells ROW 101)) := ((Below.refl _ w).drew).alloc (Nat.le_refl _) _
  have hA1 := hA.keep B1
  have hv1 := hb.keep B1
  have hne : vb ≠ w.heap.size := by have := hb.lt; omega
  generalize hW1 : w.drew.alloc (.cells ROW 101) = W1 at hr0 b1 B1 hA1 hv1
  clear hW1
  have hr1 := run_copy_rowK W1 84 84 3 101 w.heap.size (i * 2) (n + 1 - i) (G - i) ⟨vb, 0, none⟩ 1 1 ROW 101 (entC x) 1 2 Tryz.underlying84 hsz b1 (by simp only [Nat.min_def]; split <;> omega) rfl (World.news_of_block hv1) (by rw [entC_len, hRs]; omega) (by intro u hu; simp [entC] at hu; rcases hu with rfl | rfl <;> rfl)
  have b2 := setRow_blk (vs := (ROW.toList.take (i * 2) ++ entC x ++ ROW.toList.drop (i * 2 + (entC x).length)).toArray) b1
  have M2 := setRow_mod W1 w.heap.size (ROW.toList.take (i * 2) ++ entC x ++ ROW.toList.drop (i * 2 + (entC x).length)).toArray
  have hs2 : (ROW.toList.take (i * 2) ++ entC x ++ ROW.toList.drop (i * 2 + (entC x).length)).toArray.size = G * 2 := by
    rw [List.size_toArray, List.length_append, List.length_append, List.length_take, List.length_drop, entC_len, Array.length_toList, hRs]
    omega
  have ht2 : (ROW.toList.take (i * 2) ++ entC x ++ ROW.toList.drop (i * 2 + (entC x).length)).take ((i + 1) * 2) = (es.take i).flatMap entC ++ entC x := by
    rw [hRt]
    exact take_app_len _ _ _ (by rw [List.length_append, flat_len entC_len, List.length_take, entC_len]; omega)
  obtain ⟨R2, hR2⟩ : ∃ R, (ROW.toList.take (i * 2) ++ entC x ++ ROW.toList.drop (i * 2 + (entC x).length)) = R := ⟨_, rfl⟩
  rw [hR2] at hr1 b2 M2 hs2 ht2
  have B2 : Below w.heap.size w (W1.setRow w.heap.size R2.toArray) := B1.trans (M2.below (fun k hk => by omega) B1.size)
  have hA2 := hA.keep B2
  generalize hW2 : W1.setRow w.heap.size R2.toArray = W2 at hr1 b2 B2 hA2
  clear hW2 M2
  have hdl : ((es.drop i).flatMap entC).length = (n - i) * 2 := by rw [flat_len entC_len, List.length_drop, hnn]
  have hr2 := run_copy_rowK W2.drew 84 84 3 101 w.heap.size ((i + 1) * 2) (n + 1 - (i + 1)) (G - (i + 1)) ⟨g, i * 2, none⟩ (n - i) (c - i) R2.toArray 101 ((es.drop i).flatMap entC) (n - i) 2 Tryz.underlying84 hsz b2.drew (by simp only [Nat.min_def]; split <;> omega) hdl
    (fun j v hj => by
      rw [← flat_drop, List.getElem?_drop] at hj
      have := hA2.news (i * 2 + j) v hj
      rw [addr_add] at this ⊢
      rw [show i * 2 + j = 0 + (i * 2 + j) by omega]
      exact this) (by rw [hdl, hs2]; omega) (entC_one _)
  have b3 := setRow_blk (vs := (R2.toArray.toList.take ((i + 1) * 2) ++ (es.drop i).flatMap entC ++ R2.toArray.toList.drop ((i + 1) * 2 + ((es.drop i).flatMap entC).length)).toArray) b2.drew
  have M3 := setRow_mod W2.drew w.heap.size (R2.toArray.toList.take ((i + 1) * 2) ++ (es.drop i).flatMap entC ++ R2.toArray.toList.drop ((i + 1) * 2 + ((es.drop i).flatMap entC).length)).toArray
  obtain ⟨R3, hR3⟩ : ∃ R, (R2.toArray.toList.take ((i + 1) * 2) ++ (es.drop i).flatMap entC ++ R2.toArray.toList.drop ((i + 1) * 2 + ((es.drop i).flatMap entC).length)) = R := ⟨_, rfl⟩
  have hs3 : R3.toArray.size = G * 2 := by
    rw [← hR3, List.size_toArray, List.length_append, List.length_append, List.length_take, List.length_drop, hdl, Array.length_toList, hs2]
    omega
  have ht3 : R3.take ((n + 1) * 2) = (es.take i ++ x :: es.drop i).flatMap entC := by
    rw [← hR3, List.flatMap_append, List.flatMap_cons, ht2]
    rw [take_app_len _ _ _ (by rw [List.length_append, List.length_append, hdl, flat_len entC_len, List.length_take, entC_len]; omega)]
    rw [List.append_assoc]
  rw [hR3] at hr2 b3 M3
  have B3 : Below w.heap.size w (W2.drew.setRow w.heap.size R3.toArray) := (B2.drew).trans (M3.below (fun k hk => by omega) B2.size)
  generalize hW3 : W2.drew.setRow w.heap.size R3.toArray = W3 at hr2 b3 B3
  clear hW3 M3
  have hlen : (es.take i ++ x :: es.drop i).length = n + 1 := by
    rw [List.length_append, List.length_take, List.length_cons, List.length_drop]; omega
  have hfin : OE W3 base (.slice (some ⟨w.heap.size, 0, none⟩) (n + 1) G) (es.take i ++ x :: es.drop i) := by
    have := OE.mk (es := es.take i ++ x :: es.drop i) hbase b3 (by rw [hlen]; exact hG1) hG2 hs3 (by rw [hlen]; exact ht3)
    rw [hlen] at this
    exact this
  have H := Lib.hid (And.intro hfin B3)
  unfold maxLen at hG2
  rw [hnn] at hil hroom hn hle ⊢
  have q1 : ¬ (G = i) := by omega
  have q2 : ¬ (G = i + 1) := by omega
  have q3 : ¬ (c = i) := by omega
  clear hA hA1 hA2 hv1 hb h hold hROW hRs hRt b1 b2 b3 hs2 hs3 ht2 ht3 hR2 hR3 hlen hfin B1 B2 B3 hdl hnn hG hi hz0 hz1 hz2 hsz hk
  go_enter Tryz.func162, Tryz.ntmps162
  go_wp2_with (first
    | (at_builtin; refine Lib.wpList_append_run _ rfl _ _ _ _ rfl _ _ rfl rfl _ _ hr0 ?_)
    | (refine wpList_copy_run _ rfl _ _ 84 84 rfl _ _ rfl rfl hr1 ?_))
  have mixed : Tryz.prog.follows .mixedOrders = true := by kernel_rfl
  have hw1 : IntKind.i64.wrap ((i : Int) + 1) = (i : Int) + 1 := by rw [IntKind.wrap_i64]; omega
  have hb1 : (0 : Int) ≤ (i : Int) + 1 := by omega
  have htn : ((i : Int) + 1).toNat = i + 1 := by omega
  have hb3 : (i : Int) + 1 ≤ (n : Int) + 1 := by omega
  have hb4 : (i : Int) ≤ (n : Int) := by omega
  have hb5 : (0 : Int) ≤ (i : Int) := by omega
  go_region_law_o (refine step_copy_run rfl _ _ 84 84 rfl (.slice (some ⟨w.heap.size, (i + 1) * 2, none⟩) (n + 1 - (i + 1)) (G - (i + 1))) (.slice (some ⟨g, i * 2, none⟩) (n - i) (c - i)) (by simp [Act.eval, Act.put]) (by simp [Act.eval, Act.put]) hr2 ?_)
  go_wp2
  go_ret
  exact ⟨⟨_, _, rfl, H.out.1⟩, H.out.2⟩
end Go.Proofs.YtaojpbgaengdpaaGreatDoor
