/- Texts of the proof, part 15. -/
import Derived.Deep.CutBlock
import Derived.Deep.DeepCutAuto
import Derived.Test.YtihdbncoijhihaaGreatCK14
import Derived.Test.YtihdbncoijhihaaGreatCK13
import Derived.Test.YtihdbncoijhihaaGreatCK11
import Derived.Test.YtihdbncoijhihaaGreatCK10
set_option linter.unusedVariables false
set_option linter.unusedSimpArgs false
/- ents.Put where the name is not there. -/
namespace Go.Proofs.YtihdbncoijhihaaGreat

open Go.RowKit

theorem einsert_any (es : List En) (a : Option Addr) (c i base vb : Nat) (x : En) (w : World) (h : OE w base (.slice a es.length c) es) (hb : Blk w vb #[.string x.name, .int .i64 x.no] 146) (hvb : ∀ g, a = some ⟨g, 0, none⟩ → vb ≠ g) (hbase : base ≤ w.heap.size) (hn : es.length ≤ 1000000) (hil : i ≤ es.length) :
    Calls Tryz.prog 256 #[.slice a es.length c, .int .i64 i, .slice (some ⟨vb, 0, none⟩) 1 1] w fun e w' => (∃ a' c', e = .returned (.slice a' (es.length + 1) c') ∧ OE w' base (.slice a' (es.length + 1) c') (es.take i ++ x :: es.drop i)) ∧ Mod (fun k => (Value.slice a es.length c).ownBlock = some k) w w' := by
  by_cases hi : i < es.length
  · obtain ⟨b', c', hv, -, -, hf⟩ := own_form h
    injection hv with e1 e2 e3
    subst e1 e3
    rcases hf with ⟨-, h0, -⟩ | ⟨g, rfl, -, -⟩
    · omega
    · by_cases hr : es.length + 1 ≤ c
      · refine (einsert_room es g c i base vb x w h hb (hvb g rfl) hn hi hr).mono ?_
        rintro e w' ⟨h1, h2⟩
        exact ⟨h1, h2.mono (fun k hk => by rw [hk]; rfl)⟩
      · refine (einsert_grow es g c i base vb x w h hb hbase hn hi (by omega)).mono ?_
        rintro e w' ⟨h1, h2⟩
        exact ⟨h1, Mod.of_below h2⟩
  · obtain rfl : i = es.length := by omega
    rw [List.take_length, List.drop_length]
    exact einsert_end es a c base vb x w h hb hbase hn
theorem put_new {l : List En} (h : Rise l) (s : ByteArray) (no : Int) (hno : hasE l s = false) : entPut l s no = l.take (entAt l s) ++ ⟨s, no⟩ :: l.drop (entAt l s) := by
  rw [put_at h, if_neg, Nat.add_zero]
  rintro ⟨hk, he⟩
  unfold hasE at hno
  rw [find_at h, dif_pos hk, if_pos he] at hno
  cases hno
set_option maxRecDepth 100000 in
set_option maxHeartbeats 1000000 in
theorem eput_new (es : List En) (a : Option Addr) (n c : Nat) (s : ByteArray) (no : Int) (w : World) (he : EntsAt w a n c es) (hr : Rise es) (hn : n ≤ 1000000) (hno : hasE es s = false) :
    Calls Tryz.prog 202 #[.slice a n c, .string s, .int .i64 no] w fun e w' => (∃ a' n' c', e = .returned (.slice a' n' c') ∧ EntsAt w' a' n' c' (entPut es s no)) ∧ Below w.heap.size w w' := by
  have hl := he.len
  have HS := Lib.hid (search_any es a n c s w he hr hn)
  rw [hno] at HS
  have HP := Lib.hid (put_new hr s no hno)
  have hat := entAt_le es s
  generalize entAt es s = A at HS HP hat
  have HE := Lib.hid he
  clear he hno
  go_enter Tryz.func202, Tryz.ntmps202
  go_wp2_with fail
  refine HS.out.mono ?_
  rintro e w1 ⟨rfl, hb1⟩
  have HE1 := Lib.hid (HE.out.keep hb1)
  go_wp2_with fail
  refine (eclone_any es a n c w1 HE1.out hn).mono ?_
  rintro e w2 ⟨⟨a2, c2, rfl, hO⟩, hb2⟩
  have HO := Lib.hid hO
  have HB2 := Lib.hid (bnext hb1 hb2)
  clear hO
  go_wp2_with fail
  have hO2 := HO.out.keep ((Below.refl _ w2).alloc (Nat.le_refl _) (.cells #[.string s, .int .i64 no] 146))
  subst hl
  have hblk := Blk.new w2 #[.string s, .int .i64 no] 146
  refine (einsert_any es a2 c2 A w1.heap.size w2.heap.size ⟨s, no⟩ _ hO2 hblk (fun g hg => ?_) (by have := hb2.size; simp; omega) hn hat).mono ?_
  · subst hg
    rcases HO.out.2 with ⟨h1, -⟩ | ⟨g', cap', cur, h1, hb1, hg, -⟩
    · cases h1
    · injection h1 with e1
      injection e1 with e1
      injection e1 with e1
      subst e1
      have := Blk.lt (show Blk w2 g cur 146 from hg)
      omega
  · rintro e w3 ⟨⟨a3, c3, rfl, hO3⟩, hM3⟩
    have HR := Lib.hid (show EntsAt w3 a3 (es.length + 1) c3 (entPut es s no) by
      have hlen : (es.take A ++ ({ name := s, no := no } : En) :: es.drop A).length = es.length + 1 := by
        rw [List.length_append, List.length_take, List.length_cons, List.length_drop]; omega
      rw [HP.out]
      have h3 := hO3
      rw [← hlen] at h3 ⊢
      exact h3.at)
    have HB3 := Lib.hid (show Below w.heap.size w w3 from (balloc HB2.out _).trans (hM3.below (fun k hk => by
      rcases HO.out.2 with ⟨h1, -⟩ | ⟨g', cap', cur, h1, hb3, hg, -⟩
      · injection h1 with e1; rw [e1] at hk; cases hk
      · injection h1 with e1
        rw [e1] at hk
        simp only [Value.ownBlock, Option.some.injEq] at hk
        have := hb1.size
        omega) (by have := HB2.out.size; simp; omega)))
    clear hO3 hM3
    go_wp2_with fail
    go_ret
    exact ⟨⟨_, _, _, rfl, HR.out⟩, HB3.out⟩
end Go.Proofs.YtihdbncoijhihaaGreat

/- A node comes under a name (layer 17): Place and Make whole. -/
namespace Go.Proofs.YtihdbncoijhihaaGreat

open Go.RowKit

section

variable {w w' : World} {pw : Nat} {R : Rp} {S : Fs}

theorem place_any (h : WdAt w pw R S) {N : Nat} (hk : FsOk S N) (c : Cr) (dir : Int) (s : ByteArray) (hs : s.size ≤ 9223372036854775807) :
    Calls Tryz.prog 199 #[.pointer (some ⟨pw, 0, none⟩), .agg #[.int .i64 c.u, .int .i64 c.g], .int .i64 dir, .string s] w fun e w' => ((S.placeE c dir s ≠ 0 ∧ e = .returned (.tuple #[an0.v none 0 0, .int .i64 (S.placeE c dir s)])) ∨ (S.placeE c dir s = 0 ∧ ∃ d ea el ec, S.get dir = some d ∧ e = .returned (.tuple #[d.v ea el ec, .int .i64 0]) ∧ EntsAt w ea el ec d.ents)) ∧ Below w.heap.size w w' := by
  cases hg : S.get dir with
  | none =>
    refine (place_none h hk c dir s hs hg).mono ?_
    rintro e w1 ⟨rfl, hb⟩
    have : S.placeE c dir s = 5 := by unfold Fs.placeE; rw [hg]
    rw [this]
    exact ⟨.inl ⟨by decide, rfl⟩, hb⟩
  | some d =>
    refine (place_some h hk c dir s hs d hg).mono ?_
    rintro e w1 ⟨h1 | ⟨h1, ea, el, ec, h2, h3⟩, hb⟩
    · exact ⟨.inl h1, hb⟩
    · exact ⟨.inr ⟨h1, d, ea, el, ec, rfl, h2, h3⟩, hb⟩
theorem wmake_any (h : WdAt w pw R S) {N : Nat} (hk : FsOk S N) (hN : N ≤ 1000000) (a : An) (ea : Option Addr) (el ec : Nat) (he : EntsAt w ea el ec a.ents) (hs : a.data.size ≤ 9223372036854775807) :
    Calls Tryz.prog 200 #[.pointer (some ⟨pw, 0, none⟩), a.v ea el ec] w fun e w' => e = .returned (.tuple #[.int .i64 (S.make a).2.1, .int .i64 (S.make a).2.2]) ∧ ∃ R', WdAt w' pw R' (S.make a).1 ∧ Stp (R.F pw) (R'.F pw) w w' := by
  by_cases hr : S.root a.dev = 0
  · refine (wmake_none h hk.d1 a ea el ec hr).mono ?_
    rintro e w1 ⟨rfl, hb⟩
    rw [make_none hr]
    exact ⟨rfl, R, h.keep hb, Stp.of_below hb⟩
  · have hd : 1 ≤ a.dev ∧ a.dev ≤ S.ds.length := by
      by_cases hd : 1 ≤ a.dev ∧ a.dev ≤ S.ds.length
      · exact hd
      · exact absurd (root_no hd) hr
    exact wmake_mid h (k := (a.dev - 1).toNat) (by omega) a ea el ec he (by omega) hr hs hk.l0 (Int.le_trans hk.lN (by omega))
end

end Go.Proofs.YtihdbncoijhihaaGreat

/- A node comes under a name (layer 17): put. -/
namespace Go.Proofs.YtihdbncoijhihaaGreat

open Go.RowKit

section

variable {w w' : World} {pw : Nat} {R : Rp} {S : Fs}

theorem EntsAt.setA {a : Option Addr} {n c : Nat} {es : List En} (h : EntsAt w a n c es) {B : Nat} {vs : Array Value} {T : TypeId} (hb : Blk w B vs T) (hT : T ≠ 146) (i : Nat) (v : Value) : EntsAt (w.setCell ⟨B, i, none⟩ v) a n c es :=
  h.turn (fun b cur hc => by
    have hne : b ≠ B := by
      intro e
      subst e
      unfold Blk at hb
      rw [hb] at hc
      injection hc with hc
      injection hc with _ hc _
      exact hT hc
    exact ((Mod.refl (fun k => k = B) w).setCell (a := ⟨B, i, none⟩) (.inl rfl) v).block b (Array.getElem?_eq_some_iff.1 hc).1 hne) (by simp)
theorem find_has {es : List En} {s : ByteArray} (hz : ∀ x ∈ es, 1 ≤ x.no) (h : entFind es s = 0) : hasE es s = false := by
  unfold entFind at h
  unfold hasE
  split at h
  · rename_i x hx
    have := hz x (List.mem_of_find?_eq_some hx)
    omega
  · rename_i hx
    rw [hx]; rfl
theorem make_same {S : Fs} {a : An} (h : (S.make a).2.2 ≠ 0) : (S.make a).1 = S ∧ (S.make a).2.1 = 0 := by
  revert h
  unfold Fs.make
  split
  · intro _; exact ⟨rfl, rfl⟩
  · split
    · intro _; exact ⟨rfl, rfl⟩
    · simp only
      split
      · intro h; exact absurd rfl h
      · intro _; exact ⟨rfl, rfl⟩
theorem make_get {S : Fs} (hn : Nums S) (a : An) {k : Int} {d : An} (hg : S.get k = some d) : (S.make a).1.get k = some d := by
  have hk : k ≤ S.last := by
    have := hn.low d (an_mem hg)
    rw [an_no hg] at this
    exact this.2
  unfold Fs.make
  split
  · exact hg
  · split
    · exact hg
    · rename_i v hv
      simp only
      split
      · rw [an_add (S := S.setDev a.dev { v with b := v.b + blkI a.kind a.data.size, n := v.n + 1 }) ⟨hn.rise, hn.low⟩, if_neg (by show ¬ k = S.last + 1; omega)]
        exact hg
      · exact hg
theorem come_no {S : Fs} {c : Cr} {now dir : Int} {s : ByteArray} {a : An} (h : S.placeE c dir s ≠ 0) : S.come c now dir s a = (S, 0, S.placeE c dir s) := by unfold Fs.come; rw [if_pos h]
theorem come_had {S : Fs} {c : Cr} {now dir : Int} {s : ByteArray} {a d : An} (h : S.placeE c dir s = 0) (hg : S.get dir = some d) (hf : entFind d.ents s ≠ 0) : S.come c now dir s a = (S, 0, 7) := by
  unfold Fs.come; rw [if_neg (by simp [h]), hg]; simp only; rw [if_pos hf]
theorem come_full {S : Fs} {c : Cr} {now dir : Int} {s : ByteArray} {a d : An} (h : S.placeE c dir s = 0) (hg : S.get dir = some d) (hf : entFind d.ents s = 0) (hm : (S.make { a with dev := d.dev, uid := c.u, gid := c.g, mtime := now, ctime := now, links := 1 }).2.2 ≠ 0) :
    S.come c now dir s a = (S, 0, (S.make { a with dev := d.dev, uid := c.u, gid := c.g, mtime := now, ctime := now, links := 1 }).2.2) := by
  unfold Fs.come; rw [if_neg (by simp [h]), hg]; simp only; rw [if_neg (by simp [hf]), if_pos hm]
theorem come_yes {S : Fs} {c : Cr} {now dir : Int} {s : ByteArray} {a d : An} (h : S.placeE c dir s = 0) (hg : S.get dir = some d) (hf : entFind d.ents s = 0) (hm : (S.make { a with dev := d.dev, uid := c.u, gid := c.g, mtime := now, ctime := now, links := 1 }).2.2 = 0) :
    S.come c now dir s a = ((S.make { a with dev := d.dev, uid := c.u, gid := c.g, mtime := now, ctime := now, links := 1 }).1.touch now dir (entPut d.ents s (S.make { a with dev := d.dev, uid := c.u, gid := c.g, mtime := now, ctime := now, links := 1 }).2.1), (S.make { a with dev := d.dev, uid := c.u, gid := c.g, mtime := now, ctime := now, links := 1 }).2.1, 0) := by
  unfold Fs.come; rw [if_neg (by simp [h]), hg]; simp only; rw [if_neg (by simp [hf]), if_neg (by simp [hm])]
set_option maxRecDepth 100000 in
theorem Blk.setPut {w : World} {B : Nat} {x0 x1 x2 x3 x4 x5 x6 x7 x8 x9 x10 x11 v1 v4 v5 v6 v7 v8 : Value} {T : TypeId} (h : Blk w B #[x0, x1, x2, x3, x4, x5, x6, x7, x8, x9, x10, x11] T) :
    Blk ((((((w.setCell ⟨B, 1, none⟩ v1).setCell ⟨B, 4, none⟩ v4).setCell ⟨B, 5, none⟩ v5).setCell ⟨B, 6, none⟩ v6).setCell ⟨B, 7, none⟩ v7).setCell ⟨B, 8, none⟩ v8) B #[x0, v1, x2, x3, v4, v5, v6, v7, v8, x9, x10, x11] T :=
  (((((h.set 1 v1).set 4 v4).set 5 v5).set 6 v6).set 7 v7).set 8 v8
set_option maxRecDepth 100000 in
set_option maxHeartbeats 4000000 in
theorem put_any (h : WdAt w pw R S) {N : Nat} (hk : FsOk S N) (hN : N ≤ 999999) (c : Cr) (now dir : Int) (s : ByteArray) (hs : s.size ≤ 9223372036854775807) (a : An) (ha : a.ents = []) (had : a.data.size ≤ 9223372036854775807) :
    Calls Tryz.prog 140 #[.pointer (some ⟨pw, 0, none⟩), .agg #[.int .i64 c.u, .int .i64 c.g], .int .i64 now, .int .i64 dir, .string s, a.v none 0 0] w fun e w' =>
      e = .returned (.tuple #[.int .i64 (S.come c now dir s a).2.1, .int .i64 (S.come c now dir s a).2.2]) ∧ ∃ R', WdAt w' pw R' (S.come c now dir s a).1 ∧ Stp (R.F pw) (R'.F pw) w w' := by
  have HP := Lib.hid (fun w1 (hb1 : Below w.heap.size w w1) => place_any (h.keep hb1) hk c dir s hs)
  unfold An.v
  have HW := Lib.hid h
  clear h
  go_enter Tryz.func140, Tryz.ntmps140
  go_wp2_with fail
  refine (HP.out _ (balloc (balloc (Below.refl _ _) _) _)).mono ?_
  rintro e w1 ⟨⟨h0, rfl⟩ | ⟨h0, d, ea, el, ec, hg, rfl, he⟩, hb1⟩
  · have hbX := bnext (balloc (balloc (Below.refl w.heap.size w) _) _) hb1
    have HB := Lib.hid hbX
    have HC := Lib.hid (come_no (now := now) (a := a) h0)
    have hz : (S.placeE c dir s == 0) = false := by simpa using h0
    generalize S.placeE c dir s = pe at HC hz ⊢
    unfold An.v an0
    clear h0 hb1 hbX
    go_wp2_with fail
    go_ret2
    rw [HC.out]
    exact ⟨rfl, R, HW.out.keep (balloc HB.out _), Stp.of_below (balloc HB.out _)⟩
  · have hbX := bnext (balloc (balloc (Below.refl w.heap.size w) _) _) hb1
    have hCr : Blk w1 w.heap.size #[.int .i64 c.u, .int .i64 c.g] 67 := ((Blk.new w #[.int .i64 c.u, .int .i64 c.g] 67).old (.cells #[.int .i64 a.no, .int .i64 a.dev, .int .i64 a.kind, .int .i64 a.mode, .int .i64 a.uid, .int .i64 a.gid, .int .i64 a.mtime, .int .i64 a.ctime, .int .i64 a.links, .int .i64 a.up, .string a.data, .slice none 0 0] 49)).keep hb1
    have hAr : Blk w1 (w.heap.size + 1) #[.int .i64 a.no, .int .i64 a.dev, .int .i64 a.kind, .int .i64 a.mode, .int .i64 a.uid, .int .i64 a.gid, .int .i64 a.mtime, .int .i64 a.ctime, .int .i64 a.links, .int .i64 a.up, .string a.data, .slice none 0 0] 49 := by
      have := ((Blk.new (w.alloc (.cells #[.int .i64 c.u, .int .i64 c.g] 67)) #[.int .i64 a.no, .int .i64 a.dev, .int .i64 a.kind, .int .i64 a.mode, .int .i64 a.uid, .int .i64 a.gid, .int .i64 a.mtime, .int .i64 a.ctime, .int .i64 a.links, .int .i64 a.up, .string a.data, .slice none 0 0] 49).keep hb1)
      rwa [World.size_alloc] at this
    have hCX := hCr.old (.cells #[.int .i64 d.no, .int .i64 d.dev, .int .i64 d.kind, .int .i64 d.mode, .int .i64 d.uid, .int .i64 d.gid, .int .i64 d.mtime, .int .i64 d.ctime, .int .i64 d.links, .int .i64 d.up, .string d.data, .slice ea el ec] 49)
    have hAX := hAr.old (.cells #[.int .i64 d.no, .int .i64 d.dev, .int .i64 d.kind, .int .i64 d.mode, .int .i64 d.uid, .int .i64 d.gid, .int .i64 d.mtime, .int .i64 d.ctime, .int .i64 d.links, .int .i64 d.up, .string d.data, .slice ea el ec] 49)
    have hDX := Blk.new w1 #[.int .i64 d.no, .int .i64 d.dev, .int .i64 d.kind, .int .i64 d.mode, .int .i64 d.uid, .int .i64 d.gid, .int .i64 d.mtime, .int .i64 d.ctime, .int .i64 d.links, .int .i64 d.up, .string d.data, .slice ea el ec] 49
    have hbY := balloc hbX (.cells #[.int .i64 d.no, .int .i64 d.dev, .int .i64 d.kind, .int .i64 d.mode, .int .i64 d.uid, .int .i64 d.gid, .int .i64 d.mtime, .int .i64 d.ctime, .int .i64 d.links, .int .i64 d.up, .string d.data, .slice ea el ec] 49)
    have hsz : w.heap.size + 2 ≤ w1.heap.size := by have := hb1.size; simp at this; omega
    have heX := (he.keep hb1).keep ((Below.refl _ w1).alloc (Nat.le_refl _) (.cells #[.int .i64 d.no, .int .i64 d.dev, .int .i64 d.kind, .int .i64 d.mode, .int .i64 d.uid, .int .i64 d.gid, .int .i64 d.mtime, .int .i64 d.ctime, .int .i64 d.links, .int .i64 d.up, .string d.data, .slice ea el ec] 49))
    obtain ⟨hdo, -, -, -⟩ := hk.get hg
    have hel := he.len
    unfold An.v
    clear hCr he hAr hb1 hbX
    go_wp2_with fail
    generalize w1.alloc (.cells #[.int .i64 d.no, .int .i64 d.dev, .int .i64 d.kind, .int .i64 d.mode, .int .i64 d.uid, .int .i64 d.gid, .int .i64 d.mtime, .int .i64 d.ctime, .int .i64 d.links, .int .i64 d.up, .string d.data, .slice ea el ec] 49) = X at hCX hAX hDX hbY heX ⊢
    have HX := Lib.hid hbY
    have HC := Lib.hid hCX
    have HA := Lib.hid hAX
    have HD := Lib.hid hDX
    have HE := Lib.hid heX
    have hfew : el ≤ 1000000 := by rw [← hel]; exact Nat.le_trans hdo.few (by omega)
    have HF := Lib.hid (efind_any d.ents ea el ec s X heX hdo.rise hfew)
    clear hbY hCX hAX hDX heX hel
    refine HF.out.mono ?_
    rintro e w2 ⟨rfl, hb2⟩
    have hX2 := bnext HX.out hb2
    have hC2 := HC.out.keep hb2
    have hA2 := HA.out.keep hb2
    have hD2 := HD.out.keep hb2
    clear HX HC HA HD HF
    by_cases hf : entFind d.ents s = 0
    · have hfz : (entFind d.ents s == 0) = true := by simpa using hf
      have mixed : Tryz.prog.follows .mixedOrders = true := by kernel_rfl
      have HZ1 := Lib.hid (come_full (a := a) (now := now) h0 hg hf)
      have HZ2 := Lib.hid (come_yes (a := a) (now := now) h0 hg hf)
      generalize entFind d.ents s = f at hfz
      go_wp2_with fail
      obtain ⟨cc, cf, cz⟩ := hC2.facts
      obtain ⟨dc, df, dz⟩ := hD2.facts
      have hA3 := (hA2.setPut (v1 := .int .i64 d.dev) (v4 := .int .i64 c.u) (v5 := .int .i64 c.g) (v6 := .int .i64 now) (v7 := .int .i64 now) (v8 := .int .i64 1)).drew
      have hB3 : Below w.heap.size w ((((((w2.setCell ⟨w.heap.size + 1, 1, none⟩ (.int .i64 d.dev)).setCell ⟨w.heap.size + 1, 4, none⟩ (.int .i64 c.u)).setCell ⟨w.heap.size + 1, 5, none⟩ (.int .i64 c.g)).setCell ⟨w.heap.size + 1, 6, none⟩ (.int .i64 now)).setCell ⟨w.heap.size + 1, 7, none⟩ (.int .i64 now)).setCell ⟨w.heap.size + 1, 8, none⟩ (.int .i64 1)).drew :=
        ((((((hX2.setCell (Nat.le_succ _) _).setCell (Nat.le_succ _) _).setCell (Nat.le_succ _) _).setCell (Nat.le_succ _) _).setCell (Nat.le_succ _) _).setCell (Nat.le_succ _) _).drew
      have hne : w.heap.size + 1 ≠ w1.heap.size := by omega
      have hD3 : Blk ((((((w2.setCell ⟨w.heap.size + 1, 1, none⟩ (.int .i64 d.dev)).setCell ⟨w.heap.size + 1, 4, none⟩ (.int .i64 c.u)).setCell ⟨w.heap.size + 1, 5, none⟩ (.int .i64 c.g)).setCell ⟨w.heap.size + 1, 6, none⟩ (.int .i64 now)).setCell ⟨w.heap.size + 1, 7, none⟩ (.int .i64 now)).setCell ⟨w.heap.size + 1, 8, none⟩ (.int .i64 1)).drew w1.heap.size _ _ :=
        ((((((hD2.setOther ⟨w.heap.size + 1, 1, none⟩ (.int .i64 d.dev) hne).setOther ⟨w.heap.size + 1, 4, none⟩ (.int .i64 c.u) hne).setOther ⟨w.heap.size + 1, 5, none⟩ (.int .i64 c.g) hne).setOther ⟨w.heap.size + 1, 6, none⟩ (.int .i64 now) hne).setOther ⟨w.heap.size + 1, 7, none⟩ (.int .i64 now) hne).setOther ⟨w.heap.size + 1, 8, none⟩ (.int .i64 1) hne).drew
      have hT : 49 ≠ 146 := by decide
      have hE3 : EntsAt ((((((w2.setCell ⟨w.heap.size + 1, 1, none⟩ (.int .i64 d.dev)).setCell ⟨w.heap.size + 1, 4, none⟩ (.int .i64 c.u)).setCell ⟨w.heap.size + 1, 5, none⟩ (.int .i64 c.g)).setCell ⟨w.heap.size + 1, 6, none⟩ (.int .i64 now)).setCell ⟨w.heap.size + 1, 7, none⟩ (.int .i64 now)).setCell ⟨w.heap.size + 1, 8, none⟩ (.int .i64 1)).drew ea el ec d.ents :=
        (((((((HE.out.keep hb2).setA hA2 hT 1 (.int .i64 d.dev)).setA (hA2.set 1 _) hT 4 (.int .i64 c.u)).setA ((hA2.set 1 _).set 4 _) hT 5 (.int .i64 c.g)).setA (((hA2.set 1 _).set 4 _).set 5 _) hT 6 (.int .i64 now)).setA ((((hA2.set 1 _).set 4 _).set 5 _).set 6 _) hT 7 (.int .i64 now)).setA (((((hA2.set 1 _).set 4 _).set 5 _).set 6 _).set 7 _) hT 8 (.int .i64 1)).keep (Below.refl _ _).drew
      have HE3 := Lib.hid hE3
      have HA3 := Lib.hid hA3
      have HB3 := Lib.hid hB3
      have HD3 := Lib.hid hD3
      obtain ⟨ac, af, az⟩ := hA2.facts
      clear hA3 hB3 hD3 hE3 hT
      go_region
      have hA4 := HA3.out
      have hB4 := HB3.out
      have hD4 := HD3.out
      have hE4 := HE3.out
      clear HE3 HA3 HB3 HD3 hX2 hA2 hC2 hD2 ac af az cc cf cz dc df dz
      generalize ((((((w2.setCell ⟨w.heap.size + 1, 1, none⟩ (.int .i64 d.dev)).setCell ⟨w.heap.size + 1, 4, none⟩ (.int .i64 c.u)).setCell ⟨w.heap.size + 1, 5, none⟩ (.int .i64 c.g)).setCell ⟨w.heap.size + 1, 6, none⟩ (.int .i64 now)).setCell ⟨w.heap.size + 1, 7, none⟩ (.int .i64 now)).setCell ⟨w.heap.size + 1, 8, none⟩ (.int .i64 1)).drew = Y at hA4 hB4 hD4 hE4 ⊢
      have HA := Lib.hid hA4
      have HB := Lib.hid hB4
      have HD := Lib.hid hD4
      have HE5 := Lib.hid hE4
      obtain ⟨q0, q1, q2, q3, q4, q5, q6, q7, q8, q9, q10, q11⟩ := hA4.cells12
      clear hA4 hB4 hD4 hE4
      go_wp2_with fail
      have HMk := wmake_any (HW.out.keep HB.out) hk (by omega) { a with dev := d.dev, uid := c.u, gid := c.g, mtime := now, ctime := now, links := 1 } none 0 0 (by rw [show ({ a with dev := d.dev, uid := c.u, gid := c.g, mtime := now, ctime := now, links := 1 } : An).ents = a.ents from rfl, ha]; exact EntsAt.nil _) had
      unfold An.v at HMk
      refine HMk.mono ?_
      clear HMk
      rintro e w4 ⟨rfl, R4, hR4, hS4⟩
      have hst : Stp (R.F pw) (R4.F pw) w w4 := (Stp.of_below HB.out).trans hS4
      by_cases hm : (S.make { a with dev := d.dev, uid := c.u, gid := c.g, mtime := now, ctime := now, links := 1 }).2.2 = 0
      · have hmz : ((S.make { a with dev := d.dev, uid := c.u, gid := c.g, mtime := now, ctime := now, links := 1 }).2.2 == 0) = true := by simpa using hm
        have HZ := Lib.hid (HZ2.out hm)
        have hd4 := HD.out.wd (HW.out.keep HB.out) hS4 rfl
        have he4 := HE5.out.wd (HW.out.keep HB.out) hS4
        have hg4 := make_get hk.nums ({ a with dev := d.dev, uid := c.u, gid := c.g, mtime := now, ctime := now, links := 1 }) hg
        have HPut := Lib.hid (eput_new d.ents ea el ec s (S.make { a with dev := d.dev, uid := c.u, gid := c.g, mtime := now, ctime := now, links := 1 }).2.1 w4 he4 hdo.rise hfew (find_has hdo.nz hf))
        have HTo := Lib.hid (fun l a n c w5 (hb5 : Below w4.heap.size w4 w5) (hl : EntsAt w5 a n c l) => touch_any (hR4.keep hb5) dir now d hg4 l a n c hl)
        have HST := Lib.hid hst
        obtain ⟨dc4, df4, dz4⟩ := hd4.facts
        generalize S.make { a with dev := d.dev, uid := c.u, gid := c.g, mtime := now, ctime := now, links := 1 } = Mk at HZ hmz HPut HTo HST ⊢
        clear hm hd4 he4 hg4 hR4 hst hS4 HZ1 HZ2 q0 q1 q2 q3 q4 q5 q6 q7 q8 q9 q10 q11
        go_wp2_with fail
        refine HPut.out.mono ?_
        rintro e w5 ⟨⟨a', n', c', rfl, he5⟩, hb5⟩
        have HT := Lib.hid (HTo.out _ _ _ _ w5 hb5 he5)
        have HB5 := Lib.hid hb5
        clear he5 hb5 HTo HPut
        go_wp2_with fail
        refine HT.out.mono ?_
        rintro e w6 ⟨rfl, R6, hR6, hS6⟩
        have HR6 := Lib.hid (And.intro hR6 hS6)
        clear hR6 hS6 HT
        go_wp2_with fail
        go_ret2
        rw [HZ.out]
        exact ⟨rfl, R6, HR6.out.1, (HST.out.trans (Stp.of_below HB5.out)).trans HR6.out.2⟩
      · have HZ := Lib.hid (HZ1.out hm)
        have HR4 := Lib.hid hR4
        have HST := Lib.hid hst
        have hmz : ((S.make { a with dev := d.dev, uid := c.u, gid := c.g, mtime := now, ctime := now, links := 1 }).2.2 == 0) = false := by simpa using hm
        obtain ⟨hsm, hs0⟩ := make_same hm
        rw [hsm] at HR4
        rw [hs0]
        generalize (S.make { a with dev := d.dev, uid := c.u, gid := c.g, mtime := now, ctime := now, links := 1 }).2.2 = me at HZ hmz ⊢
        clear hm hsm hs0 hR4 hst hS4
        go_wp2_with fail
        go_ret2
        rw [HZ.out]
        exact ⟨rfl, R4, HR4.out, HST.out⟩
    · have hfz : (entFind d.ents s == 0) = false := by simpa using hf
      have HZ := Lib.hid (come_had (a := a) (now := now) h0 hg hf)
      generalize entFind d.ents s = f at hfz
      have HB := Lib.hid hX2
      clear hX2 hC2 hA2 hD2
      go_wp2_with fail
      go_ret2
      rw [HZ.out]
      exact ⟨rfl, R, HW.out.keep HB.out, Stp.of_below HB.out⟩
end

end Go.Proofs.YtihdbncoijhihaaGreat
