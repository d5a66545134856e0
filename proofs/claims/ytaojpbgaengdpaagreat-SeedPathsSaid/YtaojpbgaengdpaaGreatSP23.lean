/- Texts of the proof, part 23. -/
import Derived.Test.YtaojpbgaengdpaaGreatSP22
import Derived.Test.YtaojpbgaengdpaaGreatSP20
import Derived.Test.YtaojpbgaengdpaaGreatSP18
import Derived.Test.YtaojpbgaengdpaaGreatSP16
set_option linter.unusedVariables false
set_option linter.unusedSimpArgs false
/- ents.Put where the name is not there. -/
namespace Go.Proofs.YtaojpbgaengdpaaGreat

open Go.RowKit

theorem einsert_any (es : List En) (a : Option Addr) (c i base vb : Nat) (x : En) (w : World) (h : OE w base (.slice a es.length c) es) (hb : Blk w vb #[.string x.name, .int .i64 x.no] 178) (hvb : ∀ g, a = some ⟨g, 0, none⟩ → vb ≠ g) (hbase : base ≤ w.heap.size) (hn : es.length ≤ 1000000) (hil : i ≤ es.length) :
    Calls Tryz.prog 148 #[.slice a es.length c, .int .i64 i, .slice (some ⟨vb, 0, none⟩) 1 1] w fun e w' => (∃ a' c', e = .returned (.slice a' (es.length + 1) c') ∧ OE w' base (.slice a' (es.length + 1) c') (es.take i ++ x :: es.drop i)) ∧ Mod (fun k => (Value.slice a es.length c).ownBlock = some k) w w' := by
  by_cases hi : i < es.length
  · obtain ⟨b', c', hv, -, -, hf⟩ := own_form h
    injection hv with e1 e2 e3
    subst e1 e3
    rcases hf with ⟨-, h0, -⟩ | ⟨g, rfl, -, -⟩
    · omega
    · by_cases hr : es.length + 1 ≤ c
      · refine (einsert_room es g c i base vb x w h hb (hvb g rfl) hn hi hr).mono ?_
        rintro e w' ⟨h1, h2⟩
        exact ⟨h1, h2.mono (fun k hk => by rw [hk]; rfl)⟩
      · refine (einsert_grow es g c i base vb x w h hb hbase hn hi (by omega)).mono ?_
        rintro e w' ⟨h1, h2⟩
        exact ⟨h1, Mod.of_below h2⟩
  · obtain rfl : i = es.length := by omega
    rw [List.take_length, List.drop_length]
    exact einsert_end es a c base vb x w h hb hbase hn
theorem put_new {l : List En} (h : Rise l) (s : ByteArray) (no : Int) (hno : hasE l s = false) : entPut l s no = l.take (entAt l s) ++ ⟨s, no⟩ :: l.drop (entAt l s) := by
  rw [put_at h, if_neg, Nat.add_zero]
  rintro ⟨hk, he⟩
  unfold hasE at hno
  rw [find_at h, dif_pos hk, if_pos he] at hno
  cases hno
set_option maxRecDepth 100000 in
set_option maxHeartbeats 1000000 in
theorem eput_new (es : List En) (a : Option Addr) (n c : Nat) (s : ByteArray) (no : Int) (w : World) (he : EntsAt w a n c es) (hr : Rise es) (hn : n ≤ 1000000) (hno : hasE es s = false) :
    Calls Tryz.prog 132 #[.slice a n c, .string s, .int .i64 no] w fun e w' => (∃ a' n' c', e = .returned (.slice a' n' c') ∧ EntsAt w' a' n' c' (entPut es s no)) ∧ Below w.heap.size w w' := by
  have hl := he.len
  have HS := Lib.hid (search_any es a n c s w he hr hn)
  rw [hno] at HS
  have HP := Lib.hid (put_new hr s no hno)
  have hat := entAt_le es s
  generalize entAt es s = A at HS HP hat
  have HE := Lib.hid he
  clear he hno
  go_enter Tryz.func132, Tryz.ntmps132
  go_wp2_with fail
  refine HS.out.mono ?_
  rintro e w1 ⟨rfl, hb1⟩
  have HE1 := Lib.hid (HE.out.keep hb1)
  go_wp2_with fail
  refine (eclone_any es a n c w1 HE1.out hn).mono ?_
  rintro e w2 ⟨⟨a2, c2, rfl, hO⟩, hb2⟩
  have HO := Lib.hid hO
  have HB2 := Lib.hid (bnext hb1 hb2)
  clear hO
  go_wp2_with fail
  have hO2 := HO.out.keep ((Below.refl _ w2).alloc (Nat.le_refl _) (.cells #[.string s, .int .i64 no] 178))
  subst hl
  have hblk := Blk.new w2 #[.string s, .int .i64 no] 178
  refine (einsert_any es a2 c2 A w1.heap.size w2.heap.size ⟨s, no⟩ _ hO2 hblk (fun g hg => ?_) (by have := hb2.size; simp; omega) hn hat).mono ?_
  · subst hg
    rcases HO.out.2 with ⟨h1, -⟩ | ⟨g', cap', cur, h1, hb1, hg, -⟩
    · cases h1
    · injection h1 with e1
      injection e1 with e1
      injection e1 with e1
      subst e1
      have := Blk.lt (show Blk w2 g cur 178 from hg)
      omega
  · rintro e w3 ⟨⟨a3, c3, rfl, hO3⟩, hM3⟩
    have HR := Lib.hid (show EntsAt w3 a3 (es.length + 1) c3 (entPut es s no) by
      have hlen : (es.take A ++ ({ name := s, no := no } : En) :: es.drop A).length = es.length + 1 := by
        rw [List.length_append, List.length_take, List.length_cons, List.length_drop]; omega
      rw [HP.out]
      have h3 := hO3
      rw [← hlen] at h3 ⊢
      exact h3.at)
    have HB3 := Lib.hid (show Below w.heap.size w w3 from (balloc HB2.out _).trans (hM3.below (fun k hk => by
      rcases HO.out.2 with ⟨h1, -⟩ | ⟨g', cap', cur, h1, hb3, hg, -⟩
      · injection h1 with e1; rw [e1] at hk; cases hk
      · injection h1 with e1
        rw [e1] at hk
        simp only [Value.ownBlock, Option.some.injEq] at hk
        have := hb1.size
        omega) (by have := HB2.out.size; simp; omega)))
    clear hO3 hM3
    go_wp2_with fail
    go_ret
    exact ⟨⟨_, _, _, rfl, HR.out⟩, HB3.out⟩
end Go.Proofs.YtaojpbgaengdpaaGreat

/- A node comes under a name (layer 17): Place and Make whole. -/
namespace Go.Proofs.YtaojpbgaengdpaaGreat

open Go.RowKit

section

variable {w w' : World} {pw : Nat} {R : Rp} {S : Fs}

theorem place_any (h : WdAt w pw R S) {N : Nat} (hk : FsOk S N) (c : Cr) (dir : Int) (s : ByteArray) (hs : s.size ≤ 9223372036854775807) :
    Calls Tryz.prog 130 #[.pointer (some ⟨pw, 0, none⟩), .agg #[.int .i64 c.u, .int .i64 c.g], .int .i64 dir, .string s] w fun e w' => ((S.placeE c dir s ≠ 0 ∧ e = .returned (.tuple #[an0.v none 0 0, .int .i64 (S.placeE c dir s)])) ∨ (S.placeE c dir s = 0 ∧ ∃ d ea el ec, S.get dir = some d ∧ e = .returned (.tuple #[d.v ea el ec, .int .i64 0]) ∧ EntsAt w ea el ec d.ents)) ∧ Below w.heap.size w w' := by
  cases hg : S.get dir with
  | none =>
    refine (place_none h hk c dir s hs hg).mono ?_
    rintro e w1 ⟨rfl, hb⟩
    have : S.placeE c dir s = 5 := by unfold Fs.placeE; rw [hg]
    rw [this]
    exact ⟨.inl ⟨by decide, rfl⟩, hb⟩
  | some d =>
    refine (place_some h hk c dir s hs d hg).mono ?_
    rintro e w1 ⟨h1 | ⟨h1, ea, el, ec, h2, h3⟩, hb⟩
    · exact ⟨.inl h1, hb⟩
    · exact ⟨.inr ⟨h1, d, ea, el, ec, rfl, h2, h3⟩, hb⟩
theorem wmake_any (h : WdAt w pw R S) {N : Nat} (hk : FsOk S N) (hN : N ≤ 1000000) (a : An) (ea : Option Addr) (el ec : Nat) (he : EntsAt w ea el ec a.ents) (hs : a.data.size ≤ 9223372036854775807) :
    Calls Tryz.prog 145 #[.pointer (some ⟨pw, 0, none⟩), a.v ea el ec] w fun e w' => e = .returned (.tuple #[.int .i64 (S.make a).2.1, .int .i64 (S.make a).2.2]) ∧ ∃ R', WdAt w' pw R' (S.make a).1 ∧ Stp (R.F pw) (R'.F pw) w w' := by
  by_cases hr : S.root a.dev = 0
  · refine (wmake_none h hk.d1 a ea el ec hr).mono ?_
    rintro e w1 ⟨rfl, hb⟩
    rw [make_none hr]
    exact ⟨rfl, R, h.keep hb, Stp.of_below hb⟩
  · have hd : 1 ≤ a.dev ∧ a.dev ≤ S.ds.length := by
      by_cases hd : 1 ≤ a.dev ∧ a.dev ≤ S.ds.length
      · exact hd
      · exact absurd (root_no hd) hr
    exact wmake_mid h (k := (a.dev - 1).toNat) (by omega) a ea el ec he (by omega) hr hs hk.l0 (Int.le_trans hk.lN (by omega))
end

end Go.Proofs.YtaojpbgaengdpaaGreat
