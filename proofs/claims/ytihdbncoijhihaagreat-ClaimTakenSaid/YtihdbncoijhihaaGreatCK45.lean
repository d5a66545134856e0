/- Texts of the proof, part 45. -/
import Derived.Test.YtihdbncoijhihaaGreatCK44
set_option linter.unusedVariables false
set_option linter.unusedSimpArgs false
/- Names in a can (layer 32): claim.Free. -/
namespace Go.Proofs.YtihdbncoijhihaaGreat

open Go.RowKit Go.Shelf

attribute [local go_sem] Oper.semAt_some

/-- a number, one cell. -/
def noQ (cs : List Value) (d : Int) : Prop := cs = [.int .i64 d]
theorem no_cell {w : World} {a : Option Addr} {n c : Nat} {l : List Int} (h : SliceAt w 1 noQ a n c l) (k : Nat) (hk : k < l.length) : ∃ b off, a = some ⟨b, off, none⟩ ∧ b < w.heap.size ∧ w.cell? ⟨b, off + k, none⟩ = some (.int .i64 l[k]) := by
  obtain ⟨hl, hn, -, h0 | ⟨b, off, he, hbl, hel⟩⟩ := h
  · omega
  · obtain ⟨cs, e1, e2, e3⟩ := hel k hk
    unfold noQ at e2
    subst e2
    have c0 := e3 0 (by show 0 < 1; omega)
    exact ⟨b, off, he, hbl, by simpa using c0⟩
theorem Below.turnV {w A B : World} {N : Nat} (h : Below w.heap.size w A) (ht : Turn NoT N offTree A B) (hN : w.heap.size ≤ N) : Below w.heap.size w B :=
  ⟨ht.os.trans h.os, ht.tape.trans h.tape, ht.output.trans h.output, Nat.le_trans h.size ht.size, fun k hk => by
    have hlt : k < A.heap.size := Nat.lt_of_lt_of_le hk h.size
    have hA : A.heap[k]? = some A.heap[k] := Array.getElem?_eq_getElem hlt
    rw [ht.block k _ hA (fun h => h) (fun hB => by omega), ← hA]
    exact h.block k hk⟩
/-- what claim.Free holds between its steps. -/
structure FrI (w : World) (pf : Nat) (c : Cr) (a : Option Addr) (n cap : Nat) (W : World) : Prop where
  b : Below w.heap.size w W
  f : Blk W w.heap.size #[.pointer (some ⟨pf, 0, none⟩)] 33
  c : Blk W (w.heap.size + 1) #[.int .i64 c.u, .int .i64 c.g] 67
  d : Blk W (w.heap.size + 1 + 1) #[.slice a n cap] 78
  o : Blk W (w.heap.size + 1 + 1 + 1) #[.string ByteArray.empty] 9
  e : Blk W (w.heap.size + 1 + 1 + 1 + 1) #[.int .i64 0] 39
theorem FrI.keep {w A B : World} {pf : Nat} {c : Cr} {a : Option Addr} {n cap : Nat} (h : FrI w pf c a n cap A) (hb : Below A.heap.size A B) : FrI w pf c a n cap B :=
  ⟨bnext h.b hb, h.f.keep hb, h.c.keep hb, h.d.keep hb, h.o.keep hb, h.e.keep hb⟩
theorem FrI.turn {w A B : World} {N pf : Nat} {c : Cr} {a : Option Addr} {n cap : Nat} (h : FrI w pf c a n cap A) (ht : Turn NoT N offTree A B) (hN : w.heap.size ≤ N) : FrI w pf c a n cap B :=
  ⟨Below.turnV h.b ht hN, ht.blkV h.f, ht.blkV h.c, ht.blkV h.d, ht.blkV h.o, ht.blkV h.e⟩
theorem cfree_leave {N : Nat} {a : Act} {W : World} {D p10 p11 : Nat} {s : ByteArray} {e : Int} {R : Ending → World → Prop}
    (hK : W.heap[D]? = some (.deferred (some []))) (b1 : Blk W p10 #[.string s] 9) (b2 : Blk W p11 #[.int .i64 e] 39)
    (h10 : a.tmps[8]? = some (.pointer (some ⟨p10, 0, none⟩))) (h11 : a.tmps[9]? = some (.pointer (some ⟨p11, 0, none⟩))) (hd : a.defers = [{ target := .collected D, args := #[] }])
    (hR : R (.returned (.tuple #[.string s, .int .i64 e])) (W.putObj D (.deferred none))) :
    Exit.noGoto (bodyPostM Fence.wide N Tryz.prog Tryz.f23 R) .ret a W := by
  obtain ⟨tmps, defers⟩ := a
  subst hd
  have e1 := (b1.put hK rfl (.deferred none)).cell
  have e2 := (b2.put hK rfl (.deferred none)).cell
  show LeavesInM Fence.wide N Tryz.prog Tryz.f23 _ _ _ _ W
  refine ⟨by simp, .inl ⟨_, _, rfl, run_takeDeferred hK, ?_⟩⟩
  refine ⟨.tuple #[.string s, .int .i64 e], ?_, hR⟩
  simp at h10 h11
  simp [results, Tryz.results23, go_sem, e1, e2, h10, h11]
section

variable {w w' : World} {pf pw : Nat} {R : Rp} {pv : Value} {Y : Sy}

set_option maxRecDepth 100000 in
set_option maxHeartbeats 16000000 in
theorem cfree_any (h : SyAt w pf pw R pv Y) {N : Nat} (hk : SyOk Y N) (hN : N ≤ 900000) (cr : Cr) (base : ByteArray) (hs : base.size ≤ 9223372036854775807) (a : Option Addr) (m cap : Nat) (ds : List Int) (hz : SliceAt w 1 noQ a m cap ds) :
    Calls Tryz.prog 23 #[.pointer (some ⟨pf, 0, none⟩), .agg #[.int .i64 cr.u, .int .i64 cr.g], .string base, .slice a m cap] w fun e w' =>
      e = .returned (.tuple #[.string (Y.fs.freeL Y.dead cr ds (namesL base)).1, .int .i64 (Y.fs.freeL Y.dead cr ds (namesL base)).2]) ∧ Below w.heap.size w w' := by
  obtain ⟨b0, b1, b2, b3, b4, b5, hbX⟩ := boxes6 w #[.pointer (some ⟨pf, 0, none⟩)] #[.int .i64 cr.u, .int .i64 cr.g] #[.slice a m cap] #[.string ⟨#[]⟩] #[.int .i64 0] #[.string base] 33 67 78 9 39 9
  have HLk := Lib.hid (fun w1 (hb1 : Below w.heap.size w w1) d n => slook_any (h.keep hb1) hk.fine.ok (by omega) cr d n)
  have HZ := Lib.hid (fun w1 (hb1 : Below w.heap.size w w1) => hz.keep hb1)
  have hml : ds.length = m := hz.1
  have hm63 : m ≤ 9223372036854775807 := by obtain ⟨-, h2, h3, -⟩ := hz; omega
  have HNa := Lib.hid (fun w => names_any base w)
  obtain ⟨S, hS⟩ : ∃ S, Y.fs = S := ⟨_, rfl⟩
  obtain ⟨dd, hdd⟩ : ∃ d, Y.dead = d := ⟨_, rfl⟩
  rw [hS, hdd] at HLk ⊢
  obtain ⟨rd, hrd⟩ : ∃ r, S.freeL dd cr ds (namesL base) = r := ⟨_, rfl⟩
  rw [hrd]
  have HRd := Lib.hid hrd
  have hbn := b5
  have hI3 : FrI w pf cr a m cap _ := ⟨hbX, b0, b1, b2, b3, b4⟩
  clear h hk hz hS hdd hrd b0 b1 b2 b3 b4 b5 hbX
  refine (callsIn_wide (n := 5)).1 ?_
  refine callsIn_of_wp_marks Tryz.func23 rfl trivial ?_ rfl
  simp only [Tryz.ntmps23, List.size_toArray, List.length_cons, List.length_nil, Nat.reduceAdd, Nat.reduceSub, Array.replicate_succ, Array.replicate_zero, List.push_toArray, List.append_toArray, List.nil_append, List.cons_append]
  refine wpIn_wide.2 ?_
  go_upto_region 1 with fail
  go_step3
  go_wp2_with fail
  go_step3
  go_wp2_with fail
  refine (HNa.out _).mono ?_
  rintro e w3 ⟨rfl, hw3⟩
  simp only [World.size_alloc] at hw3 ⊢
  rw [hw3] at hbn hI3
  clear hw3
  have hz3 : w.heap.size + 1 + 1 + 1 + 1 + 1 < w3.heap.size := hbn.lt
  go_wp2_with fail
  refine (wpIn_wide (n := 5)).1 ?_
  refine' wpIn_rangeV (T := fun k => k = w.heap.size + 1 + 1 + 1 + 1 + 1) rfl (by omega) (gf := 120) (lb := #[.pointer (some ⟨w.heap.size + 1 + 1 + 1 + 1 + 1, 0, none⟩)]) rfl trivial (enters_of Tryz.func120 (by kernel_rfl) rfl)
      (names_stopsV 4 (by omega) _ base hs w3 hbn) (fun k hk => by rw [hk]; exact hz3) (KT.refl _ _) (fun _ => rfl)
      (fun pre W => rd = S.freeL dd cr ds ((namesL base).drop pre.length) ∧ FrI w pf cr a m cap W ∧ Blk W (w.heap.size + 1 + 1 + 1 + 1 + 1) #[.string base] 9)
      (fun c pre W => c = .ret ∧ ∃ s e, rd = (s, e) ∧ Below w.heap.size w W ∧ Blk W (w.heap.size + 1 + 1 + 1) #[.string s] 9 ∧ Blk W (w.heap.size + 1 + 1 + 1 + 1) #[.int .i64 e] 39)
      (fun pre A B h ht => by obtain ⟨h1, h2, h3⟩ := h; exact ⟨h1, h2.turn ht (by omega), ht.blkV h3⟩)
      (fun c pre A B h ht => by obtain ⟨h0, s, e, h1, h2, h3, h4⟩ := h; exact ⟨h0, s, e, h1, Below.turnV h2 ht (by omega), ht.blkV h3, ht.blkV h4⟩) ⟨HRd.out.symm, hI3, hbn⟩ _ ?assign ?body ?done ?stop
  case assign =>
    intro L e W K hK
    gi_wp2
    exact hK
  case body =>
    intro L pre k W hL hLW hI hv
    obtain ⟨hpre, hk1⟩ := hv
    obtain ⟨hnm, hI, hBn⟩ := hI
    have HBk := Lib.hid hBn
    have hpl : pre.length = k := by rw [hpre, List.length_range]
    have hnx2 : (pre ++ [k]).length = k + 1 := by rw [List.length_append, List.length_singleton, hpl]
    rw [hpl, names_at base hk1] at hnm
    generalize nthS base ((k : Nat) + 1) = n at hnm ⊢
    have HNm2 := Lib.hid hnm
    have HI := Lib.hid hI
    obtain ⟨dc, df, dz⟩ := hI.d.facts
    clear hI hnm hpre hpl hBn
    gi_wp2
    gi_loopw [20] (fun t20 wr => ∃ j : Nat, j ≤ m ∧ t20 = .int .i64 j ∧ S.takenF dd cr n ds = S.takenF dd cr n (ds.drop j) ∧ Below W.heap.size W wr) (fun t20 _ => m - (intOf t20).toNat)
    case atStart => exact ⟨0, by omega, rfl, rfl, Below.refl _ _⟩
    case round =>
      obtain ⟨j, hj, rfl, htk, hb⟩ := hrel
      have hIr := HI.out.keep hb
      have HIr := Lib.hid hIr
      have HB := Lib.hid hb
      have hzr := HZ.out _ hIr.b
      obtain ⟨fc, ff, fz⟩ := hIr.f.facts
      obtain ⟨cc, cf, cz⟩ := hIr.c.facts
      obtain ⟨oc, of, oz⟩ := hIr.o.facts
      obtain ⟨ec, ef, ez⟩ := hIr.e.facts
      by_cases hlt : j < m
      · obtain ⟨ab, ao, rfl, habl, hac⟩ := no_cell hzr j (by omega)
        have HTk0 := Lib.hid (show S.takenF dd cr n ds = S.takenF dd cr n ((ds[j]'(by omega)) :: ds.drop (j + 1)) by rw [htk, List.drop_eq_getElem_cons (by omega)])
        generalize ds[j]'(by omega) = d at hac HTk0
        have HTk := Lib.hid (show S.takenF dd cr n ds = if (S.lookF dd cr d n).2 = 0 then (true, 0) else if (S.lookF dd cr d n).2 ≠ 5 then (false, (S.lookF dd cr d n).2) else S.takenF dd cr n (ds.drop (j + 1)) by rw [HTk0.out]; rfl)
        have HLd := Lib.hid (HLk.out _ hIr.b d n)
        generalize S.lookF dd cr d n = r at HTk HLd
        obtain ⟨no, e1⟩ := r
        dsimp only at HLd HTk
        clear hIr htk hb hzr
        gi_wp2
        refine ⟨trivial, callsIn_wide.2 (HLd.out.mono ?_)⟩
        rintro e w5 ⟨rfl, hb5⟩
        have hI5 := HIr.out.keep hb5
        have HB5 := Lib.hid (HB.out.trans (hb5.mono HB.out.size))
        have HI5 := Lib.hid hI5
        clear fc ff fz cc cf cz hac oc of oz ec ef ez
        obtain ⟨oc, of, oz⟩ := hI5.o.facts
        obtain ⟨ec, ef, ez⟩ := hI5.e.facts
        clear hI5 hb5
        by_cases h0 : e1 = 0
        · subst h0
          have HT2 := Lib.hid (HTk.out.trans (if_pos rfl))
          clear oc of oz ec ef ez
          gi_wp2
          exact ⟨KeepsV.of_below HB5.out, KT.of_below HB5.out (fun k hk => by rw [hk]; exact HBk.out.lt), by
            rw [hnx2, HNm2.out, Fs.freeL, if_neg (by rw [HT2.out]; decide), if_pos (by rw [HT2.out])], HI5.out, HBk.out.keep HB5.out⟩
        · by_cases h5 : e1 = 5
          · subst h5
            have HT2 := Lib.hid (HTk.out.trans ((if_neg (by decide)).trans (if_neg (by decide))))
            gi_wp2
            go_roundw
            case measure => simp [intOf]; omega
            case rel => exact ⟨j + 1, by omega, by go_num, HT2.out, HB5.out⟩
          · have h0b : (e1 == 0) = false := by simpa using h0
            have h5b : (e1 == 5) = false := by simpa using h5
            have HT2 := Lib.hid (HTk.out.trans ((if_neg h0).trans (if_pos h5)))
            gi_wp2
            exact ⟨(KeepsV.of_below HB5.out).trans ((KeepsV.setCell _ _ _ _).trans (KeepsV.setCell _ _ _ _)), rfl, ByteArray.empty, e1, by
              rw [HNm2.out, Fs.freeL, if_pos (by rw [HT2.out]; exact h0), HT2.out],
              (HI5.out.b.setCell (p := ⟨w.heap.size + 1 + 1 + 1, 0, none⟩) (by simp; omega) _).setCell (p := ⟨w.heap.size + 1 + 1 + 1 + 1, 0, none⟩) (by simp; omega) _,
              (HI5.out.o.set 0 _).setOther _ _ (by simp), (HI5.out.e.setOther _ _ (by simp)).set 0 _⟩
      · obtain rfl : j = m := by omega
        have HT3 := Lib.hid (show S.takenF dd cr n ds = (false, 0) by rw [htk, List.drop_eq_nil_of_le (by omega)]; rfl)
        clear hIr htk fc ff fz cc cf cz hzr hb
        gi_wp2
        exact ⟨(KeepsV.of_below HB.out).trans ((KeepsV.setCell _ _ _ _).trans (KeepsV.setCell _ _ _ _)), rfl, n, 0, by
          rw [HNm2.out, Fs.freeL, if_neg (by rw [HT3.out]; decide), if_neg (by rw [HT3.out]; decide)],
          (HIr.out.b.setCell (p := ⟨w.heap.size + 1 + 1 + 1, 0, none⟩) (by simp; omega) _).setCell (p := ⟨w.heap.size + 1 + 1 + 1 + 1, 0, none⟩) (by simp; omega) _,
          (HIr.out.o.set 0 _).setOther _ _ (by simp), (HIr.out.e.setOther _ _ (by simp)).set 0 _⟩
  case done =>
    intro D xs W hD hxs hI hK
    subst hxs
    obtain ⟨hnm, hI, -⟩ := hI
    rw [List.length_range, names_end] at hnm
    have HE := Lib.hid (show rd = (ByteArray.empty, 7) from hnm)
    obtain ⟨oc, of, oz⟩ := hI.o.facts
    obtain ⟨ec, ef, ez⟩ := hI.e.facts
    have HI := Lib.hid hI
    clear hI hnm
    have HK2 := Lib.hid (((KeepsOthers.setCell W ⟨w.heap.size + 1 + 1 + 1, 0, none⟩ (.string ⟨#[]⟩)).trans (KeepsOthers.setCell _ ⟨w.heap.size + 1 + 1 + 1 + 1, 0, none⟩ (.int .i64 7))).same D _ hK rfl)
    have HG := Lib.hid ((HI.out.b.setCell (p := ⟨w.heap.size + 1 + 1 + 1, 0, none⟩) (by simp; omega) (.string ⟨#[]⟩)).setCell (p := ⟨w.heap.size + 1 + 1 + 1 + 1, 0, none⟩) (by simp; omega) (.int .i64 7))
    go_wp2_with fail
    refine cfree_leave HK2.out ((HI.out.o.set 0 _).setOther _ _ (by simp)) ((HI.out.e.setOther _ _ (by simp)).set 0 _) rfl rfl rfl ⟨by rw [HE.out]; rfl, ?_⟩
    exact Below.turnV HG.out (Turn.put (B := D) (Nat.le_refl _) HK2.out rfl) (by omega)
  case stop =>
    intro D c pre W hD hSp hIx hK
    obtain ⟨rfl, s, e, hrd, hg, ho, he⟩ := hIx
    gi_wp2
    refine cfree_leave hK ho he rfl rfl rfl ⟨by rw [hrd], ?_⟩
    exact Below.turnV hg (Turn.put (B := D) (Nat.le_refl _) hK rfl) (by omega)
end

end Go.Proofs.YtihdbncoijhihaaGreat
