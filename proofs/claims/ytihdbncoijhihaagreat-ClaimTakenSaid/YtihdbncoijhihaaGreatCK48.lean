/- Texts of the proof, part 48. -/
import Derived.BigQuiet
import Derived.Test.YtihdbncoijhihaaGreatCK47
import Derived.Test.YtihdbncoijhihaaGreatCK42
import Derived.Test.YtihdbncoijhihaaGreatCK18
import Derived.Test.YtihdbncoijhihaaGreatCK16
set_option linter.unusedVariables false
set_option linter.unusedSimpArgs false
/- The statement ClaimTaken's function. -/
namespace Go.Proofs.YtihdbncoijhihaaGreat

open Go.RowKit Go.Shelf

attribute [local go_sem] Oper.semAt_some

theorem u64_id32 {x : Int} (h0 : 0 ≤ x) (h1 : x ≤ 999999) : IntKind.u64.wrap x = x := by
  unfold IntKind.wrap
  simp [IntKind.bits, IntKind.signed]
  omega
theorem fs_last32 {S : Fs} {N : Nat} (h : FsOk S N) (hN : N ≤ 999999) : 1 ≤ S.last ∧ S.last ≤ 999999 := by
  have h1 := h.d1
  have h2 := h.root S.ds[0] (List.getElem_mem (by omega))
  have h3 := h.lN
  omega
/-- a text of the list, where it stands. -/
theorem str_cell {w : World} {a : Option Addr} {n c : Nat} {l : List ByteArray} (h : SliceAt w 1 strR a n c l) (k : Nat) (hk : k < l.length) : ∃ b off, a = some ⟨b, off, none⟩ ∧ b < w.heap.size ∧ w.cell? ⟨b, off + k, none⟩ = some (.string l[k]) ∧ l[k].size ≤ 9223372036854775807 := by
  obtain ⟨hl, hn, -, h0 | ⟨b, off, he, hbl, hel⟩⟩ := h
  · omega
  · obtain ⟨cs, e1, e2, e3⟩ := hel k hk
    obtain ⟨e2, e4⟩ := e2
    subst e2
    have c0 := e3 0 (by show 0 < 1; omega)
    exact ⟨b, off, he, hbl, by simpa using c0, e4⟩
theorem op_still {Y : Sy} (h : Still Y) (g : Fs → Int → Fs × Int × Int) : Still (Y.op g).1 := (h.op g).2.2.1
theorem dirF_still {Y : Sy} (h : Still Y) (u : Us) (dir : Int) (n : ByteArray) : Still (Y.dirF u dir n).1 := by
  unfold Sy.dirF
  split
  · exact op_still h _
  · exact h
theorem dirsF_still {u : Us} {dir : Int} : ∀ {l : List ByteArray} {Y : Sy}, Still Y → Still (Y.dirsF u dir l).1
  | [], _, h => h
  | n :: l, Y, h => by
    rw [Sy.dirsF]
    split
    · exact dirF_still h u dir n
    · exact dirsF_still (dirF_still h u dir n)
theorem readyF_still {Y : Sy} (h : Still Y) (u : Us) (p : Plc) : Still (Y.readyF u p).1 := by
  unfold Sy.readyF
  dsimp only
  split
  · exact dirF_still h u _ _
  · split <;> exact dirsF_still (dirF_still h u _ _)
theorem triesF_still {u : Us} : ∀ {l : List Plc} {Y : Sy} (e : Int), Still Y → Still (Y.triesF u l e).1
  | [], _, _, h => h
  | p :: l, Y, e, h => by
    rw [Sy.triesF]
    split
    · exact readyF_still h u p
    · exact triesF_still _ (readyF_still h u p)
theorem chooseF_still {Y : Sy} (h : Still Y) (u : Us) (no : Int) : Still (Y.chooseF u no).1 := by
  unfold Sy.chooseF
  dsimp only
  have h2 := triesF_still (u := u) (l := Y.homeF u (Y.fs.topF no).1) 0 h
  split
  · exact h
  · split
    · exact h2
    · generalize Y.triesF u (Y.homeF u (Y.fs.topF no).1) 0 = a at h2 ⊢
      have h4 := triesF_still (u := u) (l := a.1.fs.placesF a.1.dead u (Y.fs.topF no).1 (Y.fs.topF no).2.1) a.2.2.2 h2
      split
      · exact h4
      · split
        · exact h4
        · exact readyF_still h4 u _
theorem str_cell2 {w : World} {b off n c : Nat} {l : List ByteArray} (h : SliceAt w 1 strR (some ⟨b, off, none⟩) n c l) (k : Nat) (hk : k < l.length) : w.cell? ⟨b, off + k, none⟩ = some (.string l[k]) := by
  obtain ⟨b', off', he, -, hc, -⟩ := str_cell h k hk
  injection he with he
  injection he with h1 h2
  subst h1 h2
  exact hc
/-- the boxes of a case and of a can, and a text. -/
structure SNa (w' : World) (B Bd zb zo : Nat) (cv : Array Value) (x : Cn) (z : ByteArray) : Prop where
  c : Blk w' B cv 30
  x : Blk w' Bd #[.string x.path, .int .i64 x.dir, .int .i64 x.info, .int .i64 x.files, .int .i64 x.out, .int .i64 x.way, .string x.top] 38
  z : w'.cell? ⟨zb, zo, none⟩ = some (.string z)
/-- what holds between two names. -/
structure TkI (w : World) (p q : Nat) (pv : Value) (Bd : Nat) (cv : Array Value) (x : Cn) (Z : Sy) (ns : List (List UInt8)) (v : Value) (W : World) : Prop where
  y : ∃ R, SyAt W p q R pv Z ∧ ∀ k, R.Y p q k → w.heap.size ≤ k
  b : Below w.heap.size w W
  c : Blk W w.heap.size cv 30
  x : Blk W Bd #[.string x.path, .int .i64 x.dir, .int .i64 x.info, .int .i64 x.files, .int .i64 x.out, .int .i64 x.way, .string x.top] 38
  n : OS W w.heap.size v ns
section

variable {w A B : World} {p q Bd : Nat} {pv v : Value} {cv : Array Value} {x : Cn} {Z Z' : Sy} {ns : List (List UInt8)}

theorem TkI.keep (h : TkI w p q pv Bd cv x Z ns v A) (hb : Below A.heap.size A B) : TkI w p q pv Bd cv x Z ns v B := by
  obtain ⟨R, h1, h2⟩ := h.y
  exact ⟨⟨R, h1.keep hb, h2⟩, bnext h.b hb, h.c.keep hb, h.x.keep hb, h.n.keep2 hb⟩
theorem OS.sy {R : Rp} {base : Nat} (ho : OS A base v ns) (h : SyAt A p q R pv Z) {F' : Nat → Prop} (hs : Stp (R.Y p q) F' A B) : OS B base v ns :=
  own_mod ho hs.mod (fun k hk he => by
    obtain ⟨-, cur, hc⟩ := own_obj1 ho he
    rcases hk with rfl | hk
    · have hb := h.blk
      unfold Blk at hb
      rw [hb] at hc
      cases hc
    · obtain ⟨o, ho, hd⟩ := h.wd.kind hk
      rw [hc] at ho
      injection ho with ho
      subst ho
      cases hd)
theorem TkI.step {R R' : Rp} (h : TkI w p q pv Bd cv x Z ns v A) (h1 : SyAt A p q R pv Z) (hl : ∀ k, R.Y p q k → w.heap.size ≤ k) (h2 : SyAt B p q R' pv Z') (hs : Stp (R.Y p q) (R'.Y p q) A B) : TkI w p q pv Bd cv x Z' ns v B :=
  ⟨⟨R', h2, hs.above hl h.b.size⟩, h.b.trans (hs.below hl h.b.size), h.c.sy h1 hs (by decide) (by decide), h.x.sy h1 hs (by decide) (by decide), h.n.sy h1 hs⟩
end

/-- the case's box, and the number of the last node. -/
structure SCs (w' : World) (B pf : Nat) (cv rv : Array Value) : Prop where
  c : Blk w' B cv 30
  l : Blk w' pf rv 46
theorem SCs.set7 {A : World} {B pf Bd : Nat} {cv rv : Array Value} (h : SCs A B pf cv rv) (h1 : Bd ≠ B) (h2 : Bd ≠ pf) (v0 v1 v2 v3 v4 v5 v6 : Value) : SCs (((((((A.setCell ⟨Bd, 0, none⟩ v0).setCell ⟨Bd, 1, none⟩ v1).setCell ⟨Bd, 2, none⟩ v2).setCell ⟨Bd, 3, none⟩ v3).setCell ⟨Bd, 4, none⟩ v4).setCell ⟨Bd, 5, none⟩ v5).setCell ⟨Bd, 6, none⟩ v6) B pf cv rv := by
  have hm := (((((((Mod.refl (fun k => k = Bd) A).setCell (a := ⟨Bd, 0, none⟩) (.inl rfl) v0).setCell (a := ⟨Bd, 1, none⟩) (.inl rfl) v1).setCell (a := ⟨Bd, 2, none⟩) (.inl rfl) v2).setCell (a := ⟨Bd, 3, none⟩) (.inl rfl) v3).setCell (a := ⟨Bd, 4, none⟩) (.inl rfl) v4).setCell (a := ⟨Bd, 5, none⟩) (.inl rfl) v5).setCell (a := ⟨Bd, 6, none⟩) (.inl rfl) v6
  exact ⟨h.c.mod hm (fun e => h1 e.symm), h.l.mod hm (fun e => h2 e.symm)⟩
theorem TkI.made {w A : World} {p q Bd : Nat} {pv : Value} {cv : Array Value} {x : Cn} {Z : Sy} {R : Rp} (hy : SyAt A p q R pv Z) (hl : ∀ k, R.Y p q k → w.heap.size ≤ k) (hb : Below w.heap.size w A) (hc : Blk A w.heap.size cv 30)
    (hX : Blk A Bd #[.string ⟨#[]⟩, .int .i64 0, .int .i64 0, .int .i64 0, .int .i64 0, .int .i64 0, .string ⟨#[]⟩] 38) (hBd : w.heap.size < Bd) : TkI w p q pv Bd cv x Z [] (.slice none 0 0) (((((((A.setCell ⟨Bd, 0, none⟩ (.string x.path)).setCell ⟨Bd, 1, none⟩ (.int .i64 x.dir)).setCell ⟨Bd, 2, none⟩ (.int .i64 x.info)).setCell ⟨Bd, 3, none⟩ (.int .i64 x.files)).setCell ⟨Bd, 4, none⟩ (.int .i64 x.out)).setCell ⟨Bd, 5, none⟩ (.int .i64 x.way)).setCell ⟨Bd, 6, none⟩ (.string x.top)) := by
  have hm := (((((((Mod.refl (fun k => k = Bd) A).setCell (a := ⟨Bd, 0, none⟩) (.inl rfl) (.string x.path)).setCell (a := ⟨Bd, 1, none⟩) (.inl rfl) (.int .i64 x.dir)).setCell (a := ⟨Bd, 2, none⟩) (.inl rfl) (.int .i64 x.info)).setCell (a := ⟨Bd, 3, none⟩) (.inl rfl) (.int .i64 x.files)).setCell (a := ⟨Bd, 4, none⟩) (.inl rfl) (.int .i64 x.out)).setCell (a := ⟨Bd, 5, none⟩) (.inl rfl) (.int .i64 x.way)).setCell (a := ⟨Bd, 6, none⟩) (.inl rfl) (.string x.top)
  exact ⟨⟨R, hy.other hX (by decide) (by decide) (by decide) (by decide) hm, hl⟩, below_set7 hb (by omega), hc.mod hm (fun e => by omega), hX.set7, OS.nil _ _⟩
/-- blocks of other kinds turn. -/
def Other (A : World) (k : Nat) : Prop := ∃ cur, A.heap[k]? = some (.cells cur 9 (0, 0))
theorem SyAt.modO {A B : World} {p q : Nat} {R : Rp} {pv : Value} {Z : Sy} (h : SyAt A p q R pv Z) {S : Nat → Prop} (hm : Mod S A B) (hS : ∀ k, S k → Other A k) : SyAt B p q R pv Z :=
  ⟨h.blk.mod hm (fun e => by
    obtain ⟨cur, hc⟩ := hS _ e
    have hb := h.blk
    unfold Blk at hb
    rw [hb] at hc
    cases hc), h.wd.mod hm (fun k o hk ho => by
    obtain ⟨cur, hc⟩ := hS _ hk
    rw [hc] at ho
    injection ho with ho
    subst ho
    exact ⟨rfl, fun cur e => by cases e⟩), own_mod h.plan hm (fun k hk he => by
    obtain ⟨-, cur, hc⟩ := own_obj1 h.plan he
    obtain ⟨cur2, hc2⟩ := hS _ hk
    rw [hc] at hc2
    cases hc2)⟩
theorem Blk.modO {A B : World} {b : Nat} {vs : Array Value} {T : TypeId} (h : Blk A b vs T) (hT : T ≠ 9) {S : Nat → Prop} (hm : Mod S A B) (hS : ∀ k, S k → Other A k) : Blk B b vs T :=
  h.mod hm (fun e => by
    obtain ⟨cur, hc⟩ := hS _ e
    unfold Blk at h
    rw [h] at hc
    injection hc with hc
    injection hc with h1 h2
    exact hT h2)
/-- a name more. -/
theorem TkI.push {w A : World} {p q Bd : Nat} {pv v : Value} {cv : Array Value} {x : Cn} {Z : Sy} {ns : List (List UInt8)} (h : TkI w p q pv Bd cv x Z ns v A) (n : ByteArray) (hl : ns.length ≤ 1000) :
    ∃ g cap W, (Builtin.append_ #[61, 61] 61 #[v, .slice (some ⟨A.heap.size, 0, none⟩) 1 1]).run Tryz.prog (A.alloc (.cells #[.string n] 9)) = .ok (.slice (some ⟨g, 0, none⟩) (ns.length + 1) cap) W ∧
      TkI w p q pv Bd cv x Z (ns ++ [n.data.toList]) (.slice (some ⟨g, 0, none⟩) (ns.length + 1) cap) W := by
  obtain ⟨g, cap, W, h1, h2, h3, -, h5, -⟩ := h.n.appM n.data.toList (by omega) h.b.size
  rw [str_of] at h1
  have hS : ∀ k, v.ownBlock = some k → Other A k := fun k hk => by
    obtain ⟨-, cur, hc⟩ := own_obj1 h.n hk
    exact ⟨cur, hc⟩
  obtain ⟨R, hy, hlow⟩ := h.y
  exact ⟨g, cap, W, h1, ⟨R, hy.modO h5 hS, hlow⟩, h.b.trans h3, h.c.modO (by decide) h5 hS, h.x.modO (by decide) h5 hS, h2⟩
theorem nameL_mem {c : Cr} {x : Cn} {text : ByteArray} : ∀ {l : List ByteArray} {Y : Sy}, (Y.nameL c x text l).2.2 = 0 → (Y.nameL c x text l).2.1 ∈ l
  | [], _, h => absurd (show (7 : Int) = 0 from h) (by decide)
  | n :: l, Y, h => by
    rw [Sy.nameL] at h ⊢
    by_cases h1 : (Y.fs.takenF Y.dead c n x.three).2 ≠ 0
    · rw [if_pos h1] at h
      exact absurd h h1
    · rw [if_neg h1] at h ⊢
      by_cases h2 : (Y.fs.takenF Y.dead c n x.three).1 = true
      · rw [if_pos h2] at h ⊢
        exact List.mem_cons_of_mem _ (nameL_mem h)
      · rw [if_neg h2] at h ⊢
        by_cases h3 : (Y.tryF c x.info text n).2.2 = 7
        · rw [if_pos h3] at h ⊢
          exact List.mem_cons_of_mem _ (nameL_mem h)
        · rw [if_neg h3] at h ⊢
          by_cases h4 : (Y.tryF c x.info text n).2.2 ≠ 0
          · rw [if_pos h4] at h
            exact absurd h h4
          · rw [if_neg h4]
            exact List.mem_cons_self
theorem names_size {base m : ByteArray} (h : m ∈ namesL base) : m.size ≤ 245 := by
  unfold namesL at h
  obtain ⟨k, hk, rfl⟩ := List.mem_map.1 h
  have := List.mem_range.1 hk
  exact nthS_le base _ (by omega)
theorem sfx_ne (m : ByteArray) : m ≠ m ++ nSfx := fun e => by
  have h := congrArg ByteArray.size e
  rw [ByteArray.size_append] at h
  have : nSfx.size = 10 := rfl
  omega
set_option maxRecDepth 100000 in
set_option maxHeartbeats 16000000 in
theorem claimTaken_any (w : World) {ma : Option Addr} {mn mc : Nat} {ia : Option Addr} {il ic : Nat} {ms : List Mt} {is : List It} (h : SdAt w ma mn mc ia il ic ms is) (u g : Int) (hu0 : -9223372036854775808 ≤ u) (hu1 : u ≤ 9223372036854775807) (dt pt tx : ByteArray) (no now : Int) {pa : Option Addr} {pn pc : Nat} {pl : List (Int × Int)} (hpl : SliceAt w 2 fltR pa pn pc pl)
    {la : Option Addr} {ln lc : Nat} {zs : List ByteArray} (hz : SliceAt w 1 strR la ln lc zs) :
    Calls Tryz.prog 4 #[.agg #[.slice ma mn mc, .slice ia il ic, .int .i64 u, .int .i64 g, .string dt, .string pt, .string tx, .int .i64 no, .int .i64 now, .slice pa pn pc], .slice la ln lc] w fun e w' => e = .returned (.bool true) ∧ Below w.heap.size w w' := by
  have hX := Blk.new w #[.slice ma mn mc, .slice ia il ic, .int .i64 u, .int .i64 g, .string dt, .string pt, .string tx, .int .i64 no, .int .i64 now, .slice pa pn pc] 30
  have hbX := balloc (Below.refl w.heap.size w) (.cells #[.slice ma mn mc, .slice ia il ic, .int .i64 u, .int .i64 g, .string dt, .string pt, .string tx, .int .i64 no, .int .i64 now, .slice pa pn pc] 30)
  have hbI := ((Below.refl _ w).alloc (Nat.le_refl _) (.cells #[.slice ma mn mc, .slice ia il ic, .int .i64 u, .int .i64 g, .string dt, .string pt, .string tx, .int .i64 no, .int .i64 now, .slice pa pn pc] 30))
  have HFw := Lib.hid (few30_any _ (h.keep hbI) u g dt pt tx no now (pa := pa) (pc := pc) hpl.1)
  have HS := Lib.hid h
  have HZ := Lib.hid (fun w1 (hb1 : Below w.heap.size w w1) => hz.below hb1 (Nat.le_refl _))
  have hzl : zs.length = ln := hz.1
  have hln : ln ≤ 9223372036854775807 := by obtain ⟨-, h2, h3, -⟩ := hz; omega
  have HAw := Lib.hid awake32_any
  clear h hpl hbI hz
  go_enter Tryz.func4, Tryz.ntmps4
  go_upto_region 1 with fail
  generalize w.alloc (.cells #[.slice ma mn mc, .slice ia il ic, .int .i64 u, .int .i64 g, .string dt, .string pt, .string tx, .int .i64 no, .int .i64 now, .slice pa pn pc] 30) = w0 at hX hbX HFw ⊢
  obtain ⟨bc, bf, bz⟩ := hX.facts
  go_wp2_with fail
  refine HFw.out.mono ?_
  rintro e w1 ⟨rfl, hb1⟩
  have HB1 := Lib.hid (hX.keep hb1)
  have HBw := Lib.hid (bnext hbX hb1)
  clear hX hbX hb1 HFw bc bf bz
  obtain ⟨bc, bf, bz⟩ := HB1.out.facts
  cases hf : few30 ms is dt pt tx pl with
  | false =>
    clear hf bc bf bz
    go_wp2_with fail
    refine (HAw.out _).mono ?_
    rintro e w2 ⟨rfl, hb2⟩
    have HB2 := Lib.hid (bnext HBw.out hb2)
    clear hb2
    go_wp2_with fail
    go_ret
    exact ⟨rfl, HB2.out⟩
  | true =>
    by_cases h8 : 8 < ln
    · have h8b : decide (8 < ln) = true := by simpa using h8
      have h8c : decide ((8 : Int) < (ln : Int)) = true := by
        rw [decide_eq_true_eq]
        omega
      clear hf bc bf bz
      go_wp2_with fail
      refine (HAw.out _).mono ?_
      rintro e w2 ⟨rfl, hb2⟩
      have HB2 := Lib.hid (bnext HBw.out hb2)
      clear hb2
      go_wp2_with fail
      go_ret
      exact ⟨rfl, HB2.out⟩
    · have h8b : decide (8 < ln) = false := by simpa using h8
      have h8c : decide ((8 : Int) < (ln : Int)) = false := by
        rw [decide_eq_false_iff_not]
        omega
      have hC2 := HB1.out.set 9 (.slice none 0 0)
      have hB2 : Below w.heap.size w (w1.setCell ⟨w.heap.size, 9, none⟩ (.slice none 0 0)) := HBw.out.setCell (p := ⟨w.heap.size, 9, none⟩) (Nat.le_refl _) _
      obtain ⟨hf2, hdt, hpt, htx, -⟩ := few30_of hf
      have hf3 : few30 ms is dt pt tx [] = true := by
        unfold few30
        exact decide_eq_true ⟨hf2, hdt, hpt, htx, Nat.zero_le _⟩
      go_upto_region 4 with fail
      generalize w1.setCell ⟨w.heap.size, 9, none⟩ (.slice none 0 0) = W1 at hC2 hB2 ⊢
      have HBo := Lib.hid (both30_any W1 (HS.out.keep hB2) u g dt pt tx no now (pa := none) (pn := 0) (pc := 0) (pl := []) ⟨rfl, Nat.le_refl _, by omega, .inl rfl⟩ hf3)
      obtain ⟨hm10, hi30, -, -⟩ := few22_of hf2
      have HFi := Lib.hid (plant_fine ms is)
      obtain ⟨N, hN⟩ : ∃ N, 1 + 2 * ms.length + is.length = N := ⟨_, rfl⟩
      have hNs : N ≤ 51 := by omega
      rw [hN] at HFi
      have hlast := fs_last32 (plant_ok ms is) (by omega)
      generalize plantF ms is = S at HBo HFi hlast
      have HNs := Lib.hid hNs
      have HDt := Lib.hid (show dt.size ≤ 100000 by omega)
      have HOk := Lib.hid (show SyOk ⟨S, nowI now, 0, [], false⟩ N from ⟨HFi.out, Int.le_refl _, by show (0 : Int) ≤ _; omega, Nat.zero_le _⟩)
      have HC1 := Lib.hid (And.intro hC2 hB2)
      clear bc bf bz
      obtain ⟨bc, bf, bz⟩ := hC2.facts
      clear hf hf2 hi30 hm10 hN hdt htx hpt hf3 hNs hC2 hB2
      go_wp2_with fail
      refine HBo.out.mono ?_
      rintro e w2 ⟨p1, q1, R1, v1, pf, R2, rfl, hBo⟩
      have HB2 := Lib.hid (bnext HC1.out.2 hBo.below)
      have HBt := Lib.hid hBo
      have hC2 := HC1.out.1.keep hBo.below
      have HC2 := Lib.hid hC2
      have HScs := Lib.hid (fun (w3 : World) (hb : Below w2.heap.size w2 w3) (R3 : Rp) (Z : Sy) (w' : World) (h3 : SyAt w' p1 q1 R3 v1 Z) (hs3 : Stp (R1.Y p1 q1) (R3.Y p1 q1) w3 w') => show SCs w' w.heap.size pf #[.slice ma mn mc, .slice ia il ic, .int .i64 u, .int .i64 g, .string dt, .string pt, .string tx, .int .i64 no, .int .i64 now, .slice none 0 0] #[R2.nv, R2.dv, .int .i64 S.last, .int .i64 R2.now, R2.cnt, R2.pl, R2.dd] from
        ⟨(hC2.keep hb).sy (hBo.y.keep hb) hs3 (by decide) (by decide), ((hBo.r.keep hb).sy (hBo.y.keep hb) hs3).blk⟩)
      clear bc bf bz
      obtain ⟨bc, bf, bz⟩ := hC2.facts
      obtain ⟨rc, rf, rz⟩ := hBo.r.blk.facts
      have hlw := u64_id32 (x := S.last) (by omega) hlast.2
      have hlz : ¬ S.last = 0 := by omega
      clear hBo hC2
      go_upto_region 7 with fail
      obtain ⟨n2, hn2⟩ : ∃ n, wrap64 (1 + wrap64 ((IntKind.u64.wrap no).tmod S.last)) = n := ⟨_, rfl⟩
      have HCh := Lib.hid (fun (w3 : World) (hb : Below w2.heap.size w2 w3) => lchoose_any (HBt.out.y.keep hb) HOk.out (by have := HNs.out; omega) rfl ⟨u, g, dt⟩ hu0 hu1 HDt.out n2)
      have HStl := Lib.hid (chooseF_still (Y := ⟨S, nowI now, 0, [], false⟩) ⟨rfl, rfl⟩ ⟨u, g, dt⟩ n2)
      have HOk2 := Lib.hid (HOk.out.chooseF ⟨u, g, dt⟩ n2)
      obtain ⟨q, hq⟩ : ∃ q, Sy.chooseF ⟨S, nowI now, 0, [], false⟩ ⟨u, g, dt⟩ n2 = q := ⟨_, rfl⟩
      rw [hq] at HCh HStl HOk2
      obtain ⟨Z, x, qe⟩ := q
      unfold Cn.v at HCh
      dsimp only at HCh HStl HOk2
      clear hq
      have hw64 : ∀ y : Int, IntKind.i64.wrap y = wrap64 y := fun y => by unfold wrap64; exact IntKind.wrap_i64 y
      go_cut [7, 8] (fun t7 t8 wx => ∃ Bd : Nat, t7 = .pointer (some ⟨Bd, 0, none⟩) ∧ t8 = .int .i64 qe ∧ TkI w p1 q1 v1 Bd #[.slice ma mn mc, .slice ia il ic, .int .i64 u, .int .i64 g, .string dt, .string pt, .string tx, .int .i64 no, .int .i64 now, .slice none 0 0] x Z [] (.slice none 0 0) wx)
      case first =>
        have hSb : ∀ w' : World, Below w2.heap.size w2 w' → SCs w' w.heap.size pf #[.slice ma mn mc, .slice ia il ic, .int .i64 u, .int .i64 g, .string dt, .string pt, .string tx, .int .i64 no, .int .i64 now, .slice none 0 0] #[R2.nv, R2.dv, .int .i64 S.last, .int .i64 R2.now, R2.cnt, R2.pl, R2.dd] := fun w' hb => ⟨HC2.out.keep hb, HBt.out.r.blk.keep hb⟩
        have hbd : Below w2.heap.size w2 w2.drew := (Below.refl _ _).drew
        refine wp_region_held_drew (S := fun w' => SCs w' w.heap.size pf #[.slice ma mn mc, .slice ia il ic, .int .i64 u, .int .i64 g, .string dt, .string pt, .string tx, .int .i64 no, .int .i64 now, .slice none 0 0] #[R2.nv, R2.dv, .int .i64 S.last, .int .i64 R2.now, R2.cnt, R2.pl, R2.dd]) (by kernel_rfl) (hSb _ hbd) (fun hHeld => ?_)
        refine reg_take 0 40 (v := ?vz70) rfl rfl (by kernel_rfl) (by kernel_rfl) (by kernel_rfl) (fun _ _ _ h => h) rfl ?yz70 hHeld ?_
        case yz70 => (intro w9 hSw; go_simp; (try with_reducible rfl))
        simp only [List.setIfInBounds_toArray, List.set_cons_zero, List.set_cons_succ]
        refine reg_take 1 41 (v := ?vz71) rfl rfl (by kernel_rfl) (by kernel_rfl) (by kernel_rfl) (fun _ _ _ h => h) rfl ?yz71 hHeld ?_
        case yz71 => (intro w9 hSw; go_simp; (try with_reducible rfl))
        simp only [List.setIfInBounds_toArray, List.set_cons_zero, List.set_cons_succ]
        refine reg_take 2 42 (v := ?vz72) rfl rfl (by kernel_rfl) (by kernel_rfl) (by kernel_rfl) (fun _ _ _ h => h) rfl ?yz72 hHeld ?_
        case yz72 => (intro w9 hSw; obtain ⟨a1, -, -⟩ := hSw.c.facts; go_simp; (try with_reducible rfl))
        simp only [List.setIfInBounds_toArray, List.set_cons_zero, List.set_cons_succ]
        refine reg_take 3 43 (v := ?vz73) rfl rfl (by kernel_rfl) (by kernel_rfl) (by kernel_rfl) (fun _ _ _ h => h) rfl ?yz73 hHeld ?_
        case yz73 => (intro w9 hSw; go_simp; (try with_reducible rfl))
        simp only [List.setIfInBounds_toArray, List.set_cons_zero, List.set_cons_succ]
        refine reg_take 4 44 (v := ?vz74) rfl rfl (by kernel_rfl) (by kernel_rfl) (by kernel_rfl) (fun _ _ _ h => h) rfl ?yz74 hHeld ?_
        case yz74 => (intro w9 hSw; obtain ⟨a1, -, -⟩ := hSw.c.facts; go_simp; (try with_reducible rfl))
        simp only [List.setIfInBounds_toArray, List.set_cons_zero, List.set_cons_succ]
        refine reg_take 5 45 (v := ?vz75) rfl rfl (by kernel_rfl) (by kernel_rfl) (by kernel_rfl) (fun _ _ _ h => h) rfl ?yz75 hHeld ?_
        case yz75 => (intro w9 hSw; go_simp; (try with_reducible rfl))
        simp only [List.setIfInBounds_toArray, List.set_cons_zero, List.set_cons_succ]
        refine reg_take 6 46 (v := ?vz76) rfl rfl (by kernel_rfl) (by kernel_rfl) (by kernel_rfl) (fun _ _ _ h => h) rfl ?yz76 hHeld ?_
        case yz76 => (intro w9 hSw; go_simp; (try with_reducible rfl))
        simp only [List.setIfInBounds_toArray, List.set_cons_zero, List.set_cons_succ]
        refine reg_take 7 47 (v := ?vz77) rfl rfl (by kernel_rfl) (by kernel_rfl) (by kernel_rfl) (fun _ _ _ h => h) rfl ?yz77 hHeld ?_
        case yz77 => (intro w9 hSw; go_simp; (try with_reducible rfl))
        simp only [List.setIfInBounds_toArray, List.set_cons_zero, List.set_cons_succ]
        refine reg_take 8 48 (v := ?vz78) rfl rfl (by kernel_rfl) (by kernel_rfl) (by kernel_rfl) (fun _ _ _ h => h) rfl ?yz78 hHeld ?_
        case yz78 => (intro w9 hSw; go_simp; (try with_reducible rfl))
        simp only [List.setIfInBounds_toArray, List.set_cons_zero, List.set_cons_succ]
        refine reg_take 9 49 (v := ?vz79) rfl rfl (by kernel_rfl) (by kernel_rfl) (by kernel_rfl) (fun _ _ _ h => h) rfl ?yz79 hHeld ?_
        case yz79 => (intro w9 hSw; obtain ⟨a1, -, -⟩ := hSw.l.facts; go_simp; (try with_reducible rfl))
        simp only [List.setIfInBounds_toArray, List.set_cons_zero, List.set_cons_succ]
        refine reg_take 10 50 (v := ?vz710) rfl rfl (by kernel_rfl) (by kernel_rfl) (by kernel_rfl) (fun _ _ _ h => h) rfl ?yz710 hHeld ?_
        case yz710 => (intro w9 hSw; go_simp; (try with_reducible rfl))
        simp only [List.setIfInBounds_toArray, List.set_cons_zero, List.set_cons_succ]
        refine reg_take 11 51 (v := ?vz711) rfl rfl (by kernel_rfl) (by kernel_rfl) (by kernel_rfl) (fun _ _ _ h => h) rfl ?yz711 hHeld ?_
        case yz711 => (intro w9 hSw; go_simp; (try with_reducible rfl))
        simp only [List.setIfInBounds_toArray, List.set_cons_zero, List.set_cons_succ]
        refine reg_take 12 52 (v := ?vz712) rfl rfl (by kernel_rfl) (by kernel_rfl) (by kernel_rfl) (fun _ _ _ h => h) rfl ?yz712 hHeld ?_
        case yz712 => (intro w9 hSw; go_simp; (try with_reducible rfl))
        simp only [List.setIfInBounds_toArray, List.set_cons_zero, List.set_cons_succ]
        refine reg_take 13 53 (v := ?vz713) rfl rfl (by kernel_rfl) (by kernel_rfl) (by kernel_rfl) (fun _ _ _ h => h) rfl ?yz713 hHeld ?_
        case yz713 => (intro w9 hSw; go_simp; (try with_reducible rfl))
        simp only [List.setIfInBounds_toArray, List.set_cons_zero, List.set_cons_succ]
        try simp only [hw64]
        try simp only [hn2]
        trace_state
        refine reg_call_make 14 54 18 7 (vi := .pointer (some ⟨w2.heap.size, 0, none⟩)) (Wi := w2.drew.alloc (.cells #[.string ⟨#[]⟩, .int .i64 0, .int .i64 0, .int .i64 0, .int .i64 0, .int .i64 0, .string ⟨#[]⟩] 38)) (R := fun v w' => v = .tuple #[.agg #[.string x.path, .int .i64 x.dir, .int .i64 x.info, .int .i64 x.files, .int .i64 x.out, .int .i64 x.way, .string x.top], .int .i64 qe] ∧ Goes w2.drew w' p1 q1 R1 v1 Z) (by kernel_rfl) rfl rfl rfl rfl rfl rfl ?ra7 (hSb _ (balloc hbd _)) ?rb7 ((HCh.out w2.drew hbd).mono (fun e w' ⟨he, hw⟩ => ⟨_, he, rfl, hw⟩)) (fun v w' ⟨_, R3, h3, hs3⟩ => (HScs.out _ hbd R3 Z w' h3 hs3)) ?_ ?_
        case ra7 => (go_simp; (try rfl))
        case rb7 => (go_simp; (try rfl))
        · simp only [List.setIfInBounds_toArray, List.set_cons_zero, List.set_cons_succ]
          have hBoxA : Blk (w2.drew.alloc (.cells #[.string ⟨#[]⟩, .int .i64 0, .int .i64 0, .int .i64 0, .int .i64 0, .int .i64 0, .string ⟨#[]⟩] 38)) w2.heap.size #[.string ⟨#[]⟩, .int .i64 0, .int .i64 0, .int .i64 0, .int .i64 0, .int .i64 0, .string ⟨#[]⟩] 38 := Blk.new w2.drew #[.string ⟨#[]⟩, .int .i64 0, .int .i64 0, .int .i64 0, .int .i64 0, .int .i64 0, .string ⟨#[]⟩] 38
          have hbA : Below w2.heap.size w2 (w2.drew.alloc (.cells #[.string ⟨#[]⟩, .int .i64 0, .int .i64 0, .int .i64 0, .int .i64 0, .int .i64 0, .string ⟨#[]⟩] 38)) := balloc hbd _
          refine reg_call 14 54 (R := fun v w' => v = .tuple #[.agg #[.string x.path, .int .i64 x.dir, .int .i64 x.info, .int .i64 x.files, .int .i64 x.out, .int .i64 x.way, .string x.top], .int .i64 qe] ∧ Goes (w2.drew.alloc (.cells #[.string ⟨#[]⟩, .int .i64 0, .int .i64 0, .int .i64 0, .int .i64 0, .int .i64 0, .string ⟨#[]⟩] 38)) w' p1 q1 R1 v1 Z) (by kernel_rfl) rfl rfl rfl ?xc7 ((HCh.out _ hbA).mono (fun e w' ⟨he, hw⟩ => ⟨_, he, rfl, hw⟩)) (fun v w' ⟨_, R3, h3, hs3⟩ => (HScs.out _ hbA R3 Z w' h3 hs3)) ?_
          case xc7 => (go_simp; (try simp only [hw64]); (try simp only [hn2]); (try rfl))
          rintro _ w3 ⟨rfl, R3, hY3, hS3⟩
          simp only [List.setIfInBounds_toArray, List.set_cons_zero, List.set_cons_succ]
          have hSA := HScs.out _ hbA R3 Z w3 hY3 hS3
          have hBx := hBoxA.sy (HBt.out.y.keep hbA) hS3 (by decide) (by decide)
          have hlow3 := hS3.above HBt.out.f1 (Nat.le_trans HBt.out.below.size hbA.size)
          have hB3 : Below w.heap.size w w3 := (HB2.out.trans (hbA.mono HB2.out.size)).trans ((hS3.below HBt.out.f1 (Nat.le_trans HBt.out.below.size hbA.size)).mono HC1.out.2.size)
          have hneA : w2.heap.size ≠ w.heap.size := by
            have h1 := HC2.out.lt
            omega
          have hnfA : w2.heap.size ≠ pf := by
            omega
          have HTkA := Lib.hid (TkI.made (w := w) (x := x) hY3 (fun k hk => Nat.le_trans HC1.out.2.size (hlow3 k hk)) hB3 hSA.c hBx (by
            have h1 := HC2.out.lt
            omega))
          obtain ⟨xc, xf, xz⟩ := hBx.facts
          clear hY3 hS3 hlow3 hB3
          refine reg_take 15 39 (v := ?vz915) rfl rfl (by kernel_rfl) (by kernel_rfl) (by kernel_rfl) (fun _ _ _ h => h) rfl ?yz915 hSA ?_
          case yz915 => (intro w9 hSw; go_simp; (try with_reducible rfl))
          simp only [List.setIfInBounds_toArray, List.set_cons_zero, List.set_cons_succ]
          refine reg_take 16 55 (v := ?vz916) rfl rfl (by kernel_rfl) (by kernel_rfl) (by kernel_rfl) (fun _ _ _ h => h) rfl ?yz916 hSA ?_
          case yz916 => (intro w9 hSw; go_simp; (try with_reducible rfl))
          simp only [List.setIfInBounds_toArray, List.set_cons_zero, List.set_cons_succ]
          refine reg_take 17 56 (v := ?vz917) rfl rfl (by kernel_rfl) (by kernel_rfl) (by kernel_rfl) (fun _ _ _ h => h) rfl ?yz917 hSA ?_
          case yz917 => (intro w9 hSw; go_simp; (try with_reducible rfl))
          simp only [List.setIfInBounds_toArray, List.set_cons_zero, List.set_cons_succ]
          refine reg_store 19 (W := (((((((w3.setCell ⟨w2.heap.size, 0, none⟩ (.string x.path)).setCell ⟨w2.heap.size, 1, none⟩ (.int .i64 x.dir)).setCell ⟨w2.heap.size, 2, none⟩ (.int .i64 x.info)).setCell ⟨w2.heap.size, 3, none⟩ (.int .i64 x.files)).setCell ⟨w2.heap.size, 4, none⟩ (.int .i64 x.out)).setCell ⟨w2.heap.size, 5, none⟩ (.int .i64 x.way)).setCell ⟨w2.heap.size, 6, none⟩ (.string x.top))) (by kernel_rfl) rfl rfl rfl ?stA (hSA.set7 hneA hnfA _ _ _ _ _ _ _) ?_
          case stA => (go_simp; (try rfl))
          refine reg_take 20 8 (v := ?vz8A) rfl rfl (by kernel_rfl) (by kernel_rfl) (by kernel_rfl) (fun _ _ _ h => h) rfl ?yz8A (hSA.set7 hneA hnfA _ _ _ _ _ _ _) ?_
          case yz8A => (intro w9 hSw; go_simp; (try with_reducible rfl))
          simp only [List.setIfInBounds_toArray, List.set_cons_zero, List.set_cons_succ]
          refine wpAnyH_done (by kernel_rfl) ?_ _
          go_wp2_with fail
          go_meet
          exact ⟨_, rfl, rfl, HTkA.out⟩
        · rintro _ w3 ⟨rfl, R3, hY3, hS3⟩
          simp only [List.setIfInBounds_toArray, List.set_cons_zero, List.set_cons_succ]
          have hSB0 := HScs.out _ hbd R3 Z w3 hY3 hS3
          have hlow3 := hS3.above HBt.out.f1 (Nat.le_trans HBt.out.below.size hbd.size)
          have hB3 : Below w.heap.size w w3 := (HB2.out.trans (hbd.mono HB2.out.size)).trans ((hS3.below HBt.out.f1 (Nat.le_trans HBt.out.below.size hbd.size)).mono HC1.out.2.size)
          have hsz3 : w2.heap.size ≤ w3.heap.size := hS3.mod.size
          refine reg_take 15 39 (v := ?vz615) rfl rfl (by kernel_rfl) (by kernel_rfl) (by kernel_rfl) (fun _ _ _ h => h) rfl ?yz615 hSB0 ?_
          case yz615 => (intro w9 hSw; go_simp; (try with_reducible rfl))
          simp only [List.setIfInBounds_toArray, List.set_cons_zero, List.set_cons_succ]
          refine reg_take 16 55 (v := ?vz616) rfl rfl (by kernel_rfl) (by kernel_rfl) (by kernel_rfl) (fun _ _ _ h => h) rfl ?yz616 hSB0 ?_
          case yz616 => (intro w9 hSw; go_simp; (try with_reducible rfl))
          simp only [List.setIfInBounds_toArray, List.set_cons_zero, List.set_cons_succ]
          refine reg_take 17 56 (v := ?vz617) rfl rfl (by kernel_rfl) (by kernel_rfl) (by kernel_rfl) (fun _ _ _ h => h) rfl ?yz617 hSB0 ?_
          case yz617 => (intro w9 hSw; go_simp; (try with_reducible rfl))
          simp only [List.setIfInBounds_toArray, List.set_cons_zero, List.set_cons_succ]
          have hbB := (Below.refl w3.heap.size w3).alloc (Nat.le_refl _) (.cells #[.string ⟨#[]⟩, .int .i64 0, .int .i64 0, .int .i64 0, .int .i64 0, .int .i64 0, .string ⟨#[]⟩] 38)
          have hSB : SCs (w3.alloc (.cells #[.string ⟨#[]⟩, .int .i64 0, .int .i64 0, .int .i64 0, .int .i64 0, .int .i64 0, .string ⟨#[]⟩] 38)) w.heap.size pf #[.slice ma mn mc, .slice ia il ic, .int .i64 u, .int .i64 g, .string dt, .string pt, .string tx, .int .i64 no, .int .i64 now, .slice none 0 0] #[R2.nv, R2.dv, .int .i64 S.last, .int .i64 R2.now, R2.cnt, R2.pl, R2.dd] := ⟨hSB0.c.keep hbB, hSB0.l.keep hbB⟩
          refine reg_alone 18 7 (v := .pointer (some ⟨w3.heap.size, 0, none⟩)) (W := w3.alloc (.cells #[.string ⟨#[]⟩, .int .i64 0, .int .i64 0, .int .i64 0, .int .i64 0, .int .i64 0, .string ⟨#[]⟩] 38)) (by kernel_rfl) rfl rfl rfl ?qaB hSB ?_
          case qaB => (go_simp; (try rfl))
          simp only [List.setIfInBounds_toArray, List.set_cons_zero, List.set_cons_succ]
          have hBx := Blk.new w3 #[.string ⟨#[]⟩, .int .i64 0, .int .i64 0, .int .i64 0, .int .i64 0, .int .i64 0, .string ⟨#[]⟩] 38
          have hneB : w3.heap.size ≠ w.heap.size := by
            have h1 := HC2.out.lt
            omega
          have hnfB : w3.heap.size ≠ pf := by omega
          have HTkB := Lib.hid (TkI.made (w := w) (x := x) (hY3.keep hbB) (fun k hk => Nat.le_trans HC1.out.2.size (hlow3 k hk)) (bnext hB3 hbB) hSB.c hBx (by
            have h1 := HC2.out.lt
            omega))
          obtain ⟨xc, xf, xz⟩ := hBx.facts
          clear hY3 hS3 hlow3 hB3
          refine reg_store 19 (W := ((((((((w3.alloc (.cells #[.string ⟨#[]⟩, .int .i64 0, .int .i64 0, .int .i64 0, .int .i64 0, .int .i64 0, .string ⟨#[]⟩] 38)).setCell ⟨w3.heap.size, 0, none⟩ (.string x.path)).setCell ⟨w3.heap.size, 1, none⟩ (.int .i64 x.dir)).setCell ⟨w3.heap.size, 2, none⟩ (.int .i64 x.info)).setCell ⟨w3.heap.size, 3, none⟩ (.int .i64 x.files)).setCell ⟨w3.heap.size, 4, none⟩ (.int .i64 x.out)).setCell ⟨w3.heap.size, 5, none⟩ (.int .i64 x.way)).setCell ⟨w3.heap.size, 6, none⟩ (.string x.top))) (by kernel_rfl) rfl rfl rfl ?stB (hSB.set7 hneB hnfB _ _ _ _ _ _ _) ?_
          case stB => (go_simp; (try rfl))
          refine reg_take 20 8 (v := ?vz8B) rfl rfl (by kernel_rfl) (by kernel_rfl) (by kernel_rfl) (fun _ _ _ h => h) rfl ?yz8B (hSB.set7 hneB hnfB _ _ _ _ _ _ _) ?_
          case yz8B => (intro w9 hSw; go_simp; (try with_reducible rfl))
          simp only [List.setIfInBounds_toArray, List.set_cons_zero, List.set_cons_succ]
          refine wpAnyH_done (by kernel_rfl) ?_ _
          go_wp2_with fail
          go_meet
          exact ⟨_, rfl, rfl, HTkB.out⟩
      case rest =>
        obtain ⟨Bd, rfl, rfl, hT⟩ := hcut
        generalize wc = w4 at hT ⊢
        have HT4 := Lib.hid hT
        have HCd := Lib.hid (fun w => ccred_any u g dt w)
        clear bc bf bz rc rf rz hlw hlz hw64 hn2 hT
        by_cases hqe : qe = 0
        · have hqb : (qe != 0) = false := by simpa using hqe
          subst hqe
          have hN51 := HNs.out
          go_wp2_with fail
          go_loopw [9, 10] (fun t9 t10 wr => ∃ (Z1 : Sy) (ns : List (List UInt8)), ns.length ≤ ln ∧ t10 = .int .i64 ns.length ∧ SyOk Z1 (N + 20 + 1000 * ns.length) ∧ Still Z1 ∧ (∀ m ∈ ns, entFind (Z1.fs.entsOf x.info) (str m ++ nSfx) ≠ 0) ∧ TkI w p1 q1 v1 Bd #[.slice ma mn mc, .slice ia il ic, .int .i64 u, .int .i64 g, .string dt, .string pt, .string tx, .int .i64 no, .int .i64 now, .slice none 0 0] x Z1 ns t9 wr) (fun _ t10 _ => ln - (intOf t10).toNat)
          case atStart => exact ⟨Z, [], Nat.zero_le _, rfl, HOk2.out, HStl.out, fun m hm => absurd hm (by simp), HT4.out⟩
          case round =>
            obtain ⟨Z1, ns, hi, rfl, hok, hst, hns, hT⟩ := hrel
            obtain ⟨va, vc, hv9, hc1, hc2, -⟩ := own_form hT.n
            subst hv9
            by_cases hlt : ns.length < ln
            · have hlt2 : (ns.length : Int) < (ln : Int) := by omega
              have hi0 : ¬ (ns.length : Int) < 0 := by omega
              obtain ⟨zb, zo, rfl, hzb, hzc, hzs⟩ := str_cell (HZ.out _ hT.b) ns.length (by omega)
              have hZi : ∀ w1, Below w.heap.size w w1 → w1.cell? ⟨zb, zo + ns.length, none⟩ = some (.string (zs[ns.length]'(by omega))) := fun w1 hb1 => str_cell2 (HZ.out w1 hb1) ns.length (by omega)
              generalize zs[ns.length]'(by omega) = z at hzc hzs hZi
              have HZi := Lib.hid hZi
              obtain ⟨Rk, hYk, hlk⟩ := hT.y
              have hbd : Below wr.heap.size wr wr.drew := (Below.refl _ _).drew
              have HNm := Lib.hid (cname_any (hYk.keep hbd) hok (by omega) ⟨u, g, dt⟩ x z z hzs hzs)
              have HOk3 := Lib.hid (show SyOk (Z1.nameF ⟨u, g⟩ x z z).1 (N + 20 + 1000 * (ns.length + 1)) from by
                have h := hok.nameL (c := ⟨u, g⟩) (x := x) (text := z) (l := namesL z)
                rw [names_len] at h
                exact h.mono (by omega))
              have HTook := Lib.hid (fun he => nameL_took (c := ⟨u, g⟩) (x := x) (text := z) (l := namesL z) hst he)
              have HMem := Lib.hid (fun (he : (Z1.nameL ⟨u, g⟩ x z (namesL z)).2.2 = 0) => names_size (nameL_mem he))
              have HStep := Lib.hid (fun (Z5 : Sy) (R5 : Rp) (w5 : World) (h5 : SyAt w5 p1 q1 R5 v1 Z5) (hs5 : Stp (Rk.Y p1 q1) (R5.Y p1 q1) wr.drew w5) => (hT.keep hbd).step (hYk.keep hbd) hlk h5 hs5)
              have hu1 : (⟨u, g, dt⟩ : Us).c = ⟨u, g⟩ := rfl
              rw [hu1] at HNm
              have hnf : Z1.nameL ⟨u, g⟩ x z (namesL z) = Z1.nameF ⟨u, g⟩ x z z := rfl
              rw [hnf] at HTook HMem
              generalize Z1.nameF ⟨u, g⟩ x z z = r at HNm HOk3 HTook HMem
              obtain ⟨Z5, n, e2⟩ := r
              dsimp only at HNm HOk3 HTook HMem
              have HFine := Lib.hid hok.fine
              have HNs1 := Lib.hid hns
              have HZc := Lib.hid (And.intro hzc hzb)
              obtain ⟨bc, bf, bz⟩ := hT.c.facts
              obtain ⟨xc, xf, xz⟩ := hT.x.facts
              have hSb : ∀ w' : World, Below wr.heap.size wr w' → SNa w' w.heap.size Bd zb (zo + ns.length) #[.slice ma mn mc, .slice ia il ic, .int .i64 u, .int .i64 g, .string dt, .string pt, .string tx, .int .i64 no, .int .i64 now, .slice none 0 0] x z := fun w' hb => ⟨hT.c.keep hb, hT.x.keep hb, hZi _ (bnext hT.b hb)⟩
              have hSd := hSb _ hbd
              clear hT hok hst hns hYk hu1 hnf hZi
              go_upto_region 14 with fail
              refine wp_region_held_drew (S := fun w' => SNa w' w.heap.size Bd zb (zo + ns.length) #[.slice ma mn mc, .slice ia il ic, .int .i64 u, .int .i64 g, .string dt, .string pt, .string tx, .int .i64 no, .int .i64 now, .slice none 0 0] x z) (by kernel_rfl) hSd (fun hHeld => ?_)
              refine reg_take 0 67 (v := ?vze0) rfl rfl (by kernel_rfl) (by kernel_rfl) (by kernel_rfl) (fun _ _ _ h => h) rfl ?yze0 hHeld ?_
              case yze0 => (intro w9 hSw; go_simp; (try with_reducible rfl))
              simp only [List.setIfInBounds_toArray, List.set_cons_zero, List.set_cons_succ]
              refine reg_take 1 68 (v := ?vze1) rfl rfl (by kernel_rfl) (by kernel_rfl) (by kernel_rfl) (fun _ _ _ h => h) rfl ?yze1 hHeld ?_
              case yze1 => (intro w9 hSw; go_simp; (try with_reducible rfl))
              simp only [List.setIfInBounds_toArray, List.set_cons_zero, List.set_cons_succ]
              refine reg_take 2 69 (v := ?vze2) rfl rfl (by kernel_rfl) (by kernel_rfl) (by kernel_rfl) (fun _ _ _ h => h) rfl ?yze2 hHeld ?_
              case yze2 => (intro w9 hSw; obtain ⟨a1, -, -⟩ := hSw.c.facts; go_simp; (try with_reducible rfl))
              simp only [List.setIfInBounds_toArray, List.set_cons_zero, List.set_cons_succ]
              refine reg_take 3 70 (v := ?vze3) rfl rfl (by kernel_rfl) (by kernel_rfl) (by kernel_rfl) (fun _ _ _ h => h) rfl ?yze3 hHeld ?_
              case yze3 => (intro w9 hSw; obtain ⟨a1, -, -⟩ := hSw.x.facts; go_simp; (try with_reducible rfl))
              simp only [List.setIfInBounds_toArray, List.set_cons_zero, List.set_cons_succ]
              refine reg_take 4 71 (v := ?vze4) rfl rfl (by kernel_rfl) (by kernel_rfl) (by kernel_rfl) (fun _ _ _ h => h) rfl ?yze4 hHeld ?_
              case yze4 => (intro w9 hSw; go_simp; (try with_reducible rfl))
              simp only [List.setIfInBounds_toArray, List.set_cons_zero, List.set_cons_succ]
              refine reg_take 5 72 (v := ?vze5) rfl rfl (by kernel_rfl) (by kernel_rfl) (by kernel_rfl) (fun _ _ _ h => h) rfl ?yze5 hHeld ?_
              case yze5 => (intro w9 hSw; go_simp; (try with_reducible rfl))
              simp only [List.setIfInBounds_toArray, List.set_cons_zero, List.set_cons_succ]
              refine reg_take 6 73 (v := ?vze6) rfl rfl (by kernel_rfl) (by kernel_rfl) (by kernel_rfl) (fun _ _ _ h => h) rfl ?yze6 hHeld ?_
              case yze6 => (intro w9 hSw; go_simp; (try with_reducible rfl))
              simp only [List.setIfInBounds_toArray, List.set_cons_zero, List.set_cons_succ]
              refine reg_take 7 74 (v := ?vze7) rfl rfl (by kernel_rfl) (by kernel_rfl) (by kernel_rfl) (fun _ _ _ h => h) rfl ?yze7 hHeld ?_
              case yze7 => (intro w9 hSw; have a1 := hSw.z; go_simp; (try with_reducible rfl))
              simp only [List.setIfInBounds_toArray, List.set_cons_zero, List.set_cons_succ]
              refine reg_take 8 75 (v := ?vze8) rfl rfl (by kernel_rfl) (by kernel_rfl) (by kernel_rfl) (fun _ _ _ h => h) rfl ?yze8 hHeld ?_
              case yze8 => (intro w9 hSw; go_simp; (try with_reducible rfl))
              simp only [List.setIfInBounds_toArray, List.set_cons_zero, List.set_cons_succ]
              refine reg_take 9 76 (v := ?vze9) rfl rfl (by kernel_rfl) (by kernel_rfl) (by kernel_rfl) (fun _ _ _ h => h) rfl ?yze9 hHeld ?_
              case yze9 => (intro w9 hSw; go_simp; (try with_reducible rfl))
              simp only [List.setIfInBounds_toArray, List.set_cons_zero, List.set_cons_succ]
              refine reg_take 10 77 (v := ?vze10) rfl rfl (by kernel_rfl) (by kernel_rfl) (by kernel_rfl) (fun _ _ _ h => h) rfl ?yze10 hHeld ?_
              case yze10 => (intro w9 hSw; go_simp; (try with_reducible rfl))
              simp only [List.setIfInBounds_toArray, List.set_cons_zero, List.set_cons_succ]
              refine reg_take 11 78 (v := ?vze11) rfl rfl (by kernel_rfl) (by kernel_rfl) (by kernel_rfl) (fun _ _ _ h => h) rfl ?yze11 hHeld ?_
              case yze11 => (intro w9 hSw; have a1 := hSw.z; go_simp; (try with_reducible rfl))
              simp only [List.setIfInBounds_toArray, List.set_cons_zero, List.set_cons_succ]
              refine reg_call 12 79 (R := fun v w' => v = .tuple #[.string n, .int .i64 e2] ∧ ∃ R', SyAt w' p1 q1 R' v1 Z5 ∧ Stp (Rk.Y p1 q1) (R'.Y p1 q1) wr.drew w') (by kernel_rfl) rfl rfl rfl ?xcN (HNm.out.mono (fun e w' ⟨he, hw⟩ => ⟨_, he, rfl, hw⟩)) (fun v w' ⟨_, R', h3, hs3⟩ => by
                have hI9 := HStep.out Z5 R' w' h3 hs3
                exact ⟨hI9.c, hI9.x, HZi.out _ hI9.b⟩) ?_
              case xcN => (go_simp; (try rfl))
              rintro _ w5 ⟨rfl, R5, hY5, hS5⟩
              simp only [List.setIfInBounds_toArray, List.set_cons_zero, List.set_cons_succ]
              have hS9 : SNa w5 w.heap.size Bd zb (zo + ns.length) #[.slice ma mn mc, .slice ia il ic, .int .i64 u, .int .i64 g, .string dt, .string pt, .string tx, .int .i64 no, .int .i64 now, .slice none 0 0] x z := by
                have hI9 := HStep.out Z5 R5 w5 hY5 hS5
                exact ⟨hI9.c, hI9.x, HZi.out _ hI9.b⟩
              refine reg_take 13 66 (v := ?vzf13) rfl rfl (by kernel_rfl) (by kernel_rfl) (by kernel_rfl) (fun _ _ _ h => h) rfl ?yzf13 hS9 ?_
              case yzf13 => (intro w9 hSw; go_simp; (try with_reducible rfl))
              simp only [List.setIfInBounds_toArray, List.set_cons_zero, List.set_cons_succ]
              refine reg_take 14 80 (v := ?vzf14) rfl rfl (by kernel_rfl) (by kernel_rfl) (by kernel_rfl) (fun _ _ _ h => h) rfl ?yzf14 hS9 ?_
              case yzf14 => (intro w9 hSw; go_simp; (try with_reducible rfl))
              simp only [List.setIfInBounds_toArray, List.set_cons_zero, List.set_cons_succ]
              refine reg_take 15 81 (v := ?vzf15) rfl rfl (by kernel_rfl) (by kernel_rfl) (by kernel_rfl) (fun _ _ _ h => h) rfl ?yzf15 hS9 ?_
              case yzf15 => (intro w9 hSw; go_simp; (try with_reducible rfl))
              simp only [List.setIfInBounds_toArray, List.set_cons_zero, List.set_cons_succ]
              refine reg_take 16 11 (v := ?vzf16) rfl rfl (by kernel_rfl) (by kernel_rfl) (by kernel_rfl) (fun _ _ _ h => h) rfl ?yzf16 hS9 ?_
              case yzf16 => (intro w9 hSw; go_simp; (try with_reducible rfl))
              simp only [List.setIfInBounds_toArray, List.set_cons_zero, List.set_cons_succ]
              refine reg_take 17 12 (v := ?vzf17) rfl rfl (by kernel_rfl) (by kernel_rfl) (by kernel_rfl) (fun _ _ _ h => h) rfl ?yzf17 hS9 ?_
              case yzf17 => (intro w9 hSw; go_simp; (try with_reducible rfl))
              simp only [List.setIfInBounds_toArray, List.set_cons_zero, List.set_cons_succ]
              refine wpAnyH_done (by kernel_rfl) ?_ _
              clear hS9 hHeld hSb hSd
              have hT5 := HStep.out Z5 R5 w5 hY5 hS5
              have HT5 := Lib.hid hT5
              have hzc5 := HZi.out _ hT5.b
              clear hT5 hY5 hS5
              have hz63 := hzs
              by_cases hz3 : 300 < z.size
              · have hz3b : decide (300 < z.size) = true := by simpa using hz3
                have hz3c : decide ((300 : Int) < (z.size : Int)) = true := by
                  rw [decide_eq_true_eq]
                  omega
                go_wp2_with fail
                refine (HAw.out _).mono ?_
                rintro e y1 ⟨rfl, hby1⟩
                have HBy1 := Lib.hid (bnext HT5.out.b hby1)
                clear hby1
                go_wp2_with fail
                go_ret
                exact ⟨rfl, HBy1.out⟩
              · have hz3b : decide (300 < z.size) = false := by simpa using hz3
                have hz3c : decide ((300 : Int) < (z.size : Int)) = false := by
                  rw [decide_eq_false_iff_not]
                  omega
                by_cases he2 : e2 = 0
                · have heb : (e2 != 0) = false := by simpa using he2
                  subst he2
                  have hnz := HMem.out rfl
                  obtain ⟨n', now', hn', hst5, htk, hfe, hfs⟩ := HTook.out rfl
                  subst hn'
                  obtain ⟨⟨fno, hlook, hread⟩, hf1, hf2, hnew, hhas, hmono⟩ := took_all HFine.out sfx_ne htk hfe
                  rw [← hfs] at hlook hread hf1 hf2 hhas hmono
                  have HP := Lib.hid (And.intro hst5 (And.intro hlook (And.intro hread (And.intro hf1 (And.intro hf2 (And.intro hhas hmono))))))
                  have HNin := Lib.hid (fun (k : Nat) (hk : k < ns.length) => show str ns[k] ≠ n from fun e => HNs1.out ns[k] (List.getElem_mem hk) (by rw [e]; exact hnew))
                  clear hst5 htk hfe hfs hlook hread hf1 hf2 hnew hhas hmono
                  go_wp2_with fail
                  go_loopw [13] (fun t13 wq => ∃ k : Nat, k ≤ ns.length ∧ t13 = .int .i64 k ∧ w5 = wq) (fun t13 _ => ns.length - (intOf t13).toNat)
                  case atStart => exact ⟨0, Nat.zero_le _, rfl, rfl⟩
                  case round =>
                    obtain ⟨k, hk, rfl, rfl⟩ := hrel
                    by_cases hkl : k < ns.length
                    · have hkl2 : (k : Int) < (ns.length : Int) := by omega
                      have hk0 : ¬ (k : Int) < 0 := by omega
                      obtain ⟨g9, hg9, hg9z, hg9c⟩ := HT5.out.n.at' k hkl
                      subst hg9
                      have hneb := str_bne (HNin.out k hkl)
                      generalize ns[k] = m9 at hg9c hneb
                      go_wp2_with fail
                      go_roundw
                      case measure => simp [intOf]; omega
                      case rel => exact ⟨k + 1, by omega, by go_num, by trivial⟩
                    · have hke : k = ns.length := by omega
                      subst hke
                      obtain ⟨g8, cap8, w8, hap, hT8⟩ := HT5.out.push n (by omega)
                      have HA8 := Lib.hid hap
                      have HT8 := Lib.hid hT8
                      clear hap hT8
                      go_wp2_with (at_builtin; refine wpList_app_run rfl rfl rfl rfl HA8.out ?_)
                      obtain ⟨R8, hY8, hl8⟩ := HT8.out.y
                      have hok8 := HOk3.out.fine.ok
                      have hd8 := HP.out.1.dead
                      have HL8 := Lib.hid (fun w9 (hb : Below w8.heap.size w8 w9) => slook_any (hY8.keep hb) hok8 (by omega) ⟨u, g⟩ x.info (n ++ nSfx))
                      rw [hd8, HP.out.2.1] at HL8
                      have HRe := Lib.hid (fun w9 (hb : Below w8.heap.size w8 w9) => sreadF_any (hY8.keep hb) hok8 hd8 ⟨u, g⟩ fno)
                      rw [HP.out.2.2.1] at HRe
                      dsimp only at HL8 HRe
                      obtain ⟨a1, ea1, el1, ec1, q1b, he1, hen1, -, hg1⟩ := wget_u hY8.wd x.files
                      obtain ⟨a2, ea2, el2, ec2, q2b, he2', hen2, -, hg2⟩ := wget_u hY8.wd x.way
                      have HG1 := Lib.hid hg1
                      have HG2 := Lib.hid hg2
                      have HF1 := Lib.hid (fun w9 (hb : Below w8.heap.size w8 w9) => rfind_any a1.ents ea1 el1 ec1 n w9 (he1.keep hb))
                      have HF2 := Lib.hid (fun w9 (hb : Below w8.heap.size w8 w9) => rfind_any a2.ents ea2 el2 ec2 n w9 (he2'.keep hb))
                      rw [hen1, HP.out.2.2.2.1] at HF1
                      rw [hen2, HP.out.2.2.2.2.1] at HF2
                      have HPC := Lib.hid (fun w9 (hb : Below w8.heap.size w8 w9) => show (w9.cell? ⟨p1, 0, none⟩ = some (.pointer (some ⟨q1, 0, none⟩)) ∧ w9.cell? ⟨q1, 0, none⟩ = some (.pointer (some ⟨R8.pt, 0, none⟩))) ∧ p1 < w9.heap.size ∧ q1 < w9.heap.size from
                        ⟨⟨(hb.cell (p := ⟨p1, 0, none⟩) hY8.blk.facts.2.2).trans (hY8.blk.facts.1 0), (hb.cell (p := ⟨q1, 0, none⟩) hY8.wd.blk.facts.2.2).trans (hY8.wd.blk.facts.1 0)⟩, Nat.lt_of_lt_of_le hY8.blk.lt hb.size, Nat.lt_of_lt_of_le hY8.wd.blk.lt hb.size⟩)
                      have hnz2 : ¬ 9223372036854775807 < n.size + 10 := by omega
                      clear hY8 hl8 hok8 hd8 hg1 hg2 he1 he2' hen1 hen2 bc bf bz xc xf xz
                      obtain ⟨bc, bf, bz⟩ := HT8.out.c.facts
                      obtain ⟨xc, xf, xz⟩ := HT8.out.x.facts
                      go_upto_region 23 with fail
                      go_cut [14, 15] (fun t14 t15 wx => t14 = .int .i64 fno ∧ t15 = .int .i64 0 ∧ Below w8.heap.size w8 wx)
                      case first =>
                        unfold nSfx at HL8
                        go_region_held3 (fun w' => (∀ b o, b < w8.heap.size → w'.cell? ⟨b, o, none⟩ = w8.cell? ⟨b, o, none⟩) ∧ Below w8.heap.size w8 w') (first | with_reducible assumption | with_reducible exact keepS_here _ | with_reducible exact keepS_here2 _ | with_reducible exact keepS_call (by assumption) (by assumption) | with_reducible exact keepS_alloc (by assumption) _ | with_reducible exact keepS_allocD (by assumption) _ | with_reducible exact keepS_realloc (by assumption) (by assumption) | with_reducible exact keepS_set4 (by assumption) (by assumption))
                          ((first
                            | (go_at_call 18; ((with_reducible refine (HCd.out _).mono ?_); rintro e w9 ⟨rfl, hb9⟩))
                            | (go_at_call 17; ((with_reducible refine (HL8.out _ (And.right (by assumption))).mono ?_); rintro e w10 ⟨rfl, hb10⟩))))
                        all_goals
                          have hbz : Below w8.heap.size w8 w10 := And.right (by assumption)
                          have HBz := Lib.hid hbz
                          clear hbz
                          go_wp2_with fail
                          go_meet
                          exact ⟨rfl, rfl, HBz.out⟩
                      case rest =>
                        obtain ⟨rfl, rfl, hb10⟩ := hcut
                        generalize wc = w10 at hb10 ⊢
                        have HB10 := Lib.hid hb10
                        have hT10 := HT8.out.keep hb10
                        clear hb10 bc bf bz xc xf xz
                        obtain ⟨bc, bf, bz⟩ := hT10.c.facts
                        go_wp2_with fail
                        refine (HCd.out _).mono ?_
                        rintro e w11 ⟨rfl, hb11⟩
                        have HB11 := Lib.hid (bnext HB10.out hb11)
                        clear hb11 bc bf bz hT10
                        go_wp2_with fail
                        refine (HRe.out _ HB11.out).mono ?_
                        rintro e w12 ⟨rfl, hb12⟩
                        have HB12 := Lib.hid (bnext HB11.out hb12)
                        clear hb12
                        obtain ⟨⟨pc, qc⟩, hpz, hqz⟩ := HPC.out _ HB12.out
                        have hT12 := HT8.out.keep HB12.out
                        obtain ⟨xc, xf, xz⟩ := hT12.x.facts
                        have HG1b := Lib.hid (fun w9 (hb : Below w12.heap.size w12 w9) => HG1.out w9 (bnext HB12.out hb))
                        clear hT12
                        go_upto_region 25 with fail
                        go_cut [18, 19] (fun t18 t19 wx => ∃ Be : Nat, t18 = .pointer (some ⟨Be, 0, none⟩) ∧ t19 = .bool q1b ∧ Blk wx Be #[.int .i64 a1.no, .int .i64 a1.dev, .int .i64 a1.kind, .int .i64 a1.mode, .int .i64 a1.uid, .int .i64 a1.gid, .int .i64 a1.mtime, .int .i64 a1.ctime, .int .i64 a1.links, .int .i64 a1.up, .string a1.data, .slice ea1 el1 ec1] 49 ∧ Below w12.heap.size w12 wx)
                        case first =>
                          go_wp2_with fail
                          have hzz : w12.heap.size ≤ w12.heap.size := Nat.le_refl _
                          go_region_held3 (fun w' => (∀ b o, b < w12.heap.size → w'.cell? ⟨b, o, none⟩ = w12.cell? ⟨b, o, none⟩) ∧ Below w12.heap.size w12 w') (first | with_reducible exact keepS_set12 (by assumption) (by assumption) | (first | with_reducible assumption | with_reducible exact keepS_here _ | with_reducible exact keepS_here2 _ | with_reducible exact keepS_call (by assumption) (by assumption) | with_reducible exact keepS_alloc (by assumption) _ | with_reducible exact keepS_allocD (by assumption) _ | with_reducible exact keepS_realloc (by assumption) (by assumption) | with_reducible exact keepS_set4 (by assumption) (by assumption)))
                            ((go_at_call 13; ((with_reducible refine (HG1b.out _ (And.right ‹(∀ b o, b < w12.heap.size → _) ∧ Below w12.heap.size w12 _›)).mono ?_); rintro e w9 ⟨rfl, hb9⟩; have hz9 := Nat.le_trans (And.right ‹(∀ b o, b < w12.heap.size → _) ∧ Below w12.heap.size w12 _›).size hb9.size; try (have hbq := new_drew hb9; obtain ⟨bqc, bqf, bqz⟩ := hbq.facts))))
                          all_goals
                            obtain ⟨-, hS4⟩ := ‹_ ∧ Below w12.heap.size w12 _›
                            have HS4 := Lib.hid hS4
                            try (have HQ4 := Lib.hid hbq)
                            clear hS4
                            go_wp2_with fail
                            go_meet
                            exact ⟨_, rfl, rfl, by first | exact HQ4.out.set12 | exact Blk.new _ _ _, HS4.out⟩
                        case rest =>
                          obtain ⟨Be, rfl, rfl, hX13, hb13⟩ := hcut
                          generalize wc = w13 at hX13 hb13 ⊢
                          have HB13 := Lib.hid (bnext HB12.out hb13)
                          have HX13 := Lib.hid hX13
                          clear pc qc hpz hqz xc xf xz hb13 hX13
                          obtain ⟨⟨pc, qc⟩, hpz, hqz⟩ := HPC.out _ HB13.out
                          have hT13 := HT8.out.keep HB13.out
                          obtain ⟨xc, xf, xz⟩ := hT13.x.facts
                          have HG2b := Lib.hid (fun w9 (hb : Below w13.heap.size w13 w9) => HG2.out w9 (bnext HB13.out hb))
                          clear hT13
                          go_upto_region 26 with fail
                          go_cut [20, 21] (fun t20 t21 wx => ∃ Bg : Nat, t20 = .pointer (some ⟨Bg, 0, none⟩) ∧ t21 = .bool q2b ∧ Blk wx Bg #[.int .i64 a2.no, .int .i64 a2.dev, .int .i64 a2.kind, .int .i64 a2.mode, .int .i64 a2.uid, .int .i64 a2.gid, .int .i64 a2.mtime, .int .i64 a2.ctime, .int .i64 a2.links, .int .i64 a2.up, .string a2.data, .slice ea2 el2 ec2] 49 ∧ Below w13.heap.size w13 wx)
                          case first =>
                            go_wp2_with fail
                            have hzz : w13.heap.size ≤ w13.heap.size := Nat.le_refl _
                            go_region_held3 (fun w' => (∀ b o, b < w13.heap.size → w'.cell? ⟨b, o, none⟩ = w13.cell? ⟨b, o, none⟩) ∧ Below w13.heap.size w13 w') (first | with_reducible exact keepS_set12 (by assumption) (by assumption) | (first | with_reducible assumption | with_reducible exact keepS_here _ | with_reducible exact keepS_here2 _ | with_reducible exact keepS_call (by assumption) (by assumption) | with_reducible exact keepS_alloc (by assumption) _ | with_reducible exact keepS_allocD (by assumption) _ | with_reducible exact keepS_realloc (by assumption) (by assumption) | with_reducible exact keepS_set4 (by assumption) (by assumption)))
                              ((go_at_call 13; ((with_reducible refine (HG2b.out _ (And.right ‹(∀ b o, b < w13.heap.size → _) ∧ Below w13.heap.size w13 _›)).mono ?_); rintro e w9 ⟨rfl, hb9⟩; have hz9 := Nat.le_trans (And.right ‹(∀ b o, b < w13.heap.size → _) ∧ Below w13.heap.size w13 _›).size hb9.size; try (have hbq := new_drew hb9; obtain ⟨bqc, bqf, bqz⟩ := hbq.facts))))
                            all_goals
                              obtain ⟨-, hS4⟩ := ‹_ ∧ Below w13.heap.size w13 _›
                              have HS4 := Lib.hid hS4
                              try (have HQ4 := Lib.hid hbq)
                              clear hS4
                              go_wp2_with fail
                              go_meet
                              exact ⟨_, rfl, rfl, by first | exact HQ4.out.set12 | exact Blk.new _ _ _, HS4.out⟩
                          case rest =>
                            obtain ⟨Bg, rfl, rfl, hX14, hb14⟩ := hcut
                            generalize wc = w14 at hX14 hb14 ⊢
                            have HB14 := Lib.hid (bnext HB13.out hb14)
                            have HX14 := Lib.hid hX14
                            have HX13b := Lib.hid (HX13.out.keep hb14)
                            clear pc qc hpz hqz xc xf xz hb14 hX14
                            have hT14 := HT8.out.keep HB14.out
                            have hzc14 := HZi.out _ hT14.b
                            obtain ⟨dc, df, dz⟩ := HX13b.out.facts
                            obtain ⟨cc, cf, cz⟩ := HX14.out.facts
                            clear hT14
                            go_wp2_with fail
                            refine (HF1.out _ HB14.out).mono ?_
                            rintro e w15 ⟨rfl, hb15⟩
                            have HB15 := Lib.hid (bnext HB14.out hb15)
                            have hX15 := HX14.out.keep hb15
                            clear hb15 dc df dz cc cf cz hzc14
                            obtain ⟨cc, cf, cz⟩ := hX15.facts
                            clear hX15
                            go_wp2_with fail
                            refine (HF2.out _ HB15.out).mono ?_
                            rintro e w16 ⟨rfl, hb16⟩
                            have HB16 := Lib.hid (bnext HB15.out hb16)
                            clear hb16 cc cf cz
                            go_wp2_with fail
                            go_roundw
                            case measure => simp [intOf]; omega
                            case rel => exact ⟨Z5, ns ++ [n.data.toList], by rw [List.length_append, List.length_singleton]; omega, by simp, by rw [List.length_append, List.length_singleton]; exact HOk3.out, HP.out.1, fun m hm => by
                              rcases List.mem_append.1 hm with hm | hm
                              · exact HP.out.2.2.2.2.2.2 _ (HNs1.out m hm)
                              · rw [List.mem_singleton] at hm
                                rw [hm, str_of]
                                exact HP.out.2.2.2.2.2.1, by
                              have h := HT8.out.keep HB16.out
                              exact h⟩
                · have heb : (e2 != 0) = true := by simpa using he2
                  clear he2
                  go_wp2_with fail
                  refine (HAw.out _).mono ?_
                  rintro e y2 ⟨rfl, hby2⟩
                  have HBy2 := Lib.hid (bnext HT5.out.b hby2)
                  clear hby2
                  go_wp2_with fail
                  go_ret
                  exact ⟨rfl, HBy2.out⟩
            · have hle : ns.length = ln := by omega
              subst hle
              have HB6 := Lib.hid hT.b
              clear hT hok hst hns
              go_wp2_with fail
              refine (HAw.out _).mono ?_
              rintro e w6 ⟨rfl, hb6⟩
              have HB7 := Lib.hid (bnext HB6.out hb6)
              clear hb6
              go_wp2_with fail
              go_ret
              exact ⟨rfl, HB7.out⟩
        · have hqb : (qe != 0) = true := by simpa using hqe
          clear hqe
          go_wp2_with fail
          refine (HAw.out _).mono ?_
          rintro e w6 ⟨rfl, hb6⟩
          have HB7 := Lib.hid (bnext HT4.out.b hb6)
          clear hb6
          go_wp2_with fail
          go_ret
          exact ⟨rfl, HB7.out⟩
end Go.Proofs.YtihdbncoijhihaaGreat
