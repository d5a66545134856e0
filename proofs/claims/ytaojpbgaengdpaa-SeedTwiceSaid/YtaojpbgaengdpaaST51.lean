/- Texts of the proof, part 51. -/
import Derived.Test.YtaojpbgaengdpaaST50
set_option linter.unusedVariables false
set_option linter.unusedSimpArgs false
/- The statement SeedTwice's function. -/
namespace Go.Proofs.Ytaojpbgaengdpaa

open Go.RowKit

/-- items of the call's own. -/
def OT (w : World) (base : Nat) (v : Value) (l : List It) : Prop := w.ownsRow base 43 7 v l.length (l.flatMap itC)
theorem it_info : (Try.prog.info? 43).map (fun i => (i.zero, i.size, i.bytes)) = some (some (.agg #[.string ByteArray.empty, .int .i64 0, .int .i64 0, .int .i64 0, .int .i64 0, .int .i64 0, .string ByteArray.empty]), 7, 72) := by kernel_rfl
theorem it_news {w : World} {b off n c : Nat} {l : List It} (h : SliceAt w 7 itR (some ⟨b, off, none⟩) n c l) (j : Nat) (u : Value) (hu : (l.flatMap itC)[j]? = some u) : w.cell? (Addr.add ⟨b, off, none⟩ j) = some u := by
  obtain ⟨hl, -, -, h0 | ⟨b', off', he, hb, hel⟩⟩ := h
  · rw [show l = [] from List.eq_nil_of_length_eq_zero (by omega)] at hu; simp at hu
  · injection he with he
    injection he with e1 e2
    subst e1 e2
    have hjl : j < l.length * 7 := by
      have := (List.getElem?_eq_some_iff.1 hu).1
      rwa [flat_len itC_len] at this
    have hk : j / 7 < l.length := by omega
    obtain ⟨cs, h1, h2, h3⟩ := hel (j / 7) hk
    unfold itR at h2
    subst h2
    have h4 := h3 (j % 7) (by rw [itC_len]; omega)
    have h5 : off + j / 7 * 7 + j % 7 = off + j := by omega
    rw [h5] at h4
    have h6 : (l.flatMap itC)[j]? = (itC l[j / 7])[j % 7]? := by
      clear h4 h3 hu h1 hel hjl h5 hl hb
      induction l generalizing j with
      | nil => simp at hk
      | cons x l ih =>
        rw [List.flatMap_cons]
        by_cases hj : j < 7
        · rw [List.getElem?_append_left (by rw [itC_len]; exact hj)]
          have e1 : j / 7 = 0 := by omega
          have e2 : j % 7 = j := by omega
          simp [e1, e2]
        · rw [List.getElem?_append_right (by rw [itC_len]; omega), itC_len]
          have hk' : (j - 7) / 7 < l.length := by simp only [List.length_cons] at hk; omega
          rw [ih (j - 7) hk']
          have e1 : j / 7 = (j - 7) / 7 + 1 := by omega
          have e2 : j % 7 = (j - 7) % 7 := by omega
          simp [e1, e2]
    rw [h6, List.getElem?_eq_getElem (by rw [itC_len]; omega)] at hu
    injection hu with hu
    rw [← hu, ← h4]
    by_cases hz : j = 0
    · subst hz; simp [Addr.add]
    · simp [Addr.add, hz]
theorem OT.app {w : World} {base : Nat} {v : Value} {ls : List It} (h : OT w base v ls) {a : Option Addr} {n c : Nat} {l : List It} (hl : SliceAt w 7 itR a n c l) (hn : ls.length + l.length ≤ 100000) (hb : base ≤ w.heap.size) :
    ∃ a' c' W, (Builtin.append_ #[23, 23] 23 #[v, .slice a n c]).run Try.prog w = .ok (.slice a' (ls.length + l.length) c') W ∧ OT W base (.slice a' (ls.length + l.length) c') (ls ++ l) ∧ Below base w W := by
  obtain ⟨i0, hi, hz0, hz1, hz2⟩ := info_parts it_info
  have hln := hl.1
  by_cases h0 : n = 0
  · subst h0
    have hl0 : l = [] := List.eq_nil_of_length_eq_zero (by omega)
    subst hl0
    obtain ⟨a1, c1, rfl, -, -, -⟩ := own_form h
    exact ⟨a1, c1, w, step_app_nil _ Try.underlying23 hi h a c, by rw [List.append_nil]; exact h, Below.refl _ _⟩
  · obtain ⟨b, off, rfl, -⟩ := slice_some hl (by omega)
    obtain ⟨g, cap, W, h1, h2, h3, h4⟩ := step_app 23 Try.underlying23 hi hz0 hz1 hz2 rfl (by omega) h ⟨b, off, none⟩ n c (l.flatMap itC) (by rw [flat_len itC_len, hln]) (fun j u hu => it_news hl j u hu)
      (by intro u hu; obtain ⟨y, -, hy⟩ := List.mem_flatMap.1 hu; simp [itC] at hy; rcases hy with rfl | rfl | rfl | rfl | rfl | rfl | rfl <;> rfl) (by omega) (by unfold maxLen; omega) (by omega) hb
    refine ⟨_, cap, W, by rw [hln]; exact h1, ?_, h3.below (fun k hk => (h.lt k hk).1) hb⟩
    unfold OT
    rw [List.length_append, List.flatMap_append, hln]
    exact h2
theorem OT.slice {w : World} {base c : Nat} {a : Option Addr} {l : List It} (h : OT w base (.slice a l.length c) l) : SliceAt w 7 itR a l.length c l := own_slice (R := itR) (by omega) itC_len (fun _ => rfl) h
set_option maxRecDepth 100000 in
set_option maxHeartbeats 4000000 in
theorem seedTwice_any (w : World) {ma : Option Addr} {mn mc : Nat} {ia : Option Addr} {il ic : Nat} {ms : List Mt} {is : List It} (h : SdAt w ma mn mc ia il ic ms is) :
    Calls Try.prog 3 #[.agg #[.slice ma mn mc, .slice ia il ic]] w fun e w' => e = .returned (.bool true) ∧ Below w.heap.size w w' := by
  have hli := h.i.1
  subst hli
  have hbX := balloc (Below.refl w.heap.size w) (.cells #[.slice ma mn mc, .slice ia is.length ic] 25)
  have hBs := Blk.new w #[.slice ma mn mc, .slice ia is.length ic] 25
  have HFw := Lib.hid (few22_any _ (h.keep ((Below.refl _ w).alloc (Nat.le_refl _) (.cells #[.slice ma mn mc, .slice ia is.length ic] 25))) 20)
  have HS := Lib.hid h.i
  have HAw := Lib.hid awake22_any
  clear h
  go_enter Try.func3, Try.ntmps3
  go_wp2_with fail
  refine HFw.out.mono ?_
  rintro e w1 ⟨rfl, hb1⟩
  have hB1 := hBs.keep hb1
  have hbw := bnext hbX hb1
  have HB1 := Lib.hid hB1
  have HBw := Lib.hid hbw
  obtain ⟨bc, bf, bz⟩ := hB1.facts
  clear hBs hbX hb1 hB1 hbw
  cases hf : few22 ms is 20 with
  | false =>
    clear hf
    go_wp2_with fail
    refine (HAw.out _).mono ?_
    rintro e w2 ⟨rfl, hb2⟩
    have HB2 := Lib.hid (bnext HBw.out hb2)
    clear hb2
    go_wp2_with fail
    go_ret
    exact ⟨rfl, HB2.out⟩
  | true =>
    obtain ⟨-, hi20, -, hip⟩ := few22_of hf
    have hil : is.length ≤ 20 := by omega
    have HIp := Lib.hid hip
    clear hf hip hi20
    go_upto_region 5 with fail
    have hX1 : Blk ((w1.setCell ⟨w.heap.size, 0, none⟩ (.slice none 0 0)).alloc (.cells #[.slice none 0 0, .slice ia is.length ic] 25)) w.heap.size #[.slice none 0 0, .slice ia is.length ic] 25 := (HB1.out.set 0 (.slice none 0 0)).old _
    have hX2 : Blk ((w1.setCell ⟨w.heap.size, 0, none⟩ (.slice none 0 0)).alloc (.cells #[.slice none 0 0, .slice ia is.length ic] 25)) w1.heap.size #[.slice none 0 0, .slice ia is.length ic] 25 := by
      have := Blk.new (w1.setCell ⟨w.heap.size, 0, none⟩ (.slice none 0 0)) #[.slice none 0 0, .slice ia is.length ic] 25
      rwa [World.size_setCell] at this
    have hbX := balloc (HBw.out.setCell (show w.heap.size ≤ (⟨w.heap.size, 0, none⟩ : Addr).block from Nat.le_refl _) (.slice none 0 0)) (.cells #[.slice none 0 0, .slice ia is.length ic] 25)
    have hle := HB1.out.lt
    clear bc bf bz
    generalize (w1.setCell ⟨w.heap.size, 0, none⟩ (.slice none 0 0)).alloc (.cells #[.slice none 0 0, .slice ia is.length ic] 25) = X at hX1 hX2 hbX ⊢
    generalize w1.heap.size = Bt at hX2 hle ⊢
    have hO0 : OT (X.alloc (.cells #[] 43)).drew X.heap.size (.slice (some ⟨X.heap.size, 0, none⟩) 0 0) [] := ⟨rfl, .inr ⟨X.heap.size, 0, #[], rfl, Nat.le_refl _, Blk.new _ _ _, Nat.le_refl _, by unfold maxLen; omega, rfl, rfl⟩⟩
    have hbXD : Below X.heap.size X (X.alloc (.cells #[] 43)).drew := ((Below.refl _ X).alloc (Nat.le_refl _) _).drew
    have hS0 := HS.out.below hbX (Nat.le_refl _)
    obtain ⟨a1, c1, W1, hrun1, hO1, hb1⟩ := hO0.app (hS0.below hbXD (Nat.le_refl _)) (by simp; omega) hbXD.size
    simp only [List.length_nil, Nat.zero_add, List.nil_append] at hrun1 hO1
    have hb1 := hbXD.trans hb1
    obtain ⟨a2, c2, W2, hrun2, hO2, hb2⟩ := hO1.app (hS0.below hb1 (Nat.le_refl _)) (by omega) hb1.size
    have hb2 := hb1.trans hb2
    have k1 := hX1.keep hb1
    obtain ⟨x1, f1, z1⟩ := hX1.facts
    obtain ⟨x2, f2, z2⟩ := ((hX1.old (.cells #[] 43)).drew).facts
    obtain ⟨x3, f3, z3⟩ := k1.facts
    have k2 := hX2.keep hb2
    obtain ⟨x4, f4, z4⟩ := k2.facts
    have HP := Lib.hid (show (∃ a c, Blk (W2.setCell ⟨Bt, 1, none⟩ (.slice a2 (is.length + is.length) c2)) Bt #[.slice none 0 0, .slice a (is.length + is.length) c] 25 ∧ SliceAt (W2.setCell ⟨Bt, 1, none⟩ (.slice a2 (is.length + is.length) c2)) 7 itR a (is.length + is.length) c (is ++ is)) ∧ Blk (W2.setCell ⟨Bt, 1, none⟩ (.slice a2 (is.length + is.length) c2)) w.heap.size #[.slice none 0 0, .slice ia is.length ic] 25 ∧ Below w.heap.size w (W2.setCell ⟨Bt, 1, none⟩ (.slice a2 (is.length + is.length) c2)) from by
      have hM : Mod (fun j => j = Bt) W2 (W2.setCell ⟨Bt, 1, none⟩ (.slice a2 (is.length + is.length) c2)) := (Mod.refl (fun j => j = Bt) W2).setCell (a := ⟨Bt, 1, none⟩) (.inl rfl) _
      have hs2 : OT (W2.setCell ⟨Bt, 1, none⟩ (.slice a2 (is.length + is.length) c2)) X.heap.size (.slice a2 (is ++ is).length c2) (is ++ is) := by
        rw [List.length_append]
        exact own_mod hO2 hM (fun k hk he => by
          have q1 := (own_obj1 hO2 he).1
          have q2 := hX2.lt
          omega)
      have hs3 := hs2.slice
      rw [List.length_append] at hs3
      exact ⟨⟨a2, c2, k2.set 1 _, hs3⟩, (hX1.keep hb2).mod hM (by omega), (bnext hbX hb2).setCell (show w.heap.size ≤ (⟨Bt, 1, none⟩ : Addr).block from Nat.le_of_lt hle) _⟩)
    have mixed : Try.prog.follows .mixedOrders = true := by kernel_rfl
    clear hO0 hO1 hO2 hb1 hb2 k1 k2 hX1 hX2 hbX hbXD hS0 hle
    go_cut [] (fun wx => wx = W2.setCell ⟨Bt, 1, none⟩ (.slice a2 (is.length + is.length) c2))
    case first =>
      go_region_law_o (first | (refine step_app_run rfl rfl rfl rfl hrun1 ?_) | (refine step_app_run rfl rfl rfl rfl hrun2 ?_))
      all_goals
        go_wp2_with fail
        go_meet
        rfl
    case rest =>
      subst hcut
      clear hrun1 hrun2 x1 f1 z1 x2 f2 z2 x3 f3 z3 x4 f4 z4 mixed
      generalize W2.setCell ⟨Bt, 1, none⟩ (.slice a2 (is.length + is.length) c2) = Y at HP ⊢
      obtain ⟨⟨a, c, hT, hSl⟩, hB, hbY⟩ := HP.out
      have hI : ∀ x ∈ is, x.path.size ≤ 100000 ∧ x.data.size ≤ 100000 := fun x hx => by
        have := HIp.out x hx
        omega
      have HP1 := Lib.hid (fun wr (hb : Below Y.heap.size Y wr) => plant_any (ms := []) (ma := none) (mn := 0) (mc := 0) wr ⟨⟨rfl, Nat.le_refl _, by omega, .inl rfl⟩, HS.out.below (bnext hbY hb) (Nat.le_refl _)⟩ (by show (0 : Nat) ≤ _; omega) (by omega) (fun m hm => by cases hm) hI)
      have HP2 := Lib.hid (fun wr (hb : Below Y.heap.size Y wr) => plant_any (ms := []) (ma := none) (mn := 0) (mc := 0) wr ⟨⟨rfl, Nat.le_refl _, by omega, .inl rfl⟩, hSl.keep hb⟩ (by show (0 : Nat) ≤ _; omega) (by rw [List.length_append]; omega) (fun m hm => by cases hm) (fun x hx => hI x (by rcases List.mem_append.1 hx with h | h <;> exact h)))
      have HBY := Lib.hid hbY
      have HTw := Lib.hid (twice_len is)
      obtain ⟨x1, f1, z1⟩ := hB.facts
      obtain ⟨x2, f2, z2⟩ := hT.facts
      clear hSl hB hT hbY hI HP HIp HS HB1 HBw
      go_upto_region 6 with fail
      go_cut [4, 5] (fun t4 t5 wx => ∃ p1 q1 R1 v1 p2 q2 R2 v2, t4 = .pointer (some ⟨p1, 0, none⟩) ∧ t5 = .pointer (some ⟨p2, 0, none⟩) ∧ SyAt wx p1 q1 R1 v1 ⟨plantF [] is, 0, 0, [], false⟩ ∧ SyAt wx p2 q2 R2 v2 ⟨plantF [] (is ++ is), 0, 0, [], false⟩ ∧ Below w.heap.size w wx)
      case first =>
        go_region_held3 (fun w' => (∀ b o, b < Y.heap.size → w'.cell? ⟨b, o, none⟩ = Y.cell? ⟨b, o, none⟩) ∧ Below Y.heap.size Y w') (first | with_reducible assumption | with_reducible exact keepS_here _ | with_reducible exact keepS_here2 _ | with_reducible exact keepS_call (by assumption) (by assumption) | with_reducible exact keepS_alloc (by assumption) _ | with_reducible exact keepS_allocD (by assumption) _ | with_reducible exact keepS_realloc (by assumption) (by assumption) | with_reducible exact keepS_set4 (by assumption) (by assumption))
          ((first
            | (go_at_call 6; ((with_reducible refine (HP1.out _ (And.right (by assumption))).mono ?_); rintro e w4 ⟨p1, q1, R1, v1, Y1, rfl, hY1, rfl, -, hb4⟩; have HY1 := Lib.hid hY1; clear hY1))
            | (go_at_call 6; ((with_reducible refine (HP2.out _ (And.right (by assumption))).mono ?_); rintro e w5 ⟨p2, q2, R2, v2, Y2, rfl, hY2, rfl, -, hb5⟩; have HY2 := Lib.hid (And.intro (HY1.out.keep hb5) hY2); clear hY2))))
        all_goals
          have hbz : Below Y.heap.size Y w5 := And.right (by assumption)
          have HBZ := Lib.hid (bnext HBY.out hbz)
          go_wp2_with fail
          go_meet
          exact ⟨p1, q1, R1, v1, p2, q2, R2, v2, rfl, rfl, HY2.out.1, HY2.out.2, HBZ.out⟩
      case rest =>
        obtain ⟨p1, q1, R1, v1, p2, q2, R2, v2, rfl, rfl, hY1, hY2, hbw⟩ := hcut
        clear x1 f1 z1 x2 f2 z2 HP1 HP2 HBY
        generalize wc = wb at hY1 hY2 hbw ⊢
        have HBW := Lib.hid hbw
        have HL1 := Lib.hid (fun w2 (hb2 : Below wb.heap.size wb w2) => wlen_any (hY1.keep hb2).wd)
        have HL2 := Lib.hid (fun w2 (hb2 : Below wb.heap.size wb w2) => wlen_any (hY2.keep hb2).wd)
        dsimp only at HL1 HL2
        obtain ⟨g1, g2⟩ := HTw.out
        obtain ⟨b1, -, z1⟩ := hY1.blk.facts
        obtain ⟨b2, -, z2⟩ := hY2.blk.facts
        obtain ⟨d1, -, y1⟩ := hY1.wd.blk.facts
        obtain ⟨d2, -, y2⟩ := hY2.wd.blk.facts
        generalize (plantF [] is).ns.length = n1 at HL1 g1 g2
        generalize (plantF [] (is ++ is)).ns.length = n2 at HL2 g1
        have G1 : ((n1 : Int) ≤ (n2 : Int)) = True := by simp; omega
        have G2 : ((0 : Int) < (n1 : Int)) = True := by simp; omega
        have G3 : (0 < n1) = True := by simp; omega
        clear hY1 hY2 hbw HTw g1
        go_upto_region 9 with fail
        go_region_held3 (fun w' => (∀ b o, b < wb.heap.size → w'.cell? ⟨b, o, none⟩ = wb.cell? ⟨b, o, none⟩) ∧ Below wb.heap.size wb w') (first | with_reducible assumption | with_reducible exact keepS_here _ | with_reducible exact keepS_here2 _ | with_reducible exact keepS_call (by assumption) (by assumption) | with_reducible exact keepS_alloc (by assumption) _ | with_reducible exact keepS_allocD (by assumption) _ | with_reducible exact keepS_realloc (by assumption) (by assumption) | with_reducible exact keepS_set4 (by assumption) (by assumption))
          ((first
            | (go_at_call 7; ((with_reducible refine (HL2.out _ (And.right (by assumption))).mono ?_); rintro e w5 ⟨rfl, rfl⟩))
            | (go_at_call 7; ((with_reducible refine (HL1.out _ (And.right (by assumption))).mono ?_); rintro e w4 ⟨rfl, rfl⟩))
            | (go_at_call 5; ((with_reducible refine (HAw.out _).mono ?_); rintro e w6 ⟨rfl, hb6⟩))))
        all_goals
          have hbz : Below wb.heap.size wb w6 := And.right (by assumption)
          have HBZ := Lib.hid (bnext HBW.out hbz)
          go_wp2_with fail
          go_ret
          exact ⟨rfl, HBZ.out⟩
end Go.Proofs.Ytaojpbgaengdpaa
