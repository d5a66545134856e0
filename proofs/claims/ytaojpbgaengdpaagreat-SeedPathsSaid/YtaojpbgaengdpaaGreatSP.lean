/- The statement SeedPaths: for every input the law answers true, and each argument reads behind the call as before. -/
import Derived.Test.YtaojpbgaengdpaaGreatSP38
import Derived.Test.YtaojpbgaengdpaaGreatSP44
import Derived.Test.YtaojpbgaengdpaaGreatSP33
import Derived.Test.YtaojpbgaengdpaaGreatSP5
import Derived.Test.YtaojpbgaengdpaaGreatRows
set_option linter.unusedVariables false
set_option linter.unusedSimpArgs false
/- The statement SeedPaths's function. -/
namespace Go.Proofs.YtaojpbgaengdpaaGreat

open Go.RowKit

theorem mem_take_succ (l : List ByteArray) (j : Nat) (hj : j < l.length) (p : ByteArray) : decide (p ∈ l.take (j + 1)) = (decide (p ∈ l.take j) || decide (p = l[j])) := by
  rw [List.take_succ_eq_append_getElem hj]
  by_cases h1 : p ∈ l.take j
  · rw [decide_eq_true h1, decide_eq_true (List.mem_append_left _ h1), Bool.true_or]
  · rw [decide_eq_false h1, Bool.false_or]
    by_cases h2 : p = l[j]
    · rw [decide_eq_true h2, decide_eq_true (List.mem_append_right _ (List.mem_singleton.2 h2))]
    · rw [decide_eq_false h2, decide_eq_false]
      intro h
      rcases List.mem_append.1 h with h | h
      · exact h1 h
      · exact h2 (List.mem_singleton.1 h)
theorem ba_same {a b : ByteArray} : (a.toList == b.toList) = decide (b = a) := by
  rw [ba_list, ba_list]
  by_cases h : b = a
  · subst h; simp
  · rw [decide_eq_false h]
    simp only [beq_eq_false_iff_ne, ne_eq]
    exact fun e => h (ba_eq e.symm)
set_option maxRecDepth 100000 in
set_option maxHeartbeats 4000000 in
theorem seedPaths_any (w : World) {ma : Option Addr} {mn mc : Nat} {ia : Option Addr} {il ic : Nat} {ms : List Mt} {is : List It} (h : SdAt w ma mn mc ia il ic ms is) :
    Calls Tryz.prog 4 #[.agg #[.slice ma mn mc, .slice ia il ic]] w fun e w' => e = .returned (.bool true) ∧ Below w.heap.size w w' := by
  have hli := h.i.1
  subst hli
  have hic := h.i.2.1
  have hix := h.i.2.2.1
  have hbX := balloc (Below.refl w.heap.size w) (.cells #[.slice ma mn mc, .slice ia is.length ic] 25)
  have hBs := Blk.new w #[.slice ma mn mc, .slice ia is.length ic] 25
  have HFw := Lib.hid (few22_any _ (h.keep ((Below.refl _ w).alloc (Nat.le_refl _) (.cells #[.slice ma mn mc, .slice ia is.length ic] 25))) 40)
  have HS := Lib.hid h
  have HAw := Lib.hid awake22_any
  clear h
  go_enter Tryz.func4, Tryz.ntmps4
  go_wp2_with fail
  refine HFw.out.mono ?_
  rintro e w1 ⟨rfl, hb1⟩
  have hB1 := hBs.keep hb1
  have hbw := bnext hbX hb1
  have HB1 := Lib.hid hB1
  have HBw := Lib.hid hbw
  obtain ⟨bc, bf, bz⟩ := hB1.facts
  have hw1 := hbw.size
  clear hBs hbX hb1 hB1 hbw
  cases hf : few22 ms is 40 with
  | false =>
    clear hf
    go_wp2_with fail
    refine (HAw.out _).mono ?_
    rintro e w2 ⟨rfl, hb2⟩
    have HB2 := Lib.hid (bnext HBw.out hb2)
    clear hb2
    go_wp2_with fail
    go_ret
    exact ⟨rfl, HB2.out⟩
  | true =>
    obtain ⟨-, hi40, -, hip⟩ := few22_of hf
    have hil : is.length ≤ 40 := by omega
    have HIp := Lib.hid (show ∀ x ∈ is, x.path.size ≤ 100000 from fun x hx => Nat.le_trans (hip x hx).1 (by omega))
    clear hf hip hi40 HFw
    go_wp2_with fail
    go_loopw [3, 4] (fun t3 t4 wr => ∃ (k : Nat), k ≤ is.length ∧ t4 = .int .i64 k ∧ OS wr w1.heap.size t3 ((onceL ((is.take k).map fun x => cleanB x.path)).map tlB) ∧ Below w1.heap.size w1 wr) (fun _ t4 _ => is.length - (intOf t4).toNat)
    case atStart => exact ⟨0, Nat.zero_le _, rfl, ⟨rfl, .inl ⟨rfl, rfl⟩⟩, Below.refl _ _⟩
    case round =>
      obtain ⟨k, hk, rfl, hO, hW⟩ := hrel
      clear bc bf bz
      obtain ⟨bc, bf, bz⟩ := (HB1.out.keep hW).facts
      have HW := Lib.hid hW
      have HO := Lib.hid hO
      by_cases hlt : k < is.length
      · have HI := Lib.hid HS.out.i
        obtain ⟨b, off, rfl, hbl⟩ := slice_some HI.out (by omega)
        obtain ⟨c0, -, -, -, -, -, -⟩ := it_cells (HI.out.below (HBw.out.trans (hW.mono hw1)) (Nat.le_refl _)) k hlt
        have HSt := Lib.hid (show (is.take (k + 1)).map (fun x => cleanB x.path) = (is.take k).map (fun x => cleanB x.path) ++ [cleanB is[k].path] by rw [List.take_succ_eq_append_getElem hlt, List.map_append]; rfl)
        have HCl := Lib.hid (rclean_any is[k].path wr (HIp.out is[k] (List.getElem_mem hlt)))
        have hpl : (onceL ((is.take k).map fun x => cleanB x.path)).length ≤ 40 := by
          have h1 := onceL_len ((is.take k).map fun x => cleanB x.path)
          rw [List.length_map, List.length_take] at h1
          omega
        generalize is[k] = it at c0 HSt HCl
        generalize cleanB it.path = p at HSt HCl
        generalize (is.take k).map (fun x => cleanB x.path) = ps at HSt HO hpl hO
        clear hO hW
        go_wp2_with fail
        refine HCl.out.mono ?_
        rintro e w3 ⟨rfl, hb3⟩
        have hO3 := HO.out.keep2 hb3
        have HW3 := Lib.hid (HW.out.trans (hb3.mono (HW.out.size)))
        have HOn := Lib.hid (onceL_snoc ps p)
        generalize onceL ps = ws at hO3 hpl HOn HO
        obtain ⟨a3, c3, rfl, hc1, hc2⟩ := hO3.len
        rw [List.length_map] at hc1 ⊢
        have HO3 := Lib.hid hO3
        clear hb3 c0 hO3 HO
        go_wp2_with fail
        go_loopw [6, 7] (fun t6 t7 w2 => ∃ (j : Nat), j ≤ ws.length ∧ t7 = .int .i64 j ∧ t6 = .bool (decide (p ∈ ws.take j)) ∧ w2 = w3) (fun _ t7 _ => ws.length - (intOf t7).toNat)
        case atStart => exact ⟨0, Nat.zero_le _, rfl, by simp, rfl⟩
        case round =>
          obtain ⟨j, hj, rfl, rfl, rfl⟩ := hrel
          by_cases hjl : j < ws.length
          · have hjm : j < (ws.map tlB).length := by rw [List.length_map]; exact hjl
            have hO4 := HO3.out
            obtain ⟨g3, rfl, hg3, hcl3⟩ := hO4.at' j hjm
            rw [List.getElem_map, str_tl] at hcl3
            have HM := Lib.hid (mem_take_succ ws j hjl p)
            have hcmp := ba_same (a := ws[j]) (b := p)
            generalize ws[j] = q at hcl3 HM hcmp
            clear hO4 hjm
            cases hm : decide (p ∈ ws.take j) with
            | true =>
              rw [hm] at HM
              clear hm
              go_wp2_with fail
              go_roundw
              case measure => simp [intOf]; omega
              case rel => exact ⟨j + 1, by omega, by go_num, by rw [HM.out]; rfl, by trivial⟩
            | false =>
              rw [hm] at HM
              clear hm
              cases hq : decide (p = q) with
              | true =>
                rw [hq] at HM hcmp
                clear hq
                go_wp2_with fail
                go_roundw
                case measure => simp [intOf]; omega
                case rel => exact ⟨j + 1, by omega, by go_num, by rw [HM.out]; rfl, by trivial⟩
              | false =>
                rw [hq] at HM hcmp
                clear hq
                go_wp2_with fail
                go_roundw
                case measure => simp [intOf]; omega
                case rel => exact ⟨j + 1, by omega, by go_num, by rw [HM.out]; rfl, by trivial⟩
          · obtain rfl : j = ws.length := by omega
            rw [List.take_length]
            by_cases hp : p ∈ ws
            · rw [if_pos hp] at HOn
              rw [decide_eq_true hp]
              clear hp
              go_wp2_with fail
              go_roundw
              case measure => simp [intOf]; omega
              case rel => exact ⟨k + 1, by omega, by go_num, by rw [HSt.out, HOn.out]; have h4 := HO3.out; rw [List.length_map] at h4; exact h4, HW3.out⟩
            · rw [if_neg hp] at HOn
              rw [decide_eq_false hp]
              obtain ⟨g4, cap4, W4, hrun, hO4, hB4⟩ := HO3.out.app (tlB p) (by rw [List.length_map]; omega) HW3.out.size
              rw [str_tl, List.length_map] at hrun
              have HR := Lib.hid hrun
              have HX := Lib.hid (And.intro hO4 hB4)
              clear hp hrun hO4 hB4
              go_wp2_with (at_builtin; refine wpList_app_run rfl rfl rfl rfl HR.out ?_)
              go_roundw
              case measure => simp [intOf]; omega
              case rel => exact ⟨k + 1, by omega, by go_num, by rw [HSt.out, HOn.out, List.map_append]; have h4 := HX.out.1; rw [List.length_map] at h4; exact h4, HW3.out.trans HX.out.2⟩
      · obtain rfl : k = is.length := by omega
        rw [List.take_length] at hO
        obtain ⟨ws, hws⟩ : ∃ ws, (onceL (is.map fun x => cleanB x.path)).map tlB = ws := ⟨_, rfl⟩
        have hbb := HBw.out.trans (hW.mono hw1)
        have HPa := Lib.hid (paths_any wr (HS.out.keep hbb) (by omega) HIp.out)
        have HBB := Lib.hid hbb
        rw [hws] at hO HPa
        clear hws
        obtain ⟨a3, c3, rfl, -, -⟩ := hO.len
        have HO3 := Lib.hid hO
        clear hO hW hbb HO
        go_wp2_with fail
        refine HPa.out.mono ?_
        rintro e w4 ⟨⟨v, rfl, hO4⟩, hb4⟩
        obtain ⟨a4, c4, rfl, -, -⟩ := hO4.len
        have HSm := Lib.hid (tsame_any a4 a3 c4 c3 ws ws w4 hO4 (HO3.out.keep2 hb4))
        rw [decide_eq_true (rfl : ws = ws)] at HSm
        have HB4 := Lib.hid (bnext HBB.out hb4)
        clear hO4 hb4 bc bf bz
        go_wp2_with fail
        refine HSm.out.mono ?_
        rintro e w5 ⟨rfl, hb5⟩
        have HB5 := Lib.hid (bnext HB4.out hb5)
        clear hb5
        go_wp2_with fail
        refine (HAw.out _).mono ?_
        rintro e w6 ⟨rfl, hb6⟩
        have HB6 := Lib.hid (bnext HB5.out hb6)
        clear hb6
        go_wp2_with fail
        go_ret
        exact ⟨rfl, HB6.out⟩
end Go.Proofs.YtaojpbgaengdpaaGreat

/- How a seed reads: its mounts and its items. -/
namespace Go.Proofs.YtaojpbgaengdpaaGreat

open Go.RowKit Go.ChangeShapes Go.WideShapes Go.ChangeAt

section

variable {H : Type} {enc : TypeId × Value → H} {w : World} {base : Nat} {spare : Nat → Bool} {held : Bool}

theorem trod_fields5 {P : Program} {t : TypeId} {fs : Array Field} {fuel : Nat} {cs : List Value} {x : DataW H × List MemPlace} (ht : P.underlying t = some (.struct fs)) (h : DataW.trod enc P w base spare held fuel t cs = some x) :
    cs.length = P.cellsOf t ∧ ∃ n, ∀ (i : Nat) (ty : TypeId) (off k : Nat) (l : List Value), (fs[i]?.map fun f => (f.type, f.offset)) = some (ty, off) → P.cellsOf ty = k → (cs.drop off).take k = l → ∃ y, DataW.trod enc P w base spare held n ty l = some y := by
  obtain ⟨xs, n, -, -, h1, h2, h3⟩ := DataW.trod_struct ht h
  refine ⟨h1, n, fun i ty off k l hf hk hl => ?_⟩
  obtain ⟨f, hf1, e⟩ := Option.map_eq_some_iff.1 hf
  clear hf
  injection e with e1 e2
  subst e1 e2 hk hl
  have hi : i < xs.length := by
    rw [h2]
    exact (Array.getElem?_eq_some_iff.1 hf1).1
  exact ⟨xs[i], by rw [h3 i f hf1, List.getElem?_eq_getElem hi]⟩
set_option maxRecDepth 100000 in
theorem trod_mt {fuel : Nat} {cs : List Value} {x : DataW H × List MemPlace} (h : DataW.trod enc Tryz.prog w base spare held fuel 48 cs = some x) : ∃ y : Mt, mtR cs y := by
  obtain ⟨h1, n, h2⟩ := trod_fields5 Tryz.underlying48 h
  have hc : Tryz.prog.cellsOf 48 = 3 := by kernel_rfl
  have c1 : Tryz.prog.cellsOf 9 = 1 := by kernel_rfl
  have c2 : Tryz.prog.cellsOf 3 = 1 := by kernel_rfl
  rw [hc] at h1
  match cs, h1 with
  | [a0, a1, a2], _ =>
    obtain ⟨y0, k0⟩ := h2 0 9 0 1 [a0] rfl c1 rfl
    obtain ⟨y1, k1⟩ := h2 1 3 1 1 [a1] rfl c2 rfl
    obtain ⟨y2, k2⟩ := h2 2 3 2 1 [a2] rfl c2 rfl
    obtain ⟨s, e0, -⟩ := trod_str Tryz.underlying9 k0
    obtain ⟨n1, e1, -⟩ := trod_i64 Tryz.underlying3 k1
    obtain ⟨n2, e2, -⟩ := trod_i64 Tryz.underlying3 k2
    simp at e0 e1 e2
    subst e0 e1 e2
    exact ⟨⟨s, n1, n2⟩, rfl⟩
set_option maxRecDepth 100000 in
theorem trod_it {fuel : Nat} {cs : List Value} {x : DataW H × List MemPlace} (h : DataW.trod enc Tryz.prog w base spare held fuel 44 cs = some x) : ∃ y : It, itR cs y := by
  obtain ⟨h1, n, h2⟩ := trod_fields5 Tryz.underlying44 h
  have hc : Tryz.prog.cellsOf 44 = 7 := by kernel_rfl
  have c1 : Tryz.prog.cellsOf 9 = 1 := by kernel_rfl
  have c2 : Tryz.prog.cellsOf 3 = 1 := by kernel_rfl
  rw [hc] at h1
  match cs, h1 with
  | [a0, a1, a2, a3, a4, a5, a6], _ =>
    obtain ⟨y0, k0⟩ := h2 0 9 0 1 [a0] rfl c1 rfl
    obtain ⟨y1, k1⟩ := h2 1 3 1 1 [a1] rfl c2 rfl
    obtain ⟨y2, k2⟩ := h2 2 3 2 1 [a2] rfl c2 rfl
    obtain ⟨y3, k3⟩ := h2 3 3 3 1 [a3] rfl c2 rfl
    obtain ⟨y4, k4⟩ := h2 4 3 4 1 [a4] rfl c2 rfl
    obtain ⟨y5, k5⟩ := h2 5 3 5 1 [a5] rfl c2 rfl
    obtain ⟨y6, k6⟩ := h2 6 9 6 1 [a6] rfl c1 rfl
    obtain ⟨s, e0, -⟩ := trod_str Tryz.underlying9 k0
    obtain ⟨n1, e1, -⟩ := trod_i64 Tryz.underlying3 k1
    obtain ⟨n2, e2, -⟩ := trod_i64 Tryz.underlying3 k2
    obtain ⟨n3, e3, -⟩ := trod_i64 Tryz.underlying3 k3
    obtain ⟨n4, e4, -⟩ := trod_i64 Tryz.underlying3 k4
    obtain ⟨n5, e5, -⟩ := trod_i64 Tryz.underlying3 k5
    obtain ⟨s6, e6, -⟩ := trod_str Tryz.underlying9 k6
    simp at e0 e1 e2 e3 e4 e5 e6
    subst e0 e1 e2 e3 e4 e5 e6
    exact ⟨⟨s, n1, n2, n3, n4, n5, s6⟩, rfl⟩
set_option maxRecDepth 100000 in
theorem trod_seed {fuel : Nat} {cs : List Value} {x : DataW H × List MemPlace} (h : DataW.trod enc Tryz.prog w base spare held fuel 25 cs = some x) :
    ∃ ma mn mc ia il ic ms is, cs = [.slice ma mn mc, .slice ia il ic] ∧ SdAt w ma mn mc ia il ic ms is := by
  obtain ⟨h1, n, h2⟩ := trod_fields5 Tryz.underlying25 h
  have hc : Tryz.prog.cellsOf 25 = 2 := by kernel_rfl
  have c1 : Tryz.prog.cellsOf 22 = 1 := by kernel_rfl
  have c2 : Tryz.prog.cellsOf 23 = 1 := by kernel_rfl
  rw [hc] at h1
  match cs, h1 with
  | [a0, a1], _ =>
    obtain ⟨y0, k0⟩ := h2 0 22 0 1 [a0] rfl c1 rfl
    obtain ⟨y1, k1⟩ := h2 1 23 1 1 [a1] rfl c2 rfl
    obtain ⟨ma, mn, mc, ms, e0, hm⟩ := open_sl (R := mtR) (sz := 3) Tryz.underlying22 (by kernel_rfl) (by decide) (fun fuel cs x h => trod_mt h) k0
    obtain ⟨ia, il, ic, is, e1, hi⟩ := open_sl (R := itR) (sz := 7) Tryz.underlying23 (by kernel_rfl) (by decide) (fun fuel cs x h => trod_it h) k1
    simp at e0 e1
    subst e0 e1
    exact ⟨ma, mn, mc, ia, il, ic, ms, is, rfl, ⟨hm, hi⟩⟩
end

end Go.Proofs.YtaojpbgaengdpaaGreat

/- The statement SeedPaths: for every input the law answers true, and each argument reads behind the call as before. -/
namespace Go.Proofs.YtaojpbgaengdpaaGreat.seedPaths

open Go.ChangeShapes Go.WideShapes Go.ChangeAt Go.RowKit

set_option linter.unusedVariables false

theorem own : ownKnob Tryz.prog.godebug = none := by kernel_rfl
theorem laidOut : laidOutB Tryz.prog = true := by kernel_rfl

set_option maxRecDepth 100000 in
theorem lifted (os : Os) (started : os.Started) (H : Type) (enc : TypeId × Value → H) :
    ReturnsInHanded {} Tryz.checked os 4 .any (Rows.seedPathsSpec.pre6 enc Tryz.prog Tryz.f4 Rows.seedPathsRow.domain false) (Rows.seedPathsSpec.post enc Tryz.prog Tryz.f4 false true false false) := by
  refine returnsInHanded_of_change (C := Tryz.checked) own started (by kernel_rfl) Tryz.func4
    (ChangeSpec.witness6 (enc := enc) (C := Tryz.checked) false ⟨#[], #[.agg #[.slice none 0 0, .slice none 0 0]], []⟩ 8 (by kernel_rfl) (by kernel_rfl) (by kernel_rfl) (by kernel_rfl)) ?_
  intro W base args ds gs before hval0 hW hcnd _
  have hval : ∀ (j : Nat) t v, Tryz.f4.params[j]? = some t → args[j]? = some v → Value.okWide Tryz.prog W .any base t v := hval0
  have hW' := hW
  obtain ⟨p, q, hA0, hV, rfl, hfz, hnd⟩ := hW
  have hA : DataW.TrodAll enc Tryz.prog W 0 (fun _ => true) true Tryz.f4.params.toList args.toList ds p := hA0
  rw [Tryz.params4] at hA hval
  have hA2 := hA
  obtain ⟨v0, vs0, d0, ds0, p0, q0, hargs, rfl, rfl, h0, r0⟩ := trodAll_cons hA
  obtain ⟨rfl, rfl, rfl⟩ := trodAll_nil r0
  obtain rfl : args = #[v0] := by cases args; simp_all
  obtain ⟨rfl, rfl⟩ := trodVars_none hV
  obtain ⟨cs, rfl, hsz, hok⟩ := struct_ok Tryz.underlying25 (hval 0 25 v0 rfl rfl)
  obtain ⟨ma, mn, mc, ia, il, ic, ms, is, e, hsd⟩ : ∃ ma mn mc ia il ic ms is, cs = #[.slice ma mn mc, .slice ia il ic] ∧ SdAt W ma mn mc ia il ic ms is := by
    obtain ⟨fuel, hf⟩ := h0
    obtain ⟨ma, mn, mc, ia, il, ic, ms, is, e, h⟩ := trod_seed hf
    exact ⟨ma, mn, mc, ia, il, ic, ms, is, Array.ext' e, h⟩
  subst e
  clear hA0 hval0
  refine (seedPaths_any W hsd).mono fun e W' ⟨he, bel⟩ => ?_
  subst he
  exact ⟨_, rfl, _, _, _, [], _, [], hW', trodAll_mk1 (shut_bool Tryz.underlying4 _), trodAll_below laidOut bel _ _ _ _ (by kernel_rfl) hA2, rfl, bel.frame _, fun h => by cases h⟩

theorem proved : Rows.SeedPathsSaid :=
  OpenClaim.holds_of_wide 4 Tryz.f4 rfl rfl rfl rfl rfl rfl rfl ⟨rfl, rfl, rfl, rfl, rfl⟩ rfl rfl rfl rfl rfl (by kernel_rfl) Tryz.func4 (by kernel_rfl)
    (of_decide_eq_true (by kernel_rfl)) (by unfold Func.isWrapper; first | (rw [if_pos (by decide +kernel)]; kernel_rfl) | (rw [if_neg (by decide +kernel)]; exact ⟨rfl, rfl⟩))
    (fun os started H enc _ => lifted os started H enc)
#print axioms proved

end Go.Proofs.YtaojpbgaengdpaaGreat.seedPaths
