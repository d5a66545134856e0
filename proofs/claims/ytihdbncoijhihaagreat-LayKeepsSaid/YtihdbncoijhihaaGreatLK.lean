/- The statement LayKeeps: for every input the law answers true, and each argument reads behind the call as before. -/
import Derived.BigQuiet
import Derived.Test.YtihdbncoijhihaaGreatLK46
import Derived.Test.YtihdbncoijhihaaGreatLK44
import Derived.Test.YtihdbncoijhihaaGreatLK48
import Derived.Test.YtihdbncoijhihaaGreatLK33
import Derived.Test.YtihdbncoijhihaaGreatLK3
import Derived.Test.YtihdbncoijhihaaGreatLK22
import Derived.Test.YtihdbncoijhihaaGreatRows
set_option linter.unusedVariables false
set_option linter.unusedSimpArgs false
/- The statement LayKeeps's function. -/
namespace Go.Proofs.YtihdbncoijhihaaGreat

open Go.RowKit Go.Shelf

attribute [local go_sem] Oper.semAt_some

theorem u64_id {x : Int} (h0 : 0 ≤ x) (h1 : x ≤ 999999) : IntKind.u64.wrap x = x := by
  unfold IntKind.wrap
  simp [IntKind.bits, IntKind.signed]
  omega
theorem fs_lasts {S : Fs} {N : Nat} (h : FsOk S N) (hN : N ≤ 999999) : 1 ≤ S.last ∧ S.last ≤ 999999 := by
  have h1 := h.d1
  have h2 := h.root S.ds[0] (List.getElem_mem (by omega))
  have h3 := h.lN
  omega
/-- a reference's tree stays where the program's turns. -/
theorem RfAt.sy {w w' : World} {pf : Nat} {Q : Rf} {S : Fs} (hr : RfAt w pf Q S) {p q : Nat} {R : Rp} {pv : Value} {Y : Sy} (h : SyAt w p q R pv Y) {F' : Nat → Prop} (hs : Stp (R.Y p q) F' w w') : RfAt w' pf Q S :=
  hr.mod hs.mod (fun k o hk ho => by
    rcases hk with rfl | hk
    · have hb := h.blk
      unfold Blk at hb
      rw [hb] at ho
      injection ho with ho
      subst ho
      exact ⟨rfl, fun cur e => by cases e⟩
    · obtain ⟨o', ho', hd⟩ := h.wd.kind hk
      rw [ho] at ho'
      injection ho' with ho'
      subst ho'
      unfold wdKind at hd
      split at hd
      · rename_i c t f
        simp only [Bool.or_eq_true, beq_iff_eq] at hd
        rcases hd with (rfl | rfl) | rfl <;> exact ⟨rfl, fun cur e => by cases e⟩
      · exact ⟨rfl, fun cur e => by cases e⟩
      · cases hd)
theorem NdC.keep {w w' : World} {g o : Nat} {a : An} {ea : Option Addr} {el ec : Nat} (h : NdC w g o a ea el ec) (hg : g < w.heap.size) (hb : Below w.heap.size w w') : NdC w' g o a ea el ec := by
  have k : ∀ (j : Nat) (v : Value), w.cell? ⟨g, j, none⟩ = some v → w'.cell? ⟨g, j, none⟩ = some v := fun j v hv => (hb.cell (p := ⟨g, j, none⟩) hg).trans hv
  exact ⟨k _ _ h.c0, k _ _ h.c1, k _ _ h.c2, k _ _ h.c3, k _ _ h.c4, k _ _ h.c5, k _ _ h.c6, k _ _ h.c7, k _ _ h.c8, k _ _ h.c9, k _ _ h.c10, k _ _ h.c11⟩
set_option maxRecDepth 100000 in
set_option maxHeartbeats 16000000 in
theorem layKeeps_any (w : World) {ma : Option Addr} {mn mc : Nat} {ia : Option Addr} {il ic : Nat} {ms : List Mt} {is : List It} (h : SdAt w ma mn mc ia il ic ms is) (u g : Int) (hu0 : -9223372036854775808 ≤ u) (hu1 : u ≤ 9223372036854775807) (dt pt tx : ByteArray) (no now : Int) {pa : Option Addr} {pn pc : Nat} {pl : List (Int × Int)} (hpl : SliceAt w 2 fltR pa pn pc pl) :
    Calls Tryz.prog 3 #[.agg #[.slice ma mn mc, .slice ia il ic, .int .i64 u, .int .i64 g, .string dt, .string pt, .string tx, .int .i64 no, .int .i64 now, .slice pa pn pc]] w fun e w' => e = .returned (.bool true) ∧ Below w.heap.size w w' := by
  have hX := Blk.new w #[.slice ma mn mc, .slice ia il ic, .int .i64 u, .int .i64 g, .string dt, .string pt, .string tx, .int .i64 no, .int .i64 now, .slice pa pn pc] 30
  have hbX := balloc (Below.refl w.heap.size w) (.cells #[.slice ma mn mc, .slice ia il ic, .int .i64 u, .int .i64 g, .string dt, .string pt, .string tx, .int .i64 no, .int .i64 now, .slice pa pn pc] 30)
  have hbI := ((Below.refl _ w).alloc (Nat.le_refl _) (.cells #[.slice ma mn mc, .slice ia il ic, .int .i64 u, .int .i64 g, .string dt, .string pt, .string tx, .int .i64 no, .int .i64 now, .slice pa pn pc] 30))
  have HFw := Lib.hid (few30_any _ (h.keep hbI) u g dt pt tx no now (pa := pa) (pc := pc) hpl.1)
  have HS := Lib.hid (And.intro h hpl)
  have HAw := Lib.hid awake31_any
  clear h hpl hbI
  go_enter Tryz.func3, Tryz.ntmps3
  go_upto_region 1 with fail
  generalize w.alloc (.cells #[.slice ma mn mc, .slice ia il ic, .int .i64 u, .int .i64 g, .string dt, .string pt, .string tx, .int .i64 no, .int .i64 now, .slice pa pn pc] 30) = w0 at hX hbX HFw ⊢
  obtain ⟨bc, bf, bz⟩ := hX.facts
  go_wp2_with fail
  refine HFw.out.mono ?_
  rintro e w1 ⟨rfl, hb1⟩
  have HB1 := Lib.hid (hX.keep hb1)
  have HBw := Lib.hid (bnext hbX hb1)
  clear hX hbX hb1 HFw bc bf bz
  obtain ⟨bc, bf, bz⟩ := HB1.out.facts
  cases hf : few30 ms is dt pt tx pl with
  | false =>
    clear hf bc bf bz
    go_wp2_with fail
    refine (HAw.out _).mono ?_
    rintro e w2 ⟨rfl, hb2⟩
    have HB2 := Lib.hid (bnext HBw.out hb2)
    clear hb2
    go_wp2_with fail
    go_ret
    exact ⟨rfl, HB2.out⟩
  | true =>
    have HBo := Lib.hid (both30_any w1 (HS.out.1.keep HBw.out) u g dt pt tx no now (HS.out.2.keep HBw.out) hf)
    obtain ⟨hf2, hdt, -, htx, hpl4⟩ := few30_of hf
    obtain ⟨hm10, hi30, -, -⟩ := few22_of hf2
    have HFi := Lib.hid (plant_fine ms is)
    have hsm := pl_small (plant_ok ms is) (plant_pl ms is)
    obtain ⟨N, hN⟩ : ∃ N, 1 + 2 * ms.length + is.length = N := ⟨_, rfl⟩
    have hNs : N ≤ 51 := by omega
    rw [hN] at HFi hsm
    have hlast := fs_lasts (plant_ok ms is) (by omega)
    generalize plantF ms is = S at HBo HFi hsm hlast
    have HNs := Lib.hid (show N ≤ 51 ∧ S.ns.length ≤ 51 from ⟨hNs, by omega⟩)
    have HDt := Lib.hid (show dt.size ≤ 100000 by omega)
    have HRf := Lib.hid (show S.rowsF N ≤ 10000 by
      unfold Fs.rowsF
      have h1 : (N + 1) * S.ns.length ≤ 52 * 51 := Nat.mul_le_mul (by omega) (by omega)
      omega)
    have hP4 := hpl4
    have HOk := Lib.hid (show SyOk ⟨S, nowI now, 0, pl, false⟩ N from ⟨HFi.out, Int.le_refl _, by show (0 : Int) ≤ _; omega, by show pl.length ≤ _; omega⟩)
    have hLpos := rows_pos (S := S) (N := N) ⟨HFi.out.ok, HFi.out.pl, HFi.out.tr, HFi.out.nm, HFi.out.wy⟩
    obtain ⟨L, hL⟩ : ∃ L, S.rows N 1 (ByteArray.mk #[47]) = L := ⟨_, rfl⟩
    rw [hL] at hLpos
    have HL := Lib.hid (And.intro hL hLpos)
    clear hf hf2 hi30 hm10 hsm hNs hN hdt htx hpl4 hP4 hL hLpos
    go_wp2_with fail
    refine HBo.out.mono ?_
    rintro e w2 ⟨p1, q1, R1, v1, pf, R2, rfl, hBo⟩
    have HB2 := Lib.hid (bnext HBw.out hBo.below)
    have HBt := Lib.hid hBo
    clear bc bf bz
    have HC2 := Lib.hid (HB1.out.keep hBo.below)
    obtain ⟨bc, bf, bz⟩ := HC2.out.facts
    obtain ⟨rc, rf, rz⟩ := hBo.r.blk.facts
    have mixed : Tryz.prog.follows .mixedOrders = true := by kernel_rfl
    have hlw := u64_id (x := S.last) (by omega) hlast.2
    have hlz : ¬ S.last = 0 := by omega
    clear hBo
    go_upto_region 6 with fail
    have HCh := Lib.hid (fun (w3 : World) (hb : Below w2.heap.size w2 w3) (k : Int) => lchoose_any (HBt.out.y.keep hb) HOk.out (by have := HNs.out.1; omega) rfl ⟨u, g, dt⟩ hu0 hu1 HDt.out k)
    dsimp only at HCh
    refine wp_region_lex 14 mixed (by kernel_rfl) (show PanicOk _ from by repeat (first | exact pk_body | refine pk_then ?_ | refine pk_block ?_ | refine pk_scope ?_)) ?_
    simp only [List.take_succ_cons, List.take_zero, List.drop_succ_cons, List.drop_zero]
    repeat still_step
    refine wpStill_nil ?_
    have hw64 : ∀ x : Int, IntKind.i64.wrap x = wrap64 x := fun x => by unfold wrap64; exact IntKind.wrap_i64 x
    simp only [hw64]
    generalize wrap64 ((IntKind.u64.wrap no).tmod S.last) = n1
    generalize wrap64 (1 + n1) = n2
    clear hw64
    have hbd := (Below.refl w2.heap.size w2).drew
    go_wp2_with fail
    have HBd := Lib.hid hbd
    clear hbd bc bf bz rc rf rz
    refine (HCh.out _ HBd.out _).mono ?_
    have HKp := Lib.hid (Keep.chooseF HOk.out ⟨u, g, dt⟩ n2)
    generalize Sy.chooseF ⟨S, nowI now, 0, pl, false⟩ ⟨u, g, dt⟩ n2 = q at HKp ⊢
    obtain ⟨Z, qx, qe⟩ := q
    dsimp only at HKp ⊢
    rintro e w3 ⟨rfl, R3, hY3, hS3⟩
    have hr3 := (HBt.out.r.keep HBd.out).sy (HBt.out.y.keep HBd.out) hS3
    have hB3 := HB2.out.trans ((HBd.out.mono HB2.out.size).trans ((hS3.below HBt.out.f1 (Nat.le_trans HBt.out.below.size HBd.out.size)).mono HBw.out.size))
    have HB3 := Lib.hid hB3
    have hG : 0 < R2.G.length := by
      have h1 := hr3.len
      have h2 := HFi.out.pl.len
      omega
    have hG51 : R2.G.length ≤ 51 := by
      have h1 := hr3.len
      have h2 := HNs.out.2
      omega
    obtain ⟨ng, ncap, hnv, hle, h63, hng, hcells, -, -⟩ := hr3.nodeF hG
    have hblk := hr3.blk
    rw [hnv] at hblk
    obtain ⟨fc, -, fz⟩ := hblk.facts
    have hfc : w3.cell? ⟨pf, 0, none⟩ = some (.slice (some ⟨ng, 0, none⟩) R2.G.length ncap) := fc 0
    have HF3 := Lib.hid (fun wr (hb : Below w3.heap.size w3 wr) => show wr.cell? ⟨pf, 0, none⟩ = some (.slice (some ⟨ng, 0, none⟩) R2.G.length ncap) ∧ wr.cell? ⟨p1, 0, none⟩ = some (.pointer (some ⟨q1, 0, none⟩)) ∧ wr.cell? ⟨q1, 0, none⟩ = some (.pointer (some ⟨R3.pt, 0, none⟩)) from ⟨(hb.cell (p := ⟨pf, 0, none⟩) fz).trans hfc, (hb.cell (p := ⟨p1, 0, none⟩) hY3.blk.facts.2.2).trans (hY3.blk.facts.1 0), (hb.cell (p := ⟨q1, 0, none⟩) hY3.wd.blk.facts.2.2).trans (hY3.wd.blk.facts.1 0)⟩)
    have HZ3 := Lib.hid (fun wr (hb : Below w3.heap.size w3 wr) => show pf < wr.heap.size ∧ p1 < wr.heap.size ∧ q1 < wr.heap.size ∧ ng < wr.heap.size from ⟨Nat.lt_of_lt_of_le fz hb.size, Nat.lt_of_lt_of_le hY3.blk.lt hb.size, Nat.lt_of_lt_of_le hY3.wd.blk.lt hb.size, Nat.lt_of_lt_of_le hng hb.size⟩)
    have HNd := Lib.hid (fun wr (hb : Below w3.heap.size w3 wr) (i : Nat) (hi : i < R2.G.length) => (hcells i hi).keep hng hb)
    have HR3 := Lib.hid hr3
    have HY3 := Lib.hid hY3
    have HRw := Lib.hid (fun wr (hb : Below w3.heap.size w3 wr) => rrowsB_any (hr3.keep hb) HFi.out.ok HFi.out.pl HFi.out.tr HRf.out (by have := HNs.out.1; omega))
    rw [HL.out.1] at HRw
    clear hr3 hB3 hcells hblk fc fz hfc hY3 hS3 hnv hlast mixed
    go_wp2_with fail
    go_loopw [5] (fun t5 wr => ∃ i : Nat, i ≤ R2.G.length ∧ t5 = .int .i64 i ∧ Below w3.heap.size w3 wr) (fun t5 _ => R2.G.length - (intOf t5).toNat)
    case atStart => exact ⟨0, Nat.zero_le _, rfl, Below.refl _ _⟩
    case round =>
      obtain ⟨i, hi, rfl, hb⟩ := hrel
      have HB := Lib.hid hb
      obtain ⟨fc, pc, qc⟩ := HF3.out _ hb
      obtain ⟨hfz, hpz, hqz, hgz⟩ := HZ3.out _ hb
      by_cases hlt : i < R2.G.length
      · have hlt2 : (i : Int) < (R2.G.length : Int) := by omega
        have hi0 : ¬ (i : Int) < 0 := by omega
        have hi00 : (0 : Int) ≤ (i : Int) := by omega
        have hmem : R2.G[i].a ∈ S.ns := by rw [HR3.out.ns]; exact List.mem_map.2 ⟨_, List.getElem_mem hlt, rfl⟩
        have hget := an_of_mem HFi.out.ok.nums hmem
        obtain ⟨b, hgb, hK⟩ := HKp.out _ _ hget
        obtain ⟨ea, el, ec, he, hcall⟩ := wget_fix (HY3.out.keep hb).wd hgb
        have hgl := (HR3.out.ents _ (List.getElem_mem hlt)).len
        have hel := he.len
        have hnd := fun w5 hb5 => HNd.out w5 hb5 i hlt
        generalize R2.G[i] = y at hnd hget hgb hK hcall hgl
        obtain ⟨a, ga, gl, gc, gk⟩ := y
        dsimp only at hnd hget hgb hK hcall hgl
        have hle2 : gl ≤ el := by
          have := hK.ents
          omega
        have hleb : decide (el < gl) = false := by
          rw [decide_eq_false_iff_not]
          omega
        have hlec : ¬ el < gl := by omega
        obtain ⟨k0, -, -, -, -, -, -, -, -, -, -, -⟩ := hnd _ hb
        have HN := Lib.hid hnd
        have HK := Lib.hid hK
        have HCl := Lib.hid hcall
        unfold An.v at HCl
        clear hb hmem hget hgb hK he hcall hgl hel hnd
        go_upto_region 10 with fail
        go_cut [6, 7] (fun t6 t7 wx => ∃ Bd : Nat, t6 = .pointer (some ⟨Bd, 0, none⟩) ∧ t7 = .bool true ∧ Blk wx Bd #[.int .i64 b.no, .int .i64 b.dev, .int .i64 b.kind, .int .i64 b.mode, .int .i64 b.uid, .int .i64 b.gid, .int .i64 b.mtime, .int .i64 b.ctime, .int .i64 b.links, .int .i64 b.up, .string b.data, .slice ea el ec] 49 ∧ Below wr.heap.size wr wx)
        case first =>
          go_wp2_with fail
          have hzz : wr.heap.size ≤ wr.heap.size := Nat.le_refl _
          go_region_held3 (fun w' => (∀ b o, b < wr.heap.size → w'.cell? ⟨b, o, none⟩ = wr.cell? ⟨b, o, none⟩) ∧ Below wr.heap.size wr w') (first | with_reducible exact keepS_set12 (by assumption) (by assumption) | (first | with_reducible assumption | with_reducible exact keepS_here _ | with_reducible exact keepS_here2 _ | with_reducible exact keepS_call (by assumption) (by assumption) | with_reducible exact keepS_alloc (by assumption) _ | with_reducible exact keepS_allocD (by assumption) _ | with_reducible exact keepS_realloc (by assumption) (by assumption) | with_reducible exact keepS_set4 (by assumption) (by assumption)))
            ((go_at_call 13; ((with_reducible refine (HCl.out _ (And.right ‹(∀ b o, b < wr.heap.size → _) ∧ Below wr.heap.size wr _›)).mono ?_); rintro e w9 ⟨rfl, hb9⟩; have hz9 := Nat.le_trans (And.right ‹(∀ b o, b < wr.heap.size → _) ∧ Below wr.heap.size wr _›).size hb9.size; try (have hbq := new_drew hb9; obtain ⟨bqc, bqf, bqz⟩ := hbq.facts))))
          all_goals
            obtain ⟨-, hS4⟩ := ‹_ ∧ Below wr.heap.size wr _›
            have HS4 := Lib.hid hS4
            try (have HQ4 := Lib.hid hbq)
            clear hS4
            go_wp2_with fail
            go_meet
            exact ⟨_, rfl, rfl, by first | exact HQ4.out.set12 | exact Blk.new _ _ _, HS4.out⟩
        case rest =>
          obtain ⟨Bd, rfl, rfl, hX4, hb5⟩ := hcut
          generalize wc = W5 at hX4 hb5 ⊢
          clear fc pc qc k0 hpz hqz hfz
          have hB5 := HB.out.trans (hb5.mono HB.out.size)
          obtain ⟨fc, -, -⟩ := HF3.out _ hB5
          obtain ⟨k0, k1, k2, k3, k4, k5, k6, k7, k8, k9, k10, k11⟩ := HN.out _ hB5
          have hX5 := hX4.old (.cells #[.int .i64 a.no, .int .i64 a.dev, .int .i64 a.kind, .int .i64 a.mode, .int .i64 a.uid, .int .i64 a.gid, .int .i64 a.mtime, .int .i64 a.ctime, .int .i64 a.links, .int .i64 a.up, .string a.data, .slice ga gl gc] 49)
          have hX6 := Blk.new W5 #[.int .i64 a.no, .int .i64 a.dev, .int .i64 a.kind, .int .i64 a.mode, .int .i64 a.uid, .int .i64 a.gid, .int .i64 a.mtime, .int .i64 a.ctime, .int .i64 a.links, .int .i64 a.up, .string a.data, .slice ga gl gc] 49
          have HB6 := Lib.hid (balloc hB5 (.cells #[.int .i64 a.no, .int .i64 a.dev, .int .i64 a.kind, .int .i64 a.mode, .int .i64 a.uid, .int .i64 a.gid, .int .i64 a.mtime, .int .i64 a.ctime, .int .i64 a.links, .int .i64 a.up, .string a.data, .slice ga gl gc] 49))
          clear hB5 hb5 hX4
          go_upto_region 12 with fail
          generalize W5.alloc (.cells #[.int .i64 a.no, .int .i64 a.dev, .int .i64 a.kind, .int .i64 a.mode, .int .i64 a.uid, .int .i64 a.gid, .int .i64 a.mtime, .int .i64 a.ctime, .int .i64 a.links, .int .i64 a.up, .string a.data, .slice ga gl gc] 49) = W6 at hX5 hX6 HB6 ⊢
          obtain ⟨e1, e2, e3, e4, e5, -, e7⟩ := HK.out
          obtain ⟨b0, b1, b2, b3, b4, b5, b6, b7, b8, b9, b10, b11⟩ := b
          dsimp only at e1 e2 e3 e4 e5 e7 hX5
          subst e1 e2 e3 e4 e5
          clear HK HCl fc k0 k1 k2 k3 k4 k5 k6 k7 k8 k9 k10 k11
          by_cases hk1 : a.kind = 1
          · have hk1b : (a.kind != 1) = false := by simpa using hk1
            obtain ⟨xc, xf, xz⟩ := hX5.facts
            obtain ⟨yc, yf, yz⟩ := hX6.facts
            clear hX5 hX6 hk1 e7
            go_wp2_with fail
            go_roundw
            case measure => simp [intOf]; omega
            case rel => exact ⟨i + 1, by omega, by go_num, HB6.out⟩
          · have hk1b : (a.kind != 1) = true := by simpa using hk1
            obtain rfl := e7 hk1
            obtain ⟨xc, xf, xz⟩ := hX5.facts
            obtain ⟨yc, yf, yz⟩ := hX6.facts
            clear hX5 hX6 hk1 e7
            go_wp2_with fail
            go_roundw
            case measure => simp [intOf]; omega
            case rel => exact ⟨i + 1, by omega, by go_num, HB6.out⟩
      · obtain rfl : i = R2.G.length := by omega
        have HRwk := Lib.hid (HRw.out _ hb)
        clear hb pc qc
        go_wp2_with fail
        refine HRwk.out.mono ?_
        rintro e w4 ⟨v4, rfl, ho4, hb4⟩
        obtain ⟨a4, c4, rfl, hc3, hc4, -⟩ := own_form ho4
        have hLp : (0 : Int) < (L.length : Int) := by have := HL.out.2; omega
        have HB4 := Lib.hid (HB3.out.trans ((HB.out.trans (hb4.mono HB.out.size)).mono HB3.out.size))
        clear ho4 hb4 fc
        go_wp2_with fail
        refine (HAw.out _).mono ?_
        rintro e w5 ⟨rfl, hb5⟩
        have HB5 := Lib.hid (bnext HB4.out hb5)
        clear hb5
        go_wp2_with fail
        go_ret
        exact ⟨rfl, HB5.out⟩
end Go.Proofs.YtihdbncoijhihaaGreat

/- How a seed reads: its mounts and its items. -/
namespace Go.Proofs.YtihdbncoijhihaaGreat

open Go.RowKit Go.ChangeShapes Go.WideShapes Go.ChangeAt

section

variable {H : Type} {enc : TypeId × Value → H} {w : World} {base : Nat} {spare : Nat → Bool} {held : Bool}

theorem trod_fields5 {P : Program} {t : TypeId} {fs : Array Field} {fuel : Nat} {cs : List Value} {x : DataW H × List MemPlace} (ht : P.underlying t = some (.struct fs)) (h : DataW.trod enc P w base spare held fuel t cs = some x) :
    cs.length = P.cellsOf t ∧ ∃ n, ∀ (i : Nat) (ty : TypeId) (off k : Nat) (l : List Value), (fs[i]?.map fun f => (f.type, f.offset)) = some (ty, off) → P.cellsOf ty = k → (cs.drop off).take k = l → ∃ y, DataW.trod enc P w base spare held n ty l = some y := by
  obtain ⟨xs, n, -, -, h1, h2, h3⟩ := DataW.trod_struct ht h
  refine ⟨h1, n, fun i ty off k l hf hk hl => ?_⟩
  obtain ⟨f, hf1, e⟩ := Option.map_eq_some_iff.1 hf
  clear hf
  injection e with e1 e2
  subst e1 e2 hk hl
  have hi : i < xs.length := by
    rw [h2]
    exact (Array.getElem?_eq_some_iff.1 hf1).1
  exact ⟨xs[i], by rw [h3 i f hf1, List.getElem?_eq_getElem hi]⟩
set_option maxRecDepth 100000 in
theorem trod_mt {fuel : Nat} {cs : List Value} {x : DataW H × List MemPlace} (h : DataW.trod enc Tryz.prog w base spare held fuel 114 cs = some x) : ∃ y : Mt, mtR cs y := by
  obtain ⟨h1, n, h2⟩ := trod_fields5 Tryz.underlying114 h
  have hc : Tryz.prog.cellsOf 114 = 3 := by kernel_rfl
  have c1 : Tryz.prog.cellsOf 9 = 1 := by kernel_rfl
  have c2 : Tryz.prog.cellsOf 3 = 1 := by kernel_rfl
  rw [hc] at h1
  match cs, h1 with
  | [a0, a1, a2], _ =>
    obtain ⟨y0, k0⟩ := h2 0 9 0 1 [a0] rfl c1 rfl
    obtain ⟨y1, k1⟩ := h2 1 3 1 1 [a1] rfl c2 rfl
    obtain ⟨y2, k2⟩ := h2 2 3 2 1 [a2] rfl c2 rfl
    obtain ⟨s, e0, -⟩ := trod_str Tryz.underlying9 k0
    obtain ⟨n1, e1, -⟩ := trod_i64 Tryz.underlying3 k1
    obtain ⟨n2, e2, -⟩ := trod_i64 Tryz.underlying3 k2
    simp at e0 e1 e2
    subst e0 e1 e2
    exact ⟨⟨s, n1, n2⟩, rfl⟩
set_option maxRecDepth 100000 in
theorem trod_it {fuel : Nat} {cs : List Value} {x : DataW H × List MemPlace} (h : DataW.trod enc Tryz.prog w base spare held fuel 116 cs = some x) : ∃ y : It, itR cs y := by
  obtain ⟨h1, n, h2⟩ := trod_fields5 Tryz.underlying116 h
  have hc : Tryz.prog.cellsOf 116 = 7 := by kernel_rfl
  have c1 : Tryz.prog.cellsOf 9 = 1 := by kernel_rfl
  have c2 : Tryz.prog.cellsOf 3 = 1 := by kernel_rfl
  rw [hc] at h1
  match cs, h1 with
  | [a0, a1, a2, a3, a4, a5, a6], _ =>
    obtain ⟨y0, k0⟩ := h2 0 9 0 1 [a0] rfl c1 rfl
    obtain ⟨y1, k1⟩ := h2 1 3 1 1 [a1] rfl c2 rfl
    obtain ⟨y2, k2⟩ := h2 2 3 2 1 [a2] rfl c2 rfl
    obtain ⟨y3, k3⟩ := h2 3 3 3 1 [a3] rfl c2 rfl
    obtain ⟨y4, k4⟩ := h2 4 3 4 1 [a4] rfl c2 rfl
    obtain ⟨y5, k5⟩ := h2 5 3 5 1 [a5] rfl c2 rfl
    obtain ⟨y6, k6⟩ := h2 6 9 6 1 [a6] rfl c1 rfl
    obtain ⟨s, e0, -⟩ := trod_str Tryz.underlying9 k0
    obtain ⟨n1, e1, -⟩ := trod_i64 Tryz.underlying3 k1
    obtain ⟨n2, e2, -⟩ := trod_i64 Tryz.underlying3 k2
    obtain ⟨n3, e3, -⟩ := trod_i64 Tryz.underlying3 k3
    obtain ⟨n4, e4, -⟩ := trod_i64 Tryz.underlying3 k4
    obtain ⟨n5, e5, -⟩ := trod_i64 Tryz.underlying3 k5
    obtain ⟨s6, e6, -⟩ := trod_str Tryz.underlying9 k6
    simp at e0 e1 e2 e3 e4 e5 e6
    subst e0 e1 e2 e3 e4 e5 e6
    exact ⟨⟨s, n1, n2, n3, n4, n5, s6⟩, rfl⟩
set_option maxRecDepth 100000 in
theorem trod_seed {fuel : Nat} {cs : List Value} {x : DataW H × List MemPlace} (h : DataW.trod enc Tryz.prog w base spare held fuel 25 cs = some x) :
    ∃ ma mn mc ia il ic ms is, cs = [.slice ma mn mc, .slice ia il ic] ∧ SdAt w ma mn mc ia il ic ms is := by
  obtain ⟨h1, n, h2⟩ := trod_fields5 Tryz.underlying25 h
  have hc : Tryz.prog.cellsOf 25 = 2 := by kernel_rfl
  have c1 : Tryz.prog.cellsOf 22 = 1 := by kernel_rfl
  have c2 : Tryz.prog.cellsOf 23 = 1 := by kernel_rfl
  rw [hc] at h1
  match cs, h1 with
  | [a0, a1], _ =>
    obtain ⟨y0, k0⟩ := h2 0 22 0 1 [a0] rfl c1 rfl
    obtain ⟨y1, k1⟩ := h2 1 23 1 1 [a1] rfl c2 rfl
    obtain ⟨ma, mn, mc, ms, e0, hm⟩ := open_sl (R := mtR) (sz := 3) Tryz.underlying22 (by kernel_rfl) (by decide) (fun fuel cs x h => trod_mt h) k0
    obtain ⟨ia, il, ic, is, e1, hi⟩ := open_sl (R := itR) (sz := 7) Tryz.underlying23 (by kernel_rfl) (by decide) (fun fuel cs x h => trod_it h) k1
    simp at e0 e1
    subst e0 e1
    exact ⟨ma, mn, mc, ia, il, ic, ms, is, rfl, ⟨hm, hi⟩⟩
end

end Go.Proofs.YtihdbncoijhihaaGreat

/- How a case of the tree's statements reads. -/
namespace Go.Proofs.YtihdbncoijhihaaGreat

open Go.RowKit Go.ChangeShapes Go.WideShapes Go.ChangeAt

section

variable {H : Type} {enc : TypeId × Value → H} {w : World} {base : Nat} {spare : Nat → Bool} {held : Bool}

set_option maxRecDepth 100000 in
theorem trod_flt {fuel : Nat} {cs : List Value} {x : DataW H × List MemPlace} (h : DataW.trod enc Tryz.prog w base spare held fuel 242 cs = some x) : ∃ y : Int × Int, fltR cs y := by
  obtain ⟨h1, n, h2⟩ := trod_fields5 Tryz.underlying242 h
  have hc : Tryz.prog.cellsOf 242 = 2 := by kernel_rfl
  have c1 : Tryz.prog.cellsOf 3 = 1 := by kernel_rfl
  have c2 : Tryz.prog.cellsOf 39 = 1 := by kernel_rfl
  rw [hc] at h1
  match cs, h1 with
  | [a0, a1], _ =>
    obtain ⟨y0, k0⟩ := h2 0 3 0 1 [a0] rfl c1 rfl
    obtain ⟨y1, k1⟩ := h2 1 39 1 1 [a1] rfl c2 rfl
    obtain ⟨n0, e0, -⟩ := trod_i64 Tryz.underlying3 k0
    obtain ⟨n1, e1, -⟩ := trod_i64 Tryz.underlying39 k1
    simp at e0 e1
    subst e0 e1
    exact ⟨(n0, n1), rfl⟩
end

end Go.Proofs.YtihdbncoijhihaaGreat

/- How a case of the cans' statements reads. -/
namespace Go.Proofs.YtihdbncoijhihaaGreat

open Go.RowKit Go.ChangeShapes Go.WideShapes Go.ChangeAt

section

variable {H : Type} {enc : TypeId × Value → H} {w : World} {base : Nat} {spare : Nat → Bool} {held : Bool}

set_option maxRecDepth 100000 in
theorem trod_user {fuel : Nat} {cs : List Value} {x : DataW H × List MemPlace} (h : DataW.trod enc Tryz.prog w base spare held fuel 27 cs = some x) : ∃ u g s, cs = [.int .i64 u, .int .i64 g, .string s] ∧ (-9223372036854775808 ≤ u ∧ u ≤ 9223372036854775807) ∧ s.size ≤ 9223372036854775807 := by
  obtain ⟨h1, n, h2⟩ := trod_fields5 Tryz.underlying27 h
  have hc : Tryz.prog.cellsOf 27 = 3 := by kernel_rfl
  have c1 : Tryz.prog.cellsOf 3 = 1 := by kernel_rfl
  have c2 : Tryz.prog.cellsOf 9 = 1 := by kernel_rfl
  rw [hc] at h1
  match cs, h1 with
  | [a0, a1, a2], _ =>
    obtain ⟨y0, k0⟩ := h2 0 3 0 1 [a0] rfl c1 rfl
    obtain ⟨y1, k1⟩ := h2 1 3 1 1 [a1] rfl c1 rfl
    obtain ⟨y2, k2⟩ := h2 2 9 2 1 [a2] rfl c2 rfl
    obtain ⟨n0, e0, f0⟩ := trod_i64 Tryz.underlying3 k0
    obtain ⟨n1, e1, -⟩ := trod_i64 Tryz.underlying3 k1
    obtain ⟨s2, e2, h3⟩ := trod_str Tryz.underlying9 k2
    simp at e0 e1 e2
    subst e0 e1 e2
    exact ⟨n0, n1, s2, rfl, f0, h3⟩
set_option maxRecDepth 100000 in
theorem trod_case30 {fuel : Nat} {cs : List Value} {x : DataW H × List MemPlace} (h : DataW.trod enc Tryz.prog w base spare held fuel 30 cs = some x) :
    ∃ ma mn mc ia il ic ms is u g dt pt tx no now pa pn pc pl, cs = [.slice ma mn mc, .slice ia il ic, .int .i64 u, .int .i64 g, .string dt, .string pt, .string tx, .int .i64 no, .int .i64 now, .slice pa pn pc] ∧ SdAt w ma mn mc ia il ic ms is ∧ SliceAt w 2 fltR pa pn pc pl ∧ (-9223372036854775808 ≤ u ∧ u ≤ 9223372036854775807) ∧ dt.size ≤ 9223372036854775807 ∧ pt.size ≤ 9223372036854775807 ∧ tx.size ≤ 9223372036854775807 := by
  obtain ⟨h1, n, h2⟩ := trod_fields5 Tryz.underlying30 h
  have hc : Tryz.prog.cellsOf 30 = 10 := by kernel_rfl
  have c1 : Tryz.prog.cellsOf 25 = 2 := by kernel_rfl
  have c2 : Tryz.prog.cellsOf 27 = 3 := by kernel_rfl
  have c3 : Tryz.prog.cellsOf 3 = 1 := by kernel_rfl
  have c4 : Tryz.prog.cellsOf 9 = 1 := by kernel_rfl
  have c5 : Tryz.prog.cellsOf 28 = 1 := by kernel_rfl
  rw [hc] at h1
  match cs, h1 with
  | [a0, a1, a2, a3, a4, a5, a6, a7, a8, a9], _ =>
    obtain ⟨y0, k0⟩ := h2 0 25 0 2 [a0, a1] rfl c1 rfl
    obtain ⟨y1, k1⟩ := h2 1 27 2 3 [a2, a3, a4] rfl c2 rfl
    obtain ⟨y2, k2⟩ := h2 2 9 5 1 [a5] rfl c4 rfl
    obtain ⟨y3, k3⟩ := h2 3 9 6 1 [a6] rfl c4 rfl
    obtain ⟨y4, k4⟩ := h2 4 3 7 1 [a7] rfl c3 rfl
    obtain ⟨y5, k5⟩ := h2 5 3 8 1 [a8] rfl c3 rfl
    obtain ⟨y6, k6⟩ := h2 6 28 9 1 [a9] rfl c5 rfl
    obtain ⟨ma, mn, mc, ia, il, ic, ms, is, e0, hs⟩ := trod_seed k0
    obtain ⟨u, g, dt, e1, hu, hdt⟩ := trod_user k1
    obtain ⟨s2, e2, z2⟩ := trod_str Tryz.underlying9 k2
    obtain ⟨s3, e3, z3⟩ := trod_str Tryz.underlying9 k3
    obtain ⟨n4, e4, -⟩ := trod_i64 Tryz.underlying3 k4
    obtain ⟨n5, e5, -⟩ := trod_i64 Tryz.underlying3 k5
    obtain ⟨pa, pn, pc, pl, e6, hp⟩ := open_sl (R := fltR) (sz := 2) Tryz.underlying28 (by kernel_rfl) (by decide) (fun fuel cs x h => trod_flt h) k6
    simp at e0 e1 e2 e3 e4 e5 e6
    obtain ⟨rfl, rfl⟩ := e0
    obtain ⟨rfl, rfl, rfl⟩ := e1
    subst e2 e3 e4 e5 e6
    exact ⟨ma, mn, mc, ia, il, ic, ms, is, u, g, dt, s2, s3, n4, n5, pa, pn, pc, pl, rfl, hs, hp, hu, hdt, z2, z3⟩
end

end Go.Proofs.YtihdbncoijhihaaGreat

/- The statement LayKeeps: for every input the law answers true, and each argument reads behind the call as before. -/
namespace Go.Proofs.YtihdbncoijhihaaGreat.layKeeps

open Go.ChangeShapes Go.WideShapes Go.ChangeAt Go.RowKit

set_option linter.unusedVariables false

theorem own : ownKnob Tryz.prog.godebug = none := by kernel_rfl
theorem laidOut : laidOutB Tryz.prog = true := by kernel_rfl

set_option maxRecDepth 100000 in
theorem lifted (os : Os) (started : os.Started) (H : Type) (enc : TypeId × Value → H) :
    ReturnsInHanded {} Tryz.checked os 3 .any (Rows.layKeepsSpec.pre6 enc Tryz.prog Tryz.f3 Rows.layKeepsRow.domain false) (Rows.layKeepsSpec.post enc Tryz.prog Tryz.f3 false true false false) := by
  refine returnsInHanded_of_change (C := Tryz.checked) own started (by kernel_rfl) Tryz.func3
    (ChangeSpec.witness6 (enc := enc) (C := Tryz.checked) false ⟨#[], #[.agg #[.slice none 0 0, .slice none 0 0, .int .i64 0, .int .i64 0, .string ByteArray.empty, .string ByteArray.empty, .string ByteArray.empty, .int .i64 0, .int .i64 0, .slice none 0 0]], []⟩ 8 (by kernel_rfl) (by kernel_rfl) (by kernel_rfl) (by kernel_rfl)) ?_
  intro W base args ds gs before hval0 hW hcnd _
  have hval : ∀ (j : Nat) t v, Tryz.f3.params[j]? = some t → args[j]? = some v → Value.okWide Tryz.prog W .any base t v := hval0
  have hW' := hW
  obtain ⟨p, q, hA0, hV, rfl, hfz, hnd⟩ := hW
  have hA : DataW.TrodAll enc Tryz.prog W 0 (fun _ => true) true Tryz.f3.params.toList args.toList ds p := hA0
  rw [Tryz.params3] at hA hval
  have hA2 := hA
  obtain ⟨v0, vs0, d0, ds0, p0, q0, hargs, rfl, rfl, h0, r0⟩ := trodAll_cons hA
  obtain ⟨rfl, rfl, rfl⟩ := trodAll_nil r0
  obtain rfl : args = #[v0] := by cases args; simp_all
  obtain ⟨rfl, rfl⟩ := trodVars_none hV
  obtain ⟨cs, rfl, hsz, hok⟩ := struct_ok Tryz.underlying30 (hval 0 30 v0 rfl rfl)
  obtain ⟨ma, mn, mc, ia, il, ic, ms, is, u, g, dt, pt, tx, no, now, pa, pn, pc, pl, e, hsd, hsp, hu, -⟩ : ∃ ma mn mc ia il ic ms is u g dt pt tx no now pa pn pc pl, cs = #[.slice ma mn mc, .slice ia il ic, .int .i64 u, .int .i64 g, .string dt, .string pt, .string tx, .int .i64 no, .int .i64 now, .slice pa pn pc] ∧ SdAt W ma mn mc ia il ic ms is ∧ SliceAt W 2 fltR pa pn pc pl ∧ (-9223372036854775808 ≤ u ∧ u ≤ 9223372036854775807) ∧ dt.size ≤ 9223372036854775807 ∧ pt.size ≤ 9223372036854775807 ∧ tx.size ≤ 9223372036854775807 := by
    obtain ⟨fuel, hf⟩ := h0
    obtain ⟨ma, mn, mc, ia, il, ic, ms, is, u, g, dt, pt, tx, no, now, pa, pn, pc, pl, e, h⟩ := trod_case30 hf
    exact ⟨ma, mn, mc, ia, il, ic, ms, is, u, g, dt, pt, tx, no, now, pa, pn, pc, pl, Array.ext' e, h⟩
  subst e
  clear hA0 hval0
  refine (layKeeps_any W hsd u g hu.1 hu.2 dt pt tx no now hsp).mono fun e W' ⟨he, bel⟩ => ?_
  subst he
  exact ⟨_, rfl, _, _, _, [], _, [], hW', trodAll_mk1 (shut_bool Tryz.underlying4 _), trodAll_below laidOut bel _ _ _ _ (by kernel_rfl) hA2, rfl, bel.frame _, fun h => by cases h⟩

theorem proved : Rows.LayKeepsSaid :=
  OpenClaim.holds_of_wide 3 Tryz.f3 rfl rfl rfl rfl rfl rfl rfl ⟨rfl, rfl, rfl, rfl, rfl⟩ rfl rfl rfl rfl rfl (by kernel_rfl) Tryz.func3 (by kernel_rfl)
    (of_decide_eq_true (by kernel_rfl)) (by unfold Func.isWrapper; first | (rw [if_pos (by decide +kernel)]; kernel_rfl) | (rw [if_neg (by decide +kernel)]; exact ⟨rfl, rfl⟩))
    (fun os started H enc _ => lifted os started H enc)
#print axioms proved

end Go.Proofs.YtihdbncoijhihaaGreat.layKeeps
