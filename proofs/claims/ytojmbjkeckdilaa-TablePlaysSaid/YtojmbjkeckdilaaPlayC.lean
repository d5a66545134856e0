/- TablePlays, walked: the loop over the deeds. -/
import Derived.Test.YtojmbjkeckdilaaPlayB
import Derived.Test.YtojmbjkeckdilaaTableC
import Derived.Deep.RegionLaw
import Derived.Test.YtojmbjkeckdilaaReg
namespace Go.Proofs.Ytojmbjkeckdilaa
open Go.RowKit Go.Shelf

/-- a deed's thirteen cells. -/
def deedR (cs : List Value) (x : Int × Nd) : Prop := cs = .int .i64 x.1 :: x.2.cs

/-- what holds between two deeds. -/
structure PS (w wr : World) (k : Nat) (a : Option Addr) (cap : Nat) (last : Int) (L : List (Nd × Nat)) (clk : Nat) : Prop where
  tab : TabR wr (w.heap.size + 1) w.heap.size last L clk
  own : wr.ownsRow (w.heap.size + 2) 29 12 (.slice a L.length cap) L.length ((L.map (·.1)).flatMap Nd.cs)
  ents : ∀ x ∈ L, EntsOk w x.1
  bel : Below w.heap.size w wr
  pos : 0 ≤ last
  low : last ≤ k
  len : L.length ≤ k

/-- a deed's cells from place o on. -/
structure DC (W : World) (bb o : Nat) (kd : Int) (n : Nd) : Prop where
  c0 : W.cell? ⟨bb, o, none⟩ = some (.int .i64 kd)
  c1 : W.cell? ⟨bb, o + 1, none⟩ = some (.int .i64 n.no)
  c2 : W.cell? ⟨bb, o + 2, none⟩ = some (.int .i64 n.dev)
  c3 : W.cell? ⟨bb, o + 3, none⟩ = some (.int .i64 n.kind)
  c4 : W.cell? ⟨bb, o + 4, none⟩ = some (.int .i64 n.mode)
  c5 : W.cell? ⟨bb, o + 5, none⟩ = some (.int .i64 n.uid)
  c6 : W.cell? ⟨bb, o + 6, none⟩ = some (.int .i64 n.gid)
  c7 : W.cell? ⟨bb, o + 7, none⟩ = some (.int .i64 n.mtime)
  c8 : W.cell? ⟨bb, o + 8, none⟩ = some (.int .i64 n.ctime)
  c9 : W.cell? ⟨bb, o + 9, none⟩ = some (.int .i64 n.links)
  c10 : W.cell? ⟨bb, o + 10, none⟩ = some (.int .i64 n.up)
  c11 : W.cell? ⟨bb, o + 11, none⟩ = some (.string n.data)
  c12 : W.cell? ⟨bb, o + 12, none⟩ = some (.slice n.ea n.el n.ec)
  lt : bb < W.heap.size
theorem DC.keep {W W' : World} {bb o : Nat} {kd : Int} {n : Nd} {N : Nat} (h : DC W bb o kd n) (hb : Below N W W') (hN : bb < N) : DC W' bb o kd n :=
  ⟨(hb.cell (p := ⟨bb, _, none⟩) hN).trans h.c0, (hb.cell (p := ⟨bb, _, none⟩) hN).trans h.c1, (hb.cell (p := ⟨bb, _, none⟩) hN).trans h.c2, (hb.cell (p := ⟨bb, _, none⟩) hN).trans h.c3, (hb.cell (p := ⟨bb, _, none⟩) hN).trans h.c4, (hb.cell (p := ⟨bb, _, none⟩) hN).trans h.c5, (hb.cell (p := ⟨bb, _, none⟩) hN).trans h.c6, (hb.cell (p := ⟨bb, _, none⟩) hN).trans h.c7, (hb.cell (p := ⟨bb, _, none⟩) hN).trans h.c8, (hb.cell (p := ⟨bb, _, none⟩) hN).trans h.c9, (hb.cell (p := ⟨bb, _, none⟩) hN).trans h.c10, (hb.cell (p := ⟨bb, _, none⟩) hN).trans h.c11, (hb.cell (p := ⟨bb, _, none⟩) hN).trans h.c12, Nat.lt_of_lt_of_le h.lt hb.size⟩
theorem DC.of {W : World} {bb off cap len : Nat} {ds : List (Int × Nd)} (hz : SliceAt W 13 deedR (some ⟨bb, off, none⟩) len cap ds) {k : Nat} (hk : k < ds.length) {kd : Int} {n : Nd} (hd : ds[k] = (kd, n)) : DC W bb (off + k * 13) kd n := by
  obtain ⟨hx, -, -, h | ⟨b', off', he, hbb, hel⟩⟩ := hz
  · omega
  injection he with he
  injection he with e1 e2
  subst e1 e2
  obtain ⟨cs, -, hcs, hcc⟩ := hel k hk
  rw [hd] at hcs
  unfold deedR Nd.cs at hcs
  subst hcs
  exact ⟨hcc 0 (by simp), hcc 1 (by simp), hcc 2 (by simp), hcc 3 (by simp), hcc 4 (by simp), hcc 5 (by simp), hcc 6 (by simp), hcc 7 (by simp), hcc 8 (by simp), hcc 9 (by simp), hcc 10 (by simp), hcc 11 (by simp), hcc 12 (by simp), hbb⟩
theorem PS.below {w wr w' : World} {k : Nat} {a : Option Addr} {cap : Nat} {last : Int} {L : List (Nd × Nat)} {clk : Nat} (h : PS w wr k a cap last L clk) (hb : Below wr.heap.size wr w') : PS w w' k a cap last L clk :=
  ⟨⟨h.tab.tab.keep hb, h.tab.rise, h.tab.low, h.tab.high, h.tab.born, h.tab.bornOnce, h.tab.short⟩, own_below h.own hb (Nat.le_refl _), h.ents, bnext h.bel hb, h.pos, h.low, h.len⟩
theorem ents_below {w w' : World} {n : Nd} (h : EntsOk w n) (hb : Below w.heap.size w w') : EntsOk w' n := by
  obtain ⟨xs, hx⟩ := h
  exact ⟨xs, hx.below hb (Nat.le_refl _)⟩

theorem node_info : (Try.prog.info? 29).map (fun i => (i.size, i.bytes, (i.zero.map (fun z => z.cells.size)))) = some (12, 120, some 12) := by kernel_rfl
theorem node_parts : ∃ i z, Try.prog.info? 29 = some i ∧ i.zero = some z ∧ i.size = 12 ∧ i.bytes = 120 ∧ z.cells.size = 12 := by
  obtain ⟨i, hi, h⟩ := Option.map_eq_some_iff.1 node_info
  injection h with h1 h
  injection h with h2 h3
  obtain ⟨z, hz, h4⟩ := Option.map_eq_some_iff.1 h3
  exact ⟨i, z, hi, hz, h1, h2, h4⟩

theorem all_ps {w wr : World} {k : Nat} {a : Option Addr} {cap : Nat} {last : Int} {L : List (Nd × Nat)} {clk : Nat} (h : PS w wr k a cap last L clk) (m : Nat) (hm : L.length = m) :
    Calls Try.prog 31 #[.pointer (some ⟨w.heap.size + 1, 0, none⟩), .slice a m cap] wr fun e w' => e = .returned (.bool true) ∧ Below wr.heap.size wr w' := by
  subst hm
  exact allRows_any _ _ _ _ _ _ _ _ _ h.tab (own_slice (by omega) cs_len cs_ndR h.own) (fun x hx => ents_below (h.ents x hx) h.bel)
theorem PS.block {w wr : World} {k : Nat} {a : Option Addr} {cap : Nat} {last : Int} {L : List (Nd × Nat)} {clk : Nat} (h : PS w wr k a cap last L clk) : (a = none ∧ L.length = 0) ∨ ∃ g, a = some ⟨g, 0, none⟩ ∧ w.heap.size + 2 ≤ g ∧ g < wr.heap.size := by
  obtain ⟨a', cap', e, -, -, h⟩ := own_form h.own
  injection e with e1 e2 e3
  subst e1
  rcases h with ⟨rfl, h0, -⟩ | ⟨g, rfl, h1, h2⟩
  · exact .inl ⟨rfl, h0⟩
  · exact .inr ⟨g, rfl, h1, h2⟩

set_option maxRecDepth 100000 in
set_option maxHeartbeats 2000000 in
theorem plays_any (a : Option Addr) (len cap : Nat) (ds : List (Int × Nd)) (no : Int) (w : World) (hz : SliceAt w 13 deedR a len cap ds) (hE : ∀ x ∈ ds, EntsOk w x.2) :
    Calls Try.prog 9 #[.slice a len cap, .int .i64 no] w fun e w' => e = .returned (.bool true) ∧ Below w.heap.size w w' := by
  have hlen : len ≤ 9223372036854775807 := by obtain ⟨-, h2, h3, -⟩ := hz; omega
  have Hxl := Lib.hid hz.1
  by_cases h60 : 60 < len
  · go_enter Try.func9, Try.ntmps9
    go_wp2_with fail
    refine (new_table _).mono ?_
    rintro e w1 ⟨rfl, hT1, hB1⟩
    go_wp2_with fail
    refine (awake13_any _).mono ?_
    rintro e w2 ⟨rfl, hB2⟩
    go_wp2_with fail
    go_ret
    exact ⟨rfl, bnext hB1 hB2⟩
  · go_enter Try.func9, Try.ntmps9
    go_wp2_with fail
    refine (new_table _).mono ?_
    rintro e w1 ⟨rfl, hT1, hB1⟩
    go_wp2_with fail
    go_loopw [6, 7, 8] (fun t6 t7 t8 wr => ∃ (k : Nat) (a6 : Option Addr) (cap6 : Nat) (last : Int) (L : List (Nd × Nat)) (clk : Nat), k ≤ len ∧ t6 = .slice a6 L.length cap6 ∧ t7 = .int .i64 last ∧ t8 = .int .i64 k ∧ PS w wr k a6 cap6 last L clk) (fun _ _ t8 _ => len - (intOf t8).toNat)
    case atStart => exact ⟨0, none, 0, 0, [], 0, Nat.zero_le _, rfl, rfl, rfl, ⟨hT1, by simp, by simp, by omega, by simp, by simp, by simp⟩, World.ownsRow_nil _ _ _ _, by simp, hB1, by omega, by simp, by simp⟩
    case round =>
      obtain ⟨k, a6, cap6, last, L, clk, hk, rfl, rfl, rfl, hP⟩ := hrel
      by_cases hlt : k < len
      · obtain ⟨bb, off, rfl⟩ : ∃ bb off : Nat, a = some ⟨bb, off, none⟩ := by
          obtain ⟨-, -, -, h | ⟨bb, off, rfl, -⟩⟩ := hz
          · omega
          · exact ⟨bb, off, rfl⟩
        have hkd : k < ds.length := by have := Hxl.out; omega
        have HEn := Lib.hid (hE ds[k] (List.getElem_mem hkd))
        obtain ⟨⟨kd, n⟩, hd⟩ : ∃ d, ds[k] = d := ⟨_, rfl⟩
        have hbw : bb < w.heap.size := (DC.of hz hkd hd).lt
        have hDC := DC.of (hz.below hP.bel (Nat.le_refl _)) hkd hd
        rw [hd] at HEn
        have hD := hDC
        obtain ⟨h0, h1, h2, h3, h4, h5, h6, h7, h8, h9, h10, h11, h12, -⟩ := hDC
        have HP := Lib.hid (And.intro hP hD)
        have HE := Lib.hid hE
        have HZ := Lib.hid hz
        have Hd := Lib.hid hd
        clear hP hd hz hE hD
        go_wp2_with fail
        clear h0 h1 h2 h3 h4 h5 h6 h7 h8 h9 h10 h11 h12
        obtain ⟨hP, hD⟩ := HP.out
        clear HP
        have b9 := Blk.new wr #[.int .i64 n.no, .int .i64 n.dev, .int .i64 n.kind, .int .i64 n.mode, .int .i64 n.uid, .int .i64 n.gid, .int .i64 n.mtime, .int .i64 n.ctime, .int .i64 n.links, .int .i64 n.up, .string n.data, .slice n.ea n.el n.ec] 29
        have hz6 : SliceAt wr 12 ndR a6 L.length cap6 (L.map (·.1)) := own_slice (by omega) cs_len cs_ndR hP.own
        have hBa : Below wr.heap.size wr (wr.alloc (.cells #[.int .i64 n.no, .int .i64 n.dev, .int .i64 n.kind, .int .i64 n.mode, .int .i64 n.uid, .int .i64 n.gid, .int .i64 n.mtime, .int .i64 n.ctime, .int .i64 n.links, .int .i64 n.up, .string n.data, .slice n.ea n.el n.ec] 29)) := balloc (Below.refl _ _) _
        refine (at_any _ _ _ _ _ _ (hz6.below hBa (Nat.le_refl _))).mono ?_
        rintro e w2 ⟨rfl, hb2⟩
        have hBw := bnext hBa hb2
        have d9 := b9.keep hb2
        have hP2 := hP.below hBw
        have hD2 := hD.keep hBw hD.lt
        have hs9 : w.heap.size + 1 < wr.heap.size := hP.tab.tab.blk.lt
        have hab := hP.block
        clear b9 hz6 hBa hb2 hBw hP hD
        generalize wr.heap.size = B9 at d9 hs9 hab ⊢
        clear wr
        obtain ⟨c9, f9, -⟩ := d9.facts
        have hD3 := hD2
        obtain ⟨h0, h1, h2, h3, h4, h5, h6, h7, h8, h9, h10, h11, h12, -⟩ := hD3
        have h0p := hP2.pos
        have h0l : last ≤ 60 := by have := hP2.low; omega
        have HA := Lib.hid hab
        clear hab
        have HP := Lib.hid (And.intro hP2 (And.intro d9 hD2))
        clear hP2 hD2 d9
        by_cases hk0 : kd = 0
        · subst hk0
          obtain ⟨hP2, hdb, hD3⟩ := HP.out
          have hsz2 : B9 < w2.heap.size := hdb.lt
          have hne9 : ∀ k, k = B9 → (Value.slice a6 L.length cap6).ownBlock ≠ some k := by
            intro k hk e
            rcases HA.out with ⟨rfl, -⟩ | ⟨g, rfl, h1, h2⟩
            · cases e
            · have : g = k := by simpa [Value.ownBlock] using e
              omega
          have hm3 : Mod (fun k => k = B9) w2 ((w2.setCell ⟨B9, 0, none⟩ (.int .i64 (last + 1))).alloc (.cells #[.int .i64 (last + 1), .int .i64 n.dev, .int .i64 n.kind, .int .i64 n.mode, .int .i64 n.uid, .int .i64 n.gid, .int .i64 n.mtime, .int .i64 n.ctime, .int .i64 n.links, .int .i64 n.up, .string n.data, .slice n.ea n.el n.ec] 29)) := ((Mod.refl (fun k => k = B9) w2).setCell (a := ⟨B9, 0, none⟩) (.inl rfl) _).alloc _
          have hown := own_mod hP2.own hm3 hne9
          have hnb := Blk.new (w2.setCell ⟨B9, 0, none⟩ (.int .i64 (last + 1))) #[.int .i64 (last + 1), .int .i64 n.dev, .int .i64 n.kind, .int .i64 n.mode, .int .i64 n.uid, .int .i64 n.gid, .int .i64 n.mtime, .int .i64 n.ctime, .int .i64 n.links, .int .i64 n.up, .string n.data, .slice n.ea n.el n.ec] 29
          have hll := hP2.len
          have hlk := hP2.low
          obtain ⟨i0, z0, hi0, hz0, hi1, hi2, hz1⟩ := node_parts
          obtain ⟨g, cap', W, hrun, hown', hmod, hlie⟩ := step_app 59 Try.underlying59 hi0 hz0 hi1 hi2 hz1 (by omega) hown ⟨w2.heap.size, 0, none⟩ 1 1 (Nd.cs { n with no := last + 1 }) rfl (World.news_of_block (by rw [World.size_setCell] at hnb; exact hnb)) (cs_one _) (by omega) (by unfold maxLen; omega) (by omega) (Nat.le_trans (by omega) hm3.size)
          have hbig : Mod (fun k => k = B9 ∨ (Value.slice a6 L.length cap6).ownBlock = some k) w2 W := (hm3.mono fun k hk => .inl hk).trans (hmod.mono fun k hk => .inr hk)
          have hnS : ∀ k, k < w.heap.size + 2 → ¬ (k = B9 ∨ (Value.slice a6 L.length cap6).ownBlock = some k) := by
            rintro k hk (rfl | e)
            · omega
            · rcases HA.out with ⟨rfl, -⟩ | ⟨g, rfl, h1, h2⟩
              · cases e
              · have : g = k := by simpa [Value.ownBlock] using e
                omega
          have hT := hP2.tab.moved hbig (hnS _ (by omega)) (hnS _ (by omega))
          have hBW : Below w.heap.size w W := hP2.bel.trans (hbig.below (fun k hk => Decidable.byContradiction fun h => hnS k (by omega) hk) hP2.bel.size)
          have hgg : w.heap.size + 2 ≤ g := by
            rcases hlie with h | h
            · rcases HA.out with ⟨rfl, -⟩ | ⟨g', rfl, h1, h2⟩
              · cases h
              · have : g' = g := by simpa [Value.ownBlock] using h
                omega
            · have := hm3.size; omega
          have hDW := hD3.keep (hbig.below (B := w.heap.size) (fun k hk => Decidable.byContradiction fun h => hnS k (by omega) hk) hP2.bel.size) hbw
          have HW := Lib.hid (And.intro hown' (And.intro hT (And.intro hBW hgg)))
          have hents := Lib.hid hP2.ents
          clear hP2 hdb hD3 hne9 hm3 hown hnb hown' hmod hlie hbig hnS hT hBW hgg HP
          obtain ⟨k0, k1, k2, k3, k4, k5, k6, k7, k8, k9, k10, k11, k12, -⟩ := hDW
          have Hrun := Lib.hid hrun
          clear hrun
          go_wp2_with (at_builtin; refine wpList_app_run rfl rfl rfl rfl Hrun.out ?_)
          obtain ⟨hown, hT, hBW, hgg⟩ := HW.out
          refine (add_any n _ _ _ _ _ _ hT.tab h0p (by omega)).mono ?_
          rintro e w4 ⟨rfl, hT4, hM4⟩
          have hP4 : PS w w4 (k + 1) (some ⟨g, 0, none⟩) cap' (last + 1) (L ++ [({ n with no := last + 1 }, clk)]) (clk + 1) := by
            refine ⟨hT.add n h0p (by omega) (by omega) hT4, ?_, ?_, hBW.trans (hM4.below (by rintro k (rfl | rfl) <;> omega) hBW.size), by omega, by omega, by simp; omega⟩
            · have := own_mod hown hM4 (by rintro k (rfl | rfl) <;> (simp [Value.ownBlock]; omega))
              simpa using this
            · intro x hx
              rcases List.mem_append.1 hx with hx | hx
              · exact hents.out x hx
              · simp only [List.mem_cons, List.not_mem_nil, or_false] at hx
                subst hx
                exact HEn.out
          clear hT hown hBW hgg hT4 hM4 HW k0 k1 k2 k3 k4 k5 k6 k7 k8 k9 k10 k11 k12 h0 h1 h2 h3 h4 h5 h6 h7 h8 h9 h10 h11 h12 c9 f9
          have HP4 := Lib.hid hP4
          clear hP4
          go_wp2_with fail
          refine (all_ps HP4.out (L.length + 1) (by simp)).mono ?_
          rintro e w5 ⟨rfl, hb5⟩
          have hP5 := HP4.out.below hb5
          clear hb5
          have HP5 := Lib.hid hP5
          clear hP5
          go_wp2_with fail
          go_roundw
          case rel => exact ⟨k + 1, _, _, _, _, _, by omega, by simp, rfl, by go_num, HP5.out⟩
          case measure => simp [intOf]; omega
        · obtain ⟨hP2, hdb, hD3⟩ := HP.out
          clear h1 h2 h3 h4 h5 h6 h7 h8 h9 h10 h11 h12
          by_cases hk1 : kd = 1
          · subst hk1
            clear hk0
            rcases findNd_cases L n.no with ⟨n0, hf⟩ | hf
            · obtain ⟨pi, hpi, hn0, hno, hat⟩ := find_place hf
              rw [hat]
              have HF := Lib.hid (And.intro hf (And.intro hn0 (And.intro hno hat)))
              clear hf hn0 hno hat
              have HP2 := Lib.hid (And.intro hP2 (And.intro hdb hD3))
              clear hP2 hdb hD3 HP
              go_wp2_with fail
              obtain ⟨hP2, hdb, hD3⟩ := HP2.out
              refine (drop_yes n0 n.no _ _ _ _ _ _ hP2.tab.tab HF.out.1).mono ?_
              rintro e w3 ⟨rfl, hT3, hM3⟩
              obtain ⟨g6, rfl, hg6, hg6'⟩ : ∃ g, a6 = some ⟨g, 0, none⟩ ∧ w.heap.size + 2 ≤ g ∧ g < B9 := by
                rcases HA.out with ⟨-, h⟩ | h
                · omega
                · exact h
              have own3 := own_mod hP2.own hM3 (by rintro k (rfl | rfl) <;> (simp [Value.ownBlock]; omega))
              have hw3 : B9 < w3.heap.size := Nat.lt_of_lt_of_le hdb.lt hM3.size
              have hBW3 : Below w.heap.size w w3 := hP2.bel.trans (hM3.below (by rintro k (rfl | rfl) <;> omega) hP2.bel.size)
              have hll := hP2.len
              have hlk := hP2.low
              have hTR := hP2.tab.drop n.no hT3
              have hents := hP2.ents
              obtain ⟨a', cap'', e', hcapl, hcapm, -⟩ := own_form own3
              injection e' with e1 e2 e3
              subst e1 e3
              obtain ⟨i0, z0, hi0, hz0, hi1, hi2, hz1⟩ := node_parts
              have e0 := own_empty (e := 29) (sz := 12) (base := w.heap.size + 2) w3.drew (by show w.heap.size + 2 ≤ w3.heap.size; omega)
              have own3' : (w3.drew.alloc (.cells #[] 29)).ownsRow (w.heap.size + 2) 29 12 (.slice (some ⟨g6, 0, none⟩) L.length cap6) L.length ((L.map (·.1)).flatMap Nd.cs) := World.ownsRow.alloc (w := w3.drew) own3 _
              have hone : ∀ (ns : List Nd), ∀ u ∈ ns.flatMap Nd.cs, u.oneCell' = true := fun ns u hu => by
                obtain ⟨x, -, hx⟩ := List.mem_flatMap.1 hu
                exact cs_one x u hx
              obtain ⟨g1, cap1, W1, hrun1, o1, m1, l1⟩ := step_app_any 59 Try.underlying59 hi0 hz0 hi1 hi2 hz1 (by omega) e0 ⟨g6, 0 * 12, none⟩ pi cap6 ((((L.map (·.1)).drop 0).take pi).flatMap Nd.cs) (by rw [flat_len cs_len]; simp; omega) (own_part (by omega) cs_len own3' 0 pi (by omega)) (hone _) (by unfold maxLen; omega) (by omega) (by simp; omega)
              have own1 := own_mod own3' m1 (by intro k hk; subst hk; simp [Value.ownBlock]; omega)
              rw [Nat.zero_add] at hrun1 o1
              rw [Nat.zero_mul] at hrun1
              have hs0 : w3.drew.heap.size = w3.heap.size := rfl
              rw [hs0] at hrun1 l1 m1
              have hg1 : w3.heap.size ≤ g1 := by
                rcases l1 with h | h
                · omega
                · simp at h; omega
              have hW1 : w3.heap.size < W1.heap.size := by have := m1.size; simp at this; omega
              have hB1 : Below w3.heap.size w3 W1 := ((balloc (Below.refl w3.heap.size w3).drew _)).trans (m1.below (by intro k hk; omega) (by simp))
              have hP6 : ∀ (g2 cap2 : Nat) (W2 : World) (S : Nat → Prop), W2.ownsRow (w.heap.size + 2) 29 12 (.slice (some ⟨g2, 0, none⟩) (L.length - 1) cap2) (L.length - 1) ((((L.map (·.1)).drop 0).take pi).flatMap Nd.cs ++ (((L.map (·.1)).drop (pi + 1)).take (L.length - (pi + 1))).flatMap Nd.cs) → Mod S W1 W2 → (∀ k, S k → w3.heap.size ≤ k) →
                  PS w W2 (k + 1) (some ⟨g2, 0, none⟩) cap2 last (L.eraseIdx pi) clk := by
                intro g2 cap2 W2 S o2 m2 hS
                have hB2 : Below w3.heap.size w3 W2 := hB1.trans (m2.below hS (Nat.le_of_lt hW1))
                have hfil : (L.filter fun x => !(x.1.no == n.no)) = L.eraseIdx pi := by
                  rw [← filter_place hP2.tab.rise pi hpi, HF.out.2.1, HF.out.2.2.1]
                rw [hfil] at hTR
                have hel : (L.eraseIdx pi).length = L.length - 1 := by rw [List.length_eraseIdx, if_pos hpi]
                have hem : (L.eraseIdx pi).map (·.1) = ((L.map (·.1)).drop 0).take pi ++ ((L.map (·.1)).drop (pi + 1)).take (L.length - (pi + 1)) := by
                  rw [List.eraseIdx_eq_take_drop_succ, List.map_append, List.map_take, List.map_drop, List.drop_zero, List.take_of_length_le (l := (L.map (·.1)).drop (pi + 1)) (by simp)]
                refine ⟨⟨hTR.tab.keep hB2, hTR.rise, hTR.low, hTR.high, hTR.born, hTR.bornOnce, hTR.short⟩, ?_, fun x hx => hents x (List.mem_of_mem_eraseIdx hx), hBW3.trans (hB2.mono hBW3.size), by omega, by omega, by omega⟩
                rw [hel, hem, List.flatMap_append]
                exact o2
              have HP6 := Lib.hid hP6
              have HR1 := Lib.hid hrun1
              have hl1 : L.length = pi + 1 ∨ pi + 1 < L.length := by omega
              clear hP2 hdb hD3 HP2 HF own3 hBW3 hTR e0 own3' hP6 hrun1 hB1 hT3 hM3
              obtain ⟨g2, cap2, W2, hrun2, o2, m2⟩ : ∃ g2 cap2 W2, (Builtin.append_ #[59, 59] 59 #[.slice (some ⟨g1, 0, none⟩) pi cap1, .slice (if cap6 = pi + 1 then some ⟨g6, 0, none⟩ else some ⟨g6, (pi + 1) * 12, none⟩) (L.length - (pi + 1)) (cap6 - (pi + 1))]).run Try.prog W1 = .ok (.slice (some ⟨g2, 0, none⟩) (L.length - 1) cap2) W2 ∧
                  W2.ownsRow (w.heap.size + 2) 29 12 (.slice (some ⟨g2, 0, none⟩) (L.length - 1) cap2) (L.length - 1) ((((L.map (·.1)).drop 0).take pi).flatMap Nd.cs ++ (((L.map (·.1)).drop (pi + 1)).take (L.length - (pi + 1))).flatMap Nd.cs) ∧ Mod (fun k => k = g1) W1 W2 := by
                by_cases hc : cap6 = pi + 1
                · have hz0' : L.length - (pi + 1) = 0 := by omega
                  refine ⟨g1, cap1, W1, ?_, ?_, Mod.refl _ _⟩
                  · rw [if_pos hc, hz0', step_app_nil 59 Try.underlying59 hi0 o1 _ _, show L.length - 1 = pi by omega]
                  · rw [hz0', List.take_zero, List.flatMap_nil, List.append_nil, show L.length - 1 = pi by omega]
                    exact o1
                · obtain ⟨g2, cap2, W2, hrun2, o2, m2, l2⟩ := step_app_any 59 Try.underlying59 hi0 hz0 hi1 hi2 hz1 (by omega) o1 ⟨g6, (pi + 1) * 12, none⟩ (L.length - (pi + 1)) (cap6 - (pi + 1)) ((((L.map (·.1)).drop (pi + 1)).take (L.length - (pi + 1))).flatMap Nd.cs) (by rw [flat_len cs_len]; simp) (own_part (by omega) cs_len own1 (pi + 1) _ (by omega)) (hone _) (by unfold maxLen; omega) (by omega) (by omega)
                  rw [show pi + (L.length - (pi + 1)) = L.length - 1 by omega] at hrun2 o2
                  exact ⟨g2, cap2, W2, by rw [if_neg hc]; exact hrun2, o2, m2⟩
              have HPP := Lib.hid (HP6.out _ _ _ _ o2 m2 (by intro k hk; omega))
              have hpc : pi ≤ cap6 := by omega
              have hpl1 : pi + 1 ≤ L.length := by omega
              have hpl2 : (pi : Int) + 1 ≤ (L.length : Int) := by omega
              have hpl3 : (pi : Int) ≤ (cap6 : Int) := by omega
              have hwp : IntKind.i64.wrap ((pi : Int) + 1) = (pi : Int) + 1 := by simp [IntKind.wrap, IntKind.bits, IntKind.signed]; omega
              have hpt : ((pi : Int) + 1).toNat = pi + 1 := by omega
              have hp0 : (0 : Int) ≤ (pi : Int) + 1 := by omega
              have hrun1 : (Builtin.append_ #[59, 59] 59 #[.slice (some ⟨w3.heap.size, 0, none⟩) 0 0, .slice (some ⟨g6, 0, none⟩) pi cap6]).run Try.prog (w3.alloc (.cells #[] 29)).drew = .ok (.slice (some ⟨g1, 0, none⟩) pi cap1) W1 := HR1.out
              clear hl1 l1 o1 o2 m1 m2 own1 hone hi0 hz0 hi1 hi2 hz1 HP6 HR1
              go_wp2_with fail
              go_region_held3 (fun _ => True) (trivial) (first | refine step_app_run (s := .tmp 89) (x := .tmp 92) (by rfl) (by rfl) (by rfl) (by rfl) hrun1 ?_ | refine step_app_run (s := .tmp 93) (x := .tmp 97) (by rfl) (by rfl) (by rfl) (by rfl) hrun2 ?_)
              clear hrun1 hrun2
              go_wp2_with fail
              all_goals
                refine (all_ps HPP.out (L.length - 1) (by rw [List.length_eraseIdx, if_pos hpi])).mono ?_
                rintro e w5 ⟨rfl, hb5⟩
                have HP5 := Lib.hid (HPP.out.below hb5)
                clear hb5
                go_wp2_with fail
                go_roundw
                case rel => exact ⟨k + 1, _, _, _, _, _, by omega, by rw [List.length_eraseIdx, if_pos hpi], rfl, by go_num, HP5.out⟩
                case measure => simp [intOf]; omega
            · rw [atV_none hf]
              have HF := Lib.hid hf
              clear hf
              have HP2 := Lib.hid (And.intro hP2 (And.intro hdb hD3))
              clear hP2 hdb hD3 HP
              go_wp2_with fail
              obtain ⟨hP2, hdb, hD3⟩ := HP2.out
              refine (drop_no n.no _ _ _ _ _ _ hP2.tab.tab HF.out).mono ?_
              rintro e w3 ⟨rfl, hT3, hM3⟩
              have own3 := own_mod hP2.own hM3 (by
                intro k hk e
                rcases HA.out with ⟨rfl, -⟩ | ⟨g, rfl, h1, h2⟩
                · cases e
                · have : g = k := by simpa [Value.ownBlock] using e
                  omega)
              have hBW3 : Below w.heap.size w w3 := hP2.bel.trans (hM3.below (by rintro k (rfl | rfl) <;> omega) hP2.bel.size)
              have hll := hP2.len
              have hlk := hP2.low
              have hTR := hP2.tab.drop n.no hT3
              rw [findNd_del_none HF.out] at hTR
              have HPP : Hid (PS w w3 (k + 1) a6 cap6 last L clk) := Lib.hid ⟨hTR, own3, hP2.ents, hBW3, hP2.pos, by omega, by omega⟩
              clear hP2 hdb hD3 HP2 own3 hBW3 hTR hT3 hM3
              go_wp2_with fail
              refine (all_ps HPP.out (L.length) (rfl)).mono ?_
              rintro e w5 ⟨rfl, hb5⟩
              have HP5 := Lib.hid (HPP.out.below hb5)
              clear hb5
              go_wp2_with fail
              go_roundw
              case rel => exact ⟨k + 1, _, _, _, _, _, by omega, rfl, rfl, by go_num, HP5.out⟩
              case measure => simp [intOf]; omega
          · have hk0' : (kd == 0) = false := by simpa using hk0
            have hk1' : (kd == 1) = false := by simpa using hk1
            clear hk0 hk1
            rcases findNd_cases L n.no with ⟨n0, hf⟩ | hf
            · obtain ⟨pi, hpi, hn0, hno, hat⟩ := find_place hf
              rw [hat]
              have HF := Lib.hid (And.intro hf (And.intro hn0 (And.intro hno hat)))
              clear hf hn0 hno hat
              have HP2 := Lib.hid (And.intro hP2 (And.intro hdb hD3))
              clear hP2 hdb hD3 HP
              go_wp2_with fail
              obtain ⟨hP2, hdb, hD3⟩ := HP2.out
              refine (set_yes n0 n _ _ _ _ _ _ hP2.tab.tab HF.out.1).mono ?_
              rintro e w3 ⟨rfl, hT3, hM3⟩
              obtain ⟨g6, rfl, hg6, hg6'⟩ : ∃ g, a6 = some ⟨g, 0, none⟩ ∧ w.heap.size + 2 ≤ g ∧ g < B9 := by
                rcases HA.out with ⟨-, h⟩ | h
                · omega
                · exact h
              have own3 := own_mod hP2.own hM3 (by rintro k (rfl | rfl) <;> (simp [Value.ownBlock]; omega))
              have hBW3 : Below w.heap.size w w3 := hP2.bel.trans (hM3.below (by rintro k (rfl | rfl) <;> omega) hP2.bel.size)
              have d93 := hdb.mod hM3 (by omega)
              have hll := hP2.len
              have hlk := hP2.low
              have hTR := hP2.tab.put n hT3
              have hents := hP2.ents
              obtain ⟨-, -, -, hh | ⟨gg, oo, he, hgl, hel⟩⟩ := own_slice (by omega) cs_len cs_ndR own3
              · omega
              injection he with he
              injection he with e1 e2
              subst e1 e2
              obtain ⟨cs, -, hcs, hcc⟩ := hel pi (by simpa using hpi)
              unfold ndR at hcs
              subst hcs
              have q0 := hcc 0 (by simp)
              have q1 := hcc 1 (by simp)
              have q2 := hcc 2 (by simp)
              have q3 := hcc 3 (by simp)
              have q4 := hcc 4 (by simp)
              have q5 := hcc 5 (by simp)
              have q6 := hcc 6 (by simp)
              have q7 := hcc 7 (by simp)
              have q8 := hcc 8 (by simp)
              have q9 := hcc 9 (by simp)
              have q10 := hcc 10 (by simp)
              have q11 := hcc 11 (by simp)
              simp only [List.getElem_cons_zero, List.getElem_cons_succ, Nat.add_zero, Nat.zero_add] at q0 q1 q2 q3 q4 q5 q6 q7 q8 q9 q10 q11
              have hfz : ∀ i, w3.frozen? ⟨g6, i, none⟩ = false := by
                rcases own3.2 with ⟨hv, -⟩ | ⟨g', cap', cur, hv, -, hg, -⟩
                · cases hv
                · injection hv with hv
                  injection hv with hv
                  injection hv with hv
                  subst hv
                  exact Blk.frozen (w := w3) (vs := cur) hg
              have hput := own_put (by omega) cs_len own3 pi hpi n
              have hpm := putRow_mod (g := g6) n.cs w3 (pi * 12)
              simp only [putRow, Nd.cs, Nat.add_assoc, Nat.reduceAdd] at hput hpm
              obtain ⟨c93, -, z93⟩ := d93.facts
              have HPP : Hid (PS w _ (k + 1) (some ⟨g6, 0, none⟩) cap6 last (L.map fun x => if x.1.no == n.no then (n, x.2) else x) clk) := Lib.hid (by
                have hset : (L.map fun x => if x.1.no == n.no then (n, x.2) else x).map (·.1) = (L.map (·.1)).set pi n := set_place hP2.tab.rise n pi hpi (by rw [HF.out.2.1]; exact HF.out.2.2.1)
                refine ⟨hTR.moved hpm (by omega) (by omega), ?_, ?_, hBW3.trans (hpm.below (by intro k hk; omega) hBW3.size), hP2.pos, by omega, by rw [List.length_map]; omega⟩
                · rw [List.length_map, hset]
                  exact hput
                · intro x hx
                  obtain ⟨y, hy, rfl⟩ := List.mem_map.1 hx
                  split
                  · exact HEn.out
                  · exact hents y hy)
              clear hP2 hdb hD3 HP2 own3 hBW3 hTR hents hT3 hM3 hput hpm hcc hel d93 c9 f9 h0
              have hpl3 : (pi : Int) < (L.length : Int) := by omega
              go_wp2_with fail
              refine (all_ps HPP.out (L.length) (by rw [List.length_map])).mono ?_
              rintro e w5 ⟨rfl, hb5⟩
              have HP5 := Lib.hid (HPP.out.below hb5)
              clear hb5
              go_wp2_with fail
              go_roundw
              case rel => exact ⟨k + 1, _, _, _, _, _, by omega, by rw [List.length_map], rfl, by go_num, HP5.out⟩
              case measure => simp [intOf]; omega
            · rw [atV_none hf]
              have HF := Lib.hid hf
              clear hf
              have HP2 := Lib.hid (And.intro hP2 (And.intro hdb hD3))
              clear hP2 hdb hD3 HP
              go_wp2_with fail
              obtain ⟨hP2, hdb, hD3⟩ := HP2.out
              refine (set_no n _ _ _ _ _ _ hP2.tab.tab HF.out).mono ?_
              rintro e w3 ⟨rfl, hb3⟩
              have hP3 := hP2.below hb3
              have hll := hP2.len
              have hlk := hP2.low
              have HPP : Hid (PS w w3 (k + 1) a6 cap6 last L clk) := Lib.hid ⟨hP3.tab, hP3.own, hP3.ents, hP3.bel, hP3.pos, by omega, by omega⟩
              clear hP2 hdb hD3 HP2 hP3 hb3
              go_wp2_with fail
              refine (all_ps HPP.out (L.length) (rfl)).mono ?_
              rintro e w5 ⟨rfl, hb5⟩
              have HP5 := Lib.hid (HPP.out.below hb5)
              clear hb5
              go_wp2_with fail
              go_roundw
              case rel => exact ⟨k + 1, _, _, _, _, _, by omega, rfl, rfl, by go_num, HP5.out⟩
              case measure => simp [intOf]; omega
      · obtain rfl : k = len := by omega
        have hw1 : w.heap.size + 1 < wr.heap.size := hP.tab.tab.blk.lt
        rcases findNd_cases L no with ⟨n0, hf⟩ | hf
        · obtain ⟨pi, hpi, hn0, hno, hat⟩ := find_place hf
          have HF := Lib.hid (And.intro hf (And.intro hn0 (And.intro hno hat)))
          have HE0 := Lib.hid (hP.ents L[pi] (List.getElem_mem hpi))
          rw [hn0] at HE0
          have HP := Lib.hid hP
          clear hf hn0 hno hat hP hz hE
          go_wp2_with fail
          refine (get_yes n0 no _ _ _ _ _ _ HP.out.tab.tab HF.out.1).mono ?_
          unfold Nd.v
          rintro e w2 ⟨rfl, hb2⟩
          have HP2 := Lib.hid (HP.out.below hb2)
          clear hb2 HP
          go_wp2_with fail
          have b11 := Blk.new w2 #[.int .i64 n0.no, .int .i64 n0.dev, .int .i64 n0.kind, .int .i64 n0.mode, .int .i64 n0.uid, .int .i64 n0.gid, .int .i64 n0.mtime, .int .i64 n0.ctime, .int .i64 n0.links, .int .i64 n0.up, .string n0.data, .slice n0.ea n0.el n0.ec] 29
          have hP3 := HP2.out.below (balloc (Below.refl w2.heap.size w2) (.cells #[.int .i64 n0.no, .int .i64 n0.dev, .int .i64 n0.kind, .int .i64 n0.mode, .int .i64 n0.uid, .int .i64 n0.gid, .int .i64 n0.mtime, .int .i64 n0.ctime, .int .i64 n0.links, .int .i64 n0.up, .string n0.data, .slice n0.ea n0.el n0.ec] 29))
          refine (at_any _ _ _ _ _ _ (own_slice (by omega) cs_len cs_ndR hP3.own)).mono ?_
          rintro e w3 ⟨rfl, hb3⟩
          rw [HF.out.2.2.2]
          have d11 := b11.keep hb3
          have hP4 := hP3.below hb3
          clear b11 hP3 hb3 HP2
          generalize w2.heap.size = B11 at d11 ⊢
          obtain ⟨c11, f11, z11⟩ := d11.facts
          obtain ⟨g6, rfl, hg6, hg6'⟩ : ∃ g, a6 = some ⟨g, 0, none⟩ ∧ w.heap.size + 2 ≤ g ∧ g < w3.heap.size := by
            rcases hP4.block with ⟨-, h⟩ | h
            · omega
            · exact h
          obtain ⟨-, -, -, hh | ⟨gg, oo, he, hgl, hel⟩⟩ := own_slice (by omega) cs_len cs_ndR hP4.own
          · omega
          injection he with he
          injection he with e1 e2
          subst e1 e2
          obtain ⟨cs, -, hcs, hcc⟩ := hel pi (by simpa using hpi)
          unfold ndR at hcs
          rw [List.getElem_map, HF.out.2.1] at hcs
          subst hcs
          have q0 := hcc 0 (by simp)
          have q1 := hcc 1 (by simp)
          have q2 := hcc 2 (by simp)
          have q3 := hcc 3 (by simp)
          have q4 := hcc 4 (by simp)
          have q5 := hcc 5 (by simp)
          have q6 := hcc 6 (by simp)
          have q7 := hcc 7 (by simp)
          have q8 := hcc 8 (by simp)
          have q9 := hcc 9 (by simp)
          have q10 := hcc 10 (by simp)
          have q11 := hcc 11 (by simp)
          simp only [List.getElem_cons_zero, List.getElem_cons_succ, Nat.add_zero, Nat.zero_add] at q0 q1 q2 q3 q4 q5 q6 q7 q8 q9 q10 q11
          have hBw := hP4.bel
          have hsame := fun W (h : Below w3.heap.size w3 W) => same_any n0 W (ents_below HE0.out (bnext hBw h))
          unfold Nd.v at hsame
          have HS := Lib.hid hsame
          have HBw := Lib.hid hBw
          have hpl3 : (pi : Int) < (L.length : Int) := by omega
          have hpl0 : (0 : Int) ≤ (pi : Int) := by omega
          have hdc : decide ((0 : Int) ≤ (pi : Int)) = true := by simp
          clear hcc hel hP4 d11 hsame hBw f11
          go_wp2_with fail
          refine wp_region_held_drew (S := (fun w' => (∀ b o, b < w3.heap.size → w'.cell? ⟨b, o, none⟩ = w3.cell? ⟨b, o, none⟩) ∧ Below w3.heap.size w3 w')) (by kernel_rfl) (keepS_here _) (fun hHeld => ?_)
          refine reg_take 0 112 (v := ?vf0) rfl rfl (by kernel_rfl) (by kernel_rfl) (by kernel_rfl) (fun _ _ _ h => h) rfl ?yf0 hHeld ?_
          case yf0 => (intro w hSw; (try dsimp only at hSw); go_simp; (try with_reducible rfl))
          simp only [List.setIfInBounds_toArray, List.set_cons_zero, List.set_cons_succ]
          refine reg_take 1 113 (v := ?vf1) rfl rfl (by kernel_rfl) (by kernel_rfl) (by kernel_rfl) (fun _ _ _ h => h) rfl ?yf1 hHeld ?_
          case yf1 => (intro w hSw; (try dsimp only at hSw); go_simp; (try with_reducible rfl))
          simp only [List.setIfInBounds_toArray, List.set_cons_zero, List.set_cons_succ]
          refine reg_take 2 114 (v := ?vf2) rfl rfl (by kernel_rfl) (by kernel_rfl) (by kernel_rfl) (fun _ _ _ h => h) rfl ?yf2 hHeld ?_
          case yf2 => (intro w hSw; (try dsimp only at hSw); go_simp; (try with_reducible rfl))
          simp only [List.setIfInBounds_toArray, List.set_cons_zero, List.set_cons_succ]
          refine reg_take 3 115 (v := ?vf3) rfl rfl (by kernel_rfl) (by kernel_rfl) (by kernel_rfl) (fun _ _ _ h => h) rfl ?yf3 hHeld ?_
          case yf3 => (intro w hSw; (try dsimp only at hSw); go_simp; (try with_reducible rfl))
          simp only [List.setIfInBounds_toArray, List.set_cons_zero, List.set_cons_succ]
          refine reg_take 4 116 (v := ?vf4) rfl rfl (by kernel_rfl) (by kernel_rfl) (by kernel_rfl) (fun _ _ _ h => h) rfl ?yf4 hHeld ?_
          case yf4 => (intro w hSw; (try dsimp only at hSw); go_simp; (try with_reducible rfl))
          simp only [List.setIfInBounds_toArray, List.set_cons_zero, List.set_cons_succ]
          refine reg_take 5 117 (v := ?vf5) rfl rfl (by kernel_rfl) (by kernel_rfl) (by kernel_rfl) (fun _ _ _ h => h) rfl ?yf5 hHeld ?_
          case yf5 => (intro w hSw; (try dsimp only at hSw); go_simp; (try with_reducible rfl))
          simp only [List.setIfInBounds_toArray, List.set_cons_zero, List.set_cons_succ]
          refine reg_take 6 118 (v := ?vf6) rfl rfl (by kernel_rfl) (by kernel_rfl) (by kernel_rfl) (fun _ _ _ h => h) rfl ?yf6 hHeld ?_
          case yf6 => (intro w hSw; (try dsimp only at hSw); go_simp; (try with_reducible rfl))
          simp only [List.setIfInBounds_toArray, List.set_cons_zero, List.set_cons_succ]
          refine reg_take 7 119 (v := ?vf7) rfl rfl (by kernel_rfl) (by kernel_rfl) (by kernel_rfl) (fun _ _ _ h => h) rfl ?yf7 hHeld ?_
          case yf7 => (intro w hSw; (try dsimp only at hSw); go_simp; (try with_reducible rfl))
          simp only [List.setIfInBounds_toArray, List.set_cons_zero, List.set_cons_succ]
          refine reg_take 8 120 (v := ?vf8) rfl rfl (by kernel_rfl) (by kernel_rfl) (by kernel_rfl) (fun _ _ _ h => h) rfl ?yf8 hHeld ?_
          case yf8 => (intro w hSw; (try dsimp only at hSw); go_simp; (try with_reducible rfl))
          simp only [List.setIfInBounds_toArray, List.set_cons_zero, List.set_cons_succ]
          refine reg_take 9 121 (v := ?vf9) rfl rfl (by kernel_rfl) (by kernel_rfl) (by kernel_rfl) (fun _ _ _ h => h) rfl ?yf9 hHeld ?_
          case yf9 => (intro w hSw; (try dsimp only at hSw); go_simp; (try with_reducible rfl))
          simp only [List.setIfInBounds_toArray, List.set_cons_zero, List.set_cons_succ]
          refine reg_take 10 122 (v := ?vf10) rfl rfl (by kernel_rfl) (by kernel_rfl) (by kernel_rfl) (fun _ _ _ h => h) rfl ?yf10 hHeld ?_
          case yf10 => (intro w hSw; (try dsimp only at hSw); go_simp; (try with_reducible rfl))
          simp only [List.setIfInBounds_toArray, List.set_cons_zero, List.set_cons_succ]
          refine reg_take 11 123 (v := ?vf11) rfl rfl (by kernel_rfl) (by kernel_rfl) (by kernel_rfl) (fun _ _ _ h => h) rfl ?yf11 hHeld ?_
          case yf11 => (intro w hSw; (try dsimp only at hSw); go_simp; (try with_reducible rfl))
          simp only [List.setIfInBounds_toArray, List.set_cons_zero, List.set_cons_succ]
          refine reg_take 12 124 (v := ?vf12) rfl rfl (by kernel_rfl) (by kernel_rfl) (by kernel_rfl) (fun _ _ _ h => h) rfl ?yf12 hHeld ?_
          case yf12 => (intro w hSw; (try dsimp only at hSw); go_simp; (try with_reducible rfl))
          simp only [List.setIfInBounds_toArray, List.set_cons_zero, List.set_cons_succ]
          refine reg_call 13 125 (R := fun v w' => v = .bool true ∧ Below w3.drew.heap.size w3.drew w') (by kernel_rfl) rfl rfl rfl ?xf13 ((HS.out _ (And.right hHeld)).mono (fun e w' ⟨he, hb⟩ => ⟨_, he, rfl, hb⟩)) (fun v w' ⟨_, hb⟩ => keepS_call hHeld hb) ?_
          case xf13 => (go_simp; (try rfl))
          rintro _ wf1 ⟨rfl, hbf1⟩
          have hHeld1 := keepS_call hHeld hbf1
          simp only [List.setIfInBounds_toArray, List.set_cons_zero, List.set_cons_succ]
          refine reg_take 14 126 (v := ?vf14) rfl rfl (by kernel_rfl) (by kernel_rfl) (by kernel_rfl) (fun _ _ _ h => h) rfl ?yf14 hHeld1 ?_
          case yf14 => (intro w hSw; (try dsimp only at hSw); go_simp; (try with_reducible rfl))
          simp only [List.setIfInBounds_toArray, List.set_cons_zero, List.set_cons_succ]
          refine reg_take 15 127 (v := ?vf15) rfl rfl (by kernel_rfl) (by kernel_rfl) (by kernel_rfl) (fun _ _ _ h => h) rfl ?yf15 hHeld1 ?_
          case yf15 => (intro w hSw; (try dsimp only at hSw); go_simp; (try with_reducible rfl))
          simp only [List.setIfInBounds_toArray, List.set_cons_zero, List.set_cons_succ]
          refine reg_skip 16 128 rfl rfl (by kernel_rfl) (by kernel_rfl) (by kernel_rfl) (fun _ _ _ h => h) rfl hHeld1 ?_
          simp only [List.setIfInBounds_toArray, List.set_cons_zero, List.set_cons_succ]
          refine reg_skip 17 129 rfl rfl (by kernel_rfl) (by kernel_rfl) (by kernel_rfl) (fun _ _ _ h => h) rfl hHeld1 ?_
          simp only [List.setIfInBounds_toArray, List.set_cons_zero, List.set_cons_succ]
          refine reg_skip 18 130 rfl rfl (by kernel_rfl) (by kernel_rfl) (by kernel_rfl) (fun _ _ _ h => h) rfl hHeld1 ?_
          simp only [List.setIfInBounds_toArray, List.set_cons_zero, List.set_cons_succ]
          refine reg_skip 19 131 rfl rfl (by kernel_rfl) (by kernel_rfl) (by kernel_rfl) (fun _ _ _ h => h) rfl hHeld1 ?_
          simp only [List.setIfInBounds_toArray, List.set_cons_zero, List.set_cons_succ]
          refine reg_skip 20 132 rfl rfl (by kernel_rfl) (by kernel_rfl) (by kernel_rfl) (fun _ _ _ h => h) rfl hHeld1 ?_
          simp only [List.setIfInBounds_toArray, List.set_cons_zero, List.set_cons_succ]
          refine reg_skip 21 133 rfl rfl (by kernel_rfl) (by kernel_rfl) (by kernel_rfl) (fun _ _ _ h => h) rfl hHeld1 ?_
          simp only [List.setIfInBounds_toArray, List.set_cons_zero, List.set_cons_succ]
          refine reg_skip 22 134 rfl rfl (by kernel_rfl) (by kernel_rfl) (by kernel_rfl) (fun _ _ _ h => h) rfl hHeld1 ?_
          simp only [List.setIfInBounds_toArray, List.set_cons_zero, List.set_cons_succ]
          refine reg_take 23 135 (v := ?vf23) rfl rfl (by kernel_rfl) (by kernel_rfl) (by kernel_rfl) (fun _ _ _ h => h) rfl ?yf23 hHeld1 ?_
          case yf23 => (intro w hSw; (try dsimp only at hSw); go_simp; (try with_reducible rfl))
          simp only [List.setIfInBounds_toArray, List.set_cons_zero, List.set_cons_succ]
          refine reg_take 24 136 (v := ?vf24) rfl rfl (by kernel_rfl) (by kernel_rfl) (by kernel_rfl) (fun _ _ _ h => h) rfl ?yf24 hHeld1 ?_
          case yf24 => (intro w hSw; (try dsimp only at hSw); go_simp; (try with_reducible rfl))
          simp only [List.setIfInBounds_toArray, List.set_cons_zero, List.set_cons_succ]
          refine reg_take 25 137 (v := ?vf25) rfl rfl (by kernel_rfl) (by kernel_rfl) (by kernel_rfl) (fun _ _ _ h => h) rfl ?yf25 hHeld1 ?_
          case yf25 => (intro w hSw; (try dsimp only at hSw); go_simp; (try with_reducible rfl))
          simp only [List.setIfInBounds_toArray, List.set_cons_zero, List.set_cons_succ]
          refine reg_call 26 138 (R := fun v w' => v = .bool true ∧ Below wf1.heap.size wf1 w') (by kernel_rfl) rfl rfl rfl ?xf26 ((awake13_any _).mono (fun e w' ⟨he, hb⟩ => ⟨_, he, rfl, hb⟩)) (fun v w' ⟨_, hb⟩ => keepS_call hHeld1 hb) ?_
          case xf26 => (go_simp; (try rfl))
          rintro _ wf2 ⟨rfl, hbf2⟩
          have hHeld2 := keepS_call hHeld1 hbf2
          simp only [List.setIfInBounds_toArray, List.set_cons_zero, List.set_cons_succ]
          refine reg_take 27 139 (v := ?vf27) rfl rfl (by kernel_rfl) (by kernel_rfl) (by kernel_rfl) (fun _ _ _ h => h) rfl ?yf27 hHeld2 ?_
          case yf27 => (intro w hSw; (try dsimp only at hSw); go_simp; (try with_reducible rfl))
          simp only [List.setIfInBounds_toArray, List.set_cons_zero, List.set_cons_succ]
          refine reg_take 28 4 (v := ?vf28) rfl rfl (by kernel_rfl) (by kernel_rfl) (by kernel_rfl) (fun _ _ _ h => h) rfl ?yf28 hHeld2 ?_
          case yf28 => (intro w hSw; (try dsimp only at hSw); go_simp; (try with_reducible rfl))
          simp only [List.setIfInBounds_toArray, List.set_cons_zero, List.set_cons_succ]
          refine wpAnyH_done (by kernel_rfl) ?_ _
          have hS4 := keepS_below hHeld2
          go_wp2_with fail
          go_ret
          exact ⟨rfl, bnext HBw.out hS4⟩
        · have HF := Lib.hid hf
          have HP := Lib.hid hP
          clear hf hP hz hE
          go_wp2_with fail
          refine (get_no no _ _ _ _ _ _ HP.out.tab.tab HF.out).mono ?_
          unfold Nd.v nd0
          rintro e w2 ⟨rfl, hb2⟩
          have HP2 := Lib.hid (HP.out.below hb2)
          clear hb2 HP
          go_wp2_with fail
          have b11 := Blk.new w2 #[.int .i64 0, .int .i64 0, .int .i64 0, .int .i64 0, .int .i64 0, .int .i64 0, .int .i64 0, .int .i64 0, .int .i64 0, .int .i64 0, .string ByteArray.empty, .slice none 0 0] 29
          have hP3 := HP2.out.below (balloc (Below.refl w2.heap.size w2) (.cells #[.int .i64 0, .int .i64 0, .int .i64 0, .int .i64 0, .int .i64 0, .int .i64 0, .int .i64 0, .int .i64 0, .int .i64 0, .int .i64 0, .string ByteArray.empty, .slice none 0 0] 29))
          refine (at_any _ _ _ _ _ _ (own_slice (by omega) cs_len cs_ndR hP3.own)).mono ?_
          rintro e w3 ⟨rfl, hb3⟩
          rw [atV_none HF.out]
          have d11 := b11.keep hb3
          have hP4 := hP3.below hb3
          clear b11 hP3 hb3 HP2
          generalize w2.heap.size = B11 at d11 ⊢
          obtain ⟨c11, f11, z11⟩ := d11.facts
          have hBw := hP4.bel
          have hsame := fun W (_ : Below w3.heap.size w3 W) => same_any nd0 W (ents_zero W)
          unfold Nd.v nd0 at hsame
          have HS := Lib.hid hsame
          have HBw := Lib.hid hBw
          clear hP4 d11 hsame hBw f11
          go_wp2_with fail
          refine wp_region_held_drew (S := (fun w' => (∀ b o, b < w3.heap.size → w'.cell? ⟨b, o, none⟩ = w3.cell? ⟨b, o, none⟩) ∧ Below w3.heap.size w3 w')) (by kernel_rfl) (keepS_here _) (fun hHeld => ?_)
          refine reg_take 0 112 (v := ?vg0) rfl rfl (by kernel_rfl) (by kernel_rfl) (by kernel_rfl) (fun _ _ _ h => h) rfl ?yg0 hHeld ?_
          case yg0 => (intro w hSw; (try dsimp only at hSw); go_simp; (try with_reducible rfl))
          simp only [List.setIfInBounds_toArray, List.set_cons_zero, List.set_cons_succ]
          refine reg_take 1 113 (v := ?vg1) rfl rfl (by kernel_rfl) (by kernel_rfl) (by kernel_rfl) (fun _ _ _ h => h) rfl ?yg1 hHeld ?_
          case yg1 => (intro w hSw; (try dsimp only at hSw); go_simp; (try with_reducible rfl))
          simp only [List.setIfInBounds_toArray, List.set_cons_zero, List.set_cons_succ]
          refine reg_take 2 114 (v := ?vg2) rfl rfl (by kernel_rfl) (by kernel_rfl) (by kernel_rfl) (fun _ _ _ h => h) rfl ?yg2 hHeld ?_
          case yg2 => (intro w hSw; (try dsimp only at hSw); go_simp; (try with_reducible rfl))
          simp only [List.setIfInBounds_toArray, List.set_cons_zero, List.set_cons_succ]
          refine reg_take 3 115 (v := ?vg3) rfl rfl (by kernel_rfl) (by kernel_rfl) (by kernel_rfl) (fun _ _ _ h => h) rfl ?yg3 hHeld ?_
          case yg3 => (intro w hSw; (try dsimp only at hSw); go_simp; (try with_reducible rfl))
          simp only [List.setIfInBounds_toArray, List.set_cons_zero, List.set_cons_succ]
          refine reg_take 4 116 (v := ?vg4) rfl rfl (by kernel_rfl) (by kernel_rfl) (by kernel_rfl) (fun _ _ _ h => h) rfl ?yg4 hHeld ?_
          case yg4 => (intro w hSw; (try dsimp only at hSw); go_simp; (try with_reducible rfl))
          simp only [List.setIfInBounds_toArray, List.set_cons_zero, List.set_cons_succ]
          refine reg_take 5 117 (v := ?vg5) rfl rfl (by kernel_rfl) (by kernel_rfl) (by kernel_rfl) (fun _ _ _ h => h) rfl ?yg5 hHeld ?_
          case yg5 => (intro w hSw; (try dsimp only at hSw); go_simp; (try with_reducible rfl))
          simp only [List.setIfInBounds_toArray, List.set_cons_zero, List.set_cons_succ]
          refine reg_take 6 118 (v := ?vg6) rfl rfl (by kernel_rfl) (by kernel_rfl) (by kernel_rfl) (fun _ _ _ h => h) rfl ?yg6 hHeld ?_
          case yg6 => (intro w hSw; (try dsimp only at hSw); go_simp; (try with_reducible rfl))
          simp only [List.setIfInBounds_toArray, List.set_cons_zero, List.set_cons_succ]
          refine reg_take 7 119 (v := ?vg7) rfl rfl (by kernel_rfl) (by kernel_rfl) (by kernel_rfl) (fun _ _ _ h => h) rfl ?yg7 hHeld ?_
          case yg7 => (intro w hSw; (try dsimp only at hSw); go_simp; (try with_reducible rfl))
          simp only [List.setIfInBounds_toArray, List.set_cons_zero, List.set_cons_succ]
          refine reg_skip 8 120 rfl rfl (by kernel_rfl) (by kernel_rfl) (by kernel_rfl) (fun _ _ _ h => h) rfl hHeld ?_
          simp only [List.setIfInBounds_toArray, List.set_cons_zero, List.set_cons_succ]
          refine reg_skip 9 121 rfl rfl (by kernel_rfl) (by kernel_rfl) (by kernel_rfl) (fun _ _ _ h => h) rfl hHeld ?_
          simp only [List.setIfInBounds_toArray, List.set_cons_zero, List.set_cons_succ]
          refine reg_skip 10 122 rfl rfl (by kernel_rfl) (by kernel_rfl) (by kernel_rfl) (fun _ _ _ h => h) rfl hHeld ?_
          simp only [List.setIfInBounds_toArray, List.set_cons_zero, List.set_cons_succ]
          refine reg_skip 11 123 rfl rfl (by kernel_rfl) (by kernel_rfl) (by kernel_rfl) (fun _ _ _ h => h) rfl hHeld ?_
          simp only [List.setIfInBounds_toArray, List.set_cons_zero, List.set_cons_succ]
          refine reg_skip 12 124 rfl rfl (by kernel_rfl) (by kernel_rfl) (by kernel_rfl) (fun _ _ _ h => h) rfl hHeld ?_
          simp only [List.setIfInBounds_toArray, List.set_cons_zero, List.set_cons_succ]
          refine reg_skip 13 125 rfl rfl (by kernel_rfl) (by kernel_rfl) (by kernel_rfl) (fun _ _ _ h => h) rfl hHeld ?_
          simp only [List.setIfInBounds_toArray, List.set_cons_zero, List.set_cons_succ]
          refine reg_take 14 126 (v := ?vg14) rfl rfl (by kernel_rfl) (by kernel_rfl) (by kernel_rfl) (fun _ _ _ h => h) rfl ?yg14 hHeld ?_
          case yg14 => (intro w hSw; (try dsimp only at hSw); go_simp; (try with_reducible rfl))
          simp only [List.setIfInBounds_toArray, List.set_cons_zero, List.set_cons_succ]
          refine reg_take 15 127 (v := ?vg15) rfl rfl (by kernel_rfl) (by kernel_rfl) (by kernel_rfl) (fun _ _ _ h => h) rfl ?yg15 hHeld ?_
          case yg15 => (intro w hSw; (try dsimp only at hSw); go_simp; (try with_reducible rfl))
          simp only [List.setIfInBounds_toArray, List.set_cons_zero, List.set_cons_succ]
          refine reg_take 16 128 (v := ?vg16) rfl rfl (by kernel_rfl) (by kernel_rfl) (by kernel_rfl) (fun _ _ _ h => h) rfl ?yg16 hHeld ?_
          case yg16 => (intro w hSw; (try dsimp only at hSw); go_simp; (try with_reducible rfl))
          simp only [List.setIfInBounds_toArray, List.set_cons_zero, List.set_cons_succ]
          refine reg_take 17 129 (v := ?vg17) rfl rfl (by kernel_rfl) (by kernel_rfl) (by kernel_rfl) (fun _ _ _ h => h) rfl ?yg17 hHeld ?_
          case yg17 => (intro w hSw; (try dsimp only at hSw); go_simp; (try with_reducible rfl))
          simp only [List.setIfInBounds_toArray, List.set_cons_zero, List.set_cons_succ]
          refine reg_take 18 130 (v := ?vg18) rfl rfl (by kernel_rfl) (by kernel_rfl) (by kernel_rfl) (fun _ _ _ h => h) rfl ?yg18 hHeld ?_
          case yg18 => (intro w hSw; (try dsimp only at hSw); go_simp; (try with_reducible rfl))
          simp only [List.setIfInBounds_toArray, List.set_cons_zero, List.set_cons_succ]
          refine reg_take 19 131 (v := ?vg19) rfl rfl (by kernel_rfl) (by kernel_rfl) (by kernel_rfl) (fun _ _ _ h => h) rfl ?yg19 hHeld ?_
          case yg19 => (intro w hSw; (try dsimp only at hSw); go_simp; (try with_reducible rfl))
          simp only [List.setIfInBounds_toArray, List.set_cons_zero, List.set_cons_succ]
          refine reg_take 20 132 (v := ?vg20) rfl rfl (by kernel_rfl) (by kernel_rfl) (by kernel_rfl) (fun _ _ _ h => h) rfl ?yg20 hHeld ?_
          case yg20 => (intro w hSw; (try dsimp only at hSw); go_simp; (try with_reducible rfl))
          simp only [List.setIfInBounds_toArray, List.set_cons_zero, List.set_cons_succ]
          refine reg_call 21 133 (R := fun v w' => v = .bool true ∧ Below w3.drew.heap.size w3.drew w') (by kernel_rfl) rfl rfl rfl ?xg21 ((HS.out _ (And.right hHeld)).mono (fun e w' ⟨he, hb⟩ => ⟨_, he, rfl, hb⟩)) (fun v w' ⟨_, hb⟩ => keepS_call hHeld hb) ?_
          case xg21 => (go_simp; (try rfl))
          rintro _ wg1 ⟨rfl, hbg1⟩
          have hHeld1 := keepS_call hHeld hbg1
          simp only [List.setIfInBounds_toArray, List.set_cons_zero, List.set_cons_succ]
          refine reg_take 22 134 (v := ?vg22) rfl rfl (by kernel_rfl) (by kernel_rfl) (by kernel_rfl) (fun _ _ _ h => h) rfl ?yg22 hHeld1 ?_
          case yg22 => (intro w hSw; (try dsimp only at hSw); go_simp; (try with_reducible rfl))
          simp only [List.setIfInBounds_toArray, List.set_cons_zero, List.set_cons_succ]
          refine reg_take 23 135 (v := ?vg23) rfl rfl (by kernel_rfl) (by kernel_rfl) (by kernel_rfl) (fun _ _ _ h => h) rfl ?yg23 hHeld1 ?_
          case yg23 => (intro w hSw; (try dsimp only at hSw); go_simp; (try with_reducible rfl))
          simp only [List.setIfInBounds_toArray, List.set_cons_zero, List.set_cons_succ]
          refine reg_take 24 136 (v := ?vg24) rfl rfl (by kernel_rfl) (by kernel_rfl) (by kernel_rfl) (fun _ _ _ h => h) rfl ?yg24 hHeld1 ?_
          case yg24 => (intro w hSw; (try dsimp only at hSw); go_simp; (try with_reducible rfl))
          simp only [List.setIfInBounds_toArray, List.set_cons_zero, List.set_cons_succ]
          refine reg_take 25 137 (v := ?vg25) rfl rfl (by kernel_rfl) (by kernel_rfl) (by kernel_rfl) (fun _ _ _ h => h) rfl ?yg25 hHeld1 ?_
          case yg25 => (intro w hSw; (try dsimp only at hSw); go_simp; (try with_reducible rfl))
          simp only [List.setIfInBounds_toArray, List.set_cons_zero, List.set_cons_succ]
          refine reg_call 26 138 (R := fun v w' => v = .bool true ∧ Below wg1.heap.size wg1 w') (by kernel_rfl) rfl rfl rfl ?xg26 ((awake13_any _).mono (fun e w' ⟨he, hb⟩ => ⟨_, he, rfl, hb⟩)) (fun v w' ⟨_, hb⟩ => keepS_call hHeld1 hb) ?_
          case xg26 => (go_simp; (try rfl))
          rintro _ wg2 ⟨rfl, hbg2⟩
          have hHeld2 := keepS_call hHeld1 hbg2
          simp only [List.setIfInBounds_toArray, List.set_cons_zero, List.set_cons_succ]
          refine reg_take 27 139 (v := ?vg27) rfl rfl (by kernel_rfl) (by kernel_rfl) (by kernel_rfl) (fun _ _ _ h => h) rfl ?yg27 hHeld2 ?_
          case yg27 => (intro w hSw; (try dsimp only at hSw); go_simp; (try with_reducible rfl))
          simp only [List.setIfInBounds_toArray, List.set_cons_zero, List.set_cons_succ]
          refine reg_take 28 4 (v := ?vg28) rfl rfl (by kernel_rfl) (by kernel_rfl) (by kernel_rfl) (fun _ _ _ h => h) rfl ?yg28 hHeld2 ?_
          case yg28 => (intro w hSw; (try dsimp only at hSw); go_simp; (try with_reducible rfl))
          simp only [List.setIfInBounds_toArray, List.set_cons_zero, List.set_cons_succ]
          refine wpAnyH_done (by kernel_rfl) ?_ _
          have hS4 := keepS_below hHeld2
          go_wp2_with fail
          go_ret
          exact ⟨rfl, bnext HBw.out hS4⟩
end Go.Proofs.Ytojmbjkeckdilaa
