/- Texts of the proof, part 38. -/
import Derived.Test.YtihdbncoijhihaaGreatCK25
import Derived.Test.YtihdbncoijhihaaGreatCK37
import Derived.Test.YtihdbncoijhihaaGreatCK27
import Derived.Test.YtihdbncoijhihaaGreatCK28
set_option linter.unusedVariables false
set_option linter.unusedSimpArgs false
/- Trips (layer 15), plainly: the name that a trip ends at is at most 100000 bytes. No walk. -/
namespace Go.Proofs.YtihdbncoijhihaaGreat

open Go.RowKit

theorem fd0_size2 : fd0.name.size ≤ 100000 := by show (0 : Nat) ≤ _; omega
theorem seekL_size2 {S : Fs} (hS : ∀ k a, S.get k = some a → a.kind = 3 → a.data.size ≤ 100000) (c : Cr) (f : Bool) (k : Option (Int → Bool → List (List UInt8) → Fd × Int))
    (hk : ∀ g, k = some g → ∀ at' must l, (∀ p ∈ l, p.length ≤ 100000) → (g at' must l).1.name.size ≤ 100000) :
    ∀ (l : List (List UInt8)) (at' : Int) (must : Bool), (∀ p ∈ l, p.length ≤ 100000) → (S.seekL c f k l at' must).1.name.size ≤ 100000
  | [], at', must, _ => by rw [Fs.seekL]; show (0 : Nat) ≤ _; omega
  | p :: l, at', must, hl => by
    have hp : (str p).size ≤ 100000 := by rw [str_size]; exact hl p (by simp)
    have hl' : ∀ q ∈ l, q.length ≤ 100000 := fun q hq => hl q (by simp [hq])
    have ih := seekL_size2 hS c f k hk l
    rw [Fs.seekL]
    split
    · exact fd0_size2
    · split
      · exact ih _ _ hl'
      · split
        · split
          · exact hp
          · exact fd0_size2
        · rename_i n hn
          split
          · rename_i hc3
            cases hkk : k with
            | none => exact fd0_size2
            | some g =>
              simp only
              split
              · exact fd0_size2
              · refine hk g hkk _ _ _ (fun q hq => ?_)
                rcases List.mem_append.1 hq with hq | hq
                · have h1 := parts_size _ q hq
                  have h2 : n.data.data.toList.length = n.data.size := Array.length_toList
                  have h3 := hS _ n hn hc3.1
                  omega
                · exact hl' q hq
          · split
            · exact fd0_size2
            · split
              · exact hp
              · exact ih _ _ hl'
theorem seekH_size2 {S : Fs} (hS : ∀ k a, S.get k = some a → a.kind = 3 → a.data.size ≤ 100000) (c : Cr) (f : Bool) : ∀ (h : Nat) (at' : Int) (must : Bool) (l : List (List UInt8)), (∀ p ∈ l, p.length ≤ 100000) → (S.seekH c f h at' must l).1.name.size ≤ 100000
  | 0, at', must, l, hl => seekL_size2 hS c f none (fun g h => by cases h) l at' must hl
  | h + 1, at', must, l, hl => seekL_size2 hS c f (some (S.seekH c f h)) (fun g hg at' must l hl => by injection hg with hg; subst hg; exact seekH_size2 hS c f h at' must l hl) l at' must hl
theorem path_size2 {S : Fs} {N : Nat} (hk : FsOk S N) (c : Cr) (s : ByteArray) (hs : s.size ≤ 100000) (f : Bool) : (S.path c s f).1.name.size ≤ 100000 := by
  unfold Fs.path
  split
  · exact fd0_size2
  · refine seekH_size2 (fun k a h h3 => Nat.le_trans ((hk.get h).1.sy h3) (by omega)) c f 8 1 _ _ (fun p hp => ?_)
    have h1 := parts_size _ p hp
    have h2 : s.data.toList.length = s.size := Array.length_toList
    omega
end Go.Proofs.YtihdbncoijhihaaGreat

/- Trees that are to be (layer 22), as the reference has them: Limits, mount. -/
namespace Go.Proofs.YtihdbncoijhihaaGreat

open Go.RowKit

set_option maxRecDepth 100000 in
set_option maxHeartbeats 2000000 in
theorem rlimits22_any (w : World) {ma : Option Addr} {mn mc : Nat} {ia : Option Addr} {il ic : Nat} {ms : List Mt} {is : List It} (h : SdAt w ma mn mc ia il ic ms is) :
    Calls Tryz.prog 175 #[.agg #[.slice ma mn mc, .slice ia il ic]] w fun e w' => e = .returned (.tuple #[.int .i64 (limitsF ms).1, .int .i64 (limitsF ms).2]) ∧ Below w.heap.size w w' := by
  have HS := Lib.hid h
  have hln := h.m.1
  have hmc := h.m.2.1
  have hmx := h.m.2.2.1
  have hbx := balloc (Below.refl w.heap.size w) (.cells #[.slice ma mn mc, .slice ia il ic] 25)
  have hsb := Blk.new w #[.slice ma mn mc, .slice ia il ic] 25
  clear h
  go_enter Tryz.func175, Tryz.ntmps175
  go_upto_region 1 with fail
  generalize w.alloc (.cells #[.slice ma mn mc, .slice ia il ic] 25) = X0 at hbx hsb ⊢
  have HX0 := Lib.hid hbx
  have HSb := Lib.hid hsb
  clear hbx hsb
  go_wp2_with fail
  go_loopw [4] (fun t4 wr => ∃ k : Nat, k ≤ ms.length ∧ t4 = .int .i64 k ∧ limitsF ms = limitsF (ms.drop k) ∧ Below X0.heap.size X0 wr) (fun t4 _ => ms.length - (intOf t4).toNat)
  case atStart => exact ⟨0, Nat.zero_le _, rfl, rfl, Below.refl _ _⟩
  case round =>
    obtain ⟨k, hk, rfl, hE, hb⟩ := hrel
    have HE := Lib.hid hE
    have HB := Lib.hid (HX0.out.trans (hb.mono HX0.out.size))
    obtain ⟨bc, bf, bz⟩ := (HSb.out.keep hb).facts
    clear hE
    by_cases hlt : k < ms.length
    · obtain ⟨b, off, rfl, hbl⟩ := slice_some HS.out.m (by omega)
      obtain ⟨c0, c1, c2⟩ := mt_cells (HS.out.m.below HB.out (Nat.le_refl _)) k hlt
      have HQ := Lib.hid (limitsF_drop hlt)
      generalize ms[k] = m at c0 c1 c2 HQ
      obtain ⟨mp, mb, mk⟩ := m
      have hX := Blk.new wr #[.string mp, .int .i64 mb, .int .i64 mk] 114
      have hbX := balloc hb (.cells #[.string mp, .int .i64 mb, .int .i64 mk] 114)
      clear hb
      go_upto_region 5 with fail
      generalize wr.alloc (.cells #[.string mp, .int .i64 mb, .int .i64 mk] 114) = X at hX hbX ⊢
      have HX := Lib.hid hX
      have HBX0 := Lib.hid hbX
      have HBX := Lib.hid (HX0.out.trans (hbX.mono HX0.out.size))
      obtain ⟨xc, xf, xz⟩ := hX.facts
      clear hX hbX c0 c1 c2 bc bf bz
      by_cases h1 : mp = topB
      · have h1' : mp.toList = [47] := by rw [h1, ba_list]; rfl
        have HP := Lib.hid h1
        clear h1
        cases hlm : limB mb mk with
        | false =>
          have HN := Lib.hid (HE.out.trans (HQ.out.trans (if_neg (fun h => by have h9 : limB mb mk = true := h.2; rw [hlm] at h9; cases h9))))
          have HLm := Lib.hid (fun w => limits_any mb mk w)
          rw [hlm] at HLm
          clear hlm
          go_wp2_with fail
          refine (HLm.out _).mono ?_
          rintro e w3 ⟨rfl, rfl⟩
          go_wp2_with fail
          go_roundw
          case rel => exact ⟨k + 1, by omega, by go_num, HN.out, HBX0.out⟩
          case measure => simp [intOf]; omega
        | true =>
          have HN := Lib.hid (HE.out.trans (HQ.out.trans (if_pos ⟨HP.out, hlm⟩)))
          have HLm := Lib.hid (fun w => limits_any mb mk w)
          rw [hlm] at HLm
          clear hlm
          have mixed : Tryz.prog.follows .mixedOrders = true := by kernel_rfl
          go_wp2_with fail
          refine (HLm.out _).mono ?_
          rintro e w3 ⟨rfl, rfl⟩
          go_wp2_with fail
          go_region
          all_goals
            go_wp2_with fail
            go_ret2
            rw [HN.out]
            exact ⟨rfl, HBX.out.drew⟩
      · have h1' : (mp.toList == [47]) = false := by
          rw [ba_list]
          simp only [beq_eq_false_iff_ne, ne_eq]
          exact fun e => h1 (ba_eq e)
        have HN := Lib.hid (HE.out.trans (HQ.out.trans (if_neg (fun h => h1 h.1))))
        go_wp2_with fail
        go_roundw
        case rel => exact ⟨k + 1, by omega, by go_num, HN.out, HBX0.out⟩
        case measure => simp [intOf]; omega
    · obtain rfl : k = ms.length := by omega
      have HE2 := Lib.hid (show limitsF ms = (65536, 65536) by rw [HE.out, List.drop_length]; rfl)
      clear hb
      go_wp2_with fail
      go_ret2
      rw [HE2.out]
      exact ⟨rfl, HB.out⟩
theorem ns_mkdir {S : Fs} (c : Cr) (now dir : Int) (s : ByteArray) (m : Int) : (S.mkdir c now dir s m).1.ns.length ≤ S.ns.length + 1 := by
  have hmk : ∀ a, (S.make a).1.ns.length ≤ S.ns.length + 1 := fun a => by
    unfold Fs.make
    split
    · simp
    · split
      · simp
      · simp only
        split
        · show (S.ns ++ [_]).length ≤ _; simp
        · simp
  unfold Fs.mkdir
  split
  · simp
  · unfold Fs.come
    split
    · simp
    · split
      · simp
      · split
        · simp
        · simp only
          split
          · simp
          · unfold Fs.touch
            split
            · exact hmk _
            · show (List.map _ _).length ≤ _
              rw [List.length_map]
              exact hmk _
section

variable {w w' : World} {pf : Nat} {R : Rf} {S : Fs}

set_option maxRecDepth 100000 in
set_option maxHeartbeats 4000000 in
theorem rmount22_any (h : RfAt w pf R S) {N : Nat} (hk : FsOk S N) (hN : N ≤ 99990) (hgl : S.ns.length ≤ 99990) (hnow : R.now = 0) (m : Mt) (hp : m.path.size ≤ 100000) :
    Calls Tryz.prog 177 #[.pointer (some ⟨pf, 0, none⟩), .agg #[.string m.path, .int .i64 m.b, .int .i64 m.n]] w fun e w' => e = .returned (.tuple #[]) ∧ ∃ R', RfAt w' pf R' (mountF S m) ∧ Stp (R.F pf) (R'.F pf) w w' ∧ Rf.Like R R' := by
  have hM0 := Blk.new w #[.string m.path, .int .i64 m.b, .int .i64 m.n] 114
  have hb0 := balloc (Below.refl w.heap.size w) (.cells #[.string m.path, .int .i64 m.b, .int .i64 m.n] 114)
  have HF := Lib.hid (rpathF_any (h.keep hb0) hk m.path hp false)
  have HSz := Lib.hid (path_size2 hk c00 m.path (by omega) false)
  have HE1 := Lib.hid (mount_err (S := S) (m := m))
  have HE2 := Lib.hid (mount_new (S := S) (m := m))
  have HE3 := Lib.hid (mount_full (S := S) (m := m))
  have HE4 := Lib.hid (mount_old (S := S) (m := m))
  generalize mountF S m = Z at HE1 HE2 HE3 HE4 ⊢
  generalize S.path c00 m.path false = x at HF HSz HE1 HE2 HE3 HE4
  obtain ⟨⟨xd, xn, xk, xs⟩, xe⟩ := x
  unfold Fd.v at HF
  have HH := Lib.hid h
  have HK := Lib.hid hk
  clear h hk
  go_enter Tryz.func177, Tryz.ntmps177
  go_wp2_with fail
  refine HF.out.mono ?_
  rintro e w1 ⟨rfl, hb1⟩
  have hMX := (hM0.keep hb1).old (.cells #[.int .i64 xd, .string xn, .int .i64 xk, .bool xs] 118)
  have hXX := Blk.new w1 #[.int .i64 xd, .string xn, .int .i64 xk, .bool xs] 118
  have hbX := balloc (bnext hb0 hb1) (.cells #[.int .i64 xd, .string xn, .int .i64 xk, .bool xs] 118)
  have hlw : w.heap.size < w1.heap.size := by have := hb1.size; simp at this; omega
  clear hM0 hb0 hb1
  go_upto_region 2 with fail
  generalize w1.alloc (.cells #[.int .i64 xd, .string xn, .int .i64 xk, .bool xs] 118) = X at hMX hXX hbX ⊢
  generalize w1.heap.size = D at hXX hlw ⊢
  have HMX := Lib.hid hMX
  have HXX := Lib.hid hXX
  have HBX := Lib.hid hbX
  obtain ⟨xc, xf, xz⟩ := hXX.facts
  obtain ⟨mc, mf, mz⟩ := hMX.facts
  have HHX := Lib.hid (HH.out.keep hbX)
  clear hMX hXX hbX
  by_cases he : xe = 0
  · have heb : (xe == 0) = true := by simpa using he
    subst he
    by_cases hno : xk = 0
    · have hnb : (xk == 0) = true := by simpa using hno
      have HM := Lib.hid (rdir_any HHX.out HK.out (by omega) (by omega) xd xn (by exact HSz.out) 493)
      rw [hnow] at HM
      have HE2a := Lib.hid (HE2.out rfl hno)
      have HE3a := Lib.hid (HE3.out rfl hno)
      try dsimp only at HE2a
      try dsimp only at HE3a
      try dsimp only at HM
      have HOk := Lib.hid (mkdir_ok HK.out c00 0 xd xn 493)
      have HNl := Lib.hid (ns_mkdir (S := S) c00 0 xd xn 493)
      clear HE1 HE2 HE3 HE4 hno
      generalize S.mkdir c00 0 xd xn 493 = q at HM HE2a HE3a HOk HNl
      obtain ⟨S1, n1, e1⟩ := q
      try dsimp only at HM
      try dsimp only at HE2a
      try dsimp only at HE3a
      try dsimp only at HOk
      try dsimp only at HNl
      go_wp2_with fail
      refine HM.out.mono ?_
      rintro e w3 ⟨rfl, R3, hR3, hS3, hL3⟩
      have hM3 := HMX.out.rf HHX.out hS3 rfl
      have hX3 := HXX.out.rf HHX.out hS3 rfl
      have HR3 := Lib.hid (And.intro hR3 (And.intro ((Stp.of_below HBX.out).trans hS3) hL3))
      have hF3 : ¬ R3.F pf D := fun hk => by
        rcases hS3.new D hk with h1 | h1
        · have := HH.out.lt h1; omega
        · have := HXX.out.lt; omega
      have hR4 := hR3.aside hX3 hF3 (by decide) 2 (.int .i64 n1)
      have hX4 := hX3.set 2 (.int .i64 n1)
      have hM4 := hM3.setOther ⟨D, 2, none⟩ (.int .i64 n1) (show D ≠ w.heap.size by omega)
      have hst4 : Stp (R.F pf) (R3.F pf) w (w3.setCell ⟨D, 2, none⟩ (.int .i64 n1)) := ⟨HR3.out.2.1.mod.setCell (a := ⟨D, 2, none⟩) (.inr (by show w.heap.size ≤ D; omega)) _, HR3.out.2.1.new⟩
      have HR4 := Lib.hid (And.intro hR4 hst4)
      obtain ⟨xc3, xf3, xz3⟩ := hX3.facts
      obtain ⟨mc3, mf3, mz3⟩ := hM3.facts
      have hne : ¬ D = w.heap.size := by omega
      have hne2 : ¬ w.heap.size = D := by omega
      by_cases h1 : e1 = 0
      · have h1b : (e1 == 0) = true := by simpa using h1
        have HE := Lib.hid (HE2a.out h1)
        have HMo := Lib.hid (rmount_any hR4 HOk.out (by omega) (by have := HNl.out; omega) n1 m.b m.n)
        clear xc xf xz mc mf mz hR3 hS3 hL3 hM3 hX3 hF3 hR4 hX4 hM4 hst4 h1
        go_wp2_with fail
        refine HMo.out.mono ?_
        rintro e w5 ⟨rfl, R5, hR5, hS5, hL5⟩
        have HR5 := Lib.hid (And.intro hR5 (And.intro (HR4.out.2.trans hS5) (HR3.out.2.2.trans hL5)))
        clear hR5 hS5 hL5
        go_wp2_with fail
        go_end0
        rw [HE.out]
        exact ⟨rfl, R5, HR5.out⟩
      · have h1b : (e1 == 0) = false := by simpa using h1
        have HE := Lib.hid (HE3a.out h1)
        clear xc xf xz mc mf mz hR3 hS3 hL3 hM3 hX3 hF3 hR4 hX4 hM4 hst4 h1
        go_wp2_with fail
        go_end0
        rw [HE.out]
        exact ⟨rfl, R3, HR4.out.1, HR4.out.2, HR3.out.2.2⟩
    · have hnb : (xk == 0) = false := by simpa using hno
      have HM := Lib.hid (rmount_any HHX.out HK.out (by omega) (by omega) xk m.b m.n)
      have HE := Lib.hid (HE4.out rfl hno)
      try dsimp only at HE
      clear HE1 HE2 HE3 HE4 hno
      go_wp2_with fail
      refine HM.out.mono ?_
      rintro e w3 ⟨rfl, R3, hR3, hS3, hL3⟩
      have HR3 := Lib.hid (And.intro hR3 (And.intro ((Stp.of_below HBX.out).trans hS3) hL3))
      clear hR3 hS3 hL3
      go_wp2_with fail
      go_end0
      rw [HE.out]
      exact ⟨rfl, R3, HR3.out⟩
  · have heb : (xe == 0) = false := by simpa using he
    have HE := Lib.hid (HE1.out he)
    clear HE1 HE2 HE3 HE4 he
    go_wp2_with fail
    go_end0
    rw [HE.out]
    exact ⟨rfl, R, HHX.out, Stp.of_below HBX.out, Rf.Like.refl R⟩
end

end Go.Proofs.YtihdbncoijhihaaGreat

/- Trees that are to be (layer 22), as the reference has them: an item comes. -/
namespace Go.Proofs.YtihdbncoijhihaaGreat

open Go.RowKit

section

variable {w w' : World} {pf : Nat} {R : Rf} {S : Fs}

set_option maxRecDepth 100000 in
set_option maxHeartbeats 8000000 in
theorem rnode22_any (h : RfAt w pf R S) {N : Nat} (hk : FsOk S N) (hN : N ≤ 99990) (hgl : S.ns.length ≤ 99990) (hnow : R.now = 0) (it : It) (hp : it.path.size ≤ 100000) (hd : it.data.size ≤ 100000) :
    Calls Tryz.prog 178 #[.pointer (some ⟨pf, 0, none⟩), .agg #[.string it.path, .int .i64 it.kind, .int .i64 it.mode, .int .i64 it.uid, .int .i64 it.gid, .int .i64 it.mtime, .string it.data]] w fun e w' => e = .returned (.int .i64 (nodeF S it).2) ∧ ∃ R', RfAt w' pf R' (nodeF S it).1 ∧ Stp (R.F pf) (R'.F pf) w w' ∧ Rf.Like R R' := by
  have hI0 := Blk.new w #[.string it.path, .int .i64 it.kind, .int .i64 it.mode, .int .i64 it.uid, .int .i64 it.gid, .int .i64 it.mtime, .string it.data] 116
  have hb0 := balloc (Below.refl w.heap.size w) (.cells #[.string it.path, .int .i64 it.kind, .int .i64 it.mode, .int .i64 it.uid, .int .i64 it.gid, .int .i64 it.mtime, .string it.data] 116)
  have HF := Lib.hid (rpathF_any (h.keep hb0) hk it.path hp false)
  have HSz := Lib.hid (path_size2 hk c00 it.path (by omega) false)
  generalize hx : S.path c00 it.path false = x at HF HSz
  obtain ⟨⟨xd, xn, xk, xs⟩, xe⟩ := x
  have HPx := Lib.hid hx
  unfold Fd.v at HF
  have HH := Lib.hid h
  have HK := Lib.hid hk
  clear h hk hx
  go_enter Tryz.func178, Tryz.ntmps178
  go_wp2_with fail
  refine HF.out.mono ?_
  rintro e w1 ⟨rfl, hb1⟩
  have hIX := (hI0.keep hb1).old (.cells #[.int .i64 xd, .string xn, .int .i64 xk, .bool xs] 118)
  have hXX := Blk.new w1 #[.int .i64 xd, .string xn, .int .i64 xk, .bool xs] 118
  have hbX := balloc (bnext hb0 hb1) (.cells #[.int .i64 xd, .string xn, .int .i64 xk, .bool xs] 118)
  clear hI0 hb0 hb1
  go_upto_region 2 with fail
  generalize w1.alloc (.cells #[.int .i64 xd, .string xn, .int .i64 xk, .bool xs] 118) = X at hIX hXX hbX ⊢
  generalize w1.heap.size = D at hXX ⊢
  have HIX := Lib.hid hIX
  have HXX := Lib.hid hXX
  have HBX := Lib.hid hbX
  obtain ⟨xc, xf, xz⟩ := hXX.facts
  obtain ⟨ic, if', iz⟩ := hIX.facts
  have HHX := Lib.hid (HH.out.keep hbX)
  clear hIX hXX hbX
  by_cases he : xe = 0
  · have heb : (xe != 0) = false := by simpa using he
    by_cases hno : xk = 0
    · have hnb : (xk != 0) = false := by simpa using hno
      have HQ0 := Lib.hid (node_new (it := it) HPx.out he hno)
      try dsimp only at HQ0
      clear he hno
      by_cases g1 : it.kind = 1
      · have p1 : (it.kind == 1) = true := by simpa using g1
        have HQ := Lib.hid (HQ0.out.trans (if_pos g1))
        have HM := Lib.hid (rdir_any HHX.out HK.out (by omega) (by omega) xd xn (by exact HSz.out) 493)
        have kk : it.kind = 1 := g1
        clear g1
        rw [hnow] at HM
        go_wp2_with fail
        refine HM.out.mono ?_
        rintro e w3 ⟨rfl, R3, hR3, hS3, hL3⟩
        have HR3 := Lib.hid (And.intro hR3 (And.intro ((Stp.of_below HBX.out).trans hS3) hL3))
        clear hR3 hS3 hL3 xc xf xz ic if' iz
        go_wp2_with fail
        go_ret
        rw [HQ.out]
        exact ⟨rfl, R3, HR3.out⟩
      · have p1 : (it.kind == 1) = false := by simpa using g1
        have HQ1 := Lib.hid (HQ0.out.trans (if_neg g1))
        by_cases g2 : it.kind = 2
        · have p2 : (it.kind == 2) = true := by simpa using g2
          have HQ := Lib.hid (HQ1.out.trans (if_pos g2))
          have HM := Lib.hid (rfile_any HHX.out HK.out (by omega) (by omega) xd xn (by exact HSz.out) 420 it.data)
          have kk : it.kind = 2 := g2
          clear g2
          rw [hnow] at HM
          go_wp2_with fail
          refine HM.out.mono ?_
          rintro e w3 ⟨rfl, R3, hR3, hS3, hL3⟩
          have HR3 := Lib.hid (And.intro hR3 (And.intro ((Stp.of_below HBX.out).trans hS3) hL3))
          clear hR3 hS3 hL3 xc xf xz ic if' iz
          go_wp2_with fail
          go_ret
          rw [HQ.out]
          exact ⟨rfl, R3, HR3.out⟩
        · have p2 : (it.kind == 2) = false := by simpa using g2
          have HQ2 := Lib.hid (HQ1.out.trans (if_neg g2))
          by_cases g3 : it.kind = 3
          · have p3 : (it.kind == 3) = true := by simpa using g3
            have HQ := Lib.hid (HQ2.out.trans (if_pos g3))
            have HM := Lib.hid (rsym_any HHX.out HK.out (by omega) (by omega) xd xn (by exact HSz.out) it.data (by omega))
            have kk : it.kind = 3 := g3
            clear g3
            rw [hnow] at HM
            go_wp2_with fail
            refine HM.out.mono ?_
            rintro e w3 ⟨rfl, R3, hR3, hS3, hL3⟩
            have HR3 := Lib.hid (And.intro hR3 (And.intro ((Stp.of_below HBX.out).trans hS3) hL3))
            clear hR3 hS3 hL3 xc xf xz ic if' iz
            go_wp2_with fail
            go_ret
            rw [HQ.out]
            exact ⟨rfl, R3, HR3.out⟩
          · have p3 : (it.kind == 3) = false := by simpa using g3
            have HQ3 := Lib.hid (HQ2.out.trans (if_neg g3))
            by_cases g4 : it.kind = 4
            · have p4 : (it.kind == 4) = true := by simpa using g4
              have HQ4 := Lib.hid (HQ3.out.trans (if_pos g4))
              have HF2 := Lib.hid (rpathF_any HHX.out HK.out it.data hd false)
              clear g4
              generalize hy : S.path c00 it.data false = y at HQ4 HF2
              obtain ⟨⟨yd, yn, yk, ys⟩, ye⟩ := y
              try dsimp only at HQ4
              unfold Fd.v at HF2
              clear hy
              go_wp2_with fail
              refine HF2.out.mono ?_
              rintro e w3 ⟨rfl, hb3⟩
              have hX3 := (HXX.out.keep hb3).old (.cells #[.int .i64 yd, .string yn, .int .i64 yk, .bool ys] 118)
              have hY3 := Blk.new w3 #[.int .i64 yd, .string yn, .int .i64 yk, .bool ys] 118
              have hb4 := balloc (bnext HBX.out hb3) (.cells #[.int .i64 yd, .string yn, .int .i64 yk, .bool ys] 118)
              go_upto_region 18 with fail
              generalize w3.alloc (.cells #[.int .i64 yd, .string yn, .int .i64 yk, .bool ys] 118) = Y at hX3 hY3 hb4 ⊢
              have HB4 := Lib.hid hb4
              have HHY := Lib.hid (HH.out.keep hb4)
              clear xc xf xz ic if' iz hb3 hb4
              obtain ⟨xc, xf, xz⟩ := hX3.facts
              obtain ⟨yc, yf, yz⟩ := hY3.facts
              clear hX3 hY3
              by_cases hye : ye = 0
              · have hyb : (ye == 0) = true := by simpa using hye
                have HQ := Lib.hid (HQ4.out.trans (if_pos hye))
                have HM := Lib.hid (rhard_any HHY.out HK.out (by omega) yk xd xn (by exact HSz.out))
                rw [hnow] at HM
                clear hye
                go_wp2_with fail
                refine HM.out.mono ?_
                rintro e w5 ⟨rfl, R3, hR3, hS3, hL3⟩
                have HR3 := Lib.hid (And.intro hR3 (And.intro ((Stp.of_below HB4.out).trans hS3) hL3))
                clear hR3 hS3 hL3 xc xf xz yc yf yz
                go_wp2_with fail
                go_ret
                rw [HQ.out]
                exact ⟨rfl, R3, HR3.out⟩
              · have hyb : (ye == 0) = false := by simpa using hye
                have HQ := Lib.hid (HQ4.out.trans (if_neg hye))
                clear hye
                go_wp2_with fail
                go_ret
                rw [HQ.out]
                exact ⟨rfl, R, HHY.out, Stp.of_below HB4.out, Rf.Like.refl R⟩
            · have p4 : (it.kind == 4) = false := by simpa using g4
              have HQ := Lib.hid (HQ3.out.trans (if_neg g4))
              clear g1 g2 g3 g4
              go_wp2_with fail
              go_ret
              rw [HQ.out]
              exact ⟨rfl, R, HHX.out, Stp.of_below HBX.out, Rf.Like.refl R⟩
    · have hnb : (xk != 0) = true := by simpa using hno
      by_cases h1 : it.kind = 1
      · have q1 : (it.kind == 1) = true := by simpa using h1
        obtain ⟨na, nl, nc, -, hG⟩ := rgetZ_fix HH.out xk
        have HG := Lib.hid (hG X HBX.out)
        have hkz : (S.getZ xk).kind = S.kindOf xk := by
          unfold Fs.getZ Fs.kindOf
          cases S.get xk <;> rfl
        unfold An.v at HG
        have hfd : ∀ (a : An) (w : World), (Instr.field 49 (.agg #[.int .i64 a.no, .int .i64 a.dev, .int .i64 a.kind, .int .i64 a.mode, .int .i64 a.uid, .int .i64 a.gid, .int .i64 a.mtime, .int .i64 a.ctime, .int .i64 a.links, .int .i64 a.up, .string a.data, .slice na nl nc]) 2).run Tryz.prog w = .ok (.int .i64 a.kind) w := fun _ _ => by kernel_rfl
        by_cases h2 : S.kindOf xk = 1
        · have HQ := Lib.hid (node_old (it := it) HPx.out he hno h1 h2)
          have q2 : ((S.getZ xk).kind == 1) = true := by rw [hkz]; simpa using h2
          generalize S.getZ xk = nd at HG q2
          clear he hno h1 h2 hG hkz
          go_wp2_with fail
          refine HG.out.mono ?_
          rintro e w3 ⟨rfl, hb3⟩
          have HB3 := Lib.hid (bnext HBX.out hb3)
          have hX3 := HXX.out.keep hb3
          clear xc xf xz ic if' iz hb3
          obtain ⟨xc, xf, xz⟩ := hX3.facts
          go_wp2_with fail
          go_ret
          rw [HQ.out]
          exact ⟨rfl, R, HH.out.keep HB3.out, Stp.of_below HB3.out, Rf.Like.refl R⟩
        · have HQ := Lib.hid (node_had (it := it) HPx.out he hno (fun h => h2 h.2))
          have q2 : ((S.getZ xk).kind == 1) = false := by rw [hkz]; simpa using h2
          generalize S.getZ xk = nd at HG q2
          clear he hno h1 h2 hG hkz
          go_wp2_with fail
          refine HG.out.mono ?_
          rintro e w3 ⟨rfl, hb3⟩
          have HB3 := Lib.hid (bnext HBX.out hb3)
          clear xc xf xz ic if' iz hb3
          go_wp2_with fail
          go_ret
          rw [HQ.out]
          exact ⟨rfl, R, HH.out.keep HB3.out, Stp.of_below HB3.out, Rf.Like.refl R⟩
      · have q1 : (it.kind == 1) = false := by simpa using h1
        have HQ := Lib.hid (node_had (it := it) HPx.out he hno (fun h => h1 h.1))
        clear he hno h1
        go_wp2_with fail
        go_ret
        rw [HQ.out]
        exact ⟨rfl, R, HHX.out, Stp.of_below HBX.out, Rf.Like.refl R⟩
  · have heb : (xe != 0) = true := by simpa using he
    have HQ := Lib.hid (node_err (it := it) HPx.out he)
    clear he
    go_wp2_with fail
    go_ret
    rw [HQ.out]
    exact ⟨rfl, R, HHX.out, Stp.of_below HBX.out, Rf.Like.refl R⟩
end

end Go.Proofs.YtihdbncoijhihaaGreat
