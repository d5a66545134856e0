/- Texts of the proof, part 8. -/
import Derived.Deep.CutBlock
import Derived.Deep.DeepCutAuto
import Derived.Test.YtkkiglagdojnlaaGreatDoorEP7
set_option linter.unusedVariables false
set_option linter.unusedSimpArgs false
/- slices.symMergeCmpFunc at rows of structs, over any program that bears the bodies. Printed by gen_smerge.py. -/
namespace Go.Proofs.YtkkiglagdojnlaaGreatDoor

open Go.RowKit Go.Shelf Go.Lib Go.Sort

section

variable {P : Program} {k : Nat} {α : Type} [Inhabited α] {enc : α → List Value} {w0 : World} {blk off : Nat} {d0 : Array α}

set_option maxHeartbeats 4000000 in
set_option maxRecDepth 1000000 in
/-- one element ahead of a sorted part. -/
theorem so_mrg1 (L : SoL P k) (cf : α → α → Int) (hO : SWO (ltOf cf)) (g : Nat) (cb : Array Value) (eg : ∀ args w, (callFunc g args).run P w = .ok (.enter g args) w) (hcmp : CmpLays P g cb enc k cf blk off d0.size w0) (cap a b : Nat) (d : Array α) (w : World) (R : RowK enc k w0 blk off d0) (hs : d0.size = d.size) (S : SWK enc k w0 blk off d w) (hsz : d.size < 4611686018427387904)
    {x : α} {B : List α} (hd : Seg d a (x :: B)) (hb : a + 1 + B.length = b) (hB : SrtL (ltOf cf) B) :
    Calls P 142 #[.slice (some ⟨blk, off, none⟩) d.size cap, .int .i64 a, .int .i64 ((a + 1 : Nat) : Int), .int .i64 b, .func (.func g) #[] cb] w fun e w' => e = .returned (.tuple #[]) ∧ ∃ d', SWK enc k w0 blk off d' w' ∧ Mrgd (ltOf cf) a b [x] B d d' := by
  have mixed := L.mixed; have t0 := L.t0; have a0 := L.a0; have z0 := L.z0; have v0 := L.v0; have t3 := L.t3; have a3 := L.a3; have z3 := L.z3; have v3 := L.v3; have t4 := L.t4; have a4 := L.a4; have z4 := L.z4; have v4 := L.v4; have tu := L.tu; have au := L.au; have zu := L.zu; have vu := L.vu; have tS := L.tS; have aS := L.aS; have zS := L.zS; have vS := L.vS; have tF := L.tF; have aF := L.aF; have zF := L.zF; have vF := L.vF; have aE := L.aE; have zE := L.zE
  have FG := L.fM
  have S0 : Aside (SWK enc k w0 blk off d w) := S
  have HC : Aside _ := hcmp
  have hbd := hd.1
  rw [List.length_cons] at hbd
  have HX := Lib.hid (show d[a]! = x by have := hd.2 0 (by simp); simpa using this)
  have HM := Lib.hid (fun i d' h1 h2 h3 h4 h5 => mrgd_left (i := i) (d' := d') hO hB hd hb.symm h1 h2 h3 h4 h5)
  have hab : a + 1 ≤ b := by omega
  have hbs : b ≤ d.size := by omega
  have hw1 : IntKind.i64.wrap (((a + 1 : Nat) : Int) - (a : Int)) = 1 := by rw [IntKind.wrap_i64]; omega
  clear S L hcmp hd hB hb hbd hO
  obtain ⟨m, hm⟩ : ∃ m, a + 1 = m := ⟨_, rfl⟩
  rw [hm] at hw1 hab HM ⊢
  go_enter FG, Tryz.ntmps142
  go_wp2_with fail
  go_loopg [10, 11] (b - m) (fun kx s10 s11 wr => ∃ (i j : Nat), s10 = .int .i64 i ∧ s11 = .int .i64 j ∧ m ≤ i ∧ i ≤ j ∧ j ≤ b ∧ j - i ≤ kx ∧ Aside (SWK enc k w0 blk off d wr) ∧ Hid ((m < i → ltOf cf d[i - 1]! x = true) ∧ (j < b → ltOf cf d[j]! x = false)))
  case atStart => exact ⟨m, b, rfl, rfl, Nat.le_refl _, hab, Nat.le_refl _, Nat.le_refl _, S0, fun h => absurd h (Nat.lt_irrefl _), fun h => absurd h (Nat.lt_irrefl _)⟩
  case round =>
    clear S0
    obtain ⟨i, j, rfl, rfl, h1, h2, h3, hkx, S1, HI⟩ := hrel
    by_cases hlt : i < j
    · skip
      have hltz : (i : Int) < (j : Int) := by omega
      have hwa : IntKind.i64.wrap ((i : Int) + (j : Int)) = (i : Int) + (j : Int) := by rw [IntKind.wrap_i64]; omega
      have hwu : IntKind.u64.wrap ((i : Int) + (j : Int)) = (i : Int) + (j : Int) := by rw [IntKind.wrap_u64]; omega
      obtain ⟨h, hh⟩ : ∃ h : Nat, (i + j) / 2 = h := ⟨_, rfl⟩
      have hih : i ≤ h := by omega
      have hhj : h < j := by omega
      have hhz : ((i : Int) + (j : Int)) / 2 = (h : Int) := by omega
      clear hh
      have hha : (h : Int) < (d.size : Int) := by omega
      have haa : (a : Int) < (d.size : Int) := by omega
      cases hlv : ltOf cf d[h]! d[a]! with
      | true =>
        obtain ⟨x1, hx1⟩ : ∃ x, d[h]! = x := ⟨_, rfl⟩
        obtain ⟨x2, hx2⟩ : ∃ x, d[a]! = x := ⟨_, rfl⟩
        have l1 := S1.out.ld R (by omega) P (h) (by omega)
        have l2 := S1.out.ld R (by omega) P (a) (by omega)
        rw [hx1] at l1
        rw [hx2] at l2
        have hc := S1.out.cmp HC.out (by omega) x1 x2
        have hv : cf x1 x2 < 0 := by rw [← hx1, ← hx2]; exact of_decide_eq_true hlv
        have hvd : decide (cf x1 x2 < 0) = true := decide_eq_true hv
        go_wp2_with fail
        go_quiet_grown (first | (go_at_fn g; refine Calls.grown_of (hc _ _)))
        have S2 : Aside (SWK enc k w0 blk off d (grow (wr.drewN nq) osq)) := S1.out.grown nq osq
        clear l1 l2 hc S1
        generalize grow (wr.drewN nq) osq = w2 at S2 ⊢
        clear nq osq
        go_wp2_with fail
        go_roundg (j - (h + 1))
        case measure => omega
        case rel => exact ⟨h + 1, j, by first | rfl | go_num, rfl, by omega, by omega, h3, Nat.le_refl _, S2, fun _ => by rw [← HX.out]; exact hlv, HI.out.2⟩
      | false =>
        obtain ⟨x1, hx1⟩ : ∃ x, d[h]! = x := ⟨_, rfl⟩
        obtain ⟨x2, hx2⟩ : ∃ x, d[a]! = x := ⟨_, rfl⟩
        have l1 := S1.out.ld R (by omega) P (h) (by omega)
        have l2 := S1.out.ld R (by omega) P (a) (by omega)
        rw [hx1] at l1
        rw [hx2] at l2
        have hc := S1.out.cmp HC.out (by omega) x1 x2
        have hv : ¬ cf x1 x2 < 0 := by rw [← hx1, ← hx2]; exact of_decide_eq_false hlv
        have hvd : decide (cf x1 x2 < 0) = false := decide_eq_false hv
        go_wp2_with fail
        go_quiet_grown (first | (go_at_fn g; refine Calls.grown_of (hc _ _)))
        have S2 : Aside (SWK enc k w0 blk off d (grow (wr.drewN nq) osq)) := S1.out.grown nq osq
        clear l1 l2 hc S1
        generalize grow (wr.drewN nq) osq = w2 at S2 ⊢
        clear nq osq
        go_wp2_with fail
        go_roundg (h - i)
        case measure => omega
        case rel => exact ⟨i, h, rfl, by first | rfl | go_num, h1, hih, by omega, Nat.le_refl _, S2, HI.out.1, fun _ => by rw [← HX.out]; exact hlv⟩
    · obtain rfl : i = j := by omega
      have hltz : ¬ (i : Int) < (i : Int) := by omega
      have hwi : IntKind.i64.wrap ((i : Int) - 1) = (i : Int) - 1 := by rw [IntKind.wrap_i64]; omega
      go_wp2_with fail
      go_loopg [13] (i - 1 - a) (fun kx s13 wr => ∃ q : Nat, s13 = .int .i64 q ∧ a ≤ q ∧ q + 1 ≤ i ∧ i - 1 - q ≤ kx ∧ Aside (SWK enc k w0 blk off (shiftR d a (q - a)) wr))
      case atStart => exact ⟨a, rfl, Nat.le_refl _, by omega, Nat.le_refl _, by rw [Nat.sub_self]; exact S1⟩
      case round =>
        clear S1 hltz
        obtain ⟨q, rfl, g1, g2, hkx, S1⟩ := hrel
        by_cases hlt : q + 1 < i
        · have hltz : (q : Int) < (i : Int) - 1 := by omega
          go_wp2_with fail
          have hds : (shiftR d a (q - a)).size = d.size := shiftR_size d a (q - a)
          have HSW := Lib.hid (show shiftR d a (q + 1 - a) = swp (shiftR d a (q - a)) q (q + 1) by rw [show q + 1 - a = q - a + 1 by omega, shiftR, show a + (q - a) = q by omega])
          generalize shiftR d a (q - a) = dk at S1 hds HSW
          have ea : ((q : Int)).toNat = q := by omega
          have pa : (0 : Int) ≤ (q : Int) := by omega
          have ba : (q : Int) < (d.size : Int) := by omega
          have ra : IntKind.i64.wrap ((q : Int)) = (q : Int) := by rw [IntKind.wrap_i64]; omega
          have ec : ((q : Int) + 1).toNat = q + 1 := by omega
          have pc : (0 : Int) ≤ (q : Int) + 1 := by omega
          have bc : (q : Int) + 1 < (d.size : Int) := by omega
          have rc : IntKind.i64.wrap ((q : Int) + 1) = (q : Int) + 1 := by rw [IntKind.wrap_i64]; omega
          have S2 : Aside (SWK enc k w0 blk off (swp dk (q) (q + 1)) ((wr.drew.setCells blk (off + (q) * k) (enc dk[q + 1]!)).setCells blk (off + (q + 1) * k) (enc dk[q]!))) := S1.out.swapped R (q) (q + 1) (by omega) (by omega)
          have la := S1.out.ld1 R (by omega) P (q) (by omega)
          have lb := S1.out.ld1 R (by omega) P (q + 1) (by omega)
          have sa := S1.out.st1 R (by omega) P (q) (by omega) dk[q + 1]!
          have sb := S1.out.st2 R (by omega) P (q) (q + 1) (by omega) (by omega) dk[q + 1]! dk[q]!
          have na : (enc dk[q]!).length = k := R.hk _
          have nb : (enc dk[q + 1]!).length = k := R.hk _
          generalize enc dk[q]! = cI at S2 la sb na
          generalize enc dk[q + 1]! = cJ at S2 lb sa sb nb
          clear S1
          go_wp2_with fail
          go_big_region_o
          clear la lb sa sb
          generalize (wr.drew.setCells blk (off + (q) * k) cJ).setCells blk (off + (q + 1) * k) cI = w2 at S2 ⊢
          go_wp2_with fail
          go_roundg (i - 1 - (q + 1))
          case measure => omega
          case rel => exact ⟨q + 1, by first | rfl | go_num, by omega, by omega, Nat.le_refl _, by rw [HSW.out]; exact S2⟩
        · have hltz : ¬ (q : Int) < (i : Int) - 1 := by omega
          obtain rfl : i = q + 1 := by omega
          go_wp2_with fail
          (try simp only [Exit.inBlock, Exit.then])
          refine bodyPost_ret (results_none rfl _ _ _) rfl ?_
          exact ⟨rfl, _, S1.out, HM.out (q + 1) _ (by omega) h3 (fun h => HI.out.1 (by omega)) HI.out.2 rfl⟩
set_option maxHeartbeats 4000000 in
set_option maxRecDepth 1000000 in
/-- one element behind a sorted part. -/
theorem so_mrg2 (L : SoL P k) (cf : α → α → Int) (hO : SWO (ltOf cf)) (g : Nat) (cb : Array Value) (eg : ∀ args w, (callFunc g args).run P w = .ok (.enter g args) w) (hcmp : CmpLays P g cb enc k cf blk off d0.size w0) (cap a m b : Nat) (d : Array α) (w : World) (R : RowK enc k w0 blk off d0) (hs : d0.size = d.size) (S : SWK enc k w0 blk off d w) (hsz : d.size < 4611686018427387904)
    {y : α} {A : List α} (hd : Seg d a (A ++ [y])) (hm : a + A.length = m) (hb : m + 1 = b) (hA : SrtL (ltOf cf) A) (hA1 : A.length ≠ 1) :
    Calls P 142 #[.slice (some ⟨blk, off, none⟩) d.size cap, .int .i64 a, .int .i64 m, .int .i64 b, .func (.func g) #[] cb] w fun e w' => e = .returned (.tuple #[]) ∧ ∃ d', SWK enc k w0 blk off d' w' ∧ Mrgd (ltOf cf) a b A [y] d d' := by
  have mixed := L.mixed; have t0 := L.t0; have a0 := L.a0; have z0 := L.z0; have v0 := L.v0; have t3 := L.t3; have a3 := L.a3; have z3 := L.z3; have v3 := L.v3; have t4 := L.t4; have a4 := L.a4; have z4 := L.z4; have v4 := L.v4; have tu := L.tu; have au := L.au; have zu := L.zu; have vu := L.vu; have tS := L.tS; have aS := L.aS; have zS := L.zS; have vS := L.vS; have tF := L.tF; have aF := L.aF; have zF := L.zF; have vF := L.vF; have aE := L.aE; have zE := L.zE
  have FG := L.fM
  have S0 : Aside (SWK enc k w0 blk off d w) := S
  have HC : Aside _ := hcmp
  have hbd := hd.1
  rw [List.length_append, List.length_singleton] at hbd
  have HX := Lib.hid (show d[m]! = y by
    have := hd.2 A.length (by simp)
    rw [List.getElem_append_right (by omega)] at this
    rw [← hm]
    simpa using this)
  have HM := Lib.hid (fun i d' h1 h2 h3 h4 h5 => mrgd_right (i := i) (d' := d') hO hA hd hm.symm h1 h2 h3 h4 h5)
  rw [hb] at HM
  have hab : a ≤ m := by omega
  have hbs : m < d.size := by omega
  have hw1 : IntKind.i64.wrap ((m : Int) - (a : Int)) = (m : Int) - (a : Int) := by rw [IntKind.wrap_i64]; omega
  have hw1b : ((m : Int) - (a : Int) == 1) = false := by rw [beq_eq_false_iff_ne]; omega
  have hw2 : IntKind.i64.wrap ((b : Int) - (m : Int)) = 1 := by rw [IntKind.wrap_i64]; omega
  clear S L hcmp hd hA hb hbd hO hA1 hm
  go_enter FG, Tryz.ntmps142
  go_wp2_with fail
  go_loopg [14, 15] (m - a) (fun kx s10 s11 wr => ∃ (i j : Nat), s10 = .int .i64 i ∧ s11 = .int .i64 j ∧ a ≤ i ∧ i ≤ j ∧ j ≤ m ∧ j - i ≤ kx ∧ Aside (SWK enc k w0 blk off d wr) ∧ Hid ((a < i → ltOf cf y d[i - 1]! = false) ∧ (j < m → ltOf cf y d[j]! = true)))
  case atStart => exact ⟨a, m, rfl, rfl, Nat.le_refl _, hab, Nat.le_refl _, Nat.le_refl _, S0, fun h => absurd h (Nat.lt_irrefl _), fun h => absurd h (Nat.lt_irrefl _)⟩
  case round =>
    clear S0
    obtain ⟨i, j, rfl, rfl, h1, h2, h3, hkx, S1, HI⟩ := hrel
    by_cases hlt : i < j
    · skip
      have hltz : (i : Int) < (j : Int) := by omega
      have hwa : IntKind.i64.wrap ((i : Int) + (j : Int)) = (i : Int) + (j : Int) := by rw [IntKind.wrap_i64]; omega
      have hwu : IntKind.u64.wrap ((i : Int) + (j : Int)) = (i : Int) + (j : Int) := by rw [IntKind.wrap_u64]; omega
      obtain ⟨h, hh⟩ : ∃ h : Nat, (i + j) / 2 = h := ⟨_, rfl⟩
      have hih : i ≤ h := by omega
      have hhj : h < j := by omega
      have hhz : ((i : Int) + (j : Int)) / 2 = (h : Int) := by omega
      clear hh
      have hha : (h : Int) < (d.size : Int) := by omega
      have haa : (m : Int) < (d.size : Int) := by omega
      cases hlv : ltOf cf d[m]! d[h]! with
      | true =>
        obtain ⟨x1, hx1⟩ : ∃ x, d[m]! = x := ⟨_, rfl⟩
        obtain ⟨x2, hx2⟩ : ∃ x, d[h]! = x := ⟨_, rfl⟩
        have l1 := S1.out.ld R (by omega) P (m) (by omega)
        have l2 := S1.out.ld R (by omega) P (h) (by omega)
        rw [hx1] at l1
        rw [hx2] at l2
        have hc := S1.out.cmp HC.out (by omega) x1 x2
        have hv : cf x1 x2 < 0 := by rw [← hx1, ← hx2]; exact of_decide_eq_true hlv
        have hvd : decide (cf x1 x2 < 0) = true := decide_eq_true hv
        go_wp2_with fail
        go_quiet_grown (first | (go_at_fn g; refine Calls.grown_of (hc _ _)))
        have S2 : Aside (SWK enc k w0 blk off d (grow (wr.drewN nq) osq)) := S1.out.grown nq osq
        clear l1 l2 hc S1
        generalize grow (wr.drewN nq) osq = w2 at S2 ⊢
        clear nq osq
        go_wp2_with fail
        go_roundg (h - i)
        case measure => omega
        case rel => exact ⟨i, h, rfl, by first | rfl | go_num, h1, hih, by omega, Nat.le_refl _, S2, HI.out.1, fun _ => by rw [← HX.out]; exact hlv⟩
      | false =>
        obtain ⟨x1, hx1⟩ : ∃ x, d[m]! = x := ⟨_, rfl⟩
        obtain ⟨x2, hx2⟩ : ∃ x, d[h]! = x := ⟨_, rfl⟩
        have l1 := S1.out.ld R (by omega) P (m) (by omega)
        have l2 := S1.out.ld R (by omega) P (h) (by omega)
        rw [hx1] at l1
        rw [hx2] at l2
        have hc := S1.out.cmp HC.out (by omega) x1 x2
        have hv : ¬ cf x1 x2 < 0 := by rw [← hx1, ← hx2]; exact of_decide_eq_false hlv
        have hvd : decide (cf x1 x2 < 0) = false := decide_eq_false hv
        go_wp2_with fail
        go_quiet_grown (first | (go_at_fn g; refine Calls.grown_of (hc _ _)))
        have S2 : Aside (SWK enc k w0 blk off d (grow (wr.drewN nq) osq)) := S1.out.grown nq osq
        clear l1 l2 hc S1
        generalize grow (wr.drewN nq) osq = w2 at S2 ⊢
        clear nq osq
        go_wp2_with fail
        go_roundg (j - (h + 1))
        case measure => omega
        case rel => exact ⟨h + 1, j, by first | rfl | go_num, rfl, by omega, by omega, h3, Nat.le_refl _, S2, fun _ => by rw [← HX.out]; exact hlv, HI.out.2⟩
    · obtain rfl : i = j := by omega
      have hltz : ¬ (i : Int) < (i : Int) := by omega
      go_wp2_with fail
      go_loopg [17] (m - i) (fun kx s13 wr => ∃ q : Nat, s13 = .int .i64 q ∧ i ≤ q ∧ q ≤ m ∧ q - i ≤ kx ∧ Aside (SWK enc k w0 blk off (shiftL d m (m - q)) wr))
      case atStart => exact ⟨m, rfl, h3, Nat.le_refl _, Nat.le_refl _, by rw [Nat.sub_self]; exact S1⟩
      case round =>
        clear S1 hltz
        obtain ⟨q, rfl, g1, g2, hkx, S1⟩ := hrel
        by_cases hlt : i < q
        · have hltz : (i : Int) < (q : Int) := by omega
          go_wp2_with fail
          have hds : (shiftL d m (m - q)).size = d.size := shiftL_size d m (m - q)
          obtain ⟨p, rfl⟩ : ∃ p, q = p + 1 := ⟨q - 1, by omega⟩
          have HSW := Lib.hid (show shiftL d m (m - p) = swp (shiftL d m (m - (p + 1))) (p + 1) p by rw [show m - p = m - (p + 1) + 1 by omega, shiftL, show m - (m - (p + 1)) = p + 1 by omega, show p + 1 - 1 = p by omega])
          generalize shiftL d m (m - (p + 1)) = dk at S1 hds HSW
          have hzz : (((p + 1 : Nat) : Int)) = (p : Int) + 1 := by omega
          have hwp : IntKind.i64.wrap ((p : Int) + 1 - 1) = (p : Int) := by rw [IntKind.wrap_i64]; omega
          have ea : ((p : Int) + 1).toNat = p + 1 := by omega
          have pa : (0 : Int) ≤ (p : Int) + 1 := by omega
          have ba : (p : Int) + 1 < (d.size : Int) := by omega
          have ra : IntKind.i64.wrap ((p : Int) + 1) = (p : Int) + 1 := by rw [IntKind.wrap_i64]; omega
          have ec : ((p : Int)).toNat = p := by omega
          have pc : (0 : Int) ≤ (p : Int) := by omega
          have bc : (p : Int) < (d.size : Int) := by omega
          have rc : IntKind.i64.wrap ((p : Int)) = (p : Int) := by rw [IntKind.wrap_i64]; omega
          have S2 : Aside (SWK enc k w0 blk off (swp dk (p + 1) (p)) ((wr.drew.setCells blk (off + (p + 1) * k) (enc dk[p]!)).setCells blk (off + (p) * k) (enc dk[p + 1]!))) := S1.out.swapped R (p + 1) (p) (by omega) (by omega)
          have la := S1.out.ld1 R (by omega) P (p + 1) (by omega)
          have lb := S1.out.ld1 R (by omega) P (p) (by omega)
          have sa := S1.out.st1 R (by omega) P (p + 1) (by omega) dk[p]!
          have sb := S1.out.st2 R (by omega) P (p + 1) (p) (by omega) (by omega) dk[p]! dk[p + 1]!
          have na : (enc dk[p + 1]!).length = k := R.hk _
          have nb : (enc dk[p]!).length = k := R.hk _
          generalize enc dk[p + 1]! = cI at S2 la sb na
          generalize enc dk[p]! = cJ at S2 lb sa sb nb
          clear S1
          go_wp2_with fail
          go_big_region_o
          clear la lb sa sb
          generalize (wr.drew.setCells blk (off + (p + 1) * k) cJ).setCells blk (off + (p) * k) cI = w2 at S2 ⊢
          go_wp2_with fail
          go_roundg (p - i)
          case measure => omega
          case rel => exact ⟨p, by first | rfl | go_num, by omega, by omega, Nat.le_refl _, by rw [HSW.out]; exact S2⟩
        · have hltz : ¬ (i : Int) < (q : Int) := by omega
          obtain rfl : i = q := by omega
          go_wp2_with fail
          (try simp only [Exit.inBlock, Exit.then])
          refine bodyPost_ret (results_none rfl _ _ _) rfl ?_
          exact ⟨rfl, _, S1.out, HM.out i _ h1 h3 HI.out.1 HI.out.2 rfl⟩
end

end Go.Proofs.YtkkiglagdojnlaaGreatDoor

/- slices.symMergeCmpFunc, stableCmpFunc at rows of structs, over any program that bears the bodies. Printed by gen_smerge.py. -/
namespace Go.Proofs.YtkkiglagdojnlaaGreatDoor

open Go.RowKit Go.Shelf Go.Lib Go.Sort

section

variable {P : Program} {k : Nat} {α : Type} [Inhabited α] {enc : α → List Value} {w0 : World} {blk off : Nat} {d0 : Array α}

set_option maxHeartbeats 8000000 in
set_option maxRecDepth 1000000 in
/-- two sorted parts of several elements. -/
theorem so_mrgN (L : SoL P k) (cf : α → α → Int) (hO : SWO (ltOf cf)) (g : Nat) (cb : Array Value) (eg : ∀ args w, (callFunc g args).run P w = .ok (.enter g args) w) (hcmp : CmpLays P g cb enc k cf blk off d0.size w0) (cap a m b : Nat) (d : Array α) (w : World) (R : RowK enc k w0 blk off d0) (hs : d0.size = d.size) (S : SWK enc k w0 blk off d w) (hsz : d.size < 4611686018427387904)
    {A B : List α} (hA : Seg d a A) (hB : Seg d m B) (ha : a + A.length = m) (hb : m + B.length = b) (hA1 : 1 < A.length) (hB1 : 1 < B.length) (sA : SrtL (ltOf cf) A) (sB : SrtL (ltOf cf) B)
    (IH : ∀ (A' B' : List α) (a' m' b' : Nat) (d' : Array α) (w' : World), A'.length + B'.length < A.length + B.length → d0.size = d'.size → SWK enc k w0 blk off d' w' → Seg d' a' A' → Seg d' m' B' → a' + A'.length = m' → m' + B'.length = b' → 0 < A'.length → 0 < B'.length → SrtL (ltOf cf) A' → SrtL (ltOf cf) B' →
      Calls P 142 #[.slice (some ⟨blk, off, none⟩) d'.size cap, .int .i64 a', .int .i64 m', .int .i64 b', .func (.func g) #[] cb] w' fun e w'' => e = .returned (.tuple #[]) ∧ ∃ d'', SWK enc k w0 blk off d'' w'' ∧ Mrgd (ltOf cf) a' b' A' B' d' d'') :
    Calls P 142 #[.slice (some ⟨blk, off, none⟩) d.size cap, .int .i64 a, .int .i64 m, .int .i64 b, .func (.func g) #[] cb] w fun e w' => e = .returned (.tuple #[]) ∧ ∃ d', SWK enc k w0 blk off d' w' ∧ Mrgd (ltOf cf) a b A B d d' := by
  have mixed := L.mixed; have t0 := L.t0; have a0 := L.a0; have z0 := L.z0; have v0 := L.v0; have t3 := L.t3; have a3 := L.a3; have z3 := L.z3; have v3 := L.v3; have t4 := L.t4; have a4 := L.a4; have z4 := L.z4; have v4 := L.v4; have tu := L.tu; have au := L.au; have zu := L.zu; have vu := L.vu; have tS := L.tS; have aS := L.aS; have zS := L.zS; have vS := L.vS; have tF := L.tF; have aF := L.aF; have zF := L.zF; have vF := L.vF; have aE := L.aE; have zE := L.zE
  have FG := L.fM
  have HL := Lib.hid L
  have eR : ∀ args w, (callFunc 197 args).run P w = .ok (.enter 197 args) w := enters_of L.fR (by kernel_rfl) rfl
  have eM : ∀ args w, (callFunc 142 args).run P w = .ok (.enter 142 args) w := enters_of L.fM (by kernel_rfl) rfl
  have S0 : Aside (SWK enc k w0 blk off d w) := S
  have HC : Aside _ := hcmp
  have HI : Aside _ := IH
  have hbd := hB.1
  have HAB := Lib.hid (And.intro hA (And.intro hB (And.intro ha (And.intro hb (And.intro sA sB)))))
  have HO := Lib.hid hO
  have hab : a + 1 < m := by omega
  have hmb : m + 1 < b := by omega
  have hbs : b ≤ d.size := by omega
  have hw1 : IntKind.i64.wrap ((m : Int) - (a : Int)) = (m : Int) - (a : Int) := by rw [IntKind.wrap_i64]; omega
  have hw1b : ((m : Int) - (a : Int) == 1) = false := by rw [beq_eq_false_iff_ne]; omega
  have hw2 : IntKind.i64.wrap ((b : Int) - (m : Int)) = (b : Int) - (m : Int) := by rw [IntKind.wrap_i64]; omega
  have hw2b : ((b : Int) - (m : Int) == 1) = false := by rw [beq_eq_false_iff_ne]; omega
  have hw3 : IntKind.i64.wrap ((a : Int) + (b : Int)) = (a : Int) + (b : Int) := by rw [IntKind.wrap_i64]; omega
  have hw3u : IntKind.u64.wrap ((a : Int) + (b : Int)) = (a : Int) + (b : Int) := by rw [IntKind.wrap_u64]; omega
  obtain ⟨mid, hmid⟩ : ∃ x : Nat, (a + b) / 2 = x := ⟨_, rfl⟩
  have hmz : ((a : Int) + (b : Int)) / 2 = (mid : Int) := by omega
  have hm1 : a < mid := by omega
  have hm2 : mid < b := by omega
  have hm3 : 2 * mid ≤ a + b := by omega
  have hm4 : a + b ≤ 2 * mid + 1 := by omega
  have hwn : IntKind.i64.wrap ((mid : Int) + (m : Int)) = (mid : Int) + (m : Int) := by rw [IntKind.wrap_i64]; omega
  have hwp : IntKind.i64.wrap ((mid : Int) + (m : Int) - 1) = (mid : Int) + (m : Int) - 1 := by rw [IntKind.wrap_i64]; omega
  clear S L hcmp hA hB ha hb sA sB hO hA1 hB1 hbd IH hmid
  go_enter FG, Tryz.ntmps142
  go_upto_if 140 with fail
  go_cut [20, 21] (fun t20 t21 wx => Aside (SWK enc k w0 blk off d wx) ∧ ∃ s0 r0 : Nat, t20 = .int .i64 s0 ∧ t21 = .int .i64 r0 ∧ a ≤ s0 ∧ s0 ≤ r0 ∧ r0 ≤ m ∧ r0 ≤ mid ∧ mid + m ≤ s0 + b ∧ (s0 = a ∨ s0 + b = mid + m) ∧ (r0 = m ∨ r0 = mid))
  case first => as_aux_lemma =>
    by_cases hq : mid < m
    · have hqz : (mid : Int) < (m : Int) := by omega
      obtain ⟨s0, hs0⟩ : ∃ x, mid + m - b = x := ⟨_, rfl⟩
      have hwz : IntKind.i64.wrap ((mid : Int) + (m : Int) - (b : Int)) = (s0 : Int) := by rw [IntKind.wrap_i64]; omega
      go_wp2_with fail
      go_meet
      exact ⟨S0, s0, mid, rfl, rfl, by omega, by omega, by omega, Nat.le_refl _, by omega, .inr (by omega), .inr rfl⟩
    · have hqz : ¬ (mid : Int) < (m : Int) := by omega
      go_wp2_with fail
      go_meet
      exact ⟨S0, a, m, rfl, rfl, Nat.le_refl _, by omega, Nat.le_refl _, by omega, by omega, .inl rfl, .inl rfl⟩
  case rest =>
    obtain ⟨S1, s0, r0, rfl, rfl, c1, c2, c3, c4, c5, c6, c7⟩ := hcut
    have HC6 := Lib.hid c6
    have HC7 := Lib.hid c7
    clear S0 c6 c7
    go_wp2_with fail
    go_loopg [20, 21] (r0 - s0) (fun kx s20 s21 wr => ∃ (i j : Nat), s20 = .int .i64 i ∧ s21 = .int .i64 j ∧ s0 ≤ i ∧ i ≤ j ∧ j ≤ r0 ∧ j - i ≤ kx ∧ Aside (SWK enc k w0 blk off d wr) ∧ Hid ((s0 < i → ltOf cf d[mid + m - i]! d[i - 1]! = false) ∧ (j < r0 → ltOf cf d[mid + m - j - 1]! d[j]! = true)))
    case atStart => exact ⟨s0, r0, rfl, rfl, Nat.le_refl _, c2, Nat.le_refl _, Nat.le_refl _, S1, fun h => absurd h (Nat.lt_irrefl _), fun h => absurd h (Nat.lt_irrefl _)⟩
    case round =>
      clear S1
      obtain ⟨i, j, rfl, rfl, h1, h2, h3, hkx, S1, HV⟩ := hrel
      by_cases hlt : i < j
      · skip
        have hltz : (i : Int) < (j : Int) := by omega
        have hwa : IntKind.i64.wrap ((i : Int) + (j : Int)) = (i : Int) + (j : Int) := by rw [IntKind.wrap_i64]; omega
        have hwu : IntKind.u64.wrap ((i : Int) + (j : Int)) = (i : Int) + (j : Int) := by rw [IntKind.wrap_u64]; omega
        obtain ⟨h, hh⟩ : ∃ h : Nat, (i + j) / 2 = h := ⟨_, rfl⟩
        have hih : i ≤ h := by omega
        have hhj : h < j := by omega
        have hhz : ((i : Int) + (j : Int)) / 2 = (h : Int) := by omega
        clear hh
        obtain ⟨pc, hpc⟩ : ∃ x, mid + m - 1 - h = x := ⟨_, rfl⟩
        have hpw : IntKind.i64.wrap ((mid : Int) + (m : Int) - 1 - (h : Int)) = (pc : Int) := by rw [IntKind.wrap_i64]; omega
        have hha : (h : Int) < (d.size : Int) := by omega
        have haa : (pc : Int) < (d.size : Int) := by omega
        have hp1 : mid + m - h - 1 = pc := by omega
        have hp2 : mid + m - (h + 1) = pc := by omega
        have HP := Lib.hid (And.intro hp1 hp2)
        clear hp1 hp2
        cases hlv : ltOf cf d[pc]! d[h]! with
        | true => as_aux_lemma =>
          obtain ⟨x1, hx1⟩ : ∃ x, d[pc]! = x := ⟨_, rfl⟩
          obtain ⟨x2, hx2⟩ : ∃ x, d[h]! = x := ⟨_, rfl⟩
          have l1 := S1.out.ld R (by omega) P (pc) (by omega)
          have l2 := S1.out.ld R (by omega) P (h) (by omega)
          rw [hx1] at l1
          rw [hx2] at l2
          have hc := S1.out.cmp HC.out (by omega) x1 x2
          have hv : cf x1 x2 < 0 := by rw [← hx1, ← hx2]; exact of_decide_eq_true hlv
          have hvd : decide (cf x1 x2 < 0) = true := decide_eq_true hv
          go_wp2_with fail
          go_quiet_grown (first | (go_at_fn g; refine Calls.grown_of (hc _ _)))
          have S2 : Aside (SWK enc k w0 blk off d (grow (wr.drewN nq) osq)) := S1.out.grown nq osq
          clear l1 l2 hc S1
          generalize grow (wr.drewN nq) osq = w2 at S2 ⊢
          clear nq osq
          go_wp2_with fail
          go_roundg (h - i)
          case measure => omega
          case rel => exact ⟨i, h, rfl, by first | rfl | go_num, h1, hih, by omega, Nat.le_refl _, S2, HV.out.1, fun _ => by rw [HP.out.1]; exact hlv⟩
        | false => as_aux_lemma =>
          obtain ⟨x1, hx1⟩ : ∃ x, d[pc]! = x := ⟨_, rfl⟩
          obtain ⟨x2, hx2⟩ : ∃ x, d[h]! = x := ⟨_, rfl⟩
          have l1 := S1.out.ld R (by omega) P (pc) (by omega)
          have l2 := S1.out.ld R (by omega) P (h) (by omega)
          rw [hx1] at l1
          rw [hx2] at l2
          have hc := S1.out.cmp HC.out (by omega) x1 x2
          have hv : ¬ cf x1 x2 < 0 := by rw [← hx1, ← hx2]; exact of_decide_eq_false hlv
          have hvd : decide (cf x1 x2 < 0) = false := decide_eq_false hv
          go_wp2_with fail
          go_quiet_grown (first | (go_at_fn g; refine Calls.grown_of (hc _ _)))
          have S2 : Aside (SWK enc k w0 blk off d (grow (wr.drewN nq) osq)) := S1.out.grown nq osq
          clear l1 l2 hc S1
          generalize grow (wr.drewN nq) osq = w2 at S2 ⊢
          clear nq osq
          go_wp2_with fail
          go_roundg (j - (h + 1))
          case measure => omega
          case rel => exact ⟨h + 1, j, by first | rfl | go_num, rfl, by omega, by omega, h3, Nat.le_refl _, S2, fun _ => by rw [HP.out.2]; exact hlv, HV.out.2⟩
      · obtain rfl : i = j := by omega
        have hltz : ¬ (i : Int) < (i : Int) := by omega
        obtain ⟨en, hen⟩ : ∃ x, mid + m - i = x := ⟨_, rfl⟩
        have hwe : IntKind.i64.wrap ((mid : Int) + (m : Int) - (i : Int)) = (en : Int) := by rw [IntKind.wrap_i64]; omega
        have he1 : m ≤ en := by omega
        have he2 : en ≤ b := by omega
        have HCut := Lib.hid (cut_of (lt := ltOf cf) HAB.out.1 HAB.out.2.1 HAB.out.2.2.1 HAB.out.2.2.2.1 h1 h3 c1 c3 c4 c5 HC6.out HC7.out HV.out.1 HV.out.2)
        have HEn := Lib.hid (show m + (mid - i) = en ∧ a + (i - a) = i ∧ i + (mid - i) = mid by omega)
        have HLen := Lib.hid (show A.length = m - a ∧ B.length = b - m by have := HAB.out.2.2.1; have := HAB.out.2.2.2.1; omega)
        clear hen HC6 HC7 hkx HV
        go_upto_region 39 with fail
        go_cut [185] (fun t wx => t = .bool (decide (i < m ∧ m < en)) ∧ Aside (SWK enc k w0 blk off d wx))
        case first => as_aux_lemma =>
          by_cases q1 : i < m
          · have q1z : (i : Int) < (m : Int) := by omega
            by_cases q2 : m < en
            · have q2z : (m : Int) < (en : Int) := by omega
              have HDc := Lib.hid (show decide (i < m ∧ m < en) = true from decide_eq_true ⟨q1, q2⟩)
              go_wp2_with fail
              go_meet
              exact ⟨by rw [HDc.out], S1⟩
            · have q2z : ¬ (m : Int) < (en : Int) := by omega
              have HDc := Lib.hid (show decide (i < m ∧ m < en) = false from decide_eq_false (fun h => q2 h.2))
              go_wp2_with fail
              go_meet
              exact ⟨by rw [HDc.out], S1⟩
          · have q1z : ¬ (i : Int) < (m : Int) := by omega
            have HDc := Lib.hid (show decide (i < m ∧ m < en) = false from decide_eq_false (fun h => q1 h.1))
            go_wp2_with fail
            go_meet
            exact ⟨by rw [HDc.out], S1⟩
        clear S1
        obtain ⟨rfl, S1⟩ := hcut
        go_upto_if 185 with fail
        obtain ⟨gb, hgb⟩ : ∃ x, decide (i < m ∧ m < en) = x := ⟨_, rfl⟩
        rw [hgb]
        have HGb := Lib.hid hgb
        clear hgb
        go_cut [] (fun wx => ∃ d1 : Array α, d1.size = d.size ∧ Aside (SWK enc k w0 blk off d1 wx) ∧ Hid (Seg d1 a (A.take (i - a)) ∧ Seg d1 i (B.take (mid - i)) ∧ Seg d1 mid (A.drop (i - a)) ∧ Seg d1 en (B.drop (mid - i)) ∧ SameOut a b d d1))
        case first => as_aux_lemma =>
          cases gb with
          | true =>
              obtain ⟨q1, q2⟩ := of_decide_eq_true HGb.out
              have hX : Seg d i (A.drop (i - a)) := by
                have := HAB.out.1.drop (n := i - a) (by have := HLen.out.1; omega)
                rwa [HEn.out.2.1] at this
              have hY : Seg d m (B.take (mid - i)) := HAB.out.2.1.take _
              have lX : (A.drop (i - a)).length = m - i := by rw [List.length_drop]; have := HLen.out.1; omega
              have lY : (B.take (mid - i)).length = mid - i := by rw [List.length_take]; have := HLen.out.2; have := HEn.out.1; omega
              have HRt := Lib.hid (so_rot HL.out g cb cap i m en d wc R hs S1.out hsz hX hY (by omega) (by have := HEn.out.1; omega) (by omega) (by have := HEn.out.1; omega))
              clear hX hY lX lY S1
              go_wp2_with fail
              refine HRt.out.mono ?_
              rintro e w2 ⟨rfl, d1, S2, g1, g2⟩
              have HG := Lib.hid (And.intro S2 (And.intro g1 g2))
              clear S2 g1 g2
              go_wp2_with fail
              go_meet
              have ht := turned (s := i - a) (e := mid - i) (d1 := d1) HAB.out.1 HAB.out.2.1 HAB.out.2.2.1 HCut.out.hs HCut.out.he (by rw [HEn.out.2.1]; exact HG.out.2.1) (by rw [HEn.out.2.1, HEn.out.1]; exact HG.out.2.2)
              rw [HEn.out.2.1, HEn.out.1, HEn.out.2.2] at ht
              exact ⟨d1, HG.out.2.2.1, HG.out.1, ht.1, ht.2.1, ht.2.2.1, ht.2.2.2, HG.out.2.2.mono (by omega) he2⟩
          | false =>
            by_cases q1 : i < m
            · have q2 : ¬ m < en := fun h => by have := of_decide_eq_false HGb.out; exact this ⟨q1, h⟩
              go_wp2_with fail
              go_meet
              have e0 : mid - i = 0 := by have := HEn.out.1; omega
              have e1 : mid = i := by have := HEn.out.2.2; omega
              refine ⟨d, rfl, S1, HAB.out.1.take _, ?_, ?_, ?_, SameOut.refl _ _ _⟩
              · rw [e0, List.take_zero]; exact ⟨by simp; omega, fun x hx => by simp at hx⟩
              · rw [e1]
                have := HAB.out.1.drop (n := i - a) (by have := HLen.out.1; omega)
                rwa [HEn.out.2.1] at this
              · rw [e0, List.drop_zero]
                have := HEn.out.1
                rw [show en = m by omega]
                exact HAB.out.2.1
            · go_wp2_with fail
              go_meet
              have e1 : m = i := by omega
              have e2 : i - a = A.length := by have := HLen.out.1; omega
              refine ⟨d, rfl, S1, HAB.out.1.take _, ?_, ?_, ?_, SameOut.refl _ _ _⟩
              · exact (HAB.out.2.1.take (mid - i)).cast e1
              · rw [e2, List.drop_length]; exact ⟨by simp; omega, fun x hx => by simp at hx⟩
              · have := HAB.out.2.1.drop (n := mid - i) HCut.out.he
                rwa [HEn.out.1] at this
        case rest => as_aux_lemma =>
          obtain ⟨d1, hd1, S2, HG1⟩ := hcut
          clear S1
          go_upto_region 41 with fail
          go_cut [199] (fun t wx => t = .bool (decide (a < i ∧ i < mid)) ∧ Aside (SWK enc k w0 blk off d1 wx))
          case first => as_aux_lemma =>
            by_cases q1 : a < i
            · have q1z : (a : Int) < (i : Int) := by omega
              by_cases q2 : i < mid
              · have q2z : (i : Int) < (mid : Int) := by omega
                have HDc := Lib.hid (show decide (a < i ∧ i < mid) = true from decide_eq_true ⟨q1, q2⟩)
                go_wp2_with fail
                go_meet
                exact ⟨by rw [HDc.out], S2⟩
              · have q2z : ¬ (i : Int) < (mid : Int) := by omega
                have HDc := Lib.hid (show decide (a < i ∧ i < mid) = false from decide_eq_false (fun h => q2 h.2))
                go_wp2_with fail
                go_meet
                exact ⟨by rw [HDc.out], S2⟩
            · have q1z : ¬ (a : Int) < (i : Int) := by omega
              have HDc := Lib.hid (show decide (a < i ∧ i < mid) = false from decide_eq_false (fun h => q1 h.1))
              go_wp2_with fail
              go_meet
              exact ⟨by rw [HDc.out], S2⟩
          clear S2
          obtain ⟨rfl, S2⟩ := hcut
          go_upto_if 199 with fail
          obtain ⟨gb, hgb⟩ : ∃ x, decide (a < i ∧ i < mid) = x := ⟨_, rfl⟩
          rw [hgb]
          have HGb := Lib.hid hgb
          clear hgb
          go_cut [] (fun wx => ∃ d2 : Array α, d2.size = d.size ∧ Aside (SWK enc k w0 blk off d2 wx) ∧ Hid (Mrgd (ltOf cf) a mid (A.take (i - a)) (B.take (mid - i)) d1 d2))
          case first => as_aux_lemma =>
            cases gb with
            | true =>
                obtain ⟨q1, q2⟩ := of_decide_eq_true HGb.out
                have lX : (A.take (i - a)).length = i - a := by rw [List.length_take]; have := HLen.out.1; omega
                have lY : (B.take (mid - i)).length = mid - i := by rw [List.length_take]; have := HLen.out.2; have := HEn.out.1; omega
                have hc := HI.out (A.take (i - a)) (B.take (mid - i)) a i mid d1 wc (by have := HLen.out.1; have := HLen.out.2; omega) (by omega) S2.out HG1.out.1 HG1.out.2.1 (by omega) (by omega) (by omega) (by omega) (HAB.out.2.2.2.2.1.take _) (HAB.out.2.2.2.2.2.take _)
                rw [hd1] at hc
                have HM1 := Lib.hid hc
                clear hc lX lY S2
                go_wp2_with fail
                refine HM1.out.mono ?_
                rintro e w2 ⟨rfl, d2, S3, g1⟩
                have HG := Lib.hid (And.intro S3 g1)
                clear S3 g1
                go_wp2_with fail
                go_meet
                exact ⟨d2, HG.out.2.2.1.trans hd1, HG.out.1, HG.out.2⟩
            | false =>
              by_cases q1 : a < i
              · have q2 : ¬ i < mid := fun h => by have := of_decide_eq_false HGb.out; exact this ⟨q1, h⟩
                go_wp2_with fail
                go_meet
                have e0 : mid - i = 0 := by omega
                exact ⟨d1, hd1, S2, by rw [e0, List.take_zero]; exact mrgd_nil' HG1.out.1⟩
              · go_wp2_with fail
                go_meet
                have e0 : i - a = 0 := by omega
                have e1 : i = a := by omega
                exact ⟨d1, hd1, S2, by rw [e0, List.take_zero]; exact mrgd_nil (HG1.out.2.1.cast e1)⟩
          case rest => as_aux_lemma =>
            obtain ⟨d2, hd2, S3, HG2⟩ := hcut
            have HS3 := Lib.hid (show Seg d2 mid (A.drop (i - a)) ∧ Seg d2 en (B.drop (mid - i)) from ⟨HG1.out.2.2.1.same HG2.out.2 (.inr (Nat.le_refl _)), HG1.out.2.2.2.1.same HG2.out.2 (.inr (by have := HEn.out.1; omega))⟩)
            have HFin := Lib.hid (fun (d3 : Array α) (h3 : Mrgd (ltOf cf) mid b (A.drop (i - a)) (B.drop (mid - i)) d2 d3) => halves (q := mid) HO.out HAB.out.2.2.2.2.1 HAB.out.2.2.2.2.2 HCut.out (by have := HEn.out.2; omega) (by have := HLen.out.1; have := HLen.out.2; omega) HG1.out.2.2.2.2 HG2.out h3)
            clear S2
            go_upto_region 43 with fail
            go_cut [213] (fun t wx => t = .bool (decide (mid < en ∧ en < b)) ∧ Aside (SWK enc k w0 blk off d2 wx))
            case first => as_aux_lemma =>
              by_cases q1 : mid < en
              · have q1z : (mid : Int) < (en : Int) := by omega
                by_cases q2 : en < b
                · have q2z : (en : Int) < (b : Int) := by omega
                  have HDc := Lib.hid (show decide (mid < en ∧ en < b) = true from decide_eq_true ⟨q1, q2⟩)
                  go_wp2_with fail
                  go_meet
                  exact ⟨by rw [HDc.out], S3⟩
                · have q2z : ¬ (en : Int) < (b : Int) := by omega
                  have HDc := Lib.hid (show decide (mid < en ∧ en < b) = false from decide_eq_false (fun h => q2 h.2))
                  go_wp2_with fail
                  go_meet
                  exact ⟨by rw [HDc.out], S3⟩
              · have q1z : ¬ (mid : Int) < (en : Int) := by omega
                have HDc := Lib.hid (show decide (mid < en ∧ en < b) = false from decide_eq_false (fun h => q1 h.1))
                go_wp2_with fail
                go_meet
                exact ⟨by rw [HDc.out], S3⟩
            clear S3
            obtain ⟨rfl, S3⟩ := hcut
            go_upto_if 213 with fail
            obtain ⟨gb, hgb⟩ : ∃ x, decide (mid < en ∧ en < b) = x := ⟨_, rfl⟩
            rw [hgb]
            have HGb := Lib.hid hgb
            clear hgb
            cases gb with
            | true =>
                obtain ⟨q1, q2⟩ := of_decide_eq_true HGb.out
                have lX : (A.drop (i - a)).length = m - i := by rw [List.length_drop]; have := HLen.out.1; omega
                have lY : (B.drop (mid - i)).length = b - en := by rw [List.length_drop]; have := HLen.out.2; have := HEn.out.1; omega
                have hc := HI.out (A.drop (i - a)) (B.drop (mid - i)) mid en b d2 wc (by have := HLen.out; have := HEn.out; omega) (by omega) S3.out HS3.out.1 HS3.out.2 (by have := HEn.out.1; omega) (by omega) (by have := HEn.out.1; omega) (by omega) (HAB.out.2.2.2.2.1.drop _) (HAB.out.2.2.2.2.2.drop _)
                rw [hd2] at hc
                have HM1 := Lib.hid hc
                clear hc lX lY S3
                go_wp2_with fail
                refine HM1.out.mono ?_
                rintro e w2 ⟨rfl, d3, S4, g1⟩
                have HG := Lib.hid (And.intro S4 g1)
                clear S4 g1
                go_wp2_with fail
                go_end0
                exact ⟨rfl, d3, HG.out.1, HFin.out d3 HG.out.2⟩
            | false =>
              by_cases q1 : mid < en
              · have q2 : ¬ en < b := fun h => by have := of_decide_eq_false HGb.out; exact this ⟨q1, h⟩
                go_wp2_with fail
                go_end0
                have e0 : B.drop (mid - i) = [] := List.drop_eq_nil_of_le (by have := HLen.out.2; have := HEn.out.1; omega)
                exact ⟨rfl, d2, S3.out, HFin.out d2 (by rw [e0]; exact mrgd_nil' HS3.out.1)⟩
              · go_wp2_with fail
                go_end0
                have e0 : A.drop (i - a) = [] := List.drop_eq_nil_of_le (by have := HLen.out.1; have := HEn.out.1; omega)
                have e1 : en = mid := by have := HEn.out.1; omega
                exact ⟨rfl, d2, S3.out, HFin.out d2 (by rw [e0]; exact mrgd_nil (HS3.out.2.cast e1))⟩
/-- symMergeCmpFunc: two sorted parts are merged in place, stably. -/
theorem so_merge (L : SoL P k) (cf : α → α → Int) (hO : SWO (ltOf cf)) (g : Nat) (cb : Array Value) (eg : ∀ args w, (callFunc g args).run P w = .ok (.enter g args) w) (hcmp : CmpLays P g cb enc k cf blk off d0.size w0) (cap : Nat) (R : RowK enc k w0 blk off d0) : ∀ (N : Nat) (A B : List α) (a m b : Nat) (d : Array α) (w : World), A.length + B.length = N → d0.size = d.size → d.size < 4611686018427387904 → SWK enc k w0 blk off d w → Seg d a A → Seg d m B → a + A.length = m → m + B.length = b → 0 < A.length → 0 < B.length → SrtL (ltOf cf) A → SrtL (ltOf cf) B →
    Calls P 142 #[.slice (some ⟨blk, off, none⟩) d.size cap, .int .i64 a, .int .i64 m, .int .i64 b, .func (.func g) #[] cb] w fun e w' => e = .returned (.tuple #[]) ∧ ∃ d', SWK enc k w0 blk off d' w' ∧ Mrgd (ltOf cf) a b A B d d' := by
  intro N
  induction N using Nat.strongRecOn with
  | ind N ih =>
    intro A B a m b d w hN hs hsz S hA hB ha hb h0 h1 sA sB
    by_cases hA1 : A.length = 1
    · match A, hA1 with
      | [x], _ =>
        have hm : a + 1 = m := ha
        subst hm
        have hd : Seg d a ([x] ++ B) := hA.app hB
        exact so_mrg1 L cf hO g cb eg hcmp cap a b d w R hs S hsz hd hb sB
    · by_cases hB1 : B.length = 1
      · match B, hB1 with
        | [y], _ =>
          have hd : Seg d a (A ++ [y]) := hA.app (by rw [ha]; exact hB)
          exact so_mrg2 L cf hO g cb eg hcmp cap a m b d w R hs S hsz hd ha hb sA hA1
      · exact so_mrgN L cf hO g cb eg hcmp cap a m b d w R hs S hsz hA hB ha hb (by omega) (by omega) sA sB (fun A' B' a' m' b' d' w' hl hs' S' g1 g2 g3 g4 g5 g6 g7 g8 => ih _ (by omega) A' B' a' m' b' d' w' rfl hs' (by omega) S' g1 g2 g3 g4 g5 g6 g7 g8)
end

end Go.Proofs.YtkkiglagdojnlaaGreatDoor
