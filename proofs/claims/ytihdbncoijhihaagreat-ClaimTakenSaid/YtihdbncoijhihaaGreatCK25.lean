/- Texts of the proof, part 25. -/
import Derived.Test.YtihdbncoijhihaaGreatCK12
import Derived.Test.YtihdbncoijhihaaGreatCK22
import Derived.Test.YtihdbncoijhihaaGreatCK24
import Derived.Test.YtihdbncoijhihaaGreatCK7
import Derived.Test.YtihdbncoijhihaaGreatCK3
import Derived.Test.YtihdbncoijhihaaGreatCK11
import Derived.Test.YtihdbncoijhihaaGreatCK18
import Derived.Test.YtihdbncoijhihaaGreatCK17
import Derived.Test.YtihdbncoijhihaaGreatCK1
import Derived.Test.YtihdbncoijhihaaGreatCK13
import Derived.Test.YtihdbncoijhihaaGreatCK6
set_option linter.unusedVariables false
set_option linter.unusedSimpArgs false
/- Trips (layer 15), plainly: the name that a trip ends at is not long. No walk. -/
namespace Go.Proofs.YtihdbncoijhihaaGreat

open Go.RowKit

theorem parts_size (l : List UInt8) : ∀ p ∈ partsL l, p.length ≤ l.length := fun p hp => spl_size 47 l p (List.mem_filter.1 hp).1
theorem fd0_size : fd0.name.size ≤ 1048576 := by show (0 : Nat) ≤ _; omega
theorem seekL_size {S : Fs} (hS : ∀ k a, S.get k = some a → a.data.size ≤ 1048576) (c : Cr) (f : Bool) (k : Option (Int → Bool → List (List UInt8) → Fd × Int))
    (hk : ∀ g, k = some g → ∀ at' must l, (∀ p ∈ l, p.length ≤ 1048576) → (g at' must l).1.name.size ≤ 1048576) :
    ∀ (l : List (List UInt8)) (at' : Int) (must : Bool), (∀ p ∈ l, p.length ≤ 1048576) → (S.seekL c f k l at' must).1.name.size ≤ 1048576
  | [], at', must, _ => by rw [Fs.seekL]; show (0 : Nat) ≤ _; omega
  | p :: l, at', must, hl => by
    have hp : (str p).size ≤ 1048576 := by rw [str_size]; exact hl p (by simp)
    have hl' : ∀ q ∈ l, q.length ≤ 1048576 := fun q hq => hl q (by simp [hq])
    have ih := seekL_size hS c f k hk l
    rw [Fs.seekL]
    split
    · exact fd0_size
    · split
      · exact ih _ _ hl'
      · split
        · split
          · exact hp
          · exact fd0_size
        · rename_i n hn
          split
          · cases hkk : k with
            | none => exact fd0_size
            | some g =>
              simp only
              split
              · exact fd0_size
              · refine hk g hkk _ _ _ (fun q hq => ?_)
                rcases List.mem_append.1 hq with hq | hq
                · have h1 := parts_size _ q hq
                  have h2 : n.data.data.toList.length = n.data.size := Array.length_toList
                  have h3 := hS _ n hn
                  omega
                · exact hl' q hq
          · split
            · exact fd0_size
            · split
              · exact hp
              · exact ih _ _ hl'
theorem seekH_size {S : Fs} (hS : ∀ k a, S.get k = some a → a.data.size ≤ 1048576) (c : Cr) (f : Bool) : ∀ (h : Nat) (at' : Int) (must : Bool) (l : List (List UInt8)), (∀ p ∈ l, p.length ≤ 1048576) → (S.seekH c f h at' must l).1.name.size ≤ 1048576
  | 0, at', must, l, hl => seekL_size hS c f none (fun g h => by cases h) l at' must hl
  | h + 1, at', must, l, hl => seekL_size hS c f (some (S.seekH c f h)) (fun g hg at' must l hl => by injection hg with hg; subst hg; exact seekH_size hS c f h at' must l hl) l at' must hl
theorem path_size {S : Fs} {N : Nat} (hk : FsOk S N) (c : Cr) (s : ByteArray) (hs : s.size ≤ 1048576) (f : Bool) : (S.path c s f).1.name.size ≤ 1048576 := by
  unfold Fs.path
  split
  · exact fd0_size
  · refine seekH_size (fun k a h => (hk.get h).1.data) c f 8 1 _ _ (fun p hp => ?_)
    have h1 := parts_size _ p hp
    have h2 : s.data.toList.length = s.size := Array.length_toList
    omega
end Go.Proofs.YtihdbncoijhihaaGreat

/- A tree with a clock (layer 21): Find; a tree without a plan. -/
namespace Go.Proofs.YtihdbncoijhihaaGreat

open Go.RowKit

set_option maxRecDepth 100000 in
set_option maxHeartbeats 1000000 in
theorem sfind_results {tmps : Array Value} {W : World} {B : Nat} {x : Fd} {e : Int} (hb : Blk W B #[.int .i64 x.dir, .string x.name, .int .i64 x.no, .bool x.slash] 118)
    (h8 : tmps.getD 8 undef = .pointer (some ⟨B, 0, none⟩)) (h9 : tmps.getD 9 undef = .int .i64 e) : (results Tryz.f50 tmps).run Tryz.prog W = .ok (.tuple #[x.v, .int .i64 e]) W := by
  have q0 := hb.cell 0
  have q1 := hb.cell 1
  have q2 := hb.cell 2
  have q3 := hb.cell 3
  rw [Array.getD_eq_getD_getElem?] at h8 h9
  simp [results, Tryz.results50, go_sem, Fd.v, h8, h9, q0, q1, q2, q3]
section

variable {w w' : World} {pf pw : Nat} {R : Rp} {pv : Value} {Y : Sy}

set_option maxRecDepth 100000 in
set_option maxHeartbeats 1000000 in
theorem sfind_any (h : SyAt w pf pw R pv Y) {N : Nat} (hk : FsOk Y.fs N) (hN : N ≤ 999999) (hd : Y.dead = false) (c : Cr) (path : ByteArray) (hp : path.size ≤ 100000) (f : Bool) :
    Calls Tryz.prog 50 #[.pointer (some ⟨pf, 0, none⟩), .agg #[.int .i64 c.u, .int .i64 c.g], .string path, .bool f] w fun e w' => e = .returned (.tuple #[(Y.fs.path c path f).1.v, .int .i64 (Y.fs.path c path f).2]) ∧ Below w.heap.size w w' := by
  have hRX : Blk ((w.alloc (.cells #[.int .i64 c.u, .int .i64 c.g] 67)).alloc (.cells #[.int .i64 0, .string ⟨#[]⟩, .int .i64 0, .bool false] 118)) (w.heap.size + 1) #[.int .i64 0, .string ⟨#[]⟩, .int .i64 0, .bool false] 118 := by
    have := Blk.new (w.alloc (.cells #[.int .i64 c.u, .int .i64 c.g] 67)) #[.int .i64 0, .string ⟨#[]⟩, .int .i64 0, .bool false] 118
    rwa [World.size_alloc] at this
  have hCX := (Blk.new w #[.int .i64 c.u, .int .i64 c.g] 67).old (.cells #[.int .i64 0, .string ⟨#[]⟩, .int .i64 0, .bool false] 118)
  have hbX := balloc (balloc (Below.refl w.heap.size w) (.cells #[.int .i64 c.u, .int .i64 c.g] 67)) (.cells #[.int .i64 0, .string ⟨#[]⟩, .int .i64 0, .bool false] 118)
  have HR := Lib.hid (fun w1 (hb1 : Below w.heap.size w w1) => sread_any (h.keep hb1))
  rw [hd] at HR
  have HS := Lib.hid (fun w1 (hb1 : Below w.heap.size w w1) => path_any (h.wd.keep hb1) hk hN c path hp f)
  obtain ⟨pc, -, pz⟩ := h.blk.facts
  have HPC := Lib.hid (fun w1 (hb1 : Below w.heap.size w w1) => show w1.cell? ⟨pf, 0, none⟩ = some (.pointer (some ⟨pw, 0, none⟩)) from (hb1.cell (p := ⟨pf, 0, none⟩) pz).trans (pc 0))
  have mixed : Tryz.prog.follows .mixedOrders = true := by kernel_rfl
  generalize Y.fs.path c path f = rd at HS ⊢
  unfold Fd.v at HS
  clear h hk hd pc pz
  go_enter Tryz.func50, Tryz.ntmps50
  go_wp2_with fail
  refine (HR.out _ hbX).mono ?_
  rintro e w1 ⟨rfl, rfl⟩
  generalize (w.alloc (.cells #[.int .i64 c.u, .int .i64 c.g] 67)).alloc (.cells #[.int .i64 0, .string ⟨#[]⟩, .int .i64 0, .bool false] 118) = W0 at hRX hCX hbX ⊢
  have HRX := Lib.hid hRX
  have HBX := Lib.hid hbX
  have pc0 := HPC.out _ hbX
  obtain ⟨cc, -, cz⟩ := hCX.facts
  clear hCX hbX hRX
  go_wp2_with fail
  refine wp_region_lex 7 mixed (by kernel_rfl) (show PanicOk _ from by repeat (first | exact pk_body | refine pk_then ?_ | refine pk_block ?_ | refine pk_scope ?_)) ?_
  simp only [List.take_succ_cons, List.take_zero, List.drop_succ_cons, List.drop_zero]
  repeat still_step
  refine wpStill_nil ?_
  go_wp2_with fail
  refine (HS.out _ HBX.out.drew).mono ?_
  rintro e w1 ⟨rfl, hb1⟩
  have hRY := HRX.out.drew.keep hb1
  have HRY := Lib.hid hRY
  have HBY := Lib.hid (HBX.out.drew.trans (hb1.mono HBX.out.size))
  obtain ⟨rc, rf, rz⟩ := hRY.facts
  clear hb1 hRY
  go_wp2_with fail
  exact bodyPost_ret (sfind_results HRY.out.set4 rfl rfl) rfl ⟨rfl, below_set4 HBY.out (Nat.le_succ _)⟩
/-- no plan, no fault, the clock at its start. -/
structure Calm (Y : Sy) : Prop where
  plan : Y.plan = []
  dead : Y.dead = false
  now : Y.now = 0
  c0 : 0 ≤ Y.count
theorem Calm.change (h : Calm Y) : Y.change = ({ Y with count := Y.count + 1 }, 0) := change_none h.dead (fun x hx => by rw [h.plan] at hx; cases hx)
theorem Calm.op (h : Calm Y) (g : Fs → Int → Fs × Int × Int) : Y.op g = ({ Y with count := Y.count + 1, fs := (g Y.fs 0).1 }, (g Y.fs 0).2) := by
  unfold Sy.op
  rw [h.change, h.now]
  rfl
theorem Calm.opE (h : Calm Y) (g : Fs → Int → Fs × Int) : Y.opE g = ({ Y with count := Y.count + 1, fs := (g Y.fs 0).1 }, (g Y.fs 0).2) := by
  unfold Sy.opE
  rw [h.change, h.now]
  rfl
theorem Calm.next (h : Calm Y) (S : Fs) : Calm { Y with count := Y.count + 1, fs := S } := ⟨h.plan, h.dead, h.now, by have := h.c0; show 0 ≤ Y.count + 1; omega⟩
theorem Calm.fs (h : Calm Y) (S : Fs) : Calm { Y with fs := S } := ⟨h.plan, h.dead, h.now, h.c0⟩
/-- the tree has become S, by at most d changes. -/
def Became (w w' : World) (pf pw : Nat) (R : Rp) (pv : Value) (Y : Sy) (S : Fs) (d : Int) : Prop :=
  ∃ R' Z, SyAt w' pf pw R' pv Z ∧ Z.fs = S ∧ Calm Z ∧ Z.count ≤ Y.count + d ∧ Stp (R.Y pf pw) (R'.Y pf pw) w w'
theorem Became.same (h : SyAt w pf pw R pv Y) (hc : Calm Y) (hb : Below w.heap.size w w') : Became w w' pf pw R pv Y Y.fs 0 := ⟨R, Y, h.keep hb, rfl, hc, by omega, Stp.of_below hb⟩
theorem Became.mono {S : Fs} {d d' : Int} (h : Became w w' pf pw R pv Y S d) (hd : d ≤ d') : Became w w' pf pw R pv Y S d' := by
  obtain ⟨R', Z, h1, h2, h3, h4, h5⟩ := h
  exact ⟨R', Z, h1, h2, h3, by omega, h5⟩
/-- a block of another kind stays. -/
theorem Blk.sy {B : Nat} {vs : Array Value} {T : TypeId} (hb : Blk w B vs T) (h : SyAt w pf pw R pv Y) {F' : Nat → Prop} (hs : Stp (R.Y pf pw) F' w w') (hT : wdKind (.cells #[] T (0, 0)) = false) (hT2 : T ≠ 54) : Blk w' B vs T :=
  hb.mod hs.mod (fun hk => by
    rcases hk with rfl | hk
    · have h1 := h.blk
      unfold Blk at hb h1
      rw [hb] at h1
      injection h1 with h1
      injection h1 with h1 h2
      exact hT2 h2
    · obtain ⟨o, ho, hd⟩ := h.wd.kind hk
      unfold Blk at hb
      rw [hb] at ho
      injection ho with ho
      subst ho
      rw [show wdKind (.cells vs T (0, 0)) = wdKind (.cells #[] T (0, 0)) from rfl, hT] at hd
      cases hd)
end

end Go.Proofs.YtihdbncoijhihaaGreat

/- A name below a path: of both (track.Below, ref03.Below). -/
namespace Go.Proofs.YtihdbncoijhihaaGreat

open Go.RowKit

end Go.Proofs.YtihdbncoijhihaaGreat

/- Whether a text may be a path: ragpickerref02.Path, and the notes' paths (layer 39). -/
namespace Go.Proofs.YtihdbncoijhihaaGreat

open Go.RowKit

theorem has0_any (s : ByteArray) (hs : s.size ≤ 100000) (w : World) :
    Calls Tryz.prog 263 #[.string s, .int .u8 0] w fun e w' => e = .returned (.bool (hasB s 0)) ∧ w = w' := has_any s 0 w hs

set_option maxRecDepth 100000 in
set_option maxHeartbeats 400000 in
theorem rpath_any (s : ByteArray) (w : World) (hs : s.size ≤ 100000) :
    Calls Tryz.prog 247 #[.string s] w fun e w' => e = .returned (.int .i64 (pathE s)) ∧ w = w' := by
  rcases Nat.eq_zero_or_pos s.size with h0 | hpos
  · have HE := Lib.hid (pathE_nil h0)
    have hn : s.toList = [] := by rw [ba_list]; exact List.eq_nil_of_length_eq_zero (by rw [Array.length_toList]; exact h0)
    clear h0
    go_enter Tryz.func247, Tryz.ntmps247
    go_wp2_with fail
    go_ret
    exact ⟨by rw [HE.out]; rfl, rfl⟩
  · have hn : ¬ s.toList = [] := by
      rw [ba_list]; intro e
      have : s.data.toList.length = s.size := Array.length_toList
      rw [e] at this; simp at this; omega
    have hn2 : s.toList.isEmpty = false := by simpa using hn
    by_cases h47 : s[0] = 47
    · have hr := Lib.hid (pathE_rest hpos h47)
      have hc1 : ((s[0].toNat : Int) == 47) = true := by rw [h47]; rfl
      have hc2 : ((s[0].toNat : Int) != 47) = false := by rw [bne, hc1]; rfl
      clear h47
      have hc := Lib.hid (has0_any s hs)
      generalize hasB s 0 = b at hr hc
      cases b
      · by_cases hlen : 4096 < s.size
        · have hE := Lib.hid (show pathE s = 13 by rw [hr.out]; simp [hlen])
          go_enter Tryz.func247, Tryz.ntmps247
          go_wp2_with (go_at_call 263; refine (hc.out _).mono ?_; rintro e w1 ⟨rfl, rfl⟩)
          go_ret
          exact ⟨by rw [hE.out]; rfl, rfl⟩
        · have hE := Lib.hid (show pathE s = 0 by rw [hr.out]; simp [hlen])
          go_enter Tryz.func247, Tryz.ntmps247
          go_wp2_with (go_at_call 263; refine (hc.out _).mono ?_; rintro e w1 ⟨rfl, rfl⟩)
          go_ret
          exact ⟨by rw [hE.out]; rfl, rfl⟩
      · have hE := Lib.hid (show pathE s = 1 by rw [hr.out]; rfl)
        go_enter Tryz.func247, Tryz.ntmps247
        go_wp2_with (go_at_call 263; refine (hc.out _).mono ?_; rintro e w1 ⟨rfl, rfl⟩)
        go_ret
        exact ⟨by rw [hE.out]; rfl, rfl⟩
    · have hE := Lib.hid (pathE_head hpos h47)
      have hc1 : ((s[0].toNat : Int) == 47) = false := by
        simp only [beq_eq_false_iff_ne, ne_eq]
        intro h
        exact h47 (by rw [u8_eq]; show s[0].toNat = 47; omega)
      have hc2 : ((s[0].toNat : Int) != 47) = true := by rw [bne, hc1]; rfl
      clear h47
      go_enter Tryz.func247, Tryz.ntmps247
      go_wp2_with fail
      go_ret
      exact ⟨by rw [hE.out]; rfl, rfl⟩

end Go.Proofs.YtihdbncoijhihaaGreat

/- The tops of mounts, paths of names, operands (layer 29): topdir.Top, Path, Operand. (printed by gen_topc.py) -/
namespace Go.Proofs.YtihdbncoijhihaaGreat

open Go.RowKit

section

variable {w w' : World} {pf pw : Nat} {R : Rp} {pv : Value} {Y : Sy}

set_option maxRecDepth 100000 in
set_option maxHeartbeats 2000000 in
theorem ttop_any (h : SyAt w pf pw R pv Y) {N : Nat} (hk : FsOk Y.fs N) (hp : Pl Y.fs) (hl : Y.fs.ns.length ≤ 100000) (hd : Y.dead = false) (no : Int) :
    Calls Tryz.prog 53 #[.pointer (some ⟨pf, 0, none⟩), .int .i64 no] w fun e w' => e = .returned (.tuple #[.int .i64 (Y.fs.topF no).1, .string (Y.fs.topF no).2.1, .int .i64 (Y.fs.topF no).2.2]) ∧ Below w.heap.size w w' := by
  have HS := Lib.hid (sstat_any h hk hd no)
  have HRo := Lib.hid (fun w1 (hb : Below w.heap.size w w1) d => wroot_any (h.wd.keep hb) hk.d1 d)
  have HWh := Lib.hid (fun w1 (hb : Below w.heap.size w w1) d => wwhere_any (h.wd.keep hb) hk hp hl d)
  obtain ⟨pc, -, pz⟩ := h.blk.facts
  have HPC := Lib.hid (fun w1 (hb1 : Below w.heap.size w w1) => show w1.cell? ⟨pf, 0, none⟩ = some (.pointer (some ⟨pw, 0, none⟩)) from (hb1.cell (p := ⟨pf, 0, none⟩) pz).trans (pc 0))
  have mixed : Tryz.prog.follows .mixedOrders = true := by kernel_rfl
  obtain ⟨S, hS⟩ : ∃ S, Y.fs = S := ⟨_, rfl⟩
  rw [hS] at HS HRo HWh ⊢
  have HZ0 := Lib.hid (fun h => topF_none (S := S) (no := no) h)
  have HZ1 := Lib.hid (fun a h h2 => topF_gone (S := S) (no := no) (a := a) h h2)
  have HZ2 := Lib.hid (fun a s h h2 => topF_some (S := S) (no := no) (a := a) (s := s) h h2)
  generalize S.topF no = Z at HZ0 HZ1 HZ2 ⊢
  clear h hk hp hd hS pc pz hl
  cases hg : S.get no with
  | none =>
    rw [hg] at HS
    have HZ := Lib.hid (HZ0.out hg)
    unfold stV noneE at HS
    clear hg
    go_enter Tryz.func53, Tryz.ntmps53
    go_wp2_with fail
    refine HS.out.mono ?_
    rintro e w1 ⟨rfl, hb1⟩
    have HB1 := Lib.hid (balloc hb1 (.cells #[.int .i64 0, .int .i64 0, .int .i64 0, .int .i64 0, .int .i64 0, .int .i64 0, .int .i64 0, .int .i64 0, .int .i64 0, .int .i64 0] 91))
    clear hb1
    go_wp2_with fail
    go_ret3
    exact ⟨by rw [HZ.out]; rfl, HB1.out⟩
  | some a =>
    rw [hg] at HS
    have HG := Lib.hid hg
    unfold stV noneE at HS
    clear hg
    go_enter Tryz.func53, Tryz.ntmps53
    go_wp2_with fail
    refine HS.out.mono ?_
    rintro e w1 ⟨rfl, hb1⟩
    have hX := Blk.new w1 #[.int .i64 a.no, .int .i64 a.dev, .int .i64 a.kind, .int .i64 a.mode, .int .i64 a.uid, .int .i64 a.gid, .int .i64 a.links, .int .i64 a.data.size, .int .i64 a.mtime, .int .i64 a.ctime] 91
    have hbX := balloc hb1 (.cells #[.int .i64 a.no, .int .i64 a.dev, .int .i64 a.kind, .int .i64 a.mode, .int .i64 a.uid, .int .i64 a.gid, .int .i64 a.links, .int .i64 a.data.size, .int .i64 a.mtime, .int .i64 a.ctime] 91)
    go_upto_region 2 with fail
    generalize w1.alloc (.cells #[.int .i64 a.no, .int .i64 a.dev, .int .i64 a.kind, .int .i64 a.mode, .int .i64 a.uid, .int .i64 a.gid, .int .i64 a.links, .int .i64 a.data.size, .int .i64 a.mtime, .int .i64 a.ctime] 91) = X at hX hbX ⊢
    have HX := Lib.hid hX
    have HBX := Lib.hid hbX
    obtain ⟨xc, xf, xz⟩ := hX.facts
    have pc0 := HPC.out _ hbX
    clear hb1 hX hbX
    go_wp2_with fail
    refine wp_region_lex 6 mixed (by kernel_rfl) (show PanicOk _ from by repeat (first | exact pk_body | refine pk_then ?_ | refine pk_block ?_ | refine pk_scope ?_)) ?_
    simp only [List.take_succ_cons, List.take_zero, List.drop_succ_cons, List.drop_zero]
    repeat still_step
    refine wpStill_nil ?_
    go_wp2_with fail
    refine (HRo.out _ HBX.out.drew _).mono ?_
    rintro e w2 ⟨rfl, rfl⟩
    clear xc xf xz pc0
    have pc0 := HPC.out _ HBX.out.drew
    go_wp2_with fail
    refine (HWh.out _ HBX.out.drew _).mono ?_
    rintro e w3 ⟨rfl, hb3⟩
    have HB3 := Lib.hid (bnext HBX.out.drew hb3)
    unfold whereV
    clear hb3 pc0
    cases hpl : S.place_ (S.root a.dev) with
    | none =>
      have HZ := Lib.hid (HZ1.out _ HG.out hpl)
      clear hpl
      go_wp2_with fail
      go_ret3
      exact ⟨by rw [HZ.out]; rfl, HB3.out⟩
    | some s =>
      have HZ := Lib.hid (HZ2.out _ _ HG.out hpl)
      clear hpl
      go_wp2_with fail
      go_ret3
      exact ⟨by rw [HZ.out]; rfl, HB3.out⟩
end

end Go.Proofs.YtihdbncoijhihaaGreat

/- The tops of all mounts (layer 29): topdir.All. -/
namespace Go.Proofs.YtihdbncoijhihaaGreat

open Go.RowKit Go.Shelf

attribute [local go_sem] Oper.semAt_some

def Fs.topAt (S : Fs) (d : Nat) : Option (Int × ByteArray) := (S.place_ (S.root ((d : Int) + 1))).map fun s => (S.root ((d : Int) + 1), s)
def Fs.topsK (S : Fs) (k : Nat) : List (Int × ByteArray) := (List.range k).filterMap S.topAt
def Fs.topsL (S : Fs) : List (Int × ByteArray) := S.topsK S.ds.length
end Go.Proofs.YtihdbncoijhihaaGreat

/- A planted tree, purely: every name in it is a good one. -/
namespace Go.Proofs.YtihdbncoijhihaaGreat

open Go.RowKit

def Nm (S : Fs) : Prop := ∀ a ∈ S.ns, ∀ x ∈ a.ents, checkE x.name = 0
theorem Nm.set {S : Fs} (h : Nm S) {a : An} (hn : ∀ x ∈ a.ents, checkE x.name = 0) : Nm (S.set a) := by
  intro y hy
  unfold Fs.set at hy
  simp only [List.mem_map] at hy
  obtain ⟨z, hz, rfl⟩ := hy
  split
  · exact hn
  · exact h z hz
theorem Nm.add {S : Fs} (h : Nm S) {a : An} (hn : a.ents = []) : Nm (S.add a) := by
  intro y hy
  unfold Fs.add at hy
  rcases List.mem_append.1 hy with hy | hy
  · exact h y hy
  · simp at hy
    subst hy
    intro x hx
    rw [show ({ a with no := S.last + 1 } : An).ents = a.ents from rfl, hn] at hx
    cases hx
theorem Nm.addRoot {S : Fs} (h : Nm S) (o b n : Int) : Nm (S.addRoot o b n) := by
  intro y hy
  unfold Fs.addRoot at hy
  rcases List.mem_append.1 hy with hy | hy
  · exact h y hy
  · simp at hy
    subst hy
    intro x hx
    cases hx
theorem Nm.make {S : Fs} (h : Nm S) {a : An} (hn : a.ents = []) : Nm (S.make a).1 := by
  unfold Fs.make
  split
  · exact h
  · split
    · exact h
    · simp only
      split
      · exact Nm.add (S := S.setDev _ _) (fun y hy => h y hy) hn
      · exact h
theorem put_check {l : List En} (h : ∀ x ∈ l, checkE x.name = 0) {s : ByteArray} (hs : checkE s = 0) (no : Int) : ∀ x ∈ entPut l s no, checkE x.name = 0 := by
  intro x hx
  unfold entPut at hx
  rcases List.mem_append.1 hx with hx | hx
  · exact h x (List.mem_filter.1 hx).1
  · rcases List.mem_cons.1 hx with rfl | hx
    · exact hs
    · exact h x (List.mem_filter.1 hx).1
theorem Nm.touch {S : Fs} (h : Nm S) (now dir : Int) (l : List En) (hl : ∀ x ∈ l, checkE x.name = 0) : Nm (S.touch now dir l) := by
  unfold Fs.touch
  split
  · exact h
  · exact h.set hl
theorem Nm.come {S : Fs} (h : Nm S) {a : An} (c : Cr) (now dir : Int) (s : ByteArray) (he : a.ents = []) : Nm (S.come c now dir s a).1 := by
  unfold Fs.come
  split
  · exact h
  · rename_i hpl
    obtain ⟨d, hd, hdk, hce⟩ := place_check (by simpa using hpl)
    rw [hd]
    simp only
    split
    · exact h
    · have hm := h.make (a := { a with dev := d.dev, uid := c.u, gid := c.g, mtime := now, ctime := now, links := 1 }) he
      split
      · exact h
      · exact hm.touch _ _ _ (put_check (h d (an_mem hd)) hce _)
theorem Nm.mkdir {S : Fs} (h : Nm S) (c : Cr) (now dir : Int) (s : ByteArray) (m : Int) : Nm (S.mkdir c now dir s m).1 := by
  unfold Fs.mkdir
  split
  · exact h
  · exact h.come c now dir s rfl
theorem Nm.file {S : Fs} (h : Nm S) (c : Cr) (now dir : Int) (s : ByteArray) (m : Int) (t : ByteArray) : Nm (S.file c now dir s m t).1 := by
  unfold Fs.file
  split
  · exact h
  · split
    · exact h
    · exact h.come c now dir s rfl
theorem Nm.sym {S : Fs} (h : Nm S) (c : Cr) (now dir : Int) (s t : ByteArray) : Nm (S.sym c now dir s t).1 := by
  unfold Fs.sym
  split
  · exact h
  · split
    · exact h
    · exact h.come c now dir s rfl
theorem Nm.hard {S : Fs} (h : Nm S) (c : Cr) (now no dir : Int) (s : ByteArray) : Nm (S.hard c now no dir s).1 := by
  unfold Fs.hard
  split
  · exact h
  · rename_i hpl
    obtain ⟨d0, hd0, hdk, hce⟩ := place_check (by simpa using hpl)
    split
    · rename_i d n hd hn
      split
      · exact h
      · split
        · exact h
        · split
          · exact h
          · split
            · exact h
            · exact Nm.touch (h.set (a := { n with links := n.links + 1, ctime := now }) (h n (an_mem hn))) _ _ _ (put_check (h d (an_mem hd)) hce _)
    · exact h
theorem Nm.chmod {S : Fs} (h : Nm S) (c : Cr) (now no m : Int) : Nm (S.chmod c now no m).1 := by
  unfold Fs.chmod
  split
  · exact h
  · rename_i n hn
    split
    · exact h
    · split
      · exact h
      · exact h.set (h n (an_mem hn))
theorem Nm.chown {S : Fs} (h : Nm S) (c : Cr) (now no u g : Int) : Nm (S.chown c now no u g).1 := by
  unfold Fs.chown
  split
  · exact h
  · rename_i n hn
    split
    · exact h
    · split
      · exact h
      · split
        · exact h
        · exact h.set (h n (an_mem hn))
theorem Nm.utime {S : Fs} (h : Nm S) (c : Cr) (now no t : Int) : Nm (S.utime c now no t).1 := by
  unfold Fs.utime
  split
  · exact h
  · rename_i n hn
    split
    · exact h
    · split
      · exact h
      · exact h.set (h n (an_mem hn))
theorem Nm.mount {S : Fs} (h : Nm S) (k b n : Int) : Nm (S.mount k b n).1 := by
  unfold Fs.mount
  split
  · exact h
  · split
    · exact h
    · split
      · exact h
      · split
        · exact h
        · exact h.addRoot _ b n
theorem Nm.mountF {S : Fs} (h : Nm S) (m : Mt) : Nm (mountF S m) := by
  unfold Go.Proofs.YtihdbncoijhihaaGreat.mountF
  split
  · exact h
  · split
    · have h1 := h.mkdir c00 0 (S.path c00 m.path false).1.dir (S.path c00 m.path false).1.name 493
      simp only
      split
      · exact h1
      · exact h1.mount _ _ _
    · exact h.mount _ _ _
theorem Nm.mountsF {S : Fs} (h : Nm S) (l : List Mt) : Nm (mountsF S l) := by
  induction l generalizing S with
  | nil => exact h
  | cons m l ih =>
    unfold Go.Proofs.YtihdbncoijhihaaGreat.mountsF
    by_cases hm : m.path = topB
    · rw [if_pos hm]; exact ih h
    · rw [if_neg hm]; exact ih (h.mountF m)
theorem Nm.nodeF {S : Fs} (h : Nm S) (it : It) : Nm (nodeF S it).1 := by
  unfold Go.Proofs.YtihdbncoijhihaaGreat.nodeF
  simp only
  split
  · exact h
  · split
    · split <;> exact h
    · split
      · exact h.mkdir _ _ _ _ _
      · split
        · exact h.file _ _ _ _ _ _
        · split
          · exact h.sym _ _ _ _ _
          · split
            · split
              · exact h.hard _ _ _ _ _
              · exact h
            · exact h
theorem Nm.itemF {S : Fs} (h : Nm S) (it : It) : Nm (itemF S it).1 := by
  unfold Go.Proofs.YtihdbncoijhihaaGreat.itemF
  have h1 := h.nodeF it
  simp only
  split
  · exact (h1.chown _ _ _ _ _).chmod _ _ _ _
  · exact h1
theorem Nm.itemsF {S : Fs} (h : Nm S) (l : List It) : Nm (itemsF S l).1 := by
  induction l generalizing S with
  | nil => exact h
  | cons x l ih => exact ih (h.itemF x)
theorem Nm.timesF {S : Fs} (h : Nm S) (l : List (It × Int)) : Nm (timesF S l) := by
  induction l generalizing S with
  | nil => exact h
  | cons x l ih =>
    unfold Go.Proofs.YtihdbncoijhihaaGreat.timesF
    refine ih ?_
    split
    · exact h.utime _ _ _ _
    · exact h
theorem plant_nm (ms : List Mt) (is : List It) : Nm (plantF ms is) := by
  unfold plantF
  simp only
  refine Nm.timesF (Nm.itemsF (Nm.mountsF ?_ ms) is) _
  exact Nm.addRoot (S := fs0) (fun a ha => by cases ha) _ _ _
end Go.Proofs.YtihdbncoijhihaaGreat
