/- Texts of the proof, part 44. -/
import Derived.Test.YtaojpbgaengdpaaST10
import Derived.Test.YtaojpbgaengdpaaST41
import Derived.Test.YtaojpbgaengdpaaST43
set_option linter.unusedVariables false
set_option linter.unusedSimpArgs false
/- Trips (layer 15), plainly: the name that a trip ends at is not long. No walk. -/
namespace Go.Proofs.Ytaojpbgaengdpaa

open Go.RowKit

theorem parts_size (l : List UInt8) : ∀ p ∈ partsL l, p.length ≤ l.length := fun p hp => spl_size 47 l p (List.mem_filter.1 hp).1
theorem fd0_size : fd0.name.size ≤ 1048576 := by show (0 : Nat) ≤ _; omega
theorem seekL_size {S : Fs} (hS : ∀ k a, S.get k = some a → a.data.size ≤ 1048576) (c : Cr) (f : Bool) (k : Option (Int → Bool → List (List UInt8) → Fd × Int))
    (hk : ∀ g, k = some g → ∀ at' must l, (∀ p ∈ l, p.length ≤ 1048576) → (g at' must l).1.name.size ≤ 1048576) :
    ∀ (l : List (List UInt8)) (at' : Int) (must : Bool), (∀ p ∈ l, p.length ≤ 1048576) → (S.seekL c f k l at' must).1.name.size ≤ 1048576
  | [], at', must, _ => by rw [Fs.seekL]; show (0 : Nat) ≤ _; omega
  | p :: l, at', must, hl => by
    have hp : (str p).size ≤ 1048576 := by rw [str_size]; exact hl p (by simp)
    have hl' : ∀ q ∈ l, q.length ≤ 1048576 := fun q hq => hl q (by simp [hq])
    have ih := seekL_size hS c f k hk l
    rw [Fs.seekL]
    split
    · exact fd0_size
    · split
      · exact ih _ _ hl'
      · split
        · split
          · exact hp
          · exact fd0_size
        · rename_i n hn
          split
          · cases hkk : k with
            | none => exact fd0_size
            | some g =>
              simp only
              split
              · exact fd0_size
              · refine hk g hkk _ _ _ (fun q hq => ?_)
                rcases List.mem_append.1 hq with hq | hq
                · have h1 := parts_size _ q hq
                  have h2 : n.data.data.toList.length = n.data.size := Array.length_toList
                  have h3 := hS _ n hn
                  omega
                · exact hl' q hq
          · split
            · exact fd0_size
            · split
              · exact hp
              · exact ih _ _ hl'
theorem seekH_size {S : Fs} (hS : ∀ k a, S.get k = some a → a.data.size ≤ 1048576) (c : Cr) (f : Bool) : ∀ (h : Nat) (at' : Int) (must : Bool) (l : List (List UInt8)), (∀ p ∈ l, p.length ≤ 1048576) → (S.seekH c f h at' must l).1.name.size ≤ 1048576
  | 0, at', must, l, hl => seekL_size hS c f none (fun g h => by cases h) l at' must hl
  | h + 1, at', must, l, hl => seekL_size hS c f (some (S.seekH c f h)) (fun g hg at' must l hl => by injection hg with hg; subst hg; exact seekH_size hS c f h at' must l hl) l at' must hl
theorem path_size {S : Fs} {N : Nat} (hk : FsOk S N) (c : Cr) (s : ByteArray) (hs : s.size ≤ 1048576) (f : Bool) : (S.path c s f).1.name.size ≤ 1048576 := by
  unfold Fs.path
  split
  · exact fd0_size
  · refine seekH_size (fun k a h => (hk.get h).1.data) c f 8 1 _ _ (fun p hp => ?_)
    have h1 := parts_size _ p hp
    have h2 : s.data.toList.length = s.size := Array.length_toList
    omega
end Go.Proofs.Ytaojpbgaengdpaa

/- A tree with a clock (layer 21): Find; a tree without a plan. -/
namespace Go.Proofs.Ytaojpbgaengdpaa

open Go.RowKit

set_option maxRecDepth 100000 in
set_option maxHeartbeats 1000000 in
theorem sfind_results {tmps : Array Value} {W : World} {B : Nat} {x : Fd} {e : Int} (hb : Blk W B #[.int .i64 x.dir, .string x.name, .int .i64 x.no, .bool x.slash] 45)
    (h8 : tmps.getD 8 undef = .pointer (some ⟨B, 0, none⟩)) (h9 : tmps.getD 9 undef = .int .i64 e) : (results Try.f8 tmps).run Try.prog W = .ok (.tuple #[x.v, .int .i64 e]) W := by
  have q0 := hb.cell 0
  have q1 := hb.cell 1
  have q2 := hb.cell 2
  have q3 := hb.cell 3
  rw [Array.getD_eq_getD_getElem?] at h8 h9
  simp [results, Try.results8, go_sem, Fd.v, h8, h9, q0, q1, q2, q3]
section

variable {w w' : World} {pf pw : Nat} {R : Rp} {pv : Value} {Y : Sy}

set_option maxRecDepth 100000 in
set_option maxHeartbeats 1000000 in
theorem sfind_any (h : SyAt w pf pw R pv Y) {N : Nat} (hk : FsOk Y.fs N) (hN : N ≤ 999999) (hd : Y.dead = false) (c : Cr) (path : ByteArray) (hp : path.size ≤ 100000) (f : Bool) :
    Calls Try.prog 8 #[.pointer (some ⟨pf, 0, none⟩), .agg #[.int .i64 c.u, .int .i64 c.g], .string path, .bool f] w fun e w' => e = .returned (.tuple #[(Y.fs.path c path f).1.v, .int .i64 (Y.fs.path c path f).2]) ∧ Below w.heap.size w w' := by
  have hRX : Blk ((w.alloc (.cells #[.int .i64 c.u, .int .i64 c.g] 50)).alloc (.cells #[.int .i64 0, .string ⟨#[]⟩, .int .i64 0, .bool false] 45)) (w.heap.size + 1) #[.int .i64 0, .string ⟨#[]⟩, .int .i64 0, .bool false] 45 := by
    have := Blk.new (w.alloc (.cells #[.int .i64 c.u, .int .i64 c.g] 50)) #[.int .i64 0, .string ⟨#[]⟩, .int .i64 0, .bool false] 45
    rwa [World.size_alloc] at this
  have hCX := (Blk.new w #[.int .i64 c.u, .int .i64 c.g] 50).old (.cells #[.int .i64 0, .string ⟨#[]⟩, .int .i64 0, .bool false] 45)
  have hbX := balloc (balloc (Below.refl w.heap.size w) (.cells #[.int .i64 c.u, .int .i64 c.g] 50)) (.cells #[.int .i64 0, .string ⟨#[]⟩, .int .i64 0, .bool false] 45)
  have HR := Lib.hid (fun w1 (hb1 : Below w.heap.size w w1) => sread_any (h.keep hb1))
  rw [hd] at HR
  have HS := Lib.hid (fun w1 (hb1 : Below w.heap.size w w1) => path_any (h.wd.keep hb1) hk hN c path hp f)
  obtain ⟨pc, -, pz⟩ := h.blk.facts
  have HPC := Lib.hid (fun w1 (hb1 : Below w.heap.size w w1) => show w1.cell? ⟨pf, 0, none⟩ = some (.pointer (some ⟨pw, 0, none⟩)) from (hb1.cell (p := ⟨pf, 0, none⟩) pz).trans (pc 0))
  have mixed : Try.prog.follows .mixedOrders = true := by kernel_rfl
  generalize Y.fs.path c path f = rd at HS ⊢
  unfold Fd.v at HS
  clear h hk hd pc pz
  go_enter Try.func8, Try.ntmps8
  go_wp2_with fail
  refine (HR.out _ hbX).mono ?_
  rintro e w1 ⟨rfl, rfl⟩
  generalize (w.alloc (.cells #[.int .i64 c.u, .int .i64 c.g] 50)).alloc (.cells #[.int .i64 0, .string ⟨#[]⟩, .int .i64 0, .bool false] 45) = W0 at hRX hCX hbX ⊢
  have HRX := Lib.hid hRX
  have HBX := Lib.hid hbX
  have pc0 := HPC.out _ hbX
  obtain ⟨cc, -, cz⟩ := hCX.facts
  clear hCX hbX hRX
  go_wp2_with fail
  refine wp_region_lex 7 mixed (by kernel_rfl) (show PanicOk _ from by repeat (first | exact pk_body | refine pk_then ?_ | refine pk_block ?_ | refine pk_scope ?_)) ?_
  simp only [List.take_succ_cons, List.take_zero, List.drop_succ_cons, List.drop_zero]
  repeat still_step
  refine wpStill_nil ?_
  go_wp2_with fail
  refine (HS.out _ HBX.out.drew).mono ?_
  rintro e w1 ⟨rfl, hb1⟩
  have hRY := HRX.out.drew.keep hb1
  have HRY := Lib.hid hRY
  have HBY := Lib.hid (HBX.out.drew.trans (hb1.mono HBX.out.size))
  obtain ⟨rc, rf, rz⟩ := hRY.facts
  clear hb1 hRY
  go_wp2_with fail
  exact bodyPost_ret (sfind_results HRY.out.set4 rfl rfl) rfl ⟨rfl, below_set4 HBY.out (Nat.le_succ _)⟩
/-- no plan, no fault, the clock at its start. -/
structure Calm (Y : Sy) : Prop where
  plan : Y.plan = []
  dead : Y.dead = false
  now : Y.now = 0
  c0 : 0 ≤ Y.count
theorem Calm.change (h : Calm Y) : Y.change = ({ Y with count := Y.count + 1 }, 0) := change_none h.dead (fun x hx => by rw [h.plan] at hx; cases hx)
theorem Calm.op (h : Calm Y) (g : Fs → Int → Fs × Int × Int) : Y.op g = ({ Y with count := Y.count + 1, fs := (g Y.fs 0).1 }, (g Y.fs 0).2) := by
  unfold Sy.op
  rw [h.change, h.now]
  rfl
theorem Calm.opE (h : Calm Y) (g : Fs → Int → Fs × Int) : Y.opE g = ({ Y with count := Y.count + 1, fs := (g Y.fs 0).1 }, (g Y.fs 0).2) := by
  unfold Sy.opE
  rw [h.change, h.now]
  rfl
theorem Calm.next (h : Calm Y) (S : Fs) : Calm { Y with count := Y.count + 1, fs := S } := ⟨h.plan, h.dead, h.now, by have := h.c0; show 0 ≤ Y.count + 1; omega⟩
theorem Calm.fs (h : Calm Y) (S : Fs) : Calm { Y with fs := S } := ⟨h.plan, h.dead, h.now, h.c0⟩
/-- the tree has become S, by at most d changes. -/
def Became (w w' : World) (pf pw : Nat) (R : Rp) (pv : Value) (Y : Sy) (S : Fs) (d : Int) : Prop :=
  ∃ R' Z, SyAt w' pf pw R' pv Z ∧ Z.fs = S ∧ Calm Z ∧ Z.count ≤ Y.count + d ∧ Stp (R.Y pf pw) (R'.Y pf pw) w w'
theorem Became.same (h : SyAt w pf pw R pv Y) (hc : Calm Y) (hb : Below w.heap.size w w') : Became w w' pf pw R pv Y Y.fs 0 := ⟨R, Y, h.keep hb, rfl, hc, by omega, Stp.of_below hb⟩
theorem Became.below {S : Fs} {d : Int} {w'' : World} (h : Became w w' pf pw R pv Y S d) (hb : Below w'.heap.size w' w'') : Became w w'' pf pw R pv Y S d := by
  obtain ⟨R', Z, h1, h2, h3, h4, h5⟩ := h
  exact ⟨R', Z, h1.keep hb, h2, h3, h4, h5.trans (Stp.of_below hb)⟩
theorem Became.mono {S : Fs} {d d' : Int} (h : Became w w' pf pw R pv Y S d) (hd : d ≤ d') : Became w w' pf pw R pv Y S d' := by
  obtain ⟨R', Z, h1, h2, h3, h4, h5⟩ := h
  exact ⟨R', Z, h1, h2, h3, by omega, h5⟩
/-- a block of another kind stays. -/
theorem Blk.sy {B : Nat} {vs : Array Value} {T : TypeId} (hb : Blk w B vs T) (h : SyAt w pf pw R pv Y) {F' : Nat → Prop} (hs : Stp (R.Y pf pw) F' w w') (hT : wdKind (.cells #[] T (0, 0)) = false) (hT2 : T ≠ 34) : Blk w' B vs T :=
  hb.mod hs.mod (fun hk => by
    rcases hk with rfl | hk
    · have h1 := h.blk
      unfold Blk at hb h1
      rw [hb] at h1
      injection h1 with h1
      injection h1 with h1 h2
      exact hT2 h2
    · obtain ⟨o, ho, hd⟩ := h.wd.kind hk
      unfold Blk at hb
      rw [hb] at ho
      injection ho with ho
      subst ho
      rw [show wdKind (.cells vs T (0, 0)) = wdKind (.cells #[] T (0, 0)) from rfl, hT] at hd
      cases hd)
end

end Go.Proofs.Ytaojpbgaengdpaa
