/- Texts of the proof, part 20. -/
import Derived.Test.YtkkiglagdojnlaaGreatDoorEP5
import Derived.Test.YtkkiglagdojnlaaGreatDoorEP17
import Derived.Test.YtkkiglagdojnlaaGreatDoorEP19
set_option linter.unusedVariables false
set_option linter.unusedSimpArgs false
/- Trees that are to be (layer 22), plainly: what Plant plants; nodes never get fewer. No walk. -/
namespace Go.Proofs.YtkkiglagdojnlaaGreatDoor

open Go.RowKit

structure Mt where
  path : ByteArray
  b : Int
  n : Int
structure It where
  path : ByteArray
  kind : Int
  mode : Int
  uid : Int
  gid : Int
  mtime : Int
  data : ByteArray
def topB : ByteArray := ⟨#[47]⟩
def c00 : Cr := ⟨0, 0⟩
def limitsF : List Mt → Int × Int
  | [] => (65536, 65536)
  | m :: l => if m.path = topB ∧ limB m.b m.n = true then (m.b, m.n) else limitsF l
theorem limits_ok : ∀ l : List Mt, limB (limitsF l).1 (limitsF l).2 = true
  | [] => by decide
  | m :: l => by
    unfold limitsF
    split
    · rename_i h; exact h.2
    · exact limits_ok l
def Fs.kindOf (S : Fs) (k : Int) : Int := match S.get k with | none => 0 | some a => a.kind
def mountF (S : Fs) (m : Mt) : Fs :=
  if (S.path c00 m.path false).2 ≠ 0 then S
  else if (S.path c00 m.path false).1.no = 0 then
    let q := S.mkdir c00 0 (S.path c00 m.path false).1.dir (S.path c00 m.path false).1.name 493
    if q.2.2 ≠ 0 then q.1 else (q.1.mount q.2.1 m.b m.n).1
  else (S.mount (S.path c00 m.path false).1.no m.b m.n).1
def nodeF (S : Fs) (it : It) : Fs × Int :=
  let x := S.path c00 it.path false
  if x.2 ≠ 0 then (S, 0)
  else if x.1.no ≠ 0 then (if it.kind = 1 ∧ S.kindOf x.1.no = 1 then (S, x.1.no) else (S, 0))
  else if it.kind = 1 then ((S.mkdir c00 0 x.1.dir x.1.name 493).1, (S.mkdir c00 0 x.1.dir x.1.name 493).2.1)
  else if it.kind = 2 then ((S.file c00 0 x.1.dir x.1.name 420 it.data).1, (S.file c00 0 x.1.dir x.1.name 420 it.data).2.1)
  else if it.kind = 3 then ((S.sym c00 0 x.1.dir x.1.name it.data).1, (S.sym c00 0 x.1.dir x.1.name it.data).2.1)
  else if it.kind = 4 then
    (if (S.path c00 it.data false).2 = 0 then ((S.hard c00 0 (S.path c00 it.data false).1.no x.1.dir x.1.name).1, 0) else (S, 0))
  else (S, 0)
def itemF (S : Fs) (it : It) : Fs × Int :=
  let q := nodeF S it
  if q.2 ≠ 0 then (((q.1.chown c00 0 q.2 it.uid it.gid).1.chmod c00 0 q.2 it.mode).1, q.2) else q
def itemsF (S : Fs) : List It → Fs × List Int
  | [] => (S, [])
  | it :: l => let q := itemF S it; let r := itemsF q.1 l; (r.1, q.2 :: r.2)
def timesF (S : Fs) : List (It × Int) → Fs
  | [] => S
  | x :: l => timesF (if x.2 ≠ 0 then (S.utime c00 0 x.2 x.1.mtime).1 else S) l
def mountsF (S : Fs) : List Mt → Fs
  | [] => S
  | m :: l => mountsF (if m.path = topB then S else mountF S m) l
def plantF (ms : List Mt) (is : List It) : Fs :=
  let S := mountsF (fs0.addRoot 0 (limitsF ms).1 (limitsF ms).2) ms
  let r := itemsF S is
  timesF r.1 (is.zip r.2)

theorem itemsF_app (S : Fs) (a b : List It) : itemsF S (a ++ b) = ((itemsF (itemsF S a).1 b).1, (itemsF S a).2 ++ (itemsF (itemsF S a).1 b).2) := by
  induction a generalizing S with
  | nil => rfl
  | cons x a ih => simp only [List.cons_append, itemsF, ih]
theorem itemsF_len (S : Fs) (a : List It) : (itemsF S a).2.length = a.length := by
  induction a generalizing S with
  | nil => rfl
  | cons x a ih => simp only [itemsF, List.length_cons, ih]
theorem timesF_app (S : Fs) (a b : List (It × Int)) : timesF S (a ++ b) = timesF (timesF S a) b := by
  induction a generalizing S with
  | nil => rfl
  | cons x a ih => exact ih _
theorem mountsF_app (S : Fs) (a b : List Mt) : mountsF S (a ++ b) = mountsF (mountsF S a) b := by
  induction a generalizing S with
  | nil => rfl
  | cons x a ih => exact ih _

theorem mountF_ok {S : Fs} {N : Nat} (h : FsOk S N) (m : Mt) : FsOk (mountF S m) (N + 2) := by
  unfold mountF
  split
  · exact h.mono (by omega)
  · split
    · have h1 := mkdir_ok h c00 0 (S.path c00 m.path false).1.dir (S.path c00 m.path false).1.name 493
      simp only
      split
      · exact h1.mono (by omega)
      · exact h1.mount _ _ _
    · exact (h.mount _ _ _).mono (by omega)
theorem mountsF_ok {S : Fs} {N : Nat} (h : FsOk S N) (l : List Mt) : FsOk (mountsF S l) (N + 2 * l.length) := by
  induction l generalizing S N with
  | nil => exact h
  | cons m l ih =>
    unfold mountsF
    have h1 : FsOk (if m.path = topB then S else mountF S m) (N + 2) := by
      split
      · exact h.mono (by omega)
      · exact mountF_ok h m
    exact (ih h1).mono (by simp; omega)
theorem nodeF_ok {S : Fs} {N : Nat} (h : FsOk S N) (it : It) : FsOk (nodeF S it).1 (N + 1) := by
  have h1 := h.mono (Nat.le_succ N)
  unfold nodeF
  simp only
  split
  · exact h1
  · split
    · split <;> exact h1
    · split
      · exact mkdir_ok h _ _ _ _ _
      · split
        · exact file_ok h _ _ _ _ _ _
        · split
          · exact sym_ok h _ _ _ _ _
          · split
            · split
              · exact hard_ok h _ _ _ _ _
              · exact h1
            · exact h1
theorem itemF_ok {S : Fs} {N : Nat} (h : FsOk S N) (it : It) : FsOk (itemF S it).1 (N + 1) := by
  have h1 := nodeF_ok h it
  unfold itemF
  simp only
  split
  · exact chmod_ok (chown_ok h1 _ _ _ _ _) _ _ _ _
  · exact h1
theorem itemsF_ok {S : Fs} {N : Nat} (h : FsOk S N) (l : List It) : FsOk (itemsF S l).1 (N + l.length) := by
  induction l generalizing S N with
  | nil => exact h
  | cons m l ih =>
    unfold itemsF
    exact (ih (itemF_ok h m)).mono (by simp; omega)
theorem timesF_ok {S : Fs} {N : Nat} (h : FsOk S N) (l : List (It × Int)) : FsOk (timesF S l) N := by
  induction l generalizing S with
  | nil => exact h
  | cons m l ih =>
    unfold timesF
    apply ih
    split
    · exact utime_ok h _ _ _ _
    · exact h

end Go.Proofs.YtkkiglagdojnlaaGreatDoor

/- Trees that are to be (layer 22): how a seed lies; Limits. -/
namespace Go.Proofs.YtkkiglagdojnlaaGreatDoor

open Go.RowKit

def mtC (m : Mt) : List Value := [.string m.path, .int .i64 m.b, .int .i64 m.n]
theorem mtC_len (m : Mt) : (mtC m).length = 3 := rfl
def mtR (cs : List Value) (m : Mt) : Prop := cs = mtC m
def itC (x : It) : List Value := [.string x.path, .int .i64 x.kind, .int .i64 x.mode, .int .i64 x.uid, .int .i64 x.gid, .int .i64 x.mtime, .string x.data]
theorem itC_len (x : It) : (itC x).length = 7 := rfl
def itR (cs : List Value) (x : It) : Prop := cs = itC x
theorem SliceAt.keep {α : Type} {w w' : World} {sz n c : Nat} {Rl : List Value → α → Prop} {a : Option Addr} {xs : List α} (h : SliceAt w sz Rl a n c xs) (hb : Below w.heap.size w w') : SliceAt w' sz Rl a n c xs := h.below hb (Nat.le_refl _)
/-- a seed: where its mounts and items lie. -/
structure SdAt (w : World) (ma : Option Addr) (mn mc : Nat) (ia : Option Addr) (il ic : Nat) (ms : List Mt) (is : List It) : Prop where
  m : SliceAt w 3 mtR ma mn mc ms
  i : SliceAt w 7 itR ia il ic is
theorem SdAt.keep {w w' : World} {ma : Option Addr} {mn mc : Nat} {ia : Option Addr} {il ic : Nat} {ms : List Mt} {is : List It} (h : SdAt w ma mn mc ia il ic ms is) (hb : Below w.heap.size w w') : SdAt w' ma mn mc ia il ic ms is := ⟨h.m.keep hb, h.i.keep hb⟩
theorem mt_cells {w : World} {b off n c : Nat} {ms : List Mt} (h : SliceAt w 3 mtR (some ⟨b, off, none⟩) n c ms) (k : Nat) (hk : k < ms.length) :
    w.cell? ⟨b, off + k * 3, none⟩ = some (.string ms[k].path) ∧ w.cell? ⟨b, off + k * 3 + 1, none⟩ = some (.int .i64 ms[k].b) ∧ w.cell? ⟨b, off + k * 3 + 2, none⟩ = some (.int .i64 ms[k].n) := by
  obtain ⟨hl, -, -, h0 | ⟨b', off', he, hb, hel⟩⟩ := h
  · omega
  · injection he with he
    injection he with e1 e2
    subst e1 e2
    obtain ⟨cs, h1, h2, h3⟩ := hel k hk
    unfold mtR at h2
    subst h2
    exact ⟨h3 0 (by rw [mtC_len]; omega), h3 1 (by rw [mtC_len]; omega), h3 2 (by rw [mtC_len]; omega)⟩
theorem it_cells {w : World} {b off n c : Nat} {is : List It} (h : SliceAt w 7 itR (some ⟨b, off, none⟩) n c is) (k : Nat) (hk : k < is.length) :
    w.cell? ⟨b, off + k * 7, none⟩ = some (.string is[k].path) ∧ w.cell? ⟨b, off + k * 7 + 1, none⟩ = some (.int .i64 is[k].kind) ∧ w.cell? ⟨b, off + k * 7 + 2, none⟩ = some (.int .i64 is[k].mode) ∧
    w.cell? ⟨b, off + k * 7 + 3, none⟩ = some (.int .i64 is[k].uid) ∧ w.cell? ⟨b, off + k * 7 + 4, none⟩ = some (.int .i64 is[k].gid) ∧ w.cell? ⟨b, off + k * 7 + 5, none⟩ = some (.int .i64 is[k].mtime) ∧ w.cell? ⟨b, off + k * 7 + 6, none⟩ = some (.string is[k].data) := by
  obtain ⟨hl, -, -, h0 | ⟨b', off', he, hb, hel⟩⟩ := h
  · omega
  · injection he with he
    injection he with e1 e2
    subst e1 e2
    obtain ⟨cs, h1, h2, h3⟩ := hel k hk
    unfold itR at h2
    subst h2
    exact ⟨h3 0 (by rw [itC_len]; omega), h3 1 (by rw [itC_len]; omega), h3 2 (by rw [itC_len]; omega), h3 3 (by rw [itC_len]; omega), h3 4 (by rw [itC_len]; omega), h3 5 (by rw [itC_len]; omega), h3 6 (by rw [itC_len]; omega)⟩
theorem slice_some {α : Type} {w : World} {sz n c : Nat} {Rl : List Value → α → Prop} {a : Option Addr} {xs : List α} (h : SliceAt w sz Rl a n c xs) (hn : 0 < n) : ∃ b off, a = some ⟨b, off, none⟩ ∧ b < w.heap.size := by
  obtain ⟨-, -, -, h0 | ⟨b, off, he, hb, -⟩⟩ := h
  · omega
  · exact ⟨b, off, he, hb⟩
theorem limitsF_drop {ms : List Mt} {k : Nat} (hk : k < ms.length) : limitsF (ms.drop k) = if ms[k].path = topB ∧ limB ms[k].b ms[k].n = true then (ms[k].b, ms[k].n) else limitsF (ms.drop (k + 1)) := by
  rw [List.drop_eq_getElem_cons hk, limitsF]
set_option maxRecDepth 100000 in
set_option maxHeartbeats 2000000 in
theorem slimits_any (w : World) {ma : Option Addr} {mn mc : Nat} {ia : Option Addr} {il ic : Nat} {ms : List Mt} {is : List It} (h : SdAt w ma mn mc ia il ic ms is) :
    Calls Tryz.prog 57 #[.agg #[.slice ma mn mc, .slice ia il ic]] w fun e w' => e = .returned (.tuple #[.int .i64 (limitsF ms).1, .int .i64 (limitsF ms).2]) ∧ Below w.heap.size w w' := by
  have HS := Lib.hid h
  have hln := h.m.1
  have hmc := h.m.2.1
  have hmx := h.m.2.2.1
  clear h
  go_enter Tryz.func57, Tryz.ntmps57
  go_wp2_with fail
  go_loopw [9] (fun t9 wr => ∃ k : Nat, k ≤ ms.length ∧ t9 = .int .i64 k ∧ limitsF ms = limitsF (ms.drop k) ∧ Below w.heap.size w wr) (fun t9 _ => ms.length - (intOf t9).toNat)
  case atStart => exact ⟨0, Nat.zero_le _, rfl, rfl, balloc (Below.refl _ _) _⟩
  case round =>
    obtain ⟨k, hk, rfl, hE, hb⟩ := hrel
    have HE := Lib.hid hE
    have HB := Lib.hid hb
    clear hE
    by_cases hlt : k < ms.length
    · obtain ⟨b, off, rfl, hbl⟩ := slice_some HS.out.m (by omega)
      obtain ⟨c0, c1, c2⟩ := mt_cells (HS.out.m.below hb (Nat.le_refl _)) k hlt
      have HQ := Lib.hid (limitsF_drop hlt)
      generalize ms[k] = m at c0 c1 c2 HQ
      obtain ⟨mp, mb, mk⟩ := m
      have hX := Blk.new wr #[.string mp, .int .i64 mb, .int .i64 mk] 133
      have hbX := balloc hb (.cells #[.string mp, .int .i64 mb, .int .i64 mk] 133)
      clear hb
      go_upto_region 4 with fail
      generalize wr.alloc (.cells #[.string mp, .int .i64 mb, .int .i64 mk] 133) = X at hX hbX ⊢
      have HX := Lib.hid hX
      have HBX := Lib.hid hbX
      obtain ⟨xc, xf, xz⟩ := hX.facts
      clear hX hbX c0 c1 c2
      by_cases h1 : mp = topB
      · have h1' : mp.toList = [47] := by rw [h1, ba_list]; rfl
        have HP := Lib.hid h1
        clear h1
        by_cases h2 : mb < 1
        · skip
          have HN := Lib.hid (HE.out.trans (HQ.out.trans (if_neg (fun h => by have h9 : 1 ≤ mb := (lim_of h.2).1; omega))))
          go_wp2_with fail
          go_roundw
          case rel => exact ⟨k + 1, by omega, by go_num, HN.out, HBX.out⟩
          case measure => simp [intOf]; omega
        by_cases h3 : 1073741824 < mb
        · skip
          have HN := Lib.hid (HE.out.trans (HQ.out.trans (if_neg (fun h => by have h9 : mb ≤ 1073741824 := (lim_of h.2).2.1; omega))))
          go_wp2_with fail
          go_roundw
          case rel => exact ⟨k + 1, by omega, by go_num, HN.out, HBX.out⟩
          case measure => simp [intOf]; omega
        by_cases h4 : mk < 1
        · skip
          have HN := Lib.hid (HE.out.trans (HQ.out.trans (if_neg (fun h => by have h9 : 1 ≤ mk := (lim_of h.2).2.2.1; omega))))
          go_wp2_with fail
          go_roundw
          case rel => exact ⟨k + 1, by omega, by go_num, HN.out, HBX.out⟩
          case measure => simp [intOf]; omega
        by_cases h5 : 65536 < mk
        · skip
          have HN := Lib.hid (HE.out.trans (HQ.out.trans (if_neg (fun h => by have h9 : mk ≤ 65536 := (lim_of h.2).2.2.2; omega))))
          go_wp2_with fail
          go_roundw
          case rel => exact ⟨k + 1, by omega, by go_num, HN.out, HBX.out⟩
          case measure => simp [intOf]; omega
        have HN := Lib.hid (HE.out.trans (HQ.out.trans (if_pos ⟨HP.out, lim_mk mb mk (by omega) (by omega) (by omega) (by omega)⟩)))
        have mixed : Tryz.prog.follows .mixedOrders = true := by kernel_rfl
        go_wp2_with fail
        go_region
        all_goals
          go_wp2_with fail
          go_ret2
          rw [HN.out]
          exact ⟨rfl, HBX.out.drew⟩
      · have h1' : (mp.toList == [47]) = false := by
          rw [ba_list]
          simp only [beq_eq_false_iff_ne, ne_eq]
          exact fun e => h1 (ba_eq e)
        have HN := Lib.hid (HE.out.trans (HQ.out.trans (if_neg (fun h => h1 h.1))))
        go_wp2_with fail
        go_roundw
        case rel => exact ⟨k + 1, by omega, by go_num, HN.out, HBX.out⟩
        case measure => simp [intOf]; omega
    · obtain rfl : k = ms.length := by omega
      have HE2 := Lib.hid (show limitsF ms = (65536, 65536) by rw [HE.out, List.drop_length]; rfl)
      clear hb
      go_wp2_with fail
      go_ret2
      rw [HE2.out]
      exact ⟨rfl, HB.out⟩
end Go.Proofs.YtkkiglagdojnlaaGreatDoor

/- Trees that are to be (layer 22): a mount comes. -/
namespace Go.Proofs.YtkkiglagdojnlaaGreatDoor

open Go.RowKit

section

variable {w w' : World} {pf pw : Nat} {R : Rp} {pv : Value} {Y : Sy}

/-- a block of another kind turns. -/
theorem SyAt.other (h : SyAt w pf pw R pv Y) {B : Nat} {vs : Array Value} {T : TypeId} (hb : Blk w B vs T) (hT : wdKind (.cells #[] T (0, 0)) = false) (h1 : T ≠ 105) (h2 : T ≠ 97) (h3 : T ≠ 168) (hm : Mod (fun k => k = B) w w') : SyAt w' pf pw R pv Y := by
  unfold Blk at hb
  refine ⟨h.blk.mod hm (fun e => ?_), h.wd.mod hm (fun k o hk ho => ?_), own_mod h.plan hm (fun k hk he => ?_)⟩
  · subst e
    have hq := h.blk
    unfold Blk at hq
    rw [hb] at hq
    injection hq with hq
    injection hq with hq e
    exact h1 e
  · subst hk
    rw [hb] at ho
    injection ho with ho
    subst ho
    exact ⟨hT, fun cur e => by injection e with e1 e2; exact h2 e2⟩
  · subst hk
    obtain ⟨-, cur, hc⟩ := own_obj1 h.plan he
    rw [hb] at hc
    injection hc with hc
    injection hc with hc e
    exact h3 e
theorem Stp.newCell {F F' : Nat → Prop} (h : Stp F F' w w') {B : Nat} (hB : w.heap.size ≤ B) (i : Nat) (v : Value) : Stp F F' w (w'.setCell ⟨B, i, none⟩ v) :=
  ⟨h.mod.setCell (a := ⟨B, i, none⟩) (.inr hB) v, h.new⟩
theorem mount_err {S : Fs} {m : Mt} (h : (S.path c00 m.path false).2 ≠ 0) : mountF S m = S := by unfold mountF; rw [if_pos h]
theorem mount_new {S : Fs} {m : Mt} (h : (S.path c00 m.path false).2 = 0) (h0 : (S.path c00 m.path false).1.no = 0) (he : (S.mkdir c00 0 (S.path c00 m.path false).1.dir (S.path c00 m.path false).1.name 493).2.2 = 0) :
    mountF S m = ((S.mkdir c00 0 (S.path c00 m.path false).1.dir (S.path c00 m.path false).1.name 493).1.mount (S.mkdir c00 0 (S.path c00 m.path false).1.dir (S.path c00 m.path false).1.name 493).2.1 m.b m.n).1 := by
  unfold mountF; rw [if_neg (by simp [h]), if_pos h0]; simp only; rw [if_neg (by simp [he])]
theorem mount_full {S : Fs} {m : Mt} (h : (S.path c00 m.path false).2 = 0) (h0 : (S.path c00 m.path false).1.no = 0) (he : (S.mkdir c00 0 (S.path c00 m.path false).1.dir (S.path c00 m.path false).1.name 493).2.2 ≠ 0) :
    mountF S m = (S.mkdir c00 0 (S.path c00 m.path false).1.dir (S.path c00 m.path false).1.name 493).1 := by
  unfold mountF; rw [if_neg (by simp [h]), if_pos h0]; simp only; rw [if_pos he]
theorem mount_old {S : Fs} {m : Mt} (h : (S.path c00 m.path false).2 = 0) (h0 : (S.path c00 m.path false).1.no ≠ 0) : mountF S m = (S.mount (S.path c00 m.path false).1.no m.b m.n).1 := by
  unfold mountF; rw [if_neg (by simp [h]), if_neg h0]
set_option maxRecDepth 100000 in
set_option maxHeartbeats 2000000 in
theorem smount_any (h : SyAt w pf pw R pv Y) {N : Nat} (hk : FsOk Y.fs N) (hN : N ≤ 999990) (hc : Calm Y) (hcc : Y.count ≤ 4000000) (m : Mt) (hp : m.path.size ≤ 100000) :
    Calls Tryz.prog 58 #[.pointer (some ⟨pf, 0, none⟩), .agg #[.string m.path, .int .i64 m.b, .int .i64 m.n]] w fun e w' => e = .returned (.tuple #[]) ∧ Became w w' pf pw R pv Y (mountF Y.fs m) 1 := by
  have HY := Lib.hid h
  have HK := Lib.hid hk
  have HC := Lib.hid hc
  have HF := Lib.hid (fun w1 (hb1 : Below w.heap.size w w1) => sfind_any (h.keep hb1) hk (by omega) hc.dead c00 m.path hp false)
  have HSz := Lib.hid (path_size hk c00 m.path (by omega) false)
  have mixed : Tryz.prog.follows .mixedOrders = true := by kernel_rfl
  have HE1 := Lib.hid (mount_err (S := Y.fs) (m := m))
  have HE2 := Lib.hid (mount_new (S := Y.fs) (m := m))
  have HE3 := Lib.hid (mount_full (S := Y.fs) (m := m))
  have HE4 := Lib.hid (mount_old (S := Y.fs) (m := m))
  generalize mountF Y.fs m = Z at HE1 HE2 HE3 HE4 ⊢
  generalize Y.fs.path c00 m.path false = x at HF HSz HE1 HE2 HE3 HE4
  obtain ⟨⟨xd, xn, xk, xs⟩, xe⟩ := x
  unfold Fd.v at HF
  have hM0 := Blk.new w #[.string m.path, .int .i64 m.b, .int .i64 m.n] 133
  have hb0 := balloc (Below.refl w.heap.size w) (.cells #[.string m.path, .int .i64 m.b, .int .i64 m.n] 133)
  clear h hk hc
  go_enter Tryz.func58, Tryz.ntmps58
  go_wp2_with fail
  refine (HF.out _ hb0).mono ?_
  rintro e w1 ⟨rfl, hb1⟩
  have hMX := (hM0.keep hb1).old (.cells #[.int .i64 xd, .string xn, .int .i64 xk, .bool xs] 198)
  have hXX := Blk.new w1 #[.int .i64 xd, .string xn, .int .i64 xk, .bool xs] 198
  have hbX := balloc (bnext hb0 hb1) (.cells #[.int .i64 xd, .string xn, .int .i64 xk, .bool xs] 198)
  have hlw : w.heap.size < w1.heap.size := by have := hb1.size; simp at this; omega
  clear hM0 hb0 hb1
  go_upto_region 2 with fail
  generalize w1.alloc (.cells #[.int .i64 xd, .string xn, .int .i64 xk, .bool xs] 198) = X at hMX hXX hbX ⊢
  have HMX := Lib.hid hMX
  have HXX := Lib.hid hXX
  have HBX := Lib.hid hbX
  obtain ⟨xc, xf, xz⟩ := hXX.facts
  obtain ⟨mc, mf, mz⟩ := hMX.facts
  have hYX := HY.out.keep hbX
  have HYX := Lib.hid hYX
  obtain ⟨pc, -, pz⟩ := hYX.blk.facts
  clear hMX hXX hbX hYX
  by_cases he : xe = 0
  · have heb : (xe == 0) = true := by simpa using he
    subst he
    by_cases hno : xk = 0
    · have hnb : (xk == 0) = true := by simpa using hno
      have HM := Lib.hid (smkdir_any HYX.out HK.out (by omega) ⟨HC.out.c0, by omega⟩ (by rw [HC.out.plan]; exact Nat.zero_le _) c00 xd xn 493 (by have h9 : xn.size ≤ 1048576 := HSz.out; omega))
      rw [HC.out.op] at HM
      have HE2a := Lib.hid (HE2.out rfl hno)
      have HE3a := Lib.hid (HE3.out rfl hno)
      dsimp only at HE2a HE3a HM
      have HOk := Lib.hid (mkdir_ok HK.out c00 0 xd xn 493)
      clear HE1 HE2 HE3 HE4 hno
      generalize Y.fs.mkdir c00 0 xd xn 493 = q at HM HE2a HE3a HOk
      obtain ⟨S1, n1, e1⟩ := q
      dsimp only at HM HE2a HE3a HOk
      go_wp2_with fail
      refine HM.out.mono ?_
      rintro e w3 ⟨rfl, R3, hY3, hS3⟩
      have hM3 := HMX.out.sy HYX.out hS3 rfl (by decide)
      have hX3 := HXX.out.sy HYX.out hS3 rfl (by decide)
      have HX3 := Lib.hid hX3
      have HM3 := Lib.hid hM3
      have HY3 := Lib.hid hY3
      have HS3 := Lib.hid ((Stp.of_below HBX.out).trans hS3)
      clear xc xf xz mc mf mz pc pz
      obtain ⟨xc, xf, xz⟩ := hX3.facts
      clear hM3 hX3 hY3 hS3
      go_upto_region 4 with fail
      have hY4 := HY3.out.other (HX3.out) rfl (by decide) (by decide) (by decide) ((Mod.refl (fun k => k = w1.heap.size) w3).setCell (a := ⟨w1.heap.size, 2, none⟩) (.inl rfl) (.int .i64 n1))
      have hX4 := HX3.out.set 2 (.int .i64 n1)
      have hne : w1.heap.size ≠ w.heap.size := by have := HX3.out.lt; have := HMX.out.lt; have := hlw; omega
      have hM4 := HM3.out.setOther ⟨w1.heap.size, 2, none⟩ (.int .i64 n1) hne
      have hS4 : Stp (R.Y pf pw) (R3.Y pf pw) w (w3.setCell ⟨w1.heap.size, 2, none⟩ (.int .i64 n1)) := HS3.out.newCell (show w.heap.size ≤ w1.heap.size by have := hlw; omega) _ _
      generalize w3.setCell ⟨w1.heap.size, 2, none⟩ (.int .i64 n1) = W4 at hY4 hX4 hM4 hS4 ⊢
      have HY4 := Lib.hid hY4
      have HS4 := Lib.hid hS4
      clear xc xf xz
      obtain ⟨xc, xf, xz⟩ := hX4.facts
      obtain ⟨mc, mf, mz⟩ := hM4.facts
      obtain ⟨pc, -, pz⟩ := hY4.blk.facts
      clear hY4 hX4 hM4 hS4
      by_cases he1 : e1 = 0
      · have he1b : (e1 == 0) = true := by simpa using he1
        have HE := Lib.hid (HE2a.out he1)
        have HMt := Lib.hid (wmount_any (HY4.out.wd.keep (Below.refl _ W4).drew) HOk.out (by omega) n1 m.b m.n)
        subst he1
        go_wp2_with fail
        refine wp_region_lex 10 mixed (by kernel_rfl) (show PanicOk _ from by repeat (first | exact pk_body | refine pk_then ?_ | refine pk_block ?_ | refine pk_scope ?_)) ?_
        simp only [List.take_succ_cons, List.take_zero, List.drop_succ_cons, List.drop_zero]
        repeat still_step
        refine wpStill_nil ?_
        go_wp2_with fail
        refine HMt.out.mono ?_
        rintro e w5 ⟨rfl, R5, hR5, hS5⟩
        have HX := Lib.hid (And.intro ((HY4.out.keep (Below.refl _ W4).drew).step hR5 hS5) ((HS4.out.trans (stpY (Stp.of_below (F := R3.F pw) (Below.refl _ W4).drew))).trans (stpY hS5)))
        clear hR5 hS5
        go_wp2_with fail
        go_end0
        rw [HE.out]
        exact ⟨rfl, R5, _, HX.out.1, rfl, (HC.out.next S1).fs _, by show Y.count + 1 ≤ _; omega, HX.out.2⟩
      · have he1b : (e1 == 0) = false := by simpa using he1
        have HE := Lib.hid (HE3a.out he1)
        clear he1
        go_wp2_with fail
        go_end0
        rw [HE.out]
        exact ⟨rfl, R3, _, HY4.out, rfl, HC.out.next S1, by show Y.count + 1 ≤ _; omega, HS4.out⟩
    · have hnb : (xk == 0) = false := by simpa using hno
      have HE := Lib.hid (HE4.out rfl hno)
      have HMt := Lib.hid (wmount_any (HYX.out.wd.keep (Below.refl _ X).drew) HK.out (by omega) xk m.b m.n)
      clear HE1 HE2 HE3 HE4 hno
      go_wp2_with fail
      refine wp_region_lex 10 mixed (by kernel_rfl) (show PanicOk _ from by repeat (first | exact pk_body | refine pk_then ?_ | refine pk_block ?_ | refine pk_scope ?_)) ?_
      simp only [List.take_succ_cons, List.take_zero, List.drop_succ_cons, List.drop_zero]
      repeat still_step
      refine wpStill_nil ?_
      go_wp2_with fail
      refine HMt.out.mono ?_
      rintro e w5 ⟨rfl, R5, hR5, hS5⟩
      have HX := Lib.hid (And.intro ((HYX.out.keep (Below.refl _ X).drew).step hR5 hS5) (((Stp.of_below (F := R.Y pf pw) HBX.out).trans (Stp.of_below (F := R.Y pf pw) (Below.refl _ X).drew)).trans (stpY hS5)))
      clear hR5 hS5
      go_wp2_with fail
      go_end0
      rw [HE.out]
      exact ⟨rfl, R5, _, HX.out.1, rfl, HC.out.fs _, by show Y.count ≤ _; omega, HX.out.2⟩
  · have heb : (xe == 0) = false := by simpa using he
    have HE := Lib.hid (HE1.out he)
    clear he
    go_wp2_with fail
    go_end0
    rw [HE.out]
    exact ⟨rfl, (Became.same HY.out HC.out HBX.out).mono (by omega)⟩
end

end Go.Proofs.YtkkiglagdojnlaaGreatDoor

/- Trees that are to be (layer 22): an item comes. Printed by gen_node.py. -/
namespace Go.Proofs.YtkkiglagdojnlaaGreatDoor

open Go.RowKit

section

variable {S : Fs} {it : It} {x : Fd} {e : Int}

theorem node_err (hx : S.path c00 it.path false = (x, e)) (h : e ≠ 0) : nodeF S it = (S, 0) := by unfold nodeF; rw [hx]; simp only; rw [if_pos h]
theorem node_old (hx : S.path c00 it.path false = (x, e)) (h : e = 0) (h0 : x.no ≠ 0) (h1 : it.kind = 1) (h2 : S.kindOf x.no = 1) : nodeF S it = (S, x.no) := by unfold nodeF; rw [hx]; simp only; rw [if_neg (by simp [h]), if_pos h0, if_pos ⟨h1, h2⟩]
theorem node_had (hx : S.path c00 it.path false = (x, e)) (h : e = 0) (h0 : x.no ≠ 0) (h1 : ¬ (it.kind = 1 ∧ S.kindOf x.no = 1)) : nodeF S it = (S, 0) := by unfold nodeF; rw [hx]; simp only; rw [if_neg (by simp [h]), if_pos h0, if_neg h1]
theorem node_new (hx : S.path c00 it.path false = (x, e)) (h : e = 0) (h0 : x.no = 0) : nodeF S it =
    (if it.kind = 1 then ((S.mkdir c00 0 x.dir x.name 493).1, (S.mkdir c00 0 x.dir x.name 493).2.1)
  else if it.kind = 2 then ((S.file c00 0 x.dir x.name 420 it.data).1, (S.file c00 0 x.dir x.name 420 it.data).2.1)
  else if it.kind = 3 then ((S.sym c00 0 x.dir x.name it.data).1, (S.sym c00 0 x.dir x.name it.data).2.1)
  else if it.kind = 4 then
    (if (S.path c00 it.data false).2 = 0 then ((S.hard c00 0 (S.path c00 it.data false).1.no x.dir x.name).1, 0) else (S, 0))
  else (S, 0)) := by unfold nodeF; rw [hx]; simp only; rw [if_neg (by simp [h]), if_neg (by simp [h0])]
theorem stV_cells (S : Fs) (k : Int) : ∃ y0 y1 y2 y3 y4 y5 y6 y7 y8 y9 : Int, stV (S.get k) = .agg #[.int .i64 y0, .int .i64 y1, .int .i64 y2, .int .i64 y3, .int .i64 y4, .int .i64 y5, .int .i64 y6, .int .i64 y7, .int .i64 y8, .int .i64 y9] ∧ y2 = S.kindOf k := by
  unfold Fs.kindOf
  cases S.get k with
  | none => exact ⟨_, _, _, _, _, _, _, _, _, _, rfl, rfl⟩
  | some a => exact ⟨_, _, _, _, _, _, _, _, _, _, rfl, rfl⟩
end

section

variable {w w' : World} {pf pw : Nat} {R : Rp} {pv : Value} {Y : Sy}

set_option maxRecDepth 100000 in
set_option maxHeartbeats 8000000 in
theorem snode_any (h : SyAt w pf pw R pv Y) {N : Nat} (hk : FsOk Y.fs N) (hN : N ≤ 999990) (hc : Calm Y) (hcc : Y.count ≤ 4000000) (it : It) (hp : it.path.size ≤ 100000) (hd : it.data.size ≤ 100000) :
    Calls Tryz.prog 59 #[.pointer (some ⟨pf, 0, none⟩), .agg #[.string it.path, .int .i64 it.kind, .int .i64 it.mode, .int .i64 it.uid, .int .i64 it.gid, .int .i64 it.mtime, .string it.data]] w fun e w' => e = .returned (.int .i64 (nodeF Y.fs it).2) ∧ Became w w' pf pw R pv Y (nodeF Y.fs it).1 1 := by
  have HY := Lib.hid h
  have HK := Lib.hid hk
  have HC := Lib.hid hc
  have HF := Lib.hid (fun w1 (hb1 : Below w.heap.size w w1) => sfind_any (h.keep hb1) hk (by omega) hc.dead c00 it.path hp false)
  have HSz := Lib.hid (path_size hk c00 it.path (by omega) false)
  generalize hx : Y.fs.path c00 it.path false = x at HF HSz
  obtain ⟨⟨xd, xn, xk, xs⟩, xe⟩ := x
  have HPx := Lib.hid hx
  unfold Fd.v at HF
  obtain ⟨y0, y1, y2, y3, y4, y5, y6, y7, y8, y9, hst, hy2⟩ := stV_cells Y.fs xk
  have HSt := Lib.hid (fun w1 (hb1 : Below w.heap.size w w1) => sstat_any (h.keep hb1) hk hc.dead xk)
  rw [hst] at HSt
  have HKo := Lib.hid hy2
  have hI0 := Blk.new w #[.string it.path, .int .i64 it.kind, .int .i64 it.mode, .int .i64 it.uid, .int .i64 it.gid, .int .i64 it.mtime, .string it.data] 78
  have hb0 := balloc (Below.refl w.heap.size w) (.cells #[.string it.path, .int .i64 it.kind, .int .i64 it.mode, .int .i64 it.uid, .int .i64 it.gid, .int .i64 it.mtime, .string it.data] 78)
  clear h hk hc hx hst hy2
  go_enter Tryz.func59, Tryz.ntmps59
  go_wp2_with fail
  refine (HF.out _ hb0).mono ?_
  rintro e w1 ⟨rfl, hb1⟩
  have hIX := (hI0.keep hb1).old (.cells #[.int .i64 xd, .string xn, .int .i64 xk, .bool xs] 198)
  have hXX := Blk.new w1 #[.int .i64 xd, .string xn, .int .i64 xk, .bool xs] 198
  have hbX := balloc (bnext hb0 hb1) (.cells #[.int .i64 xd, .string xn, .int .i64 xk, .bool xs] 198)
  clear hI0 hb0 hb1
  go_upto_region 2 with fail
  generalize w1.alloc (.cells #[.int .i64 xd, .string xn, .int .i64 xk, .bool xs] 198) = X at hIX hXX hbX ⊢
  have HIX := Lib.hid hIX
  have HXX := Lib.hid hXX
  have HBX := Lib.hid hbX
  obtain ⟨xc, xf, xz⟩ := hXX.facts
  clear hIX hXX hbX
  go_wp2_with fail
  refine (HSt.out _ HBX.out).mono ?_
  rintro e w2 ⟨rfl, hb2⟩
  have hI2 := (HIX.out.keep hb2).old (.cells #[.int .i64 y0, .int .i64 y1, .int .i64 y2, .int .i64 y3, .int .i64 y4, .int .i64 y5, .int .i64 y6, .int .i64 y7, .int .i64 y8, .int .i64 y9] 120)
  have hX2 := (HXX.out.keep hb2).old (.cells #[.int .i64 y0, .int .i64 y1, .int .i64 y2, .int .i64 y3, .int .i64 y4, .int .i64 y5, .int .i64 y6, .int .i64 y7, .int .i64 y8, .int .i64 y9] 120)
  have hS2 := Blk.new w2 #[.int .i64 y0, .int .i64 y1, .int .i64 y2, .int .i64 y3, .int .i64 y4, .int .i64 y5, .int .i64 y6, .int .i64 y7, .int .i64 y8, .int .i64 y9] 120
  have hbZ := balloc (bnext HBX.out hb2) (.cells #[.int .i64 y0, .int .i64 y1, .int .i64 y2, .int .i64 y3, .int .i64 y4, .int .i64 y5, .int .i64 y6, .int .i64 y7, .int .i64 y8, .int .i64 y9] 120)
  clear hb2 xc xf xz
  go_upto_region 3 with fail
  generalize w2.alloc (.cells #[.int .i64 y0, .int .i64 y1, .int .i64 y2, .int .i64 y3, .int .i64 y4, .int .i64 y5, .int .i64 y6, .int .i64 y7, .int .i64 y8, .int .i64 y9] 120) = Z at hI2 hX2 hS2 hbZ ⊢
  have HI2 := Lib.hid hI2
  have HX2 := Lib.hid hX2
  have HBZ := Lib.hid hbZ
  have HYZ := Lib.hid (HY.out.keep hbZ)
  obtain ⟨ic, if', iz⟩ := hI2.facts
  obtain ⟨xc, xf, xz⟩ := hX2.facts
  obtain ⟨sc, sf, sz⟩ := hS2.facts
  clear hI2 hX2 hS2 hbZ
  by_cases he : xe = 0
  · have heb : (xe != 0) = false := by simpa using he
    subst he
    by_cases hno : xk = 0
    · have hnb : (xk != 0) = false := by simpa using hno
      have HN := Lib.hid (node_new HPx.out rfl hno)
      dsimp only at HN
      clear hno
      by_cases k1 : it.kind = 1
      · have k1b : (it.kind == 1) = true := by simpa using k1
        have HQ := Lib.hid k1
        clear k1
        have HE := Lib.hid (HN.out.trans (if_pos HQ.out))
        have HM := Lib.hid (smkdir_any HYZ.out HK.out (by omega) ⟨HC.out.c0, by omega⟩ (by rw [HC.out.plan]; exact Nat.zero_le _) c00 xd xn 493 (by have h9 : xn.size ≤ 1048576 := HSz.out; omega))
        rw [HC.out.op] at HM
        dsimp only at HM
        go_wp2_with fail
        refine HM.out.mono ?_
        rintro e w5 ⟨rfl, R5, hY5, hS5⟩
        have HX := Lib.hid (And.intro hY5 ((Stp.of_below (F := R.Y pf pw) HBZ.out).trans hS5))
        clear hY5 hS5
        go_wp2_with fail
        go_ret
        rw [HE.out]
        exact ⟨rfl, R5, _, HX.out.1, rfl, HC.out.next _, by show Y.count + 1 ≤ _; omega, HX.out.2⟩
      have k1b : (it.kind == 1) = false := by simpa using k1
      have HN1 := Lib.hid (HN.out.trans (if_neg k1))
      clear k1 HN
      by_cases k2 : it.kind = 2
      · have k2b : (it.kind == 2) = true := by simpa using k2
        have HQ := Lib.hid k2
        clear k2
        have HE := Lib.hid (HN1.out.trans (if_pos HQ.out))
        have HM := Lib.hid (screate_any HYZ.out HK.out (by omega) ⟨HC.out.c0, by omega⟩ (by rw [HC.out.plan]; exact Nat.zero_le _) c00 xd xn 420 it.data (by have h9 : xn.size ≤ 1048576 := HSz.out; omega) (by omega))
        rw [HC.out.op] at HM
        dsimp only at HM
        go_wp2_with fail
        refine HM.out.mono ?_
        rintro e w5 ⟨rfl, R5, hY5, hS5⟩
        have HX := Lib.hid (And.intro hY5 ((Stp.of_below (F := R.Y pf pw) HBZ.out).trans hS5))
        clear hY5 hS5
        go_wp2_with fail
        go_ret
        rw [HE.out]
        exact ⟨rfl, R5, _, HX.out.1, rfl, HC.out.next _, by show Y.count + 1 ≤ _; omega, HX.out.2⟩
      have k2b : (it.kind == 2) = false := by simpa using k2
      have HN2 := Lib.hid (HN1.out.trans (if_neg k2))
      clear k2 HN1
      by_cases k3 : it.kind = 3
      · have k3b : (it.kind == 3) = true := by simpa using k3
        have HQ := Lib.hid k3
        clear k3
        have HE := Lib.hid (HN2.out.trans (if_pos HQ.out))
        have HM := Lib.hid (ssym_any HYZ.out HK.out (by omega) ⟨HC.out.c0, by omega⟩ (by rw [HC.out.plan]; exact Nat.zero_le _) c00 xd xn it.data (by have h9 : xn.size ≤ 1048576 := HSz.out; omega) (by omega))
        rw [HC.out.op] at HM
        dsimp only at HM
        go_wp2_with fail
        refine HM.out.mono ?_
        rintro e w5 ⟨rfl, R5, hY5, hS5⟩
        have HX := Lib.hid (And.intro hY5 ((Stp.of_below (F := R.Y pf pw) HBZ.out).trans hS5))
        clear hY5 hS5
        go_wp2_with fail
        go_ret
        rw [HE.out]
        exact ⟨rfl, R5, _, HX.out.1, rfl, HC.out.next _, by show Y.count + 1 ≤ _; omega, HX.out.2⟩
      have k3b : (it.kind == 3) = false := by simpa using k3
      have HN3 := Lib.hid (HN2.out.trans (if_neg k3))
      clear k3 HN2
      by_cases k4 : it.kind = 4
      · have k4b : (it.kind == 4) = true := by simpa using k4
        have HN4 := Lib.hid (HN3.out.trans (if_pos k4))
        have HF2 := Lib.hid (sfind_any HYZ.out HK.out (by omega) HC.out.dead c00 it.data hd false)
        generalize Y.fs.path c00 it.data false = y at HF2 HN4
        obtain ⟨⟨yd, yn, yk, ys⟩, ye⟩ := y
        unfold Fd.v at HF2
        dsimp only at HN4
        clear k4 HN3
        go_wp2_with fail
        refine HF2.out.mono ?_
        rintro e w3 ⟨rfl, hb3⟩
        have hX3 := (HX2.out.keep hb3).old (.cells #[.int .i64 yd, .string yn, .int .i64 yk, .bool ys] 198)
        have hV3 := Blk.new w3 #[.int .i64 yd, .string yn, .int .i64 yk, .bool ys] 198
        have hbV := balloc (bnext HBZ.out hb3) (.cells #[.int .i64 yd, .string yn, .int .i64 yk, .bool ys] 198)
        clear hb3 ic if' iz xc xf xz sc sf sz
        go_upto_region 19 with fail
        generalize w3.alloc (.cells #[.int .i64 yd, .string yn, .int .i64 yk, .bool ys] 198) = V at hX3 hV3 hbV ⊢
        have HBV := Lib.hid hbV
        have HYV := Lib.hid (HY.out.keep hbV)
        obtain ⟨xc, xf, xz⟩ := hX3.facts
        obtain ⟨vc, vf, vz⟩ := hV3.facts
        clear hX3 hV3 hbV
        by_cases hye : ye = 0
        · have hyb : (ye == 0) = true := by simpa using hye
          have HE := Lib.hid (HN4.out.trans (if_pos hye))
          have HM := Lib.hid (slink_any HYV.out HK.out (by omega) ⟨HC.out.c0, by omega⟩ (by rw [HC.out.plan]; exact Nat.zero_le _) c00 yk xd xn (by have h9 : xn.size ≤ 1048576 := HSz.out; omega))
          rw [HC.out.opE] at HM
          dsimp only at HM
          clear hye
          go_wp2_with fail
          refine HM.out.mono ?_
          rintro e w5 ⟨rfl, R5, hY5, hS5⟩
          have HX := Lib.hid (And.intro hY5 ((Stp.of_below (F := R.Y pf pw) HBV.out).trans hS5))
          clear hY5 hS5
          go_wp2_with fail
          go_ret
          rw [HE.out]
          exact ⟨rfl, R5, _, HX.out.1, rfl, HC.out.next _, by show Y.count + 1 ≤ _; omega, HX.out.2⟩
        · have hyb : (ye == 0) = false := by simpa using hye
          have HE := Lib.hid (HN4.out.trans (if_neg hye))
          clear hye
          go_wp2_with fail
          go_ret
          rw [HE.out]
          exact ⟨rfl, (Became.same HY.out HC.out HBV.out).mono (by omega)⟩
      have k4b : (it.kind == 4) = false := by simpa using k4
      have HN4 := Lib.hid (HN3.out.trans (if_neg k4))
      clear k4 HN3
      have HE := Lib.hid (HN4.out)
      go_wp2_with fail
      go_ret
      rw [HE.out]
      exact ⟨rfl, (Became.same HY.out HC.out HBZ.out).mono (by omega)⟩
    · have hnb : (xk != 0) = true := by simpa using hno
      by_cases k1 : it.kind = 1
      · have k1b : (it.kind == 1) = true := by simpa using k1
        by_cases k2 : y2 = 1
        · have k2b : (y2 == 1) = true := by simpa using k2
          have HQ := Lib.hid (node_old HPx.out rfl hno k1 (by rw [← HKo.out]; exact k2))
          clear hno k1 k2
          have HE := Lib.hid (HQ.out)
          go_wp2_with fail
          go_ret
          rw [HE.out]
          exact ⟨rfl, (Became.same HY.out HC.out HBZ.out).mono (by omega)⟩
        · have k2b : (y2 == 1) = false := by simpa using k2
          have HQ := Lib.hid (node_had HPx.out rfl hno (fun h => k2 (by rw [HKo.out]; exact h.2)))
          clear hno k1 k2
          have HE := Lib.hid (HQ.out)
          go_wp2_with fail
          go_ret
          rw [HE.out]
          exact ⟨rfl, (Became.same HY.out HC.out HBZ.out).mono (by omega)⟩
      · have k1b : (it.kind == 1) = false := by simpa using k1
        have HQ := Lib.hid (node_had HPx.out rfl hno (fun h => k1 h.1))
        clear hno k1
        have HE := Lib.hid (HQ.out)
        go_wp2_with fail
        go_ret
        rw [HE.out]
        exact ⟨rfl, (Became.same HY.out HC.out HBZ.out).mono (by omega)⟩
  · have heb : (xe != 0) = true := by simpa using he
    have HQ := Lib.hid (node_err HPx.out he)
    clear he
    have HE := Lib.hid (HQ.out)
    go_wp2_with fail
    go_ret
    rw [HE.out]
    exact ⟨rfl, (Became.same HY.out HC.out HBZ.out).mono (by omega)⟩
end

end Go.Proofs.YtkkiglagdojnlaaGreatDoor
