/- Texts of the proof, part 33. -/
import Derived.Test.YtaojpbgaengdpaaGreatSP8
import Derived.Test.YtaojpbgaengdpaaGreatSP32
set_option linter.unusedVariables false
set_option linter.unusedSimpArgs false
/- Trees that are to be (layer 22), plainly: what Plant plants; nodes never get fewer. No walk. -/
namespace Go.Proofs.YtaojpbgaengdpaaGreat

open Go.RowKit

structure Mt where
  path : ByteArray
  b : Int
  n : Int
structure It where
  path : ByteArray
  kind : Int
  mode : Int
  uid : Int
  gid : Int
  mtime : Int
  data : ByteArray
def topB : ByteArray := ⟨#[47]⟩
def c00 : Cr := ⟨0, 0⟩
def limitsF : List Mt → Int × Int
  | [] => (65536, 65536)
  | m :: l => if m.path = topB ∧ limB m.b m.n = true then (m.b, m.n) else limitsF l
theorem limits_ok : ∀ l : List Mt, limB (limitsF l).1 (limitsF l).2 = true
  | [] => by decide
  | m :: l => by
    unfold limitsF
    split
    · rename_i h; exact h.2
    · exact limits_ok l
def Fs.kindOf (S : Fs) (k : Int) : Int := match S.get k with | none => 0 | some a => a.kind
def mountF (S : Fs) (m : Mt) : Fs :=
  if (S.path c00 m.path false).2 ≠ 0 then S
  else if (S.path c00 m.path false).1.no = 0 then
    let q := S.mkdir c00 0 (S.path c00 m.path false).1.dir (S.path c00 m.path false).1.name 493
    if q.2.2 ≠ 0 then q.1 else (q.1.mount q.2.1 m.b m.n).1
  else (S.mount (S.path c00 m.path false).1.no m.b m.n).1
def nodeF (S : Fs) (it : It) : Fs × Int :=
  let x := S.path c00 it.path false
  if x.2 ≠ 0 then (S, 0)
  else if x.1.no ≠ 0 then (if it.kind = 1 ∧ S.kindOf x.1.no = 1 then (S, x.1.no) else (S, 0))
  else if it.kind = 1 then ((S.mkdir c00 0 x.1.dir x.1.name 493).1, (S.mkdir c00 0 x.1.dir x.1.name 493).2.1)
  else if it.kind = 2 then ((S.file c00 0 x.1.dir x.1.name 420 it.data).1, (S.file c00 0 x.1.dir x.1.name 420 it.data).2.1)
  else if it.kind = 3 then ((S.sym c00 0 x.1.dir x.1.name it.data).1, (S.sym c00 0 x.1.dir x.1.name it.data).2.1)
  else if it.kind = 4 then
    (if (S.path c00 it.data false).2 = 0 then ((S.hard c00 0 (S.path c00 it.data false).1.no x.1.dir x.1.name).1, 0) else (S, 0))
  else (S, 0)
def itemF (S : Fs) (it : It) : Fs × Int :=
  let q := nodeF S it
  if q.2 ≠ 0 then (((q.1.chown c00 0 q.2 it.uid it.gid).1.chmod c00 0 q.2 it.mode).1, q.2) else q
def itemsF (S : Fs) : List It → Fs × List Int
  | [] => (S, [])
  | it :: l => let q := itemF S it; let r := itemsF q.1 l; (r.1, q.2 :: r.2)
def timesF (S : Fs) : List (It × Int) → Fs
  | [] => S
  | x :: l => timesF (if x.2 ≠ 0 then (S.utime c00 0 x.2 x.1.mtime).1 else S) l
def mountsF (S : Fs) : List Mt → Fs
  | [] => S
  | m :: l => mountsF (if m.path = topB then S else mountF S m) l
def plantF (ms : List Mt) (is : List It) : Fs :=
  let S := mountsF (fs0.addRoot 0 (limitsF ms).1 (limitsF ms).2) ms
  let r := itemsF S is
  timesF r.1 (is.zip r.2)

theorem itemsF_app (S : Fs) (a b : List It) : itemsF S (a ++ b) = ((itemsF (itemsF S a).1 b).1, (itemsF S a).2 ++ (itemsF (itemsF S a).1 b).2) := by
  induction a generalizing S with
  | nil => rfl
  | cons x a ih => simp only [List.cons_append, itemsF, ih]
theorem itemsF_len (S : Fs) (a : List It) : (itemsF S a).2.length = a.length := by
  induction a generalizing S with
  | nil => rfl
  | cons x a ih => simp only [itemsF, List.length_cons, ih]
theorem timesF_app (S : Fs) (a b : List (It × Int)) : timesF S (a ++ b) = timesF (timesF S a) b := by
  induction a generalizing S with
  | nil => rfl
  | cons x a ih => exact ih _
theorem mountsF_app (S : Fs) (a b : List Mt) : mountsF S (a ++ b) = mountsF (mountsF S a) b := by
  induction a generalizing S with
  | nil => rfl
  | cons x a ih => exact ih _

theorem mountF_ok {S : Fs} {N : Nat} (h : FsOk S N) (m : Mt) : FsOk (mountF S m) (N + 2) := by
  unfold mountF
  split
  · exact h.mono (by omega)
  · split
    · have h1 := mkdir_ok h c00 0 (S.path c00 m.path false).1.dir (S.path c00 m.path false).1.name 493
      simp only
      split
      · exact h1.mono (by omega)
      · exact h1.mount _ _ _
    · exact (h.mount _ _ _).mono (by omega)
theorem mountsF_ok {S : Fs} {N : Nat} (h : FsOk S N) (l : List Mt) : FsOk (mountsF S l) (N + 2 * l.length) := by
  induction l generalizing S N with
  | nil => exact h
  | cons m l ih =>
    unfold mountsF
    have h1 : FsOk (if m.path = topB then S else mountF S m) (N + 2) := by
      split
      · exact h.mono (by omega)
      · exact mountF_ok h m
    exact (ih h1).mono (by simp; omega)
theorem nodeF_ok {S : Fs} {N : Nat} (h : FsOk S N) (it : It) : FsOk (nodeF S it).1 (N + 1) := by
  have h1 := h.mono (Nat.le_succ N)
  unfold nodeF
  simp only
  split
  · exact h1
  · split
    · split <;> exact h1
    · split
      · exact mkdir_ok h _ _ _ _ _
      · split
        · exact file_ok h _ _ _ _ _ _
        · split
          · exact sym_ok h _ _ _ _ _
          · split
            · split
              · exact hard_ok h _ _ _ _ _
              · exact h1
            · exact h1
theorem itemF_ok {S : Fs} {N : Nat} (h : FsOk S N) (it : It) : FsOk (itemF S it).1 (N + 1) := by
  have h1 := nodeF_ok h it
  unfold itemF
  simp only
  split
  · exact chmod_ok (chown_ok h1 _ _ _ _ _) _ _ _ _
  · exact h1
theorem itemsF_ok {S : Fs} {N : Nat} (h : FsOk S N) (l : List It) : FsOk (itemsF S l).1 (N + l.length) := by
  induction l generalizing S N with
  | nil => exact h
  | cons m l ih =>
    unfold itemsF
    exact (ih (itemF_ok h m)).mono (by simp; omega)
theorem timesF_ok {S : Fs} {N : Nat} (h : FsOk S N) (l : List (It × Int)) : FsOk (timesF S l) N := by
  induction l generalizing S with
  | nil => exact h
  | cons m l ih =>
    unfold timesF
    apply ih
    split
    · exact utime_ok h _ _ _ _
    · exact h

/-- nodes never get fewer. -/
theorem len_set (S : Fs) (a : An) : (S.set a).ns.length = S.ns.length := by simp [Fs.set]
theorem len_touch (S : Fs) (now d : Int) (l : List En) : (S.touch now d l).ns.length = S.ns.length := by
  unfold Fs.touch; split
  · rfl
  · exact len_set _ _
theorem len_make (S : Fs) (a : An) : S.ns.length ≤ (S.make a).1.ns.length := by
  unfold Fs.make
  split
  · exact Nat.le_refl _
  · split
    · exact Nat.le_refl _
    · simp only
      split
      · simp [Fs.add, Fs.setDev]
      · exact Nat.le_refl _
theorem len_come (S : Fs) (c : Cr) (now d : Int) (s : ByteArray) (a : An) : S.ns.length ≤ (S.come c now d s a).1.ns.length := by
  unfold Fs.come
  split
  · exact Nat.le_refl _
  · split
    · exact Nat.le_refl _
    · split
      · exact Nat.le_refl _
      · simp only
        split
        · exact Nat.le_refl _
        · rw [len_touch]; exact len_make _ _
theorem len_mkdir (S : Fs) (c : Cr) (now d : Int) (s : ByteArray) (m : Int) : S.ns.length ≤ (S.mkdir c now d s m).1.ns.length := by
  unfold Fs.mkdir; split
  · exact Nat.le_refl _
  · exact len_come _ _ _ _ _ _
theorem len_file (S : Fs) (c : Cr) (now d : Int) (s : ByteArray) (m : Int) (t : ByteArray) : S.ns.length ≤ (S.file c now d s m t).1.ns.length := by
  unfold Fs.file; split
  · exact Nat.le_refl _
  · split
    · exact Nat.le_refl _
    · exact len_come _ _ _ _ _ _
theorem len_sym (S : Fs) (c : Cr) (now d : Int) (s t : ByteArray) : S.ns.length ≤ (S.sym c now d s t).1.ns.length := by
  unfold Fs.sym; split
  · exact Nat.le_refl _
  · split
    · exact Nat.le_refl _
    · exact len_come _ _ _ _ _ _
theorem len_hard (S : Fs) (c : Cr) (now k d : Int) (s : ByteArray) : S.ns.length ≤ (S.hard c now k d s).1.ns.length := by
  unfold Fs.hard
  repeat' split
  all_goals first | exact Nat.le_refl _ | (rw [len_touch, len_set]; exact Nat.le_refl _)
theorem len_chmod (S : Fs) (c : Cr) (now k m : Int) : (S.chmod c now k m).1.ns.length = S.ns.length := by
  unfold Fs.chmod
  repeat' split
  all_goals first | rfl | exact len_set _ _
theorem len_chown (S : Fs) (c : Cr) (now k u g : Int) : (S.chown c now k u g).1.ns.length = S.ns.length := by
  unfold Fs.chown
  repeat' split
  all_goals first | rfl | exact len_set _ _
theorem len_utime (S : Fs) (c : Cr) (now k t : Int) : (S.utime c now k t).1.ns.length = S.ns.length := by
  unfold Fs.utime
  repeat' split
  all_goals first | rfl | exact len_set _ _
theorem len_node (S : Fs) (it : It) : S.ns.length ≤ (nodeF S it).1.ns.length := by
  unfold nodeF
  simp only
  repeat' split
  all_goals first | exact Nat.le_refl _ | exact len_mkdir _ _ _ _ _ _ | exact len_file _ _ _ _ _ _ _ | exact len_sym _ _ _ _ _ _ | exact len_hard _ _ _ _ _ _
theorem len_item (S : Fs) (it : It) : S.ns.length ≤ (itemF S it).1.ns.length := by
  unfold itemF
  simp only
  split
  · rw [len_chmod, len_chown]; exact len_node S it
  · exact len_node S it
theorem len_items (S : Fs) (l : List It) : S.ns.length ≤ (itemsF S l).1.ns.length := by
  induction l generalizing S with
  | nil => exact Nat.le_refl _
  | cons x l ih => exact Nat.le_trans (len_item S x) (ih _)
theorem len_times (S : Fs) (l : List (It × Int)) : (timesF S l).ns.length = S.ns.length := by
  induction l generalizing S with
  | nil => rfl
  | cons x l ih =>
    unfold timesF
    rw [ih]
    split
    · exact len_utime _ _ _ _ _
    · rfl
/-- SeedTwice, plainly. -/
theorem twice_len (is : List It) : (plantF [] is).ns.length ≤ (plantF [] (is ++ is)).ns.length ∧ 0 < (plantF [] is).ns.length := by
  unfold plantF
  simp only [len_times, itemsF_app, mountsF]
  refine ⟨len_items _ _, Nat.lt_of_lt_of_le ?_ (len_items _ _)⟩
  decide
theorem plant_ok (ms : List Mt) (is : List It) : FsOk (plantF ms is) (1 + 2 * ms.length + is.length) := by
  unfold plantF
  exact timesF_ok (itemsF_ok (mountsF_ok (FsOk.new _ _) _) _) _
end Go.Proofs.YtaojpbgaengdpaaGreat

/- Trees that are to be (layer 22): how a seed lies; Limits. -/
namespace Go.Proofs.YtaojpbgaengdpaaGreat

open Go.RowKit

def mtC (m : Mt) : List Value := [.string m.path, .int .i64 m.b, .int .i64 m.n]
theorem mtC_len (m : Mt) : (mtC m).length = 3 := rfl
def mtR (cs : List Value) (m : Mt) : Prop := cs = mtC m
def itC (x : It) : List Value := [.string x.path, .int .i64 x.kind, .int .i64 x.mode, .int .i64 x.uid, .int .i64 x.gid, .int .i64 x.mtime, .string x.data]
theorem itC_len (x : It) : (itC x).length = 7 := rfl
def itR (cs : List Value) (x : It) : Prop := cs = itC x
theorem SliceAt.keep {α : Type} {w w' : World} {sz n c : Nat} {Rl : List Value → α → Prop} {a : Option Addr} {xs : List α} (h : SliceAt w sz Rl a n c xs) (hb : Below w.heap.size w w') : SliceAt w' sz Rl a n c xs := h.below hb (Nat.le_refl _)
/-- a seed: where its mounts and items lie. -/
structure SdAt (w : World) (ma : Option Addr) (mn mc : Nat) (ia : Option Addr) (il ic : Nat) (ms : List Mt) (is : List It) : Prop where
  m : SliceAt w 3 mtR ma mn mc ms
  i : SliceAt w 7 itR ia il ic is
theorem SdAt.keep {w w' : World} {ma : Option Addr} {mn mc : Nat} {ia : Option Addr} {il ic : Nat} {ms : List Mt} {is : List It} (h : SdAt w ma mn mc ia il ic ms is) (hb : Below w.heap.size w w') : SdAt w' ma mn mc ia il ic ms is := ⟨h.m.keep hb, h.i.keep hb⟩
theorem mt_cells {w : World} {b off n c : Nat} {ms : List Mt} (h : SliceAt w 3 mtR (some ⟨b, off, none⟩) n c ms) (k : Nat) (hk : k < ms.length) :
    w.cell? ⟨b, off + k * 3, none⟩ = some (.string ms[k].path) ∧ w.cell? ⟨b, off + k * 3 + 1, none⟩ = some (.int .i64 ms[k].b) ∧ w.cell? ⟨b, off + k * 3 + 2, none⟩ = some (.int .i64 ms[k].n) := by
  obtain ⟨hl, -, -, h0 | ⟨b', off', he, hb, hel⟩⟩ := h
  · omega
  · injection he with he
    injection he with e1 e2
    subst e1 e2
    obtain ⟨cs, h1, h2, h3⟩ := hel k hk
    unfold mtR at h2
    subst h2
    exact ⟨h3 0 (by rw [mtC_len]; omega), h3 1 (by rw [mtC_len]; omega), h3 2 (by rw [mtC_len]; omega)⟩
theorem it_cells {w : World} {b off n c : Nat} {is : List It} (h : SliceAt w 7 itR (some ⟨b, off, none⟩) n c is) (k : Nat) (hk : k < is.length) :
    w.cell? ⟨b, off + k * 7, none⟩ = some (.string is[k].path) ∧ w.cell? ⟨b, off + k * 7 + 1, none⟩ = some (.int .i64 is[k].kind) ∧ w.cell? ⟨b, off + k * 7 + 2, none⟩ = some (.int .i64 is[k].mode) ∧
    w.cell? ⟨b, off + k * 7 + 3, none⟩ = some (.int .i64 is[k].uid) ∧ w.cell? ⟨b, off + k * 7 + 4, none⟩ = some (.int .i64 is[k].gid) ∧ w.cell? ⟨b, off + k * 7 + 5, none⟩ = some (.int .i64 is[k].mtime) ∧ w.cell? ⟨b, off + k * 7 + 6, none⟩ = some (.string is[k].data) := by
  obtain ⟨hl, -, -, h0 | ⟨b', off', he, hb, hel⟩⟩ := h
  · omega
  · injection he with he
    injection he with e1 e2
    subst e1 e2
    obtain ⟨cs, h1, h2, h3⟩ := hel k hk
    unfold itR at h2
    subst h2
    exact ⟨h3 0 (by rw [itC_len]; omega), h3 1 (by rw [itC_len]; omega), h3 2 (by rw [itC_len]; omega), h3 3 (by rw [itC_len]; omega), h3 4 (by rw [itC_len]; omega), h3 5 (by rw [itC_len]; omega), h3 6 (by rw [itC_len]; omega)⟩
theorem slice_some {α : Type} {w : World} {sz n c : Nat} {Rl : List Value → α → Prop} {a : Option Addr} {xs : List α} (h : SliceAt w sz Rl a n c xs) (hn : 0 < n) : ∃ b off, a = some ⟨b, off, none⟩ ∧ b < w.heap.size := by
  obtain ⟨-, -, -, h0 | ⟨b, off, he, hb, -⟩⟩ := h
  · omega
  · exact ⟨b, off, he, hb⟩
theorem limitsF_drop {ms : List Mt} {k : Nat} (hk : k < ms.length) : limitsF (ms.drop k) = if ms[k].path = topB ∧ limB ms[k].b ms[k].n = true then (ms[k].b, ms[k].n) else limitsF (ms.drop (k + 1)) := by
  rw [List.drop_eq_getElem_cons hk, limitsF]
set_option maxRecDepth 100000 in
set_option maxHeartbeats 2000000 in
theorem slimits_any (w : World) {ma : Option Addr} {mn mc : Nat} {ia : Option Addr} {il ic : Nat} {ms : List Mt} {is : List It} (h : SdAt w ma mn mc ia il ic ms is) :
    Calls Tryz.prog 9 #[.agg #[.slice ma mn mc, .slice ia il ic]] w fun e w' => e = .returned (.tuple #[.int .i64 (limitsF ms).1, .int .i64 (limitsF ms).2]) ∧ Below w.heap.size w w' := by
  have HS := Lib.hid h
  have hln := h.m.1
  have hmc := h.m.2.1
  have hmx := h.m.2.2.1
  clear h
  go_enter Tryz.func9, Tryz.ntmps9
  go_wp2_with fail
  go_loopw [9] (fun t9 wr => ∃ k : Nat, k ≤ ms.length ∧ t9 = .int .i64 k ∧ limitsF ms = limitsF (ms.drop k) ∧ Below w.heap.size w wr) (fun t9 _ => ms.length - (intOf t9).toNat)
  case atStart => exact ⟨0, Nat.zero_le _, rfl, rfl, balloc (Below.refl _ _) _⟩
  case round =>
    obtain ⟨k, hk, rfl, hE, hb⟩ := hrel
    have HE := Lib.hid hE
    have HB := Lib.hid hb
    clear hE
    by_cases hlt : k < ms.length
    · obtain ⟨b, off, rfl, hbl⟩ := slice_some HS.out.m (by omega)
      obtain ⟨c0, c1, c2⟩ := mt_cells (HS.out.m.below hb (Nat.le_refl _)) k hlt
      have HQ := Lib.hid (limitsF_drop hlt)
      generalize ms[k] = m at c0 c1 c2 HQ
      obtain ⟨mp, mb, mk⟩ := m
      have hX := Blk.new wr #[.string mp, .int .i64 mb, .int .i64 mk] 48
      have hbX := balloc hb (.cells #[.string mp, .int .i64 mb, .int .i64 mk] 48)
      clear hb
      go_upto_region 4 with fail
      generalize wr.alloc (.cells #[.string mp, .int .i64 mb, .int .i64 mk] 48) = X at hX hbX ⊢
      have HX := Lib.hid hX
      have HBX := Lib.hid hbX
      obtain ⟨xc, xf, xz⟩ := hX.facts
      clear hX hbX c0 c1 c2
      by_cases h1 : mp = topB
      · have h1' : mp.toList = [47] := by rw [h1, ba_list]; rfl
        have HP := Lib.hid h1
        clear h1
        by_cases h2 : mb < 1
        · skip
          have HN := Lib.hid (HE.out.trans (HQ.out.trans (if_neg (fun h => by have h9 : 1 ≤ mb := (lim_of h.2).1; omega))))
          go_wp2_with fail
          go_roundw
          case rel => exact ⟨k + 1, by omega, by go_num, HN.out, HBX.out⟩
          case measure => simp [intOf]; omega
        by_cases h3 : 1073741824 < mb
        · skip
          have HN := Lib.hid (HE.out.trans (HQ.out.trans (if_neg (fun h => by have h9 : mb ≤ 1073741824 := (lim_of h.2).2.1; omega))))
          go_wp2_with fail
          go_roundw
          case rel => exact ⟨k + 1, by omega, by go_num, HN.out, HBX.out⟩
          case measure => simp [intOf]; omega
        by_cases h4 : mk < 1
        · skip
          have HN := Lib.hid (HE.out.trans (HQ.out.trans (if_neg (fun h => by have h9 : 1 ≤ mk := (lim_of h.2).2.2.1; omega))))
          go_wp2_with fail
          go_roundw
          case rel => exact ⟨k + 1, by omega, by go_num, HN.out, HBX.out⟩
          case measure => simp [intOf]; omega
        by_cases h5 : 65536 < mk
        · skip
          have HN := Lib.hid (HE.out.trans (HQ.out.trans (if_neg (fun h => by have h9 : mk ≤ 65536 := (lim_of h.2).2.2.2; omega))))
          go_wp2_with fail
          go_roundw
          case rel => exact ⟨k + 1, by omega, by go_num, HN.out, HBX.out⟩
          case measure => simp [intOf]; omega
        have HN := Lib.hid (HE.out.trans (HQ.out.trans (if_pos ⟨HP.out, lim_mk mb mk (by omega) (by omega) (by omega) (by omega)⟩)))
        have mixed : Tryz.prog.follows .mixedOrders = true := by kernel_rfl
        go_wp2_with fail
        go_region
        all_goals
          go_wp2_with fail
          go_ret2
          rw [HN.out]
          exact ⟨rfl, HBX.out.drew⟩
      · have h1' : (mp.toList == [47]) = false := by
          rw [ba_list]
          simp only [beq_eq_false_iff_ne, ne_eq]
          exact fun e => h1 (ba_eq e)
        have HN := Lib.hid (HE.out.trans (HQ.out.trans (if_neg (fun h => h1 h.1))))
        go_wp2_with fail
        go_roundw
        case rel => exact ⟨k + 1, by omega, by go_num, HN.out, HBX.out⟩
        case measure => simp [intOf]; omega
    · obtain rfl : k = ms.length := by omega
      have HE2 := Lib.hid (show limitsF ms = (65536, 65536) by rw [HE.out, List.drop_length]; rfl)
      clear hb
      go_wp2_with fail
      go_ret2
      rw [HE2.out]
      exact ⟨rfl, HB.out⟩
end Go.Proofs.YtaojpbgaengdpaaGreat
