/- Texts of the proof, part 22. -/
import Derived.Test.YtaojpbgaengdpaaGreatPL21
import Derived.Test.YtaojpbgaengdpaaGreatPL8
set_option linter.unusedVariables false
set_option linter.unusedSimpArgs false
/- The reference's tree (layer 14): New, Mount. -/
namespace Go.Proofs.YtaojpbgaengdpaaGreat

open Go.RowKit

def rf0 : Rf := ⟨.slice none 0 0, .slice none 0 0, [], 0, .int .i64 0, .slice none 0 0, .bool false⟩
set_option maxRecDepth 100000 in
set_option maxHeartbeats 1000000 in
theorem rnew_any (b n : Int) (hlim : limB b n = true) (w : World) :
    Calls Tryz.prog 29 #[.int .i64 b, .int .i64 n] w fun e w' => ∃ pf R', e = .returned (.pointer (some ⟨pf, 0, none⟩)) ∧ RfAt w' pf R' (fs0.addRoot 0 b n) ∧ (∀ k, R'.F pf k → w.heap.size ≤ k) ∧ Rf.Like rf0 R' ∧ Below w.heap.size w w' := by
  have hb0 := (Below.refl _ w).alloc (Nat.le_refl _) (.cells #[.slice none 0 0, .slice none 0 0, .int .i64 0, .int .i64 0, .int .i64 0, .slice none 0 0, .bool false] 102)
  have h0 : RfAt (w.alloc (.cells #[.slice none 0 0, .slice none 0 0, .int .i64 0, .int .i64 0, .int .i64 0, .slice none 0 0, .bool false] 102)) w.heap.size rf0 fs0 :=
    ⟨Blk.new w _ _, World.ownsRow_nil _ _ _ _, World.ownsRow_nil _ _ _ _, rfl, fun g hg => by cases hg⟩
  have HRt := Lib.hid (rrootN_any h0 ⟨List.Pairwise.nil, fun x hx => by simp [fs0] at hx⟩ (by decide) (by decide) (by decide) (by decide) 0 b n)
  have HLm := Lib.hid (fun w => limits_any b n w)
  rw [hlim] at HLm
  have HB0 := Lib.hid hb0
  clear h0 hb0 hlim
  go_enter Tryz.func29, Tryz.ntmps29
  go_wp2_with fail
  refine (HLm.out _).mono ?_
  rintro e w1 ⟨rfl, rfl⟩
  go_wp2_with fail
  refine HRt.out.mono ?_
  rintro e w2 ⟨rfl, R', hR, hS, hL⟩
  have HX := Lib.hid (And.intro hR (And.intro hS hL))
  clear hR hS hL
  go_wp2_with fail
  go_ret
  have hF : ∀ k, rf0.F w.heap.size k → w.heap.size ≤ k := fun k hk => by
    rcases hk with rfl | hk | hk
    · exact Nat.le_refl _
    · cases hk
    · cases hk
  exact ⟨_, R', rfl, HX.out.1, HX.out.2.1.above hF (by simp), HX.out.2.2, HB0.out.trans (HX.out.2.1.below hF (by simp))⟩
section

variable {w w' : World} {pf : Nat} {R : Rf} {S : Fs}

set_option maxRecDepth 100000 in
set_option maxHeartbeats 4000000 in
theorem rmount_any (h : RfAt w pf R S) {N : Nat} (hk : FsOk S N) (hN : N ≤ 100000) (hgl : S.ns.length ≤ 100000) (no b n : Int) :
    Calls Tryz.prog 58 #[.pointer (some ⟨pf, 0, none⟩), .int .i64 no, .int .i64 b, .int .i64 n] w fun e w' => e = .returned (.tuple #[.int .i64 (S.mount no b n).2.1, .int .i64 (S.mount no b n).2.2]) ∧ ∃ R', RfAt w' pf R' (S.mount no b n).1 ∧ Stp (R.F pf) (R'.F pf) w w' ∧ Rf.Like R R' := by
  have hkeep : ∀ w2, Below w.heap.size w w2 → ∃ R', RfAt w2 pf R' S ∧ Stp (R.F pf) (R'.F pf) w w2 ∧ Rf.Like R R' := fun w2 hb => ⟨R, h.keep hb, Stp.of_below hb, Rf.Like.refl R⟩
  have HKp := Lib.hid hkeep
  have HW := Lib.hid h
  have HK := Lib.hid hk
  cases hg : S.get no with
  | none =>
    have HM := Lib.hid (show S.mount no b n = (S, 0, 5) by unfold Fs.mount; rw [hg])
    have HG := Lib.hid (rget_no h hg)
    unfold An.v an0 at HG
    clear h hk hg hkeep
    go_enter Tryz.func58, Tryz.ntmps58
    go_wp2_with fail
    refine HG.out.mono ?_
    rintro e w1 ⟨rfl, hb1⟩
    have HB := Lib.hid (balloc hb1 (.cells #[.int .i64 0, .int .i64 0, .int .i64 0, .int .i64 0, .int .i64 0, .int .i64 0, .int .i64 0, .int .i64 0, .int .i64 0, .int .i64 0, .string ByteArray.empty, .slice none 0 0] 110))
    clear hb1
    go_wp2_with fail
    go_ret2
    rw [HM.out]
    exact ⟨rfl, HKp.out _ HB.out⟩
  | some a =>
    obtain ⟨hao, hno, h1, -⟩ := hk.get hg
    obtain ⟨ea, el, ec, -, hgc⟩ := rget_yes h hg
    have HG := Lib.hid hgc
    unfold An.v at HG
    have hz : (a.no == 0) = false := by simp only [beq_eq_false_iff_ne, ne_eq]; omega
    have HM := Lib.hid (show S.mount no b n = if a.kind ≠ 1 then (S, 0, 9) else if S.over no ≠ no ∨ S.root a.dev = no then (S, 0, 16) else if 8 ≤ S.ds.length ∨ limB b n = false then (S, 0, 3) else (S.addRoot no b n, S.last + 1, 0) by unfold Fs.mount; rw [hg])
    have HRo := Lib.hid (fun w1 (hb1 : Below w.heap.size w w1) => rroot_any (h.keep hb1) a.dev)
    have HOv := Lib.hid (fun w1 (hb1 : Below w.heap.size w w1) => rover_any (h.keep hb1) no)
    have HLm := Lib.hid (fun w => limits_any b n w)
    obtain ⟨da, dc, hdv, hdc1, hdc2⟩ := h.dform
    obtain ⟨pc, -, pz⟩ := h.blk.facts
    rw [hdv] at pc
    generalize hov : S.over no = ov at HM HOv
    generalize hrt : S.root a.dev = rt at HM HRo
    have hb0 : ∀ w1, Below w.heap.size w w1 → Below w.heap.size w (w1.alloc (.cells #[.int .i64 a.no, .int .i64 a.dev, .int .i64 a.kind, .int .i64 a.mode, .int .i64 a.uid, .int .i64 a.gid, .int .i64 a.mtime, .int .i64 a.ctime, .int .i64 a.links, .int .i64 a.up, .string a.data, .slice ea el ec] 110)) := fun w1 hb => balloc hb _
    have HB0 := Lib.hid hb0
    have HRt := Lib.hid (fun w1 (hb1 : Below w.heap.size w w1) (hd : S.ds.length ≤ 7) => rrootN_any (h.keep hb1) hk.nums hk.l0 (by have := hk.lN; omega) hgl hd no b n)
    obtain ⟨m, hm⟩ : ∃ m, S.ds.length = m := ⟨_, rfl⟩
    rw [hm] at pc HM HRt
    clear h hk hg hgc hao hkeep hno hov hrt hdv hm hb0 h1 hdc1
    go_enter Tryz.func58, Tryz.ntmps58
    go_wp2_with fail
    refine HG.out.mono ?_
    rintro e w1 ⟨rfl, hb1⟩
    have hbX := HB0.out w1 hb1
    have hB1 := Blk.new w1 #[.int .i64 a.no, .int .i64 a.dev, .int .i64 a.kind, .int .i64 a.mode, .int .i64 a.uid, .int .i64 a.gid, .int .i64 a.mtime, .int .i64 a.ctime, .int .i64 a.links, .int .i64 a.up, .string a.data, .slice ea el ec] 110
    go_upto_region 2 with fail
    generalize w1.alloc (.cells #[.int .i64 a.no, .int .i64 a.dev, .int .i64 a.kind, .int .i64 a.mode, .int .i64 a.uid, .int .i64 a.gid, .int .i64 a.mtime, .int .i64 a.ctime, .int .i64 a.links, .int .i64 a.up, .string a.data, .slice ea el ec] 110) = X at hbX hB1 ⊢
    have HBX := Lib.hid hbX
    obtain ⟨qc, qf, qz⟩ := hB1.facts
    have pc2 := fun i => (hbX.cell (p := ⟨pf, i, none⟩) pz).trans (pc i)
    clear hb1 hbX hB1 pc
    by_cases h1 : a.kind = 1
    · have q1 : (a.kind == 1) = true := by simpa using h1
      have q2 : (a.kind != 1) = false := by simpa using h1
      have HM1 := Lib.hid (HM.out.trans (if_neg (by simpa using h1)))
      clear h1
      by_cases h2 : ov = no
      · by_cases h3 : rt = no
        · have HM2 := Lib.hid (HM1.out.trans (if_pos (.inr h3)))
          have q3 : (ov != no) = false := by simpa using h2
          have q4 : (rt == no) = true := by simpa using h3
          clear h2 h3
          go_wp2_with fail
          refine (HOv.out _ HBX.out).mono ?_
          rintro e w2 ⟨rfl, rfl⟩
          go_wp2_with fail
          refine (HRo.out _ HBX.out).mono ?_
          rintro e w2 ⟨rfl, rfl⟩
          go_wp2_with fail
          go_ret2
          rw [HM2.out]
          exact ⟨rfl, HKp.out _ HBX.out⟩
        · have HM2 := Lib.hid (HM1.out.trans (if_neg (by rintro (h | h); exact h h2; exact h3 h)))
          have q3 : (ov != no) = false := by simpa using h2
          have q4 : (rt == no) = false := by simpa using h3
          clear h2 h3
          by_cases h4 : 8 ≤ m
          · have HM3 := Lib.hid (HM2.out.trans (if_pos (.inl h4)))
            have q5 : (8 : Int) ≤ (m : Int) := by omega
            clear h4
            go_wp2_with fail
            refine (HOv.out _ HBX.out).mono ?_
            rintro e w2 ⟨rfl, rfl⟩
            go_wp2_with fail
            refine (HRo.out _ HBX.out).mono ?_
            rintro e w2 ⟨rfl, rfl⟩
            go_wp2_with fail
            go_ret2
            rw [HM3.out]
            exact ⟨rfl, HKp.out _ HBX.out⟩
          · have q5 : ¬ (8 : Int) ≤ (m : Int) := by omega
            have HM7 := Lib.hid (show m ≤ 7 by omega)
            cases hl : limB b n with
            | false =>
              have HM3 := Lib.hid (HM2.out.trans (if_pos (.inr hl)))
              rw [hl] at HLm
              clear h4 hl
              go_wp2_with fail
              refine (HOv.out _ HBX.out).mono ?_
              rintro e w2 ⟨rfl, rfl⟩
              go_wp2_with fail
              refine (HRo.out _ HBX.out).mono ?_
              rintro e w2 ⟨rfl, rfl⟩
              go_wp2_with fail
              refine (HLm.out _).mono ?_
              rintro e w2 ⟨rfl, rfl⟩
              go_wp2_with fail
              go_ret2
              rw [HM3.out]
              exact ⟨rfl, HKp.out _ HBX.out⟩
            | true =>
              have HM3 := Lib.hid (HM2.out.trans (if_neg (by rintro (h | h); exact h4 h; rw [hl] at h; cases h)))
              rw [hl] at HLm
              clear h4 hl
              go_wp2_with fail
              refine (HOv.out _ HBX.out).mono ?_
              rintro e w2 ⟨rfl, rfl⟩
              go_wp2_with fail
              refine (HRo.out _ HBX.out).mono ?_
              rintro e w2 ⟨rfl, rfl⟩
              go_wp2_with fail
              refine (HLm.out _).mono ?_
              rintro e w2 ⟨rfl, rfl⟩
              go_wp2_with fail
              refine (HRt.out _ HBX.out HM7.out).mono ?_
              rintro e w3 ⟨rfl, R', hR, hS, hL⟩
              have HF := Lib.hid (And.intro hR (And.intro ((Stp.of_below HBX.out).trans hS) hL))
              clear hR hS hL
              go_wp2_with fail
              go_ret2
              rw [HM3.out]
              exact ⟨rfl, R', HF.out.1, HF.out.2.1, HF.out.2.2⟩
      · have HM2 := Lib.hid (HM1.out.trans (if_pos (.inl h2)))
        have q3 : (ov != no) = true := by simpa using h2
        clear h2
        go_wp2_with fail
        refine (HOv.out _ HBX.out).mono ?_
        rintro e w2 ⟨rfl, rfl⟩
        go_wp2_with fail
        go_ret2
        rw [HM2.out]
        exact ⟨rfl, HKp.out _ HBX.out⟩
    · have q1 : (a.kind == 1) = false := by simpa using h1
      have q2 : (a.kind != 1) = true := by simpa using h1
      have HM1 := Lib.hid (HM.out.trans (if_pos (by simpa using h1)))
      clear h1
      go_wp2_with fail
      go_ret2
      rw [HM1.out]
      exact ⟨rfl, HKp.out _ HBX.out⟩
end

end Go.Proofs.YtaojpbgaengdpaaGreat

/- Trees that are to be (layer 22), plainly: what Plant plants; nodes never get fewer. No walk. -/
namespace Go.Proofs.YtaojpbgaengdpaaGreat

open Go.RowKit

structure Mt where
  path : ByteArray
  b : Int
  n : Int
structure It where
  path : ByteArray
  kind : Int
  mode : Int
  uid : Int
  gid : Int
  mtime : Int
  data : ByteArray
def topB : ByteArray := ⟨#[47]⟩
def c00 : Cr := ⟨0, 0⟩
def limitsF : List Mt → Int × Int
  | [] => (65536, 65536)
  | m :: l => if m.path = topB ∧ limB m.b m.n = true then (m.b, m.n) else limitsF l
theorem limits_ok : ∀ l : List Mt, limB (limitsF l).1 (limitsF l).2 = true
  | [] => by decide
  | m :: l => by
    unfold limitsF
    split
    · rename_i h; exact h.2
    · exact limits_ok l
def Fs.kindOf (S : Fs) (k : Int) : Int := match S.get k with | none => 0 | some a => a.kind
def mountF (S : Fs) (m : Mt) : Fs :=
  if (S.path c00 m.path false).2 ≠ 0 then S
  else if (S.path c00 m.path false).1.no = 0 then
    let q := S.mkdir c00 0 (S.path c00 m.path false).1.dir (S.path c00 m.path false).1.name 493
    if q.2.2 ≠ 0 then q.1 else (q.1.mount q.2.1 m.b m.n).1
  else (S.mount (S.path c00 m.path false).1.no m.b m.n).1
def nodeF (S : Fs) (it : It) : Fs × Int :=
  let x := S.path c00 it.path false
  if x.2 ≠ 0 then (S, 0)
  else if x.1.no ≠ 0 then (if it.kind = 1 ∧ S.kindOf x.1.no = 1 then (S, x.1.no) else (S, 0))
  else if it.kind = 1 then ((S.mkdir c00 0 x.1.dir x.1.name 493).1, (S.mkdir c00 0 x.1.dir x.1.name 493).2.1)
  else if it.kind = 2 then ((S.file c00 0 x.1.dir x.1.name 420 it.data).1, (S.file c00 0 x.1.dir x.1.name 420 it.data).2.1)
  else if it.kind = 3 then ((S.sym c00 0 x.1.dir x.1.name it.data).1, (S.sym c00 0 x.1.dir x.1.name it.data).2.1)
  else if it.kind = 4 then
    (if (S.path c00 it.data false).2 = 0 then ((S.hard c00 0 (S.path c00 it.data false).1.no x.1.dir x.1.name).1, 0) else (S, 0))
  else (S, 0)
def itemF (S : Fs) (it : It) : Fs × Int :=
  let q := nodeF S it
  if q.2 ≠ 0 then (((q.1.chown c00 0 q.2 it.uid it.gid).1.chmod c00 0 q.2 it.mode).1, q.2) else q
def itemsF (S : Fs) : List It → Fs × List Int
  | [] => (S, [])
  | it :: l => let q := itemF S it; let r := itemsF q.1 l; (r.1, q.2 :: r.2)
def timesF (S : Fs) : List (It × Int) → Fs
  | [] => S
  | x :: l => timesF (if x.2 ≠ 0 then (S.utime c00 0 x.2 x.1.mtime).1 else S) l
def mountsF (S : Fs) : List Mt → Fs
  | [] => S
  | m :: l => mountsF (if m.path = topB then S else mountF S m) l
def plantF (ms : List Mt) (is : List It) : Fs :=
  let S := mountsF (fs0.addRoot 0 (limitsF ms).1 (limitsF ms).2) ms
  let r := itemsF S is
  timesF r.1 (is.zip r.2)

theorem itemsF_app (S : Fs) (a b : List It) : itemsF S (a ++ b) = ((itemsF (itemsF S a).1 b).1, (itemsF S a).2 ++ (itemsF (itemsF S a).1 b).2) := by
  induction a generalizing S with
  | nil => rfl
  | cons x a ih => simp only [List.cons_append, itemsF, ih]
theorem itemsF_len (S : Fs) (a : List It) : (itemsF S a).2.length = a.length := by
  induction a generalizing S with
  | nil => rfl
  | cons x a ih => simp only [itemsF, List.length_cons, ih]
theorem timesF_app (S : Fs) (a b : List (It × Int)) : timesF S (a ++ b) = timesF (timesF S a) b := by
  induction a generalizing S with
  | nil => rfl
  | cons x a ih => exact ih _
theorem mountsF_app (S : Fs) (a b : List Mt) : mountsF S (a ++ b) = mountsF (mountsF S a) b := by
  induction a generalizing S with
  | nil => rfl
  | cons x a ih => exact ih _

theorem mountF_ok {S : Fs} {N : Nat} (h : FsOk S N) (m : Mt) : FsOk (mountF S m) (N + 2) := by
  unfold mountF
  split
  · exact h.mono (by omega)
  · split
    · have h1 := mkdir_ok h c00 0 (S.path c00 m.path false).1.dir (S.path c00 m.path false).1.name 493
      simp only
      split
      · exact h1.mono (by omega)
      · exact h1.mount _ _ _
    · exact (h.mount _ _ _).mono (by omega)
theorem mountsF_ok {S : Fs} {N : Nat} (h : FsOk S N) (l : List Mt) : FsOk (mountsF S l) (N + 2 * l.length) := by
  induction l generalizing S N with
  | nil => exact h
  | cons m l ih =>
    unfold mountsF
    have h1 : FsOk (if m.path = topB then S else mountF S m) (N + 2) := by
      split
      · exact h.mono (by omega)
      · exact mountF_ok h m
    exact (ih h1).mono (by simp; omega)
theorem nodeF_ok {S : Fs} {N : Nat} (h : FsOk S N) (it : It) : FsOk (nodeF S it).1 (N + 1) := by
  have h1 := h.mono (Nat.le_succ N)
  unfold nodeF
  simp only
  split
  · exact h1
  · split
    · split <;> exact h1
    · split
      · exact mkdir_ok h _ _ _ _ _
      · split
        · exact file_ok h _ _ _ _ _ _
        · split
          · exact sym_ok h _ _ _ _ _
          · split
            · split
              · exact hard_ok h _ _ _ _ _
              · exact h1
            · exact h1
theorem itemF_ok {S : Fs} {N : Nat} (h : FsOk S N) (it : It) : FsOk (itemF S it).1 (N + 1) := by
  have h1 := nodeF_ok h it
  unfold itemF
  simp only
  split
  · exact chmod_ok (chown_ok h1 _ _ _ _ _) _ _ _ _
  · exact h1
theorem itemsF_ok {S : Fs} {N : Nat} (h : FsOk S N) (l : List It) : FsOk (itemsF S l).1 (N + l.length) := by
  induction l generalizing S N with
  | nil => exact h
  | cons m l ih =>
    unfold itemsF
    exact (ih (itemF_ok h m)).mono (by simp; omega)
theorem timesF_ok {S : Fs} {N : Nat} (h : FsOk S N) (l : List (It × Int)) : FsOk (timesF S l) N := by
  induction l generalizing S with
  | nil => exact h
  | cons m l ih =>
    unfold timesF
    apply ih
    split
    · exact utime_ok h _ _ _ _
    · exact h

/-- nodes never get fewer. -/
theorem len_set (S : Fs) (a : An) : (S.set a).ns.length = S.ns.length := by simp [Fs.set]
theorem len_touch (S : Fs) (now d : Int) (l : List En) : (S.touch now d l).ns.length = S.ns.length := by
  unfold Fs.touch; split
  · rfl
  · exact len_set _ _
theorem len_make (S : Fs) (a : An) : S.ns.length ≤ (S.make a).1.ns.length := by
  unfold Fs.make
  split
  · exact Nat.le_refl _
  · split
    · exact Nat.le_refl _
    · simp only
      split
      · simp [Fs.add, Fs.setDev]
      · exact Nat.le_refl _
theorem len_come (S : Fs) (c : Cr) (now d : Int) (s : ByteArray) (a : An) : S.ns.length ≤ (S.come c now d s a).1.ns.length := by
  unfold Fs.come
  split
  · exact Nat.le_refl _
  · split
    · exact Nat.le_refl _
    · split
      · exact Nat.le_refl _
      · simp only
        split
        · exact Nat.le_refl _
        · rw [len_touch]; exact len_make _ _
theorem len_mkdir (S : Fs) (c : Cr) (now d : Int) (s : ByteArray) (m : Int) : S.ns.length ≤ (S.mkdir c now d s m).1.ns.length := by
  unfold Fs.mkdir; split
  · exact Nat.le_refl _
  · exact len_come _ _ _ _ _ _
theorem len_file (S : Fs) (c : Cr) (now d : Int) (s : ByteArray) (m : Int) (t : ByteArray) : S.ns.length ≤ (S.file c now d s m t).1.ns.length := by
  unfold Fs.file; split
  · exact Nat.le_refl _
  · split
    · exact Nat.le_refl _
    · exact len_come _ _ _ _ _ _
theorem len_sym (S : Fs) (c : Cr) (now d : Int) (s t : ByteArray) : S.ns.length ≤ (S.sym c now d s t).1.ns.length := by
  unfold Fs.sym; split
  · exact Nat.le_refl _
  · split
    · exact Nat.le_refl _
    · exact len_come _ _ _ _ _ _
theorem len_hard (S : Fs) (c : Cr) (now k d : Int) (s : ByteArray) : S.ns.length ≤ (S.hard c now k d s).1.ns.length := by
  unfold Fs.hard
  repeat' split
  all_goals first | exact Nat.le_refl _ | (rw [len_touch, len_set]; exact Nat.le_refl _)
theorem len_chmod (S : Fs) (c : Cr) (now k m : Int) : (S.chmod c now k m).1.ns.length = S.ns.length := by
  unfold Fs.chmod
  repeat' split
  all_goals first | rfl | exact len_set _ _
theorem len_chown (S : Fs) (c : Cr) (now k u g : Int) : (S.chown c now k u g).1.ns.length = S.ns.length := by
  unfold Fs.chown
  repeat' split
  all_goals first | rfl | exact len_set _ _
theorem len_utime (S : Fs) (c : Cr) (now k t : Int) : (S.utime c now k t).1.ns.length = S.ns.length := by
  unfold Fs.utime
  repeat' split
  all_goals first | rfl | exact len_set _ _
theorem len_node (S : Fs) (it : It) : S.ns.length ≤ (nodeF S it).1.ns.length := by
  unfold nodeF
  simp only
  repeat' split
  all_goals first | exact Nat.le_refl _ | exact len_mkdir _ _ _ _ _ _ | exact len_file _ _ _ _ _ _ _ | exact len_sym _ _ _ _ _ _ | exact len_hard _ _ _ _ _ _
theorem len_item (S : Fs) (it : It) : S.ns.length ≤ (itemF S it).1.ns.length := by
  unfold itemF
  simp only
  split
  · rw [len_chmod, len_chown]; exact len_node S it
  · exact len_node S it
theorem len_items (S : Fs) (l : List It) : S.ns.length ≤ (itemsF S l).1.ns.length := by
  induction l generalizing S with
  | nil => exact Nat.le_refl _
  | cons x l ih => exact Nat.le_trans (len_item S x) (ih _)
theorem len_times (S : Fs) (l : List (It × Int)) : (timesF S l).ns.length = S.ns.length := by
  induction l generalizing S with
  | nil => rfl
  | cons x l ih =>
    unfold timesF
    rw [ih]
    split
    · exact len_utime _ _ _ _ _
    · rfl
/-- SeedTwice, plainly. -/
theorem twice_len (is : List It) : (plantF [] is).ns.length ≤ (plantF [] (is ++ is)).ns.length ∧ 0 < (plantF [] is).ns.length := by
  unfold plantF
  simp only [len_times, itemsF_app, mountsF]
  refine ⟨len_items _ _, Nat.lt_of_lt_of_le ?_ (len_items _ _)⟩
  decide
theorem plant_ok (ms : List Mt) (is : List It) : FsOk (plantF ms is) (1 + 2 * ms.length + is.length) := by
  unfold plantF
  exact timesF_ok (itemsF_ok (mountsF_ok (FsOk.new _ _) _) _) _
end Go.Proofs.YtaojpbgaengdpaaGreat
