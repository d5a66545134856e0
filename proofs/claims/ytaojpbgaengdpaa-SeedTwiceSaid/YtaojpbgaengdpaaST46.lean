/- Texts of the proof, part 46. -/
import Derived.Test.YtaojpbgaengdpaaST41
import Derived.Test.YtaojpbgaengdpaaST45
set_option linter.unusedVariables false
set_option linter.unusedSimpArgs false
/- Trees that are to be (layer 22): how a seed lies; Limits. -/
namespace Go.Proofs.Ytaojpbgaengdpaa

open Go.RowKit

def mtC (m : Mt) : List Value := [.string m.path, .int .i64 m.b, .int .i64 m.n]
theorem mtC_len (m : Mt) : (mtC m).length = 3 := rfl
def mtR (cs : List Value) (m : Mt) : Prop := cs = mtC m
def itC (x : It) : List Value := [.string x.path, .int .i64 x.kind, .int .i64 x.mode, .int .i64 x.uid, .int .i64 x.gid, .int .i64 x.mtime, .string x.data]
theorem itC_len (x : It) : (itC x).length = 7 := rfl
def itR (cs : List Value) (x : It) : Prop := cs = itC x
theorem SliceAt.keep {α : Type} {w w' : World} {sz n c : Nat} {Rl : List Value → α → Prop} {a : Option Addr} {xs : List α} (h : SliceAt w sz Rl a n c xs) (hb : Below w.heap.size w w') : SliceAt w' sz Rl a n c xs := h.below hb (Nat.le_refl _)
/-- a seed: where its mounts and items lie. -/
structure SdAt (w : World) (ma : Option Addr) (mn mc : Nat) (ia : Option Addr) (il ic : Nat) (ms : List Mt) (is : List It) : Prop where
  m : SliceAt w 3 mtR ma mn mc ms
  i : SliceAt w 7 itR ia il ic is
theorem SdAt.keep {w w' : World} {ma : Option Addr} {mn mc : Nat} {ia : Option Addr} {il ic : Nat} {ms : List Mt} {is : List It} (h : SdAt w ma mn mc ia il ic ms is) (hb : Below w.heap.size w w') : SdAt w' ma mn mc ia il ic ms is := ⟨h.m.keep hb, h.i.keep hb⟩
theorem mt_cells {w : World} {b off n c : Nat} {ms : List Mt} (h : SliceAt w 3 mtR (some ⟨b, off, none⟩) n c ms) (k : Nat) (hk : k < ms.length) :
    w.cell? ⟨b, off + k * 3, none⟩ = some (.string ms[k].path) ∧ w.cell? ⟨b, off + k * 3 + 1, none⟩ = some (.int .i64 ms[k].b) ∧ w.cell? ⟨b, off + k * 3 + 2, none⟩ = some (.int .i64 ms[k].n) := by
  obtain ⟨hl, -, -, h0 | ⟨b', off', he, hb, hel⟩⟩ := h
  · omega
  · injection he with he
    injection he with e1 e2
    subst e1 e2
    obtain ⟨cs, h1, h2, h3⟩ := hel k hk
    unfold mtR at h2
    subst h2
    exact ⟨h3 0 (by rw [mtC_len]; omega), h3 1 (by rw [mtC_len]; omega), h3 2 (by rw [mtC_len]; omega)⟩
theorem it_cells {w : World} {b off n c : Nat} {is : List It} (h : SliceAt w 7 itR (some ⟨b, off, none⟩) n c is) (k : Nat) (hk : k < is.length) :
    w.cell? ⟨b, off + k * 7, none⟩ = some (.string is[k].path) ∧ w.cell? ⟨b, off + k * 7 + 1, none⟩ = some (.int .i64 is[k].kind) ∧ w.cell? ⟨b, off + k * 7 + 2, none⟩ = some (.int .i64 is[k].mode) ∧
    w.cell? ⟨b, off + k * 7 + 3, none⟩ = some (.int .i64 is[k].uid) ∧ w.cell? ⟨b, off + k * 7 + 4, none⟩ = some (.int .i64 is[k].gid) ∧ w.cell? ⟨b, off + k * 7 + 5, none⟩ = some (.int .i64 is[k].mtime) ∧ w.cell? ⟨b, off + k * 7 + 6, none⟩ = some (.string is[k].data) := by
  obtain ⟨hl, -, -, h0 | ⟨b', off', he, hb, hel⟩⟩ := h
  · omega
  · injection he with he
    injection he with e1 e2
    subst e1 e2
    obtain ⟨cs, h1, h2, h3⟩ := hel k hk
    unfold itR at h2
    subst h2
    exact ⟨h3 0 (by rw [itC_len]; omega), h3 1 (by rw [itC_len]; omega), h3 2 (by rw [itC_len]; omega), h3 3 (by rw [itC_len]; omega), h3 4 (by rw [itC_len]; omega), h3 5 (by rw [itC_len]; omega), h3 6 (by rw [itC_len]; omega)⟩
theorem slice_some {α : Type} {w : World} {sz n c : Nat} {Rl : List Value → α → Prop} {a : Option Addr} {xs : List α} (h : SliceAt w sz Rl a n c xs) (hn : 0 < n) : ∃ b off, a = some ⟨b, off, none⟩ ∧ b < w.heap.size := by
  obtain ⟨-, -, -, h0 | ⟨b, off, he, hb, -⟩⟩ := h
  · omega
  · exact ⟨b, off, he, hb⟩
theorem limitsF_drop {ms : List Mt} {k : Nat} (hk : k < ms.length) : limitsF (ms.drop k) = if ms[k].path = topB ∧ limB ms[k].b ms[k].n = true then (ms[k].b, ms[k].n) else limitsF (ms.drop (k + 1)) := by
  rw [List.drop_eq_getElem_cons hk, limitsF]
set_option maxRecDepth 100000 in
set_option maxHeartbeats 2000000 in
theorem slimits_any (w : World) {ma : Option Addr} {mn mc : Nat} {ia : Option Addr} {il ic : Nat} {ms : List Mt} {is : List It} (h : SdAt w ma mn mc ia il ic ms is) :
    Calls Try.prog 12 #[.agg #[.slice ma mn mc, .slice ia il ic]] w fun e w' => e = .returned (.tuple #[.int .i64 (limitsF ms).1, .int .i64 (limitsF ms).2]) ∧ Below w.heap.size w w' := by
  have HS := Lib.hid h
  have hln := h.m.1
  have hmc := h.m.2.1
  have hmx := h.m.2.2.1
  clear h
  go_enter Try.func12, Try.ntmps12
  go_wp2_with fail
  go_loopw [9] (fun t9 wr => ∃ k : Nat, k ≤ ms.length ∧ t9 = .int .i64 k ∧ limitsF ms = limitsF (ms.drop k) ∧ Below w.heap.size w wr) (fun t9 _ => ms.length - (intOf t9).toNat)
  case atStart => exact ⟨0, Nat.zero_le _, rfl, rfl, balloc (Below.refl _ _) _⟩
  case round =>
    obtain ⟨k, hk, rfl, hE, hb⟩ := hrel
    have HE := Lib.hid hE
    have HB := Lib.hid hb
    clear hE
    by_cases hlt : k < ms.length
    · obtain ⟨b, off, rfl, hbl⟩ := slice_some HS.out.m (by omega)
      obtain ⟨c0, c1, c2⟩ := mt_cells (HS.out.m.below hb (Nat.le_refl _)) k hlt
      have HQ := Lib.hid (limitsF_drop hlt)
      generalize ms[k] = m at c0 c1 c2 HQ
      obtain ⟨mp, mb, mk⟩ := m
      have hX := Blk.new wr #[.string mp, .int .i64 mb, .int .i64 mk] 41
      have hbX := balloc hb (.cells #[.string mp, .int .i64 mb, .int .i64 mk] 41)
      clear hb
      go_upto_region 4 with fail
      generalize wr.alloc (.cells #[.string mp, .int .i64 mb, .int .i64 mk] 41) = X at hX hbX ⊢
      have HX := Lib.hid hX
      have HBX := Lib.hid hbX
      obtain ⟨xc, xf, xz⟩ := hX.facts
      clear hX hbX c0 c1 c2
      by_cases h1 : mp = topB
      · have h1' : mp.toList = [47] := by rw [h1, ba_list]; rfl
        have HP := Lib.hid h1
        clear h1
        by_cases h2 : mb < 1
        · skip
          have HN := Lib.hid (HE.out.trans (HQ.out.trans (if_neg (fun h => by have h9 : 1 ≤ mb := (lim_of h.2).1; omega))))
          go_wp2_with fail
          go_roundw
          case rel => exact ⟨k + 1, by omega, by go_num, HN.out, HBX.out⟩
          case measure => simp [intOf]; omega
        by_cases h3 : 1073741824 < mb
        · skip
          have HN := Lib.hid (HE.out.trans (HQ.out.trans (if_neg (fun h => by have h9 : mb ≤ 1073741824 := (lim_of h.2).2.1; omega))))
          go_wp2_with fail
          go_roundw
          case rel => exact ⟨k + 1, by omega, by go_num, HN.out, HBX.out⟩
          case measure => simp [intOf]; omega
        by_cases h4 : mk < 1
        · skip
          have HN := Lib.hid (HE.out.trans (HQ.out.trans (if_neg (fun h => by have h9 : 1 ≤ mk := (lim_of h.2).2.2.1; omega))))
          go_wp2_with fail
          go_roundw
          case rel => exact ⟨k + 1, by omega, by go_num, HN.out, HBX.out⟩
          case measure => simp [intOf]; omega
        by_cases h5 : 65536 < mk
        · skip
          have HN := Lib.hid (HE.out.trans (HQ.out.trans (if_neg (fun h => by have h9 : mk ≤ 65536 := (lim_of h.2).2.2.2; omega))))
          go_wp2_with fail
          go_roundw
          case rel => exact ⟨k + 1, by omega, by go_num, HN.out, HBX.out⟩
          case measure => simp [intOf]; omega
        have HN := Lib.hid (HE.out.trans (HQ.out.trans (if_pos ⟨HP.out, lim_mk mb mk (by omega) (by omega) (by omega) (by omega)⟩)))
        have mixed : Try.prog.follows .mixedOrders = true := by kernel_rfl
        go_wp2_with fail
        go_region
        all_goals
          go_wp2_with fail
          go_ret2
          rw [HN.out]
          exact ⟨rfl, HBX.out.drew⟩
      · have h1' : (mp.toList == [47]) = false := by
          rw [ba_list]
          simp only [beq_eq_false_iff_ne, ne_eq]
          exact fun e => h1 (ba_eq e)
        have HN := Lib.hid (HE.out.trans (HQ.out.trans (if_neg (fun h => h1 h.1))))
        go_wp2_with fail
        go_roundw
        case rel => exact ⟨k + 1, by omega, by go_num, HN.out, HBX.out⟩
        case measure => simp [intOf]; omega
    · obtain rfl : k = ms.length := by omega
      have HE2 := Lib.hid (show limitsF ms = (65536, 65536) by rw [HE.out, List.drop_length]; rfl)
      clear hb
      go_wp2_with fail
      go_ret2
      rw [HE2.out]
      exact ⟨rfl, HB.out⟩
end Go.Proofs.Ytaojpbgaengdpaa
