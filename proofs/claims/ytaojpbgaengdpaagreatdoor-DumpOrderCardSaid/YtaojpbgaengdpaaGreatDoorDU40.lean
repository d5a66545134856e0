/- Texts of the proof, part 40. -/
import Derived.WalkMore
import Derived.Deep.LoopGhost
import Derived.Test.YtaojpbgaengdpaaGreatDoorDU27
import Derived.Test.YtaojpbgaengdpaaGreatDoorDU39
import Derived.Test.YtaojpbgaengdpaaGreatDoorDU28
import Derived.Test.YtaojpbgaengdpaaGreatDoorDU2
set_option linter.unusedVariables false
set_option linter.unusedSimpArgs false
/- Rows compared: ragpickerref22.Same. (printed by gen_rows.py) -/
namespace Go.Proofs.YtaojpbgaengdpaaGreatDoor

open Go.RowKit

theorem rows_cell {w : World} {b off n c : Nat} {l : List Rw} (h : SliceAt w 10 rwQ (some ⟨b, off, none⟩) n c l) (k : Nat) (hk : k < l.length) :
    w.cell? ⟨b, off + k * 10, none⟩ = some (.string l[k].path) ∧ w.cell? ⟨b, off + k * 10 + 1, none⟩ = some (.int .i64 l[k].kind) ∧ w.cell? ⟨b, off + k * 10 + 2, none⟩ = some (.int .i64 l[k].mode) ∧ w.cell? ⟨b, off + k * 10 + 3, none⟩ = some (.int .i64 l[k].uid) ∧ w.cell? ⟨b, off + k * 10 + 4, none⟩ = some (.int .i64 l[k].gid) ∧ w.cell? ⟨b, off + k * 10 + 5, none⟩ = some (.int .i64 l[k].mtime) ∧ w.cell? ⟨b, off + k * 10 + 6, none⟩ = some (.int .i64 l[k].ctime) ∧ w.cell? ⟨b, off + k * 10 + 7, none⟩ = some (.int .i64 l[k].dev) ∧ w.cell? ⟨b, off + k * 10 + 8, none⟩ = some (.int .i64 l[k].first) ∧ w.cell? ⟨b, off + k * 10 + 9, none⟩ = some (.string l[k].data) := by
  obtain ⟨hl, -, -, h0 | ⟨b', off', he, hb, hel⟩⟩ := h
  · omega
  · injection he with he
    injection he with e1 e2
    subst e1 e2
    obtain ⟨cs, h1, h2, h3⟩ := hel k hk
    unfold rwQ at h2
    subst h2
    exact ⟨h3 0 (by simp [rwC]), h3 1 (by simp [rwC]), h3 2 (by simp [rwC]), h3 3 (by simp [rwC]), h3 4 (by simp [rwC]), h3 5 (by simp [rwC]), h3 6 (by simp [rwC]), h3 7 (by simp [rwC]), h3 8 (by simp [rwC]), h3 9 (by simp [rwC])⟩
theorem rowsAt_some {w : World} {a : Option Addr} {n c : Nat} {l : List Rw} (h : SliceAt w 10 rwQ a n c l) (hn : 0 < n) : ∃ b off, a = some ⟨b, off, none⟩ ∧ b < w.heap.size := by
  obtain ⟨-, -, -, h0 | ⟨b', off', he, hb, -⟩⟩ := h
  · omega
  · exact ⟨b', off', he, hb⟩

theorem tl_ne {s t : ByteArray} (h : ¬ s = t) : ¬ s.toList = t.toList := fun e => h (by
  rw [ba_list, ba_list] at e
  cases s; cases t
  congr 1
  exact Array.toList_inj.1 e)
set_option maxRecDepth 100000 in
set_option maxHeartbeats 2000000 in
theorem row_eqIn (r q : Rw) (w : World) : (Op.equalIn 10000 47 (.agg #[.string r.path, .int .i64 r.kind, .int .i64 r.mode, .int .i64 r.uid, .int .i64 r.gid, .int .i64 r.mtime, .int .i64 r.ctime, .int .i64 r.dev, .int .i64 r.first, .string r.data]) (.agg #[.string q.path, .int .i64 q.kind, .int .i64 q.mode, .int .i64 q.uid, .int .i64 q.gid, .int .i64 q.mtime, .int .i64 q.ctime, .int .i64 q.dev, .int .i64 q.first, .string q.data])).run Tryz.prog w = .ok (decide (r = q)) w := by
  have u1 := Tryz.underlying9
  have u2 := Tryz.underlying3
  have a1 := Tryz.isAgg9
  have z1 := Tryz.sizeOf9
  have a2 := Tryz.isAgg3
  have z2 := Tryz.sizeOf3
  have hS : Tryz.prog.underlying 47 = some (.struct (Tryz.prog.fieldsOf 47)) := by kernel_rfl
  have hp : Tryz.prog.stoodInHeld 47 = false := by kernel_rfl
  rw [show (10000 : Nat) = 9999 + 1 from rfl, run_equalIn_agg w 9999 47 _ _ hS hp]
  simp only [Program.fieldsOf, Tryz.underlying47]
  clear hS hp
  obtain ⟨r0, r1, r2, r3, r4, r5, r6, r7, r8, r9⟩ := r
  obtain ⟨q0, q1, q2, q3, q4, q5, q6, q7, q8, q9⟩ := q
  dsimp only
  by_cases h0 : r0 = q0
  · subst h0
    by_cases h1 : r1 = q1
    · subst h1
      by_cases h2 : r2 = q2
      · subst h2
        by_cases h3 : r3 = q3
        · subst h3
          by_cases h4 : r4 = q4
          · subst h4
            by_cases h5 : r5 = q5
            · subst h5
              by_cases h6 : r6 = q6
              · subst h6
                by_cases h7 : r7 = q7
                · subst h7
                  by_cases h8 : r8 = q8
                  · subst h8
                    by_cases h9 : r9 = q9
                    · subst h9
                      rw [decide_eq_true rfl]
                      go_simp
                    · have g1 := tl_ne h9
                      have g2 : (r9.toList == q9.toList) = false := by simpa using g1
                      rw [decide_eq_false (fun e => h9 (congrArg Rw.data e))]
                      go_simp
                  · have g2 : (r8 == q8) = false := by simpa using h8
                    rw [decide_eq_false (fun e => h8 (congrArg Rw.first e))]
                    go_simp
                · have g2 : (r7 == q7) = false := by simpa using h7
                  rw [decide_eq_false (fun e => h7 (congrArg Rw.dev e))]
                  go_simp
              · have g2 : (r6 == q6) = false := by simpa using h6
                rw [decide_eq_false (fun e => h6 (congrArg Rw.ctime e))]
                go_simp
            · have g2 : (r5 == q5) = false := by simpa using h5
              rw [decide_eq_false (fun e => h5 (congrArg Rw.mtime e))]
              go_simp
          · have g2 : (r4 == q4) = false := by simpa using h4
            rw [decide_eq_false (fun e => h4 (congrArg Rw.gid e))]
            go_simp
        · have g2 : (r3 == q3) = false := by simpa using h3
          rw [decide_eq_false (fun e => h3 (congrArg Rw.uid e))]
          go_simp
      · have g2 : (r2 == q2) = false := by simpa using h2
        rw [decide_eq_false (fun e => h2 (congrArg Rw.mode e))]
        go_simp
    · have g2 : (r1 == q1) = false := by simpa using h1
      rw [decide_eq_false (fun e => h1 (congrArg Rw.kind e))]
      go_simp
  · have g1 := tl_ne h0
    have g2 : (r0.toList == q0.toList) = false := by simpa using g1
    rw [decide_eq_false (fun e => h0 (congrArg Rw.path e))]
    go_simp
theorem row_neq (r q : Rw) (w : World) : (binOp .neq 47 (.agg #[.string r.path, .int .i64 r.kind, .int .i64 r.mode, .int .i64 r.uid, .int .i64 r.gid, .int .i64 r.mtime, .int .i64 r.ctime, .int .i64 r.dev, .int .i64 r.first, .string r.data]) (.agg #[.string q.path, .int .i64 q.kind, .int .i64 q.mode, .int .i64 q.uid, .int .i64 q.gid, .int .i64 q.mtime, .int .i64 q.ctime, .int .i64 q.dev, .int .i64 q.first, .string q.data])).run Tryz.prog w = .ok (.bool (!decide (r = q))) w := by
  rw [run_neq_struct, row_eqIn]
  rfl
theorem sofar_step' {α : Type} {xs ys : List α} {k : Nat} (h : xs.take k = ys.take k) (h1 : k < xs.length) (h2 : k < ys.length) (he : xs[k] = ys[k]) : xs.take (k + 1) = ys.take (k + 1) := by
  rw [List.take_add_one, List.take_add_one, h, List.getElem?_eq_getElem h1, List.getElem?_eq_getElem h2, he]
theorem sofar_end' {α : Type} {xs ys : List α} (h : xs.take xs.length = ys.take xs.length) (hl : xs.length = ys.length) : xs = ys := by
  rwa [List.take_length, hl, List.take_length] at h
set_option maxRecDepth 100000 in
set_option maxHeartbeats 2000000 in
theorem rsame22_any {a b : Option Addr} {na nb c d : Nat} {xs ys : List Rw} (w : World) (hA : SliceAt w 10 rwQ a na c xs) (hB : SliceAt w 10 rwQ b nb d ys) :
    Calls Tryz.prog 10 #[.slice a na c, .slice b nb d] w fun e w' => e = .returned (.bool (decide (xs = ys))) ∧ Below w.heap.size w w' := by
  obtain rfl := hA.1
  obtain rfl := hB.1
  have HA := Lib.hid hA
  have HB := Lib.hid hB
  have hlx : xs.length ≤ 9223372036854775807 := Nat.le_trans hA.2.1 hA.2.2.1
  have hly : ys.length ≤ 9223372036854775807 := Nat.le_trans hB.2.1 hB.2.2.1
  clear hA hB
  by_cases hlen : xs.length = ys.length
  · have hl1 := (tb_eq (xs.length : Int) ys.length (by omega)).2
    have HLen := Lib.hid hlen
    clear hlen
    go_enter Tryz.func10, Tryz.ntmps10
    go_wp2_with fail
    go_loopw [5] (fun t5 wr => ∃ (k : Nat), k ≤ xs.length ∧ t5 = .int .i64 k ∧ xs.take k = ys.take k ∧ Below w.heap.size w wr) (fun t5 _ => xs.length - (intOf t5).toNat)
    case atStart => exact ⟨0, Nat.zero_le _, rfl, rfl, Below.refl _ _⟩
    case round =>
      obtain ⟨k, hk, rfl, hso, hW⟩ := hrel
      have HS := Lib.hid hso
      have HW := Lib.hid hW
      clear hso
      by_cases hlt : k < xs.length
      · have hlt2 : k < ys.length := by have := HLen.out; omega
        have hA2 := HA.out.below hW (Nat.le_refl _)
        have hB2 := HB.out.below hW (Nat.le_refl _)
        obtain ⟨ba, oa, rfl, -⟩ := rowsAt_some hA2 (by omega)
        obtain ⟨bb, ob, rfl, -⟩ := rowsAt_some hB2 (by omega)
        obtain ⟨c0, c1, c2, c3, c4, c5, c6, c7, c8, c9⟩ := rows_cell hA2 k hlt
        obtain ⟨d0, d1, d2, d3, d4, d5, d6, d7, d8, d9⟩ := rows_cell hB2 k hlt2
        have HStep := Lib.hid (sofar_step' HS.out hlt hlt2)
        have HNo := Lib.hid (fun (e : xs = ys) => show xs[k] = ys[k] by subst e; rfl)
        generalize xs[k] = x at c0 c1 c2 c3 c4 c5 c6 c7 c8 c9 HStep HNo
        generalize ys[k] = y at d0 d1 d2 d3 d4 d5 d6 d7 d8 d9 HStep HNo
        have hnq := fun W => row_neq x y W
        clear hA2 hB2 hW
        by_cases hxy : x = y
        · have HEq := Lib.hid hxy
          simp only [decide_eq_true hxy, Bool.not_true] at hnq
          clear hxy
          go_wp2_with fail
          go_quiet (fail)
          go_wp2_with fail
          go_roundw
          case measure => simp [intOf]; omega
          case rel => exact ⟨k + 1, by omega, by go_num, HStep.out HEq.out, below_drewN HW.out _⟩
        · have HNe := Lib.hid (fun e => hxy (HNo.out e))
          simp only [decide_eq_false hxy, Bool.not_false] at hnq
          clear hxy
          go_wp2_with fail
          go_quiet (fail)
          go_wp2_with fail
          go_ret
          exact ⟨ret_bool (by rw [decide_eq_false HNe.out]), below_drewN HW.out _⟩
      · obtain rfl : k = xs.length := by omega
        go_wp2_with fail
        go_ret
        exact ⟨ret_bool (by rw [decide_eq_true (sofar_end' HS.out HLen.out)]), HW.out⟩
  · have hl1 := (tb_ne (xs.length : Int) ys.length (by omega)).2
    go_enter Tryz.func10, Tryz.ntmps10
    go_wp2_with fail
    go_ret
    exact ⟨ret_bool (by rw [decide_eq_false (fun e => hlen (by rw [e]))]), Below.refl _ _⟩
set_option maxRecDepth 100000 in
set_option maxHeartbeats 2000000 in
theorem equal_any {a b : Option Addr} {na nb c d : Nat} {xs ys : List Rw} (w : World) (hA : SliceAt w 10 rwQ a na c xs) (hB : SliceAt w 10 rwQ b nb d ys) :
    Calls Tryz.prog 57 #[.slice a na c, .slice b nb d] w fun e w' => e = .returned (.bool (decide (xs = ys))) ∧ Below w.heap.size w w' := by
  obtain rfl := hA.1
  obtain rfl := hB.1
  have HA := Lib.hid hA
  have HB := Lib.hid hB
  have hlx : xs.length ≤ 9223372036854775807 := Nat.le_trans hA.2.1 hA.2.2.1
  have hly : ys.length ≤ 9223372036854775807 := Nat.le_trans hB.2.1 hB.2.2.1
  clear hA hB
  by_cases hlen : xs.length = ys.length
  · have hl1 := (tb_eq (xs.length : Int) ys.length (by omega)).2
    have HLen := Lib.hid hlen
    clear hlen
    go_enter Tryz.func57, Tryz.ntmps57
    go_wp2_with fail
    go_loopw [13] (fun t5 wr => ∃ (k : Nat), k ≤ xs.length ∧ t5 = .int .i64 k ∧ xs.take k = ys.take k ∧ Below w.heap.size w wr) (fun t5 _ => xs.length - (intOf t5).toNat)
    case atStart => exact ⟨0, Nat.zero_le _, rfl, rfl, Below.refl _ _⟩
    case round =>
      obtain ⟨k, hk, rfl, hso, hW⟩ := hrel
      have HS := Lib.hid hso
      have HW := Lib.hid hW
      clear hso
      by_cases hlt : k < xs.length
      · have hlt2 : k < ys.length := by have := HLen.out; omega
        have hA2 := HA.out.below hW (Nat.le_refl _)
        have hB2 := HB.out.below hW (Nat.le_refl _)
        obtain ⟨ba, oa, rfl, -⟩ := rowsAt_some hA2 (by omega)
        obtain ⟨bb, ob, rfl, -⟩ := rowsAt_some hB2 (by omega)
        obtain ⟨c0, c1, c2, c3, c4, c5, c6, c7, c8, c9⟩ := rows_cell hA2 k hlt
        obtain ⟨d0, d1, d2, d3, d4, d5, d6, d7, d8, d9⟩ := rows_cell hB2 k hlt2
        have HStep := Lib.hid (sofar_step' HS.out hlt hlt2)
        have HNo := Lib.hid (fun (e : xs = ys) => show xs[k] = ys[k] by subst e; rfl)
        generalize xs[k] = x at c0 c1 c2 c3 c4 c5 c6 c7 c8 c9 HStep HNo
        generalize ys[k] = y at d0 d1 d2 d3 d4 d5 d6 d7 d8 d9 HStep HNo
        have hnq := fun W => row_neq x y W
        clear hA2 hB2 hW
        by_cases hxy : x = y
        · have HEq := Lib.hid hxy
          simp only [decide_eq_true hxy, Bool.not_true] at hnq
          clear hxy
          go_wp2_with fail
          go_quiet (fail)
          go_wp2_with fail
          go_roundw
          case measure => simp [intOf]; omega
          case rel => exact ⟨k + 1, by omega, by go_num, HStep.out HEq.out, below_drewN HW.out _⟩
        · have HNe := Lib.hid (fun e => hxy (HNo.out e))
          simp only [decide_eq_false hxy, Bool.not_false] at hnq
          clear hxy
          go_wp2_with fail
          go_quiet (fail)
          go_wp2_with fail
          go_ret
          exact ⟨ret_bool (by rw [decide_eq_false HNe.out]), below_drewN HW.out _⟩
      · obtain rfl : k = xs.length := by omega
        go_wp2_with fail
        go_ret
        exact ⟨ret_bool (by rw [decide_eq_true (sofar_end' HS.out HLen.out)]), HW.out⟩
  · have hl1 := (tb_ne (xs.length : Int) ys.length (by omega)).2
    go_enter Tryz.func57, Tryz.ntmps57
    go_wp2_with fail
    go_ret
    exact ⟨ret_bool (by rw [decide_eq_false (fun e => hlen (by rw [e]))]), Below.refl _ _⟩
end Go.Proofs.YtaojpbgaengdpaaGreatDoor

/- Rows without some of them: track.Inside, dump.But. -/
namespace Go.Proofs.YtaojpbgaengdpaaGreatDoor

open Go.RowKit

def insideB (b s : ByteArray) : Bool := decide (b = s) || Lib.hasPrefix s.data.toList (trimL b.data.toList ++ [47])
def Rw.to (r : Rw) (k : Int) : Rw := { r with first := k }
/-- Firsts, told anew. -/
def anewL (l : List Rw) : List Rw := l.map fun r => r.to ((l.map Rw.first).idxOf r.first : Nat)
def keepB (ps : List ByteArray) (r : Rw) : Bool := ps.all fun p => !insideB p r.path
def butL (l : List Rw) (ps : List ByteArray) : List Rw := anewL (l.filter (keepB ps))
theorem anewL_len (l : List Rw) : (anewL l).length = l.length := List.length_map _
theorem anewL_snoc (l : List Rw) (r : Rw) : anewL (l ++ [r]) = anewL l ++ [r.to ((l.map Rw.first ++ [r.first]).idxOf r.first : Nat)] := by
  unfold anewL
  rw [List.map_append, List.map_append]
  congr 1
  refine List.map_congr_left fun x hx => ?_
  rw [List.map_cons, List.map_nil, idx_snoc _ _ _ (List.mem_map_of_mem hx)]
theorem keep_step {l : List Rw} {k : Nat} (hk : k < l.length) (P : Rw → Bool) : (l.take (k + 1)).filter P = if P l[k] then (l.take k).filter P ++ [l[k]] else (l.take k).filter P := by
  rw [List.take_succ_eq_append_getElem hk, List.filter_append]
  split
  · rename_i h; rw [List.filter_cons_of_pos h]; rfl
  · rename_i h; rw [List.filter_cons_of_neg h]; simp
/-- rows, and the first row of each number. -/
structure AB (B : Nat) (w : World) (m : Nat) (vo : Value) (out : List Rw) (nos : List Int) : Prop where
  o : OR w B vo out
  m : ∃ l clk, MapB w m l clk ∧ FirstOf l nos
section

variable {B : Nat} {w w' : World} {m : Nat} {vo : Value} {out : List Rw} {nos : List Int}

theorem AB.keep (h : AB B w m vo out nos) (hb : Below w.heap.size w w') : AB B w' m vo out nos := by
  obtain ⟨l, clk, hM, hF⟩ := h.m
  exact ⟨own_keep h.o hb, l, clk, hM.keep hb, hF⟩
theorem AB.yes (h : AB B w m vo out nos) {k : Int} (hk : k ∈ nos) : (Instr.lookup 80 (.map (some m)) (.int .i64 k) true).run Tryz.prog w = .ok (.tuple #[.int .i64 (nos.idxOf k : Nat), .bool true]) w := by
  obtain ⟨l, clk, hM, hF⟩ := h.m
  exact run_lookup_yes Tryz.underlying80 Tryz.underlying3 hM (by rw [hF.2 k, if_pos hk])
theorem AB.no (h : AB B w m vo out nos) {k : Int} (hk : k ∉ nos) : (Instr.lookup 80 (.map (some m)) (.int .i64 k) true).run Tryz.prog w = .ok (.tuple #[.int .i64 0, .bool false]) w := by
  obtain ⟨l, clk, hM, hF⟩ := h.m
  exact run_lookup_no Tryz.underlying80 Tryz.underlying3 hM (by rw [hF.2 k, if_neg hk]) (zero_intD w)
theorem AB.old (h : AB B w m vo out nos) {k : Int} (hk : k ∈ nos) : AB B w m vo out (nos ++ [k]) := by
  obtain ⟨l, clk, hM, hF⟩ := h.m
  exact ⟨h.o, l, clk, hM, hF.old hk⟩
theorem AB.new (h : AB B w m vo out nos) {k : Int} (hk : k ∉ nos) (hm : B ≤ m) (hB : B ≤ w.heap.size) : ∃ W, (Instr.mapUpdate 80 (.map (some m)) (.int .i64 k) (.int .i64 (nos.length : Nat))).run Tryz.prog w = .ok () W ∧
    AB B W m vo out (nos ++ [k]) ∧ (∀ B vs T, Blk w B vs T → Blk W B vs T) ∧ Below B w W := by
  obtain ⟨l, clk, hM, hF⟩ := h.m
  obtain ⟨W, h1, h2, h3, h4⟩ := step_add (w := w) Tryz.underlying80 Tryz.underlying3 hM (.int .i64 (nos.length : Nat)) (k := k) (by rw [hF.2 k, if_neg hk])
  exact ⟨W, h1, ⟨own_mod h.o h4 (fun k hk => own_map h.o hM hk), _, _, h2, hF.new hk clk⟩, h3, h4.below (fun k hk => by omega) hB⟩
theorem AB.row (h : AB B w m vo out nos) (r : Rw) (hl : out.length ≤ 1000000) (hb : B ≤ w.heap.size) :
    ∃ g3 cap3 W, (Builtin.append_ #[33, 33] 33 #[vo, .slice (some ⟨w.heap.size, 0, none⟩) 1 1]).run Tryz.prog (w.alloc (.cells (rwC r).toArray 47)) = .ok (.slice (some ⟨g3, 0, none⟩) (out.length + 1) cap3) W ∧
      AB B W m (.slice (some ⟨g3, 0, none⟩) (out.length + 1) cap3) (out ++ [r]) nos ∧ Below B w W := by
  obtain ⟨g3, cap3, W, h1, h2, h3⟩ := h.o.app r hl hb
  obtain ⟨l, clk, hM, hF⟩ := h.m
  exact ⟨g3, cap3, W, h1, ⟨h2, l, clk, map_own h.o hM h3, hF⟩, h3.below (fun _ hk => (own_obj1 h.o hk).1) hb⟩
/-- a block of one's own is written. -/
theorem AB.box (h : AB B w m vo out nos) {b : Nat} {vs : Array Value} {T : TypeId} (hb : Blk w b vs T) (hne : vo.ownBlock ≠ some b) (i : Nat) (v : Value) : AB B (w.setCell ⟨b, i, none⟩ v) m vo out nos := by
  have hm : Mod (fun k => k = b) w (w.setCell ⟨b, i, none⟩ v) := (Mod.refl (fun k => k = b) w).setCell (a := ⟨b, i, none⟩) (.inl rfl) _
  obtain ⟨l, clk, hM, hF⟩ := h.m
  refine ⟨own_mod h.o hm (fun k hk he => hne (by rw [he, hk])), l, clk, hM.setOther ⟨b, i, none⟩ _ ?_, hF⟩
  intro e
  unfold Blk at hb
  unfold MapB at hM
  rw [← e, hb] at hM
  cases hM
end

def pxR (cs : List Value) (s : ByteArray) : Prop := cs = [.string s]
theorem px_cell {w : World} {b off n c : Nat} {l : List ByteArray} (h : SliceAt w 1 pxR (some ⟨b, off, none⟩) n c l) (k : Nat) (hk : k < l.length) : w.cell? ⟨b, off + k, none⟩ = some (.string l[k]) := by
  obtain ⟨hl, -, -, h0 | ⟨b', off', he, hb, hel⟩⟩ := h
  · omega
  · injection he with he
    injection he with e1 e2
    subst e1 e2
    obtain ⟨cs, h1, h2, h3⟩ := hel k hk
    unfold pxR at h2
    subst h2
    have := h3 0 (by simp)
    simpa using this
theorem px_some {w : World} {a : Option Addr} {n c : Nat} {l : List ByteArray} (h : SliceAt w 1 pxR a n c l) (hn : 0 < n) : ∃ b off, a = some ⟨b, off, none⟩ ∧ b < w.heap.size := by
  obtain ⟨-, -, -, h0 | ⟨b', off', he, hb, -⟩⟩ := h
  · omega
  · exact ⟨b', off', he, hb⟩
set_option maxRecDepth 100000 in
theorem tinside_any (b s : ByteArray) (w : World) (hb : b.size ≤ 100000) :
    Calls Tryz.prog 54 #[.string b, .string s] w fun e w' => e = .returned (.bool (insideB b s)) ∧ w' = w := by
  have HT := Lib.hid (show Calls Tryz.prog 85 #[.string b, .string (ByteArray.mk #[47])] w fun e w' => e = .returned (.string (str (trimL b.data.toList))) ∧ w' = w from by
    refine (Tryz.strings_TrimRight_one b 47 (by decide) w (by omega)).mono ?_
    rintro e w' ⟨rfl, rfl⟩
    exact ⟨rfl, rfl⟩)
  have HP := Lib.hid (fun p => Tryz.strings_HasPrefix s p w)
  have hz : (str (trimL b.data.toList)).size ≤ 100000 := by
    rw [str_size]
    have h1 := trimL_len b.data.toList
    have h2 : b.data.toList.length = b.size := Array.length_toList
    omega
  by_cases hbs : b = s
  · have HR := Lib.hid (show insideB b s = true by unfold insideB; rw [decide_eq_true hbs]; rfl)
    subst hbs
    generalize insideB b b = r at HR ⊢
    clear HT HP hz
    go_enter Tryz.func54, Tryz.ntmps54
    go_wp2_with fail
    go_ret
    exact ⟨ret_bool HR.out.symm, rfl⟩
  · have HR := Lib.hid (show insideB b s = Lib.hasPrefix s.data.toList (str (trimL b.data.toList) ++ ByteArray.mk #[47]).data.toList by
      unfold insideB
      rw [decide_eq_false hbs, show ByteArray.mk #[47] = str [47] from rfl, str_append, str_list]
      rfl)
    have g1 := tl_ne hbs
    have g2 : (b.toList == s.toList) = false := by simpa using g1
    generalize insideB b s = r at HR ⊢
    generalize str (trimL b.data.toList) = t at HT HR hz
    have h1 : ¬ 9223372036854775807 < t.size + 1 := by omega
    clear hbs
    go_enter Tryz.func54, Tryz.ntmps54
    go_wp2_with fail
    refine HT.out.mono ?_
    rintro e w1 ⟨rfl, rfl⟩
    go_wp2_with fail
    refine (HP.out _).mono ?_
    rintro e w1 ⟨rfl, rfl⟩
    go_wp2_with fail
    go_ret
    exact ⟨ret_bool HR.out.symm, rfl⟩
set_option maxRecDepth 100000 in
set_option maxHeartbeats 4000000 in
theorem dbut_any (w : World) {a pa : Option Addr} {n c pn pc : Nat} {l : List Rw} {ps : List ByteArray} (hA : SliceAt w 10 rwQ a n c l) (hl : n ≤ 10000) (hP : SliceAt w 1 pxR pa pn pc ps) (hp : ∀ p ∈ ps, p.size ≤ 100000) :
    Calls Tryz.prog 19 #[.slice a n c, .slice pa pn pc] w fun e w' => ∃ v, e = .returned v ∧ OR w' w.heap.size v (butL l ps) ∧ Below w.heap.size w w' := by
  obtain rfl := hA.1
  obtain rfl := hP.1
  have HA := Lib.hid hA
  have HP := Lib.hid hP
  have HPs := Lib.hid hp
  have hpl : ps.length ≤ 9223372036854775807 := Nat.le_trans hP.2.1 hP.2.2.1
  have hmm := @run_makeMap Tryz.prog
  have hM0 := Lib.hid (show AB w.heap.size (w.alloc (.map #[] 0)) w.heap.size (.slice none 0 0) (anewL (((l.take 0).filter (keepB ps)))) (((l.take 0).filter (keepB ps)).map Rw.first) from
    ⟨OR.nil _ _, [], 0, World.alloc_heap_new _ _, FirstOf.nil⟩)
  have hB0 := Lib.hid (balloc (Below.refl w.heap.size w) (.map #[] 0))
  have HE := Lib.hid (show butL l ps = anewL ((l.take l.length).filter (keepB ps)) by rw [List.take_length]; rfl)
  generalize butL l ps = Z at HE ⊢
  clear hA hP hp
  go_enter Tryz.func19, Tryz.ntmps19
  go_wp2_with fail
  go_step3
  go_wp2_with fail
  go_step3
  go_wp2_with fail
  clear hmm
  go_loopw [5, 16] (fun t5 t16 wr => ∃ k : Nat, k ≤ l.length ∧ t16 = .int .i64 k ∧ AB w.heap.size wr w.heap.size t5 (anewL ((l.take k).filter (keepB ps))) (((l.take k).filter (keepB ps)).map Rw.first) ∧ Below w.heap.size w wr) (fun _ t16 _ => l.length - (intOf t16).toNat)
  case atStart => exact ⟨0, Nat.zero_le _, rfl, hM0.out, hB0.out⟩
  case round =>
    obtain ⟨k, hk, rfl, hD, hb⟩ := hrel
    have HD := Lib.hid hD
    have HB := Lib.hid hb
    by_cases hlt : k < l.length
    · have hA2 := HA.out.below hb (Nat.le_refl _)
      obtain ⟨ba, oa, rfl, -⟩ := rowsAt_some hA2 (by omega)
      obtain ⟨c0, c1, c2, c3, c4, c5, c6, c7, c8, c9⟩ := rows_cell hA2 k hlt
      have HStep := Lib.hid (keep_step hlt (keepB ps))
      have hlen : ((l.take k).filter (keepB ps)).length ≤ 10000 := by
        have h1 := List.length_filter_le (keepB ps) (l.take k)
        rw [List.length_take] at h1
        omega
      generalize (l.take k).filter (keepB ps) = kept at HD hD HStep hlen
      generalize l[k] = r at c0 c1 c2 c3 c4 c5 c6 c7 c8 c9 HStep
      obtain ⟨oo, oc, ht5, ho1, ho2, -⟩ := own_form hD.o
      subst ht5
      have hX := Blk.new wr (rwC r).toArray 47
      have hbX := balloc hb (.cells (rwC r).toArray 47)
      have hDX := hD.keep ((Below.refl _ wr).alloc (Nat.le_refl _) (.cells (rwC r).toArray 47))
      have hne : (Value.slice oo (anewL kept).length oc).ownBlock ≠ some wr.heap.size := fun he => by
        obtain ⟨-, cur, hc⟩ := own_obj1 hD.o he
        have := (Array.getElem?_eq_some_iff.1 hc).1
        omega
      have HNe := Lib.hid hne
      rw [anewL_len] at hDX ho1 HNe ⊢
      simp only [rwC] at hX hbX hDX
      clear hD hA2 hb hne
      go_upto_region 6 with fail
      generalize wr.alloc (.cells #[.string r.path, .int .i64 r.kind, .int .i64 r.mode, .int .i64 r.uid, .int .i64 r.gid, .int .i64 r.mtime, .int .i64 r.ctime, .int .i64 r.dev, .int .i64 r.first, .string r.data] 47) = X at hX hbX hDX ⊢
      have hbw : w.heap.size ≤ wr.heap.size := HB.out.size
      generalize wr.heap.size = bx at hX HNe hbw ⊢
      have HX := Lib.hid hX
      have HBX := Lib.hid hbX
      have HDX := Lib.hid hDX
      have hPX := HP.out.below hbX (Nat.le_refl _)
      obtain ⟨xc, xf, xz⟩ := hX.facts
      clear c0 c1 c2 c3 c4 c5 c6 c7 c8 c9 hX hDX
      go_wp2_with fail
      go_loopw [22] (fun t22 w2 => ∃ j : Nat, j ≤ ps.length ∧ t22 = .int .i64 j ∧ w2 = X ∧ (ps.take j).all (fun p => !insideB p r.path) = true) (fun t22 _ => ps.length - (intOf t22).toNat)
      case atStart => exact ⟨0, Nat.zero_le _, rfl, rfl, rfl⟩
      case round =>
        obtain ⟨j, hj, rfl, hw, hall⟩ := hrel
        have hw := hw.symm
        subst hw
        have HAll := Lib.hid hall
        clear hall
        by_cases hlt2 : j < ps.length
        · obtain ⟨pb, po, rfl, -⟩ := px_some hPX (by omega)
          have hpc := px_cell hPX j hlt2
          have HI := Lib.hid (fun w3 => tinside_any ps[j] r.path w3 (HPs.out _ (List.getElem_mem _)))
          have HSt := Lib.hid (show (ps.take (j + 1)).all (fun p => !insideB p r.path) = ((ps.take j).all (fun p => !insideB p r.path) && !insideB ps[j] r.path) by
            rw [List.take_succ_eq_append_getElem hlt2, List.all_append]; simp)
          have HMe := Lib.hid (show ps[j] ∈ ps from List.getElem_mem _)
          generalize ps[j] = q at hpc HI HSt HMe
          clear hPX hbX
          go_wp2_with fail
          refine (HI.out _).mono ?_
          rintro e w3 ⟨rfl, rfl⟩
          cases hin : insideB q r.path with
          | true =>
            have HK := Lib.hid (show (l.take (k + 1)).filter (keepB ps) = kept by
              rw [HStep.out, if_neg]
              unfold keepB
              rw [List.all_eq_true]
              intro h
              have := h q HMe.out
              rw [hin] at this
              cases this)
            clear hin
            go_wp2_with fail
            go_roundw
            case measure => simp [intOf]; omega
            case rel => exact ⟨k + 1, by omega, by go_num, by rw [HK.out]; exact HDX.out, HBX.out⟩
          | false =>
            have HA3 := Lib.hid (show (ps.take (j + 1)).all (fun p => !insideB p r.path) = true by rw [HSt.out, HAll.out, hin]; rfl)
            clear hin
            go_wp2_with fail
            go_roundw
            case measure => simp [intOf]; omega
            case rel => exact ⟨j + 1, by omega, by go_num, by first | rfl | trivial, HA3.out⟩
        · obtain rfl : j = ps.length := by omega
          have HK := Lib.hid (show (l.take (k + 1)).filter (keepB ps) = kept ++ [r] by
            rw [HStep.out, if_pos]
            unfold keepB
            have := HAll.out
            rwa [List.take_length] at this)
          have HAn := Lib.hid (anewL_snoc kept r)
          have hkl : (kept.map Rw.first).length = kept.length := List.length_map _
          obtain ⟨fs, hfs⟩ : ∃ fs, kept.map Rw.first = fs := ⟨_, rfl⟩
          rw [hfs] at HDX HAn hkl
          have HMp := Lib.hid (show (kept ++ [r]).map Rw.first = fs ++ [r.first] by rw [List.map_append, hfs]; rfl)
          clear hPX hbX hfs
          by_cases hin : r.first ∈ fs
          · have hlk := HDX.out.yes hin
            have HD1 := HDX.out.old hin
            rw [← idx_snoc fs r.first r.first hin] at hlk
            obtain ⟨fi, hfi⟩ : ∃ fi, (fs ++ [r.first]).idxOf r.first = fi := ⟨_, rfl⟩
            rw [hfi] at hlk HAn
            have hXb := HX.out.set 8 (.int .i64 (fi : Nat))
            have hDb := HD1.box HX.out HNe.out 8 (.int .i64 (fi : Nat))
            have hbs : Below w.heap.size w (X.setCell ⟨bx, 8, none⟩ (.int .i64 (fi : Nat))) := HBX.out.trans (((Mod.refl (fun k => k = bx) X).setCell (a := ⟨bx, 8, none⟩) (.inl rfl) _).below (fun k hk => by rw [hk]; exact hbw) HBX.out.size)
            clear hin hfi HD1
            go_upto_region 16 with fail
            generalize X.setCell ⟨bx, 8, none⟩ (.int .i64 (fi : Nat)) = Q at hXb hDb hbs ⊢
            simp only [List.setIfInBounds_toArray, List.set_cons_zero, List.set_cons_succ] at hXb
            obtain ⟨qc, qf, qz⟩ := hXb.facts
            obtain ⟨g9, cap9, W9, hrun9, hD9, hb9⟩ := hDb.row (r.to (fi : Nat)) (by rw [anewL_len]; omega) hbs.size
            simp only [rwC, Rw.to] at hrun9
            rw [anewL_len] at hrun9 hD9
            have HR9 := Lib.hid hrun9
            have HD9 := Lib.hid hD9
            have HB9 := Lib.hid (hbs.trans hb9)
            clear hrun9 hD9 hb9 hDb hbs hXb xc xf xz
            go_wp2_with (at_builtin; refine wpList_app_run rfl rfl rfl rfl HR9.out ?_)
            go_roundw
            case measure => simp [intOf]; omega
            case rel => exact ⟨k + 1, by omega, by go_num, by rw [HK.out, HAn.out, HMp.out]; exact HD9.out, HB9.out⟩
          · have hlk := HDX.out.no hin
            obtain ⟨W2, hup, HD1, hB2, hbel⟩ := HDX.out.new hin (Nat.le_refl _) HBX.out.size
            have hid : (fs ++ [r.first]).idxOf r.first = kept.length := by
              rw [List.idxOf_append, if_neg hin, ← hkl]
              simp
            rw [hid] at HAn
            rw [hkl] at hup
            have hXb := (hB2 _ _ _ HX.out).set 8 (.int .i64 (kept.length : Nat))
            have hDb := HD1.box (hB2 _ _ _ HX.out) HNe.out 8 (.int .i64 (kept.length : Nat))
            have hbs : Below w.heap.size w (W2.setCell ⟨bx, 8, none⟩ (.int .i64 (kept.length : Nat))) := (HBX.out.trans hbel).trans (((Mod.refl (fun k => k = bx) W2).setCell (a := ⟨bx, 8, none⟩) (.inl rfl) _).below (fun k hk => by rw [hk]; exact hbw) (HBX.out.trans hbel).size)
            obtain ⟨yc, yf, yz⟩ := (hB2 _ _ _ HX.out).facts
            clear hin HD1 hB2 hbel hid
            go_upto_region 16 with fail
            generalize W2.setCell ⟨bx, 8, none⟩ (.int .i64 (kept.length : Nat)) = Q at hXb hDb hbs ⊢
            simp only [List.setIfInBounds_toArray, List.set_cons_zero, List.set_cons_succ] at hXb
            obtain ⟨qc, qf, qz⟩ := hXb.facts
            obtain ⟨g9, cap9, W9, hrun9, hD9, hb9⟩ := hDb.row (r.to (kept.length : Nat)) (by rw [anewL_len]; omega) hbs.size
            simp only [rwC, Rw.to] at hrun9
            rw [anewL_len] at hrun9 hD9
            have HR9 := Lib.hid hrun9
            have HD9 := Lib.hid hD9
            have HB9 := Lib.hid (hbs.trans hb9)
            clear hrun9 hD9 hb9 hDb hbs hXb xc xf xz yc yf yz
            go_wp2_with (at_builtin; refine wpList_app_run rfl rfl rfl rfl HR9.out ?_)
            go_roundw
            case measure => simp [intOf]; omega
            case rel => exact ⟨k + 1, by omega, by go_num, by rw [HK.out, HAn.out, HMp.out]; exact HD9.out, HB9.out⟩
    · obtain rfl : k = l.length := by omega
      clear hD hb
      go_wp2_with fail
      try rw [Exit.noGoto_ret]
      go_ret
      exact ⟨_, rfl, by rw [HE.out]; exact HD.out.o, HB.out⟩
end Go.Proofs.YtaojpbgaengdpaaGreatDoor
