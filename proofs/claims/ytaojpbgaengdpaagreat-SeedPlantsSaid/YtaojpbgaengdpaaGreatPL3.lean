/- Texts of the proof, part 3. -/
import Derived.Deep.AppendLies
import Derived.Maps.AppendAt
import Derived.Laws.OwnMore
import Derived.OwnWalk
import Derived.Test.YtaojpbgaengdpaaGreatPL1
import Derived.Test.YtaojpbgaengdpaaGreatPL2
set_option linter.unusedVariables false
set_option linter.unusedSimpArgs false
/- Slices of the call's own, element by element: append, store, what they read as. No program in sight. -/
namespace Go.Proofs.YtaojpbgaengdpaaGreat

open Go.RowKit

section

variable {α : Type} {enc : α → List Value} {sz : Nat}

theorem flat_len (hl : ∀ x, (enc x).length = sz) : ∀ (xs : List α), (xs.flatMap enc).length = xs.length * sz
  | [] => by simp
  | x :: xs => by rw [List.flatMap_cons, List.length_append, flat_len hl xs, hl, List.length_cons, Nat.succ_mul, Nat.add_comm]
theorem flat_get (hl : ∀ x, (enc x).length = sz) : ∀ (xs : List α) (i j : Nat) (hi : i < xs.length), j < sz → (xs.flatMap enc)[i * sz + j]? = (enc xs[i])[j]?
  | [], i, j, hi, _ => by simp at hi
  | x :: xs, 0, j, _, hj => by
    rw [List.flatMap_cons, Nat.zero_mul, Nat.zero_add, List.getElem?_append_left (by rw [hl]; exact hj)]
    rfl
  | x :: xs, i + 1, j, hi, hj => by
    rw [List.flatMap_cons, List.getElem?_append_right (by rw [hl, Nat.succ_mul]; omega), hl, show (i + 1) * sz + j - sz = i * sz + j by rw [Nat.succ_mul]; omega]
    exact flat_get hl xs i j (by simpa using hi) hj

/-- the values vs, from place o on. -/
def setAll (l : List Value) (o : Nat) : List Value → List Value
  | [] => l
  | v :: vs => setAll (l.set o v) (o + 1) vs
theorem setAll_append (xs : List Value) : ∀ (vs : List Value) (l : List Value) (o : Nat), setAll (xs ++ l) (xs.length + o) vs = xs ++ setAll l o vs
  | [], _, _ => rfl
  | v :: vs, l, o => by
    unfold setAll
    rw [List.set_append_right _ _ (by omega), show xs.length + o - xs.length = o by omega, Nat.add_assoc]
    exact setAll_append xs vs _ _
theorem setAll_head : ∀ (vs bs rest : List Value), bs.length = vs.length → setAll (bs ++ rest) 0 vs = vs ++ rest
  | [], bs, rest, h => by
    simp at h; subst h; rfl
  | v :: vs, [], rest, h => by simp at h
  | v :: vs, b :: bs, rest, h => by
    unfold setAll
    rw [List.cons_append, List.set_cons_zero]
    have := setAll_append [v] vs (bs ++ rest) 0
    simp only [List.length_singleton, Nat.add_zero, List.singleton_append] at this
    rw [Nat.zero_add, this, setAll_head vs bs rest (by simpa using h)]
    rfl
theorem setAll_flat (hl : ∀ x, (enc x).length = sz) (y : α) : ∀ (xs : List α) (k : Nat), k < xs.length → setAll (xs.flatMap enc) (k * sz) (enc y) = (xs.set k y).flatMap enc
  | [], k, h => by simp at h
  | x :: xs, 0, _ => by
    rw [List.flatMap_cons, Nat.zero_mul, setAll_head _ _ _ (by rw [hl, hl])]
    rfl
  | x :: xs, k + 1, h => by
    rw [List.flatMap_cons, show (k + 1) * sz = (enc x).length + k * sz by rw [hl, Nat.succ_mul, Nat.add_comm], setAll_append, setAll_flat hl y xs k (by simpa using h)]
    rfl
theorem setAll_take (N : Nat) : ∀ (vs l : List Value) (o : Nat), (setAll l o vs).take N = setAll (l.take N) o vs
  | [], _, _ => rfl
  | v :: vs, l, o => by
    unfold setAll
    rw [setAll_take N vs]
    congr 1
    exact List.take_set
theorem setAll_length : ∀ (vs l : List Value) (o : Nat), (setAll l o vs).length = l.length
  | [], _, _ => rfl
  | v :: vs, l, o => by unfold setAll; rw [setAll_length vs, List.length_set]
end

/-- the cells vs stored one behind the other. -/
def putRow (w : World) (g o : Nat) : List Value → World
  | [] => w
  | v :: vs => putRow (w.setCell ⟨g, o, none⟩ v) g (o + 1) vs
theorem putRow_blk {T : TypeId} {g : Nat} : ∀ (vs : List Value) (w : World) (o : Nat) (cur : Array Value), Blk w g cur T → Blk (putRow w g o vs) g (setAll cur.toList o vs).toArray T
  | [], w, o, cur, h => by simpa [putRow, setAll] using h
  | v :: vs, w, o, cur, h => by
    unfold putRow setAll
    have := putRow_blk vs _ (o + 1) _ (h.set o v)
    simpa using this
theorem putRow_mod {g : Nat} : ∀ (vs : List Value) (w : World) (o : Nat), Mod (fun k => k = g) w (putRow w g o vs)
  | [], _, _ => Mod.refl _ _
  | v :: vs, w, o => ((Mod.refl (fun k => k = g) w).setCell (a := ⟨g, o, none⟩) (.inl rfl) v).trans (putRow_mod vs _ _)

section

variable {w w' : World} {base : Nat} {e : TypeId} {sz n : Nat} {v : Value} {xs : List Value}

theorem own_mod {S : Nat → Prop} (h : w.ownsRow base e sz v n xs) (hm : Mod S w w') (hs : ∀ k, S k → v.ownBlock ≠ some k) : w'.ownsRow base e sz v n xs := by
  refine ⟨h.1, h.2.imp id fun ⟨g, cap, cur, hv, hb, hg, rest⟩ => ⟨g, cap, cur, hv, hb, ?_, rest⟩⟩
  subst hv
  rw [hm.block g (Array.getElem?_eq_some_iff.1 hg).1 (fun h => hs g h rfl)]
  exact hg
theorem own_below {N : Nat} (h : w.ownsRow base e sz v n xs) (hm : Below N w w') (hN : w.heap.size ≤ N) : w'.ownsRow base e sz v n xs := by
  refine ⟨h.1, h.2.imp id fun ⟨g, cap, cur, hv, hb, hg, rest⟩ => ⟨g, cap, cur, hv, hb, ?_, rest⟩⟩
  rw [hm.block g (Nat.lt_of_lt_of_le (Array.getElem?_eq_some_iff.1 hg).1 hN)]
  exact hg
theorem own_grown_mod {row : Option Nat} (h : w.grownBy w' row) : Mod (fun k => row = some k) w w' :=
  ⟨h.os, h.tape, h.output, h.size, fun k hk hs => h.block k hk (fun e => hs e.symm)⟩
theorem own_form (h : w.ownsRow base e sz v n xs) : ∃ a cap, v = .slice a n cap ∧ n ≤ cap ∧ cap ≤ 9223372036854775807 ∧ ((a = none ∧ n = 0 ∧ cap = 0) ∨ ∃ g, a = some ⟨g, 0, none⟩ ∧ base ≤ g ∧ g < w.heap.size) := by
  rcases h.2 with ⟨rfl, rfl⟩ | ⟨g, cap, cur, rfl, hb, hg, h1, h2, -, -⟩
  · exact ⟨none, 0, rfl, Nat.le_refl _, by omega, .inl ⟨rfl, rfl, rfl⟩⟩
  · exact ⟨_, cap, rfl, h1, h2, .inr ⟨g, rfl, hb, (Array.getElem?_eq_some_iff.1 hg).1⟩⟩

theorem own_slice {α : Type} {enc : α → List Value} {R : List Value → α → Prop} {a : Option Addr} {cap : Nat} {ys : List α} (hpos : 0 < sz) (hl : ∀ x, (enc x).length = sz) (hR : ∀ x, R (enc x) x)
    (h : w.ownsRow base e sz (.slice a n cap) n (ys.flatMap enc)) : SliceAt w sz R a n cap ys := by
  have hn : ys.length = n := by
    have := h.1
    rw [flat_len hl] at this
    exact Nat.eq_of_mul_eq_mul_right hpos this
  rcases h.2 with ⟨hv, rfl⟩ | ⟨g, cap', cur, hv, hb, hg, h1, h2, h3, h4⟩
  · injection hv with e1 e2 e3
    subst e1 e3
    exact ⟨hn, Nat.le_refl _, by omega, .inl rfl⟩
  · injection hv with e1 e2 e3
    subst e1 e3
    refine ⟨hn, h1, h2, .inr ⟨g, 0, rfl, (Array.getElem?_eq_some_iff.1 hg).1, fun i hi => ⟨enc ys[i], hl _, hR _, fun j hj => ?_⟩⟩⟩
    rw [hl] at hj
    have hget := flat_get hl ys i j hi hj
    rw [← h4] at hget
    rw [List.getElem?_take_of_lt (by have : (i + 1) * sz ≤ n * sz := Nat.mul_le_mul_right _ (by omega); rw [Nat.succ_mul] at this; omega)] at hget
    rw [World.cell?, hg]
    simp only [Nat.zero_add]
    rw [Array.getElem?_toList] at hget
    rw [hget, List.getElem?_eq_getElem (by rw [hl]; exact hj)]
    rfl

/-- rows[k] = y. -/
theorem own_put {α : Type} {enc : α → List Value} {g cap : Nat} {ys : List α} (hpos : 0 < sz) (hl : ∀ x, (enc x).length = sz) (h : w.ownsRow base e sz (.slice (some ⟨g, 0, none⟩) n cap) n (ys.flatMap enc)) (k : Nat) (hk : k < n) (y : α) :
    (putRow w g (k * sz) (enc y)).ownsRow base e sz (.slice (some ⟨g, 0, none⟩) n cap) n ((ys.set k y).flatMap enc) := by
  have hn : ys.length = n := by
    have := h.1
    rw [flat_len hl] at this
    exact Nat.eq_of_mul_eq_mul_right hpos this
  refine ⟨by rw [flat_len hl, List.length_set, hn], .inr ?_⟩
  rcases h.2 with ⟨hv, rfl⟩ | ⟨g', cap', cur, hv, hb, hg, h1, h2, h3, h4⟩
  · cases hv
  · injection hv with e1 e2 e3
    injection e1 with e1
    injection e1 with e1
    subst e1 e3
    refine ⟨g, cap, _, rfl, hb, putRow_blk _ _ _ _ hg, h1, h2, ?_, ?_⟩
    · rw [List.size_toArray, setAll_length, Array.length_toList, h3]
    · rw [setAll_take, h4, setAll_flat hl y ys k (by omega)]
end

section

variable {P : Program} {w : World} {base : Nat} {e t : TypeId} {sz by_ n : Nat} {v : Value} {xs : List Value} {i : TypeInfo} {z : Value}

/-- append(v, news..): the news lie from ad on. -/
theorem step_app (ty : TypeId) (ht : P.underlying t = some (.slice e)) (hi : P.info? e = some i) (hz : i.zero = some z) (hsize : i.size = sz) (hby : i.bytes = by_) (hzs : z.cells.size = sz) (hsz : 0 < sz)
    (hown : w.ownsRow base e sz v n xs) (ad : Addr) (m c : Nat) (news : List Value) (hl : news.length = m * sz) (hnews : ∀ j u, news[j]? = some u → w.cell? (ad.add j) = some u) (h1 : ∀ u ∈ news, u.oneCell' = true)
    (hm : 0 < m) (h63 : n + m ≤ maxLen) (hbytes : (n + m) * by_ ≤ 140737488355328) (hbase : base ≤ w.heap.size) :
    ∃ g cap W, (Builtin.append_ #[t, t] ty #[v, .slice (some ad) m c]).run P w = .ok (.slice (some ⟨g, 0, none⟩) (n + m) cap) W ∧
      W.ownsRow base e sz (.slice (some ⟨g, 0, none⟩) (n + m) cap) (n + m) (xs ++ news) ∧ Mod (fun k => v.ownBlock = some k) w W ∧ (v.ownBlock = some g ∨ g = w.heap.size) := by
  obtain ⟨g, cap, W, h2, h3, h4, h5, -⟩ := run_append_lies w t ty base e i z sz by_ ht hi hz hsize hby hzs hsz v n xs hown ad m c news hl hnews h1 hm h63 hbytes hbase _ rfl
  exact ⟨g, cap, W, h2, h3, own_grown_mod h4, h5⟩
theorem step_app_nil (ty : TypeId) (ht : P.underlying t = some (.slice e)) (hi : P.info? e = some i) (hown : w.ownsRow base e sz v n xs) (a : Option Addr) (c : Nat) :
    (Builtin.append_ #[t, t] ty #[v, .slice a 0 c]).run P w = .ok v w := by
  rcases hown.2 with ⟨rfl, rfl⟩ | ⟨g, cap, cur, rfl, _, _, hnc, _⟩
  · cases a <;> simp [Builtin.append_, run_underlying ht, sizeOf, typeInfo, hi, Builtin.lenOf, Builtin.firstCells, loadCells, loadCellsFrom]
  · cases a <;> simp [Builtin.append_, run_underlying ht, sizeOf, typeInfo, hi, Builtin.lenOf, Builtin.firstCells, hnc, storeCells, loadCells, loadCellsFrom]
/-- append(v, news..), v no nil slice, whatever number of news. -/
theorem step_app_any {g0 c0 : Nat} (ty : TypeId) (ht : P.underlying t = some (.slice e)) (hi : P.info? e = some i) (hz : i.zero = some z) (hsize : i.size = sz) (hby : i.bytes = by_) (hzs : z.cells.size = sz) (hsz : 0 < sz)
    (hown : w.ownsRow base e sz (.slice (some ⟨g0, 0, none⟩) n c0) n xs) (ad : Addr) (m c : Nat) (news : List Value) (hl : news.length = m * sz) (hnews : ∀ j u, news[j]? = some u → w.cell? (ad.add j) = some u) (h1 : ∀ u ∈ news, u.oneCell' = true)
    (h63 : n + m ≤ maxLen) (hbytes : (n + m) * by_ ≤ 140737488355328) (hbase : base ≤ w.heap.size) :
    ∃ g cap W, (Builtin.append_ #[t, t] ty #[.slice (some ⟨g0, 0, none⟩) n c0, .slice (some ad) m c]).run P w = .ok (.slice (some ⟨g, 0, none⟩) (n + m) cap) W ∧
      W.ownsRow base e sz (.slice (some ⟨g, 0, none⟩) (n + m) cap) (n + m) (xs ++ news) ∧ Mod (fun k => k = g0) w W ∧ (g = g0 ∨ g = w.heap.size) := by
  rcases Nat.eq_zero_or_pos m with rfl | hm
  · have hn : news = [] := List.eq_nil_of_length_eq_zero (by simpa using hl)
    subst hn
    exact ⟨g0, c0, w, step_app_nil ty ht hi hown _ _, by simpa using hown, Mod.refl _ _, .inl rfl⟩
  · obtain ⟨g, cap, W, h1, h2, h3, h4⟩ := step_app ty ht hi hz hsize hby hzs hsz hown ad m c news hl hnews h1 hm h63 hbytes hbase
    refine ⟨g, cap, W, h1, h2, h3.mono (fun k hk => ?_), h4.imp (fun h => ?_) id⟩
    · simpa [Value.ownBlock] using hk.symm
    · simpa [Value.ownBlock] using h.symm
theorem own_empty (w : World) (hb : base ≤ w.heap.size) : (w.alloc (.cells #[] e)).ownsRow base e sz (.slice (some ⟨w.heap.size, 0, none⟩) 0 0) 0 [] :=
  World.ownsRow_made w #[] 0 hb (Nat.zero_le _) (by simp)
/-- part of an own row, as news for an append. -/
theorem own_part {α : Type} {enc : α → List Value} {g cap : Nat} {ys : List α} (hpos : 0 < sz) (hl : ∀ x, (enc x).length = sz) (h : w.ownsRow base e sz (.slice (some ⟨g, 0, none⟩) n cap) n (ys.flatMap enc)) (lo hi' : Nat) (hlo : lo + hi' ≤ n) :
    ∀ j u, (((ys.drop lo).take hi').flatMap enc)[j]? = some u → w.cell? ((⟨g, lo * sz, none⟩ : Addr).add j) = some u := by
  intro j u hu
  have hn : ys.length = n := by
    have := h.1
    rw [flat_len hl] at this
    exact Nat.eq_of_mul_eq_mul_right hpos this
  have hlt : j < (((ys.drop lo).take hi').flatMap enc).length := (List.getElem?_eq_some_iff.1 hu).1
  rw [flat_len hl, List.length_take, List.length_drop] at hlt
  have hdiv : j = j / sz * sz + j % sz := by rw [Nat.mul_comm]; exact (Nat.div_add_mod j sz).symm
  have hm := Nat.mod_lt j hpos
  have hq : j / sz < ((ys.drop lo).take hi').length := by
    rw [List.length_take, List.length_drop]
    exact Nat.div_lt_of_lt_mul (by rw [Nat.mul_comm]; exact hlt)
  have h1 := flat_get hl ((ys.drop lo).take hi') (j / sz) (j % sz) hq hm
  rw [← hdiv, hu] at h1
  rw [List.length_take, List.length_drop] at hq
  have hq1 : j / sz < hi' := Nat.lt_of_lt_of_le hq (Nat.min_le_left _ _)
  have hq2 : lo + j / sz < ys.length := Nat.lt_of_lt_of_le (Nat.add_lt_add_left hq1 lo) (by rw [hn]; exact hlo)
  clear hq hlt
  have hs := own_slice (R := fun cs x => cs = enc x) hpos hl (fun _ => rfl) h
  obtain ⟨-, -, -, h0 | ⟨b, off, he, hb, hel⟩⟩ := hs
  · exact absurd hq2 (by rw [hn, h0]; exact Nat.not_lt_zero _)
  · injection he with he
    injection he with e1 e2
    subst e1 e2
    obtain ⟨cs, h2, h3, h4⟩ := hel (lo + j / sz) hq2
    subst h3
    have h5 := h4 (j % sz) (by rw [hl]; exact hm)
    rw [addr_add]
    rw [List.getElem_take, List.getElem_drop] at h1
    rw [List.getElem?_eq_getElem (by rw [hl]; exact hm)] at h1
    rw [show lo * sz + j = 0 + (lo + j / sz) * sz + j % sz by rw [Nat.add_mul]; omega, h5]
    exact h1.symm
end

section

variable {P : Program} {ops : Array Oper} {rest : List Oper} {o : Oper} {a : Act} {w W : World} {Q : Exit → Act → World → Prop} {s x : Operand} {t : TypeId} {v y r : Value}

/-- an append whose run is known. -/
theorem wpList_app_run (hgd : o.guard = none) (ho : o.op = .call { callee := .builtin .append, args := #[s, x], argTypes := #[t, t] }) (hs : a.eval s = v) (hx : a.eval x = y)
    (hrun : (Builtin.append_ #[t, t] o.type #[v, y]).run P w = .ok r W) (h : wpList P ops Q rest (a.put o.dst r) W) : wpList P ops Q (o :: rest) a w :=
  wpList_plain hgd fun K hK => by
    unfold Oper.wp execOp
    simp only [ho, resolve, invoke, builtin, Sem.run_bind, Sem.run_pure, Result.andThen_ok, List.map_toArray, List.map_cons, List.map_nil, hs, hx, hrun]
    exact hK _ _ h
theorem step_app_run {K : Act → World → Prop} {E : Prop} (hgd : o.guard = none) (ho : o.op = .call { callee := .builtin .append, args := #[s, x], argTypes := #[t, t] }) (hs : a.eval s = v) (hx : a.eval x = y)
    (hrun : (Builtin.append_ #[t, t] o.type #[v, y]).run P w = .ok r W) (h : K (a.put o.dst r) W) :
    if Region.wanted o (yielded ops a.tmps) = true then Oper.wp P o a w K Q else E := by
  have hw : Region.wanted o (yielded ops a.tmps) = true := by simp [Region.wanted, hgd]
  rw [if_pos hw]
  unfold Oper.wp execOp
  simp only [ho, resolve, invoke, builtin, Sem.run_bind, Sem.run_pure, Result.andThen_ok, List.map_toArray, List.map_cons, List.map_nil, hs, hx, hrun]
  exact h
end

end Go.Proofs.YtaojpbgaengdpaaGreat
