/- What a law's frame wants beside the kit: all arguments read behind the call as they read before it, where nothing below the heap's old size has turned; integers in a struct or an array by value. No program in sight. -/
import Derived.Test.YtojmbjkeckdilaaLib
import Derived.ProofKit
import Derived.OpenShut
import Derived.Lib.SmallJoins
namespace Go.Proofs.Ytojmbjkeckdilaa
open Go.RowKit Go.ChangeShapes Go.WideShapes Go.ChangeAt

section
variable {H : Type} {enc : TypeId × Value → H} {P : Program}
theorem trodAll_below (hl : laidOutB P = true) {W W' : World} (bel : Below W.heap.size W W') :
    ∀ (ts : List TypeId) (vs : List Value) (ds : List (DataW H)) (p : List MemPlace), (ts.all fun t => P.readableRec t && decide (t < P.types.size)) = true →
      DataW.TrodAll enc P W 0 (fun _ => true) true ts vs ds p → DataW.TrodAll enc P W' 0 (fun b => decide (b < W.heap.size)) true ts vs ds p
  | [], vs, ds, p, _, h => by
    obtain ⟨rfl, rfl, rfl⟩ := trodAll_nil h
    exact trodAll_mk0
  | t :: ts, vs, ds, p, hr, h => by
    obtain ⟨v, vs', d, ds', p1, p2, rfl, rfl, rfl, h1, h2⟩ := trodAll_cons h
    simp only [List.all_cons, Bool.and_eq_true, decide_eq_true_eq] at hr
    obtain ⟨⟨hr1, hr2⟩, hr3⟩ := hr
    have lt : ∀ x ∈ p1, x.block < W.heap.size := by obtain ⟨m, hm⟩ := h1; exact DataW.trod_lt m _ _ _ hm
    exact trodAll_cons_mk (Below.trod hl hr1 hr2 h1 bel lt) (trodAll_below hl bel ts vs' ds' p2 hr3 h2)
end

section
variable {P : Program} {w : World} {r : Reach} {base : Nat} {t : TypeId}
/-- an int's range. -/
def I64 (a : Int) : Prop := -9223372036854775808 ≤ a ∧ a ≤ 9223372036854775807
theorem cell_i64 {v : Value} (ht : P.underlying t = some (.int .i64)) (h : Cell.okWide P w r base t v) : ∃ a, v = .int .i64 a ∧ I64 a := by
  simp only [Cell.okWide, ht] at h
  cases v <;> simp [Cell.ok, ht] at h
  obtain ⟨rfl, h1, h2⟩ := h
  simp [IntKind.min, IntKind.max, IntKind.signed, IntKind.bits] at h1 h2
  exact ⟨_, rfl, by unfold I64; omega⟩
/-- a struct or an array of integers alone, by value. -/
theorem row_i64 {cs : Array Value} {ts : List TypeId} (h : Row.okWide P w r base t cs) (hts : P.cellTypes P.depth t = some ts) (hall : (ts.all fun u => match P.underlying u with | some (.int .i64) => true | _ => false) = true) (i : Nat) (v : Value) (hv : cs[i]? = some v) :
    ∃ a, v = .int .i64 a ∧ I64 a := by
  obtain ⟨ts', h1, -, h3⟩ := h
  rw [hts] at h1
  obtain rfl := Option.some.inj h1
  obtain ⟨u, hu, hc⟩ := h3 i v hv
  have hm : u ∈ ts := List.mem_of_getElem? hu
  have := List.all_eq_true.1 hall u hm
  split at this
  · rename_i e; exact cell_i64 e hc
  · cases this
theorem struct_ok {v : Value} {fs : Array Field} (ht : P.underlying t = some (.struct fs)) (h : Value.okWide P w r base t v) : ∃ cs, v = .agg cs ∧ cs.size = P.cellsOf t ∧ Row.okWide P w r base t cs := by
  simpa only [Value.okWide, ht] using h
theorem array_ok {v : Value} {n : Nat} {e : TypeId} (ht : P.underlying t = some (.array n e)) (h : Value.okWide P w r base t v) : ∃ cs, v = .agg cs ∧ cs.size = P.cellsOf t ∧ Row.okWide P w r base t cs := by
  simpa only [Value.okWide, ht] using h
theorem i64_of_wf {a : Int} (h : (Lit.int .i64 a).wf = true) : I64 a := by
  simp [Lit.wf, IntKind.min, IntKind.max, IntKind.signed, IntKind.bits] at h
  unfold I64; omega
end
end Go.Proofs.Ytojmbjkeckdilaa
