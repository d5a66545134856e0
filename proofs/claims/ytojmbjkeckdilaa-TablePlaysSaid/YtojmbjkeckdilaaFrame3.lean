/- How a node, and an entry of a directory, read. -/
import Derived.Test.YtojmbjkeckdilaaTableD
namespace Go.Proofs.Ytojmbjkeckdilaa
open Go.RowKit Go.ChangeShapes Go.WideShapes Go.ChangeAt

section
variable {H : Type} {enc : TypeId × Value → H} {w : World} {base : Nat} {spare : Nat → Bool} {held : Bool}

theorem trod_fields {P : Program} {t : TypeId} {fs : Array Field} {fuel : Nat} {cs : List Value} {x : DataW H × List MemPlace} (ht : P.underlying t = some (.struct fs)) (h : DataW.trod enc P w base spare held fuel t cs = some x) :
    cs.length = P.cellsOf t ∧ ∃ n, ∀ (i : Nat) (ty : TypeId) (off k : Nat) (l : List Value), (fs[i]?.map fun f => (f.type, f.offset)) = some (ty, off) → P.cellsOf ty = k → (cs.drop off).take k = l → ∃ y, DataW.trod enc P w base spare held n ty l = some y := by
  obtain ⟨xs, n, -, -, h1, h2, h3⟩ := DataW.trod_struct ht h
  refine ⟨h1, n, fun i ty off k l hf hk hl => ?_⟩
  obtain ⟨f, hf1, e⟩ := Option.map_eq_some_iff.1 hf
  clear hf
  injection e with e1 e2
  subst e1 e2 hk hl
  have hi : i < xs.length := by
    rw [h2]
    exact (Array.getElem?_eq_some_iff.1 hf1).1
  exact ⟨xs[i], by rw [h3 i f hf1, List.getElem?_eq_getElem hi]⟩

set_option maxRecDepth 100000 in
theorem trod_ent {fuel : Nat} {cs : List Value} {x : DataW H × List MemPlace} (h : DataW.trod enc Try.prog w base spare held fuel 80 cs = some x) : ∃ y, entR cs y := by
  obtain ⟨h1, n, h2⟩ := trod_fields Try.underlying80 h
  have hc : Try.prog.cellsOf 80 = 2 := by kernel_rfl
  have c1 : Try.prog.cellsOf 9 = 1 := by kernel_rfl
  have c2 : Try.prog.cellsOf 3 = 1 := by kernel_rfl
  rw [hc] at h1
  match cs, h1 with
  | [a, b], _ =>
    obtain ⟨y0, k0⟩ := h2 0 9 0 1 _ rfl c1 rfl
    obtain ⟨y1, k1⟩ := h2 1 3 1 1 _ rfl c2 rfl
    obtain ⟨s, e0, -⟩ := trod_str Try.underlying9 k0
    obtain ⟨m, e1, -⟩ := trod_i64 Try.underlying3 k1
    simp at e0 e1
    subst e0 e1
    exact ⟨(s, m), rfl⟩

/-- the cells of a node. -/
def Nd.cs (n : Nd) : List Value := [.int .i64 n.no, .int .i64 n.dev, .int .i64 n.kind, .int .i64 n.mode, .int .i64 n.uid, .int .i64 n.gid, .int .i64 n.mtime, .int .i64 n.ctime, .int .i64 n.links, .int .i64 n.up, .string n.data, .slice n.ea n.el n.ec]

set_option maxRecDepth 100000 in
theorem trod_node {fuel : Nat} {cs : List Value} {x : DataW H × List MemPlace} (h : DataW.trod enc Try.prog w base spare held fuel 29 cs = some x) : ∃ n : Nd, cs = n.cs ∧ EntsOk w n := by
  obtain ⟨h1, n, h2⟩ := trod_fields Try.underlying29 h
  have hc : Try.prog.cellsOf 29 = 12 := by kernel_rfl
  have ci : Try.prog.cellsOf 3 = 1 := by kernel_rfl
  have cst : Try.prog.cellsOf 9 = 1 := by kernel_rfl
  have csl : Try.prog.cellsOf 27 = 1 := by kernel_rfl
  rw [hc] at h1
  match cs, h1 with
  | [a0, a1, a2, a3, a4, a5, a6, a7, a8, a9, a10, a11], _ =>
    obtain ⟨y0, k0⟩ := h2 0 3 0 1 [a0] rfl ci rfl
    obtain ⟨y1, k1⟩ := h2 1 3 1 1 [a1] rfl ci rfl
    obtain ⟨y2, k2⟩ := h2 2 3 2 1 [a2] rfl ci rfl
    obtain ⟨y3, k3⟩ := h2 3 3 3 1 [a3] rfl ci rfl
    obtain ⟨y4, k4⟩ := h2 4 3 4 1 [a4] rfl ci rfl
    obtain ⟨y5, k5⟩ := h2 5 3 5 1 [a5] rfl ci rfl
    obtain ⟨y6, k6⟩ := h2 6 3 6 1 [a6] rfl ci rfl
    obtain ⟨y7, k7⟩ := h2 7 3 7 1 [a7] rfl ci rfl
    obtain ⟨y8, k8⟩ := h2 8 3 8 1 [a8] rfl ci rfl
    obtain ⟨y9, k9⟩ := h2 9 3 9 1 [a9] rfl ci rfl
    obtain ⟨y10, k10⟩ := h2 10 9 10 1 [a10] rfl cst rfl
    obtain ⟨y11, k11⟩ := h2 11 27 11 1 [a11] rfl csl rfl
    obtain ⟨n0, e0, -⟩ := trod_i64 Try.underlying3 k0
    obtain ⟨n1, e1, -⟩ := trod_i64 Try.underlying3 k1
    obtain ⟨n2, e2, -⟩ := trod_i64 Try.underlying3 k2
    obtain ⟨n3, e3, -⟩ := trod_i64 Try.underlying3 k3
    obtain ⟨n4, e4, -⟩ := trod_i64 Try.underlying3 k4
    obtain ⟨n5, e5, -⟩ := trod_i64 Try.underlying3 k5
    obtain ⟨n6, e6, -⟩ := trod_i64 Try.underlying3 k6
    obtain ⟨n7, e7, -⟩ := trod_i64 Try.underlying3 k7
    obtain ⟨n8, e8, -⟩ := trod_i64 Try.underlying3 k8
    obtain ⟨n9, e9, -⟩ := trod_i64 Try.underlying3 k9
    obtain ⟨s, e10, -⟩ := trod_str Try.underlying9 k10
    obtain ⟨ea, el, ec, xs, e11, hz⟩ := open_sl (R := entR) (sz := 2) Try.underlying27 (by kernel_rfl) (by decide) (fun fuel cs x h => trod_ent h) k11
    simp at e0 e1 e2 e3 e4 e5 e6 e7 e8 e9 e10 e11
    subst e0 e1 e2 e3 e4 e5 e6 e7 e8 e9 e10 e11
    exact ⟨⟨n0, n1, n2, n3, n4, n5, n6, n7, n8, n9, s, ea, el, ec⟩, rfl, xs, hz⟩
end
end Go.Proofs.Ytojmbjkeckdilaa
