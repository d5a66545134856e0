/-
  No cell of these rows narrows 'for every input' (looked for: loops, veiled, ifaces, maps, wideKeys, modest, calm, conditions, laid).
  DERIVED. THE GIVEN ROWS OF THIS SEAT. 8 by the template 'for every input the law returns true; each argument reads behind the call as it read before'; 0 by the template 'total and deterministic' (their statements: YtojmbjkeckdilaaTotals.lean).
  GIVEN WITH THE SEED: the statements are not yours to turn. If you find one false, say at which input.
  Laid BY PROGRAM, IN A SANDBOX (cutbox-rows.mjs): the forced cells as the released guide's own fill.sh prints them over the translation 287281b90c8e3ed2… (all of the seat's roots in one cut). By AI agents, Wed Nov 11 2026. No macro, syntax, notation, axiom, sorry.
-/
import Derived.Test.YtojmbjkeckdilaaChecked
import GoSem.Claim
import GoSem.ClaimJoined
import GoSem.ClaimMapViews
import Derived.JoinedTies
import Derived.KernelRfl
namespace Go.Proofs.Ytojmbjkeckdilaa
/- THE CELL 'sum', in the pinned program and in every row, IS THE sha256 OF THE DUMP (.gsa) THAT YtojmbjkeckdilaaProg.lean LOADS. Nothing in Lean hashes anything: it is a label: what it is worth is what the hold of that sum in a sandbox is worth. -/
noncomputable def Try.pinned : Pinned := { name := "ytojmbjkeckdilaa", sum := "287281b90c8e3ed2fa9ab0dde6294f85078191f0fda372ca58222e84c77b89e3", checked := Try.checked }
namespace Rows
def none {H : Type} : Left H := { results := [], args := [] }

/-- 'ragpickerlaw13.TableOnce': WHATEVER THE INPUT: true; the input reads as it did. -/
def tableOnceSpec : ChangeSpec := { name := "tableOnce", fn := fun _ => fun
  | [d] => { results := [.lit (.bool true)], args := [d] }
  | _ => none }
def tableOnceRow : OpenClaim := { program := "ytojmbjkeckdilaa", sum := "287281b90c8e3ed2fa9ab0dde6294f85078191f0fda372ca58222e84c77b89e3", func := "ragpicker/ragpickerlaw13.TableOnce", spec := "tableOnce", apart := false }
def TableOnceSaid : Prop := tableOnceRow.holds Try.pinned (OpenSpec.ofChange tableOnceSpec)

/-- ITS FALSE NEIGHBOUR: 'it returns false'. Refute it at one input. -/
def tableOnceWrong : ChangeSpec := { name := "tableOnce", fn := fun _ => fun
  | [d] => { results := [.lit (.bool false)], args := [d] }
  | _ => none }
def TableOnceWrongFalsely : Prop := tableOnceRow.holds Try.pinned (OpenSpec.ofChange tableOnceWrong)

/-- 'ragpickerlaw12.QuotaTells': WHATEVER THE INPUT: true; the input reads as it did. -/
def quotaTellsSpec : ChangeSpec := { name := "quotaTells", fn := fun _ => fun
  | [d1, d2, d3] => { results := [.lit (.bool true)], args := [d1, d2, d3] }
  | _ => none }
def quotaTellsRow : OpenClaim := { program := "ytojmbjkeckdilaa", sum := "287281b90c8e3ed2fa9ab0dde6294f85078191f0fda372ca58222e84c77b89e3", func := "ragpicker/ragpickerlaw12.QuotaTells", spec := "quotaTells", apart := false }
def QuotaTellsSaid : Prop := quotaTellsRow.holds Try.pinned (OpenSpec.ofChange quotaTellsSpec)

/-- ITS FALSE NEIGHBOUR: 'it returns false'. Refute it at one input. -/
def quotaTellsWrong : ChangeSpec := { name := "quotaTells", fn := fun _ => fun
  | [d1, d2, d3] => { results := [.lit (.bool false)], args := [d1, d2, d3] }
  | _ => none }
def QuotaTellsWrongFalsely : Prop := quotaTellsRow.holds Try.pinned (OpenSpec.ofChange quotaTellsWrong)

/-- 'ragpickerlaw12.QuotaBack': WHATEVER THE INPUT: true; the input reads as it did. -/
def quotaBackSpec : ChangeSpec := { name := "quotaBack", fn := fun _ => fun
  | [d1, d2, d3] => { results := [.lit (.bool true)], args := [d1, d2, d3] }
  | _ => none }
def quotaBackRow : OpenClaim := { program := "ytojmbjkeckdilaa", sum := "287281b90c8e3ed2fa9ab0dde6294f85078191f0fda372ca58222e84c77b89e3", func := "ragpicker/ragpickerlaw12.QuotaBack", spec := "quotaBack", apart := false }
def QuotaBackSaid : Prop := quotaBackRow.holds Try.pinned (OpenSpec.ofChange quotaBackSpec)

/-- ITS FALSE NEIGHBOUR: 'it returns false'. Refute it at one input. -/
def quotaBackWrong : ChangeSpec := { name := "quotaBack", fn := fun _ => fun
  | [d1, d2, d3] => { results := [.lit (.bool false)], args := [d1, d2, d3] }
  | _ => none }
def QuotaBackWrongFalsely : Prop := quotaBackRow.holds Try.pinned (OpenSpec.ofChange quotaBackWrong)

/-- 'ragpickerlaw09.FreshTells': WHATEVER THE INPUT: true; the input reads as it did. -/
def freshTellsSpec : ChangeSpec := { name := "freshTells", fn := fun _ => fun
  | [d1, d2, d3] => { results := [.lit (.bool true)], args := [d1, d2, d3] }
  | _ => none }
def freshTellsRow : OpenClaim := { program := "ytojmbjkeckdilaa", sum := "287281b90c8e3ed2fa9ab0dde6294f85078191f0fda372ca58222e84c77b89e3", func := "ragpicker/ragpickerlaw09.FreshTells", spec := "freshTells", unfollowed := true, recurses := true, apart := false }
def FreshTellsSaid : Prop := freshTellsRow.holds Try.pinned (OpenSpec.ofChange freshTellsSpec)

/-- ITS FALSE NEIGHBOUR: 'it returns false'. Refute it at one input. -/
def freshTellsWrong : ChangeSpec := { name := "freshTells", fn := fun _ => fun
  | [d1, d2, d3] => { results := [.lit (.bool false)], args := [d1, d2, d3] }
  | _ => none }
def FreshTellsWrongFalsely : Prop := freshTellsRow.holds Try.pinned (OpenSpec.ofChange freshTellsWrong)

/-- 'ragpickerlaw09.FreshFree': WHATEVER THE INPUT: true; the input reads as it did. -/
def freshFreeSpec : ChangeSpec := { name := "freshFree", fn := fun _ => fun
  | [d1, d2] => { results := [.lit (.bool true)], args := [d1, d2] }
  | _ => none }
def freshFreeRow : OpenClaim := { program := "ytojmbjkeckdilaa", sum := "287281b90c8e3ed2fa9ab0dde6294f85078191f0fda372ca58222e84c77b89e3", func := "ragpicker/ragpickerlaw09.FreshFree", spec := "freshFree", unfollowed := true, recurses := true, apart := false }
def FreshFreeSaid : Prop := freshFreeRow.holds Try.pinned (OpenSpec.ofChange freshFreeSpec)

/-- ITS FALSE NEIGHBOUR: 'it returns false'. Refute it at one input. -/
def freshFreeWrong : ChangeSpec := { name := "freshFree", fn := fun _ => fun
  | [d1, d2] => { results := [.lit (.bool false)], args := [d1, d2] }
  | _ => none }
def FreshFreeWrongFalsely : Prop := freshFreeRow.holds Try.pinned (OpenSpec.ofChange freshFreeWrong)

/-- 'ragpickerlaw09.FreshApart': WHATEVER THE INPUT: true; the input reads as it did. -/
def freshApartSpec : ChangeSpec := { name := "freshApart", fn := fun _ => fun
  | [d1, d2, d3] => { results := [.lit (.bool true)], args := [d1, d2, d3] }
  | _ => none }
def freshApartRow : OpenClaim := { program := "ytojmbjkeckdilaa", sum := "287281b90c8e3ed2fa9ab0dde6294f85078191f0fda372ca58222e84c77b89e3", func := "ragpicker/ragpickerlaw09.FreshApart", spec := "freshApart", unfollowed := true, recurses := true, apart := false }
def FreshApartSaid : Prop := freshApartRow.holds Try.pinned (OpenSpec.ofChange freshApartSpec)

/-- ITS FALSE NEIGHBOUR: 'it returns false'. Refute it at one input. -/
def freshApartWrong : ChangeSpec := { name := "freshApart", fn := fun _ => fun
  | [d1, d2, d3] => { results := [.lit (.bool false)], args := [d1, d2, d3] }
  | _ => none }
def FreshApartWrongFalsely : Prop := freshApartRow.holds Try.pinned (OpenSpec.ofChange freshApartWrong)

/-- 'ragpickerlaw13.TablePlays': WHATEVER THE INPUT: true; the input reads as it did. -/
def tablePlaysSpec : ChangeSpec := { name := "tablePlays", fn := fun _ => fun
  | [d1, d2] => { results := [.lit (.bool true)], args := [d1, d2] }
  | _ => none }
def tablePlaysRow : OpenClaim := { program := "ytojmbjkeckdilaa", sum := "287281b90c8e3ed2fa9ab0dde6294f85078191f0fda372ca58222e84c77b89e3", func := "ragpicker/ragpickerlaw13.TablePlays", spec := "tablePlays", unfollowed := true, recurses := true, apart := false }
def TablePlaysSaid : Prop := tablePlaysRow.holds Try.pinned (OpenSpec.ofChange tablePlaysSpec)

/-- ITS FALSE NEIGHBOUR: 'it returns false'. Refute it at one input. -/
def tablePlaysWrong : ChangeSpec := { name := "tablePlays", fn := fun _ => fun
  | [d1, d2] => { results := [.lit (.bool false)], args := [d1, d2] }
  | _ => none }
def TablePlaysWrongFalsely : Prop := tablePlaysRow.holds Try.pinned (OpenSpec.ofChange tablePlaysWrong)

/-- 'ragpickerlaw13.TableNone': WHATEVER THE INPUT: true; the input reads as it did. -/
def tableNoneSpec : ChangeSpec := { name := "tableNone", fn := fun _ => fun
  | [d] => { results := [.lit (.bool true)], args := [d] }
  | _ => none }
def tableNoneRow : OpenClaim := { program := "ytojmbjkeckdilaa", sum := "287281b90c8e3ed2fa9ab0dde6294f85078191f0fda372ca58222e84c77b89e3", func := "ragpicker/ragpickerlaw13.TableNone", spec := "tableNone", unfollowed := true, recurses := true, apart := false }
def TableNoneSaid : Prop := tableNoneRow.holds Try.pinned (OpenSpec.ofChange tableNoneSpec)

/-- ITS FALSE NEIGHBOUR: 'it returns false'. Refute it at one input. -/
def tableNoneWrong : ChangeSpec := { name := "tableNone", fn := fun _ => fun
  | [d] => { results := [.lit (.bool false)], args := [d] }
  | _ => none }
def TableNoneWrongFalsely : Prop := tableNoneRow.holds Try.pinned (OpenSpec.ofChange tableNoneWrong)

/- THE SECOND FORM. 'bulk': how many values and letters a reading holds, each counted each time it is reached (what is shared counts as often as it is met; a slice's spare places count too). A statement '..UptoSaid' is the law's where the arguments, and the package variables that the reading takes, are together of bulk at most 1048576: NARROWER than '..Said'. Prove '..Said' where nothing that the law and all that it calls make is longer than what came in: it says more and counts as full. Else prove '..UptoSaid'. A law counts once. -/
mutual
def uptoBulk {H : Type} : DataW H → Nat
  | .lit (.string bytes) => bytes.length + 1
  | .lit _ => 1
  | .nil => 1
  | .ptr d => uptoBulk d + 1
  | .slice elems spare => uptoBulkAll elems + uptoBulkAll spare + 1
  | .agg parts => uptoBulkAll parts + 1
  | .iface _ d => uptoBulk d + 1
  | .map entries => uptoBulkEntries entries + 1
  | .held _ => 1
def uptoBulkAll {H : Type} : List (DataW H) → Nat
  | [] => 0
  | d :: r => uptoBulk d + uptoBulkAll r
def uptoBulkEntries {H : Type} : List (Lit × DataW H) → Nat
  | [] => 0
  | x :: r => uptoBulkEntry x + uptoBulkEntries r
def uptoBulkEntry {H : Type} : Lit × DataW H → Nat
  | (.string bytes, d) => bytes.length + uptoBulk d + 1
  | (_, d) => uptoBulk d + 1
 end
def uptoSmall : (H : Type) → List (DataW H) → Bool := fun _ ds => decide (uptoBulkAll ds ≤ 1048576)
def OpenSpec.upto (s : _root_.Go.ChangeSpec) : _root_.Go.OpenSpec := { _root_.Go.OpenSpec.ofChange s with cond := some uptoSmall }

/-- 'ragpickerlaw13.TableOnce', WHERE WHAT IT READS IS OF BULK AT MOST 1048576: true; the input reads as it did. -/
def tableOnceUptoRow : OpenClaim := { program := "ytojmbjkeckdilaa", sum := "287281b90c8e3ed2fa9ab0dde6294f85078191f0fda372ca58222e84c77b89e3", func := "ragpicker/ragpickerlaw13.TableOnce", spec := "tableOnce", apart := false, narrowed := true }
def TableOnceUptoSaid : Prop := tableOnceUptoRow.holds Try.pinned (OpenSpec.upto tableOnceSpec)

/-- 'ragpickerlaw12.QuotaTells', WHERE WHAT IT READS IS OF BULK AT MOST 1048576: true; the input reads as it did. -/
def quotaTellsUptoRow : OpenClaim := { program := "ytojmbjkeckdilaa", sum := "287281b90c8e3ed2fa9ab0dde6294f85078191f0fda372ca58222e84c77b89e3", func := "ragpicker/ragpickerlaw12.QuotaTells", spec := "quotaTells", apart := false, narrowed := true }
def QuotaTellsUptoSaid : Prop := quotaTellsUptoRow.holds Try.pinned (OpenSpec.upto quotaTellsSpec)

/-- 'ragpickerlaw12.QuotaBack', WHERE WHAT IT READS IS OF BULK AT MOST 1048576: true; the input reads as it did. -/
def quotaBackUptoRow : OpenClaim := { program := "ytojmbjkeckdilaa", sum := "287281b90c8e3ed2fa9ab0dde6294f85078191f0fda372ca58222e84c77b89e3", func := "ragpicker/ragpickerlaw12.QuotaBack", spec := "quotaBack", apart := false, narrowed := true }
def QuotaBackUptoSaid : Prop := quotaBackUptoRow.holds Try.pinned (OpenSpec.upto quotaBackSpec)

/-- 'ragpickerlaw09.FreshTells', WHERE WHAT IT READS IS OF BULK AT MOST 1048576: true; the input reads as it did. -/
def freshTellsUptoRow : OpenClaim := { program := "ytojmbjkeckdilaa", sum := "287281b90c8e3ed2fa9ab0dde6294f85078191f0fda372ca58222e84c77b89e3", func := "ragpicker/ragpickerlaw09.FreshTells", spec := "freshTells", unfollowed := true, recurses := true, apart := false, narrowed := true }
def FreshTellsUptoSaid : Prop := freshTellsUptoRow.holds Try.pinned (OpenSpec.upto freshTellsSpec)

/-- 'ragpickerlaw09.FreshFree', WHERE WHAT IT READS IS OF BULK AT MOST 1048576: true; the input reads as it did. -/
def freshFreeUptoRow : OpenClaim := { program := "ytojmbjkeckdilaa", sum := "287281b90c8e3ed2fa9ab0dde6294f85078191f0fda372ca58222e84c77b89e3", func := "ragpicker/ragpickerlaw09.FreshFree", spec := "freshFree", unfollowed := true, recurses := true, apart := false, narrowed := true }
def FreshFreeUptoSaid : Prop := freshFreeUptoRow.holds Try.pinned (OpenSpec.upto freshFreeSpec)

/-- 'ragpickerlaw09.FreshApart', WHERE WHAT IT READS IS OF BULK AT MOST 1048576: true; the input reads as it did. -/
def freshApartUptoRow : OpenClaim := { program := "ytojmbjkeckdilaa", sum := "287281b90c8e3ed2fa9ab0dde6294f85078191f0fda372ca58222e84c77b89e3", func := "ragpicker/ragpickerlaw09.FreshApart", spec := "freshApart", unfollowed := true, recurses := true, apart := false, narrowed := true }
def FreshApartUptoSaid : Prop := freshApartUptoRow.holds Try.pinned (OpenSpec.upto freshApartSpec)

/-- 'ragpickerlaw13.TablePlays', WHERE WHAT IT READS IS OF BULK AT MOST 1048576: true; the input reads as it did. -/
def tablePlaysUptoRow : OpenClaim := { program := "ytojmbjkeckdilaa", sum := "287281b90c8e3ed2fa9ab0dde6294f85078191f0fda372ca58222e84c77b89e3", func := "ragpicker/ragpickerlaw13.TablePlays", spec := "tablePlays", unfollowed := true, recurses := true, apart := false, narrowed := true }
def TablePlaysUptoSaid : Prop := tablePlaysUptoRow.holds Try.pinned (OpenSpec.upto tablePlaysSpec)

/-- 'ragpickerlaw13.TableNone', WHERE WHAT IT READS IS OF BULK AT MOST 1048576: true; the input reads as it did. -/
def tableNoneUptoRow : OpenClaim := { program := "ytojmbjkeckdilaa", sum := "287281b90c8e3ed2fa9ab0dde6294f85078191f0fda372ca58222e84c77b89e3", func := "ragpicker/ragpickerlaw13.TableNone", spec := "tableNone", unfollowed := true, recurses := true, apart := false, narrowed := true }
def TableNoneUptoSaid : Prop := tableNoneUptoRow.holds Try.pinned (OpenSpec.upto tableNoneSpec)

end Rows
end Go.Proofs.Ytojmbjkeckdilaa
