/-
  No cell of these rows narrows 'for every input' (looked for: loops, veiled, ifaces, maps, wideKeys, modest, calm, conditions, laid).
  DERIVED. THE GIVEN ROWS OF THIS SEAT. 6 by the template 'for every input the law returns true; each argument reads behind the call as it read before'; 0 by the template 'total and deterministic' (their statements: YtihdbncoijhihaaGreatTotals.lean).
  GIVEN WITH THE SEED: the statements are not yours to turn. If you find one false, say at which input.
  Laid BY PROGRAM, IN A SANDBOX (cutbox-rows.mjs): the forced cells as the released guide's own fill.sh prints them over the translation 58dbd129c7036657… (all of the seat's roots in one cut). By AI agents, Wed Nov 11 2026. No macro, syntax, notation, axiom, sorry.
-/
import Derived.Test.YtihdbncoijhihaaGreatChecked
import GoSem.Claim
import GoSem.ClaimJoined
import GoSem.ClaimMapViews
import Derived.JoinedTies
import Derived.KernelRfl
namespace Go.Proofs.YtihdbncoijhihaaGreat
/- THE CELL 'sum', in the pinned program and in every row, IS THE sha256 OF THE DUMP (.gsa) THAT YtihdbncoijhihaaGreatProg.lean LOADS. Nothing in Lean hashes anything: it is a label: what it is worth is what the hold of that sum in a sandbox is worth. -/
noncomputable def Tryz.pinned : Pinned := { name := "ytihdbncoijhihaagreat", sum := "58dbd129c7036657aae2afebb78c0a56ee45e9d8744e60210fb8eb864b6eab01", checked := Tryz.checked }
namespace Rows
def none {H : Type} : Left H := { results := [], args := [] }

/-- 'ragpickerlaw31.LayKeeps': WHATEVER THE INPUT: true; the input reads as it did. -/
def layKeepsSpec : ChangeSpec := { name := "layKeeps", fn := fun _ => fun
  | [d] => { results := [.lit (.bool true)], args := [d] }
  | _ => none }
def layKeepsRow : OpenClaim := { program := "ytihdbncoijhihaagreat", sum := "58dbd129c7036657aae2afebb78c0a56ee45e9d8744e60210fb8eb864b6eab01", func := "ragpicker/ragpickerlaw31.LayKeeps", spec := "layKeeps", inPlace := ["internal/bytealg.IndexByteString", "internal/bytealg.IndexString", "slices.overlaps[ragpicker/api.Ent]", "internal/abi.NoEscape"], unfollowed := true, recurses := true, named := ["internal/bytealg.MaxLen"], apart := false }
def LayKeepsSaid : Prop := layKeepsRow.holds Tryz.pinned (OpenSpec.ofChange layKeepsSpec)

/-- ITS FALSE NEIGHBOUR: 'it returns false'. Refute it at one input. -/
def layKeepsWrong : ChangeSpec := { name := "layKeeps", fn := fun _ => fun
  | [d] => { results := [.lit (.bool false)], args := [d] }
  | _ => none }
def LayKeepsWrongFalsely : Prop := layKeepsRow.holds Tryz.pinned (OpenSpec.ofChange layKeepsWrong)

/-- 'ragpickerlaw32.ClaimTaken': WHATEVER THE INPUT: true; the input reads as it did. -/
def claimTakenSpec : ChangeSpec := { name := "claimTaken", fn := fun _ => fun
  | [d1, d2] => { results := [.lit (.bool true)], args := [d1, d2] }
  | _ => none }
def claimTakenRow : OpenClaim := { program := "ytihdbncoijhihaagreat", sum := "58dbd129c7036657aae2afebb78c0a56ee45e9d8744e60210fb8eb864b6eab01", func := "ragpicker/ragpickerlaw32.ClaimTaken", spec := "claimTaken", inPlace := ["internal/bytealg.IndexByteString", "internal/bytealg.IndexString", "slices.overlaps[ragpicker/api.Ent]", "internal/abi.NoEscape"], unfollowed := true, recurses := true, named := ["internal/bytealg.MaxLen"], apart := false }
def ClaimTakenSaid : Prop := claimTakenRow.holds Tryz.pinned (OpenSpec.ofChange claimTakenSpec)

/-- ITS FALSE NEIGHBOUR: 'it returns false'. Refute it at one input. -/
def claimTakenWrong : ChangeSpec := { name := "claimTaken", fn := fun _ => fun
  | [d1, d2] => { results := [.lit (.bool false)], args := [d1, d2] }
  | _ => none }
def ClaimTakenWrongFalsely : Prop := claimTakenRow.holds Tryz.pinned (OpenSpec.ofChange claimTakenWrong)

/-- 'ragpickerlaw32.ClaimTells': WHATEVER THE INPUT: true; the input reads as it did. -/
def claimTellsSpec : ChangeSpec := { name := "claimTells", fn := fun _ => fun
  | [d1, d2] => { results := [.lit (.bool true)], args := [d1, d2] }
  | _ => none }
def claimTellsRow : OpenClaim := { program := "ytihdbncoijhihaagreat", sum := "58dbd129c7036657aae2afebb78c0a56ee45e9d8744e60210fb8eb864b6eab01", func := "ragpicker/ragpickerlaw32.ClaimTells", spec := "claimTells", inPlace := ["internal/bytealg.IndexByteString", "internal/bytealg.IndexString", "slices.overlaps[ragpicker/api.Ent]", "internal/abi.NoEscape"], unfollowed := true, recurses := true, named := ["internal/bytealg.MaxLen"], apart := false }
def ClaimTellsSaid : Prop := claimTellsRow.holds Tryz.pinned (OpenSpec.ofChange claimTellsSpec)

/-- ITS FALSE NEIGHBOUR: 'it returns false'. Refute it at one input. -/
def claimTellsWrong : ChangeSpec := { name := "claimTells", fn := fun _ => fun
  | [d1, d2] => { results := [.lit (.bool false)], args := [d1, d2] }
  | _ => none }
def ClaimTellsWrongFalsely : Prop := claimTellsRow.holds Tryz.pinned (OpenSpec.ofChange claimTellsWrong)

/-- 'ragpickerlaw33.CacheSizes': WHATEVER THE INPUT: true; the input reads as it did. -/
def cacheSizesSpec : ChangeSpec := { name := "cacheSizes", fn := fun _ => fun
  | [d1, d2] => { results := [.lit (.bool true)], args := [d1, d2] }
  | _ => none }
def cacheSizesRow : OpenClaim := { program := "ytihdbncoijhihaagreat", sum := "58dbd129c7036657aae2afebb78c0a56ee45e9d8744e60210fb8eb864b6eab01", func := "ragpicker/ragpickerlaw33.CacheSizes", spec := "cacheSizes", inPlace := ["internal/bytealg.IndexByteString", "internal/bytealg.IndexString", "slices.overlaps[ragpicker/api.Ent]", "internal/abi.NoEscape", "internal/bytealg.abigen_runtime_cmpstring"], unfollowed := true, recurses := true, named := ["internal/bytealg.MaxLen"], apart := false }
def CacheSizesSaid : Prop := cacheSizesRow.holds Tryz.pinned (OpenSpec.ofChange cacheSizesSpec)

/-- ITS FALSE NEIGHBOUR: 'it returns false'. Refute it at one input. -/
def cacheSizesWrong : ChangeSpec := { name := "cacheSizes", fn := fun _ => fun
  | [d1, d2] => { results := [.lit (.bool false)], args := [d1, d2] }
  | _ => none }
def CacheSizesWrongFalsely : Prop := cacheSizesRow.holds Tryz.pinned (OpenSpec.ofChange cacheSizesWrong)

/-- 'ragpickerlaw33.CacheOnce': WHATEVER THE INPUT: true; the input reads as it did. -/
def cacheOnceSpec : ChangeSpec := { name := "cacheOnce", fn := fun _ => fun
  | [d1, d2] => { results := [.lit (.bool true)], args := [d1, d2] }
  | _ => none }
def cacheOnceRow : OpenClaim := { program := "ytihdbncoijhihaagreat", sum := "58dbd129c7036657aae2afebb78c0a56ee45e9d8744e60210fb8eb864b6eab01", func := "ragpicker/ragpickerlaw33.CacheOnce", spec := "cacheOnce", inPlace := ["internal/bytealg.IndexByteString", "internal/bytealg.IndexString", "slices.overlaps[ragpicker/api.Ent]", "internal/abi.NoEscape", "internal/bytealg.abigen_runtime_cmpstring"], unfollowed := true, recurses := true, named := ["internal/bytealg.MaxLen"], apart := false }
def CacheOnceSaid : Prop := cacheOnceRow.holds Tryz.pinned (OpenSpec.ofChange cacheOnceSpec)

/-- ITS FALSE NEIGHBOUR: 'it returns false'. Refute it at one input. -/
def cacheOnceWrong : ChangeSpec := { name := "cacheOnce", fn := fun _ => fun
  | [d1, d2] => { results := [.lit (.bool false)], args := [d1, d2] }
  | _ => none }
def CacheOnceWrongFalsely : Prop := cacheOnceRow.holds Tryz.pinned (OpenSpec.ofChange cacheOnceWrong)

/-- 'ragpickerlaw33.CacheTells': WHATEVER THE INPUT: true; the input reads as it did. -/
def cacheTellsSpec : ChangeSpec := { name := "cacheTells", fn := fun _ => fun
  | [d] => { results := [.lit (.bool true)], args := [d] }
  | _ => none }
def cacheTellsRow : OpenClaim := { program := "ytihdbncoijhihaagreat", sum := "58dbd129c7036657aae2afebb78c0a56ee45e9d8744e60210fb8eb864b6eab01", func := "ragpicker/ragpickerlaw33.CacheTells", spec := "cacheTells", inPlace := ["internal/bytealg.IndexByteString", "internal/bytealg.IndexString", "slices.overlaps[ragpicker/api.Ent]", "internal/abi.NoEscape", "internal/bytealg.abigen_runtime_cmpstring"], unfollowed := true, recurses := true, named := ["internal/bytealg.MaxLen"], apart := false }
def CacheTellsSaid : Prop := cacheTellsRow.holds Tryz.pinned (OpenSpec.ofChange cacheTellsSpec)

/-- ITS FALSE NEIGHBOUR: 'it returns false'. Refute it at one input. -/
def cacheTellsWrong : ChangeSpec := { name := "cacheTells", fn := fun _ => fun
  | [d] => { results := [.lit (.bool false)], args := [d] }
  | _ => none }
def CacheTellsWrongFalsely : Prop := cacheTellsRow.holds Tryz.pinned (OpenSpec.ofChange cacheTellsWrong)

/- THE SECOND FORM. 'bulk': how many values and letters a reading holds, each counted each time it is reached (what is shared counts as often as it is met; a slice's spare places count too). A statement '..UptoSaid' is the law's where the arguments, and the package variables that the reading takes, are together of bulk at most 1048576: NARROWER than '..Said'. Prove '..Said' where nothing that the law and all that it calls make is longer than what came in: it says more and counts as full. Else prove '..UptoSaid'. A law counts once. -/
mutual
def uptoBulk {H : Type} : DataW H → Nat
  | .lit (.string bytes) => bytes.length + 1
  | .lit _ => 1
  | .nil => 1
  | .ptr d => uptoBulk d + 1
  | .slice elems spare => uptoBulkAll elems + uptoBulkAll spare + 1
  | .agg parts => uptoBulkAll parts + 1
  | .iface _ d => uptoBulk d + 1
  | .map entries => uptoBulkEntries entries + 1
  | .held _ => 1
def uptoBulkAll {H : Type} : List (DataW H) → Nat
  | [] => 0
  | d :: r => uptoBulk d + uptoBulkAll r
def uptoBulkEntries {H : Type} : List (Lit × DataW H) → Nat
  | [] => 0
  | x :: r => uptoBulkEntry x + uptoBulkEntries r
def uptoBulkEntry {H : Type} : Lit × DataW H → Nat
  | (.string bytes, d) => bytes.length + uptoBulk d + 1
  | (_, d) => uptoBulk d + 1
 end
def uptoSmall : (H : Type) → List (DataW H) → Bool := fun _ ds => decide (uptoBulkAll ds ≤ 1048576)
def OpenSpec.upto (s : _root_.Go.ChangeSpec) : _root_.Go.OpenSpec := { _root_.Go.OpenSpec.ofChange s with cond := some uptoSmall }

/-- 'ragpickerlaw31.LayKeeps', WHERE WHAT IT READS IS OF BULK AT MOST 1048576: true; the input reads as it did. -/
def layKeepsUptoRow : OpenClaim := { program := "ytihdbncoijhihaagreat", sum := "58dbd129c7036657aae2afebb78c0a56ee45e9d8744e60210fb8eb864b6eab01", func := "ragpicker/ragpickerlaw31.LayKeeps", spec := "layKeeps", inPlace := ["internal/bytealg.IndexByteString", "internal/bytealg.IndexString", "slices.overlaps[ragpicker/api.Ent]", "internal/abi.NoEscape"], unfollowed := true, recurses := true, named := ["internal/bytealg.MaxLen"], apart := false, narrowed := true }
def LayKeepsUptoSaid : Prop := layKeepsUptoRow.holds Tryz.pinned (OpenSpec.upto layKeepsSpec)

/-- 'ragpickerlaw32.ClaimTaken', WHERE WHAT IT READS IS OF BULK AT MOST 1048576: true; the input reads as it did. -/
def claimTakenUptoRow : OpenClaim := { program := "ytihdbncoijhihaagreat", sum := "58dbd129c7036657aae2afebb78c0a56ee45e9d8744e60210fb8eb864b6eab01", func := "ragpicker/ragpickerlaw32.ClaimTaken", spec := "claimTaken", inPlace := ["internal/bytealg.IndexByteString", "internal/bytealg.IndexString", "slices.overlaps[ragpicker/api.Ent]", "internal/abi.NoEscape"], unfollowed := true, recurses := true, named := ["internal/bytealg.MaxLen"], apart := false, narrowed := true }
def ClaimTakenUptoSaid : Prop := claimTakenUptoRow.holds Tryz.pinned (OpenSpec.upto claimTakenSpec)

/-- 'ragpickerlaw32.ClaimTells', WHERE WHAT IT READS IS OF BULK AT MOST 1048576: true; the input reads as it did. -/
def claimTellsUptoRow : OpenClaim := { program := "ytihdbncoijhihaagreat", sum := "58dbd129c7036657aae2afebb78c0a56ee45e9d8744e60210fb8eb864b6eab01", func := "ragpicker/ragpickerlaw32.ClaimTells", spec := "claimTells", inPlace := ["internal/bytealg.IndexByteString", "internal/bytealg.IndexString", "slices.overlaps[ragpicker/api.Ent]", "internal/abi.NoEscape"], unfollowed := true, recurses := true, named := ["internal/bytealg.MaxLen"], apart := false, narrowed := true }
def ClaimTellsUptoSaid : Prop := claimTellsUptoRow.holds Tryz.pinned (OpenSpec.upto claimTellsSpec)

/-- 'ragpickerlaw33.CacheSizes', WHERE WHAT IT READS IS OF BULK AT MOST 1048576: true; the input reads as it did. -/
def cacheSizesUptoRow : OpenClaim := { program := "ytihdbncoijhihaagreat", sum := "58dbd129c7036657aae2afebb78c0a56ee45e9d8744e60210fb8eb864b6eab01", func := "ragpicker/ragpickerlaw33.CacheSizes", spec := "cacheSizes", inPlace := ["internal/bytealg.IndexByteString", "internal/bytealg.IndexString", "slices.overlaps[ragpicker/api.Ent]", "internal/abi.NoEscape", "internal/bytealg.abigen_runtime_cmpstring"], unfollowed := true, recurses := true, named := ["internal/bytealg.MaxLen"], apart := false, narrowed := true }
def CacheSizesUptoSaid : Prop := cacheSizesUptoRow.holds Tryz.pinned (OpenSpec.upto cacheSizesSpec)

/-- 'ragpickerlaw33.CacheOnce', WHERE WHAT IT READS IS OF BULK AT MOST 1048576: true; the input reads as it did. -/
def cacheOnceUptoRow : OpenClaim := { program := "ytihdbncoijhihaagreat", sum := "58dbd129c7036657aae2afebb78c0a56ee45e9d8744e60210fb8eb864b6eab01", func := "ragpicker/ragpickerlaw33.CacheOnce", spec := "cacheOnce", inPlace := ["internal/bytealg.IndexByteString", "internal/bytealg.IndexString", "slices.overlaps[ragpicker/api.Ent]", "internal/abi.NoEscape", "internal/bytealg.abigen_runtime_cmpstring"], unfollowed := true, recurses := true, named := ["internal/bytealg.MaxLen"], apart := false, narrowed := true }
def CacheOnceUptoSaid : Prop := cacheOnceUptoRow.holds Tryz.pinned (OpenSpec.upto cacheOnceSpec)

/-- 'ragpickerlaw33.CacheTells', WHERE WHAT IT READS IS OF BULK AT MOST 1048576: true; the input reads as it did. -/
def cacheTellsUptoRow : OpenClaim := { program := "ytihdbncoijhihaagreat", sum := "58dbd129c7036657aae2afebb78c0a56ee45e9d8744e60210fb8eb864b6eab01", func := "ragpicker/ragpickerlaw33.CacheTells", spec := "cacheTells", inPlace := ["internal/bytealg.IndexByteString", "internal/bytealg.IndexString", "slices.overlaps[ragpicker/api.Ent]", "internal/abi.NoEscape", "internal/bytealg.abigen_runtime_cmpstring"], unfollowed := true, recurses := true, named := ["internal/bytealg.MaxLen"], apart := false, narrowed := true }
def CacheTellsUptoSaid : Prop := cacheTellsUptoRow.holds Tryz.pinned (OpenSpec.upto cacheTellsSpec)

end Rows
end Go.Proofs.YtihdbncoijhihaaGreat
