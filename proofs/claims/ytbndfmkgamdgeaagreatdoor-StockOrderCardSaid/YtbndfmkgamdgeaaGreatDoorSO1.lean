import Derived.Shelf.Strings.Builder1
import Derived.Shelf.Strings.OnBuilder
import Derived.Shelf.Strings.Builder2
import Derived.Shelf.Small.Strs
import Derived.Shelf.Strings.BuilderF
import Derived.Shelf.Strings.BuilderK
import Derived.Shelf.Strings.Search1
import Derived.Shelf.Strings.Search2
import Derived.Shelf.Strings.Search3
import Derived.Shelf.LaysM
import Derived.Shelf.Strings.Shaped
import Derived.Shelf.Strings.LastIndex
import Derived.Shelf.Strings.BuilderCap
import Derived.Ground.PaProg
import Derived.Shelf.Path.Small
import Derived.Shelf.Strings.SlTrimAscii
import Derived.WalkKit
import Derived.WalkSpells
import Derived.WalkLawsBesides
import Derived.Outline
import Derived.Deep.QuietTactic
import Derived.BigQuiet
import Derived.Handy
import Derived.Lib.Hide
import Derived.Deep.RegionHeld3
import Derived.StillTactics
import Derived.Laws.BitsAllLaws
import Derived.ProofKit
import Derived.OpenShut
import Derived.Lib.SmallJoins
import Derived.Deep.AppendLies
import Derived.Maps.AppendAt
import Derived.Laws.OwnMore
import Derived.OwnWalk
import Derived.Laws.BytesArg
import Derived.StillTailTactics
import Derived.Lib.SlTrimSet
import Derived.Deep.LoopGhost
import Derived.RangeFuncNested
import Derived.RangeFuncBound
import Derived.RangeFuncCalls
import Derived.RangeFuncLeaves
import Derived.Lib.LastIndexByte
import Derived.Lib.SliceRun
import Derived.StillTail
import Derived.OrdersHeld
import Derived.Deep.CutBlock
import Derived.Deep.DeepCutAuto
import Derived.RegionTactic
import Derived.BigRegion
import Derived.Shelf.Abstract
import Derived.Shelf.RegionOpen
import Derived.OwnWalkIn
import Derived.TacticsInMore
import Derived.LoopNIn
import Derived.LoopIn
import Derived.Laws.CopyRow
import Derived.Laws.Externs
import Derived.Lib.Overlaps
import Derived.Lib.AppendZeros
import Derived.Lib.JoinLaws
import Derived.Deep.AppendSrc
import Derived.Lib.AppendZerosOnto
import Derived.WalkSmall
import Derived.Lib.Join
import Derived.WalkMore
import Derived.Sort.LotA
import Derived.Sort.WalkA
import Derived.Shelf.Strings.Builder2Cap
import Derived.Shelf.Strings.Prefix
import Derived.Sort.Grow
import Derived.Sort.LoopGhostIn
import Derived.Sort.CutIn
import Derived.Deep.DeepHandedRow
import Derived.Lay
import Derived.Test.YtbndfmkgamdgeaaGreatDoorProg
set_option linter.unusedVariables false
set_option linter.unusedSimpArgs false
set_option maxRecDepth 100000
set_option maxHeartbeats 16000000
namespace Go.Proofs.YtbndfmkgamdgeaaGreatDoor
section
open Go.RowKit
def Blk (w:World) (B:Nat) (vs:Array Value) (T:TypeId):Prop:=w.heap[B]? = some (.cells vs T (0,0))
theorem Blk.lt {w:World} {B:Nat} {vs:Array Value} {T:TypeId} (h:Blk w B vs T):B<w.heap.size:=by
 unfold Blk at h;exact (Array.getElem?_eq_some_iff.1 h).1
theorem Blk.new (w:World) (vs:Array Value) (T:TypeId):Blk (w.alloc (.cells vs T)) w.heap.size vs T:=by
 show (w.heap.push _)[w.heap.size]? = _;simp
theorem Blk.old {w:World} {B:Nat} {vs:Array Value} {T:TypeId} (h:Blk w B vs T) (o:Obj):Blk (w.alloc o) B vs T:=
 (Below.heap_alloc w o B h.lt).trans h
theorem Blk.keep {w w':World} {B:Nat} {vs:Array Value} {T:TypeId} (h:Blk w B vs T) (hb:Below w.heap.size w w'):Blk w' B vs T:=
 (hb.block B h.lt).trans h
theorem Blk.keepB {w w':World} {B N:Nat} {vs:Array Value} {T:TypeId} (h:Blk w B vs T) (hb:Below N w w') (hN:B<N):Blk w' B vs T:=
 (hb.block B hN).trans h
theorem Blk.drew {w:World} {B:Nat} {vs:Array Value} {T:TypeId} (h:Blk w B vs T):Blk w.drew B vs T:=h
theorem Blk.cell {w:World} {B:Nat} {vs:Array Value} {T:TypeId} (h:Blk w B vs T) (i:Nat):w.cell? ⟨B,i,none⟩=vs[i]?:=by
 unfold Blk at h;simp [World.cell?,h]
theorem Blk.frozen {w:World} {B:Nat} {vs:Array Value} {T:TypeId} (h:Blk w B vs T) (i:Nat):w.frozen? ⟨B,i,none⟩=false:=by
 unfold Blk at h;simp [World.frozen?,h]
theorem Blk.facts {w:World} {B:Nat} {vs:Array Value} {T:TypeId} (h:Blk w B vs T) :
  (∀ i,w.cell? ⟨B,i,none⟩=vs[i]?)∧(∀ i,w.frozen? ⟨B,i,none⟩=false)∧B<w.heap.size:=⟨h.cell,h.frozen,h.lt⟩
theorem Blk.set {w:World} {B:Nat} {vs:Array Value} {T:TypeId} (h:Blk w B vs T) (i:Nat) (v:Value):Blk (w.setCell ⟨B,i,none⟩ v) B (vs.setIfInBounds i v) T:=by
 unfold Blk at h ⊢;simp only [World.setCell,Array.getElem?_modify,if_true,h];simp
theorem Blk.setOther {w:World} {B:Nat} {vs:Array Value} {T:TypeId} (h:Blk w B vs T) (a:Addr) (v:Value) (hne:a.block≠B):Blk (w.setCell a v) B vs T:=
 (Below.heap_setCell w a v B (fun e=>hne e.symm)).trans h
theorem bnext {w W w2:World} (h:Below w.heap.size w W) (h2:Below W.heap.size W w2):Below w.heap.size w w2:=h.trans (h2.mono h.size)
theorem balloc {w W:World} (h:Below w.heap.size w W) (o:Obj):Below w.heap.size w (W.alloc o):=h.alloc h.size o
theorem keepS_here (W:World):(∀ b o,b<W.heap.size→W.drew.cell? ⟨b,o,none⟩=W.cell? ⟨b,o,none⟩)∧Below W.heap.size W W.drew:=
 ⟨fun _ _ _=>rfl,(Below.refl _ _).drew⟩
theorem keepS_call {W p w4:World} (h:(∀ b o,b<W.heap.size→p.cell? ⟨b,o,none⟩=W.cell? ⟨b,o,none⟩)∧Below W.heap.size W p) (h2:Below p.heap.size p w4) :
  (∀ b o,b<W.heap.size→w4.cell? ⟨b,o,none⟩=W.cell? ⟨b,o,none⟩)∧Below W.heap.size W w4:=
 ⟨fun b o hb=>(h2.cell (p:=⟨b,o,none⟩) (Nat.lt_of_lt_of_le hb h.2.size)).trans (h.1 b o hb),bnext h.2 h2⟩
theorem keepS_alloc {W p:World} (h:(∀ b o,b<W.heap.size→p.cell? ⟨b,o,none⟩=W.cell? ⟨b,o,none⟩)∧Below W.heap.size W p) (o:Obj) :
  (∀ b i,b<W.heap.size→(p.alloc o).cell? ⟨b,i,none⟩=W.cell? ⟨b,i,none⟩)∧Below W.heap.size W (p.alloc o):=
 keepS_call h ((Below.refl _ _).alloc (Nat.le_refl _) _)
end
section
open Go.RowKit
structure Mod (S:Nat→Prop) (w w':World):Prop where
 os:w'.os=w.os
 tape:w'.tape=w.tape
 output:w'.output=w.output
 size:w.heap.size≤w'.heap.size
 block:∀ k,k<w.heap.size→¬ S k→w'.heap[k]? = w.heap[k]?
section
variable {S:Nat→Prop} {w w' w'':World}
theorem Mod.refl (S:Nat→Prop) (w:World):Mod S w w:=⟨rfl,rfl,rfl,Nat.le_refl _,fun _ _ _=>rfl⟩
theorem Mod.trans (h:Mod S w w') (k:Mod S w' w''):Mod S w w'':=
 ⟨k.os.trans h.os,k.tape.trans h.tape,k.output.trans h.output,Nat.le_trans h.size k.size,fun i hi hs=>(k.block i (Nat.lt_of_lt_of_le hi h.size) hs).trans (h.block i hi hs)⟩
theorem Mod.of_below (h:Below w.heap.size w w'):Mod S w w':=⟨h.os,h.tape,h.output,h.size,fun k hk _=>h.block k hk⟩
theorem Mod.below (h:Mod S w w') {B:Nat} (hS:∀ k,S k→B≤k) (hB:B≤w.heap.size):Below B w w':=
 ⟨h.os,h.tape,h.output,h.size,fun k hk=>h.block k (Nat.lt_of_lt_of_le hk hB) (fun hs=>by have:=hS k hs;omega)⟩
theorem Mod.mono {S':Nat→Prop} (h:Mod S w w') (hS:∀ k,S k→S' k):Mod S' w w':=⟨h.os,h.tape,h.output,h.size,fun k hk hs=>h.block k hk (fun h'=>hs (hS k h'))⟩
theorem Mod.alloc (h:Mod S w w') (o:Obj):Mod S w (w'.alloc o):=h.trans (.of_below ((Below.refl _ _).alloc (Nat.le_refl _) o))
theorem Mod.drew (h:Mod S w w'):Mod S w w'.drew:=⟨h.os,h.tape,h.output,h.size,h.block⟩
theorem Mod.setCell (h:Mod S w w') {a:Addr} (ha:S a.block∨w.heap.size≤a.block) (v:Value):Mod S w (w'.setCell a v):=
 ⟨h.os,h.tape,h.output,by simpa [World.setCell] using h.size,fun k hk hs=>by
  rw [Below.heap_setCell _ _ _ _ (by rintro rfl;rcases ha with ha | ha;exact hs ha;omega)];exact h.block k hk hs⟩
theorem Mod.setBlock (h:Mod S w w') {b:Nat} (hb:S b∨w.heap.size≤b) (o:Obj):Mod S w (ChangeMaps.setBlock w' b o):=
 ⟨h.os,h.tape,h.output,by simpa [ChangeMaps.setBlock] using h.size,fun k hk hs=>by
  have:b≠k:=by rintro rfl;rcases hb with hb | hb;exact hs hb;omega
  simp only [ChangeMaps.setBlock,Array.getElem?_setIfInBounds,if_neg this];exact h.block k hk hs⟩
theorem Blk.mod {B:Nat} {vs:Array Value} {T:TypeId} (h:Blk w B vs T) (hm:Mod S w w') (hs:¬ S B):Blk w' B vs T:=(hm.block B h.lt hs).trans h
theorem Blk.setBlock {B b:Nat} {vs:Array Value} {T:TypeId} (h:Blk w B vs T) (hb:b≠B) (o:Obj):Blk (ChangeMaps.setBlock w b o) B vs T:=by
 unfold Blk at h ⊢;simp only [ChangeMaps.setBlock,Array.getElem?_setIfInBounds,if_neg hb];exact h
end
theorem keepS_of {W p:World} (h:Below W.heap.size W p):(∀ b o,b<W.heap.size→p.cell? ⟨b,o,none⟩=W.cell? ⟨b,o,none⟩)∧Below W.heap.size W p:=
 ⟨fun b o hb=>h.cell (p:=⟨b,o,none⟩) hb,h⟩
theorem keepS_realloc {W p:World} {O X:Obj} (h:(∀ b o,b<W.heap.size→(p.alloc O).cell? ⟨b,o,none⟩=W.cell? ⟨b,o,none⟩)∧Below W.heap.size W (p.alloc O)) (hs:W.heap.size≤p.heap.size) :
  (∀ b o,b<W.heap.size→(p.alloc X).cell? ⟨b,o,none⟩=W.cell? ⟨b,o,none⟩)∧Below W.heap.size W (p.alloc X):=by
 obtain⟨-,h⟩:=h;refine keepS_of ⟨h.os,h.tape,h.output,by rw [World.size_alloc];omega,fun k hk=>?_⟩;have:=h.block k hk;rw [Below.heap_alloc _ _ _ (by omega)] at this ⊢;exact this
theorem keepS_set {W p:World} (h:(∀ b o,b<W.heap.size→p.cell? ⟨b,o,none⟩=W.cell? ⟨b,o,none⟩)∧Below W.heap.size W p) {a:Addr} (ha:W.heap.size≤a.block) (v:Value) :
  (∀ b o,b<W.heap.size→(p.setCell a v).cell? ⟨b,o,none⟩=W.cell? ⟨b,o,none⟩)∧Below W.heap.size W (p.setCell a v):=
 keepS_of (h.2.setCell ha v)
theorem keepS_set4 {W p:World} {B:Nat} {v0 v1 v2 v3:Value} (h:(∀ b o,b<W.heap.size→p.cell? ⟨b,o,none⟩=W.cell? ⟨b,o,none⟩)∧Below W.heap.size W p) (hB:W.heap.size≤B) :
  (∀ b o,b<W.heap.size→((((p.setCell ⟨B,0,none⟩ v0).setCell ⟨B,1,none⟩ v1).setCell ⟨B,2,none⟩ v2).setCell ⟨B,3,none⟩ v3).cell? ⟨b,o,none⟩=W.cell? ⟨b,o,none⟩)∧
   Below W.heap.size W ((((p.setCell ⟨B,0,none⟩ v0).setCell ⟨B,1,none⟩ v1).setCell ⟨B,2,none⟩ v2).setCell ⟨B,3,none⟩ v3):=
 keepS_set (keepS_set (keepS_set (keepS_set h hB v0) hB v1) hB v2) hB v3
theorem keepS_here2 (W:World):(∀ b o,b<W.heap.size→W.drew.drew.cell? ⟨b,o,none⟩=W.cell? ⟨b,o,none⟩)∧Below W.heap.size W W.drew.drew:=keepS_of ((Below.refl _ _).drew).drew
theorem new_drew {w w4:World} {vs:Array Value} {T:TypeId} (h:Below (w.alloc (.cells vs T)).drew.heap.size (w.alloc (.cells vs T)).drew w4):Blk w4 w.heap.size vs T:=((Blk.new w vs T).drew).keep h
theorem new_keep {w w4:World} {vs:Array Value} {T:TypeId} (h:Below (w.alloc (.cells vs T)).heap.size (w.alloc (.cells vs T)) w4):Blk w4 w.heap.size vs T:=(Blk.new w vs T).keep h
theorem keepS_allocD {W p:World} (h:(∀ b o,b<W.heap.size→p.drew.cell? ⟨b,o,none⟩=W.cell? ⟨b,o,none⟩)∧Below W.heap.size W p.drew) (o:Obj) :
  (∀ b i,b<W.heap.size→(p.alloc o).drew.cell? ⟨b,i,none⟩=W.cell? ⟨b,i,none⟩)∧Below W.heap.size W (p.alloc o).drew:=keepS_alloc (p:=p.drew) h o
theorem Blk.set4 {w:World} {B:Nat} {x0 x1 x2 x3 v0 v1 v2 v3:Value} {T:TypeId} (h:Blk w B #[x0,x1,x2,x3] T) :
  Blk ((((w.setCell ⟨B,0,none⟩ v0).setCell ⟨B,1,none⟩ v1).setCell ⟨B,2,none⟩ v2).setCell ⟨B,3,none⟩ v3) B #[v0,v1,v2,v3] T:=(((h.set 0 v0).set 1 v1).set 2 v2).set 3 v3
theorem below_set4 {N:Nat} {w0 w:World} {B:Nat} {v0 v1 v2 v3:Value} (h:Below N w0 w) (hB:N≤B) :
  Below N w0 ((((w.setCell ⟨B,0,none⟩ v0).setCell ⟨B,1,none⟩ v1).setCell ⟨B,2,none⟩ v2).setCell ⟨B,3,none⟩ v3):=(((h.setCell hB v0).setCell hB v1).setCell hB v2).setCell hB v3
end
section
open Go.RowKit Go.ChangeShapes Go.WideShapes Go.ChangeAt
section
variable {H:Type} {enc:TypeId×Value→H} {P:Program}
theorem trodAll_below (hl:laidOutB P=true) {W W':World} (bel:Below W.heap.size W W') :
  ∀ (ts:List TypeId) (vs:List Value) (ds:List (DataW H)) (p:List MemPlace),(ts.all fun t=>P.readableRec t && decide (t<P.types.size))=true→
   DataW.TrodAll enc P W 0 (fun _=>true) true ts vs ds p→DataW.TrodAll enc P W' 0 (fun b=>decide (b<W.heap.size)) true ts vs ds p
 | [],vs,ds,p,_,h=>by
  obtain⟨rfl,rfl,rfl⟩:=trodAll_nil h;exact trodAll_mk0
 | t :: ts,vs,ds,p,hr,h=>by
  obtain⟨v,vs',d,ds',p1,p2,rfl,rfl,rfl,h1,h2⟩:=trodAll_cons h;simp only [List.all_cons,Bool.and_eq_true,decide_eq_true_eq] at hr;obtain⟨⟨hr1,hr2⟩,hr3⟩:=hr;have lt:∀ x∈p1,x.block<W.heap.size:=by obtain ⟨m,hm⟩:=h1;exact DataW.trod_lt m _ _ _ hm
  exact trodAll_cons_mk (Below.trod hl hr1 hr2 h1 bel lt) (trodAll_below hl bel ts vs' ds' p2 hr3 h2)
end
section
variable {P:Program} {w:World} {r:Reach} {base:Nat} {t:TypeId}
def I64 (a:Int):Prop:=-9223372036854775808≤a∧a≤9223372036854775807
theorem struct_ok {v:Value} {fs:Array Field} (ht:P.underlying t=some (.struct fs)) (h:Value.okWide P w r base t v):∃ cs,v=.agg cs∧cs.size=P.cellsOf t∧Row.okWide P w r base t cs:=by
 simpa only [Value.okWide,ht] using h
theorem i64_of_wf {a:Int} (h:(Lit.int .i64 a).wf=true):I64 a:=by
 simp [Lit.wf,IntKind.min,IntKind.max,IntKind.signed,IntKind.bits] at h;unfold I64;omega
end
end
section
open Go.RowKit Go.ChangeShapes Go.WideShapes Go.ChangeAt
def SliceAt {α:Type} (w:World) (sz:Nat) (R:List Value→α→Prop) (a:Option Addr) (len cap:Nat) (xs:List α):Prop:=
 xs.length=len∧len≤cap∧cap≤9223372036854775807∧(len=0∨∃ b off:Nat,a=some ⟨b,off,none⟩∧b<w.heap.size∧
  ∀ (i:Nat) (h:i<xs.length),∃ cs:List Value,cs.length=sz∧R cs xs[i]∧∀ (j:Nat) (hj:j<cs.length),w.cell? ⟨b,off+i*sz+j,none⟩=some cs[j])
theorem addr_add (b off n:Nat):(⟨b,off,none⟩:Addr).add n=⟨b,off+n,none⟩:=by
 unfold Addr.add
 split
 ·rename_i h;subst h;rfl
 ·rfl
section
variable {H:Type} {enc:TypeId×Value→H} {P:Program} {w:World} {base:Nat} {spare:Nat→Bool} {held:Bool}
theorem SliceAt.below {α:Type} {sz:Nat} {R:List Value→α→Prop} {a:Option Addr} {len cap:Nat} {xs:List α} {N:Nat} {w':World} (h:SliceAt w sz R a len cap xs) (hb:Below N w w') (hN:w.heap.size≤N):SliceAt w' sz R a len cap xs:=by
 obtain⟨h1,h2,h3,h4⟩:=h;refine ⟨h1,h2,h3,h4.imp id fun ⟨b,off,ha,hlt,hc⟩=>⟨b,off,ha,Nat.lt_of_lt_of_le hlt hb.size,fun i hi=>?_⟩⟩;obtain⟨cs,c1,c2,c3⟩:=hc i hi;exact⟨cs,c1,c2,fun j hj=>(hb.cell (p:=⟨b,off+i*sz+j,none⟩) (Nat.lt_of_lt_of_le hlt hN)).trans (c3 j hj)⟩
theorem trod_i64 {t:TypeId} (ht:P.underlying t=some (.int .i64)) {fuel:Nat} {cs:List Value} {x:DataW H×List MemPlace} (h:DataW.trod enc P w base spare held fuel t cs=some x):∃ n,cs=[.int .i64 n]∧I64 n:=by
 obtain⟨n,h1,-,h3⟩:=DataW.trod_int ht h;exact⟨n,h1,i64_of_wf h3⟩
theorem trod_str {t:TypeId} (ht:P.underlying t=some .string) {fuel:Nat} {cs:List Value} {x:DataW H×List MemPlace} (h:DataW.trod enc P w base spare held fuel t cs=some x):∃ s:ByteArray,cs=[.string s]∧s.size≤9223372036854775807:=by
 obtain⟨s,h1,-,h3⟩:=DataW.trod_string ht h;exact⟨s,h1,by unfold maxLen at h3;exact h3⟩
end
end
end Go.Proofs.YtbndfmkgamdgeaaGreatDoor
