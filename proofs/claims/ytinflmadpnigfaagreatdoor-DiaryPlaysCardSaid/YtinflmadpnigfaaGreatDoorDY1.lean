import Derived.WalkKit
import Derived.WalkSpells
import Derived.WalkLawsBesides
import Derived.Outline
import Derived.Deep.QuietTactic
import Derived.BigQuiet
import Derived.Handy
import Derived.Lib.Hide
import Derived.Deep.RegionHeld3
import Derived.StillTactics
import Derived.RangeFuncNested
import Derived.RangeFuncBound
import Derived.RangeFuncCalls
import Derived.RangeFuncLeaves
import Derived.Shelf.Strings.Builder1
import Derived.Shelf.Strings.Builder2
import Derived.Shelf.Strings.OnBuilder
import Derived.Shelf.Strings.Trim
import Derived.Shelf.Small.Utf8
import Derived.Shelf.Small.Strs
import Derived.Shelf.Small.Wraps
import Derived.Shelf.Strings.BuilderF
import Derived.Shelf.Strings.BuilderK
import Derived.Shelf.Utf8.RuneCount
import Derived.Shelf.Strings.Search1
import Derived.Shelf.Strings.Search2
import Derived.Shelf.Strings.Search3
import Derived.Shelf.Strings.Count
import Derived.Shelf.LaysM
import Derived.Shelf.Strings.Shaped
import Derived.Shelf.Strings.LastIndex
import Derived.Shelf.Strings.Prefix
import Derived.Shelf.Strings.Split
import Derived.Shelf.Strings.SplitShaped
import Derived.Shelf.Unicode.Decode
import Derived.Shelf.Strings.Runes
import Derived.Shelf.Strings.RuneCount
import Derived.Shelf.Strings.AsciiSet
import Derived.Shelf.Strings.Explode
import Derived.Shelf.Unicode.DecodeSlow
import Derived.Shelf.Unicode.DecodeAny
import Derived.Shelf.Unicode.DecodeLast
import Derived.Shelf.Strings.BuilderCap
import Derived.Ground.PaProg
import Derived.Shelf.Path.Small
import Derived.Test.YtinflmadpnigfaaGreatDoorProg
set_option linter.unusedVariables false
set_option linter.unusedSimpArgs false
set_option maxRecDepth 100000
set_option maxHeartbeats 16000000
namespace Go.Proofs.YtinflmadpnigfaaGreatDoor
open Go.RowKit
def Un(p:Prop):Prop:=p
theorem Um{p:Prop}(h:p):Un p:=h
theorem Un.out{p:Prop}(h:Un p):p:=h
theorem Un.o{p:Prop}(h:Un p):p:=h
abbrev Up(w w':World):Prop:=Below w.heap.size w w'
theorem Uq(w:World):Below w.heap.size w w:=Below.refl _ w
theorem aa(n:Nat):n≤n:=Nat.le_refl n
theorem ae{a b c:Nat}(h:a≤b)(k:b≤c):a≤c:=Nat.le_trans h k
theorem ag{a b:Prop}(h:a)(k:b):a∧b:=⟨h,k⟩
theorem ah{α:Type}(l:List α)(i:Nat)(a:α):l.toArray.setIfInBounds i a=(l.set i a).toArray:=List.setIfInBounds_toArray l i a
theorem ai{α:Type}{x:α}{l:List α}{a:α}:(x::l).set 0 a=a::l:=rfl
theorem aj{α:Type}{x:α}{l:List α}{n:Nat}{a:α}:(x::l).set (n+1) a=x::l.set n a:=rfl
section
def au(w:World)(B:Nat)(vs:Array Value)(T:TypeId):Prop:=w.heap[B]?=some (.cells vs T (0,0))
theorem au.lt{w:World}{B:Nat}{vs:Array Value}{T:TypeId}(h:au w B vs T):B<w.heap.size:=by
 unfold au at h;exact(Array.getElem?_eq_some_iff.1 h).1
theorem au.new(w:World)(vs:Array Value)(T:TypeId):au (w.alloc (.cells vs T)) w.heap.size vs T:=by
 show(w.heap.push _)[w.heap.size]?=_;simp
theorem au.eE{w:World}{B:Nat}{vs:Array Value}{T:TypeId}(h:au w B vs T)(o:Obj):au (w.alloc o) B vs T:=
 (Below.heap_alloc w o B h.lt).trans h
theorem au.ak{w w':World}{B:Nat}{vs:Array Value}{T:TypeId}(h:au w B vs T)(hb:Up w w'):au w' B vs T:=
 (hb.block B h.lt).trans h
theorem au.gI{w w':World}{B N:Nat}{vs:Array Value}{T:TypeId}(h:au w B vs T)(hb:Below N w w')(hN:B<N):au w' B vs T:=
 (hb.block B hN).trans h
theorem au.drew{w:World}{B:Nat}{vs:Array Value}{T:TypeId}(h:au w B vs T):au w.drew B vs T:=h
theorem au.cell{w:World}{B:Nat}{vs:Array Value}{T:TypeId}(h:au w B vs T)(i:Nat):w.cell? ⟨B,i,none⟩=vs[i]?:=by
 unfold au at h;simp[World.cell?,h]
theorem au.frozen{w:World}{B:Nat}{vs:Array Value}{T:TypeId}(h:au w B vs T)(i:Nat):w.frozen? ⟨B,i,none⟩=false:=by
 unfold au at h;simp[World.frozen?,h]
theorem au.facts{w:World}{B:Nat}{vs:Array Value}{T:TypeId}(h:au w B vs T) :
  (∀i,w.cell? ⟨B,i,none⟩=vs[i]?)∧(∀i,w.frozen? ⟨B,i,none⟩=false)∧B<w.heap.size:=⟨h.cell,h.frozen,h.lt⟩
theorem au.set{w:World}{B:Nat}{vs:Array Value}{T:TypeId}(h:au w B vs T)(i:Nat)(v:Value):au (w.setCell ⟨B,i,none⟩ v) B (vs.setIfInBounds i v) T:=by
 unfold au at h⊢;simp only[World.setCell,Array.getElem?_modify,if_true,h];simp
theorem au.setOther{w:World}{B:Nat}{vs:Array Value}{T:TypeId}(h:au w B vs T)(a:Addr)(v:Value)(hne:a.block≠B):au (w.setCell a v) B vs T:=
 (Below.heap_setCell w a v B (fun e=>hne e.symm)).trans h
theorem ao{w W w2:World}(h:Up w W)(h2:Up W w2):Up w w2:=h.trans (h2.mono h.size)
theorem al{w W:World}(h:Up w W)(o:Obj):Up w (W.alloc o):=h.alloc h.size o
theorem Uo(w:World)(v:Array Value)(T:TypeId):au (w.alloc (.cells v T)) w.heap.size v T∧Below w.heap.size w (w.alloc (.cells v T)):=⟨au.new w v T,al (Below.refl _ w) _⟩
theorem ck(W:World):(∀b o,b<W.heap.size→W.drew.cell? ⟨b,o,none⟩=W.cell? ⟨b,o,none⟩)∧Up W W.drew:=
 ⟨fun _ _ _=>rfl,(Below.refl _ _).drew⟩
theorem bN{W p w4:World}(h:(∀b o,b<W.heap.size→p.cell? ⟨b,o,none⟩=W.cell? ⟨b,o,none⟩)∧Up W p)(h2:Up p w4) :
  (∀b o,b<W.heap.size→w4.cell? ⟨b,o,none⟩=W.cell? ⟨b,o,none⟩)∧Up W w4:=
 ⟨fun b o hb=>(h2.cell (p:=⟨b,o,none⟩) (Nat.lt_of_lt_of_le hb h.2.size)).trans (h.1 b o hb),ao h.2 h2⟩
theorem bB{W p:World}(h:(∀b o,b<W.heap.size→p.cell? ⟨b,o,none⟩=W.cell? ⟨b,o,none⟩)∧Up W p)(o:Obj) :
  (∀b i,b<W.heap.size→(p.alloc o).cell? ⟨b,i,none⟩=W.cell? ⟨b,i,none⟩)∧Up W (p.alloc o):=
 bN h ((Below.refl _ _).alloc (aa _) _)
end
section
structure Mod(S:Nat→Prop)(w w':World):Prop where
 os:w'.os=w.os
 tape:w'.tape=w.tape
 output:w'.output=w.output
 size:w.heap.size≤w'.heap.size
 block:∀k,k<w.heap.size→¬S k→w'.heap[k]?=w.heap[k]?
section
variable{S:Nat→Prop}{w w' w'':World}
theorem Mod.refl(S:Nat→Prop)(w:World):Mod S w w:=⟨rfl,rfl,rfl,aa _,fun _ _ _=>rfl⟩
theorem Mod.trans(h:Mod S w w')(k:Mod S w' w''):Mod S w w'':=
 ⟨k.os.trans h.os,k.tape.trans h.tape,k.output.trans h.output,ae h.size k.size,fun i hi hs=>(k.block i (Nat.lt_of_lt_of_le hi h.size) hs).trans (h.block i hi hs)⟩
theorem Mod.aq(h:Up w w'):Mod S w w':=⟨h.os,h.tape,h.output,h.size,fun k hk _=>h.block k hk⟩
theorem Mod.below(h:Mod S w w'){B:Nat}(hS:∀k,S k→B≤k)(hB:B≤w.heap.size):Below B w w':=
 ⟨h.os,h.tape,h.output,h.size,fun k hk=>h.block k (Nat.lt_of_lt_of_le hk hB) (fun hs=>by have:=hS k hs;omega)⟩
theorem Mod.mono{S':Nat→Prop}(h:Mod S w w')(hS:∀k,S k→S' k):Mod S' w w':=⟨h.os,h.tape,h.output,h.size,fun k hk hs=>h.block k hk (fun h'=>hs (hS k h'))⟩
theorem Mod.alloc(h:Mod S w w')(o:Obj):Mod S w (w'.alloc o):=h.trans (.aq ((Below.refl _ _).alloc (aa _) o))
theorem Mod.drew(h:Mod S w w'):Mod S w w'.drew:=⟨h.os,h.tape,h.output,h.size,h.block⟩
theorem Mod.setCell(h:Mod S w w'){a:Addr}(ha:S a.block∨w.heap.size≤a.block)(v:Value):Mod S w (w'.setCell a v):=
 ⟨h.os,h.tape,h.output,by simpa [World.setCell] using h.size,fun k hk hs=>by
  rw[Below.heap_setCell _ _ _ _ (by rintro rfl;rcases ha with ha|ha;exact hs ha;omega)];exact h.block k hk hs⟩
theorem Mod.setBlock(h:Mod S w w'){b:Nat}(hb:S b∨w.heap.size≤b)(o:Obj):Mod S w (ChangeMaps.setBlock w' b o):=
 ⟨h.os,h.tape,h.output,by simpa [ChangeMaps.setBlock] using h.size,fun k hk hs=>by
  have:b≠k:=by rintro rfl;rcases hb with hb|hb;exact hs hb;omega
  simp only[ChangeMaps.setBlock,Array.getElem?_setIfInBounds,if_neg this];exact h.block k hk hs⟩
theorem au.mod{B:Nat}{vs:Array Value}{T:TypeId}(h:au w B vs T)(hm:Mod S w w')(hs:¬S B):au w' B vs T:=(hm.block B h.lt hs).trans h
theorem au.setBlock{B b:Nat}{vs:Array Value}{T:TypeId}(h:au w B vs T)(hb:b≠B)(o:Obj):au (ChangeMaps.setBlock w b o) B vs T:=by
 unfold au at h⊢;simp only[ChangeMaps.setBlock,Array.getElem?_setIfInBounds,if_neg hb];exact h
end
theorem mx{W p:World}(h:Up W p):(∀b o,b<W.heap.size→p.cell? ⟨b,o,none⟩=W.cell? ⟨b,o,none⟩)∧Up W p:=
 ⟨fun b o hb=>h.cell (p:=⟨b,o,none⟩) hb,h⟩
theorem bm{W p:World}{O X:Obj}(h:(∀b o,b<W.heap.size→(p.alloc O).cell? ⟨b,o,none⟩=W.cell? ⟨b,o,none⟩)∧Up W (p.alloc O))(hs:W.heap.size≤p.heap.size) :
  (∀b o,b<W.heap.size→(p.alloc X).cell? ⟨b,o,none⟩=W.cell? ⟨b,o,none⟩)∧Up W (p.alloc X):=by
 obtain⟨-,h⟩:=h;refine mx ⟨h.os,h.tape,h.output,by rw[World.size_alloc];omega,fun k hk=>?_⟩;have:=h.block k hk;rw[Below.heap_alloc _ _ _ (by omega)] at this⊢;exact this
theorem nA{W p:World}(h:(∀b o,b<W.heap.size→p.cell? ⟨b,o,none⟩=W.cell? ⟨b,o,none⟩)∧Up W p){a:Addr}(ha:W.heap.size≤a.block)(v:Value) :
  (∀b o,b<W.heap.size→(p.setCell a v).cell? ⟨b,o,none⟩=W.cell? ⟨b,o,none⟩)∧Up W (p.setCell a v):=
 mx (h.2.setCell ha v)
theorem cj{W p:World}{B:Nat}{v0 v1 v2 v3:Value}(h:(∀b o,b<W.heap.size→p.cell? ⟨b,o,none⟩=W.cell? ⟨b,o,none⟩)∧Up W p)(hB:W.heap.size≤B) :
  (∀b o,b<W.heap.size→((((p.setCell ⟨B,0,none⟩ v0).setCell ⟨B,1,none⟩ v1).setCell ⟨B,2,none⟩ v2).setCell ⟨B,3,none⟩ v3).cell? ⟨b,o,none⟩=W.cell? ⟨b,o,none⟩)∧
   Up W ((((p.setCell ⟨B,0,none⟩ v0).setCell ⟨B,1,none⟩ v1).setCell ⟨B,2,none⟩ v2).setCell ⟨B,3,none⟩ v3):=
 nA (nA (nA (nA h hB v0) hB v1) hB v2) hB v3
theorem bI(W:World):(∀b o,b<W.heap.size→W.drew.drew.cell? ⟨b,o,none⟩=W.cell? ⟨b,o,none⟩)∧Up W W.drew.drew:=mx ((Below.refl _ _).drew).drew
theorem gj{w w4:World}{vs:Array Value}{T:TypeId}(h:Below (w.alloc (.cells vs T)).drew.heap.size (w.alloc (.cells vs T)).drew w4):au w4 w.heap.size vs T:=((au.new w vs T).drew).ak h
theorem tU{w w4:World}{vs:Array Value}{T:TypeId}(h:Below (w.alloc (.cells vs T)).heap.size (w.alloc (.cells vs T)) w4):au w4 w.heap.size vs T:=(au.new w vs T).ak h
theorem bu{W p:World}(h:(∀b o,b<W.heap.size→p.drew.cell? ⟨b,o,none⟩=W.cell? ⟨b,o,none⟩)∧Up W p.drew)(o:Obj) :
  (∀b i,b<W.heap.size→(p.alloc o).drew.cell? ⟨b,i,none⟩=W.cell? ⟨b,i,none⟩)∧Up W (p.alloc o).drew:=bB (p:=p.drew) h o
theorem au.cO{w:World}{B:Nat}{x0 x1 x2 x3 v0 v1 v2 v3:Value}{T:TypeId}(h:au w B #[x0,x1,x2,x3] T) :
  au ((((w.setCell ⟨B,0,none⟩ v0).setCell ⟨B,1,none⟩ v1).setCell ⟨B,2,none⟩ v2).setCell ⟨B,3,none⟩ v3) B #[v0,v1,v2,v3] T:=(((h.set 0 v0).set 1 v1).set 2 v2).set 3 v3
theorem aw{N:Nat}{w0 w:World}{B:Nat}{v0 v1 v2 v3:Value}(h:Below N w0 w)(hB:N≤B) :
  Below N w0 ((((w.setCell ⟨B,0,none⟩ v0).setCell ⟨B,1,none⟩ v1).setCell ⟨B,2,none⟩ v2).setCell ⟨B,3,none⟩ v3):=(((h.setCell hB v0).setCell hB v1).setCell hB v2).setCell hB v3
end
section
structure jS(T:Nat→Prop)(B:Nat)(p:Obj→Bool)(W W':World):Prop where
 os:W'.os=W.os
 tape:W'.tape=W.tape
 output:W'.output=W.output
 size:W.heap.size≤W'.heap.size
 block:∀k o,W.heap[k]?=some o→¬T k→(B≤k→p o=false)→W'.heap[k]?=some o
def OT{β:Type}(T:Nat→Prop)(B:Nat)(p:Obj→Bool)(J:β→World→Prop):Prop:=∀s W W',J s W→jS T B p W W'→J s W'
def KT(T:Nat→Prop)(W W':World):Prop:=W.heap.size≤W'.heap.size∧∀k,T k→W'.heap[k]?=W.heap[k]?
theorem KT.refl(T:Nat→Prop)(W:World):KT T W W:=⟨aa _,fun _ _=>rfl⟩
theorem KT.trans{T:Nat→Prop}{A B C:World}(h:KT T A B)(k:KT T B C):KT T A C:=⟨ae h.1 k.1,fun i hi=>(k.2 i hi).trans (h.2 i hi)⟩
theorem KT.aq{T:Nat→Prop}{W W':World}(h:Up W W')(hT:∀k,T k→k<W.heap.size):KT T W W':=⟨h.size,fun k hk=>h.block k (hT k hk)⟩
theorem KT.put{T:Nat→Prop}(W:World)(l:Nat)(o:Obj)(h:¬T l):KT T W (W.putObj l o):=⟨by simp,fun k hk=>World.putObj_heap_other (fun e=>h (e▸hk))⟩
theorem jS.put{T:Nat→Prop}{B:Nat}{p:Obj→Bool}{W:World}{l:Nat}{o o':Obj}(hB:B≤l)(hl:W.heap[l]?=some o)(hp:p o=true):jS T B p W (W.putObj l o'):=
 ⟨rfl,rfl,rfl,by simp,fun k o2 hk _ h2=>(World.putObj_heap_other (fun e=>by subst e;rw[hl] at hk;injection hk with hk;subst hk;rw[hp] at h2;exact absurd (h2 hB) (by decide))).trans hk⟩
theorem jS.alloc{T:Nat→Prop}{B:Nat}{p:Obj→Bool}(W:World)(o:Obj):jS T B p W (W.alloc o):=
 ⟨rfl,rfl,rfl,by simp,fun k o2 hk _ _=>(Below.heap_alloc W o k (Array.getElem?_eq_some_iff.1 hk).1).trans hk⟩
theorem jS.dH{T S:Nat→Prop}{B:Nat}{p:Obj→Bool}{W W':World}(h:Mod S W W')(hS:∀k,S k→T k):jS T B p W W':=
 ⟨h.os,h.tape,h.output,h.size,fun k _ hk hT _=>(h.block k (Array.getElem?_eq_some_iff.1 hk).1 (fun hs=>hT (hS k hs))).trans hk⟩
def Lb{α:Type}(T:Nat→Prop)(F:Fence)(n:Nat)(P:Program)(g:Nat)(lb:Array Value)(encs:α→Array Value)(S Sp:List α→Prop)(V:List α→α→Prop)(w:World):Prop:=
 ∀(l:Nat) (J Jx:List α→World→Prop) (W:World),KT T w W→w.heap.size≤W.heap.size→OT T W.heap.size Obj.isWalk J→OT T W.heap.size Obj.isWalk Jx→
  (∀pre x W1,J pre W1→V pre x→YieldAt F (n-1) P l (encs x) W1 fun e W'=>
   (e=.returned (.bool true)∧J (pre++[x]) W'∧KT T W1 W')∨(e=.returned (.bool false)∧Jx (pre++[x]) W'))→
  J [] W→
  CallsIn F n P g (#[.func (.yield l) #[] #[]]++lb) W fun e W'=>(∃v,e=.returned v)∧((∃xs,S xs∧J xs W')∨(∃pre,Sp pre∧Jx pre W'))
def gV(o:Obj):Bool:=!o.isCells
theorem vv{o:Obj}(h:o.isWalk=true):gV o=true:=by unfold gV;rw[Obj.not_cells_of_walk h];rfl
theorem rA{F:Fence}{n:Nat}{P:Program}{w:World}{α:Type}{T:Nat→Prop}{g:Operand}{ps:Array Tmp}{assign body:Code}{Q:Exit→Act→World→Prop}{a:Act}
  (hro:F.round=none) (h1:1≤n) {gf:Nat} {lb:Array Value} (hg:a.eval g=.func (.func gf) #[] lb) (hFg:F.fn gf) (eg:∀args w,(callFunc gf args).run P w=.ok (.enter gf args) w)
  {encs:α→Array Value} {S Sp:List α→Prop} {V:List α→α→Prop} {w0:World} (hseq:Lb T F (n-1) P gf lb encs S Sp V w0)
  (hT:∀k,T k→k<w.heap.size) (bO:KT T w0 w) (hps:∀x,(encs x).size=ps.size)
  (I:List α→World→Prop) (Ix:Code→List α→World→Prop) (hI:OT T w.heap.size gV I) (hIx:∀c,OT T w.heap.size gV (Ix c)) (h0:I [] w) (a₁:α→Act)
  (hassign:∀(l:Nat) (x:α) (W:World) (K:Act→World→Prop),K (a₁ x) W→
   assign.wpIn (F.inRound l) (n-1-1) P (Exit.then K (fun _ _ _=>False)) {tmps:=(ps.zip (encs x)).foldl (fun t (p,v)=>t.setIfInBounds p v) a.tmps,defers:=[]} W)
  (hbody:∀(l:Nat) (pre:List α) (x:α) (W:World),w.heap.size≤l→l<W.heap.size→I pre W→V pre x→body.wpIn (F.inRound l) (n-1-1) P (ownPostG w.heap.size (KT T) I Ix (pre++[x]) W) (a₁ x) W)
  (hdone:∀(D:Nat) (xs:List α) (W:World),w.heap.size≤D→S xs→I xs W→W.heap[D]?=some (.deferred (some []))→Q .normal {a with defers:={target:=.collected D,args:=#[]}::a.defers} W)
  (hstop:∀(D:Nat) (c:Code) (pre:List α) (W:World),w.heap.size≤D→Sp pre→Ix c pre W→W.heap[D]?=some (.deferred (some []))→c.wpIn F n P Q {a with defers:={target:=.collected D,args:=#[]}::a.defers} W) :
  (Code.rangeFunc g ps assign body).wpIn F n P Q a w:=by
 refine wpIn_rangeFunc fun fn hfn=>?_;rw[hro];obtain⟨rc,hrc⟩:∃rc:LoopState→Option Code→Loop,rc=fun st pe=>{state:=st,pending:=pe,fn,tmps:=a.tmps,params:=ps,assign,body,defers:=w.heap.size}:=⟨_,rfl⟩;have hTl:¬T (w.heap.size+1):=fun h=>by have:=hT _ h;omega
 have hTd:¬T w.heap.size:=fun h=>by have:=hT _ h;omega
 generalize LL:(w.alloc (.deferred (some []))).alloc (.loop (rc .ready none))=W1;have Dl:W1.heap.size=w.heap.size+2:=by rw[←LL];simp
 have PL:W1.heap[w.heap.size+1]?=some (.loop (rc .ready none)):=by
  have:=World.alloc_heap_new (w.alloc (.deferred (some []))) (.loop (rc .ready none));rw[World.size_alloc] at this;rw[←LL];exact this
 have hD1:W1.heap[w.heap.size]?=some (.deferred (some [])):=by
  rw[←LL];exact(Below.heap_alloc _ _ _ (by simp)).trans (World.alloc_heap_new w _)
 have hI1:I [] W1:=by rw[←LL];exact hI _ _ _ (hI _ _ _ h0 (jS.alloc _ _)) (jS.alloc _ _)
 have hK1:KT T w W1:=by rw[←LL];exact KT.aq ((((Below.refl _ w).alloc (aa _) _).alloc (by simp) _)) hT
 refine⟨w.heap.size+1,[{target:=.collected w.heap.size,args:=#[]}],W1,{target:=.fn (.func gf) lb,args:=#[.func (.yield (w.heap.size+1)) #[] #[]]},W1,gf,
  #[.func (.yield (w.heap.size+1)) #[] #[]]++lb,W1,?_,?_,?_,?_,fun _=>h1,?_⟩
 ·rw[←LL,hrc];exact run_enterLoop_outer _ _ _ _ _
 ·simp only[resolve,hg];simp[go_sem]
 ·intro f' hf';simp[Target.leads] at hf';subst hf';exact hFg
 ·simp[invoke,go_sem,eg]
 have turnW:∀{A B:World},jS T W1.heap.size Obj.isWalk A B→jS T w.heap.size gV A B:=fun h=>
  ⟨h.os,h.tape,h.output,h.size,fun k o hk ht hp=>h.block k o hk ht (fun hB=>by
   cases hw:o.isWalk with
   |false=>rfl
   |true=>have:=hp (by omega);rw[vv hw] at this;cases this)⟩
 have keepL:∀{A B:World} {k:Nat} {o:Obj},jS T W1.heap.size Obj.isWalk A B→A.heap[k]?=some o→¬T k→o.isWalk=false→B.heap[k]?=some o:=fun h hk ht hw=>h.block _ _ hk ht (fun _=>hw);refine(hseq (w.heap.size+1)
  (fun pre W=>I pre W∧W.heap[w.heap.size+1]?=some (.loop (rc .ready none))∧W.heap[w.heap.size]?=some (.deferred (some [])))
  (fun pre W=>∃c,Ix c pre W∧W.heap[w.heap.size+1]?=some (.loop (rc .done (some c)))∧W.heap[w.heap.size]?=some (.deferred (some [])))
  W1 (bO.trans hK1) (ae bO.1 hK1.1)
  (fun s A B hs ht=>⟨hI s A B hs.1 (turnW ht),keepL ht hs.2.1 hTl rfl,keepL ht hs.2.2 hTd rfl⟩)
  (fun s A B hs ht=>by
   obtain⟨c,hc,hl,hk⟩:=hs;exact⟨c,hIx c s A B hc (turnW ht),keepL ht hl hTl rfl,keepL ht hk hTd rfl⟩)
  ?_ ⟨hI1,PL,hD1⟩).mono ?_
 ·rintro pre x W ⟨hi,hl,hk⟩ hlen;have hlt:w.heap.size+1<W.heap.size:=(Array.getElem?_eq_some_iff.1 hl).1;have hy:=run_yield (P:=P) (args:=encs x) hl (by rw[hrc];exact hps x);rw[hrc] at hy;refine⟨fn,_,assign,body,hy,roundIn_of_wpIn hfn (hassign _ x W _ ?_)⟩;clear hy;refine⟨_,run_beginRound hl (by rw[hrc]),?_⟩;generalize hWb:W.putObj (w.heap.size+1) (.loop {rc .ready none with state:=.busy})=Wb;have zk:Wb.heap[w.heap.size+1]?=some (.loop {rc .ready none with state:=.busy}):=by rw[←hWb];exact World.putObj_heap_same hlt
  have ig:Wb.heap[w.heap.size]?=some (.deferred (some [])):=by rw[←hWb];exact(World.putObj_heap_other (by omega)).trans hk
  have Ih:KT T W Wb:=by rw[←hWb];exact KT.put _ _ _ hTl
  have hib:I pre Wb:=by rw[←hWb];exact hI _ _ _ hi (jS.put (by omega) hl rfl)
  refine wpIn_mono (hbody _ pre x Wb (by omega) (by have:=Ih.1;omega) hib hlen) ?_;have fin:∀(jump:Option Code) (W3:World),KeepsFrom w.heap.size Wb W3→
    (Instr.endRound (w.heap.size+1) jump).run P W3=.ok (.bool jump.isNone) (W3.putObj (w.heap.size+1) (.loop (rc (if jump.isNone then .ready else .done) jump)))∧
    W3.heap[w.heap.size+1]?=some (.loop {rc .ready none with state:=.busy})∧
    (W3.putObj (w.heap.size+1) (.loop (rc (if jump.isNone then .ready else .done) jump))).heap[w.heap.size+1]?=some (.loop (rc (if jump.isNone then .ready else .done) jump))∧
    (W3.putObj (w.heap.size+1) (.loop (rc (if jump.isNone then .ready else .done) jump))).heap[w.heap.size]?=some (.deferred (some [])):=fun jump W3 mD=>by
   have Nf:=mD.same _ _ (by omega) zk rfl;have:=run_endRound (P:=P) jump Nf;rw[hrc] at this⊢;exact⟨this,by rw[hrc] at Nf;exact Nf,World.putObj_heap_same (Array.getElem?_eq_some_iff.1 Nf).1,(World.putObj_heap_other (by omega)).trans (mD.same _ _ (aa _) ig rfl)⟩
  have leave:∀(c:Code) (W3:World),KeepsFrom w.heap.size Wb W3→Ix c (pre++[x]) W3→∃v W4,(Instr.endRound (w.heap.size+1) (some c)).run P W3=.ok (.bool v) W4∧v=false∧∃c',Ix c' (pre++[x]) W4∧W4.heap[w.heap.size+1]?=some (.loop (rc .done (some c')))∧W4.heap[w.heap.size]?=some (.deferred (some [])):=fun c W3 mD yw=>by
   obtain⟨hr,Nf,hl4,Sx⟩:=fin (some c) W3 mD;exact⟨_,_,hr,rfl,c,hIx _ _ _ _ yw (jS.put (by omega) Nf rfl),hl4,Sx⟩
  rintro e a3 W3 hp
  cases e with
  |normal=>
   obtain⟨mD,hkp3,yw⟩:=hp;obtain⟨hr,Nf,hl4,Sx⟩:=fin none W3 mD;exact⟨_,_,hr,.inl ⟨rfl,⟨hI _ _ _ yw (jS.put (by omega) Nf rfl),hl4,Sx⟩,Ih.trans (hkp3.trans (KT.put _ _ _ hTl))⟩⟩
  |ret=>obtain⟨v,W4,hr,rfl,h⟩:=leave .ret W3 hp.1 hp.2;exact⟨_,_,hr,.inr ⟨rfl,h⟩⟩
  |exit id=>obtain⟨v,W4,hr,rfl,h⟩:=leave (.exit id) W3 hp.1 hp.2;exact⟨_,_,hr,.inr ⟨rfl,h⟩⟩
  |goto t=>obtain⟨v,W4,hr,rfl,h⟩:=leave (.goto t) W3 hp.1 hp.2;exact⟨_,_,hr,.inr ⟨rfl,h⟩⟩
  |panic ch=>exact hp.elim
  |outgrown=>exact hp.elim
 ·rintro e W2 ⟨⟨v,rfl⟩,(⟨xs,hS,hi,hl,hk⟩|⟨pre,hSp,c,hi,hl,hk⟩)⟩
  ·exact⟨none,_,by have:=run_endLoop (P:=P) hl (by rw[hrc];simp);rw[hrc] at this;exact this,hdone _ xs _ (aa _) hS (hI _ _ _ hi (jS.put (by omega) hl rfl)) ((World.putObj_heap_other (by omega)).trans hk)⟩
  ·exact⟨some c,_,by have:=run_endLoop (P:=P) hl (by rw[hrc];simp);rw[hrc] at this;exact this,hstop _ c pre _ (aa _) hSp (hIx c _ _ _ hi (jS.put (by omega) hl rfl)) ((World.putObj_heap_other (by omega)).trans hk)⟩
end
section
def NoT:Nat→Prop:=fun _=>False
def SeqU{α:Type}(T:Nat→Prop)(F:Fence)(n:Nat)(P:Program)(g:Nat)(lb:Array Value)(encs:α→Array Value)(S Sp:List α→Prop)(V:List α→α→Prop)(w:World):Prop:=
 ∀(l:Nat) (J Jx:List α→World→Prop) (W:World),KT T w W→w.heap.size≤W.heap.size→OT NoT W.heap.size Obj.isWalk J→OT NoT W.heap.size Obj.isWalk Jx→
  (∀pre x W1,J pre W1→V pre x→YieldAt F (n-1) P l (encs x) W1 fun e W'=>
   (e=.returned (.bool true)∧J (pre++[x]) W'∧KT T W1 W')∨(e=.returned (.bool false)∧Jx (pre++[x]) W'))→
  J [] W→
  CallsIn F n P g (#[.func (.yield l) #[] #[]]++lb) W fun e W'=>(∃v,e=.returned v)∧((∃xs,S xs∧J xs W')∨(∃pre,Sp pre∧Jx pre W'))
end
section
def SeqB{α:Type}(M:Nat)(F:Fence)(n:Nat)(P:Program)(g:Nat)(lb:Array Value)(encs:α→Array Value)(S Sp:List α→Prop)(V:List α→α→Prop)(w:World):Prop:=
 ∀(l:Nat) (J Jx:List α→World→Prop) (W:World),Below M w W→w.heap.size≤W.heap.size→OT NoT W.heap.size Obj.isWalk J→OT NoT W.heap.size Obj.isWalk Jx→
  (∀pre x W1,J pre W1→V pre x→YieldAt F (n-1) P l (encs x) W1 fun e W'=>
   (e=.returned (.bool true)∧J (pre++[x]) W'∧Below M W1 W')∨(e=.returned (.bool false)∧Jx (pre++[x]) W'))→
  J [] W→
  CallsIn F n P g (#[.func (.yield l) #[] #[]]++lb) W fun e W'=>(∃v,e=.returned v)∧((∃xs,S xs∧J xs W')∨(∃pre,Sp pre∧Jx pre W'))
end
section
structure En where
 name:ByteArray
 no:Int
 deriving DecidableEq
structure An where
 no:Int
 dev:Int
 kind:Int
 mode:Int
 uid:Int
 gid:Int
 mtime:Int
 ctime:Int
 an:Int
 up:Int
 data:ByteArray
 aB:List En
 deriving DecidableEq
def dh:An:=⟨0,0,0,0,0,0,0,0,0,0,ByteArray.empty,[]⟩
structure Dv where
 root:Int
 over:Int
 b:Int
 n:Int
 mb:Int
 mn:Int
 deriving DecidableEq
structure Fs where
 ns:List An
 ds:List Dv
 last:Int
 deriving DecidableEq
def ie(a b:ByteArray):Bool:=Op.bytesLess a.data.toList b.data.toList
theorem ua(a b:ByteArray):Op.bytesLess a.toList b.toList=ie a b:=by unfold ie;rw[ByteArray.toList_eq,ByteArray.toList_eq]
theorem rO:∀l:List UInt8,Op.bytesLess l l=false
 | []=>rfl
 |a::l=>by simp[Op.bytesLess,rO l]
theorem uf:∀a b c:List UInt8,Op.bytesLess a b=true→Op.bytesLess b c=true→Op.bytesLess a c=true
 | [],[],_,h,_=>by simp[Op.bytesLess] at h
 | [],_::_,[],_,h=>by simp[Op.bytesLess] at h
 | [],_::_,_::_,_,_=>rfl
 |_::_,[],_,h,_=>by simp[Op.bytesLess] at h
 |_::_,_::_,[],_,h=>by simp[Op.bytesLess] at h
 |x::a,y::b,z::c,h,k=>by
  simp only[Op.bytesLess,Bool.or_eq_true,Bool.and_eq_true,decide_eq_true_eq,beq_iff_eq] at h k⊢;rcases h with h|⟨rfl,h⟩
  ·rcases k with k|⟨rfl,k⟩
   ·exact .inl (UInt8.lt_trans h k)
   ·exact .inl h
  ·rcases k with k|⟨rfl,k⟩
   ·exact .inl k
   ·exact .inr ⟨rfl,uf a b c h k⟩
theorem ug:∀a b:List UInt8,Op.bytesLess a b=false→Op.bytesLess b a=false→a=b
 | [],[],_,_=>rfl
 | [],_::_,h,_=>by simp[Op.bytesLess] at h
 |_::_,[],_,h=>by simp[Op.bytesLess] at h
 |x::a,y::b,h,k=>by
  simp only[Op.bytesLess,Bool.or_eq_false_iff,Bool.and_eq_false_iff,decide_eq_false_iff_not,beq_eq_false_iff_ne] at h k;have hxy:x=y:=by
   have h1:=h.1;have h2:=k.1;rw[UInt8.not_lt] at h1 h2;exact UInt8.le_antisymm h2 h1
  subst hxy;have h1:=h.2.resolve_left (by simp);have h2:=k.2.resolve_left (by simp);rw[ug a b h1 h2]
theorem p'{a b:ByteArray}(h:a.data.toList=b.data.toList):a=b:=by
 cases a;cases b
 simp at h⊢;exact h
theorem iC(a:ByteArray):ie a a=false:=rO _
theorem iB{a b c:ByteArray}(h:ie a b=true)(k:ie b c=true):ie a c=true:=uf _ _ _ h k
theorem ny{a b:ByteArray}(h:ie a b=false)(k:ie b a=false):a=b:=p' (ug _ _ h k)
theorem qI{a b:ByteArray}(h:ie a b=true):ie b a=false:=by
 cases k:ie b a with
 |false=>rfl
 |true=>have:=iB h k;rw[iC] at this;cases this
theorem Df{a b:ByteArray}(h:ie a b=true):a≠b:=by
 rintro rfl;rw[iC] at h
 cases h
def aN(l:List En)(n:ByteArray):Int:=match l.find? (fun x=>decide (x.name=n)) with|some x=>x.no|none=>0
def dy(l:List En)(n:ByteArray)(no:Int):List En:=l.filter (fun x=>ie x.name n)++⟨n,no⟩::l.filter (fun x=>ie n x.name)
def entDrop(l:List En)(n:ByteArray):List En:=l.filter (fun x=>!decide (x.name=n))
def mT(l:List En):Prop:=l.Pairwise (fun a b=>ie a.name b.name=true)
def dO(l:List En)(n:ByteArray):Nat:=(l.filter (fun x=>ie x.name n)).length
theorem uF(l:List En)(n:ByteArray):dO l n≤l.length:=List.length_filter_le _ _
theorem FN{l:List En}(h:mT l)(n:ByteArray):l.filter (fun x=>ie x.name n)=l.take (dO l n):=by
 unfold dO
 induction l with
 |nil=>rfl
 |cons x l ih=>
  have hx:=List.pairwise_cons.1 h;by_cases hc:ie x.name n=true
  ·rw[List.filter_cons_of_pos (by simpa using hc),List.length_cons,List.take_succ_cons,←ih hx.2]
  ·rw[List.filter_cons_of_neg (by simpa using hc)];have:l.filter (fun x=>ie x.name n)=[]:=by
    rw[List.filter_eq_nil_iff];intro y hy hyn;exact hc (iB (hx.1 y hy) hyn)
   rw[this];rfl
theorem xW{l:List En}(h:mT l)(n:ByteArray)(k:Nat)(hk:k<l.length):ie l[k].name n=decide (k<dO l n):=by
 unfold dO
 induction l generalizing k with
 |nil=>simp at hk
 |cons x l ih=>
  have hx:=List.pairwise_cons.1 h;by_cases hc:ie x.name n=true
  ·rw[List.filter_cons_of_pos (by simpa using hc),List.length_cons]
   cases k with
   |zero=>simp[hc]
   |succ k=>simpa using ih hx.2 k (by simpa using hk)
  ·rw[List.filter_cons_of_neg (by simpa using hc)];have:l.filter (fun x=>ie x.name n)=[]:=by
    rw[List.filter_eq_nil_iff];intro y hy hyn;exact hc (iB (hx.1 y hy) hyn)
   rw[this]
   cases k with
   |zero=>simpa using hc
   |succ k=>
    have hm:l[k]'(by simpa using hk)∈l:=List.getElem_mem _;simp only[List.getElem_cons_succ,List.length_nil,Nat.not_lt_zero,decide_false]
    cases hq:ie (l[k]'(by simpa using hk)).name n with
    |false=>rfl
    |true=>exact absurd (iB (hx.1 _ hm) hq) hc
theorem pU{l:List En}(h:mT l)(n:ByteArray):l.find? (fun x=>decide (x.name=n))=if hk:dO l n<l.length then(if l[dO l n].name=n then some l[dO l n] else none) else none:=by
 have key:∀(k:Nat) (hk:k<l.length),l[k].name=n→k=dO l n:=by
  intro k hk he;have h1:=xW h n k hk;rw[he,iC] at h1;have h2:¬k<dO l n:=by simpa using h1.symm
  by_cases h3:k=dO l n
  ·exact h3
  ·exfalso;have hlt:dO l n<k:=by omega
   have h4:=List.pairwise_iff_getElem.1 h (dO l n) k (by omega) hk hlt;rw[he] at h4;have h5:=xW h n (dO l n) (by omega);rw[h4] at h5;simp at h5
 split
 ·rename_i hk
  split
  ·rename_i he;rw[List.find?_eq_some_iff_getElem];refine⟨by simpa using he,dO l n,hk,rfl,fun j hj=>?_⟩;simp only[Bool.not_eq_eq_eq_not,Bool.not_true,decide_eq_false_iff_not];intro Ds;have:=key j (by omega) Ds;omega
  ·rename_i he;rw[List.find?_eq_none];intro x hx;simp only[decide_eq_true_eq];intro hxn;obtain⟨j,hj,rfl⟩:=List.mem_iff_getElem.1 hx;have:=key j hj hxn;subst this;exact he hxn
 ·rename_i hk;rw[List.find?_eq_none];intro x hx;simp only[decide_eq_true_eq];intro hxn;obtain⟨j,hj,rfl⟩:=List.mem_iff_getElem.1 hx;have:=key j hj hxn;subst this;exact hk hj
theorem FO{l:List En}(h:mT l)(n:ByteArray):l.filter (fun x=>ie n x.name)=l.drop (dO l n+(if(∃hk:dO l n<l.length,l[dO l n].name=n) then 1 else 0)):=by
 unfold dO
 induction l with
 |nil=>simp
 |cons x l ih=>
  have hx:=List.pairwise_cons.1 h;by_cases hc:ie x.name n=true
  ·have h1:ie n x.name=false:=qI hc;rw[List.filter_cons_of_neg (by simp[h1])];simp only[List.filter_cons_of_pos (p:=fun x:En=>ie x.name n) (a:=x) (l:=l) (by simpa using hc),List.length_cons];rw[ih hx.2];have:(∃hk:(l.filter fun x=>ie x.name n).length+1<l.length+1,((x::l)[(l.filter fun x=>ie x.name n).length+1]'hk).name=n)↔(∃hk:(l.filter fun x=>ie x.name n).length<l.length,(l[(l.filter fun x=>ie x.name n).length]'hk).name=n):=by
    constructor
    ·rintro⟨hk,he⟩;exact⟨by omega,by simpa using he⟩
    ·rintro⟨hk,he⟩;exact⟨by omega,by simpa using he⟩
   simp only[this];rw[Nat.add_right_comm,List.drop_succ_cons]
  ·have he:l.filter (fun x=>ie x.name n)=[]:=by
    rw[List.filter_eq_nil_iff];intro y hy hyn;exact hc (iB (hx.1 y hy) hyn)
   have hall:∀y∈l,ie n x.name=true∨x.name=n→ie n y.name=true:=by
    rintro y hy (h1|rfl)
    ·exact iB h1 (hx.1 y hy)
    ·exact hx.1 y hy
   have hor:ie n x.name=true∨x.name=n:=by
    cases hq:ie n x.name with
    |true=>exact .inl rfl
    |false=>exact .inr (ny (by simpa using hc) hq)
   have hrest:l.filter (fun x=>ie n x.name)=l:=by
    rw[List.filter_eq_self];intro y hy;exact hall y hy hor
   rw[List.filter_cons_of_neg (p:=fun x:En=>ie x.name n) (by simpa using hc),he];rcases hor with h1|h1
   ·rw[List.filter_cons_of_pos (by simpa using h1),hrest,if_neg]
    ·rfl
    ·rintro⟨hk,he⟩;simp only[List.length_nil,List.getElem_cons_zero] at he;rw[he,iC] at h1
     cases h1
   ·rw[List.filter_cons_of_neg (by rw[h1];simp[iC]),hrest,if_pos ⟨by simp,by simpa using h1⟩];rfl
theorem Jb{l:List En}(h:mT l)(n:ByteArray)(no:Int):dy l n no=l.take (dO l n)++⟨n,no⟩::l.drop (dO l n+(if(∃hk:dO l n<l.length,l[dO l n].name=n) then 1 else 0)):=by
 unfold dy;rw[FN h,FO h]
theorem Aj{l:List En}(h:mT l)(n:ByteArray)(no:Int):mT (dy l n no):=by
 unfold dy mT;rw[List.pairwise_append];refine⟨List.Pairwise.filter _ h,?_,?_⟩
 ·rw[List.pairwise_cons];refine⟨fun y hy=>?_,List.Pairwise.filter _ h⟩;simpa using (List.mem_filter.1 hy).2
 ·intro a ha b hb;have h1:ie a.name n=true:=by simpa using (List.mem_filter.1 ha).2
  rcases List.mem_cons.1 hb with rfl|hb
  ·exact h1
  ·have h2:ie n b.name=true:=by simpa using (List.mem_filter.1 hb).2
   exact iB h1 h2
def Fs.get(S:Fs)(k:Int):Option An:=S.ns.find? (fun x=>x.no==k)
def Fs.set(S:Fs)(a:An):Fs:={S with ns:=S.ns.map fun x=>if x.no==a.no then a else x}
def Fs.add(S:Fs)(a:An):Fs:={S with ns:=S.ns++[{a with no:=S.last+1}],last:=S.last+1}
def Fs.del(S:Fs)(k:Int):Fs:={S with ns:=S.ns.filter fun x=>!(x.no==k)}
def Fs.root(S:Fs)(d:Int):Int:=if 1≤d∧d≤S.ds.length then(match S.ds[(d-1).toNat]? with|some v=>v.root|none=>0) else 0
def Fs.over(S:Fs)(k:Int):Int:=if 0<k then(match S.ds.find? (fun d=>d.over==k) with|some d=>d.root|none=>k) else k
theorem dx{S:Fs}{k:Int}{a:An}(h:S.get k=some a):a.no=k:=by
 have:=List.find?_some h;simpa using this
theorem cx{S:Fs}{k:Int}{a:An}(h:S.get k=some a):a∈S.ns:=List.mem_of_find?_eq_some h
structure gY(S:Fs):Prop where
 hH:(S.ns.map (·.no)).Pairwise (· < ·)
 low:∀x∈S.ns,1≤x.no∧x.no≤S.last
theorem gX{S:Fs}{a b:An}(h:S.get a.no=some b)(k:Int):(S.set a).get k=if k=a.no then some a else S.get k:=by
 unfold Fs.get Fs.set at *;simp only;rw[List.find?_map];by_cases hk:k=a.no
 ·subst hk;rw[if_pos rfl];have:((fun x:An=>x.no==a.no) ∘ fun x:An=>if x.no==a.no then a else x)=fun x:An=>x.no==a.no:=by
   funext x;simp only[Function.comp_apply]
   split
   ·rename_i he;rw[he];simp
   ·rfl
  rw[this,h];have hb:b.no=a.no:=by simpa using List.find?_some h
  simp[hb]
 ·rw[if_neg hk];have:((fun x:An=>x.no==k) ∘ fun x:An=>if x.no==a.no then a else x)=fun x:An=>x.no==k:=by
   funext x;simp only[Function.comp_apply]
   split
   ·rename_i he;have:x.no=a.no:=by simpa using he
    rw[this]
   ·rfl
  rw[this]
  cases hf:List.find? (fun x:An=>x.no==k) S.ns with
  |none=>rfl
  |some x=>
   have hx:x.no=k:=by simpa using List.find?_some hf
   simp[hx,hk]
theorem lB{S:Fs}(h:gY S)(a:An)(k:Int):(S.add a).get k=if k=S.last+1 then some {a with no:=S.last+1} else S.get k:=by
 unfold Fs.get Fs.add;simp only[List.find?_append];by_cases hk:k=S.last+1
 ·subst hk;have:S.ns.find? (fun x=>x.no==S.last+1)=none:=by
   rw[List.find?_eq_none];intro x hx;have:=h.low x hx;simp;omega
  rw[if_pos rfl,this];simp
 ·rw[if_neg hk];have hne:¬S.last+1=k:=fun e=>hk e.symm;simp[hne]
theorem La{S:Fs}(a:An):(S.set a).ns.map (·.no)=S.ns.map (·.no):=by
 unfold Fs.set;simp only[List.map_map];apply List.map_congr_left;intro x _;simp only[Function.comp_apply]
 split
 ·rename_i he;simpa using (beq_iff_eq.1 he).symm
 ·rfl
theorem gY.set{S:Fs}(h:gY S)(a:An):gY (S.set a):=by
 refine⟨by rw[La];exact h.hH,fun x hx=>?_⟩;have hm:x.no∈(S.set a).ns.map (·.no):=List.mem_map_of_mem hx;rw[La] at hm;obtain⟨y,hy,he⟩:=List.mem_map.1 hm;have:=h.low y hy;show 1≤x.no∧x.no≤S.last;omega
theorem gY.add{S:Fs}(h:gY S)(h0:0≤S.last)(a:An):gY (S.add a):=by
 refine⟨?_,fun x hx=>?_⟩
 ·show((S.ns++[_]).map _).Pairwise _;rw[List.map_append,List.pairwise_append];refine⟨h.hH,by simp,fun x hx y hy=>?_⟩;obtain⟨z,hz,rfl⟩:=List.mem_map.1 hx;have:=h.low z hz;simp at hy;omega
 ·show 1≤x.no∧x.no≤S.last+1;rcases List.mem_append.1 hx with hx|hx
  ·have:=h.low x hx;omega
  ·simp at hx;subst hx;simp;omega
end
section
def ja(b n mb mn:Int):Bool:=decide (0≤b∧0≤n∧b≤mb∧n≤mn∧mb≤1073741824∧mn≤65536)
theorem kr(b n mb mn:Int)(w:World) :
  Calls Tryz.prog 218 #[.agg #[.int .i64 b,.int .i64 n,.int .i64 mb,.int .i64 mn]] w fun e w'=>e=.returned (.bool (ja b n mb mn))∧w.alloc (.cells #[.int .i64 b,.int .i64 n,.int .i64 mb,.int .i64 mn] 206)=w':=by
 unfold ja;go_enter Tryz.func218,Tryz.ntmps218
 go_wp2
 all_goals (go_ret;simp[*];try omega)
theorem iv(b n mb mn:Int)(w:World) :
  Calls Tryz.prog 228 #[.agg #[.int .i64 b,.int .i64 n,.int .i64 mb,.int .i64 mn]] w fun e w'=>e=.returned (.bool (ja b n mb mn))∧w.alloc (.cells #[.int .i64 b,.int .i64 n,.int .i64 mb,.int .i64 mn] 206)=w':=by
 unfold ja;go_enter Tryz.func228,Tryz.ntmps228
 go_wp2
 all_goals (go_ret;simp[*];try omega)
def rC(b n mb mn x y:Int):Bool:=!ja b n mb mn||decide (x < -1073741824)||decide (1073741824<x)||decide (y < -1073741824)||decide (1073741824<y)
def gZ(b n mb mn x y:Int):Int:=if rC b n mb mn x y then 1 else if mn<n+y then 15 else if mb<b+x then 14 else if ja (b+x) (n+y) mb mn then 0 else 1
def Cy(b n mb mn x y:Int):Int:=if gZ b n mb mn x y=0 then b+x else b
def Cx(b n mb mn x y:Int):Int:=if gZ b n mb mn x y=0 then n+y else n
def II(b n mb mn x y:Int):Value:=.tuple #[.agg #[.int .i64 (Cy b n mb mn x y),.int .i64 (Cx b n mb mn x y),.int .i64 mb,.int .i64 mn],.int .i64 (gZ b n mb mn x y)]
theorem zM(b n mb mn x y:Int)(hf:ja b n mb mn=true)(h1:-1073741824≤x)(h2:x≤1073741824)(h3:-1073741824≤y)(h4:y≤1073741824):rC b n mb mn x y=false:=by
 unfold rC;simp[hf];omega
theorem kd(b n mb mn x y e:Int)(h:gZ b n mb mn x y=e)(he:e≠0):II b n mb mn x y=.tuple #[.agg #[.int .i64 b,.int .i64 n,.int .i64 mb,.int .i64 mn],.int .i64 e]:=by
 unfold II Cy Cx;rw[h];simp[he]
theorem Cw(b n mb mn x y:Int)(h:gZ b n mb mn x y=0):II b n mb mn x y=.tuple #[.agg #[.int .i64 (b+x),.int .i64 (n+y),.int .i64 mb,.int .i64 mn],.int .i64 0]:=by
 unfold II Cy Cx;rw[h];simp
theorem s5(b n mb mn x y:Int)(w:World) :
  Calls Tryz.prog 169 #[.agg #[.int .i64 b,.int .i64 n,.int .i64 mb,.int .i64 mn],.int .i64 x,.int .i64 y] w fun e w'=>e=.returned (II b n mb mn x y)∧Up w w':=by
 by_cases hf:ja b n mb mn=true
 ·have hf':=hf;unfold ja at hf';simp only[decide_eq_true_eq] at hf';obtain⟨f1,f2,f3,f4,f5,f6⟩:=hf';by_cases hx:x < -1073741824∨1073741824<x∨y < -1073741824∨1073741824<y
  ·have hv:=kd b n mb mn x y 1 (by unfold gZ rC;rw[if_pos];simp;omega) (by decide);have Hv:=Um hv;clear hv;have hd:(decide (x < -1073741824)||decide (1073741824<x)||decide (y < -1073741824)||decide (1073741824<y))=true:=by simp;omega
   go_enter Tryz.func169,Tryz.ntmps169;go_wp2_with (go_at_call 218;refine(kr _ _ _ _ _).mono ?_;rintro e w' ⟨rfl,rfl⟩)
   all_goals (first|(exfalso;omega)|(go_returns;exact⟨by rw[Hv.o],by go_grown⟩))
  ·obtain⟨x1,x2,y1,y2⟩:-1073741824≤x∧x≤1073741824∧-1073741824≤y∧y≤1073741824:=by omega
   clear hx;have Hb:=Um (zM b n mb mn x y hf x1 x2 y1 y2);by_cases g1:mn<n+y
   ·have Hv:=Um (kd b n mb mn x y 15 (by unfold gZ;rw[Hb.o];simp[g1]) (by decide));go_enter Tryz.func169,Tryz.ntmps169;go_wp2_with (go_at_call 218;refine(kr _ _ _ _ _).mono ?_;rintro e w' ⟨rfl,rfl⟩)
    go_returns;exact⟨by rw[Hv.o],by go_grown⟩
   ·by_cases g2:mb<b+x
    ·have Hv:=Um (kd b n mb mn x y 14 (by unfold gZ;rw[Hb.o];simp[g1,g2]) (by decide));go_enter Tryz.func169,Tryz.ntmps169;go_wp2_with (go_at_call 218;refine(kr _ _ _ _ _).mono ?_;rintro e w' ⟨rfl,rfl⟩)
     go_returns;exact⟨by rw[Hv.o],by go_grown⟩
    ·by_cases g3:ja (b+x) (n+y) mb mn=true
     ·have Hv:=Um (Cw b n mb mn x y (by unfold gZ;rw[Hb.o];simp[g1,g2,g3]));go_enter Tryz.func169,Tryz.ntmps169;go_wp2_with (go_at_call 218;refine(kr _ _ _ _ _).mono ?_;rintro e w' ⟨rfl,rfl⟩)
      go_returns;exact⟨by rw[Hv.o],by go_grown⟩
     ·have Hv:=Um (kd b n mb mn x y 1 (by unfold gZ;rw[Hb.o];simp[g1,g2,g3]) (by decide));simp only[Bool.not_eq_true] at g3;go_enter Tryz.func169,Tryz.ntmps169;go_wp2_with (go_at_call 218;refine(kr _ _ _ _ _).mono ?_;rintro e w' ⟨rfl,rfl⟩)
      go_returns;exact⟨by rw[Hv.o],by go_grown⟩
 ·simp only[Bool.not_eq_true] at hf;have Hv:=Um (kd b n mb mn x y 1 (by unfold gZ rC;simp[hf]) (by decide));go_enter Tryz.func169,Tryz.ntmps169;go_wp2_with (go_at_call 218;refine(kr _ _ _ _ _).mono ?_;rintro e w' ⟨rfl,rfl⟩)
  go_returns;exact⟨by rw[Hv.o],by go_grown⟩
end
section
theorem vY(b n mb mn x y:Int)(w:World) :
  Calls Tryz.prog 183 #[.agg #[.int .i64 b,.int .i64 n,.int .i64 mb,.int .i64 mn],.int .i64 x,.int .i64 y] w fun e w'=>e=.returned (II b n mb mn x y)∧Up w w':=by
 by_cases hf:ja b n mb mn=true
 ·have hf':=hf;unfold ja at hf';simp only[decide_eq_true_eq] at hf';obtain⟨f1,f2,f3,f4,f5,f6⟩:=hf';by_cases hx:x < -1073741824∨1073741824<x∨y < -1073741824∨1073741824<y
  ·have hv:=kd b n mb mn x y 1 (by unfold gZ rC;rw[if_pos];simp;omega) (by decide);have Hv:=Um hv;clear hv;have hd:(decide (1073741824<x)||decide (x < -1073741824)||decide (1073741824<y)||decide (y < -1073741824))=true:=by simp;omega
   go_enter Tryz.func183,Tryz.ntmps183;go_wp2_with (go_at_call 228;refine(iv _ _ _ _ _).mono ?_;rintro e w' ⟨rfl,rfl⟩)
   all_goals (first|(exfalso;omega)|(go_returns;exact⟨by rw[Hv.o],by go_grown⟩))
  ·obtain⟨x1,x2,y1,y2⟩:-1073741824≤x∧x≤1073741824∧-1073741824≤y∧y≤1073741824:=by omega
   clear hx;have Hb:=Um (zM b n mb mn x y hf x1 x2 y1 y2);by_cases g1:mn<n+y
   ·have Hv:=Um (kd b n mb mn x y 15 (by unfold gZ;rw[Hb.o];simp[g1]) (by decide));go_enter Tryz.func183,Tryz.ntmps183;go_wp2_with (go_at_call 228;refine(iv _ _ _ _ _).mono ?_;rintro e w' ⟨rfl,rfl⟩)
    go_returns;exact⟨by rw[Hv.o],by go_grown⟩
   ·by_cases g2:mb<b+x
    ·have Hv:=Um (kd b n mb mn x y 14 (by unfold gZ;rw[Hb.o];simp[g1,g2]) (by decide));go_enter Tryz.func183,Tryz.ntmps183;go_wp2_with (go_at_call 228;refine(iv _ _ _ _ _).mono ?_;rintro e w' ⟨rfl,rfl⟩)
     go_returns;exact⟨by rw[Hv.o],by go_grown⟩
    ·by_cases g3:ja (b+x) (n+y) mb mn=true
     ·have Hv:=Um (Cw b n mb mn x y (by unfold gZ;rw[Hb.o];simp[g1,g2,g3]));have g3':=g3;unfold ja at g3';simp only[decide_eq_true_eq] at g3';obtain⟨k1,k2,-⟩:=g3';go_enter Tryz.func183,Tryz.ntmps183;go_wp2_with (go_at_call 228;refine(iv _ _ _ _ _).mono ?_;rintro e w' ⟨rfl,rfl⟩)
      go_returns;exact⟨by rw[Hv.o],by go_grown⟩
     ·have Hv:=Um (kd b n mb mn x y 1 (by unfold gZ;rw[Hb.o];simp[g1,g2,g3]) (by decide));have k:n+y<0∨b+x<0:=by
       unfold ja at g3;simp only[decide_eq_true_eq] at g3;omega
      clear g3;by_cases k1:n+y<0
      ·clear k;go_enter Tryz.func183,Tryz.ntmps183;go_wp2_with (go_at_call 228;refine(iv _ _ _ _ _).mono ?_;rintro e w' ⟨rfl,rfl⟩)
       go_returns;exact⟨by rw[Hv.o],by go_grown⟩
      ·have k2:b+x<0:=by omega
       clear k;go_enter Tryz.func183,Tryz.ntmps183;go_wp2_with (go_at_call 228;refine(iv _ _ _ _ _).mono ?_;rintro e w' ⟨rfl,rfl⟩)
       go_returns;exact⟨by rw[Hv.o],by go_grown⟩
 ·simp only[Bool.not_eq_true] at hf;have Hv:=Um (kd b n mb mn x y 1 (by unfold gZ rC;simp[hf]) (by decide));go_enter Tryz.func183,Tryz.ntmps183;go_wp2_with (go_at_call 228;refine(iv _ _ _ _ _).mono ?_;rintro e w' ⟨rfl,rfl⟩)
  go_returns;exact⟨by rw[Hv.o],by go_grown⟩
def hU(b n:Int):Bool:=decide (1≤b∧b≤1073741824∧1≤n∧n≤65536)
theorem Pf(b n:Int)(h1:1≤b)(h2:b≤1073741824)(h3:1≤n)(h4:n≤65536):hU b n=true:=by
 unfold hU;simp[h1,h2,h3,h4]
theorem qK{b n:Int}(h:hU b n=true):1≤b∧b≤1073741824∧1≤n∧n≤65536:=by
 unfold hU at h;simpa using h
theorem k7(b n:Int)(w:World) :
  Calls Tryz.prog 159 #[.int .i64 b,.int .i64 n] w fun e w'=>e=.returned (.bool (hU b n))∧w=w':=by
 unfold hU;go_enter Tryz.func159,Tryz.ntmps159
 go_wp2
 all_goals (go_ret;simp[*];try omega)
theorem MO(b n:Int)(h:hU b n=true)(w:World) :
  Calls Tryz.prog 244 #[.int .i64 b,.int .i64 n] w fun e w'=>e=.returned (.tuple #[.agg #[.int .i64 0,.int .i64 0,.int .i64 b,.int .i64 n],.int .i64 0])∧Up w w':=by
 obtain⟨h1,h2,h3,h4⟩:=qK h;clear h;go_enter Tryz.func244,Tryz.ntmps244
 go_wp2
 go_returns;exact⟨rfl,by go_grown⟩
theorem Pd(b n:Int)(h:hU b n=false)(w:World) :
  Calls Tryz.prog 244 #[.int .i64 b,.int .i64 n] w fun e w'=>e=.returned (.tuple #[.agg #[.int .i64 0,.int .i64 0,.int .i64 0,.int .i64 0],.int .i64 3])∧Up w w':=by
 have hd:(decide (b<1)||decide (1073741824<b)||decide (n<1)||decide (65536<n))=true:=by
  unfold hU at h;simp at h⊢;omega
 have hn:¬(1≤b∧b≤1073741824∧1≤n∧n≤65536):=by unfold hU at h;simpa using h
 clear h;go_enter Tryz.func244,Tryz.ntmps244
 go_wp2
 all_goals (first|(exfalso;omega)|(go_returns;exact⟨rfl,by go_grown⟩))
def bR(kind size:Int):Int:=if kind=1 then 1 else if kind=2∧0<size then(size-1) / 512+1 else 0
theorem sM(k s:Int)(h:s≤9223372036854775807):0≤bR k s∧bR k s≤18014398509481984:=by unfold bR;split<;>(try split)<;>omega
theorem oT(k s:Int)(hs:s≤9223372036854775807)(w:World) :
  Calls Tryz.prog 170 #[.int .i64 k,.int .i64 s] w fun e w'=>e=.returned (.int .i64 (bR k s))∧w=w':=by
 by_cases h1:k=1
 ·have Hv:=Um (show bR k s=1 by unfold bR;rw[if_pos h1]);subst h1;go_enter Tryz.func170,Tryz.ntmps170
  go_wp2
  go_ret;exact⟨by rw[Hv.o];rfl,rfl⟩
 ·have e1:(k==1)=false:=by simpa using h1
  by_cases h2:k=2
  ·subst h2;by_cases h3:0<s
   ·have Hv:=Um (show bR 2 s=(s-1) / 512+1 by unfold bR;rw[if_neg h1,if_pos ⟨rfl,h3⟩]);go_enter Tryz.func170,Tryz.ntmps170
    go_wp2
    go_ret;exact⟨by rw[Hv.o];rfl,rfl⟩
   ·have Hv:=Um (show bR 2 s=0 by unfold bR;rw[if_neg h1,if_neg (by omega)]);go_enter Tryz.func170,Tryz.ntmps170
    go_wp2
    go_ret;exact⟨by rw[Hv.o];rfl,rfl⟩
  ·have e2:(k==2)=false:=by simpa using h2
   have Hv:=Um (show bR k s=0 by unfold bR;rw[if_neg h1,if_neg (by omega)]);clear h1 h2;go_enter Tryz.func170,Tryz.ntmps170
   go_wp2
   go_ret;exact⟨by rw[Hv.o];rfl,rfl⟩
theorem mq(k s:Int)(hs:s≤2000000)(w:World) :
  Calls Tryz.prog 184 #[.int .i64 k,.int .i64 s] w fun e w'=>e=.returned (.int .i64 (bR k s))∧w=w':=by
 by_cases h1:k=1
 ·have Hv:=Um (show bR k s=1 by unfold bR;rw[if_pos h1]);subst h1;go_enter Tryz.func184,Tryz.ntmps184
  go_wp2
  go_ret;exact⟨by rw[Hv.o];rfl,rfl⟩
 ·have e1:(k==1)=false:=by simpa using h1
  by_cases h2:k=2
  ·subst h2;clear h1;go_enter Tryz.func184,Tryz.ntmps184
   go_wp2
   go_loop [5] (fun t=>∃n:Int,0≤n∧n≤4000∧(n=0∨512*(n-1)<s)∧t=.int .i64 n) (fun t=>(4000-intOf t).toNat)
   case atStart=>exact⟨0,by omega,by omega,.inl rfl,rfl⟩
   case round=>
    obtain⟨n,Cd,gO,jj,rfl⟩:=hrel;by_cases hc:512*n<s
    ·go_wp2
     go_round
     case rel=>exact⟨n+1,by omega,by omega,.inr (by omega),rfl⟩
     case measure=>simp[intOf];omega
    ·have Hv:=Um (show bR 2 s=n by unfold bR;rw[if_neg (by decide)];split<;>omega)
     go_wp2
     go_ret;exact⟨by rw[Hv.o];rfl,rfl⟩
  ·have e2:(k==2)=false:=by simpa using h2
   have Hv:=Um (show bR k s=0 by unfold bR;rw[if_neg h1,if_neg (by omega)]);clear h1 h2;go_enter Tryz.func184,Tryz.ntmps184
   go_wp2
   refine wp_loop_rounds 1 ?_;rw[rounds_succ]
   go_wp2
   go_ret;exact⟨by rw[Hv.o];rfl,rfl⟩
end
end Go.Proofs.YtinflmadpnigfaaGreatDoor
namespace Go.Proofs
open Go.Shelf
def Tryz.AX:Go.Shelf.Ren:=⟨fun|170=>196|n=>n,fun|70=>120|3=>3|0=>0|72=>123|37=>121|5=>5|n=>n,fun|n=>n⟩
theorem Tryz.MW:Go.Proofs.Lays.n170 Tryz.prog Tryz.AX:={
 mixed:=by kernel_rfl
 f170:=Tryz.func196.trans (congrArg some (by kernel_rfl))
 t0:=Tryz.underlying0
 a0:=Tryz.isAgg0
 z0:=Tryz.sizeOf0
 v0:=Tryz.zeroValue0
 t3:=Tryz.underlying3
 a3:=Tryz.isAgg3
 z3:=Tryz.sizeOf3
 v3:=Tryz.zeroValue3
 t37:=Tryz.underlying121
 a37:=Tryz.isAgg121
 z37:=Tryz.sizeOf121
 v37:=Tryz.zeroValue121
 t70:=Tryz.underlying120
 a70:=Tryz.isAgg120
 z70:=Tryz.sizeOf120
 v70:=Tryz.zeroValue120
 t72:=Tryz.underlying123
 a72:=Tryz.isAgg123
 z72:=Tryz.sizeOf123
 v72:=Tryz.zeroValue123}
def Tryz.rP:Go.Shelf.Ren:=⟨fun|169=>54|n=>n,fun|70=>120|9=>9|0=>0|72=>123|37=>121|127=>166|3=>3|5=>5|n=>n,fun|n=>n⟩
theorem Tryz.Ey:Go.Proofs.Lays.n169 Tryz.prog Tryz.rP:={
 mixed:=by kernel_rfl
 f169:=Tryz.func54.trans (congrArg some (by kernel_rfl))
 t0:=Tryz.underlying0
 a0:=Tryz.isAgg0
 z0:=Tryz.sizeOf0
 v0:=Tryz.zeroValue0
 t3:=Tryz.underlying3
 a3:=Tryz.isAgg3
 z3:=Tryz.sizeOf3
 v3:=Tryz.zeroValue3
 t9:=Tryz.underlying9
 a9:=Tryz.isAgg9
 z9:=Tryz.sizeOf9
 v9:=Tryz.zeroValue9
 t37:=Tryz.underlying121
 a37:=Tryz.isAgg121
 z37:=Tryz.sizeOf121
 v37:=Tryz.zeroValue121
 t70:=Tryz.underlying120
 a70:=Tryz.isAgg120
 z70:=Tryz.sizeOf120
 v70:=Tryz.zeroValue120
 t72:=Tryz.underlying123
 a72:=Tryz.isAgg123
 z72:=Tryz.sizeOf123
 v72:=Tryz.zeroValue123
 t127:=Tryz.underlying166
 a127:=Tryz.isAgg166
 z127:=Tryz.sizeOf166
 v127:=Tryz.zeroValue166}
theorem Tryz.j9:Builder.Extra Tryz.prog Tryz.rP:={
 sizeBuilder:=by kernel_rfl
 liesBuilder:=by kernel_rfl
 t5:=Tryz.underlying5
 a5:=Tryz.isAgg5
 z5:=Tryz.sizeOf5
 v5:=Tryz.zeroValue5
 infoByte:=by kernel_rfl
 cellsByte:=by kernel_rfl
 sizeByte:=by kernel_rfl
 neB5:=by decide}
open Go.RowKit in
theorem Tryz.Builder_String_any(B b:Nat)(l:List UInt8)(w:World)(h:Lib.IsBuilder 123 5 B b (Lib.byteCells l) w)(Tg:B≤w.heap.size) :
  Calls Tryz.prog 54 #[.pointer (some ⟨b,0,none⟩)] w fun e w'=>e=.returned (.string ⟨l.toArray⟩)∧Below B w w':=Any.Builder_String_any Tryz.Ey Tryz.j9 B b l w h Tg
def Tryz.AY:Go.Shelf.Ren:=⟨fun|162=>207|232=>240|227=>241|234=>242|236=>243|228=>252|271=>253|151=>254|120=>256|197=>140|152=>257|260=>199|137=>148|119=>259|224=>233|225=>232|217=>204|266=>238|n=>n,fun|9=>9|4=>4|3=>3|5=>5|117=>297|116=>296|0=>0|124=>300|21=>21|105=>214|46=>165|119=>290|139=>293|138=>292|n=>n,fun|3=>0|4=>1|n=>n⟩
theorem Tryz.MX:Go.Proofs.Lays.n162 Tryz.prog Tryz.AY:={
 mixed:=by kernel_rfl
 f119:=Tryz.func259.trans (congrArg some (by kernel_rfl))
 f120:=Tryz.func256.trans (congrArg some (by kernel_rfl))
 f137:=Tryz.func148.trans (congrArg some (by kernel_rfl))
 f151:=Tryz.func254.trans (congrArg some (by kernel_rfl))
 f152:=Tryz.func257.trans (congrArg some (by kernel_rfl))
 f162:=Tryz.func207.trans (congrArg some (by kernel_rfl))
 f197:=Tryz.func140.trans (congrArg some (by kernel_rfl))
 f217:=Tryz.func204.trans (congrArg some (by kernel_rfl))
 f224:=Tryz.func233.trans (congrArg some (by kernel_rfl))
 f225:=Tryz.func232.trans (congrArg some (by kernel_rfl))
 f227:=Tryz.func241.trans (congrArg some (by kernel_rfl))
 f228:=Tryz.func252.trans (congrArg some (by kernel_rfl))
 f232:=Tryz.func240.trans (congrArg some (by kernel_rfl))
 f234:=Tryz.func242.trans (congrArg some (by kernel_rfl))
 f236:=Tryz.func243.trans (congrArg some (by kernel_rfl))
 f260:=Tryz.func199.trans (congrArg some (by kernel_rfl))
 f266:=Tryz.func238.trans (congrArg some (by kernel_rfl))
 f271:=Tryz.func253.trans (congrArg some (by kernel_rfl))
 t0:=Tryz.underlying0
 a0:=Tryz.isAgg0
 z0:=Tryz.sizeOf0
 v0:=Tryz.zeroValue0
 t3:=Tryz.underlying3
 a3:=Tryz.isAgg3
 z3:=Tryz.sizeOf3
 v3:=Tryz.zeroValue3
 t4:=Tryz.underlying4
 a4:=Tryz.isAgg4
 z4:=Tryz.sizeOf4
 v4:=Tryz.zeroValue4
 t5:=Tryz.underlying5
 a5:=Tryz.isAgg5
 z5:=Tryz.sizeOf5
 v5:=Tryz.zeroValue5
 t9:=Tryz.underlying9
 a9:=Tryz.isAgg9
 z9:=Tryz.sizeOf9
 v9:=Tryz.zeroValue9
 t21:=Tryz.underlying21
 a21:=Tryz.isAgg21
 z21:=Tryz.sizeOf21
 v21:=Tryz.zeroValue21
 t46:=Tryz.underlying165
 a46:=Tryz.isAgg165
 z46:=Tryz.sizeOf165
 v46:=Tryz.zeroValue165
 t105:=Tryz.underlying214
 a105:=Tryz.isAgg214
 z105:=Tryz.sizeOf214
 v105:=Tryz.zeroValue214
 t116:=Tryz.underlying296
 a116:=Tryz.isAgg296
 z116:=Tryz.sizeOf296
 t117:=Tryz.underlying297
 a117:=Tryz.isAgg297
 z117:=Tryz.sizeOf297
 v117:=Tryz.zeroValue297
 t119:=Tryz.underlying290
 a119:=Tryz.isAgg290
 z119:=Tryz.sizeOf290
 t124:=Tryz.underlying300
 a124:=Tryz.isAgg300
 z124:=Tryz.sizeOf300
 v124:=Tryz.zeroValue300
 t138:=Tryz.underlying292
 a138:=Tryz.isAgg292
 z138:=Tryz.sizeOf292
 v138:=Tryz.zeroValue292
 t139:=Tryz.underlying293
 a139:=Tryz.isAgg293
 z139:=Tryz.sizeOf293
 v139:=Tryz.zeroValue293
 g3:=by kernel_rfl
 g4:=by kernel_rfl}
open Go.RowKit in
theorem Tryz.strings_TrimRight_one(s:ByteArray)(c:UInt8)(hc:c.toNat<128)(w:World)(hs:s.size≤9223372036854775807) :
  Calls Tryz.prog 207 #[.string s,.string ⟨#[c]⟩] w fun e w'=>e=.returned (.string ⟨(Lib.trimRightB s.data.toList c).toArray⟩)∧w'=w:=Any.strings_TrimRight_one Tryz.MX s c hc w hs
def Tryz.A2:Go.Shelf.Ren:=⟨fun|137=>148|217=>204|266=>238|n=>n,fun|9=>9|5=>5|3=>3|n=>n,fun|n=>n⟩
theorem Tryz.M4:Go.Proofs.Lays.n137 Tryz.prog Tryz.A2:={
 mixed:=by kernel_rfl
 f137:=Tryz.func148.trans (congrArg some (by kernel_rfl))
 f217:=Tryz.func204.trans (congrArg some (by kernel_rfl))
 f266:=Tryz.func238.trans (congrArg some (by kernel_rfl))
 t3:=Tryz.underlying3
 a3:=Tryz.isAgg3
 z3:=Tryz.sizeOf3
 v3:=Tryz.zeroValue3
 t5:=Tryz.underlying5
 a5:=Tryz.isAgg5
 z5:=Tryz.sizeOf5
 v5:=Tryz.zeroValue5
 t9:=Tryz.underlying9
 a9:=Tryz.isAgg9
 z9:=Tryz.sizeOf9
 v9:=Tryz.zeroValue9}
open Go.RowKit in
theorem Tryz.strings_IndexByte(s:ByteArray)(c:Int)(w:World) :
  Calls Tryz.prog 148 #[.string s,.int .u8 c] w fun e w'=>e=.returned (.int .i64 (Lib.indexByte s.data.toList c.toNat.toUInt8))∧w'=w:=Any.strings_IndexByte Tryz.M4 s c w
def Tryz.A3:Go.Shelf.Ren:=⟨fun|103=>145|210=>203|206=>237|n=>n,fun|9=>9|4=>4|24=>210|3=>3|n=>n,fun|n=>n⟩
theorem Tryz.M5:Go.Proofs.Lays.n103 Tryz.prog Tryz.A3:={
 mixed:=by kernel_rfl
 f103:=Tryz.func145.trans (congrArg some (by kernel_rfl))
 f206:=Tryz.func237.trans (congrArg some (by kernel_rfl))
 f210:=Tryz.func203.trans (congrArg some (by kernel_rfl))
 t3:=Tryz.underlying3
 a3:=Tryz.isAgg3
 z3:=Tryz.sizeOf3
 v3:=Tryz.zeroValue3
 t4:=Tryz.underlying4
 a4:=Tryz.isAgg4
 z4:=Tryz.sizeOf4
 v4:=Tryz.zeroValue4
 t9:=Tryz.underlying9
 a9:=Tryz.isAgg9
 z9:=Tryz.sizeOf9
 v9:=Tryz.zeroValue9
 t24:=Tryz.underlying210
 a24:=Tryz.isAgg210
 z24:=Tryz.sizeOf210
 v24:=Tryz.zeroValue210}
open Go.RowKit in
theorem Tryz.strings_CutPrefix(s p:ByteArray)(w:World) :
  Calls Tryz.prog 145 #[.string s,.string p] w fun e w'=>e=.returned (.tuple #[.string ⟨(Lib.trimPrefix s.data.toList p.data.toList).toArray⟩,.bool (Lib.hasPrefix s.data.toList p.data.toList)])∧w'=w:=Any.strings_CutPrefix Tryz.M5 s p w
open Go.RowKit in
theorem Tryz.Builder_Len_f(B b:Nat)(bs:List Value)(w:World)(h:Lib.IsBuilderF 123 5 B b bs w) :
  Calls Tryz.prog 196 #[.pointer (some ⟨b,0,none⟩)] w fun e w'=>e=.returned (.int .i64 bs.length)∧w'=w:=Any.Builder_Len_f Tryz.MW B b bs w h
def Tryz.A1:Go.Shelf.Ren:=⟨fun|143=>141|219=>200|217=>204|225=>232|224=>233|267=>234|266=>238|314=>250|n=>n,fun|9=>9|3=>3|4=>4|5=>5|46=>165|146=>307|51=>306|n=>n,fun|1=>2|n=>n⟩
theorem Tryz.M0:Go.Proofs.Lays.n143 Tryz.prog Tryz.A1:={
 mixed:=by kernel_rfl
 f143:=Tryz.func141.trans (congrArg some (by kernel_rfl))
 f217:=Tryz.func204.trans (congrArg some (by kernel_rfl))
 f219:=Tryz.func200.trans (congrArg some (by kernel_rfl))
 f224:=Tryz.func233.trans (congrArg some (by kernel_rfl))
 f225:=Tryz.func232.trans (congrArg some (by kernel_rfl))
 f266:=Tryz.func238.trans (congrArg some (by kernel_rfl))
 f267:=Tryz.func234.trans (congrArg some (by kernel_rfl))
 f314:=Tryz.func250.trans (congrArg some (by kernel_rfl))
 t3:=Tryz.underlying3
 a3:=Tryz.isAgg3
 z3:=Tryz.sizeOf3
 v3:=Tryz.zeroValue3
 t4:=Tryz.underlying4
 a4:=Tryz.isAgg4
 z4:=Tryz.sizeOf4
 v4:=Tryz.zeroValue4
 t5:=Tryz.underlying5
 a5:=Tryz.isAgg5
 z5:=Tryz.sizeOf5
 v5:=Tryz.zeroValue5
 t9:=Tryz.underlying9
 a9:=Tryz.isAgg9
 z9:=Tryz.sizeOf9
 v9:=Tryz.zeroValue9
 t46:=Tryz.underlying165
 a46:=Tryz.isAgg165
 z46:=Tryz.sizeOf165
 v46:=Tryz.zeroValue165
 t51:=Tryz.underlying306
 a51:=Tryz.isAgg306
 z51:=Tryz.sizeOf306
 v51:=Tryz.zeroValue306
 t146:=Tryz.underlying307
 a146:=Tryz.isAgg307
 z146:=Tryz.sizeOf307
 v146:=Tryz.zeroValue307
 g1:=by kernel_rfl}
open Go.RowKit Go.Lib in
theorem Tryz.strings_Index_one(s:ByteArray)(c:UInt8)(w:World) :
  Calls Tryz.prog 141 #[.string s,.string ⟨#[c]⟩] w fun e w'=>e=.returned (.int .i64 (Lib.indexByte s.data.toList c))∧w'=w:=Any.strings_Index_one Tryz.M0 s c w
def Tryz.A0:Go.Shelf.Ren:=⟨fun|144=>205|143=>141|219=>200|217=>204|225=>232|224=>233|267=>234|266=>238|314=>250|n=>n,fun|9=>9|4=>4|3=>3|5=>5|46=>165|146=>307|51=>306|n=>n,fun|1=>2|n=>n⟩
theorem Tryz.MZ:Go.Proofs.Lays.n144 Tryz.prog Tryz.A0:={
 mixed:=by kernel_rfl
 f143:=Tryz.func141.trans (congrArg some (by kernel_rfl))
 f144:=Tryz.func205.trans (congrArg some (by kernel_rfl))
 f217:=Tryz.func204.trans (congrArg some (by kernel_rfl))
 f219:=Tryz.func200.trans (congrArg some (by kernel_rfl))
 f224:=Tryz.func233.trans (congrArg some (by kernel_rfl))
 f225:=Tryz.func232.trans (congrArg some (by kernel_rfl))
 f266:=Tryz.func238.trans (congrArg some (by kernel_rfl))
 f267:=Tryz.func234.trans (congrArg some (by kernel_rfl))
 f314:=Tryz.func250.trans (congrArg some (by kernel_rfl))
 t3:=Tryz.underlying3
 a3:=Tryz.isAgg3
 z3:=Tryz.sizeOf3
 v3:=Tryz.zeroValue3
 t4:=Tryz.underlying4
 a4:=Tryz.isAgg4
 z4:=Tryz.sizeOf4
 v4:=Tryz.zeroValue4
 t5:=Tryz.underlying5
 a5:=Tryz.isAgg5
 z5:=Tryz.sizeOf5
 v5:=Tryz.zeroValue5
 t9:=Tryz.underlying9
 a9:=Tryz.isAgg9
 z9:=Tryz.sizeOf9
 v9:=Tryz.zeroValue9
 t46:=Tryz.underlying165
 a46:=Tryz.isAgg165
 z46:=Tryz.sizeOf165
 v46:=Tryz.zeroValue165
 t51:=Tryz.underlying306
 a51:=Tryz.isAgg306
 z51:=Tryz.sizeOf306
 v51:=Tryz.zeroValue306
 t146:=Tryz.underlying307
 a146:=Tryz.isAgg307
 z146:=Tryz.sizeOf307
 v146:=Tryz.zeroValue307
 g1:=by kernel_rfl}
open Go.RowKit Go.Lib in
theorem Tryz.strings_Contains_one(s:ByteArray)(c:UInt8)(w:World) :
  Calls Tryz.prog 205 #[.string s,.string ⟨#[c]⟩] w fun e w'=>e=.returned (.bool (decide (0≤Lib.indexByte s.data.toList c)))∧w'=w:=Any.strings_Contains_one Tryz.MZ s c w
def Tryz.AZ:Go.Shelf.Ren:=⟨fun|149=>239|222=>251|n=>n,fun|9=>9|5=>5|3=>3|4=>4|n=>n,fun|n=>n⟩
theorem Tryz.MY:Go.Proofs.Lays.n149 Tryz.prog Tryz.AZ:={
 mixed:=by kernel_rfl
 f149:=Tryz.func239.trans (congrArg some (by kernel_rfl))
 f222:=Tryz.func251.trans (congrArg some (by kernel_rfl))
 t3:=Tryz.underlying3
 a3:=Tryz.isAgg3
 z3:=Tryz.sizeOf3
 v3:=Tryz.zeroValue3
 t4:=Tryz.underlying4
 a4:=Tryz.isAgg4
 z4:=Tryz.sizeOf4
 v4:=Tryz.zeroValue4
 t5:=Tryz.underlying5
 a5:=Tryz.isAgg5
 z5:=Tryz.sizeOf5
 v5:=Tryz.zeroValue5
 t9:=Tryz.underlying9
 a9:=Tryz.isAgg9
 z9:=Tryz.sizeOf9
 v9:=Tryz.zeroValue9}
open Go.RowKit Go.Lib in
theorem Tryz.strings_LastIndexByte(s:ByteArray)(c:Int)(hs:s.size<4611686018427387904)(w:World) :
  Calls Tryz.prog 239 #[.string s,.int .u8 c] w fun e w'=>e=.returned (.int .i64 (Lib.lastIndexByte s c))∧w'=w:=Any.strings_LastIndexByte Tryz.MY s c hs w
def Tryz.A4:Go.Shelf.Ren:=⟨fun|102=>48|209=>82|207=>142|n=>n,fun|9=>9|4=>4|3=>3|n=>n,fun|n=>n⟩
theorem Tryz.M6:Go.Proofs.Lays.n102 Tryz.prog Tryz.A4:={
 mixed:=by kernel_rfl
 f102:=Tryz.func48.trans (congrArg some (by kernel_rfl))
 f207:=Tryz.func142.trans (congrArg some (by kernel_rfl))
 f209:=Tryz.func82.trans (congrArg some (by kernel_rfl))
 t3:=Tryz.underlying3
 a3:=Tryz.isAgg3
 z3:=Tryz.sizeOf3
 v3:=Tryz.zeroValue3
 t4:=Tryz.underlying4
 a4:=Tryz.isAgg4
 z4:=Tryz.sizeOf4
 v4:=Tryz.zeroValue4
 t9:=Tryz.underlying9
 a9:=Tryz.isAgg9
 z9:=Tryz.sizeOf9
 v9:=Tryz.zeroValue9}
open Go.RowKit Go.Lib in
theorem Tryz.strings_TrimSuffix(s p:ByteArray)(w:World)(hs:s.size≤9223372036854775807) :
  Calls Tryz.prog 48 #[.string s,.string p] w fun e w'=>e=.returned (.string ⟨(Lib.trimSuffix s.data.toList p.data.toList).toArray⟩)∧w'=w:=Any.strings_TrimSuffix Tryz.M6 s p w hs
def Tryz.yu:Go.Shelf.Ren:=⟨fun|146=>83|221=>143|268=>201|138=>202|143=>141|195=>235|197=>140|218=>236|219=>200|260=>199|217=>204|225=>232|224=>233|267=>234|266=>238|314=>250|n=>n,fun|9=>9|31=>154|3=>3|4=>4|0=>0|105=>214|21=>21|5=>5|46=>165|119=>290|139=>293|138=>292|146=>307|51=>306|n=>n,fun|1=>2|3=>0|4=>1|n=>n⟩
theorem Tryz.ui:Go.Proofs.LaysM.n146 Tryz.prog Tryz.yu:={
 mixed:=by kernel_rfl
 f138:=Tryz.func202.trans (congrArg some (by kernel_rfl))
 f143:=Tryz.func141.trans (congrArg some (by kernel_rfl))
 f146:=Tryz.func83.trans (congrArg some (by kernel_rfl))
 f195:=Tryz.func235.trans (congrArg some (by kernel_rfl))
 f197:=Tryz.func140.trans (congrArg some (by kernel_rfl))
 f217:=Tryz.func204.trans (congrArg some (by kernel_rfl))
 f218:=Tryz.func236.trans (congrArg some (by kernel_rfl))
 f219:=Tryz.func200.trans (congrArg some (by kernel_rfl))
 f221:=Tryz.func143.trans (congrArg some (by kernel_rfl))
 f224:=Tryz.func233.trans (congrArg some (by kernel_rfl))
 f225:=Tryz.func232.trans (congrArg some (by kernel_rfl))
 f260:=Tryz.func199.trans (congrArg some (by kernel_rfl))
 f266:=Tryz.func238.trans (congrArg some (by kernel_rfl))
 f267:=Tryz.func234.trans (congrArg some (by kernel_rfl))
 f268:=Tryz.func201.trans (congrArg some (by kernel_rfl))
 f314:=Tryz.func250.trans (congrArg some (by kernel_rfl))
 t0:=Tryz.underlying0
 a0:=Tryz.isAgg0
 z0:=Tryz.sizeOf0
 v0:=Tryz.zeroValue0
 t3:=Tryz.underlying3
 a3:=Tryz.isAgg3
 z3:=Tryz.sizeOf3
 v3:=Tryz.zeroValue3
 t4:=Tryz.underlying4
 a4:=Tryz.isAgg4
 z4:=Tryz.sizeOf4
 v4:=Tryz.zeroValue4
 t5:=Tryz.underlying5
 a5:=Tryz.isAgg5
 z5:=Tryz.sizeOf5
 v5:=Tryz.zeroValue5
 t9:=Tryz.underlying9
 a9:=Tryz.isAgg9
 z9:=Tryz.sizeOf9
 v9:=Tryz.zeroValue9
 t21:=Tryz.underlying21
 a21:=Tryz.isAgg21
 z21:=Tryz.sizeOf21
 v21:=Tryz.zeroValue21
 t31:=Tryz.underlying154
 a31:=Tryz.isAgg154
 z31:=Tryz.sizeOf154
 v31:=Tryz.zeroValue154
 t46:=Tryz.underlying165
 a46:=Tryz.isAgg165
 z46:=Tryz.sizeOf165
 v46:=Tryz.zeroValue165
 t51:=Tryz.underlying306
 a51:=Tryz.isAgg306
 z51:=Tryz.sizeOf306
 v51:=Tryz.zeroValue306
 t105:=Tryz.underlying214
 a105:=Tryz.isAgg214
 z105:=Tryz.sizeOf214
 v105:=Tryz.zeroValue214
 t119:=Tryz.underlying290
 a119:=Tryz.isAgg290
 z119:=Tryz.sizeOf290
 t138:=Tryz.underlying292
 a138:=Tryz.isAgg292
 z138:=Tryz.sizeOf292
 v138:=Tryz.zeroValue292
 t139:=Tryz.underlying293
 a139:=Tryz.isAgg293
 z139:=Tryz.sizeOf293
 v139:=Tryz.zeroValue293
 t146:=Tryz.underlying307
 a146:=Tryz.isAgg307
 z146:=Tryz.sizeOf307
 v146:=Tryz.zeroValue307
 g1:=by kernel_rfl
 g3:=by kernel_rfl
 g4:=by kernel_rfl
 i0:=by kernel_rfl
 i3:=by kernel_rfl
 i4:=by kernel_rfl
 i5:=by kernel_rfl
 i9:=by kernel_rfl
 i21:=by kernel_rfl
 i31:=by kernel_rfl
 i46:=by kernel_rfl
 i51:=by kernel_rfl
 i105:=by kernel_rfl
 i138:=by kernel_rfl
 i139:=by kernel_rfl
 i146:=by kernel_rfl
 m1:=by kernel_rfl
 s1_3:=fun w h=>Go.Proofs.cell_of_shapedOpen_int (zero:=#[.int .i64 0]) (t:=3) h (of_decide_eq_true (by kernel_rfl)) (by kernel_rfl) rfl (by kernel_rfl) (by kernel_rfl) Tryz.underlying3
 m3:=by kernel_rfl
 m4:=by kernel_rfl}
def Tryz.rR:Go.Shelf.Ren:=⟨fun|166=>50|240=>86|276=>147|n=>n,fun|0=>0|3=>3|4=>4|5=>5|9=>9|20=>20|37=>121|70=>120|72=>123|75=>125|80=>132|164=>223|n=>n,fun n=>n⟩
theorem Tryz.EA:Go.Proofs.Lays.n166 Tryz.prog Tryz.rR:={
 mixed:=by kernel_rfl
 f166:=Tryz.func50.trans (congrArg some (by kernel_rfl))
 f240:=Tryz.func86.trans (congrArg some (by kernel_rfl))
 f276:=Tryz.func147.trans (congrArg some (by kernel_rfl))
 t0:=Tryz.underlying0
 a0:=Tryz.isAgg0
 z0:=Tryz.sizeOf0
 v0:=Tryz.zeroValue0
 t3:=Tryz.underlying3
 a3:=Tryz.isAgg3
 z3:=Tryz.sizeOf3
 v3:=Tryz.zeroValue3
 t4:=Tryz.underlying4
 a4:=Tryz.isAgg4
 z4:=Tryz.sizeOf4
 v4:=Tryz.zeroValue4
 t9:=Tryz.underlying9
 a9:=Tryz.isAgg9
 z9:=Tryz.sizeOf9
 v9:=Tryz.zeroValue9
 t20:=Tryz.underlying20
 a20:=Tryz.isAgg20
 z20:=Tryz.sizeOf20
 v20:=Tryz.zeroValue20
 t37:=Tryz.underlying121
 a37:=Tryz.isAgg121
 z37:=Tryz.sizeOf121
 v37:=Tryz.zeroValue121
 t70:=Tryz.underlying120
 a70:=Tryz.isAgg120
 z70:=Tryz.sizeOf120
 v70:=Tryz.zeroValue120
 t72:=Tryz.underlying123
 a72:=Tryz.isAgg123
 z72:=Tryz.sizeOf123
 v72:=Tryz.zeroValue123
 t75:=Tryz.underlying125
 a75:=Tryz.isAgg125
 z75:=Tryz.sizeOf125
 v75:=Tryz.zeroValue125
 t164:=Tryz.underlying223
 a164:=Tryz.isAgg223
 z164:=Tryz.sizeOf223
 v164:=Tryz.zeroValue223}
def Tryz.rQ:Go.Shelf.Ren:=⟨fun|167=>53|240=>86|276=>147|n=>n,fun|0=>0|4=>4|5=>5|9=>9|20=>20|37=>121|70=>120|72=>123|75=>125|80=>132|164=>223|n=>n,fun n=>n⟩
theorem Tryz.Ez:Go.Proofs.Lays.n167 Tryz.prog Tryz.rQ:={
 mixed:=by kernel_rfl
 f167:=Tryz.func53.trans (congrArg some (by kernel_rfl))
 f240:=Tryz.func86.trans (congrArg some (by kernel_rfl))
 f276:=Tryz.func147.trans (congrArg some (by kernel_rfl))
 t0:=Tryz.underlying0
 a0:=Tryz.isAgg0
 z0:=Tryz.sizeOf0
 v0:=Tryz.zeroValue0
 t4:=Tryz.underlying4
 a4:=Tryz.isAgg4
 z4:=Tryz.sizeOf4
 v4:=Tryz.zeroValue4
 t5:=Tryz.underlying5
 a5:=Tryz.isAgg5
 z5:=Tryz.sizeOf5
 v5:=Tryz.zeroValue5
 t9:=Tryz.underlying9
 a9:=Tryz.isAgg9
 z9:=Tryz.sizeOf9
 v9:=Tryz.zeroValue9
 t20:=Tryz.underlying20
 a20:=Tryz.isAgg20
 z20:=Tryz.sizeOf20
 v20:=Tryz.zeroValue20
 t37:=Tryz.underlying121
 a37:=Tryz.isAgg121
 z37:=Tryz.sizeOf121
 v37:=Tryz.zeroValue121
 t70:=Tryz.underlying120
 a70:=Tryz.isAgg120
 z70:=Tryz.sizeOf120
 v70:=Tryz.zeroValue120
 t72:=Tryz.underlying123
 a72:=Tryz.isAgg123
 z72:=Tryz.sizeOf123
 v72:=Tryz.zeroValue123
 t75:=Tryz.underlying125
 a75:=Tryz.isAgg125
 z75:=Tryz.sizeOf125
 v75:=Tryz.zeroValue125
 t164:=Tryz.underlying223
 a164:=Tryz.isAgg223
 z164:=Tryz.sizeOf223
 v164:=Tryz.zeroValue223}
theorem Tryz.kb:Builder.Extra Tryz.prog Tryz.rR:={
 sizeBuilder:=by kernel_rfl
 liesBuilder:=by kernel_rfl
 t5:=Tryz.underlying5
 a5:=Tryz.isAgg5
 z5:=Tryz.sizeOf5
 v5:=Tryz.zeroValue5
 infoByte:=by kernel_rfl
 cellsByte:=by kernel_rfl
 sizeByte:=by kernel_rfl
 neB5:=by decide}
theorem Tryz.ka:Builder.Extra Tryz.prog Tryz.rQ:={
 sizeBuilder:=by kernel_rfl
 liesBuilder:=by kernel_rfl
 t5:=Tryz.underlying5
 a5:=Tryz.isAgg5
 z5:=Tryz.sizeOf5
 v5:=Tryz.zeroValue5
 infoByte:=by kernel_rfl
 cellsByte:=by kernel_rfl
 sizeByte:=by kernel_rfl
 neB5:=by decide}
open Go.RowKit in
theorem Tryz.Builder_WriteByte(B b:Nat)(bs:List Value)(c:Int)(w:World)(h:Lib.IsBuilder 123 5 B b bs w)(hlen:bs.length+1≤140737488355328)(Tg:B≤w.heap.size) :
  Calls Tryz.prog 53 #[.pointer (some ⟨b,0,none⟩),.int .u8 c] w fun e w'=>e=.returned .nilIface∧(Lib.BuilderAt 123 5 B b (.pointer (some ⟨b,0,none⟩)) (bs++[.int .u8 c]) w'∧Below B w w'):=Any.Builder_WriteByte Tryz.Ez Tryz.ka B b bs c w h hlen Tg
open Go.RowKit in
theorem Tryz.Builder_WriteString(B b:Nat)(bs:List Value)(s:ByteArray)(w:World)(h:Lib.IsBuilder 123 5 B b bs w)(hlen:bs.length+s.size≤140737488355328)(Tg:B≤w.heap.size) :
  Calls Tryz.prog 50 #[.pointer (some ⟨b,0,none⟩),.string s] w fun e w'=>e=.returned (.tuple #[.int .i64 s.size,.nilIface])∧(Lib.BuilderAt 123 5 B b (.pointer (some ⟨b,0,none⟩)) (bs++Lib.strCells s) w'∧Below B w w'):=Any.Builder_WriteString Tryz.EA Tryz.kb B b bs s w h hlen Tg
end Go.Proofs
