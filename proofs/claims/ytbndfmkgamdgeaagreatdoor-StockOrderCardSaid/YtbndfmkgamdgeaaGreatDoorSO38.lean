import Derived.Test.YtbndfmkgamdgeaaGreatDoorSO1
import Derived.Test.YtbndfmkgamdgeaaGreatDoorSO2
import Derived.Test.YtbndfmkgamdgeaaGreatDoorSO3
import Derived.Test.YtbndfmkgamdgeaaGreatDoorSO4
import Derived.Test.YtbndfmkgamdgeaaGreatDoorSO5
import Derived.Test.YtbndfmkgamdgeaaGreatDoorSO6
import Derived.Test.YtbndfmkgamdgeaaGreatDoorSO8
import Derived.Test.YtbndfmkgamdgeaaGreatDoorSO13
import Derived.Test.YtbndfmkgamdgeaaGreatDoorSO14
import Derived.Test.YtbndfmkgamdgeaaGreatDoorSO16
import Derived.Test.YtbndfmkgamdgeaaGreatDoorSO17
import Derived.Test.YtbndfmkgamdgeaaGreatDoorSO18
import Derived.Test.YtbndfmkgamdgeaaGreatDoorSO21
import Derived.Test.YtbndfmkgamdgeaaGreatDoorSO25
import Derived.Test.YtbndfmkgamdgeaaGreatDoorSO28
import Derived.Test.YtbndfmkgamdgeaaGreatDoorSO30
import Derived.Test.YtbndfmkgamdgeaaGreatDoorSO32
import Derived.Test.YtbndfmkgamdgeaaGreatDoorSO33
set_option linter.unusedVariables false
set_option linter.unusedSimpArgs false
set_option maxRecDepth 100000
set_option maxHeartbeats 16000000
namespace Go.Proofs.YtbndfmkgamdgeaaGreatDoor
section
open Go.RowKit
def nSfx:ByteArray:=ByteArray.mk #[46,116,114,97,115,104,105,110,102,111]
def Fs.takenF (S:Fs) (d:Bool) (c:Cr) (n:ByteArray):List Int→Bool×Int
 | []=>(false,0)
 | x :: l=>if (S.lookF d c x n).2=0 then (true,0) else if (S.lookF d c x n).2≠5 then (false,(S.lookF d c x n).2) else S.takenF d c n l
def Sy.tryF (Y:Sy) (c:Cr) (info:Int) (text n:ByteArray):Sy×Int×Int:=Y.op (fun S now=>S.file c now info (n ++ nSfx) 384 text)
def Cn.three (x:Cn):List Int:=[x.files,x.way,x.out]
def Sy.nameL (Y:Sy) (c:Cr) (x:Cn) (text:ByteArray):List ByteArray→Sy×ByteArray×Int
 | []=>(Y,ByteArray.empty,7)
 | n :: l=>
  if (Y.fs.takenF Y.dead c n x.three).2≠0 then (Y,ByteArray.empty,(Y.fs.takenF Y.dead c n x.three).2)
  else if (Y.fs.takenF Y.dead c n x.three).1=true then Y.nameL c x text l
  else if (Y.tryF c x.info text n).2.2=7 then (Y.tryF c x.info text n).1.nameL c x text l
  else if (Y.tryF c x.info text n).2.2≠0 then ((Y.tryF c x.info text n).1,ByteArray.empty,(Y.tryF c x.info text n).2.2)
  else ((Y.tryF c x.info text n).1,n,0)
def namesL (base:ByteArray):List ByteArray:=(List.range 1000).map fun k=>nthS base ((k:Nat)+1)
def Sy.nameF (Y:Sy) (c:Cr) (x:Cn) (base text:ByteArray):Sy×ByteArray×Int:=Y.nameL c x text (namesL base)
def Fs.freeL (S:Fs) (d:Bool) (c:Cr) (dirs:List Int):List ByteArray→ByteArray×Int
 | []=>(ByteArray.empty,7)
 | n :: l=>if (S.takenF d c n dirs).2≠0 then (ByteArray.empty,(S.takenF d c n dirs).2) else if (S.takenF d c n dirs).1=true then S.freeL d c dirs l else (n,0)
structure Still (Y:Sy):Prop where
 plan:Y.plan=[]
 dead:Y.dead=false
theorem Still.op {Y:Sy} (h:Still Y) (g:Fs→Int→Fs×Int×Int):(Y.op g).2=(g Y.fs Y.now).2∧(Y.op g).1.fs=(g Y.fs Y.now).1∧Still (Y.op g).1∧(Y.op g).1.now=Y.now:=by
 have hc:Y.change=({Y with count:=Y.count+1},0):=by
  unfold Sy.change;rw [if_neg (by simp [h.dead]),h.plan];rfl
 unfold Sy.op;rw [if_neg (by rw [hc];simp),hc];exact⟨rfl,rfl,⟨h.plan,h.dead⟩,rfl⟩
end
section
open Go.RowKit
structure Ln where
 size:Int
 time:Int
 name:ByteArray
def Fs.lineF (S:Fs) (N:Nat) (c:Cr) (x:Cn) (y:En):Option Ln:=
 if (S.getZ y.no).kind=1∧(S.lookF false c x.info (y.name ++ nSfx)).2=0∧(S.treeF N false c x.files y.name).2=0 then some ⟨(S.treeF N false c x.files y.name).1,(S.getZ (S.lookF false c x.info (y.name ++ nSfx)).1).mtime,y.name⟩ else none
def Fs.linesF (S:Fs) (N:Nat) (d:Bool) (c:Cr) (x:Cn):List Ln×Int:=
 if (S.listF d c x.files).2≠0 then ([],(S.listF d c x.files).2) else ((S.listF d c x.files).1.filterMap (S.lineF N c x),0)
end
section
open Go.RowKit
def fillX (n:An) (data:ByteArray):Int:=blkI 2 data.size - blkI 2 n.data.size
def Fs.fill (S:Fs) (c:Cr) (now no:Int) (data:ByteArray):Fs×Int:=
 match S.get no with
 | none=>(S,5)
 | some n=>
  if n.kind=1 then (S,8) else if n.kind≠2 then (S,1) else if n.may c 2=false then (S,6) else if 1048576<data.size then (S,3) else
  match S.dev n.dev with
  | none=>(S,1)
  | some v=>
   if tkE v.b v.n v.mb v.mn (fillX n data) 0≠0 then (S,tkE v.b v.n v.mb v.mn (fillX n data) 0)
   else ((S.setDev n.dev {v with b:=v.b+fillX n data}).set {n with data:=data,mtime:=now,ctime:=now},0)
def Sy.fillF (Y:Sy) (c:Cr) (no:Int) (data:ByteArray):Sy×Int:=Y.opE (fun S now=>S.fill c now no data)
end
section
open Go.RowKit
def Fs.fillW (S:Fs) (n:An) (v:Dv) (data:ByteArray):Fs×Int:=
 if tkE v.b v.n v.mb v.mn (fillX n data) 0≠0 then (S,tkE v.b v.n v.mb v.mn (fillX n data) 0)
 else ((S.setDev n.dev {v with b:=v.b+fillX n data}).set {n with data:=data},0)
section
variable {w w':World} {pw:Nat} {R:Rp} {S:Fs}
end
end
section
open Go.RowKit
def nSizes:ByteArray:=ByteArray.mk #[100,105,114,101,99,116,111,114,121,115,105,122,101,115]
def nPart:ByteArray:=ByteArray.mk #[100,105,114,101,99,116,111,114,121,115,105,122,101,115,46,110,101,119]
def nOne:ByteArray:=ByteArray.mk #[120]
def bytesF (n:Int):ByteArray:=str (List.replicate (n % 32).toNat 120)
def Sy.tickF (Y:Sy) (n:Int):Sy:=if 0≤n∧n≤253402300799 - Y.now then {Y with now:=Y.now+n} else Y
def Sy.fill1 (Y:Sy) (c:Cr) (x:Cn) (l:Ln):Sy:=
 let r:=Y.op (fun S now=>S.mkdir c now x.files l.name 448)
 let r1:=if r.2.2=0∧0≤l.size then (r.1.op (fun S now=>S.file c now r.2.1 nOne 384 (bytesF l.size))).1 else r.1
 let r2:=if 0≤l.time then (r1.op (fun S now=>S.file c now x.info (l.name ++ nSfx) 384 ByteArray.empty)).1 else r1
 r2.tickF (l.time % 256)
def Sy.fillsF (Y:Sy) (c:Cr) (x:Cn):List Ln→Sy
 | []=>Y
 | l :: ls=>(Y.fill1 c x l).fillsF c x ls
def Sy.filledF (Y:Sy) (u:Us) (no:Int) (l:List Ln):Sy×Cn×Bool:=
 if (Y.chooseF u no).2.2≠0 then ((Y.chooseF u no).1,cn0,false) else ((Y.chooseF u no).1.fillsF u.c (Y.chooseF u no).2.1 l,(Y.chooseF u no).2.1,true)
theorem SyOk.tickF {Y:Sy} {N:Nat} (h:SyOk Y N) (n:Int):SyOk (Y.tickF n) N:=by
 unfold Sy.tickF
 split
 ·exact ⟨h.fine,h.c0,h.cN,h.pl⟩
 ·exact h
theorem SyOk.fill1 {Y:Sy} {N:Nat} (h:SyOk Y N) (c:Cr) (x:Cn) (l:Ln):SyOk (Y.fill1 c x l) (N+3):=by
 unfold Sy.fill1;dsimp only;have h1:SyOk (Y.op (fun S now=>S.mkdir c now x.files l.name 448)).1 (N+1):=h.op (h.fine.mkdir c Y.now x.files l.name 448);generalize Y.op (fun S now=>S.mkdir c now x.files l.name 448)=r at h1 ⊢;have h2:SyOk (if r.2.2=0∧0≤l.size then (r.1.op (fun S now=>S.file c now r.2.1 nOne 384 (bytesF l.size))).1 else r.1) (N+2):=by
  split
  ·exact h1.op (h1.fine.file _ _ _ _ _ _)
  ·exact h1.mono (by omega)
 generalize (if r.2.2=0∧0≤l.size then (r.1.op (fun S now=>S.file c now r.2.1 nOne 384 (bytesF l.size))).1 else r.1)=r1 at h2 ⊢;refine SyOk.tickF ?_ _
 split
 ·exact h2.op (h2.fine.file _ _ _ _ _ _)
 ·exact h2.mono (by omega)
theorem SyOk.fillsF {c:Cr} {x:Cn}:∀ {l:List Ln} {Y:Sy} {N:Nat},SyOk Y N→SyOk (Y.fillsF c x l) (N+3*l.length)
 | [],_,_,h=>h
 | l :: ls,Y,N,h=>by
  have h1:=(h.fill1 c x l).fillsF (c:=c) (x:=x) (l:=ls);exact h1.mono (by simp only [List.length_cons];omega)
theorem SyOk.filledF {Y:Sy} {N:Nat} (h:SyOk Y N) (u:Us) (no:Int) (l:List Ln):SyOk (Y.filledF u no l).1 (N+20+3*l.length):=by
 unfold Sy.filledF
 split
 ·exact (h.chooseF u no).mono (by omega)
 ·exact (h.chooseF u no).fillsF
def Ln.mayB (x:Ln):Bool:=decide (0≤x.size) && decide (0≤x.time) && decide (checkE x.name=0)
def lnL (x:Ln):List UInt8:=decL x.size ++ 32 :: (decL x.time ++ 32 :: (encL x.name.data.toList ++ [10]))
def sizesL (l:List Ln):List UInt8:=(l.filter Ln.mayB).flatMap lnL
def Fs.heldF (S:Fs) (d:Bool) (c:Cr) (x:Cn):ByteArray×Int:=
 if (S.lookF d c x.dir nSizes).2≠0 then (ByteArray.empty,(S.lookF d c x.dir nSizes).2) else S.readF d c (S.lookF d c x.dir nSizes).1
def Sy.refreshF (Y:Sy) (N:Nat) (c:Cr) (x:Cn):Sy×Int:=
 if (Y.fs.linesF N Y.dead c x).2≠0 then (Y,(Y.fs.linesF N Y.dead c x).2) else
 let want:=str (sizesL (Y.fs.linesF N Y.dead c x).1)
 let h:=Y.fs.heldF Y.dead c x
 if (h.2=0∧h.1=want)∨(h.2=5∧want.size=0) then (Y,0) else if h.2=20 then (Y,20) else
 let r:=Y.op (fun S now=>S.file c now x.dir nPart 384 want)
 if r.2.2≠0 then (r.1,r.2.2) else
 let q:=r.1.opE (fun S now=>S.moveF c now x.dir nPart x.dir nSizes)
 if q.2≠0 then ((q.1.opE (fun S now=>S.unlinkF c now x.dir nPart)).1,q.2) else (q.1,0)
end
section
open Go.RowKit
def spC (x:Sp):List Value:=[.int .i64 x.dir,.string x.name,.int .i64 x.no,.int .i64 x.depth]
def spQ (cs:List Value) (x:Sp):Prop:=cs=spC x
theorem spC_len (x:Sp):(spC x).length=4:=rfl
theorem sp_info:(Tryz.prog.info? 113).map (fun i=>(i.zero,i.size,i.bytes))=some (some (.agg #[.int .i64 0,.string ByteArray.empty,.int .i64 0,.int .i64 0]),4,40):=by kernel_rfl
def OSp (w:World) (base:Nat) (v:Value) (l:List Sp):Prop:=w.ownsRow base 113 4 v l.length (l.flatMap spC)
theorem OSp.nil (w:World) (base:Nat):OSp w base (.slice none 0 0) []:=⟨rfl,.inl ⟨rfl,rfl⟩⟩
theorem OSp.keep {w w':World} {base:Nat} {v:Value} {l:List Sp} (h:OSp w base v l) (hb:Below w.heap.size w w'):OSp w' base v l:=own_below h hb (Nat.le_refl _)
theorem OSp.at {w:World} {base c:Nat} {a:Option Addr} {l:List Sp} (h:OSp w base (.slice a l.length c) l):SliceAt w 4 spQ a l.length c l:=own_slice (R:=spQ) (by omega) spC_len (fun _=>rfl) h
theorem OSp.app {w:World} {base:Nat} {v:Value} {l:List Sp} (h:OSp w base v l) (x:Sp) (hn:l.length≤1000000) (hb:base≤w.heap.size) :
  ∃ g cap W,(Builtin.append_ #[182,182] 182 #[v,.slice (some ⟨w.heap.size,0,none⟩) 1 1]).run Tryz.prog (w.alloc (.cells #[.int .i64 x.dir,.string x.name,.int .i64 x.no,.int .i64 x.depth] 113))=.ok (.slice (some ⟨g,0,none⟩) (l.length+1) cap) W∧
   OSp W base (.slice (some ⟨g,0,none⟩) (l.length+1) cap) (l ++ [x])∧Mod (fun k=>v.ownBlock=some k) w W:=by
 obtain⟨g,cap,W,h1,h2,h3,-⟩:=own_app1 (SE:=182) Tryz.underlying182 sp_info rfl (by decide) h (spC x) rfl (by intro u hu;simp [spC] at hu;rcases hu with rfl | rfl | rfl | rfl <;> rfl) hn (by decide) hb;refine ⟨g,cap,W,h1,?_,h3⟩;unfold OSp;rw [List.length_append,List.length_singleton,List.flatMap_append];exact (by simpa using h2)
theorem OSp.cell {w:World} {base cap n:Nat} {a:Option Addr} {l:List Sp} (h:OSp w base (.slice a n cap) l) (k:Nat) (hk:k<l.length):∃ b,a=some ⟨b,0,none⟩∧b<w.heap.size∧base≤b∧n=l.length∧(∀ i,w.frozen? ⟨b,i,none⟩=false)∧l.length≤cap∧cap≤9223372036854775807∧
  w.cell? ⟨b,k*4,none⟩=some (.int .i64 l[k].dir)∧w.cell? ⟨b,k*4+1,none⟩=some (.string l[k].name)∧w.cell? ⟨b,k*4+2,none⟩=some (.int .i64 l[k].no)∧w.cell? ⟨b,k*4+3,none⟩=some (.int .i64 l[k].depth):=by
 rcases h.2 with ⟨hv,h0⟩|⟨g,cap',cur,hv,hb,hg,h1,h2,h3,h4⟩
 ·omega
 ·injection hv with e1 e2 e3;subst e1 e2 e3;have hB:Blk w g cur 113:=hg;obtain⟨-,hf,-⟩:=hB.facts;have hS:=OSp.at h;obtain⟨b,off,ha,hbl,hc⟩:=slice_row spC_len hS k hk;injection ha with ha;injection ha with e1 e2;subst e1 e2;have c0:=hc 0 (by decide);have c1:=hc 1 (by decide);have c2:=hc 2 (by decide);have c3:=hc 3 (by decide);simp only [Nat.zero_add,Nat.add_zero] at c0 c1 c2 c3;exact⟨g,rfl,hB.lt,hb,rfl,hf,h1,h2,c0,c1,c2,c3⟩
theorem OSp.less {w:World} {base g cap:Nat} {l:List Sp} {x:Sp} (h:OSp w base (.slice (some ⟨g,0,none⟩) (l.length+1) cap) (l ++ [x])):OSp w base (.slice (some ⟨g,0,none⟩) l.length cap) l:=
 own_less (enc:=spC) (by omega) spC_len (by unfold OSp at h;rwa [List.length_append,List.length_singleton] at h)
def lnC (x:Ln):List Value:=[.int .i64 x.size,.int .i64 x.time,.string x.name]
def lnQ (cs:List Value) (x:Ln):Prop:=cs=lnC x
theorem lnC_len (x:Ln):(lnC x).length=3:=rfl
def OLn (w:World) (base:Nat) (v:Value) (l:List Ln):Prop:=w.ownsRow base 75 3 v l.length (l.flatMap lnC)
theorem ln_cells {w:World} {n c:Nat} {a:Option Addr} {l:List Ln} (h:SliceAt w 3 lnQ a n c l) (k:Nat) (hk:k<l.length):∃ b off,a=some ⟨b,off,none⟩∧b<w.heap.size∧
  w.cell? ⟨b,off+k*3,none⟩=some (.int .i64 l[k].size)∧w.cell? ⟨b,off+k*3+1,none⟩=some (.int .i64 l[k].time)∧w.cell? ⟨b,off+k*3+2,none⟩=some (.string l[k].name):=by
 obtain⟨b,off,ha,hb,hc⟩:=slice_row lnC_len h k hk;exact⟨b,off,ha,hb,hc 0 (by decide),hc 1 (by decide),hc 2 (by decide)⟩
end
section
open Go.RowKit
attribute [local go_sem] Oper.semAt_some
structure SHe (w':World) (bu bx:Nat) (u:Us) (x:Cn):Prop where
 u:Blk w' bu #[.int .i64 u.u,.int .i64 u.g,.string u.data] 33
 x:Blk w' bx #[.string x.path,.int .i64 x.dir,.int .i64 x.info,.int .i64 x.files,.int .i64 x.out,.int .i64 x.way,.string x.top] 45
section
variable {w w':World} {pf pw:Nat} {R:Rp} {pv:Value} {Y:Sy}
theorem stickF_any (h:SyAt w pf pw R pv Y) (n:Int) (hn:0≤n∧n≤1000) (h0:0≤Y.now∧Y.now≤253402300799) :
  Calls Tryz.prog 27 #[.pointer (some ⟨pf,0,none⟩),.int .i64 n] w fun e w'=>(∃ v,e=.returned (.int .i64 v))∧SyAt w' pf pw R pv (Y.tickF n)∧Mod (fun k=>k=pf) w w':=by
 have HN:=Lib.hid (snone_any h);have HY:=Lib.hid h;have HT:=Lib.hid (show Y.tickF n=if 0≤n∧n≤253402300799 - Y.now then {Y with now:=Y.now+n} else Y from rfl);obtain⟨pc,pf',pz⟩:=h.blk.facts;obtain⟨hn0,hn1⟩:=hn;obtain⟨hy0,hy1⟩:=h0;have hz0:¬ n<0:=by omega
 clear h;by_cases hc:n≤253402300799 - Y.now
 ·have hE:=Lib.hid (HT.out.trans (if_pos ⟨hn0,hc⟩));have hc2:¬ 253402300799 - Y.now<n:=by omega
  go_enter Tryz.func27,Tryz.ntmps27;go_wp2_with (refine HN.out.mono ?_;rintro e w1 ⟨rfl,rfl⟩);go_ret;rw [hE.out];have hm:Mod (fun k=>k=pf) w (w.setCell ⟨pf,1,none⟩ (.int .i64 (Y.now+n))):=(Mod.refl (fun k=>k=pf) w).setCell (a:=⟨pf,1,none⟩) (.inl rfl) _;exact⟨⟨_,rfl⟩,HY.out.turnF hm rfl rfl (HY.out.blk.set 1 _),hm⟩
 ·have hE:=Lib.hid (HT.out.trans (if_neg (fun h=>hc h.2)));have hc2:253402300799 - Y.now<n:=by omega
  clear hc;go_enter Tryz.func27,Tryz.ntmps27;go_wp2_with (refine HN.out.mono ?_;rintro e w1 ⟨rfl,rfl⟩);go_ret;rw [hE.out];exact⟨⟨_,rfl⟩,HY.out,Mod.refl _ _⟩
end
end
section
open Go.RowKit
theorem and31 (n:Int):bits .and .i64 n 31=n % 32:=by
 show IntKind.i64.wrap ((BitVec.ofInt 64 n &&& BitVec.ofInt 64 31).toNat:Int)=_;rw [BitVec.toNat_and,BitVec.toNat_ofInt,show (BitVec.ofInt 64 31).toNat=2 ^ 5 - 1 from rfl,Nat.and_two_pow_sub_one_eq_mod,IntKind.wrap_i64];omega
theorem and255 (n:Int):bits .and .i64 n 255=n % 256:=by
 show IntKind.i64.wrap ((BitVec.ofInt 64 n &&& BitVec.ofInt 64 255).toNat:Int)=_;rw [BitVec.toNat_and,BitVec.toNat_ofInt,show (BitVec.ofInt 64 255).toNat=2 ^ 8 - 1 from rfl,Nat.and_two_pow_sub_one_eq_mod,IntKind.wrap_i64];omega
def few33 (l:List Ln):Bool:=decide ((∀ x∈l,x.name.size≤300)∧l.length≤6)
theorem bytes33_any (n:Int) (w:World) :
  Calls Tryz.prog 30 #[.int .i64 n] w fun e w'=>e=.returned (.string (bytesF n))∧w=w':=by
 have hb:bits BinOp.and IntKind.i64 n 31=n % 32:=and31 n;obtain⟨q,hq⟩:∃ q:Nat,n % 32=q:=⟨(n % 32).toNat,by omega⟩;have hq2:q<32:=by omega
 have HF:=Lib.hid (show bytesF n=str (List.replicate q 120) by unfold bytesF;rw [hq];rfl);rw [hq] at hb;clear hq;go_enter Tryz.func30,Tryz.ntmps30;go_wp2_with fail
 go_loopw [3,4] (fun t3 t4 wr=>∃ k:Nat,k≤q∧t3=.string (str (List.replicate k 120))∧t4=.int .i64 k∧w=wr) (fun _ t4 _=>q - (intOf t4).toNat)
 case atStart=>exact ⟨0,Nat.zero_le _,rfl,rfl,rfl⟩
 case round=>
  obtain⟨k,hkq,rfl,rfl,rfl⟩:=hrel;obtain⟨s,hs⟩:∃ s,str (List.replicate k 120)=s:=⟨_,rfl⟩;have hsz:s.size=k:=by rw [←hs,str_size,List.length_replicate]
  have HS:=Lib.hid hs;rw [hs];by_cases hk:k<q
  ·have HN:=Lib.hid (show s ++ ByteArray.mk #[120]=str (List.replicate (k+1) 120) by
    rw [←hs,List.replicate_succ',←str_append];rfl)
   have HLt:=Lib.hid hk;have hlim:¬ 9223372036854775807<s.size+1:=by omega
   clear hs;go_wp2_with fail;go_roundw
   case rel=>exact ⟨k+1,by have:=HLt.out;omega,by rw [←HN.out],by go_num,trivial⟩
   case measure=>
    have:=HLt.out;simp [intOf];omega
  ·obtain rfl:k=q:=by omega
   clear hs;go_wp2_with fail;go_ret;exact⟨by rw [HF.out,HS.out];rfl,rfl⟩
end
section
open Go.RowKit Go.Shelf
attribute [local go_sem] Oper.semAt_some
theorem op_still {Y:Sy} (h:Still Y) (g:Fs→Int→Fs×Int×Int):Still (Y.op g).1:=(h.op g).2.2.1
theorem dirF_still {Y:Sy} (h:Still Y) (u:Us) (dir:Int) (n:ByteArray):Still (Y.dirF u dir n).1:=by
 unfold Sy.dirF
 split
 ·exact op_still h _
 ·exact h
theorem dirsF_still {u:Us} {dir:Int}:∀ {l:List ByteArray} {Y:Sy},Still Y→Still (Y.dirsF u dir l).1
 | [],_,h=>h
 | n :: l,Y,h=>by
  rw [Sy.dirsF]
  split
  ·exact dirF_still h u dir n
  ·exact dirsF_still (dirF_still h u dir n)
theorem readyF_still {Y:Sy} (h:Still Y) (u:Us) (p:Plc):Still (Y.readyF u p).1:=by
 unfold Sy.readyF;dsimp only
 split
 ·exact dirF_still h u _ _
 ·split <;> exact dirsF_still (dirF_still h u _ _)
theorem triesF_still {u:Us}:∀ {l:List Plc} {Y:Sy} (e:Int),Still Y→Still (Y.triesF u l e).1
 | [],_,_,h=>h
 | p :: l,Y,e,h=>by
  rw [Sy.triesF]
  split
  ·exact readyF_still h u p
  ·exact triesF_still _ (readyF_still h u p)
theorem chooseF_still {Y:Sy} (h:Still Y) (u:Us) (no:Int):Still (Y.chooseF u no).1:=by
 unfold Sy.chooseF;dsimp only;have h2:=triesF_still (u:=u) (l:=Y.homeF u (Y.fs.topF no).1) 0 h
 split
 ·exact h
 ·split
  ·exact h2
  ·generalize Y.triesF u (Y.homeF u (Y.fs.topF no).1) 0=a at h2 ⊢;have h4:=triesF_still (u:=u) (l:=a.1.fs.placesF a.1.dead u (Y.fs.topF no).1 (Y.fs.topF no).2.1) a.2.2.2 h2
   split
   ·exact h4
   ·split
    ·exact h4
    ·exact readyF_still h4 u _
structure SNa (w':World) (B Bd zb zo:Nat) (cv:Array Value) (x:Cn) (z:ByteArray):Prop where
 c:Blk w' B cv 36
 x:Blk w' Bd #[.string x.path,.int .i64 x.dir,.int .i64 x.info,.int .i64 x.files,.int .i64 x.out,.int .i64 x.way,.string x.top] 45
 z:w'.cell? ⟨zb,zo,none⟩=some (.string z)
structure TkI (w:World) (p q:Nat) (pv:Value) (Bd:Nat) (cv:Array Value) (x:Cn) (Z:Sy) (ns:List (List UInt8)) (v:Value) (W:World):Prop where
 y:∃ R,SyAt W p q R pv Z∧∀ k,R.Y p q k→w.heap.size≤k
 b:Below w.heap.size w W
 c:Blk W w.heap.size cv 36
 x:Blk W Bd #[.string x.path,.int .i64 x.dir,.int .i64 x.info,.int .i64 x.files,.int .i64 x.out,.int .i64 x.way,.string x.top] 45
 n:OS W w.heap.size v ns
section
variable {w A B:World} {p q Bd:Nat} {pv v:Value} {cv:Array Value} {x:Cn} {Z Z':Sy} {ns:List (List UInt8)}
end
structure SCs (w':World) (B pf:Nat) (cv rv:Array Value):Prop where
 c:Blk w' B cv 36
 l:Blk w' pf rv 52
def Other (A:World) (k:Nat):Prop:=∃ cur,A.heap[k]? = some (.cells cur 9 (0,0))
end
end Go.Proofs.YtbndfmkgamdgeaaGreatDoor
