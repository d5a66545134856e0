import Derived.Test.YtinflmadpnigfaaGreatDoorDY2
import Derived.Test.YtinflmadpnigfaaGreatDoorDY1
set_option linter.unusedVariables false
set_option linter.unusedSimpArgs false
set_option maxRecDepth 100000
set_option maxHeartbeats 16000000
namespace Go.Proofs.YtinflmadpnigfaaGreatDoor
section
open Go.RowKit
theorem aH(l:List UInt8):(str l).data.toList=l:=by simp[str]
theorem aC(t:ByteArray):t.toList=t.data.toList:=ByteArray.toList_eq t
theorem Ff(l:List UInt8):(dA l).length≤l.length:=by
 unfold dA;rw[List.length_reverse];have:=(List.dropWhile_sublist (l:=l.reverse) (fun x=>x==47)).length_le
 rwa [List.length_reverse] at this
theorem JU(s:ByteArray)(w:World)(hs:s.size≤2000000) :
  Calls Tryz.prog 150 #[.string s] w fun e w'=>e=.returned (.string (str (iN s.data.toList)))∧w=w':=by
 have hlen:s.data.toList.length=s.size:=Array.length_toList;have h1:=Ff s.data.toList;have eS:=Um (show∀w,Calls Tryz.prog 207 #[.string s,.string (ByteArray.mk #[47])] w fun e w'=>e=.returned (.string (str (dA s.data.toList)))∧w=w' from fun w=>by
  refine(Tryz.strings_TrimRight_one s 47 (by decide) w (by omega)).mono ?_;rintro e w' ⟨rfl,rfl⟩;exact⟨rfl,rfl⟩)
 have eh:=Um (show∀w,Calls Tryz.prog 206 #[.string (str (dA s.data.toList))] w fun e w'=>e=.returned (.string (str (eD (dA s.data.toList))))∧w=w' from fun w=>by
  have:=zQ (str (dA s.data.toList)) w (by rw[aP];omega)
  rwa [aH] at this)
 have hL:=Um (show iN s.data.toList=if eD (dA s.data.toList)=[46]∨eD (dA s.data.toList)=[46,46] then[] else eD (dA s.data.toList) from rfl);clear h1 hlen;generalize eD (dA s.data.toList)=X at eh hL;generalize str (dA s.data.toList)=Y at eS eh;by_cases e1:X=[46]
 ·subst e1;have hb:((str [46]).toList==[46])=true:=by rw[aC,aH];rfl
  go_enter Tryz.func150,Tryz.ntmps150;go_wp2_with (first|(go_at_call 207;refine(eS.out _).mono ?_;rintro e w1 ⟨rfl,rfl⟩)|(go_at_call 206;refine(eh.out _).mono ?_;rintro e w1 ⟨rfl,rfl⟩));go_ret;exact⟨by rw[hL.out];rfl,rfl⟩
 ·by_cases e2:X=[46,46]
  ·subst e2;have hb:((str [46,46]).toList==[46])=false:=by rw[aC,aH];rfl
   have aD:((str [46,46]).toList==[46,46])=true:=by rw[aC,aH];rfl
   go_enter Tryz.func150,Tryz.ntmps150;go_wp2_with (first|(go_at_call 207;refine(eS.out _).mono ?_;rintro e w1 ⟨rfl,rfl⟩)|(go_at_call 206;refine(eh.out _).mono ?_;rintro e w1 ⟨rfl,rfl⟩));go_ret;exact⟨by rw[hL.out];rfl,rfl⟩
  ·have hb:((str X).toList==[46])=false:=by rw[aC,aH];simpa using e1
   have aD:((str X).toList==[46,46])=false:=by rw[aC,aH];simpa using e2
   have S6:=Um (show iN s.data.toList=X by rw[hL.out,if_neg (by rintro(h|h);exact e1 h;exact e2 h)]);clear e1 e2;go_enter Tryz.func150,Tryz.ntmps150;go_wp2_with (first|(go_at_call 207;refine(eS.out _).mono ?_;rintro e w1 ⟨rfl,rfl⟩)|(go_at_call 206;refine(eh.out _).mono ?_;rintro e w1 ⟨rfl,rfl⟩));go_ret;exact⟨by rw[S6.out];rfl,rfl⟩
theorem sZ(l:List UInt8)(x:UInt8):dA (l++[x])=if x=47 then dA l else l++[x]:=by
 unfold dA;rw[List.reverse_append,List.reverse_singleton,List.singleton_append,List.dropWhile_cons];by_cases h:x=47
 ·subst h;simp
 ·have:(x==47)=false:=by simpa using h
  rw[this,if_neg h];simp
theorem FM(s:ByteArray)(w:World)(hs:s.size≤2000000) :
  Calls Tryz.prog 181 #[.string s] w fun e w'=>e=.returned (.string (str (iN s.data.toList)))∧Up w w':=by
 go_enter Tryz.func181,Tryz.ntmps181;go_wp2_with fail
 go_loop [0] (fun t0=>∃t:ByteArray,t0=.string t∧t.size≤s.size∧dA t.data.toList=dA s.data.toList) (fun t0=>match t0 with | .string t=>t.size|_=>0)
 case atStart=>exact⟨s,rfl,aa _,rfl⟩
 case round=>
  obtain⟨t,rfl,hts,htr⟩:=hrel;have HTr:=Um htr;clear htr;rcases Nat.eq_zero_or_pos t.size with h0|hpos
  ·have hnil:=Um (show t.data.toList=[] from List.eq_nil_of_length_eq_zero (by rw[Array.length_toList];exact h0));have hsp:=dM 47 t.data.toList;have hsl:=tb t.data.toList;have HTt:=Um (show dA s.data.toList=t.data.toList from by rw[←HTr.o,hnil.out];rfl);go_wp2_with fail;refine(kU t _ (by omega)).mono ?_;rintro e w1 ⟨⟨g,cap,rfl,hO⟩,hB⟩;have hcell:=hO.cell ((dB 47 t.data.toList).length-1) (by omega);have hlast:(dB 47 t.data.toList)[(dB 47 t.data.toList).length-1]'(by omega)=eD (dA s.data.toList):=by
    rw[HTt.o];rw[List.getLast?_eq_getElem?,List.getElem?_eq_getElem (by omega)] at hsl;exact Option.some.inj hsl
   rw[hlast] at hcell;have hL:=Um (show iN s.data.toList=if eD (dA s.data.toList)=[46]∨eD (dA s.data.toList)=[46,46] then[] else eD (dA s.data.toList) from rfl);clear hlast hO hsl;obtain⟨QK,mC⟩:=hsp;have Pn:(dB 47 t.data.toList).length≤10000000:=by
    have:t.data.toList.length=t.size:=Array.length_toList;omega
   clear mC;generalize (dB 47 t.data.toList).length=m at hcell QK Pn;generalize eD (dA s.data.toList)=X at hcell hL;by_cases e1:X=[46]
   ·subst e1;have hb:((str [46]).toList==[46])=true:=by rw[aC,aH];rfl
    go_wp2_with fail;go_ret;exact⟨by rw[hL.out];rfl,hB⟩
   ·by_cases e2:X=[46,46]
    ·subst e2;have hb:((str [46,46]).toList==[46])=false:=by rw[aC,aH];rfl
     have aD:((str [46,46]).toList==[46,46])=true:=by rw[aC,aH];rfl
     go_wp2_with fail;go_ret;exact⟨by rw[hL.out];rfl,hB⟩
    ·have hb:((str X).toList==[46])=false:=by rw[aC,aH];simpa using e1
     have aD:((str X).toList==[46,46])=false:=by rw[aC,aH];simpa using e2
     have S6:=Um (show iN s.data.toList=X by rw[hL.out,if_neg (by rintro(h|h);exact e1 h;exact e2 h)]);clear e1 e2;go_wp2_with fail;go_ret;exact⟨by rw[S6.out];rfl,hB⟩
  ·have hsn:t.data.toList=t.data.toList.take (t.size-1)++[t[t.size-1]]:=by
    have:=gF t (t.size-1) (by omega);rw[show t.size-1+1=t.size by omega,iK] at this;exact this
   have Hsn:=Um hsn;have q1:(1:Int)≤(t.size:Int):=by omega
   have q2:((t.size:Int)-1).toNat=t.size-1:=by omega
   by_cases hc:t[t.size-1]=47
   ·have eS:((t[t.size-1].toNat:Int)==47)=true:=by rw[hc];rfl
    have HTq:=Um (show dA (t.extract 0 (t.size-1)).data.toList=dA s.data.toList by
     rw[←HTr.o,Hsn.o,sZ,if_pos hc,ByteArray.data_extract,Array.toList_extract,List.extract_eq_take_drop];simp)
    have hsz:(t.extract 0 (t.size-1)).size=t.size-1:=by simp
    have Qc:=Um hsz;clear hc hsn hsz;go_wp2_with fail
    go_round
    case rel=>exact⟨_,rfl,by rw[Qc.o];omega,HTq.o⟩
    case measure=>
     show(t.extract 0 (t.size-1)).size<t.size;rw[Qc.o];omega
   ·have eS:((t[t.size-1].toNat:Int)==47)=false:=by
     simp only[beq_eq_false_iff_ne,ne_eq];intro h;exact hc (by rw[gE];show t[t.size-1].toNat=47;omega)
    have HTq:=Um (show dA s.data.toList=t.data.toList by
     rw[←HTr.o]
     conv=>lhs;rw[Hsn.o]
     rw[sZ,if_neg hc,←Hsn.o])
    clear hc hsn;have hsp:=dM 47 t.data.toList;have hsl:=tb t.data.toList;have HTt:=Um (show dA s.data.toList=t.data.toList from HTq.o);go_wp2_with fail;refine(kU t _ (by omega)).mono ?_;rintro e w1 ⟨⟨g,cap,rfl,hO⟩,hB⟩;have hcell:=hO.cell ((dB 47 t.data.toList).length-1) (by omega);have hlast:(dB 47 t.data.toList)[(dB 47 t.data.toList).length-1]'(by omega)=eD (dA s.data.toList):=by
     rw[HTt.o];rw[List.getLast?_eq_getElem?,List.getElem?_eq_getElem (by omega)] at hsl;exact Option.some.inj hsl
    rw[hlast] at hcell;have hL:=Um (show iN s.data.toList=if eD (dA s.data.toList)=[46]∨eD (dA s.data.toList)=[46,46] then[] else eD (dA s.data.toList) from rfl);clear hlast hO hsl;obtain⟨QK,mC⟩:=hsp;have Pn:(dB 47 t.data.toList).length≤10000000:=by
     have:t.data.toList.length=t.size:=Array.length_toList;omega
    clear mC;generalize (dB 47 t.data.toList).length=m at hcell QK Pn;generalize eD (dA s.data.toList)=X at hcell hL;by_cases e1:X=[46]
    ·subst e1;have hb:((str [46]).toList==[46])=true:=by rw[aC,aH];rfl
     go_wp2_with fail;go_ret;exact⟨by rw[hL.out];rfl,hB⟩
    ·by_cases e2:X=[46,46]
     ·subst e2;have hb:((str [46,46]).toList==[46])=false:=by rw[aC,aH];rfl
      have aD:((str [46,46]).toList==[46,46])=true:=by rw[aC,aH];rfl
      go_wp2_with fail;go_ret;exact⟨by rw[hL.out];rfl,hB⟩
     ·have hb:((str X).toList==[46])=false:=by rw[aC,aH];simpa using e1
      have aD:((str X).toList==[46,46])=false:=by rw[aC,aH];simpa using e2
      have S6:=Um (show iN s.data.toList=X by rw[hL.out,if_neg (by rintro(h|h);exact e1 h;exact e2 h)]);clear e1 e2;go_wp2_with fail;go_ret;exact⟨by rw[S6.out];rfl,hB⟩
end
section
open Go.RowKit
def wu(cu cg uid gid mode want:Int):Bool:=
 if cu=0 then true else
  (bits .and .i64 (bits .and .i64 (if cu=uid then mode / 64 else if cg=gid then mode / 8 else mode) want) 7==bits .and .i64 want 7)
structure Cr where
 u:Int
 g:Int
def An.may(a:An)(c:Cr)(want:Int):Bool:=wu c.u c.g a.uid a.gid a.mode want
def j2(c:Cr)(a:An):Bool:=(c.u==0)||(c.u==a.uid)
def LI(u g:Int):Bool:=decide (0≤u∧u≤2147483648∧0≤g∧g≤2147483648)
def Fs.dev(S:Fs)(d:Int):Option Dv:=if 1≤d then S.ds[(d-1).toNat]? else none
def Fs.aR(S:Fs)(d:Int)(v:Dv):Fs:={S with ds:=S.ds.set (d-1).toNat v}
def Fs.aF(S:Fs)(over blocks nodes:Int):Fs:=
 {ns:=S.ns++[{dh with no:=S.last+1,dev:=S.ds.length+1,kind:=1,mode:=493,an:=1,up:=S.last+1}]
  ds:=S.ds++[⟨S.last+1,over,1,1,blocks,nodes⟩]
  last:=S.last+1}
def sK:Fs:=⟨[],[],0⟩
def Fs.cn(S:Fs)(k blocks nodes:Int):Fs×Int×Int:=
 match S.get k with
 |none=>(S,0,5)
 |some a=>
  if a.kind≠1 then(S,0,9)
  else if S.over k≠k∨S.root a.dev=k then(S,0,16)
  else if 8≤S.ds.length∨hU blocks nodes=false then(S,0,3)
  else(S.aF k blocks nodes,S.last+1,0)
def Fs.aQ(S:Fs)(k:Int):Int:=
 match S.get k with
 |none=>0
 |some a=>
  if a.kind≠1 then 0
  else if S.root a.dev=k∧1<a.dev then
   (match S.dev a.dev with
    |none=>0
    |some v=>match S.get v.over with|none=>0|some b=>b.up)
  else a.up
def Fs.make(S:Fs)(a:An):Fs×Int×Int:=
 if S.root a.dev=0 then(S,0,1) else
 match S.dev a.dev with
 |none=>(S,0,1)
 |some v=>
  let e:=gZ v.b v.n v.mb v.mn (bR a.kind a.data.size) 1
  if e=0 then(((S.aR a.dev {v with b:=v.b+bR a.kind a.data.size,n:=v.n+1}).add a),S.last+1,0)
  else(S,0,e)
def bE(l:List UInt8):List (List UInt8):=(dB 47 l).filter fun p=>!(p==[]) && !(p==[46])
def eT(l:List UInt8):Bool:=eD l==[]||eD l==[46]||eD l==[46,46]
structure Fd where
 dir:Int
 name:ByteArray
 no:Int
 zX:Bool
def gC:Fd:=⟨0,ByteArray.empty,0,false⟩
def Fs.step(S:Fs)(c:Cr)(at':Int)(p:List UInt8):Int×Int:=
 match S.get at' with
 |none=>(0,9)
 |some d=>
  if d.kind≠1 then(0,9)
  else if d.may c 1=false then(0,6)
  else if p=[46,46] then(S.aQ at',0)
  else if 255<p.length then(0,13)
  else(S.over (aN d.aB (str p)),0)
def Fs.cy(S:Fs)(c:Cr)(follow:Bool)(k:Option (Int→Bool→List (List UInt8)→Fd×Int)):List (List UInt8)→Int→Bool→Fd×Int
 | [],at',_=>(⟨0,ByteArray.empty,at',true⟩,0)
 |p::l,at',must=>
  let r:=S.step c at' p
  if r.2≠0 then(gC,r.2)
  else if p=[46,46] then S.cy c follow k l r.1 must
  else match S.get r.1 with
  |none=>if l=[] then(⟨at',str p,0,must⟩,0) else(gC,5)
  |some n=>
   if n.kind=3∧(l≠[]∨must=true∨follow=true) then
    (match k with
     |none=>(gC,12)
     |some k=>
      if n.data.data.toList=[] then(gC,5)
      else k (if n.data.data.toList.head?=some 47 then 1 else at') (if l=[] then must||eT n.data.data.toList else must) (bE n.data.data.toList++l))
   else if n.kind≠1∧(l≠[]∨must=true) then(gC,9)
   else if l=[] then(⟨at',str p,r.1,must⟩,0)
   else S.cy c follow k l r.1 must
def Fs.eO(S:Fs)(c:Cr)(follow:Bool):Nat→Int→Bool→List (List UInt8)→Fd×Int
 |0,at',must,l=>S.cy c follow none l at' must
 |h+1,at',must,l=>S.cy c follow (some (S.eO c follow h)) l at' must
def Fs.path(S:Fs)(c:Cr)(s:ByteArray)(follow:Bool):Fd×Int:=
 if ed s≠0 then(gC,ed s) else S.eO c follow 8 1 (eT s.data.toList) (bE s.data.toList)
def dD(s:ByteArray):Int:=
 if s.data.toList=[]∨s.data.toList=[46]∨s.data.toList=[46,46]∨(47:UInt8)∈s.data.toList∨(0:UInt8)∈s.data.toList then 1 else if 255<s.size then 13 else 0
def Fs.aW(S:Fs)(c:Cr)(dir:Int)(s:ByteArray):Int:=
 match S.get dir with
 |none=>5
 |some d=>if d.kind≠1 then 9 else if dD s≠0 then dD s else if d.may c 3=false then 6 else 0
def Fs.dk(S:Fs)(now dir:Int)(l:List En):Fs:=
 match S.get dir with
 |none=>S
 |some d=>S.set {d with aB:=l,mtime:=now,ctime:=now}
def Fs.cS(S:Fs)(c:Cr)(now dir:Int)(s:ByteArray)(a:An):Fs×Int×Int:=
 if S.aW c dir s≠0 then(S,0,S.aW c dir s) else
 match S.get dir with
 |none=>(S,0,5)
 |some d=>
  if aN d.aB s≠0 then(S,0,7)
  else
   let r:=S.make {a with dev:=d.dev,uid:=c.u,gid:=c.g,mtime:=now,ctime:=now,an:=1}
   if r.2.2≠0 then(S,0,r.2.2)
   else(r.1.dk now dir (dy d.aB s r.2.1),r.2.1,0)
def Fs.br(S:Fs)(c:Cr)(now dir:Int)(s:ByteArray)(mode:Int):Fs×Int×Int:=
 if mode<0∨1023<mode then(S,0,1) else S.cS c now dir s {dh with kind:=1,mode:=mode,up:=dir}
def Fs.file(S:Fs)(c:Cr)(now dir:Int)(s:ByteArray)(mode:Int)(data:ByteArray):Fs×Int×Int:=
 if mode<0∨1023<mode then(S,0,1) else if 1048576<data.size then(S,0,3) else S.cS c now dir s {dh with kind:=2,mode:=mode,data:=data}
def Fs.sym(S:Fs)(c:Cr)(now dir:Int)(s text:ByteArray):Fs×Int×Int:=
 if text.data.toList=[]∨(0:UInt8)∈text.data.toList then(S,0,1) else if 4096<text.size then(S,0,13) else S.cS c now dir s {dh with kind:=3,mode:=511,data:=text}
def Fs.eL(S:Fs)(c:Cr)(now no dir:Int)(s:ByteArray):Fs×Int:=
 if S.aW c dir s≠0 then(S,S.aW c dir s) else
 match S.get dir,S.get no with
 |some d,some n=>
  if n.kind=1 then(S,4)
  else if aN d.aB s≠0 then(S,7)
  else if n.dev≠d.dev then(S,11)
  else if 1000≤n.an then(S,18)
  else((S.set {n with an:=n.an+1,ctime:=now}).dk now dir (dy d.aB s no),0)
 |_,_=>(S,5)
def Fs.cL(S:Fs)(c:Cr)(now no mode:Int):Fs×Int:=
 match S.get no with
 |none=>(S,5)
 |some n=>if j2 c n=false then(S,4) else if mode<0∨1023<mode∨n.kind=3 then(S,1) else(S.set {n with mode:=mode,ctime:=now},0)
def Fs.cU(S:Fs)(c:Cr)(now no u g:Int):Fs×Int:=
 match S.get no with
 |none=>(S,5)
 |some n=>if j2 c n=false then(S,4) else if c.u≠0 then(S,4) else if LI u g=false then(S,1) else(S.set {n with uid:=u,gid:=g,ctime:=now},0)
def Fs.cQ(S:Fs)(c:Cr)(now no t:Int):Fs×Int:=
 match S.get no with
 |none=>(S,5)
 |some n=>if j2 c n=false then(S,4) else if t<0∨253402300799<t then(S,1) else(S.set {n with mtime:=t,ctime:=now},0)
structure Sy where
 fs:Fs
 now:Int
 count:Int
 bD:List (Int×Int)
 dead:Bool
def Sy.change(Y:Sy):Sy×Int:=
 if Y.dead then(Y,20) else
 match Y.bD.find? (fun x=>x.1==Y.count+1) with
 |none=>({Y with count:=Y.count+1},0)
 |some x=>({Y with count:=Y.count+1,dead:=x.2==20},x.2)
end
section
open Go.RowKit
theorem Eh(l:List En)(n:ByteArray)(no:Int)(h:mT l):(dy l n no).length≤l.length+1:=by
 rw[Jb h,List.length_append,List.length_take,List.length_cons,List.length_drop];have:=uF l n;omega
structure vM(a:An)(D N:Nat):Prop where
 hH:mT a.aB
 BB:a.aB.length≤N
 dev:1≤a.dev∧a.dev≤D
 an:0≤a.an∧a.an≤1000
 data:a.data.size≤1048576
 mode:0≤a.mode∧a.mode≤1023
 kind:1≤a.kind∧a.kind≤3
 nz:∀x∈a.aB,1≤x.no
 sy:a.kind=3→a.data.size≤4096
theorem Ja{l:List En}(h:∀x∈l,1≤x.no)(n:ByteArray){no:Int}(hn:1≤no):∀x∈dy l n no,1≤x.no:=by
 intro x hx;unfold dy at hx;rcases List.mem_append.1 hx with hx|hx
 ·exact h x (List.mem_filter.1 hx).1
 ·rcases List.mem_cons.1 hx with rfl|hx
  ·exact hn
  ·exact h x (List.mem_filter.1 hx).1
structure av(S:Fs)(N:Nat):Prop where
 nums:gY S
 l0:0≤S.last
 lN:S.last≤N
 all:∀a∈S.ns,vM a S.ds.length N
 d1:1≤S.ds.length
 d8:S.ds.length≤8
 root:∀d∈S.ds,1≤d.root∧d.root≤S.last
theorem vM.mono{a:An}{D D' N N':Nat}(h:vM a D N)(hD:D≤D')(hN:N≤N'):vM a D' N':=
 ⟨h.hH,ae h.BB hN,⟨h.dev.1,by have:=h.dev.2;omega⟩,h.an,h.data,h.mode,h.kind,h.nz,h.sy⟩
theorem av.mono{S:Fs}{N N':Nat}(h:av S N)(hN:N≤N'):av S N':=
 ⟨h.nums,h.l0,by have:=h.lN;omega,fun a ha=>(h.all a ha).mono (aa _) hN,h.d1,h.d8,h.root⟩
theorem av.get{S:Fs}{N:Nat}(h:av S N){k:Int}{a:An}(hg:S.get k=some a):vM a S.ds.length N∧a.no=k∧1≤k∧k≤S.last:=by
 have hm:=cx hg;have hn:=dx hg;have:=h.nums.low a hm;exact⟨h.all a hm,hn,by omega,by omega⟩
theorem av.set{S:Fs}{N:Nat}(h:av S N){a:An}(ha:vM a S.ds.length N):av (S.set a) N:=by
 refine⟨h.nums.set a,h.l0,h.lN,fun x hx=>?_,h.d1,h.d8,h.root⟩;unfold Fs.set at hx;simp only[List.mem_map] at hx;obtain⟨y,hy,rfl⟩:=hx
 split
 ·exact ha
 ·exact h.all y hy
theorem av.add{S:Fs}{N:Nat}(h:av S N){a:An}(ha:vM a S.ds.length (N+1)):av (S.add a) (N+1):=by
 refine⟨h.nums.add h.l0 a,?_,?_,fun x hx=>?_,h.d1,h.d8,fun d hd=>?_⟩
 ·show 0≤S.last+1;have:=h.l0;omega
 ·show S.last+1≤((N+1:Nat):Int);have:=h.lN;omega
 ·rcases List.mem_append.1 hx with hx|hx
  ·exact(h.all x hx).mono (aa _) (by omega)
  ·simp at hx;subst hx;exact⟨ha.hH,ha.BB,ha.dev,ha.an,ha.data,ha.mode,ha.kind,ha.nz,ha.sy⟩
 ·have:=h.root d hd;show 1≤d.root∧d.root≤S.last+1;omega
theorem av.aR{S:Fs}{N:Nat}(h:av S N){d:Int}{v u:Dv}(hv:S.dev d=some v)(hu:u.root=v.root):av (S.aR d u) N:=by
 unfold Fs.dev at hv
 split at hv
 ·refine⟨⟨h.nums.hH,h.nums.low⟩,h.l0,h.lN,fun a ha=>?_,?_,?_,fun x hx=>?_⟩
  ·unfold Fs.aR;simp only[List.length_set];exact h.all a ha
  ·unfold Fs.aR;simp only[List.length_set];exact h.d1
  ·unfold Fs.aR;simp only[List.length_set];exact h.d8
  ·rcases List.mem_or_eq_of_mem_set hx with hx|rfl
   ·exact h.root x hx
   ·rw[hu];exact h.root v (List.mem_of_getElem? hv)
 ·cases hv
theorem q'{S:Fs}{d:Int}(h1:1≤d)(h2:d≤S.ds.length):∃v,S.dev d=some v∧S.ds[(d-1).toNat]?=some v:=by
 unfold Fs.dev;rw[if_pos h1];have:(d-1).toNat<S.ds.length:=by omega
 exact⟨_,List.getElem?_eq_getElem this,List.getElem?_eq_getElem this⟩
theorem kO{S:Fs}{N:Nat}(h:av S N){d:Int}(h1:1≤d)(h2:d≤S.ds.length):∃v,S.dev d=some v∧S.root d=v.root∧1≤v.root∧v∈S.ds:=by
 obtain⟨v,hv,hg⟩:=q' h1 h2;refine⟨v,hv,?_,(h.root v (List.mem_of_getElem? hg)).1,List.mem_of_getElem? hg⟩;unfold Fs.root;rw[if_pos ⟨h1,h2⟩,hg]
theorem ni{S:Fs}{d:Int}(h:¬(1≤d∧d≤S.ds.length)):S.root d=0:=by
 unfold Fs.root;rw[if_neg h]
theorem Ak:mT []:=List.Pairwise.nil
theorem av.aF{S:Fs}{N:Nat}(hn:gY S)(l0:0≤S.last)(lN:S.last≤N)(hall:∀a∈S.ns,vM a S.ds.length N)(d8:S.ds.length≤7)(hroot:∀d∈S.ds,1≤d.root∧d.root≤S.last)(over b n:Int):av (S.aF over b n) (N+1):=by
 refine⟨?_,?_,?_,fun x hx=>?_,?_,?_,fun d hd=>?_⟩
 ·have:=hn.add l0 {dh with dev:=S.ds.length+1,kind:=1,mode:=493,an:=1,up:=S.last+1};exact⟨this.hH,this.low⟩
 ·show 0≤S.last+1;omega
 ·show S.last+1≤((N+1:Nat):Int);omega
 ·show vM x (S.ds++[_]).length (N+1);rw[List.length_append,List.length_singleton];rcases List.mem_append.1 hx with hx|hx
  ·exact(hall x hx).mono (by omega) (by omega)
  ·simp at hx;subst hx;exact⟨Ak,Nat.zero_le _,⟨by show 1≤(S.ds.length:Int)+1;omega,by show(S.ds.length:Int)+1≤((S.ds.length+1:Nat):Int);omega⟩,⟨by dsimp only;decide,by dsimp only;decide⟩,by show(0:Nat)≤_;omega,⟨by dsimp only;decide,by dsimp only;decide⟩,⟨by dsimp only;decide,by dsimp only;decide⟩,fun x hx=>(by simp[dh] at hx),fun h=>absurd h (by dsimp only;decide)⟩
 ·show 1≤(S.ds++[_]).length;rw[List.length_append,List.length_singleton];omega
 ·show(S.ds++[_]).length≤8;rw[List.length_append,List.length_singleton];omega
 ·show 1≤d.root∧d.root≤S.last+1;rcases List.mem_append.1 hd with hd|hd
  ·have:=hroot d hd;omega
  ·simp at hd;subst hd;simp;omega
theorem av.new(b n:Int):av (sK.aF 0 b n) 1:=
 av.aF (S:=sK) (N:=0) ⟨List.Pairwise.nil,fun x hx=>by simp[sK] at hx⟩ (by decide) (by decide) (fun x hx=>by simp[sK] at hx) (by decide) (fun x hx=>by simp[sK] at hx) 0 b n
theorem av.cn{S:Fs}{N:Nat}(h:av S N)(k b n:Int):av (S.cn k b n).1 (N+1):=by
 have h1:=h.mono (Nat.le_succ N);unfold Fs.cn
 split
 ·exact h1
 ·split
  ·exact h1
  ·split
   ·exact h1
   ·split
    ·exact h1
    ·rename_i hd;exact av.aF h.nums h.l0 h.lN h.all (by omega) h.root k b n
theorem av.make{S:Fs}{N:Nat}(h:av S N){a:An}(ha:vM a S.ds.length (N+1)):av (S.make a).1 (N+1):=by
 have h1:=h.mono (Nat.le_succ N);unfold Fs.make
 split
 ·exact h1
 ·split
  ·exact h1
  ·rename_i v hv;simp only
   split
   ·have h2:=h.aR (u:={v with b:=v.b+bR a.kind a.data.size,n:=v.n+1}) hv rfl;exact h2.add (by unfold Fs.aR;simp only[List.length_set];exact ha)
   ·exact h1
theorem av.dk{S:Fs}{N:Nat}(h:av S N)(now dir:Int)(l:List En)(hl:mT l)(hN:l.length≤N)(hz:∀x∈l,1≤x.no):av (S.dk now dir l) N:=by
 unfold Fs.dk
 split
 ·exact h
 ·rename_i d hd;have:=h.get hd;exact h.set ⟨hl,hN,this.1.dev,this.1.an,this.1.data,this.1.mode,this.1.kind,hz,this.1.sy⟩
theorem MT{S:Fs}(h:0≤S.last)(a:An)(hz:(S.make a).2.2=0):1≤(S.make a).2.1:=by
 revert hz;unfold Fs.make
 split
 ·intro hz;cases hz
 ·split
  ·intro hz;cases hz
  ·simp only
   split
   ·intro _;show 1≤S.last+1;omega
   ·rename_i hz;intro fT;exact absurd fT hz
theorem yR{S:Fs}{N:Nat}(h:av S N){a:An}(c:Cr)(now dir:Int)(s:ByteArray)(hr:a.aB=[])(hd:a.data.size≤1048576)(hm:0≤a.mode∧a.mode≤1023)(hk:1≤a.kind∧a.kind≤3)(hsy:a.kind=3→a.data.size≤4096):av (S.cS c now dir s a).1 (N+1):=by
 have h1:=h.mono (Nat.le_succ N);unfold Fs.cS
 split
 ·exact h1
 ·split
  ·exact h1
  ·rename_i d hg
   split
   ·exact h1
   ·obtain⟨hdo,-,-,-⟩:=h.get hg;have h2:=h.make (a:={a with dev:=d.dev,uid:=c.u,gid:=c.g,mtime:=now,ctime:=now,an:=1}) ⟨by rw[show({a with dev:=d.dev,uid:=c.u,gid:=c.g,mtime:=now,ctime:=now,an:=1}:An).aB=a.aB from rfl,hr];exact Ak,by show a.aB.length≤N+1;rw[hr];exact Nat.zero_le _,hdo.dev,⟨by dsimp only;decide,by dsimp only;decide⟩,hd,hm,hk,fun x hx=>(by rw[show({a with dev:=d.dev,uid:=c.u,gid:=c.g,mtime:=now,ctime:=now,an:=1}:An).aB=a.aB from rfl,hr] at hx;cases hx),hsy⟩;simp only
    split
    ·exact h1
    ·refine h2.dk _ _ _ (Aj hdo.hH _ _) ?_ (Ja hdo.nz _ (MT h.l0 _ (by rename_i hz;simpa using hz)));have:=Eh d.aB s (S.make {a with dev:=d.dev,uid:=c.u,gid:=c.g,mtime:=now,ctime:=now,an:=1}).2.1 hdo.hH;have:=hdo.BB;omega
theorem jE{S:Fs}{N:Nat}(h:av S N)(c:Cr)(now dir:Int)(s:ByteArray)(m:Int):av (S.br c now dir s m).1 (N+1):=by
 unfold Fs.br
 split
 ·exact h.mono (Nat.le_succ N)
 ·exact yR h c now dir s rfl (by show(0:Nat)≤1048576;decide) ⟨by show 0≤m;omega,by show m≤1023;omega⟩ ⟨by dsimp only;decide,by dsimp only;decide⟩ (fun h=>absurd h (by dsimp only;decide))
theorem EL{S:Fs}{N:Nat}(h:av S N)(c:Cr)(now dir:Int)(s:ByteArray)(m:Int)(t:ByteArray):av (S.file c now dir s m t).1 (N+1):=by
 unfold Fs.file
 split
 ·exact h.mono (Nat.le_succ N)
 ·split
  ·exact h.mono (Nat.le_succ N)
  ·exact yR h c now dir s rfl (by show t.size≤_;omega) ⟨by show 0≤m;omega,by show m≤1023;omega⟩ ⟨by show(1:Int)≤2;decide,by show(2:Int)≤3;decide⟩ (fun h=>absurd h (by dsimp only;decide))
theorem O0{S:Fs}{N:Nat}(h:av S N)(c:Cr)(now dir:Int)(s t:ByteArray):av (S.sym c now dir s t).1 (N+1):=by
 unfold Fs.sym
 split
 ·exact h.mono (Nat.le_succ N)
 ·split
  ·exact h.mono (Nat.le_succ N)
  ·exact yR h c now dir s rfl (by show t.size≤_;omega) ⟨by show(0:Int)≤511;decide,by show(511:Int)≤1023;decide⟩ ⟨by show(1:Int)≤3;decide,by show(3:Int)≤3;decide⟩ (fun _=>by show t.size≤4096;omega)
theorem Nr{S:Fs}{N:Nat}(h:av S N)(c:Cr)(now no dir:Int)(s:ByteArray):av (S.eL c now no dir s).1 (N+1):=by
 have h1:=h.mono (Nat.le_succ N);unfold Fs.eL
 split
 ·exact h1
 ·split
  ·rename_i d n hd hn
   split
   ·exact h1
   ·split
    ·exact h1
    ·split
     ·exact h1
     ·split
      ·exact h1
      ·obtain⟨ho,-,-,-⟩:=h.get hd;obtain⟨hm,-,-,-⟩:=h.get hn;have eR:=hm.mono (aa _) (Nat.le_succ N);refine av.dk (h1.set (a:={n with an:=n.an+1,ctime:=now}) ⟨eR.hH,eR.BB,eR.dev,⟨by have:=eR.an.1;show 0≤n.an+1;omega,by show n.an+1≤1000;omega⟩,eR.data,eR.mode,eR.kind,eR.nz,eR.sy⟩) _ _ _ (Aj ho.hH _ _) ?_ (Ja ho.nz _ (h.get hn).2.2.1);have:=Eh d.aB s no ho.hH;have:=ho.BB;omega
  ·exact h1
theorem KX{S:Fs}{N:Nat}(h:av S N)(c:Cr)(now no m:Int):av (S.cL c now no m).1 N:=by
 unfold Fs.cL
 split
 ·exact h
 ·rename_i n hn
  split
  ·exact h
  ·split
   ·exact h
   ·obtain⟨hm,-,-,-⟩:=h.get hn;exact h.set ⟨hm.hH,hm.BB,hm.dev,hm.an,hm.data,⟨by show 0≤m;omega,by show m≤1023;omega⟩,hm.kind,hm.nz,hm.sy⟩
theorem uN{S:Fs}{N:Nat}(h:av S N)(c:Cr)(now no u g:Int):av (S.cU c now no u g).1 N:=by
 unfold Fs.cU
 split
 ·exact h
 ·rename_i n hn
  split
  ·exact h
  ·split
   ·exact h
   ·split
    ·exact h
    ·obtain⟨hm,-,-,-⟩:=h.get hn;exact h.set ⟨hm.hH,hm.BB,hm.dev,hm.an,hm.data,hm.mode,hm.kind,hm.nz,hm.sy⟩
theorem IB{S:Fs}{N:Nat}(h:av S N)(c:Cr)(now no t:Int):av (S.cQ c now no t).1 N:=by
 unfold Fs.cQ
 split
 ·exact h
 ·rename_i n hn
  split
  ·exact h
  ·split
   ·exact h
   ·obtain⟨hm,-,-,-⟩:=h.get hn;exact h.set ⟨hm.hH,hm.BB,hm.dev,hm.an,hm.data,hm.mode,hm.kind,hm.nz,hm.sy⟩
end
section
open Go.RowKit
structure Mt where
 path:ByteArray
 b:Int
 n:Int
structure It where
 path:ByteArray
 kind:Int
 mode:Int
 uid:Int
 gid:Int
 mtime:Int
 data:ByteArray
def jy:ByteArray:=⟨#[47]⟩
def bQ:Cr:=⟨0,0⟩
def aS:List Mt→Int×Int
 | []=>(65536,65536)
 |m::l=>if m.path=jy∧hU m.b m.n=true then(m.b,m.n) else aS l
theorem qJ:∀l:List Mt,hU (aS l).1 (aS l).2=true
 | []=>by decide
 |m::l=>by
  unfold aS
  split
  ·rename_i h;exact h.2
  ·exact qJ l
def Fs.kindOf(S:Fs)(k:Int):Int:=match S.get k with|none=>0|some a=>a.kind
def bT(S:Fs)(m:Mt):Fs:=
 if(S.path bQ m.path false).2≠0 then S
 else if(S.path bQ m.path false).1.no=0 then
  let q:=S.br bQ 0 (S.path bQ m.path false).1.dir (S.path bQ m.path false).1.name 493
  if q.2.2≠0 then q.1 else(q.1.cn q.2.1 m.b m.n).1
 else(S.cn (S.path bQ m.path false).1.no m.b m.n).1
def cm(S:Fs)(it:It):Fs×Int:=
 let x:=S.path bQ it.path false
 if x.2≠0 then(S,0)
 else if x.1.no≠0 then(if it.kind=1∧S.kindOf x.1.no=1 then(S,x.1.no) else(S,0))
 else if it.kind=1 then((S.br bQ 0 x.1.dir x.1.name 493).1,(S.br bQ 0 x.1.dir x.1.name 493).2.1)
 else if it.kind=2 then((S.file bQ 0 x.1.dir x.1.name 420 it.data).1,(S.file bQ 0 x.1.dir x.1.name 420 it.data).2.1)
 else if it.kind=3 then((S.sym bQ 0 x.1.dir x.1.name it.data).1,(S.sym bQ 0 x.1.dir x.1.name it.data).2.1)
 else if it.kind=4 then
  (if(S.path bQ it.data false).2=0 then((S.eL bQ 0 (S.path bQ it.data false).1.no x.1.dir x.1.name).1,0) else(S,0))
 else(S,0)
def ek(S:Fs)(it:It):Fs×Int:=
 let q:=cm S it
 if q.2≠0 then(((q.1.cU bQ 0 q.2 it.uid it.gid).1.cL bQ 0 q.2 it.mode).1,q.2) else q
def aX(S:Fs):List It→Fs×List Int
 | []=>(S,[])
 |it::l=>let q:=ek S it;let r:=aX q.1 l;(r.1,q.2::r.2)
def bS(S:Fs):List (It×Int)→Fs
 | []=>S
 |x::l=>bS (if x.2≠0 then(S.cQ bQ 0 x.2 x.1.mtime).1 else S) l
def aO(S:Fs):List Mt→Fs
 | []=>S
 |m::l=>aO (if m.path=jy then S else bT S m) l
def dS(ms:List Mt)(is:List It):Fs:=
 let S:=aO (sK.aF 0 (aS ms).1 (aS ms).2) ms
 let r:=aX S is
 bS r.1 (is.zip r.2)
theorem Dj(S:Fs)(a b:List It):aX S (a++b)=((aX (aX S a).1 b).1,(aX S a).2++(aX (aX S a).1 b).2):=by
 induction a generalizing S with
 |nil=>rfl
 |cons x a ih=>simp only[List.cons_append,aX,ih]
theorem k8(S:Fs)(a:List It):(aX S a).2.length=a.length:=by
 induction a generalizing S with
 |nil=>rfl
 |cons x a ih=>simp only[aX,List.length_cons,ih]
theorem Cz(S:Fs)(a b:List (It×Int)):bS S (a++b)=bS (bS S a) b:=by
 induction a generalizing S with
 |nil=>rfl
 |cons x a ih=>exact ih _
theorem AQ(S:Fs)(a b:List Mt):aO S (a++b)=aO (aO S a) b:=by
 induction a generalizing S with
 |nil=>rfl
 |cons x a ih=>exact ih _
theorem nx{S:Fs}{N:Nat}(h:av S N)(m:Mt):av (bT S m) (N+2):=by
 unfold bT
 split
 ·exact h.mono (by omega)
 ·split
  ·have h1:=jE h bQ 0 (S.path bQ m.path false).1.dir (S.path bQ m.path false).1.name 493;simp only
   split
   ·exact h1.mono (by omega)
   ·exact h1.cn _ _ _
  ·exact(h.cn _ _ _).mono (by omega)
theorem fF{S:Fs}{N:Nat}(h:av S N)(l:List Mt):av (aO S l) (N+2*l.length):=by
 induction l generalizing S N with
 |nil=>exact h
 |cons m l ih=>
  unfold aO;have h1:av (if m.path=jy then S else bT S m) (N+2):=by
   split
   ·exact h.mono (by omega)
   ·exact nx h m
  exact(ih h1).mono (by simp;omega)
theorem tT{S:Fs}{N:Nat}(h:av S N)(it:It):av (cm S it).1 (N+1):=by
 have h1:=h.mono (Nat.le_succ N);unfold cm;simp only
 split
 ·exact h1
 ·split
  ·split<;>exact h1
  ·split
   ·exact jE h _ _ _ _ _
   ·split
    ·exact EL h _ _ _ _ _ _
    ·split
     ·exact O0 h _ _ _ _ _
     ·split
      ·split
       ·exact Nr h _ _ _ _ _
       ·exact h1
      ·exact h1
theorem JV{S:Fs}{N:Nat}(h:av S N)(it:It):av (ek S it).1 (N+1):=by
 have h1:=tT h it;unfold ek;simp only
 split
 ·exact KX (uN h1 _ _ _ _ _) _ _ _ _
 ·exact h1
theorem jt{S:Fs}{N:Nat}(h:av S N)(l:List It):av (aX S l).1 (N+l.length):=by
 induction l generalizing S N with
 |nil=>exact h
 |cons m l ih=>
  unfold aX;exact(ih (JV h m)).mono (by simp;omega)
theorem qw{S:Fs}{N:Nat}(h:av S N)(l:List (It×Int)):av (bS S l) N:=by
 induction l generalizing S with
 |nil=>exact h
 |cons m l ih=>
  unfold bS;apply ih
  split
  ·exact IB h _ _ _ _
  ·exact h
theorem Jl(ms:List Mt)(is:List It):av (dS ms is) (1+2*ms.length+is.length):=by
 unfold dS;exact qw (jt (fF (av.new _ _) _) _) _
end
section
open Go.RowKit
def uZ(s:ByteArray):Prop:=s≠ByteArray.empty∧s.size≤255
structure Pl(S:Fs):Prop where
 len:(S.ns.length:Int)=S.last
 names:∀a∈S.ns,∀x∈a.aB,uZ x.name
 up:∀a∈S.ns,a.kind=1→(S.root a.dev=a.no∧a.up=a.no)∨(S.root a.dev≠a.no∧1≤a.up∧a.up<a.no)
 top:S.root 1=1
 one:∃a,S.get 1=some a∧a.kind=1
 over:∀(i:Nat) (hi:i<S.ds.length),1≤i→∃b,S.get S.ds[i].over=some b∧b.kind=1∧S.ds[i].over<S.ds[i].root
theorem BU{S:Fs}{N:Nat}(hk:av S N)(h:Pl S){no:Int}{a:An}(hg:S.get no=some a)(hd:a.kind=1)(h1:no≠1):1≤S.aQ no∧S.aQ no<no:=by
 obtain⟨ho,hn,hl,-⟩:=hk.get hg;have hup:=h.up a (cx hg) hd;unfold Fs.aQ;rw[hg];simp only;rw[if_neg (by simpa using hd)];by_cases hr:S.root a.dev=no∧1<a.dev
 ·rw[if_pos hr];obtain⟨v,hv,hvg⟩:=q' ho.dev.1 ho.dev.2;obtain⟨v2,qM,hrt,-,-⟩:=kO hk ho.dev.1 ho.dev.2;rw[hv] at qM;injection qM with qM;subst qM;have hi:(a.dev-1).toNat<S.ds.length:=(List.getElem?_eq_some_iff.1 hvg).1;obtain⟨b,hb,hbk,hlt⟩:=h.over _ hi (by omega);have hvi:S.ds[(a.dev-1).toNat]=v:=(List.getElem?_eq_some_iff.1 hvg).2;rw[hvi] at hb hlt;rw[hv];simp only;rw[hb];simp only;have hbn:=dx hb;have h3:=(hk.get hb).2.2.1;rcases h.up b (cx hb) hbk with⟨-,h2⟩|⟨-,h2,h4⟩
  ·have:=hr.1;omega
  ·have:=hr.1;omega
 ·rw[if_neg hr];rcases hup with⟨h2,h3⟩|⟨-,h2,h3⟩
  ·exfalso;have h4:a.dev=1:=by
    have:=ho.dev.1;by_cases h5:1<a.dev
    ·exact absurd ⟨h2.trans hn,h5⟩ hr
    ·omega
   rw[h4,h.top] at h2;omega
  ·omega
theorem lC{S:Fs}{no:Int}(hg:S.get no=none):S.aQ no=0:=by unfold Fs.aQ;rw[hg]
theorem uX{S:Fs}{no:Int}{a:An}(hg:S.get no=some a)(hd:a.kind≠1):S.aQ no=0:=by
 unfold Fs.aQ;rw[hg];simp only;rw[if_pos hd]
theorem xE{S:Fs}{N:Nat}(hk:av S N)(h:Pl S){a:An}(hg:S.get 1=some a)(hd:a.kind=1):S.aQ 1=1:=by
 obtain⟨ho,hn,-,-⟩:=hk.get hg;unfold Fs.aQ;rw[hg];simp only;rw[if_neg (by simpa using hd)];have hno:¬(S.root a.dev=1∧1<a.dev):=by
  rintro⟨h1,h2⟩;obtain⟨v,hv,hvg⟩:=q' ho.dev.1 ho.dev.2;obtain⟨v2,qM,hrt,-,-⟩:=kO hk ho.dev.1 ho.dev.2;rw[hv] at qM;injection qM with qM;subst qM;have hi:(a.dev-1).toNat<S.ds.length:=(List.getElem?_eq_some_iff.1 hvg).1;obtain⟨b,hb,-,hlt⟩:=h.over _ hi (by omega);rw[show S.ds[(a.dev-1).toNat]=v from(List.getElem?_eq_some_iff.1 hvg).2] at hb hlt;have:=(hk.get hb).2.2.1;omega
 rw[if_neg hno];rcases h.up a (cx hg) hd with⟨-,h2⟩|⟨-,h2,h3⟩
 ·rw[h2,hn]
 ·omega
theorem Pl.set{S:Fs}(h:Pl S){a b:An}(hb:S.get a.no=some b)(hk:a.kind=b.kind)(hd:a.dev=b.dev)(hu:a.up=b.up)(hn:∀x∈a.aB,uZ x.name):Pl (S.set a):=by
 refine⟨?_,fun y hy=>?_,fun y hy hyk=>?_,h.top,?_,fun i hi h1=>?_⟩
 ·show((S.ns.map _).length:Int)=S.last;rw[List.length_map];exact h.len
 ·unfold Fs.set at hy;simp only[List.mem_map] at hy;obtain⟨z,hz,rfl⟩:=hy
  split
  ·exact hn
  ·exact h.names z hz
 ·unfold Fs.set at hy;simp only[List.mem_map] at hy;obtain⟨z,hz,rfl⟩:=hy;show(S.root _=_∧_)∨(S.root _≠_∧_)
  split at hyk
  ·rename_i he;rw[if_pos he];have hbn:=dx hb;have:=h.up b (cx hb) (by rw[←hk];exact hyk);rw[hd,hu,←hbn];exact this
  ·rename_i he;rw[if_neg he];exact h.up z hz hyk
 ·obtain⟨c,hc,h2⟩:=h.one;refine⟨if(1:Int)=a.no then a else c,?_,?_⟩
  ·rw[gX hb]
   split
   ·rfl
   ·exact hc
  ·split
   ·rename_i he;rw[he,hb] at hc;injection hc with hc;rw[hk,hc];exact h2
   ·exact h2
 ·obtain⟨c,hc,h2,h3⟩:=h.over i hi h1;refine⟨if S.ds[i].over=a.no then a else c,?_,?_,h3⟩
  ·show(S.set a).get S.ds[i].over=_;rw[gX hb]
   split
   ·rfl
   ·exact hc
  ·split
   ·rename_i he;rw[he,hb] at hc;injection hc with hc;rw[hk,hc];exact h2
   ·exact h2
theorem Pl.aR{S:Fs}(h:Pl S){d:Int}{v u:Dv}(hv:S.dev d=some v)(hr:u.root=v.root)(ho:u.over=v.over):Pl (S.aR d u):=by
 unfold Fs.dev at hv
 split at hv
 ·rename_i hd;have hi:=(List.getElem?_eq_some_iff.1 hv).1;have hvi:=(List.getElem?_eq_some_iff.1 hv).2;have hroot:∀e,(S.aR d u).root e=S.root e:=fun e=>by
   unfold Fs.root Fs.aR;simp only[List.length_set,List.getElem?_set]
   split
   ·rename_i he;by_cases hq:(d-1).toNat=(e-1).toNat
    ·rw[if_pos hq,←hq,hv]
     first|exact hr|(rw[if_pos hi];exact hr)
    ·rw[if_neg hq]
   ·rfl
  refine⟨h.len,h.names,fun y hy hk=>by rw[hroot];exact h.up y hy hk,by rw[hroot];exact h.top,h.one,fun i Dt h1=>?_⟩;have yw:i<S.ds.length:=by
   have:=Dt;unfold Fs.aR at this;simpa using this
  obtain⟨b,hb,h2,h3⟩:=h.over i yw h1;have he:(S.aR d u).ds[i]=if(d-1).toNat=i then u else S.ds[i]:=by
   exact List.getElem_set (l:=S.ds) (i:=(d-1).toNat) (a:=u) (j:=i) (by rw[List.length_set];exact yw)
  rw[he];by_cases hq:(d-1).toNat=i
  ·subst hq;rw[if_pos rfl,ho,hr,←hvi];exact⟨b,hb,h2,h3⟩
  ·rw[if_neg hq];exact⟨b,hb,h2,h3⟩
 ·cases hv
theorem ll{S:Fs}(h:gY S){k:Int}{b:An}(hb:S.get k=some b):k≤S.last:=by
 have h1:=dx hb;have h2:=h.low b (cx hb);omega
theorem Pl.add{S:Fs}{N:Nat}(hk:av S N)(h:Pl S){a:An}(he:a.aB=[])(hdv:1≤a.dev∧a.dev≤S.ds.length)(hu:a.kind=1→1≤a.up∧a.up≤S.last):Pl (S.add a):=by
 refine⟨?_,fun y hy=>?_,fun y hy hyk=>?_,h.top,?_,fun i hi h1=>?_⟩
 ·show((S.ns++[_]).length:Int)=S.last+1;rw[List.length_append,List.length_singleton];have:=h.len;omega
 ·rcases List.mem_append.1 hy with hy|hy
  ·exact h.names y hy
  ·simp at hy;subst hy;intro x hx;rw[show({a with no:=S.last+1}:An).aB=a.aB from rfl,he] at hx
   cases hx
 ·show(S.root _=_∧_)∨(S.root _≠_∧_);rcases List.mem_append.1 hy with hy|hy
  ·exact h.up y hy hyk
  ·simp at hy;subst hy;right;obtain⟨v,-,hrt,-,hm⟩:=kO hk hdv.1 hdv.2;have h2:=(hk.root v hm).2;have h3:=hu hyk;refine⟨?_,h3.1,?_⟩
   ·show S.root a.dev≠S.last+1;omega
   ·show a.up<S.last+1;omega
 ·obtain⟨c,hc,h2⟩:=h.one;refine⟨c,?_,h2⟩;rw[lB hk.nums,if_neg]
  ·exact hc
  ·have:=ll hk.nums hc;omega
 ·obtain⟨c,hc,h2,h3⟩:=h.over i hi h1;refine⟨c,?_,h2,h3⟩;show(S.add a).get S.ds[i].over=some c;rw[lB hk.nums,if_neg]
  ·exact hc
  ·have:=ll hk.nums hc;omega
theorem Pl.aF{S:Fs}{N:Nat}(hk:av S N)(h:Pl S){k:Int}{a:An}(hg:S.get k=some a)(hd:a.kind=1)(b n:Int):Pl (S.aF k b n):=by
 have hroot:∀e:Int,e≤S.ds.length→(S.aF k b n).root e=S.root e:=fun e he=>by
  unfold Fs.root Fs.aF;simp only[List.length_append,List.length_singleton];by_cases h1:(1:Int)≤e
  ·rw[if_pos ⟨h1,by omega⟩,if_pos ⟨h1,he⟩,List.getElem?_append_left (by omega)]
  ·rw[if_neg (fun h=>h1 h.1),if_neg (fun h=>h1 h.1)]
 have hrl:(S.aF k b n).root (S.ds.length+1)=S.last+1:=by
  unfold Fs.root Fs.aF;simp only[List.length_append,List.length_singleton];rw[if_pos ⟨by omega,by omega⟩,List.getElem?_append_right (by omega)];rw[show((S.ds.length:Int)+1-1).toNat-S.ds.length=0 by omega];rfl
 have hget:∀q c,S.get q=some c→(S.aF k b n).get q=some c:=fun q c hq=>by
  unfold Fs.get Fs.aF at *;simp only[List.find?_append,hq,Option.some_or]
 have dL:=hk.l0;have hgl:=ll hk.nums hg;refine⟨?_,fun y hy=>?_,fun y hy hyk=>?_,?_,?_,fun i hi h1=>?_⟩
 ·show((S.ns++[_]).length:Int)=S.last+1;rw[List.length_append,List.length_singleton];have:=h.len;omega
 ·rcases List.mem_append.1 hy with hy|hy
  ·exact h.names y hy
  ·simp at hy;subst hy;intro x hx;simp[dh] at hx
 ·rcases List.mem_append.1 hy with hy|hy
  ·rw[hroot _ (hk.all y hy).dev.2];exact h.up y hy hyk
  ·simp at hy;subst hy;left;exact⟨hrl,rfl⟩
 ·rw[hroot _ (by have:=hk.d1;omega)];exact h.top
 ·obtain⟨c,hc,h2⟩:=h.one;exact⟨c,hget _ _ hc,h2⟩
 ·by_cases Dt:i<S.ds.length
  ·obtain⟨c,hc,h2,h3⟩:=h.over i Dt h1;have he:(S.aF k b n).ds[i]=S.ds[i]:=List.getElem_append_left Dt;rw[he];exact⟨c,hget _ _ hc,h2,h3⟩
  ·have yw:i=S.ds.length:=by
    have h4:i<(S.ds++[(⟨S.last+1,k,1,1,b,n⟩:Dv)]).length:=hi;rw[List.length_append,List.length_singleton] at h4;omega
   subst yw;have he:(S.aF k b n).ds[S.ds.length]=⟨S.last+1,k,1,1,b,n⟩:=by
    have h5:(S.ds++[(⟨S.last+1,k,1,1,b,n⟩:Dv)])[S.ds.length]?=some ⟨S.last+1,k,1,1,b,n⟩:=by
     rw[List.getElem?_append_right (aa _)];simp
    exact(List.getElem?_eq_some_iff.1 h5).2
   rw[he];exact⟨a,hget _ _ hg,hd,by show k<S.last+1;omega⟩
theorem Pl.new(b n:Int):Pl (sK.aF 0 b n):=by
 refine⟨rfl,fun a ha=>?_,fun a ha _=>?_,rfl,⟨_,rfl,rfl⟩,fun i hi h1=>?_⟩
 ·simp[Fs.aF,sK] at ha;subst ha;intro x hx;simp[dh] at hx
 ·simp[Fs.aF,sK] at ha;subst ha;left;exact⟨rfl,rfl⟩
 ·have:i<1:=hi;omega
theorem Pl.make{S:Fs}{N:Nat}(hk:av S N)(h:Pl S){a:An}(he:a.aB=[])(hdv:1≤a.dev∧a.dev≤S.ds.length)(hu:a.kind=1→1≤a.up∧a.up≤S.last):Pl (S.make a).1:=by
 unfold Fs.make
 split
 ·exact h
 ·split
  ·exact h
  ·rename_i v hv;simp only
   split
   ·have h2:=h.aR (u:={v with b:=v.b+bR a.kind a.data.size,n:=v.n+1}) hv rfl rfl;have ig:=hk.aR (u:={v with b:=v.b+bR a.kind a.data.size,n:=v.n+1}) hv rfl;exact h2.add ig he (by unfold Fs.aR;simp only[List.length_set];exact hdv) hu
   ·exact h
theorem wk{l:List En}(h:∀x∈l,uZ x.name){s:ByteArray}(hs:uZ s)(no:Int):∀x∈dy l s no,uZ x.name:=by
 intro x hx;unfold dy at hx;rcases List.mem_append.1 hx with hx|hx
 ·exact h x (List.mem_filter.1 hx).1
 ·rcases List.mem_cons.1 hx with rfl|hx
  ·exact hs
  ·exact h x (List.mem_filter.1 hx).1
theorem Pl.dk{S:Fs}(h:Pl S)(now dir:Int)(l:List En)(hl:∀x∈l,uZ x.name):Pl (S.dk now dir l):=by
 unfold Fs.dk
 split
 ·exact h
 ·rename_i d hd;exact h.set (b:=d) (by show S.get d.no=_;rw[dx hd];exact hd) rfl rfl rfl hl
theorem BM{s:ByteArray}(h:dD s=0):uZ s:=by
 refine⟨?_,?_⟩
 ·rintro rfl;revert h;decide
 ·unfold dD at h
  split at h
  ·cases h
  ·split at h
   ·cases h
   ·omega
theorem eP{S:Fs}{c:Cr}{dir:Int}{s:ByteArray}(h:S.aW c dir s=0):∃d,S.get dir=some d∧d.kind=1∧dD s=0:=by
 unfold Fs.aW at h
 split at h
 ·cases h
 ·rename_i d hd
  split at h
  ·cases h
  ·rename_i hk
   split at h
   ·rename_i he;exact absurd h he
   ·rename_i he;exact⟨d,hd,by simpa using hk,by simpa using he⟩
theorem Ks{S:Fs}{N:Nat}(hk:av S N)(a:An){k:Int}{d:An}(hd:S.get k=some d):(S.make a).1.get k=some d:=by
 unfold Fs.make
 split
 ·exact hd
 ·split
  ·exact hd
  ·rename_i v hv;simp only
   split
   ·have ig:=hk.aR (u:={v with b:=v.b+bR a.kind a.data.size,n:=v.n+1}) hv rfl;rw[lB ig.nums,if_neg]
    ·exact hd
    ·have:=ll hk.nums hd;show¬k=S.last+1;omega
   ·exact hd
theorem Pl.cS{S:Fs}{N:Nat}(hk:av S N)(h:Pl S){a:An}(c:Cr)(now dir:Int)(s:ByteArray)(he:a.aB=[])(hu:a.kind=1→a.up=dir):Pl (S.cS c now dir s a).1:=by
 unfold Fs.cS
 split
 ·exact h
 ·rename_i hpl;obtain⟨d,hd,hdk,hce⟩:=eP (by simpa using hpl);rw[hd];simp only
  split
  ·exact h
  ·obtain⟨hdo,hdn,h1,h2⟩:=hk.get hd;have hm:=h.make hk (a:={a with dev:=d.dev,uid:=c.u,gid:=c.g,mtime:=now,ctime:=now,an:=1}) he hdo.dev (fun hq=>by
    have:=hu hq;show 1≤a.up∧a.up≤S.last;omega)
   split
   ·exact h
   ·exact hm.dk _ _ _ (wk (h.names d (cx hd)) (BM hce) _)
theorem Pl.br{S:Fs}{N:Nat}(hk:av S N)(h:Pl S)(c:Cr)(now dir:Int)(s:ByteArray)(m:Int):Pl (S.br c now dir s m).1:=by
 unfold Fs.br
 split
 ·exact h
 ·exact h.cS hk c now dir s rfl (fun _=>rfl)
theorem Pl.file{S:Fs}{N:Nat}(hk:av S N)(h:Pl S)(c:Cr)(now dir:Int)(s:ByteArray)(m:Int)(t:ByteArray):Pl (S.file c now dir s m t).1:=by
 unfold Fs.file
 split
 ·exact h
 ·split
  ·exact h
  ·exact h.cS hk c now dir s rfl (fun hq=>absurd hq (by dsimp only;decide))
theorem Pl.sym{S:Fs}{N:Nat}(hk:av S N)(h:Pl S)(c:Cr)(now dir:Int)(s t:ByteArray):Pl (S.sym c now dir s t).1:=by
 unfold Fs.sym
 split
 ·exact h
 ·split
  ·exact h
  ·exact h.cS hk c now dir s rfl (fun hq=>absurd hq (by dsimp only;decide))
theorem Pl.eL{S:Fs}{N:Nat}(hk:av S N)(h:Pl S)(c:Cr)(now no dir:Int)(s:ByteArray):Pl (S.eL c now no dir s).1:=by
 unfold Fs.eL
 split
 ·exact h
 ·rename_i hpl;obtain⟨d0,nQ,hdk,hce⟩:=eP (by simpa using hpl)
  split
  ·rename_i d n hd hn
   split
   ·exact h
   ·split
    ·exact h
    ·split
     ·exact h
     ·split
      ·exact h
      ·refine Pl.dk (h.set (a:={n with an:=n.an+1,ctime:=now}) (b:=n) (by show S.get n.no=_;rw[dx hn];exact hn) rfl rfl rfl (h.names n (cx hn))) _ _ _ (wk (h.names d (cx hd)) (BM hce) _)
  ·exact h
theorem Pl.cL{S:Fs}(h:Pl S)(c:Cr)(now no m:Int):Pl (S.cL c now no m).1:=by
 unfold Fs.cL
 split
 ·exact h
 ·rename_i n hn
  split
  ·exact h
  ·split
   ·exact h
   ·exact h.set (b:=n) (by show S.get n.no=_;rw[dx hn];exact hn) rfl rfl rfl (h.names n (cx hn))
theorem Pl.cU{S:Fs}(h:Pl S)(c:Cr)(now no u g:Int):Pl (S.cU c now no u g).1:=by
 unfold Fs.cU
 split
 ·exact h
 ·rename_i n hn
  split
  ·exact h
  ·split
   ·exact h
   ·split
    ·exact h
    ·exact h.set (b:=n) (by show S.get n.no=_;rw[dx hn];exact hn) rfl rfl rfl (h.names n (cx hn))
theorem Pl.cQ{S:Fs}(h:Pl S)(c:Cr)(now no t:Int):Pl (S.cQ c now no t).1:=by
 unfold Fs.cQ
 split
 ·exact h
 ·rename_i n hn
  split
  ·exact h
  ·split
   ·exact h
   ·exact h.set (b:=n) (by show S.get n.no=_;rw[dx hn];exact hn) rfl rfl rfl (h.names n (cx hn))
theorem Pl.cn{S:Fs}{N:Nat}(hk:av S N)(h:Pl S)(k b n:Int):Pl (S.cn k b n).1:=by
 unfold Fs.cn
 split
 ·exact h
 ·rename_i a ha
  split
  ·exact h
  ·rename_i hd
   split
   ·exact h
   ·split
    ·exact h
    ·exact h.aF hk ha (by simpa using hd) b n
theorem Pl.bT{S:Fs}{N:Nat}(hk:av S N)(h:Pl S)(m:Mt):Pl (bT S m):=by
 unfold Go.Proofs.YtinflmadpnigfaaGreatDoor.bT
 split
 ·exact h
 ·split
  ·have h1:=h.br hk bQ 0 (S.path bQ m.path false).1.dir (S.path bQ m.path false).1.name 493;have gP:=jE hk bQ 0 (S.path bQ m.path false).1.dir (S.path bQ m.path false).1.name 493;simp only
   split
   ·exact h1
   ·exact h1.cn gP _ _ _
  ·exact h.cn hk _ _ _
theorem Pl.aO{S:Fs}{N:Nat}(hk:av S N)(h:Pl S)(l:List Mt):Pl (aO S l):=by
 induction l generalizing S N with
 |nil=>exact h
 |cons m l ih=>
  unfold Go.Proofs.YtinflmadpnigfaaGreatDoor.aO;by_cases hm:m.path=jy
  ·rw[if_pos hm];exact ih hk h
  ·rw[if_neg hm];exact ih (nx hk m) (h.bT hk m)
theorem Pl.cm{S:Fs}{N:Nat}(hk:av S N)(h:Pl S)(it:It):Pl (cm S it).1:=by
 unfold Go.Proofs.YtinflmadpnigfaaGreatDoor.cm;simp only
 split
 ·exact h
 ·split
  ·split<;>exact h
  ·split
   ·exact h.br hk _ _ _ _ _
   ·split
    ·exact h.file hk _ _ _ _ _ _
    ·split
     ·exact h.sym hk _ _ _ _ _
     ·split
      ·split
       ·exact h.eL hk _ _ _ _ _
       ·exact h
      ·exact h
theorem Pl.ek{S:Fs}{N:Nat}(hk:av S N)(h:Pl S)(it:It):Pl (ek S it).1:=by
 unfold Go.Proofs.YtinflmadpnigfaaGreatDoor.ek;have h1:=h.cm hk it;simp only
 split
 ·exact(h1.cU _ _ _ _ _).cL _ _ _ _
 ·exact h1
theorem qL{S:Fs}{N:Nat}(h:av S N)(it:It):av (ek S it).1 (N+1):=by
 have:=jt h [it];exact this
theorem Pl.aX{S:Fs}{N:Nat}(hk:av S N)(h:Pl S)(l:List It):Pl (aX S l).1:=by
 induction l generalizing S N with
 |nil=>exact h
 |cons x l ih=>exact ih (qL hk x) (h.ek hk x)
theorem Pl.bS{S:Fs}(h:Pl S)(l:List (It×Int)):Pl (bS S l):=by
 induction l generalizing S with
 |nil=>exact h
 |cons x l ih=>
  unfold Go.Proofs.YtinflmadpnigfaaGreatDoor.bS;refine ih ?_
  split
  ·exact h.cQ _ _ _ _
  ·exact h
theorem Jk(ms:List Mt)(is:List It):Pl (dS ms is):=by
 unfold dS;simp only;have hk:=av.new (aS ms).1 (aS ms).2;exact Pl.bS (Pl.aX (fF hk ms) (Pl.aO hk (Pl.new _ _) ms) is) _
end
section
open Go.RowKit
def Fs.ew(S:Fs)(base:Int):Nat→Int→Bool
 |0,_=>false
 |n+1,no=>if no=0 then false else if no=base then true else S.ew base n (S.aQ no)
def Fs.within(S:Fs)(no base:Int):Bool:=S.ew base (S.ns.length+1) no
def Fs.busy(S:Fs)(no:Int):Bool:=(S.ds.drop 1).any (fun d=>S.within d.over no)
def cP(l:List En)(no:Int):Option ByteArray:=(l.find? (fun x=>x.no==no)).map (·.name)
def Fs.dg(S:Fs)(no:Int):List En:=match S.get no with|some a=>a.aB|none=>[]
def Fs.child(S:Fs)(no:Int):Int:=match S.get no with
 |none=>no
 |some a=>if S.root a.dev=no∧1<a.dev then(match S.dev a.dev with|some v=>v.over|none=>no) else no
def Fs.en(S:Fs):Nat→Int→ByteArray→Option ByteArray
 |0,_,_=>none
 |n+1,no,s=>if no=1 then some (if s.size=0 then jy else s) else match cP (S.dg (S.aQ no)) (S.child no) with
  |none=>none
  |some nm=>S.en n (S.aQ no) (jy++nm++s)
def Fs.fZ(S:Fs)(no:Int):Option ByteArray:=S.en (S.ns.length+1) no ByteArray.empty
theorem pY(x:En)(l:List En)(no:Int):cP (x::l) no=if x.no=no then some x.name else cP l no:=by
 unfold cP;rw[List.find?_cons];by_cases h:x.no=no
 ·rw[if_pos h,show(x.no==no)=true by simpa using h];rfl
 ·rw[if_neg h,show(x.no==no)=false by simpa using h]
theorem mL{l:List En}{no:Int}{s:ByteArray}(h:cP l no=some s):∃x∈l,x.name=s:=by
 unfold cP at h
 cases hf:l.find? (fun x=>x.no==no) with
 |none=>rw[hf] at h;cases h
 |some x=>
  rw[hf] at h;exact⟨x,List.mem_of_find?_eq_some hf,by simpa using h⟩
section
variable{S:Fs}{N:Nat}
theorem Bi(hk:av S N):S.get 0=none:=by
 cases h:S.get 0 with
 |none=>rfl
 |some a=>
  have:=(hk.get h).2.2.1;omega
theorem uW(hk:av S N):S.aQ 0=0:=lC (Bi hk)
theorem qV(hk:av S N):S.dg 0=[]:=by unfold Fs.dg;rw[Bi hk]
theorem jJ(hk:av S N)(h:Pl S){no:Int}(hne:S.aQ no≠no):S.aQ no=0∨(1≤S.aQ no∧S.aQ no<no∧no≤S.last∧no≠1):=by
 cases hg:S.get no with
 |none=>exact .inl (lC hg)
 |some a=>
  by_cases hd:a.kind=1
  ·by_cases h1:no=1
   ·subst h1;exact absurd (xE hk h hg hd) hne
   ·have:=BU hk h hg hd h1;exact .inr ⟨this.1,this.2,ll hk.nums hg,h1⟩
  ·exact .inl (uX hg hd)
theorem xG(hk:av S N)(h:Pl S){no:Int}(he:S.aQ no=no):no=0∨no=1:=by
 cases hg:S.get no with
 |none=>rw[lC hg] at he;exact .inl he.symm
 |some a=>
  by_cases hd:a.kind=1
  ·by_cases h1:no=1
   ·exact .inr h1
   ·have:=BU hk h hg hd h1;omega
  ·rw[uX hg hd] at he;exact .inl he.symm
theorem Jn(hk:av S N)(h:Pl S):1≤S.ns.length:=by
 have h1:=h.top;have h2:=hk.d1;have h3:=h.len;unfold Fs.root at h1;rw[if_pos (by omega)] at h1;rw[show((1:Int)-1).toNat=0 from rfl,List.getElem?_eq_getElem (by omega)] at h1;have h4:=hk.root S.ds[0] (List.getElem_mem _);simp only at h1;omega
theorem xF(hk:av S N)(h:Pl S):S.aQ 1=1:=by
 obtain⟨a,hg,hd⟩:=h.one;exact xE hk h hg hd
theorem zE(base:Int)(n:Nat):S.ew base n 0=false:=by cases n<;>simp[Fs.ew]
theorem Cq{base no:Int}(h1:S.aQ no=no)(h2:no≠base)(n:Nat):S.ew base n no=false:=by
 induction n with
 |zero=>rfl
 |succ n ih=>
  rw[Fs.ew,if_neg h2,h1,ih]
  split<;>rfl
def Fs.Gu(S:Fs)(k:Nat)(no:Int):Prop:=no=0∨no<k∧1≤k∨(S.aQ no=0∧2≤k)
theorem De(hk:av S N)(h:Pl S)(no:Int):S.Gu (S.ns.length+1) no:=by
 have h1:=Jn hk h;by_cases hne:S.aQ no=no
 ·rcases xG hk h hne with h0|h0
  ·exact .inl h0
  ·exact .inr (.inl ⟨by omega,by omega⟩)
 ·rcases jJ hk h hne with h0|⟨-,-,h3,-⟩
  ·exact .inr (.inr ⟨h0,by omega⟩)
  ·have:=h.len;exact .inr (.inl ⟨by omega,by omega⟩)
theorem Cp{no base:Int}{k:Nat}(hn:S.Gu k no)(h0:no≠0)(hb:no=base):S.ew base k no=true:=by
 cases k with
 |zero=>rcases hn with h|⟨-,h⟩|⟨-,h⟩<;>omega
 |succ k=>unfold Fs.ew;rw[if_neg h0,if_pos hb]
theorem zF(hk:av S N)(h:Pl S){no base:Int}{k:Nat}(hn:S.Gu k no)(h0:no≠0)(hb:no≠base)(hu:S.aQ no≠no):S.ew base k no=S.ew base (k-1) (S.aQ no)∧S.Gu (k-1) (S.aQ no):=by
 have h1:1≤k:=by rcases hn with h|⟨-,h⟩|⟨-,h⟩<;>omega
 obtain⟨k,rfl⟩:∃j,k=j+1:=⟨k-1,by omega⟩;refine⟨by rw[Fs.ew,if_neg h0,if_neg hb];rfl,?_⟩;rcases jJ hk h hu with h0|⟨h1,h2,h3,-⟩
 ·exact .inl h0
 ·rcases hn with h|⟨h,-⟩|⟨h,-⟩
  ·exact absurd h h0
  ·exact .inr (.inl ⟨by omega,by omega⟩)
  ·omega
def iY(l:List (List UInt8)):List UInt8:=l.reverse.flatMap (fun s=>47::s)
theorem G8(l:List (List UInt8))(s:List UInt8):iY (l++[s])=47::(s++iY l):=by simp[iY]
theorem BN(l:List (List UInt8)):iY l=[]↔l=[]:=by
 constructor
 ·intro h
  cases l with
  |nil=>rfl
  |cons x l=>simp[iY] at h
 ·rintro rfl;rfl
theorem KZ{l:List (List UInt8)}(h:∀x∈l,x.length≤255):(iY l).length≤256*l.length:=by
 unfold iY;rw[List.length_flatMap];have:∀m:List (List UInt8),(∀x∈m,x.length≤255)→(m.map (fun s=>(47::s).length)).sum≤256*m.length:=by
  intro m
  induction m with
  |nil=>intro _;simp
  |cons x m ih=>
   intro hx;have h1:=ih (fun y hy=>hx y (List.mem_cons_of_mem _ hy));have h2:=hx x List.mem_cons_self;simp only[List.map_cons,List.sum_cons,List.length_cons];simp only[List.length_cons] at h1;omega
 have h1:=this l.reverse (fun x hx=>h x (List.mem_reverse.1 hx));rw[List.length_reverse] at h1;exact h1
structure qe(S:Fs)(no0 no:Int)(l:List (List UInt8)):Prop where
 BB:l.length≤S.ns.length
 small:∀x∈l,x.length≤255
 eq:S.fZ no0=S.en (S.ns.length+1-l.length) no (str (iY l))
 room:1≤no→no≤S.last→no.toNat+l.length≤S.ns.length+1
theorem qe.start(h:Pl S)(no:Int):qe S no no []:=⟨Nat.zero_le _,(by intro x hx;cases hx),rfl,fun _ h2=>by
 have:=h.len;show no.toNat+0≤_;omega⟩
theorem Cs(hk:av S N)(k:Nat)(s:ByteArray):S.en k 0 s=none:=by
 cases k with
 |zero=>rfl
 |succ k=>
  unfold Fs.en;rw[if_neg (by decide),uW hk,qV hk];rfl
theorem qe.top(hk:av S N)(h:Pl S){no0:Int}{l:List (List UInt8)}(hs:qe S no0 1 l):S.fZ no0=some (if l=[] then jy else str (iY l)):=by
 have h1:=Jn hk h;have h2:=h.len;have h3:=hs.room (Int.le_refl _) (by omega);rw[hs.eq];obtain⟨k,hkk⟩:∃j,S.ns.length+1-l.length=j+1:=⟨S.ns.length-l.length,by omega⟩;rw[hkk];unfold Fs.en;rw[if_pos rfl];by_cases hl:l=[]
 ·subst hl;rfl
 ·rw[if_neg hl,if_neg];rw[aP];intro h0;exact hl ((BN l).1 (List.eq_nil_of_length_eq_zero h0))
theorem qe.other(hk:av S N)(h:Pl S){no0 no:Int}{l:List (List UInt8)}(hs:qe S no0 no l)(he:S.aQ no=no)(h1:no≠1):S.fZ no0=none:=by
 obtain rfl:no=0:=(xG hk h he).resolve_right h1;rw[hs.eq,Cs hk]
theorem qe.fail(hk:av S N)(h:Pl S){no0 no:Int}{l:List (List UInt8)}(hs:qe S no0 no l)(hu:S.aQ no≠no)(hn:cP (S.dg (S.aQ no)) (S.child no)=none):S.fZ no0=none:=by
 rw[hs.eq];have h1:no≠1:=by
  rintro rfl;exact hu (xF hk h)
 cases S.ns.length+1-l.length with
 |zero=>rfl
 |succ k=>unfold Fs.en;rw[if_neg h1,hn]
theorem p9(S:Fs)(no:Int):S.child no=match S.get no with
 |none=>no
 |some a=>if S.root a.dev=no∧1<a.dev then(match S.dev a.dev with|some v=>v.over|none=>no) else no:=rfl
theorem uO{no:Int}(hg:S.get no=none):S.child no=no:=by rw[p9,hg]
theorem DO{no:Int}{a:An}(hg:S.get no=some a)(hr:S.root a.dev≠no):S.child no=no:=by rw[p9,hg];exact if_neg (fun h=>hr h.1)
theorem DP(hk:av S N)(h:Pl S){no:Int}{a:An}(hg:S.get no=some a)(hr:S.root a.dev=no)(h1:no≠1):1<a.dev∧∃v,S.dev a.dev=some v∧S.child no=v.over:=by
 have hd:=(hk.get hg).1.dev;have yD:1<a.dev:=by
  rcases Int.lt_or_le 1 a.dev with h2|h2
  ·exact h2
  ·exfalso;have h3:a.dev=1:=by omega
   rw[h3,h.top] at hr;exact h1 hr.symm
 obtain⟨v,hv,-,-,-⟩:=kO hk hd.1 hd.2;refine⟨yD,v,hv,?_⟩;rw[p9,hg];show(if _ then _ else _)=_;rw[if_pos ⟨hr,yD⟩,hv]
theorem qe.more(hk:av S N)(h:Pl S){no0 no:Int}{l:List (List UInt8)}(hs:qe S no0 no l)(hu:S.aQ no≠no){s:ByteArray}(hn:cP (S.dg (S.aQ no)) (S.child no)=some s):qe S no0 (S.aQ no) (l++[s.data.toList])∧l.length+1≤S.ns.length:=by
 have hab:1≤S.aQ no∧S.aQ no<no∧no≤S.last∧no≠1:=by
  rcases jJ hk h hu with h0|h0
  ·rw[h0,qV hk] at hn
   cases hn
  ·exact h0
 obtain⟨h1,h2,h3,h4⟩:=hab;have hro:=hs.room (by omega) h3;have hln:l.length+1≤S.ns.length:=by omega
 have hnm:uZ s:=by
  obtain⟨x,hx,rfl⟩:=mL hn;unfold Fs.dg at hx
  cases hg:S.get (S.aQ no) with
  |none=>rw[hg] at hx;cases hx
  |some a=>
   rw[hg] at hx;exact h.names a (cx hg) x hx
 refine⟨⟨by simp;omega,fun x hx=>?_,?_,fun _ _=>by simp;omega⟩,hln⟩
 ·rcases List.mem_append.1 hx with hx|hx
  ·exact hs.small x hx
  ·simp at hx;subst hx;have:=hnm.2;have h5:s.data.toList.length=s.size:=Array.length_toList;omega
 ·rw[hs.eq,G8];obtain⟨k,hkk⟩:∃j,S.ns.length+1-l.length=j+1:=⟨S.ns.length-l.length,by omega⟩;rw[hkk,show S.ns.length+1-(l++[s.data.toList]).length=k by simp;omega,Fs.en,if_neg h4,hn];show S.en k _ _=S.en k _ _;congr 1
end
end
end Go.Proofs.YtinflmadpnigfaaGreatDoor
