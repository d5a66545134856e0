import Derived.Test.YtabbjaomlmnnhaaGreatCO1
import Derived.Test.YtabbjaomlmnnhaaGreatCO2
set_option linter.unusedVariables false
set_option linter.unusedSimpArgs false
set_option maxRecDepth 100000
set_option maxHeartbeats 16000000
namespace Go.Proofs.YtabbjaomlmnnhaaGreat
open Go.Value renaming int→UE,string→UF,slice→UG,pointer→UH,agg→UJ,tuple→UK
open Go.IntKind renaming i64→UL
section
open Go.RowKit
def qJ(cu cg uid gid mode want:Int):Bool:=
 if cu=0 then true else
  (bits .and .i64 (bits .and .i64 (if cu=uid then mode / 64 else if cg=gid then mode / 8 else mode) want) 7==bits .and .i64 want 7)
structure Cr where
 u:Int
 g:Int
def An.may(a:An)(c:Cr)(want:Int):Bool:=qJ c.u c.g a.uid a.gid a.mode want
def gL(c:Cr)(a:An):Bool:=(c.u==0)||(c.u==a.uid)
def KP(u g:Int):Bool:=decide (0≤u∧u≤2147483648∧0≤g∧g≤2147483648)
def Fs.dev(S:Fs)(d:Int):Option Dv:=if 1≤d then S.ds[(d-1).toNat]? else none
def Fs.aP(S:Fs)(d:Int)(v:Dv):Fs:={S with ds:=S.ds.set (d-1).toNat v}
def Fs.aD(S:Fs)(aB blocks nodes:Int):Fs:=
 {ns:=S.ns++[{dD with no:=S.last+1,dev:=S.ds.length+1,kind:=1,mode:=493,ak:=1,up:=S.last+1}]
  ds:=S.ds++[⟨S.last+1,aB,1,1,blocks,nodes⟩]
  last:=S.last+1}
def qh:Fs:=⟨[],[],0⟩
def Fs.bR(S:Fs)(k blocks nodes:Int):Fs×Int×Int:=
 match S.get k with
 |none=>(S,0,5)
 |some a=>
  if a.kind≠1 then(S,0,9)
  else if S.aB k≠k∨S.root a.dev=k then(S,0,16)
  else if 8≤S.ds.length∨ig blocks nodes=false then(S,0,3)
  else(S.aD k blocks nodes,S.last+1,0)
def Fs.bl(S:Fs)(k:Int):Int:=
 match S.get k with
 |none=>0
 |some a=>
  if a.kind≠1 then 0
  else if S.root a.dev=k∧1<a.dev then
   (match S.dev a.dev with
    |none=>0
    |some v=>match S.get v.aB with|none=>0|some b=>b.up)
  else a.up
def Fs.make(S:Fs)(a:An):Fs×Int×Int:=
 if S.root a.dev=0 then(S,0,1) else
 match S.dev a.dev with
 |none=>(S,0,1)
 |some v=>
  let e:=lT v.b v.n v.mb v.mn (cF a.kind a.data.size) 1
  if e=0 then(((S.aP a.dev {v with b:=v.b+cF a.kind a.data.size,n:=v.n+1}).add a),S.last+1,0)
  else(S,0,e)
def b8(l:List UInt8):List (List UInt8):=(lM 47 l).filter fun p=>!(p==[]) && !(p==[46])
def fx(l:List UInt8):Bool:=iS l==[]||iS l==[46]||iS l==[46,46]
structure Fd where
 dir:Int
 name:ByteArray
 no:Int
 DO:Bool
def gS:Fd:=⟨0,ByteArray.empty,0,false⟩
def Fs.step(S:Fs)(c:Cr)(at':Int)(p:List UInt8):Int×Int:=
 match S.get at' with
 |none=>(0,9)
 |some d=>
  if d.kind≠1 then(0,9)
  else if d.may c 1=false then(0,6)
  else if p=[46,46] then(S.bl at',0)
  else if 255<p.length then(0,13)
  else(S.aB (aw d.au (str p)),0)
def Fs.cM(S:Fs)(c:Cr)(follow:Bool)(k:Option (Int→Bool→List (List UInt8)→Fd×Int)):List (List UInt8)→Int→Bool→Fd×Int
 | [],at',_=>(⟨0,ByteArray.empty,at',true⟩,0)
 |p::l,at',must=>
  let r:=S.step c at' p
  if r.2≠0 then(gS,r.2)
  else if p=[46,46] then S.cM c follow k l r.1 must
  else match S.get r.1 with
  |none=>if l=[] then(⟨at',str p,0,must⟩,0) else(gS,5)
  |some n=>
   if n.kind=3∧(l≠[]∨must=true∨follow=true) then
    (match k with
     |none=>(gS,12)
     |some k=>
      if n.data.data.toList=[] then(gS,5)
      else k (if n.data.data.toList.head?=some 47 then 1 else at') (if l=[] then must||fx n.data.data.toList else must) (b8 n.data.data.toList++l))
   else if n.kind≠1∧(l≠[]∨must=true) then(gS,9)
   else if l=[] then(⟨at',str p,r.1,must⟩,0)
   else S.cM c follow k l r.1 must
def Fs.ft(S:Fs)(c:Cr)(follow:Bool):Nat→Int→Bool→List (List UInt8)→Fd×Int
 |0,at',must,l=>S.cM c follow none l at' must
 |h+1,at',must,l=>S.cM c follow (some (S.ft c follow h)) l at' must
def Fs.path(S:Fs)(c:Cr)(s:ByteArray)(follow:Bool):Fd×Int:=
 if eZ s≠0 then(gS,eZ s) else S.ft c follow 8 1 (fx s.data.toList) (b8 s.data.toList)
def cH(s:ByteArray):Int:=
 if s.data.toList=[]∨s.data.toList=[46]∨s.data.toList=[46,46]∨(47:UInt8)∈s.data.toList∨(0:UInt8)∈s.data.toList then 1 else if 255<s.size then 13 else 0
def Fs.aX(S:Fs)(c:Cr)(dir:Int)(s:ByteArray):Int:=
 match S.get dir with
 |none=>5
 |some d=>if d.kind≠1 then 9 else if cH s≠0 then cH s else if d.may c 3=false then 6 else 0
def Fs.aE(S:Fs)(now dir:Int)(l:List En):Fs:=
 match S.get dir with
 |none=>S
 |some d=>S.set {d with au:=l,mtime:=now,ctime:=now}
def Fs.bT(S:Fs)(c:Cr)(now dir:Int)(s:ByteArray)(a:An):Fs×Int×Int:=
 if S.aX c dir s≠0 then(S,0,S.aX c dir s) else
 match S.get dir with
 |none=>(S,0,5)
 |some d=>
  if aw d.au s≠0 then(S,0,7)
  else
   let r:=S.make {a with dev:=d.dev,uid:=c.u,gid:=c.g,mtime:=now,ctime:=now,ak:=1}
   if r.2.2≠0 then(S,0,r.2.2)
   else(r.1.aE now dir (aV d.au s r.2.1),r.2.1,0)
def Fs.aN(S:Fs)(c:Cr)(now dir:Int)(s:ByteArray)(mode:Int):Fs×Int×Int:=
 if mode<0∨1023<mode then(S,0,1) else S.bT c now dir s {dD with kind:=1,mode:=mode,up:=dir}
def Fs.file(S:Fs)(c:Cr)(now dir:Int)(s:ByteArray)(mode:Int)(data:ByteArray):Fs×Int×Int:=
 if mode<0∨1023<mode then(S,0,1) else if 1048576<data.size then(S,0,3) else S.bT c now dir s {dD with kind:=2,mode:=mode,data:=data}
def Fs.sym(S:Fs)(c:Cr)(now dir:Int)(s text:ByteArray):Fs×Int×Int:=
 if text.data.toList=[]∨(0:UInt8)∈text.data.toList then(S,0,1) else if 4096<text.size then(S,0,13) else S.bT c now dir s {dD with kind:=3,mode:=511,data:=text}
def Fs.dV(S:Fs)(c:Cr)(now no dir:Int)(s:ByteArray):Fs×Int:=
 if S.aX c dir s≠0 then(S,S.aX c dir s) else
 match S.get dir,S.get no with
 |some d,some n=>
  if n.kind=1 then(S,4)
  else if aw d.au s≠0 then(S,7)
  else if n.dev≠d.dev then(S,11)
  else if 1000≤n.ak then(S,18)
  else((S.set {n with ak:=n.ak+1,ctime:=now}).aE now dir (aV d.au s no),0)
 |_,_=>(S,5)
def Fs.cq(S:Fs)(c:Cr)(now no mode:Int):Fs×Int:=
 match S.get no with
 |none=>(S,5)
 |some n=>if gL c n=false then(S,4) else if mode<0∨1023<mode∨n.kind=3 then(S,1) else(S.set {n with mode:=mode,ctime:=now},0)
def Fs.cy(S:Fs)(c:Cr)(now no u g:Int):Fs×Int:=
 match S.get no with
 |none=>(S,5)
 |some n=>if gL c n=false then(S,4) else if c.u≠0 then(S,4) else if KP u g=false then(S,1) else(S.set {n with uid:=u,gid:=g,ctime:=now},0)
def Fs.ct(S:Fs)(c:Cr)(now no t:Int):Fs×Int:=
 match S.get no with
 |none=>(S,5)
 |some n=>if gL c n=false then(S,4) else if t<0∨253402300799<t then(S,1) else(S.set {n with mtime:=t,ctime:=now},0)
structure Sy where
 fs:Fs
 now:Int
 count:Int
 cC:List (Int×Int)
 dead:Bool
def Sy.change(Y:Sy):Sy×Int:=
 if Y.dead then(Y,20) else
 match Y.cC.find? (fun x=>x.1==Y.count+1) with
 |none=>({Y with count:=Y.count+1},0)
 |some x=>({Y with count:=Y.count+1,dead:=x.2==20},x.2)
end
section
open Go.RowKit
theorem xC(l:List En)(n:ByteArray)(no:Int)(h:fL l):(aV l n no).length≤l.length+1:=by
 rw[Cy h,List.length_append,List.length_take,List.length_cons,List.length_drop];have:=ua l n;omega
structure rG(a:An)(D N:Nat):Prop where
 dB:fL a.au
 lR:a.au.length≤N
 dev:1≤a.dev∧a.dev≤D
 ak:0≤a.ak∧a.ak≤1000
 data:a.data.size≤1048576
 mode:0≤a.mode∧a.mode≤1023
 kind:1≤a.kind∧a.kind≤3
 nz:∀x∈a.au,1≤x.no
 sy:a.kind=3→a.data.size≤4096
theorem Cx{l:List En}(h:∀x∈l,1≤x.no)(n:ByteArray){no:Int}(hn:1≤no):∀x∈aV l n no,1≤x.no:=by
 intro x hx;unfold aV at hx;rcases List.mem_append.1 hx with hx|hx
 ·exact h x (List.mem_filter.1 hx).1
 ·rcases List.mem_cons.1 hx with rfl|hx
  ·exact hn
  ·exact h x (List.mem_filter.1 hx).1
structure ay(S:Fs)(N:Nat):Prop where
 nums:eU S
 l0:0≤S.last
 lN:S.last≤N
 all:∀a∈S.ns,rG a S.ds.length N
 d1:1≤S.ds.length
 d8:S.ds.length≤8
 root:∀d∈S.ds,1≤d.root∧d.root≤S.last
theorem rG.mono{a:An}{D D' N N':Nat}(h:rG a D N)(hD:D≤D')(hN:N≤N'):rG a D' N':=
 ⟨h.dB,ae h.lR hN,⟨h.dev.1,by have:=h.dev.2;omega⟩,h.ak,h.data,h.mode,h.kind,h.nz,h.sy⟩
theorem ay.mono{S:Fs}{N N':Nat}(h:ay S N)(hN:N≤N'):ay S N':=
 ⟨h.nums,h.l0,by have:=h.lN;omega,fun a ha=>(h.all a ha).mono (aa _) hN,h.d1,h.d8,h.root⟩
theorem ay.get{S:Fs}{N:Nat}(h:ay S N){k:Int}{a:An}(hg:S.get k=some a):rG a S.ds.length N∧a.no=k∧1≤k∧k≤S.last:=by
 have hm:=aO hg;have hn:=bV hg;have:=h.nums.low a hm;exact⟨h.all a hm,hn,by omega,by omega⟩
theorem ay.set{S:Fs}{N:Nat}(h:ay S N){a:An}(ha:rG a S.ds.length N):ay (S.set a) N:=by
 refine⟨h.nums.set a,h.l0,h.lN,fun x hx=>?_,h.d1,h.d8,h.root⟩;unfold Fs.set at hx;simp only[List.mem_map] at hx;obtain⟨y,hy,rfl⟩:=hx
 split
 ·exact ha
 ·exact h.all y hy
theorem ay.add{S:Fs}{N:Nat}(h:ay S N){a:An}(ha:rG a S.ds.length (N+1)):ay (S.add a) (N+1):=by
 refine⟨h.nums.add h.l0 a,?_,?_,fun x hx=>?_,h.d1,h.d8,fun d hd=>?_⟩
 ·show 0≤S.last+1;have:=h.l0;omega
 ·show S.last+1≤((N+1:Nat):Int);have:=h.lN;omega
 ·rcases List.mem_append.1 hx with hx|hx
  ·exact(h.all x hx).mono (aa _) (by omega)
  ·simp at hx;subst hx;exact⟨ha.dB,ha.lR,ha.dev,ha.ak,ha.data,ha.mode,ha.kind,ha.nz,ha.sy⟩
 ·have:=h.root d hd;show 1≤d.root∧d.root≤S.last+1;omega
theorem ay.aP{S:Fs}{N:Nat}(h:ay S N){d:Int}{v u:Dv}(hv:S.dev d=some v)(hu:u.root=v.root):ay (S.aP d u) N:=by
 unfold Fs.dev at hv
 split at hv
 ·refine⟨⟨h.nums.dB,h.nums.low⟩,h.l0,h.lN,fun a ha=>?_,?_,?_,fun x hx=>?_⟩
  ·unfold Fs.aP;simp only[List.length_set];exact h.all a ha
  ·unfold Fs.aP;simp only[List.length_set];exact h.d1
  ·unfold Fs.aP;simp only[List.length_set];exact h.d8
  ·rcases List.mem_or_eq_of_mem_set hx with hx|rfl
   ·exact h.root x hx
   ·rw[hu];exact h.root v (List.mem_of_getElem? hv)
 ·cases hv
theorem yA{S:Fs}{d:Int}(h1:1≤d)(h2:d≤S.ds.length):∃v,S.dev d=some v∧S.ds[(d-1).toNat]?=some v:=by
 unfold Fs.dev;rw[if_pos h1];have:(d-1).toNat<S.ds.length:=by omega
 exact⟨_,List.getElem?_eq_getElem this,List.getElem?_eq_getElem this⟩
theorem jr{S:Fs}{N:Nat}(h:ay S N){d:Int}(h1:1≤d)(h2:d≤S.ds.length):∃v,S.dev d=some v∧S.root d=v.root∧1≤v.root∧v∈S.ds:=by
 obtain⟨v,hv,hg⟩:=yA h1 h2;refine⟨v,hv,?_,(h.root v (List.mem_of_getElem? hg)).1,List.mem_of_getElem? hg⟩;unfold Fs.root;rw[if_pos ⟨h1,h2⟩,hg]
theorem mL{S:Fs}{d:Int}(h:¬(1≤d∧d≤S.ds.length)):S.root d=0:=by
 unfold Fs.root;rw[if_neg h]
theorem z6:fL []:=List.Pairwise.nil
theorem ay.aD{S:Fs}{N:Nat}(hn:eU S)(l0:0≤S.last)(lN:S.last≤N)(hall:∀a∈S.ns,rG a S.ds.length N)(d8:S.ds.length≤7)(hroot:∀d∈S.ds,1≤d.root∧d.root≤S.last)(aB b n:Int):ay (S.aD aB b n) (N+1):=by
 refine⟨?_,?_,?_,fun x hx=>?_,?_,?_,fun d hd=>?_⟩
 ·have:=hn.add l0 {dD with dev:=S.ds.length+1,kind:=1,mode:=493,ak:=1,up:=S.last+1};exact⟨this.dB,this.low⟩
 ·show 0≤S.last+1;omega
 ·show S.last+1≤((N+1:Nat):Int);omega
 ·show rG x (S.ds++[_]).length (N+1);rw[List.length_append,List.length_singleton];rcases List.mem_append.1 hx with hx|hx
  ·exact(hall x hx).mono (by omega) (by omega)
  ·simp at hx;subst hx;exact⟨z6,Nat.zero_le _,⟨by show 1≤(S.ds.length:Int)+1;omega,by show(S.ds.length:Int)+1≤((S.ds.length+1:Nat):Int);omega⟩,⟨by dsimp only;decide,by dsimp only;decide⟩,by show(0:Nat)≤_;omega,⟨by dsimp only;decide,by dsimp only;decide⟩,⟨by dsimp only;decide,by dsimp only;decide⟩,fun x hx=>(by simp[dD] at hx),fun h=>absurd h (by dsimp only;decide)⟩
 ·show 1≤(S.ds++[_]).length;rw[List.length_append,List.length_singleton];omega
 ·show(S.ds++[_]).length≤8;rw[List.length_append,List.length_singleton];omega
 ·show 1≤d.root∧d.root≤S.last+1;rcases List.mem_append.1 hd with hd|hd
  ·have:=hroot d hd;omega
  ·simp at hd;subst hd;simp;omega
theorem ay.new(b n:Int):ay (qh.aD 0 b n) 1:=
 ay.aD (S:=qh) (N:=0) ⟨List.Pairwise.nil,fun x hx=>by simp[qh] at hx⟩ (by decide) (by decide) (fun x hx=>by simp[qh] at hx) (by decide) (fun x hx=>by simp[qh] at hx) 0 b n
theorem ay.bR{S:Fs}{N:Nat}(h:ay S N)(k b n:Int):ay (S.bR k b n).1 (N+1):=by
 have h1:=h.mono (Nat.le_succ N);unfold Fs.bR
 split
 ·exact h1
 ·split
  ·exact h1
  ·split
   ·exact h1
   ·split
    ·exact h1
    ·rename_i hd;exact ay.aD h.nums h.l0 h.lN h.all (by omega) h.root k b n
theorem ay.make{S:Fs}{N:Nat}(h:ay S N){a:An}(ha:rG a S.ds.length (N+1)):ay (S.make a).1 (N+1):=by
 have h1:=h.mono (Nat.le_succ N);unfold Fs.make
 split
 ·exact h1
 ·split
  ·exact h1
  ·rename_i v hv;simp only
   split
   ·have h2:=h.aP (u:={v with b:=v.b+cF a.kind a.data.size,n:=v.n+1}) hv rfl;exact h2.add (by unfold Fs.aP;simp only[List.length_set];exact ha)
   ·exact h1
theorem ay.aE{S:Fs}{N:Nat}(h:ay S N)(now dir:Int)(l:List En)(hl:fL l)(hN:l.length≤N)(hz:∀x∈l,1≤x.no):ay (S.aE now dir l) N:=by
 unfold Fs.aE
 split
 ·exact h
 ·rename_i d hd;have:=h.get hd;exact h.set ⟨hl,hN,this.1.dev,this.1.ak,this.1.data,this.1.mode,this.1.kind,hz,this.1.sy⟩
theorem L2{S:Fs}(h:0≤S.last)(a:An)(hz:(S.make a).2.2=0):1≤(S.make a).2.1:=by
 revert hz;unfold Fs.make
 split
 ·intro hz;cases hz
 ·split
  ·intro hz;cases hz
  ·simp only
   split
   ·intro _;show 1≤S.last+1;omega
   ·rename_i hz;intro fo;exact absurd fo hz
theorem yC{S:Fs}{N:Nat}(h:ay S N){a:An}(c:Cr)(now dir:Int)(s:ByteArray)(hr:a.au=[])(hd:a.data.size≤1048576)(hm:0≤a.mode∧a.mode≤1023)(hk:1≤a.kind∧a.kind≤3)(hsy:a.kind=3→a.data.size≤4096):ay (S.bT c now dir s a).1 (N+1):=by
 have h1:=h.mono (Nat.le_succ N);unfold Fs.bT
 split
 ·exact h1
 ·split
  ·exact h1
  ·rename_i d hg
   split
   ·exact h1
   ·obtain⟨hdo,-,-,-⟩:=h.get hg;have h2:=h.make (a:={a with dev:=d.dev,uid:=c.u,gid:=c.g,mtime:=now,ctime:=now,ak:=1}) ⟨by rw[show({a with dev:=d.dev,uid:=c.u,gid:=c.g,mtime:=now,ctime:=now,ak:=1}:An).au=a.au from rfl,hr];exact z6,by show a.au.length≤N+1;rw[hr];exact Nat.zero_le _,hdo.dev,⟨by dsimp only;decide,by dsimp only;decide⟩,hd,hm,hk,fun x hx=>(by rw[show({a with dev:=d.dev,uid:=c.u,gid:=c.g,mtime:=now,ctime:=now,ak:=1}:An).au=a.au from rfl,hr] at hx;cases hx),hsy⟩;simp only
    split
    ·exact h1
    ·refine h2.aE _ _ _ (l5 hdo.dB _ _) ?_ (Cx hdo.nz _ (L2 h.l0 _ (by rename_i hz;simpa using hz)));have:=xC d.au s (S.make {a with dev:=d.dev,uid:=c.u,gid:=c.g,mtime:=now,ctime:=now,ak:=1}).2.1 hdo.dB;have:=hdo.lR;omega
theorem gW{S:Fs}{N:Nat}(h:ay S N)(c:Cr)(now dir:Int)(s:ByteArray)(m:Int):ay (S.aN c now dir s m).1 (N+1):=by
 unfold Fs.aN
 split
 ·exact h.mono (Nat.le_succ N)
 ·exact yC h c now dir s rfl (by show(0:Nat)≤1048576;decide) ⟨by show 0≤m;omega,by show m≤1023;omega⟩ ⟨by dsimp only;decide,by dsimp only;decide⟩ (fun h=>absurd h (by dsimp only;decide))
theorem yp{S:Fs}{N:Nat}(h:ay S N)(c:Cr)(now dir:Int)(s:ByteArray)(m:Int)(t:ByteArray):ay (S.file c now dir s m t).1 (N+1):=by
 unfold Fs.file
 split
 ·exact h.mono (Nat.le_succ N)
 ·split
  ·exact h.mono (Nat.le_succ N)
  ·exact yC h c now dir s rfl (by show t.size≤_;omega) ⟨by show 0≤m;omega,by show m≤1023;omega⟩ ⟨by show(1:Int)≤2;decide,by show(2:Int)≤3;decide⟩ (fun h=>absurd h (by dsimp only;decide))
theorem Iv{S:Fs}{N:Nat}(h:ay S N)(c:Cr)(now dir:Int)(s t:ByteArray):ay (S.sym c now dir s t).1 (N+1):=by
 unfold Fs.sym
 split
 ·exact h.mono (Nat.le_succ N)
 ·split
  ·exact h.mono (Nat.le_succ N)
  ·exact yC h c now dir s rfl (by show t.size≤_;omega) ⟨by show(0:Int)≤511;decide,by show(511:Int)≤1023;decide⟩ ⟨by show(1:Int)≤3;decide,by show(3:Int)≤3;decide⟩ (fun _=>by show t.size≤4096;omega)
theorem D7{S:Fs}{N:Nat}(h:ay S N)(c:Cr)(now no dir:Int)(s:ByteArray):ay (S.dV c now no dir s).1 (N+1):=by
 have h1:=h.mono (Nat.le_succ N);unfold Fs.dV
 split
 ·exact h1
 ·split
  ·rename_i d n hd hn
   split
   ·exact h1
   ·split
    ·exact h1
    ·split
     ·exact h1
     ·split
      ·exact h1
      ·obtain⟨ho,-,-,-⟩:=h.get hd;obtain⟨hm,-,-,-⟩:=h.get hn;have fQ:=hm.mono (aa _) (Nat.le_succ N);refine ay.aE (h1.set (a:={n with ak:=n.ak+1,ctime:=now}) ⟨fQ.dB,fQ.lR,fQ.dev,⟨by have:=fQ.ak.1;show 0≤n.ak+1;omega,by show n.ak+1≤1000;omega⟩,fQ.data,fQ.mode,fQ.kind,fQ.nz,fQ.sy⟩) _ _ _ (l5 ho.dB _ _) ?_ (Cx ho.nz _ (h.get hn).2.2.1);have:=xC d.au s no ho.dB;have:=ho.lR;omega
  ·exact h1
theorem Be{S:Fs}{N:Nat}(h:ay S N)(c:Cr)(now no m:Int):ay (S.cq c now no m).1 N:=by
 unfold Fs.cq
 split
 ·exact h
 ·rename_i n hn
  split
  ·exact h
  ·split
   ·exact h
   ·obtain⟨hm,-,-,-⟩:=h.get hn;exact h.set ⟨hm.dB,hm.lR,hm.dev,hm.ak,hm.data,⟨by show 0≤m;omega,by show m≤1023;omega⟩,hm.kind,hm.nz,hm.sy⟩
theorem po{S:Fs}{N:Nat}(h:ay S N)(c:Cr)(now no u g:Int):ay (S.cy c now no u g).1 N:=by
 unfold Fs.cy
 split
 ·exact h
 ·rename_i n hn
  split
  ·exact h
  ·split
   ·exact h
   ·split
    ·exact h
    ·obtain⟨hm,-,-,-⟩:=h.get hn;exact h.set ⟨hm.dB,hm.lR,hm.dev,hm.ak,hm.data,hm.mode,hm.kind,hm.nz,hm.sy⟩
theorem zx{S:Fs}{N:Nat}(h:ay S N)(c:Cr)(now no t:Int):ay (S.ct c now no t).1 N:=by
 unfold Fs.ct
 split
 ·exact h
 ·rename_i n hn
  split
  ·exact h
  ·split
   ·exact h
   ·obtain⟨hm,-,-,-⟩:=h.get hn;exact h.set ⟨hm.dB,hm.lR,hm.dev,hm.ak,hm.data,hm.mode,hm.kind,hm.nz,hm.sy⟩
end
section
open Go.RowKit
structure Mt where
 path:ByteArray
 b:Int
 n:Int
structure It where
 path:ByteArray
 kind:Int
 mode:Int
 uid:Int
 gid:Int
 mtime:Int
 data:ByteArray
def kv:ByteArray:=⟨#[47]⟩
def cw:Cr:=⟨0,0⟩
def be:List Mt→Int×Int
 | []=>(65536,65536)
 |m::l=>if m.path=kv∧ig m.b m.n=true then(m.b,m.n) else be l
theorem pX:∀l:List Mt,ig (be l).1 (be l).2=true
 | []=>by decide
 |m::l=>by
  unfold be
  split
  ·rename_i h;exact h.2
  ·exact pX l
def Fs.mh(S:Fs)(k:Int):Int:=match S.get k with|none=>0|some a=>a.kind
def bP(S:Fs)(m:Mt):Fs:=
 if(S.path cw m.path false).2≠0 then S
 else if(S.path cw m.path false).1.no=0 then
  let q:=S.aN cw 0 (S.path cw m.path false).1.dir (S.path cw m.path false).1.name 493
  if q.2.2≠0 then q.1 else(q.1.bR q.2.1 m.b m.n).1
 else(S.bR (S.path cw m.path false).1.no m.b m.n).1
def cj(S:Fs)(it:It):Fs×Int:=
 let x:=S.path cw it.path false
 if x.2≠0 then(S,0)
 else if x.1.no≠0 then(if it.kind=1∧S.mh x.1.no=1 then(S,x.1.no) else(S,0))
 else if it.kind=1 then((S.aN cw 0 x.1.dir x.1.name 493).1,(S.aN cw 0 x.1.dir x.1.name 493).2.1)
 else if it.kind=2 then((S.file cw 0 x.1.dir x.1.name 420 it.data).1,(S.file cw 0 x.1.dir x.1.name 420 it.data).2.1)
 else if it.kind=3 then((S.sym cw 0 x.1.dir x.1.name it.data).1,(S.sym cw 0 x.1.dir x.1.name it.data).2.1)
 else if it.kind=4 then
  (if(S.path cw it.data false).2=0 then((S.dV cw 0 (S.path cw it.data false).1.no x.1.dir x.1.name).1,0) else(S,0))
 else(S,0)
def dL(S:Fs)(it:It):Fs×Int:=
 let q:=cj S it
 if q.2≠0 then(((q.1.cy cw 0 q.2 it.uid it.gid).1.cq cw 0 q.2 it.mode).1,q.2) else q
def br(S:Fs):List It→Fs×List Int
 | []=>(S,[])
 |it::l=>let q:=dL S it;let r:=br q.1 l;(r.1,q.2::r.2)
def bO(S:Fs):List (It×Int)→Fs
 | []=>S
 |x::l=>bO (if x.2≠0 then(S.ct cw 0 x.2 x.1.mtime).1 else S) l
def aR(S:Fs):List Mt→Fs
 | []=>S
 |m::l=>aR (if m.path=kv then S else bP S m) l
def db(ms:List Mt)(is:List It):Fs:=
 let S:=aR (qh.aD 0 (be ms).1 (be ms).2) ms
 let r:=br S is
 bO r.1 (is.zip r.2)
theorem CL(S:Fs)(a b:List It):br S (a++b)=((br (br S a).1 b).1,(br S a).2++(br (br S a).1 b).2):=by
 induction a generalizing S with
 |nil=>rfl
 |cons x a ih=>simp only[List.cons_append,br,ih]
theorem lq(S:Fs)(a:List It):(br S a).2.length=a.length:=by
 induction a generalizing S with
 |nil=>rfl
 |cons x a ih=>simp only[br,List.length_cons,ih]
theorem B9(S:Fs)(a b:List (It×Int)):bO S (a++b)=bO (bO S a) b:=by
 induction a generalizing S with
 |nil=>rfl
 |cons x a ih=>exact ih _
theorem As(S:Fs)(a b:List Mt):aR S (a++b)=aR (aR S a) b:=by
 induction a generalizing S with
 |nil=>rfl
 |cons x a ih=>exact ih _
theorem mQ{S:Fs}{N:Nat}(h:ay S N)(m:Mt):ay (bP S m) (N+2):=by
 unfold bP
 split
 ·exact h.mono (by omega)
 ·split
  ·have h1:=gW h cw 0 (S.path cw m.path false).1.dir (S.path cw m.path false).1.name 493;simp only
   split
   ·exact h1.mono (by omega)
   ·exact h1.bR _ _ _
  ·exact(h.bR _ _ _).mono (by omega)
theorem fV{S:Fs}{N:Nat}(h:ay S N)(l:List Mt):ay (aR S l) (N+2*l.length):=by
 induction l generalizing S N with
 |nil=>exact h
 |cons m l ih=>
  unfold aR;have h1:ay (if m.path=kv then S else bP S m) (N+2):=by
   split
   ·exact h.mono (by omega)
   ·exact mQ h m
  exact(ih h1).mono (by simp;omega)
theorem th{S:Fs}{N:Nat}(h:ay S N)(it:It):ay (cj S it).1 (N+1):=by
 have h1:=h.mono (Nat.le_succ N);unfold cj;simp only
 split
 ·exact h1
 ·split
  ·split<;>exact h1
  ·split
   ·exact gW h _ _ _ _ _
   ·split
    ·exact yp h _ _ _ _ _ _
    ·split
     ·exact Iv h _ _ _ _ _
     ·split
      ·split
       ·exact D7 h _ _ _ _ _
       ·exact h1
      ·exact h1
theorem Jl{S:Fs}{N:Nat}(h:ay S N)(it:It):ay (dL S it).1 (N+1):=by
 have h1:=th h it;unfold dL;simp only
 split
 ·exact Be (po h1 _ _ _ _ _) _ _ _ _
 ·exact h1
theorem jG{S:Fs}{N:Nat}(h:ay S N)(l:List It):ay (br S l).1 (N+l.length):=by
 induction l generalizing S N with
 |nil=>exact h
 |cons m l ih=>
  unfold br;exact(ih (Jl h m)).mono (by simp;omega)
theorem pP{S:Fs}{N:Nat}(h:ay S N)(l:List (It×Int)):ay (bO S l) N:=by
 induction l generalizing S with
 |nil=>exact h
 |cons m l ih=>
  unfold bO;apply ih
  split
  ·exact zx h _ _ _ _
  ·exact h
theorem Ah(ms:List Mt)(is:List It):ay (db ms is) (1+2*ms.length+is.length):=by
 unfold db;exact pP (jG (fV (ay.new _ _) _) _) _
end
section
open Go.RowKit
def Bz(s:ByteArray):Prop:=s≠ByteArray.empty∧s.size≤255
structure Pl(S:Fs):Prop where
 len:(S.ns.length:Int)≤S.last
 names:∀a∈S.ns,∀x∈a.au,Bz x.name
 up:∀a∈S.ns,a.kind=1→(S.root a.dev=a.no∧a.up=a.no)∨(S.root a.dev≠a.no∧1≤a.up∧a.up<a.no)
 top:S.root 1=1
 one:∃a,S.get 1=some a∧a.kind=1
 aB:∀(i:Nat) (hi:i<S.ds.length),1≤i→∃b,S.get S.ds[i].aB=some b∧b.kind=1∧S.ds[i].aB<S.ds[i].root
theorem Bv{S:Fs}{N:Nat}(hk:ay S N)(h:Pl S){no:Int}{a:An}(hg:S.get no=some a)(hd:a.kind=1)(h1:no≠1):1≤S.bl no∧S.bl no<no:=by
 obtain⟨ho,hn,hl,-⟩:=hk.get hg;have hup:=h.up a (aO hg) hd;unfold Fs.bl;rw[hg];simp only;rw[if_neg (by simpa using hd)];by_cases hr:S.root a.dev=no∧1<a.dev
 ·rw[if_pos hr];obtain⟨v,hv,hvg⟩:=yA ho.dev.1 ho.dev.2;obtain⟨v2,rL,hrt,-,-⟩:=jr hk ho.dev.1 ho.dev.2;rw[hv] at rL;injection rL with rL;subst rL;have hi:(a.dev-1).toNat<S.ds.length:=(List.getElem?_eq_some_iff.1 hvg).1;obtain⟨b,hb,hbk,hlt⟩:=h.aB _ hi (by omega);have hvi:S.ds[(a.dev-1).toNat]=v:=(List.getElem?_eq_some_iff.1 hvg).2;rw[hvi] at hb hlt;rw[hv];simp only;rw[hb];simp only;have hbn:=bV hb;have h3:=(hk.get hb).2.2.1;rcases h.up b (aO hb) hbk with⟨-,h2⟩|⟨-,h2,h4⟩
  ·have:=hr.1;omega
  ·have:=hr.1;omega
 ·rw[if_neg hr];rcases hup with⟨h2,h3⟩|⟨-,h2,h3⟩
  ·exfalso;have h4:a.dev=1:=by
    have:=ho.dev.1;by_cases h5:1<a.dev
    ·exact absurd ⟨h2.trans hn,h5⟩ hr
    ·omega
   rw[h4,h.top] at h2;omega
  ·omega
theorem jT{S:Fs}{no:Int}(hg:S.get no=none):S.bl no=0:=by unfold Fs.bl;rw[hg]
theorem uA{S:Fs}{no:Int}{a:An}(hg:S.get no=some a)(hd:a.kind≠1):S.bl no=0:=by
 unfold Fs.bl;rw[hg];simp only;rw[if_pos hd]
theorem wS{S:Fs}{N:Nat}(hk:ay S N)(h:Pl S){a:An}(hg:S.get 1=some a)(hd:a.kind=1):S.bl 1=1:=by
 obtain⟨ho,hn,-,-⟩:=hk.get hg;unfold Fs.bl;rw[hg];simp only;rw[if_neg (by simpa using hd)];have hno:¬(S.root a.dev=1∧1<a.dev):=by
  rintro⟨h1,h2⟩;obtain⟨v,hv,hvg⟩:=yA ho.dev.1 ho.dev.2;obtain⟨v2,rL,hrt,-,-⟩:=jr hk ho.dev.1 ho.dev.2;rw[hv] at rL;injection rL with rL;subst rL;have hi:(a.dev-1).toNat<S.ds.length:=(List.getElem?_eq_some_iff.1 hvg).1;obtain⟨b,hb,-,hlt⟩:=h.aB _ hi (by omega);rw[show S.ds[(a.dev-1).toNat]=v from(List.getElem?_eq_some_iff.1 hvg).2] at hb hlt;have:=(hk.get hb).2.2.1;omega
 rw[if_neg hno];rcases h.up a (aO hg) hd with⟨-,h2⟩|⟨-,h2,h3⟩
 ·rw[h2,hn]
 ·omega
theorem Pl.set{S:Fs}(h:Pl S){a b:An}(hb:S.get a.no=some b)(hk:a.kind=b.kind)(hd:a.dev=b.dev)(hu:a.up=b.up)(hn:∀x∈a.au,Bz x.name):Pl (S.set a):=by
 refine⟨?_,fun y hy=>?_,fun y hy hyk=>?_,h.top,?_,fun i hi h1=>?_⟩
 ·show((S.ns.map _).length:Int)≤S.last;rw[List.length_map];exact h.len
 ·unfold Fs.set at hy;simp only[List.mem_map] at hy;obtain⟨z,hz,rfl⟩:=hy
  split
  ·exact hn
  ·exact h.names z hz
 ·unfold Fs.set at hy;simp only[List.mem_map] at hy;obtain⟨z,hz,rfl⟩:=hy;show(S.root _=_∧_)∨(S.root _≠_∧_)
  split at hyk
  ·rename_i he;rw[if_pos he];have hbn:=bV hb;have:=h.up b (aO hb) (by rw[←hk];exact hyk);rw[hd,hu,←hbn];exact this
  ·rename_i he;rw[if_neg he];exact h.up z hz hyk
 ·obtain⟨c,hc,h2⟩:=h.one;refine⟨if(1:Int)=a.no then a else c,?_,?_⟩
  ·rw[fC hb]
   split
   ·rfl
   ·exact hc
  ·split
   ·rename_i he;rw[he,hb] at hc;injection hc with hc;rw[hk,hc];exact h2
   ·exact h2
 ·obtain⟨c,hc,h2,h3⟩:=h.aB i hi h1;refine⟨if S.ds[i].aB=a.no then a else c,?_,?_,h3⟩
  ·show(S.set a).get S.ds[i].aB=_;rw[fC hb]
   split
   ·rfl
   ·exact hc
  ·split
   ·rename_i he;rw[he,hb] at hc;injection hc with hc;rw[hk,hc];exact h2
   ·exact h2
theorem Pl.aP{S:Fs}(h:Pl S){d:Int}{v u:Dv}(hv:S.dev d=some v)(hr:u.root=v.root)(ho:u.aB=v.aB):Pl (S.aP d u):=by
 unfold Fs.dev at hv
 split at hv
 ·rename_i hd;have hi:=(List.getElem?_eq_some_iff.1 hv).1;have hvi:=(List.getElem?_eq_some_iff.1 hv).2;have hroot:∀e,(S.aP d u).root e=S.root e:=fun e=>by
   unfold Fs.root Fs.aP;simp only[List.length_set,List.getElem?_set]
   split
   ·rename_i he;by_cases hq:(d-1).toNat=(e-1).toNat
    ·rw[if_pos hq,←hq,hv]
     first|exact hr|(rw[if_pos hi];exact hr)
    ·rw[if_neg hq]
   ·rfl
  refine⟨h.len,h.names,fun y hy hk=>by rw[hroot];exact h.up y hy hk,by rw[hroot];exact h.top,h.one,fun i G7 h1=>?_⟩;have rj:i<S.ds.length:=by
   have:=G7;unfold Fs.aP at this;simpa using this
  obtain⟨b,hb,h2,h3⟩:=h.aB i rj h1;have he:(S.aP d u).ds[i]=if(d-1).toNat=i then u else S.ds[i]:=by
   exact List.getElem_set (l:=S.ds) (i:=(d-1).toNat) (a:=u) (j:=i) (by rw[List.length_set];exact rj)
  rw[he];by_cases hq:(d-1).toNat=i
  ·subst hq;rw[if_pos rfl,ho,hr,←hvi];exact⟨b,hb,h2,h3⟩
  ·rw[if_neg hq];exact⟨b,hb,h2,h3⟩
 ·cases hv
theorem jv{S:Fs}(h:eU S){k:Int}{b:An}(hb:S.get k=some b):k≤S.last:=by
 have h1:=bV hb;have h2:=h.low b (aO hb);omega
theorem Pl.add{S:Fs}{N:Nat}(hk:ay S N)(h:Pl S){a:An}(he:a.au=[])(hdv:1≤a.dev∧a.dev≤S.ds.length)(hu:a.kind=1→1≤a.up∧a.up≤S.last):Pl (S.add a):=by
 refine⟨?_,fun y hy=>?_,fun y hy hyk=>?_,h.top,?_,fun i hi h1=>?_⟩
 ·show((S.ns++[_]).length:Int)≤S.last+1;rw[List.length_append,List.length_singleton];have:=h.len;omega
 ·rcases List.mem_append.1 hy with hy|hy
  ·exact h.names y hy
  ·simp at hy;subst hy;intro x hx;rw[show({a with no:=S.last+1}:An).au=a.au from rfl,he] at hx
   cases hx
 ·show(S.root _=_∧_)∨(S.root _≠_∧_);rcases List.mem_append.1 hy with hy|hy
  ·exact h.up y hy hyk
  ·simp at hy;subst hy;right;obtain⟨v,-,hrt,-,hm⟩:=jr hk hdv.1 hdv.2;have h2:=(hk.root v hm).2;have h3:=hu hyk;refine⟨?_,h3.1,?_⟩
   ·show S.root a.dev≠S.last+1;omega
   ·show a.up<S.last+1;omega
 ·obtain⟨c,hc,h2⟩:=h.one;refine⟨c,?_,h2⟩;rw[gZ hk.nums,if_neg]
  ·exact hc
  ·have:=jv hk.nums hc;omega
 ·obtain⟨c,hc,h2,h3⟩:=h.aB i hi h1;refine⟨c,?_,h2,h3⟩;show(S.add a).get S.ds[i].aB=some c;rw[gZ hk.nums,if_neg]
  ·exact hc
  ·have:=jv hk.nums hc;omega
theorem Pl.aD{S:Fs}{N:Nat}(hk:ay S N)(h:Pl S){k:Int}{a:An}(hg:S.get k=some a)(hd:a.kind=1)(b n:Int):Pl (S.aD k b n):=by
 have hroot:∀e:Int,e≤S.ds.length→(S.aD k b n).root e=S.root e:=fun e he=>by
  unfold Fs.root Fs.aD;simp only[List.length_append,List.length_singleton];by_cases h1:(1:Int)≤e
  ·rw[if_pos ⟨h1,by omega⟩,if_pos ⟨h1,he⟩,List.getElem?_append_left (by omega)]
  ·rw[if_neg (fun h=>h1 h.1),if_neg (fun h=>h1 h.1)]
 have hrl:(S.aD k b n).root (S.ds.length+1)=S.last+1:=by
  unfold Fs.root Fs.aD;simp only[List.length_append,List.length_singleton];rw[if_pos ⟨by omega,by omega⟩,List.getElem?_append_right (by omega)];rw[show((S.ds.length:Int)+1-1).toNat-S.ds.length=0 by omega];rfl
 have hget:∀q c,S.get q=some c→(S.aD k b n).get q=some c:=fun q c hq=>by
  unfold Fs.get Fs.aD at *;simp only[List.find?_append,hq,Option.some_or]
 have fk:=hk.l0;have hgl:=jv hk.nums hg;refine⟨?_,fun y hy=>?_,fun y hy hyk=>?_,?_,?_,fun i hi h1=>?_⟩
 ·show((S.ns++[_]).length:Int)≤S.last+1;rw[List.length_append,List.length_singleton];have:=h.len;omega
 ·rcases List.mem_append.1 hy with hy|hy
  ·exact h.names y hy
  ·simp at hy;subst hy;intro x hx;simp[dD] at hx
 ·rcases List.mem_append.1 hy with hy|hy
  ·rw[hroot _ (hk.all y hy).dev.2];exact h.up y hy hyk
  ·simp at hy;subst hy;left;exact⟨hrl,rfl⟩
 ·rw[hroot _ (by have:=hk.d1;omega)];exact h.top
 ·obtain⟨c,hc,h2⟩:=h.one;exact⟨c,hget _ _ hc,h2⟩
 ·by_cases G7:i<S.ds.length
  ·obtain⟨c,hc,h2,h3⟩:=h.aB i G7 h1;have he:(S.aD k b n).ds[i]=S.ds[i]:=List.getElem_append_left G7;rw[he];exact⟨c,hget _ _ hc,h2,h3⟩
  ·have rj:i=S.ds.length:=by
    have h4:i<(S.ds++[(⟨S.last+1,k,1,1,b,n⟩:Dv)]).length:=hi;rw[List.length_append,List.length_singleton] at h4;omega
   subst rj;have he:(S.aD k b n).ds[S.ds.length]=⟨S.last+1,k,1,1,b,n⟩:=by
    have h5:(S.ds++[(⟨S.last+1,k,1,1,b,n⟩:Dv)])[S.ds.length]?=some ⟨S.last+1,k,1,1,b,n⟩:=by
     rw[List.getElem?_append_right (aa _)];simp
    exact(List.getElem?_eq_some_iff.1 h5).2
   rw[he];exact⟨a,hget _ _ hg,hd,by show k<S.last+1;omega⟩
theorem Pl.new(b n:Int):Pl (qh.aD 0 b n):=by
 refine⟨Int.le_of_eq rfl,fun a ha=>?_,fun a ha _=>?_,rfl,⟨_,rfl,rfl⟩,fun i hi h1=>?_⟩
 ·simp[Fs.aD,qh] at ha;subst ha;intro x hx;simp[dD] at hx
 ·simp[Fs.aD,qh] at ha;subst ha;left;exact⟨rfl,rfl⟩
 ·have:i<1:=hi;omega
theorem Pl.make{S:Fs}{N:Nat}(hk:ay S N)(h:Pl S){a:An}(he:a.au=[])(hdv:1≤a.dev∧a.dev≤S.ds.length)(hu:a.kind=1→1≤a.up∧a.up≤S.last):Pl (S.make a).1:=by
 unfold Fs.make
 split
 ·exact h
 ·split
  ·exact h
  ·rename_i v hv;simp only
   split
   ·have h2:=h.aP (u:={v with b:=v.b+cF a.kind a.data.size,n:=v.n+1}) hv rfl rfl;have gM:=hk.aP (u:={v with b:=v.b+cF a.kind a.data.size,n:=v.n+1}) hv rfl;exact h2.add gM he (by unfold Fs.aP;simp only[List.length_set];exact hdv) hu
   ·exact h
theorem vN{l:List En}(h:∀x∈l,Bz x.name){s:ByteArray}(hs:Bz s)(no:Int):∀x∈aV l s no,Bz x.name:=by
 intro x hx;unfold aV at hx;rcases List.mem_append.1 hx with hx|hx
 ·exact h x (List.mem_filter.1 hx).1
 ·rcases List.mem_cons.1 hx with rfl|hx
  ·exact hs
  ·exact h x (List.mem_filter.1 hx).1
theorem Pl.aE{S:Fs}(h:Pl S)(now dir:Int)(l:List En)(hl:∀x∈l,Bz x.name):Pl (S.aE now dir l):=by
 unfold Fs.aE
 split
 ·exact h
 ·rename_i d hd;exact h.set (b:=d) (by show S.get d.no=_;rw[bV hd];exact hd) rfl rfl rfl hl
theorem uq{s:ByteArray}(h:cH s=0):Bz s:=by
 refine⟨?_,?_⟩
 ·rintro rfl;revert h;decide
 ·unfold cH at h
  split at h
  ·cases h
  ·split at h
   ·cases h
   ·omega
theorem cD{S:Fs}{c:Cr}{dir:Int}{s:ByteArray}(h:S.aX c dir s=0):∃d,S.get dir=some d∧d.kind=1∧cH s=0:=by
 unfold Fs.aX at h
 split at h
 ·cases h
 ·rename_i d hd
  split at h
  ·cases h
  ·rename_i hk
   split at h
   ·rename_i he;exact absurd h he
   ·rename_i he;exact⟨d,hd,by simpa using hk,by simpa using he⟩
theorem AU{S:Fs}{N:Nat}(hk:ay S N)(a:An){k:Int}{d:An}(hd:S.get k=some d):(S.make a).1.get k=some d:=by
 unfold Fs.make
 split
 ·exact hd
 ·split
  ·exact hd
  ·rename_i v hv;simp only
   split
   ·have gM:=hk.aP (u:={v with b:=v.b+cF a.kind a.data.size,n:=v.n+1}) hv rfl;rw[gZ gM.nums,if_neg]
    ·exact hd
    ·have:=jv hk.nums hd;show¬k=S.last+1;omega
   ·exact hd
theorem Pl.bT{S:Fs}{N:Nat}(hk:ay S N)(h:Pl S){a:An}(c:Cr)(now dir:Int)(s:ByteArray)(he:a.au=[])(hu:a.kind=1→a.up=dir):Pl (S.bT c now dir s a).1:=by
 unfold Fs.bT
 split
 ·exact h
 ·rename_i hpl;obtain⟨d,hd,hdk,hce⟩:=cD (by simpa using hpl);rw[hd];simp only
  split
  ·exact h
  ·obtain⟨hdo,hdn,h1,h2⟩:=hk.get hd;have hm:=h.make hk (a:={a with dev:=d.dev,uid:=c.u,gid:=c.g,mtime:=now,ctime:=now,ak:=1}) he hdo.dev (fun hq=>by
    have:=hu hq;show 1≤a.up∧a.up≤S.last;omega)
   split
   ·exact h
   ·exact hm.aE _ _ _ (vN (h.names d (aO hd)) (uq hce) _)
theorem Pl.aN{S:Fs}{N:Nat}(hk:ay S N)(h:Pl S)(c:Cr)(now dir:Int)(s:ByteArray)(m:Int):Pl (S.aN c now dir s m).1:=by
 unfold Fs.aN
 split
 ·exact h
 ·exact h.bT hk c now dir s rfl (fun _=>rfl)
theorem Pl.file{S:Fs}{N:Nat}(hk:ay S N)(h:Pl S)(c:Cr)(now dir:Int)(s:ByteArray)(m:Int)(t:ByteArray):Pl (S.file c now dir s m t).1:=by
 unfold Fs.file
 split
 ·exact h
 ·split
  ·exact h
  ·exact h.bT hk c now dir s rfl (fun hq=>absurd hq (by dsimp only;decide))
theorem Pl.sym{S:Fs}{N:Nat}(hk:ay S N)(h:Pl S)(c:Cr)(now dir:Int)(s t:ByteArray):Pl (S.sym c now dir s t).1:=by
 unfold Fs.sym
 split
 ·exact h
 ·split
  ·exact h
  ·exact h.bT hk c now dir s rfl (fun hq=>absurd hq (by dsimp only;decide))
theorem Pl.dV{S:Fs}{N:Nat}(hk:ay S N)(h:Pl S)(c:Cr)(now no dir:Int)(s:ByteArray):Pl (S.dV c now no dir s).1:=by
 unfold Fs.dV
 split
 ·exact h
 ·rename_i hpl;obtain⟨d0,mY,hdk,hce⟩:=cD (by simpa using hpl)
  split
  ·rename_i d n hd hn
   split
   ·exact h
   ·split
    ·exact h
    ·split
     ·exact h
     ·split
      ·exact h
      ·refine Pl.aE (h.set (a:={n with ak:=n.ak+1,ctime:=now}) (b:=n) (by show S.get n.no=_;rw[bV hn];exact hn) rfl rfl rfl (h.names n (aO hn))) _ _ _ (vN (h.names d (aO hd)) (uq hce) _)
  ·exact h
theorem Pl.cq{S:Fs}(h:Pl S)(c:Cr)(now no m:Int):Pl (S.cq c now no m).1:=by
 unfold Fs.cq
 split
 ·exact h
 ·rename_i n hn
  split
  ·exact h
  ·split
   ·exact h
   ·exact h.set (b:=n) (by show S.get n.no=_;rw[bV hn];exact hn) rfl rfl rfl (h.names n (aO hn))
theorem Pl.cy{S:Fs}(h:Pl S)(c:Cr)(now no u g:Int):Pl (S.cy c now no u g).1:=by
 unfold Fs.cy
 split
 ·exact h
 ·rename_i n hn
  split
  ·exact h
  ·split
   ·exact h
   ·split
    ·exact h
    ·exact h.set (b:=n) (by show S.get n.no=_;rw[bV hn];exact hn) rfl rfl rfl (h.names n (aO hn))
theorem Pl.ct{S:Fs}(h:Pl S)(c:Cr)(now no t:Int):Pl (S.ct c now no t).1:=by
 unfold Fs.ct
 split
 ·exact h
 ·rename_i n hn
  split
  ·exact h
  ·split
   ·exact h
   ·exact h.set (b:=n) (by show S.get n.no=_;rw[bV hn];exact hn) rfl rfl rfl (h.names n (aO hn))
theorem Pl.bR{S:Fs}{N:Nat}(hk:ay S N)(h:Pl S)(k b n:Int):Pl (S.bR k b n).1:=by
 unfold Fs.bR
 split
 ·exact h
 ·rename_i a ha
  split
  ·exact h
  ·rename_i hd
   split
   ·exact h
   ·split
    ·exact h
    ·exact h.aD hk ha (by simpa using hd) b n
theorem Pl.bP{S:Fs}{N:Nat}(hk:ay S N)(h:Pl S)(m:Mt):Pl (bP S m):=by
 unfold Go.Proofs.YtabbjaomlmnnhaaGreat.bP
 split
 ·exact h
 ·split
  ·have h1:=h.aN hk cw 0 (S.path cw m.path false).1.dir (S.path cw m.path false).1.name 493;have gv:=gW hk cw 0 (S.path cw m.path false).1.dir (S.path cw m.path false).1.name 493;simp only
   split
   ·exact h1
   ·exact h1.bR gv _ _ _
  ·exact h.bR hk _ _ _
theorem Pl.aR{S:Fs}{N:Nat}(hk:ay S N)(h:Pl S)(l:List Mt):Pl (aR S l):=by
 induction l generalizing S N with
 |nil=>exact h
 |cons m l ih=>
  unfold Go.Proofs.YtabbjaomlmnnhaaGreat.aR;by_cases hm:m.path=kv
  ·rw[if_pos hm];exact ih hk h
  ·rw[if_neg hm];exact ih (mQ hk m) (h.bP hk m)
theorem Pl.cj{S:Fs}{N:Nat}(hk:ay S N)(h:Pl S)(it:It):Pl (cj S it).1:=by
 unfold Go.Proofs.YtabbjaomlmnnhaaGreat.cj;simp only
 split
 ·exact h
 ·split
  ·split<;>exact h
  ·split
   ·exact h.aN hk _ _ _ _ _
   ·split
    ·exact h.file hk _ _ _ _ _ _
    ·split
     ·exact h.sym hk _ _ _ _ _
     ·split
      ·split
       ·exact h.dV hk _ _ _ _ _
       ·exact h
      ·exact h
theorem Pl.dL{S:Fs}{N:Nat}(hk:ay S N)(h:Pl S)(it:It):Pl (dL S it).1:=by
 unfold Go.Proofs.YtabbjaomlmnnhaaGreat.dL;have h1:=h.cj hk it;simp only
 split
 ·exact(h1.cy _ _ _ _ _).cq _ _ _ _
 ·exact h1
theorem p5{S:Fs}{N:Nat}(h:ay S N)(it:It):ay (dL S it).1 (N+1):=by
 have:=jG h [it];exact this
theorem Pl.br{S:Fs}{N:Nat}(hk:ay S N)(h:Pl S)(l:List It):Pl (br S l).1:=by
 induction l generalizing S N with
 |nil=>exact h
 |cons x l ih=>exact ih (p5 hk x) (h.dL hk x)
theorem Pl.bO{S:Fs}(h:Pl S)(l:List (It×Int)):Pl (bO S l):=by
 induction l generalizing S with
 |nil=>exact h
 |cons x l ih=>
  unfold Go.Proofs.YtabbjaomlmnnhaaGreat.bO;refine ih ?_
  split
  ·exact h.ct _ _ _ _
  ·exact h
theorem I0(ms:List Mt)(is:List It):Pl (db ms is):=by
 unfold db;simp only;have hk:=ay.new (be ms).1 (be ms).2;exact Pl.bO (Pl.br (fV hk ms) (Pl.aR hk (Pl.new _ _) ms) is) _
end
section
open Go.RowKit
def Fs.dI(S:Fs)(base:Int):Nat→Int→Bool
 |0,_=>false
 |n+1,no=>if no=0 then false else if no=base then true else S.dI base n (S.bl no)
def Fs.within(S:Fs)(no base:Int):Bool:=S.dI base (S.ns.length+1) no
def Fs.busy(S:Fs)(no:Int):Bool:=(S.ds.drop 1).any (fun d=>S.within d.aB no)
def en(l:List En)(no:Int):Option ByteArray:=(l.find? (fun x=>x.no==no)).map (·.name)
def Fs.aI(S:Fs)(no:Int):List En:=match S.get no with|some a=>a.au|none=>[]
def Fs.child(S:Fs)(no:Int):Int:=match S.get no with
 |none=>no
 |some a=>if S.root a.dev=no∧1<a.dev then(match S.dev a.dev with|some v=>v.aB|none=>no) else no
def Fs.kg(S:Fs):Nat→Int→ByteArray→Option ByteArray
 |0,_,_=>none
 |n+1,no,s=>if no=1 then some (if s.size=0 then kv else s) else match en (S.aI (S.bl no)) (S.child no) with
  |none=>none
  |some nm=>S.kg n (S.bl no) (kv++nm++s)
def Fs.gI(S:Fs)(no:Int):Option ByteArray:=S.kg (S.ns.length+1) no ByteArray.empty
theorem yt(x:En)(l:List En)(no:Int):en (x::l) no=if x.no=no then some x.name else en l no:=by
 unfold en;rw[List.find?_cons];by_cases h:x.no=no
 ·rw[if_pos h,show(x.no==no)=true by simpa using h];rfl
 ·rw[if_neg h,show(x.no==no)=false by simpa using h]
theorem A2{l:List En}{no:Int}{s:ByteArray}(h:en l no=some s):∃x∈l,x.name=s:=by
 unfold en at h
 cases hf:l.find? (fun x=>x.no==no) with
 |none=>rw[hf] at h;cases h
 |some x=>
  rw[hf] at h;exact⟨x,List.mem_of_find?_eq_some hf,by simpa using h⟩
section
variable{S:Fs}{N:Nat}{no:Int}
theorem AT(hk:ay S N):S.get 0=none:=by
 cases h:S.get 0 with
 |none=>rfl
 |some a=>
  have:=(hk.get h).2.2.1;omega
theorem ux(hk:ay S N):S.bl 0=0:=jT (AT hk)
theorem qm(hk:ay S N):S.aI 0=[]:=by unfold Fs.aI;rw[AT hk]
theorem lH(hk:ay S N)(h:Pl S){no:Int}(hne:S.bl no≠no):S.bl no=0∨(1≤S.bl no∧S.bl no<no∧no≤S.last∧no≠1):=by
 cases hg:S.get no with
 |none=>exact .inl (jT hg)
 |some a=>
  by_cases hd:a.kind=1
  ·by_cases h1:no=1
   ·subst h1;exact absurd (wS hk h hg hd) hne
   ·have:=Bv hk h hg hd h1;exact .inr ⟨this.1,this.2,jv hk.nums hg,h1⟩
  ·exact .inl (uA hg hd)
theorem uy(h:S.bl no≠no)(h0:S.bl no≠0):∃a,S.get no=some a:=by
 cases hg:S.get no with
 |none=>exact absurd (jT hg) h0
 |some a=>exact⟨a,rfl⟩
def Fs.xB(S:Fs)(k:Int):Nat:=(S.ns.filter fun a=>decide (a.no≤k)).length
theorem DR(k:Int):S.xB k≤S.ns.length:=List.length_filter_le _ _
theorem xA{x y:Int}(hxy:x<y){a:An}(hy:S.get y=some a):S.xB x<S.xB y:=by
 have hsub:(S.ns.filter fun a=>decide (a.no≤x)).Sublist (S.ns.filter fun a=>decide (a.no≤y)):=by
  have:(S.ns.filter fun a=>decide (a.no≤x))=(S.ns.filter fun a=>decide (a.no≤y)).filter fun a=>decide (a.no≤x):=by
   rw[List.filter_filter];congr 1;funext b;by_cases hb:b.no≤x
   ·simp[hb];omega
   ·simp[hb]
  rw[this];exact List.filter_sublist
 rcases Nat.lt_or_ge (S.xB x) (S.xB y) with h|h
 ·exact h
 ·exfalso;have he:=hsub.eq_of_length_le h;have hm:a∈S.ns.filter fun a=>decide (a.no≤y):=List.mem_filter.2 ⟨aO hy,by have:=bV hy;simp;omega⟩;rw[←he] at hm;have:=(List.mem_filter.1 hm).2;have h2:=bV hy;simp at this;omega
theorem IP{a:An}{y:Int}(hy:S.get y=some a):1≤S.xB y:=by
 have:=xA (S:=S) (x:=y-1) (by omega) hy;omega
theorem GM(hk:ay S N)(h:Pl S){no:Int}(he:S.bl no=no):no=0∨no=1:=by
 cases hg:S.get no with
 |none=>rw[jT hg] at he;exact .inl he.symm
 |some a=>
  by_cases hd:a.kind=1
  ·by_cases h1:no=1
   ·exact .inr h1
   ·have:=Bv hk h hg hd h1;omega
  ·rw[uA hg hd] at he;exact .inl he.symm
theorem OX(hk:ay S N)(h:Pl S):1≤S.ns.length:=by
 obtain⟨a,ha,-⟩:=h.one;exact List.length_pos_of_mem (aO ha)
theorem wT(hk:ay S N)(h:Pl S):S.bl 1=1:=by
 obtain⟨a,hg,hd⟩:=h.one;exact wS hk h hg hd
theorem zt(base:Int)(n:Nat):S.dI base n 0=false:=by cases n<;>simp[Fs.dI]
theorem BX{base no:Int}(h1:S.bl no=no)(h2:no≠base)(n:Nat):S.dI base n no=false:=by
 induction n with
 |zero=>rfl
 |succ n ih=>
  rw[Fs.dI,if_neg h2,h1,ih]
  split<;>rfl
def Fs.FP(S:Fs)(k:Nat)(no:Int):Prop:=no=0∨S.xB no<k∧1≤k∨(S.bl no=0∧2≤k)
theorem CF(hk:ay S N)(h:Pl S)(no:Int):S.FP (S.ns.length+1) no:=.inr (.inl ⟨by have:=DR (S:=S) no;omega,by omega⟩)
theorem BW{no base:Int}{k:Nat}(hn:S.FP k no)(h0:no≠0)(hb:no=base):S.dI base k no=true:=by
 cases k with
 |zero=>rcases hn with h|⟨-,h⟩|⟨-,h⟩<;>omega
 |succ k=>unfold Fs.dI;rw[if_neg h0,if_pos hb]
theorem zu(hk:ay S N)(h:Pl S){no base:Int}{k:Nat}(hn:S.FP k no)(h0:no≠0)(hb:no≠base)(hu:S.bl no≠no):S.dI base k no=S.dI base (k-1) (S.bl no)∧S.FP (k-1) (S.bl no):=by
 have h1:1≤k:=by rcases hn with h|⟨-,h⟩|⟨-,h⟩<;>omega
 obtain⟨k,rfl⟩:∃j,k=j+1:=⟨k-1,by omega⟩;refine⟨by rw[Fs.dI,if_neg h0,if_neg hb];rfl,?_⟩;rcases lH hk h hu with h0|⟨h1,h2,h3,-⟩
 ·exact .inl h0
 ·obtain⟨a,ha⟩:=uy hu (by omega);have h4:=xA h2 ha;rcases hn with h|⟨h,-⟩|⟨h,-⟩
  ·exact absurd h h0
  ·exact .inr (.inl ⟨by omega,by omega⟩)
  ·omega
def jh(l:List (List UInt8)):List UInt8:=l.reverse.flatMap (fun s=>47::s)
theorem GH(l:List (List UInt8))(s:List UInt8):jh (l++[s])=47::(s++jh l):=by simp[jh]
theorem Bi(l:List (List UInt8)):jh l=[]↔l=[]:=by
 constructor
 ·intro h
  cases l with
  |nil=>rfl
  |cons x l=>simp[jh] at h
 ·rintro rfl;rfl
theorem Ke{l:List (List UInt8)}(h:∀x∈l,x.length≤255):(jh l).length≤256*l.length:=by
 unfold jh;rw[List.length_flatMap];have:∀m:List (List UInt8),(∀x∈m,x.length≤255)→(m.map (fun s=>(47::s).length)).sum≤256*m.length:=by
  intro m
  induction m with
  |nil=>intro _;simp
  |cons x m ih=>
   intro hx;have h1:=ih (fun y hy=>hx y (List.mem_cons_of_mem _ hy));have h2:=hx x List.mem_cons_self;simp only[List.map_cons,List.sum_cons,List.length_cons];simp only[List.length_cons] at h1;omega
 have h1:=this l.reverse (fun x hx=>h x (List.mem_reverse.1 hx));rw[List.length_reverse] at h1;exact h1
structure pB(S:Fs)(no0 no:Int)(l:List (List UInt8)):Prop where
 lR:l.length≤S.ns.length
 small:∀x∈l,x.length≤255
 eq:S.gI no0=S.kg (S.ns.length+1-l.length) no (str (jh l))
 room:S.xB no+l.length≤S.ns.length
theorem pB.start(h:Pl S)(no:Int):pB S no no []:=⟨Nat.zero_le _,(by intro x hx;cases hx),rfl,DR no⟩
theorem BY(hk:ay S N)(k:Nat)(s:ByteArray):S.kg k 0 s=none:=by
 cases k with
 |zero=>rfl
 |succ k=>
  unfold Fs.kg;rw[if_neg (by decide),ux hk,qm hk];rfl
theorem pB.top(hk:ay S N)(h:Pl S){no0:Int}{l:List (List UInt8)}(hs:pB S no0 1 l):S.gI no0=some (if l=[] then kv else str (jh l)):=by
 have h1:=OX hk h;have h3:=hs.room;have h2:1≤S.xB 1:=by
  obtain⟨a,ha,-⟩:=h.one;exact IP ha
 rw[hs.eq];obtain⟨k,hkk⟩:∃j,S.ns.length+1-l.length=j+1:=⟨S.ns.length-l.length,by omega⟩;rw[hkk];unfold Fs.kg;rw[if_pos rfl];by_cases hl:l=[]
 ·subst hl;rfl
 ·rw[if_neg hl,if_neg];rw[dn];intro h0;exact hl ((Bi l).1 (List.eq_nil_of_length_eq_zero h0))
theorem pB.other(hk:ay S N)(h:Pl S){no0 no:Int}{l:List (List UInt8)}(hs:pB S no0 no l)(he:S.bl no=no)(h1:no≠1):S.gI no0=none:=by
 obtain rfl:no=0:=(GM hk h he).resolve_right h1;rw[hs.eq,BY hk]
theorem pB.fail(hk:ay S N)(h:Pl S){no0 no:Int}{l:List (List UInt8)}(hs:pB S no0 no l)(hu:S.bl no≠no)(hn:en (S.aI (S.bl no)) (S.child no)=none):S.gI no0=none:=by
 rw[hs.eq];have h1:no≠1:=by
  rintro rfl;exact hu (wT hk h)
 cases S.ns.length+1-l.length with
 |zero=>rfl
 |succ k=>unfold Fs.kg;rw[if_neg h1,hn]
theorem uo(S:Fs)(no:Int):S.child no=match S.get no with
 |none=>no
 |some a=>if S.root a.dev=no∧1<a.dev then(match S.dev a.dev with|some v=>v.aB|none=>no) else no:=rfl
theorem Dr{no:Int}(hg:S.get no=none):S.child no=no:=by rw[uo,hg]
theorem Dp{no:Int}{a:An}(hg:S.get no=some a)(hr:S.root a.dev≠no):S.child no=no:=by rw[uo,hg];exact if_neg (fun h=>hr h.1)
theorem Dq(hk:ay S N)(h:Pl S){no:Int}{a:An}(hg:S.get no=some a)(hr:S.root a.dev=no)(h1:no≠1):1<a.dev∧∃v,S.dev a.dev=some v∧S.child no=v.aB:=by
 have hd:=(hk.get hg).1.dev;have xT:1<a.dev:=by
  rcases Int.lt_or_le 1 a.dev with h2|h2
  ·exact h2
  ·exfalso;have h3:a.dev=1:=by omega
   rw[h3,h.top] at hr;exact h1 hr.symm
 obtain⟨v,hv,-,-,-⟩:=jr hk hd.1 hd.2;refine⟨xT,v,hv,?_⟩;rw[uo,hg];show(if _ then _ else _)=_;rw[if_pos ⟨hr,xT⟩,hv]
theorem pB.more(hk:ay S N)(h:Pl S){no0 no:Int}{l:List (List UInt8)}(hs:pB S no0 no l)(hu:S.bl no≠no){s:ByteArray}(hn:en (S.aI (S.bl no)) (S.child no)=some s):pB S no0 (S.bl no) (l++[s.data.toList])∧l.length+1≤S.ns.length:=by
 have hab:1≤S.bl no∧S.bl no<no∧no≤S.last∧no≠1:=by
  rcases lH hk h hu with h0|h0
  ·rw[h0,qm hk] at hn
   cases hn
  ·exact h0
 obtain⟨h1,h2,h3,h4⟩:=hab;have hro:=hs.room;obtain⟨al,hal⟩:=uy hu (by omega);have hrk:=xA h2 hal;have hln:l.length+1≤S.ns.length:=by omega
 have hnm:Bz s:=by
  obtain⟨x,hx,rfl⟩:=A2 hn;unfold Fs.aI at hx
  cases hg:S.get (S.bl no) with
  |none=>rw[hg] at hx;cases hx
  |some a=>
   rw[hg] at hx;exact h.names a (aO hg) x hx
 refine⟨⟨by simp;omega,fun x hx=>?_,?_,by simp;omega⟩,hln⟩
 ·rcases List.mem_append.1 hx with hx|hx
  ·exact hs.small x hx
  ·simp at hx;subst hx;have:=hnm.2;have h5:s.data.toList.length=s.size:=Array.length_toList;omega
 ·rw[hs.eq,GH];obtain⟨k,hkk⟩:∃j,S.ns.length+1-l.length=j+1:=⟨S.ns.length-l.length,by omega⟩;rw[hkk,show S.ns.length+1-(l++[s.data.toList]).length=k by simp;omega,Fs.kg,if_neg h4,hn];show S.kg k _ _=S.kg k _ _;congr 1
end
end
section
open Go.RowKit
structure kM(S:Fs)(no:Int)(l:List En):Prop where
 down:∀x∈l,∃b,S.get x.no=some b∧(b.kind=1→b.up=no∧S.root b.dev≠b.no)
 once:l.Pairwise (fun x y=>x.no=y.no→∀b,S.get x.no=some b→b.kind≠1)
structure Tr(S:Fs):Prop where
 leaf:∀a∈S.ns,a.kind≠1→a.au=[]
 row:∀a∈S.ns,kM S a.no a.au
 zero:∀d,S.ds[0]?=some d→d.aB=0
 NP:∀(i:Nat) (hi:i<S.ds.length),∃r,S.get S.ds[i].root=some r∧r.kind=1∧r.dev=(i:Int)+1
def Sub(S S':Fs):Prop:=∀k c,S.get k=some c→∃c',S'.get k=some c'∧c'.kind=c.kind∧c'.up=c.up∧c'.dev=c.dev∧S'.root c.dev=S.root c.dev
theorem Sub.row{S S':Fs}(h:Sub S S'){no:Int}{l:List En}(hr:kM S no l):kM S' no l:=by
 refine⟨fun x hx=>?_,?_⟩
 ·obtain⟨b,hb,h1⟩:=hr.down x hx;obtain⟨c,hc,e1,e2,e3,e4⟩:=h _ _ hb;refine⟨c,hc,fun hk=>?_⟩;obtain⟨h2,h3⟩:=h1 (e1▸hk);rw[e2,e3,e4,bV hc,←bV hb];exact⟨h2,h3⟩
 ·have hd:=hr.down;have ho:=hr.once;clear hr
  induction l with
  |nil=>exact List.Pairwise.nil
  |cons y l ih=>
   rw[List.pairwise_cons] at ho⊢;refine⟨fun z hz he b hb=>?_,ih (fun x hx=>hd x (List.mem_cons_of_mem _ hx)) ho.2⟩;obtain⟨c,hc,-⟩:=hd y List.mem_cons_self;obtain⟨c',hc',e1,-⟩:=h _ _ hc;rw[hb] at hc';injection hc' with hc';subst hc';rw[e1];exact ho.1 z hz he c hc
theorem kM.put{S:Fs}{no:Int}{l:List En}(h:kM S no l)(s:ByteArray){k:Int}{b:An}(hb:S.get k=some b)(h1:b.kind=1→b.up=no∧S.root b.dev≠b.no)(h2:b.kind=1→∀x∈l,x.no≠k):kM S no (aV l s k):=by
 unfold aV;refine⟨fun x hx=>?_,?_⟩
 ·rcases List.mem_append.1 hx with hx|hx
  ·exact h.down x (List.mem_filter.1 hx).1
  ·rcases List.mem_cons.1 hx with rfl|hx
   ·exact⟨b,hb,h1⟩
   ·exact h.down x (List.mem_filter.1 hx).1
 ·have hk:∀x∈l,x.no=k→∀c,S.get x.no=some c→c.kind≠1:=fun x hx he c hc jH=>by
   rw[he,hb] at hc;injection hc with hc;subst hc;exact h2 jH x hx he
  rw[List.pairwise_append];refine⟨h.once.sublist List.filter_sublist,?_,fun x hx y hy=>?_⟩
  ·rw[List.pairwise_cons];refine⟨fun y hy he c hc=>?_,h.once.sublist List.filter_sublist⟩;refine hk y (List.mem_filter.1 hy).1 he.symm c ?_;rw[←he];exact hc
  ·rcases List.mem_cons.1 hy with rfl|hy
   ·intro he c hc;exact hk x (List.mem_filter.1 hx).1 he c hc
   ·intro he c hc;have hx':=(List.mem_filter.1 hx);have hy':=(List.mem_filter.1 hy);obtain⟨i,hi,rfl⟩:=List.mem_iff_getElem.1 hx'.1;obtain⟨j,hj,rfl⟩:=List.mem_iff_getElem.1 hy'.1;rcases Nat.lt_trichotomy i j with hij|hij|hij
    ·exact List.pairwise_iff_getElem.1 h.once i j hi hj hij he c hc
    ·subst hij;have e1:=hx'.2;have e2:=hy'.2;rw[kF (by simpa using e1)] at e2
     cases e2
    ·exact List.pairwise_iff_getElem.1 h.once j i hj hi hij he.symm c (by rw[←he];exact hc)
theorem Tr.set{S:Fs}(h:Tr S){a b:An}(hb:S.get a.no=some b)(hk:a.kind=b.kind)(hd:a.dev=b.dev)(hu:a.up=b.up)(hl:a.kind≠1→a.au=[])(hr:kM S a.no a.au):Tr (S.set a):=by
 have hsub:Sub S (S.set a):=fun k c hc=>by
  rw[fC hb];by_cases hka:k=a.no
  ·rw[if_pos hka];rw[hka,hb] at hc;injection hc with hc;subst hc;exact⟨a,rfl,hk,hu,hd,rfl⟩
  ·rw[if_neg hka];exact⟨c,hc,rfl,rfl,rfl,rfl⟩
 refine⟨fun y hy=>?_,fun y hy=>hsub.row ?_,h.zero,fun i hi=>?_⟩
 ·unfold Fs.set at hy;simp only[List.mem_map] at hy;obtain⟨z,hz,rfl⟩:=hy
  split
  ·exact hl
  ·exact h.leaf z hz
 ·unfold Fs.set at hy;simp only[List.mem_map] at hy;obtain⟨z,hz,rfl⟩:=hy
  split
  ·exact hr
  ·exact h.row z hz
 ·obtain⟨r,h1,h2,h3⟩:=h.NP i hi;obtain⟨c,hc,e1,-,e3,-⟩:=hsub _ _ h1;exact⟨c,hc,by rw[e1];exact h2,by rw[e3];exact h3⟩
theorem iQ{S:Fs}{d:Int}{v u:Dv}(hv:S.dev d=some v)(hr:u.root=v.root)(e:Int):(S.aP d u).root e=S.root e:=by
 unfold Fs.dev at hv
 split at hv
 ·have hi:=(List.getElem?_eq_some_iff.1 hv).1;unfold Fs.root Fs.aP;simp only[List.length_set,List.getElem?_set]
  split
  ·by_cases hq:(d-1).toNat=(e-1).toNat
   ·rw[if_pos hq,←hq,hv]
    first|exact hr|(rw[if_pos hi];exact hr)
   ·rw[if_neg hq]
  ·rfl
 ·cases hv
theorem Tr.aP{S:Fs}(h:Tr S){d:Int}{v u:Dv}(hv:S.dev d=some v)(hr:u.root=v.root)(ho:u.aB=v.aB):Tr (S.aP d u):=by
 have hsub:Sub S (S.aP d u):=fun k c hc=>⟨c,hc,rfl,rfl,rfl,iQ hv hr _⟩;have hv0:=hv;unfold Fs.dev at hv
 split at hv
 ·have hi:=(List.getElem?_eq_some_iff.1 hv).1;have hvi:=(List.getElem?_eq_some_iff.1 hv).2;refine⟨h.leaf,fun y hy=>hsub.row (h.row y hy),fun e he=>?_,fun i G7=>?_⟩
  ·unfold Fs.aP at he;simp only[List.getElem?_set] at he;by_cases hq:(d-1).toNat=0
   ·rw[if_pos hq] at he;rw[hq] at hv
    split at he
    ·injection he with he;rw[←he,ho];exact h.zero v hv
    ·rename_i uV;exact absurd hi uV
   ·rw[if_neg hq] at he;exact h.zero e he
  ·have rj:i<S.ds.length:=by
    have:=G7;unfold Fs.aP at this;simpa using this
   obtain⟨r,h1,h2,h3⟩:=h.NP i rj;have he:(S.aP d u).ds[i]=if(d-1).toNat=i then u else S.ds[i]:=
    List.getElem_set (l:=S.ds) (i:=(d-1).toNat) (a:=u) (j:=i) (by rw[List.length_set];exact rj)
   rw[he];by_cases hq:(d-1).toNat=i
   ·subst hq;rw[if_pos rfl,hr,←hvi];exact⟨r,h1,h2,h3⟩
   ·rw[if_neg hq];exact⟨r,h1,h2,h3⟩
 ·cases hv
theorem xm{S:Fs}{N:Nat}(hk:ay S N)(a:An):Sub S (S.add a):=fun k c hc=>by
 refine⟨c,?_,rfl,rfl,rfl,rfl⟩;rw[gZ hk.nums,if_neg]
 ·exact hc
 ·have:=jv hk.nums hc;omega
theorem Tr.add{S:Fs}{N:Nat}(hk:ay S N)(h:Tr S){a:An}(he:a.au=[]):Tr (S.add a):=by
 have hsub:=xm hk a;refine⟨fun y hy hyk=>?_,fun y hy=>?_,h.zero,fun i hi=>?_⟩
 ·rcases List.mem_append.1 hy with hy|hy
  ·exact h.leaf y hy hyk
  ·simp at hy;subst hy;exact he
 ·rcases List.mem_append.1 hy with hy|hy
  ·exact hsub.row (h.row y hy)
  ·simp at hy;subst hy;rw[show({a with no:=S.last+1}:An).au=a.au from rfl,he];exact⟨fun x hx=>(by cases hx),List.Pairwise.nil⟩
 ·obtain⟨r,h1,h2,h3⟩:=h.NP i hi;obtain⟨c,hc,e1,-,e3,-⟩:=hsub _ _ h1;exact⟨c,hc,by rw[e1];exact h2,by rw[e3];exact h3⟩
theorem lG(S:Fs)(k b n:Int){e:Int}(he:e≤S.ds.length):(S.aD k b n).root e=S.root e:=by
 unfold Fs.root Fs.aD;simp only[List.length_append,List.length_singleton];by_cases h1:(1:Int)≤e
 ·rw[if_pos ⟨h1,by omega⟩,if_pos ⟨h1,he⟩,List.getElem?_append_left (by omega)]
 ·rw[if_neg (fun h=>h1 h.1),if_neg (fun h=>h1 h.1)]
theorem q'{S:Fs}(hn:eU S)(k b n:Int):(S.aD k b n).get (S.last+1)=some {dD with no:=S.last+1,dev:=S.ds.length+1,kind:=1,mode:=493,ak:=1,up:=S.last+1}:=by
 have:=gZ hn {dD with dev:=S.ds.length+1,kind:=1,mode:=493,ak:=1,up:=S.last+1} (S.last+1);rw[if_pos rfl] at this;exact this
theorem Tr.aD{S:Fs}(hn:eU S)(hdev:∀a∈S.ns,a.dev≤S.ds.length)(h:Tr S)(k b n:Int)(h0:S.ds=[]→k=0):Tr (S.aD k b n):=by
 have hsub:Sub S (S.aD k b n):=fun q c hq=>by
  refine⟨c,?_,rfl,rfl,rfl,lG S k b n (hdev c (aO hq))⟩;unfold Fs.get Fs.aD at *;simp only[List.find?_append,hq,Option.some_or]
 refine⟨fun y hy hyk=>?_,fun y hy=>?_,fun d hd=>?_,fun i hi=>?_⟩
 ·rcases List.mem_append.1 hy with hy|hy
  ·exact h.leaf y hy hyk
  ·simp at hy;subst hy;rfl
 ·rcases List.mem_append.1 hy with hy|hy
  ·exact hsub.row (h.row y hy)
  ·simp at hy;subst hy;exact⟨fun x hx=>by simp[dD] at hx,List.Pairwise.nil⟩
 ·unfold Fs.aD at hd
  cases hds:S.ds with
  |nil=>
   rw[hds] at hd;simp at hd;rw[←hd];exact h0 hds
  |cons x l=>
   rw[hds] at hd;simp at hd;subst hd;exact h.zero x (by rw[hds];rfl)
 ·by_cases G7:i<S.ds.length
  ·obtain⟨r,h1,h2,h3⟩:=h.NP i G7;have he:(S.aD k b n).ds[i]=S.ds[i]:=List.getElem_append_left G7;rw[he];obtain⟨c,hc,e1,-,e3,-⟩:=hsub _ _ h1;exact⟨c,hc,by rw[e1];exact h2,by rw[e3];exact h3⟩
  ·have rj:i=S.ds.length:=by
    have h4:i<(S.ds++[(⟨S.last+1,k,1,1,b,n⟩:Dv)]).length:=hi;rw[List.length_append,List.length_singleton] at h4;omega
   subst rj;have he:(S.aD k b n).ds[S.ds.length]=⟨S.last+1,k,1,1,b,n⟩:=by
    have h5:(S.ds++[(⟨S.last+1,k,1,1,b,n⟩:Dv)])[S.ds.length]?=some ⟨S.last+1,k,1,1,b,n⟩:=by
     rw[List.getElem?_append_right (aa _)];simp
    exact(List.getElem?_eq_some_iff.1 h5).2
   rw[he];exact⟨_,q' hn k b n,rfl,rfl⟩
theorem Tr.new(b n:Int):Tr (qh.aD 0 b n):=
 Tr.aD ⟨List.Pairwise.nil,fun x hx=>by cases hx⟩ (fun x hx=>by cases hx) ⟨fun x hx=>(by cases hx),fun x hx=>(by cases hx),fun d hd=>(by cases hd),fun i hi=>(by cases hi)⟩ 0 b n (fun _=>rfl)
theorem Tr.make{S:Fs}{N:Nat}(hk:ay S N)(h:Tr S){a:An}(he:a.au=[]):Tr (S.make a).1∧Sub S (S.make a).1∧((S.make a).2.2=0→(S.make a).2.1=S.last+1∧(S.make a).1.get (S.last+1)=some {a with no:=S.last+1}∧(S.make a).1.root a.dev=S.root a.dev):=by
 have hrefl:Sub S S:=fun k c hc=>⟨c,hc,rfl,rfl,rfl,rfl⟩;unfold Fs.make
 split
 ·exact⟨h,hrefl,fun h=>by cases h⟩
 ·split
  ·exact⟨h,hrefl,fun h=>by cases h⟩
  ·rename_i v hv;simp only
   split
   ·have h2:=h.aP (u:={v with b:=v.b+cF a.kind a.data.size,n:=v.n+1}) hv rfl rfl;have gM:=hk.aP (u:={v with b:=v.b+cF a.kind a.data.size,n:=v.n+1}) hv rfl;have hrt:=iQ (u:={v with b:=v.b+cF a.kind a.data.size,n:=v.n+1}) hv rfl;refine⟨h2.add gM he,fun k c hc=>?_,fun _=>⟨rfl,?_,hrt _⟩⟩
    ·obtain⟨c',h3,h4,h5,h6,-⟩:=xm gM a k c hc;exact⟨c',h3,h4,h5,h6,hrt _⟩
    ·show Fs.get (Fs.add _ a) (S.last+1)=_;rw[gZ gM.nums];exact if_pos rfl
   ·rename_i lx;exact⟨h,hrefl,fun h=>absurd h lx⟩
theorem Tr.aE{S:Fs}(h:Tr S)(now dir:Int)(l:List En)(hl:∀d,S.get dir=some d→d.kind=1∧kM S dir l):Tr (S.aE now dir l):=by
 unfold Fs.aE
 split
 ·exact h
 ·rename_i d hd;obtain⟨h1,h2⟩:=hl d hd;exact h.set (b:=d) (by show S.get d.no=_;rw[bV hd];exact hd) rfl rfl rfl (fun hq=>absurd h1 hq) (by show kM S d.no l;rw[bV hd];exact h2)
theorem Tr.bT{S:Fs}{N:Nat}(hk:ay S N)(h:Tr S){a:An}(c:Cr)(now dir:Int)(s:ByteArray)(he:a.au=[])(hu:a.kind=1→a.up=dir):Tr (S.bT c now dir s a).1:=by
 unfold Fs.bT
 split
 ·exact h
 ·rename_i hpl;obtain⟨d,hd,hdk,hce⟩:=cD (by simpa using hpl);rw[hd];simp only
  split
  ·exact h
  ·obtain⟨hdo,hdn,h1,h2⟩:=hk.get hd;obtain⟨m1,m2,m3⟩:=h.make hk (a:={a with dev:=d.dev,uid:=c.u,gid:=c.g,mtime:=now,ctime:=now,ak:=1}) he
   split
   ·exact h
   ·rename_i h0;obtain⟨e1,e2,e3⟩:=m3 (by simpa using h0);refine m1.aE _ _ _ fun d2 iG=>?_;obtain⟨d3,uY,im,-⟩:=m2 _ _ hd;rw[iG] at uY;injection uY with uY;subst uY;refine⟨by rw[im];exact hdk,?_⟩;have hrow:=m2.row (h.row d (aO hd));rw[bV hd] at hrow;rw[e1];refine hrow.put s e2 (fun hq=>⟨hu hq,?_⟩) (fun _ x hx=>?_)
    ·show Fs.root _ d.dev≠S.last+1;rw[e3];show S.root d.dev≠S.last+1;obtain⟨v,-,hrt,-,hm⟩:=jr hk hdo.dev.1 hdo.dev.2;have h4:=(hk.root v hm).2;omega
    ·obtain⟨y,hy,-⟩:=(h.row d (aO hd)).down x hx;have:=jv hk.nums hy;omega
theorem Tr.aN{S:Fs}{N:Nat}(hk:ay S N)(h:Tr S)(c:Cr)(now dir:Int)(s:ByteArray)(m:Int):Tr (S.aN c now dir s m).1:=by
 unfold Fs.aN
 split
 ·exact h
 ·exact h.bT hk c now dir s rfl (fun _=>rfl)
theorem Tr.file{S:Fs}{N:Nat}(hk:ay S N)(h:Tr S)(c:Cr)(now dir:Int)(s:ByteArray)(m:Int)(t:ByteArray):Tr (S.file c now dir s m t).1:=by
 unfold Fs.file
 split
 ·exact h
 ·split
  ·exact h
  ·exact h.bT hk c now dir s rfl (fun hq=>absurd hq (by dsimp only;decide))
theorem Tr.sym{S:Fs}{N:Nat}(hk:ay S N)(h:Tr S)(c:Cr)(now dir:Int)(s t:ByteArray):Tr (S.sym c now dir s t).1:=by
 unfold Fs.sym
 split
 ·exact h
 ·split
  ·exact h
  ·exact h.bT hk c now dir s rfl (fun hq=>absurd hq (by dsimp only;decide))
theorem Tr.same{S:Fs}(h:Tr S){n m:An}(hn:S.get n.no=some n)(h0:m.no=n.no)(h1:m.kind=n.kind)(h2:m.dev=n.dev)(h3:m.up=n.up)(h4:m.au=n.au):Tr (S.set m):=
 h.set (b:=n) (by rw[h0];exact hn) h1 h2 h3 (by rw[h1,h4];exact h.leaf n (aO hn)) (by rw[h0,h4];exact h.row n (aO hn))
theorem bH{S:Fs}{k:Int}{n:An}(h:S.get k=some n):S.get n.no=some n:=by rw[bV h];exact h
theorem Tr.dV{S:Fs}(h:Tr S)(c:Cr)(now no dir:Int)(s:ByteArray):Tr (S.dV c now no dir s).1:=by
 unfold Fs.dV
 split
 ·exact h
 ·rename_i hpl;obtain⟨d0,mY,hdk,hce⟩:=cD (by simpa using hpl)
  split
  ·rename_i d n hd hn;rw[hd] at mY;injection mY with mY;subst mY
   split
   ·exact h
   ·rename_i hnk
    split
    ·exact h
    ·split
     ·exact h
     ·split
      ·exact h
      ·have hs:=h.same (m:={n with ak:=n.ak+1,ctime:=now}) (bH hn) rfl rfl rfl rfl rfl;have hset:S.get ({n with ak:=n.ak+1,ctime:=now}:An).no=some n:=bH hn;have hno:=bV hn;refine hs.aE _ _ _ fun d2 iG=>?_;rw[fC hset] at iG;have hdn:dir≠n.no:=by
        rintro rfl;rw[hset] at hd;injection hd with hd;subst hd;exact hnk hdk
       rw[if_neg hdn,hd] at iG;injection iG with iG;subst iG;refine⟨hdk,?_⟩;have hsub:Sub S (S.set {n with ak:=n.ak+1,ctime:=now}):=fun k c hc=>by
        rw[fC hset]
        split
        ·rename_i hkn;rw[hkn,hset] at hc;injection hc with hc;subst hc;exact⟨_,rfl,rfl,rfl,rfl,rfl⟩
        ·exact⟨c,hc,rfl,rfl,rfl,rfl⟩
       have hrow:=hsub.row (h.row d (aO hd));rw[bV hd] at hrow;refine hrow.put s (b:={n with ak:=n.ak+1,ctime:=now}) ?_ (fun hq=>absurd hq hnk) (fun hq=>absurd hq hnk);rw[fC hset,if_pos hno.symm]
  ·exact h
theorem Tr.cq{S:Fs}(h:Tr S)(c:Cr)(now no m:Int):Tr (S.cq c now no m).1:=by
 unfold Fs.cq
 split
 ·exact h
 ·rename_i n hn
  split
  ·exact h
  ·split
   ·exact h
   ·exact h.same (bH hn) rfl rfl rfl rfl rfl
theorem Tr.cy{S:Fs}(h:Tr S)(c:Cr)(now no u g:Int):Tr (S.cy c now no u g).1:=by
 unfold Fs.cy
 split
 ·exact h
 ·rename_i n hn
  split
  ·exact h
  ·split
   ·exact h
   ·split
    ·exact h
    ·exact h.same (bH hn) rfl rfl rfl rfl rfl
theorem Tr.ct{S:Fs}(h:Tr S)(c:Cr)(now no t:Int):Tr (S.ct c now no t).1:=by
 unfold Fs.ct
 split
 ·exact h
 ·rename_i n hn
  split
  ·exact h
  ·split
   ·exact h
   ·exact h.same (bH hn) rfl rfl rfl rfl rfl
theorem Tr.bR{S:Fs}{N:Nat}(hk:ay S N)(h:Tr S)(k b n:Int):Tr (S.bR k b n).1:=by
 unfold Fs.bR
 split
 ·exact h
 ·split
  ·exact h
  ·split
   ·exact h
   ·split
    ·exact h
    ·exact h.aD hk.nums (fun a ha=>(hk.all a ha).dev.2) k b n (fun h0=>by
      have:=hk.d1;rw[h0] at this
      cases this)
theorem Tr.bP{S:Fs}{N:Nat}(hk:ay S N)(h:Tr S)(m:Mt):Tr (bP S m):=by
 unfold Go.Proofs.YtabbjaomlmnnhaaGreat.bP
 split
 ·exact h
 ·split
  ·have h1:=h.aN hk cw 0 (S.path cw m.path false).1.dir (S.path cw m.path false).1.name 493;have gv:=gW hk cw 0 (S.path cw m.path false).1.dir (S.path cw m.path false).1.name 493;simp only
   split
   ·exact h1
   ·exact h1.bR gv _ _ _
  ·exact h.bR hk _ _ _
theorem Tr.aR{S:Fs}{N:Nat}(hk:ay S N)(h:Tr S)(l:List Mt):Tr (aR S l):=by
 induction l generalizing S N with
 |nil=>exact h
 |cons m l ih=>
  unfold Go.Proofs.YtabbjaomlmnnhaaGreat.aR;by_cases hm:m.path=kv
  ·rw[if_pos hm];exact ih hk h
  ·rw[if_neg hm];exact ih (mQ hk m) (h.bP hk m)
theorem Tr.cj{S:Fs}{N:Nat}(hk:ay S N)(h:Tr S)(it:It):Tr (cj S it).1:=by
 unfold Go.Proofs.YtabbjaomlmnnhaaGreat.cj;simp only
 split
 ·exact h
 ·split
  ·split<;>exact h
  ·split
   ·exact h.aN hk _ _ _ _ _
   ·split
    ·exact h.file hk _ _ _ _ _ _
    ·split
     ·exact h.sym hk _ _ _ _ _
     ·split
      ·split
       ·exact h.dV _ _ _ _ _
       ·exact h
      ·exact h
theorem Tr.dL{S:Fs}{N:Nat}(hk:ay S N)(h:Tr S)(it:It):Tr (dL S it).1:=by
 unfold Go.Proofs.YtabbjaomlmnnhaaGreat.dL;have h1:=h.cj hk it;simp only
 split
 ·exact(h1.cy _ _ _ _ _).cq _ _ _ _
 ·exact h1
theorem Tr.br{S:Fs}{N:Nat}(hk:ay S N)(h:Tr S)(l:List It):Tr (br S l).1:=by
 induction l generalizing S N with
 |nil=>exact h
 |cons x l ih=>exact ih (p5 hk x) (h.dL hk x)
theorem Tr.bO{S:Fs}(h:Tr S)(l:List (It×Int)):Tr (bO S l):=by
 induction l generalizing S with
 |nil=>exact h
 |cons x l ih=>
  unfold Go.Proofs.YtabbjaomlmnnhaaGreat.bO;refine ih ?_
  split
  ·exact h.ct _ _ _ _
  ·exact h
theorem IZ(ms:List Mt)(is:List It):Tr (db ms is):=by
 unfold db;simp only;have hk:=ay.new (be ms).1 (be ms).2;exact Tr.bO (Tr.br (fV hk ms) (Tr.aR hk (Tr.new _ _) ms) is) _
end
end Go.Proofs.YtabbjaomlmnnhaaGreat
