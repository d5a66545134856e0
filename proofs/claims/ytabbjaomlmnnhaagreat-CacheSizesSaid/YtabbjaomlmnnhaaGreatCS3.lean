import Derived.Test.YtabbjaomlmnnhaaGreatCS1
import Derived.Test.YtabbjaomlmnnhaaGreatCS2
set_option linter.unusedVariables false
set_option linter.unusedSimpArgs false
set_option maxRecDepth 100000
set_option maxHeartbeats 16000000
namespace Go.Proofs.YtabbjaomlmnnhaaGreat
section
open Go.RowKit
def tB(cu cg uid gid mode want:Int):Bool:=
 if cu=0 then true else
  (bits .and .i64 (bits .and .i64 (if cu=uid then mode / 64 else if cg=gid then mode / 8 else mode) want) 7==bits .and .i64 want 7)
structure Cr where
 u:Int
 g:Int
def An.may(a:An)(c:Cr)(want:Int):Bool:=tB c.u c.g a.uid a.gid a.mode want
def fV(c:Cr)(a:An):Bool:=(c.u==0)||(c.u==a.uid)
def GV(u g:Int):Bool:=decide (0≤u∧u≤2147483648∧0≤g∧g≤2147483648)
def Fs.dev(S:Fs)(d:Int):Option Dv:=if 1≤d then S.ds[(d-1).toNat]? else none
def Fs.bp(S:Fs)(d:Int)(v:Dv):Fs:={S with ds:=S.ds.set (d-1).toNat v}
def Fs.aH(S:Fs)(aC blocks nodes:Int):Fs:=
 {ns:=S.ns++[{cS with no:=S.last+1,dev:=S.ds.length+1,kind:=1,mode:=493,ao:=1,up:=S.last+1}]
  ds:=S.ds++[⟨S.last+1,aC,1,1,blocks,nodes⟩]
  last:=S.last+1}
def p7:Fs:=⟨[],[],0⟩
def Fs.bT(S:Fs)(k blocks nodes:Int):Fs×Int×Int:=
 match S.get k with
 |none=>(S,0,5)
 |some a=>
  if a.kind≠1 then(S,0,9)
  else if S.aC k≠k∨S.root a.dev=k then(S,0,16)
  else if 8≤S.ds.length∨gl blocks nodes=false then(S,0,3)
  else(S.aH k blocks nodes,S.last+1,0)
def Fs.aX(S:Fs)(k:Int):Int:=
 match S.get k with
 |none=>0
 |some a=>
  if a.kind≠1 then 0
  else if S.root a.dev=k∧1<a.dev then
   (match S.dev a.dev with
    |none=>0
    |some v=>match S.get v.aC with|none=>0|some b=>b.up)
  else a.up
def Fs.make(S:Fs)(a:An):Fs×Int×Int:=
 if S.root a.dev=0 then(S,0,1) else
 match S.dev a.dev with
 |none=>(S,0,1)
 |some v=>
  let e:=kE v.b v.n v.mb v.mn (cR a.kind a.data.size) 1
  if e=0 then(((S.bp a.dev {v with b:=v.b+cR a.kind a.data.size,n:=v.n+1}).add a),S.last+1,0)
  else(S,0,e)
def bF(l:List UInt8):List (List UInt8):=(ku 47 l).filter fun p=>!(p==[]) && !(p==[46])
def eD(l:List UInt8):Bool:=gK l==[]||gK l==[46]||gK l==[46,46]
structure Fd where
 dir:Int
 name:ByteArray
 no:Int
 Bb:Bool
def gb:Fd:=⟨0,ByteArray.empty,0,false⟩
def Fs.step(S:Fs)(c:Cr)(at':Int)(p:List UInt8):Int×Int:=
 match S.get at' with
 |none=>(0,9)
 |some d=>
  if d.kind≠1 then(0,9)
  else if d.may c 1=false then(0,6)
  else if p=[46,46] then(S.aX at',0)
  else if 255<p.length then(0,13)
  else(S.aC (aF d.ay (str p)),0)
def Fs.bY(S:Fs)(c:Cr)(follow:Bool)(k:Option (Int→Bool→List (List UInt8)→Fd×Int)):List (List UInt8)→Int→Bool→Fd×Int
 | [],at',_=>(⟨0,ByteArray.empty,at',true⟩,0)
 |p::l,at',must=>
  let r:=S.step c at' p
  if r.2≠0 then(gb,r.2)
  else if p=[46,46] then S.bY c follow k l r.1 must
  else match S.get r.1 with
  |none=>if l=[] then(⟨at',str p,0,must⟩,0) else(gb,5)
  |some n=>
   if n.kind=3∧(l≠[]∨must=true∨follow=true) then
    (match k with
     |none=>(gb,12)
     |some k=>
      if n.data.data.toList=[] then(gb,5)
      else k (if n.data.data.toList.head?=some 47 then 1 else at') (if l=[] then must||eD n.data.data.toList else must) (bF n.data.data.toList++l))
   else if n.kind≠1∧(l≠[]∨must=true) then(gb,9)
   else if l=[] then(⟨at',str p,r.1,must⟩,0)
   else S.bY c follow k l r.1 must
def Fs.eA(S:Fs)(c:Cr)(follow:Bool):Nat→Int→Bool→List (List UInt8)→Fd×Int
 |0,at',must,l=>S.bY c follow none l at' must
 |h+1,at',must,l=>S.bY c follow (some (S.eA c follow h)) l at' must
def Fs.path(S:Fs)(c:Cr)(s:ByteArray)(follow:Bool):Fd×Int:=
 if ej s≠0 then(gb,ej s) else S.eA c follow 8 1 (eD s.data.toList) (bF s.data.toList)
def cx(s:ByteArray):Int:=
 if s.data.toList=[]∨s.data.toList=[46]∨s.data.toList=[46,46]∨(47:UInt8)∈s.data.toList∨(0:UInt8)∈s.data.toList then 1 else if 255<s.size then 13 else 0
def Fs.aP(S:Fs)(c:Cr)(dir:Int)(s:ByteArray):Int:=
 match S.get dir with
 |none=>5
 |some d=>if d.kind≠1 then 9 else if cx s≠0 then cx s else if d.may c 3=false then 6 else 0
def Fs.bE(S:Fs)(now dir:Int)(l:List En):Fs:=
 match S.get dir with
 |none=>S
 |some d=>S.set {d with ay:=l,mtime:=now,ctime:=now}
def Fs.cC(S:Fs)(c:Cr)(now dir:Int)(s:ByteArray)(a:An):Fs×Int×Int:=
 if S.aP c dir s≠0 then(S,0,S.aP c dir s) else
 match S.get dir with
 |none=>(S,0,5)
 |some d=>
  if aF d.ay s≠0 then(S,0,7)
  else
   let r:=S.make {a with dev:=d.dev,uid:=c.u,gid:=c.g,mtime:=now,ctime:=now,ao:=1}
   if r.2.2≠0 then(S,0,r.2.2)
   else(r.1.bE now dir (ct d.ay s r.2.1),r.2.1,0)
def Fs.aO(S:Fs)(c:Cr)(now dir:Int)(s:ByteArray)(mode:Int):Fs×Int×Int:=
 if mode<0∨1023<mode then(S,0,1) else S.cC c now dir s {cS with kind:=1,mode:=mode,up:=dir}
def Fs.file(S:Fs)(c:Cr)(now dir:Int)(s:ByteArray)(mode:Int)(data:ByteArray):Fs×Int×Int:=
 if mode<0∨1023<mode then(S,0,1) else if 1048576<data.size then(S,0,3) else S.cC c now dir s {cS with kind:=2,mode:=mode,data:=data}
def Fs.sym(S:Fs)(c:Cr)(now dir:Int)(s text:ByteArray):Fs×Int×Int:=
 if text.data.toList=[]∨(0:UInt8)∈text.data.toList then(S,0,1) else if 4096<text.size then(S,0,13) else S.cC c now dir s {cS with kind:=3,mode:=511,data:=text}
def Fs.ez(S:Fs)(c:Cr)(now no dir:Int)(s:ByteArray):Fs×Int:=
 if S.aP c dir s≠0 then(S,S.aP c dir s) else
 match S.get dir,S.get no with
 |some d,some n=>
  if n.kind=1 then(S,4)
  else if aF d.ay s≠0 then(S,7)
  else if n.dev≠d.dev then(S,11)
  else if 1000≤n.ao then(S,18)
  else((S.set {n with ao:=n.ao+1,ctime:=now}).bE now dir (ct d.ay s no),0)
 |_,_=>(S,5)
def Fs.cw(S:Fs)(c:Cr)(now no mode:Int):Fs×Int:=
 match S.get no with
 |none=>(S,5)
 |some n=>if fV c n=false then(S,4) else if mode<0∨1023<mode∨n.kind=3 then(S,1) else(S.set {n with mode:=mode,ctime:=now},0)
def Fs.cD(S:Fs)(c:Cr)(now no u g:Int):Fs×Int:=
 match S.get no with
 |none=>(S,5)
 |some n=>if fV c n=false then(S,4) else if c.u≠0 then(S,4) else if GV u g=false then(S,1) else(S.set {n with uid:=u,gid:=g,ctime:=now},0)
def Fs.cA(S:Fs)(c:Cr)(now no t:Int):Fs×Int:=
 match S.get no with
 |none=>(S,5)
 |some n=>if fV c n=false then(S,4) else if t<0∨253402300799<t then(S,1) else(S.set {n with mtime:=t,ctime:=now},0)
structure Sy where
 fs:Fs
 now:Int
 count:Int
 bQ:List (Int×Int)
 dead:Bool
def Sy.change(Y:Sy):Sy×Int:=
 if Y.dead then(Y,20) else
 match Y.bQ.find? (fun x=>x.1==Y.count+1) with
 |none=>({Y with count:=Y.count+1},0)
 |some x=>({Y with count:=Y.count+1,dead:=x.2==20},x.2)
end
section
open Go.RowKit
theorem uO(l:List En)(n:ByteArray)(no:Int)(h:gQ l):(ct l n no).length≤l.length+1:=by
 rw[EZ h,List.length_append,List.length_take,List.length_cons,List.length_drop];have:=rQ l n;omega
structure pQ(a:An)(D N:Nat):Prop where
 eE:gQ a.ay
 mJ:a.ay.length≤N
 dev:1≤a.dev∧a.dev≤D
 ao:0≤a.ao∧a.ao≤1000
 data:a.data.size≤1048576
 mode:0≤a.mode∧a.mode≤1023
 kind:1≤a.kind∧a.kind≤3
 nz:∀x∈a.ay,1≤x.no
 sy:a.kind=3→a.data.size≤4096
theorem zT{l:List En}(h:∀x∈l,1≤x.no)(n:ByteArray){no:Int}(hn:1≤no):∀x∈ct l n no,1≤x.no:=by
 intro x hx;unfold ct at hx;rcases List.mem_append.1 hx with hx|hx
 ·exact h x (List.mem_filter.1 hx).1
 ·rcases List.mem_cons.1 hx with rfl|hx
  ·exact hn
  ·exact h x (List.mem_filter.1 hx).1
structure ax(S:Fs)(N:Nat):Prop where
 nums:gR S
 l0:0≤S.last
 lN:S.last≤N
 all:∀a∈S.ns,pQ a S.ds.length N
 d1:1≤S.ds.length
 d8:S.ds.length≤8
 root:∀d∈S.ds,1≤d.root∧d.root≤S.last
theorem pQ.mono{a:An}{D D' N N':Nat}(h:pQ a D N)(hD:D≤D')(hN:N≤N'):pQ a D' N':=
 ⟨h.eE,ae h.mJ hN,⟨h.dev.1,by have:=h.dev.2;omega⟩,h.ao,h.data,h.mode,h.kind,h.nz,h.sy⟩
theorem ax.mono{S:Fs}{N N':Nat}(h:ax S N)(hN:N≤N'):ax S N':=
 ⟨h.nums,h.l0,by have:=h.lN;omega,fun a ha=>(h.all a ha).mono (aa _) hN,h.d1,h.d8,h.root⟩
theorem ax.get{S:Fs}{N:Nat}(h:ax S N){k:Int}{a:An}(hg:S.get k=some a):pQ a S.ds.length N∧a.no=k∧1≤k∧k≤S.last:=by
 have hm:=bD hg;have hn:=cj hg;have:=h.nums.low a hm;exact⟨h.all a hm,hn,by omega,by omega⟩
theorem ax.set{S:Fs}{N:Nat}(h:ax S N){a:An}(ha:pQ a S.ds.length N):ax (S.set a) N:=by
 refine⟨h.nums.set a,h.l0,h.lN,fun x hx=>?_,h.d1,h.d8,h.root⟩;unfold Fs.set at hx;simp only[List.mem_map] at hx;obtain⟨y,hy,rfl⟩:=hx
 split
 ·exact ha
 ·exact h.all y hy
theorem ax.add{S:Fs}{N:Nat}(h:ax S N){a:An}(ha:pQ a S.ds.length (N+1)):ax (S.add a) (N+1):=by
 refine⟨h.nums.add h.l0 a,?_,?_,fun x hx=>?_,h.d1,h.d8,fun d hd=>?_⟩
 ·show 0≤S.last+1;have:=h.l0;omega
 ·show S.last+1≤((N+1:Nat):Int);have:=h.lN;omega
 ·rcases List.mem_append.1 hx with hx|hx
  ·exact(h.all x hx).mono (aa _) (by omega)
  ·simp at hx;subst hx;exact⟨ha.eE,ha.mJ,ha.dev,ha.ao,ha.data,ha.mode,ha.kind,ha.nz,ha.sy⟩
 ·have:=h.root d hd;show 1≤d.root∧d.root≤S.last+1;omega
theorem ax.bp{S:Fs}{N:Nat}(h:ax S N){d:Int}{v u:Dv}(hv:S.dev d=some v)(hu:u.root=v.root):ax (S.bp d u) N:=by
 unfold Fs.dev at hv
 split at hv
 ·refine⟨⟨h.nums.eE,h.nums.low⟩,h.l0,h.lN,fun a ha=>?_,?_,?_,fun x hx=>?_⟩
  ·unfold Fs.bp;simp only[List.length_set];exact h.all a ha
  ·unfold Fs.bp;simp only[List.length_set];exact h.d1
  ·unfold Fs.bp;simp only[List.length_set];exact h.d8
  ·rcases List.mem_or_eq_of_mem_set hx with hx|rfl
   ·exact h.root x hx
   ·rw[hu];exact h.root v (List.mem_of_getElem? hv)
 ·cases hv
theorem vy{S:Fs}{d:Int}(h1:1≤d)(h2:d≤S.ds.length):∃v,S.dev d=some v∧S.ds[(d-1).toNat]?=some v:=by
 unfold Fs.dev;rw[if_pos h1];have:(d-1).toNat<S.ds.length:=by omega
 exact⟨_,List.getElem?_eq_getElem this,List.getElem?_eq_getElem this⟩
theorem j4{S:Fs}{N:Nat}(h:ax S N){d:Int}(h1:1≤d)(h2:d≤S.ds.length):∃v,S.dev d=some v∧S.root d=v.root∧1≤v.root∧v∈S.ds:=by
 obtain⟨v,hv,hg⟩:=vy h1 h2;refine⟨v,hv,?_,(h.root v (List.mem_of_getElem? hg)).1,List.mem_of_getElem? hg⟩;unfold Fs.root;rw[if_pos ⟨h1,h2⟩,hg]
theorem lu{S:Fs}{d:Int}(h:¬(1≤d∧d≤S.ds.length)):S.root d=0:=by
 unfold Fs.root;rw[if_neg h]
theorem wS:gQ []:=List.Pairwise.nil
theorem ax.aH{S:Fs}{N:Nat}(hn:gR S)(l0:0≤S.last)(lN:S.last≤N)(hall:∀a∈S.ns,pQ a S.ds.length N)(d8:S.ds.length≤7)(hroot:∀d∈S.ds,1≤d.root∧d.root≤S.last)(aC b n:Int):ax (S.aH aC b n) (N+1):=by
 refine⟨?_,?_,?_,fun x hx=>?_,?_,?_,fun d hd=>?_⟩
 ·have:=hn.add l0 {cS with dev:=S.ds.length+1,kind:=1,mode:=493,ao:=1,up:=S.last+1};exact⟨this.eE,this.low⟩
 ·show 0≤S.last+1;omega
 ·show S.last+1≤((N+1:Nat):Int);omega
 ·show pQ x (S.ds++[_]).length (N+1);rw[List.length_append,List.length_singleton];rcases List.mem_append.1 hx with hx|hx
  ·exact(hall x hx).mono (by omega) (by omega)
  ·simp at hx;subst hx;exact⟨wS,Nat.zero_le _,⟨by show 1≤(S.ds.length:Int)+1;omega,by show(S.ds.length:Int)+1≤((S.ds.length+1:Nat):Int);omega⟩,⟨by dsimp only;decide,by dsimp only;decide⟩,by show(0:Nat)≤_;omega,⟨by dsimp only;decide,by dsimp only;decide⟩,⟨by dsimp only;decide,by dsimp only;decide⟩,fun x hx=>(by simp[cS] at hx),fun h=>absurd h (by dsimp only;decide)⟩
 ·show 1≤(S.ds++[_]).length;rw[List.length_append,List.length_singleton];omega
 ·show(S.ds++[_]).length≤8;rw[List.length_append,List.length_singleton];omega
 ·show 1≤d.root∧d.root≤S.last+1;rcases List.mem_append.1 hd with hd|hd
  ·have:=hroot d hd;omega
  ·simp at hd;subst hd;simp;omega
theorem ax.new(b n:Int):ax (p7.aH 0 b n) 1:=
 ax.aH (S:=p7) (N:=0) ⟨List.Pairwise.nil,fun x hx=>by simp[p7] at hx⟩ (by decide) (by decide) (fun x hx=>by simp[p7] at hx) (by decide) (fun x hx=>by simp[p7] at hx) 0 b n
theorem ax.bT{S:Fs}{N:Nat}(h:ax S N)(k b n:Int):ax (S.bT k b n).1 (N+1):=by
 have h1:=h.mono (Nat.le_succ N);unfold Fs.bT
 split
 ·exact h1
 ·split
  ·exact h1
  ·split
   ·exact h1
   ·split
    ·exact h1
    ·rename_i hd;exact ax.aH h.nums h.l0 h.lN h.all (by omega) h.root k b n
theorem ax.make{S:Fs}{N:Nat}(h:ax S N){a:An}(ha:pQ a S.ds.length (N+1)):ax (S.make a).1 (N+1):=by
 have h1:=h.mono (Nat.le_succ N);unfold Fs.make
 split
 ·exact h1
 ·split
  ·exact h1
  ·rename_i v hv;simp only
   split
   ·have h2:=h.bp (u:={v with b:=v.b+cR a.kind a.data.size,n:=v.n+1}) hv rfl;exact h2.add (by unfold Fs.bp;simp only[List.length_set];exact ha)
   ·exact h1
theorem ax.bE{S:Fs}{N:Nat}(h:ax S N)(now dir:Int)(l:List En)(hl:gQ l)(hN:l.length≤N)(hz:∀x∈l,1≤x.no):ax (S.bE now dir l) N:=by
 unfold Fs.bE
 split
 ·exact h
 ·rename_i d hd;have:=h.get hd;exact h.set ⟨hl,hN,this.1.dev,this.1.ao,this.1.data,this.1.mode,this.1.kind,hz,this.1.sy⟩
theorem IE{S:Fs}(h:0≤S.last)(a:An)(hz:(S.make a).2.2=0):1≤(S.make a).2.1:=by
 revert hz;unfold Fs.make
 split
 ·intro hz;cases hz
 ·split
  ·intro hz;cases hz
  ·simp only
   split
   ·intro _;show 1≤S.last+1;omega
   ·rename_i hz;intro et;exact absurd et hz
theorem vC{S:Fs}{N:Nat}(h:ax S N){a:An}(c:Cr)(now dir:Int)(s:ByteArray)(hr:a.ay=[])(hd:a.data.size≤1048576)(hm:0≤a.mode∧a.mode≤1023)(hk:1≤a.kind∧a.kind≤3)(hsy:a.kind=3→a.data.size≤4096):ax (S.cC c now dir s a).1 (N+1):=by
 have h1:=h.mono (Nat.le_succ N);unfold Fs.cC
 split
 ·exact h1
 ·split
  ·exact h1
  ·rename_i d hg
   split
   ·exact h1
   ·obtain⟨hdo,-,-,-⟩:=h.get hg;have h2:=h.make (a:={a with dev:=d.dev,uid:=c.u,gid:=c.g,mtime:=now,ctime:=now,ao:=1}) ⟨by rw[show({a with dev:=d.dev,uid:=c.u,gid:=c.g,mtime:=now,ctime:=now,ao:=1}:An).ay=a.ay from rfl,hr];exact wS,by show a.ay.length≤N+1;rw[hr];exact Nat.zero_le _,hdo.dev,⟨by dsimp only;decide,by dsimp only;decide⟩,hd,hm,hk,fun x hx=>(by rw[show({a with dev:=d.dev,uid:=c.u,gid:=c.g,mtime:=now,ctime:=now,ao:=1}:An).ay=a.ay from rfl,hr] at hx;cases hx),hsy⟩;simp only
    split
    ·exact h1
    ·refine h2.bE _ _ _ (qL hdo.eE _ _) ?_ (zT hdo.nz _ (IE h.l0 _ (by rename_i hz;simpa using hz)));have:=uO d.ay s (S.make {a with dev:=d.dev,uid:=c.u,gid:=c.g,mtime:=now,ctime:=now,ao:=1}).2.1 hdo.eE;have:=hdo.mJ;omega
theorem gN{S:Fs}{N:Nat}(h:ax S N)(c:Cr)(now dir:Int)(s:ByteArray)(m:Int):ax (S.aO c now dir s m).1 (N+1):=by
 unfold Fs.aO
 split
 ·exact h.mono (Nat.le_succ N)
 ·exact vC h c now dir s rfl (by show(0:Nat)≤1048576;decide) ⟨by show 0≤m;omega,by show m≤1023;omega⟩ ⟨by dsimp only;decide,by dsimp only;decide⟩ (fun h=>absurd h (by dsimp only;decide))
theorem BI{S:Fs}{N:Nat}(h:ax S N)(c:Cr)(now dir:Int)(s:ByteArray)(m:Int)(t:ByteArray):ax (S.file c now dir s m t).1 (N+1):=by
 unfold Fs.file
 split
 ·exact h.mono (Nat.le_succ N)
 ·split
  ·exact h.mono (Nat.le_succ N)
  ·exact vC h c now dir s rfl (by show t.size≤_;omega) ⟨by show 0≤m;omega,by show m≤1023;omega⟩ ⟨by show(1:Int)≤2;decide,by show(2:Int)≤3;decide⟩ (fun h=>absurd h (by dsimp only;decide))
theorem KM{S:Fs}{N:Nat}(h:ax S N)(c:Cr)(now dir:Int)(s t:ByteArray):ax (S.sym c now dir s t).1 (N+1):=by
 unfold Fs.sym
 split
 ·exact h.mono (Nat.le_succ N)
 ·split
  ·exact h.mono (Nat.le_succ N)
  ·exact vC h c now dir s rfl (by show t.size≤_;omega) ⟨by show(0:Int)≤511;decide,by show(511:Int)≤1023;decide⟩ ⟨by show(1:Int)≤3;decide,by show(3:Int)≤3;decide⟩ (fun _=>by show t.size≤4096;omega)
theorem I6{S:Fs}{N:Nat}(h:ax S N)(c:Cr)(now no dir:Int)(s:ByteArray):ax (S.ez c now no dir s).1 (N+1):=by
 have h1:=h.mono (Nat.le_succ N);unfold Fs.ez
 split
 ·exact h1
 ·split
  ·rename_i d n hd hn
   split
   ·exact h1
   ·split
    ·exact h1
    ·split
     ·exact h1
     ·split
      ·exact h1
      ·obtain⟨ho,-,-,-⟩:=h.get hd;obtain⟨hm,-,-,-⟩:=h.get hn;have fR:=hm.mono (aa _) (Nat.le_succ N);refine ax.bE (h1.set (a:={n with ao:=n.ao+1,ctime:=now}) ⟨fR.eE,fR.mJ,fR.dev,⟨by have:=fR.ao.1;show 0≤n.ao+1;omega,by show n.ao+1≤1000;omega⟩,fR.data,fR.mode,fR.kind,fR.nz,fR.sy⟩) _ _ _ (qL ho.eE _ _) ?_ (zT ho.nz _ (h.get hn).2.2.1);have:=uO d.ay s no ho.eE;have:=ho.mJ;omega
  ·exact h1
theorem Gm{S:Fs}{N:Nat}(h:ax S N)(c:Cr)(now no m:Int):ax (S.cw c now no m).1 N:=by
 unfold Fs.cw
 split
 ·exact h
 ·rename_i n hn
  split
  ·exact h
  ·split
   ·exact h
   ·obtain⟨hm,-,-,-⟩:=h.get hn;exact h.set ⟨hm.eE,hm.mJ,hm.dev,hm.ao,hm.data,⟨by show 0≤m;omega,by show m≤1023;omega⟩,hm.kind,hm.nz,hm.sy⟩
theorem rX{S:Fs}{N:Nat}(h:ax S N)(c:Cr)(now no u g:Int):ax (S.cD c now no u g).1 N:=by
 unfold Fs.cD
 split
 ·exact h
 ·rename_i n hn
  split
  ·exact h
  ·split
   ·exact h
   ·split
    ·exact h
    ·obtain⟨hm,-,-,-⟩:=h.get hn;exact h.set ⟨hm.eE,hm.mJ,hm.dev,hm.ao,hm.data,hm.mode,hm.kind,hm.nz,hm.sy⟩
theorem Es{S:Fs}{N:Nat}(h:ax S N)(c:Cr)(now no t:Int):ax (S.cA c now no t).1 N:=by
 unfold Fs.cA
 split
 ·exact h
 ·rename_i n hn
  split
  ·exact h
  ·split
   ·exact h
   ·obtain⟨hm,-,-,-⟩:=h.get hn;exact h.set ⟨hm.eE,hm.mJ,hm.dev,hm.ao,hm.data,hm.mode,hm.kind,hm.nz,hm.sy⟩
end
section
open Go.RowKit
structure Mt where
 path:ByteArray
 b:Int
 n:Int
structure It where
 path:ByteArray
 kind:Int
 mode:Int
 uid:Int
 gid:Int
 mtime:Int
 data:ByteArray
def ks:ByteArray:=⟨#[47]⟩
def bM:Cr:=⟨0,0⟩
def aU:List Mt→Int×Int
 | []=>(65536,65536)
 |m::l=>if m.path=ks∧gl m.b m.n=true then(m.b,m.n) else aU l
theorem om:∀l:List Mt,gl (aU l).1 (aU l).2=true
 | []=>by decide
 |m::l=>by
  unfold aU
  split
  ·rename_i h;exact h.2
  ·exact om l
def Fs.kN(S:Fs)(k:Int):Int:=match S.get k with|none=>0|some a=>a.kind
def bO(S:Fs)(m:Mt):Fs:=
 if(S.path bM m.path false).2≠0 then S
 else if(S.path bM m.path false).1.no=0 then
  let q:=S.aO bM 0 (S.path bM m.path false).1.dir (S.path bM m.path false).1.name 493
  if q.2.2≠0 then q.1 else(q.1.bT q.2.1 m.b m.n).1
 else(S.bT (S.path bM m.path false).1.no m.b m.n).1
def bS(S:Fs)(it:It):Fs×Int:=
 let x:=S.path bM it.path false
 if x.2≠0 then(S,0)
 else if x.1.no≠0 then(if it.kind=1∧S.kN x.1.no=1 then(S,x.1.no) else(S,0))
 else if it.kind=1 then((S.aO bM 0 x.1.dir x.1.name 493).1,(S.aO bM 0 x.1.dir x.1.name 493).2.1)
 else if it.kind=2 then((S.file bM 0 x.1.dir x.1.name 420 it.data).1,(S.file bM 0 x.1.dir x.1.name 420 it.data).2.1)
 else if it.kind=3 then((S.sym bM 0 x.1.dir x.1.name it.data).1,(S.sym bM 0 x.1.dir x.1.name it.data).2.1)
 else if it.kind=4 then
  (if(S.path bM it.data false).2=0 then((S.ez bM 0 (S.path bM it.data false).1.no x.1.dir x.1.name).1,0) else(S,0))
 else(S,0)
def dQ(S:Fs)(it:It):Fs×Int:=
 let q:=bS S it
 if q.2≠0 then(((q.1.cD bM 0 q.2 it.uid it.gid).1.cw bM 0 q.2 it.mode).1,q.2) else q
def aY(S:Fs):List It→Fs×List Int
 | []=>(S,[])
 |it::l=>let q:=dQ S it;let r:=aY q.1 l;(r.1,q.2::r.2)
def bN(S:Fs):List (It×Int)→Fs
 | []=>S
 |x::l=>bN (if x.2≠0 then(S.cA bM 0 x.2 x.1.mtime).1 else S) l
def aQ(S:Fs):List Mt→Fs
 | []=>S
 |m::l=>aQ (if m.path=ks then S else bO S m) l
def cU(ms:List Mt)(is:List It):Fs:=
 let S:=aQ (p7.aH 0 (aU ms).1 (aU ms).2) ms
 let r:=aY S is
 bN r.1 (is.zip r.2)
theorem Ag(S:Fs)(a b:List It):aY S (a++b)=((aY (aY S a).1 b).1,(aY S a).2++(aY (aY S a).1 b).2):=by
 induction a generalizing S with
 |nil=>rfl
 |cons x a ih=>simp only[List.cons_append,aY,ih]
theorem j9(S:Fs)(a:List It):(aY S a).2.length=a.length:=by
 induction a generalizing S with
 |nil=>rfl
 |cons x a ih=>simp only[aY,List.length_cons,ih]
theorem zu(S:Fs)(a b:List (It×Int)):bN S (a++b)=bN (bN S a) b:=by
 induction a generalizing S with
 |nil=>rfl
 |cons x a ih=>exact ih _
theorem xv(S:Fs)(a b:List Mt):aQ S (a++b)=aQ (aQ S a) b:=by
 induction a generalizing S with
 |nil=>rfl
 |cons x a ih=>exact ih _
theorem lB{S:Fs}{N:Nat}(h:ax S N)(m:Mt):ax (bO S m) (N+2):=by
 unfold bO
 split
 ·exact h.mono (by omega)
 ·split
  ·have h1:=gN h bM 0 (S.path bM m.path false).1.dir (S.path bM m.path false).1.name 493;simp only
   split
   ·exact h1.mono (by omega)
   ·exact h1.bT _ _ _
  ·exact(h.bT _ _ _).mono (by omega)
theorem fe{S:Fs}{N:Nat}(h:ax S N)(l:List Mt):ax (aQ S l) (N+2*l.length):=by
 induction l generalizing S N with
 |nil=>exact h
 |cons m l ih=>
  unfold aQ;have h1:ax (if m.path=ks then S else bO S m) (N+2):=by
   split
   ·exact h.mono (by omega)
   ·exact lB h m
  exact(ih h1).mono (by simp;omega)
theorem q'{S:Fs}{N:Nat}(h:ax S N)(it:It):ax (bS S it).1 (N+1):=by
 have h1:=h.mono (Nat.le_succ N);unfold bS;simp only
 split
 ·exact h1
 ·split
  ·split<;>exact h1
  ·split
   ·exact gN h _ _ _ _ _
   ·split
    ·exact BI h _ _ _ _ _ _
    ·split
     ·exact KM h _ _ _ _ _
     ·split
      ·split
       ·exact I6 h _ _ _ _ _
       ·exact h1
      ·exact h1
theorem Fw{S:Fs}{N:Nat}(h:ax S N)(it:It):ax (dQ S it).1 (N+1):=by
 have h1:=q' h it;unfold dQ;simp only
 split
 ·exact Gm (rX h1 _ _ _ _ _) _ _ _ _
 ·exact h1
theorem iA{S:Fs}{N:Nat}(h:ax S N)(l:List It):ax (aY S l).1 (N+l.length):=by
 induction l generalizing S N with
 |nil=>exact h
 |cons m l ih=>
  unfold aY;exact(ih (Fw h m)).mono (by simp;omega)
theorem nY{S:Fs}{N:Nat}(h:ax S N)(l:List (It×Int)):ax (bN S l) N:=by
 induction l generalizing S with
 |nil=>exact h
 |cons m l ih=>
  unfold bN;apply ih
  split
  ·exact Es h _ _ _ _
  ·exact h
theorem wZ(ms:List Mt)(is:List It):ax (cU ms is) (1+2*ms.length+is.length):=by
 unfold cU;exact nY (iA (fe (ax.new _ _) _) _) _
end
section
open Go.RowKit
def yL(s:ByteArray):Prop:=s≠ByteArray.empty∧s.size≤255
structure Pl(S:Fs):Prop where
 len:(S.ns.length:Int)≤S.last
 names:∀a∈S.ns,∀x∈a.ay,yL x.name
 up:∀a∈S.ns,a.kind=1→(S.root a.dev=a.no∧a.up=a.no)∨(S.root a.dev≠a.no∧1≤a.up∧a.up<a.no)
 top:S.root 1=1
 one:∃a,S.get 1=some a∧a.kind=1
 aC:∀(i:Nat) (hi:i<S.ds.length),1≤i→∃b,S.get S.ds[i].aC=some b∧b.kind=1∧S.ds[i].aC<S.ds[i].root
theorem yI{S:Fs}{N:Nat}(hk:ax S N)(h:Pl S){no:Int}{a:An}(hg:S.get no=some a)(hd:a.kind=1)(h1:no≠1):1≤S.aX no∧S.aX no<no:=by
 obtain⟨ho,hn,hl,-⟩:=hk.get hg;have hup:=h.up a (bD hg) hd;unfold Fs.aX;rw[hg];simp only;rw[if_neg (by simpa using hd)];by_cases hr:S.root a.dev=no∧1<a.dev
 ·rw[if_pos hr];obtain⟨v,hv,hvg⟩:=vy ho.dev.1 ho.dev.2;obtain⟨v2,yY,hrt,-,-⟩:=j4 hk ho.dev.1 ho.dev.2;rw[hv] at yY;injection yY with yY;subst yY;have hi:(a.dev-1).toNat<S.ds.length:=(List.getElem?_eq_some_iff.1 hvg).1;obtain⟨b,hb,hbk,hlt⟩:=h.aC _ hi (by omega);have hvi:S.ds[(a.dev-1).toNat]=v:=(List.getElem?_eq_some_iff.1 hvg).2;rw[hvi] at hb hlt;rw[hv];simp only;rw[hb];simp only;have hbn:=cj hb;have h3:=(hk.get hb).2.2.1;rcases h.up b (bD hb) hbk with⟨-,h2⟩|⟨-,h2,h4⟩
  ·have:=hr.1;omega
  ·have:=hr.1;omega
 ·rw[if_neg hr];rcases hup with⟨h2,h3⟩|⟨-,h2,h3⟩
  ·exfalso;have h4:a.dev=1:=by
    have:=ho.dev.1;by_cases h5:1<a.dev
    ·exact absurd ⟨h2.trans hn,h5⟩ hr
    ·omega
   rw[h4,h.top] at h2;omega
  ·omega
theorem iN{S:Fs}{no:Int}(hg:S.get no=none):S.aX no=0:=by unfold Fs.aX;rw[hg]
theorem sj{S:Fs}{no:Int}{a:An}(hg:S.get no=some a)(hd:a.kind≠1):S.aX no=0:=by
 unfold Fs.aX;rw[hg];simp only;rw[if_pos hd]
theorem ui{S:Fs}{N:Nat}(hk:ax S N)(h:Pl S){a:An}(hg:S.get 1=some a)(hd:a.kind=1):S.aX 1=1:=by
 obtain⟨ho,hn,-,-⟩:=hk.get hg;unfold Fs.aX;rw[hg];simp only;rw[if_neg (by simpa using hd)];have hno:¬(S.root a.dev=1∧1<a.dev):=by
  rintro⟨h1,h2⟩;obtain⟨v,hv,hvg⟩:=vy ho.dev.1 ho.dev.2;obtain⟨v2,yY,hrt,-,-⟩:=j4 hk ho.dev.1 ho.dev.2;rw[hv] at yY;injection yY with yY;subst yY;have hi:(a.dev-1).toNat<S.ds.length:=(List.getElem?_eq_some_iff.1 hvg).1;obtain⟨b,hb,-,hlt⟩:=h.aC _ hi (by omega);rw[show S.ds[(a.dev-1).toNat]=v from(List.getElem?_eq_some_iff.1 hvg).2] at hb hlt;have:=(hk.get hb).2.2.1;omega
 rw[if_neg hno];rcases h.up a (bD hg) hd with⟨-,h2⟩|⟨-,h2,h3⟩
 ·rw[h2,hn]
 ·omega
theorem Pl.set{S:Fs}(h:Pl S){a b:An}(hb:S.get a.no=some b)(hk:a.kind=b.kind)(hd:a.dev=b.dev)(hu:a.up=b.up)(hn:∀x∈a.ay,yL x.name):Pl (S.set a):=by
 refine⟨?_,fun y hy=>?_,fun y hy hyk=>?_,h.top,?_,fun i hi h1=>?_⟩
 ·show((S.ns.map _).length:Int)≤S.last;rw[List.length_map];exact h.len
 ·unfold Fs.set at hy;simp only[List.mem_map] at hy;obtain⟨z,hz,rfl⟩:=hy
  split
  ·exact hn
  ·exact h.names z hz
 ·unfold Fs.set at hy;simp only[List.mem_map] at hy;obtain⟨z,hz,rfl⟩:=hy;show(S.root _=_∧_)∨(S.root _≠_∧_)
  split at hyk
  ·rename_i he;rw[if_pos he];have hbn:=cj hb;have:=h.up b (bD hb) (by rw[←hk];exact hyk);rw[hd,hu,←hbn];exact this
  ·rename_i he;rw[if_neg he];exact h.up z hz hyk
 ·obtain⟨c,hc,h2⟩:=h.one;refine⟨if(1:Int)=a.no then a else c,?_,?_⟩
  ·rw[iM hb]
   split
   ·rfl
   ·exact hc
  ·split
   ·rename_i he;rw[he,hb] at hc;injection hc with hc;rw[hk,hc];exact h2
   ·exact h2
 ·obtain⟨c,hc,h2,h3⟩:=h.aC i hi h1;refine⟨if S.ds[i].aC=a.no then a else c,?_,?_,h3⟩
  ·show(S.set a).get S.ds[i].aC=_;rw[iM hb]
   split
   ·rfl
   ·exact hc
  ·split
   ·rename_i he;rw[he,hb] at hc;injection hc with hc;rw[hk,hc];exact h2
   ·exact h2
theorem Pl.bp{S:Fs}(h:Pl S){d:Int}{v u:Dv}(hv:S.dev d=some v)(hr:u.root=v.root)(ho:u.aC=v.aC):Pl (S.bp d u):=by
 unfold Fs.dev at hv
 split at hv
 ·rename_i hd;have hi:=(List.getElem?_eq_some_iff.1 hv).1;have hvi:=(List.getElem?_eq_some_iff.1 hv).2;have hroot:∀e,(S.bp d u).root e=S.root e:=fun e=>by
   unfold Fs.root Fs.bp;simp only[List.length_set,List.getElem?_set]
   split
   ·rename_i he;by_cases hq:(d-1).toNat=(e-1).toNat
    ·rw[if_pos hq,←hq,hv]
     first|exact hr|(rw[if_pos hi];exact hr)
    ·rw[if_neg hq]
   ·rfl
  refine⟨h.len,h.names,fun y hy hk=>by rw[hroot];exact h.up y hy hk,by rw[hroot];exact h.top,h.one,fun i zd h1=>?_⟩;have pC:i<S.ds.length:=by
   have:=zd;unfold Fs.bp at this;simpa using this
  obtain⟨b,hb,h2,h3⟩:=h.aC i pC h1;have he:(S.bp d u).ds[i]=if(d-1).toNat=i then u else S.ds[i]:=by
   exact List.getElem_set (l:=S.ds) (i:=(d-1).toNat) (a:=u) (j:=i) (by rw[List.length_set];exact pC)
  rw[he];by_cases hq:(d-1).toNat=i
  ·subst hq;rw[if_pos rfl,ho,hr,←hvi];exact⟨b,hb,h2,h3⟩
  ·rw[if_neg hq];exact⟨b,hb,h2,h3⟩
 ·cases hv
theorem kd{S:Fs}(h:gR S){k:Int}{b:An}(hb:S.get k=some b):k≤S.last:=by
 have h1:=cj hb;have h2:=h.low b (bD hb);omega
theorem Pl.add{S:Fs}{N:Nat}(hk:ax S N)(h:Pl S){a:An}(he:a.ay=[])(hdv:1≤a.dev∧a.dev≤S.ds.length)(hu:a.kind=1→1≤a.up∧a.up≤S.last):Pl (S.add a):=by
 refine⟨?_,fun y hy=>?_,fun y hy hyk=>?_,h.top,?_,fun i hi h1=>?_⟩
 ·show((S.ns++[_]).length:Int)≤S.last+1;rw[List.length_append,List.length_singleton];have:=h.len;omega
 ·rcases List.mem_append.1 hy with hy|hy
  ·exact h.names y hy
  ·simp at hy;subst hy;intro x hx;rw[show({a with no:=S.last+1}:An).ay=a.ay from rfl,he] at hx
   cases hx
 ·show(S.root _=_∧_)∨(S.root _≠_∧_);rcases List.mem_append.1 hy with hy|hy
  ·exact h.up y hy hyk
  ·simp at hy;subst hy;right;obtain⟨v,-,hrt,-,hm⟩:=j4 hk hdv.1 hdv.2;have h2:=(hk.root v hm).2;have h3:=hu hyk;refine⟨?_,h3.1,?_⟩
   ·show S.root a.dev≠S.last+1;omega
   ·show a.up<S.last+1;omega
 ·obtain⟨c,hc,h2⟩:=h.one;refine⟨c,?_,h2⟩;rw[km hk.nums,if_neg]
  ·exact hc
  ·have:=kd hk.nums hc;omega
 ·obtain⟨c,hc,h2,h3⟩:=h.aC i hi h1;refine⟨c,?_,h2,h3⟩;show(S.add a).get S.ds[i].aC=some c;rw[km hk.nums,if_neg]
  ·exact hc
  ·have:=kd hk.nums hc;omega
theorem Pl.aH{S:Fs}{N:Nat}(hk:ax S N)(h:Pl S){k:Int}{a:An}(hg:S.get k=some a)(hd:a.kind=1)(b n:Int):Pl (S.aH k b n):=by
 have hroot:∀e:Int,e≤S.ds.length→(S.aH k b n).root e=S.root e:=fun e he=>by
  unfold Fs.root Fs.aH;simp only[List.length_append,List.length_singleton];by_cases h1:(1:Int)≤e
  ·rw[if_pos ⟨h1,by omega⟩,if_pos ⟨h1,he⟩,List.getElem?_append_left (by omega)]
  ·rw[if_neg (fun h=>h1 h.1),if_neg (fun h=>h1 h.1)]
 have hrl:(S.aH k b n).root (S.ds.length+1)=S.last+1:=by
  unfold Fs.root Fs.aH;simp only[List.length_append,List.length_singleton];rw[if_pos ⟨by omega,by omega⟩,List.getElem?_append_right (by omega)];rw[show((S.ds.length:Int)+1-1).toNat-S.ds.length=0 by omega];rfl
 have hget:∀q c,S.get q=some c→(S.aH k b n).get q=some c:=fun q c hq=>by
  unfold Fs.get Fs.aH at *;simp only[List.find?_append,hq,Option.some_or]
 have eR:=hk.l0;have hgl:=kd hk.nums hg;refine⟨?_,fun y hy=>?_,fun y hy hyk=>?_,?_,?_,fun i hi h1=>?_⟩
 ·show((S.ns++[_]).length:Int)≤S.last+1;rw[List.length_append,List.length_singleton];have:=h.len;omega
 ·rcases List.mem_append.1 hy with hy|hy
  ·exact h.names y hy
  ·simp at hy;subst hy;intro x hx;simp[cS] at hx
 ·rcases List.mem_append.1 hy with hy|hy
  ·rw[hroot _ (hk.all y hy).dev.2];exact h.up y hy hyk
  ·simp at hy;subst hy;left;exact⟨hrl,rfl⟩
 ·rw[hroot _ (by have:=hk.d1;omega)];exact h.top
 ·obtain⟨c,hc,h2⟩:=h.one;exact⟨c,hget _ _ hc,h2⟩
 ·by_cases zd:i<S.ds.length
  ·obtain⟨c,hc,h2,h3⟩:=h.aC i zd h1;have he:(S.aH k b n).ds[i]=S.ds[i]:=List.getElem_append_left zd;rw[he];exact⟨c,hget _ _ hc,h2,h3⟩
  ·have pC:i=S.ds.length:=by
    have h4:i<(S.ds++[(⟨S.last+1,k,1,1,b,n⟩:Dv)]).length:=hi;rw[List.length_append,List.length_singleton] at h4;omega
   subst pC;have he:(S.aH k b n).ds[S.ds.length]=⟨S.last+1,k,1,1,b,n⟩:=by
    have h5:(S.ds++[(⟨S.last+1,k,1,1,b,n⟩:Dv)])[S.ds.length]?=some ⟨S.last+1,k,1,1,b,n⟩:=by
     rw[List.getElem?_append_right (aa _)];simp
    exact(List.getElem?_eq_some_iff.1 h5).2
   rw[he];exact⟨a,hget _ _ hg,hd,by show k<S.last+1;omega⟩
theorem Pl.new(b n:Int):Pl (p7.aH 0 b n):=by
 refine⟨Int.le_of_eq rfl,fun a ha=>?_,fun a ha _=>?_,rfl,⟨_,rfl,rfl⟩,fun i hi h1=>?_⟩
 ·simp[Fs.aH,p7] at ha;subst ha;intro x hx;simp[cS] at hx
 ·simp[Fs.aH,p7] at ha;subst ha;left;exact⟨rfl,rfl⟩
 ·have:i<1:=hi;omega
theorem Pl.make{S:Fs}{N:Nat}(hk:ax S N)(h:Pl S){a:An}(he:a.ay=[])(hdv:1≤a.dev∧a.dev≤S.ds.length)(hu:a.kind=1→1≤a.up∧a.up≤S.last):Pl (S.make a).1:=by
 unfold Fs.make
 split
 ·exact h
 ·split
  ·exact h
  ·rename_i v hv;simp only
   split
   ·have h2:=h.bp (u:={v with b:=v.b+cR a.kind a.data.size,n:=v.n+1}) hv rfl rfl;have ij:=hk.bp (u:={v with b:=v.b+cR a.kind a.data.size,n:=v.n+1}) hv rfl;exact h2.add ij he (by unfold Fs.bp;simp only[List.length_set];exact hdv) hu
   ·exact h
theorem tu{l:List En}(h:∀x∈l,yL x.name){s:ByteArray}(hs:yL s)(no:Int):∀x∈ct l s no,yL x.name:=by
 intro x hx;unfold ct at hx;rcases List.mem_append.1 hx with hx|hx
 ·exact h x (List.mem_filter.1 hx).1
 ·rcases List.mem_cons.1 hx with rfl|hx
  ·exact hs
  ·exact h x (List.mem_filter.1 hx).1
theorem Pl.bE{S:Fs}(h:Pl S)(now dir:Int)(l:List En)(hl:∀x∈l,yL x.name):Pl (S.bE now dir l):=by
 unfold Fs.bE
 split
 ·exact h
 ·rename_i d hd;exact h.set (b:=d) (by show S.get d.no=_;rw[cj hd];exact hd) rfl rfl rfl hl
theorem yy{s:ByteArray}(h:cx s=0):yL s:=by
 refine⟨?_,?_⟩
 ·rintro rfl;revert h;decide
 ·unfold cx at h
  split at h
  ·cases h
  ·split at h
   ·cases h
   ·omega
theorem eB{S:Fs}{c:Cr}{dir:Int}{s:ByteArray}(h:S.aP c dir s=0):∃d,S.get dir=some d∧d.kind=1∧cx s=0:=by
 unfold Fs.aP at h
 split at h
 ·cases h
 ·rename_i d hd
  split at h
  ·cases h
  ·rename_i hk
   split at h
   ·rename_i he;exact absurd h he
   ·rename_i he;exact⟨d,hd,by simpa using hk,by simpa using he⟩
theorem F8{S:Fs}{N:Nat}(hk:ax S N)(a:An){k:Int}{d:An}(hd:S.get k=some d):(S.make a).1.get k=some d:=by
 unfold Fs.make
 split
 ·exact hd
 ·split
  ·exact hd
  ·rename_i v hv;simp only
   split
   ·have ij:=hk.bp (u:={v with b:=v.b+cR a.kind a.data.size,n:=v.n+1}) hv rfl;rw[km ij.nums,if_neg]
    ·exact hd
    ·have:=kd hk.nums hd;show¬k=S.last+1;omega
   ·exact hd
theorem Pl.cC{S:Fs}{N:Nat}(hk:ax S N)(h:Pl S){a:An}(c:Cr)(now dir:Int)(s:ByteArray)(he:a.ay=[])(hu:a.kind=1→a.up=dir):Pl (S.cC c now dir s a).1:=by
 unfold Fs.cC
 split
 ·exact h
 ·rename_i hpl;obtain⟨d,hd,hdk,hce⟩:=eB (by simpa using hpl);rw[hd];simp only
  split
  ·exact h
  ·obtain⟨hdo,hdn,h1,h2⟩:=hk.get hd;have hm:=h.make hk (a:={a with dev:=d.dev,uid:=c.u,gid:=c.g,mtime:=now,ctime:=now,ao:=1}) he hdo.dev (fun hq=>by
    have:=hu hq;show 1≤a.up∧a.up≤S.last;omega)
   split
   ·exact h
   ·exact hm.bE _ _ _ (tu (h.names d (bD hd)) (yy hce) _)
theorem Pl.aO{S:Fs}{N:Nat}(hk:ax S N)(h:Pl S)(c:Cr)(now dir:Int)(s:ByteArray)(m:Int):Pl (S.aO c now dir s m).1:=by
 unfold Fs.aO
 split
 ·exact h
 ·exact h.cC hk c now dir s rfl (fun _=>rfl)
theorem Pl.file{S:Fs}{N:Nat}(hk:ax S N)(h:Pl S)(c:Cr)(now dir:Int)(s:ByteArray)(m:Int)(t:ByteArray):Pl (S.file c now dir s m t).1:=by
 unfold Fs.file
 split
 ·exact h
 ·split
  ·exact h
  ·exact h.cC hk c now dir s rfl (fun hq=>absurd hq (by dsimp only;decide))
theorem Pl.sym{S:Fs}{N:Nat}(hk:ax S N)(h:Pl S)(c:Cr)(now dir:Int)(s t:ByteArray):Pl (S.sym c now dir s t).1:=by
 unfold Fs.sym
 split
 ·exact h
 ·split
  ·exact h
  ·exact h.cC hk c now dir s rfl (fun hq=>absurd hq (by dsimp only;decide))
theorem Pl.ez{S:Fs}{N:Nat}(hk:ax S N)(h:Pl S)(c:Cr)(now no dir:Int)(s:ByteArray):Pl (S.ez c now no dir s).1:=by
 unfold Fs.ez
 split
 ·exact h
 ·rename_i hpl;obtain⟨d0,oz,hdk,hce⟩:=eB (by simpa using hpl)
  split
  ·rename_i d n hd hn
   split
   ·exact h
   ·split
    ·exact h
    ·split
     ·exact h
     ·split
      ·exact h
      ·refine Pl.bE (h.set (a:={n with ao:=n.ao+1,ctime:=now}) (b:=n) (by show S.get n.no=_;rw[cj hn];exact hn) rfl rfl rfl (h.names n (bD hn))) _ _ _ (tu (h.names d (bD hd)) (yy hce) _)
  ·exact h
theorem Pl.cw{S:Fs}(h:Pl S)(c:Cr)(now no m:Int):Pl (S.cw c now no m).1:=by
 unfold Fs.cw
 split
 ·exact h
 ·rename_i n hn
  split
  ·exact h
  ·split
   ·exact h
   ·exact h.set (b:=n) (by show S.get n.no=_;rw[cj hn];exact hn) rfl rfl rfl (h.names n (bD hn))
theorem Pl.cD{S:Fs}(h:Pl S)(c:Cr)(now no u g:Int):Pl (S.cD c now no u g).1:=by
 unfold Fs.cD
 split
 ·exact h
 ·rename_i n hn
  split
  ·exact h
  ·split
   ·exact h
   ·split
    ·exact h
    ·exact h.set (b:=n) (by show S.get n.no=_;rw[cj hn];exact hn) rfl rfl rfl (h.names n (bD hn))
theorem Pl.cA{S:Fs}(h:Pl S)(c:Cr)(now no t:Int):Pl (S.cA c now no t).1:=by
 unfold Fs.cA
 split
 ·exact h
 ·rename_i n hn
  split
  ·exact h
  ·split
   ·exact h
   ·exact h.set (b:=n) (by show S.get n.no=_;rw[cj hn];exact hn) rfl rfl rfl (h.names n (bD hn))
theorem Pl.bT{S:Fs}{N:Nat}(hk:ax S N)(h:Pl S)(k b n:Int):Pl (S.bT k b n).1:=by
 unfold Fs.bT
 split
 ·exact h
 ·rename_i a ha
  split
  ·exact h
  ·rename_i hd
   split
   ·exact h
   ·split
    ·exact h
    ·exact h.aH hk ha (by simpa using hd) b n
theorem Pl.bO{S:Fs}{N:Nat}(hk:ax S N)(h:Pl S)(m:Mt):Pl (bO S m):=by
 unfold Go.Proofs.YtabbjaomlmnnhaaGreat.bO
 split
 ·exact h
 ·split
  ·have h1:=h.aO hk bM 0 (S.path bM m.path false).1.dir (S.path bM m.path false).1.name 493;have gD:=gN hk bM 0 (S.path bM m.path false).1.dir (S.path bM m.path false).1.name 493;simp only
   split
   ·exact h1
   ·exact h1.bT gD _ _ _
  ·exact h.bT hk _ _ _
theorem Pl.aQ{S:Fs}{N:Nat}(hk:ax S N)(h:Pl S)(l:List Mt):Pl (aQ S l):=by
 induction l generalizing S N with
 |nil=>exact h
 |cons m l ih=>
  unfold Go.Proofs.YtabbjaomlmnnhaaGreat.aQ;by_cases hm:m.path=ks
  ·rw[if_pos hm];exact ih hk h
  ·rw[if_neg hm];exact ih (lB hk m) (h.bO hk m)
theorem Pl.bS{S:Fs}{N:Nat}(hk:ax S N)(h:Pl S)(it:It):Pl (bS S it).1:=by
 unfold Go.Proofs.YtabbjaomlmnnhaaGreat.bS;simp only
 split
 ·exact h
 ·split
  ·split<;>exact h
  ·split
   ·exact h.aO hk _ _ _ _ _
   ·split
    ·exact h.file hk _ _ _ _ _ _
    ·split
     ·exact h.sym hk _ _ _ _ _
     ·split
      ·split
       ·exact h.ez hk _ _ _ _ _
       ·exact h
      ·exact h
theorem Pl.dQ{S:Fs}{N:Nat}(hk:ax S N)(h:Pl S)(it:It):Pl (dQ S it).1:=by
 unfold Go.Proofs.YtabbjaomlmnnhaaGreat.dQ;have h1:=h.bS hk it;simp only
 split
 ·exact(h1.cD _ _ _ _ _).cw _ _ _ _
 ·exact h1
theorem ow{S:Fs}{N:Nat}(h:ax S N)(it:It):ax (dQ S it).1 (N+1):=by
 have:=iA h [it];exact this
theorem Pl.aY{S:Fs}{N:Nat}(hk:ax S N)(h:Pl S)(l:List It):Pl (aY S l).1:=by
 induction l generalizing S N with
 |nil=>exact h
 |cons x l ih=>exact ih (ow hk x) (h.dQ hk x)
theorem Pl.bN{S:Fs}(h:Pl S)(l:List (It×Int)):Pl (bN S l):=by
 induction l generalizing S with
 |nil=>exact h
 |cons x l ih=>
  unfold Go.Proofs.YtabbjaomlmnnhaaGreat.bN;refine ih ?_
  split
  ·exact h.cA _ _ _ _
  ·exact h
theorem E7(ms:List Mt)(is:List It):Pl (cU ms is):=by
 unfold cU;simp only;have hk:=ax.new (aU ms).1 (aU ms).2;exact Pl.bN (Pl.aY (fe hk ms) (Pl.aQ hk (Pl.new _ _) ms) is) _
end
section
open Go.RowKit
def Fs.ux(S:Fs)(base:Int):Nat→Int→Bool
 |0,_=>false
 |n+1,no=>if no=0 then false else if no=base then true else S.ux base n (S.aX no)
def Fs.within(S:Fs)(no base:Int):Bool:=S.ux base (S.ns.length+1) no
def Fs.busy(S:Fs)(no:Int):Bool:=(S.ds.drop 1).any (fun d=>S.within d.aC no)
def dy(l:List En)(no:Int):Option ByteArray:=(l.find? (fun x=>x.no==no)).map (·.name)
def Fs.bw(S:Fs)(no:Int):List En:=match S.get no with|some a=>a.ay|none=>[]
def Fs.child(S:Fs)(no:Int):Int:=match S.get no with
 |none=>no
 |some a=>if S.root a.dev=no∧1<a.dev then(match S.dev a.dev with|some v=>v.aC|none=>no) else no
def Fs.jl(S:Fs):Nat→Int→ByteArray→Option ByteArray
 |0,_,_=>none
 |n+1,no,s=>if no=1 then some (if s.size=0 then ks else s) else match dy (S.bw (S.aX no)) (S.child no) with
  |none=>none
  |some nm=>S.jl n (S.aX no) (ks++nm++s)
def Fs.fP(S:Fs)(no:Int):Option ByteArray:=S.jl (S.ns.length+1) no ByteArray.empty
theorem vt(x:En)(l:List En)(no:Int):dy (x::l) no=if x.no=no then some x.name else dy l no:=by
 unfold dy;rw[List.find?_cons];by_cases h:x.no=no
 ·rw[if_pos h,show(x.no==no)=true by simpa using h];rfl
 ·rw[if_neg h,show(x.no==no)=false by simpa using h]
theorem yo{l:List En}{no:Int}{s:ByteArray}(h:dy l no=some s):∃x∈l,x.name=s:=by
 unfold dy at h
 cases hf:l.find? (fun x=>x.no==no) with
 |none=>rw[hf] at h;cases h
 |some x=>
  rw[hf] at h;exact⟨x,List.mem_of_find?_eq_some hf,by simpa using h⟩
section
variable{S:Fs}{N:Nat}{no:Int}
theorem yg(hk:ax S N):S.get 0=none:=by
 cases h:S.get 0 with
 |none=>rfl
 |some a=>
  have:=(hk.get h).2.2.1;omega
theorem sh(hk:ax S N):S.aX 0=0:=iN (yg hk)
theorem oF(hk:ax S N):S.bw 0=[]:=by unfold Fs.bw;rw[yg hk]
theorem si(hk:ax S N)(h:Pl S){no:Int}(hne:S.aX no≠no):S.aX no=0∨(1≤S.aX no∧S.aX no<no∧no≤S.last∧no≠1):=by
 cases hg:S.get no with
 |none=>exact .inl (iN hg)
 |some a=>
  by_cases hd:a.kind=1
  ·by_cases h1:no=1
   ·subst h1;exact absurd (ui hk h hg hd) hne
   ·have:=yI hk h hg hd h1;exact .inr ⟨this.1,this.2,kd hk.nums hg,h1⟩
  ·exact .inl (sj hg hd)
theorem A0(h:S.aX no≠no)(h0:S.aX no≠0):∃a,S.get no=some a:=by
 cases hg:S.get no with
 |none=>exact absurd (iN hg) h0
 |some a=>exact⟨a,rfl⟩
def Fs.uN(S:Fs)(k:Int):Nat:=(S.ns.filter fun a=>decide (a.no≤k)).length
theorem Is(k:Int):S.uN k≤S.ns.length:=List.length_filter_le _ _
theorem Bi{x y:Int}(hxy:x<y){a:An}(hy:S.get y=some a):S.uN x<S.uN y:=by
 have hsub:(S.ns.filter fun a=>decide (a.no≤x)).Sublist (S.ns.filter fun a=>decide (a.no≤y)):=by
  have:(S.ns.filter fun a=>decide (a.no≤x))=(S.ns.filter fun a=>decide (a.no≤y)).filter fun a=>decide (a.no≤x):=by
   rw[List.filter_filter];congr 1;funext b;by_cases hb:b.no≤x
   ·simp[hb];omega
   ·simp[hb]
  rw[this];exact List.filter_sublist
 rcases Nat.lt_or_ge (S.uN x) (S.uN y) with h|h
 ·exact h
 ·exfalso;have he:=hsub.eq_of_length_le h;have hm:a∈S.ns.filter fun a=>decide (a.no≤y):=List.mem_filter.2 ⟨bD hy,by have:=cj hy;simp;omega⟩;rw[←he] at hm;have:=(List.mem_filter.1 hm).2;have h2:=cj hy;simp at this;omega
theorem EW{a:An}{y:Int}(hy:S.get y=some a):1≤S.uN y:=by
 have:=Bi (S:=S) (x:=y-1) (by omega) hy;omega
theorem DS(hk:ax S N)(h:Pl S){no:Int}(he:S.aX no=no):no=0∨no=1:=by
 cases hg:S.get no with
 |none=>rw[iN hg] at he;exact .inl he.symm
 |some a=>
  by_cases hd:a.kind=1
  ·by_cases h1:no=1
   ·exact .inr h1
   ·have:=yI hk h hg hd h1;omega
  ·rw[sj hg hd] at he;exact .inl he.symm
theorem KU(hk:ax S N)(h:Pl S):1≤S.ns.length:=by
 obtain⟨a,ha,-⟩:=h.one;exact List.length_pos_of_mem (bD ha)
theorem uj(hk:ax S N)(h:Pl S):S.aX 1=1:=by
 obtain⟨a,hg,hd⟩:=h.one;exact ui hk h hg hd
def Fs.need(S:Fs)(k:Nat)(no:Int):Prop:=no=0∨S.uN no<k∧1≤k∨(S.aX no=0∧2≤k)
def gW(l:List (List UInt8)):List UInt8:=l.reverse.flatMap (fun s=>47::s)
theorem DO(l:List (List UInt8))(s:List UInt8):gW (l++[s])=47::(s++gW l):=by simp[gW]
theorem yC(l:List (List UInt8)):gW l=[]↔l=[]:=by
 constructor
 ·intro h
  cases l with
  |nil=>rfl
  |cons x l=>simp[gW] at h
 ·rintro rfl;rfl
theorem Gq{l:List (List UInt8)}(h:∀x∈l,x.length≤255):(gW l).length≤256*l.length:=by
 unfold gW;rw[List.length_flatMap];have:∀m:List (List UInt8),(∀x∈m,x.length≤255)→(m.map (fun s=>(47::s).length)).sum≤256*m.length:=by
  intro m
  induction m with
  |nil=>intro _;simp
  |cons x m ih=>
   intro hx;have h1:=ih (fun y hy=>hx y (List.mem_cons_of_mem _ hy));have h2:=hx x List.mem_cons_self;simp only[List.map_cons,List.sum_cons,List.length_cons];simp only[List.length_cons] at h1;omega
 have h1:=this l.reverse (fun x hx=>h x (List.mem_reverse.1 hx));rw[List.length_reverse] at h1;exact h1
structure nI(S:Fs)(no0 no:Int)(l:List (List UInt8)):Prop where
 mJ:l.length≤S.ns.length
 small:∀x∈l,x.length≤255
 eq:S.fP no0=S.jl (S.ns.length+1-l.length) no (str (gW l))
 room:S.uN no+l.length≤S.ns.length
theorem nI.start(h:Pl S)(no:Int):nI S no no []:=⟨Nat.zero_le _,(by intro x hx;cases hx),rfl,Is no⟩
theorem zp(hk:ax S N)(k:Nat)(s:ByteArray):S.jl k 0 s=none:=by
 cases k with
 |zero=>rfl
 |succ k=>
  unfold Fs.jl;rw[if_neg (by decide),sh hk,oF hk];rfl
theorem nI.top(hk:ax S N)(h:Pl S){no0:Int}{l:List (List UInt8)}(hs:nI S no0 1 l):S.fP no0=some (if l=[] then ks else str (gW l)):=by
 have h1:=KU hk h;have h3:=hs.room;have h2:1≤S.uN 1:=by
  obtain⟨a,ha,-⟩:=h.one;exact EW ha
 rw[hs.eq];obtain⟨k,hkk⟩:∃j,S.ns.length+1-l.length=j+1:=⟨S.ns.length-l.length,by omega⟩;rw[hkk];unfold Fs.jl;rw[if_pos rfl];by_cases hl:l=[]
 ·subst hl;rfl
 ·rw[if_neg hl,if_neg];rw[cJ];intro h0;exact hl ((yC l).1 (List.eq_nil_of_length_eq_zero h0))
theorem nI.other(hk:ax S N)(h:Pl S){no0 no:Int}{l:List (List UInt8)}(hs:nI S no0 no l)(he:S.aX no=no)(h1:no≠1):S.fP no0=none:=by
 obtain rfl:no=0:=(DS hk h he).resolve_right h1;rw[hs.eq,zp hk]
theorem nI.fail(hk:ax S N)(h:Pl S){no0 no:Int}{l:List (List UInt8)}(hs:nI S no0 no l)(hu:S.aX no≠no)(hn:dy (S.bw (S.aX no)) (S.child no)=none):S.fP no0=none:=by
 rw[hs.eq];have h1:no≠1:=by
  rintro rfl;exact hu (uj hk h)
 cases S.ns.length+1-l.length with
 |zero=>rfl
 |succ k=>unfold Fs.jl;rw[if_neg h1,hn]
theorem rY(S:Fs)(no:Int):S.child no=match S.get no with
 |none=>no
 |some a=>if S.root a.dev=no∧1<a.dev then(match S.dev a.dev with|some v=>v.aC|none=>no) else no:=rfl
theorem AQ{no:Int}(hg:S.get no=none):S.child no=no:=by rw[rY,hg]
theorem AO{no:Int}{a:An}(hg:S.get no=some a)(hr:S.root a.dev≠no):S.child no=no:=by rw[rY,hg];exact if_neg (fun h=>hr h.1)
theorem AP(hk:ax S N)(h:Pl S){no:Int}{a:An}(hg:S.get no=some a)(hr:S.root a.dev=no)(h1:no≠1):1<a.dev∧∃v,S.dev a.dev=some v∧S.child no=v.aC:=by
 have hd:=(hk.get hg).1.dev;have BC:1<a.dev:=by
  rcases Int.lt_or_le 1 a.dev with h2|h2
  ·exact h2
  ·exfalso;have h3:a.dev=1:=by omega
   rw[h3,h.top] at hr;exact h1 hr.symm
 obtain⟨v,hv,-,-,-⟩:=j4 hk hd.1 hd.2;refine⟨BC,v,hv,?_⟩;rw[rY,hg];show(if _ then _ else _)=_;rw[if_pos ⟨hr,BC⟩,hv]
theorem nI.more(hk:ax S N)(h:Pl S){no0 no:Int}{l:List (List UInt8)}(hs:nI S no0 no l)(hu:S.aX no≠no){s:ByteArray}(hn:dy (S.bw (S.aX no)) (S.child no)=some s):nI S no0 (S.aX no) (l++[s.data.toList])∧l.length+1≤S.ns.length:=by
 have hab:1≤S.aX no∧S.aX no<no∧no≤S.last∧no≠1:=by
  rcases si hk h hu with h0|h0
  ·rw[h0,oF hk] at hn
   cases hn
  ·exact h0
 obtain⟨h1,h2,h3,h4⟩:=hab;have hro:=hs.room;obtain⟨al,hal⟩:=A0 hu (by omega);have hrk:=Bi h2 hal;have hln:l.length+1≤S.ns.length:=by omega
 have hnm:yL s:=by
  obtain⟨x,hx,rfl⟩:=yo hn;unfold Fs.bw at hx
  cases hg:S.get (S.aX no) with
  |none=>rw[hg] at hx;cases hx
  |some a=>
   rw[hg] at hx;exact h.names a (bD hg) x hx
 refine⟨⟨by simp;omega,fun x hx=>?_,?_,by simp;omega⟩,hln⟩
 ·rcases List.mem_append.1 hx with hx|hx
  ·exact hs.small x hx
  ·simp at hx;subst hx;have:=hnm.2;have h5:s.data.toList.length=s.size:=Array.length_toList;omega
 ·rw[hs.eq,DO];obtain⟨k,hkk⟩:∃j,S.ns.length+1-l.length=j+1:=⟨S.ns.length-l.length,by omega⟩;rw[hkk,show S.ns.length+1-(l++[s.data.toList]).length=k by simp;omega,Fs.jl,if_neg h4,hn];show S.jl k _ _=S.jl k _ _;congr 1
end
end
section
open Go.RowKit
structure nJ(S:Fs)(no:Int)(l:List En):Prop where
 down:∀x∈l,∃b,S.get x.no=some b∧(b.kind=1→b.up=no∧S.root b.dev≠b.no)
 once:l.Pairwise (fun x y=>x.no=y.no→∀b,S.get x.no=some b→b.kind≠1)
structure Tr(S:Fs):Prop where
 leaf:∀a∈S.ns,a.kind≠1→a.ay=[]
 row:∀a∈S.ns,nJ S a.no a.ay
 zero:∀d,S.ds[0]?=some d→d.aC=0
 NU:∀(i:Nat) (hi:i<S.ds.length),∃r,S.get S.ds[i].root=some r∧r.kind=1∧r.dev=(i:Int)+1
def Sub(S S':Fs):Prop:=∀k c,S.get k=some c→∃c',S'.get k=some c'∧c'.kind=c.kind∧c'.up=c.up∧c'.dev=c.dev∧S'.root c.dev=S.root c.dev
theorem Sub.row{S S':Fs}(h:Sub S S'){no:Int}{l:List En}(hr:nJ S no l):nJ S' no l:=by
 refine⟨fun x hx=>?_,?_⟩
 ·obtain⟨b,hb,h1⟩:=hr.down x hx;obtain⟨c,hc,e1,e2,e3,e4⟩:=h _ _ hb;refine⟨c,hc,fun hk=>?_⟩;obtain⟨h2,h3⟩:=h1 (e1▸hk);rw[e2,e3,e4,cj hc,←cj hb];exact⟨h2,h3⟩
 ·have hd:=hr.down;have ho:=hr.once;clear hr
  induction l with
  |nil=>exact List.Pairwise.nil
  |cons y l ih=>
   rw[List.pairwise_cons] at ho⊢;refine⟨fun z hz he b hb=>?_,ih (fun x hx=>hd x (List.mem_cons_of_mem _ hx)) ho.2⟩;obtain⟨c,hc,-⟩:=hd y List.mem_cons_self;obtain⟨c',hc',e1,-⟩:=h _ _ hc;rw[hb] at hc';injection hc' with hc';subst hc';rw[e1];exact ho.1 z hz he c hc
theorem nJ.put{S:Fs}{no:Int}{l:List En}(h:nJ S no l)(s:ByteArray){k:Int}{b:An}(hb:S.get k=some b)(h1:b.kind=1→b.up=no∧S.root b.dev≠b.no)(h2:b.kind=1→∀x∈l,x.no≠k):nJ S no (ct l s k):=by
 unfold ct;refine⟨fun x hx=>?_,?_⟩
 ·rcases List.mem_append.1 hx with hx|hx
  ·exact h.down x (List.mem_filter.1 hx).1
  ·rcases List.mem_cons.1 hx with rfl|hx
   ·exact⟨b,hb,h1⟩
   ·exact h.down x (List.mem_filter.1 hx).1
 ·have hk:∀x∈l,x.no=k→∀c,S.get x.no=some c→c.kind≠1:=fun x hx he c hc iS=>by
   rw[he,hb] at hc;injection hc with hc;subst hc;exact h2 iS x hx he
  rw[List.pairwise_append];refine⟨h.once.sublist List.filter_sublist,?_,fun x hx y hy=>?_⟩
  ·rw[List.pairwise_cons];refine⟨fun y hy he c hc=>?_,h.once.sublist List.filter_sublist⟩;refine hk y (List.mem_filter.1 hy).1 he.symm c ?_;rw[←he];exact hc
  ·rcases List.mem_cons.1 hy with rfl|hy
   ·intro he c hc;exact hk x (List.mem_filter.1 hx).1 he c hc
   ·intro he c hc;have hx':=(List.mem_filter.1 hx);have hy':=(List.mem_filter.1 hy);obtain⟨i,hi,rfl⟩:=List.mem_iff_getElem.1 hx'.1;obtain⟨j,hj,rfl⟩:=List.mem_iff_getElem.1 hy'.1;rcases Nat.lt_trichotomy i j with hij|hij|hij
    ·exact List.pairwise_iff_getElem.1 h.once i j hi hj hij he c hc
    ·subst hij;have e1:=hx'.2;have e2:=hy'.2;rw[jG (by simpa using e1)] at e2
     cases e2
    ·exact List.pairwise_iff_getElem.1 h.once j i hj hi hij he.symm c (by rw[←he];exact hc)
theorem Tr.set{S:Fs}(h:Tr S){a b:An}(hb:S.get a.no=some b)(hk:a.kind=b.kind)(hd:a.dev=b.dev)(hu:a.up=b.up)(hl:a.kind≠1→a.ay=[])(hr:nJ S a.no a.ay):Tr (S.set a):=by
 have hsub:Sub S (S.set a):=fun k c hc=>by
  rw[iM hb];by_cases hka:k=a.no
  ·rw[if_pos hka];rw[hka,hb] at hc;injection hc with hc;subst hc;exact⟨a,rfl,hk,hu,hd,rfl⟩
  ·rw[if_neg hka];exact⟨c,hc,rfl,rfl,rfl,rfl⟩
 refine⟨fun y hy=>?_,fun y hy=>hsub.row ?_,h.zero,fun i hi=>?_⟩
 ·unfold Fs.set at hy;simp only[List.mem_map] at hy;obtain⟨z,hz,rfl⟩:=hy
  split
  ·exact hl
  ·exact h.leaf z hz
 ·unfold Fs.set at hy;simp only[List.mem_map] at hy;obtain⟨z,hz,rfl⟩:=hy
  split
  ·exact hr
  ·exact h.row z hz
 ·obtain⟨r,h1,h2,h3⟩:=h.NU i hi;obtain⟨c,hc,e1,-,e3,-⟩:=hsub _ _ h1;exact⟨c,hc,by rw[e1];exact h2,by rw[e3];exact h3⟩
theorem kF{S:Fs}{d:Int}{v u:Dv}(hv:S.dev d=some v)(hr:u.root=v.root)(e:Int):(S.bp d u).root e=S.root e:=by
 unfold Fs.dev at hv
 split at hv
 ·have hi:=(List.getElem?_eq_some_iff.1 hv).1;unfold Fs.root Fs.bp;simp only[List.length_set,List.getElem?_set]
  split
  ·by_cases hq:(d-1).toNat=(e-1).toNat
   ·rw[if_pos hq,←hq,hv]
    first|exact hr|(rw[if_pos hi];exact hr)
   ·rw[if_neg hq]
  ·rfl
 ·cases hv
theorem Tr.bp{S:Fs}(h:Tr S){d:Int}{v u:Dv}(hv:S.dev d=some v)(hr:u.root=v.root)(ho:u.aC=v.aC):Tr (S.bp d u):=by
 have hsub:Sub S (S.bp d u):=fun k c hc=>⟨c,hc,rfl,rfl,rfl,kF hv hr _⟩;have hv0:=hv;unfold Fs.dev at hv
 split at hv
 ·have hi:=(List.getElem?_eq_some_iff.1 hv).1;have hvi:=(List.getElem?_eq_some_iff.1 hv).2;refine⟨h.leaf,fun y hy=>hsub.row (h.row y hy),fun e he=>?_,fun i zd=>?_⟩
  ·unfold Fs.bp at he;simp only[List.getElem?_set] at he;by_cases hq:(d-1).toNat=0
   ·rw[if_pos hq] at he;rw[hq] at hv
    split at he
    ·injection he with he;rw[←he,ho];exact h.zero v hv
    ·rename_i xJ;exact absurd hi xJ
   ·rw[if_neg hq] at he;exact h.zero e he
  ·have pC:i<S.ds.length:=by
    have:=zd;unfold Fs.bp at this;simpa using this
   obtain⟨r,h1,h2,h3⟩:=h.NU i pC;have he:(S.bp d u).ds[i]=if(d-1).toNat=i then u else S.ds[i]:=
    List.getElem_set (l:=S.ds) (i:=(d-1).toNat) (a:=u) (j:=i) (by rw[List.length_set];exact pC)
   rw[he];by_cases hq:(d-1).toNat=i
   ·subst hq;rw[if_pos rfl,hr,←hvi];exact⟨r,h1,h2,h3⟩
   ·rw[if_neg hq];exact⟨r,h1,h2,h3⟩
 ·cases hv
theorem uC{S:Fs}{N:Nat}(hk:ax S N)(a:An):Sub S (S.add a):=fun k c hc=>by
 refine⟨c,?_,rfl,rfl,rfl,rfl⟩;rw[km hk.nums,if_neg]
 ·exact hc
 ·have:=kd hk.nums hc;omega
theorem Tr.add{S:Fs}{N:Nat}(hk:ax S N)(h:Tr S){a:An}(he:a.ay=[]):Tr (S.add a):=by
 have hsub:=uC hk a;refine⟨fun y hy hyk=>?_,fun y hy=>?_,h.zero,fun i hi=>?_⟩
 ·rcases List.mem_append.1 hy with hy|hy
  ·exact h.leaf y hy hyk
  ·simp at hy;subst hy;exact he
 ·rcases List.mem_append.1 hy with hy|hy
  ·exact hsub.row (h.row y hy)
  ·simp at hy;subst hy;rw[show({a with no:=S.last+1}:An).ay=a.ay from rfl,he];exact⟨fun x hx=>(by cases hx),List.Pairwise.nil⟩
 ·obtain⟨r,h1,h2,h3⟩:=h.NU i hi;obtain⟨c,hc,e1,-,e3,-⟩:=hsub _ _ h1;exact⟨c,hc,by rw[e1];exact h2,by rw[e3];exact h3⟩
theorem nH(S:Fs)(k b n:Int){e:Int}(he:e≤S.ds.length):(S.aH k b n).root e=S.root e:=by
 unfold Fs.root Fs.aH;simp only[List.length_append,List.length_singleton];by_cases h1:(1:Int)≤e
 ·rw[if_pos ⟨h1,by omega⟩,if_pos ⟨h1,he⟩,List.getElem?_append_left (by omega)]
 ·rw[if_neg (fun h=>h1 h.1),if_neg (fun h=>h1 h.1)]
theorem py{S:Fs}(hn:gR S)(k b n:Int):(S.aH k b n).get (S.last+1)=some {cS with no:=S.last+1,dev:=S.ds.length+1,kind:=1,mode:=493,ao:=1,up:=S.last+1}:=by
 have:=km hn {cS with dev:=S.ds.length+1,kind:=1,mode:=493,ao:=1,up:=S.last+1} (S.last+1);rw[if_pos rfl] at this;exact this
theorem Tr.aH{S:Fs}(hn:gR S)(hdev:∀a∈S.ns,a.dev≤S.ds.length)(h:Tr S)(k b n:Int)(h0:S.ds=[]→k=0):Tr (S.aH k b n):=by
 have hsub:Sub S (S.aH k b n):=fun q c hq=>by
  refine⟨c,?_,rfl,rfl,rfl,nH S k b n (hdev c (bD hq))⟩;unfold Fs.get Fs.aH at *;simp only[List.find?_append,hq,Option.some_or]
 refine⟨fun y hy hyk=>?_,fun y hy=>?_,fun d hd=>?_,fun i hi=>?_⟩
 ·rcases List.mem_append.1 hy with hy|hy
  ·exact h.leaf y hy hyk
  ·simp at hy;subst hy;rfl
 ·rcases List.mem_append.1 hy with hy|hy
  ·exact hsub.row (h.row y hy)
  ·simp at hy;subst hy;exact⟨fun x hx=>by simp[cS] at hx,List.Pairwise.nil⟩
 ·unfold Fs.aH at hd
  cases hds:S.ds with
  |nil=>
   rw[hds] at hd;simp at hd;rw[←hd];exact h0 hds
  |cons x l=>
   rw[hds] at hd;simp at hd;subst hd;exact h.zero x (by rw[hds];rfl)
 ·by_cases zd:i<S.ds.length
  ·obtain⟨r,h1,h2,h3⟩:=h.NU i zd;have he:(S.aH k b n).ds[i]=S.ds[i]:=List.getElem_append_left zd;rw[he];obtain⟨c,hc,e1,-,e3,-⟩:=hsub _ _ h1;exact⟨c,hc,by rw[e1];exact h2,by rw[e3];exact h3⟩
  ·have pC:i=S.ds.length:=by
    have h4:i<(S.ds++[(⟨S.last+1,k,1,1,b,n⟩:Dv)]).length:=hi;rw[List.length_append,List.length_singleton] at h4;omega
   subst pC;have he:(S.aH k b n).ds[S.ds.length]=⟨S.last+1,k,1,1,b,n⟩:=by
    have h5:(S.ds++[(⟨S.last+1,k,1,1,b,n⟩:Dv)])[S.ds.length]?=some ⟨S.last+1,k,1,1,b,n⟩:=by
     rw[List.getElem?_append_right (aa _)];simp
    exact(List.getElem?_eq_some_iff.1 h5).2
   rw[he];exact⟨_,py hn k b n,rfl,rfl⟩
theorem Tr.new(b n:Int):Tr (p7.aH 0 b n):=
 Tr.aH ⟨List.Pairwise.nil,fun x hx=>by cases hx⟩ (fun x hx=>by cases hx) ⟨fun x hx=>(by cases hx),fun x hx=>(by cases hx),fun d hd=>(by cases hd),fun i hi=>(by cases hi)⟩ 0 b n (fun _=>rfl)
theorem Tr.make{S:Fs}{N:Nat}(hk:ax S N)(h:Tr S){a:An}(he:a.ay=[]):Tr (S.make a).1∧Sub S (S.make a).1∧((S.make a).2.2=0→(S.make a).2.1=S.last+1∧(S.make a).1.get (S.last+1)=some {a with no:=S.last+1}∧(S.make a).1.root a.dev=S.root a.dev):=by
 have hrefl:Sub S S:=fun k c hc=>⟨c,hc,rfl,rfl,rfl,rfl⟩;unfold Fs.make
 split
 ·exact⟨h,hrefl,fun h=>by cases h⟩
 ·split
  ·exact⟨h,hrefl,fun h=>by cases h⟩
  ·rename_i v hv;simp only
   split
   ·have h2:=h.bp (u:={v with b:=v.b+cR a.kind a.data.size,n:=v.n+1}) hv rfl rfl;have ij:=hk.bp (u:={v with b:=v.b+cR a.kind a.data.size,n:=v.n+1}) hv rfl;have hrt:=kF (u:={v with b:=v.b+cR a.kind a.data.size,n:=v.n+1}) hv rfl;refine⟨h2.add ij he,fun k c hc=>?_,fun _=>⟨rfl,?_,hrt _⟩⟩
    ·obtain⟨c',h3,h4,h5,h6,-⟩:=uC ij a k c hc;exact⟨c',h3,h4,h5,h6,hrt _⟩
    ·show Fs.get (Fs.add _ a) (S.last+1)=_;rw[km ij.nums];exact if_pos rfl
   ·rename_i mP;exact⟨h,hrefl,fun h=>absurd h mP⟩
theorem Tr.bE{S:Fs}(h:Tr S)(now dir:Int)(l:List En)(hl:∀d,S.get dir=some d→d.kind=1∧nJ S dir l):Tr (S.bE now dir l):=by
 unfold Fs.bE
 split
 ·exact h
 ·rename_i d hd;obtain⟨h1,h2⟩:=hl d hd;exact h.set (b:=d) (by show S.get d.no=_;rw[cj hd];exact hd) rfl rfl rfl (fun hq=>absurd h1 hq) (by show nJ S d.no l;rw[cj hd];exact h2)
theorem Tr.cC{S:Fs}{N:Nat}(hk:ax S N)(h:Tr S){a:An}(c:Cr)(now dir:Int)(s:ByteArray)(he:a.ay=[])(hu:a.kind=1→a.up=dir):Tr (S.cC c now dir s a).1:=by
 unfold Fs.cC
 split
 ·exact h
 ·rename_i hpl;obtain⟨d,hd,hdk,hce⟩:=eB (by simpa using hpl);rw[hd];simp only
  split
  ·exact h
  ·obtain⟨hdo,hdn,h1,h2⟩:=hk.get hd;obtain⟨m1,m2,m3⟩:=h.make hk (a:={a with dev:=d.dev,uid:=c.u,gid:=c.g,mtime:=now,ctime:=now,ao:=1}) he
   split
   ·exact h
   ·rename_i h0;obtain⟨e1,e2,e3⟩:=m3 (by simpa using h0);refine m1.bE _ _ _ fun d2 lJ=>?_;obtain⟨d3,vS,gm,-⟩:=m2 _ _ hd;rw[lJ] at vS;injection vS with vS;subst vS;refine⟨by rw[gm];exact hdk,?_⟩;have hrow:=m2.row (h.row d (bD hd));rw[cj hd] at hrow;rw[e1];refine hrow.put s e2 (fun hq=>⟨hu hq,?_⟩) (fun _ x hx=>?_)
    ·show Fs.root _ d.dev≠S.last+1;rw[e3];show S.root d.dev≠S.last+1;obtain⟨v,-,hrt,-,hm⟩:=j4 hk hdo.dev.1 hdo.dev.2;have h4:=(hk.root v hm).2;omega
    ·obtain⟨y,hy,-⟩:=(h.row d (bD hd)).down x hx;have:=kd hk.nums hy;omega
theorem Tr.aO{S:Fs}{N:Nat}(hk:ax S N)(h:Tr S)(c:Cr)(now dir:Int)(s:ByteArray)(m:Int):Tr (S.aO c now dir s m).1:=by
 unfold Fs.aO
 split
 ·exact h
 ·exact h.cC hk c now dir s rfl (fun _=>rfl)
theorem Tr.file{S:Fs}{N:Nat}(hk:ax S N)(h:Tr S)(c:Cr)(now dir:Int)(s:ByteArray)(m:Int)(t:ByteArray):Tr (S.file c now dir s m t).1:=by
 unfold Fs.file
 split
 ·exact h
 ·split
  ·exact h
  ·exact h.cC hk c now dir s rfl (fun hq=>absurd hq (by dsimp only;decide))
theorem Tr.sym{S:Fs}{N:Nat}(hk:ax S N)(h:Tr S)(c:Cr)(now dir:Int)(s t:ByteArray):Tr (S.sym c now dir s t).1:=by
 unfold Fs.sym
 split
 ·exact h
 ·split
  ·exact h
  ·exact h.cC hk c now dir s rfl (fun hq=>absurd hq (by dsimp only;decide))
theorem Tr.same{S:Fs}(h:Tr S){n m:An}(hn:S.get n.no=some n)(h0:m.no=n.no)(h1:m.kind=n.kind)(h2:m.dev=n.dev)(h3:m.up=n.up)(h4:m.ay=n.ay):Tr (S.set m):=
 h.set (b:=n) (by rw[h0];exact hn) h1 h2 h3 (by rw[h1,h4];exact h.leaf n (bD hn)) (by rw[h0,h4];exact h.row n (bD hn))
theorem eL{S:Fs}{k:Int}{n:An}(h:S.get k=some n):S.get n.no=some n:=by rw[cj h];exact h
theorem Tr.ez{S:Fs}(h:Tr S)(c:Cr)(now no dir:Int)(s:ByteArray):Tr (S.ez c now no dir s).1:=by
 unfold Fs.ez
 split
 ·exact h
 ·rename_i hpl;obtain⟨d0,oz,hdk,hce⟩:=eB (by simpa using hpl)
  split
  ·rename_i d n hd hn;rw[hd] at oz;injection oz with oz;subst oz
   split
   ·exact h
   ·rename_i hnk
    split
    ·exact h
    ·split
     ·exact h
     ·split
      ·exact h
      ·have hs:=h.same (m:={n with ao:=n.ao+1,ctime:=now}) (eL hn) rfl rfl rfl rfl rfl;have hset:S.get ({n with ao:=n.ao+1,ctime:=now}:An).no=some n:=eL hn;have hno:=cj hn;refine hs.bE _ _ _ fun d2 lJ=>?_;rw[iM hset] at lJ;have hdn:dir≠n.no:=by
        rintro rfl;rw[hset] at hd;injection hd with hd;subst hd;exact hnk hdk
       rw[if_neg hdn,hd] at lJ;injection lJ with lJ;subst lJ;refine⟨hdk,?_⟩;have hsub:Sub S (S.set {n with ao:=n.ao+1,ctime:=now}):=fun k c hc=>by
        rw[iM hset]
        split
        ·rename_i hkn;rw[hkn,hset] at hc;injection hc with hc;subst hc;exact⟨_,rfl,rfl,rfl,rfl,rfl⟩
        ·exact⟨c,hc,rfl,rfl,rfl,rfl⟩
       have hrow:=hsub.row (h.row d (bD hd));rw[cj hd] at hrow;refine hrow.put s (b:={n with ao:=n.ao+1,ctime:=now}) ?_ (fun hq=>absurd hq hnk) (fun hq=>absurd hq hnk);rw[iM hset,if_pos hno.symm]
  ·exact h
theorem Tr.cw{S:Fs}(h:Tr S)(c:Cr)(now no m:Int):Tr (S.cw c now no m).1:=by
 unfold Fs.cw
 split
 ·exact h
 ·rename_i n hn
  split
  ·exact h
  ·split
   ·exact h
   ·exact h.same (eL hn) rfl rfl rfl rfl rfl
theorem Tr.cD{S:Fs}(h:Tr S)(c:Cr)(now no u g:Int):Tr (S.cD c now no u g).1:=by
 unfold Fs.cD
 split
 ·exact h
 ·rename_i n hn
  split
  ·exact h
  ·split
   ·exact h
   ·split
    ·exact h
    ·exact h.same (eL hn) rfl rfl rfl rfl rfl
theorem Tr.cA{S:Fs}(h:Tr S)(c:Cr)(now no t:Int):Tr (S.cA c now no t).1:=by
 unfold Fs.cA
 split
 ·exact h
 ·rename_i n hn
  split
  ·exact h
  ·split
   ·exact h
   ·exact h.same (eL hn) rfl rfl rfl rfl rfl
theorem Tr.bT{S:Fs}{N:Nat}(hk:ax S N)(h:Tr S)(k b n:Int):Tr (S.bT k b n).1:=by
 unfold Fs.bT
 split
 ·exact h
 ·split
  ·exact h
  ·split
   ·exact h
   ·split
    ·exact h
    ·exact h.aH hk.nums (fun a ha=>(hk.all a ha).dev.2) k b n (fun h0=>by
      have:=hk.d1;rw[h0] at this
      cases this)
theorem Tr.bO{S:Fs}{N:Nat}(hk:ax S N)(h:Tr S)(m:Mt):Tr (bO S m):=by
 unfold Go.Proofs.YtabbjaomlmnnhaaGreat.bO
 split
 ·exact h
 ·split
  ·have h1:=h.aO hk bM 0 (S.path bM m.path false).1.dir (S.path bM m.path false).1.name 493;have gD:=gN hk bM 0 (S.path bM m.path false).1.dir (S.path bM m.path false).1.name 493;simp only
   split
   ·exact h1
   ·exact h1.bT gD _ _ _
  ·exact h.bT hk _ _ _
theorem Tr.aQ{S:Fs}{N:Nat}(hk:ax S N)(h:Tr S)(l:List Mt):Tr (aQ S l):=by
 induction l generalizing S N with
 |nil=>exact h
 |cons m l ih=>
  unfold Go.Proofs.YtabbjaomlmnnhaaGreat.aQ;by_cases hm:m.path=ks
  ·rw[if_pos hm];exact ih hk h
  ·rw[if_neg hm];exact ih (lB hk m) (h.bO hk m)
theorem Tr.bS{S:Fs}{N:Nat}(hk:ax S N)(h:Tr S)(it:It):Tr (bS S it).1:=by
 unfold Go.Proofs.YtabbjaomlmnnhaaGreat.bS;simp only
 split
 ·exact h
 ·split
  ·split<;>exact h
  ·split
   ·exact h.aO hk _ _ _ _ _
   ·split
    ·exact h.file hk _ _ _ _ _ _
    ·split
     ·exact h.sym hk _ _ _ _ _
     ·split
      ·split
       ·exact h.ez _ _ _ _ _
       ·exact h
      ·exact h
theorem Tr.dQ{S:Fs}{N:Nat}(hk:ax S N)(h:Tr S)(it:It):Tr (dQ S it).1:=by
 unfold Go.Proofs.YtabbjaomlmnnhaaGreat.dQ;have h1:=h.bS hk it;simp only
 split
 ·exact(h1.cD _ _ _ _ _).cw _ _ _ _
 ·exact h1
theorem Tr.aY{S:Fs}{N:Nat}(hk:ax S N)(h:Tr S)(l:List It):Tr (aY S l).1:=by
 induction l generalizing S N with
 |nil=>exact h
 |cons x l ih=>exact ih (ow hk x) (h.dQ hk x)
theorem Tr.bN{S:Fs}(h:Tr S)(l:List (It×Int)):Tr (bN S l):=by
 induction l generalizing S with
 |nil=>exact h
 |cons x l ih=>
  unfold Go.Proofs.YtabbjaomlmnnhaaGreat.bN;refine ih ?_
  split
  ·exact h.cA _ _ _ _
  ·exact h
theorem E6(ms:List Mt)(is:List It):Tr (cU ms is):=by
 unfold cU;simp only;have hk:=ax.new (aU ms).1 (aU ms).2;exact Tr.bN (Tr.aY (fe hk ms) (Tr.aQ hk (Tr.new _ _) ms) is) _
end
end Go.Proofs.YtabbjaomlmnnhaaGreat
