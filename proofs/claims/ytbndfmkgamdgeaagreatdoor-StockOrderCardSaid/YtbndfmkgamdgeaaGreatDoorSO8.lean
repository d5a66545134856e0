import Derived.Test.YtbndfmkgamdgeaaGreatDoorSO1
import Derived.Test.YtbndfmkgamdgeaaGreatDoorSO2
import Derived.Test.YtbndfmkgamdgeaaGreatDoorSO3
import Derived.Test.YtbndfmkgamdgeaaGreatDoorSO4
import Derived.Test.YtbndfmkgamdgeaaGreatDoorSO5
import Derived.Test.YtbndfmkgamdgeaaGreatDoorSO6
set_option linter.unusedVariables false
set_option linter.unusedSimpArgs false
set_option maxRecDepth 100000
set_option maxHeartbeats 16000000
namespace Go.Proofs.YtbndfmkgamdgeaaGreatDoor
section
open Go.RowKit
def permB (cu cg uid gid mode want:Int):Bool:=
 if cu=0 then true else
  (bits .and .i64 (bits .and .i64 (if cu=uid then mode / 64 else if cg=gid then mode / 8 else mode) want) 7 == bits .and .i64 want 7)
structure Cr where
 u:Int
 g:Int
def An.may (a:An) (c:Cr) (want:Int):Bool:=permB c.u c.g a.uid a.gid a.mode want
def ownsB (c:Cr) (a:An):Bool:=(c.u == 0) || (c.u == a.uid)
def idB (u g:Int):Bool:=decide (0≤u∧u≤2147483648∧0≤g∧g≤2147483648)
def Fs.dev (S:Fs) (d:Int):Option Dv:=if 1≤d then S.ds[(d - 1).toNat]? else none
def Fs.setDev (S:Fs) (d:Int) (v:Dv):Fs:={S with ds:=S.ds.set (d - 1).toNat v}
def Fs.addRoot (S:Fs) (over blocks nodes:Int):Fs:=
 {ns:=S.ns ++ [{an0 with no:=S.last+1,dev:=S.ds.length+1,kind:=1,mode:=493,links:=1,up:=S.last+1}]
  ds:=S.ds ++ [⟨S.last+1,over,1,1,blocks,nodes⟩]
  last:=S.last+1}
def fs0:Fs:=⟨[],[],0⟩
def Fs.mount (S:Fs) (k blocks nodes:Int):Fs×Int×Int:=
 match S.get k with
 | none=>(S,0,5)
 | some a=>
  if a.kind≠1 then (S,0,9)
  else if S.over k≠k∨S.root a.dev=k then (S,0,16)
  else if 8≤S.ds.length∨limB blocks nodes=false then (S,0,3)
  else (S.addRoot k blocks nodes,S.last+1,0)
def Fs.above (S:Fs) (k:Int):Int:=
 match S.get k with
 | none=>0
 | some a=>
  if a.kind≠1 then 0
  else if S.root a.dev=k∧1<a.dev then
   (match S.dev a.dev with
    | none=>0
    | some v=>match S.get v.over with | none=>0 | some b=>b.up)
  else a.up
def Fs.make (S:Fs) (a:An):Fs×Int×Int:=
 if S.root a.dev=0 then (S,0,1) else
 match S.dev a.dev with
 | none=>(S,0,1)
 | some v=>
  let e:=tkE v.b v.n v.mb v.mn (blkI a.kind a.data.size) 1
  if e=0 then (((S.setDev a.dev {v with b:=v.b+blkI a.kind a.data.size,n:=v.n+1}).add a),S.last+1,0)
  else (S,0,e)
def partsL (l:List UInt8):List (List UInt8):=(spl 47 l).filter fun p=>!(p == []) && !(p == [46])
def slashB (l:List UInt8):Bool:=segL l == [] || segL l == [46] || segL l == [46,46]
structure Fd where
 dir:Int
 name:ByteArray
 no:Int
 slash:Bool
def fd0:Fd:=⟨0,ByteArray.empty,0,false⟩
def Fs.step (S:Fs) (c:Cr) (at':Int) (p:List UInt8):Int×Int:=
 match S.get at' with
 | none=>(0,9)
 | some d=>
  if d.kind≠1 then (0,9)
  else if d.may c 1=false then (0,6)
  else if p=[46,46] then (S.above at',0)
  else if 255<p.length then (0,13)
  else (S.over (entFind d.ents (str p)),0)
def Fs.seekL (S:Fs) (c:Cr) (follow:Bool) (k:Option (Int→Bool→List (List UInt8)→Fd×Int)):List (List UInt8)→Int→Bool→Fd×Int
 | [],at',_=>(⟨0,ByteArray.empty,at',true⟩,0)
 | p :: l,at',must=>
  let r:=S.step c at' p
  if r.2≠0 then (fd0,r.2)
  else if p=[46,46] then S.seekL c follow k l r.1 must
  else match S.get r.1 with
  | none=>if l=[] then (⟨at',str p,0,must⟩,0) else (fd0,5)
  | some n=>
   if n.kind=3∧(l≠[]∨must=true∨follow=true) then
    (match k with
     | none=>(fd0,12)
     | some k=>
      if n.data.data.toList=[] then (fd0,5)
      else k (if n.data.data.toList.head? = some 47 then 1 else at') (if l=[] then must || slashB n.data.data.toList else must) (partsL n.data.data.toList ++ l))
   else if n.kind≠1∧(l≠[]∨must=true) then (fd0,9)
   else if l=[] then (⟨at',str p,r.1,must⟩,0)
   else S.seekL c follow k l r.1 must
def Fs.seekH (S:Fs) (c:Cr) (follow:Bool):Nat→Int→Bool→List (List UInt8)→Fd×Int
 | 0,at',must,l=>S.seekL c follow none l at' must
 | h+1,at',must,l=>S.seekL c follow (some (S.seekH c follow h)) l at' must
def Fs.path (S:Fs) (c:Cr) (s:ByteArray) (follow:Bool):Fd×Int:=
 if pathE s≠0 then (fd0,pathE s) else S.seekH c follow 8 1 (slashB s.data.toList) (partsL s.data.toList)
def checkE (s:ByteArray):Int:=
 if s.data.toList=[]∨s.data.toList=[46]∨s.data.toList=[46,46]∨(47:UInt8)∈s.data.toList∨(0:UInt8)∈s.data.toList then 1 else if 255<s.size then 13 else 0
def Fs.placeE (S:Fs) (c:Cr) (dir:Int) (s:ByteArray):Int:=
 match S.get dir with
 | none=>5
 | some d=>if d.kind≠1 then 9 else if checkE s≠0 then checkE s else if d.may c 3=false then 6 else 0
def Fs.touch (S:Fs) (now dir:Int) (l:List En):Fs:=
 match S.get dir with
 | none=>S
 | some d=>S.set {d with ents:=l,mtime:=now,ctime:=now}
def Fs.come (S:Fs) (c:Cr) (now dir:Int) (s:ByteArray) (a:An):Fs×Int×Int:=
 if S.placeE c dir s≠0 then (S,0,S.placeE c dir s) else
 match S.get dir with
 | none=>(S,0,5)
 | some d=>
  if entFind d.ents s≠0 then (S,0,7)
  else
   let r:=S.make {a with dev:=d.dev,uid:=c.u,gid:=c.g,mtime:=now,ctime:=now,links:=1}
   if r.2.2≠0 then (S,0,r.2.2)
   else (r.1.touch now dir (entPut d.ents s r.2.1),r.2.1,0)
def Fs.mkdir (S:Fs) (c:Cr) (now dir:Int) (s:ByteArray) (mode:Int):Fs×Int×Int:=
 if mode<0∨1023<mode then (S,0,1) else S.come c now dir s {an0 with kind:=1,mode:=mode,up:=dir}
def Fs.file (S:Fs) (c:Cr) (now dir:Int) (s:ByteArray) (mode:Int) (data:ByteArray):Fs×Int×Int:=
 if mode<0∨1023<mode then (S,0,1) else if 1048576<data.size then (S,0,3) else S.come c now dir s {an0 with kind:=2,mode:=mode,data:=data}
def Fs.sym (S:Fs) (c:Cr) (now dir:Int) (s text:ByteArray):Fs×Int×Int:=
 if text.data.toList=[]∨(0:UInt8)∈text.data.toList then (S,0,1) else if 4096<text.size then (S,0,13) else S.come c now dir s {an0 with kind:=3,mode:=511,data:=text}
def Fs.hard (S:Fs) (c:Cr) (now no dir:Int) (s:ByteArray):Fs×Int:=
 if S.placeE c dir s≠0 then (S,S.placeE c dir s) else
 match S.get dir,S.get no with
 | some d,some n=>
  if n.kind=1 then (S,4)
  else if entFind d.ents s≠0 then (S,7)
  else if n.dev≠d.dev then (S,11)
  else if 1000≤n.links then (S,18)
  else ((S.set {n with links:=n.links+1,ctime:=now}).touch now dir (entPut d.ents s no),0)
 | _,_=>(S,5)
def Fs.chmod (S:Fs) (c:Cr) (now no mode:Int):Fs×Int:=
 match S.get no with
 | none=>(S,5)
 | some n=>if ownsB c n=false then (S,4) else if mode<0∨1023<mode∨n.kind=3 then (S,1) else (S.set {n with mode:=mode,ctime:=now},0)
def Fs.chown (S:Fs) (c:Cr) (now no u g:Int):Fs×Int:=
 match S.get no with
 | none=>(S,5)
 | some n=>if ownsB c n=false then (S,4) else if c.u≠0 then (S,4) else if idB u g=false then (S,1) else (S.set {n with uid:=u,gid:=g,ctime:=now},0)
def Fs.utime (S:Fs) (c:Cr) (now no t:Int):Fs×Int:=
 match S.get no with
 | none=>(S,5)
 | some n=>if ownsB c n=false then (S,4) else if t<0∨253402300799<t then (S,1) else (S.set {n with mtime:=t,ctime:=now},0)
structure Sy where
 fs:Fs
 now:Int
 count:Int
 plan:List (Int×Int)
 dead:Bool
def Sy.change (Y:Sy):Sy×Int:=
 if Y.dead then (Y,20) else
 match Y.plan.find? (fun x=>x.1 == Y.count+1) with
 | none=>({Y with count:=Y.count+1},0)
 | some x=>({Y with count:=Y.count+1,dead:=x.2 == 20},x.2)
end
section
open Go.RowKit
theorem put_len (l:List En) (n:ByteArray) (no:Int) (h:Rise l):(entPut l n no).length≤l.length+1:=by
 rw [put_at h,List.length_append,List.length_take,List.length_cons,List.length_drop];have:=entAt_le l n;omega
structure AnOk (a:An) (D N:Nat):Prop where
 rise:Rise a.ents
 few:a.ents.length≤N
 dev:1≤a.dev∧a.dev≤D
 links:0≤a.links∧a.links≤1000
 data:a.data.size≤1048576
 mode:0≤a.mode∧a.mode≤1023
 kind:1≤a.kind∧a.kind≤3
 nz:∀ x∈a.ents,1≤x.no
 sy:a.kind=3→a.data.size≤4096
theorem put_nz {l:List En} (h:∀ x∈l,1≤x.no) (n:ByteArray) {no:Int} (hn:1≤no):∀ x∈entPut l n no,1≤x.no:=by
 intro x hx;unfold entPut at hx;rcases List.mem_append.1 hx with hx | hx
 ·exact h x (List.mem_filter.1 hx).1
 ·rcases List.mem_cons.1 hx with rfl | hx
  ·exact hn
  ·exact h x (List.mem_filter.1 hx).1
structure FsOk (S:Fs) (N:Nat):Prop where
 nums:Nums S
 l0:0≤S.last
 lN:S.last≤N
 all:∀ a∈S.ns,AnOk a S.ds.length N
 d1:1≤S.ds.length
 d8:S.ds.length≤8
 root:∀ d∈S.ds,1≤d.root∧d.root≤S.last
theorem AnOk.mono {a:An} {D D' N N':Nat} (h:AnOk a D N) (hD:D≤D') (hN:N≤N'):AnOk a D' N':=
 ⟨h.rise,Nat.le_trans h.few hN,⟨h.dev.1,by have:=h.dev.2;omega⟩,h.links,h.data,h.mode,h.kind,h.nz,h.sy⟩
theorem FsOk.mono {S:Fs} {N N':Nat} (h:FsOk S N) (hN:N≤N'):FsOk S N':=
 ⟨h.nums,h.l0,by have:=h.lN;omega,fun a ha=>(h.all a ha).mono (Nat.le_refl _) hN,h.d1,h.d8,h.root⟩
theorem FsOk.get {S:Fs} {N:Nat} (h:FsOk S N) {k:Int} {a:An} (hg:S.get k=some a):AnOk a S.ds.length N∧a.no=k∧1≤k∧k≤S.last:=by
 have hm:=an_mem hg;have hn:=an_no hg;have:=h.nums.low a hm;exact⟨h.all a hm,hn,by omega,by omega⟩
theorem FsOk.set {S:Fs} {N:Nat} (h:FsOk S N) {a:An} (ha:AnOk a S.ds.length N):FsOk (S.set a) N:=by
 refine ⟨h.nums.set a,h.l0,h.lN,fun x hx=>?_,h.d1,h.d8,h.root⟩;unfold Fs.set at hx;simp only [List.mem_map] at hx;obtain⟨y,hy,rfl⟩:=hx
 split
 ·exact ha
 ·exact h.all y hy
theorem FsOk.add {S:Fs} {N:Nat} (h:FsOk S N) {a:An} (ha:AnOk a S.ds.length (N+1)):FsOk (S.add a) (N+1):=by
 refine ⟨h.nums.add h.l0 a,?_,?_,fun x hx=>?_,h.d1,h.d8,fun d hd=>?_⟩
 ·show 0≤S.last+1;have:=h.l0;omega
 ·show S.last+1≤((N+1:Nat):Int);have:=h.lN;omega
 ·rcases List.mem_append.1 hx with hx | hx
  ·exact (h.all x hx).mono (Nat.le_refl _) (by omega)
  ·simp at hx;subst hx;exact ⟨ha.rise,ha.few,ha.dev,ha.links,ha.data,ha.mode,ha.kind,ha.nz,ha.sy⟩
 ·have:=h.root d hd;show 1≤d.root∧d.root≤S.last+1;omega
theorem FsOk.setDev {S:Fs} {N:Nat} (h:FsOk S N) {d:Int} {v u:Dv} (hv:S.dev d=some v) (hu:u.root=v.root):FsOk (S.setDev d u) N:=by
 unfold Fs.dev at hv
 split at hv
 ·refine ⟨⟨h.nums.rise,h.nums.low⟩,h.l0,h.lN,fun a ha=>?_,?_,?_,fun x hx=>?_⟩
  ·unfold Fs.setDev;simp only [List.length_set];exact h.all a ha
  ·unfold Fs.setDev;simp only [List.length_set];exact h.d1
  ·unfold Fs.setDev;simp only [List.length_set];exact h.d8
  ·rcases List.mem_or_eq_of_mem_set hx with hx | rfl
   ·exact h.root x hx
   ·rw [hu];exact h.root v (List.mem_of_getElem? hv)
 ·cases hv
theorem dev_of {S:Fs} {d:Int} (h1:1≤d) (h2:d≤S.ds.length):∃ v,S.dev d=some v∧S.ds[(d - 1).toNat]? = some v:=by
 unfold Fs.dev;rw [if_pos h1];have:(d - 1).toNat<S.ds.length:=by omega
 exact⟨_,List.getElem?_eq_getElem this,List.getElem?_eq_getElem this⟩
theorem root_of {S:Fs} {N:Nat} (h:FsOk S N) {d:Int} (h1:1≤d) (h2:d≤S.ds.length):∃ v,S.dev d=some v∧S.root d=v.root∧1≤v.root∧v∈S.ds:=by
 obtain⟨v,hv,hg⟩:=dev_of h1 h2;refine ⟨v,hv,?_,(h.root v (List.mem_of_getElem? hg)).1,List.mem_of_getElem? hg⟩;unfold Fs.root;rw [if_pos ⟨h1,h2⟩,hg]
theorem root_no {S:Fs} {d:Int} (h:¬ (1≤d∧d≤S.ds.length)):S.root d=0:=by
 unfold Fs.root;rw [if_neg h]
theorem rise_nil:Rise []:=List.Pairwise.nil
theorem FsOk.addRoot {S:Fs} {N:Nat} (hn:Nums S) (l0:0≤S.last) (lN:S.last≤N) (hall:∀ a∈S.ns,AnOk a S.ds.length N) (d8:S.ds.length≤7) (hroot:∀ d∈S.ds,1≤d.root∧d.root≤S.last) (over b n:Int):FsOk (S.addRoot over b n) (N+1):=by
 refine ⟨?_,?_,?_,fun x hx=>?_,?_,?_,fun d hd=>?_⟩
 ·have:=hn.add l0 {an0 with dev:=S.ds.length+1,kind:=1,mode:=493,links:=1,up:=S.last+1};exact⟨this.rise,this.low⟩
 ·show 0≤S.last+1;omega
 ·show S.last+1≤((N+1:Nat):Int);omega
 ·show AnOk x (S.ds ++ [_]).length (N+1);rw [List.length_append,List.length_singleton];rcases List.mem_append.1 hx with hx | hx
  ·exact (hall x hx).mono (by omega) (by omega)
  ·simp at hx;subst hx;exact⟨rise_nil,Nat.zero_le _,⟨by show 1≤(S.ds.length:Int)+1;omega,by show (S.ds.length:Int)+1≤((S.ds.length+1:Nat):Int);omega⟩,⟨by dsimp only;decide,by dsimp only;decide⟩,by show (0:Nat)≤_;omega,⟨by dsimp only;decide,by dsimp only;decide⟩,⟨by dsimp only;decide,by dsimp only;decide⟩,fun x hx=>(by simp [an0] at hx),fun h=>absurd h (by dsimp only;decide)⟩
 ·show 1≤(S.ds ++ [_]).length;rw [List.length_append,List.length_singleton];omega
 ·show (S.ds ++ [_]).length≤8;rw [List.length_append,List.length_singleton];omega
 ·show 1≤d.root∧d.root≤S.last+1;rcases List.mem_append.1 hd with hd | hd
  ·have:=hroot d hd;omega
  ·simp at hd;subst hd;simp;omega
theorem FsOk.new (b n:Int):FsOk (fs0.addRoot 0 b n) 1:=
 FsOk.addRoot (S:=fs0) (N:=0) ⟨List.Pairwise.nil,fun x hx=>by simp [fs0] at hx⟩ (by decide) (by decide) (fun x hx=>by simp [fs0] at hx) (by decide) (fun x hx=>by simp [fs0] at hx) 0 b n
theorem FsOk.mount {S:Fs} {N:Nat} (h:FsOk S N) (k b n:Int):FsOk (S.mount k b n).1 (N+1):=by
 have h1:=h.mono (Nat.le_succ N);unfold Fs.mount
 split
 ·exact h1
 ·split
  ·exact h1
  ·split
   ·exact h1
   ·split
    ·exact h1
    ·rename_i hd;exact FsOk.addRoot h.nums h.l0 h.lN h.all (by omega) h.root k b n
theorem FsOk.make {S:Fs} {N:Nat} (h:FsOk S N) {a:An} (ha:AnOk a S.ds.length (N+1)):FsOk (S.make a).1 (N+1):=by
 have h1:=h.mono (Nat.le_succ N);unfold Fs.make
 split
 ·exact h1
 ·split
  ·exact h1
  ·rename_i v hv;simp only
   split
   ·have h2:=h.setDev (u:={v with b:=v.b+blkI a.kind a.data.size,n:=v.n+1}) hv rfl;exact h2.add (by unfold Fs.setDev;simp only [List.length_set];exact ha)
   ·exact h1
theorem FsOk.touch {S:Fs} {N:Nat} (h:FsOk S N) (now dir:Int) (l:List En) (hl:Rise l) (hN:l.length≤N) (hz:∀ x∈l,1≤x.no):FsOk (S.touch now dir l) N:=by
 unfold Fs.touch
 split
 ·exact h
 ·rename_i d hd;have:=h.get hd;exact h.set ⟨hl,hN,this.1.dev,this.1.links,this.1.data,this.1.mode,this.1.kind,hz,this.1.sy⟩
theorem make_nz {S:Fs} (h:0≤S.last) (a:An) (hz:(S.make a).2.2=0):1≤(S.make a).2.1:=by
 revert hz;unfold Fs.make
 split
 ·intro hz;cases hz
 ·split
  ·intro hz;cases hz
  ·simp only
   split
   ·intro _;show 1≤S.last+1;omega
   ·rename_i hz;intro hz2;exact absurd hz2 hz
theorem come_ok {S:Fs} {N:Nat} (h:FsOk S N) {a:An} (c:Cr) (now dir:Int) (s:ByteArray) (hr:a.ents=[]) (hd:a.data.size≤1048576) (hm:0≤a.mode∧a.mode≤1023) (hk:1≤a.kind∧a.kind≤3) (hsy:a.kind=3→a.data.size≤4096):FsOk (S.come c now dir s a).1 (N+1):=by
 have h1:=h.mono (Nat.le_succ N);unfold Fs.come
 split
 ·exact h1
 ·split
  ·exact h1
  ·rename_i d hg
   split
   ·exact h1
   ·obtain ⟨hdo,-,-,-⟩:=h.get hg;have h2:=h.make (a:={a with dev:=d.dev,uid:=c.u,gid:=c.g,mtime:=now,ctime:=now,links:=1}) ⟨by rw [show ({a with dev:=d.dev,uid:=c.u,gid:=c.g,mtime:=now,ctime:=now,links:=1}:An).ents=a.ents from rfl,hr];exact rise_nil,by show a.ents.length≤N+1;rw [hr];exact Nat.zero_le _,hdo.dev,⟨by dsimp only;decide,by dsimp only;decide⟩,hd,hm,hk,fun x hx=>(by rw [show ({a with dev:=d.dev,uid:=c.u,gid:=c.g,mtime:=now,ctime:=now,links:=1}:An).ents=a.ents from rfl,hr] at hx;cases hx),hsy⟩;simp only
    split
    ·exact h1
    ·refine h2.touch _ _ _ (rise_put hdo.rise _ _) ?_ (put_nz hdo.nz _ (make_nz h.l0 _ (by rename_i hz;simpa using hz)));have:=put_len d.ents s (S.make {a with dev:=d.dev,uid:=c.u,gid:=c.g,mtime:=now,ctime:=now,links:=1}).2.1 hdo.rise;have:=hdo.few;omega
theorem mkdir_ok {S:Fs} {N:Nat} (h:FsOk S N) (c:Cr) (now dir:Int) (s:ByteArray) (m:Int):FsOk (S.mkdir c now dir s m).1 (N+1):=by
 unfold Fs.mkdir
 split
 ·exact h.mono (Nat.le_succ N)
 ·exact come_ok h c now dir s rfl (by show (0:Nat)≤1048576;decide) ⟨by show 0≤m;omega,by show m≤1023;omega⟩ ⟨by dsimp only;decide,by dsimp only;decide⟩ (fun h=>absurd h (by dsimp only;decide))
theorem file_ok {S:Fs} {N:Nat} (h:FsOk S N) (c:Cr) (now dir:Int) (s:ByteArray) (m:Int) (t:ByteArray):FsOk (S.file c now dir s m t).1 (N+1):=by
 unfold Fs.file
 split
 ·exact h.mono (Nat.le_succ N)
 ·split
  ·exact h.mono (Nat.le_succ N)
  ·exact come_ok h c now dir s rfl (by show t.size≤_;omega) ⟨by show 0≤m;omega,by show m≤1023;omega⟩ ⟨by show (1:Int)≤2;decide,by show (2:Int)≤3;decide⟩ (fun h=>absurd h (by dsimp only;decide))
theorem sym_ok {S:Fs} {N:Nat} (h:FsOk S N) (c:Cr) (now dir:Int) (s t:ByteArray):FsOk (S.sym c now dir s t).1 (N+1):=by
 unfold Fs.sym
 split
 ·exact h.mono (Nat.le_succ N)
 ·split
  ·exact h.mono (Nat.le_succ N)
  ·exact come_ok h c now dir s rfl (by show t.size≤_;omega) ⟨by show (0:Int)≤511;decide,by show (511:Int)≤1023;decide⟩ ⟨by show (1:Int)≤3;decide,by show (3:Int)≤3;decide⟩ (fun _=>by show t.size≤4096;omega)
theorem hard_ok {S:Fs} {N:Nat} (h:FsOk S N) (c:Cr) (now no dir:Int) (s:ByteArray):FsOk (S.hard c now no dir s).1 (N+1):=by
 have h1:=h.mono (Nat.le_succ N);unfold Fs.hard
 split
 ·exact h1
 ·split
  ·rename_i d n hd hn
   split
   ·exact h1
   ·split
    ·exact h1
    ·split
     ·exact h1
     ·split
      ·exact h1
      ·obtain ⟨ho,-,-,-⟩:=h.get hd;obtain⟨hm,-,-,-⟩:=h.get hn;have hm1:=hm.mono (Nat.le_refl _) (Nat.le_succ N);refine FsOk.touch (h1.set (a:={n with links:=n.links+1,ctime:=now}) ⟨hm1.rise,hm1.few,hm1.dev,⟨by have:=hm1.links.1;show 0≤n.links+1;omega,by show n.links+1≤1000;omega⟩,hm1.data,hm1.mode,hm1.kind,hm1.nz,hm1.sy⟩) _ _ _ (rise_put ho.rise _ _) ?_ (put_nz ho.nz _ (h.get hn).2.2.1);have:=put_len d.ents s no ho.rise;have:=ho.few;omega
  ·exact h1
theorem chmod_ok {S:Fs} {N:Nat} (h:FsOk S N) (c:Cr) (now no m:Int):FsOk (S.chmod c now no m).1 N:=by
 unfold Fs.chmod
 split
 ·exact h
 ·rename_i n hn
  split
  ·exact h
  ·split
   ·exact h
   ·obtain ⟨hm,-,-,-⟩:=h.get hn;exact h.set ⟨hm.rise,hm.few,hm.dev,hm.links,hm.data,⟨by show 0≤m;omega,by show m≤1023;omega⟩,hm.kind,hm.nz,hm.sy⟩
theorem chown_ok {S:Fs} {N:Nat} (h:FsOk S N) (c:Cr) (now no u g:Int):FsOk (S.chown c now no u g).1 N:=by
 unfold Fs.chown
 split
 ·exact h
 ·rename_i n hn
  split
  ·exact h
  ·split
   ·exact h
   ·split
    ·exact h
    ·obtain ⟨hm,-,-,-⟩:=h.get hn;exact h.set ⟨hm.rise,hm.few,hm.dev,hm.links,hm.data,hm.mode,hm.kind,hm.nz,hm.sy⟩
theorem utime_ok {S:Fs} {N:Nat} (h:FsOk S N) (c:Cr) (now no t:Int):FsOk (S.utime c now no t).1 N:=by
 unfold Fs.utime
 split
 ·exact h
 ·rename_i n hn
  split
  ·exact h
  ·split
   ·exact h
   ·obtain ⟨hm,-,-,-⟩:=h.get hn;exact h.set ⟨hm.rise,hm.few,hm.dev,hm.links,hm.data,hm.mode,hm.kind,hm.nz,hm.sy⟩
end
section
open Go.RowKit
structure DvC (w:World) (g o:Nat) (d:Dv):Prop where
 c0:w.cell? ⟨g,o,none⟩=some (.int .i64 d.root)
 c1:w.cell? ⟨g,o+1,none⟩=some (.int .i64 d.over)
 c2:w.cell? ⟨g,o+2,none⟩=some (.int .i64 d.b)
 c3:w.cell? ⟨g,o+3,none⟩=some (.int .i64 d.n)
 c4:w.cell? ⟨g,o+4,none⟩=some (.int .i64 d.mb)
 c5:w.cell? ⟨g,o+5,none⟩=some (.int .i64 d.mn)
def dvQ (cs:List Value) (d:Dv):Prop:=cs=d.cs
section
variable {w w':World} {pw:Nat} {R:Rp} {S:Fs}
theorem WdAt.devF (h:WdAt w pw R S) (hd:0<S.ds.length):∃ g cap,R.dv=.slice (some ⟨g,0,none⟩) S.ds.length cap∧S.ds.length≤cap∧cap≤9223372036854775807∧g<w.heap.size∧
  (∀ (i:Nat) (hi:i<S.ds.length),DvC w g (i*6) S.ds[i])∧(∀ i,w.frozen? ⟨g,i,none⟩=false)∧∃ cur,Blk w g cur 217:=by
 have h0:=h.devs;obtain⟨a,cap,hv,hle,h63,hf⟩:=own_form h0;rcases hf with ⟨-,h1,-⟩|⟨g,rfl,-,hg⟩
 ·omega
 ·rw [hv] at h0;obtain⟨-,-,-,h1 | ⟨b,off,he,hb,hel⟩⟩:=own_slice (R:=dvQ) (by omega) Dv.cs_len (fun _=>rfl) h0
  ·omega
  ·injection he with he;injection he with e1 e2;subst e1 e2;obtain⟨cur,hcur⟩:∃ cur,Blk w g cur 217:=by
    rcases h0.2 with ⟨h1,-⟩|⟨g',cap',cur,h1,-,hg',-⟩
    ·cases h1
    ·injection h1 with h1;injection h1 with h1;injection h1 with h1;subst h1;exact⟨cur,hg'⟩
   refine ⟨g,cap,hv,hle,h63,hg,fun i hi=>?_,hcur.frozen,cur,hcur⟩;obtain⟨cs,h2,h3,h4⟩:=hel i hi;subst h3;have e:∀ j (hj:j<6),w.cell? ⟨g,i*6+j,none⟩=some (S.ds[i].cs[j]'(by rw [Dv.cs_len];exact hj)):=fun j hj=>by
    have:=h4 j (by rw [Dv.cs_len];exact hj);rw [Nat.zero_add] at this;exact this
   exact⟨e 0 (by omega),e 1 (by omega),e 2 (by omega),e 3 (by omega),e 4 (by omega),e 5 (by omega)⟩
theorem wnone_any (h:WdAt w pw R S) (hd:0<S.ds.length) :
  Calls Tryz.prog 117 #[.pointer (some ⟨pw,0,none⟩)] w fun e w'=>e=.returned (.bool false)∧w=w':=by
 obtain⟨g,cap,hv,-,-,-,-,-,-⟩:=h.devF hd;obtain⟨pc,-,-⟩:=h.blk.facts;rw [hv] at pc;have hz:¬ ((S.ds.length:Int)=0):=by omega
 have hz2:((S.ds.length:Int) == 0)=false:=by simpa using hz
 generalize S.ds.length=n at pc hz hz2;clear h hv hd;go_enter Tryz.func117,Tryz.ntmps117
 go_wp2
 go_ret;exact⟨rfl,rfl⟩
theorem wdevs_any (h:WdAt w pw R S) (hd:0<S.ds.length) :
  Calls Tryz.prog 149 #[.pointer (some ⟨pw,0,none⟩)] w fun e w'=>e=.returned (.int .i64 S.ds.length)∧w=w':=by
 have HN:=Lib.hid (wnone_any h hd);obtain⟨g,cap,hv,-,-,-,-,-,-⟩:=h.devF hd;obtain⟨pc,-,-⟩:=h.blk.facts;rw [hv] at pc;generalize S.ds.length=n at pc ⊢;clear h hv hd;go_enter Tryz.func149,Tryz.ntmps149;go_wp2_with fail;refine HN.out.mono ?_;rintro e w1 ⟨rfl,rfl⟩
 go_wp2
 go_ret;exact⟨rfl,rfl⟩
theorem wroot_any (h:WdAt w pw R S) (hd:0<S.ds.length) (d:Int) :
  Calls Tryz.prog 67 #[.pointer (some ⟨pw,0,none⟩),.int .i64 d] w fun e w'=>e=.returned (.int .i64 (S.root d))∧w=w':=by
 have HN:=Lib.hid (wnone_any h hd);obtain⟨g,cap,hv,hle,h63,hg,hc,-,-⟩:=h.devF hd;obtain⟨pc,-,-⟩:=h.blk.facts;rw [hv] at pc;clear h hv;by_cases h1:1≤d
 ·by_cases h2:d≤S.ds.length
  ·obtain ⟨k,rfl⟩:∃ k:Nat,d=(k:Int)+1:=⟨(d - 1).toNat,by omega⟩;have hk:k<S.ds.length:=by omega
   have hr:S.root ((k:Int)+1)=S.ds[k].root:=by
    unfold Fs.root;rw [if_pos ⟨h1,h2⟩,show ((k:Int)+1 - 1).toNat=k by omega,List.getElem?_eq_getElem hk]
   rw [hr];have hcc:=(hc _ hk).c0;clear hc hr;generalize S.ds[k]=v at hcc ⊢;generalize S.ds.length=n at pc hle h2 hk hd;go_enter Tryz.func67,Tryz.ntmps67;go_wp2_with fail;refine HN.out.mono ?_;rintro e w1 ⟨rfl,rfl⟩
   go_wp2
   go_ret;exact⟨rfl,rfl⟩
  ·rw [root_no (by omega)];have h2':(S.ds.length:Int)<d:=by omega
   clear hc;generalize S.ds.length=n at pc hle h2 h2' hd;go_enter Tryz.func67,Tryz.ntmps67;go_wp2_with fail;refine HN.out.mono ?_;rintro e w1 ⟨rfl,rfl⟩
   go_wp2
   go_ret;exact⟨rfl,rfl⟩
 ·rw [root_no (by omega)];have h1':d<1:=by omega
  clear hc;generalize S.ds.length=n at pc hle hd;go_enter Tryz.func67,Tryz.ntmps67;go_wp2_with fail;refine HN.out.mono ?_;rintro e w1 ⟨rfl,rfl⟩
  go_wp2
  go_ret;exact⟨rfl,rfl⟩
end
end
end Go.Proofs.YtbndfmkgamdgeaaGreatDoor
