import Derived.Test.YtihdbncoijhihaaGreatDoorSN4
set_option linter.unusedVariables false
set_option linter.unusedSimpArgs false
set_option maxRecDepth 100000
set_option maxHeartbeats 16000000
namespace Go.Proofs.YtihdbncoijhihaaGreatDoor
section
open Go.RowKit
theorem put_len (l:List En) (n:ByteArray) (no:Int) (h:Rise l):(entPut l n no).length≤l.length+1:=by
 rw [put_at h,List.length_append,List.length_take,List.length_cons,List.length_drop];have:=entAt_le l n;omega
structure AnOk (a:An) (D N:Nat):Prop where
 rise:Rise a.ents
 few:a.ents.length≤N
 dev:1≤a.dev∧a.dev≤D
 links:0≤a.links∧a.links≤1000
 data:a.data.size≤1048576
 mode:0≤a.mode∧a.mode≤1023
 kind:1≤a.kind∧a.kind≤3
 nz:∀ x∈a.ents,1≤x.no
 sy:a.kind=3→a.data.size≤4096
theorem put_nz {l:List En} (h:∀ x∈l,1≤x.no) (n:ByteArray) {no:Int} (hn:1≤no):∀ x∈entPut l n no,1≤x.no:=by
 intro x hx;unfold entPut at hx;rcases List.mem_append.1 hx with hx | hx
 ·exact h x (List.mem_filter.1 hx).1
 ·rcases List.mem_cons.1 hx with rfl | hx
  ·exact hn
  ·exact h x (List.mem_filter.1 hx).1
structure FsOk (S:Fs) (N:Nat):Prop where
 nums:Nums S
 l0:0≤S.last
 lN:S.last≤N
 all:∀ a∈S.ns,AnOk a S.ds.length N
 d1:1≤S.ds.length
 d8:S.ds.length≤8
 root:∀ d∈S.ds,1≤d.root∧d.root≤S.last
theorem AnOk.mono {a:An} {D D' N N':Nat} (h:AnOk a D N) (hD:D≤D') (hN:N≤N'):AnOk a D' N':=
 ⟨h.rise,Nat.le_trans h.few hN,⟨h.dev.1,by have:=h.dev.2;omega⟩,h.links,h.data,h.mode,h.kind,h.nz,h.sy⟩
theorem FsOk.mono {S:Fs} {N N':Nat} (h:FsOk S N) (hN:N≤N'):FsOk S N':=
 ⟨h.nums,h.l0,by have:=h.lN;omega,fun a ha=>(h.all a ha).mono (Nat.le_refl _) hN,h.d1,h.d8,h.root⟩
theorem FsOk.get {S:Fs} {N:Nat} (h:FsOk S N) {k:Int} {a:An} (hg:S.get k=some a):AnOk a S.ds.length N∧a.no=k∧1≤k∧k≤S.last:=by
 have hm:=an_mem hg;have hn:=an_no hg;have:=h.nums.low a hm;exact⟨h.all a hm,hn,by omega,by omega⟩
theorem FsOk.set {S:Fs} {N:Nat} (h:FsOk S N) {a:An} (ha:AnOk a S.ds.length N):FsOk (S.set a) N:=by
 refine ⟨h.nums.set a,h.l0,h.lN,fun x hx=>?_,h.d1,h.d8,h.root⟩;unfold Fs.set at hx;simp only [List.mem_map] at hx;obtain⟨y,hy,rfl⟩:=hx
 split
 ·exact ha
 ·exact h.all y hy
theorem FsOk.add {S:Fs} {N:Nat} (h:FsOk S N) {a:An} (ha:AnOk a S.ds.length (N+1)):FsOk (S.add a) (N+1):=by
 refine ⟨h.nums.add h.l0 a,?_,?_,fun x hx=>?_,h.d1,h.d8,fun d hd=>?_⟩
 ·show 0≤S.last+1;have:=h.l0;omega
 ·show S.last+1≤((N+1:Nat):Int);have:=h.lN;omega
 ·rcases List.mem_append.1 hx with hx | hx
  ·exact (h.all x hx).mono (Nat.le_refl _) (by omega)
  ·simp at hx;subst hx;exact ⟨ha.rise,ha.few,ha.dev,ha.links,ha.data,ha.mode,ha.kind,ha.nz,ha.sy⟩
 ·have:=h.root d hd;show 1≤d.root∧d.root≤S.last+1;omega
theorem FsOk.setDev {S:Fs} {N:Nat} (h:FsOk S N) {d:Int} {v u:Dv} (hv:S.dev d=some v) (hu:u.root=v.root):FsOk (S.setDev d u) N:=by
 unfold Fs.dev at hv
 split at hv
 ·refine ⟨⟨h.nums.rise,h.nums.low⟩,h.l0,h.lN,fun a ha=>?_,?_,?_,fun x hx=>?_⟩
  ·unfold Fs.setDev;simp only [List.length_set];exact h.all a ha
  ·unfold Fs.setDev;simp only [List.length_set];exact h.d1
  ·unfold Fs.setDev;simp only [List.length_set];exact h.d8
  ·rcases List.mem_or_eq_of_mem_set hx with hx | rfl
   ·exact h.root x hx
   ·rw [hu];exact h.root v (List.mem_of_getElem? hv)
 ·cases hv
theorem dev_of {S:Fs} {d:Int} (h1:1≤d) (h2:d≤S.ds.length):∃ v,S.dev d=some v∧S.ds[(d - 1).toNat]? = some v:=by
 unfold Fs.dev;rw [if_pos h1];have:(d - 1).toNat<S.ds.length:=by omega
 exact⟨_,List.getElem?_eq_getElem this,List.getElem?_eq_getElem this⟩
theorem root_of {S:Fs} {N:Nat} (h:FsOk S N) {d:Int} (h1:1≤d) (h2:d≤S.ds.length):∃ v,S.dev d=some v∧S.root d=v.root∧1≤v.root∧v∈S.ds:=by
 obtain⟨v,hv,hg⟩:=dev_of h1 h2;refine ⟨v,hv,?_,(h.root v (List.mem_of_getElem? hg)).1,List.mem_of_getElem? hg⟩;unfold Fs.root;rw [if_pos ⟨h1,h2⟩,hg]
theorem root_no {S:Fs} {d:Int} (h:¬ (1≤d∧d≤S.ds.length)):S.root d=0:=by
 unfold Fs.root;rw [if_neg h]
theorem rise_nil:Rise []:=List.Pairwise.nil
theorem FsOk.addRoot {S:Fs} {N:Nat} (hn:Nums S) (l0:0≤S.last) (lN:S.last≤N) (hall:∀ a∈S.ns,AnOk a S.ds.length N) (d8:S.ds.length≤7) (hroot:∀ d∈S.ds,1≤d.root∧d.root≤S.last) (over b n:Int):FsOk (S.addRoot over b n) (N+1):=by
 refine ⟨?_,?_,?_,fun x hx=>?_,?_,?_,fun d hd=>?_⟩
 ·have:=hn.add l0 {an0 with dev:=S.ds.length+1,kind:=1,mode:=493,links:=1,up:=S.last+1};exact⟨this.rise,this.low⟩
 ·show 0≤S.last+1;omega
 ·show S.last+1≤((N+1:Nat):Int);omega
 ·show AnOk x (S.ds ++ [_]).length (N+1);rw [List.length_append,List.length_singleton];rcases List.mem_append.1 hx with hx | hx
  ·exact (hall x hx).mono (by omega) (by omega)
  ·simp at hx;subst hx;exact⟨rise_nil,Nat.zero_le _,⟨by show 1≤(S.ds.length:Int)+1;omega,by show (S.ds.length:Int)+1≤((S.ds.length+1:Nat):Int);omega⟩,⟨by dsimp only;decide,by dsimp only;decide⟩,by show (0:Nat)≤_;omega,⟨by dsimp only;decide,by dsimp only;decide⟩,⟨by dsimp only;decide,by dsimp only;decide⟩,fun x hx=>(by simp [an0] at hx),fun h=>absurd h (by dsimp only;decide)⟩
 ·show 1≤(S.ds ++ [_]).length;rw [List.length_append,List.length_singleton];omega
 ·show (S.ds ++ [_]).length≤8;rw [List.length_append,List.length_singleton];omega
 ·show 1≤d.root∧d.root≤S.last+1;rcases List.mem_append.1 hd with hd | hd
  ·have:=hroot d hd;omega
  ·simp at hd;subst hd;simp;omega
theorem FsOk.new (b n:Int):FsOk (fs0.addRoot 0 b n) 1:=
 FsOk.addRoot (S:=fs0) (N:=0) ⟨List.Pairwise.nil,fun x hx=>by simp [fs0] at hx⟩ (by decide) (by decide) (fun x hx=>by simp [fs0] at hx) (by decide) (fun x hx=>by simp [fs0] at hx) 0 b n
theorem FsOk.mount {S:Fs} {N:Nat} (h:FsOk S N) (k b n:Int):FsOk (S.mount k b n).1 (N+1):=by
 have h1:=h.mono (Nat.le_succ N);unfold Fs.mount
 split
 ·exact h1
 ·split
  ·exact h1
  ·split
   ·exact h1
   ·split
    ·exact h1
    ·rename_i hd;exact FsOk.addRoot h.nums h.l0 h.lN h.all (by omega) h.root k b n
theorem FsOk.make {S:Fs} {N:Nat} (h:FsOk S N) {a:An} (ha:AnOk a S.ds.length (N+1)):FsOk (S.make a).1 (N+1):=by
 have h1:=h.mono (Nat.le_succ N);unfold Fs.make
 split
 ·exact h1
 ·split
  ·exact h1
  ·rename_i v hv;simp only
   split
   ·have h2:=h.setDev (u:={v with b:=v.b+blkI a.kind a.data.size,n:=v.n+1}) hv rfl;exact h2.add (by unfold Fs.setDev;simp only [List.length_set];exact ha)
   ·exact h1
theorem FsOk.touch {S:Fs} {N:Nat} (h:FsOk S N) (now dir:Int) (l:List En) (hl:Rise l) (hN:l.length≤N) (hz:∀ x∈l,1≤x.no):FsOk (S.touch now dir l) N:=by
 unfold Fs.touch
 split
 ·exact h
 ·rename_i d hd;have:=h.get hd;exact h.set ⟨hl,hN,this.1.dev,this.1.links,this.1.data,this.1.mode,this.1.kind,hz,this.1.sy⟩
theorem make_nz {S:Fs} (h:0≤S.last) (a:An) (hz:(S.make a).2.2=0):1≤(S.make a).2.1:=by
 revert hz;unfold Fs.make
 split
 ·intro hz;cases hz
 ·split
  ·intro hz;cases hz
  ·simp only
   split
   ·intro _;show 1≤S.last+1;omega
   ·rename_i hz;intro hz2;exact absurd hz2 hz
theorem come_ok {S:Fs} {N:Nat} (h:FsOk S N) {a:An} (c:Cr) (now dir:Int) (s:ByteArray) (hr:a.ents=[]) (hd:a.data.size≤1048576) (hm:0≤a.mode∧a.mode≤1023) (hk:1≤a.kind∧a.kind≤3) (hsy:a.kind=3→a.data.size≤4096):FsOk (S.come c now dir s a).1 (N+1):=by
 have h1:=h.mono (Nat.le_succ N);unfold Fs.come
 split
 ·exact h1
 ·split
  ·exact h1
  ·rename_i d hg
   split
   ·exact h1
   ·obtain ⟨hdo,-,-,-⟩:=h.get hg;have h2:=h.make (a:={a with dev:=d.dev,uid:=c.u,gid:=c.g,mtime:=now,ctime:=now,links:=1}) ⟨by rw [show ({a with dev:=d.dev,uid:=c.u,gid:=c.g,mtime:=now,ctime:=now,links:=1}:An).ents=a.ents from rfl,hr];exact rise_nil,by show a.ents.length≤N+1;rw [hr];exact Nat.zero_le _,hdo.dev,⟨by dsimp only;decide,by dsimp only;decide⟩,hd,hm,hk,fun x hx=>(by rw [show ({a with dev:=d.dev,uid:=c.u,gid:=c.g,mtime:=now,ctime:=now,links:=1}:An).ents=a.ents from rfl,hr] at hx;cases hx),hsy⟩;simp only
    split
    ·exact h1
    ·refine h2.touch _ _ _ (rise_put hdo.rise _ _) ?_ (put_nz hdo.nz _ (make_nz h.l0 _ (by rename_i hz;simpa using hz)));have:=put_len d.ents s (S.make {a with dev:=d.dev,uid:=c.u,gid:=c.g,mtime:=now,ctime:=now,links:=1}).2.1 hdo.rise;have:=hdo.few;omega
theorem mkdir_ok {S:Fs} {N:Nat} (h:FsOk S N) (c:Cr) (now dir:Int) (s:ByteArray) (m:Int):FsOk (S.mkdir c now dir s m).1 (N+1):=by
 unfold Fs.mkdir
 split
 ·exact h.mono (Nat.le_succ N)
 ·exact come_ok h c now dir s rfl (by show (0:Nat)≤1048576;decide) ⟨by show 0≤m;omega,by show m≤1023;omega⟩ ⟨by dsimp only;decide,by dsimp only;decide⟩ (fun h=>absurd h (by dsimp only;decide))
theorem file_ok {S:Fs} {N:Nat} (h:FsOk S N) (c:Cr) (now dir:Int) (s:ByteArray) (m:Int) (t:ByteArray):FsOk (S.file c now dir s m t).1 (N+1):=by
 unfold Fs.file
 split
 ·exact h.mono (Nat.le_succ N)
 ·split
  ·exact h.mono (Nat.le_succ N)
  ·exact come_ok h c now dir s rfl (by show t.size≤_;omega) ⟨by show 0≤m;omega,by show m≤1023;omega⟩ ⟨by show (1:Int)≤2;decide,by show (2:Int)≤3;decide⟩ (fun h=>absurd h (by dsimp only;decide))
theorem sym_ok {S:Fs} {N:Nat} (h:FsOk S N) (c:Cr) (now dir:Int) (s t:ByteArray):FsOk (S.sym c now dir s t).1 (N+1):=by
 unfold Fs.sym
 split
 ·exact h.mono (Nat.le_succ N)
 ·split
  ·exact h.mono (Nat.le_succ N)
  ·exact come_ok h c now dir s rfl (by show t.size≤_;omega) ⟨by show (0:Int)≤511;decide,by show (511:Int)≤1023;decide⟩ ⟨by show (1:Int)≤3;decide,by show (3:Int)≤3;decide⟩ (fun _=>by show t.size≤4096;omega)
theorem hard_ok {S:Fs} {N:Nat} (h:FsOk S N) (c:Cr) (now no dir:Int) (s:ByteArray):FsOk (S.hard c now no dir s).1 (N+1):=by
 have h1:=h.mono (Nat.le_succ N);unfold Fs.hard
 split
 ·exact h1
 ·split
  ·rename_i d n hd hn
   split
   ·exact h1
   ·split
    ·exact h1
    ·split
     ·exact h1
     ·split
      ·exact h1
      ·obtain ⟨ho,-,-,-⟩:=h.get hd;obtain⟨hm,-,-,-⟩:=h.get hn;have hm1:=hm.mono (Nat.le_refl _) (Nat.le_succ N);refine FsOk.touch (h1.set (a:={n with links:=n.links+1,ctime:=now}) ⟨hm1.rise,hm1.few,hm1.dev,⟨by have:=hm1.links.1;show 0≤n.links+1;omega,by show n.links+1≤1000;omega⟩,hm1.data,hm1.mode,hm1.kind,hm1.nz,hm1.sy⟩) _ _ _ (rise_put ho.rise _ _) ?_ (put_nz ho.nz _ (h.get hn).2.2.1);have:=put_len d.ents s no ho.rise;have:=ho.few;omega
  ·exact h1
theorem chmod_ok {S:Fs} {N:Nat} (h:FsOk S N) (c:Cr) (now no m:Int):FsOk (S.chmod c now no m).1 N:=by
 unfold Fs.chmod
 split
 ·exact h
 ·rename_i n hn
  split
  ·exact h
  ·split
   ·exact h
   ·obtain ⟨hm,-,-,-⟩:=h.get hn;exact h.set ⟨hm.rise,hm.few,hm.dev,hm.links,hm.data,⟨by show 0≤m;omega,by show m≤1023;omega⟩,hm.kind,hm.nz,hm.sy⟩
theorem chown_ok {S:Fs} {N:Nat} (h:FsOk S N) (c:Cr) (now no u g:Int):FsOk (S.chown c now no u g).1 N:=by
 unfold Fs.chown
 split
 ·exact h
 ·rename_i n hn
  split
  ·exact h
  ·split
   ·exact h
   ·split
    ·exact h
    ·obtain ⟨hm,-,-,-⟩:=h.get hn;exact h.set ⟨hm.rise,hm.few,hm.dev,hm.links,hm.data,hm.mode,hm.kind,hm.nz,hm.sy⟩
theorem utime_ok {S:Fs} {N:Nat} (h:FsOk S N) (c:Cr) (now no t:Int):FsOk (S.utime c now no t).1 N:=by
 unfold Fs.utime
 split
 ·exact h
 ·rename_i n hn
  split
  ·exact h
  ·split
   ·exact h
   ·obtain ⟨hm,-,-,-⟩:=h.get hn;exact h.set ⟨hm.rise,hm.few,hm.dev,hm.links,hm.data,hm.mode,hm.kind,hm.nz,hm.sy⟩
end
section
open Go.RowKit
structure Mt where
 path:ByteArray
 b:Int
 n:Int
structure It where
 path:ByteArray
 kind:Int
 mode:Int
 uid:Int
 gid:Int
 mtime:Int
 data:ByteArray
def topB:ByteArray:=⟨#[47]⟩
def c00:Cr:=⟨0,0⟩
def limitsF:List Mt→Int×Int
 | []=>(65536,65536)
 | m :: l=>if m.path=topB∧limB m.b m.n=true then (m.b,m.n) else limitsF l
theorem limits_ok:∀ l:List Mt,limB (limitsF l).1 (limitsF l).2=true
 | []=>by decide
 | m :: l=>by
  unfold limitsF
  split
  ·rename_i h;exact h.2
  ·exact limits_ok l
def Fs.kindOf (S:Fs) (k:Int):Int:=match S.get k with | none=>0 | some a=>a.kind
def mountF (S:Fs) (m:Mt):Fs:=
 if (S.path c00 m.path false).2≠0 then S
 else if (S.path c00 m.path false).1.no=0 then
  let q:=S.mkdir c00 0 (S.path c00 m.path false).1.dir (S.path c00 m.path false).1.name 493
  if q.2.2≠0 then q.1 else (q.1.mount q.2.1 m.b m.n).1
 else (S.mount (S.path c00 m.path false).1.no m.b m.n).1
def nodeF (S:Fs) (it:It):Fs×Int:=
 let x:=S.path c00 it.path false
 if x.2≠0 then (S,0)
 else if x.1.no≠0 then (if it.kind=1∧S.kindOf x.1.no=1 then (S,x.1.no) else (S,0))
 else if it.kind=1 then ((S.mkdir c00 0 x.1.dir x.1.name 493).1,(S.mkdir c00 0 x.1.dir x.1.name 493).2.1)
 else if it.kind=2 then ((S.file c00 0 x.1.dir x.1.name 420 it.data).1,(S.file c00 0 x.1.dir x.1.name 420 it.data).2.1)
 else if it.kind=3 then ((S.sym c00 0 x.1.dir x.1.name it.data).1,(S.sym c00 0 x.1.dir x.1.name it.data).2.1)
 else if it.kind=4 then
  (if (S.path c00 it.data false).2=0 then ((S.hard c00 0 (S.path c00 it.data false).1.no x.1.dir x.1.name).1,0) else (S,0))
 else (S,0)
def itemF (S:Fs) (it:It):Fs×Int:=
 let q:=nodeF S it
 if q.2≠0 then (((q.1.chown c00 0 q.2 it.uid it.gid).1.chmod c00 0 q.2 it.mode).1,q.2) else q
def itemsF (S:Fs):List It→Fs×List Int
 | []=>(S,[])
 | it :: l=>let q:=itemF S it;let r:=itemsF q.1 l;(r.1,q.2 :: r.2)
def timesF (S:Fs):List (It×Int)→Fs
 | []=>S
 | x :: l=>timesF (if x.2≠0 then (S.utime c00 0 x.2 x.1.mtime).1 else S) l
def mountsF (S:Fs):List Mt→Fs
 | []=>S
 | m :: l=>mountsF (if m.path=topB then S else mountF S m) l
def plantF (ms:List Mt) (is:List It):Fs:=
 let S:=mountsF (fs0.addRoot 0 (limitsF ms).1 (limitsF ms).2) ms
 let r:=itemsF S is
 timesF r.1 (is.zip r.2)
theorem itemsF_app (S:Fs) (a b:List It):itemsF S (a ++ b)=((itemsF (itemsF S a).1 b).1,(itemsF S a).2 ++ (itemsF (itemsF S a).1 b).2):=by
 induction a generalizing S with
 | nil=>rfl
 | cons x a ih=>simp only [List.cons_append,itemsF,ih]
theorem itemsF_len (S:Fs) (a:List It):(itemsF S a).2.length=a.length:=by
 induction a generalizing S with
 | nil=>rfl
 | cons x a ih=>simp only [itemsF,List.length_cons,ih]
theorem timesF_app (S:Fs) (a b:List (It×Int)):timesF S (a ++ b)=timesF (timesF S a) b:=by
 induction a generalizing S with
 | nil=>rfl
 | cons x a ih=>exact ih _
theorem mountsF_app (S:Fs) (a b:List Mt):mountsF S (a ++ b)=mountsF (mountsF S a) b:=by
 induction a generalizing S with
 | nil=>rfl
 | cons x a ih=>exact ih _
theorem mountF_ok {S:Fs} {N:Nat} (h:FsOk S N) (m:Mt):FsOk (mountF S m) (N+2):=by
 unfold mountF
 split
 ·exact h.mono (by omega)
 ·split
  ·have h1:=mkdir_ok h c00 0 (S.path c00 m.path false).1.dir (S.path c00 m.path false).1.name 493;simp only
   split
   ·exact h1.mono (by omega)
   ·exact h1.mount _ _ _
  ·exact (h.mount _ _ _).mono (by omega)
theorem mountsF_ok {S:Fs} {N:Nat} (h:FsOk S N) (l:List Mt):FsOk (mountsF S l) (N+2*l.length):=by
 induction l generalizing S N with
 | nil=>exact h
 | cons m l ih=>
  unfold mountsF;have h1:FsOk (if m.path=topB then S else mountF S m) (N+2):=by
   split
   ·exact h.mono (by omega)
   ·exact mountF_ok h m
  exact (ih h1).mono (by simp;omega)
theorem nodeF_ok {S:Fs} {N:Nat} (h:FsOk S N) (it:It):FsOk (nodeF S it).1 (N+1):=by
 have h1:=h.mono (Nat.le_succ N);unfold nodeF;simp only
 split
 ·exact h1
 ·split
  ·split <;> exact h1
  ·split
   ·exact mkdir_ok h _ _ _ _ _
   ·split
    ·exact file_ok h _ _ _ _ _ _
    ·split
     ·exact sym_ok h _ _ _ _ _
     ·split
      ·split
       ·exact hard_ok h _ _ _ _ _
       ·exact h1
      ·exact h1
theorem itemF_ok {S:Fs} {N:Nat} (h:FsOk S N) (it:It):FsOk (itemF S it).1 (N+1):=by
 have h1:=nodeF_ok h it;unfold itemF;simp only
 split
 ·exact chmod_ok (chown_ok h1 _ _ _ _ _) _ _ _ _
 ·exact h1
theorem itemsF_ok {S:Fs} {N:Nat} (h:FsOk S N) (l:List It):FsOk (itemsF S l).1 (N+l.length):=by
 induction l generalizing S N with
 | nil=>exact h
 | cons m l ih=>
  unfold itemsF;exact (ih (itemF_ok h m)).mono (by simp;omega)
theorem timesF_ok {S:Fs} {N:Nat} (h:FsOk S N) (l:List (It×Int)):FsOk (timesF S l) N:=by
 induction l generalizing S with
 | nil=>exact h
 | cons m l ih=>
  unfold timesF;apply ih
  split
  ·exact utime_ok h _ _ _ _
  ·exact h
theorem plant_ok (ms:List Mt) (is:List It):FsOk (plantF ms is) (1+2*ms.length+is.length):=by
 unfold plantF;exact timesF_ok (itemsF_ok (mountsF_ok (FsOk.new _ _) _) _) _
end
section
open Go.RowKit
def NmOk (s:ByteArray):Prop:=s≠ByteArray.empty∧s.size≤255
structure Pl (S:Fs):Prop where
 len:(S.ns.length:Int)=S.last
 names:∀ a∈S.ns,∀ x∈a.ents,NmOk x.name
 up:∀ a∈S.ns,a.kind=1→(S.root a.dev=a.no∧a.up=a.no)∨(S.root a.dev≠a.no∧1≤a.up∧a.up<a.no)
 top:S.root 1=1
 one:∃ a,S.get 1=some a∧a.kind=1
 over:∀ (i:Nat) (hi:i<S.ds.length),1≤i→∃ b,S.get S.ds[i].over=some b∧b.kind=1∧S.ds[i].over<S.ds[i].root
theorem above_lt {S:Fs} {N:Nat} (hk:FsOk S N) (h:Pl S) {no:Int} {a:An} (hg:S.get no=some a) (hd:a.kind=1) (h1:no≠1):1≤S.above no∧S.above no<no:=by
 obtain⟨ho,hn,hl,-⟩:=hk.get hg;have hup:=h.up a (an_mem hg) hd;unfold Fs.above;rw [hg];simp only;rw [if_neg (by simpa using hd)];by_cases hr:S.root a.dev=no∧1<a.dev
 ·rw [if_pos hr];obtain⟨v,hv,hvg⟩:=dev_of ho.dev.1 ho.dev.2;obtain⟨v2,hv2,hrt,-,-⟩:=root_of hk ho.dev.1 ho.dev.2;rw [hv] at hv2;injection hv2 with hv2;subst hv2;have hi:(a.dev - 1).toNat<S.ds.length:=(List.getElem?_eq_some_iff.1 hvg).1;obtain⟨b,hb,hbk,hlt⟩:=h.over _ hi (by omega);have hvi:S.ds[(a.dev - 1).toNat]=v:=(List.getElem?_eq_some_iff.1 hvg).2;rw [hvi] at hb hlt;rw [hv];simp only;rw [hb];simp only;have hbn:=an_no hb;have h3:=(hk.get hb).2.2.1;rcases h.up b (an_mem hb) hbk with ⟨-,h2⟩|⟨-,h2,h4⟩
  ·have:=hr.1;omega
  ·have:=hr.1;omega
 ·rw [if_neg hr];rcases hup with ⟨h2,h3⟩|⟨-,h2,h3⟩
  ·exfalso;have h4:a.dev=1:=by
    have:=ho.dev.1;by_cases h5:1<a.dev
    ·exact absurd ⟨h2.trans hn,h5⟩ hr
    ·omega
   rw [h4,h.top] at h2;omega
  ·omega
theorem above_none {S:Fs} {no:Int} (hg:S.get no=none):S.above no=0:=by unfold Fs.above;rw [hg]
theorem above_leaf {S:Fs} {no:Int} {a:An} (hg:S.get no=some a) (hd:a.kind≠1):S.above no=0:=by
 unfold Fs.above;rw [hg];simp only;rw [if_pos hd]
theorem above_top {S:Fs} {N:Nat} (hk:FsOk S N) (h:Pl S) {a:An} (hg:S.get 1=some a) (hd:a.kind=1):S.above 1=1:=by
 obtain⟨ho,hn,-,-⟩:=hk.get hg;unfold Fs.above;rw [hg];simp only;rw [if_neg (by simpa using hd)];have hno:¬ (S.root a.dev=1∧1<a.dev):=by
  rintro ⟨h1,h2⟩;obtain⟨v,hv,hvg⟩:=dev_of ho.dev.1 ho.dev.2;obtain⟨v2,hv2,hrt,-,-⟩:=root_of hk ho.dev.1 ho.dev.2;rw [hv] at hv2;injection hv2 with hv2;subst hv2;have hi:(a.dev - 1).toNat<S.ds.length:=(List.getElem?_eq_some_iff.1 hvg).1;obtain⟨b,hb,-,hlt⟩:=h.over _ hi (by omega);rw [show S.ds[(a.dev - 1).toNat]=v from (List.getElem?_eq_some_iff.1 hvg).2] at hb hlt;have:=(hk.get hb).2.2.1;omega
 rw [if_neg hno];rcases h.up a (an_mem hg) hd with ⟨-,h2⟩|⟨-,h2,h3⟩
 ·rw [h2,hn]
 ·omega
theorem Pl.set {S:Fs} (h:Pl S) {a b:An} (hb:S.get a.no=some b) (hk:a.kind=b.kind) (hd:a.dev=b.dev) (hu:a.up=b.up) (hn:∀ x∈a.ents,NmOk x.name):Pl (S.set a):=by
 refine ⟨?_,fun y hy=>?_,fun y hy hyk=>?_,h.top,?_,fun i hi h1=>?_⟩
 ·show ((S.ns.map _).length:Int)=S.last;rw [List.length_map];exact h.len
 ·unfold Fs.set at hy;simp only [List.mem_map] at hy;obtain⟨z,hz,rfl⟩:=hy
  split
  ·exact hn
  ·exact h.names z hz
 ·unfold Fs.set at hy;simp only [List.mem_map] at hy;obtain⟨z,hz,rfl⟩:=hy;show (S.root _=_∧_)∨(S.root _≠_∧_)
  split at hyk
  ·rename_i he;rw [if_pos he];have hbn:=an_no hb;have:=h.up b (an_mem hb) (by rw [←hk];exact hyk);rw [hd,hu,←hbn];exact this
  ·rename_i he;rw [if_neg he];exact h.up z hz hyk
 ·obtain ⟨c,hc,h2⟩:=h.one;refine ⟨if (1:Int)=a.no then a else c,?_,?_⟩
  ·rw [an_set hb]
   split
   ·rfl
   ·exact hc
  ·split
   ·rename_i he;rw [he,hb] at hc;injection hc with hc;rw [hk,hc];exact h2
   ·exact h2
 ·obtain ⟨c,hc,h2,h3⟩:=h.over i hi h1;refine ⟨if S.ds[i].over=a.no then a else c,?_,?_,h3⟩
  ·show (S.set a).get S.ds[i].over=_;rw [an_set hb]
   split
   ·rfl
   ·exact hc
  ·split
   ·rename_i he;rw [he,hb] at hc;injection hc with hc;rw [hk,hc];exact h2
   ·exact h2
theorem Pl.setDev {S:Fs} (h:Pl S) {d:Int} {v u:Dv} (hv:S.dev d=some v) (hr:u.root=v.root) (ho:u.over=v.over):Pl (S.setDev d u):=by
 unfold Fs.dev at hv
 split at hv
 ·rename_i hd;have hi:=(List.getElem?_eq_some_iff.1 hv).1;have hvi:=(List.getElem?_eq_some_iff.1 hv).2;have hroot:∀ e,(S.setDev d u).root e=S.root e:=fun e=>by
   unfold Fs.root Fs.setDev;simp only [List.length_set,List.getElem?_set]
   split
   ·rename_i he;by_cases hq:(d - 1).toNat=(e - 1).toNat
    ·rw [if_pos hq,←hq,hv]
     first | exact hr | (rw [if_pos hi];exact hr)
    ·rw [if_neg hq]
   ·rfl
  refine ⟨h.len,h.names,fun y hy hk=>by rw [hroot];exact h.up y hy hk,by rw [hroot];exact h.top,h.one,fun i hi2 h1=>?_⟩;have hi3:i<S.ds.length:=by
   have:=hi2;unfold Fs.setDev at this;simpa using this
  obtain⟨b,hb,h2,h3⟩:=h.over i hi3 h1;have he:(S.setDev d u).ds[i]=if (d - 1).toNat=i then u else S.ds[i]:=by
   exact List.getElem_set (l:=S.ds) (i:=(d - 1).toNat) (a:=u) (j:=i) (by rw [List.length_set];exact hi3)
  rw [he];by_cases hq:(d - 1).toNat=i
  ·subst hq;rw [if_pos rfl,ho,hr,←hvi];exact⟨b,hb,h2,h3⟩
  ·rw [if_neg hq];exact⟨b,hb,h2,h3⟩
 ·cases hv
theorem get_low {S:Fs} (h:Nums S) {k:Int} {b:An} (hb:S.get k=some b):k≤S.last:=by
 have h1:=an_no hb;have h2:=h.low b (an_mem hb);omega
theorem Pl.add {S:Fs} {N:Nat} (hk:FsOk S N) (h:Pl S) {a:An} (he:a.ents=[]) (hdv:1≤a.dev∧a.dev≤S.ds.length) (hu:a.kind=1→1≤a.up∧a.up≤S.last):Pl (S.add a):=by
 refine ⟨?_,fun y hy=>?_,fun y hy hyk=>?_,h.top,?_,fun i hi h1=>?_⟩
 ·show ((S.ns ++ [_]).length:Int)=S.last+1;rw [List.length_append,List.length_singleton];have:=h.len;omega
 ·rcases List.mem_append.1 hy with hy | hy
  ·exact h.names y hy
  ·simp at hy;subst hy;intro x hx;rw [show ({a with no:=S.last+1}:An).ents=a.ents from rfl,he] at hx
   cases hx
 ·show (S.root _=_∧_)∨(S.root _≠_∧_);rcases List.mem_append.1 hy with hy | hy
  ·exact h.up y hy hyk
  ·simp at hy;subst hy;right;obtain⟨v,-,hrt,-,hm⟩:=root_of hk hdv.1 hdv.2;have h2:=(hk.root v hm).2;have h3:=hu hyk;refine ⟨?_,h3.1,?_⟩
   ·show S.root a.dev≠S.last+1;omega
   ·show a.up<S.last+1;omega
 ·obtain ⟨c,hc,h2⟩:=h.one;refine ⟨c,?_,h2⟩;rw [an_add hk.nums,if_neg]
  ·exact hc
  ·have:=get_low hk.nums hc;omega
 ·obtain ⟨c,hc,h2,h3⟩:=h.over i hi h1;refine ⟨c,?_,h2,h3⟩;show (S.add a).get S.ds[i].over=some c;rw [an_add hk.nums,if_neg]
  ·exact hc
  ·have:=get_low hk.nums hc;omega
theorem Pl.addRoot {S:Fs} {N:Nat} (hk:FsOk S N) (h:Pl S) {k:Int} {a:An} (hg:S.get k=some a) (hd:a.kind=1) (b n:Int):Pl (S.addRoot k b n):=by
 have hroot:∀ e:Int,e≤S.ds.length→(S.addRoot k b n).root e=S.root e:=fun e he=>by
  unfold Fs.root Fs.addRoot;simp only [List.length_append,List.length_singleton];by_cases h1:(1:Int)≤e
  ·rw [if_pos ⟨h1,by omega⟩,if_pos ⟨h1,he⟩,List.getElem?_append_left (by omega)]
  ·rw [if_neg (fun h=>h1 h.1),if_neg (fun h=>h1 h.1)]
 have hrl:(S.addRoot k b n).root (S.ds.length+1)=S.last+1:=by
  unfold Fs.root Fs.addRoot;simp only [List.length_append,List.length_singleton];rw [if_pos ⟨by omega,by omega⟩,List.getElem?_append_right (by omega)];rw [show ((S.ds.length:Int)+1 - 1).toNat - S.ds.length=0 by omega];rfl
 have hget:∀ q c,S.get q=some c→(S.addRoot k b n).get q=some c:=fun q c hq=>by
  unfold Fs.get Fs.addRoot at *;simp only [List.find?_append,hq,Option.some_or]
 have hl0:=hk.l0;have hgl:=get_low hk.nums hg;refine ⟨?_,fun y hy=>?_,fun y hy hyk=>?_,?_,?_,fun i hi h1=>?_⟩
 ·show ((S.ns ++ [_]).length:Int)=S.last+1;rw [List.length_append,List.length_singleton];have:=h.len;omega
 ·rcases List.mem_append.1 hy with hy | hy
  ·exact h.names y hy
  ·simp at hy;subst hy;intro x hx;simp [an0] at hx
 ·rcases List.mem_append.1 hy with hy | hy
  ·rw [hroot _ (hk.all y hy).dev.2];exact h.up y hy hyk
  ·simp at hy;subst hy;left;exact⟨hrl,rfl⟩
 ·rw [hroot _ (by have:=hk.d1;omega)];exact h.top
 ·obtain ⟨c,hc,h2⟩:=h.one;exact⟨c,hget _ _ hc,h2⟩
 ·by_cases hi2:i<S.ds.length
  ·obtain ⟨c,hc,h2,h3⟩:=h.over i hi2 h1;have he:(S.addRoot k b n).ds[i]=S.ds[i]:=List.getElem_append_left hi2;rw [he];exact⟨c,hget _ _ hc,h2,h3⟩
  ·have hi3:i=S.ds.length:=by
    have h4:i<(S.ds ++ [(⟨S.last+1,k,1,1,b,n⟩:Dv)]).length:=hi;rw [List.length_append,List.length_singleton] at h4;omega
   subst hi3;have he:(S.addRoot k b n).ds[S.ds.length]=⟨S.last+1,k,1,1,b,n⟩:=by
    have h5:(S.ds ++ [(⟨S.last+1,k,1,1,b,n⟩:Dv)])[S.ds.length]? = some ⟨S.last+1,k,1,1,b,n⟩:=by
     rw [List.getElem?_append_right (Nat.le_refl _)];simp
    exact (List.getElem?_eq_some_iff.1 h5).2
   rw [he];exact⟨a,hget _ _ hg,hd,by show k<S.last+1;omega⟩
theorem Pl.new (b n:Int):Pl (fs0.addRoot 0 b n):=by
 refine ⟨rfl,fun a ha=>?_,fun a ha _=>?_,rfl,⟨_,rfl,rfl⟩,fun i hi h1=>?_⟩
 ·simp [Fs.addRoot,fs0] at ha;subst ha;intro x hx;simp [an0] at hx
 ·simp [Fs.addRoot,fs0] at ha;subst ha;left;exact⟨rfl,rfl⟩
 ·have:i<1:=hi;omega
theorem Pl.make {S:Fs} {N:Nat} (hk:FsOk S N) (h:Pl S) {a:An} (he:a.ents=[]) (hdv:1≤a.dev∧a.dev≤S.ds.length) (hu:a.kind=1→1≤a.up∧a.up≤S.last):Pl (S.make a).1:=by
 unfold Fs.make
 split
 ·exact h
 ·split
  ·exact h
  ·rename_i v hv;simp only
   split
   ·have h2:=h.setDev (u:={v with b:=v.b+blkI a.kind a.data.size,n:=v.n+1}) hv rfl rfl;have hk2:=hk.setDev (u:={v with b:=v.b+blkI a.kind a.data.size,n:=v.n+1}) hv rfl;exact h2.add hk2 he (by unfold Fs.setDev;simp only [List.length_set];exact hdv) hu
   ·exact h
theorem put_names {l:List En} (h:∀ x∈l,NmOk x.name) {s:ByteArray} (hs:NmOk s) (no:Int):∀ x∈entPut l s no,NmOk x.name:=by
 intro x hx;unfold entPut at hx;rcases List.mem_append.1 hx with hx | hx
 ·exact h x (List.mem_filter.1 hx).1
 ·rcases List.mem_cons.1 hx with rfl | hx
  ·exact hs
  ·exact h x (List.mem_filter.1 hx).1
theorem Pl.touch {S:Fs} (h:Pl S) (now dir:Int) (l:List En) (hl:∀ x∈l,NmOk x.name):Pl (S.touch now dir l):=by
 unfold Fs.touch
 split
 ·exact h
 ·rename_i d hd;exact h.set (b:=d) (by show S.get d.no=_;rw [an_no hd];exact hd) rfl rfl rfl hl
theorem check_ne {s:ByteArray} (h:checkE s=0):NmOk s:=by
 refine ⟨?_,?_⟩
 ·rintro rfl;revert h;decide
 ·unfold checkE at h
  split at h
  ·cases h
  ·split at h
   ·cases h
   ·omega
theorem place_check {S:Fs} {c:Cr} {dir:Int} {s:ByteArray} (h:S.placeE c dir s=0):∃ d,S.get dir=some d∧d.kind=1∧checkE s=0:=by
 unfold Fs.placeE at h
 split at h
 ·cases h
 ·rename_i d hd
  split at h
  ·cases h
  ·rename_i hk
   split at h
   ·rename_i he;exact absurd h he
   ·rename_i he;exact⟨d,hd,by simpa using hk,by simpa using he⟩
theorem get_make {S:Fs} {N:Nat} (hk:FsOk S N) (a:An) {k:Int} {d:An} (hd:S.get k=some d):(S.make a).1.get k=some d:=by
 unfold Fs.make
 split
 ·exact hd
 ·split
  ·exact hd
  ·rename_i v hv;simp only
   split
   ·have hk2:=hk.setDev (u:={v with b:=v.b+blkI a.kind a.data.size,n:=v.n+1}) hv rfl;rw [an_add hk2.nums,if_neg]
    ·exact hd
    ·have:=get_low hk.nums hd;show ¬ k=S.last+1;omega
   ·exact hd
theorem Pl.come {S:Fs} {N:Nat} (hk:FsOk S N) (h:Pl S) {a:An} (c:Cr) (now dir:Int) (s:ByteArray) (he:a.ents=[]) (hu:a.kind=1→a.up=dir):Pl (S.come c now dir s a).1:=by
 unfold Fs.come
 split
 ·exact h
 ·rename_i hpl;obtain⟨d,hd,hdk,hce⟩:=place_check (by simpa using hpl);rw [hd];simp only
  split
  ·exact h
  ·obtain ⟨hdo,hdn,h1,h2⟩:=hk.get hd;have hm:=h.make hk (a:={a with dev:=d.dev,uid:=c.u,gid:=c.g,mtime:=now,ctime:=now,links:=1}) he hdo.dev (fun hq=>by
    have:=hu hq;show 1≤a.up∧a.up≤S.last;omega)
   split
   ·exact h
   ·exact hm.touch _ _ _ (put_names (h.names d (an_mem hd)) (check_ne hce) _)
theorem Pl.mkdir {S:Fs} {N:Nat} (hk:FsOk S N) (h:Pl S) (c:Cr) (now dir:Int) (s:ByteArray) (m:Int):Pl (S.mkdir c now dir s m).1:=by
 unfold Fs.mkdir
 split
 ·exact h
 ·exact h.come hk c now dir s rfl (fun _=>rfl)
theorem Pl.file {S:Fs} {N:Nat} (hk:FsOk S N) (h:Pl S) (c:Cr) (now dir:Int) (s:ByteArray) (m:Int) (t:ByteArray):Pl (S.file c now dir s m t).1:=by
 unfold Fs.file
 split
 ·exact h
 ·split
  ·exact h
  ·exact h.come hk c now dir s rfl (fun hq=>absurd hq (by dsimp only;decide))
theorem Pl.sym {S:Fs} {N:Nat} (hk:FsOk S N) (h:Pl S) (c:Cr) (now dir:Int) (s t:ByteArray):Pl (S.sym c now dir s t).1:=by
 unfold Fs.sym
 split
 ·exact h
 ·split
  ·exact h
  ·exact h.come hk c now dir s rfl (fun hq=>absurd hq (by dsimp only;decide))
theorem Pl.hard {S:Fs} {N:Nat} (hk:FsOk S N) (h:Pl S) (c:Cr) (now no dir:Int) (s:ByteArray):Pl (S.hard c now no dir s).1:=by
 unfold Fs.hard
 split
 ·exact h
 ·rename_i hpl;obtain⟨d0,hd0,hdk,hce⟩:=place_check (by simpa using hpl)
  split
  ·rename_i d n hd hn
   split
   ·exact h
   ·split
    ·exact h
    ·split
     ·exact h
     ·split
      ·exact h
      ·refine Pl.touch (h.set (a:={n with links:=n.links+1,ctime:=now}) (b:=n) (by show S.get n.no=_;rw [an_no hn];exact hn) rfl rfl rfl (h.names n (an_mem hn))) _ _ _ (put_names (h.names d (an_mem hd)) (check_ne hce) _)
  ·exact h
theorem Pl.chmod {S:Fs} (h:Pl S) (c:Cr) (now no m:Int):Pl (S.chmod c now no m).1:=by
 unfold Fs.chmod
 split
 ·exact h
 ·rename_i n hn
  split
  ·exact h
  ·split
   ·exact h
   ·exact h.set (b:=n) (by show S.get n.no=_;rw [an_no hn];exact hn) rfl rfl rfl (h.names n (an_mem hn))
theorem Pl.chown {S:Fs} (h:Pl S) (c:Cr) (now no u g:Int):Pl (S.chown c now no u g).1:=by
 unfold Fs.chown
 split
 ·exact h
 ·rename_i n hn
  split
  ·exact h
  ·split
   ·exact h
   ·split
    ·exact h
    ·exact h.set (b:=n) (by show S.get n.no=_;rw [an_no hn];exact hn) rfl rfl rfl (h.names n (an_mem hn))
theorem Pl.utime {S:Fs} (h:Pl S) (c:Cr) (now no t:Int):Pl (S.utime c now no t).1:=by
 unfold Fs.utime
 split
 ·exact h
 ·rename_i n hn
  split
  ·exact h
  ·split
   ·exact h
   ·exact h.set (b:=n) (by show S.get n.no=_;rw [an_no hn];exact hn) rfl rfl rfl (h.names n (an_mem hn))
theorem Pl.mount {S:Fs} {N:Nat} (hk:FsOk S N) (h:Pl S) (k b n:Int):Pl (S.mount k b n).1:=by
 unfold Fs.mount
 split
 ·exact h
 ·rename_i a ha
  split
  ·exact h
  ·rename_i hd
   split
   ·exact h
   ·split
    ·exact h
    ·exact h.addRoot hk ha (by simpa using hd) b n
theorem Pl.mountF {S:Fs} {N:Nat} (hk:FsOk S N) (h:Pl S) (m:Mt):Pl (mountF S m):=by
 unfold Go.Proofs.YtihdbncoijhihaaGreatDoor.mountF
 split
 ·exact h
 ·split
  ·have h1:=h.mkdir hk c00 0 (S.path c00 m.path false).1.dir (S.path c00 m.path false).1.name 493;have hk1:=mkdir_ok hk c00 0 (S.path c00 m.path false).1.dir (S.path c00 m.path false).1.name 493;simp only
   split
   ·exact h1
   ·exact h1.mount hk1 _ _ _
  ·exact h.mount hk _ _ _
theorem Pl.mountsF {S:Fs} {N:Nat} (hk:FsOk S N) (h:Pl S) (l:List Mt):Pl (mountsF S l):=by
 induction l generalizing S N with
 | nil=>exact h
 | cons m l ih=>
  unfold Go.Proofs.YtihdbncoijhihaaGreatDoor.mountsF;by_cases hm:m.path=topB
  ·rw [if_pos hm];exact ih hk h
  ·rw [if_neg hm];exact ih (mountF_ok hk m) (h.mountF hk m)
theorem Pl.nodeF {S:Fs} {N:Nat} (hk:FsOk S N) (h:Pl S) (it:It):Pl (nodeF S it).1:=by
 unfold Go.Proofs.YtihdbncoijhihaaGreatDoor.nodeF;simp only
 split
 ·exact h
 ·split
  ·split <;> exact h
  ·split
   ·exact h.mkdir hk _ _ _ _ _
   ·split
    ·exact h.file hk _ _ _ _ _ _
    ·split
     ·exact h.sym hk _ _ _ _ _
     ·split
      ·split
       ·exact h.hard hk _ _ _ _ _
       ·exact h
      ·exact h
theorem Pl.itemF {S:Fs} {N:Nat} (hk:FsOk S N) (h:Pl S) (it:It):Pl (itemF S it).1:=by
 unfold Go.Proofs.YtihdbncoijhihaaGreatDoor.itemF;have h1:=h.nodeF hk it;simp only
 split
 ·exact (h1.chown _ _ _ _ _).chmod _ _ _ _
 ·exact h1
theorem itemF_ok2 {S:Fs} {N:Nat} (h:FsOk S N) (it:It):FsOk (itemF S it).1 (N+1):=by
 have:=itemsF_ok h [it];exact this
theorem Pl.itemsF {S:Fs} {N:Nat} (hk:FsOk S N) (h:Pl S) (l:List It):Pl (itemsF S l).1:=by
 induction l generalizing S N with
 | nil=>exact h
 | cons x l ih=>exact ih (itemF_ok2 hk x) (h.itemF hk x)
theorem Pl.timesF {S:Fs} (h:Pl S) (l:List (It×Int)):Pl (timesF S l):=by
 induction l generalizing S with
 | nil=>exact h
 | cons x l ih=>
  unfold Go.Proofs.YtihdbncoijhihaaGreatDoor.timesF;refine ih ?_
  split
  ·exact h.utime _ _ _ _
  ·exact h
theorem plant_pl (ms:List Mt) (is:List It):Pl (plantF ms is):=by
 unfold plantF;simp only;have hk:=FsOk.new (limitsF ms).1 (limitsF ms).2;exact Pl.timesF (Pl.itemsF (mountsF_ok hk ms) (Pl.mountsF hk (Pl.new _ _) ms) is) _
end
end Go.Proofs.YtihdbncoijhihaaGreatDoor
