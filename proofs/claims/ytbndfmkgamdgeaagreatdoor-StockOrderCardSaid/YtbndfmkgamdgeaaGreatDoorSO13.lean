import Derived.Test.YtbndfmkgamdgeaaGreatDoorSO1
import Derived.Test.YtbndfmkgamdgeaaGreatDoorSO2
import Derived.Test.YtbndfmkgamdgeaaGreatDoorSO3
import Derived.Test.YtbndfmkgamdgeaaGreatDoorSO4
import Derived.Test.YtbndfmkgamdgeaaGreatDoorSO5
import Derived.Test.YtbndfmkgamdgeaaGreatDoorSO6
import Derived.Test.YtbndfmkgamdgeaaGreatDoorSO7
import Derived.Test.YtbndfmkgamdgeaaGreatDoorSO8
import Derived.Test.YtbndfmkgamdgeaaGreatDoorSO10
import Derived.Test.YtbndfmkgamdgeaaGreatDoorSO11
import Derived.Test.YtbndfmkgamdgeaaGreatDoorSO12
set_option linter.unusedVariables false
set_option linter.unusedSimpArgs false
set_option maxRecDepth 100000
set_option maxHeartbeats 16000000
namespace Go.Proofs.YtbndfmkgamdgeaaGreatDoor
section
open Go.RowKit
structure Mt where
 path:ByteArray
 b:Int
 n:Int
structure It where
 path:ByteArray
 kind:Int
 mode:Int
 uid:Int
 gid:Int
 mtime:Int
 data:ByteArray
def topB:ByteArray:=⟨#[47]⟩
def c00:Cr:=⟨0,0⟩
def limitsF:List Mt→Int×Int
 | []=>(65536,65536)
 | m :: l=>if m.path=topB∧limB m.b m.n=true then (m.b,m.n) else limitsF l
theorem limits_ok:∀ l:List Mt,limB (limitsF l).1 (limitsF l).2=true
 | []=>by decide
 | m :: l=>by
  unfold limitsF
  split
  ·rename_i h;exact h.2
  ·exact limits_ok l
def Fs.kindOf (S:Fs) (k:Int):Int:=match S.get k with | none=>0 | some a=>a.kind
def mountF (S:Fs) (m:Mt):Fs:=
 if (S.path c00 m.path false).2≠0 then S
 else if (S.path c00 m.path false).1.no=0 then
  let q:=S.mkdir c00 0 (S.path c00 m.path false).1.dir (S.path c00 m.path false).1.name 493
  if q.2.2≠0 then q.1 else (q.1.mount q.2.1 m.b m.n).1
 else (S.mount (S.path c00 m.path false).1.no m.b m.n).1
def nodeF (S:Fs) (it:It):Fs×Int:=
 let x:=S.path c00 it.path false
 if x.2≠0 then (S,0)
 else if x.1.no≠0 then (if it.kind=1∧S.kindOf x.1.no=1 then (S,x.1.no) else (S,0))
 else if it.kind=1 then ((S.mkdir c00 0 x.1.dir x.1.name 493).1,(S.mkdir c00 0 x.1.dir x.1.name 493).2.1)
 else if it.kind=2 then ((S.file c00 0 x.1.dir x.1.name 420 it.data).1,(S.file c00 0 x.1.dir x.1.name 420 it.data).2.1)
 else if it.kind=3 then ((S.sym c00 0 x.1.dir x.1.name it.data).1,(S.sym c00 0 x.1.dir x.1.name it.data).2.1)
 else if it.kind=4 then
  (if (S.path c00 it.data false).2=0 then ((S.hard c00 0 (S.path c00 it.data false).1.no x.1.dir x.1.name).1,0) else (S,0))
 else (S,0)
def itemF (S:Fs) (it:It):Fs×Int:=
 let q:=nodeF S it
 if q.2≠0 then (((q.1.chown c00 0 q.2 it.uid it.gid).1.chmod c00 0 q.2 it.mode).1,q.2) else q
def itemsF (S:Fs):List It→Fs×List Int
 | []=>(S,[])
 | it :: l=>let q:=itemF S it;let r:=itemsF q.1 l;(r.1,q.2 :: r.2)
def timesF (S:Fs):List (It×Int)→Fs
 | []=>S
 | x :: l=>timesF (if x.2≠0 then (S.utime c00 0 x.2 x.1.mtime).1 else S) l
def mountsF (S:Fs):List Mt→Fs
 | []=>S
 | m :: l=>mountsF (if m.path=topB then S else mountF S m) l
def plantF (ms:List Mt) (is:List It):Fs:=
 let S:=mountsF (fs0.addRoot 0 (limitsF ms).1 (limitsF ms).2) ms
 let r:=itemsF S is
 timesF r.1 (is.zip r.2)
theorem itemsF_app (S:Fs) (a b:List It):itemsF S (a ++ b)=((itemsF (itemsF S a).1 b).1,(itemsF S a).2 ++ (itemsF (itemsF S a).1 b).2):=by
 induction a generalizing S with
 | nil=>rfl
 | cons x a ih=>simp only [List.cons_append,itemsF,ih]
theorem itemsF_len (S:Fs) (a:List It):(itemsF S a).2.length=a.length:=by
 induction a generalizing S with
 | nil=>rfl
 | cons x a ih=>simp only [itemsF,List.length_cons,ih]
theorem timesF_app (S:Fs) (a b:List (It×Int)):timesF S (a ++ b)=timesF (timesF S a) b:=by
 induction a generalizing S with
 | nil=>rfl
 | cons x a ih=>exact ih _
theorem mountsF_app (S:Fs) (a b:List Mt):mountsF S (a ++ b)=mountsF (mountsF S a) b:=by
 induction a generalizing S with
 | nil=>rfl
 | cons x a ih=>exact ih _
theorem mountF_ok {S:Fs} {N:Nat} (h:FsOk S N) (m:Mt):FsOk (mountF S m) (N+2):=by
 unfold mountF
 split
 ·exact h.mono (by omega)
 ·split
  ·have h1:=mkdir_ok h c00 0 (S.path c00 m.path false).1.dir (S.path c00 m.path false).1.name 493;simp only
   split
   ·exact h1.mono (by omega)
   ·exact h1.mount _ _ _
  ·exact (h.mount _ _ _).mono (by omega)
theorem mountsF_ok {S:Fs} {N:Nat} (h:FsOk S N) (l:List Mt):FsOk (mountsF S l) (N+2*l.length):=by
 induction l generalizing S N with
 | nil=>exact h
 | cons m l ih=>
  unfold mountsF;have h1:FsOk (if m.path=topB then S else mountF S m) (N+2):=by
   split
   ·exact h.mono (by omega)
   ·exact mountF_ok h m
  exact (ih h1).mono (by simp;omega)
theorem nodeF_ok {S:Fs} {N:Nat} (h:FsOk S N) (it:It):FsOk (nodeF S it).1 (N+1):=by
 have h1:=h.mono (Nat.le_succ N);unfold nodeF;simp only
 split
 ·exact h1
 ·split
  ·split <;> exact h1
  ·split
   ·exact mkdir_ok h _ _ _ _ _
   ·split
    ·exact file_ok h _ _ _ _ _ _
    ·split
     ·exact sym_ok h _ _ _ _ _
     ·split
      ·split
       ·exact hard_ok h _ _ _ _ _
       ·exact h1
      ·exact h1
theorem itemF_ok {S:Fs} {N:Nat} (h:FsOk S N) (it:It):FsOk (itemF S it).1 (N+1):=by
 have h1:=nodeF_ok h it;unfold itemF;simp only
 split
 ·exact chmod_ok (chown_ok h1 _ _ _ _ _) _ _ _ _
 ·exact h1
theorem itemsF_ok {S:Fs} {N:Nat} (h:FsOk S N) (l:List It):FsOk (itemsF S l).1 (N+l.length):=by
 induction l generalizing S N with
 | nil=>exact h
 | cons m l ih=>
  unfold itemsF;exact (ih (itemF_ok h m)).mono (by simp;omega)
theorem timesF_ok {S:Fs} {N:Nat} (h:FsOk S N) (l:List (It×Int)):FsOk (timesF S l) N:=by
 induction l generalizing S with
 | nil=>exact h
 | cons m l ih=>
  unfold timesF;apply ih
  split
  ·exact utime_ok h _ _ _ _
  ·exact h
theorem plant_ok (ms:List Mt) (is:List It):FsOk (plantF ms is) (1+2*ms.length+is.length):=by
 unfold plantF;exact timesF_ok (itemsF_ok (mountsF_ok (FsOk.new _ _) _) _) _
end
section
open Go.RowKit
def NmOk (s:ByteArray):Prop:=s≠ByteArray.empty∧s.size≤255
structure Pl (S:Fs):Prop where
 len:(S.ns.length:Int)≤S.last
 names:∀ a∈S.ns,∀ x∈a.ents,NmOk x.name
 up:∀ a∈S.ns,a.kind=1→(S.root a.dev=a.no∧a.up=a.no)∨(S.root a.dev≠a.no∧1≤a.up∧a.up<a.no)
 top:S.root 1=1
 one:∃ a,S.get 1=some a∧a.kind=1
 over:∀ (i:Nat) (hi:i<S.ds.length),1≤i→∃ b,S.get S.ds[i].over=some b∧b.kind=1∧S.ds[i].over<S.ds[i].root
theorem above_lt {S:Fs} {N:Nat} (hk:FsOk S N) (h:Pl S) {no:Int} {a:An} (hg:S.get no=some a) (hd:a.kind=1) (h1:no≠1):1≤S.above no∧S.above no<no:=by
 obtain⟨ho,hn,hl,-⟩:=hk.get hg;have hup:=h.up a (an_mem hg) hd;unfold Fs.above;rw [hg];simp only;rw [if_neg (by simpa using hd)];by_cases hr:S.root a.dev=no∧1<a.dev
 ·rw [if_pos hr];obtain⟨v,hv,hvg⟩:=dev_of ho.dev.1 ho.dev.2;obtain⟨v2,hv2,hrt,-,-⟩:=root_of hk ho.dev.1 ho.dev.2;rw [hv] at hv2;injection hv2 with hv2;subst hv2;have hi:(a.dev - 1).toNat<S.ds.length:=(List.getElem?_eq_some_iff.1 hvg).1;obtain⟨b,hb,hbk,hlt⟩:=h.over _ hi (by omega);have hvi:S.ds[(a.dev - 1).toNat]=v:=(List.getElem?_eq_some_iff.1 hvg).2;rw [hvi] at hb hlt;rw [hv];simp only;rw [hb];simp only;have hbn:=an_no hb;have h3:=(hk.get hb).2.2.1;rcases h.up b (an_mem hb) hbk with ⟨-,h2⟩|⟨-,h2,h4⟩
  ·have:=hr.1;omega
  ·have:=hr.1;omega
 ·rw [if_neg hr];rcases hup with ⟨h2,h3⟩|⟨-,h2,h3⟩
  ·exfalso;have h4:a.dev=1:=by
    have:=ho.dev.1;by_cases h5:1<a.dev
    ·exact absurd ⟨h2.trans hn,h5⟩ hr
    ·omega
   rw [h4,h.top] at h2;omega
  ·omega
theorem above_none {S:Fs} {no:Int} (hg:S.get no=none):S.above no=0:=by unfold Fs.above;rw [hg]
theorem above_leaf {S:Fs} {no:Int} {a:An} (hg:S.get no=some a) (hd:a.kind≠1):S.above no=0:=by
 unfold Fs.above;rw [hg];simp only;rw [if_pos hd]
theorem above_top {S:Fs} {N:Nat} (hk:FsOk S N) (h:Pl S) {a:An} (hg:S.get 1=some a) (hd:a.kind=1):S.above 1=1:=by
 obtain⟨ho,hn,-,-⟩:=hk.get hg;unfold Fs.above;rw [hg];simp only;rw [if_neg (by simpa using hd)];have hno:¬ (S.root a.dev=1∧1<a.dev):=by
  rintro ⟨h1,h2⟩;obtain⟨v,hv,hvg⟩:=dev_of ho.dev.1 ho.dev.2;obtain⟨v2,hv2,hrt,-,-⟩:=root_of hk ho.dev.1 ho.dev.2;rw [hv] at hv2;injection hv2 with hv2;subst hv2;have hi:(a.dev - 1).toNat<S.ds.length:=(List.getElem?_eq_some_iff.1 hvg).1;obtain⟨b,hb,-,hlt⟩:=h.over _ hi (by omega);rw [show S.ds[(a.dev - 1).toNat]=v from (List.getElem?_eq_some_iff.1 hvg).2] at hb hlt;have:=(hk.get hb).2.2.1;omega
 rw [if_neg hno];rcases h.up a (an_mem hg) hd with ⟨-,h2⟩|⟨-,h2,h3⟩
 ·rw [h2,hn]
 ·omega
theorem Pl.set {S:Fs} (h:Pl S) {a b:An} (hb:S.get a.no=some b) (hk:a.kind=b.kind) (hd:a.dev=b.dev) (hu:a.up=b.up) (hn:∀ x∈a.ents,NmOk x.name):Pl (S.set a):=by
 refine ⟨?_,fun y hy=>?_,fun y hy hyk=>?_,h.top,?_,fun i hi h1=>?_⟩
 ·show ((S.ns.map _).length:Int)≤S.last;rw [List.length_map];exact h.len
 ·unfold Fs.set at hy;simp only [List.mem_map] at hy;obtain⟨z,hz,rfl⟩:=hy
  split
  ·exact hn
  ·exact h.names z hz
 ·unfold Fs.set at hy;simp only [List.mem_map] at hy;obtain⟨z,hz,rfl⟩:=hy;show (S.root _=_∧_)∨(S.root _≠_∧_)
  split at hyk
  ·rename_i he;rw [if_pos he];have hbn:=an_no hb;have:=h.up b (an_mem hb) (by rw [←hk];exact hyk);rw [hd,hu,←hbn];exact this
  ·rename_i he;rw [if_neg he];exact h.up z hz hyk
 ·obtain ⟨c,hc,h2⟩:=h.one;refine ⟨if (1:Int)=a.no then a else c,?_,?_⟩
  ·rw [an_set hb]
   split
   ·rfl
   ·exact hc
  ·split
   ·rename_i he;rw [he,hb] at hc;injection hc with hc;rw [hk,hc];exact h2
   ·exact h2
 ·obtain ⟨c,hc,h2,h3⟩:=h.over i hi h1;refine ⟨if S.ds[i].over=a.no then a else c,?_,?_,h3⟩
  ·show (S.set a).get S.ds[i].over=_;rw [an_set hb]
   split
   ·rfl
   ·exact hc
  ·split
   ·rename_i he;rw [he,hb] at hc;injection hc with hc;rw [hk,hc];exact h2
   ·exact h2
theorem Pl.setDev {S:Fs} (h:Pl S) {d:Int} {v u:Dv} (hv:S.dev d=some v) (hr:u.root=v.root) (ho:u.over=v.over):Pl (S.setDev d u):=by
 unfold Fs.dev at hv
 split at hv
 ·rename_i hd;have hi:=(List.getElem?_eq_some_iff.1 hv).1;have hvi:=(List.getElem?_eq_some_iff.1 hv).2;have hroot:∀ e,(S.setDev d u).root e=S.root e:=fun e=>by
   unfold Fs.root Fs.setDev;simp only [List.length_set,List.getElem?_set]
   split
   ·rename_i he;by_cases hq:(d - 1).toNat=(e - 1).toNat
    ·rw [if_pos hq,←hq,hv]
     first | exact hr | (rw [if_pos hi];exact hr)
    ·rw [if_neg hq]
   ·rfl
  refine ⟨h.len,h.names,fun y hy hk=>by rw [hroot];exact h.up y hy hk,by rw [hroot];exact h.top,h.one,fun i hi2 h1=>?_⟩;have hi3:i<S.ds.length:=by
   have:=hi2;unfold Fs.setDev at this;simpa using this
  obtain⟨b,hb,h2,h3⟩:=h.over i hi3 h1;have he:(S.setDev d u).ds[i]=if (d - 1).toNat=i then u else S.ds[i]:=by
   exact List.getElem_set (l:=S.ds) (i:=(d - 1).toNat) (a:=u) (j:=i) (by rw [List.length_set];exact hi3)
  rw [he];by_cases hq:(d - 1).toNat=i
  ·subst hq;rw [if_pos rfl,ho,hr,←hvi];exact⟨b,hb,h2,h3⟩
  ·rw [if_neg hq];exact⟨b,hb,h2,h3⟩
 ·cases hv
theorem get_low {S:Fs} (h:Nums S) {k:Int} {b:An} (hb:S.get k=some b):k≤S.last:=by
 have h1:=an_no hb;have h2:=h.low b (an_mem hb);omega
theorem Pl.add {S:Fs} {N:Nat} (hk:FsOk S N) (h:Pl S) {a:An} (he:a.ents=[]) (hdv:1≤a.dev∧a.dev≤S.ds.length) (hu:a.kind=1→1≤a.up∧a.up≤S.last):Pl (S.add a):=by
 refine ⟨?_,fun y hy=>?_,fun y hy hyk=>?_,h.top,?_,fun i hi h1=>?_⟩
 ·show ((S.ns ++ [_]).length:Int)≤S.last+1;rw [List.length_append,List.length_singleton];have:=h.len;omega
 ·rcases List.mem_append.1 hy with hy | hy
  ·exact h.names y hy
  ·simp at hy;subst hy;intro x hx;rw [show ({a with no:=S.last+1}:An).ents=a.ents from rfl,he] at hx
   cases hx
 ·show (S.root _=_∧_)∨(S.root _≠_∧_);rcases List.mem_append.1 hy with hy | hy
  ·exact h.up y hy hyk
  ·simp at hy;subst hy;right;obtain⟨v,-,hrt,-,hm⟩:=root_of hk hdv.1 hdv.2;have h2:=(hk.root v hm).2;have h3:=hu hyk;refine ⟨?_,h3.1,?_⟩
   ·show S.root a.dev≠S.last+1;omega
   ·show a.up<S.last+1;omega
 ·obtain ⟨c,hc,h2⟩:=h.one;refine ⟨c,?_,h2⟩;rw [an_add hk.nums,if_neg]
  ·exact hc
  ·have:=get_low hk.nums hc;omega
 ·obtain ⟨c,hc,h2,h3⟩:=h.over i hi h1;refine ⟨c,?_,h2,h3⟩;show (S.add a).get S.ds[i].over=some c;rw [an_add hk.nums,if_neg]
  ·exact hc
  ·have:=get_low hk.nums hc;omega
theorem Pl.addRoot {S:Fs} {N:Nat} (hk:FsOk S N) (h:Pl S) {k:Int} {a:An} (hg:S.get k=some a) (hd:a.kind=1) (b n:Int):Pl (S.addRoot k b n):=by
 have hroot:∀ e:Int,e≤S.ds.length→(S.addRoot k b n).root e=S.root e:=fun e he=>by
  unfold Fs.root Fs.addRoot;simp only [List.length_append,List.length_singleton];by_cases h1:(1:Int)≤e
  ·rw [if_pos ⟨h1,by omega⟩,if_pos ⟨h1,he⟩,List.getElem?_append_left (by omega)]
  ·rw [if_neg (fun h=>h1 h.1),if_neg (fun h=>h1 h.1)]
 have hrl:(S.addRoot k b n).root (S.ds.length+1)=S.last+1:=by
  unfold Fs.root Fs.addRoot;simp only [List.length_append,List.length_singleton];rw [if_pos ⟨by omega,by omega⟩,List.getElem?_append_right (by omega)];rw [show ((S.ds.length:Int)+1 - 1).toNat - S.ds.length=0 by omega];rfl
 have hget:∀ q c,S.get q=some c→(S.addRoot k b n).get q=some c:=fun q c hq=>by
  unfold Fs.get Fs.addRoot at *;simp only [List.find?_append,hq,Option.some_or]
 have hl0:=hk.l0;have hgl:=get_low hk.nums hg;refine ⟨?_,fun y hy=>?_,fun y hy hyk=>?_,?_,?_,fun i hi h1=>?_⟩
 ·show ((S.ns ++ [_]).length:Int)≤S.last+1;rw [List.length_append,List.length_singleton];have:=h.len;omega
 ·rcases List.mem_append.1 hy with hy | hy
  ·exact h.names y hy
  ·simp at hy;subst hy;intro x hx;simp [an0] at hx
 ·rcases List.mem_append.1 hy with hy | hy
  ·rw [hroot _ (hk.all y hy).dev.2];exact h.up y hy hyk
  ·simp at hy;subst hy;left;exact⟨hrl,rfl⟩
 ·rw [hroot _ (by have:=hk.d1;omega)];exact h.top
 ·obtain ⟨c,hc,h2⟩:=h.one;exact⟨c,hget _ _ hc,h2⟩
 ·by_cases hi2:i<S.ds.length
  ·obtain ⟨c,hc,h2,h3⟩:=h.over i hi2 h1;have he:(S.addRoot k b n).ds[i]=S.ds[i]:=List.getElem_append_left hi2;rw [he];exact⟨c,hget _ _ hc,h2,h3⟩
  ·have hi3:i=S.ds.length:=by
    have h4:i<(S.ds ++ [(⟨S.last+1,k,1,1,b,n⟩:Dv)]).length:=hi;rw [List.length_append,List.length_singleton] at h4;omega
   subst hi3;have he:(S.addRoot k b n).ds[S.ds.length]=⟨S.last+1,k,1,1,b,n⟩:=by
    have h5:(S.ds ++ [(⟨S.last+1,k,1,1,b,n⟩:Dv)])[S.ds.length]? = some ⟨S.last+1,k,1,1,b,n⟩:=by
     rw [List.getElem?_append_right (Nat.le_refl _)];simp
    exact (List.getElem?_eq_some_iff.1 h5).2
   rw [he];exact⟨a,hget _ _ hg,hd,by show k<S.last+1;omega⟩
theorem Pl.new (b n:Int):Pl (fs0.addRoot 0 b n):=by
 refine ⟨Int.le_of_eq rfl,fun a ha=>?_,fun a ha _=>?_,rfl,⟨_,rfl,rfl⟩,fun i hi h1=>?_⟩
 ·simp [Fs.addRoot,fs0] at ha;subst ha;intro x hx;simp [an0] at hx
 ·simp [Fs.addRoot,fs0] at ha;subst ha;left;exact⟨rfl,rfl⟩
 ·have:i<1:=hi;omega
theorem Pl.make {S:Fs} {N:Nat} (hk:FsOk S N) (h:Pl S) {a:An} (he:a.ents=[]) (hdv:1≤a.dev∧a.dev≤S.ds.length) (hu:a.kind=1→1≤a.up∧a.up≤S.last):Pl (S.make a).1:=by
 unfold Fs.make
 split
 ·exact h
 ·split
  ·exact h
  ·rename_i v hv;simp only
   split
   ·have h2:=h.setDev (u:={v with b:=v.b+blkI a.kind a.data.size,n:=v.n+1}) hv rfl rfl;have hk2:=hk.setDev (u:={v with b:=v.b+blkI a.kind a.data.size,n:=v.n+1}) hv rfl;exact h2.add hk2 he (by unfold Fs.setDev;simp only [List.length_set];exact hdv) hu
   ·exact h
theorem put_names {l:List En} (h:∀ x∈l,NmOk x.name) {s:ByteArray} (hs:NmOk s) (no:Int):∀ x∈entPut l s no,NmOk x.name:=by
 intro x hx;unfold entPut at hx;rcases List.mem_append.1 hx with hx | hx
 ·exact h x (List.mem_filter.1 hx).1
 ·rcases List.mem_cons.1 hx with rfl | hx
  ·exact hs
  ·exact h x (List.mem_filter.1 hx).1
theorem Pl.touch {S:Fs} (h:Pl S) (now dir:Int) (l:List En) (hl:∀ x∈l,NmOk x.name):Pl (S.touch now dir l):=by
 unfold Fs.touch
 split
 ·exact h
 ·rename_i d hd;exact h.set (b:=d) (by show S.get d.no=_;rw [an_no hd];exact hd) rfl rfl rfl hl
theorem check_ne {s:ByteArray} (h:checkE s=0):NmOk s:=by
 refine ⟨?_,?_⟩
 ·rintro rfl;revert h;decide
 ·unfold checkE at h
  split at h
  ·cases h
  ·split at h
   ·cases h
   ·omega
theorem place_check {S:Fs} {c:Cr} {dir:Int} {s:ByteArray} (h:S.placeE c dir s=0):∃ d,S.get dir=some d∧d.kind=1∧checkE s=0:=by
 unfold Fs.placeE at h
 split at h
 ·cases h
 ·rename_i d hd
  split at h
  ·cases h
  ·rename_i hk
   split at h
   ·rename_i he;exact absurd h he
   ·rename_i he;exact⟨d,hd,by simpa using hk,by simpa using he⟩
theorem Pl.come {S:Fs} {N:Nat} (hk:FsOk S N) (h:Pl S) {a:An} (c:Cr) (now dir:Int) (s:ByteArray) (he:a.ents=[]) (hu:a.kind=1→a.up=dir):Pl (S.come c now dir s a).1:=by
 unfold Fs.come
 split
 ·exact h
 ·rename_i hpl;obtain⟨d,hd,hdk,hce⟩:=place_check (by simpa using hpl);rw [hd];simp only
  split
  ·exact h
  ·obtain ⟨hdo,hdn,h1,h2⟩:=hk.get hd;have hm:=h.make hk (a:={a with dev:=d.dev,uid:=c.u,gid:=c.g,mtime:=now,ctime:=now,links:=1}) he hdo.dev (fun hq=>by
    have:=hu hq;show 1≤a.up∧a.up≤S.last;omega)
   split
   ·exact h
   ·exact hm.touch _ _ _ (put_names (h.names d (an_mem hd)) (check_ne hce) _)
theorem Pl.mkdir {S:Fs} {N:Nat} (hk:FsOk S N) (h:Pl S) (c:Cr) (now dir:Int) (s:ByteArray) (m:Int):Pl (S.mkdir c now dir s m).1:=by
 unfold Fs.mkdir
 split
 ·exact h
 ·exact h.come hk c now dir s rfl (fun _=>rfl)
theorem Pl.file {S:Fs} {N:Nat} (hk:FsOk S N) (h:Pl S) (c:Cr) (now dir:Int) (s:ByteArray) (m:Int) (t:ByteArray):Pl (S.file c now dir s m t).1:=by
 unfold Fs.file
 split
 ·exact h
 ·split
  ·exact h
  ·exact h.come hk c now dir s rfl (fun hq=>absurd hq (by dsimp only;decide))
theorem Pl.sym {S:Fs} {N:Nat} (hk:FsOk S N) (h:Pl S) (c:Cr) (now dir:Int) (s t:ByteArray):Pl (S.sym c now dir s t).1:=by
 unfold Fs.sym
 split
 ·exact h
 ·split
  ·exact h
  ·exact h.come hk c now dir s rfl (fun hq=>absurd hq (by dsimp only;decide))
theorem Pl.hard {S:Fs} {N:Nat} (hk:FsOk S N) (h:Pl S) (c:Cr) (now no dir:Int) (s:ByteArray):Pl (S.hard c now no dir s).1:=by
 unfold Fs.hard
 split
 ·exact h
 ·rename_i hpl;obtain⟨d0,hd0,hdk,hce⟩:=place_check (by simpa using hpl)
  split
  ·rename_i d n hd hn
   split
   ·exact h
   ·split
    ·exact h
    ·split
     ·exact h
     ·split
      ·exact h
      ·refine Pl.touch (h.set (a:={n with links:=n.links+1,ctime:=now}) (b:=n) (by show S.get n.no=_;rw [an_no hn];exact hn) rfl rfl rfl (h.names n (an_mem hn))) _ _ _ (put_names (h.names d (an_mem hd)) (check_ne hce) _)
  ·exact h
theorem Pl.chmod {S:Fs} (h:Pl S) (c:Cr) (now no m:Int):Pl (S.chmod c now no m).1:=by
 unfold Fs.chmod
 split
 ·exact h
 ·rename_i n hn
  split
  ·exact h
  ·split
   ·exact h
   ·exact h.set (b:=n) (by show S.get n.no=_;rw [an_no hn];exact hn) rfl rfl rfl (h.names n (an_mem hn))
theorem Pl.chown {S:Fs} (h:Pl S) (c:Cr) (now no u g:Int):Pl (S.chown c now no u g).1:=by
 unfold Fs.chown
 split
 ·exact h
 ·rename_i n hn
  split
  ·exact h
  ·split
   ·exact h
   ·split
    ·exact h
    ·exact h.set (b:=n) (by show S.get n.no=_;rw [an_no hn];exact hn) rfl rfl rfl (h.names n (an_mem hn))
theorem Pl.utime {S:Fs} (h:Pl S) (c:Cr) (now no t:Int):Pl (S.utime c now no t).1:=by
 unfold Fs.utime
 split
 ·exact h
 ·rename_i n hn
  split
  ·exact h
  ·split
   ·exact h
   ·exact h.set (b:=n) (by show S.get n.no=_;rw [an_no hn];exact hn) rfl rfl rfl (h.names n (an_mem hn))
theorem Pl.mount {S:Fs} {N:Nat} (hk:FsOk S N) (h:Pl S) (k b n:Int):Pl (S.mount k b n).1:=by
 unfold Fs.mount
 split
 ·exact h
 ·rename_i a ha
  split
  ·exact h
  ·rename_i hd
   split
   ·exact h
   ·split
    ·exact h
    ·exact h.addRoot hk ha (by simpa using hd) b n
theorem Pl.mountF {S:Fs} {N:Nat} (hk:FsOk S N) (h:Pl S) (m:Mt):Pl (mountF S m):=by
 unfold Go.Proofs.YtbndfmkgamdgeaaGreatDoor.mountF
 split
 ·exact h
 ·split
  ·have h1:=h.mkdir hk c00 0 (S.path c00 m.path false).1.dir (S.path c00 m.path false).1.name 493;have hk1:=mkdir_ok hk c00 0 (S.path c00 m.path false).1.dir (S.path c00 m.path false).1.name 493;simp only
   split
   ·exact h1
   ·exact h1.mount hk1 _ _ _
  ·exact h.mount hk _ _ _
theorem Pl.mountsF {S:Fs} {N:Nat} (hk:FsOk S N) (h:Pl S) (l:List Mt):Pl (mountsF S l):=by
 induction l generalizing S N with
 | nil=>exact h
 | cons m l ih=>
  unfold Go.Proofs.YtbndfmkgamdgeaaGreatDoor.mountsF;by_cases hm:m.path=topB
  ·rw [if_pos hm];exact ih hk h
  ·rw [if_neg hm];exact ih (mountF_ok hk m) (h.mountF hk m)
theorem Pl.nodeF {S:Fs} {N:Nat} (hk:FsOk S N) (h:Pl S) (it:It):Pl (nodeF S it).1:=by
 unfold Go.Proofs.YtbndfmkgamdgeaaGreatDoor.nodeF;simp only
 split
 ·exact h
 ·split
  ·split <;> exact h
  ·split
   ·exact h.mkdir hk _ _ _ _ _
   ·split
    ·exact h.file hk _ _ _ _ _ _
    ·split
     ·exact h.sym hk _ _ _ _ _
     ·split
      ·split
       ·exact h.hard hk _ _ _ _ _
       ·exact h
      ·exact h
theorem Pl.itemF {S:Fs} {N:Nat} (hk:FsOk S N) (h:Pl S) (it:It):Pl (itemF S it).1:=by
 unfold Go.Proofs.YtbndfmkgamdgeaaGreatDoor.itemF;have h1:=h.nodeF hk it;simp only
 split
 ·exact (h1.chown _ _ _ _ _).chmod _ _ _ _
 ·exact h1
theorem itemF_ok2 {S:Fs} {N:Nat} (h:FsOk S N) (it:It):FsOk (itemF S it).1 (N+1):=by
 have:=itemsF_ok h [it];exact this
theorem Pl.itemsF {S:Fs} {N:Nat} (hk:FsOk S N) (h:Pl S) (l:List It):Pl (itemsF S l).1:=by
 induction l generalizing S N with
 | nil=>exact h
 | cons x l ih=>exact ih (itemF_ok2 hk x) (h.itemF hk x)
theorem Pl.timesF {S:Fs} (h:Pl S) (l:List (It×Int)):Pl (timesF S l):=by
 induction l generalizing S with
 | nil=>exact h
 | cons x l ih=>
  unfold Go.Proofs.YtbndfmkgamdgeaaGreatDoor.timesF;refine ih ?_
  split
  ·exact h.utime _ _ _ _
  ·exact h
theorem plant_pl (ms:List Mt) (is:List It):Pl (plantF ms is):=by
 unfold plantF;simp only;have hk:=FsOk.new (limitsF ms).1 (limitsF ms).2;exact Pl.timesF (Pl.itemsF (mountsF_ok hk ms) (Pl.mountsF hk (Pl.new _ _) ms) is) _
end
section
open Go.RowKit
def Fs.withinN (S:Fs) (base:Int):Nat→Int→Bool
 | 0,_=>false
 | n+1,no=>if no=0 then false else if no=base then true else S.withinN base n (S.above no)
def Fs.within (S:Fs) (no base:Int):Bool:=S.withinN base (S.ns.length+1) no
def Fs.busy (S:Fs) (no:Int):Bool:=(S.ds.drop 1).any (fun d=>S.within d.over no)
def entName (l:List En) (no:Int):Option ByteArray:=(l.find? (fun x=>x.no == no)).map (·.name)
def Fs.entsOf (S:Fs) (no:Int):List En:=match S.get no with | some a=>a.ents | none=>[]
def Fs.child (S:Fs) (no:Int):Int:=match S.get no with
 | none=>no
 | some a=>if S.root a.dev=no∧1<a.dev then (match S.dev a.dev with | some v=>v.over | none=>no) else no
def Fs.whereN (S:Fs):Nat→Int→ByteArray→Option ByteArray
 | 0,_,_=>none
 | n+1,no,s=>if no=1 then some (if s.size=0 then topB else s) else match entName (S.entsOf (S.above no)) (S.child no) with
  | none=>none
  | some nm=>S.whereN n (S.above no) (topB ++ nm ++ s)
def Fs.place_ (S:Fs) (no:Int):Option ByteArray:=S.whereN (S.ns.length+1) no ByteArray.empty
theorem entName_cons (x:En) (l:List En) (no:Int):entName (x :: l) no=if x.no=no then some x.name else entName l no:=by
 unfold entName;rw [List.find?_cons];by_cases h:x.no=no
 ·rw [if_pos h,show (x.no == no)=true by simpa using h];rfl
 ·rw [if_neg h,show (x.no == no)=false by simpa using h]
theorem entName_mem {l:List En} {no:Int} {s:ByteArray} (h:entName l no=some s):∃ x∈l,x.name=s:=by
 unfold entName at h
 cases hf:l.find? (fun x=>x.no == no) with
 | none=>rw [hf] at h;cases h
 | some x=>
  rw [hf] at h;exact⟨x,List.mem_of_find?_eq_some hf,by simpa using h⟩
section
variable {S:Fs} {N:Nat} {no:Int}
theorem get_zero (hk:FsOk S N):S.get 0=none:=by
 cases h:S.get 0 with
 | none=>rfl
 | some a=>
  have:=(hk.get h).2.2.1;omega
theorem above_zero (hk:FsOk S N):S.above 0=0:=above_none (get_zero hk)
theorem ents_zero (hk:FsOk S N):S.entsOf 0=[]:=by unfold Fs.entsOf;rw [get_zero hk]
theorem above_step (hk:FsOk S N) (h:Pl S) {no:Int} (hne:S.above no≠no):S.above no=0∨(1≤S.above no∧S.above no<no∧no≤S.last∧no≠1):=by
 cases hg:S.get no with
 | none=>exact .inl (above_none hg)
 | some a=>
  by_cases hd:a.kind=1
  ·by_cases h1:no=1
   ·subst h1;exact absurd (above_top hk h hg hd) hne
   ·have:=above_lt hk h hg hd h1;exact .inr ⟨this.1,this.2,get_low hk.nums hg,h1⟩
  ·exact .inl (above_leaf hg hd)
theorem above_live (h:S.above no≠no) (h0:S.above no≠0):∃ a,S.get no=some a:=by
 cases hg:S.get no with
 | none=>exact absurd (above_none hg) h0
 | some a=>exact ⟨a,rfl⟩
def Fs.rank (S:Fs) (k:Int):Nat:=(S.ns.filter fun a=>decide (a.no≤k)).length
theorem rank_le (k:Int):S.rank k≤S.ns.length:=List.length_filter_le _ _
theorem rank_lt {x y:Int} (hxy:x<y) {a:An} (hy:S.get y=some a):S.rank x<S.rank y:=by
 have hsub:(S.ns.filter fun a=>decide (a.no≤x)).Sublist (S.ns.filter fun a=>decide (a.no≤y)):=by
  have:(S.ns.filter fun a=>decide (a.no≤x))=(S.ns.filter fun a=>decide (a.no≤y)).filter fun a=>decide (a.no≤x):=by
   rw [List.filter_filter];congr 1;funext b;by_cases hb:b.no≤x
   ·simp [hb];omega
   ·simp [hb]
  rw [this];exact List.filter_sublist
 rcases Nat.lt_or_ge (S.rank x) (S.rank y) with h | h
 ·exact h
 ·exfalso;have he:=hsub.eq_of_length_le h;have hm:a∈S.ns.filter fun a=>decide (a.no≤y):=List.mem_filter.2 ⟨an_mem hy,by have:=an_no hy;simp;omega⟩;rw [←he] at hm;have:=(List.mem_filter.1 hm).2;have h2:=an_no hy;simp at this;omega
theorem rank_one {a:An} {y:Int} (hy:S.get y=some a):1≤S.rank y:=by
 have:=rank_lt (S:=S) (x:=y - 1) (by omega) hy;omega
theorem above_end (hk:FsOk S N) (h:Pl S) {no:Int} (he:S.above no=no):no=0∨no=1:=by
 cases hg:S.get no with
 | none=>rw [above_none hg] at he;exact .inl he.symm
 | some a=>
  by_cases hd:a.kind=1
  ·by_cases h1:no=1
   ·exact .inr h1
   ·have:=above_lt hk h hg hd h1;omega
  ·rw [above_leaf hg hd] at he;exact .inl he.symm
theorem pl_one (hk:FsOk S N) (h:Pl S):1≤S.ns.length:=by
 obtain⟨a,ha,-⟩:=h.one;exact List.length_pos_of_mem (an_mem ha)
theorem above_one (hk:FsOk S N) (h:Pl S):S.above 1=1:=by
 obtain⟨a,hg,hd⟩:=h.one;exact above_top hk h hg hd
def Fs.need (S:Fs) (k:Nat) (no:Int):Prop:=no=0∨S.rank no<k∧1≤k∨(S.above no=0∧2≤k)
def catL (l:List (List UInt8)):List UInt8:=l.reverse.flatMap (fun s=>47 :: s)
theorem catL_snoc (l:List (List UInt8)) (s:List UInt8):catL (l ++ [s])=47 :: (s ++ catL l):=by simp [catL]
theorem catL_nil (l:List (List UInt8)):catL l=[]↔l=[]:=by
 constructor
 ·intro h
  cases l with
  | nil=>rfl
  | cons x l=>simp [catL] at h
 ·rintro rfl;rfl
theorem catL_len {l:List (List UInt8)} (h:∀ x∈l,x.length≤255):(catL l).length≤256*l.length:=by
 unfold catL;rw [List.length_flatMap];have:∀ m:List (List UInt8),(∀ x∈m,x.length≤255)→(m.map (fun s=>(47 :: s).length)).sum≤256*m.length:=by
  intro m
  induction m with
  | nil=>intro _;simp
  | cons x m ih=>
   intro hx;have h1:=ih (fun y hy=>hx y (List.mem_cons_of_mem _ hy));have h2:=hx x List.mem_cons_self;simp only [List.map_cons,List.sum_cons,List.length_cons];simp only [List.length_cons] at h1;omega
 have h1:=this l.reverse (fun x hx=>h x (List.mem_reverse.1 hx));rw [List.length_reverse] at h1;exact h1
structure WhSt (S:Fs) (no0 no:Int) (l:List (List UInt8)):Prop where
 few:l.length≤S.ns.length
 small:∀ x∈l,x.length≤255
 eq:S.place_ no0=S.whereN (S.ns.length+1 - l.length) no (str (catL l))
 room:S.rank no+l.length≤S.ns.length
theorem WhSt.start (h:Pl S) (no:Int):WhSt S no no []:=⟨Nat.zero_le _,(by intro x hx;cases hx),rfl,rank_le no⟩
theorem where_zero (hk:FsOk S N) (k:Nat) (s:ByteArray):S.whereN k 0 s=none:=by
 cases k with
 | zero=>rfl
 | succ k=>
  unfold Fs.whereN;rw [if_neg (by decide),above_zero hk,ents_zero hk];rfl
theorem WhSt.top (hk:FsOk S N) (h:Pl S) {no0:Int} {l:List (List UInt8)} (hs:WhSt S no0 1 l):S.place_ no0=some (if l=[] then topB else str (catL l)):=by
 have h1:=pl_one hk h;have h3:=hs.room;have h2:1≤S.rank 1:=by
  obtain⟨a,ha,-⟩:=h.one;exact rank_one ha
 rw [hs.eq];obtain⟨k,hkk⟩:∃ j,S.ns.length+1 - l.length=j+1:=⟨S.ns.length - l.length,by omega⟩;rw [hkk];unfold Fs.whereN;rw [if_pos rfl];by_cases hl:l=[]
 ·subst hl;rfl
 ·rw [if_neg hl,if_neg];rw [str_size];intro h0;exact hl ((catL_nil l).1 (List.eq_nil_of_length_eq_zero h0))
theorem WhSt.other (hk:FsOk S N) (h:Pl S) {no0 no:Int} {l:List (List UInt8)} (hs:WhSt S no0 no l) (he:S.above no=no) (h1:no≠1):S.place_ no0=none:=by
 obtain rfl:no=0:=(above_end hk h he).resolve_right h1;rw [hs.eq,where_zero hk]
theorem WhSt.fail (hk:FsOk S N) (h:Pl S) {no0 no:Int} {l:List (List UInt8)} (hs:WhSt S no0 no l) (hu:S.above no≠no) (hn:entName (S.entsOf (S.above no)) (S.child no)=none):S.place_ no0=none:=by
 rw [hs.eq];have h1:no≠1:=by
  rintro rfl;exact hu (above_one hk h)
 cases S.ns.length+1 - l.length with
 | zero=>rfl
 | succ k=>unfold Fs.whereN;rw [if_neg h1,hn]
theorem child_eq (S:Fs) (no:Int):S.child no=match S.get no with
 | none=>no
 | some a=>if S.root a.dev=no∧1<a.dev then (match S.dev a.dev with | some v=>v.over | none=>no) else no:=rfl
theorem child_none {no:Int} (hg:S.get no=none):S.child no=no:=by rw [child_eq,hg]
theorem child_same {no:Int} {a:An} (hg:S.get no=some a) (hr:S.root a.dev≠no):S.child no=no:=by rw [child_eq,hg];exact if_neg (fun h=>hr h.1)
theorem child_over (hk:FsOk S N) (h:Pl S) {no:Int} {a:An} (hg:S.get no=some a) (hr:S.root a.dev=no) (h1:no≠1):1<a.dev∧∃ v,S.dev a.dev=some v∧S.child no=v.over:=by
 have hd:=(hk.get hg).1.dev;have hd1:1<a.dev:=by
  rcases Int.lt_or_le 1 a.dev with h2 | h2
  ·exact h2
  ·exfalso;have h3:a.dev=1:=by omega
   rw [h3,h.top] at hr;exact h1 hr.symm
 obtain⟨v,hv,-,-,-⟩:=root_of hk hd.1 hd.2;refine ⟨hd1,v,hv,?_⟩;rw [child_eq,hg];show (if _ then _ else _)=_;rw [if_pos ⟨hr,hd1⟩,hv]
theorem WhSt.more (hk:FsOk S N) (h:Pl S) {no0 no:Int} {l:List (List UInt8)} (hs:WhSt S no0 no l) (hu:S.above no≠no) {s:ByteArray} (hn:entName (S.entsOf (S.above no)) (S.child no)=some s):WhSt S no0 (S.above no) (l ++ [s.data.toList])∧l.length+1≤S.ns.length:=by
 have hab:1≤S.above no∧S.above no<no∧no≤S.last∧no≠1:=by
  rcases above_step hk h hu with h0 | h0
  ·rw [h0,ents_zero hk] at hn
   cases hn
  ·exact h0
 obtain⟨h1,h2,h3,h4⟩:=hab;have hro:=hs.room;obtain⟨al,hal⟩:=above_live hu (by omega);have hrk:=rank_lt h2 hal;have hln:l.length+1≤S.ns.length:=by omega
 have hnm:NmOk s:=by
  obtain⟨x,hx,rfl⟩:=entName_mem hn;unfold Fs.entsOf at hx
  cases hg:S.get (S.above no) with
  | none=>rw [hg] at hx;cases hx
  | some a=>
   rw [hg] at hx;exact h.names a (an_mem hg) x hx
 refine ⟨⟨by simp;omega,fun x hx=>?_,?_,by simp;omega⟩,hln⟩
 ·rcases List.mem_append.1 hx with hx | hx
  ·exact hs.small x hx
  ·simp at hx;subst hx;have:=hnm.2;have h5:s.data.toList.length=s.size:=Array.length_toList;omega
 ·rw [hs.eq,catL_snoc];obtain⟨k,hkk⟩:∃ j,S.ns.length+1 - l.length=j+1:=⟨S.ns.length - l.length,by omega⟩;rw [hkk,show S.ns.length+1 - (l ++ [s.data.toList]).length=k by simp;omega,Fs.whereN,if_neg h4,hn];show S.whereN k _ _=S.whereN k _ _;congr 1
end
end
section
open Go.RowKit
structure RowOk (S:Fs) (no:Int) (l:List En):Prop where
 down:∀ x∈l,∃ b,S.get x.no=some b∧(b.kind=1→b.up=no∧S.root b.dev≠b.no)
 once:l.Pairwise (fun x y=>x.no=y.no→∀ b,S.get x.no=some b→b.kind≠1)
structure Tr (S:Fs):Prop where
 leaf:∀ a∈S.ns,a.kind≠1→a.ents=[]
 row:∀ a∈S.ns,RowOk S a.no a.ents
 zero:∀ d,S.ds[0]? = some d→d.over=0
 rts:∀ (i:Nat) (hi:i<S.ds.length),∃ r,S.get S.ds[i].root=some r∧r.kind=1∧r.dev=(i:Int)+1
def Sub (S S':Fs):Prop:=∀ k c,S.get k=some c→∃ c',S'.get k=some c'∧c'.kind=c.kind∧c'.up=c.up∧c'.dev=c.dev∧S'.root c.dev=S.root c.dev
theorem Sub.row {S S':Fs} (h:Sub S S') {no:Int} {l:List En} (hr:RowOk S no l):RowOk S' no l:=by
 refine ⟨fun x hx=>?_,?_⟩
 ·obtain ⟨b,hb,h1⟩:=hr.down x hx;obtain⟨c,hc,e1,e2,e3,e4⟩:=h _ _ hb;refine ⟨c,hc,fun hk=>?_⟩;obtain⟨h2,h3⟩:=h1 (e1 ▸ hk);rw [e2,e3,e4,an_no hc,←an_no hb];exact⟨h2,h3⟩
 ·have hd:=hr.down;have ho:=hr.once;clear hr
  induction l with
  | nil=>exact List.Pairwise.nil
  | cons y l ih=>
   rw [List.pairwise_cons] at ho ⊢;refine ⟨fun z hz he b hb=>?_,ih (fun x hx=>hd x (List.mem_cons_of_mem _ hx)) ho.2⟩;obtain⟨c,hc,-⟩:=hd y List.mem_cons_self;obtain⟨c',hc',e1,-⟩:=h _ _ hc;rw [hb] at hc';injection hc' with hc';subst hc';rw [e1];exact ho.1 z hz he c hc
theorem RowOk.put {S:Fs} {no:Int} {l:List En} (h:RowOk S no l) (s:ByteArray) {k:Int} {b:An} (hb:S.get k=some b) (h1:b.kind=1→b.up=no∧S.root b.dev≠b.no) (h2:b.kind=1→∀ x∈l,x.no≠k):RowOk S no (entPut l s k):=by
 unfold entPut;refine ⟨fun x hx=>?_,?_⟩
 ·rcases List.mem_append.1 hx with hx | hx
  ·exact h.down x (List.mem_filter.1 hx).1
  ·rcases List.mem_cons.1 hx with rfl | hx
   ·exact ⟨b,hb,h1⟩
   ·exact h.down x (List.mem_filter.1 hx).1
 ·have hk:∀ x∈l,x.no=k→∀ c,S.get x.no=some c→c.kind≠1:=fun x hx he c hc hc1=>by
   rw [he,hb] at hc;injection hc with hc;subst hc;exact h2 hc1 x hx he
  rw [List.pairwise_append];refine ⟨h.once.sublist List.filter_sublist,?_,fun x hx y hy=>?_⟩
  ·rw [List.pairwise_cons];refine ⟨fun y hy he c hc=>?_,h.once.sublist List.filter_sublist⟩;refine hk y (List.mem_filter.1 hy).1 he.symm c ?_;rw [←he];exact hc
  ·rcases List.mem_cons.1 hy with rfl | hy
   ·intro he c hc;exact hk x (List.mem_filter.1 hx).1 he c hc
   ·intro he c hc;have hx':=(List.mem_filter.1 hx);have hy':=(List.mem_filter.1 hy);obtain⟨i,hi,rfl⟩:=List.mem_iff_getElem.1 hx'.1;obtain⟨j,hj,rfl⟩:=List.mem_iff_getElem.1 hy'.1;rcases Nat.lt_trichotomy i j with hij | hij | hij
    ·exact List.pairwise_iff_getElem.1 h.once i j hi hj hij he c hc
    ·subst hij;have e1:=hx'.2;have e2:=hy'.2;rw [ltB_asymm (by simpa using e1)] at e2
     cases e2
    ·exact List.pairwise_iff_getElem.1 h.once j i hj hi hij he.symm c (by rw [←he];exact hc)
theorem Tr.set {S:Fs} (h:Tr S) {a b:An} (hb:S.get a.no=some b) (hk:a.kind=b.kind) (hd:a.dev=b.dev) (hu:a.up=b.up) (hl:a.kind≠1→a.ents=[]) (hr:RowOk S a.no a.ents):Tr (S.set a):=by
 have hsub:Sub S (S.set a):=fun k c hc=>by
  rw [an_set hb];by_cases hka:k=a.no
  ·rw [if_pos hka];rw [hka,hb] at hc;injection hc with hc;subst hc;exact⟨a,rfl,hk,hu,hd,rfl⟩
  ·rw [if_neg hka];exact⟨c,hc,rfl,rfl,rfl,rfl⟩
 refine ⟨fun y hy=>?_,fun y hy=>hsub.row ?_,h.zero,fun i hi=>?_⟩
 ·unfold Fs.set at hy;simp only [List.mem_map] at hy;obtain⟨z,hz,rfl⟩:=hy
  split
  ·exact hl
  ·exact h.leaf z hz
 ·unfold Fs.set at hy;simp only [List.mem_map] at hy;obtain⟨z,hz,rfl⟩:=hy
  split
  ·exact hr
  ·exact h.row z hz
 ·obtain ⟨r,h1,h2,h3⟩:=h.rts i hi;obtain⟨c,hc,e1,-,e3,-⟩:=hsub _ _ h1;exact⟨c,hc,by rw [e1];exact h2,by rw [e3];exact h3⟩
theorem setDev_root {S:Fs} {d:Int} {v u:Dv} (hv:S.dev d=some v) (hr:u.root=v.root) (e:Int):(S.setDev d u).root e=S.root e:=by
 unfold Fs.dev at hv
 split at hv
 ·have hi:=(List.getElem?_eq_some_iff.1 hv).1;unfold Fs.root Fs.setDev;simp only [List.length_set,List.getElem?_set]
  split
  ·by_cases hq:(d - 1).toNat=(e - 1).toNat
   ·rw [if_pos hq,←hq,hv]
    first | exact hr | (rw [if_pos hi];exact hr)
   ·rw [if_neg hq]
  ·rfl
 ·cases hv
theorem Tr.setDev {S:Fs} (h:Tr S) {d:Int} {v u:Dv} (hv:S.dev d=some v) (hr:u.root=v.root) (ho:u.over=v.over):Tr (S.setDev d u):=by
 have hsub:Sub S (S.setDev d u):=fun k c hc=>⟨c,hc,rfl,rfl,rfl,setDev_root hv hr _⟩;have hv0:=hv;unfold Fs.dev at hv
 split at hv
 ·have hi:=(List.getElem?_eq_some_iff.1 hv).1;have hvi:=(List.getElem?_eq_some_iff.1 hv).2;refine ⟨h.leaf,fun y hy=>hsub.row (h.row y hy),fun e he=>?_,fun i hi2=>?_⟩
  ·unfold Fs.setDev at he;simp only [List.getElem?_set] at he;by_cases hq:(d - 1).toNat=0
   ·rw [if_pos hq] at he;rw [hq] at hv
    split at he
    ·injection he with he;rw [←he,ho];exact h.zero v hv
    ·rename_i hq2;exact absurd hi hq2
   ·rw [if_neg hq] at he;exact h.zero e he
  ·have hi3:i<S.ds.length:=by
    have:=hi2;unfold Fs.setDev at this;simpa using this
   obtain⟨r,h1,h2,h3⟩:=h.rts i hi3;have he:(S.setDev d u).ds[i]=if (d - 1).toNat=i then u else S.ds[i]:=
    List.getElem_set (l:=S.ds) (i:=(d - 1).toNat) (a:=u) (j:=i) (by rw [List.length_set];exact hi3)
   rw [he];by_cases hq:(d - 1).toNat=i
   ·subst hq;rw [if_pos rfl,hr,←hvi];exact⟨r,h1,h2,h3⟩
   ·rw [if_neg hq];exact⟨r,h1,h2,h3⟩
 ·cases hv
theorem sub_add {S:Fs} {N:Nat} (hk:FsOk S N) (a:An):Sub S (S.add a):=fun k c hc=>by
 refine ⟨c,?_,rfl,rfl,rfl,rfl⟩;rw [an_add hk.nums,if_neg]
 ·exact hc
 ·have:=get_low hk.nums hc;omega
theorem Tr.add {S:Fs} {N:Nat} (hk:FsOk S N) (h:Tr S) {a:An} (he:a.ents=[]):Tr (S.add a):=by
 have hsub:=sub_add hk a;refine ⟨fun y hy hyk=>?_,fun y hy=>?_,h.zero,fun i hi=>?_⟩
 ·rcases List.mem_append.1 hy with hy | hy
  ·exact h.leaf y hy hyk
  ·simp at hy;subst hy;exact he
 ·rcases List.mem_append.1 hy with hy | hy
  ·exact hsub.row (h.row y hy)
  ·simp at hy;subst hy;rw [show ({a with no:=S.last+1}:An).ents=a.ents from rfl,he];exact⟨fun x hx=>(by cases hx),List.Pairwise.nil⟩
 ·obtain ⟨r,h1,h2,h3⟩:=h.rts i hi;obtain⟨c,hc,e1,-,e3,-⟩:=hsub _ _ h1;exact⟨c,hc,by rw [e1];exact h2,by rw [e3];exact h3⟩
theorem addRoot_root (S:Fs) (k b n:Int) {e:Int} (he:e≤S.ds.length):(S.addRoot k b n).root e=S.root e:=by
 unfold Fs.root Fs.addRoot;simp only [List.length_append,List.length_singleton];by_cases h1:(1:Int)≤e
 ·rw [if_pos ⟨h1,by omega⟩,if_pos ⟨h1,he⟩,List.getElem?_append_left (by omega)]
 ·rw [if_neg (fun h=>h1 h.1),if_neg (fun h=>h1 h.1)]
theorem addRoot_get {S:Fs} (hn:Nums S) (k b n:Int):(S.addRoot k b n).get (S.last+1)=some {an0 with no:=S.last+1,dev:=S.ds.length+1,kind:=1,mode:=493,links:=1,up:=S.last+1}:=by
 have:=an_add hn {an0 with dev:=S.ds.length+1,kind:=1,mode:=493,links:=1,up:=S.last+1} (S.last+1);rw [if_pos rfl] at this;exact this
theorem Tr.addRoot {S:Fs} (hn:Nums S) (hdev:∀ a∈S.ns,a.dev≤S.ds.length) (h:Tr S) (k b n:Int) (h0:S.ds=[]→k=0):Tr (S.addRoot k b n):=by
 have hsub:Sub S (S.addRoot k b n):=fun q c hq=>by
  refine ⟨c,?_,rfl,rfl,rfl,addRoot_root S k b n (hdev c (an_mem hq))⟩;unfold Fs.get Fs.addRoot at *;simp only [List.find?_append,hq,Option.some_or]
 refine ⟨fun y hy hyk=>?_,fun y hy=>?_,fun d hd=>?_,fun i hi=>?_⟩
 ·rcases List.mem_append.1 hy with hy | hy
  ·exact h.leaf y hy hyk
  ·simp at hy;subst hy;rfl
 ·rcases List.mem_append.1 hy with hy | hy
  ·exact hsub.row (h.row y hy)
  ·simp at hy;subst hy;exact⟨fun x hx=>by simp [an0] at hx,List.Pairwise.nil⟩
 ·unfold Fs.addRoot at hd
  cases hds:S.ds with
  | nil=>
   rw [hds] at hd;simp at hd;rw [←hd];exact h0 hds
  | cons x l=>
   rw [hds] at hd;simp at hd;subst hd;exact h.zero x (by rw [hds];rfl)
 ·by_cases hi2:i<S.ds.length
  ·obtain ⟨r,h1,h2,h3⟩:=h.rts i hi2;have he:(S.addRoot k b n).ds[i]=S.ds[i]:=List.getElem_append_left hi2;rw [he];obtain⟨c,hc,e1,-,e3,-⟩:=hsub _ _ h1;exact⟨c,hc,by rw [e1];exact h2,by rw [e3];exact h3⟩
  ·have hi3:i=S.ds.length:=by
    have h4:i<(S.ds ++ [(⟨S.last+1,k,1,1,b,n⟩:Dv)]).length:=hi;rw [List.length_append,List.length_singleton] at h4;omega
   subst hi3;have he:(S.addRoot k b n).ds[S.ds.length]=⟨S.last+1,k,1,1,b,n⟩:=by
    have h5:(S.ds ++ [(⟨S.last+1,k,1,1,b,n⟩:Dv)])[S.ds.length]? = some ⟨S.last+1,k,1,1,b,n⟩:=by
     rw [List.getElem?_append_right (Nat.le_refl _)];simp
    exact (List.getElem?_eq_some_iff.1 h5).2
   rw [he];exact⟨_,addRoot_get hn k b n,rfl,rfl⟩
theorem Tr.new (b n:Int):Tr (fs0.addRoot 0 b n):=
 Tr.addRoot ⟨List.Pairwise.nil,fun x hx=>by cases hx⟩ (fun x hx=>by cases hx) ⟨fun x hx=>(by cases hx),fun x hx=>(by cases hx),fun d hd=>(by cases hd),fun i hi=>(by cases hi)⟩ 0 b n (fun _=>rfl)
theorem Tr.make {S:Fs} {N:Nat} (hk:FsOk S N) (h:Tr S) {a:An} (he:a.ents=[]):Tr (S.make a).1∧Sub S (S.make a).1∧((S.make a).2.2=0→(S.make a).2.1=S.last+1∧(S.make a).1.get (S.last+1)=some {a with no:=S.last+1}∧(S.make a).1.root a.dev=S.root a.dev):=by
 have hrefl:Sub S S:=fun k c hc=>⟨c,hc,rfl,rfl,rfl,rfl⟩;unfold Fs.make
 split
 ·exact ⟨h,hrefl,fun h=>by cases h⟩
 ·split
  ·exact ⟨h,hrefl,fun h=>by cases h⟩
  ·rename_i v hv;simp only
   split
   ·have h2:=h.setDev (u:={v with b:=v.b+blkI a.kind a.data.size,n:=v.n+1}) hv rfl rfl;have hk2:=hk.setDev (u:={v with b:=v.b+blkI a.kind a.data.size,n:=v.n+1}) hv rfl;have hrt:=setDev_root (u:={v with b:=v.b+blkI a.kind a.data.size,n:=v.n+1}) hv rfl;refine ⟨h2.add hk2 he,fun k c hc=>?_,fun _=>⟨rfl,?_,hrt _⟩⟩
    ·obtain ⟨c',h3,h4,h5,h6,-⟩:=sub_add hk2 a k c hc;exact⟨c',h3,h4,h5,h6,hrt _⟩
    ·show Fs.get (Fs.add _ a) (S.last+1)=_;rw [an_add hk2.nums];exact if_pos rfl
   ·rename_i he2;exact⟨h,hrefl,fun h=>absurd h he2⟩
theorem Tr.touch {S:Fs} (h:Tr S) (now dir:Int) (l:List En) (hl:∀ d,S.get dir=some d→d.kind=1∧RowOk S dir l):Tr (S.touch now dir l):=by
 unfold Fs.touch
 split
 ·exact h
 ·rename_i d hd;obtain⟨h1,h2⟩:=hl d hd;exact h.set (b:=d) (by show S.get d.no=_;rw [an_no hd];exact hd) rfl rfl rfl (fun hq=>absurd h1 hq) (by show RowOk S d.no l;rw [an_no hd];exact h2)
theorem Tr.come {S:Fs} {N:Nat} (hk:FsOk S N) (h:Tr S) {a:An} (c:Cr) (now dir:Int) (s:ByteArray) (he:a.ents=[]) (hu:a.kind=1→a.up=dir):Tr (S.come c now dir s a).1:=by
 unfold Fs.come
 split
 ·exact h
 ·rename_i hpl;obtain⟨d,hd,hdk,hce⟩:=place_check (by simpa using hpl);rw [hd];simp only
  split
  ·exact h
  ·obtain ⟨hdo,hdn,h1,h2⟩:=hk.get hd;obtain⟨m1,m2,m3⟩:=h.make hk (a:={a with dev:=d.dev,uid:=c.u,gid:=c.g,mtime:=now,ctime:=now,links:=1}) he
   split
   ·exact h
   ·rename_i h0;obtain⟨e1,e2,e3⟩:=m3 (by simpa using h0);refine m1.touch _ _ _ fun d2 hd2=>?_;obtain⟨d3,hd3,hk3,-⟩:=m2 _ _ hd;rw [hd2] at hd3;injection hd3 with hd3;subst hd3;refine ⟨by rw [hk3];exact hdk,?_⟩;have hrow:=m2.row (h.row d (an_mem hd));rw [an_no hd] at hrow;rw [e1];refine hrow.put s e2 (fun hq=>⟨hu hq,?_⟩) (fun _ x hx=>?_)
    ·show Fs.root _ d.dev≠S.last+1;rw [e3];show S.root d.dev≠S.last+1;obtain⟨v,-,hrt,-,hm⟩:=root_of hk hdo.dev.1 hdo.dev.2;have h4:=(hk.root v hm).2;omega
    ·obtain ⟨y,hy,-⟩:=(h.row d (an_mem hd)).down x hx;have:=get_low hk.nums hy;omega
theorem Tr.mkdir {S:Fs} {N:Nat} (hk:FsOk S N) (h:Tr S) (c:Cr) (now dir:Int) (s:ByteArray) (m:Int):Tr (S.mkdir c now dir s m).1:=by
 unfold Fs.mkdir
 split
 ·exact h
 ·exact h.come hk c now dir s rfl (fun _=>rfl)
theorem Tr.file {S:Fs} {N:Nat} (hk:FsOk S N) (h:Tr S) (c:Cr) (now dir:Int) (s:ByteArray) (m:Int) (t:ByteArray):Tr (S.file c now dir s m t).1:=by
 unfold Fs.file
 split
 ·exact h
 ·split
  ·exact h
  ·exact h.come hk c now dir s rfl (fun hq=>absurd hq (by dsimp only;decide))
theorem Tr.sym {S:Fs} {N:Nat} (hk:FsOk S N) (h:Tr S) (c:Cr) (now dir:Int) (s t:ByteArray):Tr (S.sym c now dir s t).1:=by
 unfold Fs.sym
 split
 ·exact h
 ·split
  ·exact h
  ·exact h.come hk c now dir s rfl (fun hq=>absurd hq (by dsimp only;decide))
theorem Tr.same {S:Fs} (h:Tr S) {n m:An} (hn:S.get n.no=some n) (h0:m.no=n.no) (h1:m.kind=n.kind) (h2:m.dev=n.dev) (h3:m.up=n.up) (h4:m.ents=n.ents):Tr (S.set m):=
 h.set (b:=n) (by rw [h0];exact hn) h1 h2 h3 (by rw [h1,h4];exact h.leaf n (an_mem hn)) (by rw [h0,h4];exact h.row n (an_mem hn))
theorem get_self {S:Fs} {k:Int} {n:An} (h:S.get k=some n):S.get n.no=some n:=by rw [an_no h];exact h
theorem Tr.hard {S:Fs} (h:Tr S) (c:Cr) (now no dir:Int) (s:ByteArray):Tr (S.hard c now no dir s).1:=by
 unfold Fs.hard
 split
 ·exact h
 ·rename_i hpl;obtain⟨d0,hd0,hdk,hce⟩:=place_check (by simpa using hpl)
  split
  ·rename_i d n hd hn;rw [hd] at hd0;injection hd0 with hd0;subst hd0
   split
   ·exact h
   ·rename_i hnk
    split
    ·exact h
    ·split
     ·exact h
     ·split
      ·exact h
      ·have hs:=h.same (m:={n with links:=n.links+1,ctime:=now}) (get_self hn) rfl rfl rfl rfl rfl;have hset:S.get ({n with links:=n.links+1,ctime:=now}:An).no=some n:=get_self hn;have hno:=an_no hn;refine hs.touch _ _ _ fun d2 hd2=>?_;rw [an_set hset] at hd2;have hdn:dir≠n.no:=by
        rintro rfl;rw [hset] at hd;injection hd with hd;subst hd;exact hnk hdk
       rw [if_neg hdn,hd] at hd2;injection hd2 with hd2;subst hd2;refine ⟨hdk,?_⟩;have hsub:Sub S (S.set {n with links:=n.links+1,ctime:=now}):=fun k c hc=>by
        rw [an_set hset]
        split
        ·rename_i hkn;rw [hkn,hset] at hc;injection hc with hc;subst hc;exact⟨_,rfl,rfl,rfl,rfl,rfl⟩
        ·exact ⟨c,hc,rfl,rfl,rfl,rfl⟩
       have hrow:=hsub.row (h.row d (an_mem hd));rw [an_no hd] at hrow;refine hrow.put s (b:={n with links:=n.links+1,ctime:=now}) ?_ (fun hq=>absurd hq hnk) (fun hq=>absurd hq hnk);rw [an_set hset,if_pos hno.symm]
  ·exact h
theorem Tr.chmod {S:Fs} (h:Tr S) (c:Cr) (now no m:Int):Tr (S.chmod c now no m).1:=by
 unfold Fs.chmod
 split
 ·exact h
 ·rename_i n hn
  split
  ·exact h
  ·split
   ·exact h
   ·exact h.same (get_self hn) rfl rfl rfl rfl rfl
theorem Tr.chown {S:Fs} (h:Tr S) (c:Cr) (now no u g:Int):Tr (S.chown c now no u g).1:=by
 unfold Fs.chown
 split
 ·exact h
 ·rename_i n hn
  split
  ·exact h
  ·split
   ·exact h
   ·split
    ·exact h
    ·exact h.same (get_self hn) rfl rfl rfl rfl rfl
theorem Tr.utime {S:Fs} (h:Tr S) (c:Cr) (now no t:Int):Tr (S.utime c now no t).1:=by
 unfold Fs.utime
 split
 ·exact h
 ·rename_i n hn
  split
  ·exact h
  ·split
   ·exact h
   ·exact h.same (get_self hn) rfl rfl rfl rfl rfl
theorem Tr.mount {S:Fs} {N:Nat} (hk:FsOk S N) (h:Tr S) (k b n:Int):Tr (S.mount k b n).1:=by
 unfold Fs.mount
 split
 ·exact h
 ·split
  ·exact h
  ·split
   ·exact h
   ·split
    ·exact h
    ·exact h.addRoot hk.nums (fun a ha=>(hk.all a ha).dev.2) k b n (fun h0=>by
      have:=hk.d1;rw [h0] at this
      cases this)
theorem Tr.mountF {S:Fs} {N:Nat} (hk:FsOk S N) (h:Tr S) (m:Mt):Tr (mountF S m):=by
 unfold Go.Proofs.YtbndfmkgamdgeaaGreatDoor.mountF
 split
 ·exact h
 ·split
  ·have h1:=h.mkdir hk c00 0 (S.path c00 m.path false).1.dir (S.path c00 m.path false).1.name 493;have hk1:=mkdir_ok hk c00 0 (S.path c00 m.path false).1.dir (S.path c00 m.path false).1.name 493;simp only
   split
   ·exact h1
   ·exact h1.mount hk1 _ _ _
  ·exact h.mount hk _ _ _
theorem Tr.mountsF {S:Fs} {N:Nat} (hk:FsOk S N) (h:Tr S) (l:List Mt):Tr (mountsF S l):=by
 induction l generalizing S N with
 | nil=>exact h
 | cons m l ih=>
  unfold Go.Proofs.YtbndfmkgamdgeaaGreatDoor.mountsF;by_cases hm:m.path=topB
  ·rw [if_pos hm];exact ih hk h
  ·rw [if_neg hm];exact ih (mountF_ok hk m) (h.mountF hk m)
theorem Tr.nodeF {S:Fs} {N:Nat} (hk:FsOk S N) (h:Tr S) (it:It):Tr (nodeF S it).1:=by
 unfold Go.Proofs.YtbndfmkgamdgeaaGreatDoor.nodeF;simp only
 split
 ·exact h
 ·split
  ·split <;> exact h
  ·split
   ·exact h.mkdir hk _ _ _ _ _
   ·split
    ·exact h.file hk _ _ _ _ _ _
    ·split
     ·exact h.sym hk _ _ _ _ _
     ·split
      ·split
       ·exact h.hard _ _ _ _ _
       ·exact h
      ·exact h
theorem Tr.itemF {S:Fs} {N:Nat} (hk:FsOk S N) (h:Tr S) (it:It):Tr (itemF S it).1:=by
 unfold Go.Proofs.YtbndfmkgamdgeaaGreatDoor.itemF;have h1:=h.nodeF hk it;simp only
 split
 ·exact (h1.chown _ _ _ _ _).chmod _ _ _ _
 ·exact h1
theorem Tr.itemsF {S:Fs} {N:Nat} (hk:FsOk S N) (h:Tr S) (l:List It):Tr (itemsF S l).1:=by
 induction l generalizing S N with
 | nil=>exact h
 | cons x l ih=>exact ih (itemF_ok2 hk x) (h.itemF hk x)
theorem Tr.timesF {S:Fs} (h:Tr S) (l:List (It×Int)):Tr (timesF S l):=by
 induction l generalizing S with
 | nil=>exact h
 | cons x l ih=>
  unfold Go.Proofs.YtbndfmkgamdgeaaGreatDoor.timesF;refine ih ?_
  split
  ·exact h.utime _ _ _ _
  ·exact h
theorem plant_tr (ms:List Mt) (is:List It):Tr (plantF ms is):=by
 unfold plantF;simp only;have hk:=FsOk.new (limitsF ms).1 (limitsF ms).2;exact Tr.timesF (Tr.itemsF (mountsF_ok hk ms) (Tr.mountsF hk (Tr.new _ _) ms) is) _
end
section
open Go.RowKit
theorem own_cell1 {w:World} {base sz n g cap:Nat} {e:TypeId} {xs:List Value} (h:w.ownsRow base e sz (.slice (some ⟨g,0,none⟩) n cap) n xs) (j:Nat) (hj:j<xs.length) (v:Value) :
  (w.setCell ⟨g,j,none⟩ v).ownsRow base e sz (.slice (some ⟨g,0,none⟩) n cap) n (xs.set j v):=by
 rcases h.2 with ⟨hv,-⟩|⟨g',cap',cur,hv,hb,hg,h1,h2,h3,h4⟩
 ·cases hv
 ·injection hv with e1 e2 e3;injection e1 with e1;injection e1 with e1;subst e1 e3;refine ⟨by rw [List.length_set];exact h.1,.inr ⟨g,cap,_,rfl,hb,Blk.set hg j v,h1,h2,by rw [Array.size_setIfInBounds];exact h3,?_⟩⟩;rw [Array.toList_setIfInBounds,List.take_set,h4]
section
variable {w w':World} {pw:Nat} {R:Rp} {S:Fs}
theorem flat_len' (ds:List Dv):(ds.flatMap Dv.cs).length=ds.length*6:=flat_len Dv.cs_len ds
theorem WdAt.setQ (h:WdAt w pw R S) {g cap:Nat} (hdv:R.dv=.slice (some ⟨g,0,none⟩) S.ds.length cap) {k:Nat} (hk:k<S.ds.length) (v:Dv) (hv:S.ds[k]=v) (b n:Int) :
  WdAt ((((w.setCell ⟨g,k*6+2,none⟩ (.int .i64 b)).setCell ⟨g,k*6+3,none⟩ (.int .i64 n)).setCell ⟨g,k*6+4,none⟩ (.int .i64 v.mb)).setCell ⟨g,k*6+5,none⟩ (.int .i64 v.mn)) pw R
   (S.setDev ((k:Int)+1) {v with b:=b,n:=n})∧
  Mod (fun x=>x=g) w ((((w.setCell ⟨g,k*6+2,none⟩ (.int .i64 b)).setCell ⟨g,k*6+3,none⟩ (.int .i64 n)).setCell ⟨g,k*6+4,none⟩ (.int .i64 v.mb)).setCell ⟨g,k*6+5,none⟩ (.int .i64 v.mn)):=by
 have hm:Mod (fun x=>x=g) w ((((w.setCell ⟨g,k*6+2,none⟩ (.int .i64 b)).setCell ⟨g,k*6+3,none⟩ (.int .i64 n)).setCell ⟨g,k*6+4,none⟩ (.int .i64 v.mb)).setCell ⟨g,k*6+5,none⟩ (.int .i64 v.mn)):=
  ((((Mod.refl (fun x=>x=g) w).setCell (a:=⟨g,k*6+2,none⟩) (.inl rfl) _).setCell (a:=⟨g,k*6+3,none⟩) (.inl rfl) _).setCell (a:=⟨g,k*6+4,none⟩) (.inl rfl) _).setCell (a:=⟨g,k*6+5,none⟩) (.inl rfl) _
 refine ⟨?_,hm⟩;obtain⟨g',cap',hdv',-,-,-,-,-,cur,hcur⟩:=h.devF (by omega);have e:=hdv.symm.trans hdv';injection e with e;injection e with e;injection e with e;subst e;have hne:∀ (x:Nat) (vs:Array Value) (T:TypeId),Blk w x vs T→T≠217→x≠g:=by
  rintro x vs T hx hT rfl;unfold Blk at hx hcur;rw [hcur] at hx;injection hx with hx;injection hx with _ hx;exact hT hx.symm
 have h1:=hne _ _ _ h.blk (by decide);have h2:=hne _ _ _ h.tab.blk (by decide);have h3:R.pm≠g:=by
  rintro e;have hm:=h.tab.map;unfold MapB at hm;rw [e] at hm;unfold Blk at hcur;rw [hcur] at hm
  cases hm
 have hl:(S.setDev ((k:Int)+1) {v with b:=b,n:=n}).ds=S.ds.set k {v with b:=b,n:=n}:=by
  unfold Fs.setDev;rw [show ((k:Int)+1 - 1).toNat=k by omega]
 refine ⟨h.blk.mod hm h1,⟨h.tab.blk.mod hm h2,(hm.block _ h.tab.map.lt h3).trans h.tab.map,h.tab.once,h.tab.low⟩,?_,h.ns,fun x hx=>(h.ents x hx).turn (fun bk cr hc=>hm.block bk (Array.getElem?_eq_some_iff.1 hc).1 (hne bk cr _ hc (by decide))) hm.size⟩;rw [hl,List.length_set];have h0:=h.devs;rw [hdv] at h0 ⊢;have hkl:k*6+5<(S.ds.flatMap Dv.cs).length:=by rw [flat_len'];omega
 have p1:=own_cell1 h0 (k*6+2) (by omega) (.int .i64 b);have p2:=own_cell1 p1 (k*6+3) (by rw [List.length_set];omega) (.int .i64 n);have p3:=own_cell1 p2 (k*6+4) (by rw [List.length_set,List.length_set];omega) (.int .i64 v.mb);have p4:=own_cell1 p3 (k*6+5) (by rw [List.length_set,List.length_set,List.length_set];omega) (.int .i64 v.mn);have hs:=setAll_flat Dv.cs_len ({v with b:=b,n:=n}:Dv) S.ds k hk;rw [←hs];have c0:(S.ds.flatMap Dv.cs)[k*6]? = some (.int .i64 v.root):=by
  have:=flat_get Dv.cs_len S.ds k 0 hk (by omega);rw [Nat.add_zero] at this;rw [this,hv];rfl
 have c1:(S.ds.flatMap Dv.cs)[k*6+1]? = some (.int .i64 v.over):=by
  rw [flat_get Dv.cs_len S.ds k 1 hk (by omega),hv];rfl
 have e0:(S.ds.flatMap Dv.cs).set (k*6) (.int .i64 v.root)=S.ds.flatMap Dv.cs:=by
  have hlt:k*6<(S.ds.flatMap Dv.cs).length:=by omega
  rw [List.getElem?_eq_getElem hlt] at c0;injection c0 with c0;rw [←c0,List.set_getElem_self]
 have e1:(S.ds.flatMap Dv.cs).set (k*6+1) (.int .i64 v.over)=S.ds.flatMap Dv.cs:=by
  have hlt:k*6+1<(S.ds.flatMap Dv.cs).length:=by omega
  rw [List.getElem?_eq_getElem hlt] at c1;injection c1 with c1;rw [←c1,List.set_getElem_self]
 show World.ownsRow _ 0 217 6 _ _ ((((((((S.ds.flatMap Dv.cs).set (k*6) (.int .i64 v.root)).set (k*6+1) (.int .i64 v.over)).set (k*6+2) (.int .i64 b)).set (k*6+3) (.int .i64 n)).set (k*6+4) (.int .i64 v.mb)).set (k*6+5) (.int .i64 v.mn)));rw [e0,e1];exact p4
theorem WdAt.addN (h:WdAt w pw R S) (a:An) {ea:Option Addr} {el ec:Nat} (he:EntsAt w ea el ec a.ents) (hl0:0≤S.last) (hl1:S.last≤1000000) :
  Calls Tryz.prog 191 #[.pointer (some ⟨R.pt,0,none⟩),a.v ea el ec] w fun e w'=>e=.returned (.int .i64 (S.last+1))∧∃ R',WdAt w' pw R' (S.add a)∧Stp (R.F pw) (R'.F pw) w w'∧R'.pt=R.pt∧R'.dv=R.dv:=by
 refine (add_any (a.nd ea el ec) w R.pt R.pm S.last _ R.clk h.tab hl0 hl1).mono ?_;rintro e w' ⟨rfl,hT,hM⟩;have hM':Mod (R.F pw) w w':=hM.mono (fun k hk=>hk.elim (fun e=>.inr (.inl e)) (fun e=>.inr (.inr (.inl e))));have hst:Stp (R.F pw) (R.F pw) w w':=Stp.of_mod hM';have hnw:pw≠R.pt:=by
  intro e;have h1:=h.blk;have h2:=h.tab.blk;rw [e] at h1;unfold Blk at h1 h2;rw [h1] at h2;injection h2 with h2;injection h2 with _ h2;revert h2;decide
 have hnm:pw≠R.pm:=by
  intro e;have h1:=h.blk;have h2:=h.tab.map;rw [e] at h1;unfold Blk at h1;unfold MapB at h2;rw [h1] at h2
  cases h2
 refine ⟨rfl,⟨R.pt,R.pm,R.dv,R.G ++ [⟨{a with no:=S.last+1},ea,el,ec,R.clk⟩],R.clk+1⟩,⟨h.blk.mod hM (fun e=>e.elim hnw hnm),?_,?_,?_,?_⟩,⟨hM',fun k hk=>.inl hk⟩,rfl,rfl⟩
 ·show Tab w' R.pt R.pm (S.last+1) ((R.G ++ [_]).map Gn.e) (R.clk+1);rw [List.map_append];exact hT
 ·refine ⟨h.devs.1,h.devs.2.imp id fun ⟨g,cap,cur,h1,h2,hg,h3⟩=>⟨g,cap,cur,h1,h2,(hM.block g (Array.getElem?_eq_some_iff.1 hg).1 ?_).trans hg,h3⟩⟩;rintro (e | e)
  ·subst e;have h2:=h.tab.blk;unfold Blk at h2;rw [hg] at h2;injection h2 with h2;injection h2 with _ h2;revert h2;decide
  ·subst e;have h2:=h.tab.map;unfold MapB at h2;rw [hg] at h2
   cases h2
 ·show S.ns ++ [_]=(R.G ++ [_]).map (fun g:Gn=>g.a);rw [List.map_append,←h.ns];rfl
 ·intro g hg;rcases List.mem_append.1 hg with hg | hg
  ·exact (h.ents g hg).wd h hst
  ·simp only [List.mem_cons,List.not_mem_nil,or_false] at hg;subst hg;exact he.wd h hst
end
end
section
open Go.RowKit Go.Shelf
attribute [local go_sem] Oper.semAt_some
theorem keeps_mod1 {S:Nat→Prop} {w W:World} (h:Mod S w W) (hS:∀ k,S k→∃ cur T fz,w.heap[k]? = some (.cells cur T fz)):KeepsOthers w W:=
 ⟨h.size,fun k o hk ho=>(h.block k (Array.getElem?_eq_some_iff.1 hk).1 (fun hs=>by obtain ⟨cur,T,fz,hc⟩:=hS k hs;rw [hc] at hk;injection hk with hk;subst hk;cases ho)).trans hk⟩
theorem OS.nil (w:World) (base:Nat):OS w base (.slice none 0 0) []:=⟨rfl,.inl ⟨rfl,rfl⟩⟩
theorem OS.turn {w w':World} {base:Nat} {v:Value} {ls:List (List UInt8)} (h:OS w base v ls) (ht:∀ k cur,base≤k→w.heap[k]? = some (.cells cur 9 (0,0))→w'.heap[k]? = some (.cells cur 9 (0,0))):OS w' base v ls:=
 ⟨h.1,h.2.imp id fun ⟨g,cap,cur,hv,hb,hg,rest⟩=>⟨g,cap,cur,hv,hb,ht _ _ hb hg,rest⟩⟩
theorem OS.low {w:World} {base base':Nat} {v:Value} {ls:List (List UInt8)} (h:OS w base v ls) (hb:base'≤base):OS w base' v ls:=
 ⟨h.1,h.2.imp id fun ⟨g,cap,cur,hv,hg,rest⟩=>⟨g,cap,cur,hv,Nat.le_trans hb hg,rest⟩⟩
theorem OS.appK {w:World} {base:Nat} {v:Value} {ls:List (List UInt8)} (h:OS w base v ls) (l:List UInt8) (hl:ls.length≤1000000) (hb:base≤w.heap.size) :
  ∃ g cap W,(Builtin.append_ #[201,201] 201 #[v,.slice (some ⟨w.heap.size,0,none⟩) 1 1]).run Tryz.prog (w.alloc (.cells #[.string (str l)] 9))=.ok (.slice (some ⟨g,0,none⟩) (ls.length+1) cap) W∧
   OS W base (.slice (some ⟨g,0,none⟩) (ls.length+1) cap) (ls ++ [l])∧Below base w W∧KeepsOthers w W∧(v.ownBlock=some g∨w.heap.size≤g):=by
 obtain⟨i0,hi,hz0,hz1,hz2⟩:=info_parts str_info;have ho:=World.ownsRow.alloc h (.cells #[.string (str l)] 9);obtain⟨g,cap,W,h1,h2,h3,h4⟩:=step_app 201 Tryz.underlying201 hi hz0 hz1 hz2 rfl (by omega) ho ⟨w.heap.size,0,none⟩ 1 1 [.string (str l)] rfl (World.news_of_block (Blk.new w #[.string (str l)] 9)) (by intro u hu;simp at hu;subst hu;rfl) (by omega) (by unfold maxLen;omega) (by omega) (by simp;omega);refine ⟨g,cap,W,h1,?_,?_,(KeepsOthers.alloc _ _).trans (keeps_mod1 h3 (fun k hk=>by obtain ⟨-,cur,hc⟩:=own_obj1 ho hk;exact ⟨_,_,_,hc⟩)),h4.imp id (fun h=>by rw [h];simp)⟩
 ·unfold OS;rw [List.length_append,List.length_singleton,List.flatMap_append];exact h2
 ·refine (((Below.refl base w).alloc hb _)).trans (h3.below (fun k hk=>(h.lt k hk).1) (by simp;omega))
theorem wpListIn_app_run1 {F:Fence} {n:Nat} {P:Program} {ops:Array Oper} {rest:List Oper} {o:Oper} {a:Act} {w W:World} {Q:Exit→Act→World→Prop} {s x:Operand} {t:TypeId} {v y r:Value}
  (hgd:o.guard=none) (ho:o.op=.call {callee:=.builtin .append,args:=#[s,x],argTypes:=#[t,t]}) (hs:a.eval s=v) (hx:a.eval x=y)
  (hrun:(Builtin.append_ #[t,t] o.type #[v,y]).run P w=.ok r W) (h:wpListIn F n P ops Q rest (a.put o.dst r) W):wpListIn F n P ops Q (o :: rest) a w:=
 wpListIn_plain hgd fun K hK=>by
  unfold Oper.wpIn;refine ⟨by simp [Oper.about,ho,resolve,Target.leads,Sem.run_pure],?_⟩;rw [Oper.semAt_plain F _ _ (by rw [ho];intro c hc;cases hc)];simp [execOp,ho,resolve,invoke,builtin,hs,hx,hrun,Result.andThen];exact hK _ _ h
structure CI (T:Nat→Prop) (w:World) (B base:Nat) (pre:List (List UInt8)) (W:World):Prop where
 box:∃ v,Blk W B #[v] 201∧OS W base v pre
 mod:Mod T w W
theorem mod_turn {T:Nat→Prop} {N:Nat} {w W W':World} (h:Mod T w W) (ht:Turn T N notCells W W') (hN:w.heap.size≤N):Mod T w W':=by
 refine ⟨ht.os.trans h.os,ht.tape.trans h.tape,ht.output.trans h.output,Nat.le_trans h.size ht.size,fun k hk hs=>?_⟩;obtain⟨o,ho⟩:∃ o,w.heap[k]? = some o:=⟨w.heap[k]'(by omega),Array.getElem?_eq_getElem _⟩;rw [ht.block k o ((h.block k hk hs).trans ho) hs (fun h=>by omega),ho]
theorem appseq_any {g:Nat} {lb:Array Value} (eg:∀ args w,(callFunc g args).run Tryz.prog w=.ok (.enter g args) w) {T:Nat→Prop} {S Sp:List (List UInt8)→Prop} {V:List (List UInt8)→List UInt8→Prop} (w:World)
  (hseq:SeqT T Fence.wide 4 Tryz.prog g lb (fun x:List UInt8=>#[.string (str x)]) S Sp V w) (hT:∀ k,T k→k<w.heap.size) (hV:∀ pre x,V pre x→pre.length≤1000000) :
  Calls Tryz.prog 238 #[.slice none 0 0,.func (.func g) #[] lb] w fun e w'=>(∃ v ss,e=.returned v∧S ss∧OS w' w.heap.size v ss)∧Mod T w w':=by
 refine (callsIn_wide (n:=5)).1 ?_;refine callsIn_of_wp_marks Tryz.func238 rfl trivial ?_ rfl;simp only [Tryz.ntmps238,List.size_toArray,List.length_cons,List.length_nil,Nat.reduceAdd,Nat.reduceSub,Array.replicate_succ,Array.replicate_zero,List.push_toArray,List.append_toArray,List.nil_append,List.cons_append];have q0:=Blk.new w #[.slice none 0 0] 201;have hB0:=balloc (Below.refl w.heap.size w) (.cells #[.slice none 0 0] 201);have hz:(w.alloc (.cells #[.slice none 0 0] 201)).heap.size=w.heap.size+1:=by simp
 have HSq:=Lib.hid hseq;clear hseq;gi_wp2;generalize w.alloc (.cells #[.slice none 0 0] 201)=W1 at q0 hB0 hz ⊢;refine' wpIn_rangeT (T:=T) rfl (by omega) (gf:=g) (lb:=lb) rfl trivial eg HSq.out (fun k hk=>by have:=hT k hk;omega) (KT.of_below hB0 hT) (fun _=>rfl)
  (fun pre W=>CI T w w.heap.size W1.heap.size pre W)
  (fun _ _ _=>False)
  (fun pre A B h ht=>?own) (fun c pre A B h ht=>h) ⟨⟨_,q0,OS.nil _ _⟩,Mod.of_below hB0⟩ _ ?assign ?body ?done (fun D c pre W _ _ h _=>h.elim)
 case own=>
  obtain⟨⟨v,h1,h2⟩,h3⟩:=h;exact⟨⟨v,ht.block _ _ h1 (fun e=>by have:=hT _ e;omega) (fun _=>rfl),h2.turn (fun k cur hk hc=>ht.block _ _ hc (fun e=>by have:=hT _ e;omega) (fun _=>rfl))⟩,mod_turn h3 ht (by omega)⟩
 case assign=>
  intro L x W K hK;gi_wp2;exact hK
 case body=>
  rintro L pre x W hL hLW ⟨⟨v,b1,hO⟩,hM⟩ hv;obtain⟨a,c,rfl,-,-,-⟩:=own_form hO;obtain⟨g2,cap2,W2,hrun,hO2,hB2,hKO,hg2⟩:=hO.appK x (hV _ _ hv) (show W1.heap.size≤W.heap.size by omega);have hlp:=hO.1;have HR:=Lib.hid hrun;have k1:=b1.keepB hB2 (show w.heap.size<W1.heap.size by omega);obtain⟨c1,f1,z1⟩:=b1.facts;obtain⟨d1,e1,y1⟩:=k1.facts;have K1:=Lib.hid k1;have HX:=Lib.hid (And.intro hO2 (And.intro hB2 (And.intro hKO (And.intro hM hg2))));clear hrun hO2 hB2 k1 b1 hKO hM hO hg2 hlp
  gi_wp2_with (gi_at_builtin;refine wpListIn_app_run1 rfl rfl rfl rfl HR.out ?_)
  obtain⟨hO2,hB2,hKO,hM,hg2⟩:=HX.out;have hm:=(Mod.refl (fun k=>k=w.heap.size) W2).setCell (a:=⟨w.heap.size,0,none⟩) (.inl rfl) (.slice (some ⟨g2,0,none⟩) (pre.length+1) cap2);refine ⟨(hKO.trans (KeepsOthers.setCell _ _ _)).from _,⟨Nat.le_trans hB2.size hm.size,fun k hk=>?_⟩,⟨⟨_,K1.out.set 0 _,hO2.turn (fun k cur hk hc=>(hm.block k (Array.getElem?_eq_some_iff.1 hc).1 (by omega)).trans hc)⟩,?_⟩⟩
  ·have:=hT k hk;rw [hm.block k (by have:=hB2.size;omega) (by omega)];exact hB2.block k (by omega)
  ·refine ⟨hm.os.trans (hB2.os.trans hM.os),hm.tape.trans (hB2.tape.trans hM.tape),hm.output.trans (hB2.output.trans hM.output),Nat.le_trans hM.size (Nat.le_trans hB2.size hm.size),fun k hk hs=>?_⟩;rw [hm.block k (by have:=hB2.size;have:=hM.size;omega) (by omega),hB2.block k (by omega)];exact hM.block k hk hs
 case done=>
  rintro D xs W hD hS ⟨⟨v,b1,hO⟩,hM⟩ hK;obtain⟨a,c,rfl,-,-,-⟩:=own_form hO;obtain⟨c1,f1,z1⟩:=b1.facts;have HO:=Lib.hid (And.intro hO hM);clear hO hM b1;gi_wp2;show LeavesInM Fence.wide 5 Tryz.prog Tryz.f238 _ _ _ _ W;refine ⟨by simp,.inl ⟨_,_,rfl,run_takeDeferred hK,?_⟩⟩;refine ⟨.slice a xs.length c,by simp [results,Tryz.results238,go_sem],⟨_,_,rfl,hS,(HO.out.1.low (show w.heap.size≤W1.heap.size by omega)).turn (fun k cur hk hc=>(World.putObj_heap_other (fun e=>by subst e;rw [hK] at hc;cases hc)).trans hc)⟩,?_⟩;have hm:=HO.out.2;exact⟨hm.os,hm.tape,hm.output,Nat.le_trans hm.size (by simp),fun k hk hs=>(World.putObj_heap_other (fun e=>by omega)).trans (hm.block k hk hs)⟩
theorem collect_any {g:Nat} {lb:Array Value} (eg:∀ args w,(callFunc g args).run Tryz.prog w=.ok (.enter g args) w) {T:Nat→Prop} {S Sp:List (List UInt8)→Prop} {V:List (List UInt8)→List UInt8→Prop} (w:World)
  (hseq:SeqT T Fence.wide 4 Tryz.prog g lb (fun x:List UInt8=>#[.string (str x)]) S Sp V w) (hT:∀ k,T k→k<w.heap.size) (hV:∀ pre x,V pre x→pre.length≤1000000) :
  Calls Tryz.prog 198 #[.func (.func g) #[] lb] w fun e w'=>(∃ v ss,e=.returned v∧S ss∧OS w' w.heap.size v ss)∧Mod T w w':=by
 have HA:=Lib.hid (appseq_any eg w hseq hT hV);clear hseq hT hV eg;go_enter Tryz.func198,Tryz.ntmps198;go_wp2_with fail;refine HA.out.mono ?_;rintro e w1 ⟨⟨v,ss,rfl,hS,hO⟩,hM⟩;have HX:=Lib.hid (And.intro hS (And.intro hO hM));clear hS hO hM;go_wp2_with fail;go_ret;exact⟨⟨v,ss,rfl,HX.out.1,HX.out.2.1⟩,HX.out.2.2⟩
theorem nparts_any (s:ByteArray) (w:World) :
  Calls Tryz.prog 55 #[.string s] w fun e w'=>e=.returned (.func (.func 104) #[] #[.pointer (some ⟨w.heap.size,0,none⟩)])∧w'=w.alloc (.cells #[.string s] 9):=by
 go_enter Tryz.func55,Tryz.ntmps55;go_wp2_with fail;go_ret;exact⟨rfl,rfl⟩
theorem pcollect_any (s:ByteArray) (hs:s.size≤100000) (w:World) :
  Calls Tryz.prog 198 #[.func (.func 104) #[] #[.pointer (some ⟨w.heap.size,0,none⟩)]] (w.alloc (.cells #[.string s] 9)) fun e w'=>(∃ v,e=.returned v∧OS w' w.heap.size v (partsL s.data.toList))∧Below w.heap.size w w':=by
 have hz:(w.alloc (.cells #[.string s] 9)).heap.size=w.heap.size+1:=by simp
 refine (collect_any (enters_of Tryz.func104 (by kernel_rfl) rfl) (w.alloc (.cells #[.string s] 9)) (parts_stops 4 (by omega) w.heap.size s hs _ (Blk.new w #[.string s] 9)) (fun k hk=>by omega) (fun pre x h=>?_)).mono ?_
 ·have h1:=h.length_le;have h2:=parts_len s.data.toList;have h3:s.data.toList.length=s.size:=Array.length_toList;rw [List.length_append,List.length_singleton] at h1;omega
 ·rintro e w1 ⟨⟨v,ss,rfl,rfl,hO⟩,hM⟩;exact⟨⟨v,rfl,hO.low (by omega)⟩,(balloc (Below.refl w.heap.size w) _).trans (hM.below (fun k hk=>by omega) (by omega))⟩
end
end Go.Proofs.YtbndfmkgamdgeaaGreatDoor
