import Derived.Test.YtihdbncoijhihaaGreatCL11
import Derived.Test.YtihdbncoijhihaaGreatCL5
set_option linter.unusedVariables false
set_option linter.unusedSimpArgs false
set_option maxRecDepth 100000
set_option maxHeartbeats 16000000
namespace Go.Proofs.YtihdbncoijhihaaGreat
section
open Go.RowKit
def NmOk (s:ByteArray):Prop:=s≠ByteArray.empty∧s.size≤255
structure Pl (S:Fs):Prop where
 len:(S.ns.length:Int)=S.last
 names:∀ a∈S.ns,∀ x∈a.ents,NmOk x.name
 up:∀ a∈S.ns,a.kind=1→(S.root a.dev=a.no∧a.up=a.no)∨(S.root a.dev≠a.no∧1≤a.up∧a.up<a.no)
 top:S.root 1=1
 one:∃ a,S.get 1=some a∧a.kind=1
 over:∀ (i:Nat) (hi:i<S.ds.length),1≤i→∃ b,S.get S.ds[i].over=some b∧b.kind=1∧S.ds[i].over<S.ds[i].root
theorem above_lt {S:Fs} {N:Nat} (hk:FsOk S N) (h:Pl S) {no:Int} {a:An} (hg:S.get no=some a) (hd:a.kind=1) (h1:no≠1):1≤S.above no∧S.above no<no:=by
 obtain⟨ho,hn,hl,-⟩:=hk.get hg;have hup:=h.up a (an_mem hg) hd;unfold Fs.above;rw [hg];simp only;rw [if_neg (by simpa using hd)];by_cases hr:S.root a.dev=no∧1<a.dev
 ·rw [if_pos hr];obtain⟨v,hv,hvg⟩:=dev_of ho.dev.1 ho.dev.2;obtain⟨v2,hv2,hrt,-,-⟩:=root_of hk ho.dev.1 ho.dev.2;rw [hv] at hv2;injection hv2 with hv2;subst hv2;have hi:(a.dev - 1).toNat<S.ds.length:=(List.getElem?_eq_some_iff.1 hvg).1;obtain⟨b,hb,hbk,hlt⟩:=h.over _ hi (by omega);have hvi:S.ds[(a.dev - 1).toNat]=v:=(List.getElem?_eq_some_iff.1 hvg).2;rw [hvi] at hb hlt;rw [hv];simp only;rw [hb];simp only;have hbn:=an_no hb;have h3:=(hk.get hb).2.2.1;rcases h.up b (an_mem hb) hbk with ⟨-,h2⟩|⟨-,h2,h4⟩
  ·have:=hr.1;omega
  ·have:=hr.1;omega
 ·rw [if_neg hr];rcases hup with ⟨h2,h3⟩|⟨-,h2,h3⟩
  ·exfalso;have h4:a.dev=1:=by
    have:=ho.dev.1;by_cases h5:1<a.dev
    ·exact absurd ⟨h2.trans hn,h5⟩ hr
    ·omega
   rw [h4,h.top] at h2;omega
  ·omega
theorem above_none {S:Fs} {no:Int} (hg:S.get no=none):S.above no=0:=by unfold Fs.above;rw [hg]
theorem above_leaf {S:Fs} {no:Int} {a:An} (hg:S.get no=some a) (hd:a.kind≠1):S.above no=0:=by
 unfold Fs.above;rw [hg];simp only;rw [if_pos hd]
theorem above_top {S:Fs} {N:Nat} (hk:FsOk S N) (h:Pl S) {a:An} (hg:S.get 1=some a) (hd:a.kind=1):S.above 1=1:=by
 obtain⟨ho,hn,-,-⟩:=hk.get hg;unfold Fs.above;rw [hg];simp only;rw [if_neg (by simpa using hd)];have hno:¬ (S.root a.dev=1∧1<a.dev):=by
  rintro ⟨h1,h2⟩;obtain⟨v,hv,hvg⟩:=dev_of ho.dev.1 ho.dev.2;obtain⟨v2,hv2,hrt,-,-⟩:=root_of hk ho.dev.1 ho.dev.2;rw [hv] at hv2;injection hv2 with hv2;subst hv2;have hi:(a.dev - 1).toNat<S.ds.length:=(List.getElem?_eq_some_iff.1 hvg).1;obtain⟨b,hb,-,hlt⟩:=h.over _ hi (by omega);rw [show S.ds[(a.dev - 1).toNat]=v from (List.getElem?_eq_some_iff.1 hvg).2] at hb hlt;have:=(hk.get hb).2.2.1;omega
 rw [if_neg hno];rcases h.up a (an_mem hg) hd with ⟨-,h2⟩|⟨-,h2,h3⟩
 ·rw [h2,hn]
 ·omega
theorem Pl.set {S:Fs} (h:Pl S) {a b:An} (hb:S.get a.no=some b) (hk:a.kind=b.kind) (hd:a.dev=b.dev) (hu:a.up=b.up) (hn:∀ x∈a.ents,NmOk x.name):Pl (S.set a):=by
 refine ⟨?_,fun y hy=>?_,fun y hy hyk=>?_,h.top,?_,fun i hi h1=>?_⟩
 ·show ((S.ns.map _).length:Int)=S.last;rw [List.length_map];exact h.len
 ·unfold Fs.set at hy;simp only [List.mem_map] at hy;obtain⟨z,hz,rfl⟩:=hy
  split
  ·exact hn
  ·exact h.names z hz
 ·unfold Fs.set at hy;simp only [List.mem_map] at hy;obtain⟨z,hz,rfl⟩:=hy;show (S.root _=_∧_)∨(S.root _≠_∧_)
  split at hyk
  ·rename_i he;rw [if_pos he];have hbn:=an_no hb;have:=h.up b (an_mem hb) (by rw [←hk];exact hyk);rw [hd,hu,←hbn];exact this
  ·rename_i he;rw [if_neg he];exact h.up z hz hyk
 ·obtain ⟨c,hc,h2⟩:=h.one;refine ⟨if (1:Int)=a.no then a else c,?_,?_⟩
  ·rw [an_set hb]
   split
   ·rfl
   ·exact hc
  ·split
   ·rename_i he;rw [he,hb] at hc;injection hc with hc;rw [hk,hc];exact h2
   ·exact h2
 ·obtain ⟨c,hc,h2,h3⟩:=h.over i hi h1;refine ⟨if S.ds[i].over=a.no then a else c,?_,?_,h3⟩
  ·show (S.set a).get S.ds[i].over=_;rw [an_set hb]
   split
   ·rfl
   ·exact hc
  ·split
   ·rename_i he;rw [he,hb] at hc;injection hc with hc;rw [hk,hc];exact h2
   ·exact h2
theorem Pl.setDev {S:Fs} (h:Pl S) {d:Int} {v u:Dv} (hv:S.dev d=some v) (hr:u.root=v.root) (ho:u.over=v.over):Pl (S.setDev d u):=by
 unfold Fs.dev at hv
 split at hv
 ·rename_i hd;have hi:=(List.getElem?_eq_some_iff.1 hv).1;have hvi:=(List.getElem?_eq_some_iff.1 hv).2;have hroot:∀ e,(S.setDev d u).root e=S.root e:=fun e=>by
   unfold Fs.root Fs.setDev;simp only [List.length_set,List.getElem?_set]
   split
   ·rename_i he;by_cases hq:(d - 1).toNat=(e - 1).toNat
    ·rw [if_pos hq,←hq,hv]
     first | exact hr | (rw [if_pos hi];exact hr)
    ·rw [if_neg hq]
   ·rfl
  refine ⟨h.len,h.names,fun y hy hk=>by rw [hroot];exact h.up y hy hk,by rw [hroot];exact h.top,h.one,fun i hi2 h1=>?_⟩;have hi3:i<S.ds.length:=by
   have:=hi2;unfold Fs.setDev at this;simpa using this
  obtain⟨b,hb,h2,h3⟩:=h.over i hi3 h1;have he:(S.setDev d u).ds[i]=if (d - 1).toNat=i then u else S.ds[i]:=by
   exact List.getElem_set (l:=S.ds) (i:=(d - 1).toNat) (a:=u) (j:=i) (by rw [List.length_set];exact hi3)
  rw [he];by_cases hq:(d - 1).toNat=i
  ·subst hq;rw [if_pos rfl,ho,hr,←hvi];exact⟨b,hb,h2,h3⟩
  ·rw [if_neg hq];exact⟨b,hb,h2,h3⟩
 ·cases hv
theorem get_low {S:Fs} (h:Nums S) {k:Int} {b:An} (hb:S.get k=some b):k≤S.last:=by
 have h1:=an_no hb;have h2:=h.low b (an_mem hb);omega
theorem Pl.add {S:Fs} {N:Nat} (hk:FsOk S N) (h:Pl S) {a:An} (he:a.ents=[]) (hdv:1≤a.dev∧a.dev≤S.ds.length) (hu:a.kind=1→1≤a.up∧a.up≤S.last):Pl (S.add a):=by
 refine ⟨?_,fun y hy=>?_,fun y hy hyk=>?_,h.top,?_,fun i hi h1=>?_⟩
 ·show ((S.ns ++ [_]).length:Int)=S.last+1;rw [List.length_append,List.length_singleton];have:=h.len;omega
 ·rcases List.mem_append.1 hy with hy | hy
  ·exact h.names y hy
  ·simp at hy;subst hy;intro x hx;rw [show ({a with no:=S.last+1}:An).ents=a.ents from rfl,he] at hx
   cases hx
 ·show (S.root _=_∧_)∨(S.root _≠_∧_);rcases List.mem_append.1 hy with hy | hy
  ·exact h.up y hy hyk
  ·simp at hy;subst hy;right;obtain⟨v,-,hrt,-,hm⟩:=root_of hk hdv.1 hdv.2;have h2:=(hk.root v hm).2;have h3:=hu hyk;refine ⟨?_,h3.1,?_⟩
   ·show S.root a.dev≠S.last+1;omega
   ·show a.up<S.last+1;omega
 ·obtain ⟨c,hc,h2⟩:=h.one;refine ⟨c,?_,h2⟩;rw [an_add hk.nums,if_neg]
  ·exact hc
  ·have:=get_low hk.nums hc;omega
 ·obtain ⟨c,hc,h2,h3⟩:=h.over i hi h1;refine ⟨c,?_,h2,h3⟩;show (S.add a).get S.ds[i].over=some c;rw [an_add hk.nums,if_neg]
  ·exact hc
  ·have:=get_low hk.nums hc;omega
theorem Pl.addRoot {S:Fs} {N:Nat} (hk:FsOk S N) (h:Pl S) {k:Int} {a:An} (hg:S.get k=some a) (hd:a.kind=1) (b n:Int):Pl (S.addRoot k b n):=by
 have hroot:∀ e:Int,e≤S.ds.length→(S.addRoot k b n).root e=S.root e:=fun e he=>by
  unfold Fs.root Fs.addRoot;simp only [List.length_append,List.length_singleton];by_cases h1:(1:Int)≤e
  ·rw [if_pos ⟨h1,by omega⟩,if_pos ⟨h1,he⟩,List.getElem?_append_left (by omega)]
  ·rw [if_neg (fun h=>h1 h.1),if_neg (fun h=>h1 h.1)]
 have hrl:(S.addRoot k b n).root (S.ds.length+1)=S.last+1:=by
  unfold Fs.root Fs.addRoot;simp only [List.length_append,List.length_singleton];rw [if_pos ⟨by omega,by omega⟩,List.getElem?_append_right (by omega)];rw [show ((S.ds.length:Int)+1 - 1).toNat - S.ds.length=0 by omega];rfl
 have hget:∀ q c,S.get q=some c→(S.addRoot k b n).get q=some c:=fun q c hq=>by
  unfold Fs.get Fs.addRoot at *;simp only [List.find?_append,hq,Option.some_or]
 have hl0:=hk.l0;have hgl:=get_low hk.nums hg;refine ⟨?_,fun y hy=>?_,fun y hy hyk=>?_,?_,?_,fun i hi h1=>?_⟩
 ·show ((S.ns ++ [_]).length:Int)=S.last+1;rw [List.length_append,List.length_singleton];have:=h.len;omega
 ·rcases List.mem_append.1 hy with hy | hy
  ·exact h.names y hy
  ·simp at hy;subst hy;intro x hx;simp [an0] at hx
 ·rcases List.mem_append.1 hy with hy | hy
  ·rw [hroot _ (hk.all y hy).dev.2];exact h.up y hy hyk
  ·simp at hy;subst hy;left;exact⟨hrl,rfl⟩
 ·rw [hroot _ (by have:=hk.d1;omega)];exact h.top
 ·obtain ⟨c,hc,h2⟩:=h.one;exact⟨c,hget _ _ hc,h2⟩
 ·by_cases hi2:i<S.ds.length
  ·obtain ⟨c,hc,h2,h3⟩:=h.over i hi2 h1;have he:(S.addRoot k b n).ds[i]=S.ds[i]:=List.getElem_append_left hi2;rw [he];exact⟨c,hget _ _ hc,h2,h3⟩
  ·have hi3:i=S.ds.length:=by
    have h4:i<(S.ds ++ [(⟨S.last+1,k,1,1,b,n⟩:Dv)]).length:=hi;rw [List.length_append,List.length_singleton] at h4;omega
   subst hi3;have he:(S.addRoot k b n).ds[S.ds.length]=⟨S.last+1,k,1,1,b,n⟩:=by
    have h5:(S.ds ++ [(⟨S.last+1,k,1,1,b,n⟩:Dv)])[S.ds.length]? = some ⟨S.last+1,k,1,1,b,n⟩:=by
     rw [List.getElem?_append_right (Nat.le_refl _)];simp
    exact (List.getElem?_eq_some_iff.1 h5).2
   rw [he];exact⟨a,hget _ _ hg,hd,by show k<S.last+1;omega⟩
theorem Pl.new (b n:Int):Pl (fs0.addRoot 0 b n):=by
 refine ⟨rfl,fun a ha=>?_,fun a ha _=>?_,rfl,⟨_,rfl,rfl⟩,fun i hi h1=>?_⟩
 ·simp [Fs.addRoot,fs0] at ha;subst ha;intro x hx;simp [an0] at hx
 ·simp [Fs.addRoot,fs0] at ha;subst ha;left;exact⟨rfl,rfl⟩
 ·have:i<1:=hi;omega
theorem Pl.make {S:Fs} {N:Nat} (hk:FsOk S N) (h:Pl S) {a:An} (he:a.ents=[]) (hdv:1≤a.dev∧a.dev≤S.ds.length) (hu:a.kind=1→1≤a.up∧a.up≤S.last):Pl (S.make a).1:=by
 unfold Fs.make
 split
 ·exact h
 ·split
  ·exact h
  ·rename_i v hv;simp only
   split
   ·have h2:=h.setDev (u:={v with b:=v.b+blkI a.kind a.data.size,n:=v.n+1}) hv rfl rfl;have hk2:=hk.setDev (u:={v with b:=v.b+blkI a.kind a.data.size,n:=v.n+1}) hv rfl;exact h2.add hk2 he (by unfold Fs.setDev;simp only [List.length_set];exact hdv) hu
   ·exact h
theorem put_names {l:List En} (h:∀ x∈l,NmOk x.name) {s:ByteArray} (hs:NmOk s) (no:Int):∀ x∈entPut l s no,NmOk x.name:=by
 intro x hx;unfold entPut at hx;rcases List.mem_append.1 hx with hx | hx
 ·exact h x (List.mem_filter.1 hx).1
 ·rcases List.mem_cons.1 hx with rfl | hx
  ·exact hs
  ·exact h x (List.mem_filter.1 hx).1
theorem Pl.touch {S:Fs} (h:Pl S) (now dir:Int) (l:List En) (hl:∀ x∈l,NmOk x.name):Pl (S.touch now dir l):=by
 unfold Fs.touch
 split
 ·exact h
 ·rename_i d hd;exact h.set (b:=d) (by show S.get d.no=_;rw [an_no hd];exact hd) rfl rfl rfl hl
theorem check_ne {s:ByteArray} (h:checkE s=0):NmOk s:=by
 refine ⟨?_,?_⟩
 ·rintro rfl;revert h;decide
 ·unfold checkE at h
  split at h
  ·cases h
  ·split at h
   ·cases h
   ·omega
theorem place_check {S:Fs} {c:Cr} {dir:Int} {s:ByteArray} (h:S.placeE c dir s=0):∃ d,S.get dir=some d∧d.kind=1∧checkE s=0:=by
 unfold Fs.placeE at h
 split at h
 ·cases h
 ·rename_i d hd
  split at h
  ·cases h
  ·rename_i hk
   split at h
   ·rename_i he;exact absurd h he
   ·rename_i he;exact⟨d,hd,by simpa using hk,by simpa using he⟩
theorem get_make {S:Fs} {N:Nat} (hk:FsOk S N) (a:An) {k:Int} {d:An} (hd:S.get k=some d):(S.make a).1.get k=some d:=by
 unfold Fs.make
 split
 ·exact hd
 ·split
  ·exact hd
  ·rename_i v hv;simp only
   split
   ·have hk2:=hk.setDev (u:={v with b:=v.b+blkI a.kind a.data.size,n:=v.n+1}) hv rfl;rw [an_add hk2.nums,if_neg]
    ·exact hd
    ·have:=get_low hk.nums hd;show ¬ k=S.last+1;omega
   ·exact hd
theorem Pl.come {S:Fs} {N:Nat} (hk:FsOk S N) (h:Pl S) {a:An} (c:Cr) (now dir:Int) (s:ByteArray) (he:a.ents=[]) (hu:a.kind=1→a.up=dir):Pl (S.come c now dir s a).1:=by
 unfold Fs.come
 split
 ·exact h
 ·rename_i hpl;obtain⟨d,hd,hdk,hce⟩:=place_check (by simpa using hpl);rw [hd];simp only
  split
  ·exact h
  ·obtain ⟨hdo,hdn,h1,h2⟩:=hk.get hd;have hm:=h.make hk (a:={a with dev:=d.dev,uid:=c.u,gid:=c.g,mtime:=now,ctime:=now,links:=1}) he hdo.dev (fun hq=>by
    have:=hu hq;show 1≤a.up∧a.up≤S.last;omega)
   split
   ·exact h
   ·exact hm.touch _ _ _ (put_names (h.names d (an_mem hd)) (check_ne hce) _)
theorem Pl.mkdir {S:Fs} {N:Nat} (hk:FsOk S N) (h:Pl S) (c:Cr) (now dir:Int) (s:ByteArray) (m:Int):Pl (S.mkdir c now dir s m).1:=by
 unfold Fs.mkdir
 split
 ·exact h
 ·exact h.come hk c now dir s rfl (fun _=>rfl)
theorem Pl.file {S:Fs} {N:Nat} (hk:FsOk S N) (h:Pl S) (c:Cr) (now dir:Int) (s:ByteArray) (m:Int) (t:ByteArray):Pl (S.file c now dir s m t).1:=by
 unfold Fs.file
 split
 ·exact h
 ·split
  ·exact h
  ·exact h.come hk c now dir s rfl (fun hq=>absurd hq (by dsimp only;decide))
theorem Pl.sym {S:Fs} {N:Nat} (hk:FsOk S N) (h:Pl S) (c:Cr) (now dir:Int) (s t:ByteArray):Pl (S.sym c now dir s t).1:=by
 unfold Fs.sym
 split
 ·exact h
 ·split
  ·exact h
  ·exact h.come hk c now dir s rfl (fun hq=>absurd hq (by dsimp only;decide))
theorem Pl.hard {S:Fs} {N:Nat} (hk:FsOk S N) (h:Pl S) (c:Cr) (now no dir:Int) (s:ByteArray):Pl (S.hard c now no dir s).1:=by
 unfold Fs.hard
 split
 ·exact h
 ·rename_i hpl;obtain⟨d0,hd0,hdk,hce⟩:=place_check (by simpa using hpl)
  split
  ·rename_i d n hd hn
   split
   ·exact h
   ·split
    ·exact h
    ·split
     ·exact h
     ·split
      ·exact h
      ·refine Pl.touch (h.set (a:={n with links:=n.links+1,ctime:=now}) (b:=n) (by show S.get n.no=_;rw [an_no hn];exact hn) rfl rfl rfl (h.names n (an_mem hn))) _ _ _ (put_names (h.names d (an_mem hd)) (check_ne hce) _)
  ·exact h
theorem Pl.chmod {S:Fs} (h:Pl S) (c:Cr) (now no m:Int):Pl (S.chmod c now no m).1:=by
 unfold Fs.chmod
 split
 ·exact h
 ·rename_i n hn
  split
  ·exact h
  ·split
   ·exact h
   ·exact h.set (b:=n) (by show S.get n.no=_;rw [an_no hn];exact hn) rfl rfl rfl (h.names n (an_mem hn))
theorem Pl.chown {S:Fs} (h:Pl S) (c:Cr) (now no u g:Int):Pl (S.chown c now no u g).1:=by
 unfold Fs.chown
 split
 ·exact h
 ·rename_i n hn
  split
  ·exact h
  ·split
   ·exact h
   ·split
    ·exact h
    ·exact h.set (b:=n) (by show S.get n.no=_;rw [an_no hn];exact hn) rfl rfl rfl (h.names n (an_mem hn))
theorem Pl.utime {S:Fs} (h:Pl S) (c:Cr) (now no t:Int):Pl (S.utime c now no t).1:=by
 unfold Fs.utime
 split
 ·exact h
 ·rename_i n hn
  split
  ·exact h
  ·split
   ·exact h
   ·exact h.set (b:=n) (by show S.get n.no=_;rw [an_no hn];exact hn) rfl rfl rfl (h.names n (an_mem hn))
theorem Pl.mount {S:Fs} {N:Nat} (hk:FsOk S N) (h:Pl S) (k b n:Int):Pl (S.mount k b n).1:=by
 unfold Fs.mount
 split
 ·exact h
 ·rename_i a ha
  split
  ·exact h
  ·rename_i hd
   split
   ·exact h
   ·split
    ·exact h
    ·exact h.addRoot hk ha (by simpa using hd) b n
theorem Pl.mountF {S:Fs} {N:Nat} (hk:FsOk S N) (h:Pl S) (m:Mt):Pl (mountF S m):=by
 unfold Go.Proofs.YtihdbncoijhihaaGreat.mountF
 split
 ·exact h
 ·split
  ·have h1:=h.mkdir hk c00 0 (S.path c00 m.path false).1.dir (S.path c00 m.path false).1.name 493;have hk1:=mkdir_ok hk c00 0 (S.path c00 m.path false).1.dir (S.path c00 m.path false).1.name 493;simp only
   split
   ·exact h1
   ·exact h1.mount hk1 _ _ _
  ·exact h.mount hk _ _ _
theorem Pl.mountsF {S:Fs} {N:Nat} (hk:FsOk S N) (h:Pl S) (l:List Mt):Pl (mountsF S l):=by
 induction l generalizing S N with
 | nil=>exact h
 | cons m l ih=>
  unfold Go.Proofs.YtihdbncoijhihaaGreat.mountsF;by_cases hm:m.path=topB
  ·rw [if_pos hm];exact ih hk h
  ·rw [if_neg hm];exact ih (mountF_ok hk m) (h.mountF hk m)
theorem Pl.nodeF {S:Fs} {N:Nat} (hk:FsOk S N) (h:Pl S) (it:It):Pl (nodeF S it).1:=by
 unfold Go.Proofs.YtihdbncoijhihaaGreat.nodeF;simp only
 split
 ·exact h
 ·split
  ·split <;> exact h
  ·split
   ·exact h.mkdir hk _ _ _ _ _
   ·split
    ·exact h.file hk _ _ _ _ _ _
    ·split
     ·exact h.sym hk _ _ _ _ _
     ·split
      ·split
       ·exact h.hard hk _ _ _ _ _
       ·exact h
      ·exact h
theorem Pl.itemF {S:Fs} {N:Nat} (hk:FsOk S N) (h:Pl S) (it:It):Pl (itemF S it).1:=by
 unfold Go.Proofs.YtihdbncoijhihaaGreat.itemF;have h1:=h.nodeF hk it;simp only
 split
 ·exact (h1.chown _ _ _ _ _).chmod _ _ _ _
 ·exact h1
theorem itemF_ok2 {S:Fs} {N:Nat} (h:FsOk S N) (it:It):FsOk (itemF S it).1 (N+1):=by
 have:=itemsF_ok h [it];exact this
theorem Pl.itemsF {S:Fs} {N:Nat} (hk:FsOk S N) (h:Pl S) (l:List It):Pl (itemsF S l).1:=by
 induction l generalizing S N with
 | nil=>exact h
 | cons x l ih=>exact ih (itemF_ok2 hk x) (h.itemF hk x)
theorem Pl.timesF {S:Fs} (h:Pl S) (l:List (It×Int)):Pl (timesF S l):=by
 induction l generalizing S with
 | nil=>exact h
 | cons x l ih=>
  unfold Go.Proofs.YtihdbncoijhihaaGreat.timesF;refine ih ?_
  split
  ·exact h.utime _ _ _ _
  ·exact h
theorem plant_pl (ms:List Mt) (is:List It):Pl (plantF ms is):=by
 unfold plantF;simp only;have hk:=FsOk.new (limitsF ms).1 (limitsF ms).2;exact Pl.timesF (Pl.itemsF (mountsF_ok hk ms) (Pl.mountsF hk (Pl.new _ _) ms) is) _
end
section
open Go.RowKit
section
variable {w w':World} {pf:Nat} {R:Rf} {S:Fs}
theorem rabove_any (h:RfAt w pf R S) {N:Nat} (hk:FsOk S N) (no:Int) :
  Calls Tryz.prog 153 #[.pointer (some ⟨pf,0,none⟩),.int .i64 no] w fun e w'=>e=.returned (.int .i64 (S.above no))∧Below w.heap.size w w':=by
 have mixed:Tryz.prog.follows .mixedOrders=true:=by kernel_rfl
 cases hg:S.get no with
 | none=>
  have HA:=Lib.hid (above_none hg);have HG:=Lib.hid (rget_no h hg);unfold An.v an0 at HG;clear h hk hg;go_enter Tryz.func153,Tryz.ntmps153;go_wp2_with fail;refine HG.out.mono ?_;rintro e w1 ⟨rfl,hb1⟩;have HB:=Lib.hid (balloc hb1 (.cells #[.int .i64 0,.int .i64 0,.int .i64 0,.int .i64 0,.int .i64 0,.int .i64 0,.int .i64 0,.int .i64 0,.int .i64 0,.int .i64 0,.string ByteArray.empty,.slice none 0 0] 49));clear hb1;go_wp2_with fail;go_ret;rw [HA.out];exact⟨rfl,HB.out⟩
 | some a=>
  obtain⟨hao,hno,hn1,-⟩:=hk.get hg;obtain⟨ea,el,ec,-,hgc⟩:=rget_yes h hg;have HG:=Lib.hid hgc;unfold An.v at HG;have HA:=Lib.hid (show S.above no=if a.kind≠1 then 0 else if S.root a.dev=no∧1<a.dev then (match S.dev a.dev with | none=>0 | some v=>match S.get v.over with | none=>0 | some b=>b.up) else a.up by unfold Fs.above;rw [hg];rfl);have HRo:=Lib.hid (fun w1 (hb1:Below w.heap.size w w1)=>rroot_any (h.keep hb1) a.dev);have HB0:=Lib.hid (show ∀ w1,Below w.heap.size w w1→Below w.heap.size w (w1.alloc (.cells #[.int .i64 a.no,.int .i64 a.dev,.int .i64 a.kind,.int .i64 a.mode,.int .i64 a.uid,.int .i64 a.gid,.int .i64 a.mtime,.int .i64 a.ctime,.int .i64 a.links,.int .i64 a.up,.string a.data,.slice ea el ec] 49)) from fun w1 hb=>balloc hb _);obtain⟨v,hv,hrv,-,-⟩:=root_of hk hao.dev.1 hao.dev.2;obtain⟨g,cap,hdv,hle,h63,hgl,hc,-,-⟩:=h.devF hk.d1;obtain⟨pc,-,pz⟩:=h.blk.facts;rw [hdv] at pc;obtain⟨k,hkd⟩:∃ k:Nat,a.dev=(k:Int)+1:=⟨(a.dev - 1).toNat,by have:=hao.dev.1;omega⟩;have hkl:k<S.ds.length:=by have:=hao.dev.2;omega
  have hvk:S.ds[k]=v:=by
   unfold Fs.dev at hv;rw [if_pos (by omega),hkd,show ((k:Int)+1 - 1).toNat=k by omega,List.getElem?_eq_getElem hkl] at hv;simpa using hv
  have cc:=(hc k hkl).c1;rw [hvk] at cc;rw [hv] at HA;have HGv:=Lib.hid (fun w1 (hb1:Below w.heap.size w w1)=>And.intro (fun (hgv:S.get v.over=none)=>rget_no (h.keep hb1) hgv) (fun b (hgv:S.get v.over=some b)=>rget_yes (h.keep hb1) hgv));have HGp:=Lib.hid pc;generalize hrt:S.root a.dev=rt at HA HRo;have hkl2:k<S.ds.length:=hkl;generalize S.ds.length=m at pc hle hkl2;clear h hg hgc hao hrv hv hc hdv hvk hkl hrt hk hno HGp;rw [hkd] at HG HRo HA HB0;have hkm:(k:Int)+1≤(m:Int):=by omega
  go_enter Tryz.func153,Tryz.ntmps153;go_wp2_with fail;refine HG.out.mono ?_;rintro e w1 ⟨rfl,hb1⟩;have hbX:=HB0.out w1 hb1;have hB1:=Blk.new w1 #[.int .i64 a.no,.int .i64 ((k:Int)+1),.int .i64 a.kind,.int .i64 a.mode,.int .i64 a.uid,.int .i64 a.gid,.int .i64 a.mtime,.int .i64 a.ctime,.int .i64 a.links,.int .i64 a.up,.string a.data,.slice ea el ec] 49;go_upto_region 2 with fail;generalize w1.alloc (.cells #[.int .i64 a.no,.int .i64 ((k:Int)+1),.int .i64 a.kind,.int .i64 a.mode,.int .i64 a.uid,.int .i64 a.gid,.int .i64 a.mtime,.int .i64 a.ctime,.int .i64 a.links,.int .i64 a.up,.string a.data,.slice ea el ec] 49)=X at hbX hB1 ⊢;have HBX:=Lib.hid hbX;have HB1:=Lib.hid hB1;have hw1:=hb1.size;obtain⟨qc,qf,qz⟩:=hB1.facts;have pc2:=fun i=>(hbX.cell (p:=⟨pf,i,none⟩) pz).trans (pc i);have cc2:=(hbX.cell (p:=⟨g,k*6+1,none⟩) hgl).trans cc;have hgl2:g<X.heap.size:=Nat.lt_of_lt_of_le hgl hbX.size;clear hb1 hbX hB1 pc cc;by_cases h1:a.kind=1
  ·have q1:(a.kind == 1)=true:=by simpa using h1
   have q2:(a.kind != 1)=false:=by simpa using h1
   have HA1:=Lib.hid (HA.out.trans (if_neg (by simpa using h1)));clear h1;by_cases h2:1<(k:Int)+1
   ·by_cases h3:rt=no
    ·have HA2:=Lib.hid (HA1.out.trans (if_pos ⟨h3,h2⟩));have q3:(rt == no)=true:=by simpa using h3
     clear h3;go_wp2_with fail;refine (HRo.out _ HBX.out).mono ?_;rintro e w2 ⟨rfl,rfl⟩;go_wp2_with fail;have hwr1:IntKind.i64.wrap ((k:Int)+1 - 1)=(k:Int):=by simp [IntKind.wrap,IntKind.bits,IntKind.signed];omega
     have hwr2:IntKind.i64.wrap (k:Int)=(k:Int):=by simp [IntKind.wrap,IntKind.bits,IntKind.signed];omega
     have hk0:(0:Int)≤(k:Int)∧(k:Int)<(m:Int)∧((k:Int)).toNat=k:=by omega
     obtain⟨hk1,hk2,hk3⟩:=hk0;refine wp_region_lex 11 mixed (by kernel_rfl) (show PanicOk _ from by repeat (first | exact pk_body | refine pk_then ?_ | refine pk_block ?_ | refine pk_scope ?_)) ?_;simp only [List.take_succ_cons,List.take_zero,List.drop_succ_cons,List.drop_zero]
     repeat still_step
     refine wpStill_nil ?_
     cases hgv:S.get v.over with
     | none=>
      have HC:=Lib.hid (((HGv.out _ HBX.out.drew).1 hgv));unfold An.v an0 at HC;have HA3:=Lib.hid (show S.above no=0 by rw [HA2.out,hgv]);clear hgv qc qf qz pc2 cc2;go_wp2_with fail;refine HC.out.mono ?_;rintro e w3 ⟨rfl,hb3⟩;have hB3:=(HB1.out.drew).keep hb3;obtain⟨qc,qf,qz⟩:=hB3.facts;have HB3:=Lib.hid (HBX.out.drew.trans (hb3.mono (by have:=HBX.out.size;simpa using this)));clear hb3 hB3;go_wp2_with fail;go_ret;rw [HA3.out];exact⟨rfl,below_set12 HB3.out hw1⟩
     | some b=>
      obtain⟨fa,fl,fc,-,hcb⟩:=(HGv.out _ HBX.out.drew).2 b hgv;have HC:=Lib.hid hcb;unfold An.v at HC;have HA3:=Lib.hid (show S.above no=b.up by rw [HA2.out,hgv]);clear hgv hcb qc qf qz pc2 cc2;go_wp2_with fail;refine HC.out.mono ?_;rintro e w3 ⟨rfl,hb3⟩;have hB3:=(HB1.out.drew).keep hb3;obtain⟨qc,qf,qz⟩:=hB3.facts;have HB3:=Lib.hid (HBX.out.drew.trans (hb3.mono (by have:=HBX.out.size;simpa using this)));clear hb3 hB3;go_wp2_with fail;go_ret;rw [HA3.out];exact⟨rfl,below_set12 HB3.out hw1⟩
    ·have HA2:=Lib.hid (HA1.out.trans (if_neg (fun h=>h3 h.1)));have q3:(rt == no)=false:=by simpa using h3
     clear h3;go_wp2_with fail;refine (HRo.out _ HBX.out).mono ?_;rintro e w2 ⟨rfl,rfl⟩;go_wp2_with fail;go_ret;rw [HA2.out];exact⟨rfl,HBX.out⟩
   ·have HA2:=Lib.hid (HA1.out.trans (if_neg (fun h=>h2 h.2)));go_wp2_with fail;go_ret;rw [HA2.out];exact⟨rfl,HBX.out⟩
  ·have q1:(a.kind == 1)=false:=by simpa using h1
   have q2:(a.kind != 1)=true:=by simpa using h1
   have HA1:=Lib.hid (HA.out.trans (if_pos (by simpa using h1)));clear h1;go_wp2_with fail;go_ret;rw [HA1.out];exact⟨rfl,HBX.out⟩
end
end
section
open Go.RowKit
section
variable {w w':World} {pf:Nat} {R:Rf} {S:Fs}
theorem RfAt.setQ (h:RfAt w pf R S) {g cap:Nat} (hdv:R.dv=.slice (some ⟨g,0,none⟩) S.ds.length cap) {k:Nat} (hk:k<S.ds.length) (v:Dv) (hv:S.ds[k]=v) (b n:Int) :
  RfAt ((((w.setCell ⟨g,k*6+2,none⟩ (.int .i64 b)).setCell ⟨g,k*6+3,none⟩ (.int .i64 n)).setCell ⟨g,k*6+4,none⟩ (.int .i64 v.mb)).setCell ⟨g,k*6+5,none⟩ (.int .i64 v.mn)) pf R (S.setDev ((k:Int)+1) {v with b:=b,n:=n})∧Mod (R.F pf) w ((((w.setCell ⟨g,k*6+2,none⟩ (.int .i64 b)).setCell ⟨g,k*6+3,none⟩ (.int .i64 n)).setCell ⟨g,k*6+4,none⟩ (.int .i64 v.mb)).setCell ⟨g,k*6+5,none⟩ (.int .i64 v.mn)):=by
 have hm:Mod (fun x=>x=g) w ((((w.setCell ⟨g,k*6+2,none⟩ (.int .i64 b)).setCell ⟨g,k*6+3,none⟩ (.int .i64 n)).setCell ⟨g,k*6+4,none⟩ (.int .i64 v.mb)).setCell ⟨g,k*6+5,none⟩ (.int .i64 v.mn)):=
  ((((Mod.refl (fun x=>x=g) w).setCell (a:=⟨g,k*6+2,none⟩) (.inl rfl) _).setCell (a:=⟨g,k*6+3,none⟩) (.inl rfl) _).setCell (a:=⟨g,k*6+4,none⟩) (.inl rfl) _).setCell (a:=⟨g,k*6+5,none⟩) (.inl rfl) _
 have hgb:R.dv.ownBlock=some g:=by rw [hdv];rfl
 have hM:Mod (R.F pf) w ((((w.setCell ⟨g,k*6+2,none⟩ (.int .i64 b)).setCell ⟨g,k*6+3,none⟩ (.int .i64 n)).setCell ⟨g,k*6+4,none⟩ (.int .i64 v.mb)).setCell ⟨g,k*6+5,none⟩ (.int .i64 v.mn)):=hm.mono (fun x hx=>.inr (.inr (by rw [hx];exact hgb)));obtain⟨-,hcur⟩:=own_obj1 h.devs hgb;have hl:(S.setDev ((k:Int)+1) {v with b:=b,n:=n}).ds=S.ds.set k {v with b:=b,n:=n}:=by
  unfold Fs.setDev;rw [show ((k:Int)+1 - 1).toNat=k by omega]
 refine ⟨⟨h.blk.mod hm (rf_apart hcur h.blk (by decide)),own_mod h.nds hm (fun x hx e=>?_),?_,h.ns,fun x hx=>(h.ents x hx).rf h (Stp.of_mod hM)⟩,hM⟩
 ·obtain ⟨-,cur2,hc2⟩:=own_obj1 h.nds e;rw [hx] at hc2;exact rf_apart hcur (show Blk w g cur2 49 from hc2) (by decide) rfl
 rw [hl,List.length_set];have h0:=h.devs;rw [hdv] at h0 ⊢;have hkl:k*6+5<(S.ds.flatMap Dv.cs).length:=by rw [flat_len'];omega
 have p1:=own_cell1 h0 (k*6+2) (by omega) (.int .i64 b);have p2:=own_cell1 p1 (k*6+3) (by rw [List.length_set];omega) (.int .i64 n);have p3:=own_cell1 p2 (k*6+4) (by rw [List.length_set,List.length_set];omega) (.int .i64 v.mb);have p4:=own_cell1 p3 (k*6+5) (by rw [List.length_set,List.length_set,List.length_set];omega) (.int .i64 v.mn);have hs:=setAll_flat Dv.cs_len ({v with b:=b,n:=n}:Dv) S.ds k hk;rw [←hs];have c0:(S.ds.flatMap Dv.cs)[k*6]? = some (.int .i64 v.root):=by
  have:=flat_get Dv.cs_len S.ds k 0 hk (by omega);rw [Nat.add_zero] at this;rw [this,hv];rfl
 have c1:(S.ds.flatMap Dv.cs)[k*6+1]? = some (.int .i64 v.over):=by
  rw [flat_get Dv.cs_len S.ds k 1 hk (by omega),hv];rfl
 have e0:(S.ds.flatMap Dv.cs).set (k*6) (.int .i64 v.root)=S.ds.flatMap Dv.cs:=by
  have hlt:k*6<(S.ds.flatMap Dv.cs).length:=by omega
  rw [List.getElem?_eq_getElem hlt] at c0;injection c0 with c0;rw [←c0,List.set_getElem_self]
 have e1:(S.ds.flatMap Dv.cs).set (k*6+1) (.int .i64 v.over)=S.ds.flatMap Dv.cs:=by
  have hlt:k*6+1<(S.ds.flatMap Dv.cs).length:=by omega
  rw [List.getElem?_eq_getElem hlt] at c1;injection c1 with c1;rw [←c1,List.set_getElem_self]
 show World.ownsRow _ 0 229 6 _ _ ((((((((S.ds.flatMap Dv.cs).set (k*6) (.int .i64 v.root)).set (k*6+1) (.int .i64 v.over)).set (k*6+2) (.int .i64 b)).set (k*6+3) (.int .i64 n)).set (k*6+4) (.int .i64 v.mb)).set (k*6+5) (.int .i64 v.mn)));rw [e0,e1];exact p4
theorem rmake_none (h:RfAt w pf R S) (a:An) (ea:Option Addr) (el ec:Nat) (hr:S.root a.dev=0) :
  Calls Tryz.prog 250 #[.pointer (some ⟨pf,0,none⟩),a.v ea el ec] w fun e w'=>e=.returned (.tuple #[.int .i64 0,.int .i64 1])∧Below w.heap.size w w':=by
 have hb0:=balloc (Below.refl w.heap.size w) (.cells #[.int .i64 a.no,.int .i64 a.dev,.int .i64 a.kind,.int .i64 a.mode,.int .i64 a.uid,.int .i64 a.gid,.int .i64 a.mtime,.int .i64 a.ctime,.int .i64 a.links,.int .i64 a.up,.string a.data,.slice ea el ec] 49);have HRo:=Lib.hid (rroot_any (h.keep ((Below.refl _ w).alloc (Nat.le_refl _) (.cells #[.int .i64 a.no,.int .i64 a.dev,.int .i64 a.kind,.int .i64 a.mode,.int .i64 a.uid,.int .i64 a.gid,.int .i64 a.mtime,.int .i64 a.ctime,.int .i64 a.links,.int .i64 a.up,.string a.data,.slice ea el ec] 49))) a.dev);rw [hr] at HRo;have HB0:=Lib.hid hb0;have hB1:=Blk.new w #[.int .i64 a.no,.int .i64 a.dev,.int .i64 a.kind,.int .i64 a.mode,.int .i64 a.uid,.int .i64 a.gid,.int .i64 a.mtime,.int .i64 a.ctime,.int .i64 a.links,.int .i64 a.up,.string a.data,.slice ea el ec] 49;obtain⟨qc,-,-⟩:=hB1.facts;unfold An.v;clear h hr hb0 hB1;go_enter Tryz.func250,Tryz.ntmps250;go_wp2_with fail;refine HRo.out.mono ?_;rintro e w1 ⟨rfl,rfl⟩;go_wp2_with fail;go_ret2;exact⟨rfl,HB0.out⟩
theorem rmake_mid (h:RfAt w pf R S) {k:Nat} (hk:k<S.ds.length) (a:An) (ea:Option Addr) (el ec:Nat) (he:EntsAt w ea el ec a.ents) (hdev:a.dev=(k:Int)+1) (hr:S.root a.dev≠0) (hs:a.data.size≤1048576) (hl0:0≤S.last) (hl1:S.last≤1000000) (hgl:S.ns.length≤1000000) :
  Calls Tryz.prog 250 #[.pointer (some ⟨pf,0,none⟩),a.v ea el ec] w fun e w'=>e=.returned (.tuple #[.int .i64 (S.make a).2.1,.int .i64 (S.make a).2.2])∧∃ R',RfAt w' pf R' (S.make a).1∧Stp (R.F pf) (R'.F pf) w w'∧Rf.Like R R':=by
 have hlen:=h.len;have HR:=Lib.hid (rroot_any (h.keep ((Below.refl _ w).alloc (Nat.le_refl _) (.cells #[.int .i64 a.no,.int .i64 a.dev,.int .i64 a.kind,.int .i64 a.mode,.int .i64 a.uid,.int .i64 a.gid,.int .i64 a.mtime,.int .i64 a.ctime,.int .i64 a.links,.int .i64 a.up,.string a.data,.slice ea el ec] 49))) a.dev);obtain⟨g,cap,hdv,hle,h63,hgl,hc,hfg,-⟩:=h.devF (by omega);obtain⟨c0,c1,c2,c3,c4,c5⟩:=hc k hk;obtain⟨v,hv⟩:∃ v,S.ds[k]=v:=⟨_,rfl⟩;rw [hv] at c0 c1 c2 c3 c4 c5;obtain⟨pc,-,pz⟩:=h.blk.facts;rw [hdv] at pc;obtain⟨rt,hrt⟩:∃ rt,S.root a.dev=rt:=⟨_,rfl⟩;have hrn:=hr;rw [hrt] at HR hr;have hdv2:S.dev a.dev=some v:=by
  unfold Fs.dev;rw [if_pos (by omega),hdev,show ((k:Int)+1 - 1).toNat=k by omega,List.getElem?_eq_getElem hk,hv]
 obtain⟨n,hn⟩:∃ n,S.ds.length=n:=⟨_,rfl⟩;have hkn:k<n:=by omega
 rw [hn] at pc hle;have hr2:(rt == 0)=false:=by simpa using hr
 have hT:=fun w=>rtake_any v.b v.n v.mb v.mn (blkI a.kind a.data.size) 1 w;unfold tkV at hT;have HB:=Lib.hid (fun w=>rblocks_any a.kind a.data.size (by omega) w);have HM1:=Lib.hid (fun (he0:tkE v.b v.n v.mb v.mn (blkI a.kind a.data.size) 1≠0)=>make_err hrn hdv2 he0);have HM2:=Lib.hid (fun (he0:tkE v.b v.n v.mb v.mn (blkI a.kind a.data.size) 1=0)=>make_ok hrn hdv2 he0);have HQ:=Lib.hid (fun (he0:tkE v.b v.n v.mb v.mn (blkI a.kind a.data.size) 1=0)=>show tkB v.b v.n v.mb v.mn (blkI a.kind a.data.size) 1=v.b+blkI a.kind a.data.size∧tkN v.b v.n v.mb v.mn (blkI a.kind a.data.size) 1=v.n+1 by unfold tkB tkN;rw [if_pos he0,if_pos he0];exact ⟨rfl,rfl⟩);have HW0:=Lib.hid h;have HE0:=Lib.hid he;have HDv:=Lib.hid hdv;have HV:=Lib.hid (show ∃ hk:k<S.ds.length,S.ds[k]=v from ⟨hk,hv⟩);have Hdev:=Lib.hid hdev;unfold An.v;rw [hdev] at HR ⊢;have B1:=Blk.new w #[.int .i64 a.no,.int .i64 ((k:Int)+1),.int .i64 a.kind,.int .i64 a.mode,.int .i64 a.uid,.int .i64 a.gid,.int .i64 a.mtime,.int .i64 a.ctime,.int .i64 a.links,.int .i64 a.up,.string a.data,.slice ea el ec] 49;have hb1:=(Below.refl w.heap.size w).alloc (Nat.le_refl _) (.cells #[.int .i64 a.no,.int .i64 ((k:Int)+1),.int .i64 a.kind,.int .i64 a.mode,.int .i64 a.uid,.int .i64 a.gid,.int .i64 a.mtime,.int .i64 a.ctime,.int .i64 a.links,.int .i64 a.up,.string a.data,.slice ea el ec] 49);clear h hr hrn hrt hn hv hc hdv hdv2 he hk hdev c0 c1;generalize blkI a.kind a.data.size=bk at hT HB HM1 HM2 HQ;generalize tkE v.b v.n v.mb v.mn bk 1=e0 at hT HM1 HM2 HQ;generalize tkB v.b v.n v.mb v.mn bk 1=qb at hT HQ;generalize tkN v.b v.n v.mb v.mn bk 1=qn at hT HQ;have HT:=Lib.hid hT;clear hT;go_enter Tryz.func250,Tryz.ntmps250;go_wp2_with fail;refine HR.out.mono ?_;rintro e w1 ⟨rfl,rfl⟩;generalize w.alloc (.cells #[.int .i64 a.no,.int .i64 ((k:Int)+1),.int .i64 a.kind,.int .i64 a.mode,.int .i64 a.uid,.int .i64 a.gid,.int .i64 a.mtime,.int .i64 a.ctime,.int .i64 a.links,.int .i64 a.up,.string a.data,.slice ea el ec] 49)=W at B1 hb1 ⊢;obtain⟨Bn,hBn⟩:∃ Bn,w.heap.size=Bn:=⟨_,rfl⟩;rw [hBn] at B1 ⊢;obtain⟨bc,bf,bz⟩:=B1.facts;rw [←hb1.cell (p:=⟨g,k*6+2,none⟩) hgl] at c2;rw [←hb1.cell (p:=⟨g,k*6+3,none⟩) hgl] at c3;rw [←hb1.cell (p:=⟨g,k*6+4,none⟩) hgl] at c4;rw [←hb1.cell (p:=⟨g,k*6+5,none⟩) hgl] at c5;have pc1:W.cell? ⟨pf,1,none⟩=_:=(hb1.cell (p:=⟨pf,1,none⟩) pz).trans (pc 1);have hgW:g<W.heap.size:=Nat.lt_of_lt_of_le hgl hb1.size;have hpW:pf<W.heap.size:=Nat.lt_of_lt_of_le pz hb1.size;have HW:=Lib.hid hb1;have HB1:=Lib.hid B1;have HBn:=Lib.hid hBn;clear pc hb1 B1 hBn;have mixed:Tryz.prog.follows .mixedOrders=true:=by kernel_rfl
 go_upto_region 3 with (fail)
 go_cut [6,7] (fun t6 t7 wx=>∃ Bq:Nat,t6=.pointer (some ⟨Bq,0,none⟩)∧t7=.int .i64 e0∧Blk wx Bq #[.int .i64 qb,.int .i64 qn,.int .i64 v.mb,.int .i64 v.mn] 212∧Below W.heap.size W wx)
 case first=>
  go_wp2_with fail;have hw1:IntKind.i64.wrap ((k:Int)+1 - 1)=(k:Int):=by rw [IntKind.wrap_i64];omega
  have hw2:IntKind.i64.wrap (k:Int)=(k:Int):=by rw [IntKind.wrap_i64];omega
  have hb3:(k:Int)<(n:Int):=by omega
  have hb4:(0:Int)≤(k:Int):=by omega
  have hzz:W.heap.size≤W.heap.size:=Nat.le_refl _
  go_region_held3 (fun w'=>(∀ b o,b<W.heap.size→w'.cell? ⟨b,o,none⟩=W.cell? ⟨b,o,none⟩)∧Below W.heap.size W w') (first | with_reducible assumption | with_reducible exact keepS_here _ | with_reducible exact keepS_here2 _ | with_reducible exact keepS_call (by assumption) (by assumption) | with_reducible exact keepS_alloc (by assumption) _ | with_reducible exact keepS_allocD (by assumption) _ | with_reducible exact keepS_realloc (by assumption) (by assumption) | with_reducible exact keepS_set4 (by assumption) (by assumption))
   (first | (go_at_call 274;((with_reducible refine (HB.out _).mono ?_);rintro e w4 ⟨rfl,rfl⟩)) | (go_at_call 273;((with_reducible refine (HT.out _).mono ?_);rintro e w4 ⟨rfl,hb5⟩;have hz5:=Nat.le_trans (And.right ‹(∀ b o,b<W.heap.size→_)∧Below W.heap.size W _›).size hb5.size;try (have hbq:=new_drew hb5;obtain ⟨bqc,bqf,bqz⟩:=hbq.facts))))
  all_goals
   obtain⟨-,hS4⟩:=‹_∧Below W.heap.size W _›;have HS4:=Lib.hid hS4
   try (have HQ4:=Lib.hid hbq)
   clear hS4;go_wp2_with fail;go_meet;exact⟨_,rfl,rfl,by first | exact HQ4.out.set4 | exact Blk.new _ _ _,HS4.out⟩
 case rest=>
  obtain⟨Bq,rfl,rfl,hQ,hS⟩:=hcut;have HS:=Lib.hid hS;have HWc:=Lib.hid (show Below w.heap.size w wc from HW.out.trans (hS.mono HW.out.size));by_cases h0:e0=0
  ·obtain ⟨hk,hv⟩:=HV.out;obtain⟨rfl,rfl⟩:=HQ.out h0;have HMk:=Lib.hid (HM2.out h0);subst h0;obtain⟨qc,qf,qz⟩:=hQ.facts;have pcw:wc.cell? ⟨pf,1,none⟩=_:=(hS.cell (p:=⟨pf,1,none⟩) hpW).trans pc1;have bcw:wc.cell? ⟨Bn,1,none⟩=_:=(hS.cell (p:=⟨Bn,1,none⟩) bz).trans (bc 1);rw [←hS.cell (p:=⟨g,k*6+2,none⟩) hgW] at c2;rw [←hS.cell (p:=⟨g,k*6+3,none⟩) hgW] at c3;rw [←hS.cell (p:=⟨g,k*6+4,none⟩) hgW] at c4;rw [←hS.cell (p:=⟨g,k*6+5,none⟩) hgW] at c5;have hfw:∀ i,wc.frozen? ⟨g,i,none⟩=false:=fun i=>(HWc.out.frozen (p:=⟨g,i,none⟩) hgl).trans (hfg i);have hWd:=HW0.out.keep HWc.out;obtain⟨hWq,hMq⟩:=hWd.setQ HDv.out hk v hv (v.b+bk) (v.n+1);have hStq:Stp (R.F pf) (R.F pf) wc _:=Stp.of_mod hMq;have HEq:=Lib.hid ((HE0.out.keep HWc.out).rf hWd hStq);have hBq:=(HB1.out.keep hS).mod hMq (fun hk=>absurd (HW0.out.lt hk) (by rw [HBn.out];omega));have HWq:=Lib.hid hWq;have HSt:=Lib.hid ((Stp.of_below HWc.out).trans hStq);clear hWd hWq hMq hStq pc1 hfg;go_wp2_with fail;have mixed:Tryz.prog.follows .mixedOrders=true:=by kernel_rfl
   have hw1:IntKind.i64.wrap ((k:Int)+1 - 1)=(k:Int):=by rw [IntKind.wrap_i64];omega
   have hw2:IntKind.i64.wrap (k:Int)=(k:Int):=by rw [IntKind.wrap_i64];omega
   have hb3:(k:Int)<(n:Int):=by omega
   have hb4:(0:Int)≤(k:Int):=by omega
   refine wp_region_lex 10 mixed (by kernel_rfl) (show PanicOk _ from by repeat (first | exact pk_body | refine pk_then ?_ | refine pk_block ?_ | refine pk_scope ?_)) ?_;simp only [List.take_succ_cons,List.take_zero,List.drop_succ_cons,List.drop_zero]
   repeat still_step
   refine wpStill_nil ?_;go_upto_region 7 with fail;generalize (((wc.setCell ⟨g,k*6+2,none⟩ (.int .i64 (v.b+bk))).setCell ⟨g,k*6+3,none⟩ (.int .i64 (v.n+1))).setCell ⟨g,k*6+4,none⟩ (.int .i64 v.mb)).setCell ⟨g,k*6+5,none⟩ (.int .i64 v.mn)=X at HEq hBq HWq HSt ⊢;obtain⟨xc,-,xz⟩:=HWq.out.blk.facts;obtain⟨bc,bf,bz⟩:=hBq.facts;clear c2 c3 c4 c5 hfw pcw bcw qc qf qz;have hXd:Below X.heap.size X X.drew:=(Below.refl _ X).drew;have hAdd:=radd_any (HWq.out.keep hXd) (HEq.out.keep hXd) hl0 hl1 (by omega);unfold An.v at hAdd;rw [Hdev.out] at hAdd;have HAdd:=Lib.hid hAdd;clear hAdd;go_wp2_with fail;refine HAdd.out.mono ?_;rintro e w5 ⟨rfl,R',hR1,hR2,hR3,-⟩;have HR':=Lib.hid (And.intro hR1 (And.intro hR2 hR3));clear hR1 hR2 hR3;go_wp2_with fail;go_ret2;rw [HMk.out];refine ⟨rfl,R',?_,(HSt.out.trans (Stp.of_below hXd)).trans HR'.out.2.1,HR'.out.2.2⟩;rw [Hdev.out];exact HR'.out.1
  ·have HMk:=Lib.hid (HM1.out h0);have h0b:(e0 != 0)=true:=by simpa using h0
   clear h0;go_wp2_with fail;go_ret2;rw [HMk.out];exact⟨rfl,R,HW0.out.keep HWc.out,Stp.of_below HWc.out,Rf.Like.refl R⟩
theorem rmake_any (h:RfAt w pf R S) {N:Nat} (hk:FsOk S N) (hN:N≤1000000) (hgl:S.ns.length≤1000000) (a:An) (ea:Option Addr) (el ec:Nat) (he:EntsAt w ea el ec a.ents) (hs:a.data.size≤1048576) :
  Calls Tryz.prog 250 #[.pointer (some ⟨pf,0,none⟩),a.v ea el ec] w fun e w'=>e=.returned (.tuple #[.int .i64 (S.make a).2.1,.int .i64 (S.make a).2.2])∧∃ R',RfAt w' pf R' (S.make a).1∧Stp (R.F pf) (R'.F pf) w w'∧Rf.Like R R':=by
 by_cases hr:S.root a.dev=0
 ·refine (rmake_none h a ea el ec hr).mono ?_;rintro e w1 ⟨rfl,hb⟩;rw [make_none hr];exact⟨rfl,R,h.keep hb,Stp.of_below hb,Rf.Like.refl R⟩
 ·have hd:1≤a.dev∧a.dev≤S.ds.length:=by
   by_cases hd:1≤a.dev∧a.dev≤S.ds.length
   ·exact hd
   ·exact absurd (root_no hd) hr
  exact rmake_mid h (k:=(a.dev - 1).toNat) (by omega) a ea el ec he (by omega) hr hs hk.l0 (Int.le_trans hk.lN (by omega)) hgl
end
end
end Go.Proofs.YtihdbncoijhihaaGreat
