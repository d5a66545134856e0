import Derived.Lib.SliceRun
import Derived.StillTail
import Derived.StillTactics
import Derived.OrdersHeld
import Derived.WalkKit
import Derived.Test.YtinflmadpnigfaaGreatDoorDY3
import Derived.Test.YtinflmadpnigfaaGreatDoorDY1
import Derived.Test.YtinflmadpnigfaaGreatDoorProg
import Derived.Test.YtinflmadpnigfaaGreatDoorDY2
set_option linter.unusedVariables false
set_option linter.unusedSimpArgs false
set_option maxRecDepth 100000
set_option maxHeartbeats 16000000
namespace Go.Proofs.YtinflmadpnigfaaGreatDoor
section
open Go.RowKit
structure qg(S:Fs)(no:Int)(l:List En):Prop where
 down:∀x∈l,∃b,S.get x.no=some b∧(b.kind=1→b.up=no∧S.root b.dev≠b.no)
 once:l.Pairwise (fun x y=>x.no=y.no→∀b,S.get x.no=some b→b.kind≠1)
structure Tr(S:Fs):Prop where
 leaf:∀a∈S.ns,a.kind≠1→a.aB=[]
 row:∀a∈S.ns,qg S a.no a.aB
 zero:∀d,S.ds[0]?=some d→d.over=0
 rts:∀(i:Nat) (hi:i<S.ds.length),∃r,S.get S.ds[i].root=some r∧r.kind=1∧r.dev=(i:Int)+1
def Sub(S S':Fs):Prop:=∀k c,S.get k=some c→∃c',S'.get k=some c'∧c'.kind=c.kind∧c'.up=c.up∧c'.dev=c.dev∧S'.root c.dev=S.root c.dev
theorem Sub.row{S S':Fs}(h:Sub S S'){no:Int}{l:List En}(hr:qg S no l):qg S' no l:=by
 refine⟨fun x hx=>?_,?_⟩
 ·obtain⟨b,hb,h1⟩:=hr.down x hx;obtain⟨c,hc,e1,e2,e3,e4⟩:=h _ _ hb;refine⟨c,hc,fun hk=>?_⟩;obtain⟨h2,h3⟩:=h1 (e1▸hk);rw[e2,e3,e4,dx hc,←dx hb];exact⟨h2,h3⟩
 ·have hd:=hr.down;have ho:=hr.once;clear hr
  induction l with
  |nil=>exact List.Pairwise.nil
  |cons y l ih=>
   rw[List.pairwise_cons] at ho⊢;refine⟨fun z hz he b hb=>?_,ih (fun x hx=>hd x (List.mem_cons_of_mem _ hx)) ho.2⟩;obtain⟨c,hc,-⟩:=hd y List.mem_cons_self;obtain⟨c',hc',e1,-⟩:=h _ _ hc;rw[hb] at hc';injection hc' with hc';subst hc';rw[e1];exact ho.1 z hz he c hc
theorem qg.put{S:Fs}{no:Int}{l:List En}(h:qg S no l)(s:ByteArray){k:Int}{b:An}(hb:S.get k=some b)(h1:b.kind=1→b.up=no∧S.root b.dev≠b.no)(h2:b.kind=1→∀x∈l,x.no≠k):qg S no (dy l s k):=by
 unfold dy;refine⟨fun x hx=>?_,?_⟩
 ·rcases List.mem_append.1 hx with hx|hx
  ·exact h.down x (List.mem_filter.1 hx).1
  ·rcases List.mem_cons.1 hx with rfl|hx
   ·exact⟨b,hb,h1⟩
   ·exact h.down x (List.mem_filter.1 hx).1
 ·have hk:∀x∈l,x.no=k→∀c,S.get x.no=some c→c.kind≠1:=fun x hx he c hc eS=>by
   rw[he,hb] at hc;injection hc with hc;subst hc;exact h2 eS x hx he
  rw[List.pairwise_append];refine⟨h.once.sublist List.filter_sublist,?_,fun x hx y hy=>?_⟩
  ·rw[List.pairwise_cons];refine⟨fun y hy he c hc=>?_,h.once.sublist List.filter_sublist⟩;refine hk y (List.mem_filter.1 hy).1 he.symm c ?_;rw[←he];exact hc
  ·rcases List.mem_cons.1 hy with rfl|hy
   ·intro he c hc;exact hk x (List.mem_filter.1 hx).1 he c hc
   ·intro he c hc;have hx':=(List.mem_filter.1 hx);have hy':=(List.mem_filter.1 hy);obtain⟨i,hi,rfl⟩:=List.mem_iff_getElem.1 hx'.1;obtain⟨j,hj,rfl⟩:=List.mem_iff_getElem.1 hy'.1;rcases Nat.lt_trichotomy i j with hij|hij|hij
    ·exact List.pairwise_iff_getElem.1 h.once i j hi hj hij he c hc
    ·subst hij;have e1:=hx'.2;have e2:=hy'.2;rw[qI (by simpa using e1)] at e2
     cases e2
    ·exact List.pairwise_iff_getElem.1 h.once j i hj hi hij he.symm c (by rw[←he];exact hc)
theorem Tr.set{S:Fs}(h:Tr S){a b:An}(hb:S.get a.no=some b)(hk:a.kind=b.kind)(hd:a.dev=b.dev)(hu:a.up=b.up)(hl:a.kind≠1→a.aB=[])(hr:qg S a.no a.aB):Tr (S.set a):=by
 have hsub:Sub S (S.set a):=fun k c hc=>by
  rw[gX hb];by_cases hka:k=a.no
  ·rw[if_pos hka];rw[hka,hb] at hc;injection hc with hc;subst hc;exact⟨a,rfl,hk,hu,hd,rfl⟩
  ·rw[if_neg hka];exact⟨c,hc,rfl,rfl,rfl,rfl⟩
 refine⟨fun y hy=>?_,fun y hy=>hsub.row ?_,h.zero,fun i hi=>?_⟩
 ·unfold Fs.set at hy;simp only[List.mem_map] at hy;obtain⟨z,hz,rfl⟩:=hy
  split
  ·exact hl
  ·exact h.leaf z hz
 ·unfold Fs.set at hy;simp only[List.mem_map] at hy;obtain⟨z,hz,rfl⟩:=hy
  split
  ·exact hr
  ·exact h.row z hz
 ·obtain⟨r,h1,h2,h3⟩:=h.rts i hi;obtain⟨c,hc,e1,-,e3,-⟩:=hsub _ _ h1;exact⟨c,hc,by rw[e1];exact h2,by rw[e3];exact h3⟩
theorem mi{S:Fs}{d:Int}{v u:Dv}(hv:S.dev d=some v)(hr:u.root=v.root)(e:Int):(S.aR d u).root e=S.root e:=by
 unfold Fs.dev at hv
 split at hv
 ·have hi:=(List.getElem?_eq_some_iff.1 hv).1;unfold Fs.root Fs.aR;simp only[List.length_set,List.getElem?_set]
  split
  ·by_cases hq:(d-1).toNat=(e-1).toNat
   ·rw[if_pos hq,←hq,hv]
    first|exact hr|(rw[if_pos hi];exact hr)
   ·rw[if_neg hq]
  ·rfl
 ·cases hv
theorem Tr.aR{S:Fs}(h:Tr S){d:Int}{v u:Dv}(hv:S.dev d=some v)(hr:u.root=v.root)(ho:u.over=v.over):Tr (S.aR d u):=by
 have hsub:Sub S (S.aR d u):=fun k c hc=>⟨c,hc,rfl,rfl,rfl,mi hv hr _⟩;have EB:=hv;unfold Fs.dev at hv
 split at hv
 ·have hi:=(List.getElem?_eq_some_iff.1 hv).1;have hvi:=(List.getElem?_eq_some_iff.1 hv).2;refine⟨h.leaf,fun y hy=>hsub.row (h.row y hy),fun e he=>?_,fun i Dt=>?_⟩
  ·unfold Fs.aR at he;simp only[List.getElem?_set] at he;by_cases hq:(d-1).toNat=0
   ·rw[if_pos hq] at he;rw[hq] at hv
    split at he
    ·injection he with he;rw[←he,ho];exact h.zero v hv
    ·rename_i zj;exact absurd hi zj
   ·rw[if_neg hq] at he;exact h.zero e he
  ·have yw:i<S.ds.length:=by
    have:=Dt;unfold Fs.aR at this;simpa using this
   obtain⟨r,h1,h2,h3⟩:=h.rts i yw;have he:(S.aR d u).ds[i]=if(d-1).toNat=i then u else S.ds[i]:=
    List.getElem_set (l:=S.ds) (i:=(d-1).toNat) (a:=u) (j:=i) (by rw[List.length_set];exact yw)
   rw[he];by_cases hq:(d-1).toNat=i
   ·subst hq;rw[if_pos rfl,hr,←hvi];exact⟨r,h1,h2,h3⟩
   ·rw[if_neg hq];exact⟨r,h1,h2,h3⟩
 ·cases hv
theorem xP{S:Fs}{N:Nat}(hk:av S N)(a:An):Sub S (S.add a):=fun k c hc=>by
 refine⟨c,?_,rfl,rfl,rfl,rfl⟩;rw[lB hk.nums,if_neg]
 ·exact hc
 ·have:=ll hk.nums hc;omega
theorem Tr.add{S:Fs}{N:Nat}(hk:av S N)(h:Tr S){a:An}(he:a.aB=[]):Tr (S.add a):=by
 have hsub:=xP hk a;refine⟨fun y hy hyk=>?_,fun y hy=>?_,h.zero,fun i hi=>?_⟩
 ·rcases List.mem_append.1 hy with hy|hy
  ·exact h.leaf y hy hyk
  ·simp at hy;subst hy;exact he
 ·rcases List.mem_append.1 hy with hy|hy
  ·exact hsub.row (h.row y hy)
  ·simp at hy;subst hy;rw[show({a with no:=S.last+1}:An).aB=a.aB from rfl,he];exact⟨fun x hx=>(by cases hx),List.Pairwise.nil⟩
 ·obtain⟨r,h1,h2,h3⟩:=h.rts i hi;obtain⟨c,hc,e1,-,e3,-⟩:=hsub _ _ h1;exact⟨c,hc,by rw[e1];exact h2,by rw[e3];exact h3⟩
theorem qd(S:Fs)(k b n:Int){e:Int}(he:e≤S.ds.length):(S.aF k b n).root e=S.root e:=by
 unfold Fs.root Fs.aF;simp only[List.length_append,List.length_singleton];by_cases h1:(1:Int)≤e
 ·rw[if_pos ⟨h1,by omega⟩,if_pos ⟨h1,he⟩,List.getElem?_append_left (by omega)]
 ·rw[if_neg (fun h=>h1 h.1),if_neg (fun h=>h1 h.1)]
theorem sb{S:Fs}(hn:gY S)(k b n:Int):(S.aF k b n).get (S.last+1)=some {dh with no:=S.last+1,dev:=S.ds.length+1,kind:=1,mode:=493,an:=1,up:=S.last+1}:=by
 have:=lB hn {dh with dev:=S.ds.length+1,kind:=1,mode:=493,an:=1,up:=S.last+1} (S.last+1);rw[if_pos rfl] at this;exact this
theorem Tr.aF{S:Fs}(hn:gY S)(hdev:∀a∈S.ns,a.dev≤S.ds.length)(h:Tr S)(k b n:Int)(h0:S.ds=[]→k=0):Tr (S.aF k b n):=by
 have hsub:Sub S (S.aF k b n):=fun q c hq=>by
  refine⟨c,?_,rfl,rfl,rfl,qd S k b n (hdev c (cx hq))⟩;unfold Fs.get Fs.aF at *;simp only[List.find?_append,hq,Option.some_or]
 refine⟨fun y hy hyk=>?_,fun y hy=>?_,fun d hd=>?_,fun i hi=>?_⟩
 ·rcases List.mem_append.1 hy with hy|hy
  ·exact h.leaf y hy hyk
  ·simp at hy;subst hy;rfl
 ·rcases List.mem_append.1 hy with hy|hy
  ·exact hsub.row (h.row y hy)
  ·simp at hy;subst hy;exact⟨fun x hx=>by simp[dh] at hx,List.Pairwise.nil⟩
 ·unfold Fs.aF at hd
  cases hds:S.ds with
  |nil=>
   rw[hds] at hd;simp at hd;rw[←hd];exact h0 hds
  |cons x l=>
   rw[hds] at hd;simp at hd;subst hd;exact h.zero x (by rw[hds];rfl)
 ·by_cases Dt:i<S.ds.length
  ·obtain⟨r,h1,h2,h3⟩:=h.rts i Dt;have he:(S.aF k b n).ds[i]=S.ds[i]:=List.getElem_append_left Dt;rw[he];obtain⟨c,hc,e1,-,e3,-⟩:=hsub _ _ h1;exact⟨c,hc,by rw[e1];exact h2,by rw[e3];exact h3⟩
  ·have yw:i=S.ds.length:=by
    have h4:i<(S.ds++[(⟨S.last+1,k,1,1,b,n⟩:Dv)]).length:=hi;rw[List.length_append,List.length_singleton] at h4;omega
   subst yw;have he:(S.aF k b n).ds[S.ds.length]=⟨S.last+1,k,1,1,b,n⟩:=by
    have h5:(S.ds++[(⟨S.last+1,k,1,1,b,n⟩:Dv)])[S.ds.length]?=some ⟨S.last+1,k,1,1,b,n⟩:=by
     rw[List.getElem?_append_right (aa _)];simp
    exact(List.getElem?_eq_some_iff.1 h5).2
   rw[he];exact⟨_,sb hn k b n,rfl,rfl⟩
theorem Tr.new(b n:Int):Tr (sK.aF 0 b n):=
 Tr.aF ⟨List.Pairwise.nil,fun x hx=>by cases hx⟩ (fun x hx=>by cases hx) ⟨fun x hx=>(by cases hx),fun x hx=>(by cases hx),fun d hd=>(by cases hd),fun i hi=>(by cases hi)⟩ 0 b n (fun _=>rfl)
theorem Tr.make{S:Fs}{N:Nat}(hk:av S N)(h:Tr S){a:An}(he:a.aB=[]):Tr (S.make a).1∧Sub S (S.make a).1∧((S.make a).2.2=0→(S.make a).2.1=S.last+1∧(S.make a).1.get (S.last+1)=some {a with no:=S.last+1}∧(S.make a).1.root a.dev=S.root a.dev):=by
 have hrefl:Sub S S:=fun k c hc=>⟨c,hc,rfl,rfl,rfl,rfl⟩;unfold Fs.make
 split
 ·exact⟨h,hrefl,fun h=>by cases h⟩
 ·split
  ·exact⟨h,hrefl,fun h=>by cases h⟩
  ·rename_i v hv;simp only
   split
   ·have h2:=h.aR (u:={v with b:=v.b+bR a.kind a.data.size,n:=v.n+1}) hv rfl rfl;have ig:=hk.aR (u:={v with b:=v.b+bR a.kind a.data.size,n:=v.n+1}) hv rfl;have hrt:=mi (u:={v with b:=v.b+bR a.kind a.data.size,n:=v.n+1}) hv rfl;refine⟨h2.add ig he,fun k c hc=>?_,fun _=>⟨rfl,?_,hrt _⟩⟩
    ·obtain⟨c',h3,h4,h5,h6,-⟩:=xP ig a k c hc;exact⟨c',h3,h4,h5,h6,hrt _⟩
    ·show Fs.get (Fs.add _ a) (S.last+1)=_;rw[lB ig.nums];exact if_pos rfl
   ·rename_i o3;exact⟨h,hrefl,fun h=>absurd h o3⟩
theorem Tr.dk{S:Fs}(h:Tr S)(now dir:Int)(l:List En)(hl:∀d,S.get dir=some d→d.kind=1∧qg S dir l):Tr (S.dk now dir l):=by
 unfold Fs.dk
 split
 ·exact h
 ·rename_i d hd;obtain⟨h1,h2⟩:=hl d hd;exact h.set (b:=d) (by show S.get d.no=_;rw[dx hd];exact hd) rfl rfl rfl (fun hq=>absurd h1 hq) (by show qg S d.no l;rw[dx hd];exact h2)
theorem Tr.cS{S:Fs}{N:Nat}(hk:av S N)(h:Tr S){a:An}(c:Cr)(now dir:Int)(s:ByteArray)(he:a.aB=[])(hu:a.kind=1→a.up=dir):Tr (S.cS c now dir s a).1:=by
 unfold Fs.cS
 split
 ·exact h
 ·rename_i hpl;obtain⟨d,hd,hdk,hce⟩:=eP (by simpa using hpl);rw[hd];simp only
  split
  ·exact h
  ·obtain⟨hdo,hdn,h1,h2⟩:=hk.get hd;obtain⟨m1,m2,m3⟩:=h.make hk (a:={a with dev:=d.dev,uid:=c.u,gid:=c.g,mtime:=now,ctime:=now,an:=1}) he
   split
   ·exact h
   ·rename_i h0;obtain⟨e1,e2,e3⟩:=m3 (by simpa using h0);refine m1.dk _ _ _ fun d2 nP=>?_;obtain⟨d3,zn,mD,-⟩:=m2 _ _ hd;rw[nP] at zn;injection zn with zn;subst zn;refine⟨by rw[mD];exact hdk,?_⟩;have hrow:=m2.row (h.row d (cx hd));rw[dx hd] at hrow;rw[e1];refine hrow.put s e2 (fun hq=>⟨hu hq,?_⟩) (fun _ x hx=>?_)
    ·show Fs.root _ d.dev≠S.last+1;rw[e3];show S.root d.dev≠S.last+1;obtain⟨v,-,hrt,-,hm⟩:=kO hk hdo.dev.1 hdo.dev.2;have h4:=(hk.root v hm).2;omega
    ·obtain⟨y,hy,-⟩:=(h.row d (cx hd)).down x hx;have:=ll hk.nums hy;omega
theorem Tr.br{S:Fs}{N:Nat}(hk:av S N)(h:Tr S)(c:Cr)(now dir:Int)(s:ByteArray)(m:Int):Tr (S.br c now dir s m).1:=by
 unfold Fs.br
 split
 ·exact h
 ·exact h.cS hk c now dir s rfl (fun _=>rfl)
theorem Tr.file{S:Fs}{N:Nat}(hk:av S N)(h:Tr S)(c:Cr)(now dir:Int)(s:ByteArray)(m:Int)(t:ByteArray):Tr (S.file c now dir s m t).1:=by
 unfold Fs.file
 split
 ·exact h
 ·split
  ·exact h
  ·exact h.cS hk c now dir s rfl (fun hq=>absurd hq (by dsimp only;decide))
theorem Tr.sym{S:Fs}{N:Nat}(hk:av S N)(h:Tr S)(c:Cr)(now dir:Int)(s t:ByteArray):Tr (S.sym c now dir s t).1:=by
 unfold Fs.sym
 split
 ·exact h
 ·split
  ·exact h
  ·exact h.cS hk c now dir s rfl (fun hq=>absurd hq (by dsimp only;decide))
theorem Tr.same{S:Fs}(h:Tr S){n m:An}(hn:S.get n.no=some n)(h0:m.no=n.no)(h1:m.kind=n.kind)(h2:m.dev=n.dev)(h3:m.up=n.up)(h4:m.aB=n.aB):Tr (S.set m):=
 h.set (b:=n) (by rw[h0];exact hn) h1 h2 h3 (by rw[h1,h4];exact h.leaf n (cx hn)) (by rw[h0,h4];exact h.row n (cx hn))
theorem gp{S:Fs}{k:Int}{n:An}(h:S.get k=some n):S.get n.no=some n:=by rw[dx h];exact h
theorem Tr.eL{S:Fs}(h:Tr S)(c:Cr)(now no dir:Int)(s:ByteArray):Tr (S.eL c now no dir s).1:=by
 unfold Fs.eL
 split
 ·exact h
 ·rename_i hpl;obtain⟨d0,nQ,hdk,hce⟩:=eP (by simpa using hpl)
  split
  ·rename_i d n hd hn;rw[hd] at nQ;injection nQ with nQ;subst nQ
   split
   ·exact h
   ·rename_i hnk
    split
    ·exact h
    ·split
     ·exact h
     ·split
      ·exact h
      ·have hs:=h.same (m:={n with an:=n.an+1,ctime:=now}) (gp hn) rfl rfl rfl rfl rfl;have hset:S.get ({n with an:=n.an+1,ctime:=now}:An).no=some n:=gp hn;have hno:=dx hn;refine hs.dk _ _ _ fun d2 nP=>?_;rw[gX hset] at nP;have hdn:dir≠n.no:=by
        rintro rfl;rw[hset] at hd;injection hd with hd;subst hd;exact hnk hdk
       rw[if_neg hdn,hd] at nP;injection nP with nP;subst nP;refine⟨hdk,?_⟩;have hsub:Sub S (S.set {n with an:=n.an+1,ctime:=now}):=fun k c hc=>by
        rw[gX hset]
        split
        ·rename_i hkn;rw[hkn,hset] at hc;injection hc with hc;subst hc;exact⟨_,rfl,rfl,rfl,rfl,rfl⟩
        ·exact⟨c,hc,rfl,rfl,rfl,rfl⟩
       have hrow:=hsub.row (h.row d (cx hd));rw[dx hd] at hrow;refine hrow.put s (b:={n with an:=n.an+1,ctime:=now}) ?_ (fun hq=>absurd hq hnk) (fun hq=>absurd hq hnk);rw[gX hset,if_pos hno.symm]
  ·exact h
theorem Tr.cL{S:Fs}(h:Tr S)(c:Cr)(now no m:Int):Tr (S.cL c now no m).1:=by
 unfold Fs.cL
 split
 ·exact h
 ·rename_i n hn
  split
  ·exact h
  ·split
   ·exact h
   ·exact h.same (gp hn) rfl rfl rfl rfl rfl
theorem Tr.cU{S:Fs}(h:Tr S)(c:Cr)(now no u g:Int):Tr (S.cU c now no u g).1:=by
 unfold Fs.cU
 split
 ·exact h
 ·rename_i n hn
  split
  ·exact h
  ·split
   ·exact h
   ·split
    ·exact h
    ·exact h.same (gp hn) rfl rfl rfl rfl rfl
theorem Tr.cQ{S:Fs}(h:Tr S)(c:Cr)(now no t:Int):Tr (S.cQ c now no t).1:=by
 unfold Fs.cQ
 split
 ·exact h
 ·rename_i n hn
  split
  ·exact h
  ·split
   ·exact h
   ·exact h.same (gp hn) rfl rfl rfl rfl rfl
theorem Tr.cn{S:Fs}{N:Nat}(hk:av S N)(h:Tr S)(k b n:Int):Tr (S.cn k b n).1:=by
 unfold Fs.cn
 split
 ·exact h
 ·split
  ·exact h
  ·split
   ·exact h
   ·split
    ·exact h
    ·exact h.aF hk.nums (fun a ha=>(hk.all a ha).dev.2) k b n (fun h0=>by
      have:=hk.d1;rw[h0] at this
      cases this)
theorem Tr.bT{S:Fs}{N:Nat}(hk:av S N)(h:Tr S)(m:Mt):Tr (bT S m):=by
 unfold Go.Proofs.YtinflmadpnigfaaGreatDoor.bT
 split
 ·exact h
 ·split
  ·have h1:=h.br hk bQ 0 (S.path bQ m.path false).1.dir (S.path bQ m.path false).1.name 493;have gP:=jE hk bQ 0 (S.path bQ m.path false).1.dir (S.path bQ m.path false).1.name 493;simp only
   split
   ·exact h1
   ·exact h1.cn gP _ _ _
  ·exact h.cn hk _ _ _
theorem Tr.aO{S:Fs}{N:Nat}(hk:av S N)(h:Tr S)(l:List Mt):Tr (aO S l):=by
 induction l generalizing S N with
 |nil=>exact h
 |cons m l ih=>
  unfold Go.Proofs.YtinflmadpnigfaaGreatDoor.aO;by_cases hm:m.path=jy
  ·rw[if_pos hm];exact ih hk h
  ·rw[if_neg hm];exact ih (nx hk m) (h.bT hk m)
theorem Tr.cm{S:Fs}{N:Nat}(hk:av S N)(h:Tr S)(it:It):Tr (cm S it).1:=by
 unfold Go.Proofs.YtinflmadpnigfaaGreatDoor.cm;simp only
 split
 ·exact h
 ·split
  ·split<;>exact h
  ·split
   ·exact h.br hk _ _ _ _ _
   ·split
    ·exact h.file hk _ _ _ _ _ _
    ·split
     ·exact h.sym hk _ _ _ _ _
     ·split
      ·split
       ·exact h.eL _ _ _ _ _
       ·exact h
      ·exact h
theorem Tr.ek{S:Fs}{N:Nat}(hk:av S N)(h:Tr S)(it:It):Tr (ek S it).1:=by
 unfold Go.Proofs.YtinflmadpnigfaaGreatDoor.ek;have h1:=h.cm hk it;simp only
 split
 ·exact(h1.cU _ _ _ _ _).cL _ _ _ _
 ·exact h1
theorem Tr.aX{S:Fs}{N:Nat}(hk:av S N)(h:Tr S)(l:List It):Tr (aX S l).1:=by
 induction l generalizing S N with
 |nil=>exact h
 |cons x l ih=>exact ih (qL hk x) (h.ek hk x)
theorem Tr.bS{S:Fs}(h:Tr S)(l:List (It×Int)):Tr (bS S l):=by
 induction l generalizing S with
 |nil=>exact h
 |cons x l ih=>
  unfold Go.Proofs.YtinflmadpnigfaaGreatDoor.bS;refine ih ?_
  split
  ·exact h.cQ _ _ _ _
  ·exact h
theorem Jj(ms:List Mt)(is:List It):Tr (dS ms is):=by
 unfold dS;simp only;have hk:=av.new (aS ms).1 (aS ms).2;exact Tr.bS (Tr.aX (fF hk ms) (Tr.aO hk (Tr.new _ _) ms) is) _
end
section
open Go.RowKit
structure Rw where
 path:ByteArray
 kind:Int
 mode:Int
 uid:Int
 gid:Int
 mtime:Int
 ctime:Int
 dev:Int
 first:Int
 data:ByteArray
 deriving DecidableEq
def oV(s n:ByteArray):ByteArray:=str (dA s.data.toList++47::n.data.toList)
def An.rw(n:An)(p:ByteArray)(first:Int):Rw:=⟨p,n.kind,n.mode,n.uid,n.gid,n.mtime,n.ctime,n.dev,first,n.data⟩
def Sc(p:ByteArray)(n:An):List En:=n.aB.map fun e=>⟨oV p e.name,e.no⟩
def Fs.I2(S:Fs):Nat→List En→List Int→List Rw→List Rw
 |0,_,_,out=>out
 |_+1,[],_,out=>out
 |f+1,x::todo,nos,out=>
  match S.get (S.over x.no) with
  |none=>S.I2 f todo nos out
  |some n=>S.I2 f (Sc x.name n++todo) (nos++[n.no]) (out++[n.rw x.name (nos.idxOf n.no)])
def Fs.RQ(S:Fs)(N:Nat):Nat:=1+(N+1)*S.ns.length
def Fs.rows(S:Fs)(N:Nat)(no:Int)(p:ByteArray):List Rw:=S.I2 (S.RQ N) [⟨p,no⟩] [] []
def Fs.isDir(S:Fs)(k:Int):Bool:=match S.get k with|some n=>n.kind==1|none=>false
def Fs.KH(S:Fs)(l:List En):List Int:=(l.map fun x=>S.over x.no).filter S.isDir
structure TrSt(S:Fs)(N:Nat)(s0:Int)(B:Nat)(todo:List En)(nos:List Int)(f:Nat):Prop where
 nodup:(S.KH todo++nos.filter S.isDir).Nodup
 src:∀c∈S.KH todo++nos.filter S.isDir,c=s0∨S.aQ c∈nos.filter S.isDir
 low:∀c∈S.KH todo++nos.filter S.isDir,s0≤c
 fuel:todo.length+(N+1)*(S.ns.length-(nos.filter S.isDir).length)≤f
 size:∀x∈todo,x.name.size≤B+256*(if S.isDir (S.over x.no) then(S.over x.no).toNat else S.last.toNat+1)
end
section
open Go.RowKit
def Fs.topF(S:Fs)(no:Int):Int×ByteArray×Int:=
 match S.get no with
 |none=>(0,ByteArray.empty,5)
 |some a=>match S.fZ (S.root a.dev) with
  |none=>(0,ByteArray.empty,5)
  |some s=>(S.root a.dev,s,0)
def Fs.pathF(S:Fs)(dir:Int)(n:ByteArray):ByteArray×Int:=
 if dD n≠0 then(ByteArray.empty,dD n) else
 match S.get dir with
 |none=>(ByteArray.empty,5)
 |some a=>if a.kind≠1 then(ByteArray.empty,9) else
  match S.fZ dir with
  |none=>(ByteArray.empty,5)
  |some s=>if 4096<(oV s n).size then(ByteArray.empty,13) else(oV s n,0)
def Fs.isRoot(S:Fs)(no:Int):Bool:=match S.get no with|none=>false|some a=>S.root a.dev==no
def Fs.RW(S:Fs)(c:Cr)(p:ByteArray):Fd×Int:=
 if ed p≠0 then(gC,ed p)
 else if iN p.data.toList=[] then(gC,1)
 else if(S.path c p false).2≠0 then(gC,(S.path c p false).2)
 else if(S.path c p false).1.no=0 then(gC,5)
 else if(S.path c p false).1.name=ByteArray.empty then(gC,1)
 else if S.busy (S.path c p false).1.no=true∨S.isRoot (S.path c p false).1.no=true then(gC,16)
 else((S.path c p false).1,0)
def There(S:Fs)(x:Fd×Int):Prop:=x.1.name=ByteArray.empty∨x.1.no=0∨∃a,S.get x.1.no=some a
section
variable{S:Fs}{no dir:Int}{n s:ByteArray}{a:An}
end
end
section
open Go.RowKit
def Cg(x:Int×Value×Nat):MapEntry:={key:=.int .i64 x.1,val:=x.2.1,born:=x.2.2}
def ep(w:World)(m:Nat)(l:List (Int×Value×Nat))(ga:Nat):Prop:=w.heap[m]?=some (.map (l.map Cg).toArray ga)
def jK(l:List (Int×Value×Nat)):Prop:=(l.map (·.1)).Nodup
def fv(l:List (Int×Value×Nat))(k:Int):Option Value:=(l.find? (fun x=>x.1==k)).map (·.2.1)
def jF(l:List (Int×Value×Nat))(k:Int)(v:Value):List (Int×Value×Nat):=l.map fun x=>if x.1==k then(k,v,x.2.2) else x
def mapDel(l:List (Int×Value×Nat))(k:Int):List (Int×Value×Nat):=l.filter fun x=>!(x.1==k)
theorem ep.lt{w:World}{m:Nat}{l:List (Int×Value×Nat)}{ga:Nat}(h:ep w m l ga):m<w.heap.size:=by
 unfold ep at h;exact(Array.getElem?_eq_some_iff.1 h).1
theorem ep.eE{w:World}{m:Nat}{l:List (Int×Value×Nat)}{ga:Nat}(h:ep w m l ga)(o:Obj):ep (w.alloc o) m l ga:=
 (Below.heap_alloc w o m h.lt).trans h
theorem ep.ak{w w':World}{m:Nat}{l:List (Int×Value×Nat)}{ga:Nat}(h:ep w m l ga)(hb:Up w w'):ep w' m l ga:=
 (hb.block m h.lt).trans h
theorem ep.setOther{w:World}{m:Nat}{l:List (Int×Value×Nat)}{ga:Nat}(h:ep w m l ga)(a:Addr)(v:Value)(hne:a.block≠m):ep (w.setCell a v) m l ga:=
 (Below.heap_setCell w a v m (fun e=>hne e.symm)).trans h
theorem pV(k:Int):∀(l:List (Int×Value×Nat)) (i:Nat),
  Instr.findNow (.int .i64) (.int .i64 k) (l.map Cg) i=some ((l.findIdx? (fun x=>x.1==k)).bind fun j=>(l[j]?).map fun x=>(i+j,x.2.1))
 | [],i=>by simp[Instr.findNow]
 |x::l,i=>by
  have ih:=pV k l (i+1);rw[List.map_cons];unfold Instr.findNow;have hs:Instr.sameNow (.int .i64) (.int .i64 k) (Cg x).key=some (k==x.1):=by simp[Instr.sameNow,Cg]
  rw[hs];by_cases e:x.1=k
  ·subst e;simp[List.findIdx?_cons,Cg]
  ·have e1:(k==x.1)=false:=by simpa using fun h=>e h.symm
   have e2:(x.1==k)=false:=by simpa using e
   rw[e1];show Instr.findNow _ _ _ _=_;rw[ih];simp only[List.findIdx?_cons,e2,Bool.false_eq_true,if_false];congr 1
   cases List.findIdx? (fun x=>x.1==k) l with
   |none=>rfl
   |some j=>simp;congr 1;funext y;simp;omega
theorem mw(k:Int):∀(l:List (Int×Value×Nat)),fv l k=(l.findIdx? (fun x=>x.1==k)).bind fun j=>(l[j]?).map fun x=>x.2.1
 | []=>rfl
 |x::l=>by
  have ih:=mw k l;unfold fv at ih⊢;by_cases e:(x.1==k)=true
  ·simp[List.findIdx?_cons,e]
  ·simp only[Bool.not_eq_true] at e;simp only[List.find?_cons,List.findIdx?_cons,e,Bool.false_eq_true,if_false,ih]
   cases List.findIdx? (fun x=>x.1==k) l<;>simp
theorem tY(k:Int)(v:Value):∀(l:List (Int×Value×Nat)) (j:Nat),jK l→l.findIdx? (fun x=>x.1==k)=some j→
  ((l.map Cg).modify j fun e=>{e with key:=.int .i64 k,val:=v})=(jF l k v).map Cg
 | [],j,_,h=>by simp at h
 |x::l,j,hn,h=>by
  unfold jK at hn;simp only[List.map_cons,List.nodup_cons] at hn;obtain⟨hx,hl⟩:=hn;by_cases e:(x.1==k)=true
  ·simp only[List.findIdx?_cons,e,if_true,Option.some.injEq] at h;subst h;have e':x.1=k:=by simpa using e
   have hrest:jF l k v=l:=by
    unfold jF;rw[List.map_congr_left (g:=id)]
    ·simp
    ·intro y hy;have:¬y.1=k:=fun h'=>hx (by rw[e',←h'];exact List.mem_map.2 ⟨y,hy,rfl⟩);simp[this]
   have hput:jF (x::l) k v=(k,v,x.2.2)::l:=by
    unfold jF at hrest⊢;rw[List.map_cons,hrest,e,if_pos rfl]
   rw[hput];rfl
  ·simp only[Bool.not_eq_true] at e;simp only[List.findIdx?_cons,e,Bool.false_eq_true,if_false,Option.map_eq_some_iff] at h;obtain⟨j',hj,rfl⟩:=h;have ih:=tY k v l j' hl hj;unfold jF at ih⊢;simp only[List.map_cons,List.modify_succ_cons,e,Bool.false_eq_true,if_false];rw[ih]
theorem kZ{l:List (Int×Value×Nat)}{k:Int}:fv l k=none↔l.findIdx? (fun x=>x.1==k)=none:=by
 rw[List.findIdx?_eq_none_iff];unfold fv;simp
section
variable{P:Program}{K E T:TypeId}{w:World}{m:Nat}{l:List (Int×Value×Nat)}{ga:Nat}
theorem jn(b:Bool)(hk:P.underlying K=some (.int .i64))(v:Value)(w:World):(Instr.checkKey b 10000 K v).run P w=.ok () w:=by
 unfold Instr.checkKey;simp[run_underlying hk]
theorem run_findKey(hk:P.underlying K=some (.int .i64))(k:Int)(w:World):(Instr.findKey K (.int .i64 k) (l.map Cg)).run P w=.ok ((l.findIdx? (fun x=>x.1==k)).bind fun j=>(l[j]?).map fun x=>(j,x.2.1)) w:=by
 unfold Instr.findKey;simp[run_underlying hk,pV]
theorem tp(ht:P.underlying T=some (.map K E))(hk:P.underlying K=some (.int .i64))(h:ep w m l ga){k:Int}{v:Value}(hf:fv l k=some v) :
  (Instr.lookup T (.map (some m)) (.int .i64 k) true).run P w=.ok (.tuple #[v,.bool true]) w:=by
 rw[mw] at hf;unfold ep at h;simp only[Option.bind_eq_some_iff,Option.map_eq_some_iff] at hf;obtain⟨j,hj,x,hx,rfl⟩:=hf;unfold Instr.lookup;simp[run_underlying ht,getObj,Sem.run,h,jn _ hk,run_findKey hk,hj,hx]
theorem vw(ht:P.underlying T=some (.map K E))(hk:P.underlying K=some (.int .i64))(h:ep w m l ga){k:Int}(hf:fv l k=none){z:Value}(hz:(zeroValue E).run P w=.ok z w) :
  (Instr.lookup T (.map (some m)) (.int .i64 k) true).run P w=.ok (.tuple #[z,.bool false]) w:=by
 rw[kZ] at hf;unfold ep at h;unfold Instr.lookup;simp[run_underlying ht,getObj,Sem.run,h,jn _ hk,run_findKey hk,hf,hz]
theorem Mu(ht:P.underlying T=some (.map K E))(hk:P.underlying K=some (.int .i64))(h:ep w m l ga)(hn:jK l){k:Int}{v0 v:Value}(hf:fv l k=some v0) :
  (Instr.mapUpdate T (.map (some m)) (.int .i64 k) v).run P w=.ok () (ChangeMaps.setBlock w m (.map ((jF l k v).map Cg).toArray ga)):=by
 rw[mw] at hf;unfold ep at h;simp only[Option.bind_eq_some_iff,Option.map_eq_some_iff] at hf;obtain⟨j,hj,x,hx,rfl⟩:=hf;have hp:=tY k v l j hn hj;have hxk:x.1=k:=by
  obtain⟨hlt,h1,-⟩:=List.findIdx?_eq_some_iff_getElem.1 hj;rw[List.getElem?_eq_getElem hlt] at hx;obtain rfl:=Option.some.inj hx;simpa using h1
 have hst:(Instr.keyThatStays (Cg x).key (.int .i64 k)).run P w=.ok (.int .i64 k) w:=by
  subst hxk;simp[Instr.keyThatStays,Instr.sameBits,Cg]
 unfold Instr.mapUpdate;simp[run_underlying ht,getObj,setObj,Sem.run,h,jn _ hk,run_findKey hk,hj,hx,hst,hp,ChangeMaps.setBlock]
theorem Mw(ht:P.underlying T=some (.map K E))(hk:P.underlying K=some (.int .i64))(h:ep w m l ga){k:Int}{v:Value}(hf:fv l k=none) :
  (Instr.mapUpdate T (.map (some m)) (.int .i64 k) v).run P w=.ok () (ChangeMaps.setBlock w m (.map ((l++[(k,v,ga)]).map Cg).toArray (ga+1))):=by
 rw[kZ] at hf;unfold ep at h;unfold Instr.mapUpdate;simp[run_underlying ht,getObj,setObj,Sem.run,h,jn _ hk,run_findKey hk,hf,ChangeMaps.setBlock,Cg]
theorem Mv(ht:P.underlying T=some (.map K E))(h:ep w m l ga)(ty:TypeId) :
  (Builtin.len_ #[T] ty #[.map (some m)]).run P w=.ok (.int .i64 l.length) w:=by
 unfold ep at h;unfold Builtin.len_;simp[run_underlying ht,getObj,Sem.run,h,goInt]
theorem ep.set(h:ep w m l ga)(l':List (Int×Value×Nat))(clk':Nat) :
  ep (ChangeMaps.setBlock w m (.map (l'.map Cg).toArray clk')) m l' clk'∧(∀B vs T,au w B vs T→au (ChangeMaps.setBlock w m (.map (l'.map Cg).toArray clk')) B vs T)∧
   Mod (fun k=>k=m) w (ChangeMaps.setBlock w m (.map (l'.map Cg).toArray clk')):=by
 have hlt:=h.lt;refine⟨?_,?_,(Mod.refl (fun k=>k=m) w).setBlock (b:=m) (.inl rfl) _⟩
 ·unfold ep;simp[ChangeMaps.setBlock,hlt]
 ·intro B vs T hB;refine hB.setBlock ?_ _;rintro rfl;unfold au at hB;unfold ep at h;rw[h] at hB
  cases hB
theorem IM(ht:P.underlying T=some (.map K E))(hk:P.underlying K=some (.int .i64))(h:ep w m l ga)(hn:jK l){k:Int}{v0:Value}(v:Value)(hf:fv l k=some v0) :
  ∃W,(Instr.mapUpdate T (.map (some m)) (.int .i64 k) v).run P w=.ok () W∧ep W m (jF l k v) ga∧(∀B vs T,au w B vs T→au W B vs T)∧Mod (fun k=>k=m) w W:=
 ⟨_,Mu ht hk h hn hf,h.set _ _⟩
theorem IP(ht:P.underlying T=some (.map K E))(hk:P.underlying K=some (.int .i64))(h:ep w m l ga){k:Int}(v:Value)(hf:fv l k=none) :
  ∃W,(Instr.mapUpdate T (.map (some m)) (.int .i64 k) v).run P w=.ok () W∧ep W m (l++[(k,v,ga)]) (ga+1)∧(∀B vs T,au w B vs T→au W B vs T)∧Mod (fun k=>k=m) w W:=
 ⟨_,Mw ht hk h hf,h.set _ _⟩
end
end
section
open Go.RowKit
structure Nd where
 no:Int
 dev:Int
 kind:Int
 mode:Int
 uid:Int
 gid:Int
 mtime:Int
 ctime:Int
 an:Int
 up:Int
 data:ByteArray
 ea:Option Addr
 el:Nat
 ec:Nat
def Nd.v(n:Nd):Value:=.agg #[.int .i64 n.no,.int .i64 n.dev,.int .i64 n.kind,.int .i64 n.mode,.int .i64 n.uid,.int .i64 n.gid,.int .i64 n.mtime,.int .i64 n.ctime,.int .i64 n.an,.int .i64 n.up,.string n.data,.slice n.ea n.el n.ec]
def nd0:Nd:=⟨0,0,0,0,0,0,0,0,0,0,ByteArray.empty,none,0,0⟩
def jB(x:Nd×Nat):Int×Value×Nat:=(x.1.no,x.1.v,x.2)
def lu(L:List (Nd×Nat))(k:Int):Option Nd:=(L.find? (fun x=>x.1.no==k)).map (·.1)
structure Ch(w:World)(p m:Nat)(last:Int)(L:List (Nd×Nat))(ga:Nat):Prop where
 bd:au w p #[.map (some m),.int .i64 last] 245
 map:ep w m (L.map jB) ga
 once:jK (L.map jB)
 low:∀x∈L,x.1.no≤last
theorem qT{L:List (Nd×Nat)}{last:Int}(h:∀x∈L,x.1.no≤last):fv (L.map jB) (last+1)=none:=by
 rw[kZ,List.findIdx?_eq_none_iff];simp only[List.mem_map,forall_exists_index,and_imp];rintro _ x hx rfl;have:=h x hx;simp[jB];omega
theorem NS(n:Nd)(w:World)(p m:Nat)(last:Int)(L:List (Nd×Nat))(ga:Nat)(hT:Ch w p m last L ga)(dL:0≤last)(qk:last≤1000000) :
  Calls Tryz.prog 222 #[.pointer (some ⟨p,0,none⟩),n.v] w fun e w'=>e=.returned (.int .i64 (last+1))∧Ch w' p m (last+1) (L++[({n with no:=last+1},ga)]) (ga+1)∧Mod (fun k=>k=p∨k=m) w w':=by
 obtain⟨pc,pf,pz⟩:=hT.bd.facts;have mz:=hT.map.lt;have hpm:p≠m:=by
  rintro rfl;have h1:=hT.bd;have h2:=hT.map;unfold au at h1;unfold ep at h2;rw[h1] at h2
  cases h2
 have hfn:=qT hT.low;have pw:p≠w.heap.size:=by omega
 have wp':w.heap.size≠p:=by omega
 have hq:∀(w:World) (r:Option Nat),(binOp .eql 243 (.map r) (.map none)).run Tryz.prog w=.ok (.bool r.isNone) w:=fun w r=>run_eql_map_nil w _ _ _ r Tryz.underlying243;unfold Nd.v;go_enter Tryz.func222,Tryz.ntmps222;go_wp2_with fail;have b1:=(hT.bd.set 1 (.int .i64 (last+1))).eE (.cells #[.int .i64 (last+1),.int .i64 n.dev,.int .i64 n.kind,.int .i64 n.mode,.int .i64 n.uid,.int .i64 n.gid,.int .i64 n.mtime,.int .i64 n.ctime,.int .i64 n.an,.int .i64 n.up,.string n.data,.slice n.ea n.el n.ec] 99);have b2:=au.new (w.setCell ⟨p,1,none⟩ (.int .i64 (last+1))) #[.int .i64 (last+1),.int .i64 n.dev,.int .i64 n.kind,.int .i64 n.mode,.int .i64 n.uid,.int .i64 n.gid,.int .i64 n.mtime,.int .i64 n.ctime,.int .i64 n.an,.int .i64 n.up,.string n.data,.slice n.ea n.el n.ec] 99;have b3:=(hT.map.setOther ⟨p,1,none⟩ (.int .i64 (last+1)) hpm).eE (.cells #[.int .i64 (last+1),.int .i64 n.dev,.int .i64 n.kind,.int .i64 n.mode,.int .i64 n.uid,.int .i64 n.gid,.int .i64 n.mtime,.int .i64 n.ctime,.int .i64 n.an,.int .i64 n.up,.string n.data,.slice n.ea n.el n.ec] 99);have b4:=((Mod.refl (fun k=>k=p∨k=m) w).setCell (a:=⟨p,1,none⟩) (.inl (.inl rfl)) (.int .i64 (last+1))).alloc (.cells #[.int .i64 (last+1),.int .i64 n.dev,.int .i64 n.kind,.int .i64 n.mode,.int .i64 n.uid,.int .i64 n.gid,.int .i64 n.mtime,.int .i64 n.ctime,.int .i64 n.an,.int .i64 n.up,.string n.data,.slice n.ea n.el n.ec] 99);rw[World.size_setCell] at b2;generalize (w.setCell ⟨p,1,none⟩ (.int .i64 (last+1))).alloc (.cells #[.int .i64 (last+1),.int .i64 n.dev,.int .i64 n.kind,.int .i64 n.mode,.int .i64 n.uid,.int .i64 n.gid,.int .i64 n.mtime,.int .i64 n.ctime,.int .i64 n.an,.int .i64 n.up,.string n.data,.slice n.ea n.el n.ec] 99)=W at b1 b2 b3 b4⊢;obtain⟨pc',-,-⟩:=b1.facts;obtain⟨nc,-,-⟩:=b2.facts;obtain⟨W2,hrun,b5,b6,b7⟩:=IP (w:=W.drew) Tryz.underlying243 Tryz.underlying3 b3 (.agg #[.int .i64 (last+1),.int .i64 n.dev,.int .i64 n.kind,.int .i64 n.mode,.int .i64 n.uid,.int .i64 n.gid,.int .i64 n.mtime,.int .i64 n.ctime,.int .i64 n.an,.int .i64 n.up,.string n.data,.slice n.ea n.el n.ec]) hfn;obtain⟨nc2,-,-⟩:=(b6 _ _ _ b2).facts;clear pc pf
 go_region
 go_wp2_with fail;go_ret;refine⟨rfl,⟨b6 _ _ _ b1,by rw[List.map_append];exact b5,?_,?_⟩,(b4.drew).trans (b7.mono fun k hk=>.inr hk)⟩
 ·have:=hT.once;unfold jK at this⊢;rw[List.map_append,List.map_append,List.nodup_append];refine⟨this,by simp,?_⟩;simp only[List.mem_map,List.mem_cons,List.not_mem_nil,or_false,forall_exists_index,and_imp];rintro a y x hx rfl rfl b y' x' rfl rfl rfl;have:=hT.low x hx;simp only[jB];omega
 ·intro x hx;rcases List.mem_append.1 hx with hx|hx
  ·have:=hT.low x hx;omega
  ·simp only[List.mem_cons,List.not_mem_nil,or_false] at hx;subst hx;exact Int.le_refl _
theorem mv(L:List (Nd×Nat))(k:Int):fv (L.map jB) k=(lu L k).map Nd.v:=by
 unfold fv lu;rw[List.find?_map];have:(fun x:Int×Value×Nat=>x.1==k) ∘ jB=fun x:Nd×Nat=>x.1.no==k:=rfl;rw[this]
 cases List.find? (fun x:Nd×Nat=>x.1.no==k) L<;>rfl
theorem Gt(w:World) :
  Calls Tryz.prog 208 #[] w fun e w'=>e=.returned (.pointer (some ⟨w.heap.size+1,0,none⟩))∧Ch w' (w.heap.size+1) w.heap.size 0 [] 0∧Up w w':=by
 have hmm:=@run_makeMap Tryz.prog;go_enter Tryz.func208,Tryz.ntmps208
 go_wp2
 go_ret;refine⟨rfl,⟨?_,?_,List.nodup_nil,by simp⟩,by go_grown⟩
 ·have:=au.new (w.alloc (.map #[] 0)) #[.map (some w.heap.size),.int .i64 0] 245
  rwa [World.size_alloc] at this
 ·unfold ep;rw[Below.heap_alloc _ _ _ (by simp)];show(w.heap.push _)[w.heap.size]?=_;simp
theorem yI(n:Nd)(k:Int)(w:World)(p m:Nat)(last:Int)(L:List (Nd×Nat))(ga:Nat)(hT:Ch w p m last L ga)(hf:lu L k=some n) :
  Calls Tryz.prog 106 #[.pointer (some ⟨p,0,none⟩),.int .i64 k] w fun e w'=>e=.returned (.tuple #[n.v,.bool true])∧Up w w':=by
 obtain⟨pc,pf,pz⟩:=hT.bd.facts;have hr:∀o,(Instr.lookup 243 (.map (some m)) (.int .i64 k) true).run Tryz.prog (w.alloc o)=.ok (.tuple #[.agg #[.int .i64 n.no,.int .i64 n.dev,.int .i64 n.kind,.int .i64 n.mode,.int .i64 n.uid,.int .i64 n.gid,.int .i64 n.mtime,.int .i64 n.ctime,.int .i64 n.an,.int .i64 n.up,.string n.data,.slice n.ea n.el n.ec],.bool true]) (w.alloc o):=fun o=>
  tp Tryz.underlying243 Tryz.underlying3 (hT.map.eE o) (by rw[mv,hf];rfl)
 clear hf;unfold Nd.v;go_enter Tryz.func106,Tryz.ntmps106
 go_wp2
 go_returns
 exact⟨rfl,by go_grown⟩
theorem E4(w:World):(zeroValue 99).run Tryz.prog w=.ok nd0.v w:=by kernel_rfl
theorem P5(k:Int)(w:World)(p m:Nat)(last:Int)(L:List (Nd×Nat))(ga:Nat)(hT:Ch w p m last L ga)(hf:lu L k=none) :
  Calls Tryz.prog 106 #[.pointer (some ⟨p,0,none⟩),.int .i64 k] w fun e w'=>e=.returned (.tuple #[nd0.v,.bool false])∧Up w w':=by
 obtain⟨pc,pf,pz⟩:=hT.bd.facts;have hr:∀o,(Instr.lookup 243 (.map (some m)) (.int .i64 k) true).run Tryz.prog (w.alloc o)=.ok (.tuple #[.agg #[.int .i64 0,.int .i64 0,.int .i64 0,.int .i64 0,.int .i64 0,.int .i64 0,.int .i64 0,.int .i64 0,.int .i64 0,.int .i64 0,.string ByteArray.empty,.slice none 0 0],.bool false]) (w.alloc o):=fun o=>
  vw Tryz.underlying243 Tryz.underlying3 (hT.map.eE o) (by rw[mv,hf];rfl) (E4 _)
 clear hf;unfold Nd.v nd0;go_enter Tryz.func106,Tryz.ntmps106
 go_wp2
 go_returns
 exact⟨rfl,by go_grown⟩
end
section
open Go.RowKit
theorem Ch.ak{w w':World}{p m:Nat}{last:Int}{L:List (Nd×Nat)}{ga:Nat}(h:Ch w p m last L ga)(hb:Up w w'):Ch w' p m last L ga:=
 ⟨h.bd.ak hb,h.map.ak hb,h.once,h.low⟩
theorem Ch.ne{w:World}{p m:Nat}{last:Int}{L:List (Nd×Nat)}{ga:Nat}(hT:Ch w p m last L ga):p≠m:=by
 rintro rfl;have h1:=hT.bd;have h2:=hT.map;unfold au at h1;unfold ep at h2;rw[h1] at h2
 cases h2
theorem tX(L:List (Nd×Nat))(n:Nd):jF (L.map jB) n.no n.v=(L.map fun x=>if x.1.no==n.no then(n,x.2) else x).map jB:=by
 unfold jF;rw[List.map_map,List.map_map];apply List.map_congr_left;intro x _;by_cases h:x.1.no=n.no<;>simp[jB,h]
theorem Mm(n0 n:Nd)(w:World)(p m:Nat)(last:Int)(L:List (Nd×Nat))(ga:Nat)(hT:Ch w p m last L ga)(hf:lu L n.no=some n0) :
  Calls Tryz.prog 109 #[.pointer (some ⟨p,0,none⟩),n.v] w fun e w'=>e=.returned (.bool true)∧Ch w' p m last (L.map fun x=>if x.1.no==n.no then(n,x.2) else x) ga∧Mod (fun k=>k=p∨k=m) w w':=by
 have Hg:=Um (fun w' hT'=>yI n0 n.no w' p m last L ga hT' hf);have Hf:=Um (show fv (L.map jB) n.no=some n0.v by rw[mv,hf];rfl);clear hf;have hpm:=hT.ne;have pw:p≠w.heap.size:=by have:=hT.bd.lt;omega
 unfold Nd.v;go_enter Tryz.func109,Tryz.ntmps109;go_wp2_with fail;refine(Hg.o _ (hT.ak ((Below.refl _ _).alloc (aa _) _))).mono ?_;unfold Nd.v;rintro e w1 ⟨rfl,ar⟩;go_wp2_with fail;have b1:=(((hT.bd.eE (.cells #[.int .i64 n.no,.int .i64 n.dev,.int .i64 n.kind,.int .i64 n.mode,.int .i64 n.uid,.int .i64 n.gid,.int .i64 n.mtime,.int .i64 n.ctime,.int .i64 n.an,.int .i64 n.up,.string n.data,.slice n.ea n.el n.ec] 99)).ak ar).eE (.cells #[.int .i64 n0.no,.int .i64 n0.dev,.int .i64 n0.kind,.int .i64 n0.mode,.int .i64 n0.uid,.int .i64 n0.gid,.int .i64 n0.mtime,.int .i64 n0.ctime,.int .i64 n0.an,.int .i64 n0.up,.string n0.data,.slice n0.ea n0.el n0.ec] 99)).drew;have b2:=(((au.new w #[.int .i64 n.no,.int .i64 n.dev,.int .i64 n.kind,.int .i64 n.mode,.int .i64 n.uid,.int .i64 n.gid,.int .i64 n.mtime,.int .i64 n.ctime,.int .i64 n.an,.int .i64 n.up,.string n.data,.slice n.ea n.el n.ec] 99).ak ar).eE (.cells #[.int .i64 n0.no,.int .i64 n0.dev,.int .i64 n0.kind,.int .i64 n0.mode,.int .i64 n0.uid,.int .i64 n0.gid,.int .i64 n0.mtime,.int .i64 n0.ctime,.int .i64 n0.an,.int .i64 n0.up,.string n0.data,.slice n0.ea n0.el n0.ec] 99)).drew;have qo:=((hT.ak ((Below.refl _ _).alloc (aa _) _)).ak ar).ak ((Uq w1).alloc (aa _) (.cells #[.int .i64 n0.no,.int .i64 n0.dev,.int .i64 n0.kind,.int .i64 n0.mode,.int .i64 n0.uid,.int .i64 n0.gid,.int .i64 n0.mtime,.int .i64 n0.ctime,.int .i64 n0.an,.int .i64 n0.up,.string n0.data,.slice n0.ea n0.el n0.ec] 99));have b4:Mod (fun k=>k=p∨k=m) w (w1.alloc (.cells #[.int .i64 n0.no,.int .i64 n0.dev,.int .i64 n0.kind,.int .i64 n0.mode,.int .i64 n0.uid,.int .i64 n0.gid,.int .i64 n0.mtime,.int .i64 n0.ctime,.int .i64 n0.an,.int .i64 n0.up,.string n0.data,.slice n0.ea n0.el n0.ec] 99)):=(((Mod.refl _ w).alloc _).trans (.aq ar)).alloc _;clear ar;generalize w1.alloc _=W at b1 b2 qo b4⊢;obtain⟨pc',-,-⟩:=b1.facts;obtain⟨nc,-,-⟩:=b2.facts;obtain⟨W2,hrun,b5,b6,b7⟩:=IM (w:=W.drew) Tryz.underlying243 Tryz.underlying3 qo.map qo.once (.agg #[.int .i64 n.no,.int .i64 n.dev,.int .i64 n.kind,.int .i64 n.mode,.int .i64 n.uid,.int .i64 n.gid,.int .i64 n.mtime,.int .i64 n.ctime,.int .i64 n.an,.int .i64 n.up,.string n.data,.slice n.ea n.el n.ec]) Hf.o
 go_region
 go_wp2_with fail;go_ret;refine⟨rfl,⟨b6 _ _ _ qo.bd,by rw[←tX];exact b5,?_,?_⟩,(b4.drew).trans (b7.mono fun k hk=>.inr hk)⟩
 ·have:=hT.once;rw[←tX];unfold jK at this⊢;unfold jF;rw[List.map_map,List.map_congr_left (g:=fun x=>x.1)]
  ·exact this
  ·intro x _;simp only[Function.comp]
   split
   ·rename_i h;simpa using (beq_iff_eq.1 h).symm
   ·rfl
 ·intro x hx;obtain⟨y,hy,rfl⟩:=List.mem_map.1 hx;have:=hT.low y hy
  split
  ·rename_i h;have:=beq_iff_eq.1 h;simp only;omega
  ·exact this
theorem Gy(w:World)(p m:Nat)(last:Int)(L:List (Nd×Nat))(ga:Nat)(hT:Ch w p m last L ga) :
  Calls Tryz.prog 128 #[.pointer (some ⟨p,0,none⟩)] w fun e w'=>e=.returned (.int .i64 L.length)∧w=w':=by
 obtain⟨pc,-,pz⟩:=hT.bd.facts;have hr:=Mv Tryz.underlying243 hT.map 3;rw[List.length_map] at hr;go_enter Tryz.func128,Tryz.ntmps128
 go_wp2
 go_ret;exact⟨rfl,rfl⟩
end
section
open Go.RowKit
def BytesAt(w:World)(a:Option Addr)(len cap:Nat)(zs:List Int):Prop:=
 (a=none∧len=0∧cap=0∧zs=[])∨(∃b off:Nat,a=some ⟨b,off,none⟩∧len≤cap∧cap≤9223372036854775807∧zs.length=cap∧∀j,j<cap→b<w.heap.size∧w.cell? ⟨b,off+j,none⟩=some (.int .u8 (zs.getD j 0))∧0≤zs.getD j 0∧zs.getD j 0≤255)
end
section
open Go.RowKit
def cH(x:En):List Value:=[.string x.name,.int .i64 x.no]
theorem bM(x:En):(cH x).length=2:=rfl
def Tp(cs:List Value)(x:En):Prop:=cs=cH x
structure aA(w:World)(a:Option Addr)(n c:Nat)(es:List En):Prop where
 sl:bj w 2 Tp a n c es
 bd:∀p,a=some p→∃b off cur,p=⟨b,off,none⟩∧w.heap[b]?=some (.cells cur 271 (0,0))
theorem aA.nil(w:World):aA w none 0 0 []:=⟨⟨rfl,aa _,by omega,.inl rfl⟩,fun p h=>by cases h⟩
theorem aA.len{w:World}{a:Option Addr}{n c:Nat}{es:List En}(h:aA w a n c es):es.length=n:=h.sl.1
theorem aA.eB{w w':World}{a:Option Addr}{n c:Nat}{es:List En}(h:aA w a n c es)(ht:∀(b:Nat) (cur:Array Value),w.heap[b]?=some (.cells cur 271 (0,0))→w'.heap[b]?=w.heap[b]?)(hs:w.heap.size≤w'.heap.size):aA w' a n c es:=by
 refine⟨⟨h.sl.1,h.sl.2.1,h.sl.2.2.1,h.sl.2.2.2.imp id ?_⟩,fun p hp=>?_⟩
 ·rintro⟨b,off,rfl,hb,hel⟩;obtain⟨b',off',cur,e,hblk⟩:=h.bd _ rfl;injection e with e1 e2;subst e1 e2;refine⟨b,off,rfl,Nat.lt_of_lt_of_le hb hs,fun i hi=>?_⟩;obtain⟨cs,h1,h2,h3⟩:=hel i hi;refine⟨cs,h1,h2,fun j hj=>?_⟩;rw[←h3 j hj];simp only[World.cell?,ht _ _ hblk]
 ·obtain⟨b,off,cur,e,hblk⟩:=h.bd p hp;exact⟨b,off,cur,e,(ht _ _ hblk).trans hblk⟩
theorem aA.ak{w w':World}{a:Option Addr}{n c:Nat}{es:List En}(h:aA w a n c es)(hb:Up w w'):aA w' a n c es:=
 h.eB (fun b cur hc=>hb.block b (Array.getElem?_eq_some_iff.1 hc).1) hb.size
theorem aA.gI{w w':World}{a:Option Addr}{n c N:Nat}{es:List En}(h:aA w a n c es)(hb:Below N w w')(hN:w.heap.size≤N):aA w' a n c es:=
 h.eB (fun b cur hc=>hb.block b (Nat.lt_of_lt_of_le (Array.getElem?_eq_some_iff.1 hc).1 hN)) hb.size
theorem aA.cell{w:World}{b off n c:Nat}{es:List En}(h:aA w (some ⟨b,off,none⟩) n c es)(k:Nat)(hk:k<es.length) :
  w.cell? ⟨b,off+k*2,none⟩=some (.string es[k].name)∧w.cell? ⟨b,off+k*2+1,none⟩=some (.int .i64 es[k].no):=by
 obtain⟨hl,-,-,h0|⟨b',off',he,hb,hel⟩⟩:=h.sl
 ·omega
 ·injection he with he;injection he with e1 e2;subst e1 e2;obtain⟨cs,h1,h2,h3⟩:=hel k hk;subst h2;exact⟨h3 0 (by rw[bM];omega),h3 1 (by rw[bM];omega)⟩
theorem aA.ey{w:World}{a:Option Addr}{n c:Nat}{es:List En}(h:aA w a n c es)(hn:0<n):∃b off,a=some ⟨b,off,none⟩∧b<w.heap.size:=by
 obtain⟨-,-,-,h0|⟨b',off',he,hb,-⟩⟩:=h.sl
 ·omega
 ·exact⟨b',off',he,hb⟩
def An.v(a:An)(ea:Option Addr)(el ec:Nat):Value:=.agg #[.int .i64 a.no,.int .i64 a.dev,.int .i64 a.kind,.int .i64 a.mode,.int .i64 a.uid,.int .i64 a.gid,.int .i64 a.mtime,.int .i64 a.ctime,.int .i64 a.an,.int .i64 a.up,.string a.data,.slice ea el ec]
def An.nd(a:An)(ea:Option Addr)(el ec:Nat):Nd:=⟨a.no,a.dev,a.kind,a.mode,a.uid,a.gid,a.mtime,a.ctime,a.an,a.up,a.data,ea,el,ec⟩
structure Gn where
 a:An
 ea:Option Addr
 el:Nat
 ec:Nat
 ga:Nat
def Gn.nd(g:Gn):Nd:=g.a.nd g.ea g.el g.ec
def Gn.e(g:Gn):Nd×Nat:=(g.nd,g.ga)
def Dv.cs(d:Dv):List Value:=[.int .i64 d.root,.int .i64 d.over,.int .i64 d.b,.int .i64 d.n,.int .i64 d.mb,.int .i64 d.mn]
theorem Dv.bt(d:Dv):d.cs.length=6:=rfl
structure Rp where
 pt:Nat
 pm:Nat
 dv:Value
 G:List Gn
 ga:Nat
def Rp.F(R:Rp)(pw:Nat)(k:Nat):Prop:=k=pw∨k=R.pt∨k=R.pm∨R.dv.ownBlock=some k
structure bh(w:World)(pw:Nat)(R:Rp)(S:Fs):Prop where
 bd:au w pw #[.pointer (some ⟨R.pt,0,none⟩),R.dv] 188
 tab:Ch w R.pt R.pm S.last (R.G.map Gn.e) R.ga
 eI:w.ownsRow 0 249 6 R.dv S.ds.length (S.ds.flatMap Dv.cs)
 ns:S.ns=R.G.map (·.a)
 aB:∀g∈R.G,aA w g.ea g.el g.ec g.a.aB
structure aL(F F':Nat→Prop)(w w':World):Prop where
 mod:Mod F w w'
 new:∀k,F' k→F k∨w.heap.size≤k
theorem aL.aq{F:Nat→Prop}{w w':World}(h:Up w w'):aL F F w w':=⟨Mod.aq h,fun _ h=>.inl h⟩
theorem aL.dH{F:Nat→Prop}{w w':World}(h:Mod F w w'):aL F F w w':=⟨h,fun _ h=>.inl h⟩
theorem aL.trans{F F' F'':Nat→Prop}{w w' w'':World}(h:aL F F' w w')(k:aL F' F'' w' w''):aL F F'' w w'':=
 ⟨⟨k.mod.os.trans h.mod.os,k.mod.tape.trans h.mod.tape,k.mod.output.trans h.mod.output,ae h.mod.size k.mod.size,fun i hi hs=>
   (k.mod.block i (Nat.lt_of_lt_of_le hi h.mod.size) (fun h'=>(h.new i h').elim hs (fun hlt=>by omega))).trans (h.mod.block i hi hs)⟩,
  fun i hi=>(k.new i hi).elim (fun h'=>h.new i h') (fun hlt=>.inr (ae h.mod.size hlt))⟩
theorem aL.below{F F':Nat→Prop}{w w':World}{N:Nat}(h:aL F F' w w')(hF:∀k,F k→N≤k)(hN:N≤w.heap.size):Below N w w':=h.mod.below hF hN
theorem aL.aQ{F F':Nat→Prop}{w w':World}{N:Nat}(h:aL F F' w w')(hF:∀k,F k→N≤k)(hN:N≤w.heap.size):∀k,F' k→N≤k:=
 fun k hk=>(h.new k hk).elim (hF k) (fun h'=>ae hN h')
def gR(o:Obj):Bool:=match o with
 | .cells _ t _=>t==188||t==245||t==249
 | .map _ _=>true
 |_=>false
section
variable{w w':World}{pw:Nat}{R:Rp}{S:Fs}
theorem bh.kind(h:bh w pw R S){k:Nat}(hk:R.F pw k):∃o,w.heap[k]?=some o∧gR o=true:=by
 rcases hk with rfl|rfl|rfl|hk
 ·exact⟨_,h.bd,rfl⟩
 ·exact⟨_,h.tab.bd,rfl⟩
 ·exact⟨_,h.tab.map,rfl⟩
 ·rcases h.eI.2 with⟨h1,-⟩|⟨g,cap,cur,h1,-,hg,-⟩
  ·rw[h1] at hk;cases hk
  ·rw[h1] at hk;simp only[Value.ownBlock,Option.some.injEq] at hk;subst hk;exact⟨_,hg,rfl⟩
theorem aA.wd{a:Option Addr}{n c:Nat}{es:List En}(he:aA w a n c es)(h:bh w pw R S){F':Nat→Prop}(hs:aL (R.F pw) F' w w'):aA w' a n c es:=
 he.eB (fun b cur hc=>hs.mod.block b (Array.getElem?_eq_some_iff.1 hc).1 (fun hk=>by
  obtain⟨o,ho,hd⟩:=h.kind hk;rw[hc] at ho;injection ho with ho;subst ho;rw[show gR (.cells cur 271 (0,0))=false from rfl] at hd
  cases hd)) hs.mod.size
theorem au.wd{B:Nat}{vs:Array Value}{T:TypeId}(hb:au w B vs T)(h:bh w pw R S){F':Nat→Prop}(hs:aL (R.F pw) F' w w')(hT:gR (.cells #[] T (0,0))=false):au w' B vs T:=
 hb.mod hs.mod (fun hk=>by
  obtain⟨o,ho,hd⟩:=h.kind hk;unfold au at hb;rw[hb] at ho;injection ho with ho;subst ho;rw[show gR (.cells vs T (0,0))=gR (.cells #[] T (0,0)) from rfl,hT] at hd
  cases hd)
theorem bh.eB(h:bh w pw R S)(ht:∀(k:Nat) (o:Obj),w.heap[k]?=some o→(gR o=true∨∃cur,o=.cells cur 271 (0,0))→w'.heap[k]?=w.heap[k]?)(hs:w.heap.size≤w'.heap.size):bh w' pw R S where
 bd:=(ht _ _ h.bd (.inl rfl)).trans h.bd
 tab:=⟨(ht _ _ h.tab.bd (.inl rfl)).trans h.tab.bd,(ht _ _ h.tab.map (.inl rfl)).trans h.tab.map,h.tab.once,h.tab.low⟩
 eI:=⟨h.eI.1,h.eI.2.imp id fun⟨g,cap,cur,h1,h2,hg,h3⟩=>⟨g,cap,cur,h1,h2,(ht _ _ hg (.inl rfl)).trans hg,h3⟩⟩
 ns:=h.ns
 aB:=fun g hg=>(h.aB g hg).eB (fun b cur hc=>ht _ _ hc (.inr ⟨cur,rfl⟩)) hs
theorem bh.ak(h:bh w pw R S)(hb:Up w w'):bh w' pw R S:=
 h.eB (fun k o ho _=>hb.block k (Array.getElem?_eq_some_iff.1 ho).1) hb.size
theorem bh.mod(h:bh w pw R S){F:Nat→Prop}(hm:Mod F w w')(hF:∀(k:Nat) (o:Obj),F k→w.heap[k]?=some o→gR o=false∧∀cur,o≠.cells cur 271 (0,0)):bh w' pw R S:=
 h.eB (fun k o ho hk=>hm.block k (Array.getElem?_eq_some_iff.1 ho).1 (fun hf=>by
  obtain⟨h1,h2⟩:=hF k o hf ho;rcases hk with hk|⟨cur,hk⟩
  ·rw[h1] at hk;cases hk
  ·exact h2 cur hk)) hm.size
theorem Bw(G:List Gn)(k:Int):lu (G.map Gn.e) k=(G.find? (fun g=>g.a.no==k)).map Gn.nd:=by
 unfold lu;rw[List.find?_map];have:(fun x:Nd×Nat=>x.1.no==k) ∘ Gn.e=fun g:Gn=>g.a.no==k:=rfl;rw[this,Option.map_map];rfl
theorem Oy(h:bh w pw R S)(k:Int):S.get k=(R.G.find? (fun g=>g.a.no==k)).map (·.a):=by
 unfold Fs.get;rw[h.ns,List.find?_map];rfl
end
end
section
open Go.RowKit
structure DvC(w:World)(g o:Nat)(d:Dv):Prop where
 c0:w.cell? ⟨g,o,none⟩=some (.int .i64 d.root)
 c1:w.cell? ⟨g,o+1,none⟩=some (.int .i64 d.over)
 c2:w.cell? ⟨g,o+2,none⟩=some (.int .i64 d.b)
 c3:w.cell? ⟨g,o+3,none⟩=some (.int .i64 d.n)
 c4:w.cell? ⟨g,o+4,none⟩=some (.int .i64 d.mb)
 c5:w.cell? ⟨g,o+5,none⟩=some (.int .i64 d.mn)
def dvQ(cs:List Value)(d:Dv):Prop:=cs=d.cs
section
variable{w w':World}{pw:Nat}{R:Rp}{S:Fs}
theorem bh.jm(h:bh w pw R S)(hd:0<S.ds.length):∃g cap,R.dv=.slice (some ⟨g,0,none⟩) S.ds.length cap∧S.ds.length≤cap∧cap≤9223372036854775807∧g<w.heap.size∧
  (∀(i:Nat) (hi:i<S.ds.length),DvC w g (i*6) S.ds[i])∧(∀i,w.frozen? ⟨g,i,none⟩=false)∧∃cur,au w g cur 249:=by
 have h0:=h.eI;obtain⟨a,cap,hv,hle,sI,hf⟩:=bw h0;rcases hf with⟨-,h1,-⟩|⟨g,rfl,-,hg⟩
 ·omega
 ·rw[hv] at h0;obtain⟨-,-,-,h1|⟨b,off,he,hb,hel⟩⟩:=bW (R:=dvQ) (by omega) Dv.bt (fun _=>rfl) h0
  ·omega
  ·injection he with he;injection he with e1 e2;subst e1 e2;obtain⟨cur,hcur⟩:∃cur,au w g cur 249:=by
    rcases h0.2 with⟨h1,-⟩|⟨g',cap',cur,h1,-,hg',-⟩
    ·cases h1
    ·injection h1 with h1;injection h1 with h1;injection h1 with h1;subst h1;exact⟨cur,hg'⟩
   refine⟨g,cap,hv,hle,sI,hg,fun i hi=>?_,hcur.frozen,cur,hcur⟩;obtain⟨cs,h2,h3,h4⟩:=hel i hi;subst h3;have e:∀j (hj:j<6),w.cell? ⟨g,i*6+j,none⟩=some (S.ds[i].cs[j]'(by rw[Dv.bt];exact hj)):=fun j hj=>by
    have:=h4 j (by rw[Dv.bt];exact hj);rw[Nat.zero_add] at this;exact this
   exact⟨e 0 (by omega),e 1 (by omega),e 2 (by omega),e 3 (by omega),e 4 (by omega),e 5 (by omega)⟩
theorem gD(h:bh w pw R S)(hd:0<S.ds.length) :
  Calls Tryz.prog 167 #[.pointer (some ⟨pw,0,none⟩)] w fun e w'=>e=.returned (.bool false)∧w=w':=by
 obtain⟨g,cap,hv,-,-,-,-,-,-⟩:=h.jm hd;obtain⟨pc,-,-⟩:=h.bd.facts;rw[hv] at pc;have hz:¬((S.ds.length:Int)=0):=by omega
 have fT:((S.ds.length:Int)==0)=false:=by simpa using hz
 generalize S.ds.length=n at pc hz fT;clear h hv hd;go_enter Tryz.func167,Tryz.ntmps167
 go_wp2
 go_ret;exact⟨rfl,rfl⟩
theorem fi(h:bh w pw R S)(hd:0<S.ds.length) :
  Calls Tryz.prog 105 #[.pointer (some ⟨pw,0,none⟩)] w fun e w'=>e=.returned (.int .i64 S.ds.length)∧w=w':=by
 have HN:=Um (gD h hd);obtain⟨g,cap,hv,-,-,-,-,-,-⟩:=h.jm hd;obtain⟨pc,-,-⟩:=h.bd.facts;rw[hv] at pc;generalize S.ds.length=n at pc⊢;clear h hv hd;go_enter Tryz.func105,Tryz.ntmps105;go_wp2_with fail;refine HN.o.mono ?_;rintro e w1 ⟨rfl,rfl⟩
 go_wp2
 go_ret;exact⟨rfl,rfl⟩
theorem fM(h:bh w pw R S)(hd:0<S.ds.length)(d:Int) :
  Calls Tryz.prog 130 #[.pointer (some ⟨pw,0,none⟩),.int .i64 d] w fun e w'=>e=.returned (.int .i64 (S.root d))∧w=w':=by
 have HN:=Um (gD h hd);obtain⟨g,cap,hv,hle,sI,hg,hc,-,-⟩:=h.jm hd;obtain⟨pc,-,-⟩:=h.bd.facts;rw[hv] at pc;clear h hv;by_cases h1:1≤d
 ·by_cases h2:d≤S.ds.length
  ·obtain⟨k,rfl⟩:∃k:Nat,d=(k:Int)+1:=⟨(d-1).toNat,by omega⟩;have hk:k<S.ds.length:=by omega
   have hr:S.root ((k:Int)+1)=S.ds[k].root:=by
    unfold Fs.root;rw[if_pos ⟨h1,h2⟩,show((k:Int)+1-1).toNat=k by omega,List.getElem?_eq_getElem hk]
   rw[hr];have hcc:=(hc _ hk).c0;clear hc hr;generalize S.ds[k]=v at hcc⊢;generalize S.ds.length=n at pc hle h2 hk hd;go_enter Tryz.func130,Tryz.ntmps130;go_wp2_with fail;refine HN.o.mono ?_;rintro e w1 ⟨rfl,rfl⟩
   go_wp2
   go_ret;exact⟨rfl,rfl⟩
  ·rw[ni (by omega)];have kA:(S.ds.length:Int)<d:=by omega
   clear hc;generalize S.ds.length=n at pc hle h2 kA hd;go_enter Tryz.func130,Tryz.ntmps130;go_wp2_with fail;refine HN.o.mono ?_;rintro e w1 ⟨rfl,rfl⟩
   go_wp2
   go_ret;exact⟨rfl,rfl⟩
 ·rw[ni (by omega)];have mH:d<1:=by omega
  clear hc;generalize S.ds.length=n at pc hle hd;go_enter Tryz.func130,Tryz.ntmps130;go_wp2_with fail;refine HN.o.mono ?_;rintro e w1 ⟨rfl,rfl⟩
  go_wp2
  go_ret;exact⟨rfl,rfl⟩
end
end
section
open Go
theorem dQ{P:Program}{fn:Func}{R:Ending→World→Prop}{K:Act→World→Prop}:∀c d v a w,Exit.then K (bodyPost P fn R) (.panic c) (Act.put a d v) w→Exit.then K (bodyPost P fn R) (.panic c) a w:=
 fun c d v a w h=>by
  have h':(Act.put a d v).defers=[]∧R (.panicked c) w:=h;exact show a.defers=[]∧R (.panicked c) w from⟨by rw[←h'.1];cases d<;>rfl,h'.2⟩
def C1:Op→Bool
 | .move _=>true
 | .assign _=>true
 | .extract _ _=>true
 |_=>false
section
variable{P:Program}{ops:Array Oper}{md:Region.Mode}{Q:Exit→Act→World→Prop}
theorem Av{o:Oper}(hp:C1 o.op=true){w:World}{K:Act→World→Prop}{a:Act}(h:o.wp P a w K Q∨(o.asks P a w∧LetsOut Q)) :
  ∃v,(∀w',(execOp a.eval o).run P w'=.ok (.value v) w')∧K (a.put o.dst v) w:=by
 have key:∀v,(∀w',(execOp a.eval o).run P w'=.ok (.value v) w')→((execOp a.eval o).runT P w #[]).2=#[]→∃v,(∀w',(execOp a.eval o).run P w'=.ok (.value v) w')∧K (a.put o.dst v) w:=by
  intro v hr ht;refine⟨v,hr,?_⟩;rcases h with h|h
  ·unfold Oper.wp at h;rw[hr] at h;exact h
  ·have:=h.1.1;rw[ht] at this;simp at this
 have bad:(∀w',∃m,(execOp a.eval o).run P w'=.halt (.stuck m) w')→((execOp a.eval o).runT P w #[]).2=#[]→∃v,(∀w',(execOp a.eval o).run P w'=.ok (.value v) w')∧K (a.put o.dst v) w:=by
  intro hr ht;rcases h with h|h
  ·obtain⟨m,hm⟩:=hr w;unfold Oper.wp at h;rw[hm] at h;exact h.elim
  ·have:=h.1.1;rw[ht] at this;simp at this
 unfold C1 at hp
 split at hp
 ·rename_i x hx;exact key (a.eval x) (fun w'=>by simp[execOp,hx]) (by simp only[execOp,hx];rfl)
 ·rename_i x hx;exact key (a.eval x) (fun w'=>by simp[execOp,hx]) (by simp only[execOp,hx];rfl)
 ·rename_i t ix hx
  cases ht:a.eval t with
  |tuple vs=>
   cases hv:vs[ix]? with
   |some v=>exact key v (fun w'=>by simp[execOp,hx,Instr.extract,ht,hv]) (by simp only[execOp,hx,Instr.extract,ht,hv];rfl)
   |none=>exact bad (fun w'=>⟨_,by simp only[execOp,hx,Instr.extract,ht,hv];rfl⟩) (by simp only[execOp,hx,Instr.extract,ht,hv];rfl)
  |_=>exact bad (fun w'=>⟨_,by simp only[execOp,hx,Instr.extract,ht];rfl⟩) (by simp only[execOp,hx,Instr.extract,ht];rfl)
 ·cases hp
def wV(md:Region.Mode)(ops:Array Oper):Nat→Nat→Array Bool→Bool
 |0,_,listed=>(Region.ready md ops listed).isEmpty
 |g+1,k,listed=>
  (decide (Region.ready md ops listed=[k])||(match ops[k]? with
   |some o=>C1 o.op&&o.guard.isNone&&(Region.ready md ops listed).contains k&&Region.free md ops listed k
   |none=>false))&&wV md ops g (k+1) (listed.setIfInBounds k true)
theorem E'{o:Oper}{T:Nat→Option Bool}(h:o.guard.isNone=true):Region.wanted o T=true:=by
 simp[Region.wanted,Option.isNone_iff_eq_none.1 h]
theorem rk(hsel:Region.noSelect ops=true)(hQ:∀c d v a w,Q (.panic c) (Act.put a d v) w→Q (.panic c) a w):∀(l:List Oper) (k:Nat) (listed:Array Bool) (a:Act) (w:World),(∀j,l[j]?=ops[k+j]?)→
  wV md ops l.length k listed=true→wpList P ops Q l a w→wpAnyH P md ops Q (fun _=>True) l.length listed a w
 | [],_,_,_,_,_,hB,h=>⟨by simpa [wV] using hB,h⟩
 |o::l,k,listed,a,w,hl,hB,h=>by
  have h0:ops[k]?=some o:=by simpa using (hl 0).symm
  have hl':∀j,l[j]?=ops[k+1+j]?:=fun j=>by have:=hl (j+1);simpa [Nat.add_assoc,Nat.add_comm 1 j] using this
  simp only[List.length_cons,wV,Bool.and_eq_true,Bool.or_eq_true,decide_eq_true_eq,h0] at hB;rcases hB.1 with h1|⟨⟨⟨hp,hg⟩,hr⟩,hf⟩
  ·refine⟨fun h2=>(by rw[h2] at h1;cases h1),fun i hi=>?_⟩;rw[h1] at hi;have hik:i=k:=by simpa using hi
   subst hik;have hw:wpOp P ops Q i (wpList P ops Q l) a w:=by unfold wpOp;simp only[h0];exact h
   exact wpOp_mono (fun a' w' h'=>⟨trivial,rk hsel hQ l (i+1) _ a' w' hl' hB.2 h'⟩) hw
  ·have hw:Region.wanted o (yielded ops a.tmps)=true:=E' hg;unfold wpList at h;rw[if_pos hw] at h;obtain⟨v,hy,hK⟩:=Av hp h;exact wpAnyH_take h0 hsel hf hr (fun c a w hq=>hQ c _ _ a w hq) (.inl ⟨hw,fun w' _=>hy w'⟩) trivial (rk hsel hQ l (k+1) _ _ w hl' hB.2 hK)
def sL(md:Region.Mode)(ops:Array Oper)(n:Nat):Bool:=
 (List.range ops.size).all fun t=>decide (t≤n)||(List.range t).any fun j=>decide (n≤j)&&Region.waitsFor md ops t j
theorem zP{n:Nat}{listed:Array Bool}(hs:Region.sinkB md ops n=true)(hc:sL md ops n=true)(hn:n<ops.size)(inv:HeadInv md ops n listed){i:Nat}(hi:i<n)(hun:listed.getD i true=false) :
  ∀t,n≤t→t∉Region.ready md ops listed:=by
 have low:∀(d i:Nat),n-i=d→i<n→listed.getD i true=false→n∉Region.ready md ops listed:=by
  intro d
  induction d using Nat.strongRecOn with
  |_ d ih=>
   intro i hd hi hun hr;obtain⟨-,on,hon,hall⟩:=mem_ready.1 hr;obtain⟨j,hj,Ds⟩:=List.any_eq_true.1 (List.all_eq_true.1 hs i (List.mem_range.2 hi));simp only[Bool.and_eq_true,decide_eq_true_eq] at Ds;obtain⟨oj,hoj,e,he,hb,hei⟩:=Region.waitsFor_spec Ds.2;have hjn:j≤n:=by have:=List.mem_range.1 hj;omega
   have hno:listed.getD i false=false:=getD_both hun;rcases Nat.lt_or_ge j n with hlt|hge
   ·cases hl:listed.getD j false with
    |true=>
     have:=inv.closed j oj hoj hl e he hb;rw[hei,hno] at this
     cases this
    |false=>exact ih (n-j) (by omega) j rfl hlt (getD_in (by rw[inv.size];omega) hl) hr
   ·obtain rfl:j=n:=by omega
    obtain rfl:oj=on:=Option.some.inj (hoj.symm.trans hon);have:=hall e he hb;rw[hei,hno] at this
    cases this
 intro t ht hr;rcases Nat.eq_or_lt_of_le ht with rfl|hlt
 ·exact low _ i rfl hi hun hr
 ·obtain⟨-,ot,hot,hall⟩:=mem_ready.1 hr;have htl:t<ops.size:=(Array.getElem?_eq_some_iff.1 hot).1;have h1:=List.all_eq_true.1 hc t (List.mem_range.2 htl);simp only[Bool.or_eq_true,decide_eq_true_eq] at h1;rcases h1 with h1|h1
  ·omega
  ·obtain⟨j,hj,Ds⟩:=List.any_eq_true.1 h1;simp only[Bool.and_eq_true,decide_eq_true_eq] at Ds;obtain⟨o',ho',e,he,hb,hej⟩:=Region.waitsFor_spec Ds.2;obtain rfl:o'=ot:=Option.some.inj (ho'.symm.trans hot);have:=hall e he hb;rw[hej,getD_both (inv.tail j Ds.1 (by have:=List.mem_range.1 hj;omega))] at this
   cases this
variable{w:World}
theorem sa{n i:Nat}{oi:Oper}{v:Value}{L:Array Bool→Act→Prop}(hi:ops[i]?=some oi)(hsel:Region.noSelect ops=true)
  (hs:Region.sinkB md ops n=true) (hc:sL md ops n=true) (hn:n<ops.size) (hin:i<n) (hdone:∀listed a,L listed a→∀j∈Region.ready md ops listed,n≤j) :
  ∀(f:Nat) (listed:Array Bool) (a:Act),HeadInv md ops n listed→
   (∀j oj,ops[j]?=some oj→j≠i→listed.getD j true=false→(∀e∈oj.after,Region.binds md e=true→e.on≠i)→oi.apart ops oj=true)→
   i∈Region.ready md ops listed→YieldsAt P ops w oi v a→wpAnyL P md ops w n L f (listed.setIfInBounds i true) (a.put oi.dst v)→wpAnyL P md ops w n L (f+1) listed a
 |f,listed,a,inv,hfree,hr,hy,H=>by
  have hun:=(mem_ready.1 hr).1;have hlow:∀j∈Region.ready md ops listed,j<n:=fun j hj=>Nat.lt_of_not_le fun h=>zP hs hc hn inv hin hun j h hj;refine⟨List.ne_nil_of_mem hr,fun j hj=>⟨hlow j hj,?_⟩⟩;by_cases hji:j=i
  ·subst hji;exact hy.stOp hi H
  ·cases f with
   |zero=>exact absurd (hdone _ _ H j (ready_mono hj hji)) (Nat.not_le_of_lt (hlow j hj))
   |succ f=>
    have h1:=(H.2 j (ready_mono hj hji)).2;obtain⟨hjun,oj,hoj,hall⟩:=mem_ready.1 hj;have hnot:∀e∈oj.after,Region.binds md e=true→e.on≠i:=fun e he hb heq=>by
     have h2:=hall e he hb;rw[heq,getD_both hun] at h2
     cases h2
    refine stOp_mono (fun a' h3=>?_) (stOp_put hoj (hfree j oj hoj hji hjun hnot) (fun cs b=>Region.noSelect_spec hsel i oi cs b hi) (fun cs b=>Region.noSelect_spec hsel j oj cs b hoj) hy h1);refine sa hi hsel hs hc hn hin hdone f (listed.setIfInBounds j true) a' (inv.set hj (hlow j hj)) (fun k ok hk hki hku hno=>hfree k ok hk hki ?_ hno) (ready_mono hr (Ne.symm hji)) h3.1 ?_
    ·by_cases hjk:j=k
     ·subst hjk;exact hjun
     ·rw[getD_set_ne true hjk] at hku;exact hku
    ·rw[Array.setIfInBounds_comm _ _ hji];exact h3.2
def uo(md:Region.Mode)(ops:Array Oper)(g:Nat):Nat→Nat→Array Bool→Bool
 |0,k,listed=>wV md ops g k listed&&(Region.ready md ops listed).all fun j=>decide (k≤j)
 |f+1,k,listed=>(Region.ready md ops listed).contains k&&Region.free md ops listed k&&uo md ops g f (k+1) (listed.setIfInBounds k true)
theorem xD{n g:Nat}{Lq:Act→Prop}(hsel:Region.noSelect ops=true)(hs:Region.sinkB md ops n=true)(hc:sL md ops n=true)(hn:n<ops.size) :
  ∀(l:List Oper) (k:Nat) (listed:Array Bool) (a:Act),(∀j,j<l.length→l[j]?=ops[k+j]?)→k+l.length=n→HeadInv md ops n listed→uo md ops g l.length k listed=true→wpStill P ops w Lq l a→
  wpAnyL P md ops w n (fun listed' a'=>(wV md ops g n listed'=true∧∀j∈Region.ready md ops listed',n≤j)∧Lq a') l.length listed a
 | [],k,listed,a,_,hk,_,hB,h=>by
  obtain rfl:k=n:=by simpa using hk
  simp only[List.length_nil,uo,Bool.and_eq_true,List.all_eq_true,decide_eq_true_eq] at hB;exact⟨hB,h⟩
 |o::l,k,listed,a,hl,hk,inv,hB,h=>by
  have h0:ops[k]?=some o:=by simpa using (hl 0 (by simp)).symm
  simp only[List.length_cons,uo,Bool.and_eq_true] at hB;obtain⟨⟨hr,hf⟩,PY⟩:=hB;have hkn:k<n:=by simp only[List.length_cons] at hk;omega
  have hr':k∈Region.ready md ops listed:=by simpa using hr
  have hst:stOp P ops w k (wpStill P ops w Lq l) a:=by unfold stOp;simp only[h0];exact h
  obtain⟨v,hy,hK⟩:=yieldsAt_of_stOp h0 hst;exact sa h0 hsel hs hc hn hkn (fun _ _ hL=>hL.1.2) l.length listed a inv (Region.free_spec h0 hf) hr' hy
   (xD hsel hs hc hn l (k+1) _ _ (fun j hj=>by have:=hl (j+1) (by simp;omega);simpa [Nat.add_assoc,Nat.add_comm 1 j] using this) (by simp only[List.length_cons] at hk;omega) (inv.set hr' hkn) PY hK)
def ue(ops:Array Oper)(n:Nat):Bool:=
 Region.noSelect ops&&decide (n<ops.size)&&Region.sinkB .any ops n&&sL .any ops n&&uo .any ops (ops.size-n) n 0 (Array.replicate ops.size false)
theorem ay{id:Nat}{a:Act}{l:List Oper}(n:Nat)(hm:P.follows .mixedOrders=true)(hB:ue l.toArray n=true)(hQ:∀c d v a w,Q (.panic c) (Act.put a d v) w→Q (.panic c) a w)
  (h:wpStill P l.toArray w.drew (fun a'=>wpList P l.toArray Q (l.drop n) a' w.drew) (l.take n) a):(Code.region id l.toArray true).wp P Q a w:=by
 simp only[ue,Bool.and_eq_true,decide_eq_true_eq] at hB;obtain⟨⟨⟨⟨hsel,hn⟩,hs⟩,hc⟩,hlex⟩:=hB;have hn':n<l.length:=by simpa using hn
 have htl:(l.take n).length=n:=by simp;omega
 have hdl:(l.drop n).length=l.toArray.size-n:=by simp
 have inv0:HeadInv .any l.toArray n (Array.replicate l.toArray.size false):=
  ⟨by simp,fun j oj _ hl=>(by rw[getD_replicate_false] at hl;cases hl),fun t _ ht=>getD_in (by simpa using ht) (getD_replicate_false _ _)⟩
 have H:=xD (md:=.any) (g:=l.toArray.size-n) hsel hs hc hn (l.take n) 0 _ a (fun j hj=>by
  have hj':j<n:=by rw[htl] at hj;exact hj
  simp[hj']) (by simpa using htl) inv0 (by rw[htl];exact hlex) h
 refine wp_region_any hm ?_;have:=wpAny_of_head (Q':=Q) (g:=l.toArray.size-n) (fun listed a' hL=>by
  have:=wpAny_of_held _ _ _ _ (rk (md:=.any) hsel hQ (l.drop n) n listed a' w.drew (fun j=>by simp[List.getElem?_drop]) (by rw[hdl];exact hL.1.1) hL.2)
  rwa [hdl] at this) _ _ _ H
 rw[htl,show n+(l.toArray.size-n)=l.toArray.size by omega] at this;exact this
end
end
end Go.Proofs.YtinflmadpnigfaaGreatDoor
