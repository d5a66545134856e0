import Derived.Test.YtabbjaomlmnnhaaGreatCO23
import Derived.Test.YtabbjaomlmnnhaaGreatCO19
import Derived.Test.YtabbjaomlmnnhaaGreatCO7
import Derived.Test.YtabbjaomlmnnhaaGreatCO21
import Derived.Test.YtabbjaomlmnnhaaGreatCO17
import Derived.Test.YtabbjaomlmnnhaaGreatCO22
set_option linter.unusedVariables false
set_option linter.unusedSimpArgs false
set_option maxRecDepth 100000
set_option maxHeartbeats 16000000
namespace Go.Proofs.YtabbjaomlmnnhaaGreat
open Go.Value renaming int→UE,string→UF,slice→UG,pointer→UH,agg→UJ,tuple→UK
open Go.IntKind renaming i64→UL
section
open Go.RowKit
structure Good(S:Fs)(N:Nat):Prop where
 bK:dE S N
 lk:S.Lk
theorem Good.mono{S:Fs}{N M:Nat}(h:Good S N)(hM:N≤M):Good S M:=⟨h.bK.mono hM,h.lk⟩
theorem sO(ms:List Mt)(is:List It):Good (db ms is) (1+2*ms.length+is.length):=⟨nT ms is,(I2 ms is).lk⟩
theorem Good.aN{S:Fs}{N:Nat}(h:Good S N)(c:Cr)(now dir:Int)(s:ByteArray)(m:Int):Good (S.aN c now dir s m).1 (N+1):=⟨h.bK.aN c now dir s m,h.lk.aN h.bK.ok h.bK.tr c now dir s m⟩
theorem Good.file{S:Fs}{N:Nat}(h:Good S N)(c:Cr)(now dir:Int)(s:ByteArray)(m:Int)(t:ByteArray):Good (S.file c now dir s m t).1 (N+1):=⟨h.bK.file c now dir s m t,h.lk.file h.bK.ok h.bK.tr c now dir s m t⟩
theorem dE.same{S:Fs}{N:Nat}(h:dE S N){a b:An}(hb:S.get a.no=some b)(hk:a.kind=b.kind)(hd:a.dev=b.dev)(hu:a.up=b.up)(he:a.au=b.au)(ha:rG a S.ds.length N):dE (S.set a) N:=by
 have hbn:=bV hb;refine⟨h.ok.set ha,h.pl.set hb hk hd hu (by rw[he];exact h.pl.names b (aO hb)),?_,?_,h.nm.set (by rw[he];exact h.nm b (aO hb))⟩
 ·exact h.tr.set hb hk hd hu (by rw[hk,he];exact h.tr.leaf b (aO hb)) (by rw[he,←hbn];exact h.tr.row b (aO hb))
 ·exact h.wy.set hb hk hd hu (by rw[he,hd];exact h.wy.sd b (aO hb))
theorem kM.drop{S:Fs}{no:Int}{l:List En}(h:kM S no l)(s:ByteArray):kM S no (aM l s):=
 ⟨fun x hx=>h.down x (List.mem_filter.1 hx).1,h.once.sublist List.filter_sublist⟩
theorem dE.drop{S:Fs}{N:Nat}(h:dE S N)(now:Int){dir:Int}{d:An}(hd:S.get dir=some d)(s:ByteArray):dE (S.aE now dir (aM d.au s)) N:=by
 obtain⟨ho,hdn,-⟩:=h.ok.get hd;have hm:∀x∈aM d.au s,x∈d.au:=fun x hx=>(List.mem_filter.1 hx).1;refine⟨h.ok.aE now dir _ (kJ ho.dB s) (ae (List.length_filter_le _ _) ho.lR) (fun x hx=>ho.nz x (hm x hx)),h.pl.aE now dir _ (fun x hx=>h.pl.names d (aO hd) x (hm x hx)),?_,?_,h.nm.aE now dir _ (fun x hx=>h.nm d (aO hd) x (hm x hx))⟩
 ·unfold Fs.aE;rw[hd];refine h.tr.set (b:=d) (bH hd) rfl rfl rfl (fun hk=>?_) ?_
  ·show aM d.au s=[];rw[h.tr.leaf d (aO hd) hk];rfl
  ·exact(h.tr.row d (aO hd)).drop s
 ·exact h.wy.aE now dir _ (fun d2 iG x hx=>by
   rw[hd] at iG;injection iG with iG;subst iG;exact h.wy.sd d (aO hd) x (hm x hx))
theorem dE.del{S:Fs}{N:Nat}(h:dE S N){k:Int}{a:An}(hg:S.get k=some a)(hd:a.kind≠1)(hc:S.jc k=0):dE (S.del k) N:=by
 have hent:∀x∈S.ns,∀e∈x.au,e.no≠k:=fun x hx e he hk=>by
  have:e∈(S.ns.flatMap (·.au)).filter fun e=>e.no==k:=List.mem_filter.2 ⟨List.mem_flatMap.2 ⟨x,hx,he⟩,by simpa using hk⟩;have h0:((S.ns.flatMap (·.au)).filter fun e=>e.no==k).length=0:=hc;rw[List.eq_nil_of_length_eq_zero h0] at this
  cases this
 have hget:∀{q:Int} {b:An},S.get q=some b→q≠k→(S.del k).get q=some b:=fun hb hq=>by rw[lF,if_neg hq];exact hb
 have hdir:∀{q:Int} {b:An},S.get q=some b→b.kind=1→q≠k:=fun hb hk e=>by
  rw[e,hg] at hb;injection hb with hb;subst hb;exact hd hk
 have hm:∀x∈(S.del k).ns,x∈S.ns:=fun x hx=>(List.mem_filter.1 hx).1;refine⟨h.ok.del k,⟨?_,fun x hx=>h.pl.names x (hm x hx),fun x hx=>h.pl.up x (hm x hx),h.pl.top,?_,fun i hi h1=>?_⟩,⟨fun x hx=>h.tr.leaf x (hm x hx),fun x hx=>⟨fun e he=>?_,?_⟩,h.tr.zero,fun i hi=>?_⟩,⟨fun x hx hk=>?_,fun x hx e he=>?_,fun d iG ho=>?_⟩,fun x hx=>h.nm x (hm x hx)⟩
 ·have h1:(S.del k).ns.length≤S.ns.length:=List.length_filter_le _ _;have h2:=h.pl.len;show((S.del k).ns.length:Int)≤S.last;omega
 ·obtain⟨b,hb,hk⟩:=h.pl.one;exact⟨b,hget hb (hdir hb hk),hk⟩
 ·obtain⟨b,hb,hk,h2⟩:=h.pl.aB i hi h1;exact⟨b,hget hb (hdir hb hk),hk,h2⟩
 ·obtain⟨b,hb,h2⟩:=(h.tr.row x (hm x hx)).down e he;exact⟨b,hget hb (hent x (hm x hx) e he),h2⟩
 ·refine List.Pairwise.imp_of_mem ?_ (h.tr.row x (hm x hx)).once;intro y z hy hz hyz e b hb;refine hyz e b ?_;rw[lF,if_neg (hent x (hm x hx) y hy)] at hb;exact hb
 ·obtain⟨r,hr,hk,h2⟩:=h.tr.NP i hi;exact⟨r,hget hr (hdir hr hk),hk,h2⟩
 ·obtain⟨b,hb,gM⟩:=h.wy.ud x (hm x hx) hk;exact⟨b,hget hb (hdir hb gM),gM⟩
 ·obtain⟨b,hb,h2⟩:=h.wy.sd x (hm x hx) e he;exact⟨b,hget hb (hent x (hm x hx) e he),h2⟩
 ·obtain⟨b,hb,h2⟩:=h.wy.mp d iG ho;refine⟨b,hget hb ?_,h2⟩;obtain⟨i,hi,rfl⟩:=List.mem_iff_getElem.1 iG;have NZ:1≤i:=by
   rcases Nat.eq_zero_or_pos i with h3|h3
   ·subst h3;exact absurd (h.tr.zero _ (List.getElem?_eq_getElem hi)) ho
   ·exact h3
  obtain⟨b2,aY,gM,-⟩:=h.pl.aB i hi NZ;exact hdir aY gM
theorem dE.aP{S:Fs}{N:Nat}(h:dE S N){d:Int}{v u:Dv}(hv:S.dev d=some v)(hr:u.root=v.root)(ho:u.aB=v.aB):dE (S.aP d u) N:=
 ⟨h.ok.aP hv hr,h.pl.aP hv hr ho,h.tr.aP hv hr ho,h.wy.aP hv hr ho,h.nm⟩
theorem Good.less{S:Fs}{N:Nat}(h:dE S N)(now:Int){n:An}(hn:S.get n.no=some n)(hk:n.kind≠1)(hl:S.oq fun k=>if k=n.no then -1 else 0):Good (S.eF now n) N:=by
 obtain⟨ho,-⟩:=h.ok.get hn;have hr:=tg h.ok h.tr hn hk;have hset:S.get ({n with ak:=n.ak-1,ctime:=now}:An).no=some n:=hn;have KU:=hl n (aO hn);rw[if_neg hr] at KU;have KU:(S.jc n.no:Int)=n.ak+(if n.no=n.no then -1 else 0):=KU;rw[if_pos rfl] at KU;have h1:dE (S.set {n with ak:=n.ak-1,ctime:=now}) N:=h.same hset rfl rfl rfl rfl ⟨ho.dB,ho.lR,ho.dev,by have:=ho.ak;show 0≤n.ak-1∧n.ak-1≤1000;omega,ho.data,ho.mode,ho.kind,ho.nz,ho.sy⟩;have h2:(S.set {n with ak:=n.ak-1,ctime:=now}).Lk:=Fs.oq.set hl h.ok.nums hset rfl fun k=>by
  show(0:Int)=(if k=n.no then -1 else 0)+(fq n.au k:Int)-(fq n.au k:Int)+(if k=n.no∧S.root n.dev≠n.no then n.ak-(n.ak-1) else 0);by_cases hq:k=n.no
  ·rw[if_pos hq,if_pos ⟨hq,hr⟩];omega
  ·rw[if_neg hq,if_neg (fun h=>hq h.1)];omega
 unfold Fs.eF;by_cases hz:n.ak-1≤0
 ·rw[if_pos hz];have iL:(S.set {n with ak:=n.ak-1,ctime:=now}).get n.no=some {n with ak:=n.ak-1,ctime:=now}:=by rw[fC hset,if_pos rfl]
  have hcn:(S.set {n with ak:=n.ak-1,ctime:=now}).jc n.no=0:=by
   have:=h2 _ (aO iL);have p6:¬(S.set {n with ak:=n.ak-1,ctime:=now}).root n.dev=n.no:=hr;rw[if_neg p6] at this;have this:((S.set {n with ak:=n.ak-1,ctime:=now}).jc n.no:Int)=n.ak-1+0:=this;omega
  have hleaf:∀x∈(S.set {n with ak:=n.ak-1,ctime:=now}).ns,x.no=n.no→x.au=[]:=fun x hx hq=>by
   have:=GL h1.ok.nums hx;rw[hq,iL] at this;injection this with this;subst this;exact h1.tr.leaf _ hx hk
  unfold Fs.jk;rw[if_neg (show¬(S.set {n with ak:=n.ak-1,ctime:=now}).root n.dev=n.no from hr)];generalize S.set {n with ak:=n.ak-1,ctime:=now}=S2 at h1 h2 iL hcn hleaf⊢
  cases hv:S2.dev n.dev with
  |none=>
   exact⟨h1.del iL hk hcn,h2.del hleaf⟩
  |some v=>
   have h3:=h1.aP (u:={v with b:=BM v.b v.n v.mb v.mn (-cF n.kind n.data.size) (-1),n:=BL v.b v.n v.mb v.mn (-cF n.kind n.data.size) (-1)}) hv rfl rfl;have h4:=Fs.oq.aP (u:={v with b:=BM v.b v.n v.mb v.mn (-cF n.kind n.data.size) (-1),n:=BL v.b v.n v.mb v.mn (-cF n.kind n.data.size) (-1)}) h2 hv rfl;exact⟨h3.del iL hk hcn,Fs.oq.del h4 hleaf⟩
 ·rw[if_neg hz];exact⟨h1,h2⟩
theorem Good.gone{S:Fs}{N:Nat}(h:Good S N)(now:Int){d n:An}{dir:Int}(hd:S.get dir=some d){s:ByteArray}(hn:S.get (aw d.au s)=some n)(hk:n.kind≠1):Good (S.mw now d n s) N:=by
 obtain⟨ho,hdn,-⟩:=h.bK.ok.get hd;obtain⟨-,hnn,j6,-⟩:=h.bK.ok.get hn;unfold Fs.mw;rw[hdn];have h1:=h.bK.drop now hd s;have hne:dir≠n.no:=fun e=>by
  rw[e,bH hn] at hd;injection hd with hd;subst hd;have h2:=h.bK.tr.leaf _ (aO hn) hk;rw[h2] at hnn j6;have:aw ([]:List En) s=0:=rfl;omega
 have hg:(S.aE now dir (aM d.au s)).get n.no=some n:=by
  unfold Fs.aE;rw[hd];show(S.set {d with au:=aM d.au s,mtime:=now,ctime:=now}).get n.no=_;rw[fC (show S.get ({d with au:=aM d.au s,mtime:=now,ctime:=now}:An).no=some d from bH hd),if_neg]
  ·exact bH hn
  ·intro e;have e:n.no=d.no:=e;rw[hdn] at e;exact hne e.symm
 refine Good.less h1 now hg hk (Fs.oq.aE h.lk h.bK.ok.nums now dir _ hd fun k=>?_);have hdc:=A5 ho.dB s k (fun e he h0=>by have:=ho.nz e he;omega);rw[if_neg (by omega)] at hdc;unfold one at hdc;by_cases hq:k=n.no
 ·rw[if_pos hq];rw[if_pos (by omega)] at hdc;omega
 ·rw[if_neg hq];rw[if_neg (by omega)] at hdc;omega
theorem Good.unlink{S:Fs}{N:Nat}(h:Good S N)(c:Cr)(now dir:Int)(s:ByteArray):Good (S.cA c now dir s).1 N:=by
 unfold Fs.cA
 split
 ·exact h
 ·split
  ·rename_i d n hd hn
   split
   ·exact h
   ·rename_i hk;have he:S.aI dir=d.au:=by unfold Fs.aI;rw[hd]
    rw[he] at hn;exact h.gone now hd hn hk
  ·exact h
end
section
open Go.RowKit
theorem nL(S:Fs)(a:An){q:Int}(hq:q≠a.no):(S.set a).get q=S.get q:=by
 unfold Fs.get Fs.set;show List.find? _ (List.map _ S.ns)=_;rw[List.find?_map];have hp:((fun x:An=>x.no==q) ∘ fun x=>if x.no==a.no then a else x)=fun x:An=>x.no==q:=by
  funext x;show((if x.no==a.no then a else x).no==q)=(x.no==q);by_cases hx:x.no=a.no
  ·rw[if_pos (by simpa using hx),hx]
  ·rw[if_neg (by simpa using hx)]
 rw[hp]
 cases hf:S.ns.find? (fun x=>x.no==q) with
 |none=>rfl
 |some y=>
  have hy:y.no=q:=by simpa using List.find?_some hf
  show some (if y.no==a.no then a else y)=some y;rw[if_neg];rw[hy];simpa using hq
theorem E7(S:Fs){x y:An}(h:x.no≠y.no):(S.set x).set y=(S.set y).set x:=by
 unfold Fs.set;simp only[List.map_map];congr 1;refine List.map_congr_left fun a _=>?_;show(if(if a.no==x.no then x else a).no==y.no then y else if a.no==x.no then x else a)=(if(if a.no==y.no then y else a).no==x.no then x else if a.no==y.no then y else a);by_cases h1:a.no=x.no
 ·have h2:a.no≠y.no:=fun e=>h (h1.symm.trans e);simp[h1,h]
 ·by_cases h2:a.no=y.no
  ·have h3:y.no≠x.no:=fun e=>h e.symm;simp[h2,h3]
  ·simp[h1,h2]
theorem IH(S:Fs){x:An}{k:Int}(h:x.no≠k):(S.set x).del k=(S.del k).set x:=by
 unfold Fs.set Fs.del;congr 1;rw[List.filter_map];congr 1;apply List.filter_congr;intro a _;show(!((if a.no==x.no then x else a).no==k))=!(a.no==k);by_cases h1:a.no=x.no
 ·rw[if_pos (by simpa using h1),h1]
 ·rw[if_neg (by simpa using h1)]
theorem IG(S:Fs){a b:An}(h:a.no=b.no):(S.set a).set b=S.set b:=by
 unfold Fs.set;simp only[List.map_map];congr 1;refine List.map_congr_left fun x _=>?_;show(if(if x.no==a.no then a else x).no==b.no then b else if x.no==a.no then a else x)=if x.no==b.no then b else x;by_cases h1:x.no=a.no
 ·simp[h1,h]
 ·have h2:x.no≠b.no:=fun e=>h1 (e.trans h.symm);simp[h1,h2]
theorem dm{S:Fs}{dir:Int}{d:An}(hd:S.get dir=some d)(now:Int)(l:List En):S.aE now dir l=S.set {d with au:=l,mtime:=now,ctime:=now}:=by
 unfold Fs.aE;rw[hd]
theorem eC{S:Fs}{dir:Int}(hd:S.get dir=none)(now:Int)(l:List En):S.aE now dir l=S:=by
 unfold Fs.aE;rw[hd]
theorem bL(S:Fs)(now:Int){dir q:Int}(l:List En)(hq:q≠dir):(S.aE now dir l).get q=S.get q:=by
 cases hd:S.get dir with
 |none=>rw[eC hd]
 |some d=>
  rw[dm hd];exact nL S _ (by show q≠d.no;rw[bV hd];exact hq)
theorem eu{S:Fs}(now:Int){dir:Int}(l:List En){d:An}(hd:S.get dir=some d):(S.aE now dir l).get dir=some {d with au:=l,mtime:=now,ctime:=now}:=by
 rw[dm hd,fC (b:=d) (show S.get ({d with au:=l,mtime:=now,ctime:=now}:An).no=some d from bH hd),if_pos (bV hd).symm]
theorem vA(S:Fs)(now:Int){dir:Int}(l:List En){o:An}(h:dir≠o.no):(S.set o).aE now dir l=(S.aE now dir l).set o:=by
 have hg:=nL S o h
 cases hd:S.get dir with
 |none=>rw[hd] at hg;rw[eC hd,eC hg]
 |some d=>
  rw[hd] at hg;rw[dm hd,dm hg];exact E7 S (fun e=>h (by rw[←bV hd];exact e.symm))
theorem vB(S:Fs)(now:Int){dir k:Int}(l:List En)(h:dir≠k):(S.del k).aE now dir l=(S.aE now dir l).del k:=by
 have hg:(S.del k).get dir=S.get dir:=by rw[lF,if_neg h]
 cases hd:S.get dir with
 |none=>rw[hd] at hg;rw[eC hd,eC hg]
 |some d=>
  rw[hd] at hg;rw[dm hd,dm hg];exact(IH S (by show d.no≠k;rw[bV hd];exact h)).symm
theorem xj(S:Fs)(now dir:Int)(l:List En)(d:Int)(u:Dv):(S.aP d u).aE now dir l=(S.aE now dir l).aP d u:=by
 have hg:(S.aP d u).get dir=S.get dir:=rfl
 cases hd:S.get dir with
 |none=>rw[hd] at hg;rw[eC hd,eC hg]
 |some d=>
  rw[hd] at hg;rw[dm hd,dm hg];rfl
theorem LG{S T:Fs}(h:S.ds=T.ds)(d:Int):S.root d=T.root d:=by unfold Fs.root;rw[h]
theorem PZ{S T:Fs}(h:S.ds=T.ds)(d:Int):S.dev d=T.dev d:=by unfold Fs.dev;rw[h]
theorem B4(S:Fs)(now:Int){dir:Int}(l:List En){o:An}(h:dir≠o.no):(S.eF now o).aE now dir l=(S.aE now dir l).eF now o:=by
 have h1:(S.set {o with ak:=o.ak-1,ctime:=now}).aE now dir l=(S.aE now dir l).set {o with ak:=o.ak-1,ctime:=now}:=vA S now l h;unfold Fs.eF
 split
 ·unfold Fs.jk;have hds:((S.aE now dir l).set {o with ak:=o.ak-1,ctime:=now}).ds=(S.set {o with ak:=o.ak-1,ctime:=now}).ds:=zB S now dir l;rw[LG hds,PZ hds]
  split
  ·exact h1
  ·split
   ·rw[vB _ _ _ h,h1]
   ·rw[vB _ _ _ h,xj,h1]
 ·exact h1
theorem gJ{S:Fs}(now dir:Int)(l m:List En):(S.aE now dir l).aE now dir m=S.aE now dir m:=by
 cases hd:S.get dir with
 |none=>rw[eC hd]
 |some d=>
  rw[dm (eu now l hd) now m,dm hd now l,dm hd now m];exact IG S rfl
theorem B5(S:Fs)(now:Int){k q:Int}(l m:List En)(h:k≠q):(S.aE now k l).aE now q m=(S.aE now q m).aE now k l:=by
 cases hd:S.get k with
 |none=>rw[eC hd now l,eC (show(S.aE now q m).get k=none by rw[bL S now m h];exact hd) now l]
 |some d=>
  rw[dm hd,dm (show(S.aE now q m).get k=some d by rw[bL S now m h];exact hd)];exact vA S now m (by show q≠d.no;rw[bV hd];exact fun e=>h e.symm)
theorem gX(S:Fs)(now:Int){o:An}{q:Int}(h:q≠o.no):(S.eF now o).get q=S.get q:=by
 have h1:(S.set {o with ak:=o.ak-1,ctime:=now}).get q=S.get q:=nL S _ h;unfold Fs.eF
 split
 ·unfold Fs.jk
  split
  ·exact h1
  ·split
   ·rw[lF,if_neg h];exact h1
   ·rw[lF,if_neg h];exact h1
 ·exact h1
theorem Ad(l:List En)(b:ByteArray)(k:Int):aV (aM l b) b k=aV l b k:=by
 unfold aV aM;rw[List.filter_filter,List.filter_filter];congr 1
 ·apply List.filter_congr;intro x _;by_cases h:x.name=b
  ·simp[h,eE]
  ·simp[h]
 ·congr 1;apply List.filter_congr;intro x _;by_cases h:x.name=b
  ·simp[h,eE]
  ·simp[h]
theorem drop_drop(l:List En)(a b:ByteArray):aM (aM l b) a=aM (aM l a) b:=by
 unfold aM;rw[List.filter_filter,List.filter_filter];apply List.filter_congr;intro x _;rw[Bool.and_comm]
theorem wH{l:List En}{a b:ByteArray}(h:a≠b):aw (aM l b) a=aw l a:=by
 unfold aw aM;rw[List.find?_filter];congr 2;funext x;by_cases hx:x.name=a
 ·simp[hx,h]
 ·simp[hx]
theorem jw{l:List En}(s:ByteArray):aw (aM l s) s=0:=by
 unfold aw;have:(aM l s).find? (fun x=>decide (x.name=s))=none:=by
  rw[List.find?_eq_none];intro x hx;have:=(List.mem_filter.1 hx).2;simpa using this
 rw[this]
end
section
open Go.RowKit
theorem aS.box{F F':Nat→Prop}{w A B:World}{b:Nat}(hs:aS F F' w A)(hm:Mod (fun k=>k=b) A B)(hb:w.heap.size≤b):aS F F' w B:=
 ⟨⟨hm.os.trans hs.mod.os,hm.tape.trans hs.mod.tape,hm.output.trans hs.mod.output,ae hs.mod.size hm.size,fun k hk hF=>(hm.block k (Nat.lt_of_lt_of_le hk hs.mod.size) (by omega)).trans (hs.mod.block k hk hF)⟩,hs.new⟩
section
variable{w w':World}{pw:Nat}{R:Rp}{S:Fs}
end
end
section
open Go.RowKit
attribute [local go_sem] Oper.semAt_some
section
variable{w w':World}{pw:Nat}{R:Rp}{S:Fs}
theorem bB.Tw(h:bB w pw R S)(k:Int) :
  Calls Tryz.prog 187 #[UH (some ⟨R.pt,0,none⟩),UE UL k] w fun e w'=>(∃b,e=.returned (.bool b))∧∃R',bB w' pw R' (S.del k)∧aS (R.F pw) (R'.F pw) w w'∧R'.pt=R.pt∧R'.dv=R.dv:=by
 refine(J9 k w R.pt R.pm S.last _ R.eo h.tab).mono ?_;rintro e w' ⟨rfl,hT,hM⟩;obtain⟨hst,hblk,hdv⟩:=h.DL hM;refine⟨⟨_,rfl⟩,⟨R.pt,R.pm,R.dv,R.G.filter (fun g=>!(g.a.no==k)),R.eo⟩,⟨hblk,?_,hdv,?_,?_⟩,⟨hst.mod,fun k hk=>.inl hk⟩,rfl,rfl⟩
 ·show uK w' R.pt R.pm S.last ((R.G.filter _).map Gn.e) R.eo;have e:(R.G.filter (fun g=>!(g.a.no==k))).map Gn.e=(R.G.map Gn.e).filter fun x=>!(x.1.no==k):=by
   rw[List.filter_map];rfl
  rw[e];exact hT
 ·show(S.ns.filter _)=(R.G.filter _).map (fun g:Gn=>g.a);rw[h.ns,List.filter_map];rfl
 ·intro g hg;exact(h.au g (List.mem_filter.1 hg).1).wd h hst
theorem ED(h:bB w pw R S){N:Nat}(hk:ay S N)(no:Int)(d:An)(hg:S.get no=some d) :
  Calls Tryz.prog 155 #[UH (some ⟨pw,0,none⟩),UE UL no] w fun e w'=>(∃b,e=.returned (.bool b))∧∃R',bB w' pw R' (S.jk d)∧aS (R.F pw) (R'.F pw) w w':=by
 obtain⟨hdo,hdn,-,-⟩:=hk.get hg;have HN:=Ux (fun w1 (av:UA w w1)=>iy (h.an av) hk.d1);have Hh:=Ux (fun w1 (av:UA w w1)=>fK (h.an av) hk.d1 d.dev);obtain⟨ea,el,ec,he,hG⟩:=fF h hg;have HG:=Ux hG;obtain⟨k,hdk⟩:∃k:Nat,d.dev=(k:Int)+1:=⟨(d.dev-1).toNat,by have:=hdo.dev.1;omega⟩;have hkl:k<S.ds.length:=by have:=hdo.dev.2;omega
 obtain⟨g,cap,hdv,hle,zd,hgl,hc,hfg,-⟩:=h.lS hk.d1;obtain⟨-,-,c2,c3,c4,c5⟩:=hc k hkl;obtain⟨v0,hv⟩:∃v,S.ds[k]=v:=⟨_,rfl⟩;have rL:S.dev d.dev=some v0:=by
  unfold Fs.dev;rw[if_pos (by omega),hdk,show((k:Int)+1-1).toNat=k by omega,List.getElem?_eq_getElem hkl,hv]
 rw[hv] at c2 c3 c4 c5;obtain⟨pc,-,pz⟩:=h.bD.facts;rw[hdv] at pc;obtain⟨n,hn⟩:∃n,S.ds.length=n:=⟨_,rfl⟩;have hkn:k<n:=by omega
 rw[hn] at pc hle;have hda:=hdo.data;have b2:=Nh d.kind d.data.size (by omega);have ei:=Ux (fun w=>uv d.kind d.data.size (by omega) w);have HF:=Ux (show S.jk d=if S.root d.dev=d.no then S else(S.aP d.dev {v0 with b:=BM v0.b v0.n v0.mb v0.mn (-cF d.kind d.data.size) (-1),n:=BL v0.b v0.n v0.mb v0.mn (-cF d.kind d.data.size) (-1)}).del d.no from by
  unfold Fs.jk;rw[rL])
 generalize S.jk d=fw at HF⊢;generalize cF d.kind d.data.size=xb at b2 ei HF;have hwx:IntKind.i64.wrap (-xb)=-xb:=by rw[IntKind.wrap_i64];omega
 have hT:=fun w=>sm v0.b v0.n v0.mb v0.mn (-xb) (-1) w;unfold KM at hT;generalize lT v0.b v0.n v0.mb v0.mn (-xb) (-1)=e0 at hT;generalize BM v0.b v0.n v0.mb v0.mn (-xb) (-1)=qb at hT HF;generalize BL v0.b v0.n v0.mb v0.mn (-xb) (-1)=qn at hT HF;have HT:=Ux hT;have HW:=Ux h;have HE:=Ux he;have ka:=Ux hdv;have HV:=Ux (show∃hk:k<S.ds.length,S.ds[k]=v0 from⟨hkl,hv⟩);have G3:=Ux hdk;have HDn:=Ux hdn;unfold An.v at HG;rw[hdk] at HG Hh;rw[hdn] at HG HF;have SF:S.root d.dev=S.root ((k:Int)+1):=by rw[hdk]
 rw[SF] at HF;generalize S.root ((k:Int)+1)=rt at Hh HF;clear h hk hg he hG hT hc hdv hv rL hn hdo hdn hda hdk hkl SF;go_enter Tryz.func155,Tryz.ntmps155;go_wp2_with fail;refine(HN.o _ (ao (Below.refl _ _) _)).mono ?_;rintro e w1 ⟨rfl,rfl⟩;go_wp2_with fail;refine(HG.o _ (ao (Below.refl _ _) _)).mono ?_;rintro e w1 ⟨rfl,av⟩;have hR:=(ax.new w #[UE UL 0,UE UL 0,UE UL 0,UE UL 0,UE UL 0,UE UL 0,UE UL 0,UE UL 0,UE UL 0,UE UL 0,UF ⟨#[]⟩,UG none 0 0] 149).an av;obtain⟨rc,rf,rz⟩:=hR.facts;have hX:ax (((((((((((((w1.setCell ⟨w.heap.size,0,none⟩ (UE UL no)).setCell ⟨w.heap.size,1,none⟩ (UE UL ((k:Int)+1))).setCell ⟨w.heap.size,2,none⟩ (UE UL d.kind)).setCell ⟨w.heap.size,3,none⟩ (UE UL d.mode)).setCell ⟨w.heap.size,4,none⟩ (UE UL d.uid)).setCell ⟨w.heap.size,5,none⟩ (UE UL d.gid)).setCell ⟨w.heap.size,6,none⟩ (UE UL d.mtime)).setCell ⟨w.heap.size,7,none⟩ (UE UL d.ctime)).setCell ⟨w.heap.size,8,none⟩ (UE UL d.ak)).setCell ⟨w.heap.size,9,none⟩ (UE UL d.up)).setCell ⟨w.heap.size,10,none⟩ (UF d.data)).setCell ⟨w.heap.size,11,none⟩ (UG ea el ec))) w.heap.size #[UE UL no,UE UL ((k:Int)+1),UE UL d.kind,UE UL d.mode,UE UL d.uid,UE UL d.gid,UE UL d.mtime,UE UL d.ctime,UE UL d.ak,UE UL d.up,UF d.data,UG ea el ec] 149:=hR.dY;have aJ:UA w (((((((((((((w1.setCell ⟨w.heap.size,0,none⟩ (UE UL no)).setCell ⟨w.heap.size,1,none⟩ (UE UL ((k:Int)+1))).setCell ⟨w.heap.size,2,none⟩ (UE UL d.kind)).setCell ⟨w.heap.size,3,none⟩ (UE UL d.mode)).setCell ⟨w.heap.size,4,none⟩ (UE UL d.uid)).setCell ⟨w.heap.size,5,none⟩ (UE UL d.gid)).setCell ⟨w.heap.size,6,none⟩ (UE UL d.mtime)).setCell ⟨w.heap.size,7,none⟩ (UE UL d.ctime)).setCell ⟨w.heap.size,8,none⟩ (UE UL d.ak)).setCell ⟨w.heap.size,9,none⟩ (UE UL d.up)).setCell ⟨w.heap.size,10,none⟩ (UF d.data)).setCell ⟨w.heap.size,11,none⟩ (UG ea el ec))):=bg (ar (ao (Below.refl _ _) _) av) (aa _);go_upto_region 4 with fail;clear rc rf rz hR av;generalize World.setCell _ _ _=X at hX aJ⊢;obtain⟨Bn,Db⟩:∃Bn,w.heap.size=Bn:=⟨_,rfl⟩;rw[Db] at hX⊢;have HX:=Ux hX;have bC:=Ux aJ;obtain⟨bc,bf,bz⟩:=hX.facts;clear hX aJ;go_wp2_with fail;refine(Hh.o _ bC.o).mono ?_;rintro e w2 ⟨rfl,rfl⟩;by_cases hrn:rt=no
 ·have hrb:(rt==no)=true:=by simpa using hrn
  have eA:=Ux (HF.o.trans (if_pos hrn));clear hrn;go_wp2_with fail;go_ret;rw[eA.o];exact⟨⟨_,rfl⟩,R,HW.o.an bC.o,aS.aq bC.o⟩
 have hrb:(rt==no)=false:=by simpa using hrn
 have eA:=Ux (HF.o.trans (if_neg hrn));have pc1:X.cell? ⟨pw,1,none⟩=_:=(bC.o.cell (p:=⟨pw,1,none⟩) pz).trans (pc 1);have rK:IntKind.i64.wrap ((k:Int)+1-1)=(k:Int):=by rw[IntKind.wrap_i64];omega
 have xQ:IntKind.i64.wrap (k:Int)=(k:Int):=by rw[IntKind.wrap_i64];omega
 have cl:(k:Int)<(n:Int):=by omega
 have dM:(0:Int)≤(k:Int):=by omega
 clear hrn;go_upto_region 6 with fail;have mixed:Tryz.prog.follows .mixedOrders=true:=by kernel_rfl
 refine aG 8 mixed (by kernel_rfl) eQ ?_;simp only[List.take_succ_cons,List.take_zero,List.drop_succ_cons,List.drop_zero]
 repeat still_step
 refine wpStill_nil ?_;go_upto_region 7 with fail;have uZ:=HX.o.drew;have hbd:=bC.o.drew;clear bc bf bz pc1;generalize X.drew=W at uZ hbd⊢;rw[←hbd.cell (p:=⟨g,k*6+2,none⟩) hgl] at c2;rw[←hbd.cell (p:=⟨g,k*6+3,none⟩) hgl] at c3;rw[←hbd.cell (p:=⟨g,k*6+4,none⟩) hgl] at c4;rw[←hbd.cell (p:=⟨g,k*6+5,none⟩) hgl] at c5;have uI:g<W.heap.size:=Nat.lt_of_lt_of_le hgl hbd.size;have hpW:pw<W.heap.size:=Nat.lt_of_lt_of_le pz hbd.size;have TU:=Ux hbd;have HB:=Ux uZ;have HBn:=Ux Db;have Qf:=Ux (show W.cell? ⟨pw,0,none⟩=_ from(hbd.cell (p:=⟨pw,0,none⟩) pz).trans (pc 0));clear pc hbd uZ Db;have S4:∀wc:World,UA W wc→UA w wc∧(∀i,wc.frozen? ⟨g,i,none⟩=false)∧bB ((((wc.setCell ⟨g,k*6+2,none⟩ (UE UL qb)).setCell ⟨g,k*6+3,none⟩ (UE UL qn)).setCell ⟨g,k*6+4,none⟩ (UE UL v0.mb)).setCell ⟨g,k*6+5,none⟩ (UE UL v0.mn)) pw R (S.aP ((k:Int)+1) {v0 with b:=qb,n:=qn})∧aS (R.F pw) (R.F pw) w ((((wc.setCell ⟨g,k*6+2,none⟩ (UE UL qb)).setCell ⟨g,k*6+3,none⟩ (UE UL qn)).setCell ⟨g,k*6+4,none⟩ (UE UL v0.mb)).setCell ⟨g,k*6+5,none⟩ (UE UL v0.mn))∧ax ((((wc.setCell ⟨g,k*6+2,none⟩ (UE UL qb)).setCell ⟨g,k*6+3,none⟩ (UE UL qn)).setCell ⟨g,k*6+4,none⟩ (UE UL v0.mb)).setCell ⟨g,k*6+5,none⟩ (UE UL v0.mn)) Bn #[UE UL no,UE UL ((k:Int)+1),UE UL d.kind,UE UL d.mode,UE UL d.uid,UE UL d.gid,UE UL d.mtime,UE UL d.ctime,UE UL d.ak,UE UL d.up,UF d.data,UG ea el ec] 149:=by
  intro wc hS;have N3:UA w wc:=TU.o.trans (hS.mono TU.o.size);obtain⟨hk,hv⟩:=HV.o;have JH:=HW.o.an N3;obtain⟨xY,N8⟩:=JH.Lv ka.o hk v0 hv qb qn;have hgF:R.F pw g:=.inr (.inr (.inr (by rw[ka.o];rfl)));have tM:aS (R.F pw) (R.F pw) wc _:=aS.dH (N8.mono (fun x hx=>by rw[hx];exact hgF));exact⟨N3,fun i=>(N3.frozen (p:=⟨g,i,none⟩) hgl).trans (hfg i),xY,(aS.aq N3).trans tM,(HB.o.an hS).wd JH tM rfl⟩
 have jY:=Ux S4;have HFg:=Ux hfg;clear S4 hfg;have hbd:UA W W.drew:=(Below.refl _ _).drew;refine wp_region_held_drew (S:=fun w'=>ax w' Bn #[UE UL no,UE UL ((k:Int)+1),UE UL d.kind,UE UL d.mode,UE UL d.uid,UE UL d.gid,UE UL d.mtime,UE UL d.ctime,UE UL d.ak,UE UL d.up,UF d.data,UG ea el ec] 149) (by kernel_rfl) (HB.o.an hbd) (fun bj=>?_);refine aL 9 [(0,40),(1,41),(2,42),(3,43),(5,45),(6,46),(7,47),(8,48),(9,49)] (by kernel_rfl) (by kernel_rfl) rfl (fun _ _ _ _ _ h=>h) bj ?_
 iterate 9 (apply aF rfl rfl;(· (intro w9 cL;obtain⟨s1,-,-⟩:=cL.facts;clear cL;go_simp;(try with_reducible rfl)));simp only[ah,ai,aj])
 apply aK;have d2:W.drew.cell? ⟨g,k*6+2,none⟩=_:=(hbd.cell (p:=⟨g,k*6+2,none⟩) uI).trans c2;have d3:W.drew.cell? ⟨g,k*6+3,none⟩=_:=(hbd.cell (p:=⟨g,k*6+3,none⟩) uI).trans c3;have d4:W.drew.cell? ⟨g,k*6+4,none⟩=_:=(hbd.cell (p:=⟨g,k*6+4,none⟩) uI).trans c4;have d5:W.drew.cell? ⟨g,k*6+5,none⟩=_:=(hbd.cell (p:=⟨g,k*6+5,none⟩) uI).trans c5;refine nA 4 44 10 50 (vi:=UJ #[UE UL v0.b,UE UL v0.n,UE UL v0.mb,UE UL v0.mn]) (Wi:=W.drew) (R:=fun v w'=>v=UE UL xb∧W.drew=w') (by kernel_rfl) rfl rfl rfl rfl rfl rfl ?ra7 bj ?rb7 ((ei.o _).mono (fun e w' ⟨he,hw⟩=>⟨_,he,rfl,hw⟩)) (fun v w' ⟨_,hw⟩=>by rw[←hw];exact bj) ?_ ?_
 case ra7=>(go_simp;(try rfl))
 case rb7=>(go_simp;(try rfl))
 ·simp only[ah,ai,aj];clear d2 d3 d4 d5;refine bN 10 50 (R:=fun v w'=>v=UE UL xb∧W.drew=w') (by kernel_rfl) rfl rfl rfl ?xaA ((ei.o _).mono (fun e w' ⟨he,hw⟩=>⟨_,he,rfl,hw⟩)) (fun v w' ⟨_,hw⟩=>by rw[←hw];exact bj) ?_
  case xaA=>(go_simp;(try rfl))
  rintro _ _ ⟨rfl,rfl⟩;simp only[ah,ai,aj];refine aL 1 [(11,51)] (by kernel_rfl) (by kernel_rfl) rfl (fun _ _ _ _ _ h=>h) bj ?_
  iterate 1 (apply aF rfl rfl;(· (intro w9 cL;clear cL;go_simp;(try with_reducible rfl)));simp only[ah,ai,aj])
  apply aK;refine bN 12 52 (R:=fun v w'=>v=UK #[UJ #[UE UL qb,UE UL qn,UE UL v0.mb,UE UL v0.mn],UE UL e0]∧UA W w') (by kernel_rfl) rfl rfl rfl ?xbA ((HT.o _).mono (fun e w' ⟨he,hw⟩=>⟨_,he,rfl,ar hbd hw⟩)) (fun v w' ⟨_,hw⟩=>HB.o.an hw) ?_
  case xbA=>(go_simp;(try simp only[hwx]);(try rfl))
  rintro _ wc ⟨rfl,hS⟩;simp only[ah,ai,aj];refine aL 5 [(13,39),(14,53),(15,54),(16,55),(17,56)] (by kernel_rfl) (by kernel_rfl) rfl (fun _ _ _ _ _ h=>h) (HB.o.an hS) ?_
  iterate 5 (apply aF rfl rfl;(· (intro w9 cL;clear cL;go_simp;(try with_reducible rfl)));simp only[ah,ai,aj])
  apply aK;obtain⟨N3,hfw,xY,D9,JV⟩:=jY.o wc hS;rw[←hS.cell (p:=⟨g,k*6+2,none⟩) uI] at c2;rw[←hS.cell (p:=⟨g,k*6+3,none⟩) uI] at c3;rw[←hS.cell (p:=⟨g,k*6+4,none⟩) uI] at c4;rw[←hS.cell (p:=⟨g,k*6+5,none⟩) uI] at c5;refine dO 18 (W:=(((wc.setCell ⟨g,k*6+2,none⟩ (UE UL qb)).setCell ⟨g,k*6+3,none⟩ (UE UL qn)).setCell ⟨g,k*6+4,none⟩ (UE UL v0.mb)).setCell ⟨g,k*6+5,none⟩ (UE UL v0.mn)) (by kernel_rfl) rfl rfl rfl ?xsA JV ?_
  case xsA=>(go_simp;(try rfl))
  refine wpAnyH_done (by kernel_rfl) ?_ _;generalize World.setCell _ _ _=Z at xY D9⊢;have Nr:=Ux xY;have HSZ:=Ux D9;have pc9:=xY.bD.facts.1;have hDl:=Ux (xY.Tw no);clear bj hbd hS N3 hfw xY D9 JV c2 c3 c4 c5;go_wp2_with fail;refine hDl.out.mono ?_;rintro e w5 ⟨⟨bb,rfl⟩,R',ez,dw,-,-⟩;have Hi:=Ux (ag ez dw);clear ez dw;go_wp2_with fail;go_ret;rw[eA.o,G3.o];exact⟨⟨_,rfl⟩,R',Hi.o.1,HSZ.o.trans Hi.o.2⟩
 ·rintro _ _ ⟨rfl,rfl⟩;simp only[ah,ai,aj];refine aL 1 [(11,51)] (by kernel_rfl) (by kernel_rfl) rfl (fun _ _ _ _ _ h=>h) bj ?_
  iterate 1 (apply aF rfl rfl;(· (intro w9 cL;clear cL;go_simp;(try with_reducible rfl)));simp only[ah,ai,aj])
  apply aK;refine eY 4 44 (v:=UJ #[UE UL v0.b,UE UL v0.n,UE UL v0.mb,UE UL v0.mn]) (W:=W.drew) (by kernel_rfl) rfl rfl rfl ?qaB bj ?_
  case qaB=>(go_simp;(try rfl))
  simp only[ah,ai,aj];clear d2 d3 d4 d5;refine bN 12 52 (R:=fun v w'=>v=UK #[UJ #[UE UL qb,UE UL qn,UE UL v0.mb,UE UL v0.mn],UE UL e0]∧UA W w') (by kernel_rfl) rfl rfl rfl ?xbB ((HT.o _).mono (fun e w' ⟨he,hw⟩=>⟨_,he,rfl,ar hbd hw⟩)) (fun v w' ⟨_,hw⟩=>HB.o.an hw) ?_
  case xbB=>(go_simp;(try simp only[hwx]);(try rfl))
  rintro _ wc ⟨rfl,hS⟩;simp only[ah,ai,aj];refine aL 5 [(13,39),(14,53),(15,54),(16,55),(17,56)] (by kernel_rfl) (by kernel_rfl) rfl (fun _ _ _ _ _ h=>h) (HB.o.an hS) ?_
  iterate 5 (apply aF rfl rfl;(· (intro w9 cL;clear cL;go_simp;(try with_reducible rfl)));simp only[ah,ai,aj])
  apply aK;obtain⟨N3,hfw,xY,D9,JV⟩:=jY.o wc hS;rw[←hS.cell (p:=⟨g,k*6+2,none⟩) uI] at c2;rw[←hS.cell (p:=⟨g,k*6+3,none⟩) uI] at c3;rw[←hS.cell (p:=⟨g,k*6+4,none⟩) uI] at c4;rw[←hS.cell (p:=⟨g,k*6+5,none⟩) uI] at c5;refine dO 18 (W:=(((wc.setCell ⟨g,k*6+2,none⟩ (UE UL qb)).setCell ⟨g,k*6+3,none⟩ (UE UL qn)).setCell ⟨g,k*6+4,none⟩ (UE UL v0.mb)).setCell ⟨g,k*6+5,none⟩ (UE UL v0.mn)) (by kernel_rfl) rfl rfl rfl ?xsB JV ?_
  case xsB=>(go_simp;(try rfl))
  refine wpAnyH_done (by kernel_rfl) ?_ _;generalize World.setCell _ _ _=Z at xY D9⊢;have Nr:=Ux xY;have HSZ:=Ux D9;have pc9:=xY.bD.facts.1;have hDl:=Ux (xY.Tw no);clear bj hbd hS N3 hfw xY D9 JV c2 c3 c4 c5;go_wp2_with fail;refine hDl.out.mono ?_;rintro e w5 ⟨⟨bb,rfl⟩,R',ez,dw,-,-⟩;have Hi:=Ux (ag ez dw);clear ez dw;go_wp2_with fail;go_ret;rw[eA.o,G3.o];exact⟨⟨_,rfl⟩,R',Hi.o.1,HSZ.o.trans Hi.o.2⟩
theorem vw(h:bB w pw R S){N:Nat}(hk:ay S N)(now:Int)(n:An)(hg:S.get n.no=some n)(hl:1≤n.ak)(na:Option Addr)(nl nc:Nat)(hE:aA w na nl nc n.au) :
  Calls Tryz.prog 115 #[UH (some ⟨pw,0,none⟩),UE UL now,n.v na nl nc] w fun e w'=>e=.returned (UK #[])∧∃R',bB w' pw R' (S.eF now n)∧aS (R.F pw) (R'.F pw) w w':=by
 obtain⟨hno,-,-,-⟩:=hk.get hg;obtain⟨l1,mT⟩:∃l1,n.ak-1=l1:=⟨_,rfl⟩;have hlb:=hno.ak;have gv:ay (S.set {n with ak:=l1,ctime:=now}) N:=by
  refine hk.set ⟨hno.dB,hno.lR,hno.dev,?_,hno.data,hno.mode,hno.kind,hno.nz,hno.sy⟩;show 0≤l1∧l1≤1000;omega
 have HF:=Ux (show S.eF now n=if l1≤0 then(S.set {n with ak:=l1,ctime:=now}).jk {n with ak:=l1,ctime:=now} else S.set {n with ak:=l1,ctime:=now} from by unfold Fs.eF;rw[mT]);generalize S.eF now n=fw at HF⊢;have iL:(S.set {n with ak:=l1,ctime:=now}).get n.no=some {n with ak:=l1,ctime:=now}:=by
  have:=fC (S:=S) (a:={n with ak:=l1,ctime:=now}) (b:=n) hg n.no;rw[this,if_pos rfl]
 have ey:=Ux (fun w1 (av:UA w w1)=>(h.an av).xr {n with ak:=l1,ctime:=now} (hE.an av) (b:=n) hg);unfold An.v at ey;have HK:=Ux (ag gv iL);have xQ:IntKind.i64.wrap (n.ak-1)=l1:=by rw[IntKind.wrap_i64]<;>omega
 have rK:wrap64 (n.ak-1)=l1:=by unfold wrap64;exact(IntKind.wrap_i64 (n.ak-1)).symm.trans xQ
 obtain⟨pc,-,pz⟩:=h.bD.facts;have mixed:Tryz.prog.follows .mixedOrders=true:=by kernel_rfl
 unfold An.v;obtain⟨hB,aJ⟩:=Uz w #[UE UL n.no,UE UL n.dev,UE UL n.kind,UE UL n.mode,UE UL n.uid,UE UL n.gid,UE UL n.mtime,UE UL now,UE UL l1,UE UL n.up,UF n.data,UG na nl nc] 149;have h0:=Ux h;clear h hk gv hg iL hE hno mT;go_enter Tryz.func115,Tryz.ntmps115;go_upto_region 3 with fail;generalize w.alloc _=X at hB aJ⊢;have pc0:X.cell? ⟨pw,0,none⟩=_:=(aJ.cell (p:=⟨pw,0,none⟩) pz).trans (pc 0);obtain⟨bc,-,bz⟩:=hB.facts;have HS:=Ux (ey.o _ aJ.drew);have HX:=Ux (ag (hB.an (Below.refl _ X).drew) aJ.drew);clear hB aJ;refine aG 5 mixed (by kernel_rfl) eQ ?_;simp only[List.take_succ_cons,List.take_zero,List.drop_succ_cons,List.drop_zero]
 repeat still_step
 refine wpStill_nil ?_;go_wp2_with fail;refine HS.o.mono ?_;rintro e w5 ⟨rfl,R1,ez,ij,-,-⟩;have eW:=(aS.aq HX.o.2).trans ij;have nG:=Ux (ag ez eW);have rQ:=HX.o.1.wd (h0.out.an HX.o.2) ij rfl;obtain⟨bc5,bf5,bz5⟩:=rQ.facts;clear ez ij eW rQ bc bz pc0 pc;by_cases hz:l1≤0
 ·have hzb:decide (l1≤0)=true:=decide_eq_true hz;have eA:=Ux (HF.o.trans (if_pos hz));have HKl:=Ux (ED nG.o.1 HK.o.1 n.no _ HK.o.2);go_wp2_with fail;refine HKl.o.mono ?_;rintro e w6 ⟨⟨bb,rfl⟩,R2,dw,ib⟩;have rh:=Ux (ag dw ib);clear dw ib;go_wp2_with fail
  go_end0
  rw[eA.o];exact⟨rfl,R2,rh.o.1,nG.o.2.trans rh.o.2⟩
 ·have hzb:decide (l1≤0)=false:=decide_eq_false hz;have eA:=Ux (HF.o.trans (if_neg hz));go_wp2_with fail
  go_end0
  rw[eA.o];exact⟨rfl,R1,nG.o.1,nG.o.2⟩
end
end
section
open Go.RowKit
theorem Ng(w:World)(u0 u1 u2 u3:Array Value)(T0 T1 T2 T3:TypeId):ax ((((w.alloc (.cells u0 T0)).alloc (.cells u1 T1)).alloc (.cells u2 T2)).alloc (.cells u3 T3)) w.heap.size u0 T0∧ax ((((w.alloc (.cells u0 T0)).alloc (.cells u1 T1)).alloc (.cells u2 T2)).alloc (.cells u3 T3)) (w.heap.size+1) u1 T1∧ax ((((w.alloc (.cells u0 T0)).alloc (.cells u1 T1)).alloc (.cells u2 T2)).alloc (.cells u3 T3)) (w.heap.size+1+1) u2 T2∧ax ((((w.alloc (.cells u0 T0)).alloc (.cells u1 T1)).alloc (.cells u2 T2)).alloc (.cells u3 T3)) (w.heap.size+1+1+1) u3 T3∧UA w ((((w.alloc (.cells u0 T0)).alloc (.cells u1 T1)).alloc (.cells u2 T2)).alloc (.cells u3 T3)):=by
 obtain⟨h0,h1,h2,hb⟩:=yG w u0 u1 u2 T0 T1 T2;have hs:(((w.alloc (.cells u0 T0)).alloc (.cells u1 T1)).alloc (.cells u2 T2)).heap.size=w.heap.size+1+1+1:=by rw[World.size_alloc,World.size_alloc,World.size_alloc]
 have h3:=ax.new (((w.alloc (.cells u0 T0)).alloc (.cells u1 T1)).alloc (.cells u2 T2)) u3 T3;rw[hs] at h3;have hk:=ao (Below.refl (((w.alloc (.cells u0 T0)).alloc (.cells u1 T1)).alloc (.cells u2 T2)).heap.size _) (.cells u3 T3);exact⟨h0.an hk,h1.an hk,h2.an hk,h3,ao hb _⟩
structure TG(w':World)(b:Nat)(cs ts ns os:Array Value):Prop where
 c:ax w' b cs 64
 t:ax w' (b+1) ts 149
 n:ax w' (b+1+1) ns 149
 o:ax w' (b+1+1+1) os 149
theorem TG.an{w w':World}{b:Nat}{cs ts ns os:Array Value}(h:TG w b cs ts ns os)(hb:UA w w'):TG w' b cs ts ns os:=⟨h.c.an hb,h.t.an hb,h.n.an hb,h.o.an hb⟩
section
variable{w w':World}{pw:Nat}{R:Rp}{S:Fs}
theorem EH(h:bB w pw R S)(hd:0<S.ds.length)(c:Cr)(t n bI:An)(ht:0≤t.mode∧t.mode≤1023)(ta:Option Addr)(tl tc:Nat)(na:Option Addr)(nl nc:Nat)(oa:Option Addr)(ol oc:Nat)(hE:aA w oa ol oc bI.au) :
  Calls Tryz.prog 114 #[UH (some ⟨pw,0,none⟩),UJ #[UE UL c.u,UE UL c.g],t.v ta tl tc,n.v na nl nc,bI.v oa ol oc] w fun e w'=>e=.returned (UE UL (S.kC c t n bI))∧UA w w':=by
 unfold An.v;have hlen:(bI.au≠[])↔ol≠0:=by
  rw[←hE.len]
  cases bI.au<;>simp
 have HF:=Ux (show S.kC c t n bI=if S.aB bI.no≠bI.no then 16 else if n.kind=1∧bI.kind≠1 then 9 else if n.kind≠1∧bI.kind=1 then 8 else if bI.au≠[] then 10 else if nE c t bI=false then 4 else 0 from rfl);generalize S.kC c t n bI=fw at HF⊢;have uE:=Ux hlen;have pL:=Ux (fun w1 (av:UA w w1)=>jB (h.an av) hd bI.no);have NH:=Ux (fun w1=>vR c t bI ta oa tl tc ol oc ht w1);generalize nE c t bI=fr at HF NH;generalize S.aB bI.no=ov at HF pL;obtain⟨hC,hT,hN,hO,hb⟩:=Ng w #[UE UL c.u,UE UL c.g] #[UE UL t.no,UE UL t.dev,UE UL t.kind,UE UL t.mode,UE UL t.uid,UE UL t.gid,UE UL t.mtime,UE UL t.ctime,UE UL t.ak,UE UL t.up,UF t.data,UG ta tl tc] #[UE UL n.no,UE UL n.dev,UE UL n.kind,UE UL n.mode,UE UL n.uid,UE UL n.gid,UE UL n.mtime,UE UL n.ctime,UE UL n.ak,UE UL n.up,UF n.data,UG na nl nc] #[UE UL bI.no,UE UL bI.dev,UE UL bI.kind,UE UL bI.mode,UE UL bI.uid,UE UL bI.gid,UE UL bI.mtime,UE UL bI.ctime,UE UL bI.ak,UE UL bI.up,UF bI.data,UG oa ol oc] 64 149 149 149;clear h hE hlen;go_enter Tryz.func114,Tryz.ntmps114;go_upto_region 1 with fail;generalize World.alloc _ _=X at hC hT hN hO hb⊢;have hS:TG X w.heap.size #[UE UL c.u,UE UL c.g] #[UE UL t.no,UE UL t.dev,UE UL t.kind,UE UL t.mode,UE UL t.uid,UE UL t.gid,UE UL t.mtime,UE UL t.ctime,UE UL t.ak,UE UL t.up,UF t.data,UG ta tl tc] #[UE UL n.no,UE UL n.dev,UE UL n.kind,UE UL n.mode,UE UL n.uid,UE UL n.gid,UE UL n.mtime,UE UL n.ctime,UE UL n.ak,UE UL n.up,UF n.data,UG na nl nc] #[UE UL bI.no,UE UL bI.dev,UE UL bI.kind,UE UL bI.mode,UE UL bI.uid,UE UL bI.gid,UE UL bI.mtime,UE UL bI.ctime,UE UL bI.ak,UE UL bI.up,UF bI.data,UG oa ol oc]:=⟨hC,hT,hN,hO⟩;have hbd:UA X X.drew:=(Below.refl _ _).drew;have HB:=Ux hb;clear hC hT hN hO;refine wp_region_held_drew (S:=fun w'=>TG w' w.heap.size #[UE UL c.u,UE UL c.g] #[UE UL t.no,UE UL t.dev,UE UL t.kind,UE UL t.mode,UE UL t.uid,UE UL t.gid,UE UL t.mtime,UE UL t.ctime,UE UL t.ak,UE UL t.up,UF t.data,UG ta tl tc] #[UE UL n.no,UE UL n.dev,UE UL n.kind,UE UL n.mode,UE UL n.uid,UE UL n.gid,UE UL n.mtime,UE UL n.ctime,UE UL n.ak,UE UL n.up,UF n.data,UG na nl nc] #[UE UL bI.no,UE UL bI.dev,UE UL bI.kind,UE UL bI.mode,UE UL bI.uid,UE UL bI.gid,UE UL bI.mtime,UE UL bI.ctime,UE UL bI.ak,UE UL bI.up,UF bI.data,UG oa ol oc]) (by kernel_rfl) (hS.an hbd) (fun bj=>?_);refine aL 5 [(0,12),(1,13),(2,14),(4,16),(5,17)] (by kernel_rfl) (by kernel_rfl) rfl (fun _ _ _ _ _ h=>h) bj ?_
 iterate 5 (apply aF rfl rfl;(· (intro w9 cL;obtain⟨s1,-,-⟩:=cL.o.facts;clear cL;go_simp;(try with_reducible rfl)));simp only[ah,ai,aj])
 refine aK ?_;refine bN 3 15 (R:=fun v w'=>v=UE UL ov∧Below X.drew.heap.size X.drew w') (by kernel_rfl) rfl rfl rfl ?ya ((pL.o _ (ar hb hbd)).mono (fun e w' ⟨he,hw⟩=>⟨_,he,rfl,hw⟩)) (fun v w' ⟨_,hw⟩=>bj.an hw) ?_
 case ya=>(go_simp;(try rfl))
 rintro _ w6 ⟨rfl,fp⟩;simp only[ah,ai,aj];have kq:=bj.an fp;have jJ:=Ux (ar (ar hb hbd) fp);refine aL 2 [(6,18),(7,11)] (by kernel_rfl) (by kernel_rfl) rfl (fun _ _ _ _ _ h=>h) kq ?_
 iterate 2 (apply aF rfl rfl;(· (intro w9 cL;clear cL;go_simp;(try with_reducible rfl)));simp only[ah,ai,aj])
 refine aK ?_;refine wpAnyH_done (by kernel_rfl) ?_ _;obtain⟨cc,cf,cz⟩:=kq.c.facts;obtain⟨tc',tf,tz⟩:=kq.t.facts;obtain⟨nc',nf,nz⟩:=kq.n.facts;obtain⟨oc',of,oz⟩:=kq.o.facts;clear bj kq fp hbd hS hb;by_cases yl:ov≠bI.no
 ·have HE:=Ux (show fw=16 from HF.o.trans (if_pos yl));have O5:(ov != bI.no)=true:=by simpa using yl
  clear yl;go_wp2_with fail;go_ret;rw[HE.o];exact⟨rfl,jJ.o⟩
 have O5:(ov != bI.no)=false:=by simpa using yl
 have eA:=Ux (HF.o.trans (if_neg yl));clear yl;by_cases hn:n.kind=1
 ·have j6:(n.kind==1)=true:=by simpa using hn
  have oV:(n.kind != 1)=false:=by simpa using hn
  by_cases ho:bI.kind=1
  ·have Sr:(bI.kind==1)=true:=by simpa using ho
   have CN:(bI.kind != 1)=false:=by simpa using ho
   have bS:=Ux (show fw=if bI.au≠[] then 10 else if fr=false then 4 else 0 from eA.o.trans (by rw[if_neg (fun q=>q.2 ho),if_neg (fun q=>q.1 hn)]));clear hn ho;by_cases hl:ol=0
   ·have kP:=Ux (bS.o.trans (if_neg (fun q=>(uE.o.1 q) hl)));subst hl
    cases fr with
    |false=>
     have wX:=Ux (show fw=4 from kP.o);go_wp2_with fail;refine(NH.o _).mono ?_;rintro e w7 ⟨rfl,lQ⟩;have pN:=Ux (ar jJ.o lQ);clear cc cf cz tc' tf tz nc' nf nz oc' of oz lQ;go_wp2_with fail;go_ret;rw[wX.o];exact⟨rfl,pN.o⟩
    |true=>
     have wX:=Ux (show fw=0 from kP.o);go_wp2_with fail;refine(NH.o _).mono ?_;rintro e w7 ⟨rfl,lQ⟩;have pN:=Ux (ar jJ.o lQ);clear cc cf cz tc' tf tz nc' nf nz oc' of oz lQ;go_wp2_with fail;go_ret;rw[wX.o];exact⟨rfl,pN.o⟩
   ·have kP:=Ux (bS.o.trans (if_pos (uE.o.2 hl)));have fk:(0:Int)<(ol:Int):=by omega
    clear hl;go_wp2_with fail;go_ret;rw[kP.o];exact⟨rfl,jJ.o⟩
  ·have Sr:(bI.kind==1)=false:=by simpa using ho
   have CN:(bI.kind != 1)=true:=by simpa using ho
   have bS:=Ux (show fw=9 from eA.o.trans (if_pos ⟨hn,ho⟩));clear hn ho;go_wp2_with fail;go_ret;rw[bS.o];exact⟨rfl,jJ.o⟩
 ·have j6:(n.kind==1)=false:=by simpa using hn
  have oV:(n.kind != 1)=true:=by simpa using hn
  by_cases ho:bI.kind=1
  ·have Sr:(bI.kind==1)=true:=by simpa using ho
   have CN:(bI.kind != 1)=false:=by simpa using ho
   have bS:=Ux (show fw=8 from eA.o.trans (by rw[if_neg (fun q=>hn q.1),if_pos ⟨hn,ho⟩]));clear hn ho;go_wp2_with fail;go_ret;rw[bS.o];exact⟨rfl,jJ.o⟩
  ·have Sr:(bI.kind==1)=false:=by simpa using ho
   have CN:(bI.kind != 1)=true:=by simpa using ho
   have bS:=Ux (show fw=if bI.au≠[] then 10 else if fr=false then 4 else 0 from eA.o.trans (by rw[if_neg (fun q=>hn q.1),if_neg (fun q=>ho q.2)]));clear hn ho;by_cases hl:ol=0
   ·have kP:=Ux (bS.o.trans (if_neg (fun q=>(uE.o.1 q) hl)));subst hl
    cases fr with
    |false=>
     have wX:=Ux (show fw=4 from kP.o);go_wp2_with fail;refine(NH.o _).mono ?_;rintro e w7 ⟨rfl,lQ⟩;have pN:=Ux (ar jJ.o lQ);clear cc cf cz tc' tf tz nc' nf nz oc' of oz lQ;go_wp2_with fail;go_ret;rw[wX.o];exact⟨rfl,pN.o⟩
    |true=>
     have wX:=Ux (show fw=0 from kP.o);go_wp2_with fail;refine(NH.o _).mono ?_;rintro e w7 ⟨rfl,lQ⟩;have pN:=Ux (ar jJ.o lQ);clear cc cf cz tc' tf tz nc' nf nz oc' of oz lQ;go_wp2_with fail;go_ret;rw[wX.o];exact⟨rfl,pN.o⟩
   ·have kP:=Ux (bS.o.trans (if_pos (uE.o.2 hl)));have fk:(0:Int)<(ol:Int):=by omega
    clear hl;go_wp2_with fail;go_ret;rw[kP.o];exact⟨rfl,jJ.o⟩
end
end
section
open Go.RowKit
theorem LO{l:List En}(h:fL l)(s:ByteArray)(no:Int)(hno:iX l s=true):aV l s no=l.take (dG l s)++⟨s,no⟩::l.drop (dG l s+1):=by
 rw[Cy h,if_pos (CY h hno)]
theorem aA.single{w:World}{b:Nat}{s:ByteArray}{no:Int}(h:ax w b #[UF s,UE UL no] 98):aA w (some ⟨b,0,none⟩) 1 1 [⟨s,no⟩]:=by
 refine⟨⟨rfl,aa _,by omega,.inr ⟨b,0,rfl,h.lt,fun i hi=>?_⟩⟩,fun p hp=>?_⟩
 ·have hi0:i=0:=by simpa using hi
  subst hi0;refine⟨[UF s,UE UL no],rfl,rfl,fun j hj=>?_⟩;have:=h.cell j;simp only[Nat.zero_mul,Nat.add_zero,Nat.zero_add];rw[this];rcases j with _|_|j
  ·rfl
  ·rfl
  ·simp at hj;omega
 ·injection hp with hp;exact⟨b,0,_,hp.symm,h⟩
theorem J2(es:List En)(a:Option Addr)(n c:Nat)(s:ByteArray)(no:Int)(w:World)(he:aA w a n c es)(hr:fL es)(hn:n≤100000)(hh:iX es s=true) :
  Calls Tryz.prog 110 #[UG a n c,UF s,UE UL no] w fun e w'=>(∃a' n' c',e=.returned (UG a' n' c')∧aA w' a' n' c' (aV es s no))∧UA w w':=by
 have HS:=Ux (lf es a n c s w he hr (by omega));have HE:=Ux he;have hl:=he.len;rw[hh] at HS;obtain⟨hk,hks⟩:=CY hr hh;have HD:=Ux (LO hr s no hh);generalize dG es s=k at HS HD hk;obtain⟨b,off,rfl,hbl⟩:=he.ej (by omega);have hcn:n≤c:=he.sl.2.1;have hcm:=he.sl.2.2.1;have yO:=Ux (show k<n by omega);clear hh he hr hks;have gv:(k:Int)+1≤n:=by omega
 have rK:IntKind.i64.wrap ((k:Int)+1)=(k:Int)+1:=by rw[IntKind.wrap_i64];omega
 have htn:((k:Int)+1).toNat=k+1:=by omega
 have hkn:(k:Int)≤(n:Int):=by omega
 have hkc:k≤c:=by omega
 have hkc2:(k:Int)≤(c:Int):=by omega
 have QL:(0:Int)≤(k:Int)+1:=by omega
 go_enter Tryz.func110,Tryz.ntmps110;go_wp2_with fail;refine HS.o.mono ?_;rintro e w1 ⟨rfl,av⟩;have dX:=Ux av;have h1:=(HE.o.an av).head (k:=k) (by omega);have h2:=(HE.o.an av).from (k:=k+1) (by omega);have HH:=Ux (ag h1 h2);clear av h1 h2;go_upto_region 3 with fail;refine wp_region_held_drew (S:=fun _=>True) (by kernel_rfl) trivial (fun bj=>?_);refine aL 10 [(0,16),(1,17),(2,18),(3,19),(4,20),(5,21),(7,23),(8,24),(9,25),(10,26)] (by kernel_rfl) (by kernel_rfl) rfl (fun _ _ _ _ _ h=>h) bj ?_
 iterate 10 (apply aF rfl rfl;(· (intro w9 cL;clear cL;go_simp;(try with_reducible rfl)));simp only[ah,ai,aj])
 refine aK ?_;have hbd:UA w1 w1.drew:=(Below.refl _ _).drew;have hX:=ax.new w1.drew #[UF s,UE UL no] 98;have aJ:=ao hbd (.cells #[UF s,UE UL no] 98);refine eY 6 22 (v:=.slice (some ⟨w1.drew.heap.size,0,none⟩) 1 1) (W:=w1.drew.alloc (.cells #[UF s,UE UL no] 98)) (by kernel_rfl) rfl rfl rfl ?qz trivial ?_
 case qz=>(go_simp;(try rfl))
 simp only[ah,ai,aj];generalize w1.drew.alloc (.cells #[UF s,UE UL no] 98)=w2 at hX aJ⊢;generalize w1.drew.heap.size=bx at hX⊢;obtain⟨hN,Jy⟩:=Uz w2 #[.slice (some ⟨b,off,none⟩) k c,.slice (some ⟨bx,0,none⟩) 1 1,.slice (if c=k+1 then some ⟨b,off,none⟩ else some ⟨b,off+(k+1)*2,none⟩) (n-(k+1)) (c-(k+1))] 94;refine eY 11 27 (v:=.slice (some ⟨w2.heap.size,0,none⟩) 3 3) (W:=w2.alloc (.cells #[.slice (some ⟨b,off,none⟩) k c,.slice (some ⟨bx,0,none⟩) 1 1,.slice (if c=k+1 then some ⟨b,off,none⟩ else some ⟨b,off+(k+1)*2,none⟩) (n-(k+1)) (c-(k+1))] 94)) (by kernel_rfl) rfl rfl rfl ?qa trivial ?_
 case qa=>(go_simp;(try rfl))
 simp only[ah,ai,aj];have hcc:=qV [⟨some ⟨b,off,none⟩,k,c,es.take k⟩,⟨some ⟨bx,0,none⟩,1,1,[⟨s,no⟩]⟩,⟨(if c=k+1 then some ⟨b,off,none⟩ else some ⟨b,off+(k+1)*2,none⟩),n-(k+1),c-(k+1),es.drop (k+1)⟩] w2.heap.size _ hN (fun p hp=>by
  rcases List.mem_cons.1 hp with rfl|hp
  ·exact HH.o.1.an (ar aJ Jy)
  rcases List.mem_cons.1 hp with rfl|hp
  ·exact(aA.single hX).an Jy
  ·rw[List.mem_singleton.1 hp];exact HH.o.2.an (ar aJ Jy)) (by simp) (fun p hp=>by
  rcases List.mem_cons.1 hp with rfl|hp
  ·show k≤100000;omega
  rcases List.mem_cons.1 hp with rfl|hp
  ·show 1≤100000;omega
  ·rw[List.mem_singleton.1 hp];show n-(k+1)≤100000;omega)
 have cl:=ar aJ Jy;generalize w2.alloc _=W2 at hcc cl⊢;refine bN 12 28 (R:=fun v w'=>OE w' W2.heap.size v (es.take k++⟨s,no⟩::es.drop (k+1))∧UA W2 w') (by kernel_rfl) rfl rfl rfl ?xa (hcc.mono (fun e w' ⟨v,he,ho,hb⟩=>⟨v,he,by simpa using ho,hb⟩)) (fun v w' _=>trivial) ?_
 case xa=>(go_simp;(try rfl))
 rintro v9 W9 ⟨N6,rk⟩;simp only[ah,ai,aj];refine aL 1 [(13,6)] (by kernel_rfl) (by kernel_rfl) rfl (fun _ _ _ _ _ h=>h) trivial ?_
 iterate 1 (apply aF rfl rfl;(· (intro w9 cL;clear cL;go_simp;(try with_reducible rfl)));simp only[ah,ai,aj])
 refine aK ?_;refine wpAnyH_done (by kernel_rfl) ?_ _;obtain⟨a9,n9,c9,rfl,Ob⟩:=OE.Og N6;have H9:=Ux (ag Ob (ar dX.o (ar cl rk)));clear hcc hN Jy hX aJ cl hbd N6 rk Ob;go_wp2_with fail
 all_goals
  go_ret;exact⟨⟨_,_,_,rfl,by rw[HD.o];exact H9.o.1⟩,H9.o.2⟩
theorem J3(es:List En)(a:Option Addr)(n c:Nat)(s:ByteArray)(no:Int)(w:World)(he:aA w a n c es)(hr:fL es)(hn:n≤100000) :
  Calls Tryz.prog 110 #[UG a n c,UF s,UE UL no] w fun e w'=>(∃a' n' c',e=.returned (UG a' n' c')∧aA w' a' n' c' (aV es s no))∧UA w w':=by
 cases hh:iX es s with
 |false=>exact tZ es a n c s no w he hr (by omega) hh
 |true=>exact J2 es a n c s no w he hr hn hh
end
section
open Go.RowKit
def Fs.NQ(S:Fs)(c:Cr)(t n:An):Option An→Int×Bool
 |none=>(0,false)
 |some o=>(S.kC c t n o,false)
def Fs.qL(S:Fs)(now:Int):Option An→Fs
 |none=>S
 |some o=>S.eF now o
theorem oI(S:Fs)(now src:Int)(a:ByteArray)(dst:Int)(b:ByteArray)(d n:An)(bI:Option An):S.shift now src a dst b d n bI=(((S.qL now bI).aE now src (aM d.au a)).aE now dst (aV (((S.qL now bI).aE now src (aM d.au a)).aI dst) b n.no)).set {n with ctime:=now,up:=if n.kind=1 then dst else n.up}:=by
 cases bI<;>rfl
end
end Go.Proofs.YtabbjaomlmnnhaaGreat
