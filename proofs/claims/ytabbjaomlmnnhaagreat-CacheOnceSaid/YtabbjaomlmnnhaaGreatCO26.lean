import Derived.Test.YtabbjaomlmnnhaaGreatCO24
import Derived.Test.YtabbjaomlmnnhaaGreatCO21
import Derived.Test.YtabbjaomlmnnhaaGreatCO25
import Derived.Test.YtabbjaomlmnnhaaGreatCO10
import Derived.Test.YtabbjaomlmnnhaaGreatCO8
set_option linter.unusedVariables false
set_option linter.unusedSimpArgs false
set_option maxRecDepth 100000
set_option maxHeartbeats 16000000
namespace Go.Proofs.YtabbjaomlmnnhaaGreat
open Go.Value renaming int→UE,string→UF,slice→UG,pointer→UH,agg→UJ,tuple→UK
open Go.IntKind renaming i64→UL
section
open Go.RowKit
theorem mW{S:Fs}{k:Int}{d:An}(h:S.get k=some d):S.aI k=d.au:=by unfold Fs.aI;rw[h]
theorem Good.ren{S:Fs}{N:Nat}(h:Good S N)(now:Int){src dst:Int}{a b:ByteArray}{d n t:An}(hd:S.get src=some d)(hn:S.get (aw d.au a)=some n)(hk:n.kind≠1)(ht:S.get dst=some t)(htk:t.kind=1)(hb:cH b=0)(hdev:d.dev=t.dev)(hfree:aw t.au b=0)(up:Int)(hup:up=n.up) :
  Good ((((S.aE now src (aM d.au a)).aE now dst (aV ((S.aE now src (aM d.au a)).aI dst) b n.no))).set {n with ctime:=now,up:=up}) (N+1):=by
 subst hup;obtain⟨ho,hdn,-⟩:=h.bK.ok.get hd;obtain⟨hno,hnn,j6,-⟩:=h.bK.ok.get hn;obtain⟨hto,htn,-⟩:=h.bK.ok.get ht;have hent:∃e∈d.au,e.no=aw d.au a:=by
  unfold aw at j6⊢
  cases hf:d.au.find? (fun x=>decide (x.name=a)) with
  |none=>
   rw[hf] at j6;exact absurd j6 (show¬(1:Int)≤0 by decide)
  |some e=>exact⟨e,List.mem_of_find?_eq_some hf,rfl⟩
 obtain⟨e,hee,hen⟩:=hent;have hndev:n.dev=t.dev:=by
  obtain⟨c,hc,hcd⟩:=h.bK.wy.sd d (aO hd) e hee;rw[hen,hn] at hc;injection hc with hc;subst hc;rw[hcd,hdev]
 have hns:n.no≠src:=fun e=>by
  rw[←e,bH hn] at hd;injection hd with hd;subst hd;rw[h.bK.tr.leaf _ (aO hn) hk] at hee
  cases hee
 have hnt:n.no≠dst:=fun e=>by
  rw[←e,bH hn] at ht;injection ht with ht;subst ht;exact hk htk
 have h1:=h.bK.drop now hd a;have iL:(S.aE now src (aM d.au a)).get n.no=some n:=by rw[bL S now _ hns];exact bH hn
 have mT:(S.aE now src (aM d.au a)).oq fun k=>if k=n.no then -1 else 0:=Fs.oq.aE h.lk h.bK.ok.nums now src _ hd fun k=>by
  have hdc:=A5 ho.dB a k (fun e he h0=>by have:=ho.nz e he;omega);rw[if_neg (by omega)] at hdc;unfold one at hdc;by_cases hq:k=n.no
  ·rw[if_pos hq];rw[if_pos (by omega)] at hdc;omega
  ·rw[if_neg hq];rw[if_neg (by omega)] at hdc;omega
 obtain⟨t1,yT,ht1k,ht1d,ht1f⟩:∃t1,(S.aE now src (aM d.au a)).get dst=some t1∧t1.kind=1∧t1.dev=t.dev∧aw t1.au b=0:=by
  by_cases hq:dst=src
  ·subst hq;rw[hd] at ht;injection ht with ht;subst ht;refine⟨_,eu now (aM d.au a) hd,htk,rfl,?_⟩;show aw (aM d.au a) b=0;by_cases hab:b=a
   ·subst hab;exact jw b
   ·rw[wH hab];exact hfree
  ·exact⟨t,by rw[bL S now _ hq];exact ht,htk,rfl,hfree⟩
 generalize S.aE now src (aM d.au a)=S1 at h1 iL mT yT⊢;rw[mW yT];obtain⟨FY,htn1,-⟩:=h1.ok.get yT;have hr:kM S1 dst (aV t1.au b n.no):=by
  have hrow:=h1.tr.row t1 (aO yT);rw[htn1] at hrow;exact hrow.put b iL (fun hq=>absurd hq hk) (fun hq=>absurd hq hk)
 have hlen:=xC t1.au b n.no FY.dB;have hmem:∀x∈aV t1.au b n.no,x∈t1.au∨x=⟨b,n.no⟩:=fun x hx=>by
  unfold aV at hx;rcases List.mem_append.1 hx with hx|hx
  ·exact .inl (List.mem_filter.1 hx).1
  ·rcases List.mem_cons.1 hx with hx|hx
   ·exact .inr hx
   ·exact .inl (List.mem_filter.1 hx).1
 have h2:dE (S1.aE now dst (aV t1.au b n.no)) (N+1):=by
  refine⟨(h1.ok.mono (Nat.le_succ N)).aE now dst _ (l5 FY.dB b n.no) (by have:=FY.lR;omega) (Cx FY.nz b (by omega)),h1.pl.aE now dst _ (fun x hx=>?_),h1.tr.aE now dst _ (fun d2 iG=>?_),h1.wy.aE now dst _ (fun d2 iG x hx=>?_),h1.nm.aE now dst _ (fun x hx=>?_)⟩
  ·rcases hmem x hx with hx|rfl
   ·exact h1.pl.names t1 (aO yT) x hx
   ·exact uq hb
  ·rw[yT] at iG;injection iG with iG;subst iG;exact⟨ht1k,hr⟩
  ·rw[yT] at iG;injection iG with iG;subst iG;rcases hmem x hx with hx|rfl
   ·exact h1.wy.sd t1 (aO yT) x hx
   ·exact⟨n,iL,by rw[ht1d];exact hndev⟩
  ·rcases hmem x hx with hx|rfl
   ·exact h1.nm t1 (aO yT) x hx
   ·exact hb
 have yU:(S1.aE now dst (aV t1.au b n.no)).Lk:=Fs.oq.aE mT h1.ok.nums now dst _ yT fun k=>by
  rw[xD FY.dB (qk FY.nz ht1f)];unfold one;by_cases hq:k=n.no
  ·rw[if_pos hq,if_pos hq.symm];omega
  ·rw[if_neg hq,if_neg (fun h=>hq h.symm)];omega
 have lU:(S1.aE now dst (aV t1.au b n.no)).get n.no=some n:=by rw[bL S1 now _ hnt];exact iL
 obtain⟨CN,-⟩:=h2.ok.get lU;exact⟨h2.same (a:={n with ctime:=now,up:=n.up}) lU rfl rfl rfl rfl ⟨CN.dB,CN.lR,CN.dev,CN.ak,CN.data,CN.mode,CN.kind,CN.nz,CN.sy⟩,Fs.Lk.same yU h2.ok.nums (a:={n with ctime:=now,up:=n.up}) lU rfl rfl rfl⟩
theorem Good.shift{S:Fs}{N:Nat}(h:Good S N)(now:Int){src dst:Int}{a b:ByteArray}{d n t:An}(hd:S.get src=some d)(hn:S.get (aw d.au a)=some n)(hk:n.kind≠1)(ht:S.get dst=some t)(htk:t.kind=1)(hb:cH b=0)(hdev:d.dev=t.dev)(hok:∀o,S.get (aw t.au b)=some o→o.kind≠1∧o.no≠n.no) :
  Good (S.shift now src a dst b d n (S.get (aw t.au b))) (N+1):=by
 have hup:(if n.kind=1 then dst else n.up)=n.up:=if_neg hk
 cases ho:S.get (aw t.au b) with
 |none=>
  have hf:aw t.au b=0:=by
   unfold aw at ho⊢
   cases hq:t.au.find? (fun x=>decide (x.name=b)) with
   |none=>rfl
   |some e=>
    rw[hq] at ho;obtain⟨c,hc,-⟩:=(h.bK.tr.row t (aO ht)).down e (List.mem_of_find?_eq_some hq);have ho:S.get e.no=none:=ho;rw[ho] at hc
    cases hc
  exact h.ren now hd hn hk ht htk hb hdev hf _ hup
 |some o=>
  obtain⟨Pb,tI⟩:=hok o ho;have hon:=bV ho;have hG:=h.gone now ht ho Pb;have htn:=bV ht;have hdo:dst≠o.no:=fun e=>by
   rw[e,bH ho] at ht;injection ht with ht;subst ht;exact Pb htk
  have hso:src≠o.no:=fun e=>by
   rw[e,bH ho] at hd;injection hd with hd;subst hd;have j6:=(h.bK.ok.get hn).2.2.1;rw[h.bK.tr.leaf _ (aO ho) Pb] at j6;exact absurd j6 (show¬(1:Int)≤0 by decide)
  unfold Fs.mw at hG;rw[htn,←B4 S now _ hdo] at hG;have hLs:(S.eF now o).get src=some d:=by rw[gX S now hso];exact hd
  have PK:(S.eF now o).get dst=some t:=by rw[gX S now hdo];exact ht
  have hLn:(S.eF now o).get n.no=some n:=by rw[gX S now (fun e=>tI e.symm)];exact bH hn
  have hnn:=bV hn;unfold Fs.shift;dsimp only;generalize S.eF now o=L at hG hLs PK hLn⊢;have hnt:n.no≠dst:=fun e=>by
   rw[←e,hLn] at PK;injection PK with PK;subst PK;exact hk htk
  have Tj:(L.aE now dst (aM t.au b)).get n.no=some n:=by rw[bL L now _ hnt];exact hLn
  have Ti:=eu now (aM t.au b) PK;by_cases hq:src=dst
  ·subst hq;rw[hd] at ht;injection ht with ht;subst ht;have hab:a≠b:=fun e=>by
    subst e;rw[hn] at ho;injection ho with ho;subst ho;exact tI rfl
   have h3:=hG.ren now (a:=a) (b:=b) (n:=n) Ti (by
    show(L.aE now src (aM d.au b)).get (aw (aM d.au b) a)=some n;rw[wH hab,←hnn];exact Tj) hk Ti htk hb rfl (jw b) _ hup
   rw[mW (eu now _ Ti),gJ] at h3;rw[mW (eu now _ hLs),gJ];dsimp only at h3⊢;rw[drop_drop,Ad,gJ] at h3;exact h3
  ·have hGs:(L.aE now dst (aM t.au b)).get src=some d:=by rw[bL L now _ hq];exact hLs
   have h3:=hG.ren now (a:=a) (b:=b) (n:=n) hGs (by rw[←hnn];exact Tj) hk Ti htk hb hdev (jw b) _ hup;have uV:dst≠src:=fun e=>hq e.symm;have e1:(L.aE now src (aM d.au a)).aI dst=t.au:=mW (by rw[bL L now _ uV];exact PK);have e2:((L.aE now dst (aM t.au b)).aE now src (aM d.au a)).aI dst=aM t.au b:=mW (d:={t with au:=aM t.au b,mtime:=now,ctime:=now}) (by rw[bL _ now _ uV];exact Ti);rw[e2,Ad,B5 L now _ _ uV,gJ] at h3;rw[e1];exact h3
theorem Good.move{S:Fs}{N:Nat}(h:Good S N)(c:Cr)(now src:Int)(a:ByteArray)(dst:Int)(b:ByteArray)(hk:∀d n,S.get src=some d→S.get (aw d.au a)=some n→n.kind≠1):Good (S.dP c now src a dst b).1 (N+1):=by
 have h0:=h.mono (Nat.le_succ N);unfold Fs.dP
 split
 ·exact h0
 ·split
  ·exact h0
  ·rename_i hpl
   split
   ·rename_i d n t hd hn ht;rw[mW hd] at hn;have hnk:=hk d n hd hn;obtain⟨t2,FZ,htk,hb⟩:=cD (by simpa using hpl);rw[ht] at FZ;injection FZ with FZ;subst FZ
    split
    ·exact h0
    ·rename_i he
     split
     ·exact h0
     ·rename_i hz;have he:(S.gp c src dst d n t (S.get (aw t.au b))).1=0:=by simpa using he
      unfold Fs.gp at he hz;by_cases h1:d.dev=t.dev
      ·rw[if_neg (by simpa using h1)] at he hz;rw[if_neg (fun h=>hnk h.1)] at he hz;by_cases h2:(S.get (aw t.au b)).any (fun o=>o.no==n.no)=true
       ·rw[if_pos h2] at hz;exact absurd rfl hz
       ·rw[if_neg h2,if_neg (fun h=>hnk h.1)] at he;refine h.shift now hd hn hnk ht htk hb h1 fun o ho=>?_;rw[ho] at he h2;have he:S.kC c t n o=0:=he;unfold Fs.kC at he
        split at he
        ·exact absurd he (by decide)
        ·rw[if_neg (fun h=>hnk h.1)] at he
         split at he
         ·exact absurd he (by decide)
         ·rename_i h3;refine⟨fun Sr=>h3 ⟨hnk,Sr⟩,fun e=>h2 ?_⟩;simpa using e
      ·rw[if_pos h1] at he;exact absurd he (by decide)
   ·exact h0
end
section
open Go.RowKit
structure fP(Y:Sy)(N:Nat):Prop where
 ok:eJ Y N
 lk:Y.fs.Lk
section
variable{Y:Sy}{N M:Nat}
theorem fP.lz(h:fP Y N):Good Y.fs N:=⟨h.ok.bK,h.lk⟩
theorem fP.mono(h:fP Y N)(hM:N≤M):fP Y M:=⟨h.ok.mono hM,h.lk⟩
theorem fP.change(h:fP Y N):fP Y.change.1 (N+1):=⟨h.ok.change,by rw[(dy Y).1];exact h.lk⟩
theorem fP.op(h:fP Y N){g:Fs→Int→Fs×Int×Int}(hg:Good (g Y.fs Y.now).1 (N+1)):fP (Y.op g).1 (N+1):=by
 have hc:=h.change;unfold Sy.op
 split
 ·exact hc
 ·exact⟨⟨hg.bK,hc.ok.c0,hc.ok.cN,hc.ok.pl⟩,hg.lk⟩
theorem fP.fN(h:fP Y N){g:Fs→Int→Fs×Int}(hg:Good (g Y.fs Y.now).1 (N+1)):fP (Y.fN g).1 (N+1):=by
 have hc:=h.change;unfold Sy.fN
 split
 ·exact hc
 ·exact⟨⟨hg.bK,hc.ok.c0,hc.ok.cN,hc.ok.pl⟩,hg.lk⟩
theorem fP.dC(h:fP Y N)(u:Us)(dir:Int)(n:ByteArray):fP (Y.dC u dir n).1 (N+1):=by
 unfold Sy.dC
 split
 ·exact h.op (h.lz.aN _ _ _ _ _)
 ·exact h.mono (by omega)
theorem fP.et{u:Us}{dir:Int}:∀{l:List ByteArray} {Y:Sy} {N:Nat},fP Y N→fP (Y.et u dir l).1 (N+l.length)
 | [],_,_,h=>h
 |n::l,Y,N,h=>by
  rw[Sy.et]
  split
  ·exact(h.dC u dir n).mono (by simp)
  ·have:=(h.dC u dir n).et (u:=u) (dir:=dir) (l:=l);exact this.mono (by simp;omega)
theorem fP.aZ(h:fP Y N)(u:Us)(p:mX):fP (Y.aZ u p).1 (N+5):=by
 unfold Sy.aZ;dsimp only;have h1:=h.dC u p.dir p.name
 split
 ·exact h1.mono (by omega)
 ·have h2:=h1.et (u:=u) (dir:=(Y.dC u p.dir p.name).2.1) (l:=fy);have h3:N+1+fy.length=N+5:=rfl;rw[h3] at h2
  split<;>exact h2
theorem fP.bw{u:Us}:∀{l:List mX} {Y:Sy} {N:Nat} (e:Int),fP Y N→fP (Y.bw u l e).1 (N+5*l.length)
 | [],_,_,_,h=>h
 |p::l,Y,N,e,h=>by
  rw[Sy.bw]
  split
  ·exact(h.aZ u p).mono (by simp;omega)
  ·exact((h.aZ u p).bw (u:=u) (l:=l) _).mono (by simp;omega)
theorem fP.bJ(h:fP Y N)(u:Us)(no:Int):fP (Y.bJ u no).1 (N+20):=by
 unfold Sy.bJ;dsimp only;have h1:=AI Y u (Y.fs.dg no).1;have h2:=h.bw (u:=u) (l:=Y.gB u (Y.fs.dg no).1) 0
 split
 ·exact h.mono (by omega)
 ·split
  ·exact h2.mono (by omega)
  ·generalize Y.bw u (Y.gB u (Y.fs.dg no).1) 0=a at h2⊢;have h3:=(lh a.1.fs a.1.dead u (Y.fs.dg no).1 (Y.fs.dg no).2.1).2;have h4:=h2.bw (u:=u) (l:=a.1.fs.cO a.1.dead u (Y.fs.dg no).1 (Y.fs.dg no).2.1) a.2.2.2
   split
   ·exact h4.mono (by omega)
   ·split
    ·exact h4.mono (by omega)
    ·exact(h4.aZ u _).mono (by omega)
theorem fP.cZ(h:fP Y N)(n:Int):fP (Y.cZ n) N:=⟨h.ok.cZ n,by unfold Sy.cZ;split<;>exact h.lk⟩
theorem fP.jm(h:fP Y N)(c:Cr)(x:Cn)(l:Ln):fP (Y.jm c x l) (N+3):=by
 unfold Sy.jm;dsimp only;have h1:fP (Y.op (fun S now=>S.aN c now x.files l.name 448)).1 (N+1):=h.op (h.lz.aN c Y.now x.files l.name 448);generalize Y.op (fun S now=>S.aN c now x.files l.name 448)=r at h1⊢;have h2:fP (if r.2.2=0∧0≤l.size then(r.1.op (fun S now=>S.file c now r.2.1 kE 384 (ed l.size))).1 else r.1) (N+2):=by
  split
  ·exact h1.op (h1.lz.file _ _ _ _ _ _)
  ·exact h1.mono (by omega)
 generalize (if r.2.2=0∧0≤l.size then(r.1.op (fun S now=>S.file c now r.2.1 kE 384 (ed l.size))).1 else r.1)=r1 at h2⊢;refine fP.cZ ?_ _
 split
 ·exact h2.op (h2.lz.file _ _ _ _ _ _)
 ·exact h2.mono (by omega)
theorem fP.dx{c:Cr}{x:Cn}:∀{l:List Ln} {Y:Sy} {N:Nat},fP Y N→fP (Y.dx c x l) (N+3*l.length)
 | [],_,_,h=>h
 |l::ls,Y,N,h=>by
  have h1:=(h.jm c x l).dx (c:=c) (x:=x) (l:=ls);exact h1.mono (by simp only[List.length_cons];omega)
theorem fP.cT(h:fP Y N)(u:Us)(no:Int)(l:List Ln):fP (Y.cT u no l).1 (N+20+3*l.length):=by
 unfold Sy.cT
 split
 ·exact(h.bJ u no).mono (by omega)
 ·exact(h.bJ u no).dx
end
theorem A'{S:Fs}{N:Nat}(hk:ay S N){a:An}{c:Cr}{now dir:Int}{s:ByteArray}(h:(S.bT c now dir s a).2.2=0) :
  ∃d n,(S.bT c now dir s a).1.get dir=some d∧d.kind=1∧(S.bT c now dir s a).1.get (aw d.au s)=some n∧n.kind=a.kind∧cH s=0:=by
 revert h;unfold Fs.bT
 split
 ·rename_i hpl;exact fun h=>absurd h hpl
 ·rename_i hpl;obtain⟨d,hd,hdk,hce⟩:=cD (by simpa using hpl);rw[hd];dsimp only
  split
  ·exact fun h=>absurd h (show¬(7:Int)=0 by decide)
  ·split
   ·rename_i h0;exact fun h=>absurd h h0
   ·rename_i h0;intro _;have h0:(S.make {a with dev:=d.dev,uid:=c.u,gid:=c.g,mtime:=now,ctime:=now,ak:=1}).2.2=0:=by simpa using h0
    have hg:=oR hk.nums {a with dev:=d.dev,uid:=c.u,gid:=c.g,mtime:=now,ctime:=now,ak:=1} hd;have hm:(S.make {a with dev:=d.dev,uid:=c.u,gid:=c.g,mtime:=now,ctime:=now,ak:=1}).2.1=S.last+1∧(S.make {a with dev:=d.dev,uid:=c.u,gid:=c.g,mtime:=now,ctime:=now,ak:=1}).1.get (S.last+1)=some {a with dev:=d.dev,uid:=c.u,gid:=c.g,mtime:=now,ctime:=now,ak:=1,no:=S.last+1}:=by
     revert h0;unfold Fs.make
     split
     ·exact fun h=>absurd h (show¬(1:Int)=0 by decide)
     ·split
      ·exact fun h=>absurd h (show¬(1:Int)=0 by decide)
      ·dsimp only
       split
       ·intro _;refine⟨rfl,?_⟩;exact(gZ (S:=S.aP d.dev _) ⟨hk.nums.dB,hk.nums.low⟩ _ (S.last+1)).trans (if_pos rfl)
       ·rename_i h1;exact fun h2=>absurd h2 h1
    obtain⟨fQ,oy⟩:=hm;have hdl:=(hk.get hd).2.2.2;refine⟨_,{a with dev:=d.dev,uid:=c.u,gid:=c.g,mtime:=now,ctime:=now,ak:=1,no:=S.last+1},eu now _ hg,hdk,?_,rfl,hce⟩;have hf:aw (aV d.au s (S.make {a with dev:=d.dev,uid:=c.u,gid:=c.g,mtime:=now,ctime:=now,ak:=1}).2.1) s=S.last+1:=by
     rw[fQ];unfold aw aV;rw[List.find?_append];have h1:(d.au.filter fun x=>gA x.name s).find? (fun x=>decide (x.name=s))=none:=by
      rw[List.find?_eq_none];intro x hx;have:=(List.mem_filter.1 hx).2;intro he;have he:x.name=s:=by simpa using he
      rw[he,eE] at this
      cases this
     rw[h1,Option.none_or,List.find?_cons];simp
    show(Fs.aE _ now dir _).get (aw (aV d.au s _) s)=_;rw[hf,bL _ now _ (by omega)];exact oy
theorem fP.cQ{Y:Sy}{N M:Nat}(h:fP Y N)(c:Cr)(x:Cn):fP (Y.cQ M c x).1 (N+3):=by
 unfold Sy.cQ;dsimp only
 split
 ·exact h.mono (by omega)
 ·split
  ·exact h.mono (by omega)
  ·split
   ·exact h.mono (by omega)
   ·generalize str (bZ (Y.fs.b9 M Y.dead c x).1)=want;have h1:fP (Y.op (fun S now=>S.file c now x.dir bh 384 want)).1 (N+1):=h.op (h.lz.file c Y.now x.dir bh 384 want)
    split
    ·exact h1.mono (by omega)
    ·rename_i h0;have h0:(Y.op (fun S now=>S.file c now x.dir bh 384 want)).2.2=0:=by simpa using h0
     have hnew:∀d n,(Y.op (fun S now=>S.file c now x.dir bh 384 want)).1.fs.get x.dir=some d→(Y.op (fun S now=>S.file c now x.dir bh 384 want)).1.fs.get (aw d.au bh)=some n→n.kind≠1:=by
      revert h0;unfold Sy.op
      split
      ·rename_i hce;exact fun h=>absurd h hce
      ·dsimp only;unfold Fs.file
       split
       ·exact fun h=>absurd h (show¬(1:Int)=0 by decide)
       ·split
        ·exact fun h=>absurd h (show¬(3:Int)=0 by decide)
        ·intro hc d n hd hn;obtain⟨d2,n2,e1,e2,e3,e4,-⟩:=A' h.ok.bK.ok hc;rw[hd] at e1;injection e1 with e1;subst e1;rw[hn] at e3;injection e3 with e3;subst e3;rw[e4];show(2:Int)≠1;decide
     generalize Y.op (fun S now=>S.file c now x.dir bh 384 want)=r at h1 hnew⊢;have h2:fP (r.1.fN (fun S now=>S.dP c now x.dir bh x.dir bE)).1 (N+2):=h1.fN (h1.lz.move c _ _ _ _ _ hnew)
     split
     ·exact h2.fN ((h2.lz.unlink c _ _ _).mono (by omega))
     ·exact h2.mono (by omega)
end
section
open Go.RowKit
def hH(a b:An):Prop:=b={a with ak:=b.ak,ctime:=b.ctime}
theorem hH.trans{a b c:An}(h:hH a b)(k:hH b c):hH a c:=by
 unfold hH at *;rw[k,h]
theorem hH.kind{a b:An}(h:hH a b):b.kind=a.kind:=by unfold hH at h;rw[h]
theorem hH.dev{a b:An}(h:hH a b):b.dev=a.dev:=by unfold hH at h;rw[h]
theorem hH.au{a b:An}(h:hH a b):b.au=a.au:=by unfold hH at h;rw[h]
theorem hH.data{a b:An}(h:hH a b):b.data=a.data:=by unfold hH at h;rw[h]
theorem hH.mtime{a b:An}(h:hH a b):b.mtime=a.mtime:=by unfold hH at h;rw[h]
theorem hH.may{a b:An}(h:hH a b)(c:Cr)(k:Int):b.may c k=a.may c k:=by unfold hH at h;rw[h];rfl
structure bU(S T:Fs)(D:Int):Prop where
 node:∀k a,k≠D→S.get k=some a→(∃b,T.get k=some b∧hH a b)∨(T.get k=none∧a.kind≠1)
 gone:∀k,k≤S.last→S.get k=none→T.get k=none
 dir:∀d,S.get D=some d→∃d',T.get D=some d'∧d'={d with au:=d'.au,mtime:=d'.mtime,ctime:=d'.ctime}
 aB:∀k,T.aB k=S.aB k
 last:S.last≤T.last
theorem bU.refl(S:Fs)(D:Int):bU S S D:=⟨fun k a _ h=>.inl ⟨a,h,rfl⟩,fun _ _ h=>h,fun d h=>⟨d,h,rfl⟩,fun _=>rfl,Int.le_refl _⟩
theorem bU.trans{S T U:Fs}{D:Int}{N:Nat}(hk:ay S N)(h:bU S T D)(k:bU T U D):bU S U D:=by
 refine⟨fun q a hq ha=>?_,fun q hq hn=>k.gone q (by have:=h.last;omega) (h.gone q hq hn),fun d hd=>?_,fun q=>(k.aB q).trans (h.aB q),Int.le_trans h.last k.last⟩
 ·rcases h.node q a hq ha with⟨b,hb,e⟩|⟨hn,hd⟩
  ·rcases k.node q b hq hb with⟨c,hc,e2⟩|⟨hn,hd⟩
   ·exact .inl ⟨c,hc,e.trans e2⟩
   ·exact .inr ⟨hn,by rw[←e.kind];exact hd⟩
  ·have hl:=(hk.get ha).2.2.2;exact .inr ⟨k.gone q (by have:=h.last;omega) hn,hd⟩
 ·obtain⟨d1,h1,e1⟩:=h.dir d hd;obtain⟨d2,h2,e2⟩:=k.dir d1 h1;exact⟨d2,h2,by rw[e2,e1]⟩
theorem Al(f g:Dv)(k:Int)(ho:g.aB=f.aB)(hr:g.root=f.root):∀(l:List Dv) (i:Nat),l[i]?=some f→(match(l.set i g).find? (fun d=>d.aB==k) with|some d=>d.root|none=>k)=(match l.find? (fun d=>d.aB==k) with|some d=>d.root|none=>k)
 | [],_,h=>by simp at h
 |x::l,0,h=>by
  have h:x=f:=by simpa using h
  subst h;rw[ai,List.find?_cons,List.find?_cons,ho]
  cases hx:(x.aB==k) with
  |true=>exact hr
  |false=>rfl
 |x::l,i+1,h=>by
  rw[aj,List.find?_cons,List.find?_cons]
  cases hx:(x.aB==k) with
  |true=>rfl
  |false=>exact Al f g k ho hr l i (by simpa using h)
theorem zP{S:Fs}{d:Int}{v u:Dv}(hv:S.dev d=some v)(hr:u.root=v.root)(ho:u.aB=v.aB)(k:Int):(S.aP d u).aB k=S.aB k:=by
 unfold Fs.dev at hv
 split at hv
 ·unfold Fs.aB
  split
  ·exact Al v u k ho hr S.ds _ hv
  ·rfl
 ·cases hv
theorem pq(S:Fs)(now D:Int)(l:List En):bU S (S.aE now D l) D:=by
 cases hd:S.get D with
 |none=>rw[eC hd];exact bU.refl _ _
 |some d=>
  have hds:(S.aE now D l).ds=S.ds:=zB S now D l;refine⟨fun k a hk ha=>.inl ⟨a,by rw[bL S now l hk];exact ha,rfl⟩,fun k _ hn=>?_,fun d2 h2=>⟨_,eu now l h2,rfl⟩,fun k=>?_,?_⟩
  ·have hk:k≠D:=fun e=>by rw[e,hd] at hn;cases hn
   rw[bL S now l hk];exact hn
  ·unfold Fs.aB;rw[hds]
  ·rw[dm hd];exact Int.le_refl _
theorem Kg{S:Fs}{D:Int}{a b:An}(hg:S.get b.no=some a)(he:hH a b)(hD:b.no≠D):bU S (S.set b) D:=by
 have hs:=fun k=>fC (S:=S) (a:=b) hg k;refine⟨fun k x hk hx=>?_,fun k _ hn=>?_,fun d hd=>⟨d,?_,rfl⟩,fun _=>rfl,Int.le_refl _⟩
 ·by_cases hkb:k=b.no
  ·subst hkb;rw[hg] at hx;injection hx with hx;subst hx;exact .inl ⟨b,by rw[hs,if_pos rfl],he⟩
  ·exact .inl ⟨x,by rw[hs,if_neg hkb];exact hx,rfl⟩
 ·rw[hs,if_neg (fun e=>by rw[e,hg] at hn;cases hn)];exact hn
 ·rw[hs,if_neg (fun e=>hD e.symm)];exact hd
theorem Ki{S:Fs}{D:Int}{a:An}(hg:S.get a.no=some a)(hk:a.kind≠1)(hD:a.no≠D):bU S (S.del a.no) D:=by
 refine⟨fun k x gM hx=>?_,fun k _ hn=>?_,fun d hd=>⟨d,?_,rfl⟩,fun _=>rfl,Int.le_refl _⟩
 ·by_cases hka:k=a.no
  ·subst hka;rw[hg] at hx;injection hx with hx;subst hx;exact .inr ⟨by rw[lF,if_pos rfl],hk⟩
  ·exact .inl ⟨x,by rw[lF,if_neg hka];exact hx,rfl⟩
 ·rw[lF]
  split
  ·rfl
  ·exact hn
 ·rw[lF,if_neg (fun e=>hD e.symm)];exact hd
theorem wM{S:Fs}{D d:Int}{v u:Dv}(hv:S.dev d=some v)(hr:u.root=v.root)(ho:u.aB=v.aB):bU S (S.aP d u) D:=
 ⟨fun _ a _ h=>.inl ⟨a,h,rfl⟩,fun _ _ h=>h,fun d h=>⟨d,h,rfl⟩,zP hv hr ho,Int.le_refl _⟩
theorem ay.ak{S:Fs}{N:Nat}(hk:ay S N){a:An}{k:Int}(hg:S.get k=some a)(l t:Int)(hl:0≤l∧l≤1000):ay (S.set {a with ak:=l,ctime:=t}) N:=by
 obtain⟨ho,-⟩:=hk.get hg;exact hk.set ⟨ho.dB,ho.lR,ho.dev,hl,ho.data,ho.mode,ho.kind,ho.nz,ho.sy⟩
theorem Nb{S:Fs}{N:Nat}(hk:ay S N)(now:Int){D:Int}{o:An}(hg:S.get o.no=some o)(hd:o.kind≠1)(hD:o.no≠D)(hl:1≤o.ak):bU S (S.eF now o) D:=by
 have h1:bU S (S.set {o with ak:=o.ak-1,ctime:=now}) D:=Kg (b:={o with ak:=o.ak-1,ctime:=now}) hg rfl hD;have gv:=hk.ak hg (o.ak-1) now (by have:=(hk.get hg).1.ak;omega);have iL:(S.set {o with ak:=o.ak-1,ctime:=now}).get o.no=some {o with ak:=o.ak-1,ctime:=now}:=by
  rw[fC (S:=S) (a:={o with ak:=o.ak-1,ctime:=now}) hg,if_pos rfl]
 unfold Fs.eF
 split
 ·refine h1.trans hk ?_;generalize S.set {o with ak:=o.ak-1,ctime:=now}=S2 at h1 gv iL⊢;unfold Fs.jk
  split
  ·exact bU.refl _ _
  ·split
   ·exact Ki (a:={o with ak:=o.ak-1,ctime:=now}) iL hd hD
   ·rename_i v hv;refine(wM (u:={v with b:=BM v.b v.n v.mb v.mn (-cF o.kind o.data.size) (-1),n:=BL v.b v.n v.mb v.mn (-cF o.kind o.data.size) (-1)}) hv rfl rfl).trans gv ?_;exact Ki (a:={o with ak:=o.ak-1,ctime:=now}) (by exact iL) hd hD
 ·exact h1
theorem Na{S:Fs}{N:Nat}(hk:ay S N)(a:An)(D:Int):bU S (S.make a).1 D:=by
 unfold Fs.make
 split
 ·exact bU.refl _ _
 ·split
  ·exact bU.refl _ _
  ·rename_i v hv;dsimp only
   split
   ·refine(wM (D:=D) (u:={v with b:=v.b+cF a.kind a.data.size,n:=v.n+1}) hv rfl rfl).trans hk ?_;have hn:eU (S.aP a.dev {v with b:=v.b+cF a.kind a.data.size,n:=v.n+1}):=⟨hk.nums.dB,hk.nums.low⟩;generalize S.aP a.dev {v with b:=v.b+cF a.kind a.data.size,n:=v.n+1}=S2 at hn⊢;have hlt:∀{k:Int} {x:An},S2.get k=some x→k≠S2.last+1:=fun{k x} hx=>by
     have:=hn.low x (aO hx);rw[bV hx] at this;omega
    refine⟨fun k x _ hx=>.inl ⟨x,by rw[gZ hn,if_neg (hlt hx)];exact hx,rfl⟩,fun k hkl hx=>by rw[gZ hn,if_neg (by omega)];exact hx,fun d hd=>⟨d,by rw[gZ hn,if_neg (hlt hd)];exact hd,rfl⟩,fun _=>rfl,by show S2.last≤S2.last+1;omega⟩
   ·exact bU.refl _ _
theorem Nf{S:Fs}{N:Nat}(hk:ay S N)(c:Cr)(now D:Int)(s:ByteArray)(a:An):bU S (S.bT c now D s a).1 D:=by
 unfold Fs.bT
 split
 ·exact bU.refl _ _
 ·split
  ·exact bU.refl _ _
  ·dsimp only
   split
   ·exact bU.refl _ _
   ·split
    ·exact bU.refl _ _
    ·exact(Na hk _ D).trans hk (pq _ now D _)
theorem Ek{S:Fs}{N:Nat}(hk:ay S N)(c:Cr)(now D:Int)(s:ByteArray)(m:Int)(t:ByteArray):bU S (S.file c now D s m t).1 D:=by
 unfold Fs.file
 split
 ·exact bU.refl _ _
 ·split
  ·exact bU.refl _ _
  ·exact Nf hk c now D s _
theorem Kf{S:Fs}{N:Nat}(hk:ay S N)(now:Int){D:Int}{a b:ByteArray}{d n:An}{bI:Option An}(hn:S.get n.no=some n)(hnk:n.kind≠1)(Pg:n.no≠D)
  (ho:∀o,bI=some o→S.get o.no=some o∧o.kind≠1∧o.no≠D∧1≤o.ak∧o.no≠n.no):bU S (S.shift now D a D b d n bI) D:=by
 rw[oI];obtain⟨S1,wA⟩:∃S1,S.qL now bI=S1:=⟨_,rfl⟩;have h1:bU S S1 D∧S1.get n.no=some n:=by
  subst wA
  cases bI with
  |none=>exact⟨bU.refl _ _,hn⟩
  |some o=>
   obtain⟨h1,h2,h3,h4,h5⟩:=ho o rfl;exact⟨Nb hk now h1 h2 h3 h4,by show(S.eF now o).get n.no=some n;rw[gX S now (fun e=>h5 e.symm)];exact hn⟩
 rw[wA,if_neg hnk];have hs:=pq S1 now D (aM d.au a);have ht:=pq (S1.aE now D (aM d.au a)) now D (aV ((S1.aE now D (aM d.au a)).aI D) b n.no);have hg:((S1.aE now D (aM d.au a)).aE now D (aV ((S1.aE now D (aM d.au a)).aI D) b n.no)).get n.no=some n:=by
  rw[bL _ now _ Pg,bL _ now _ Pg];exact h1.2
 have hu:=Kg (D:=D) (b:={n with ctime:=now,up:=n.up}) hg (by unfold hH;rfl) Pg;have mT:bU S ((S1.aE now D (aM d.au a)).aE now D (aV ((S1.aE now D (aM d.au a)).aI D) b n.no)) D:=by
  refine h1.1.trans hk ?_;rw[gJ];exact pq S1 now D _
 exact mT.trans hk hu
theorem ly{S:Fs}{N:Nat}(h:Good S N){dir:Int}{d n:An}{s:ByteArray}(hd:S.get dir=some d)(hn:S.get (aw d.au s)=some n):1≤n.ak∧n.no≠d.no:=by
 obtain⟨hno,hnn,j6,-⟩:=h.bK.ok.get hn;obtain⟨hdo,hdn,-,-⟩:=h.bK.ok.get hd;have he:∃e∈d.au,e.no=aw d.au s:=by
  unfold aw
  cases hf:d.au.find? (fun x=>decide (x.name=s)) with
  |none=>
   exfalso;unfold aw at j6;rw[hf] at j6;exact absurd j6 (by decide)
  |some e=>exact⟨e,List.mem_of_find?_eq_some hf,rfl⟩
 obtain⟨e,hem,hen⟩:=he;obtain⟨b,hb,hup⟩:=(h.bK.tr.row d (aO hd)).down e hem;rw[hen,hn] at hb;injection hb with hb;subst hb;have hroot:S.root n.dev≠n.no:=by
  by_cases hk:n.kind=1
  ·exact(hup hk).2
  ·exact tg h.bK.ok h.bK.tr hn hk
 have hdk:d.kind=1:=Classical.byContradiction fun hk=>by
  rw[h.bK.tr.leaf d (aO hd) hk] at hem
  cases hem
 refine⟨?_,fun heq=>?_⟩
 ·have hl:=h.lk n (aO hn);rw[if_neg hroot] at hl;have hl:(S.jc n.no:Int)=n.ak+(0:Int):=hl;have hc:1≤S.jc n.no:=by
   unfold Fs.jc fq;refine List.length_pos_of_mem (a:=e) (List.mem_filter.2 ⟨List.mem_flatMap.2 ⟨d,aO hd,hem⟩,?_⟩);simp[hen,hnn]
  omega
 ·have hkd:n.kind=1:=by
   have h1:=hn;rw[←hnn,heq,hdn,hd] at h1;injection h1 with h1;rw[←h1];exact hdk
  rcases h.bK.pl.up n (aO hn) hkd with⟨h3,-⟩|⟨-,-,h4⟩
  ·exact hroot h3
  ·have:=(hup hkd).1;omega
end
section
open Go.RowKit
section
variable{w w':World}{pw:Nat}{R:Rp}{S:Fs}
theorem wZ(h:bB w pw R S){M:Nat}(hk:Good S M)(hM:M≤99998)(c:Cr)(now dir:Int)(s:ByteArray)(hs:s.size≤9223372036854775807) :
  Calls Tryz.prog 76 #[UH (some ⟨pw,0,none⟩),UJ #[UE UL c.u,UE UL c.g],UE UL now,UE UL dir,UF s] w fun e w'=>e=.returned (UE UL (S.cA c now dir s).2)∧∃R',bB w' pw R' (S.cA c now dir s).1∧aS (R.F pw) (R'.F pw) w w':=by
 refine zk h hk.bK.ok (by omega) c now dir s hs (fun n _ hn=>?_) (fun d n _ hd hn=>(ly hk hd hn).2);unfold Fs.aI at hn
 cases hd:S.get dir with
 |none=>
  rw[hd] at hn;have:=(hk.bK.ok.get hn).2.2.1;exact absurd (show(1:Int)≤0 from this) (by decide)
 |some d=>
  rw[hd] at hn;exact(ly hk hd hn).1
theorem BU(h:bB w pw R S){M:Nat}(hk:Good S M)(hM:M≤99998)(c:Cr)(now src:Int)(a:ByteArray)(ha:a.size≤9223372036854775807)(dst:Int)(b:ByteArray)(hbs:b.size≤9223372036854775807) :
  Calls Tryz.prog 75 #[UH (some ⟨pw,0,none⟩),UJ #[UE UL c.u,UE UL c.g],UE UL now,UE UL src,UF a,UE UL dst,UF b] w fun e w'=>e=.returned (UE UL (S.dP c now src a dst b).2)∧∃R',bB w' pw R' (S.dP c now src a dst b).1∧aS (R.F pw) (R'.F pw) w w':=
 EA h hk.bK.ok hM c now src a dst b ha hbs (fun _ _ ht ho=>(ly hk ht ho).1) (fun _ n _ _ _ _ av=>zj (h.an av) hk.bK.ok hk.bK.pl dst n.no)
end
section
variable{w w':World}{pf pw:Nat}{R:Rp}{pv:Value}{Y:Sy}
theorem qG(h:bm w pf pw R pv Y){N:Nat}(hk:Good Y.fs N)(hN:N≤99998)(hc:0≤Y.count∧Y.count≤4611686018427387904)(hl:Y.cC.length≤1000000)(c:Cr)(dir:Int)(s:ByteArray)(hs:s.size≤9223372036854775807) :
  Calls Tryz.prog 39 #[UH (some ⟨pf,0,none⟩),UJ #[UE UL c.u,UE UL c.g],UE UL dir,UF s] w fun e w'=>
   e=.returned (UE UL (Y.fN (fun S now=>S.cA c now dir s)).2)∧∃R',bm w' pf pw R' pv (Y.fN (fun S now=>S.cA c now dir s)).1∧aS (R.Y pf pw) (R'.Y pf pw) w w':=by
 have HY:=Ux h;have HC:=Ux (fA (h.an ((Below.refl _ w).alloc (aa _) (.cells #[UE UL c.u,UE UL c.g] 64))) hc hl);obtain⟨iM,ja,wq⟩:=dy Y;have HF:=Ux (ag iM ja);have hpf:=h.bD.lt;have gv:Good Y.change.1.fs N:=by rw[iM];exact hk
 have mixed:Tryz.prog.follows .mixedOrders=true:=by kernel_rfl
 clear h hk iM ja wq;go_enter Tryz.func39,Tryz.ntmps39;go_wp2_with fail;refine HC.o.mono ?_;rintro e w1 ⟨rfl,eV,fQ⟩;have iZ:=Ux ((gR (aS.aq (F:=R.F pw) (ao (UB w) (.cells #[UE UL c.u,UE UL c.g] 64)))).trans (uN (pw:=pw) (R:=R) fQ));by_cases h0:Y.change.2=0
 ·have nD:(Y.change.2==0)=true:=by simpa using h0
  have HE:=Ux (show Y.fN (fun S now=>S.cA c now dir s)=_ from if_neg (by simp[h0]));have hcr:=(ax.new w #[UE UL c.u,UE UL c.g] 64).mod fQ (by omega);obtain⟨cc,-,cz⟩:=hcr.facts;obtain⟨pc,-,pz⟩:=eV.bD.facts;have HD:=Ux (wZ (eV.wd.an (Below.refl _ w1).drew) gv hN c Y.change.1.now dir s hs);have lK:=Ux eV;clear h0 hcr eV fQ;go_wp2_with fail;refine aG 11 mixed (by kernel_rfl) (show cn _ from by repeat (first|exact cS|refine cR ?_|refine cx ?_|refine cG ?_)) ?_;simp only[List.take_succ_cons,List.take_zero,List.drop_succ_cons,List.drop_zero]
  repeat still_step
  refine wpStill_nil ?_;go_wp2_with fail;refine HD.o.mono ?_;rintro e w5 ⟨rfl,R5,iq,eW⟩;have BA:=Ux ((lK.o.an (Below.refl _ w1).drew).step iq eW);have uD:=Ux ((iZ.o.trans (gR (aS.aq (F:=R.F pw) (Below.refl _ w1).drew))).trans (gR eW));clear iq eW;go_wp2_with fail;go_ret;rw[HE.o,HF.o.1.symm,HF.o.2.symm];exact⟨rfl,R5,BA.o,uD.o⟩
 ·have nD:(Y.change.2==0)=false:=by simpa using h0
  have HE:=Ux (show Y.fN (fun S now=>S.cA c now dir s)=_ from if_pos h0);have lK:=Ux eV;clear eV h0 fQ;generalize Y.change.2=ce at HE nD⊢;go_wp2_with fail;go_ret;rw[HE.o];exact⟨rfl,R,lK.o,iZ.o⟩
theorem zJ(h:bm w pf pw R pv Y){N:Nat}(hk:Good Y.fs N)(hN:N≤99998)(hc:0≤Y.count∧Y.count≤4611686018427387904)(hl:Y.cC.length≤1000000)(c:Cr)(src:Int)(a:ByteArray)(dst:Int)(b:ByteArray)(ha:a.size≤9223372036854775807)(hb:b.size≤9223372036854775807) :
  Calls Tryz.prog 38 #[UH (some ⟨pf,0,none⟩),UJ #[UE UL c.u,UE UL c.g],UE UL src,UF a,UE UL dst,UF b] w fun e w'=>
   e=.returned (UE UL (Y.fN (fun S now=>S.dP c now src a dst b)).2)∧∃R',bm w' pf pw R' pv (Y.fN (fun S now=>S.dP c now src a dst b)).1∧aS (R.Y pf pw) (R'.Y pf pw) w w':=by
 have HY:=Ux h;have HC:=Ux (fA (h.an ((Below.refl _ w).alloc (aa _) (.cells #[UE UL c.u,UE UL c.g] 64))) hc hl);obtain⟨iM,ja,wq⟩:=dy Y;have HF:=Ux (ag iM ja);have hpf:=h.bD.lt;have gv:Good Y.change.1.fs N:=by rw[iM];exact hk
 have mixed:Tryz.prog.follows .mixedOrders=true:=by kernel_rfl
 clear h hk iM ja wq;go_enter Tryz.func38,Tryz.ntmps38;go_wp2_with fail;refine HC.o.mono ?_;rintro e w1 ⟨rfl,eV,fQ⟩;have iZ:=Ux ((gR (aS.aq (F:=R.F pw) (ao (UB w) (.cells #[UE UL c.u,UE UL c.g] 64)))).trans (uN (pw:=pw) (R:=R) fQ));by_cases h0:Y.change.2=0
 ·have nD:(Y.change.2==0)=true:=by simpa using h0
  have HE:=Ux (show Y.fN (fun S now=>S.dP c now src a dst b)=_ from if_neg (by simp[h0]));have hcr:=(ax.new w #[UE UL c.u,UE UL c.g] 64).mod fQ (by omega);obtain⟨cc,-,cz⟩:=hcr.facts;obtain⟨pc,-,pz⟩:=eV.bD.facts;have HD:=Ux (BU (eV.wd.an (Below.refl _ w1).drew) gv hN c Y.change.1.now src a ha dst b hb);have lK:=Ux eV;clear h0 hcr eV fQ;go_wp2_with fail;refine aG 13 mixed (by kernel_rfl) (show cn _ from by repeat (first|exact cS|refine cR ?_|refine cx ?_|refine cG ?_)) ?_;simp only[List.take_succ_cons,List.take_zero,List.drop_succ_cons,List.drop_zero]
  repeat still_step
  refine wpStill_nil ?_;go_wp2_with fail;refine HD.o.mono ?_;rintro e w5 ⟨rfl,R5,iq,eW⟩;have BA:=Ux ((lK.o.an (Below.refl _ w1).drew).step iq eW);have uD:=Ux ((iZ.o.trans (gR (aS.aq (F:=R.F pw) (Below.refl _ w1).drew))).trans (gR eW));clear iq eW;go_wp2_with fail;go_ret;rw[HE.o,HF.o.1.symm,HF.o.2.symm];exact⟨rfl,R5,BA.o,uD.o⟩
 ·have nD:(Y.change.2==0)=false:=by simpa using h0
  have HE:=Ux (show Y.fN (fun S now=>S.dP c now src a dst b)=_ from if_pos h0);have lK:=Ux eV;clear eV h0 fQ;generalize Y.change.2=ce at HE nD⊢;go_wp2_with fail;go_ret;rw[HE.o];exact⟨rfl,R,lK.o,iZ.o⟩
end
end
section
open Go.RowKit
section
variable{S T:Fs}{N M:Nat}{D:Int}
theorem iI(hb:bU S T D){k:Int}{a:An}(hg:S.get k=some a)(hd:a.kind=1)(hk:k≠D):∃b,T.get k=some b∧hH a b:=by
 rcases hb.node k a hk hg with h|⟨-,h⟩
 ·exact h
 ·exact absurd hd h
theorem rU(hb:bU S T D){k:Int}{a:An}(hg:S.get k=some a)(hd:a.kind=1)(c:Cr)(q w:Int):T.cV c k q w=S.cV c k q w:=by
 by_cases hk:k=D
 ·subst hk;obtain⟨d',h1,h2⟩:=hb.dir a hg;unfold Fs.cV;rw[h1,hg];have h3:d'.kind=a.kind:=by rw[h2]
  have h4:d'.may c w=a.may c w:=by rw[h2];rfl
  dsimp only;rw[h3,h4]
 ·obtain⟨b,h1,h2⟩:=iI hb hg hd hk;unfold Fs.cV;rw[h1,hg];dsimp only;rw[h2.kind,h2.may]
theorem El(hb:bU S T D){k:Int}{a:An}(hg:S.get k=some a)(hd:a.kind=1)(hk:k≠D):T.aI k=S.aI k:=by
 obtain⟨b,h1,h2⟩:=iI hb hg hd hk;unfold Fs.aI;rw[h1,hg];exact h2.au
theorem Ei(hb:bU S T D){k:Int}{a:An}(hg:S.get k=some a)(hd:a.kind=1)(hk:k≠D)(c:Cr)(n:ByteArray):T.aQ false c k n=S.aQ false c k n:=by
 unfold Fs.aQ;rw[rU hb hg hd,El hb hg hd hk,hb.aB]
theorem Ej(hb:bU S T D){k:Int}{a:An}(hg:S.get k=some a)(hd:a.kind=1)(hk:k≠D)(c:Cr):T.cE false c k=S.cE false c k:=by
 unfold Fs.cE;rw[rU hb hg hd,El hb hg hd hk];have:(fun e:En=>(⟨e.name,T.aB e.no⟩:En))=fun e=>⟨e.name,S.aB e.no⟩:=by
  funext e;rw[hb.aB]
 first
  |rw[this]
  |simp only[hb.aB]
def Ew(S T:Fs)(D v:Int):Prop:=∃b b',S.get v=some b∧T.get v=some b'∧hH b b'∧v≠D∧(b.kind=1→D<v)
theorem pr(hf:dE S N)(hT:dE T M)(hb:bU S T D)(hD:∃d,S.get D=some d∧d.kind=1){k:Int}{a:An}(hg:S.get k=some a)(hd:a.kind=1)(hk:D<k){e:En}(he:e∈a.au):Ew S T D (S.aB e.no):=by
 have hkD:k≠D:=by omega
 obtain⟨a',ha',hae⟩:=iI hb hg hd hkD;have hlt:=oW hf (aO hg) hg hd he;obtain⟨b0,de,-⟩:=(hf.tr.row a (aO hg)).down e he;obtain⟨b1,av,-⟩:=(hT.tr.row a' (aO ha')).down e (by rw[hae.au];exact he);have hl:=(hf.ok.get hg).2.2.2;have hv:∃b,S.get (S.aB e.no)=some b∧(S.aB e.no=e.no∨b.kind=1):=by
  rcases sW S e.no with h|⟨i,hi,-,-,h⟩
  ·exact⟨b0,by rw[h];exact de,.inl h⟩
  ·obtain⟨r,hr,hrk,-⟩:=hf.tr.NP i hi;exact⟨r,by rw[h];exact hr,.inr hrk⟩
 obtain⟨b,hbv,hcase⟩:=hv;have hbl:=(hf.ok.get hbv).2.2.2;have hdk:b.kind=1→k<S.aB e.no:=fun h1=>by
  have e1:S.jt (S.aB e.no)=(S.last-S.aB e.no).toNat+1:=by unfold Fs.jt;rw[hbv];simp[h1]
  have e2:S.jt k=(S.last-k).toNat+1:=by unfold Fs.jt;rw[hg];simp[hd]
  omega
 have hvD:S.aB e.no≠D:=fun h=>by
  obtain⟨d,xT,iG⟩:=hD;rw[h,xT] at hbv;injection hbv with hbv;subst hbv;have:=hdk iG;omega
 rcases hb.node _ b hvD hbv with⟨b',h1,h2⟩|⟨h1,h2⟩
 ·exact⟨b,b',hbv,h1,h2,hvD,fun h=>by have:=hdk h;omega⟩
 ·exfalso;rcases hcase with h|h
  ·rw[h,av] at h1
   cases h1
  ·exact h2 h
def DB(S T:Fs)(D:Int)(x:Sp):Prop:=Ew S T D x.no∧D<x.dir∧∃a,S.get x.dir=some a∧a.kind=1
theorem Nc(hf:dE S N)(hT:dE T M)(hb:bU S T D)(hD:∃d,S.get D=some d∧d.kind=1)(c:Cr){x:Sp}(hx:DB S T D x):T.dh c x=S.dh c x∧∀y∈(S.dh c x).1,DB S T D y:=by
 obtain⟨⟨b,b',h1,h2,h3,h4,h5⟩,h6,a,h7,h8⟩:=hx;obtain⟨a',h9,Oe⟩:=iI hb h7 h8 (by omega);have fj:S.bG x.no=b:=bW h1;have fo:T.bG x.no=b':=bW h2;have hz3:S.bG x.dir=a:=bW h7;have hz4:T.bG x.dir=a':=bW h9;unfold Fs.dh;rw[h1,h2,h7,h9,fj,fo,hz3,hz4,h3.kind,h3.dev,Oe.dev];by_cases hk:b.kind=1
 ·rw[Ej hb h1 hk h4];refine⟨rfl,?_⟩
  split
  ·intro y hy;cases hy
  split
  ·intro y hy;cases hy
  split
  ·intro y hy;cases hy
  split
  ·intro y hy;cases hy
  ·intro y hy;obtain⟨q,hq,rfl⟩:=List.mem_map.1 hy;unfold Fs.cE at hq;rw[if_neg (by decide)] at hq
   split at hq
   ·cases hq
   ·obtain⟨e,he,rfl⟩:=List.mem_map.1 hq;have hee:S.aI x.no=b.au:=by unfold Fs.aI;rw[h1]
    rw[hee] at he;exact⟨pr hf hT hb hD h1 hk (h5 hk) he,h5 hk,b,h1,hk⟩
 ·have hn:∀p:List Sp×Int,(if ep (some b)≠0 then(([]:List Sp),ep (some b)) else if ep (some a)≠0 then([],ep (some a)) else if b.dev≠a.dev then([],16) else if b.kind≠1 then([],0) else p)=if b.dev≠a.dev then([],16) else([],0):=fun p=>by
   rw[if_neg (show¬ep (some b)≠0 from fun h=>h rfl),if_neg (show¬ep (some a)≠0 from fun h=>h rfl),if_pos hk]
  have e1:=hn ((T.cE false c x.no).1.map (fun y=>⟨x.no,y.name,y.no,wrap64 (x.depth+1)⟩),(T.cE false c x.no).2);have e2:=hn ((S.cE false c x.no).1.map (fun y=>⟨x.no,y.name,y.no,wrap64 (x.depth+1)⟩),(S.cE false c x.no).2);refine⟨e1.trans e2.symm,fun y hy=>?_⟩;have G5:y∈(if b.dev≠a.dev then(([]:List Sp),(16:Int)) else([],0)).1:=by
   rw[←e2];exact hy
  split at G5
  ·cases G5
  ·cases G5
theorem Em(hf:dE S N)(hT:dE T M)(hb:bU S T D)(hD:∃d,S.get D=some d∧d.kind=1)(c:Cr):∀(f:Nat) (l:List Sp),(∀x∈l,DB S T D x)→T.eM c f l=S.eM c f l∧∀y∈(S.eM c f l).1,DB S T D y
 |0,l,_=>⟨rfl,fun y hy=>by cases hy⟩
 |f+1,[],_=>⟨rfl,fun y hy=>by cases hy⟩
 |f+1,x::t,h=>by
  obtain⟨h1,h2⟩:=Nc hf hT hb hD c (h x List.mem_cons_self);obtain⟨h3,h4⟩:=Em hf hT hb hD c f ((S.dh c x).1++t) (fun y hy=>by
   rcases List.mem_append.1 hy with hy|hy
   ·exact h2 y hy
   ·exact h y (List.mem_cons_of_mem _ hy))
  unfold Fs.eM;rw[h1,h3];refine⟨rfl,?_⟩
  split
  ·intro y hy;cases hy
  ·intro y hy;rcases List.mem_cons.1 hy with rfl|hy
   ·exact h y List.mem_cons_self
   ·exact h4 y hy
theorem Bk:∀(l:List Sp) (met:List Int),(∀x∈l,DB S T D x)→T.fX met l=S.fX met l
 | [],_,_=>rfl
 |x::l,met,h=>by
  obtain⟨⟨b,b',h1,h2,h3,-⟩,-⟩:=h x List.mem_cons_self;have hr:=fun m=>Bk l m (fun y hy=>h y (List.mem_cons_of_mem _ hy));unfold Fs.fX;rw[hr,hr,bW h1,bW h2,h3.data]
theorem M9{K:Nat}(hf:dE S K)(hT:dE T K)(hb:bU S T D)(hD:∃d,S.get D=some d∧d.kind=1)(c:Cr){k:Int}{a:An}(hg:S.get k=some a)(hd:a.kind=1)(hk:D<k)(n:ByteArray):T.iP K false c k n=S.iP K false c k n:=by
 have hl:=Ei hb hg hd (by omega) c n;have hw:T.iv K false c k n=S.iv K false c k n∧∀y∈(S.iv K false c k n).1,DB S T D y:=by
  unfold Fs.iv;rw[hl]
  split
  ·exact⟨rfl,fun y hy=>by cases hy⟩
  ·rename_i h0;have hx:DB S T D ⟨k,n,(S.aQ false c k n).1,0⟩:=by
    refine⟨?_,hk,a,hg,hd⟩;show Ew S T D (S.aQ false c k n).1;unfold Fs.aQ at h0⊢;rw[if_neg (by decide)] at h0⊢
    split at h0
    ·rename_i h1;exact absurd h1 (fun h=>h0 h)
    ·rename_i h1;rw[if_neg h1]
     split at h0
     ·exact absurd h0 (by decide)
     ·rename_i h2;rw[if_neg h2];have hee:S.aI k=a.au:=by unfold Fs.aI;rw[hg]
      rw[hee] at h2⊢;dsimp only;unfold aw at h2⊢
      cases hfd:a.au.find? (fun x=>decide (x.name=n)) with
      |none=>rw[hfd] at h2;exact absurd rfl h2
      |some e=>exact pr hf hT hb hD hg hd hk (List.mem_of_find?_eq_some hfd)
   obtain⟨b,b',h1,h2,h3,-⟩:=hx.1;obtain⟨h4,h5⟩:=Em hf hT hb hD c (T.uG K [⟨k,n,(S.aQ false c k n).1,0⟩]) [⟨k,n,(S.aQ false c k n).1,0⟩] (fun y hy=>by rw[List.mem_singleton.1 hy];exact hx);have hmu:S.uG K [⟨k,n,(S.aQ false c k n).1,0⟩]≤T.uG K [⟨k,n,(S.aQ false c k n).1,0⟩]:=by
    rw[iV,iV];have:S.jt (S.aQ false c k n).1≤T.jt (S.aQ false c k n).1:=by
     have o8:S.get (S.aQ false c k n).1=some b:=h1;have kR:T.get (S.aQ false c k n).1=some b':=h2;unfold Fs.jt;rw[o8,kR];dsimp only;rw[h3.kind];have:=hb.last
     split<;>omega
    have h6:(K+1) ^ S.jt (S.aQ false c k n).1≤(K+1) ^ T.jt (S.aQ false c k n).1:=Nat.pow_le_pow_right (by omega) this;show _+0≤_+0;exact Nat.add_le_add_right h6 0
   have h7:=ue hf c (T.uG K [⟨k,n,(S.aQ false c k n).1,0⟩]) (S.uG K [⟨k,n,(S.aQ false c k n).1,0⟩]) [⟨k,n,(S.aQ false c k n).1,0⟩] hmu (aa _);rw[h4,h7];rw[h7] at h5;exact⟨rfl,h5⟩
 unfold Fs.iP;rw[hw.1,Bk _ _ hw.2]
theorem AV{α β:Type}{f g:α→Option β}:∀{l:List α},(∀x∈l,f x=g x)→l.filterMap f=l.filterMap g
 | [],_=>rfl
 |x::l,h=>by
  rw[List.filterMap_cons,List.filterMap_cons,h x List.mem_cons_self,AV (fun y hy=>h y (List.mem_cons_of_mem _ hy))]
theorem Kh{K:Nat}(hf:dE S K)(hT:dE T K)(hb:bU S T D)(hD:∃d,S.get D=some d∧d.kind=1)(c:Cr){x:Cn}(hx:D<x.files∧D<x.info)(h1:∃a,S.get x.files=some a∧a.kind=1)(h2:∃a,S.get x.info=some a∧a.kind=1):T.b9 K false c x=S.b9 K false c x:=by
 obtain⟨a,ha,had⟩:=h1;obtain⟨i,hi,hid⟩:=h2;unfold Fs.b9;rw[Ej hb ha had (by omega)]
 split
 ·rfl
 ·have hl:∀y∈(S.cE false c x.files).1,T.jj K c x y=S.jj K c x y:=fun y hy=>by
   unfold Fs.cE at hy;rw[if_neg (by decide)] at hy
   split at hy
   ·cases hy
   ·obtain⟨e,he,rfl⟩:=List.mem_map.1 hy;have hee:S.aI x.files=a.au:=by unfold Fs.aI;rw[ha]
    rw[hee] at he;obtain⟨b,b',k1,k2,k3,-⟩:=pr hf hT hb hD ha had hx.1 he;unfold Fs.jj;dsimp only;rw[M9 hf hT hb hD c ha had hx.1,Ei hb hi hid (by omega),bW k1,bW k2,k3.kind];by_cases h0:(S.aQ false c x.info (e.name++dQ)).2=0
    ·have hm:(T.bG (S.aQ false c x.info (e.name++dQ)).1).mtime=(S.bG (S.aQ false c x.info (e.name++dQ)).1).mtime:=by
      have hB:Ew S T D (S.aQ false c x.info (e.name++dQ)).1:=by
       unfold Fs.aQ at h0⊢;rw[if_neg (by decide)] at h0⊢
       split at h0
       ·rename_i h1;exact absurd h0 h1
       ·rename_i h1;rw[if_neg h1]
        split at h0
        ·exact absurd h0 (by decide)
        ·rename_i h2;rw[if_neg h2];have hee:S.aI x.info=i.au:=by unfold Fs.aI;rw[hi]
         rw[hee] at h2⊢;dsimp only;unfold aw at h2⊢
         cases hfd:i.au.find? (fun x=>decide (x.name=e.name++dQ)) with
         |none=>rw[hfd] at h2;exact absurd rfl h2
         |some e=>exact pr hf hT hb hD hi hid hx.2 (List.mem_of_find?_eq_some hfd)
      obtain⟨m,m',m1,m2,m3,-⟩:=hB;rw[bW m1,bW m2,m3.mtime]
     rw[hm]
    ·rw[if_neg (fun h=>h0 h.2.1),if_neg (fun h=>h0 h.2.1)]
  rw[AV hl]
end
end
section
open Go.RowKit
def Tm(S:Fs):Prop:=∀a∈S.ns,0≤a.mtime∧a.mtime≤253402300799
theorem Tm.set{S:Fs}(h:Tm S){a:An}(hn:0≤a.mtime∧a.mtime≤253402300799):Tm (S.set a):=by
 intro y hy;unfold Fs.set at hy;simp only[List.mem_map] at hy;obtain⟨z,hz,rfl⟩:=hy
 split
 ·exact hn
 ·exact h z hz
theorem Tm.add{S:Fs}(h:Tm S){a:An}(hn:0≤a.mtime∧a.mtime≤253402300799):Tm (S.add a):=by
 intro y hy;unfold Fs.add at hy;rcases List.mem_append.1 hy with hy|hy
 ·exact h y hy
 ·simp at hy;subst hy;exact hn
theorem Tm.aD{S:Fs}(h:Tm S)(o b n:Int):Tm (S.aD o b n):=by
 intro y hy;unfold Fs.aD at hy;rcases List.mem_append.1 hy with hy|hy
 ·exact h y hy
 ·simp at hy;subst hy;show(0:Int)≤dD.mtime∧dD.mtime≤253402300799;decide
theorem Tm.make{S:Fs}(h:Tm S){a:An}(hn:0≤a.mtime∧a.mtime≤253402300799):Tm (S.make a).1:=by
 unfold Fs.make
 split
 ·exact h
 ·split
  ·exact h
  ·simp only
   split
   ·exact Tm.add (S:=S.aP _ _) (fun y hy=>h y hy) hn
   ·exact h
theorem Tm.aE{S:Fs}(h:Tm S)(now dir:Int)(l:List En)(hw:0≤now∧now≤253402300799):Tm (S.aE now dir l):=by
 unfold Fs.aE
 split
 ·exact h
 ·exact h.set hw
theorem Tm.bT{S:Fs}(h:Tm S){a:An}(c:Cr)(now dir:Int)(s:ByteArray)(hw:0≤now∧now≤253402300799):Tm (S.bT c now dir s a).1:=by
 unfold Fs.bT
 split
 ·exact h
 ·rename_i hpl;obtain⟨d,hd,hdk,hce⟩:=cD (by simpa using hpl);rw[hd];simp only
  split
  ·exact h
  ·have hm:=h.make (a:={a with dev:=d.dev,uid:=c.u,gid:=c.g,mtime:=now,ctime:=now,ak:=1}) hw
   split
   ·exact h
   ·exact hm.aE _ _ _ hw
theorem Tm.aN{S:Fs}(h:Tm S)(c:Cr)(now dir:Int)(s:ByteArray)(m:Int)(hw:0≤now∧now≤253402300799):Tm (S.aN c now dir s m).1:=by
 unfold Fs.aN
 split
 ·exact h
 ·exact h.bT c now dir s hw
theorem Tm.file{S:Fs}(h:Tm S)(c:Cr)(now dir:Int)(s:ByteArray)(m:Int)(t:ByteArray)(hw:0≤now∧now≤253402300799):Tm (S.file c now dir s m t).1:=by
 unfold Fs.file
 split
 ·exact h
 ·split
  ·exact h
  ·exact h.bT c now dir s hw
theorem Tm.sym{S:Fs}(h:Tm S)(c:Cr)(now dir:Int)(s t:ByteArray)(hw:0≤now∧now≤253402300799):Tm (S.sym c now dir s t).1:=by
 unfold Fs.sym
 split
 ·exact h
 ·split
  ·exact h
  ·exact h.bT c now dir s hw
theorem Tm.dV{S:Fs}(h:Tm S)(c:Cr)(now no dir:Int)(s:ByteArray)(hw:0≤now∧now≤253402300799):Tm (S.dV c now no dir s).1:=by
 unfold Fs.dV
 split
 ·exact h
 ·rename_i hpl;obtain⟨d0,mY,hdk,hce⟩:=cD (by simpa using hpl)
  split
  ·rename_i d n hd hn
   split
   ·exact h
   ·split
    ·exact h
    ·split
     ·exact h
     ·split
      ·exact h
      ·exact Tm.aE (h.set (a:={n with ak:=n.ak+1,ctime:=now}) (h n (aO hn))) _ _ _ hw
  ·exact h
theorem Tm.cq{S:Fs}(h:Tm S)(c:Cr)(now no m:Int):Tm (S.cq c now no m).1:=by
 unfold Fs.cq
 split
 ·exact h
 ·rename_i n hn
  split
  ·exact h
  ·split
   ·exact h
   ·exact h.set (h n (aO hn))
theorem Tm.cy{S:Fs}(h:Tm S)(c:Cr)(now no u g:Int):Tm (S.cy c now no u g).1:=by
 unfold Fs.cy
 split
 ·exact h
 ·rename_i n hn
  split
  ·exact h
  ·split
   ·exact h
   ·split
    ·exact h
    ·exact h.set (h n (aO hn))
theorem Tm.ct{S:Fs}(h:Tm S)(c:Cr)(now no t:Int):Tm (S.ct c now no t).1:=by
 unfold Fs.ct
 split
 ·exact h
 ·rename_i n hn
  split
  ·exact h
  ·split
   ·exact h
   ·rename_i ht;exact h.set (by show 0≤t∧t≤253402300799;omega)
theorem Tm.bR{S:Fs}(h:Tm S)(k b n:Int):Tm (S.bR k b n).1:=by
 unfold Fs.bR
 split
 ·exact h
 ·split
  ·exact h
  ·split
   ·exact h
   ·split
    ·exact h
    ·exact h.aD _ b n
theorem Tm.bP{S:Fs}(h:Tm S)(m:Mt):Tm (bP S m):=by
 unfold Go.Proofs.YtabbjaomlmnnhaaGreat.bP
 split
 ·exact h
 ·split
  ·have h1:=h.aN cw 0 (S.path cw m.path false).1.dir (S.path cw m.path false).1.name 493 (by decide);simp only
   split
   ·exact h1
   ·exact h1.bR _ _ _
  ·exact h.bR _ _ _
theorem Tm.aR{S:Fs}(h:Tm S)(l:List Mt):Tm (aR S l):=by
 induction l generalizing S with
 |nil=>exact h
 |cons m l ih=>
  unfold Go.Proofs.YtabbjaomlmnnhaaGreat.aR;by_cases hm:m.path=kv
  ·rw[if_pos hm];exact ih h
  ·rw[if_neg hm];exact ih (h.bP m)
theorem Tm.cj{S:Fs}(h:Tm S)(it:It):Tm (cj S it).1:=by
 unfold Go.Proofs.YtabbjaomlmnnhaaGreat.cj;simp only
 split
 ·exact h
 ·split
  ·split<;>exact h
  ·split
   ·exact h.aN _ _ _ _ _ (by decide)
   ·split
    ·exact h.file _ _ _ _ _ _ (by decide)
    ·split
     ·exact h.sym _ _ _ _ _ (by decide)
     ·split
      ·split
       ·exact h.dV _ _ _ _ _ (by decide)
       ·exact h
      ·exact h
theorem Tm.dL{S:Fs}(h:Tm S)(it:It):Tm (dL S it).1:=by
 unfold Go.Proofs.YtabbjaomlmnnhaaGreat.dL;have h1:=h.cj it;simp only
 split
 ·exact(h1.cy _ _ _ _ _).cq _ _ _ _
 ·exact h1
theorem Tm.br{S:Fs}(h:Tm S)(l:List It):Tm (br S l).1:=by
 induction l generalizing S with
 |nil=>exact h
 |cons x l ih=>exact ih (h.dL x)
theorem Tm.bO{S:Fs}(h:Tm S)(l:List (It×Int)):Tm (bO S l):=by
 induction l generalizing S with
 |nil=>exact h
 |cons x l ih=>
  unfold Go.Proofs.YtabbjaomlmnnhaaGreat.bO;refine ih ?_
  split
  ·exact h.ct _ _ _ _
  ·exact h
theorem Ag(ms:List Mt)(is:List It):Tm (db ms is):=by
 unfold db;simp only;refine Tm.bO (Tm.br (Tm.aR ?_ ms) is) _;exact Tm.aD (S:=qh) (fun a ha=>by cases ha) _ _ _
structure jA(Y:Sy):Prop where
 fs:Tm Y.fs
 now:0≤Y.now∧Y.now≤253402300799
section
variable{Y:Sy}
theorem jA.op(h:jA Y){g:Fs→Int→Fs×Int×Int}(hg:Tm (g Y.fs Y.now).1):jA (Y.op g).1:=by
 obtain⟨h1,h2,-⟩:=dy Y;unfold Sy.op
 split
 ·exact⟨by rw[h1];exact h.fs,by rw[h2];exact h.now⟩
 ·exact⟨hg,by show 0≤Y.change.1.now∧Y.change.1.now≤253402300799;rw[h2];exact h.now⟩
theorem jA.dC(h:jA Y)(u:Us)(dir:Int)(n:ByteArray):jA (Y.dC u dir n).1:=by
 unfold Sy.dC
 split
 ·exact h.op (h.fs.aN _ _ _ _ _ h.now)
 ·exact h
theorem jA.et{u:Us}{dir:Int}:∀{l:List ByteArray} {Y:Sy},jA Y→jA (Y.et u dir l).1
 | [],_,h=>h
 |n::l,Y,h=>by
  rw[Sy.et]
  split
  ·exact h.dC u dir n
  ·exact(h.dC u dir n).et (u:=u) (dir:=dir) (l:=l)
theorem jA.aZ(h:jA Y)(u:Us)(p:mX):jA (Y.aZ u p).1:=by
 unfold Sy.aZ;dsimp only;have h1:=h.dC u p.dir p.name
 split
 ·exact h1
 ·have h2:=h1.et (u:=u) (dir:=(Y.dC u p.dir p.name).2.1) (l:=fy)
  split<;>exact h2
theorem jA.bw{u:Us}:∀{l:List mX} {Y:Sy} (e:Int),jA Y→jA (Y.bw u l e).1
 | [],_,_,h=>h
 |p::l,Y,e,h=>by
  rw[Sy.bw]
  split
  ·exact h.aZ u p
  ·exact(h.aZ u p).bw (u:=u) (l:=l) _
theorem jA.bJ(h:jA Y)(u:Us)(no:Int):jA (Y.bJ u no).1:=by
 unfold Sy.bJ;dsimp only;have h2:=h.bw (u:=u) (l:=Y.gB u (Y.fs.dg no).1) 0
 split
 ·exact h
 ·split
  ·exact h2
  ·generalize Y.bw u (Y.gB u (Y.fs.dg no).1) 0=a at h2⊢;have h4:=h2.bw (u:=u) (l:=a.1.fs.cO a.1.dead u (Y.fs.dg no).1 (Y.fs.dg no).2.1) a.2.2.2
   split
   ·exact h4
   ·split
    ·exact h4
    ·exact h4.aZ u _
theorem jA.cZ(h:jA Y)(n:Int):jA (Y.cZ n):=by
 unfold Sy.cZ
 split
 ·rename_i hc;exact⟨h.fs,by show 0≤Y.now+n∧Y.now+n≤253402300799;have:=h.now;omega⟩
 ·exact h
theorem jA.jm(h:jA Y)(c:Cr)(x:Cn)(l:Ln):jA (Y.jm c x l):=by
 unfold Sy.jm;dsimp only;have h1:jA (Y.op (fun S now=>S.aN c now x.files l.name 448)).1:=h.op (h.fs.aN c Y.now x.files l.name 448 h.now);generalize Y.op (fun S now=>S.aN c now x.files l.name 448)=r at h1⊢;have h2:jA (if r.2.2=0∧0≤l.size then(r.1.op (fun S now=>S.file c now r.2.1 kE 384 (ed l.size))).1 else r.1):=by
  split
  ·exact h1.op (h1.fs.file _ _ _ _ _ _ h1.now)
  ·exact h1
 generalize (if r.2.2=0∧0≤l.size then(r.1.op (fun S now=>S.file c now r.2.1 kE 384 (ed l.size))).1 else r.1)=r1 at h2⊢;refine jA.cZ ?_ _
 split
 ·exact h2.op (h2.fs.file _ _ _ _ _ _ h2.now)
 ·exact h2
theorem jA.dx{c:Cr}{x:Cn}:∀{l:List Ln} {Y:Sy},jA Y→jA (Y.dx c x l)
 | [],_,h=>h
 |l::ls,Y,h=>(h.jm c x l).dx (c:=c) (x:=x) (l:=ls)
theorem jA.cT(h:jA Y)(u:Us)(no:Int)(l:List Ln):jA (Y.cT u no l).1:=by
 unfold Sy.cT
 split
 ·exact h.bJ u no
 ·exact(h.bJ u no).dx
end
def eN(S T:Fs):Prop:=∀k a,S.get k=some a→∃b,T.get k=some b∧b.kind=a.kind
theorem eN.refl(S:Fs):eN S S:=fun _ a h=>⟨a,h,rfl⟩
theorem eN.trans{S T U:Fs}(h:eN S T)(k:eN T U):eN S U:=fun q a ha=>by
 obtain⟨b,hb,e⟩:=h q a ha;obtain⟨c,hc,e2⟩:=k q b hb;exact⟨c,hc,e2.trans e⟩
theorem zG(S:Fs)(now dir:Int)(l:List En):eN S (S.aE now dir l):=fun k a ha=>by
 by_cases hk:k=dir
 ·subst hk;exact⟨_,eu now l ha,rfl⟩
 ·exact⟨a,by rw[bL S now l hk];exact ha,rfl⟩
theorem sA{S:Fs}(hn:eU S)(c:Cr)(now dir:Int)(s:ByteArray)(a:An):eN S (S.bT c now dir s a).1:=by
 unfold Fs.bT
 split
 ·exact eN.refl S
 ·split
  ·exact eN.refl S
  ·dsimp only
   split
   ·exact eN.refl S
   ·split
    ·exact eN.refl S
    ·exact eN.trans (fun k b hb=>⟨b,oR hn _ hb,rfl⟩) (zG _ now dir _)
theorem zH{S:Fs}(hn:eU S)(c:Cr)(now dir:Int)(s:ByteArray)(m:Int):eN S (S.aN c now dir s m).1:=by
 unfold Fs.aN
 split
 ·exact eN.refl S
 ·exact sA hn c now dir s _
theorem sx{S:Fs}(hn:eU S)(c:Cr)(now dir:Int)(s:ByteArray)(m:Int)(t:ByteArray):eN S (S.file c now dir s m t).1:=by
 unfold Fs.file
 split
 ·exact eN.refl S
 ·split
  ·exact eN.refl S
  ·exact sA hn c now dir s _
theorem sw{Y:Sy}{g:Fs→Int→Fs×Int×Int}(hg:eN Y.fs (g Y.fs Y.now).1):eN Y.fs (Y.op g).1.fs:=by
 unfold Sy.op
 split
 ·rw[(dy Y).1];exact eN.refl _
 ·exact hg
theorem Ce(Y:Sy)(n:Int):eN Y.fs (Y.cZ n).fs:=by
 unfold Sy.cZ
 split<;>exact eN.refl _
theorem zI{Y:Sy}{N:Nat}(h:fP Y N)(c:Cr)(x:Cn)(l:Ln):eN Y.fs (Y.jm c x l).fs:=by
 unfold Sy.jm;dsimp only;have h1:fP (Y.op (fun S now=>S.aN c now x.files l.name 448)).1 (N+1):=h.op (h.lz.aN c Y.now x.files l.name 448);have s1:eN Y.fs (Y.op (fun S now=>S.aN c now x.files l.name 448)).1.fs:=sw (zH h.ok.bK.ok.nums c Y.now x.files l.name 448);generalize Y.op (fun S now=>S.aN c now x.files l.name 448)=r at h1 s1⊢;have h2:fP (if r.2.2=0∧0≤l.size then(r.1.op (fun S now=>S.file c now r.2.1 kE 384 (ed l.size))).1 else r.1) (N+2):=by
  split
  ·exact h1.op (h1.lz.file _ _ _ _ _ _)
  ·exact h1.mono (by omega)
 have s2:eN Y.fs (if r.2.2=0∧0≤l.size then(r.1.op (fun S now=>S.file c now r.2.1 kE 384 (ed l.size))).1 else r.1).fs:=by
  split
  ·exact s1.trans (sw (sx h1.ok.bK.ok.nums _ _ _ _ _ _))
  ·exact s1
 generalize (if r.2.2=0∧0≤l.size then(r.1.op (fun S now=>S.file c now r.2.1 kE 384 (ed l.size))).1 else r.1)=r1 at h2 s2⊢;refine eN.trans ?_ (Ce _ _)
 split
 ·exact s2.trans (sw (sx h2.ok.bK.ok.nums _ _ _ _ _ _))
 ·exact s2
theorem oG{c:Cr}{x:Cn}:∀{l:List Ln} {Y:Sy} {N:Nat},fP Y N→eN Y.fs (Y.dx c x l).fs
 | [],_,_,_=>eN.refl _
 |l::ls,Y,N,h=>(zI h c x l).trans (oG (c:=c) (x:=x) (l:=ls) (h.jm c x l))
end
end Go.Proofs.YtabbjaomlmnnhaaGreat
