import Derived.Deep.DeepCutAuto
import Derived.Deep.CutRange
import Derived.Test.YtabbjaomlmnnhaaGreatCO26
import Derived.Test.YtabbjaomlmnnhaaGreatCO22
import Derived.Test.YtabbjaomlmnnhaaGreatCO21
import Derived.Test.YtabbjaomlmnnhaaGreatCO18
import Derived.Test.YtabbjaomlmnnhaaGreatCO17
set_option linter.unusedVariables false
set_option linter.unusedSimpArgs false
set_option maxRecDepth 100000
set_option maxHeartbeats 16000000
namespace Go.Proofs.YtabbjaomlmnnhaaGreat
open Go.Value renaming int→UE,string→UF,slice→UG,pointer→UH,agg→UJ,tuple→UK
open Go.IntKind renaming i64→UL
section
open Go.RowKit
structure kQ(S:Fs)(x:Cn):Prop where
 dir:∃d,S.get x.dir=some d∧d.kind=1
 files:∃a,S.get x.files=some a∧a.kind=1
 info:∃a,S.get x.info=some a∧a.kind=1
 lt:x.dir<x.files∧x.dir<x.info
theorem kQ.stays{S T:Fs}{x:Cn}(h:kQ S x)(hs:eN S T):kQ T x:=by
 have hx:∀k,(∃d,S.get k=some d∧d.kind=1)→∃d,T.get k=some d∧d.kind=1:=fun k ⟨d,hd,hk⟩=>by
  obtain⟨b,hb,e⟩:=hs k d hd;exact⟨b,hb,by rw[e,hk]⟩
 exact⟨hx _ h.dir,hx _ h.files,hx _ h.info,h.lt⟩
theorem kQ.beside{S T:Fs}{x:Cn}(h:kQ S x)(hb:bU S T x.dir):kQ T x:=by
 obtain⟨⟨d,hd,hk⟩,⟨a,ha,hak⟩,⟨i,hi,hik⟩,h1,h2⟩:=h;obtain⟨d',e1,e2⟩:=hb.dir d hd;obtain⟨a',e3,e4⟩:=iI hb ha hak (by omega);obtain⟨i',e5,e6⟩:=iI hb hi hik (by omega);exact⟨⟨d',e1,by rw[e2];exact hk⟩,⟨a',e3,by rw[e4.kind,hak]⟩,⟨i',e5,by rw[e6.kind,hik]⟩,h1,h2⟩
theorem Gy{S:Fs}{a:An}{c:Cr}{now dir:Int}{s:ByteArray}(h:(S.bT c now dir s a).2.2=0) :
  ∃d,S.get dir=some d∧(S.bT c now dir s a).1.aI dir=aV d.au s (S.last+1):=by
 revert h;unfold Fs.bT
 split
 ·rename_i hpl;exact fun h=>absurd h hpl
 ·rename_i hpl;obtain⟨d,hd,hdk,hce⟩:=cD (by simpa using hpl);rw[hd];dsimp only
  split
  ·exact fun h=>absurd h (show¬(7:Int)=0 by decide)
  ·split
   ·rename_i h0;exact fun h=>absurd h h0
   ·rename_i h0;intro _;have h0:(S.make {a with dev:=d.dev,uid:=c.u,gid:=c.g,mtime:=now,ctime:=now,ak:=1}).2.2=0:=by simpa using h0
    have hm:(S.make {a with dev:=d.dev,uid:=c.u,gid:=c.g,mtime:=now,ctime:=now,ak:=1}).2.1=S.last+1:=by
     revert h0;unfold Fs.make
     split
     ·exact fun h=>absurd h (show¬(1:Int)=0 by decide)
     ·split
      ·exact fun h=>absurd h (show¬(1:Int)=0 by decide)
      ·dsimp only
       split
       ·exact fun _=>rfl
       ·rename_i h1;exact fun h2=>absurd h2 h1
    refine⟨d,rfl,?_⟩;have hg:∃d2,(S.make {a with dev:=d.dev,uid:=c.u,gid:=c.g,mtime:=now,ctime:=now,ak:=1}).1.get dir=some d2:=by
     unfold Fs.make
     split
     ·exact⟨d,hd⟩
     ·split
      ·exact⟨d,hd⟩
      ·dsimp only
       split
       ·refine⟨d,?_⟩;show(List.find? _ (S.ns++[_]))=some d;rw[List.find?_append,show S.ns.find? (fun x=>x.no==dir)=some d from hd];rfl
       ·exact⟨d,hd⟩
    obtain⟨d2,hg⟩:=hg;show(Fs.aE _ now dir _).aI dir=_;rw[hm];unfold Fs.aI;rw[eu now _ hg]
theorem FQ{S:Fs}{N:Nat}(h:Good S N){c:Cr}{now D:Int}{a b:ByteArray}{d n:An}(hd:S.get D=some d)(hdk:d.kind=1)(hn:S.get (aw d.au a)=some n)(hnk:n.kind≠1)(hne:aw d.au b≠aw d.au a)(he:(S.dP c now D a D b).2=0) :
  bU S (S.dP c now D a D b).1 D∧(S.dP c now D a D b).1.aI D=aV (aM d.au a) b n.no∧∃n',(S.dP c now D a D b).1.get n.no=some n'∧hH n n':=by
 have hnn:=(h.bK.ok.get hn).2.1;have Pg:n.no≠D:=fun e=>by
  have h1:=hn;rw[←hnn,e,hd] at h1;injection h1 with h1;exact hnk (by rw[←h1];exact hdk)
 have heo:S.aI D=d.au:=by unfold Fs.aI;rw[hd]
 revert he;unfold Fs.dP
 split
 ·rename_i h0;exact fun he=>absurd he h0
 split
 ·rename_i h0;exact fun he=>absurd he h0
 rw[heo,hn,hd];dsimp only
 split
 ·rename_i h0;exact fun he=>absurd he h0
 rename_i D5;have D5:(S.gp c D D d n d (S.get (aw d.au b))).1=0:=by simpa using D5
 have hold:∀o,S.get (aw d.au b)=some o→S.get o.no=some o∧o.kind≠1∧o.no≠D∧1≤o.ak∧o.no≠n.no:=fun o ho=>by
  have hon:=(h.bK.ok.get ho).2.1;have hg:=ly h hd ho;have Sn:o.no≠n.no:=by rw[hon,hnn];exact hne
  refine⟨bH ho,fun hk=>?_,?_,hg.1,Sn⟩
  ·revert D5;rw[ho];unfold Fs.gp;rw[if_neg (fun q=>q rfl),if_neg (fun q=>hnk q.1),if_neg (by simpa using Sn),if_neg (fun q=>hnk q.1)];dsimp only;unfold Fs.kC
   split
   ·exact fun h=>absurd h (by decide)
   ·rw[if_neg (fun q=>hnk q.1),if_pos ⟨hnk,hk⟩];exact fun h=>absurd h (by decide)
  ·rw[←bV hd];exact hg.2
 split
 ·rename_i fQ;exfalso;revert fQ;unfold Fs.gp;rw[if_neg (fun q=>q rfl),if_neg (fun q=>hnk q.1)]
  split
  ·rename_i hx;intro _
   cases ho:S.get (aw d.au b) with
   |none=>rw[ho] at hx;cases hx
   |some o=>
    rw[ho] at hx;exact(hold o ho).2.2.2.2 (by simpa using hx)
  ·rw[if_neg (fun q=>hnk q.1)]
   split
   ·exact fun h=>by cases h
   ·exact fun h=>by cases h
 ·intro _;refine⟨Kf h.bK.ok now (bH hn) hnk Pg hold,?_,?_⟩
  all_goals
   rw[oI];have h1:(S.qL now (S.get (aw d.au b))).get D=some d∧(S.qL now (S.get (aw d.au b))).get n.no=some n:=by
    cases ho:S.get (aw d.au b) with
    |none=>exact⟨hd,bH hn⟩
    |some o=>
     obtain⟨-,-,k3,-,k5⟩:=hold o ho;exact⟨(gX S now (fun e=>k3 e.symm)).trans hd,(gX S now (fun e=>k5 e.symm)).trans (bH hn)⟩
   generalize S.qL now (S.get (aw d.au b))=S1 at h1⊢;have h2:(S1.aE now D (aM d.au a)).aI D=aM d.au a:=by unfold Fs.aI;rw[eu now _ h1.1]
   rw[h2,gJ];have h3:(S1.aE now D (aV (aM d.au a) b n.no)).get n.no=some n:=by rw[bL S1 now _ Pg];exact h1.2
   have hs:=fun k=>fC (S:=S1.aE now D (aV (aM d.au a) b n.no)) (a:={n with ctime:=now,up:=if n.kind=1 then D else n.up}) (b:=n) h3 k
  ·unfold Fs.aI;rw[hs,if_neg (fun e=>Pg e.symm),eu now _ h1.1]
  ·exact⟨_,(hs n.no).trans (if_pos rfl),by rw[if_neg hnk];rfl⟩
theorem cU.fN{Y:Sy}(h:cU Y)(g:Fs→Int→Fs×Int):(Y.fN g).2=(g Y.fs Y.now).2∧(Y.fN g).1.fs=(g Y.fs Y.now).1∧cU (Y.fN g).1:=by
 have hc:Y.change=({Y with count:=Y.count+1},0):=by
  unfold Sy.change;rw[if_neg (by simp[h.dead]),h.cC];rfl
 unfold Sy.fN;rw[if_neg (by rw[hc];simp),hc];exact⟨rfl,rfl,⟨h.cC,h.dead⟩⟩
theorem LL{S:Fs}{c:Cr}{no:Int}{t:ByteArray}(h:S.read c no=(t,0)):∃n,S.get no=some n∧n.kind=2∧n.may c 4=true∧n.data=t:=by
 unfold Fs.read at h
 split at h
 ·rename_i h0;unfold Fs.cV at h0
  cases hg:S.get no with
  |none=>rw[hg] at h0;exact absurd (show(5:Int)=0 from h0) (by decide)
  |some n=>
   rw[hg] at h0 h;dsimp only at h0 h
   split at h0
   ·rename_i hk
    split at h0
    ·rename_i hm;refine⟨n,rfl,hk,hm,?_⟩;injection h
    ·exact absurd h0 (by decide)
   ·rw[if_neg (by decide)] at h0
    split at h0
    ·exact absurd h0 (by decide)
    ·exact absurd h0 (by decide)
 ·rename_i h0;injection h with h1 h2;exact absurd h2 h0
theorem LM{S:Fs}{c:Cr}{no:Int}{n:An}(h:S.get no=some n)(hk:n.kind=2)(hm:n.may c 4=true):S.read c no=(n.data,0):=by
 unfold Fs.read;rw[if_pos (by unfold Fs.cV;rw[h];dsimp only;rw[if_pos hk,if_pos hm]),h]
theorem z'{Y Y2:Sy}{N K:Nat}(h:fP Y N)(hst:cU Y){c:Cr}{x:Cn}(hx:kQ Y.fs x)(hr:Y.cQ K c x=(Y2,0)) :
  bU Y.fs Y2.fs x.dir∧cU Y2∧fP Y2 (N+3)∧(Y.fs.b9 K false c x).2=0∧
  ((Y2=Y∧(((Y.fs.fH false c x).2=0∧(Y.fs.fH false c x).1=str (bZ (Y.fs.b9 K false c x).1))∨((Y.fs.fH false c x).2=5∧(str (bZ (Y.fs.b9 K false c x).1)).size=0)))∨
   (Y2.fs.fH false c x=(str (bZ (Y.fs.b9 K false c x).1),0)∧aw (Y2.fs.aI x.dir) bh=0)):=by
 have hG:=h.cQ (M:=K) c x;rw[hr] at hG;revert hr;unfold Sy.cQ;dsimp only;rw[hst.dead]
 split
 ·rename_i h0;intro hr;injection hr with h1 h2;exact absurd h2 h0
 rename_i fk;have fk:(Y.fs.b9 K false c x).2=0:=by simpa using fk
 generalize str (bZ (Y.fs.b9 K false c x).1)=want
 split
 ·rename_i hc;intro hr;injection hr with h1 h2;subst h1;exact⟨bU.refl _ _,hst,hG,fk,.inl ⟨rfl,hc⟩⟩
 split
 ·intro hr;injection hr with h1 h2;exact absurd h2 (by decide)
 split
 ·rename_i h0;intro hr;injection hr with h1 h2;exact absurd h2 h0
 rename_i CP;obtain⟨e1,e2,e3,e4⟩:=hst.op (fun S now=>S.file c now x.dir bh 384 want);have hf:(Y.fs.file c Y.now x.dir bh 384 want).2.2=0:=by
  have CP:(Y.op (fun S now=>S.file c now x.dir bh 384 want)).2.2=0:=by simpa using CP
  rw[e1] at CP;exact CP
 have av:=Ek h.ok.bK.ok c Y.now x.dir bh 384 want;have iL:=h.op (g:=fun S now=>S.file c now x.dir bh 384 want) (h.lz.file c Y.now x.dir bh 384 want);generalize Y.op (fun S now=>S.file c now x.dir bh 384 want)=r at e1 e2 e3 e4 iL⊢;obtain⟨Y1,r1,r2⟩:=r;dsimp only at e2 e3 e4 iL⊢;have lx:=e2;obtain⟨o1,o2,o3⟩:=e3.fN (fun S now=>S.dP c now x.dir bh x.dir bE)
 split
 ·rename_i h0;intro hr;injection hr with h1 h2;exact absurd h2 h0
 rename_i D5;have hm:(Y1.fs.dP c Y1.now x.dir bh x.dir bE).2=0:=by
  have D5:(Y1.fN (fun S now=>S.dP c now x.dir bh x.dir bE)).2=0:=by simpa using D5
  rw[o1] at D5;exact D5
 intro hr;injection hr with h1 h2;subst h1;obtain⟨d,no,hd,hdk,hdm,hdf,hri,⟨d',hd',hde⟩,-,hlk,hrd,-,-,-⟩:=wJ h.ok.bK hf;obtain⟨d3,uY,hen⟩:=Gy (by
  have:=hf;unfold Fs.file at this
  split at this
  ·exact absurd (show(1:Int)=0 from this) (by decide)
  ·split at this
   ·exact absurd (show(3:Int)=0 from this) (by decide)
   ·exact this)
 have JK:(Y.fs.file c Y.now x.dir bh 384 want).1=Y1.fs:=lx.symm;have hne3:(Y.fs.bT c Y.now x.dir bh {dD with kind:=2,mode:=384,data:=want}).1=Y1.fs:=by
  rw[←JK];have:=hf;unfold Fs.file at this⊢
  split at this
  ·exact absurd (show(1:Int)=0 from this) (by decide)
  ·rename_i q1;rw[if_neg q1]
   split at this
   ·exact absurd (show(3:Int)=0 from this) (by decide)
   ·rename_i q2;rw[if_neg q2]
 rw[hne3] at hen;rw[JK] at av hd' hlk hrd;obtain rfl:d=d3:=by rw[hd] at uY;exact Option.some.inj uY
 have hen2:Y1.fs.aI x.dir=d'.au:=by unfold Fs.aI;rw[hd']
 rw[hen2,hde] at hen;have hno:no=Y.fs.last+1:=by
  have q1:=congrArg (fun l=>aw l bh) hen;rw[gC hri,gC hri] at q1;exact q1
 have hnp:bE≠bh:=by decide
 have hdk':d'.kind=1:=by
  obtain⟨d4,q1,q2⟩:=av.dir d hd;rw[hd'] at q1;injection q1 with q1;rw[q1,q2];exact hdk
 obtain⟨n,hn,hnk,hnm,hnd⟩:=LL hrd;have hnn:=bV hn;have hfp:aw d'.au bh=no:=by rw[hde,gC hri]
 have hfs:aw d'.au bE≠aw d'.au bh:=by
  rw[hfp,hde,jR hri _ _ _ hnp];intro e;by_cases h0:aw d.au bE=0
  ·have:=h.ok.bK.ok.l0;omega
  ·unfold aw at e h0
   cases hfd:d.au.find? (fun x=>decide (x.name=bE)) with
   |none=>rw[hfd] at h0;exact h0 rfl
   |some y=>
    rw[hfd] at e;obtain⟨b,hb,-⟩:=(h.ok.bK.tr.row d (aO hd)).down y (List.mem_of_find?_eq_some hfd);have:=(h.ok.bK.ok.get hb).2.2.2;have e:y.no=no:=e;omega
 obtain⟨m1,m2,n',m3,m4⟩:=FQ iL.lz (c:=c) (now:=Y1.now) (a:=bh) (b:=bE) hd' hdk' (by rw[hfp];exact hn) (by rw[hnk];decide) hfs hm;have C0:(Y1.fN (fun S now=>S.dP c now x.dir bh x.dir bE)).1.fs=(Y1.fs.dP c Y1.now x.dir bh x.dir bE).1:=o2;have hB:=av.trans h.ok.bK.ok m1;refine⟨by rw[C0];exact hB,o3,hG,fk,.inr ⟨?_,?_⟩⟩
 ·have hfin:=hG.ok.bK;rw[C0] at hfin⊢;have hri':fL d'.au:=(iL.ok.bK.ok.get hd').1.dB;have hrd':fL (aM d'.au bh):=kJ hri' bh;have hov:=vX hfin m3 (by rw[m4.kind,hnk];decide);have mT:(Y1.fs.dP c Y1.now x.dir bh x.dir bE).1.aQ false c x.dir bE=(n.no,0):=by
   unfold Fs.aQ;rw[if_neg (by decide),rU hB hd hdk];have ho:Y.fs.cV c x.dir 1 1=0:=by
    unfold Fs.cV;rw[hd];dsimp only;rw[if_pos hdk,if_pos hdm]
   rw[if_neg (by simpa using ho),m2,gC hrd',if_neg (by have:=h.ok.bK.ok.l0;omega),hov]
  have hrr:=LM m3 (by rw[m4.kind,hnk]) (by rw[m4.may];exact hnm);unfold Fs.fH;rw[mT,if_neg (show¬(0:Int)≠0 by decide)];unfold Fs.IM;rw[if_neg (by decide),hrr,m4.data,hnd]
 ·rw[C0,m2];have hri':fL d'.au:=(iL.ok.bK.ok.get hd').1.dB;rw[jR (kJ hri' bh) _ _ _ (fun e=>hnp e.symm),jw]
end
section
open Go.RowKit
theorem p9(S:Fs):∀(l:List Sp) (met:List Int),0≤S.fX met l
 | [],_=>Int.le_refl 0
 |x::l,met=>by
  unfold Fs.fX;have h1:=p9 S l met;have h2:=p9 S l (x.no::met)
  split
  ·exact h1
  ·omega
theorem Il(S:Fs)(N:Nat)(d:Bool)(c:Cr)(k:Int)(n:ByteArray):0≤(S.iP N d c k n).1:=by
 unfold Fs.iP
 split
 ·exact Int.le_refl 0
 ·exact p9 S _ _
theorem FV{S:Fs}{N K:Nat}(hf:dE S N)(ht:Tm S)(d:Bool)(c:Cr)(x:Cn):∀l∈(S.b9 K d c x).1,l.uS=true:=by
 intro l hl;unfold Fs.b9 at hl
 split at hl
 ·cases hl
 obtain⟨y,hy,hly⟩:=List.mem_filterMap.1 hl;have hc:cH y.name=0:=by
  unfold Fs.cE at hy
  split at hy
  ·cases hy
  ·split at hy
   ·cases hy
   ·obtain⟨e,he,rfl⟩:=List.mem_map.1 hy;unfold Fs.aI at he
    cases hg:S.get x.files with
    |none=>rw[hg] at he;cases he
    |some a=>rw[hg] at he;exact hf.nm a (aO hg) e he
 unfold Fs.jj at hly
 split at hly
 ·injection hly with hly;subst hly;have h1:=Il S K false c x.files y.name;have h2:0≤(S.bG (S.aQ false c x.info (y.name++dQ)).1).mtime:=by
   cases hg:S.get (S.aQ false c x.info (y.name++dQ)).1 with
   |none=>rw[gl hg];decide
   |some a=>rw[bW hg];exact(ht a (aO hg)).1
  unfold Ln.uS;rw[decide_eq_true h1,decide_eq_true h2,decide_eq_true hc];rfl
 ·cases hly
theorem E6{l:List Ln}(h:∀x∈l,x.uS=true)(h0:(str (bZ l)).size=0):l=[]:=by
 rw[dn] at h0
 cases l with
 |nil=>rfl
 |cons x l=>
  exfalso;have h1:=List.eq_nil_of_length_eq_zero h0;unfold bZ at h1;rw[List.filter_cons,if_pos (h x List.mem_cons_self),List.flatMap_cons] at h1;have h2:=(List.append_eq_nil_iff.1 h1).1;unfold KO at h2;have h3:=(List.append_eq_nil_iff.1 h2).2
  cases h3
theorem vU{S:Fs}{N:Nat}(hf:dE S N){c:Cr}{dir:Int}{n:ByteArray}(h:(dS (S.fg false c dir n)).2=0) :
  (∃d,S.get dir=some d∧d.kind=1)∧(∃b,S.get (dS (S.fg false c dir n)).1=some b∧b.kind=1)∧dir<(dS (S.fg false c dir n)).1:=by
 unfold Fs.fg at h⊢
 split at h
 ·exact absurd (show(5:Int)=0 from h) (by decide)
 rename_i h5;rw[if_neg h5]
 split at h
 ·rename_i h6;exfalso;unfold dS at h
  split at h
  ·exact absurd h (by decide)
  ·exact h6 h
 rename_i h6;rw[if_neg h6];have h6:(S.aQ false c dir n).2=0:=by simpa using h6
 have hz:FI c (S.bG (S.aQ false c dir n).1) (S.bG dir) (S.aQ false c dir n).1=((S.aQ false c dir n).1,0)∧(S.bG (S.aQ false c dir n).1).kind=1:=by
  have hnz:(FI c (S.bG (S.aQ false c dir n).1) (S.bG dir) (S.aQ false c dir n).1).2=0:=by
   unfold dS at h
   split at h
   ·rename_i q;exact q.1
   ·exact h
  revert hnz;unfold FI
  split
  ·exact fun q=>absurd q (by decide)
  ·rename_i hk
   split
   ·exact fun q=>absurd q (by decide)
   ·split
    ·exact fun q=>absurd q (by decide)
    ·split
     ·exact fun q=>absurd q (by decide)
     ·exact fun _=>⟨rfl,by simpa using hk⟩
 rw[hz.1];have hk:=hz.2;clear hz h h5;unfold Fs.aQ at h6 hk⊢;rw[if_neg (by decide)] at h6 hk⊢
 split at h6
 ·rename_i q;exact absurd h6 q
 rename_i q;rw[if_neg q] at hk⊢
 split at h6
 ·exact absurd h6 (by decide)
 rename_i q2;rw[if_neg q2] at hk⊢;have q:S.cV c dir 1 1=0:=by simpa using q
 have hd:∃d,S.get dir=some d∧d.kind=1:=by
  unfold Fs.cV at q
  cases hg:S.get dir with
  |none=>rw[hg] at q;exact absurd (show(5:Int)=0 from q) (by decide)
  |some d=>
   rw[hg] at q;dsimp only at q
   split at q
   ·rename_i hk;exact⟨d,rfl,hk⟩
   ·rw[if_pos rfl] at q;exact absurd q (by decide)
 obtain⟨d,hd,hdk⟩:=hd;have hee:S.aI dir=d.au:=by unfold Fs.aI;rw[hd]
 rw[hee] at q2 hk⊢;dsimp only at hk⊢;have he:∃e∈d.au,e.no=aw d.au n:=by
  unfold aw at q2⊢
  cases hfd:d.au.find? (fun x=>decide (x.name=n)) with
  |none=>rw[hfd] at q2;exact absurd rfl q2
  |some e=>exact⟨e,List.mem_of_find?_eq_some hfd,rfl⟩
 obtain⟨e,hem,hen⟩:=he;rw[←hen] at hk⊢;have hlt:=oW hf (aO hd) hd hdk hem;have hb:∃b,S.get (S.aB e.no)=some b∧b.kind=1:=by
  cases hg:S.get (S.aB e.no) with
  |none=>rw[gl hg] at hk;exact absurd (show(0:Int)=1 from hk) (by decide)
  |some b=>rw[bW hg] at hk;exact⟨b,rfl,hk⟩
 obtain⟨b,hb,hbk⟩:=hb;have e1:S.jt (S.aB e.no)=(S.last-S.aB e.no).toNat+1:=by unfold Fs.jt;rw[hb];simp[hbk]
 have e2:S.jt dir=(S.last-dir).toNat+1:=by unfold Fs.jt;rw[hd];simp[hdk]
 have e3:=(hf.ok.get hb).2.2.2;have e4:=(hf.ok.get hd).2.2.2;have hth:dS (S.aB e.no,0)=(S.aB e.no,0):=by
  refine oF ?_;have:=(hf.ok.get hb).2.2.1;omega
 rw[hth];exact⟨⟨d,hd,hdk⟩,⟨b,hb,hbk⟩,by show dir<S.aB e.no;omega⟩
theorem I7{S:Fs}{N:Nat}(hf:dE S N){u:Us}{p:mX}(h:(S.jO false u p).2=0):kQ S (S.jO false u p).1:=by
 revert h;unfold Fs.jO
 split
 ·rename_i q;exact fun h=>absurd h q
 generalize (dS (S.fg false u.c p.dir p.name)).1=D;unfold Fs.pW
 split
 ·rename_i q;exact fun h=>absurd h q
 rename_i q4;obtain⟨i1,i2,i3⟩:=vU hf (by simpa using q4);generalize (dS (S.fg false u.c D ji)).1=i at i2 i3;unfold Fs.sY
 split
 ·rename_i q;exact fun h=>absurd h q
 rename_i q3;obtain⟨-,f2,f3⟩:=vU hf (by simpa using q3);generalize (dS (S.fg false u.c D gq)).1=f at f2 f3;unfold Fs.sZ
 split
 ·rename_i q;exact fun h=>absurd h q
 unfold Fs.s7
 split
 ·rename_i q;exact fun h=>absurd h q
 unfold Fs.s8
 split
 ·exact fun h=>absurd h (show¬(5:Int)=0 by decide)
 ·exact fun _=>⟨i1,f2,i2,f3,i3⟩
theorem vM{Y:Sy}{N:Nat}(h:fP Y N)(hst:cU Y)(ib:∀u p,cU (Y.aZ u p).1){u:Us}{p:mX}(h0:(Y.aZ u p).2.2=0):kQ (Y.aZ u p).1.fs (Y.aZ u p).2.1:=by
 have hg:=h.aZ u p;have hd:=(ib u p).dead;revert h0 hg hd;unfold Sy.aZ;dsimp only
 split
 ·rename_i q;exact fun h=>absurd h q
 split
 ·rename_i q;exact fun h=>absurd h q
 ·intro h0 hg hd;dsimp only at h0 hd⊢;rw[hd] at h0⊢;exact I7 hg.ok.bK h0
end
section
open Go.RowKit
theorem vy{u:Us}:∀{l:List mX} {Y:Sy} {e:Int},e≠0∨l≠[]→(Y.bw u l e).2.1=false→(Y.bw u l e).2.2.2≠0
 | [],_,e,h=>fun _=>by
  rcases h with h|h
  ·exact h
  ·exact absurd rfl h
 |p::l,Y,e,_=>by
  rw[Sy.bw]
  split
  ·exact fun h=>by cases h
  ·rename_i q;exact vy (.inl (fun h0=>q (.inl h0)))
section
variable(hs:∀(Y:Sy),cU Y→∀u p,cU (Y.aZ u p).1)(ht:∀(Y:Sy),cU Y→∀u l e,cU (Y.bw u l e).1)
include hs in
theorem pO{u:Us}:∀{l:List mX} {Y:Sy} {N:Nat} {e:Int},fP Y N→cU Y→(Y.bw u l e).2.1=true→(Y.bw u l e).2.2.2=0→kQ (Y.bw u l e).1.fs (Y.bw u l e).2.2.1
 | [],_,_,_,_,_=>fun h=>by cases h
 |p::l,Y,N,e,h,hst=>by
  rw[Sy.bw];have hd:=(hs Y hst u p).dead
  split
  ·intro _ h0;exact vM h hst (hs Y hst) h0
  ·exact pO (l:=l) (h.aZ u p) (hs Y hst u p)
include hs ht in
theorem Dn{Y:Sy}{N:Nat}(h:fP Y N)(hst:cU Y)(u:Us)(no:Int):(Y.bJ u no).2.2=0→kQ (Y.bJ u no).1.fs (Y.bJ u no).2.1:=by
 unfold Sy.bJ;dsimp only;have g2:=h.bw (u:=u) (l:=Y.gB u (Y.fs.dg no).1) 0;have s2:=ht Y hst u (Y.gB u (Y.fs.dg no).1) 0;have c2:=pO hs (u:=u) (l:=Y.gB u (Y.fs.dg no).1) (e:=0) h hst
 split
 ·rename_i q;exact fun h=>absurd h q
 ·generalize Y.bw u (Y.gB u (Y.fs.dg no).1) 0=a at g2 s2 c2⊢
  split
  ·rename_i q;exact fun h0=>c2 q h0
  ·have g4:=g2.bw (u:=u) (l:=a.1.fs.cO a.1.dead u (Y.fs.dg no).1 (Y.fs.dg no).2.1) a.2.2.2;have s4:=ht a.1 s2 u (a.1.fs.cO a.1.dead u (Y.fs.dg no).1 (Y.fs.dg no).2.1) a.2.2.2;have c4:=pO hs (u:=u) (l:=a.1.fs.cO a.1.dead u (Y.fs.dg no).1 (Y.fs.dg no).2.1) (e:=a.2.2.2) g2 s2;have b4:=vy (u:=u) (l:=a.1.fs.cO a.1.dead u (Y.fs.dg no).1 (Y.fs.dg no).2.1) (Y:=a.1) (e:=a.2.2.2) (.inr (fun e=>by have:=(lh a.1.fs a.1.dead u (Y.fs.dg no).1 (Y.fs.dg no).2.1).1;rw[e] at this;exact absurd this (by decide)));generalize a.1.bw u (a.1.fs.cO a.1.dead u (Y.fs.dg no).1 (Y.fs.dg no).2.1) a.2.2.2=b at g4 s4 c4 b4⊢
   split
   ·rename_i q;exact fun h0=>c4 q h0
   ·split
    ·exact fun h0=>absurd h0 (b4 (by
      rename_i q2 _;simpa using q2))
    ·exact fun h0=>vM g4 s4 (hs b.1 s4) h0
include hs ht in
theorem Df{Y:Sy}{N:Nat}(h:fP Y N)(hst:cU Y)(u:Us)(no:Int)(l:List Ln):(Y.cT u no l).2.2=true→kQ (Y.cT u no l).1.fs (Y.cT u no l).2.1:=by
 unfold Sy.cT
 split
 ·exact fun h=>by cases h
 ·rename_i q;intro _;have h1:=Dn hs ht h hst u no (by simpa using q);exact h1.stays (oG (h.bJ u no))
end
theorem FF{Y:Sy}{c:Cr}{D:Int}{N:Nat}(hk:ay Y.fs N)(hp:aw (Y.fs.aI D) bh=0)(ho:Y.fs.cV c D 1 1=0):((Y.fN (fun S now=>S.cA c now D bh)).1.fs.aQ false c D bh).2=5:=by
 have h0:Y.fs.get 0=none:=by
  cases hg:Y.fs.get 0 with
  |none=>rfl
  |some x=>have:=(hk.get hg).2.2.1;omega
 have hu:(Y.fs.cA c Y.now D bh).1=Y.fs:=by
  unfold Fs.cA
  split
  ·rfl
  ·rw[hp,h0]
   split
   ·rename_i q
    cases q
   ·rfl
 have hf:(Y.fN (fun S now=>S.cA c now D bh)).1.fs=Y.fs:=by
  unfold Sy.fN
  split
  ·exact(dy Y).1
  ·exact hu
 rw[hf];unfold Fs.aQ;rw[if_neg (by decide),if_neg (by simpa using ho),if_pos hp]
theorem I8{Y0 Y2:Sy}{N K:Nat}(h:fP Y0 N)(hK:N+7≤K)(hst:cU Y0)(ht:jA Y0){c:Cr}{x:Cn}(hx:kQ Y0.fs x)(text:ByteArray)
  (hr:(Y0.op (fun S now=>S.file c now x.dir bE 384 text)).1.cQ K c x=(Y2,0)) :
  (Y2.fs.b9 K false c x).2=0∧(((Y2.fs.fH false c x).2=0∧(Y2.fs.fH false c x).1=str (bZ (Y2.fs.b9 K false c x).1))∨((Y2.fs.fH false c x).2=5∧(Y2.fs.b9 K false c x).1=[]))∧
  Y2.cQ K c x=(Y2,0)∧((Y0.fs.aQ false c x.dir bh).2=5→((Y2.fN (fun S now=>S.cA c now x.dir bh)).1.fs.aQ false c x.dir bh).2=5)∧cU Y2∧fP Y2 (N+4):=by
 have g1:fP (Y0.op (fun S now=>S.file c now x.dir bE 384 text)).1 (N+1):=h.op (h.lz.file c Y0.now x.dir bE 384 text);have t1:jA (Y0.op (fun S now=>S.file c now x.dir bE 384 text)).1:=ht.op (ht.fs.file c Y0.now x.dir bE 384 text ht.now);obtain⟨e1,e2,st1,-⟩:=hst.op (fun S now=>S.file c now x.dir bE 384 text);have b01:bU Y0.fs (Y0.op (fun S now=>S.file c now x.dir bE 384 text)).1.fs x.dir:=by rw[e2];exact Ek h.ok.bK.ok c Y0.now x.dir bE 384 text
 have Sm:aw (Y0.fs.aI x.dir) bh=0→aw ((Y0.op (fun S now=>S.file c now x.dir bE 384 text)).1.fs.aI x.dir) bh=0:=fun hp=>by
  rw[e2];by_cases hf:(Y0.fs.file c Y0.now x.dir bE 384 text).2.2=0
  ·obtain⟨d,no,hd,-,-,-,hri,⟨d',hd',hde⟩,-⟩:=wJ h.ok.bK hf;have q1:Y0.fs.aI x.dir=d.au:=by unfold Fs.aI;rw[hd]
   have q2:(Y0.fs.file c Y0.now x.dir bE 384 text).1.aI x.dir=d'.au:=by unfold Fs.aI;rw[hd']
   rw[q2,hde,jR hri _ _ _ (by decide),←q1];exact hp
  ·have:(Y0.fs.file c Y0.now x.dir bE 384 text).1=Y0.fs:=by
    revert hf;unfold Fs.file
    split
    ·exact fun _=>rfl
    ·split
     ·exact fun _=>rfl
     ·exact fun hf=>GA hf
   rw[this];exact hp
 generalize (Y0.op (fun S now=>S.file c now x.dir bE 384 text)).1=Y1 at g1 t1 e2 st1 b01 Sm hr;have Jp:=hx.beside b01;obtain⟨b12,st2,g2,l0,hcase⟩:=z' g1 st1 Jp hr;have f1:dE Y1.fs K:=g1.ok.bK.mono (by omega);have f2:dE Y2.fs K:=g2.ok.bK.mono (by omega);have hl:=Kh f1 f2 b12 Jp.dir (c:=c) Jp.lt Jp.files Jp.info;have hm:=FV (K:=K) f1 t1.fs false c x;have hheld:((Y2.fs.fH false c x).2=0∧(Y2.fs.fH false c x).1=str (bZ (Y1.fs.b9 K false c x).1))∨((Y2.fs.fH false c x).2=5∧(str (bZ (Y1.fs.b9 K false c x).1)).size=0):=by
  rcases hcase with⟨rfl,hc⟩|⟨hc,-⟩
  ·exact hc
  ·left;rw[hc];exact⟨rfl,rfl⟩
 refine⟨by rw[hl];exact l0,?_,?_,fun h5=>?_,st2,g2.mono (by omega)⟩
 ·rw[hl];rcases hheld with hc|⟨jH,fE⟩
  ·exact .inl hc
  ·exact .inr ⟨jH,E6 hm fE⟩
 ·unfold Sy.cQ;dsimp only;rw[st2.dead,hl,if_neg (by rw[l0];decide),if_pos hheld]
 ·obtain⟨d,hd,hdk⟩:=hx.dir;have ho:Y0.fs.cV c x.dir 1 1=0:=by
   unfold Fs.aQ at h5;rw[if_neg (by decide)] at h5;by_cases q:Y0.fs.cV c x.dir 1 1=0
   ·exact q
   ·rw[if_pos q] at h5;exfalso;unfold Fs.cV at h5;rw[hd] at h5;dsimp only at h5;rw[if_pos hdk] at h5
    split at h5
    ·exact absurd h5 (by decide)
    ·exact absurd h5 (by decide)
  have hp:aw (Y0.fs.aI x.dir) bh=0:=by
   unfold Fs.aQ at h5;rw[if_neg (by decide),if_neg (by simpa using ho)] at h5;by_cases q:aw (Y0.fs.aI x.dir) bh=0
   ·exact q
   ·rw[if_neg q] at h5;exact absurd (show(0:Int)=5 from h5) (by decide)
  refine FF g2.ok.bK.ok ?_ ?_
  ·rcases hcase with⟨rfl,-⟩|⟨-,hc⟩
   ·exact Sm hp
   ·exact hc
  ·have hb:=b01.trans h.ok.bK.ok b12;rw[rU hb hd hdk];exact ho
end
section
open Go.RowKit
attribute [local go_sem] Oper.semAt_some
theorem uk:∀(a b:List UInt8),Lib.compareBytes a b=0↔a=b
 | [],[]=>by simp[Lib.compareBytes]
 | [],_::_=>by simp[Lib.compareBytes]
 |_::_,[]=>by simp[Lib.compareBytes]
 |a::la,b::lb=>by
  unfold Lib.compareBytes;by_cases h1:a<b
  ·rw[if_pos h1];refine⟨fun h=>absurd h (by decide),fun h=>?_⟩;injection h with h2 h3;subst h2;exact absurd h1 (UInt8.lt_irrefl a)
  ·rw[if_neg h1];by_cases h2:b<a
   ·rw[if_pos h2];refine⟨fun h=>absurd h (by decide),fun h=>?_⟩;injection h with h3 h4;subst h3;exact absurd h2 (UInt8.lt_irrefl a)
   ·rw[if_neg h2];have h3:a=b:=UInt8.le_antisymm (UInt8.not_lt.1 h2) (UInt8.not_lt.1 h1);subst h3;rw[uk la lb];simp
theorem wj{S:Fs}{N K:Nat}(hf:dE S N)(hN:N≤900)(ht:Tm S)(d:Bool)(c:Cr)(x:Cn):(∀l∈(S.b9 K d c x).1,(-9223372036854775808≤l.size∧l.size≤9223372036854775807)∧(-9223372036854775808≤l.time∧l.time≤9223372036854775807)∧l.name.size≤300)∧(S.b9 K d c x).1.length≤1000:=by
 have hns:S.ns.length≤100000:=by
  have h1:=hf.pl.len;have h2:=hf.ok.lN;omega
 refine⟨fun l hl=>?_,?_⟩
 ·have hnm:l.name.size≤255:=by
   unfold Fs.b9 at hl;by_cases h0:(S.cE d c x.files).2=0
   ·rw[if_neg (by simpa using h0)] at hl;have hd:d=false:=by
     cases d with
     |false=>rfl
     |true=>unfold Fs.cE at h0;rw[if_pos rfl] at h0;exact absurd h0 (by decide)
    subst hd;obtain⟨y,hy,hly⟩:=List.mem_filterMap.1 hl;unfold Fs.jj at hly
    split at hly
    ·injection hly with hly;subst hly;exact tv hf.pl c x.files y hy
    ·cases hly
   ·rw[if_pos h0] at hl
    cases hl
  unfold Fs.b9 at hl
  split at hl
  ·cases hl
  obtain⟨y,hy,hly⟩:=List.mem_filterMap.1 hl;unfold Fs.jj at hly
  split at hly
  ·injection hly with hly;subst hly;refine⟨?_,?_,by omega⟩
   ·dsimp only;have h1:0≤(S.iP K false c x.files y.name).1∧(S.iP K false c x.files y.name).1≤1048576*100000:=by
     unfold Fs.iP
     split
     ·exact⟨Int.le_refl 0,show(0:Int)≤1048576*100000 by decide⟩
     ·exact AK hf.ok hns _
    omega
   ·dsimp only
    cases hg:S.get (S.aQ false c x.info (y.name++dQ)).1 with
    |none=>rw[gl hg];decide
    |some a=>
     rw[bW hg];have:=ht a (aO hg);omega
  ·cases hly
 ·have hle:(S.cE d c x.files).1.length≤N:=by
   unfold Fs.cE
   split
   ·exact Nat.zero_le _
   ·split
    ·exact Nat.zero_le _
    ·rw[List.length_map];exact(MY hf.ok _).2.1
  unfold Fs.b9
  split
  ·exact Nat.zero_le _
  ·have:=List.length_filterMap_le (S.jj K c x) (S.cE d c x.files).1;dsimp only;omega
theorem Gk{Y:Sy}{N:Nat}(h:fP Y N){c:Cr}{dir:Int}{s t:ByteArray}(h0:(Y.op (fun S now=>S.file c now dir s 384 t)).2.2=0):∀d n,(Y.op (fun S now=>S.file c now dir s 384 t)).1.fs.get dir=some d→(Y.op (fun S now=>S.file c now dir s 384 t)).1.fs.get (aw d.au s)=some n→n.kind≠1:=by
 revert h0;unfold Sy.op
 split
 ·rename_i hce;exact fun h=>absurd h hce
 ·dsimp only;unfold Fs.file
  split
  ·exact fun h=>absurd h (show¬(1:Int)=0 by decide)
  ·split
   ·exact fun h=>absurd h (show¬(3:Int)=0 by decide)
   ·intro hc d n hd hn;obtain⟨d2,n2,e1,e2,e3,e4,-⟩:=A' h.ok.bK.ok hc;rw[hd] at e1;injection e1 with e1;subst e1;rw[hn] at e3;injection e3 with e3;subst e3;rw[e4];show(2:Int)≠1;decide
structure TF(w':World)(b:Nat)(us xs:Array Value):Prop where
 u:ax w' b us 27
 x:ax w' (b+1) xs 48
theorem TF.an{w w':World}{b:Nat}{us xs:Array Value}(h:TF w b us xs)(hb:UA w w'):TF w' b us xs:=⟨h.u.an hb,h.x.an hb⟩
section
variable{w w':World}{pf pw:Nat}{R:Rp}{pv:Value}{Y:Sy}
theorem lC(h:bm w pf pw R pv Y){N K:Nat}(hk:fP Y N)(hN:N+3≤K)(hK:K≤800)(hst:cU Y)(ht:Tm Y.fs)(u:Us)(x:Cn) :
  Calls Tryz.prog 17 #[UH (some ⟨pf,0,none⟩),UJ #[UE UL u.u,UE UL u.g,UF u.data],UJ #[UF x.path,UE UL x.dir,UE UL x.info,UE UL x.files,UE UL x.out,UE UL x.jC,UF x.top]] w fun e w'=>
   e=.returned (UE UL (Y.cQ K u.c x).2)∧iu w w' pf pw R pv (Y.cQ K u.c x).1:=by
 obtain⟨hU,hX,hb⟩:=iJ w #[UE UL u.u,UE UL u.g,UF u.data] #[UF x.path,UE UL x.dir,UE UL x.info,UE UL x.files,UE UL x.out,UE UL x.jC,UF x.top] 27 48;have hfK:dE Y.fs K:=hk.ok.bK.mono (by omega);have Ot:=Ux (fun w1 (av:UA w w1)=>um (h.an av) hfK (by omega) hst.dead u x);have Oz:=Ux (fun w1 (av:UA w w1)=>qs (h.an av) hfK.ok (by omega) hst.dead u x);obtain⟨hlb,hll⟩:=wj (K:=K) hfK (by omega) ht Y.dead u.c x;have HF:=Ux (show Y.cQ K u.c x=if(Y.fs.b9 K Y.dead u.c x).2≠0 then(Y,(Y.fs.b9 K Y.dead u.c x).2) else
  if((Y.fs.fH Y.dead u.c x).2=0∧(Y.fs.fH Y.dead u.c x).1=str (bZ (Y.fs.b9 K Y.dead u.c x).1))∨((Y.fs.fH Y.dead u.c x).2=5∧(str (bZ (Y.fs.b9 K Y.dead u.c x).1)).size=0) then(Y,0) else if(Y.fs.fH Y.dead u.c x).2=20 then(Y,20) else
  if(Y.op (fun S now=>S.file u.c now x.dir bh 384 (str (bZ (Y.fs.b9 K Y.dead u.c x).1)))).2.2≠0 then((Y.op (fun S now=>S.file u.c now x.dir bh 384 (str (bZ (Y.fs.b9 K Y.dead u.c x).1)))).1,(Y.op (fun S now=>S.file u.c now x.dir bh 384 (str (bZ (Y.fs.b9 K Y.dead u.c x).1)))).2.2) else
  if((Y.op (fun S now=>S.file u.c now x.dir bh 384 (str (bZ (Y.fs.b9 K Y.dead u.c x).1)))).1.fN (fun S now=>S.dP u.c now x.dir bh x.dir bE)).2≠0 then((((Y.op (fun S now=>S.file u.c now x.dir bh 384 (str (bZ (Y.fs.b9 K Y.dead u.c x).1)))).1.fN (fun S now=>S.dP u.c now x.dir bh x.dir bE)).1.fN (fun S now=>S.cA u.c now x.dir bh)).1,((Y.op (fun S now=>S.file u.c now x.dir bh 384 (str (bZ (Y.fs.b9 K Y.dead u.c x).1)))).1.fN (fun S now=>S.dP u.c now x.dir bh x.dir bE)).2)
  else(((Y.op (fun S now=>S.file u.c now x.dir bh 384 (str (bZ (Y.fs.b9 K Y.dead u.c x).1)))).1.fN (fun S now=>S.dP u.c now x.dir bh x.dir bE)).1,0) from rfl)
 generalize Y.cQ K u.c x=fw at HF⊢;generalize hheld:Y.fs.fH Y.dead u.c x=hd at Oz HF;obtain⟨bI,he⟩:=hd;generalize hlines:Y.fs.b9 K Y.dead u.c x=li at Ot HF hlb hll;obtain⟨ls,le⟩:=li;dsimp only at Oz Ot HF hlb hll;have hsz:(str (bZ ls)).size≤1000*1000:=by
  rw[dn];exact ae (vE ls hlb) (by omega)
 have TS:=Ux (fun(a:Option Addr) (n c:Nat) (w1:World) (hs:bF w1 3 KN a n c ls)=>sn ls a n c w1 hs (by have:=hs.1;omega) hlb);have iL:fP (Y.op (fun S now=>S.file u.c now x.dir bh 384 (str (bZ ls)))).1 (N+1):=hk.op (hk.lz.file _ _ _ _ _ _);have hnk:=Gk hk (c:=u.c) (dir:=x.dir) (s:=bh) (t:=str (bZ ls));generalize str (bZ ls)=want at TS hsz iL hnk HF;have yR:=Ux (fun w1 (av:UA w w1)=>fS (h.an av) hk.ok.bK.ok (by omega) ⟨hk.ok.c0,by have:=hk.ok.cN;omega⟩ (by have:=hk.ok.pl;omega) u.c x.dir bh 384 want (by decide) (by omega));have HY:=Ux h;generalize Y.op (fun S now=>S.file u.c now x.dir bh 384 want)=r at yR iL hnk HF;obtain⟨Y1,d1,g1⟩:=r;dsimp only at yR iL hnk HF;have Nv:=Ux (fun(A:World) (R1:Rp) (hA:bm A pf pw R1 pv Y1)=>zJ hA iL.lz (by omega) ⟨iL.ok.c0,by have:=iL.ok.cN;omega⟩ (by have:=iL.ok.pl;omega) u.c x.dir bh x.dir bE (by decide) (by decide));have lU:g1=0→fP (Y1.fN (fun S now=>S.dP u.c now x.dir bh x.dir bE)).1 (N+2):=fun h0=>iL.fN (iL.lz.move u.c _ _ _ _ _ (hnk h0));generalize Y1.fN (fun S now=>S.dP u.c now x.dir bh x.dir bE)=q at Nv HF lU;obtain⟨Y2,e2⟩:=q;dsimp only at Nv HF lU;have Oj:=Ux (fun(h0:g1=0) (A:World) (R1:Rp) (hA:bm A pf pw R1 pv Y2)=>qG hA (lU h0).lz (by omega) ⟨(lU h0).ok.c0,by have:=(lU h0).ok.cN;omega⟩ (by have:=(lU h0).ok.pl;omega) u.c x.dir bh (by decide));generalize Y2.fN (fun S now=>S.cA u.c now x.dir bh)=qu at Oj HF;obtain⟨Y3,e3⟩:=qu;dsimp only at Oj HF;unfold bh at yR Nv Oj;unfold bE at Nv;have ec1:u.c.u=u.u:=rfl;have ec2:u.c.g=u.g:=rfl;clear h hk hst hlb hll iL hnk lU hfK ht hheld hlines;go_enter Tryz.func17,Tryz.ntmps17;go_upto_region 1 with fail;generalize World.alloc _ _=X at hU hX hb⊢;obtain⟨uc,uf,uz⟩:=hU.facts;obtain⟨xc,xf,xz⟩:=hX.facts;have H0:=Ux (ag hU (ag hX hb));clear hU hX hb;go_wp2_with fail;refine(Ot.o _ H0.o.2.2).mono ?_;rintro e w1 ⟨lv,rfl,uJ,av⟩;obtain⟨la,lc,rfl,-⟩:=bQ uJ;have ij:=rV.at uJ;have JJ:=H0.o.1.an av;have nb:=H0.o.2.1.an av;have H1:=Ux (ag JJ (ag nb (ar H0.o.2.2 av)));have DD:=Ux (TS.o _ _ _ w1 ij);clear uc uf uz xc xf xz JJ nb ij uJ av;by_cases hle:le≠0
 ·have hlb2:(le != 0)=true:=by simpa using hle
  have HE:=Ux (HF.o.trans (if_pos hle));clear hle;go_wp2_with fail;go_ret;rw[HE.o];exact⟨rfl,R,HY.o.an H1.o.2.2,aS.aq H1.o.2.2⟩
 have MJ:=HF.o.trans (if_neg hle);have Ev:=Ux MJ;obtain rfl:le=0:=by simpa using hle
 clear hle MJ;go_wp2_with fail;refine DD.o.mono ?_;rintro e w2 ⟨rfl,aY⟩;have JI:=H1.o.1.an aY;have mU:=H1.o.2.1.an aY;have H2:=Ux (ag JI (ag mU (ar H1.o.2.2 aY)));obtain⟨uc,uf,uz⟩:=JI.facts;obtain⟨xc,xf,xz⟩:=mU.facts;clear JI mU aY;go_wp2_with fail;refine(Oz.o _ H2.o.2.2).mono ?_;rintro e w3 ⟨rfl,cl⟩;have SY:=H2.o.1.an cl;have ob:=H2.o.2.1.an cl;have H3:=Ux (ag SY (ag ob (ar H2.o.2.2 cl)));clear uc uf uz xc xf xz SY ob cl;go_upto_region 6 with fail
 go_cut [33] from 34 to 50 (fun t33 wx=>∃b:Bool,t33=.bool b∧(b=true↔((he=0∧bI=want)∨(he=5∧want.size=0)))∧wx=w3)
 case first=>
  by_cases h0:he=0
  ·subst h0;go_wp2_with fail;refine(Tryz.strings_Compare bI want _).mono ?_;rintro e w4 ⟨rfl,rfl⟩;by_cases hc:bI=want
   ·have hcb:Lib.compareBytes bI.data.toList want.data.toList=0:=(uk _ _).2 (by rw[hc]);have HC:=Ux hc;generalize Lib.compareBytes bI.data.toList want.data.toList=cb at hcb⊢;subst hcb;clear hc;go_wp2_with fail;go_meet;exact⟨true,rfl,⟨fun _=>(by first|exact .inl ⟨rfl,HC.o⟩|exact .inl ⟨trivial,HC.o⟩),fun _=>rfl⟩,rfl⟩
   ·have hcb:¬Lib.compareBytes bI.data.toList want.data.toList=0:=fun e=>hc (ByteArray.ext (Array.ext' ((uk _ _).1 e)));have HC:=Ux hc;generalize Lib.compareBytes bI.data.toList want.data.toList=cb at hcb⊢;have hcb2:(cb==0)=false:=by simpa using hcb
    clear hc;go_wp2_with fail;go_meet;refine⟨false,rfl,⟨fun h=>(by cases h),fun h=>?_⟩,rfl⟩;rcases h with⟨-,h⟩|⟨h,-⟩
    ·exact absurd h HC.o
    ·exact absurd h (by decide)
  ·have nD:(he==0)=false:=by simpa using h0
   have H0n:=Ux h0;by_cases h5:he=5
   ·subst h5;clear h0;by_cases hw:want.size=0
    ·obtain rfl:want=ByteArray.mk #[]:=ByteArray.ext (Array.eq_empty_of_size_eq_zero hw);clear hw;go_wp2_with fail;go_meet;exact⟨true,rfl,⟨fun _=>(by first|exact .inr ⟨rfl,rfl⟩|exact .inr ⟨trivial,rfl⟩|simp),fun _=>rfl⟩,rfl⟩
    ·have HWz:=Ux hw;have hwl:¬want.toList=[]:=by
      rw[cd];intro e;exact hw ((Ep want).trans (by rw[e];rfl))
     have hwl2:(want.toList==[])=false:=by simpa using hwl
     have hwl3:want.toList.isEmpty=false:=by simpa using hwl
     clear hw;go_wp2_with fail;go_meet;refine⟨false,rfl,⟨fun h=>(by cases h),fun h=>?_⟩,rfl⟩;rcases h with⟨h,-⟩|⟨-,h⟩
     ·exact absurd h (by decide)
     ·exact absurd h HWz.o
   ·have h5b:(he==5)=false:=by simpa using h5
    have H5n:=Ux h5;clear h0 h5;go_wp2_with fail;go_meet;refine⟨false,rfl,⟨fun h=>(by cases h),fun h=>?_⟩,rfl⟩;rcases h with⟨h,-⟩|⟨h,-⟩
    ·exact absurd h H0n.o
    ·exact absurd h H5n.o
 case rest=>
  obtain⟨sb,rfl,hsb,rfl⟩:=hcut
  cases sb with
  |true=>
   have HE:=Ux (Ev.o.trans (if_pos (hsb.1 rfl)));clear hsb;go_wp2_with fail;go_ret;rw[HE.o];exact⟨rfl,R,HY.o.an H3.o.2.2,aS.aq H3.o.2.2⟩
  |false=>
  have wW:=Ux (Ev.o.trans (if_neg (fun h=>by have:=hsb.2 h;cases this)));clear hsb;by_cases K0:he=20
  ·have HE:=Ux (wW.o.trans (if_pos K0));subst K0;go_wp2_with fail;go_ret;rw[HE.o];exact⟨rfl,R,HY.o.an H3.o.2.2,aS.aq H3.o.2.2⟩
  have h20b:(he==20)=false:=by simpa using K0
  have HF3:=Ux (wW.o.trans (if_neg K0));clear K0;obtain⟨uc,uf,uz⟩:=H3.o.1.facts;go_upto_region 10 with fail;go_wp2_with fail;refine(fi u.u u.g u.data _).mono ?_;rintro e w4 ⟨rfl,dM⟩;have MQ:=ax.new w4 #[UE UL u.u,UE UL u.g] 64;have lP:=ao dM (.cells #[UE UL u.u,UE UL u.g] 64);clear uc uf uz;go_upto_region 11 with fail;generalize w4.alloc _=w5 at MQ lP⊢;generalize w4.heap.size=bc at MQ⊢;have KW:=H3.o.2.1.an lP;have rQ:=ar H3.o.2.2 lP;have AM:=HY.o.an rQ;obtain⟨cc,cf,cz⟩:=MQ.facts;obtain⟨xc,xf,xz⟩:=KW.facts;have H5:=Ux (ag KW (ag MQ (ag rQ AM)));clear dM MQ lP KW rQ AM;go_wp2_with fail;refine(yR.o _ H5.o.2.2.1).mono ?_;rintro e w6 ⟨rfl,R1,G',hs6⟩;have N2:=H5.o.1.sy H5.o.2.2.2 hs6 (by decide) (by decide);have JT:=H5.o.2.1.sy H5.o.2.2.2 hs6 (by decide) (by decide);have H6:=Ux (ag G' (ag ((aS.aq (F:=R.Y pf pw) H5.o.2.2.1).trans hs6) (ag N2 JT)));clear cc cf cz xc xf xz hs6;by_cases iL:g1≠0
  ·have hgb:(g1 != 0)=true:=by simpa using iL
   have HE:=Ux (HF3.o.trans (if_pos iL));clear iL N2 JT G';go_wp2_with fail;go_ret;rw[HE.o];exact⟨rfl,R1,H6.o.1,H6.o.2.1⟩
  have HF4:=Ux (HF3.o.trans (if_neg iL));obtain rfl:g1=0:=by simpa using iL
  obtain⟨cc,cf,cz⟩:=JT.facts;obtain⟨xc,xf,xz⟩:=N2.facts;have Ny:=Ux (Nv.o w6 R1 G');clear N2 JT iL;go_wp2_with fail;refine Ny.o.mono ?_;rintro e w7 ⟨rfl,R2,rN,hs7⟩;have hX7:=H6.o.2.2.1.sy G' hs7 (by decide) (by decide);have hC7:=H6.o.2.2.2.sy G' hs7 (by decide) (by decide);have H7:=Ux (ag rN (H6.o.2.1.trans hs7));clear hs7 cc cf cz xc xf xz G';by_cases lx:e2≠0
  ·have heb:(e2 != 0)=true:=by simpa using lx
   have HE:=Ux (HF4.o.trans (if_pos lx));obtain⟨cc,cf,cz⟩:=hC7.facts;obtain⟨xc,xf,xz⟩:=hX7.facts;have HU7:=Ux (Oj.o trivial w7 R2 rN);clear lx hX7 hC7 rN;go_wp2_with fail;refine HU7.o.mono ?_;rintro e w8 ⟨rfl,R3,KV,QF⟩;have H8:=Ux (ag KV (H7.o.2.trans QF));clear cc cf cz xc xf xz KV QF;go_wp2_with fail;go_ret;rw[HE.o];exact⟨rfl,R3,H8.o.1,H8.o.2⟩
  have HE:=Ux (HF4.o.trans (if_neg lx));obtain rfl:e2=0:=by simpa using lx
  clear lx hX7 hC7 rN;go_wp2_with fail;go_ret;rw[HE.o];exact⟨rfl,R2,H7.o.1,H7.o.2⟩
theorem Dl(h:bm w pf pw R pv Y){N:Nat}(hk:fP Y N)(hN:N≤800)(u:Us)(x:Cn) :
  Calls Tryz.prog 20 #[UH (some ⟨pf,0,none⟩),UJ #[UE UL u.u,UE UL u.g,UF u.data],UJ #[UF x.path,UE UL x.dir,UE UL x.info,UE UL x.files,UE UL x.out,UE UL x.jC,UF x.top]] w fun e w'=>
   e=.returned (UK #[])∧iu w w' pf pw R pv (Y.fN (fun S now=>S.cA u.c now x.dir bh)).1:=by
 obtain⟨hU,hX,hb⟩:=iJ w #[UE UL u.u,UE UL u.g,UF u.data] #[UF x.path,UE UL x.dir,UE UL x.info,UE UL x.files,UE UL x.out,UE UL x.jC,UF x.top] 27 48;have Oj:=Ux (fun(A:World) (R1:Rp) (hA:bm A pf pw R1 pv Y)=>qG hA hk.lz (by omega) ⟨hk.ok.c0,by have:=hk.ok.cN;omega⟩ (by have:=hk.ok.pl;omega) u.c x.dir bh (by decide));generalize (Y.fN (fun S now=>S.cA u.c now x.dir bh)).2=ee at Oj;have HY:=Ux h;unfold bh at Oj⊢;have ec1:u.c.u=u.u:=rfl;have ec2:u.c.g=u.g:=rfl;clear h hk;go_enter Tryz.func20,Tryz.ntmps20;go_upto_region 1 with fail;generalize World.alloc _ _=X at hU hX hb⊢;have hbd:UA X X.drew:=(Below.refl _ _).drew;have hS:TF X.drew w.heap.size #[UE UL u.u,UE UL u.g,UF u.data] #[UF x.path,UE UL x.dir,UE UL x.info,UE UL x.files,UE UL x.out,UE UL x.jC,UF x.top]:=⟨hU.an hbd,hX.an hbd⟩;have HB:=Ux (ar hb hbd);clear hU hX hb;refine wp_region_held_drew (S:=fun w'=>TF w' w.heap.size #[UE UL u.u,UE UL u.g,UF u.data] #[UF x.path,UE UL x.dir,UE UL x.info,UE UL x.files,UE UL x.out,UE UL x.jC,UF x.top]) (by kernel_rfl) hS (fun bj=>?_);refine aL 4 [(0,6),(1,7),(3,9),(4,10)] (by kernel_rfl) (by kernel_rfl) rfl (fun _ _ _ _ _ h=>h) bj ?_
 iterate 4 (apply aF rfl rfl;(· (intro w9 cL;obtain⟨s1,-,-⟩:=cL.u.facts;obtain⟨s2,-,-⟩:=cL.x.facts;clear cL;go_simp;(try with_reducible rfl)));simp only[ah,ai,aj])
 refine aK ?_;refine bN 2 8 (R:=fun v w'=>v=UJ #[UE UL u.u,UE UL u.g]∧Below X.drew.heap.size X.drew w') (by kernel_rfl) rfl rfl rfl ?ya ((fi u.u u.g u.data _).mono (fun e w' ⟨he,hw⟩=>⟨_,he,rfl,hw⟩)) (fun v w' ⟨_,hw⟩=>bj.an hw) ?_
 case ya=>(go_simp;(try rfl))
 rintro _ w4 ⟨rfl,dM⟩;simp only[ah,ai,aj];have uF:=Ux (ar HB.o dM);have pJ:=bj.an dM;have F6:=HY.o.an uF.o;have HU:=Ux (Oj.o w4 R F6);refine bN 5 11 (R:=fun v w'=>∃R',bm w' pf pw R' pv (Y.fN (fun S now=>S.cA u.c now x.dir (ByteArray.mk #[100,105,114,101,99,116,111,114,121,115,105,122,101,115,46,110,101,119]))).1∧aS (R.Y pf pw) (R'.Y pf pw) w4 w') (by kernel_rfl) rfl rfl rfl ?yb (HU.o.mono (fun e w' ⟨he,hx⟩=>⟨_,he,hx⟩)) (fun v w' ⟨R',h1,h2⟩=>⟨pJ.u.sy F6 h2 (by decide) (by decide),pJ.x.sy F6 h2 (by decide) (by decide)⟩) ?_
 case yb=>(go_simp;(try rfl))
 rintro v9 w9 ⟨R',h1,h2⟩;simp only[ah,ai,aj];refine wpAnyH_done (by kernel_rfl) ?_ _;have HF:=Ux (ag h1 ((aS.aq (F:=R.Y pf pw) uF.o).trans h2));clear bj pJ F6 h1 h2 hbd dM;go_wp2_with fail
 go_end0
 exact⟨rfl,R',HF.o.1,HF.o.2⟩
end
end
section
open Go.RowKit
theorem Tm.del{S:Fs}(h:Tm S)(k:Int):Tm (S.del k):=fun a ha=>h a (List.mem_filter.1 ha).1
theorem Tm.eF{S:Fs}(h:Tm S)(now:Int){o:An}{k:Int}(ho:S.get k=some o):Tm (S.eF now o):=by
 have h1:Tm (S.set {o with ak:=o.ak-1,ctime:=now}):=h.set (a:={o with ak:=o.ak-1,ctime:=now}) (h o (aO ho));unfold Fs.eF
 split
 ·generalize S.set {o with ak:=o.ak-1,ctime:=now}=S2 at h1⊢;unfold Fs.jk
  split
  ·exact h1
  ·split
   ·exact h1.del _
   ·exact Tm.del (S:=S2.aP _ _) (fun a ha=>h1 a ha) _
 ·exact h1
theorem Tm.dP{S:Fs}(h:Tm S)(c:Cr){now:Int}(hw:0≤now∧now≤253402300799)(src:Int)(a:ByteArray)(dst:Int)(b:ByteArray):Tm (S.dP c now src a dst b).1:=by
 unfold Fs.dP
 split
 ·exact h
 split
 ·exact h
 split
 ·rename_i d n t hd hn ht
  split
  ·exact h
  split
  ·exact h
  ·show Tm (S.shift now src a dst b d n _);rw[oI];have h1:Tm (S.qL now (S.get (aw t.au b))):=by
    cases ho:S.get (aw t.au b) with
    |none=>exact h
    |some o=>exact h.eF now ho
   exact((h1.aE now src _ hw).aE now dst _ hw).set (h n (aO hn))
 ·exact h
theorem Tm.cA{S:Fs}(h:Tm S)(c:Cr){now:Int}(hw:0≤now∧now≤253402300799)(dir:Int)(s:ByteArray):Tm (S.cA c now dir s).1:=by
 unfold Fs.cA
 split
 ·exact h
 split
 ·rename_i d n hd hn
  split
  ·exact h
  ·show Tm (S.mw now d n s);unfold Fs.mw;have h1:=h.aE now d.no (aM d.au s) hw;have j6:0≤n.mtime∧n.mtime≤253402300799:=h n (aO hn);generalize S.aE now d.no (aM d.au s)=S2 at h1⊢;have h2:Tm (S2.set {n with ak:=n.ak-1,ctime:=now}):=h1.set (a:={n with ak:=n.ak-1,ctime:=now}) j6;unfold Fs.eF
   split
   ·generalize S2.set {n with ak:=n.ak-1,ctime:=now}=S3 at h2⊢;unfold Fs.jk
    split
    ·exact h2
    ·split
     ·exact h2.del _
     ·exact Tm.del (S:=S3.aP _ _) (fun a ha=>h2 a ha) _
   ·exact h2
 ·exact h
theorem jA.fN{Y:Sy}(h:jA Y){g:Fs→Int→Fs×Int}(hg:Tm (g Y.fs Y.now).1):jA (Y.fN g).1:=by
 obtain⟨h1,h2,-⟩:=dy Y;unfold Sy.fN
 split
 ·exact⟨by rw[h1];exact h.fs,by rw[h2];exact h.now⟩
 ·exact⟨hg,by show 0≤Y.change.1.now∧Y.change.1.now≤253402300799;rw[h2];exact h.now⟩
theorem jA.cQ{Y:Sy}(h:jA Y)(K:Nat)(c:Cr)(x:Cn):jA (Y.cQ K c x).1:=by
 unfold Sy.cQ;dsimp only
 split
 ·exact h
 split
 ·exact h
 split
 ·exact h
 generalize str (bZ (Y.fs.b9 K Y.dead c x).1)=want;have h1:jA (Y.op (fun S now=>S.file c now x.dir bh 384 want)).1:=h.op (h.fs.file c Y.now x.dir bh 384 want h.now);generalize Y.op (fun S now=>S.file c now x.dir bh 384 want)=r at h1⊢
 split
 ·exact h1
 have h2:jA (r.1.fN (fun S now=>S.dP c now x.dir bh x.dir bE)).1:=h1.fN (h1.fs.dP c h1.now _ _ _ _)
 split
 ·exact h2.fN (h2.fs.cA c h2.now _ _)
 ·exact h2
end
section
open Go.RowKit
def AG:List It:=[⟨ByteArray.mk #[47],1,511,0,0,0,ByteArray.mk #[]⟩]
def sh:Us:=⟨5,5,ByteArray.mk #[47]⟩
def u':Cn:=⟨ByteArray.mk #[47,84,114,97,115,104],2,3,4,5,6,ByteArray.mk #[]⟩
def FU:List Ln:=[⟨3,0,ByteArray.mk #[100]⟩,⟨4,-1,ByteArray.mk #[101]⟩]
def QC:Sy:=⟨db [] AG,7,0,[],false⟩
def BS:Sy:=(QC.cT sh 1 FU).1
def BR:Sy:=(BS.cQ 100 ⟨5,5⟩ u').1
theorem RT:eJ QC 2:=⟨nT [] AG,Int.le_refl _,by show(0:Int)≤_;omega,Nat.zero_le _⟩
theorem fi33:(QC.cT sh 1 FU).2=(u',true):=by kernel_rfl
theorem re33:(BS.cQ 100 ⟨5,5⟩ u').2=0:=by kernel_rfl
theorem he33:BR.fs.fH BR.dead ⟨5,5⟩ u'=(ByteArray.mk #[51,32,55,32,100,10],0):=by kernel_rfl
end
section
open Go.RowKit
attribute [local go_sem] Oper.semAt_some
theorem NO:fP BS 28:=fP.cT (show fP QC 2 from⟨RT,(sO [] AG).lk⟩) sh 1 FU
theorem RJ:jA BS:=jA.cT (show jA QC from⟨Ag [] AG,by show(0:Int)≤7∧(7:Int)≤253402300799;omega⟩) sh 1 FU
theorem dd33:BR.dead=false:=by kernel_rfl
def C33:Array Value:=#[UF (ByteArray.mk #[47]),UE UL 1,UE UL 511,UE UL 0,UE UL 0,UE UL 0,UF (ByteArray.mk #[])]
def L33:Array Value:=#[UE UL 3,UE UL 0,UF (ByteArray.mk #[100]),UE UL 4,UE UL (-1),UF (ByteArray.mk #[101])]
theorem sd33{w:World}{b:Nat}(h:ax w b C33 82):nh w none 0 0 (some ⟨b,0,none⟩) 1 1 [] AG:=by
 refine⟨⟨rfl,aa _,by omega,.inl rfl⟩,⟨rfl,aa _,by omega,.inr ⟨b,0,rfl,h.lt,fun i hi=>⟨itC AG[i],rfl,rfl,fun j hj=>?_⟩⟩⟩⟩;rw[j5] at hj;rw[h.cell];have rj:i<1:=hi
 match i,rj with
 |0,_=>match j,hj with
  |0,_=>rfl
  |1,_=>rfl
  |2,_=>rfl
  |3,_=>rfl
  |4,_=>rfl
  |5,_=>rfl
  |6,_=>rfl
theorem sl33{w:World}{b:Nat}(h:ax w b L33 60):bF w 3 KN (some ⟨b,0,none⟩) 2 2 FU:=by
 refine⟨rfl,aa _,by omega,.inr ⟨b,0,rfl,h.lt,fun i hi=>⟨QE FU[i],rfl,rfl,fun j hj=>?_⟩⟩⟩;rw[xO] at hj;rw[h.cell];have rj:i<2:=hi
 match i,rj with
 |0,_=>match j,hj with
  |0,_=>rfl
  |1,_=>rfl
  |2,_=>rfl
 |1,_=>match j,hj with
  |0,_=>rfl
  |1,_=>rfl
  |2,_=>rfl
theorem ti33:(⟨db [] AG,0,0,[],false⟩:Sy).cZ 7=QC:=by
 unfold Sy.cZ;rw[if_pos (by decide)];rfl
theorem Bm(w:World):Calls Tryz.prog 7 #[] w fun e w'=>e=.returned (.bool true)∧UA w w':=by
 obtain⟨hU,hI,hb⟩:=iJ w #[UE UL 5,UE UL 5,UF (ByteArray.mk #[47])] #[UF (ByteArray.mk #[47]),UE UL 1,UE UL 511,UE UL 0,UE UL 0,UE UL 0,UF (ByteArray.mk #[])] 27 82;have ks:=Ux (vQ _ (sd33 hI) (by show(0:Nat)≤_;omega) (by show(1:Nat)≤_;omega) (fun m hm=>by cases hm) (fun x hx=>by
  have:∀x∈AG,x.path.size≤100000∧x.data.size≤100000:=by decide
  exact this x hx))
 have ou:=Ux (ag hU hb);clear hU hI hb;go_enter Tryz.func7,Tryz.ntmps7;go_wp2_with fail;refine ks.o.mono ?_;rintro e w1 ⟨pf,pw,R,pv,Y,rfl,hY,rfl,hlow,av⟩;have fR:=ar ou.o.2 av;have JJ:=ou.o.1.an av;have F2:∀k,R.Y pf pw k→w.heap.size≤k:=fun k hk=>ae ou.o.2.size (hlow k hk);have Q8:=Ux (gG hY 7 (by omega) ⟨by show(0:Int)≤0;omega,by show(0:Int)≤253402300799;omega⟩);rw[ti33] at Q8;have dX:=Ux (ag fR (ag JJ (ag F2 hY)));clear hY hlow av fR JJ F2;go_wp2_with fail;refine Q8.o.mono ?_;rintro e w2 ⟨⟨v2,rfl⟩,xV,oy⟩;have ib:aS (R.Y pf pw) (R.Y pf pw) w1 w2:=uN oy;have JI:=dX.o.2.1.sy dX.o.2.2.2 ib (by decide) (by decide);have dR:=dX.o.1.trans (ib.below dX.o.2.2.1 dX.o.1.size);have hL:=ax.new w2 #[UE UL 3,UE UL 0,UF (ByteArray.mk #[100]),UE UL 4,UE UL (-1),UF (ByteArray.mk #[101])] 60;have hbL:=ao (UB w2) (.cells #[UE UL 3,UE UL 0,UF (ByteArray.mk #[100]),UE UL 4,UE UL (-1),UF (ByteArray.mk #[101])] 60);obtain⟨uc,uf,uz⟩:=JI.facts;have H2:=Ux (ag JI (ag dR (ag xV (ag hL hbL))));have Ht:=Ux (tX (Q:=fun A=>ax A w2.heap.size L33 60) (L0:=0) (xV.an hbL) ⟨fun A B h hb=>h.an hb,fun A B R1 R2 Z h hy hs _ _=>h.sy hy hs (by decide) (by decide)⟩ hL (Nat.zero_le _) (fun k _=>Nat.zero_le _) RT (by omega) ⟨rfl,rfl⟩ ⟨by show(0:Int)≤7;omega,by show(7:Int)≤253402300799;omega⟩ sh (by decide) (by decide) (by decide) 1 (fun A h=>sl33 h) (by decide) (by decide));rw[fi33] at Ht;unfold sh u' Cn.v at Ht;dsimp only at Ht;clear JI dR xV ib oy hL hbL;go_wp2_with fail;refine Ht.o.mono ?_;rintro e w3 ⟨rfl,⟨R3,pI,tH⟩,-,lr⟩;have pI:bm w3 pf pw R3 pv BS:=pI;have lr:cU BS:=lr;have SY:=(H2.o.1.an H2.o.2.2.2.2).sy (H2.o.2.2.1.an H2.o.2.2.2.2) tH (by decide) (by decide);have wD:=(ar H2.o.2.1 H2.o.2.2.2.2).trans (tH.below dX.o.2.2.1 (ae H2.o.2.1.size H2.o.2.2.2.2.size));have SB:=tH.bl dX.o.2.2.1 (ae H2.o.2.1.size H2.o.2.2.2.2.size);have hX:=ax.new w3 #[UF (ByteArray.mk #[47,84,114,97,115,104]),UE UL 2,UE UL 3,UE UL 4,UE UL 5,UE UL 6,UF (ByteArray.mk #[])] 48;have aJ:=ao (UB w3) (.cells #[UF (ByteArray.mk #[47,84,114,97,115,104]),UE UL 2,UE UL 3,UE UL 4,UE UL 5,UE UL 6,UF (ByteArray.mk #[])] 48);clear uc uf uz;go_upto_region 7 with fail;generalize World.alloc _ _=w4 at hX aJ⊢;have F6:=pI.an aJ;have hU4:=SY.an aJ;have QY:=ar wD aJ;generalize w3.heap.size=xb at hX⊢;have Nw:=lC F6 NO (K:=100) (by omega) (by omega) lr RJ.fs sh u';rw[show(BS.cQ 100 sh.c u').2=0 from re33] at Nw;have Nw:=Ux (show Calls Tryz.prog 17 #[UH (some ⟨pf,0,none⟩),UJ #[UE UL 5,UE UL 5,UF (ByteArray.mk #[47])],UJ #[UF (ByteArray.mk #[47,84,114,97,115,104]),UE UL 2,UE UL 3,UE UL 4,UE UL 5,UE UL 6,UF (ByteArray.mk #[])]] w4 fun e w'=>e=.returned (UE UL 0)∧iu w4 w' pf pw R3 pv BR from Nw);obtain⟨uc,uf,uz⟩:=hU4.facts;obtain⟨xc,xf,xz⟩:=hX.facts;have H4:=Ux (ag hU4 (ag hX (ag QY (ag F6 SB))));clear F6 hU4 QY hX aJ pI lr SY wD SB tH;go_wp2_with fail;refine Nw.o.mono ?_;rintro e w5 ⟨rfl,R5,AM,hs5⟩;have hU5:=H4.o.1.sy H4.o.2.2.2.1 hs5 (by decide) (by decide);have KW:=H4.o.2.1.sy H4.o.2.2.2.1 hs5 (by decide) (by decide);have rQ:=H4.o.2.2.1.trans (hs5.below H4.o.2.2.2.2 H4.o.2.2.1.size);have Qo:=qs AM (show ay BR.fs 31 from(NO.cQ (M:=100) sh.c u').ok.bK.ok) (by omega) dd33 sh u';rw[show BR.fs.fH BR.dead sh.c u'=(ByteArray.mk #[51,32,55,32,100,10],0) from he33] at Qo;have Qo:=Ux (show Calls Tryz.prog 18 #[UH (some ⟨pf,0,none⟩),UJ #[UE UL 5,UE UL 5,UF (ByteArray.mk #[47])],UJ #[UF (ByteArray.mk #[47,84,114,97,115,104]),UE UL 2,UE UL 3,UE UL 4,UE UL 5,UE UL 6,UF (ByteArray.mk #[])]] w5 fun e w'=>e=.returned (UK #[UF (ByteArray.mk #[51,32,55,32,100,10]),UE UL 0])∧UA w5 w' from Qo);have oC:=Ux rQ;clear uc uf uz xc xf xz;obtain⟨uc,uf,uz⟩:=hU5.facts;obtain⟨xc,xf,xz⟩:=KW.facts;clear hU5 KW rQ AM hs5;go_wp2_with fail;refine Qo.o.mono ?_;rintro e w6 ⟨rfl,fp⟩;have jJ:=Ux (ar oC.o fp);clear fp;go_wp2_with fail;go_ret;exact⟨rfl,jJ.o⟩
end
section
open Go.RowKit Go.Shelf
attribute [local go_sem] Oper.semAt_some
theorem AY{Y:Sy}(h:cU Y)(c:Cr)(x:Cn)(l:Ln):cU (Y.jm c x l):=by
 unfold Sy.jm;dsimp only;refine gF ?_ _;have h1:=fU h (fun S now=>S.aN c now x.files l.name 448)
 split
 ·refine fU ?_ _
  split
  ·exact fU h1 _
  ·exact h1
 ·split
  ·exact fU h1 _
  ·exact h1
theorem pd{c:Cr}{x:Cn}:∀(l:List Ln) {Y:Sy},cU Y→cU (Y.dx c x l)
 | [],_,h=>h
 |y::l,_,h=>pd l (AY h c x y)
theorem u7(Y:Sy)(h:cU Y)(u:Us)(no:Int)(l:List Ln):cU (Y.cT u no l).1:=by
 unfold Sy.cT
 split
 ·exact kn h u no
 ·exact pd l (kn h u no)
theorem NR{S:Fs}(now:Int):gb ⟨S,s' now,0,[],false⟩:=by
 unfold gb s';dsimp only
 split<;>omega
end
end Go.Proofs.YtabbjaomlmnnhaaGreat
