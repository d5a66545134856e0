import Derived.Test.YtabbjaomlmnnhaaGreatCO15
import Derived.Test.YtabbjaomlmnnhaaGreatCO11
import Derived.Test.YtabbjaomlmnnhaaGreatCO1
import Derived.Test.YtabbjaomlmnnhaaGreatCO4
import Derived.Test.YtabbjaomlmnnhaaGreatCO12
import Derived.Test.YtabbjaomlmnnhaaGreatCO13
import Derived.Test.YtabbjaomlmnnhaaGreatCO8
set_option linter.unusedVariables false
set_option linter.unusedSimpArgs false
set_option maxRecDepth 100000
set_option maxHeartbeats 16000000
namespace Go.Proofs.YtabbjaomlmnnhaaGreat
open Go.Value renaming int→UE,string→UF,slice→UG,pointer→UH,agg→UJ,tuple→UK
open Go.IntKind renaming i64→UL
section
open Go.RowKit
def RO(p:mX):List Value:=[UE UL p.dir,UF p.name,UF p.top]
theorem xF(p:mX):(RO p).length=3:=rfl
def plQ(cs:List Value)(p:mX):Prop:=cs=RO p
def vg(E:TypeId)(w:World)(base:Nat)(v:Value)(l:List mX):Prop:=w.ownsRow base E 3 v l.length (l.flatMap RO)
theorem vg.nil(E:TypeId)(w:World)(base:Nat):vg E w base (UG none 0 0) []:=⟨rfl,.inl ⟨rfl,rfl⟩⟩
theorem vg.at{E:TypeId}{w:World}{base c:Nat}{a:Option Addr}{l:List mX}(h:vg E w base (UG a l.length c) l):bF w 3 plQ a l.length c l:=fe (R:=plQ) (by omega) xF (fun _=>rfl) h
theorem vg.an{E:TypeId}{w w':World}{base:Nat}{v:Value}{l:List mX}(h:vg E w base v l)(hb:UA w w'):vg E w' base v l:=ew h hb (aa _)
theorem vg.app{E SE:TypeId}(hs:Tryz.prog.underlying SE=some (.slice E))(hinf:(Tryz.prog.info? E).map (fun i=>(i.zero,i.size,i.bytes))=some (some (UJ #[UE UL 0,UF ByteArray.empty,UF ByteArray.empty]),3,40))
  {w:World} {base:Nat} {v:Value} {l:List mX} (h:vg E w base v l) (p:mX) (hn:l.length≤1000) (hb:base≤w.heap.size) :
  ∃g cap W,(Builtin.append_ #[SE,SE] SE #[v,.slice (some ⟨w.heap.size,0,none⟩) 1 1]).run Tryz.prog (w.alloc (.cells #[UE UL p.dir,UF p.name,UF p.top] E))=.ok (.slice (some ⟨g,0,none⟩) (l.length+1) cap) W∧
   vg E W base (.slice (some ⟨g,0,none⟩) (l.length+1) cap) (l++[p])∧Below base w W:=by
 obtain⟨g,cap,W,h1,h2,h3,-⟩:=l8 hs hinf rfl (by decide) h (RO p) rfl (by intro u hu;simp[RO] at hu;rcases hu with rfl|rfl|rfl<;>rfl) (by omega) (by decide) hb;refine⟨g,cap,W,h1,?_,h3.below (fun k hk=>(aH h hk).1) hb⟩;unfold vg;rw[List.length_append,List.length_singleton,List.flatMap_append];exact(by simpa using h2)
section
variable{w w':World}{pf pw:Nat}{R:Rp}{pv:Value}{Y:Sy}
theorem Ck(h:bm w pf pw R pv Y)(hd:Y.dead=true)(c:Cr)(path:ByteArray)(f:Bool) :
  Calls Tryz.prog 84 #[UH (some ⟨pf,0,none⟩),UJ #[UE UL c.u,UE UL c.g],UF path,.bool f] w fun e w'=>e=.returned (UK #[gS.v,UE UL 20])∧UA w w':=by
 have fh:ax ((w.alloc (.cells #[UE UL c.u,UE UL c.g] 64)).alloc (.cells #[UE UL 0,UF ⟨#[]⟩,UE UL 0,.bool false] 176)) (w.heap.size+1) #[UE UL 0,UF ⟨#[]⟩,UE UL 0,.bool false] 176:=by
  have:=ax.new (w.alloc (.cells #[UE UL c.u,UE UL c.g] 64)) #[UE UL 0,UF ⟨#[]⟩,UE UL 0,.bool false] 176
  rwa [World.size_alloc] at this
 have aJ:=ao (ao (UB w) (.cells #[UE UL c.u,UE UL c.g] 64)) (.cells #[UE UL 0,UF ⟨#[]⟩,UE UL 0,.bool false] 176);have HR:=Ux (fun w1 (av:UA w w1)=>iC (h.an av));rw[hd] at HR;clear h hd;go_enter Tryz.func84,Tryz.ntmps84;go_wp2_with fail;refine(HR.o _ aJ).mono ?_;rintro e w1 ⟨rfl,rfl⟩;generalize World.alloc _ _=W0 at fh aJ⊢;have gT:=Ux fh;have bC:=Ux aJ;obtain⟨rc,rf,rz⟩:=fh.facts;clear aJ fh;go_wp2_with fail;exact bodyPost_ret (nx (x:=gS) gT.o.dA rfl rfl) rfl ⟨rfl,aC bC.o (Nat.le_succ _)⟩
theorem ur(S:Fs)(u:Us)(x:Fd×Int)(rd:Int×Int)
  (hF:∀w1,UA w w1→Calls Tryz.prog 84 #[UH (some ⟨pf,0,none⟩),UJ #[UE UL u.c.u,UE UL u.c.g],UF u.data,.bool true] w1 fun e w'=>e=.returned (UK #[x.1.v,UE UL x.2])∧UA w1 w')
  (D9:x.2=0→∀w1,UA w w1→∀no,Calls Tryz.prog 14 #[UH (some ⟨pf,0,none⟩),UE UL no] w1 fun e w'=>e=.returned (UK #[E1 (S.get no),UE UL (ep (S.get no))])∧UA w1 w')
  (Eb:Ends S x) (hR:rd=if x.2≠0 then(0,x.2) else if x.1.no=0 then(0,5) else if(S.bG x.1.no).kind≠1 then(0,9) else(x.1.no,0)) :
  Calls Tryz.prog 58 #[UH (some ⟨pf,0,none⟩),UJ #[UE UL u.u,UE UL u.g,UF u.data]] w fun e w'=>e=.returned (UK #[UE UL rd.1,UE UL rd.2])∧UA w w':=by
 obtain⟨hX,aJ⟩:=Uz w #[UE UL u.u,UE UL u.g,UF u.data] 27;have HC:=Ux (fi u.u u.g u.data);have HF:=Ux hF;have jY:=Ux D9;have NI:=Ux Eb;have HR:=Ux hR;clear hF D9 Eb hR;obtain⟨⟨x1,x2,x3,x4⟩,x5⟩:=x;unfold Fd.v Us.c at HF;dsimp only at HR HF jY;go_enter Tryz.func58,Tryz.ntmps58;go_upto_region 1 with fail;generalize w.alloc _=W0 at hX aJ⊢;have bC:=Ux aJ;obtain⟨xc,xf,xz⟩:=hX.facts;clear hX
 go_cut [6,7] (fun t6 t7 wx=>∃Bd:Nat,t6=UH (some ⟨Bd,0,none⟩)∧t7=UE UL x5∧ax wx Bd #[UE UL x1,UF x2,UE UL x3,.bool x4] 176∧UA w wx)
 case first=>
  go_wp2_with fail;have hzz:W0.heap.size≤W0.heap.size:=aa _
  go_region_held3 (fun w'=>(∀b o,b<W0.heap.size→w'.cell? ⟨b,o,none⟩=W0.cell? ⟨b,o,none⟩)∧UA W0 w') (first|with_reducible assumption|with_reducible exact eH _|with_reducible exact dU _|with_reducible exact eb (by assumption) (by assumption)|with_reducible exact dF (by assumption) _|with_reducible exact du (by assumption) _|with_reducible exact cX (by assumption) (by assumption)|with_reducible exact eG (by assumption) (by assumption))
   ((first
    |(go_at_call 13;((with_reducible refine(HC.o _).mono ?_);rintro e w4 ⟨rfl,dM⟩;have hz4:=ae (And.right ‹(∀b o,b<W0.heap.size→_)∧UA W0 _›).size dM.size;try (have hbq:=kD dM;obtain⟨bqc,bqf,bqz⟩:=hbq.facts)))
    |(go_at_call 84;((with_reducible refine(HF.o _ (bC.o.trans ((And.right ‹(∀b o,b<W0.heap.size→_)∧UA W0 _›).mono bC.o.size))).mono ?_);rintro e w5 ⟨rfl,cK⟩;have hz5:=ae (And.right ‹(∀b o,b<W0.heap.size→_)∧UA W0 _›).size cK.size;first|(have hbr:=hbq.an cK;obtain⟨brc,brf,brz⟩:=hbr.facts)|(have hbr:=kD cK;obtain⟨brc,brf,brz⟩:=hbr.facts)|(have hbr:=Ar cK;obtain⟨brc,brf,brz⟩:=hbr.facts)|skip))))
  all_goals
   obtain⟨-,oY⟩:=‹_∧UA W0 _›;have re:=Ux oY
   try (have Hj:=Ux hbr)
   clear oY;go_wp2_with fail;go_meet;exact⟨_,rfl,rfl,by first|exact Hj.o.dA|exact ax.new _ _ _,bC.o.trans (re.o.mono bC.o.size)⟩
 case rest=>
  obtain⟨Bd,rfl,rfl,jg,eT⟩:=hcut;generalize wc=X at jg eT⊢;have nk:=Ux eT;have BJ:=Ux jg;obtain⟨dc,df,dz⟩:=jg.facts;clear aJ jg eT xc xf xz;by_cases h5:x5=0
  ·subst h5;have nG:=Ux (HR.o.trans (if_neg (by decide)));by_cases hn:x3=0
   ·have hnb:(x3==0)=true:=by simpa using hn
    have rh:=Ux (nG.o.trans (if_pos hn));clear hn;go_wp2_with fail;go_ret2;rw[rh.o];exact⟨rfl,nk.o⟩
   ·have hnb:(x3==0)=false:=by simpa using hn
    have rh:=Ux (nG.o.trans (if_neg hn));obtain⟨a,ha⟩:=NI.o rfl hn;have oA:=Ux (jY.o rfl _ nk.o x3);dsimp only at ha;rw[bW ha] at rh;rw[ha] at oA;unfold E1 ep at oA;clear hn ha NI;go_wp2_with fail;refine oA.o.mono ?_;rintro e w6 ⟨rfl,fp⟩;have hY:=ax.new w6 #[UE UL a.no,UE UL a.dev,UE UL a.kind,UE UL a.mode,UE UL a.uid,UE UL a.gid,UE UL a.ak,UE UL a.data.size,UE UL a.mtime,UE UL a.ctime] 67;have hD6:=(BJ.o.an fp).bI (.cells #[UE UL a.no,UE UL a.dev,UE UL a.kind,UE UL a.mode,UE UL a.uid,UE UL a.gid,UE UL a.ak,UE UL a.data.size,UE UL a.mtime,UE UL a.ctime] 67);have eT:=ao (ar nk.o fp) (.cells #[UE UL a.no,UE UL a.dev,UE UL a.kind,UE UL a.mode,UE UL a.uid,UE UL a.gid,UE UL a.ak,UE UL a.data.size,UE UL a.mtime,UE UL a.ctime] 67);clear fp dc df dz;go_upto_region 7 with fail;generalize w6.alloc _=W7 at hY hD6 eT⊢;have rX:=Ux eT;obtain⟨dc,df,dz⟩:=hD6.facts;obtain⟨yc,yf,yz⟩:=hY.facts;clear hY hD6 eT;by_cases h1:a.kind=1
    ·have o8:(a.kind != 1)=false:=by simpa using h1
     have pK:=Ux (rh.o.trans (if_neg (by simpa using h1)));clear h1;go_wp2_with fail;go_ret2;rw[pK.o];exact⟨rfl,rX.o⟩
    ·have o8:(a.kind != 1)=true:=by simpa using h1
     have pK:=Ux (rh.o.trans (if_pos h1));clear h1;go_wp2_with fail;go_ret2;rw[pK.o];exact⟨rfl,rX.o⟩
  ·have h5':(x5 != 0)=true:=by simpa using h5
   have nG:=Ux (HR.o.trans (if_pos h5));clear h5;go_wp2_with fail;go_ret2;rw[nG.o];exact⟨rfl,nk.o⟩
theorem Dt(h:bm w pf pw R pv Y){N:Nat}(hk:ay Y.fs N)(hN:N≤999999)(hp:Pl Y.fs)(hw:Wy Y.fs)(u:Us)(ht:u.data.size≤100000) :
  Calls Tryz.prog 58 #[UH (some ⟨pf,0,none⟩),UJ #[UE UL u.u,UE UL u.g,UF u.data]] w fun e w'=>e=.returned (UK #[UE UL (Y.fs.ga Y.dead u).1,UE UL (Y.fs.ga Y.dead u).2])∧UA w w':=by
 cases hd:Y.dead with
 |false=>exact ur Y.fs u _ _ (fun w1 hb=>mH (h.an hb) hk hN hd u.c u.data ht true) (fun _ w1 hb no=>jD (h.an hb) hk hd no) (FC hk hp hw u.c u.data true) (by unfold Fs.ga;rw[if_neg (by decide)])
 |true=>exact ur Y.fs u (gS,20) _ (fun w1 hb=>Ck (h.an hb) hd u.c u.data true) (fun h0=>absurd h0 (by decide)) (fun h0=>absurd h0 (by decide)) (by unfold Fs.ga;rw[if_pos rfl];rfl)
theorem GG(h:bm w pf pw R pv Y){N:Nat}(hk:ay Y.fs N)(hN:N≤999999)(hp:Pl Y.fs)(hw:Wy Y.fs)(hd:Y.dead=false)(u:Us)(ht:u.data.size≤100000) :
  Calls Tryz.prog 58 #[UH (some ⟨pf,0,none⟩),UJ #[UE UL u.u,UE UL u.g,UF u.data]] w fun e w'=>e=.returned (UK #[UE UL (Y.fs.ga false u).1,UE UL (Y.fs.ga false u).2])∧UA w w':=by
 have h1:=Dt h hk hN hp hw u ht;rw[hd] at h1;exact h1
theorem stZ(S:Fs)(k:Int):E1 (S.get k)=UJ #[UE UL (S.bG k).no,UE UL (S.bG k).dev,UE UL (S.bG k).kind,UE UL (S.bG k).mode,UE UL (S.bG k).uid,UE UL (S.bG k).gid,UE UL (S.bG k).ak,UE UL (S.bG k).data.size,UE UL (S.bG k).mtime,UE UL (S.bG k).ctime]:=by
 rcases tS S k with⟨a,h1,h2⟩|⟨h1,h2⟩
 ·rw[h1,h2];rfl
 ·rw[h1,h2];rfl
theorem Cc(m:Int)(h:0≤m∧m≤1023):(bits .and .i64 m 512==0)=decide (m<512):=by
 have key:∀k:Fin 1024,(bits .and .i64 (k.val:Int) 512==0)=decide ((k.val:Int)<512):=by decide +kernel
 have:=key ⟨m.toNat,by omega⟩;have hm:((m.toNat:Nat):Int)=m:=by omega
 simpa [hm] using this
theorem Bh(h:bm w pf pw R pv Y){N:Nat}(hk:ay Y.fs N)(hN:N≤999999)(hd:Y.dead=false)(u g:Int)(t:ByteArray)(top:Int) :
  Calls Tryz.prog 102 #[UH (some ⟨pf,0,none⟩),UJ #[UE UL u,UE UL g,UF t],UE UL top] w fun e w'=>e=.returned (UK #[UE UL (Y.fs.jy false ⟨u,g⟩ top).1,UE UL (Y.fs.jy false ⟨u,g⟩ top).2])∧UA w w':=by
 obtain⟨hX,aJ⟩:=Uz w #[UE UL u,UE UL g,UF t] 27;have HC:=Ux (fi u g t);have HL:=Ux (fun w1 (av:UA w w1)=>iD (h.an av) hk hN ⟨u,g⟩ top gE);have jY:=Ux (fun w1 (hb:UA w w1) no=>jD (h.an hb) hk hd no);obtain⟨S,hS⟩:∃S,Y.fs=S:=⟨_,rfl⟩;rw[hd] at HL;rw[hS] at HL jY⊢;have Oo:=Ux (fun k=>Cc _ (show 0≤(S.bG k).mode∧(S.bG k).mode≤1023 from by
  rcases tS S k with⟨a,h1,h2⟩|⟨-,h2⟩
  ·rw[h2];rw[←hS] at h1;exact(hk.get h1).1.mode
  ·rw[h2];decide))
 have HR:=Ux (show S.jy false ⟨u,g⟩ top=if(S.aQ false ⟨u,g⟩ top gE).2≠0 then(0,(S.aQ false ⟨u,g⟩ top gE).2) else P1 (S.bG (S.aQ false ⟨u,g⟩ top gE).1) (S.bG top) (S.aQ false ⟨u,g⟩ top gE).1 from rfl);generalize S.jy false ⟨u,g⟩ top=rd at HR⊢;generalize S.aQ false ⟨u,g⟩ top gE=r at HR HL;obtain⟨no,e1⟩:=r;unfold gE at HL;dsimp only at HR HL;clear h hk hS hd;go_enter Tryz.func102,Tryz.ntmps102;go_upto_region 1 with fail;generalize w.alloc _=W0 at hX aJ⊢;have bC:=Ux aJ;obtain⟨xc,xf,xz⟩:=hX.facts;clear hX aJ;go_wp2_with fail;refine(HC.o _).mono ?_;rintro e w1 ⟨rfl,av⟩;have dX:=Ux (ar bC.o av);clear av xc xf xz;go_wp2_with fail;refine(HL.o _ dX.o).mono ?_;rintro e w2 ⟨rfl,aY⟩;have ei:=Ux (ar dX.o aY);clear aY;by_cases h0:e1=0
 ·subst h0;have HE:=Ux (HR.o.trans (if_neg (by decide)));have iZ:=Ux (jY.o _ ei.o no);have HM:=Ux (Oo.o no);rw[stZ] at iZ;generalize ep (S.get no)=ne at iZ;generalize S.bG no=x at HE iZ HM;go_wp2_with fail;refine iZ.o.mono ?_;rintro e w3 ⟨rfl,cl⟩;have dM:=ao (ar ei.o cl) (.cells #[UE UL x.no,UE UL x.dev,UE UL x.kind,UE UL x.mode,UE UL x.uid,UE UL x.gid,UE UL x.ak,UE UL x.data.size,UE UL x.mtime,UE UL x.ctime] 67);have PI:=ax.new w3 #[UE UL x.no,UE UL x.dev,UE UL x.kind,UE UL x.mode,UE UL x.uid,UE UL x.gid,UE UL x.ak,UE UL x.data.size,UE UL x.mtime,UE UL x.ctime] 67;clear cl;go_upto_region 5 with fail;generalize w3.alloc _=W4 at dM PI⊢;have uF:=Ux dM;have vq:=Ux PI;have oA:=Ux (jY.o _ uF.o top);rw[stZ] at oA;generalize ep (S.get top)=nf at oA;generalize S.bG top=y at HE oA;clear dM PI;go_wp2_with fail;refine oA.o.mono ?_;rintro e w5 ⟨rfl,cK⟩;have fp:=ao (ar uF.o cK) (.cells #[UE UL y.no,UE UL y.dev,UE UL y.kind,UE UL y.mode,UE UL y.uid,UE UL y.gid,UE UL y.ak,UE UL y.data.size,UE UL y.mtime,UE UL y.ctime] 67);have PJ:=ax.new w5 #[UE UL y.no,UE UL y.dev,UE UL y.kind,UE UL y.mode,UE UL y.uid,UE UL y.gid,UE UL y.ak,UE UL y.data.size,UE UL y.mtime,UE UL y.ctime] 67;have N7:=(vq.o.an cK).bI (.cells #[UE UL y.no,UE UL y.dev,UE UL y.kind,UE UL y.mode,UE UL y.uid,UE UL y.gid,UE UL y.ak,UE UL y.data.size,UE UL y.mtime,UE UL y.ctime] 67);clear cK;go_upto_region 6 with fail;generalize w5.alloc _=W6 at fp PJ N7⊢;have jJ:=Ux fp;obtain⟨mc,mf,mz⟩:=PJ.facts;obtain⟨nc,nf',nz⟩:=N7.facts;clear fp PJ N7;unfold P1 at HE;by_cases h1:x.kind=1
  ·have o8:(x.kind != 1)=false:=by simpa using h1
   have eA:=Ux (HE.o.trans (if_neg (by simpa using h1)));by_cases h2:x.dev=y.dev
   ·have kR:(x.dev != y.dev)=false:=by simpa using h2
    have bS:=Ux (eA.o.trans (if_neg (by simpa using h2)));by_cases h3:x.mode<512
    ·have tR:(bits .and .i64 x.mode 512==0)=true:=by rw[HM.o];simpa using h3
     have kP:=Ux (bS.o.trans (if_pos h3));clear h1 h2 h3;go_wp2_with fail;go_ret2;rw[kP.o];exact⟨rfl,jJ.o⟩
    ·have tR:(bits .and .i64 x.mode 512==0)=false:=by rw[HM.o];simpa using h3
     have kP:=Ux (bS.o.trans (if_neg h3));clear h1 h2 h3;go_wp2_with fail;go_ret2;rw[kP.o];exact⟨rfl,jJ.o⟩
   ·have kR:(x.dev != y.dev)=true:=by simpa using h2
    have bS:=Ux (eA.o.trans (if_pos h2));clear h1 h2;go_wp2_with fail;go_ret2;rw[bS.o];exact⟨rfl,jJ.o⟩
  ·have o8:(x.kind != 1)=true:=by simpa using h1
   have bS:=Ux (HE.o.trans (if_pos h1));clear h1;go_wp2_with fail;go_ret2;rw[bS.o];exact⟨rfl,jJ.o⟩
 ·have MW:(e1 != 0)=true:=by simpa using h0
  have HE:=Ux (HR.o.trans (if_pos h0));clear h0;go_wp2_with fail;go_ret2;rw[HE.o];exact⟨rfl,ei.o⟩
theorem nV:(Tryz.prog.info? 143).map (fun i=>(i.zero,i.size,i.bytes))=some (some (UJ #[UE UL 0,UF ByteArray.empty,UF ByteArray.empty]),3,40):=by kernel_rfl
theorem A7(h:bm w pf pw R pv Y){N:Nat}(hk:ay Y.fs N)(hN:N≤999999)(hd:Y.dead=false)(u:Us)(Jr:-9223372036854775808≤u.u)(Jq:u.u≤9223372036854775807)(top:Int)(path:ByteArray) :
  Calls Tryz.prog 62 #[UH (some ⟨pf,0,none⟩),UJ #[UE UL u.u,UE UL u.g,UF u.data],UE UL top,UF path] w fun e w'=>∃v,e=.returned v∧vg 143 w' w.heap.size v (Y.fs.cO false u top path)∧UA w w':=by
 obtain⟨hX,aJ⟩:=Uz w #[UE UL u.u,UE UL u.g,UF u.data] 27;have HD:=Ux (fun w=>yB u.u w Jr Jq);have HC:=Ux (fun w1 (av:UA w w1)=>Bh (h.an av) hk hN hd u.u u.g u.data top);have HR:=Ux (show Y.fs.cO false u top path=(if(Y.fs.jy false ⟨u.u,u.g⟩ top).2=0 then[⟨(Y.fs.jy false ⟨u.u,u.g⟩ top).1,str (kl u.u),path⟩] else[])++[⟨top,ByteArray.mk #[46,84,114,97,115,104,45]++str (kl u.u),path⟩] from rfl);generalize Y.fs.cO false u top path=rd at HR⊢;generalize Y.fs.jy false ⟨u.u,u.g⟩ top=r at HR HC;have hid:(str (kl u.u)).size≤21:=by
  rw[dn];exact(kL u.u Jr Jq).1
 generalize str (kl u.u)=id at HR HD hid;obtain⟨no,e1⟩:=r;dsimp only at HR HC;clear h hk hd;go_enter Tryz.func62,Tryz.ntmps62;go_upto_region 1 with fail;generalize w.alloc _=W0 at hX aJ⊢;have HX:=Ux hX;have bC:=Ux aJ;obtain⟨xc,xf,xz⟩:=hX.facts;clear hX aJ;go_wp2_with fail;refine(HD.o _).mono ?_;rintro e w1 ⟨rfl,av⟩;have dX:=Ux (ar bC.o av);have nb:=HX.o.an av;clear av xc xf xz;obtain⟨xc,xf,xz⟩:=nb.facts;clear nb;go_wp2_with fail;refine(HC.o _ dX.o).mono ?_;rintro e w2 ⟨rfl,aY⟩;have dR:=ar dX.o aY;have ei:=Ux dR;clear aY xc xf xz;by_cases h0:e1=0
 ·subst h0;obtain⟨g1,c1,W1,r1,o1,b1⟩:=(vg.nil 143 w2 w.heap.size).app (SE:=144) Tryz.underlying144 nV ⟨no,id,path⟩ (by simp) dR.size;obtain⟨g2,c2,W2,r2,o2,b2⟩:=o1.app (SE:=144) Tryz.underlying144 nV ⟨top,ByteArray.mk #[46,84,114,97,115,104,45]++id,path⟩ (by simp) (ae dR.size b1.size);have nG:=Ux r1;have rh:=Ux r2;have HO:=Ux (ag o2 (ag b1 b2));have HE:=Ux (show rd=[⟨no,id,path⟩]++[⟨top,ByteArray.mk #[46,84,114,97,115,104,45]++id,path⟩] by rw[HR.o];rfl);clear r1 r2 o1 o2 b1 b2 dR;go_wp2_with (at_builtin;refine aT rfl rfl rfl rfl (by first|exact nG.o|exact rh.o) ?_);go_ret;rw[HE.o];exact⟨_,rfl,HO.o.1,ei.o.trans (HO.o.2.1.trans HO.o.2.2)⟩
 ·have MW:(e1==0)=false:=by simpa using h0
  obtain⟨g2,c2,W2,r2,o2,b2⟩:=(vg.nil 143 w2 w.heap.size).app (SE:=144) Tryz.underlying144 nV ⟨top,ByteArray.mk #[46,84,114,97,115,104,45]++id,path⟩ (by simp) dR.size;have rh:=Ux r2;have HO:=Ux (ag o2 b2);have HE:=Ux (show rd=[]++[⟨top,ByteArray.mk #[46,84,114,97,115,104,45]++id,path⟩] by rw[HR.o,if_neg h0]);clear r2 o2 b2 dR h0;go_wp2_with (at_builtin;refine aT rfl rfl rfl rfl rh.o ?_);go_ret;rw[HE.o];exact⟨_,rfl,HO.o.1,ei.o.trans HO.o.2⟩
end
end
section
open Go.RowKit
theorem mG{α:Type}{enc:α→List Value}{w:World}{sz n c:Nat}{a:Option Addr}{l:List α}(hl:∀x,(enc x).length=sz)(h:bF w sz (fun cs x=>cs=enc x) a n c l)(k:Nat)(hk:k<l.length) :
  ∃b off,a=some ⟨b,off,none⟩∧b<w.heap.size∧∀j (hj:j<sz),w.cell? ⟨b,off+k*sz+j,none⟩=some ((enc l[k])[j]'(by rw[hl];exact hj)):=by
 obtain⟨h1,-,-,h0|⟨b,off,he,hb,hel⟩⟩:=h
 ·omega
 ·obtain⟨cs,k1,k2,k3⟩:=hel k hk;subst k2;exact⟨b,off,he,hb,fun j hj=>k3 j (by rw[hl];exact hj)⟩
def cnC(x:Cn):List Value:=[UF x.path,UE UL x.dir,UE UL x.info,UE UL x.files,UE UL x.out,UE UL x.jC,UF x.top]
def cnQ(cs:List Value)(x:Cn):Prop:=cs=cnC x
def Cn.v(x:Cn):Value:=UJ #[UF x.path,UE UL x.dir,UE UL x.info,UE UL x.files,UE UL x.out,UE UL x.jC,UF x.top]
def OCn(w:World)(base:Nat)(v:Value)(l:List Cn):Prop:=w.ownsRow base 48 7 v l.length (l.flatMap cnC)
theorem ax.eS{w:World}{B:Nat}{x0 x1 x2 x3 x4 x5 x6 v0 v1 v2 v3 v4 v5 v6:Value}{T:TypeId}(h:ax w B #[x0,x1,x2,x3,x4,x5,x6] T):ax (((((((w.setCell ⟨B,0,none⟩ v0).setCell ⟨B,1,none⟩ v1).setCell ⟨B,2,none⟩ v2).setCell ⟨B,3,none⟩ v3).setCell ⟨B,4,none⟩ v4).setCell ⟨B,5,none⟩ v5).setCell ⟨B,6,none⟩ v6) B #[v0,v1,v2,v3,v4,v5,v6] T:=
 ((((((h.set 0 v0).set 1 v1).set 2 v2).set 3 v3).set 4 v4).set 5 v5).set 6 v6
theorem eI{N:Nat}{w0 w:World}{B:Nat}{v0 v1 v2 v3 v4 v5 v6:Value}(h:Below N w0 w)(hB:N≤B):Below N w0 (((((((w.setCell ⟨B,0,none⟩ v0).setCell ⟨B,1,none⟩ v1).setCell ⟨B,2,none⟩ v2).setCell ⟨B,3,none⟩ v3).setCell ⟨B,4,none⟩ v4).setCell ⟨B,5,none⟩ v5).setCell ⟨B,6,none⟩ v6):=
 ((((((h.setCell hB v0).setCell hB v1).setCell hB v2).setCell hB v3).setCell hB v4).setCell hB v5).setCell hB v6
theorem dk{tmps:Array Value}{W:World}{B:Nat}{x:Cn}{e:Int}(hb:ax W B #[UF x.path,UE UL x.dir,UE UL x.info,UE UL x.files,UE UL x.out,UE UL x.jC,UF x.top] 48)
  (h8:tmps.getD 6 undef=UH (some ⟨B,0,none⟩)) (h9:tmps.getD 7 undef=UE UL e):(results Tryz.f101 tmps).run Tryz.prog W=.ok (UK #[x.v,UE UL e]) W:=by
 have q0:=hb.cell 0;have q1:=hb.cell 1;have q2:=hb.cell 2;have q3:=hb.cell 3;have q4:=hb.cell 4;have q5:=hb.cell 5;have q6:=hb.cell 6;rw[Array.getD_eq_getD_getElem?] at h8 h9;simp[results,Tryz.results101,go_sem,Cn.v,h8,h9,q0,q1,q2,q3,q4,q5,q6]
theorem iT(s0 s1 s2 s3:ByteArray)(w:World):(Instr.index 196 (UJ #[UF s0,UF s1,UF s2,UF s3]) (UE UL 0)).run Tryz.prog w=.ok (UF s0) w∧(Instr.index 196 (UJ #[UF s0,UF s1,UF s2,UF s3]) (UE UL 1)).run Tryz.prog w=.ok (UF s1) w∧
  (Instr.index 196 (UJ #[UF s0,UF s1,UF s2,UF s3]) (UE UL 2)).run Tryz.prog w=.ok (UF s2) w∧(Instr.index 196 (UJ #[UF s0,UF s1,UF s2,UF s3]) (UE UL 3)).run Tryz.prog w=.ok (UF s3) w:=by
 refine⟨?_,?_,?_,?_⟩<;>first|kernel_rfl|rfl
inductive GP (S:Fs) (d:Bool) (c:Cr) (dir:Int) (top:ByteArray) (rd:Cn×Int):Value→Value→Value→Value→Value→Prop
 |s0:rd=S.pW d c dir top→GP S d c dir top rd (UE UL 0) (UE UL 0) (UE UL 0) (UE UL 0) (UE UL 0)
 |s1 (i:Int):rd=S.sY d c dir top i→GP S d c dir top rd (UE UL 1) (UE UL i) (UE UL 0) (UE UL 0) (UE UL 0)
 |s2 (i f:Int):rd=S.sZ d c dir top i f→GP S d c dir top rd (UE UL 2) (UE UL i) (UE UL f) (UE UL 0) (UE UL 0)
 |s3 (i f o:Int):rd=S.s7 d c dir top i f o→GP S d c dir top rd (UE UL 3) (UE UL i) (UE UL f) (UE UL o) (UE UL 0)
 |s4 (i f o y:Int):rd=S.s8 dir top i f o y→GP S d c dir top rd (UE UL 4) (UE UL i) (UE UL f) (UE UL o) (UE UL y)
section
variable{w w':World}{pf pw:Nat}{R:Rp}{pv:Value}{Y:Sy}
theorem Gx(h:bm w pf pw R pv Y){N:Nat}(hk:ay Y.fs N)(hN:N≤999999)(hp:Pl Y.fs)(hl:Y.fs.ns.length≤100000)(u:Us)(p:mX) :
  Calls Tryz.prog 101 #[UH (some ⟨pf,0,none⟩),UJ #[UE UL u.u,UE UL u.g,UF u.data],UJ #[UE UL p.dir,UF p.name,UF p.top]] w fun e w'=>e=.returned (UK #[(Y.fs.jO Y.dead u p).1.v,UE UL (Y.fs.jO Y.dead u p).2])∧UA w w':=by
 have HO:=Ux (fun w1 (av:UA w w1) dir n=>A8 (h.an av) hk hN u.u u.g u.data dir n);have TT:=Ux (fun w1 (av:UA w w1) d=>rY (h.wd.an av) hk hp hl d);obtain⟨pc,-,pz⟩:=h.bD.facts;have ni:=Ux (fun w1 (av:UA w w1)=>show w1.cell? ⟨pf,0,none⟩=some (UH (some ⟨pw,0,none⟩)) from(av.cell (p:=⟨pf,0,none⟩) pz).trans (pc 0));obtain⟨S,hS⟩:∃S,Y.fs=S:=⟨_,rfl⟩;obtain⟨b,hd⟩:∃b,Y.dead=b:=⟨_,rfl⟩;rw[hS,hd] at HO;rw[hS] at TT;rw[hS,hd];have HR:=Ux (show S.jO b u p=if(dS (S.fg b ⟨u.u,u.g⟩ p.dir p.name)).2≠0 then(kr,(dS (S.fg b ⟨u.u,u.g⟩ p.dir p.name)).2) else S.pW b ⟨u.u,u.g⟩ (dS (S.fg b ⟨u.u,u.g⟩ p.dir p.name)).1 p.top from rfl);generalize S.jO b u p=rd at HR⊢;have F9:=((ax.new w #[UE UL u.u,UE UL u.g,UF u.data] 27).bI (.cells #[UE UL p.dir,UF p.name,UF p.top] 143)).bI (.cells #[UF ⟨#[]⟩,UE UL 0,UE UL 0,UE UL 0,UE UL 0,UE UL 0,UF ⟨#[]⟩] 48);have Mz:ax (((w.alloc (.cells #[UE UL u.u,UE UL u.g,UF u.data] 27)).alloc (.cells #[UE UL p.dir,UF p.name,UF p.top] 143)).alloc (.cells #[UF ⟨#[]⟩,UE UL 0,UE UL 0,UE UL 0,UE UL 0,UE UL 0,UF ⟨#[]⟩] 48)) (w.heap.size+1) #[UE UL p.dir,UF p.name,UF p.top] 143:=by
  have:=(ax.new (w.alloc (.cells #[UE UL u.u,UE UL u.g,UF u.data] 27)) #[UE UL p.dir,UF p.name,UF p.top] 143).bI (.cells #[UF ⟨#[]⟩,UE UL 0,UE UL 0,UE UL 0,UE UL 0,UE UL 0,UF ⟨#[]⟩] 48)
  rwa [World.size_alloc] at this
 have fh:ax (((w.alloc (.cells #[UE UL u.u,UE UL u.g,UF u.data] 27)).alloc (.cells #[UE UL p.dir,UF p.name,UF p.top] 143)).alloc (.cells #[UF ⟨#[]⟩,UE UL 0,UE UL 0,UE UL 0,UE UL 0,UE UL 0,UF ⟨#[]⟩] 48)) (w.heap.size+1+1) #[UF ⟨#[]⟩,UE UL 0,UE UL 0,UE UL 0,UE UL 0,UE UL 0,UF ⟨#[]⟩] 48:=by
  have:=ax.new ((w.alloc (.cells #[UE UL u.u,UE UL u.g,UF u.data] 27)).alloc (.cells #[UE UL p.dir,UF p.name,UF p.top] 143)) #[UF ⟨#[]⟩,UE UL 0,UE UL 0,UE UL 0,UE UL 0,UE UL 0,UF ⟨#[]⟩] 48
  rwa [World.size_alloc,World.size_alloc] at this
 have aJ:=ao (ao (ao (UB w) (.cells #[UE UL u.u,UE UL u.g,UF u.data] 27)) (.cells #[UE UL p.dir,UF p.name,UF p.top] 143)) (.cells #[UF ⟨#[]⟩,UE UL 0,UE UL 0,UE UL 0,UE UL 0,UE UL 0,UF ⟨#[]⟩] 48);clear h hk hS hd pc pz hp hl;go_enter Tryz.func101,Tryz.ntmps101;go_upto_region 1 with fail;generalize World.alloc _ _=W0 at F9 Mz fh aJ⊢;have cB:=Ux aJ;have HU0:=Ux F9;have Ky:=Ux Mz;have HR0:=Ux fh;obtain⟨uc,uf,uz⟩:=F9.facts;obtain⟨qc,qf,qz⟩:=Mz.facts;clear F9 Mz fh aJ;have qC:=Ux (HO.o _ cB.o p.dir p.name);generalize S.fg b ⟨u.u,u.g⟩ p.dir p.name=r at qC HR;obtain⟨no,e1⟩:=r;dsimp only at qC;go_wp2_with fail;refine qC.o.mono ?_;rintro e w1 ⟨rfl,av⟩;have dX:=Ux (ar cB.o av);have HU1:=Ux (HU0.o.an av);have Ho:=Ux (Ky.o.an av);have nG:=Ux (HR0.o.an av);have hwz:=cB.o.size;obtain⟨rc,rf,rz⟩:=nG.o.facts;clear av uc uf uz qc qf qz;by_cases h0:e1=0
 ·subst h0;by_cases hn:no=0
  ·subst hn;have HE:=Ux (show rd=(kr,5) by rw[HR.o,sj];rfl);go_wp2_with (exact bodyPost_ret (dk (x:=kr) (e:=5) nG.o.eS rfl rfl) rfl ⟨by rw[HE.o],eI dX.o (by omega)⟩)
  ·have hn':(no==0)=false:=by simpa using hn
   have HE:=Ux (show rd=S.pW b ⟨u.u,u.g⟩ no p.top by rw[HR.o,oF hn,if_neg (by simp)]);clear HR qC;go_upto_region 7 with fail;obtain⟨PU,jb⟩:=Uz w1 #[UE UL 0,UE UL 0,UE UL 0,UE UL 0] 242;generalize w1.alloc _=W2 at PU jb⊢;have HA:=Ux (ag PU jb);have Mh:w.heap.size+1+1≠w1.heap.size:=by
    have:=nG.o.lt;omega
   clear PU jb rc rf rz hwz;go_wp2_with fail
   go_loopw [36] (fun t36 wr=>∃v0 v1 v2 v3,GP S b ⟨u.u,u.g⟩ no p.top rd t36 v0 v1 v2 v3∧ax wr w1.heap.size #[v0,v1,v2,v3] 242∧UA w1 wr) (fun t36 _=>4-(intOf t36).toNat)
   case atStart=>exact⟨_,_,_,_,.s0 HE.o,HA.o.1,HA.o.2⟩
   case round=>
    obtain⟨v0,v1,v2,v3,hst,hba,hbr⟩:=hrel;have Uq:=Ux hba;have Ld:=Ux hbr;have zh:=Ux (dX.o.trans (hbr.mono dX.o.size));have hU:=HU1.o.nC hbr HU1.o.lt;have hP:=Ho.o.nC hbr Ho.o.lt;have hR:=nG.o.nC hbr nG.o.lt;have Rd:=Ux hR;have HPr:=Ux hP;obtain⟨uc,uf,uz⟩:=hU.facts;obtain⟨ac,af,az⟩:=hba.facts;clear hba hbr hU hP hR
    cases hst with
    |s0 hE=>
     have eA:=Ux hE;have gQ:=Ux (HO.o _ zh.o no ji);have hix:=fun w=>(iT ji gq nY nX w).1;unfold Fs.pW at eA;generalize S.fg b ⟨u.u,u.g⟩ no ji=r at gQ eA;obtain⟨n1,e1⟩:=r;dsimp only at gQ eA;unfold ji gq nY nX at hix;unfold ji at gQ;clear hE;go_wp2_with fail;refine gQ.o.mono ?_;rintro e w2 ⟨rfl,aY⟩;have mv:=Uq.o.an aY;have dw:=Rd.o.an aY;have dR:=ar Ld.o aY;have pG:=Ux mv;have ei:=Ux dR;have pK:=Ux (dw.setOther ⟨w1.heap.size,0,none⟩ (UE UL n1) Mh.symm);have gn:=Ux (show UA w1 (w2.setCell ⟨w1.heap.size,0,none⟩ (UE UL n1)) from dR.setCell (aa _) _);obtain⟨ac,af,az⟩:=mv.facts;obtain⟨rc,rf,rz⟩:=dw.facts;clear aY mv dw dR uc uf uz;by_cases h0:e1=0
     ·subst h0;by_cases j6:n1=0
      ·subst j6;have bS:=Ux (show rd=(kr,5) by rw[eA.o,sj];rfl);go_wp2_with (exact bodyPost_ret (dk (x:=kr) (e:=5) pK.o.eS rfl rfl) rfl ⟨by rw[bS.o],eI (dX.o.trans (gn.o.mono dX.o.size)) (by omega)⟩)
      ·have hn1':(n1==0)=false:=by simpa using j6
       have bS:=Ux (show rd=S.sY b ⟨u.u,u.g⟩ no p.top n1 by rw[eA.o,oF j6,if_neg (by simp)]);clear eA j6;go_wp2_with fail;go_roundw
       case measure=>simp[intOf]
       case rel=>exact⟨_,_,_,_,.s1 n1 bS.o,pG.o.set 0 _,gn.o⟩
     ·have MW:(e1==0)=false:=by simpa using h0
      have MV:(e1 != 0)=true:=by simpa using h0
      have bS:=Ux (show rd=(kr,e1) by rw[eA.o,sk n1 h0,if_pos h0]);clear h0;go_wp2_with (exact bodyPost_ret (dk (x:=kr) (e:=e1) pK.o.eS rfl rfl) rfl ⟨by rw[bS.o],eI (dX.o.trans (gn.o.mono dX.o.size)) (by omega)⟩)
    |s1 i0 hE=>
     have eA:=Ux hE;have gQ:=Ux (HO.o _ zh.o no gq);have hix:=fun w=>(iT ji gq nY nX w).2.1;unfold Fs.sY at eA;generalize S.fg b ⟨u.u,u.g⟩ no gq=r at gQ eA;obtain⟨n1,e1⟩:=r;dsimp only at gQ eA;unfold ji gq nY nX at hix;unfold gq at gQ;clear hE;go_wp2_with fail;refine gQ.o.mono ?_;rintro e w2 ⟨rfl,aY⟩;have mv:=Uq.o.an aY;have dw:=Rd.o.an aY;have dR:=ar Ld.o aY;have pG:=Ux mv;have ei:=Ux dR;have pK:=Ux (dw.setOther ⟨w1.heap.size,1,none⟩ (UE UL n1) Mh.symm);have gn:=Ux (show UA w1 (w2.setCell ⟨w1.heap.size,1,none⟩ (UE UL n1)) from dR.setCell (aa _) _);obtain⟨ac,af,az⟩:=mv.facts;obtain⟨rc,rf,rz⟩:=dw.facts;clear aY mv dw dR uc uf uz;by_cases h0:e1=0
     ·subst h0;by_cases j6:n1=0
      ·subst j6;have bS:=Ux (show rd=(kr,5) by rw[eA.o,sj];rfl);go_wp2_with (exact bodyPost_ret (dk (x:=kr) (e:=5) pK.o.eS rfl rfl) rfl ⟨by rw[bS.o],eI (dX.o.trans (gn.o.mono dX.o.size)) (by omega)⟩)
      ·have hn1':(n1==0)=false:=by simpa using j6
       have bS:=Ux (show rd=S.sZ b ⟨u.u,u.g⟩ no p.top i0 n1 by rw[eA.o,oF j6,if_neg (by simp)]);clear eA j6;go_wp2_with fail;go_roundw
       case measure=>simp[intOf]
       case rel=>exact⟨_,_,_,_,.s2 i0 n1 bS.o,pG.o.set 1 _,gn.o⟩
     ·have MW:(e1==0)=false:=by simpa using h0
      have MV:(e1 != 0)=true:=by simpa using h0
      have bS:=Ux (show rd=(kr,e1) by rw[eA.o,sk n1 h0,if_pos h0]);clear h0;go_wp2_with (exact bodyPost_ret (dk (x:=kr) (e:=e1) pK.o.eS rfl rfl) rfl ⟨by rw[bS.o],eI (dX.o.trans (gn.o.mono dX.o.size)) (by omega)⟩)
    |s2 i0 f0 hE=>
     have eA:=Ux hE;have gQ:=Ux (HO.o _ zh.o no nY);have hix:=fun w=>(iT ji gq nY nX w).2.2.1;unfold Fs.sZ at eA;generalize S.fg b ⟨u.u,u.g⟩ no nY=r at gQ eA;obtain⟨n1,e1⟩:=r;dsimp only at gQ eA;unfold ji gq nY nX at hix;unfold nY at gQ;clear hE;go_wp2_with fail;refine gQ.o.mono ?_;rintro e w2 ⟨rfl,aY⟩;have mv:=Uq.o.an aY;have dw:=Rd.o.an aY;have dR:=ar Ld.o aY;have pG:=Ux mv;have ei:=Ux dR;have pK:=Ux (dw.setOther ⟨w1.heap.size,2,none⟩ (UE UL n1) Mh.symm);have gn:=Ux (show UA w1 (w2.setCell ⟨w1.heap.size,2,none⟩ (UE UL n1)) from dR.setCell (aa _) _);obtain⟨ac,af,az⟩:=mv.facts;obtain⟨rc,rf,rz⟩:=dw.facts;clear aY mv dw dR uc uf uz;by_cases h0:e1=0
     ·subst h0;have bS:=Ux (show rd=S.s7 b ⟨u.u,u.g⟩ no p.top i0 f0 n1 by rw[eA.o,if_neg (by simp)]);clear eA
      cases hz:(n1==0) with
      |true=>
       go_wp2_with fail;go_roundw
       case measure=>simp[intOf]
       case rel=>exact⟨_,_,_,_,.s3 i0 f0 n1 bS.o,pG.o.set 2 _,gn.o⟩
      |false=>
       go_wp2_with fail;go_roundw
       case measure=>simp[intOf]
       case rel=>exact⟨_,_,_,_,.s3 i0 f0 n1 bS.o,pG.o.set 2 _,gn.o⟩
     ·have MW:(e1==0)=false:=by simpa using h0
      have MV:(e1 != 0)=true:=by simpa using h0
      have bS:=Ux (show rd=(kr,e1) by rw[eA.o,if_pos h0]);clear h0;go_wp2_with (exact bodyPost_ret (dk (x:=kr) (e:=e1) pK.o.eS rfl rfl) rfl ⟨by rw[bS.o],eI (dX.o.trans (gn.o.mono dX.o.size)) (by omega)⟩)
    |s3 i0 f0 o0 hE=>
     have eA:=Ux hE;have gQ:=Ux (HO.o _ zh.o no nX);have hix:=fun w=>(iT ji gq nY nX w).2.2.2;unfold Fs.s7 at eA;generalize S.fg b ⟨u.u,u.g⟩ no nX=r at gQ eA;obtain⟨n1,e1⟩:=r;dsimp only at gQ eA;unfold ji gq nY nX at hix;unfold nX at gQ;clear hE;go_wp2_with fail;refine gQ.o.mono ?_;rintro e w2 ⟨rfl,aY⟩;have mv:=Uq.o.an aY;have dw:=Rd.o.an aY;have dR:=ar Ld.o aY;have pG:=Ux mv;have ei:=Ux dR;have pK:=Ux (dw.setOther ⟨w1.heap.size,3,none⟩ (UE UL n1) Mh.symm);have gn:=Ux (show UA w1 (w2.setCell ⟨w1.heap.size,3,none⟩ (UE UL n1)) from dR.setCell (aa _) _);obtain⟨ac,af,az⟩:=mv.facts;obtain⟨rc,rf,rz⟩:=dw.facts;clear aY mv dw dR uc uf uz;by_cases h0:e1=0
     ·subst h0;have bS:=Ux (show rd=S.s8 no p.top i0 f0 o0 n1 by rw[eA.o,if_neg (by simp)]);clear eA
      cases hz:(n1==0) with
      |true=>
       go_wp2_with fail;go_roundw
       case measure=>simp[intOf]
       case rel=>exact⟨_,_,_,_,.s4 i0 f0 o0 n1 bS.o,pG.o.set 3 _,gn.o⟩
      |false=>
       go_wp2_with fail;go_roundw
       case measure=>simp[intOf]
       case rel=>exact⟨_,_,_,_,.s4 i0 f0 o0 n1 bS.o,pG.o.set 3 _,gn.o⟩
     ·have MW:(e1==0)=false:=by simpa using h0
      have MV:(e1 != 0)=true:=by simpa using h0
      have bS:=Ux (show rd=(kr,e1) by rw[eA.o,if_pos h0]);clear h0;go_wp2_with (exact bodyPost_ret (dk (x:=kr) (e:=e1) pK.o.eS rfl rfl) rfl ⟨by rw[bS.o],eI (dX.o.trans (gn.o.mono dX.o.size)) (by omega)⟩)
    |s4 i0 f0 o0 y0 hE=>
     have eA:=Ux hE;have Kr:=Ux (TT.o _ zh.o no);have pc0:=ni.o _ zh.o;unfold Fs.s8 at eA;unfold se at Kr;clear hE uc uf uz ac af az
     cases hpl:S.gI no with
     |none=>
      rw[hpl] at eA Kr;clear hpl;go_wp2_with fail;refine Kr.o.mono ?_;rintro e w2 ⟨rfl,aY⟩;have dw:=Rd.o.an aY;have rh:=Ux dw;have ei:=Ux (ar zh.o aY);obtain⟨rc,rf,rz⟩:=dw.facts;clear aY dw pc0;go_wp2_with (exact bodyPost_ret (dk (x:=kr) (e:=5) rh.o.eS rfl rfl) rfl ⟨by rw[eA.o],eI ei.o (by omega)⟩)
     |some s=>
      rw[hpl] at eA Kr;clear hpl;go_wp2_with fail;refine Kr.o.mono ?_;rintro e w2 ⟨rfl,aY⟩;have dw:=Rd.o.an aY;have mv:=Uq.o.an aY;have hP2:=HPr.o.an aY;have rh:=Ux dw;have ei:=Ux (ar zh.o aY);obtain⟨rc,rf,rz⟩:=dw.facts;obtain⟨ac,af,az⟩:=mv.facts;obtain⟨qc,qf,qz⟩:=hP2.facts;clear aY dw mv hP2 pc0;go_wp2_with (exact bodyPost_ret (dk (x:=⟨s,no,i0,f0,o0,y0,p.top⟩) (e:=0) rh.o.eS rfl rfl) rfl ⟨by rw[eA.o],eI ei.o (by omega)⟩)
 ·have MW:(e1==0)=false:=by simpa using h0
  have MV:(e1 != 0)=true:=by simpa using h0
  have HE:=Ux (show rd=(kr,e1) by rw[HR.o,sk no h0,if_pos h0]);clear h0;go_wp2_with (exact bodyPost_ret (dk (x:=kr) (e:=e1) nG.o.eS rfl rfl) rfl ⟨by rw[HE.o],eI dX.o (by omega)⟩)
end
end
section
open Go.RowKit
def NN(x:Sp):List Value:=[UE UL x.dir,UF x.name,UE UL x.no,UE UL x.depth]
def spQ(cs:List Value)(x:Sp):Prop:=cs=NN x
theorem xq(x:Sp):(NN x).length=4:=rfl
theorem DN:(Tryz.prog.info? 108).map (fun i=>(i.zero,i.size,i.bytes))=some (some (UJ #[UE UL 0,UF ByteArray.empty,UE UL 0,UE UL 0]),4,40):=by kernel_rfl
def ko(w:World)(base:Nat)(v:Value)(l:List Sp):Prop:=w.ownsRow base 108 4 v l.length (l.flatMap NN)
theorem ko.nil(w:World)(base:Nat):ko w base (UG none 0 0) []:=⟨rfl,.inl ⟨rfl,rfl⟩⟩
theorem ko.an{w w':World}{base:Nat}{v:Value}{l:List Sp}(h:ko w base v l)(hb:UA w w'):ko w' base v l:=ew h hb (aa _)
theorem ko.at{w:World}{base c:Nat}{a:Option Addr}{l:List Sp}(h:ko w base (UG a l.length c) l):bF w 4 spQ a l.length c l:=fe (R:=spQ) (by omega) xq (fun _=>rfl) h
theorem ko.app{w:World}{base:Nat}{v:Value}{l:List Sp}(h:ko w base v l)(x:Sp)(hn:l.length≤1000000)(hb:base≤w.heap.size) :
  ∃g cap W,(Builtin.append_ #[158,158] 158 #[v,.slice (some ⟨w.heap.size,0,none⟩) 1 1]).run Tryz.prog (w.alloc (.cells #[UE UL x.dir,UF x.name,UE UL x.no,UE UL x.depth] 108))=.ok (.slice (some ⟨g,0,none⟩) (l.length+1) cap) W∧
   ko W base (.slice (some ⟨g,0,none⟩) (l.length+1) cap) (l++[x])∧Mod (fun k=>v.ownBlock=some k) w W:=by
 obtain⟨g,cap,W,h1,h2,h3,-⟩:=l8 (SE:=158) Tryz.underlying158 DN rfl (by decide) h (NN x) rfl (by intro u hu;simp[NN] at hu;rcases hu with rfl|rfl|rfl|rfl<;>rfl) hn (by decide) hb;refine⟨g,cap,W,h1,?_,h3⟩;unfold ko;rw[List.length_append,List.length_singleton,List.flatMap_append];exact(by simpa using h2)
theorem ko.cell{w:World}{base cap n:Nat}{a:Option Addr}{l:List Sp}(h:ko w base (UG a n cap) l)(k:Nat)(hk:k<l.length):∃b,a=some ⟨b,0,none⟩∧b<w.heap.size∧base≤b∧n=l.length∧(∀i,w.frozen? ⟨b,i,none⟩=false)∧l.length≤cap∧cap≤9223372036854775807∧
  w.cell? ⟨b,k*4,none⟩=some (UE UL l[k].dir)∧w.cell? ⟨b,k*4+1,none⟩=some (UF l[k].name)∧w.cell? ⟨b,k*4+2,none⟩=some (UE UL l[k].no)∧w.cell? ⟨b,k*4+3,none⟩=some (UE UL l[k].depth):=by
 rcases h.2 with⟨hv,h0⟩|⟨g,cap',cur,hv,hb,hg,h1,h2,h3,h4⟩
 ·omega
 ·injection hv with e1 e2 e3;subst e1 e2 e3;have hB:ax w g cur 108:=hg;obtain⟨-,hf,-⟩:=hB.facts;have hS:=ko.at h;obtain⟨b,off,ha,hbl,hc⟩:=mG xq hS k hk;injection ha with ha;injection ha with e1 e2;subst e1 e2;have c0:=hc 0 (by decide);have c1:=hc 1 (by decide);have c2:=hc 2 (by decide);have c3:=hc 3 (by decide);simp only[Nat.zero_add,Nat.add_zero] at c0 c1 c2 c3;exact⟨g,rfl,hB.lt,hb,rfl,hf,h1,h2,c0,c1,c2,c3⟩
theorem ko.less{w:World}{base g cap:Nat}{l:List Sp}{x:Sp}(h:ko w base (.slice (some ⟨g,0,none⟩) (l.length+1) cap) (l++[x])):ko w base (.slice (some ⟨g,0,none⟩) l.length cap) l:=
 I6 (enc:=NN) (by omega) xq (by unfold ko at h;rwa [List.length_append,List.length_singleton] at h)
def QE(x:Ln):List Value:=[UE UL x.size,UE UL x.time,UF x.name]
def KN(cs:List Value)(x:Ln):Prop:=cs=QE x
theorem xO(x:Ln):(QE x).length=3:=rfl
theorem L3:(Tryz.prog.info? 60).map (fun i=>(i.zero,i.size,i.bytes))=some (some (UJ #[UE UL 0,UE UL 0,UF ByteArray.empty]),3,32):=by kernel_rfl
def rV(w:World)(base:Nat)(v:Value)(l:List Ln):Prop:=w.ownsRow base 60 3 v l.length (l.flatMap QE)
theorem rV.nil(w:World)(base:Nat):rV w base (UG none 0 0) []:=⟨rfl,.inl ⟨rfl,rfl⟩⟩
theorem rV.an{w w':World}{base:Nat}{v:Value}{l:List Ln}(h:rV w base v l)(hb:UA w w'):rV w' base v l:=ew h hb (aa _)
theorem rV.at{w:World}{base c:Nat}{a:Option Addr}{l:List Ln}(h:rV w base (UG a l.length c) l):bF w 3 KN a l.length c l:=fe (R:=KN) (by omega) xO (fun _=>rfl) h
theorem rV.app{w:World}{base:Nat}{v:Value}{l:List Ln}(h:rV w base v l)(x:Ln)(hn:l.length≤1000000)(hb:base≤w.heap.size) :
  ∃g cap W,(Builtin.append_ #[31,31] 31 #[v,.slice (some ⟨w.heap.size,0,none⟩) 1 1]).run Tryz.prog (w.alloc (.cells #[UE UL x.size,UE UL x.time,UF x.name] 60))=.ok (.slice (some ⟨g,0,none⟩) (l.length+1) cap) W∧
   rV W base (.slice (some ⟨g,0,none⟩) (l.length+1) cap) (l++[x])∧Mod (fun k=>v.ownBlock=some k) w W:=by
 obtain⟨g,cap,W,h1,h2,h3,-⟩:=l8 (SE:=31) Tryz.underlying31 L3 rfl (by decide) h (QE x) rfl (by intro u hu;simp[QE] at hu;rcases hu with rfl|rfl|rfl<;>rfl) hn (by decide) hb;refine⟨g,cap,W,h1,?_,h3⟩;unfold rV;rw[List.length_append,List.length_singleton,List.flatMap_append];exact(by simpa using h2)
theorem dK{w:World}{n c:Nat}{a:Option Addr}{l:List Ln}(h:bF w 3 KN a n c l)(k:Nat)(hk:k<l.length):∃b off,a=some ⟨b,off,none⟩∧b<w.heap.size∧
  w.cell? ⟨b,off+k*3,none⟩=some (UE UL l[k].size)∧w.cell? ⟨b,off+k*3+1,none⟩=some (UE UL l[k].time)∧w.cell? ⟨b,off+k*3+2,none⟩=some (UF l[k].name):=by
 obtain⟨b,off,ha,hb,hc⟩:=mG xO h k hk;exact⟨b,off,ha,hb,hc 0 (by decide),hc 1 (by decide),hc 2 (by decide)⟩
end
section
open Go.RowKit
theorem rC.less{S:Fs}{N:Nat}{s0:Int}{B:Nat}{a todo:List En}{nos:List Int}{f:Nat}(h:rC S N s0 B (a++todo) nos f):rC S N s0 B todo nos f:=by
 have h1:=h.nodup;have h2:=h.src;have h3:=h.low;have h4:=h.fuel;rw[jx,List.append_assoc] at h1 h2 h3;rw[List.length_append] at h4;exact⟨(List.nodup_append.1 h1).2.1,fun c hc=>h2 c (List.mem_append_right _ hc),fun c hc=>h3 c (List.mem_append_right _ hc),by omega,fun x hx=>h.size x (List.mem_append_right _ hx)⟩
theorem ub{S:Fs}{N:Nat}(h:dE S N)(c:Cr):∀(f:Nat) (stk:List Sp) (raw:List En) (nos:List Int) (s0:Int) (B g:Nat),rC S N s0 B raw nos g→stk.map (·.no)=raw.map (fun e=>S.aB e.no)→(S.eM c f stk).1.length≤g
 |0,_,_,_,_,_,_,_,_=>Nat.zero_le _
 |_+1,[],_,_,_,_,_,_,_=>Nat.zero_le _
 |f+1,x::t,raw,nos,s0,B,g,ht,hm=>by
  unfold Fs.eM
  split
  ·exact Nat.zero_le _
  ·rename_i he
   cases raw with
   |nil=>cases hm
   |cons e raw=>
    rw[List.map_cons,List.map_cons] at hm;injection hm with hx hm;obtain⟨g,rfl⟩:=ht.pos;have yV:(S.dh c x).2=0:=by simpa using he
    cases hg:S.get (S.aB e.no) with
    |none=>
     exfalso;unfold Fs.dh at yV;rw[hx,hg] at yV;rw[if_pos (by decide)] at yV;exact absurd yV (by decide)
    |some n=>
     have hs:=ht.some h.ok h.pl h.tr hg;rw[List.length_cons];refine Nat.succ_le_succ ?_;have hnil:(S.dh c x).1=[]→(S.eM c f ((S.dh c x).1++t)).1.length≤g:=fun h0=>by
      rw[h0,List.nil_append];exact ub h c f t raw _ _ _ g hs.less hm
     have hl:(S.dh c x).1=[]∨(S.dh c x).1.map (·.no)=(iW e.name n).map (fun e=>S.aB e.no):=by
      unfold Fs.dh
      split
      ·exact .inl rfl
      split
      ·exact .inl rfl
      split
      ·exact .inl rfl
      split
      ·exact .inl rfl
      unfold Fs.cE;rw[if_neg (by decide)]
      split
      ·exact .inl rfl
      ·refine .inr ?_;have hents:S.aI x.no=n.au:=by unfold Fs.aI;rw[hx,hg]
       rw[hents];unfold iW;simp[List.map_map,Function.comp_def]
     rcases hl with h0|h0
     ·exact hnil h0
     ·exact ub h c f _ (iW e.name n++raw) _ _ _ g hs (by rw[List.map_append,List.map_append,h0,hm])
theorem Ie{S:Fs}{N:Nat}(h:dE S N)(d:Bool)(c:Cr)(dir:Int)(n:ByteArray):(S.iv N d c dir n).1.length≤S.zX N:=by
 unfold Fs.iv
 split
 ·exact Nat.zero_le _
 ·rename_i h0;have hk:∃k,(S.aQ d c dir n).1=S.aB k:=by
   unfold Fs.aQ at h0⊢
   split
   ·rename_i h1;rw[if_pos h1] at h0;exact absurd (by decide) h0
   rename_i h1;rw[if_neg h1] at h0
   split
   ·rename_i h2;rw[if_pos h2] at h0;exact absurd h2 h0
   rename_i h2;rw[if_neg h2] at h0
   split
   ·rename_i h3;rw[if_pos h3] at h0;exact absurd (by decide) h0
   ·exact⟨_,rfl⟩
  obtain⟨k,hk⟩:=hk;exact ub h c _ _ [⟨ByteArray.empty,k⟩] [] _ _ _ (rC.start S N k ByteArray.empty) (by rw[List.map_singleton,List.map_singleton,hk])
def eD(r:List Sp×Option (Sp×Int)):List (Sp×Int):=r.1.map (fun x=>(x,0))++(match r.2 with|none=>[]|some p=>[p])
theorem EU(x:Sp)(l:List Sp)(o:Option (Sp×Int)):eD (x::l,o)=(x,0)::eD (l,o):=by unfold eD;rw[List.map_cons,List.cons_append]
theorem ET{S:Fs}{c:Cr}{f:Nat}{x:Sp}{t:List Sp}(he:(S.dh c x).2=0):eD (S.eM c (f+1) (x::t))=(x,0)::eD (S.eM c f ((S.dh c x).1++t)):=by
 rw[show S.eM c (f+1) (x::t)=(x::(S.eM c f ((S.dh c x).1++t)).1,(S.eM c f ((S.dh c x).1++t)).2) from by rw[Fs.eM,if_neg (by simpa using he)]];exact EU _ _ _
theorem Ip{S:Fs}{c:Cr}{f:Nat}{x:Sp}{t:List Sp}(he:(S.dh c x).2≠0):eD (S.eM c (f+1) (x::t))=[(x,(S.dh c x).2)]:=by
 rw[show S.eM c (f+1) (x::t)=([],some (x,(S.dh c x).2)) from by rw[Fs.eM,if_pos he]];rfl
theorem Io{S:Fs}{c:Cr}{f:Nat}:eD (S.eM c f [])=[]:=by cases f<;>rfl
end
section
open Go.RowKit
theorem sG(s:ByteArray)(w:World)(hs:s.size≤100000) :
  Calls Tryz.prog 169 #[UF s] w fun e w'=>e=.returned (.bool (fx s.data.toList))∧UA w w':=by
 have Qf:=Ux (sP s w (by omega));have hlp:=(j1 47 s.data.toList).1;have hlq:=(j1 47 s.data.toList).2;have hsz:s.data.toList.length=s.size:=Array.length_toList;have HL:=Ux (ID s.data.toList);have HS:=Ux (show fx s.data.toList=(iS s.data.toList==[]||iS s.data.toList==[46]||iS s.data.toList==[46,46]) from rfl);generalize fx s.data.toList=r at HS⊢;generalize iS s.data.toList=t at HL HS;generalize lM 47 s.data.toList=ls at Qf hlp hlq HL;go_enter Tryz.func169,Tryz.ntmps169;go_wp2_with fail;refine Qf.o.mono ?_;rintro e w1 ⟨⟨g,cap,rfl,hO⟩,av⟩;obtain⟨g',hg',hgl,hcl⟩:=hO.at' (ls.length-1) (by omega);injection hg' with hg';injection hg' with e1;subst e1;have hlast:ls[ls.length-1]=t:=by
  have h1:=HL.o;rw[List.getLast?_eq_getElem?,List.getElem?_eq_getElem (by omega)] at h1;injection h1
 rw[hlast] at hcl;have HT:=Ux (show(str t).toList=t by rw[cd,eO]);have HB:=Ux av;have hz:(0:Int)≤(ls.length:Int)-1∧(ls.length:Int)-1<(ls.length:Int)∧((ls.length:Int)-1).toNat=ls.length-1:=by omega
 obtain⟨fj,fo,hz3⟩:=hz;have hwr:IntKind.i64.wrap ((ls.length:Int)-1)=(ls.length:Int)-1:=by rw[IntKind.wrap_i64];omega
 generalize str t=q at hcl HT;clear hO av hlast;by_cases h1:t=[]
 ·have hq:q.toList=[]:=by rw[HT.o];exact h1
  have hr:r=true:=by rw[HS.o,h1];rfl
  subst hr;go_wp2_with fail;go_ret;exact⟨rfl,HB.o⟩
 ·have hq:q.toList.isEmpty=false:=by rw[HT.o];simpa using h1
  by_cases h2:t=[46]
  ·have uV:(q.toList==[46])=true:=by rw[HT.o,h2];rfl
   have hr:r=true:=by rw[HS.o,h2];rfl
   subst hr;go_wp2_with fail;go_ret;exact⟨rfl,HB.o⟩
  ·have uV:(q.toList==[46])=false:=by rw[HT.o];simpa using h2
   by_cases h3:t=[46,46]
   ·have Sj:(q.toList==[46,46])=true:=by rw[HT.o,h3];rfl
    have hr:r=true:=by rw[HS.o,h3];rfl
    subst hr;go_wp2_with fail;go_ret;exact⟨rfl,HB.o⟩
   ·have Sj:(q.toList==[46,46])=false:=by rw[HT.o];simpa using h3
    have hr:r=false:=by rw[HS.o];simp[h1,h2,h3]
    subst hr;clear h1 h2 h3;go_wp2_with fail;go_ret;exact⟨rfl,HB.o⟩
theorem aU{tmps:Array Value}{W:World}{B:Nat}{x:Fd}{e:Int}(hb:ax W B #[UE UL x.dir,UF x.name,UE UL x.no,.bool x.DO] 176)
  (h8:tmps.getD 8 undef=UH (some ⟨B,0,none⟩)) (h9:tmps.getD 9 undef=UE UL e):(results Tryz.f131 tmps).run Tryz.prog W=.ok (UK #[x.v,UE UL e]) W:=by
 have q0:=hb.cell 0;have q1:=hb.cell 1;have q2:=hb.cell 2;have q3:=hb.cell 3;rw[Array.getD_eq_getD_getElem?] at h8 h9;simp only[List.getElem?_toArray,List.getElem?_cons_zero,List.getElem?_cons_succ] at q0 q1 q2 q3;simp[results,Tryz.results131,go_sem,Fd.v,h8,h9,q0,q1,q2,q3]
def pQ:Value→Nat | .slice _ n _=>n|_=>0
end
end Go.Proofs.YtabbjaomlmnnhaaGreat
