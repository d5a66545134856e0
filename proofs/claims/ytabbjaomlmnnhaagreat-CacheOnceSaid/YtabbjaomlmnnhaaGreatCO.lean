/- The statement CacheOnce: for every input the law answers true, and each argument reads behind the call as before. -/
import Derived.Test.YtabbjaomlmnnhaaGreatCO27
import Derived.Test.YtabbjaomlmnnhaaGreatCO17
import Derived.Test.YtabbjaomlmnnhaaGreatCO21
import Derived.Test.YtabbjaomlmnnhaaGreatCO9
import Derived.Test.YtabbjaomlmnnhaaGreatRows
import Derived.Test.YtabbjaomlmnnhaaGreatCO2
set_option linter.unusedVariables false
set_option linter.unusedSimpArgs false
set_option maxRecDepth 100000
set_option maxHeartbeats 16000000
namespace Go.Proofs.YtabbjaomlmnnhaaGreat
open Go.Value renaming int→UE,string→UF,slice→UG,pointer→UH,agg→UJ,tuple→UK
open Go.IntKind renaming i64→UL
section
open Go.RowKit Go.Shelf
attribute [local go_sem] Oper.semAt_some
theorem rV.sy{A B:World}{p q:Nat}{pv v:Value}{Z:Sy}{R:Rp}{base:Nat}{l:List Ln}(ho:rV A base v l)(h:bm A p q R pv Z){F':Nat→Prop}(hs:aS (R.Y p q) F' A B):rV B base v l:=
 bY ho hs.mod (fun k hk he=>by
  obtain⟨-,cur,hc⟩:=aH ho he;rcases hk with rfl|hk
  ·have hb:=h.bD;unfold ax at hb;rw[hb] at hc
   cases hc
  ·obtain⟨o,ho,hd⟩:=h.wd.kind hk;rw[hc] at ho;injection ho with ho;subst ho
   cases hd)
theorem ve(w:World){ma:Option Addr}{mn mc:Nat}{ia:Option Addr}{il ic:Nat}{ms:List Mt}{is:List It}(h:nh w ma mn mc ia il ic ms is)(u g:Int)(Jr:-9223372036854775808≤u)(Jq:u≤9223372036854775807)(dt pt tx:ByteArray)(no now:Int){pa:Option Addr}{pn pc:Nat}{pl:List (Int×Int)}(hpl:bF w 2 ng pa pn pc pl)
  {la:Option Addr} {ln lc:Nat} {zs:List Ln} (hz:bF w 3 O2 la ln lc zs) :
  Calls Tryz.prog 4 #[UJ #[UG ma mn mc,UG ia il ic,UE UL u,UE UL g,UF dt,UF pt,UF tx,UE UL no,UE UL now,UG pa pn pc],UG la ln lc] w fun e w'=>e=.returned (.bool true)∧UA w w':=by
 obtain⟨hX,aJ⟩:=Uz w #[UG ma mn mc,UG ia il ic,UE UL u,UE UL g,UF dt,UF pt,UF tx,UE UL no,UE UL now,UG pa pn pc] 30;have hbI:=((Below.refl _ w).alloc (aa _) (.cells #[UG ma mn mc,UG ia il ic,UE UL u,UE UL g,UF dt,UF pt,UF tx,UE UL no,UE UL now,UG pa pn pc] 30));have Rt:=Ux (Gm _ (h.an hbI) u g dt pt tx no now (pa:=pa) (pc:=pc) hpl.1);have HS:=Ux h;have HF3:=Ux (fun w1 (av:UA w w1)=>Gl w1 (hz.below av (aa _)));have HZ:=Ux hz;have hzl:zs.length=ln:=hz.1;have OK:=Ux Bm;clear h hpl hbI hz;go_enter Tryz.func4,Tryz.ntmps4;go_upto_region 1 with fail;generalize w.alloc _=w0 at hX aJ Rt⊢;obtain⟨bc,bf,bz⟩:=hX.facts;go_wp2_with fail;refine Rt.o.mono ?_;rintro e w1 ⟨rfl,av⟩;have dX:=Ux (hX.an av);have vu:=Ux (ar aJ av);clear hX aJ av Rt bc bf bz;obtain⟨bc,bf,bz⟩:=dX.o.facts
 cases hf:qU ms is dt pt tx pl with
 |false=>
  clear hf bc bf bz;go_wp2_with fail;refine(OK.o _).mono ?_;rintro e wz ⟨rfl,hbz⟩;have DJ:=Ux (ar vu.o hbz);clear hbz;go_wp2_with fail;go_ret;exact⟨rfl,DJ.o⟩
 |true=>
  have HFf:=Ux hf;clear hf;go_wp2_with fail;refine(HF3.o _ vu.o).mono ?_;rintro e w1' ⟨rfl,rfl⟩
  cases h3:tY zs with
  |false=>
   clear h3 bc bf bz;go_wp2_with fail;refine(OK.o _).mono ?_;rintro e wz ⟨rfl,hbz⟩;have DJ:=Ux (ar vu.o hbz);clear hbz;go_wp2_with fail;go_ret;exact⟨rfl,DJ.o⟩
  |true=>
   have hf:=HFf.o;have h36:=of_decide_eq_true h3;have u4:=dX.o.set 9 (UG none 0 0);have dR:UA w (w1.setCell ⟨w.heap.size,9,none⟩ (UG none 0 0)):=vu.o.setCell (p:=⟨w.heap.size,9,none⟩) (aa _) _;obtain⟨ja,hdt,hpt,htx,-⟩:=AZ hf;have wq:qU ms is dt pt tx []=true:=by
    unfold qU;exact decide_eq_true ⟨ja,hdt,hpt,htx,Nat.zero_le _⟩
   go_upto_region 4 with fail;generalize World.setCell _ _ _=W1 at u4 dR⊢;have Rx:=Ux (Du W1 (HS.o.an dR) u g dt pt tx no now (pa:=none) (pn:=0) (pc:=0) (pl:=[]) ⟨rfl,aa _,by omega,.inl rfl⟩ wq);obtain⟨Ph,Pn,-,-⟩:=A0 ja;have wV:=Ux (nT ms is);obtain⟨N,hN⟩:∃N,1+2*ms.length+is.length=N:=⟨_,rfl⟩;have hNs:N≤51:=by omega
   rw[hN] at wV;have hlast:=Gi (Ah ms is) (by omega);have Uf:=Ux (sO ms is).lk;have TW:=Ux (Ag ms is);generalize db ms is=S at Rx wV hlast Uf TW;have HNs:=Ux hNs;have HDt:=Ux (show dt.size≤100000 by omega);have Ok:=Ux (show tx.size≤100000 by omega);have gQ:=Ux (show eJ ⟨S,s' now,0,[],false⟩ N from⟨wV.o,Int.le_refl _,by show(0:Int)≤_;omega,Nat.zero_le _⟩);have vt:=Ux (ag u4 dR);have H36:=Ux h36;clear bc bf bz;obtain⟨bc,bf,bz⟩:=u4.facts;clear hf ja Pn Ph hN hdt htx hpt wq hNs u4 dR h36 h3;go_wp2_with fail;refine Rx.o.mono ?_;rintro e w2 ⟨p1,q1,R1,v1,pf,R2,rfl,yj⟩;have ei:=Ux (ar vt.o.2 yj.below);have u4:=vt.o.1.an yj.below;obtain⟨na,nc,hnv,-⟩:=bQ yj.r.ti;have hnl:R2.G.length=S.ns.length:=by rw[yj.r.ns,List.length_map]
   rw[hnl] at hnv;have hrb:=yj.r.bD;rw[hnv] at hrb;have HRb:=Ux hrb;have oB:=Ux yj;have vr:=Ux u4;have Nu:=Ux (fun(w3:World) (hb:UA w2 w3) (R3:Rp) (Z:Sy) (w':World) (h3:bm w' p1 q1 R3 v1 Z) (tH:aS (R1.Y p1 q1) (R3.Y p1 q1) w3 w')=>show P6 w' w.heap.size pf #[UG ma mn mc,UG ia il ic,UE UL u,UE UL g,UF dt,UF pt,UF tx,UE UL no,UE UL now,UG none 0 0] #[UG na S.ns.length nc,R2.dv,UE UL S.last,UE UL R2.now,R2.jc,R2.pl,R2.dd] from
    ⟨(u4.an hb).sy (yj.y.an hb) tH (by decide) (by decide),by have:=((yj.r.an hb).sy (yj.y.an hb) tH).bD;rw[hnv] at this;exact this⟩)
   clear bc bf bz;obtain⟨bc,bf,bz⟩:=u4.facts;obtain⟨rc,rf,rz⟩:=hrb.facts;obtain⟨yc,yf,yz⟩:=yj.y.bD.facts;obtain⟨gc,gf,gz⟩:=yj.y.wd.bD.facts;have hlw:=Ih (x:=S.last) (by omega) hlast.2;have hlz:¬S.last=0:=by omega
   have F2:∀k,R1.Y p1 q1 k→w.heap.size≤k:=fun k hk=>ae vt.o.2.size (yj.f1 k hk);have HLo:=Ux F2;clear yj u4 hrb F2 hnl hnv;go_upto_region 7 with fail;obtain⟨n2,oV⟩:∃n,wrap64 (1+wrap64 ((IntKind.u64.wrap no).tmod S.last))=n:=⟨_,rfl⟩;have hQ:Q5 (fun A=>UA w A) w.heap.size p1 q1 v1:=⟨fun A B h hb=>ar h hb,fun A B _ _ _ h _ hs hl hL=>h.trans (hs.below hl hL)⟩;have hN51:=HNs.o;have wY:=Ux (fun(w3:World) (hb:UA w2 w3)=>tX (oB.o.y.an hb) hQ (ar ei.o hb) (ae ei.o.size hb.size) HLo.o gQ.o (by omega) ⟨rfl,rfl⟩ (NR now) ⟨u,g,dt⟩ Jr Jq HDt.o n2 (fun A hA=>(zN HZ.o).below hA (aa _)) H36.o.2 H36.o.1);have vh:=Ux (u7 ⟨S,s' now,0,[],false⟩ ⟨rfl,rfl⟩ ⟨u,g,dt⟩ n2 zs);have Er:=Ux (show fP ⟨S,s' now,0,[],false⟩ N from⟨gQ.o,Uf.o⟩);have yL:=Ux (Er.o.cT ⟨u,g,dt⟩ n2 zs);have GR:=Ux (jA.cT (show jA ⟨S,s' now,0,[],false⟩ from⟨TW.o,NR (S:=S) now⟩) ⟨u,g,dt⟩ n2 zs);have HIs:=Ux (Df (fun Y hY u p=>js hY u p) (fun Y hY u l e=>jn e hY) Er.o ⟨rfl,rfl⟩ ⟨u,g,dt⟩ n2 zs);obtain⟨q,hq⟩:∃q,Sy.cT ⟨S,s' now,0,[],false⟩ ⟨u,g,dt⟩ n2 zs=q:=⟨_,rfl⟩;rw[hq] at wY vh yL GR HIs;obtain⟨Z,x,bis⟩:=q;unfold Cn.v at wY;dsimp only at wY vh yL GR HIs;clear hq hQ;have O4:∀y:Int,IntKind.i64.wrap y=wrap64 y:=fun y=>by unfold wrap64;exact IntKind.wrap_i64 y
   go_cut [7,8] (fun t7 t8 wx=>∃Bd:Nat,t7=UH (some ⟨Bd,0,none⟩)∧t8=.bool bis∧Ko w p1 q1 v1 Bd #[UG ma mn mc,UG ia il ic,UE UL u,UE UL g,UF dt,UF pt,UF tx,UE UL no,UE UL now,UG none 0 0] x Z [] (UG none 0 0) wx∧ax wx pf #[UG na S.ns.length nc,R2.dv,UE UL S.last,UE UL R2.now,R2.jc,R2.pl,R2.dd] 55)
   case first=>
    have hSb:∀w':World,UA w2 w'→P6 w' w.heap.size pf #[UG ma mn mc,UG ia il ic,UE UL u,UE UL g,UF dt,UF pt,UF tx,UE UL no,UE UL now,UG none 0 0] #[UG na S.ns.length nc,R2.dv,UE UL S.last,UE UL R2.now,R2.jc,R2.pl,R2.dd]:=fun w' hb=>⟨vr.o.an hb,HRb.o.an hb⟩;have hbd:UA w2 w2.drew:=(Below.refl _ _).drew;refine wp_region_held_drew (S:=fun w'=>P6 w' w.heap.size pf #[UG ma mn mc,UG ia il ic,UE UL u,UE UL g,UF dt,UF pt,UF tx,UE UL no,UE UL now,UG none 0 0] #[UG na S.ns.length nc,R2.dv,UE UL S.last,UE UL R2.now,R2.jc,R2.pl,R2.dd]) (by kernel_rfl) (hSb _ hbd) (fun bj=>?_);refine aL 15 [(0,39),(1,40),(2,41),(3,42),(4,43),(5,44),(6,45),(7,46),(8,47),(9,48),(10,49),(11,50),(12,51),(13,52),(14,53)] (by kernel_rfl) (by kernel_rfl) rfl (fun _ _ _ _ _ h=>h) bj ?_
    iterate 15 (apply aF rfl rfl;(· (intro w9 cL;obtain⟨s1,-,-⟩:=cL.c.facts;obtain⟨s2,-,-⟩:=cL.l.facts;clear cL;go_simp;(try with_reducible rfl)));simp only[ah,ai,aj])
    apply aK
    try simp only[O4]
    try simp only[oV]
    refine gx 15 54 19 7 (vi:=UH (some ⟨w2.heap.size,0,none⟩)) (Wi:=w2.drew.alloc (.cells #[UF ⟨#[]⟩,UE UL 0,UE UL 0,UE UL 0,UE UL 0,UE UL 0,UF ⟨#[]⟩] 48)) (R:=fun v w'=>v=UK #[UJ #[UF x.path,UE UL x.dir,UE UL x.info,UE UL x.files,UE UL x.out,UE UL x.jC,UF x.top],.bool bis]∧iu w2.drew w' p1 q1 R1 v1 Z) (by kernel_rfl) rfl rfl rfl rfl rfl rfl ?ra7 (hSb _ (ao hbd _)) ?rb7 ((wY.o w2.drew hbd).mono (fun e w' ⟨he,hw,_⟩=>⟨_,he,rfl,hw⟩)) (fun v w' ⟨_,R3,h3,tH⟩=>(Nu.o _ hbd R3 Z w' h3 tH)) ?_ ?_
    case ra7=>(go_simp;(try rfl))
    case rb7=>(go_simp;(try rfl))
    ·simp only[ah,ai,aj];have Tq:ax (w2.drew.alloc (.cells #[UF ⟨#[]⟩,UE UL 0,UE UL 0,UE UL 0,UE UL 0,UE UL 0,UF ⟨#[]⟩] 48)) w2.heap.size #[UF ⟨#[]⟩,UE UL 0,UE UL 0,UE UL 0,UE UL 0,UE UL 0,UF ⟨#[]⟩] 48:=ax.new w2.drew #[UF ⟨#[]⟩,UE UL 0,UE UL 0,UE UL 0,UE UL 0,UE UL 0,UF ⟨#[]⟩] 48;have jb:UA w2 (w2.drew.alloc (.cells #[UF ⟨#[]⟩,UE UL 0,UE UL 0,UE UL 0,UE UL 0,UE UL 0,UF ⟨#[]⟩] 48)):=ao hbd _;refine bN 15 54 (R:=fun v w'=>v=UK #[UJ #[UF x.path,UE UL x.dir,UE UL x.info,UE UL x.files,UE UL x.out,UE UL x.jC,UF x.top],.bool bis]∧iu (w2.drew.alloc (.cells #[UF ⟨#[]⟩,UE UL 0,UE UL 0,UE UL 0,UE UL 0,UE UL 0,UF ⟨#[]⟩] 48)) w' p1 q1 R1 v1 Z) (by kernel_rfl) rfl rfl rfl ?xc7 ((wY.o _ jb).mono (fun e w' ⟨he,hw,_⟩=>⟨_,he,rfl,hw⟩)) (fun v w' ⟨_,R3,h3,tH⟩=>(Nu.o _ jb R3 Z w' h3 tH)) ?_
     case xc7=>(go_simp;(try simp only[O4]);(try simp only[oV]);(try rfl))
     rintro _ w3 ⟨rfl,R3,pI,iN⟩;simp only[ah,ai,aj];have rP:=Nu.o _ jb R3 Z w3 pI iN;have PR:=Tq.sy (oB.o.y.an jb) iN (by decide) (by decide);have AJ:=iN.bl oB.o.f1 (ae oB.o.below.size jb.size);have wD:UA w w3:=(ei.o.trans (jb.mono ei.o.size)).trans ((iN.below oB.o.f1 (ae oB.o.below.size jb.size)).mono vt.o.2.size);have Pf:w2.heap.size≠w.heap.size:=by
      have h1:=vr.o.lt;omega
     have Pd:w2.heap.size≠pf:=by
      omega
     have HTkA:=Ux (Ko.made (w:=w) (x:=x) pI (fun k hk=>ae vt.o.2.size (AJ k hk)) wD rP.c PR (by
      have h1:=vr.o.lt;omega))
     obtain⟨xc,xf,xz⟩:=PR.facts;clear pI iN AJ wD;refine aL 3 [(16,38),(17,55),(18,56)] (by kernel_rfl) (by kernel_rfl) rfl (fun _ _ _ _ _ h=>h) rP ?_
     iterate 3 (apply aF rfl rfl;(· (intro w9 cL;clear cL;go_simp;(try with_reducible rfl)));simp only[ah,ai,aj])
     apply aK;refine dO 20 (W:=(((((((w3.setCell ⟨w2.heap.size,0,none⟩ (UF x.path)).setCell ⟨w2.heap.size,1,none⟩ (UE UL x.dir)).setCell ⟨w2.heap.size,2,none⟩ (UE UL x.info)).setCell ⟨w2.heap.size,3,none⟩ (UE UL x.files)).setCell ⟨w2.heap.size,4,none⟩ (UE UL x.out)).setCell ⟨w2.heap.size,5,none⟩ (UE UL x.jC)).setCell ⟨w2.heap.size,6,none⟩ (UF x.top))) (by kernel_rfl) rfl rfl rfl ?stA (rP.eS Pf Pd _ _ _ _ _ _ _) ?_
     case stA=>(go_simp;(try rfl))
     refine aL 1 [(21,8)] (by kernel_rfl) (by kernel_rfl) rfl (fun _ _ _ _ _ h=>h) (rP.eS Pf Pd _ _ _ _ _ _ _) ?_
     iterate 1 (apply aF rfl rfl;(· (intro w9 cL;clear cL;go_simp;(try with_reducible rfl)));simp only[ah,ai,aj])
     apply aK;refine wpAnyH_done (by kernel_rfl) ?_ _;have QK:=(rP.eS Pf Pd (UF x.path) (UE UL x.dir) (UE UL x.info) (UE UL x.files) (UE UL x.out) (UE UL x.jC) (UF x.top)).l;go_wp2_with fail;go_meet;exact⟨_,rfl,rfl,HTkA.o,QK⟩
    ·rintro _ w3 ⟨rfl,R3,pI,iN⟩;simp only[ah,ai,aj];have PC:=Nu.o _ hbd R3 Z w3 pI iN;have AJ:=iN.bl oB.o.f1 (ae oB.o.below.size hbd.size);have wD:UA w w3:=(ei.o.trans (hbd.mono ei.o.size)).trans ((iN.below oB.o.f1 (ae oB.o.below.size hbd.size)).mono vt.o.2.size);have hsz3:w2.heap.size≤w3.heap.size:=iN.mod.size;refine aL 3 [(16,38),(17,55),(18,56)] (by kernel_rfl) (by kernel_rfl) rfl (fun _ _ _ _ _ h=>h) PC ?_
     iterate 3 (apply aF rfl rfl;(· (intro w9 cL;clear cL;go_simp;(try with_reducible rfl)));simp only[ah,ai,aj])
     apply aK;have Jz:=(UB w3).alloc (aa _) (.cells #[UF ⟨#[]⟩,UE UL 0,UE UL 0,UE UL 0,UE UL 0,UE UL 0,UF ⟨#[]⟩] 48);have S9:P6 (w3.alloc (.cells #[UF ⟨#[]⟩,UE UL 0,UE UL 0,UE UL 0,UE UL 0,UE UL 0,UF ⟨#[]⟩] 48)) w.heap.size pf #[UG ma mn mc,UG ia il ic,UE UL u,UE UL g,UF dt,UF pt,UF tx,UE UL no,UE UL now,UG none 0 0] #[UG na S.ns.length nc,R2.dv,UE UL S.last,UE UL R2.now,R2.jc,R2.pl,R2.dd]:=⟨PC.c.an Jz,PC.l.an Jz⟩;refine eY 19 7 (v:=UH (some ⟨w3.heap.size,0,none⟩)) (W:=w3.alloc (.cells #[UF ⟨#[]⟩,UE UL 0,UE UL 0,UE UL 0,UE UL 0,UE UL 0,UF ⟨#[]⟩] 48)) (by kernel_rfl) rfl rfl rfl ?qaB S9 ?_
     case qaB=>(go_simp;(try rfl))
     simp only[ah,ai,aj];have PR:=ax.new w3 #[UF ⟨#[]⟩,UE UL 0,UE UL 0,UE UL 0,UE UL 0,UE UL 0,UF ⟨#[]⟩] 48;have Pe:w3.heap.size≠w.heap.size:=by
      have h1:=vr.o.lt;omega
     have Pc:w3.heap.size≠pf:=by omega
     have HTkB:=Ux (Ko.made (w:=w) (x:=x) (pI.an Jz) (fun k hk=>ae vt.o.2.size (AJ k hk)) (ar wD Jz) S9.c PR (by
      have h1:=vr.o.lt;omega))
     obtain⟨xc,xf,xz⟩:=PR.facts;clear pI iN AJ wD;refine dO 20 (W:=((((((((w3.alloc (.cells #[UF ⟨#[]⟩,UE UL 0,UE UL 0,UE UL 0,UE UL 0,UE UL 0,UF ⟨#[]⟩] 48)).setCell ⟨w3.heap.size,0,none⟩ (UF x.path)).setCell ⟨w3.heap.size,1,none⟩ (UE UL x.dir)).setCell ⟨w3.heap.size,2,none⟩ (UE UL x.info)).setCell ⟨w3.heap.size,3,none⟩ (UE UL x.files)).setCell ⟨w3.heap.size,4,none⟩ (UE UL x.out)).setCell ⟨w3.heap.size,5,none⟩ (UE UL x.jC)).setCell ⟨w3.heap.size,6,none⟩ (UF x.top))) (by kernel_rfl) rfl rfl rfl ?stB (S9.eS Pe Pc _ _ _ _ _ _ _) ?_
     case stB=>(go_simp;(try rfl))
     refine aL 1 [(21,8)] (by kernel_rfl) (by kernel_rfl) rfl (fun _ _ _ _ _ h=>h) (S9.eS Pe Pc _ _ _ _ _ _ _) ?_
     iterate 1 (apply aF rfl rfl;(· (intro w9 cL;clear cL;go_simp;(try with_reducible rfl)));simp only[ah,ai,aj])
     apply aK;refine wpAnyH_done (by kernel_rfl) ?_ _;have QK:=(S9.eS Pe Pc (UF x.path) (UE UL x.dir) (UE UL x.info) (UE UL x.files) (UE UL x.out) (UE UL x.jC) (UF x.top)).l;go_wp2_with fail;go_meet;exact⟨_,rfl,rfl,HTkB.o,QK⟩
   case rest=>
    obtain⟨Bd,rfl,rfl,hT,hL⟩:=hcut;generalize wc=w4 at hT hL⊢;have HT4:=Ux hT;clear bc bf bz rc rf rz yc yf yz gc gf gz hlw hlz O4 oV hL;have tI:=yL.o;obtain⟨M,hM⟩:∃M,N+20+3*zs.length=M:=⟨_,rfl⟩;rw[hM] at tI;have JN:M≤89:=by
     have:=H36.o.2;omega
    have OB:=Ux tI;obtain⟨bc,bf,bz⟩:=hT.c.facts;obtain⟨xc,xf,xz⟩:=hT.x.facts;clear hT tI hM
    cases bis with
    |false=>
     go_wp2_with fail;refine(OK.o _).mono ?_;rintro e wz ⟨rfl,hbz⟩;have DJ:=Ux (ar HT4.o.b hbz);clear hbz;go_wp2_with fail;go_ret;exact⟨rfl,DJ.o⟩
    |true=>
    have HCa:=Ux (HIs.o rfl);have qR:=vh.o.dead;have KB:=Ux (fun(A:World) (R:Rp) (hA:bm A p1 q1 R v1 Z)=>iD hA OB.o.ok.bK.ok (by omega) ⟨u,g⟩ x.dir bh);have yR:=Ux (fun(A:World) (R:Rp) (hA:bm A p1 q1 R v1 Z)=>fS hA OB.o.ok.bK.ok (by omega) ⟨OB.o.ok.c0,by have:=OB.o.ok.cN;omega⟩ (by have:=OB.o.ok.pl;omega) ⟨u,g⟩ x.dir bE 384 tx (by decide) (by have:=Ok.o;omega));have g1:fP (Z.op (fun S now=>S.file ⟨u,g⟩ now x.dir bE 384 tx)).1 (M+1):=OB.o.op (OB.o.lz.file ⟨u,g⟩ Z.now x.dir bE 384 tx);have t1:jA (Z.op (fun S now=>S.file ⟨u,g⟩ now x.dir bE 384 tx)).1:=GR.o.op (GR.o.fs.file ⟨u,g⟩ Z.now x.dir bE 384 tx GR.o.now);have s1:=fU vh.o (fun S now=>S.file ⟨u,g⟩ now x.dir bE 384 tx);have Rg:=Ux (fun(Y2:Sy) hr=>I8 (Y2:=Y2) (K:=200) OB.o (by omega) vh.o GR.o (c:=⟨u,g⟩) HCa.o tx hr);rw[qR] at KB;generalize Z.op (fun S now=>S.file ⟨u,g⟩ now x.dir bE 384 tx)=qc at yR g1 t1 s1 Rg;obtain⟨Z1,c1,c2⟩:=qc;dsimp only at yR g1 t1 s1 Rg;have Nw:=Ux (fun(A:World) (R:Rp) (hA:bm A p1 q1 R v1 Z1)=>lC hA g1 (K:=200) (by omega) (by omega) s1 t1.fs ⟨u,g,dt⟩ x);have t2:=t1.cQ 200 ⟨u,g⟩ x;have hec:(⟨u,g,dt⟩:Us).c=⟨u,g⟩:=rfl;rw[hec] at Nw;generalize Z1.cQ 200 ⟨u,g⟩ x=rr at Nw Rg t2;obtain⟨Z2,r2⟩:=rr;dsimp only at Nw t2;generalize Z.fs.aQ false ⟨u,g⟩ x.dir bh=lk at KB Rg;obtain⟨k1,had⟩:=lk;dsimp only at KB Rg;have TV:=Ux t2;unfold bh at KB;unfold bE at yR;clear g1 t1 s1 t2 qR;go_upto_region 10 with fail;go_wp2_with fail;refine(fi u g dt _).mono ?_;rintro e w5 ⟨rfl,cK⟩;have Od:=ax.new w5 #[UE UL u,UE UL g] 64;have lP:=ao cK (.cells #[UE UL u,UE UL g] 64);clear bc bf bz xc xf xz;go_upto_region 11 with fail;generalize w5.alloc _=w6 at Od lP⊢;generalize w5.heap.size=bq at Od⊢;have TY:=Ux (ag (HT4.o.an lP) Od);obtain⟨R6,G',hl6⟩:=TY.o.1.y;have HK6:=Ux (KB.o w6 R6 G');obtain⟨bc,bf,bz⟩:=TY.o.1.c.facts;obtain⟨xc,xf,xz⟩:=TY.o.1.x.facts;obtain⟨cc,cf,cz⟩:=Od.facts;clear cK Od lP G' hl6;go_wp2_with fail;refine HK6.o.mono ?_;rintro e w7 ⟨rfl,lQ⟩;have Ra:=Ux (ag (TY.o.1.an lQ) (TY.o.2.an lQ));obtain⟨R7,rN,QK⟩:=Ra.o.1.y;have HK7:=Ux (yR.o w7 R7 rN);clear bc bf bz xc xf xz cc cf cz lQ;obtain⟨bc,bf,bz⟩:=Ra.o.1.c.facts;obtain⟨xc,xf,xz⟩:=Ra.o.1.x.facts;obtain⟨cc,cf,cz⟩:=Ra.o.2.facts;go_wp2_with fail;refine HK7.o.mono ?_;rintro e w8 ⟨rfl,R8,KV,QF⟩;have TX:=Ux (ag (Ra.o.1.step rN QK KV QF) (Ra.o.2.sy rN QF (by decide) (by decide)));clear bc bf bz xc xf xz cc cf cz rN QK KV QF;obtain⟨R8',KV,QJ⟩:=TX.o.1.y;have HK8:=Ux (Nw.o w8 R8' KV);obtain⟨bc,bf,bz⟩:=TX.o.1.c.facts;obtain⟨xc,xf,xz⟩:=TX.o.1.x.facts;go_wp2_with fail;refine HK8.o.mono ?_;rintro e w9 ⟨rfl,R9,QN,Sf⟩;have Q9:=Ux (ag (TX.o.1.step KV QJ QN Sf) (TX.o.2.sy KV Sf (by decide) (by decide)));clear bc bf bz xc xf xz KV QJ QN Sf;by_cases KR:r2=0
    case neg=>
     have hrb:(r2 != 0)=true:=by simpa using KR
     clear KR;go_wp2_with fail;refine(OK.o _).mono ?_;rintro e wz ⟨rfl,hbz⟩;have DJ:=Ux (ar Q9.o.1.b hbz);clear hbz;go_wp2_with fail;go_ret;exact⟨rfl,DJ.o⟩
    subst KR;obtain⟨fk,hheld,hre,hsw,ri,lU⟩:=Rg.o Z2 rfl;obtain⟨R9',QN,hl9⟩:=Q9.o.1.y;have ja:dE Z2.fs 200:=lU.ok.bK.mono (by omega);obtain⟨hlb,hll⟩:=wj (K:=200) ja (by omega) TV.o.fs false ⟨u,g⟩ x;have Ot:=Ux (um QN ja (by omega) ri.dead ⟨u,g,dt⟩ x);rw[hec,ri.dead] at Ot;have Oz:=Ux (fun w1 (av:UA w9 w1)=>qs (QN.an av) ja.ok (by omega) ri.dead ⟨u,g,dt⟩ x);rw[hec,ri.dead] at Oz;have HCn:=Ux (fun(A:World) (R:Rp) (hA:bm A p1 q1 R v1 Z2)=>Cl hA);have HRe:=Ux (fun(A:World) (R:Rp) (hA:bm A p1 q1 R v1 Z2)=>lC hA lU (K:=200) (by omega) (by omega) ri TV.o.fs ⟨u,g,dt⟩ x);rw[hec,hre] at HRe;have HSw:=Ux (fun(A:World) (R:Rp) (hA:bm A p1 q1 R v1 Z2)=>Dl hA lU (by omega) ⟨u,g,dt⟩ x);rw[hec] at HSw;have g3:fP (Z2.fN (fun S now=>S.cA ⟨u,g⟩ now x.dir bh)).1 (M+5):=lU.fN ((lU.lz.unlink ⟨u,g⟩ Z2.now x.dir bh).mono (by omega));have s3:=(ri.fN (fun S now=>S.cA ⟨u,g⟩ now x.dir bh)).2.2;generalize (Z2.fN (fun S now=>S.cA ⟨u,g⟩ now x.dir bh)).1=Z3 at HSw g3 s3 hsw;have KA:=Ux (fun(A:World) (R:Rp) (hA:bm A p1 q1 R v1 Z3)=>iD hA g3.ok.bK.ok (by omega) ⟨u,g⟩ x.dir bh);rw[s3.dead] at KA;generalize Z3.fs.aQ false ⟨u,g⟩ x.dir bh=lk3 at KA hsw;obtain⟨k3,i3⟩:=lk3;generalize Z2.fs.fH false ⟨u,g⟩ x=hv at Oz hheld;obtain⟨bI,he⟩:=hv;generalize Z2.fs.b9 200 false ⟨u,g⟩ x=li at Ot fk hheld hlb hll;obtain⟨L,le⟩:=li;dsimp only at KA hsw Oz hheld Ot fk hlb hll;subst fk;have TS:=Ux (fun(a:Option Addr) (n c:Nat) (w1:World) (hs:bF w1 3 KN a n c L)=>sn L a n c w1 hs (by have:=hs.1;omega) hlb);have HAns:=Ux (ag hheld hsw);unfold bh at KA;generalize Z2.count=jc at HCn;clear hheld hsw hlb hll ja lU ri g3 s3 hre;obtain⟨bc,bf,bz⟩:=Q9.o.1.c.facts;obtain⟨xc,xf,xz⟩:=Q9.o.1.x.facts;go_wp2_with fail;refine Ot.o.mono ?_;rintro e w10 ⟨lv,rfl,PF,rm⟩;obtain⟨la2,lc2,rfl,-⟩:=bQ PF;have GV:=Ux (ag (Q9.o.1.an rm) (ag (Q9.o.2.an rm) (ag rm PF)));clear bc bf bz xc xf xz PF rm;obtain⟨bc,bf,bz⟩:=GV.o.1.c.facts;obtain⟨xc,xf,xz⟩:=GV.o.1.x.facts;go_wp2_with fail;refine(Oz.o _ GV.o.2.2.1).mono ?_;rintro e w11 ⟨rfl,xU⟩;have GU:=Ux (ag (GV.o.1.an xU) (ag (GV.o.2.1.an xU) (GV.o.2.2.2.an xU)));clear bc bf bz xc xf xz xU QN hl9;obtain⟨R11,F7,SD⟩:=GU.o.1.y;have HK11:=Ux (HCn.o w11 R11 F7);have HR11:=Ux (HRe.o w11 R11 F7);go_wp2_with fail;refine HK11.o.mono ?_;rintro e w11' ⟨rfl,rfl⟩;obtain⟨bc,bf,bz⟩:=GU.o.1.c.facts;obtain⟨xc,xf,xz⟩:=GU.o.1.x.facts;go_wp2_with fail;refine HR11.o.mono ?_;rintro e w12 ⟨rfl,R12,xW,Md⟩;have GS:=Ux (ag (GU.o.1.step F7 SD xW Md) (ag (GU.o.2.1.sy F7 Md (by decide) (by decide)) (GU.o.2.2.sy F7 Md)));clear bc bf bz xc xf xz F7 SD xW Md;obtain⟨R12',xW,SC⟩:=GS.o.1.y;have Qm:=Ux (HCn.o w12 R12' xW);have HS12:=Ux (HSw.o w12 R12' xW);go_wp2_with fail;refine Qm.o.mono ?_;rintro e w12' ⟨rfl,rfl⟩;obtain⟨bc,bf,bz⟩:=GS.o.1.c.facts;obtain⟨xc,xf,xz⟩:=GS.o.1.x.facts;go_wp2_with fail;refine HS12.o.mono ?_;rintro e w13 ⟨rfl,R13,JG,Mc⟩;have Kt:=Ux (ag (GS.o.1.step xW SC JG Mc) (ag (GS.o.2.1.sy xW Mc (by decide) (by decide)) (GS.o.2.2.sy xW Mc)));clear bc bf bz xc xf xz xW SC JG Mc;obtain⟨R13',JG,hl13⟩:=Kt.o.1.y;have HK13:=Ux (KA.o w13 R13' JG);obtain⟨xc,xf,xz⟩:=Kt.o.1.x.facts;obtain⟨cc,cf,cz⟩:=Kt.o.2.1.facts;go_wp2_with fail;refine HK13.o.mono ?_;rintro e w14 ⟨rfl,Pv⟩;have Nt:=Ux (ar Kt.o.1.b Pv);have Uc:=Ux (rV.at (Kt.o.2.2.an Pv));clear xc xf xz cc cf cz JG hl13 Pv;obtain⟨hA,hB⟩:=HAns.o;have hcc:(jc==jc)=true:=by simp
    by_cases hhad:had=5
    ·have hi5:i3=5:=hB hhad;have N0:(had != 5)=false:=by simpa using hhad
     have Po:(i3==5)=true:=by simpa using hi5
     clear hhad hi5 hB;rcases hA with⟨h0,hw⟩|⟨h5,hn⟩
     ·subst h0;have BB:=Ux (TS.o _ _ _ w14 Uc.o);rw[←hw] at BB;have hoo:(bI==bI)=true:=by simp
      clear hw;go_wp2_with fail;refine BB.o.mono ?_;rintro e w15 ⟨rfl,JC⟩;have P8:=Ux (ar Nt.o JC);clear JC;go_wp2_with fail;refine(OK.o _).mono ?_;rintro e wz ⟨rfl,hbz⟩;have DJ:=Ux (ar P8.o hbz);clear hbz;go_wp2_with fail;go_ret;exact⟨rfl,DJ.o⟩
     ·subst h5 hn;go_wp2_with fail;refine(OK.o _).mono ?_;rintro e wz ⟨rfl,hbz⟩;have DJ:=Ux (ar Nt.o hbz);clear hbz;go_wp2_with fail;go_ret;exact⟨rfl,DJ.o⟩
    ·have N0:(had != 5)=true:=by simpa using hhad
     clear hhad hB;rcases hA with⟨h0,hw⟩|⟨h5,hn⟩
     ·subst h0;have BB:=Ux (TS.o _ _ _ w14 Uc.o);rw[←hw] at BB;have hoo:(bI==bI)=true:=by simp
      clear hw;go_wp2_with fail;refine BB.o.mono ?_;rintro e w15 ⟨rfl,JC⟩;have P8:=Ux (ar Nt.o JC);clear JC;go_wp2_with fail;refine(OK.o _).mono ?_;rintro e wz ⟨rfl,hbz⟩;have DJ:=Ux (ar P8.o hbz);clear hbz;go_wp2_with fail;go_ret;exact⟨rfl,DJ.o⟩
     ·subst h5 hn;go_wp2_with fail;refine(OK.o _).mono ?_;rintro e wz ⟨rfl,hbz⟩;have DJ:=Ux (ar Nt.o hbz);clear hbz;go_wp2_with fail;go_ret;exact⟨rfl,DJ.o⟩
end
section
open Go.RowKit Go.ChangeShapes Go.WideShapes Go.ChangeAt
section
variable{H:Type}{enc:TypeId×Value→H}{w:World}{base:Nat}{spare:Nat→Bool}{held:Bool}
theorem Ij{fuel:Nat}{cs:List Value}{x:DataW H×List MemPlace}(h:DataW.trod enc Tryz.prog w base spare held fuel 162 cs=some x):∃y:Int×Int,ng cs y:=by
 obtain⟨h1,n,h2⟩:=fu Tryz.underlying162 h;have hc:Tryz.prog.cellsOf 162=2:=by kernel_rfl
 have c1:Tryz.prog.cellsOf 3=1:=by kernel_rfl
 have c2:Tryz.prog.cellsOf 56=1:=by kernel_rfl
 rw[hc] at h1
 match cs,h1 with
 | [a0,a1],_=>
  obtain⟨y0,k0⟩:=h2 0 3 0 1 [a0] rfl c1 rfl;obtain⟨y1,k1⟩:=h2 1 56 1 1 [a1] rfl c2 rfl;obtain⟨n0,e0,-⟩:=eB Tryz.underlying3 k0;obtain⟨n1,e1,-⟩:=eB Tryz.underlying56 k1;simp at e0 e1;subst e0 e1;exact⟨(n0,n1),rfl⟩
end
end
section
open Go.RowKit Go.ChangeShapes Go.WideShapes Go.ChangeAt
section
variable{H:Type}{enc:TypeId×Value→H}{w:World}{base:Nat}{spare:Nat→Bool}{held:Bool}
theorem EK{fuel:Nat}{cs:List Value}{x:DataW H×List MemPlace}(h:DataW.trod enc Tryz.prog w base spare held fuel 27 cs=some x):∃u g s,cs=[UE UL u,UE UL g,UF s]∧(-9223372036854775808≤u∧u≤9223372036854775807)∧s.size≤9223372036854775807:=by
 obtain⟨h1,n,h2⟩:=fu Tryz.underlying27 h;have hc:Tryz.prog.cellsOf 27=3:=by kernel_rfl
 have c1:Tryz.prog.cellsOf 3=1:=by kernel_rfl
 have c2:Tryz.prog.cellsOf 9=1:=by kernel_rfl
 rw[hc] at h1
 match cs,h1 with
 | [a0,a1,a2],_=>
  obtain⟨y0,k0⟩:=h2 0 3 0 1 [a0] rfl c1 rfl;obtain⟨y1,k1⟩:=h2 1 3 1 1 [a1] rfl c1 rfl;obtain⟨y2,k2⟩:=h2 2 9 2 1 [a2] rfl c2 rfl;obtain⟨n0,e0,f0⟩:=eB Tryz.underlying3 k0;obtain⟨n1,e1,-⟩:=eB Tryz.underlying3 k1;obtain⟨s2,e2,h3⟩:=jK Tryz.underlying9 k2;simp at e0 e1 e2;subst e0 e1 e2;exact⟨n0,n1,s2,rfl,f0,h3⟩
theorem zy{fuel:Nat}{cs:List Value}{x:DataW H×List MemPlace}(h:DataW.trod enc Tryz.prog w base spare held fuel 30 cs=some x) :
  ∃ma mn mc ia il ic ms is u g dt pt tx no now pa pn pc pl,cs=[UG ma mn mc,UG ia il ic,UE UL u,UE UL g,UF dt,UF pt,UF tx,UE UL no,UE UL now,UG pa pn pc]∧nh w ma mn mc ia il ic ms is∧bF w 2 ng pa pn pc pl∧(-9223372036854775808≤u∧u≤9223372036854775807)∧dt.size≤9223372036854775807∧pt.size≤9223372036854775807∧tx.size≤9223372036854775807:=by
 obtain⟨h1,n,h2⟩:=fu Tryz.underlying30 h;have hc:Tryz.prog.cellsOf 30=10:=by kernel_rfl
 have c1:Tryz.prog.cellsOf 25=2:=by kernel_rfl
 have c2:Tryz.prog.cellsOf 27=3:=by kernel_rfl
 have c3:Tryz.prog.cellsOf 3=1:=by kernel_rfl
 have c4:Tryz.prog.cellsOf 9=1:=by kernel_rfl
 have c5:Tryz.prog.cellsOf 28=1:=by kernel_rfl
 rw[hc] at h1
 match cs,h1 with
 | [a0,a1,a2,a3,a4,a5,a6,a7,a8,a9],_=>
  obtain⟨y0,k0⟩:=h2 0 25 0 2 [a0,a1] rfl c1 rfl;obtain⟨y1,k1⟩:=h2 1 27 2 3 [a2,a3,a4] rfl c2 rfl;obtain⟨y2,k2⟩:=h2 2 9 5 1 [a5] rfl c4 rfl;obtain⟨y3,k3⟩:=h2 3 9 6 1 [a6] rfl c4 rfl;obtain⟨y4,k4⟩:=h2 4 3 7 1 [a7] rfl c3 rfl;obtain⟨y5,k5⟩:=h2 5 3 8 1 [a8] rfl c3 rfl;obtain⟨y6,k6⟩:=h2 6 28 9 1 [a9] rfl c5 rfl;obtain⟨ma,mn,mc,ia,il,ic,ms,is,e0,hs⟩:=EL k0;obtain⟨u,g,dt,e1,hu,hdt⟩:=EK k1;obtain⟨s2,e2,z2⟩:=jK Tryz.underlying9 k2;obtain⟨s3,e3,z3⟩:=jK Tryz.underlying9 k3;obtain⟨n4,e4,-⟩:=eB Tryz.underlying3 k4;obtain⟨n5,e5,-⟩:=eB Tryz.underlying3 k5;obtain⟨pa,pn,pc,pl,e6,hp⟩:=rH (R:=ng) (sz:=2) Tryz.underlying28 (by kernel_rfl) (by decide) (fun fuel cs x h=>Ij h) k6;simp at e0 e1 e2 e3 e4 e5 e6;obtain⟨rfl,rfl⟩:=e0;obtain⟨rfl,rfl,rfl⟩:=e1;subst e2 e3 e4 e5 e6;exact⟨ma,mn,mc,ia,il,ic,ms,is,u,g,dt,s2,s3,n4,n5,pa,pn,pc,pl,rfl,hs,hp,hu,hdt,z2,z3⟩
end
end
namespace cacheOnce
open Go.ChangeShapes Go.WideShapes Go.ChangeAt Go.RowKit
theorem own:ownKnob Tryz.prog.godebug=none:=by kernel_rfl
theorem laidOut:laidOutB Tryz.prog=true:=by kernel_rfl
theorem lifted(os:Os)(started:os.Started)(H:Type)(enc:TypeId×Value→H) :
  ReturnsInHanded {} Tryz.checked os 4 .any (Rows.cacheOnceSpec.pre6 enc Tryz.prog Tryz.f4 Rows.cacheOnceRow.domain false) (Rows.cacheOnceSpec.post enc Tryz.prog Tryz.f4 false true false false):=by
 refine returnsInHanded_of_change (C:=Tryz.checked) own started (by kernel_rfl) Tryz.func4
  (ChangeSpec.witness6 (enc:=enc) (C:=Tryz.checked) false ⟨#[],#[UJ #[UG none 0 0,UG none 0 0,UE UL 0,UE UL 0,UF ByteArray.empty,UF ByteArray.empty,UF ByteArray.empty,UE UL 0,UE UL 0,UG none 0 0],UG none 0 0],[]⟩ 8 (by kernel_rfl) (by kernel_rfl) (by kernel_rfl) (by kernel_rfl)) ?_
 intro W base args ds gs before NW hW hcnd _;have hval:∀(j:Nat) t v,Tryz.f4.params[j]?=some t→args[j]?=some v→Value.okWide Tryz.prog W .any base t v:=NW;have hW':=hW;obtain⟨p,q,hA0,hV,rfl,hfz,hnd⟩:=hW;have hA:DataW.TrodAll enc Tryz.prog W 0 (fun _=>true) true Tryz.f4.params.toList args.toList ds p:=hA0;rw[Tryz.params4] at hA hval;have mv:=hA;obtain⟨v0,vs0,d0,ds0,p0,q0,hargs,rfl,rfl,h0,r0⟩:=trodAll_cons hA;obtain⟨v1,vs1,d1,ds1,p1,q1,rfl,rfl,rfl,h1,r1⟩:=trodAll_cons r0;obtain⟨rfl,rfl,rfl⟩:=trodAll_nil r1;obtain rfl:args=#[v0,v1]:=by cases args;simp_all
 obtain⟨rfl,rfl⟩:=trodVars_none hV;obtain⟨cs,rfl,hsz,hok⟩:=EX Tryz.underlying30 (hval 0 30 v0 rfl rfl);obtain⟨ma,mn,mc,ia,il,ic,ms,is,u,g,dt,pt,tx,no,now,pa,pn,pc,pl,e,hsd,hsp,hu,-⟩:∃ma mn mc ia il ic ms is u g dt pt tx no now pa pn pc pl,cs=#[UG ma mn mc,UG ia il ic,UE UL u,UE UL g,UF dt,UF pt,UF tx,UE UL no,UE UL now,UG pa pn pc]∧nh W ma mn mc ia il ic ms is∧bF W 2 ng pa pn pc pl∧(-9223372036854775808≤u∧u≤9223372036854775807)∧dt.size≤9223372036854775807∧pt.size≤9223372036854775807∧tx.size≤9223372036854775807:=by
  obtain⟨fuel,hf⟩:=h0;obtain⟨ma,mn,mc,ia,il,ic,ms,is,u,g,dt,pt,tx,no,now,pa,pn,pc,pl,e,h⟩:=zy hf;exact⟨ma,mn,mc,ia,il,ic,ms,is,u,g,dt,pt,tx,no,now,pa,pn,pc,pl,Array.ext' e,h⟩
 subst e;obtain⟨a2,len2,cap2,rfl⟩:=okWide_slice Tryz.underlying31 (hval 1 31 v1 rfl rfl);obtain⟨a',len',cap',zs,e,hz⟩:∃a len cap zs,[Value.slice a2 len2 cap2]=[UG a len cap]∧bF W 3 O2 a len cap zs:=by
  obtain⟨fuel,hf⟩:=h1;exact rH (R:=O2) Tryz.underlying31 (by kernel_rfl) (by decide) (fun fuel cs x h=>EM h) hf
 simp only[List.cons.injEq,Value.slice.injEq,and_true] at e;obtain⟨rfl,rfl,rfl⟩:=e;clear hA0 NW;refine(ve W hsd u g hu.1 hu.2 dt pt tx no now hsp hz).mono fun e W' ⟨he,bel⟩=>?_;subst he;exact⟨_,rfl,_,_,_,[],_,[],hW',trodAll_mk1 (shut_bool Tryz.underlying4 _),nr laidOut bel _ _ _ _ (by kernel_rfl) mv,rfl,bel.frame _,fun h=>by cases h⟩
theorem proved:Rows.CacheOnceSaid:=
 OpenClaim.holds_of_wide 4 Tryz.f4 rfl rfl rfl rfl rfl rfl rfl ⟨rfl,rfl,rfl,rfl,rfl⟩ rfl rfl rfl rfl rfl (by kernel_rfl) Tryz.func4 (by kernel_rfl)
  (of_decide_eq_true (by kernel_rfl)) (by unfold Func.isWrapper;first|(rw[if_pos (by decide +kernel)];kernel_rfl)|(rw[if_neg (by decide +kernel)];exact⟨rfl,rfl⟩))
  (fun os started H enc _=>lifted os started H enc)
#print axioms proved
end cacheOnce
end Go.Proofs.YtabbjaomlmnnhaaGreat
