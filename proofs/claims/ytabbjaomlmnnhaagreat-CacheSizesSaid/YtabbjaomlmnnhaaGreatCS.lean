/- The statement CacheSizes: for every input the law answers true, and each argument reads behind the call as before. -/
import Derived.Test.YtabbjaomlmnnhaaGreatCS24
import Derived.Test.YtabbjaomlmnnhaaGreatCS18
import Derived.Test.YtabbjaomlmnnhaaGreatCS21
import Derived.Test.YtabbjaomlmnnhaaGreatCS22
import Derived.Test.YtabbjaomlmnnhaaGreatCS9
import Derived.Test.YtabbjaomlmnnhaaGreatRows
import Derived.Test.YtabbjaomlmnnhaaGreatCS2
set_option linter.unusedVariables false
set_option linter.unusedSimpArgs false
set_option maxRecDepth 100000
set_option maxHeartbeats 16000000
namespace Go.Proofs.YtabbjaomlmnnhaaGreat
section
open Go.RowKit Go.Shelf
attribute [local go_sem] Oper.semAt_some
theorem yi{Y:Sy}(h:eb Y)(c:Cr)(x:Cn)(l:Ln):eb (Y.nB c x l):=by
 unfold Sy.nB;dsimp only;refine fM ?_ _;have h1:=eZ h (fun S now=>S.aO c now x.files l.name 448)
 split
 ·refine eZ ?_ _
  split
  ·exact eZ h1 _
  ·exact h1
 ·split
  ·exact eZ h1 _
  ·exact h1
theorem nA{c:Cr}{x:Cn}:∀(l:List Ln) {Y:Sy},eb Y→eb (Y.dx c x l)
 | [],_,h=>h
 |y::l,_,h=>nA l (yi h c x y)
theorem sI(Y:Sy)(h:eb Y)(u:Us)(no:Int)(l:List Ln):eb (Y.db u no l).1:=by
 unfold Sy.db
 split
 ·exact ju h u no
 ·exact nA l (ju h u no)
theorem AH(Y:Sy)(u:Us)(no:Int)(l:List Ln)(h:(Y.db u no l).2.2=false):(Y.db u no l).2.1=iV:=by
 unfold Sy.db at h⊢;by_cases h0:(Y.bV u no).2.2≠0
 ·rw[if_pos h0]
 ·rw[if_neg h0] at h
  cases h
theorem N3{S:Fs}(now:Int):fk ⟨S,sC now,0,[],false⟩:=by
 unfold fk sC;dsimp only
 split<;>omega
theorem xB{S:Fs}(hp:Pl S){N:Nat}(d:Bool)(c:Cr)(x:Cn):∀g∈(S.cK N d c x).1,g.name.size≤255:=by
 intro g hg;unfold Fs.cK at hg;by_cases h0:(S.cp d c x.files).2=0
 ·rw[if_neg (by simpa using h0)] at hg;have hd:d=false:=by
   cases d with
   |false=>rfl
   |true=>unfold Fs.cp at h0;rw[if_pos rfl] at h0;exact absurd h0 (by decide)
  subst hd;obtain⟨y,hy,hl⟩:=List.mem_filterMap.1 hg;unfold Fs.jH at hl
  split at hl
  ·injection hl with hl;subst hl;exact rm hp c x.files y hy
  ·cases hl
 ·rw[if_pos h0] at hg
  cases hg
theorem r'(w:World){ma:Option Addr}{mn mc:Nat}{ia:Option Addr}{il ic:Nat}{ms:List Mt}{is:List It}(h:lO w ma mn mc ia il ic ms is)(u g:Int)(FB:-9223372036854775808≤u)(FA:u≤9223372036854775807)(dt pt tx:ByteArray)(no now:Int){pa:Option Addr}{pn pc:Nat}{pl:List (Int×Int)}(hpl:bj w 2 lM pa pn pc pl)
  {la:Option Addr} {ln lc:Nat} {zs:List Ln} (hz:bj w 3 K0 la ln lc zs) :
  Calls Tryz.prog 3 #[.agg #[.slice ma mn mc,.slice ia il ic,.int .i64 u,.int .i64 g,.string dt,.string pt,.string tx,.int .i64 no,.int .i64 now,.slice pa pn pc],.slice la ln lc] w fun e w'=>e=.returned (.bool true)∧Qi w w':=by
 obtain⟨hX,aI⟩:=Qh w #[.slice ma mn mc,.slice ia il ic,.int .i64 u,.int .i64 g,.string dt,.string pt,.string tx,.int .i64 no,.int .i64 now,.slice pa pn pc] 30;have hbI:=((Below.refl _ w).alloc (aa _) (.cells #[.slice ma mn mc,.slice ia il ic,.int .i64 u,.int .i64 g,.string dt,.string pt,.string tx,.int .i64 no,.int .i64 now,.slice pa pn pc] 30));have HFw:=Qf (Dx _ (h.ak hbI) u g dt pt tx no now (pa:=pa) (pc:=pc) hpl.1);have HS:=Qf h;have HF3:=Qf (fun w1 (av:Qi w w1)=>Dw w1 (hz.below av (aa _)));have HZ:=Qf hz;have hzl:zs.length=ln:=hz.1;have P':=Qf yF;clear h hpl hbI hz;go_enter Tryz.func3,Tryz.ntmps3;go_upto_region 1 with fail;generalize w.alloc _=w0 at hX aI HFw⊢;obtain⟨bc,bf,bz⟩:=hX.facts;go_wp2_with fail;refine HFw.o.mono ?_;rintro e w1 ⟨rfl,av⟩;have dO:=Qf (hX.ak av);have sW:=Qf (au aI av);clear hX aI av HFw bc bf bz;obtain⟨bc,bf,bz⟩:=dO.o.facts
 cases hf:pj ms is dt pt tx pl with
 |false=>
  clear hf bc bf bz;go_wp2_with fail;refine(P'.o _).mono ?_;rintro e wz ⟨rfl,hbz⟩;have JY:=Qf (au sW.o hbz);clear hbz;go_wp2_with fail;go_ret;exact⟨rfl,JY.o⟩
 |true=>
  have HFf:=Qf hf;clear hf;go_wp2_with fail;refine(HF3.o _ sW.o).mono ?_;rintro e w1' ⟨rfl,rfl⟩
  cases h3:rO zs with
  |false=>
   clear h3 bc bf bz;go_wp2_with fail;refine(P'.o _).mono ?_;rintro e wz ⟨rfl,hbz⟩;have JY:=Qf (au sW.o hbz);clear hbz;go_wp2_with fail;go_ret;exact⟨rfl,JY.o⟩
  |true=>
   have hf:=HFf.o;have h36:=of_decide_eq_true h3;have sH:=dO.o.set 9 (.slice none 0 0);have cT:Qi w (w1.setCell ⟨w.heap.size,9,none⟩ (.slice none 0 0)):=sW.o.setCell (p:=⟨w.heap.size,9,none⟩) (aa _) _;obtain⟨jf,hdt,hpt,htx,-⟩:=yj hf;have vQ:pj ms is dt pt tx []=true:=by
    unfold pj;exact decide_eq_true ⟨jf,hdt,hpt,htx,Nat.zero_le _⟩
   go_upto_region 4 with fail;generalize w1.setCell ⟨w.heap.size,9,none⟩ (.slice none 0 0)=W1 at sH cT⊢;have NF:=Qf (AT W1 (HS.o.ak cT) u g dt pt tx no now (pa:=none) (pn:=0) (pc:=0) (pl:=[]) ⟨rfl,aa _,by omega,.inl rfl⟩ vQ);obtain⟨Lb,Lg,-,-⟩:=yl jf;have uo:=Qf (qP ms is);obtain⟨N,hN⟩:∃N,1+2*ms.length+is.length=N:=⟨_,rfl⟩;have hNs:N≤51:=by omega
   rw[hN] at uo;have hlast:=Dt (wZ ms is) (by omega);generalize cU ms is=S at NF uo hlast;have HNs:=Qf hNs;have HDt:=Qf (show dt.size≤100000 by omega);have fY:=Qf (show cE ⟨S,sC now,0,[],false⟩ N from⟨uo.o,Int.le_refl _,by show(0:Int)≤_;omega,Nat.zero_le _⟩);have sV:=Qf (ag sH cT);have H36:=Qf h36;clear bc bf bz;obtain⟨bc,bf,bz⟩:=sH.facts;clear hf jf Lg Lb hN hdt htx hpt vQ hNs sH cT h36 h3;go_wp2_with fail;refine NF.o.mono ?_;rintro e w2 ⟨p1,q1,R1,v1,pf,R2,rfl,tS⟩;have dS:=Qf (au sV.o.2 tS.below);have sH:=sV.o.1.ak tS.below;obtain⟨na,nc,hnv,-⟩:=bC tS.r.re;have hnl:R2.G.length=S.ns.length:=by rw[tS.r.ns,List.length_map]
   rw[hnl] at hnv;have hrb:=tS.r.aZ;rw[hnv] at hrb;have HRb:=Qf hrb;have mT:=Qf tS;have sU:=Qf sH;have JN:=Qf (fun(w3:World) (hb:Qi w2 w3) (R3:Rp) (Z:Sy) (w':World) (h3:bg w' p1 q1 R3 v1 Z) (pb:aR (R1.Y p1 q1) (R3.Y p1 q1) w3 w')=>show LZ w' w.heap.size pf #[.slice ma mn mc,.slice ia il ic,.int .i64 u,.int .i64 g,.string dt,.string pt,.string tx,.int .i64 no,.int .i64 now,.slice none 0 0] #[.slice na S.ns.length nc,R2.dv,.int .i64 S.last,.int .i64 R2.now,R2.mR,R2.pl,R2.dd] from
    ⟨(sH.ak hb).sy (tS.y.ak hb) pb (by decide) (by decide),by have:=((tS.r.ak hb).sy (tS.y.ak hb) pb).aZ;rw[hnv] at this;exact this⟩)
   have yQ:=Qf (fun(w3:World) (hb:Qi w2 w3)=>El (tS.y.ak hb).wd);clear bc bf bz;obtain⟨bc,bf,bz⟩:=sH.facts;obtain⟨rc,rf,rz⟩:=hrb.facts;obtain⟨yc,yf,yz⟩:=tS.y.aZ.facts;obtain⟨gc,gf,gz⟩:=tS.y.wd.aZ.facts;have hlw:=Eu (x:=S.last) (by omega) hlast.2;have hlz:¬S.last=0:=by omega
   have Dh:∀k,R1.Y p1 q1 k→w.heap.size≤k:=fun k hk=>ae sV.o.2.size (tS.f1 k hk);have HLo:=Qf Dh;clear tS sH hrb Dh hnl hnv;go_upto_region 8 with(refine(yQ.o _ (Below.refl _ _)).mono ?_;rintro e w3 ⟨rfl,rfl⟩);obtain⟨n2,ox⟩:∃n,wrap64 (1+wrap64 ((IntKind.u64.wrap no).tmod S.last))=n:=⟨_,rfl⟩;have hQ:M9 (fun A=>Qi w A) w.heap.size p1 q1 v1:=⟨fun A B h hb=>au h hb,fun A B _ _ _ h _ hs hl hL=>h.trans (hs.below hl hL)⟩;have hN51:=HNs.o;have uq:=Qf (fun(w3:World) (hb:Qi w2 w3)=>rN (mT.o.y.ak hb) hQ (au dS.o hb) (ae dS.o.size hb.size) HLo.o fY.o (by omega) ⟨rfl,rfl⟩ (N3 now) ⟨u,g,dt⟩ FB FA HDt.o n2 (fun A hA=>(wH HZ.o).below hA (aa _)) H36.o.2 H36.o.1);have yM:=Qf (sI ⟨S,sC now,0,[],false⟩ ⟨rfl,rfl⟩ ⟨u,g,dt⟩ n2 zs);have vK:=Qf (fY.o.db ⟨u,g,dt⟩ n2 zs);have P0:=Qf (AH ⟨S,sC now,0,[],false⟩ ⟨u,g,dt⟩ n2 zs);obtain⟨q,hq⟩:∃q,Sy.db ⟨S,sC now,0,[],false⟩ ⟨u,g,dt⟩ n2 zs=q:=⟨_,rfl⟩;rw[hq] at uq yM vK P0;obtain⟨Z,x,bis⟩:=q;unfold Cn.v at uq;dsimp only at uq yM vK P0;clear hq hQ;have K3:∀y:Int,IntKind.i64.wrap y=wrap64 y:=fun y=>by unfold wrap64;exact IntKind.wrap_i64 y
   go_cut [8,9] (fun t8 t9 wx=>∃Bd:Nat,t8=.pointer (some ⟨Bd,0,none⟩)∧t9=.bool bis∧Ko w p1 q1 v1 Bd #[.slice ma mn mc,.slice ia il ic,.int .i64 u,.int .i64 g,.string dt,.string pt,.string tx,.int .i64 no,.int .i64 now,.slice none 0 0] x Z [] (.slice none 0 0) wx∧aw wx pf #[.slice na S.ns.length nc,R2.dv,.int .i64 S.last,.int .i64 R2.now,R2.mR,R2.pl,R2.dd] 55)
   case first=>
    have hSb:∀w':World,Qi w2 w'→LZ w' w.heap.size pf #[.slice ma mn mc,.slice ia il ic,.int .i64 u,.int .i64 g,.string dt,.string pt,.string tx,.int .i64 no,.int .i64 now,.slice none 0 0] #[.slice na S.ns.length nc,R2.dv,.int .i64 S.last,.int .i64 R2.now,R2.mR,R2.pl,R2.dd]:=fun w' hb=>⟨sU.o.ak hb,HRb.o.ak hb⟩;have hbd:Qi w2 w2.drew:=(Below.refl _ _).drew;refine wp_region_held_drew (S:=fun w'=>LZ w' w.heap.size pf #[.slice ma mn mc,.slice ia il ic,.int .i64 u,.int .i64 g,.string dt,.string pt,.string tx,.int .i64 no,.int .i64 now,.slice none 0 0] #[.slice na S.ns.length nc,R2.dv,.int .i64 S.last,.int .i64 R2.now,R2.mR,R2.pl,R2.dd]) (by kernel_rfl) (hSb _ hbd) (fun be=>?_);refine aK 15 [(0,48),(1,49),(2,50),(3,51),(4,52),(5,53),(6,54),(7,55),(8,56),(9,57),(10,58),(11,59),(12,60),(13,61),(14,62)] (by kernel_rfl) (by kernel_rfl) rfl (fun _ _ _ _ _ h=>h) be ?_
    iterate 15 (apply aE rfl rfl;(· (intro w9 b8;obtain⟨s1,-,-⟩:=b8.c.facts;obtain⟨s2,-,-⟩:=b8.l.facts;clear b8;go_simp;(try with_reducible rfl)));simp only[ah,ai,aj])
    apply aJ
    try simp only[K3]
    try simp only[ox]
    refine fI 15 63 19 8 (vi:=.pointer (some ⟨w2.heap.size,0,none⟩)) (Wi:=w2.drew.alloc (.cells #[.string ⟨#[]⟩,.int .i64 0,.int .i64 0,.int .i64 0,.int .i64 0,.int .i64 0,.string ⟨#[]⟩] 48)) (R:=fun v w'=>v=.tuple #[.agg #[.string x.path,.int .i64 x.dir,.int .i64 x.info,.int .i64 x.files,.int .i64 x.out,.int .i64 x.jm,.string x.top],.bool bis]∧gF w2.drew w' p1 q1 R1 v1 Z) (by kernel_rfl) rfl rfl rfl rfl rfl rfl ?ra7 (hSb _ (aq hbd _)) ?rb7 ((uq.o w2.drew hbd).mono (fun e w' ⟨he,hw,_⟩=>⟨_,he,rfl,hw⟩)) (fun v w' ⟨_,R3,h3,pb⟩=>(JN.o _ hbd R3 Z w' h3 pb)) ?_ ?_
    case ra7=>(go_simp;(try rfl))
    case rb7=>(go_simp;(try rfl))
    ·simp only[ah,ai,aj];have Pj:aw (w2.drew.alloc (.cells #[.string ⟨#[]⟩,.int .i64 0,.int .i64 0,.int .i64 0,.int .i64 0,.int .i64 0,.string ⟨#[]⟩] 48)) w2.heap.size #[.string ⟨#[]⟩,.int .i64 0,.int .i64 0,.int .i64 0,.int .i64 0,.int .i64 0,.string ⟨#[]⟩] 48:=aw.new w2.drew #[.string ⟨#[]⟩,.int .i64 0,.int .i64 0,.int .i64 0,.int .i64 0,.int .i64 0,.string ⟨#[]⟩] 48;have gu:Qi w2 (w2.drew.alloc (.cells #[.string ⟨#[]⟩,.int .i64 0,.int .i64 0,.int .i64 0,.int .i64 0,.int .i64 0,.string ⟨#[]⟩] 48)):=aq hbd _;refine bB 15 63 (R:=fun v w'=>v=.tuple #[.agg #[.string x.path,.int .i64 x.dir,.int .i64 x.info,.int .i64 x.files,.int .i64 x.out,.int .i64 x.jm,.string x.top],.bool bis]∧gF (w2.drew.alloc (.cells #[.string ⟨#[]⟩,.int .i64 0,.int .i64 0,.int .i64 0,.int .i64 0,.int .i64 0,.string ⟨#[]⟩] 48)) w' p1 q1 R1 v1 Z) (by kernel_rfl) rfl rfl rfl ?xc7 ((uq.o _ gu).mono (fun e w' ⟨he,hw,_⟩=>⟨_,he,rfl,hw⟩)) (fun v w' ⟨_,R3,h3,pb⟩=>(JN.o _ gu R3 Z w' h3 pb)) ?_
     case xc7=>(go_simp;(try simp only[K3]);(try simp only[ox]);(try rfl))
     rintro _ w3 ⟨rfl,R3,nU,gU⟩;simp only[ah,ai,aj];have pY:=JN.o _ gu R3 Z w3 nU gU;have LJ:=Pj.sy (mT.o.y.ak gu) gU (by decide) (by decide);have xL:=gU.aX mT.o.f1 (ae mT.o.below.size gu.size);have tT:Qi w w3:=(dS.o.trans (gu.mono dS.o.size)).trans ((gU.below mT.o.f1 (ae mT.o.below.size gu.size)).mono sV.o.2.size);have La:w2.heap.size≠w.heap.size:=by
      have h1:=sU.o.lt;omega
     have K8:w2.heap.size≠pf:=by
      omega
     have HTkA:=Qf (Ko.made (w:=w) (x:=x) nU (fun k hk=>ae sV.o.2.size (xL k hk)) tT pY.c LJ (by
      have h1:=sU.o.lt;omega))
     obtain⟨xc,xf,xz⟩:=LJ.facts;clear nU gU xL tT;refine aK 3 [(16,47),(17,64),(18,65)] (by kernel_rfl) (by kernel_rfl) rfl (fun _ _ _ _ _ h=>h) pY ?_
     iterate 3 (apply aE rfl rfl;(· (intro w9 b8;clear b8;go_simp;(try with_reducible rfl)));simp only[ah,ai,aj])
     apply aJ;refine dC 20 (W:=(((((((w3.setCell ⟨w2.heap.size,0,none⟩ (.string x.path)).setCell ⟨w2.heap.size,1,none⟩ (.int .i64 x.dir)).setCell ⟨w2.heap.size,2,none⟩ (.int .i64 x.info)).setCell ⟨w2.heap.size,3,none⟩ (.int .i64 x.files)).setCell ⟨w2.heap.size,4,none⟩ (.int .i64 x.out)).setCell ⟨w2.heap.size,5,none⟩ (.int .i64 x.jm)).setCell ⟨w2.heap.size,6,none⟩ (.string x.top))) (by kernel_rfl) rfl rfl rfl ?stA (pY.dV La K8 _ _ _ _ _ _ _) ?_
     case stA=>(go_simp;(try rfl))
     refine aK 1 [(21,9)] (by kernel_rfl) (by kernel_rfl) rfl (fun _ _ _ _ _ h=>h) (pY.dV La K8 _ _ _ _ _ _ _) ?_
     iterate 1 (apply aE rfl rfl;(· (intro w9 b8;clear b8;go_simp;(try with_reducible rfl)));simp only[ah,ai,aj])
     apply aJ;refine wpAnyH_done (by kernel_rfl) ?_ _;have hl7:=(pY.dV La K8 (.string x.path) (.int .i64 x.dir) (.int .i64 x.info) (.int .i64 x.files) (.int .i64 x.out) (.int .i64 x.jm) (.string x.top)).l;go_wp2_with fail;go_meet;exact⟨_,rfl,rfl,HTkA.o,hl7⟩
    ·rintro _ w3 ⟨rfl,R3,nU,gU⟩;simp only[ah,ai,aj];have Lu:=JN.o _ hbd R3 Z w3 nU gU;have xL:=gU.aX mT.o.f1 (ae mT.o.below.size hbd.size);have tT:Qi w w3:=(dS.o.trans (hbd.mono dS.o.size)).trans ((gU.below mT.o.f1 (ae mT.o.below.size hbd.size)).mono sV.o.2.size);have hsz3:w2.heap.size≤w3.heap.size:=gU.mod.size;refine aK 3 [(16,47),(17,64),(18,65)] (by kernel_rfl) (by kernel_rfl) rfl (fun _ _ _ _ _ h=>h) Lu ?_
     iterate 3 (apply aE rfl rfl;(· (intro w9 b8;clear b8;go_simp;(try with_reducible rfl)));simp only[ah,ai,aj])
     apply aJ;have FK:=(Qj w3).alloc (aa _) (.cells #[.string ⟨#[]⟩,.int .i64 0,.int .i64 0,.int .i64 0,.int .i64 0,.int .i64 0,.string ⟨#[]⟩] 48);have OW:LZ (w3.alloc (.cells #[.string ⟨#[]⟩,.int .i64 0,.int .i64 0,.int .i64 0,.int .i64 0,.int .i64 0,.string ⟨#[]⟩] 48)) w.heap.size pf #[.slice ma mn mc,.slice ia il ic,.int .i64 u,.int .i64 g,.string dt,.string pt,.string tx,.int .i64 no,.int .i64 now,.slice none 0 0] #[.slice na S.ns.length nc,R2.dv,.int .i64 S.last,.int .i64 R2.now,R2.mR,R2.pl,R2.dd]:=⟨Lu.c.ak FK,Lu.l.ak FK⟩;refine fU 19 8 (v:=.pointer (some ⟨w3.heap.size,0,none⟩)) (W:=w3.alloc (.cells #[.string ⟨#[]⟩,.int .i64 0,.int .i64 0,.int .i64 0,.int .i64 0,.int .i64 0,.string ⟨#[]⟩] 48)) (by kernel_rfl) rfl rfl rfl ?qaB OW ?_
     case qaB=>(go_simp;(try rfl))
     simp only[ah,ai,aj];have LJ:=aw.new w3 #[.string ⟨#[]⟩,.int .i64 0,.int .i64 0,.int .i64 0,.int .i64 0,.int .i64 0,.string ⟨#[]⟩] 48;have K9:w3.heap.size≠w.heap.size:=by
      have h1:=sU.o.lt;omega
     have K7:w3.heap.size≠pf:=by omega
     have HTkB:=Qf (Ko.made (w:=w) (x:=x) (nU.ak FK) (fun k hk=>ae sV.o.2.size (xL k hk)) (au tT FK) OW.c LJ (by
      have h1:=sU.o.lt;omega))
     obtain⟨xc,xf,xz⟩:=LJ.facts;clear nU gU xL tT;refine dC 20 (W:=((((((((w3.alloc (.cells #[.string ⟨#[]⟩,.int .i64 0,.int .i64 0,.int .i64 0,.int .i64 0,.int .i64 0,.string ⟨#[]⟩] 48)).setCell ⟨w3.heap.size,0,none⟩ (.string x.path)).setCell ⟨w3.heap.size,1,none⟩ (.int .i64 x.dir)).setCell ⟨w3.heap.size,2,none⟩ (.int .i64 x.info)).setCell ⟨w3.heap.size,3,none⟩ (.int .i64 x.files)).setCell ⟨w3.heap.size,4,none⟩ (.int .i64 x.out)).setCell ⟨w3.heap.size,5,none⟩ (.int .i64 x.jm)).setCell ⟨w3.heap.size,6,none⟩ (.string x.top))) (by kernel_rfl) rfl rfl rfl ?stB (OW.dV K9 K7 _ _ _ _ _ _ _) ?_
     case stB=>(go_simp;(try rfl))
     refine aK 1 [(21,9)] (by kernel_rfl) (by kernel_rfl) rfl (fun _ _ _ _ _ h=>h) (OW.dV K9 K7 _ _ _ _ _ _ _) ?_
     iterate 1 (apply aE rfl rfl;(· (intro w9 b8;clear b8;go_simp;(try with_reducible rfl)));simp only[ah,ai,aj])
     apply aJ;refine wpAnyH_done (by kernel_rfl) ?_ _;have hl7:=(OW.dV K9 K7 (.string x.path) (.int .i64 x.dir) (.int .i64 x.info) (.int .i64 x.files) (.int .i64 x.out) (.int .i64 x.jm) (.string x.top)).l;go_wp2_with fail;go_meet;exact⟨_,rfl,rfl,HTkB.o,hl7⟩
   case rest=>
    obtain⟨Bd,rfl,rfl,hT,hL⟩:=hcut;generalize wc=w4 at hT hL⊢;have HT4:=Qf hT;have HL4:=Qf hL;have HCd:=Qf (fun w=>eP u g dt w);clear bc bf bz rc rf rz yc yf yz gc gf gz hlw hlz K3 ox;obtain⟨R4,BD,Di⟩:=hT.y;have mE:=vK.o;obtain⟨M,hM⟩:∃M,N+20+3*zs.length=M:=⟨_,rfl⟩;rw[hM] at mE;have FZ:M≤89:=by
     have:=H36.o.2;omega
    have hdd:=yM.o.dead;have Hh:=Qf (rW BD mE.du (by omega) hdd ⟨u,g,dt⟩ x);have Md:=Qf (C9 mE.du.ok Z.dead ⟨u,g⟩ x);have pP:=Qf (xB mE.du.pl (N:=M) Z.dead ⟨u,g⟩ x);have L7:=Qf (Ac mE.du.ok Z.dead ⟨u,g⟩ x);have iW:=Qf (fun hb:bis=false=>show(Z.fs.cK M Z.dead ⟨u,g⟩ x).2≠0 from by
     rw[P0.o hb];exact Ad Z.fs mE.du.ok Z.dead ⟨u,g⟩)
    have sS:=Qf (fun w1 (av:Qi w4 w1) dir n=>iw (BD.ak av) mE.du.ok (by omega) ⟨u,g⟩ dir n);have ji:=Qf (fun w1 (av:Qi w4 w1) k=>jZ (BD.ak av) mE.du.ok hdd k);have Ng:=Qf (fun w1 (av:Qi w4 w1) n=>sY (BD.ak av) mE.du (by omega) hdd ⟨u,g⟩ x.files n);have hec:(⟨u,g,dt⟩:Us).c=⟨u,g⟩:=rfl;rw[hec] at Hh;generalize Z.fs.cK M Z.dead ⟨u,g⟩ x=q at Hh Md pP L7 iW;obtain⟨l,ge⟩:=q;dsimp only at Hh Md pP L7 iW;obtain⟨bc,bf,bz⟩:=hT.c.facts;obtain⟨xc,xf,xz⟩:=hT.x.facts;obtain⟨rc,rf,rz⟩:=hL.facts;clear hT hL BD Di mE hM hdd hec;go_wp2_with fail;refine Hh.o.mono ?_;rintro e w5 ⟨v,rfl,hO,bU⟩;have l8:=Qf bU;have Ni:=Qf (HT4.o.ak bU);obtain⟨a,ca,rfl,hlc,hcz,-⟩:=bC hO;have Nr:=Qf (sM.at hO);clear bc bf bz xc xf xz rc rf rz;by_cases hge:ge=0
    ·cases hbis:bis with
     |false=>exact absurd hge (iW.o hbis)
     |true=>
      subst hge;obtain⟨rc,rf,rz⟩:=(HL4.o.ak bU).facts;clear hO bU;go_wp2_with fail
      go_loopw [12] (fun t12 wr=>∃k:Nat,k≤l.length∧t12=.int .i64 k∧Qi w5 wr) (fun t12 _=>l.length-(intOf t12).toNat)
      case atStart=>exact⟨0,Nat.zero_le _,rfl,Below.refl _ _⟩
      case round=>
       obtain⟨k,hk,rfl,hbr⟩:=hrel;have A8:=Qf hbr;clear rc rf rz;by_cases hlt:k<l.length
       ·have Lc:(k:Int)<(l.length:Int):=by omega
        have MG:¬(k:Int)<0:=by omega
        obtain⟨zb,zo,rfl,hzb,s3,s4,s5⟩:=cn (Nr.o.below hbr (aa _)) k hlt;have HC6:=Qf (fun(w9:World) (lF:Qi wr w9)=>show w9.cell? ⟨zb,zo+k*3,none⟩=some (.int .i64 (l[k]'hlt).size)∧w9.cell? ⟨zb,zo+k*3+2,none⟩=some (.string (l[k]'hlt).name)∧zb<w9.heap.size from by
         obtain⟨zb',zo',hz',hzb',t3,t4,t5⟩:=cn (Nr.o.below (au hbr lF) (aa _)) k hlt;injection hz' with hz';injection hz' with ee et;subst ee et;exact ag t3 (ag t5 hzb'))
        go_upto_region 15 with fail
        go_cut [118] (fun t wx=>t=.bool false∧Qi wr wx)
        case first=>
         cases k with
         |zero=>
          have hgd:decide ((0:Int)<((0:Nat):Int))=false:=by decide
          go_quiet (fail)
          go_wp2_with fail;go_meet;exact⟨rfl,below_drewN (Below.refl _ _) _⟩
         |succ j=>
          have hj:j<l.length:=by omega
          have hjz:IntKind.i64.wrap (((j+1:Nat):Int)-1)=(j:Int):=by rw[IntKind.wrap_i64]<;>omega
          have hjp:decide (0<((j+1:Nat):Int))=true:=by
           rw[decide_eq_true_eq];omega
          obtain⟨zb',zo',hz',hzb',p3,p4,p5⟩:=cn (Nr.o.below hbr (aa _)) j hj;injection hz' with hz';injection hz' with ee et;subst ee et;have hjl:(j:Int)<(l.length:Int):=by omega
          have hj0:¬(j:Int)<0:=by omega
          have hri:Op.bytesLess (l[j]).name.toList (l[j+1]).name.toList=true:=by
           have h:=List.pairwise_iff_getElem.1 L7.o j (j+1) hj hlt (Nat.lt_succ_self j);unfold fZ at h;rw[←Lib.toList_data,←Lib.toList_data] at h;exact h
          go_quiet (fail)
          trace_state
          go_wp2_with fail;go_meet;exact⟨rfl,below_drewN (Below.refl _ _) _⟩
        case rest=>
         obtain⟨rfl,hbx⟩:=hcut;generalize wc=w6 at hbx⊢;have L3:=Qf (Ni.o.ak (au A8.o hbx));have jx:=Qf (au l8.o (au A8.o hbx));have HBrx:=Qf (au A8.o hbx);have Dp:=fun w9 (lF:Qi w6 w9)=>HC6.o w9 (au hbx lF);have hlaw:=Md.o (l[k]'hlt) (List.getElem_mem hlt);have hnm:=pP.o (l[k]'hlt) (List.getElem_mem hlt);generalize l[k]'hlt=y at Dp hlaw hnm;obtain⟨ha1,av,gD,GW⟩:=hlaw;have HCy:=Qf Dp;obtain⟨i1,IY⟩:∃i,Z.fs.bh Z.dead ⟨u,g⟩ x.info (y.name++dm)=(i,0):=⟨_,Prod.ext rfl ha1⟩;obtain⟨i2,zd⟩:∃i,Z.fs.bh Z.dead ⟨u,g⟩ x.files y.name=(i,0):=⟨_,Prod.ext rfl av⟩;rw[zd] at gD;have Kz:=Qf (fun w9 (lF:Qi w6 w9)=>sS.o w9 (au jx.o lF) x.info (y.name++dm));rw[IY] at Kz;have PY:=Qf (fun w9 (lF:Qi w6 w9)=>sS.o w9 (au jx.o lF) x.files y.name);rw[zd] at PY;have nW:=Qf (fun w9 (lF:Qi w6 w9)=>ji.o w9 (au jx.o lF) i2);have JM:=Qf (fun w9 (lF:Qi w6 w9)=>Ng.o w9 (au jx.o lF) y.name);rw[GW] at JM;generalize Z.fs.bl i2=an at nW gD;generalize ep (Z.fs.get i2)=en at nW;have FE:¬9223372036854775807<y.name.size+10:=by omega
         unfold dm at Kz;dsimp only at Kz PY nW JM;clear ha1 av GW IY zd Dp hbx hbr s3 s4 s5;go_upto_region 17 with fail;have hbd:Qi w6 w6.drew:=(Below.refl _ _).drew;refine wp_region_held_drew (S:=fun w'=>Qi w6 w') (by kernel_rfl) hbd (fun be=>?_);refine aK 11 [(0,120),(1,121),(2,122),(4,124),(5,125),(6,126),(7,127),(8,128),(9,129),(10,130),(11,131)] (by kernel_rfl) (by kernel_rfl) rfl (fun _ _ _ _ _ h=>h) be ?_
         iterate 11 (apply aE rfl rfl;(· (intro w9 b8;obtain⟨s1,-,-⟩:=(L3.o.c.ak b8).facts;obtain⟨s2,-,-⟩:=(L3.o.x.ak b8).facts;obtain⟨s3,s4,s5⟩:=HCy.o _ b8;clear b8;go_simp;(try with_reducible rfl)));simp only[ah,ai,aj])
         apply aJ;refine bB 3 123 (R:=fun v w'=>v=.agg #[.int .i64 u,.int .i64 g]∧Qi w6 w') (by kernel_rfl) rfl rfl rfl ?xa17 ((HCd.o _).mono (fun e w' ⟨he,hw⟩=>⟨_,he,rfl,au hbd hw⟩)) (fun v w' ⟨_,hw⟩=>hw) ?_
         case xa17=>(go_simp;(try rfl))
         rintro _ w7 ⟨rfl,jJ⟩;simp only[ah,ai,aj];refine bB 12 132 (R:=fun v w'=>v=.tuple #[.int .i64 i1,.int .i64 0]∧Qi w6 w') (by kernel_rfl) rfl rfl rfl ?xb17 ((Kz.o _ jJ).mono (fun e w' ⟨he,hw⟩=>⟨_,he,rfl,au jJ hw⟩)) (fun v w' hw=>hw.2) ?_
         case xb17=>(go_simp;(try rfl))
         rintro v7 w8 ⟨Od,mQ⟩;subst Od;simp only[ah,ai,aj];refine aK 5 [(13,119),(14,133),(15,134),(16,13),(17,14)] (by kernel_rfl) (by kernel_rfl) rfl (fun _ _ _ _ _ h=>h) mQ ?_
         iterate 5 (apply aE rfl rfl;(· (intro w9 b8;clear b8;go_simp;(try with_reducible rfl)));simp only[ah,ai,aj])
         apply aJ;refine wpAnyH_done (by kernel_rfl) ?_ _;have HBw8:=Qf mQ;clear be hbd jJ mQ;go_upto_region 18 with fail;have hbd:Qi w6 w8.drew:=HBw8.o.drew;refine wp_region_held_drew (S:=fun w'=>Qi w6 w') (by kernel_rfl) hbd (fun be=>?_);refine aK 10 [(0,136),(1,137),(2,138),(4,140),(5,141),(6,142),(7,143),(8,144),(9,145),(10,146)] (by kernel_rfl) (by kernel_rfl) rfl (fun _ _ _ _ _ h=>h) be ?_
         iterate 10 (apply aE rfl rfl;(· (intro w9 b8;obtain⟨s1,-,-⟩:=(L3.o.c.ak b8).facts;obtain⟨s2,-,-⟩:=(L3.o.x.ak b8).facts;obtain⟨s3,s4,s5⟩:=HCy.o _ b8;clear b8;go_simp;(try with_reducible rfl)));simp only[ah,ai,aj])
         apply aJ;refine bB 3 139 (R:=fun v w'=>v=.agg #[.int .i64 u,.int .i64 g]∧Qi w6 w') (by kernel_rfl) rfl rfl rfl ?xa18 ((HCd.o _).mono (fun e w' ⟨he,hw⟩=>⟨_,he,rfl,au hbd hw⟩)) (fun v w' ⟨_,hw⟩=>hw) ?_
         case xa18=>(go_simp;(try rfl))
         rintro _ w9 ⟨rfl,jJ⟩;simp only[ah,ai,aj];refine bB 11 147 (R:=fun v w'=>v=.tuple #[.int .i64 i2,.int .i64 0]∧Qi w6 w') (by kernel_rfl) rfl rfl rfl ?xb18 ((PY.o _ jJ).mono (fun e w' ⟨he,hw⟩=>⟨_,he,rfl,au jJ hw⟩)) (fun v w' hw=>hw.2) ?_
         case xb18=>(go_simp;(try rfl))
         rintro v7 w10 ⟨Od,mQ⟩;subst Od;simp only[ah,ai,aj];refine aK 5 [(12,135),(13,148),(14,149),(15,15),(16,16)] (by kernel_rfl) (by kernel_rfl) rfl (fun _ _ _ _ _ h=>h) mQ ?_
         iterate 5 (apply aE rfl rfl;(· (intro w9 b8;clear b8;go_simp;(try with_reducible rfl)));simp only[ah,ai,aj])
         apply aJ;refine wpAnyH_done (by kernel_rfl) ?_ _;have GQ:=Qf mQ;clear be hbd jJ mQ;obtain⟨cc,cf,cz⟩:=(L3.o.c.ak GQ.o).facts;go_wp2_with fail;refine(nW.o _ GQ.o).mono ?_;rintro e w11 ⟨rfl,At⟩;have HB11:=Qf (au GQ.o At);clear cc cf cz At;go_upto_region 20 with fail;have Pk:=aw.new w11 #[.int .i64 an.no,.int .i64 an.dev,.int .i64 1,.int .i64 an.mode,.int .i64 an.uid,.int .i64 an.gid,.int .i64 an.ao,.int .i64 an.data.size,.int .i64 an.mtime,.int .i64 an.ctime] 67;have gu:=aq HB11.o (.cells #[.int .i64 an.no,.int .i64 an.dev,.int .i64 1,.int .i64 an.mode,.int .i64 an.uid,.int .i64 an.gid,.int .i64 an.ao,.int .i64 an.data.size,.int .i64 an.mtime,.int .i64 an.ctime] 67);generalize w11.alloc _=w12 at Pk gu⊢;generalize w11.heap.size=ba at Pk⊢;have HAn:=Qf Pk;have ur:=Qf gu;clear Pk gu;have hbd:Qi w12 w12.drew:=(Below.refl _ _).drew;refine wp_region_held_drew (S:=fun w'=>Qi w12 w') (by kernel_rfl) hbd (fun be=>?_);refine aK 10 [(0,157),(1,158),(2,159),(4,161),(5,162),(6,163),(7,164),(8,165),(9,166),(10,167)] (by kernel_rfl) (by kernel_rfl) rfl (fun _ _ _ _ _ h=>h) be ?_
         iterate 10 (apply aE rfl rfl;(· (intro w9 b8;obtain⟨s1,-,-⟩:=(L3.o.c.ak (au ur.o b8)).facts;obtain⟨s2,-,-⟩:=(L3.o.x.ak (au ur.o b8)).facts;obtain⟨s3,s4,s5⟩:=HCy.o _ (au ur.o b8);clear b8;go_simp;(try with_reducible rfl)));simp only[ah,ai,aj])
         apply aJ;refine bB 3 160 (R:=fun v w'=>v=.agg #[.int .i64 u,.int .i64 g]∧Qi w12 w') (by kernel_rfl) rfl rfl rfl ?xa20 ((HCd.o _).mono (fun e w' ⟨he,hw⟩=>⟨_,he,rfl,au hbd hw⟩)) (fun v w' ⟨_,hw⟩=>hw) ?_
         case xa20=>(go_simp;(try rfl))
         rintro _ w14 ⟨rfl,jJ⟩;simp only[ah,ai,aj];refine bB 11 168 (R:=fun v w'=>(∃m,v=.tuple #[.int .i64 y.size,.int .i64 m,.int .i64 0])∧Qi w12 w') (by kernel_rfl) rfl rfl rfl ?xb20 ((JM.o _ (au ur.o jJ)).mono (fun e w' ⟨m,he,hw⟩=>⟨_,he,⟨m,rfl⟩,au jJ hw⟩)) (fun v w' hw=>hw.2) ?_
         case xb20=>(go_simp;(try rfl))
         rintro v7 w15 ⟨Od,mQ⟩;obtain⟨mm,rfl⟩:=Od;simp only[ah,ai,aj];refine aK 7 [(12,156),(13,169),(14,170),(15,171),(16,19),(17,20),(18,21)] (by kernel_rfl) (by kernel_rfl) rfl (fun _ _ _ _ _ h=>h) mQ ?_
         iterate 7 (apply aE rfl rfl;(· (intro w9 b8;clear b8;go_simp;(try with_reducible rfl)));simp only[ah,ai,aj])
         apply aJ;refine wpAnyH_done (by kernel_rfl) ?_ _;have GP:=Qf mQ;clear be hbd jJ mQ;obtain⟨cc,cf,cz⟩:=(HAn.o.ak GP.o).facts;obtain⟨s3,s4,s5⟩:=HCy.o _ (au ur.o GP.o);go_wp2_with fail;go_roundw
         case measure=>simp[intOf];omega
         case rel=>exact⟨k+1,by omega,by go_num,au HBrx.o (au ur.o GP.o)⟩
       ·have hke:k=l.length:=by omega
        subst hke;have hnl:¬((l.length:Int)<(l.length:Int)):=by omega
        go_wp2_with fail;refine(P'.o _).mono ?_;rintro e wz ⟨rfl,hbz⟩;have JY:=Qf (au (au Ni.o.b A8.o) hbz);clear hbz;go_wp2_with fail;go_ret;exact⟨rfl,JY.o⟩
    ·have hgb:(ge != 0)=true:=by simpa using hge
     clear hge;have Nb:=Qf Ni.o.b
     cases hbis:bis with
     |false=>
      clear hO bU;go_wp2_with fail;refine(P'.o _).mono ?_;rintro e wz ⟨rfl,hbz⟩;have JY:=Qf (au Nb.o hbz);clear hbz;go_wp2_with fail;go_ret;exact⟨rfl,JY.o⟩
     |true=>
      clear hO bU;go_wp2_with fail;refine(P'.o _).mono ?_;rintro e wz ⟨rfl,hbz⟩;have JY:=Qf (au Nb.o hbz);clear hbz;go_wp2_with fail;go_ret;exact⟨rfl,JY.o⟩
end
section
open Go.RowKit Go.ChangeShapes Go.WideShapes Go.ChangeAt
section
variable{H:Type}{enc:TypeId×Value→H}{w:World}{base:Nat}{spare:Nat→Bool}{held:Bool}
theorem Ew{fuel:Nat}{cs:List Value}{x:DataW H×List MemPlace}(h:DataW.trod enc Tryz.prog w base spare held fuel 162 cs=some x):∃y:Int×Int,lM cs y:=by
 obtain⟨h1,n,h2⟩:=eC Tryz.underlying162 h;have hc:Tryz.prog.cellsOf 162=2:=by kernel_rfl
 have c1:Tryz.prog.cellsOf 3=1:=by kernel_rfl
 have c2:Tryz.prog.cellsOf 56=1:=by kernel_rfl
 rw[hc] at h1
 match cs,h1 with
 | [a0,a1],_=>
  obtain⟨y0,k0⟩:=h2 0 3 0 1 [a0] rfl c1 rfl;obtain⟨y1,k1⟩:=h2 1 56 1 1 [a1] rfl c2 rfl;obtain⟨n0,e0,-⟩:=dG Tryz.underlying3 k0;obtain⟨n1,e1,-⟩:=dG Tryz.underlying56 k1;simp at e0 e1;subst e0 e1;exact⟨(n0,n1),rfl⟩
end
end
section
open Go.RowKit Go.ChangeShapes Go.WideShapes Go.ChangeAt
section
variable{H:Type}{enc:TypeId×Value→H}{w:World}{base:Nat}{spare:Nat→Bool}{held:Bool}
theorem B8{fuel:Nat}{cs:List Value}{x:DataW H×List MemPlace}(h:DataW.trod enc Tryz.prog w base spare held fuel 27 cs=some x):∃u g s,cs=[.int .i64 u,.int .i64 g,.string s]∧(-9223372036854775808≤u∧u≤9223372036854775807)∧s.size≤9223372036854775807:=by
 obtain⟨h1,n,h2⟩:=eC Tryz.underlying27 h;have hc:Tryz.prog.cellsOf 27=3:=by kernel_rfl
 have c1:Tryz.prog.cellsOf 3=1:=by kernel_rfl
 have c2:Tryz.prog.cellsOf 9=1:=by kernel_rfl
 rw[hc] at h1
 match cs,h1 with
 | [a0,a1,a2],_=>
  obtain⟨y0,k0⟩:=h2 0 3 0 1 [a0] rfl c1 rfl;obtain⟨y1,k1⟩:=h2 1 3 1 1 [a1] rfl c1 rfl;obtain⟨y2,k2⟩:=h2 2 9 2 1 [a2] rfl c2 rfl;obtain⟨n0,e0,f0⟩:=dG Tryz.underlying3 k0;obtain⟨n1,e1,-⟩:=dG Tryz.underlying3 k1;obtain⟨s2,e2,h3⟩:=iE Tryz.underlying9 k2;simp at e0 e1 e2;subst e0 e1 e2;exact⟨n0,n1,s2,rfl,f0,h3⟩
theorem wm{fuel:Nat}{cs:List Value}{x:DataW H×List MemPlace}(h:DataW.trod enc Tryz.prog w base spare held fuel 30 cs=some x) :
  ∃ma mn mc ia il ic ms is u g dt pt tx no now pa pn pc pl,cs=[.slice ma mn mc,.slice ia il ic,.int .i64 u,.int .i64 g,.string dt,.string pt,.string tx,.int .i64 no,.int .i64 now,.slice pa pn pc]∧lO w ma mn mc ia il ic ms is∧bj w 2 lM pa pn pc pl∧(-9223372036854775808≤u∧u≤9223372036854775807)∧dt.size≤9223372036854775807∧pt.size≤9223372036854775807∧tx.size≤9223372036854775807:=by
 obtain⟨h1,n,h2⟩:=eC Tryz.underlying30 h;have hc:Tryz.prog.cellsOf 30=10:=by kernel_rfl
 have c1:Tryz.prog.cellsOf 25=2:=by kernel_rfl
 have c2:Tryz.prog.cellsOf 27=3:=by kernel_rfl
 have c3:Tryz.prog.cellsOf 3=1:=by kernel_rfl
 have c4:Tryz.prog.cellsOf 9=1:=by kernel_rfl
 have c5:Tryz.prog.cellsOf 28=1:=by kernel_rfl
 rw[hc] at h1
 match cs,h1 with
 | [a0,a1,a2,a3,a4,a5,a6,a7,a8,a9],_=>
  obtain⟨y0,k0⟩:=h2 0 25 0 2 [a0,a1] rfl c1 rfl;obtain⟨y1,k1⟩:=h2 1 27 2 3 [a2,a3,a4] rfl c2 rfl;obtain⟨y2,k2⟩:=h2 2 9 5 1 [a5] rfl c4 rfl;obtain⟨y3,k3⟩:=h2 3 9 6 1 [a6] rfl c4 rfl;obtain⟨y4,k4⟩:=h2 4 3 7 1 [a7] rfl c3 rfl;obtain⟨y5,k5⟩:=h2 5 3 8 1 [a8] rfl c3 rfl;obtain⟨y6,k6⟩:=h2 6 28 9 1 [a9] rfl c5 rfl;obtain⟨ma,mn,mc,ia,il,ic,ms,is,e0,hs⟩:=B9 k0;obtain⟨u,g,dt,e1,hu,hdt⟩:=B8 k1;obtain⟨s2,e2,z2⟩:=iE Tryz.underlying9 k2;obtain⟨s3,e3,z3⟩:=iE Tryz.underlying9 k3;obtain⟨n4,e4,-⟩:=dG Tryz.underlying3 k4;obtain⟨n5,e5,-⟩:=dG Tryz.underlying3 k5;obtain⟨pa,pn,pc,pl,e6,hp⟩:=pR (R:=lM) (sz:=2) Tryz.underlying28 (by kernel_rfl) (by decide) (fun fuel cs x h=>Ew h) k6;simp at e0 e1 e2 e3 e4 e5 e6;obtain⟨rfl,rfl⟩:=e0;obtain⟨rfl,rfl,rfl⟩:=e1;subst e2 e3 e4 e5 e6;exact⟨ma,mn,mc,ia,il,ic,ms,is,u,g,dt,s2,s3,n4,n5,pa,pn,pc,pl,rfl,hs,hp,hu,hdt,z2,z3⟩
end
end
namespace cacheSizes
open Go.ChangeShapes Go.WideShapes Go.ChangeAt Go.RowKit
theorem own:ownKnob Tryz.prog.godebug=none:=by kernel_rfl
theorem laidOut:laidOutB Tryz.prog=true:=by kernel_rfl
theorem lifted(os:Os)(started:os.Started)(H:Type)(enc:TypeId×Value→H) :
  ReturnsInHanded {} Tryz.checked os 3 .any (Rows.cacheSizesSpec.pre6 enc Tryz.prog Tryz.f3 Rows.cacheSizesRow.domain false) (Rows.cacheSizesSpec.post enc Tryz.prog Tryz.f3 false true false false):=by
 refine returnsInHanded_of_change (C:=Tryz.checked) own started (by kernel_rfl) Tryz.func3
  (ChangeSpec.witness6 (enc:=enc) (C:=Tryz.checked) false ⟨#[],#[.agg #[.slice none 0 0,.slice none 0 0,.int .i64 0,.int .i64 0,.string ByteArray.empty,.string ByteArray.empty,.string ByteArray.empty,.int .i64 0,.int .i64 0,.slice none 0 0],.slice none 0 0],[]⟩ 8 (by kernel_rfl) (by kernel_rfl) (by kernel_rfl) (by kernel_rfl)) ?_
 intro W base args ds gs before Kb hW hcnd _;have hval:∀(j:Nat) t v,Tryz.f3.params[j]?=some t→args[j]?=some v→Value.okWide Tryz.prog W .any base t v:=Kb;have hW':=hW;obtain⟨p,q,hA0,hV,rfl,hfz,hnd⟩:=hW;have hA:DataW.TrodAll enc Tryz.prog W 0 (fun _=>true) true Tryz.f3.params.toList args.toList ds p:=hA0;rw[Tryz.params3] at hA hval;have kX:=hA;obtain⟨v0,vs0,d0,ds0,p0,q0,hargs,rfl,rfl,h0,r0⟩:=trodAll_cons hA;obtain⟨v1,vs1,d1,ds1,p1,q1,rfl,rfl,rfl,h1,r1⟩:=trodAll_cons r0;obtain⟨rfl,rfl,rfl⟩:=trodAll_nil r1;obtain rfl:args=#[v0,v1]:=by cases args;simp_all
 obtain⟨rfl,rfl⟩:=trodVars_none hV;obtain⟨cs,rfl,hsz,hok⟩:=Ck Tryz.underlying30 (hval 0 30 v0 rfl rfl);obtain⟨ma,mn,mc,ia,il,ic,ms,is,u,g,dt,pt,tx,no,now,pa,pn,pc,pl,e,hsd,hsp,hu,-⟩:∃ma mn mc ia il ic ms is u g dt pt tx no now pa pn pc pl,cs=#[.slice ma mn mc,.slice ia il ic,.int .i64 u,.int .i64 g,.string dt,.string pt,.string tx,.int .i64 no,.int .i64 now,.slice pa pn pc]∧lO W ma mn mc ia il ic ms is∧bj W 2 lM pa pn pc pl∧(-9223372036854775808≤u∧u≤9223372036854775807)∧dt.size≤9223372036854775807∧pt.size≤9223372036854775807∧tx.size≤9223372036854775807:=by
  obtain⟨fuel,hf⟩:=h0;obtain⟨ma,mn,mc,ia,il,ic,ms,is,u,g,dt,pt,tx,no,now,pa,pn,pc,pl,e,h⟩:=wm hf;exact⟨ma,mn,mc,ia,il,ic,ms,is,u,g,dt,pt,tx,no,now,pa,pn,pc,pl,Array.ext' e,h⟩
 subst e;obtain⟨a2,len2,cap2,rfl⟩:=okWide_slice Tryz.underlying31 (hval 1 31 v1 rfl rfl);obtain⟨a',len',cap',zs,e,hz⟩:∃a len cap zs,[Value.slice a2 len2 cap2]=[.slice a len cap]∧bj W 3 K0 a len cap zs:=by
  obtain⟨fuel,hf⟩:=h1;exact pR (R:=K0) Tryz.underlying31 (by kernel_rfl) (by decide) (fun fuel cs x h=>Ca h) hf
 simp only[List.cons.injEq,Value.slice.injEq,and_true] at e;obtain⟨rfl,rfl,rfl⟩:=e;clear hA0 Kb;refine(r' W hsd u g hu.1 hu.2 dt pt tx no now hsp hz).mono fun e W' ⟨he,bel⟩=>?_;subst he;exact⟨_,rfl,_,_,_,[],_,[],hW',trodAll_mk1 (shut_bool Tryz.underlying4 _),lW laidOut bel _ _ _ _ (by kernel_rfl) kX,rfl,bel.frame _,fun h=>by cases h⟩
theorem proved:Rows.CacheSizesSaid:=
 OpenClaim.holds_of_wide 3 Tryz.f3 rfl rfl rfl rfl rfl rfl rfl ⟨rfl,rfl,rfl,rfl,rfl⟩ rfl rfl rfl rfl rfl (by kernel_rfl) Tryz.func3 (by kernel_rfl)
  (of_decide_eq_true (by kernel_rfl)) (by unfold Func.isWrapper;first|(rw[if_pos (by decide +kernel)];kernel_rfl)|(rw[if_neg (by decide +kernel)];exact⟨rfl,rfl⟩))
  (fun os started H enc _=>lifted os started H enc)
#print axioms proved
end cacheSizes
end Go.Proofs.YtabbjaomlmnnhaaGreat
