import Derived.BigQuiet
import Derived.Test.YtabbjaomlmnnhaaGreatCO20
import Derived.Test.YtabbjaomlmnnhaaGreatCO17
import Derived.Test.YtabbjaomlmnnhaaGreatCO3
import Derived.Test.YtabbjaomlmnnhaaGreatCO12
import Derived.Test.YtabbjaomlmnnhaaGreatCO7
import Derived.Test.YtabbjaomlmnnhaaGreatCO13
import Derived.Test.YtabbjaomlmnnhaaGreatCO15
import Derived.Test.YtabbjaomlmnnhaaGreatCO8
import Derived.Test.YtabbjaomlmnnhaaGreatCO1
import Derived.Test.YtabbjaomlmnnhaaGreatCO6
import Derived.Test.YtabbjaomlmnnhaaGreatCO18
import Derived.Test.YtabbjaomlmnnhaaGreatCO2
import Derived.Test.YtabbjaomlmnnhaaGreatCO16
import Derived.Test.YtabbjaomlmnnhaaGreatCO19
import Derived.Test.YtabbjaomlmnnhaaGreatCO11
import Derived.Test.YtabbjaomlmnnhaaGreatCO5
import Derived.Test.YtabbjaomlmnnhaaGreatCO9
set_option linter.unusedVariables false
set_option linter.unusedSimpArgs false
set_option maxRecDepth 100000
set_option maxHeartbeats 16000000
namespace Go.Proofs.YtabbjaomlmnnhaaGreat
open Go.Value renaming int→UE,string→UF,slice→UG,pointer→UH,agg→UJ,tuple→UK
open Go.IntKind renaming i64→UL
section
open Go.RowKit
attribute [local go_sem] Oper.semAt_some
theorem tv{S:Fs}(hp:Pl S)(c:Cr)(no:Int):∀y∈(S.cE false c no).1,y.name.size≤255:=by
 intro y hy;unfold Fs.cE at hy;rw[if_neg (by decide)] at hy
 split at hy
 ·cases hy
 ·obtain⟨e,he,rfl⟩:=List.mem_map.1 hy;unfold Fs.aI at he
  cases hg:S.get no with
  |none=>rw[hg] at he;cases he
  |some a=>rw[hg] at he;exact(hp.names a (aO hg) e he).2
theorem rV.base{w:World}{B B':Nat}{v:Value}{l:List Ln}(h:rV w B v l)(hb:B'≤B):rV w B' v l:=
 ⟨h.1,h.2.imp id fun⟨g,cap,cur,h1,h2,h3⟩=>⟨g,cap,cur,h1,ae hb h2,h3⟩⟩
theorem MX{α β:Type}(f:α→Option β)(l:List α)(k:Nat)(hk:k<l.length):(l.take (k+1)).filterMap f=(l.take k).filterMap f++(match f l[k] with|some b=>[b]|none=>[]):=by
 rw[List.take_succ_eq_append_getElem hk,List.filterMap_append];congr 1
 cases h:f l[k] with
 |none=>simp[h]
 |some b=>simp[h]
structure TJ(w':World)(bc bx yb:Nat)(c:Cr)(x:Cn)(y:En):Prop where
 c:ax w' bc #[UE UL c.u,UE UL c.g] 64
 x:ax w' bx #[UF x.path,UE UL x.dir,UE UL x.info,UE UL x.files,UE UL x.out,UE UL x.jC,UF x.top] 48
 y:ax w' yb #[UF y.name,UE UL y.no] 98
theorem TJ.an{w w':World}{bc bx yb:Nat}{c:Cr}{x:Cn}{y:En}(h:TJ w bc bx yb c x y)(hb:UA w w'):TJ w' bc bx yb c x y:=⟨h.c.an hb,h.x.an hb,h.y.an hb⟩
section
variable{w w':World}{pf pw:Nat}{R:Rp}{pv:Value}{Y:Sy}
theorem um(h:bm w pf pw R pv Y){N:Nat}(hF:dE Y.fs N)(hN:N≤900)(hd:Y.dead=false)(u:Us)(x:Cn) :
  Calls Tryz.prog 11 #[UH (some ⟨pf,0,none⟩),UJ #[UE UL u.u,UE UL u.g,UF u.data],UJ #[UF x.path,UE UL x.dir,UE UL x.info,UE UL x.files,UE UL x.out,UE UL x.jC,UF x.top]] w fun e w'=>
   ∃v,e=.returned (UK #[v,UE UL (Y.fs.b9 N Y.dead u.c x).2])∧rV w' w.heap.size v (Y.fs.b9 N Y.dead u.c x).1∧UA w w':=by
 obtain⟨hU,hX,hb⟩:=iJ w #[UE UL u.u,UE UL u.g,UF u.data] #[UF x.path,UE UL x.dir,UE UL x.info,UE UL x.files,UE UL x.out,UE UL x.jC,UF x.top] 27 48;have HL:=Ux (fun w1 (av:UA w w1)=>vC (h.an av) hF.ok (by omega) u.c x.files);have HS:=Ux (fun w1 (av:UA w w1) k=>nK (h.an av) hF.ok hd k);have HK:=Ux (fun w1 (av:UA w w1) dir n=>iD (h.an av) hF.ok (by omega) u.c dir n);have HT:=Ux (fun w1 (av:UA w w1) n=>Ez (h.an av) hF hN hd u.c x.files n);rw[hd] at HL HK HT;have vn:=Ux (tv hF.pl u.c x.files);have Rj:=Ux (Ax (S:=Y.fs) (c:=u.c) (no:=x.files));have uE:=Ux (Aw hF.ok u.c x.files);have HI:=Ux (show Y.fs.b9 N Y.dead u.c x=if(Y.fs.cE false u.c x.files).2≠0 then([],(Y.fs.cE false u.c x.files).2) else((Y.fs.cE false u.c x.files).1.filterMap (Y.fs.jj N u.c x),0) from by rw[hd];rfl);have HF:=Ux (show∀y,Y.fs.jj N u.c x y=if(Y.fs.bG y.no).kind=1∧(Y.fs.aQ false u.c x.info (y.name++dQ)).2=0∧(Y.fs.iP N false u.c x.files y.name).2=0 then some ⟨(Y.fs.iP N false u.c x.files y.name).1,(Y.fs.bG (Y.fs.aQ false u.c x.info (y.name++dQ)).1).mtime,y.name⟩ else none from fun _=>rfl);generalize Y.fs.b9 N Y.dead u.c x=rd at HI⊢;generalize Y.fs.cE false u.c x.files=L at HL Rj uE HI vn;obtain⟨L,le⟩:=L;dsimp only at HL Rj uE HI vn;have ec:(⟨u.u,u.g⟩:Cr)=u.c:=rfl;have ec1:u.c.u=u.u:=rfl;have ec2:u.c.g=u.g:=rfl;clear h hF;go_enter Tryz.func11,Tryz.ntmps11;go_upto_region 1 with fail;generalize World.alloc _ _=X at hU hX hb⊢;obtain⟨uc,uf,uz⟩:=hU.facts;have H0:=Ux (ag hX hb);clear hU hX hb;go_wp2_with fail;refine(fi u.u u.g u.data _).mono ?_;rintro e w1 ⟨rfl,av⟩;have nb:=H0.o.1.an av;obtain⟨wC,lP⟩:=Uz w1 #[UE UL u.u,UE UL u.g] 64;have fR:=ar H0.o.2 av;have hxlt:=nb.lt;clear uc uf uz av;go_upto_region 2 with fail;have mU:=nb.an lP;have dR:=ar fR lP;generalize w1.alloc _=w2 at wC mU dR⊢;generalize w1.heap.size=bc at wC hxlt⊢;have H2:=Ux (ag mU (ag wC dR));obtain⟨cc,cf,cz⟩:=wC.facts;obtain⟨xc,xf,xz⟩:=mU.facts;clear nb fR lP wC mU dR;go_wp2_with fail;refine(HL.o _ H2.o.2.2).mono ?_;rintro e w3 ⟨lv,rfl,hO,cl⟩;have P7:=Ux (H2.o.1.an cl);have Lc:=Ux (H2.o.2.1.an cl);have gn:=Ux (ar H2.o.2.2 cl);have ei:=Ux (ag H2.o.2.2.size (ag H2.o.1.lt H2.o.2.1.lt));have Es:=Ux hO;have h23:=cl.size;clear cc cf cz xc xf xz cl hO;by_cases h5:le≠0
 ·have hv5:(le != 0)=true:=by simpa using h5
  have hE:=HI.o;rw[if_pos h5] at hE;subst hE;clear h5;go_wp2_with fail;go_ret2;exact⟨_,rfl,rV.nil _ _,gn.o⟩
 ·obtain rfl:le=0:=by simpa using h5
  have hE:=HI.o;rw[if_neg (by decide)] at hE;subst hE;clear h5;obtain⟨a,ca,rfl,-⟩:=bQ Es.o;go_wp2_with fail
  go_loopw [11,38] (fun t11 t38 wr=>∃k:Nat,k≤L.length∧t38=UE UL k∧rV wr w2.heap.size t11 ((L.take k).filterMap (Y.fs.jj N u.c x))∧OE wr w2.heap.size (UG a L.length ca) L∧
   ax wr (w.heap.size+1) #[UF x.path,UE UL x.dir,UE UL x.info,UE UL x.files,UE UL x.out,UE UL x.jC,UF x.top] 48∧ax wr bc #[UE UL u.u,UE UL u.g] 64∧UA w wr∧w3.heap.size≤wr.heap.size) (fun _ t38 _=>L.length-(intOf t38).toNat)
  case atStart=>exact⟨0,Nat.zero_le _,rfl,rV.nil _ _,Es.o,P7.o,Lc.o,gn.o,aa _⟩
  case round=>
   obtain⟨k,hkl,rfl,uJ,p',nb,wC,fR,h3r⟩:=hrel;by_cases hlt:k<L.length
   ·obtain⟨b,off,rfl,hbl⟩:=(OE.at p').ej (by omega);obtain⟨c1,c2⟩:=(OE.at p').cell k hlt;have hym:=vn.o L[k] (List.getElem_mem hlt);have hft:=MX (Y.fs.jj N u.c x) L k hlt;obtain⟨y,hy⟩:∃y,L[k]=y:=⟨_,rfl⟩;rw[hy] at c1 c2 hym hft;have SW:=ax.new wr #[UF y.name,UE UL y.no] 98;have eT:=(UB wr).alloc (aa _) (.cells #[UF y.name,UE UL y.no] 98);go_upto_region 9 with fail;generalize wr.alloc _=V at SW eT⊢;have lV:=uJ.an eT;have mu:=OE.an p' eT;have j7:TJ V bc (w.heap.size+1) wr.heap.size u.c x y:=⟨wC.an eT,nb.an eT,SW⟩;have dR:=ar fR eT;have h3V:w3.heap.size≤V.heap.size:=ae h3r eT.size;generalize wr.heap.size=yb at SW j7⊢;have Rb:=Ux (HS.o V dR y.no);have HKi:=Ux (fun w1 (av:UA w w1)=>HK.o w1 av x.info (y.name++dQ));have HSi:=Ux (fun w1 (av:UA w w1)=>HS.o w1 av (Y.fs.aQ false u.c x.info (y.name++dQ)).1);have Q8:=Ux (fun w1 (av:UA w w1)=>HT.o w1 av y.name);have MH:=HF.o y;have hOl:((L.take k).filterMap (Y.fs.jj N u.c x)).length≤k:=ae (List.length_filterMap_le _ _) (by rw[List.length_take];omega);generalize hO':(L.take (k+1)).filterMap (Y.fs.jj N u.c x)=O' at hft;have On:=Ux hO';clear hO';generalize (L.take k).filterMap (Y.fs.jj N u.c x)=O at hft hOl lV;generalize Y.fs.jj N u.c x y=ln at MH hft;generalize Y.fs.aQ false u.c x.info (y.name++dQ)=lk at MH HKi HSi;obtain⟨ik,ie⟩:=lk;dsimp only at MH HKi HSi;generalize Y.fs.iP N false u.c x.files y.name=tr at MH Q8;obtain⟨ts,te⟩:=tr;generalize Y.fs.bG y.no=a1 at MH Rb;generalize Y.fs.bG ik=a2 at MH HSi;dsimp only at MH Q8;have HFy:=Ux MH;have HFt:=Ux hft;have jX:=Ux hlt;have hk9:k≤999999:=by have:=uE.o;omega
    have H3:=Ux (ag lV (ag mu (ag j7 (ag dR (ag h3V hOl)))));obtain⟨yc,yf,yz⟩:=SW.facts;clear c1 c2 uJ p' nb wC fR eT SW lV mu j7 dR MH hft hOl h3V;go_wp2_with fail;refine Rb.o.mono ?_;rintro e V1 ⟨rfl,CW⟩;have hA:=ax.new V1 #[UE UL a1.no,UE UL a1.dev,UE UL a1.kind,UE UL a1.mode,UE UL a1.uid,UE UL a1.gid,UE UL a1.ak,UE UL a1.data.size,UE UL a1.mtime,UE UL a1.ctime] 67;have jb:=ao CW (.cells #[UE UL a1.no,UE UL a1.dev,UE UL a1.kind,UE UL a1.mode,UE UL a1.uid,UE UL a1.gid,UE UL a1.ak,UE UL a1.data.size,UE UL a1.mtime,UE UL a1.ctime] 67);clear yc yf yz;go_upto_region 10 with fail;generalize V1.alloc _=V2 at hA jb⊢;generalize V1.heap.size=ab at hA⊢;have hSV:=H3.o.2.2.1.an jb;have H4:=Ux (ag hA (ag hSV jb));have tK:UA w V2:=ar H3.o.2.2.2.1 jb;have hbd:UA V2 V2.drew:=(Below.refl _ _).drew;clear hA CW jb;refine wp_region_held_drew (S:=fun w'=>TJ w' bc (w.heap.size+1) yb u.c x y) (by kernel_rfl) (hSV.an hbd) (fun bj=>?_);refine aL 6 [(0,50),(1,51),(2,52),(3,53),(4,54),(5,55)] (by kernel_rfl) (by kernel_rfl) rfl (fun _ _ _ _ _ h=>h) bj ?_
    iterate 6 (apply aF rfl rfl;(· (intro w9 cL;obtain⟨s1,-,-⟩:=cL.c.facts;obtain⟨s2,-,-⟩:=cL.x.facts;obtain⟨s3,-,-⟩:=cL.y.facts;clear cL;go_simp;(try with_reducible rfl)));simp only[ah,ai,aj])
    refine aK ?_;refine bN 6 56 (R:=fun v w'=>v=UF (y.name++dQ)∧w'=V2.drew) (by kernel_rfl) rfl rfl rfl ?xa ((GD y.name (by omega) V2.drew).mono (fun e w' ⟨he,hw⟩=>⟨_,he,rfl,hw.symm⟩)) (fun v w' ⟨_,hw⟩=>by rw[hw];exact bj) ?_
    case xa=>(go_simp;(try rfl))
    rintro _ _ ⟨rfl,rfl⟩;simp only[ah,ai,aj];refine bN 7 57 (R:=fun v w'=>v=UK #[UE UL ik,UE UL ie]∧Below V2.drew.heap.size V2.drew w') (by kernel_rfl) rfl rfl rfl ?xb ((HKi.o _ (ar tK hbd)).mono (fun e w' ⟨he,hw⟩=>⟨_,he,rfl,hw⟩)) (fun v w' ⟨_,hw⟩=>bj.an hw) ?_
    case xb=>(go_simp;(try rfl))
    rintro _ V5 ⟨rfl,cK⟩;simp only[ah,ai,aj];have lW:=bj.an cK;refine aL 5 [(8,49),(9,58),(10,59),(11,16),(12,17)] (by kernel_rfl) (by kernel_rfl) rfl (fun _ _ _ _ _ h=>h) lW ?_
    iterate 5 (apply aF rfl rfl;(· (intro w9 cL;obtain⟨s1,-,-⟩:=cL.c.facts;obtain⟨s2,-,-⟩:=cL.x.facts;obtain⟨s3,-,-⟩:=cL.y.facts;clear cL;go_simp;(try with_reducible rfl)));simp only[ah,ai,aj])
    refine aK ?_;refine wpAnyH_done (by kernel_rfl) ?_ _;have Mq:=ar hbd cK;have hA5:=H4.o.1.an Mq;have H5:=Ux (ag hA5 (ag lW (ag (ar H4.o.2.2 Mq) (ar tK Mq))));obtain⟨ac,af,az⟩:=hA5.facts;clear hSV hbd tK bj lW Mq hA5 cK;by_cases gv:a1.kind=1
    ·have uT:(a1.kind != 1)=false:=by simpa using gv
     by_cases gM:ie=0
     ·have rL:(ie != 0)=false:=by simpa using gM
      have Qm:=Ux (ag gv gM);subst gM;clear gv;go_wp2_with fail;refine(HSi.o _ H5.o.2.2.2).mono ?_;rintro e V6 ⟨rfl,fp⟩;have F8:=ax.new V6 #[UE UL a2.no,UE UL a2.dev,UE UL a2.kind,UE UL a2.mode,UE UL a2.uid,UE UL a2.gid,UE UL a2.ak,UE UL a2.data.size,UE UL a2.mtime,UE UL a2.ctime] 67;have mZ:=ao fp (.cells #[UE UL a2.no,UE UL a2.dev,UE UL a2.kind,UE UL a2.mode,UE UL a2.uid,UE UL a2.gid,UE UL a2.ak,UE UL a2.data.size,UE UL a2.mtime,UE UL a2.ctime] 67);clear ac af az;go_upto_region 13 with fail;generalize V6.alloc _=V7 at F8 mZ⊢;generalize V6.heap.size=wb at F8⊢;have jf:=H5.o.2.1.an mZ;have H7:=Ux (ag F8 (ag jf (ag (ar H5.o.2.2.1 mZ) (ar H5.o.2.2.2 mZ))));obtain⟨sc,sf,sz⟩:=jf.c.facts;obtain⟨xc,xf,xz⟩:=jf.x.facts;obtain⟨yc,yf,yz⟩:=jf.y.facts;clear F8 mZ fp jf;go_wp2_with fail;refine(Q8.o _ H7.o.2.2.2).mono ?_;rintro e V8 ⟨tm,rfl,rl⟩;have C2:=H7.o.2.1.an rl;have Mv:=H7.o.1.an rl;have H8:=Ux (ag C2 (ag (ar H7.o.2.2.1 rl) (ar H7.o.2.2.2 rl)));clear sc sf sz xc xf xz yc yf yz rl;by_cases im:te=0
      ·subst im;have HN:=Ux (show O'=O++[⟨ts,a2.mtime,y.name⟩] by rw[HFt.o,HFy.o,if_pos (by simp[Qm.o.1])]);obtain⟨yc,yf,yz⟩:=C2.y.facts;obtain⟨wc,wf,wz⟩:=Mv.facts;have QP:=H3.o.1.an H8.o.2.1;have QU:=OE.an H3.o.2.1 H8.o.2.1;have PX:w2.heap.size≤V8.heap.size:=by have:=H3.o.2.2.2.2.1;have:=H8.o.2.1.size;omega
       obtain⟨g,cap,W,hr,N6,JN⟩:=QP.app ⟨ts,a2.mtime,y.name⟩ (by have:=H3.o.2.2.2.2.2;omega) PX;have HA:=Ux hr;have hx2:=ei.o;have HW:=Ux (ag (show rV W w2.heap.size _ O' by rw[HN.o];exact N6) (ag (bY QU JN (fun q hq=>vV QP QU (by decide) hq)) (ag (C2.x.mod JN (fun hq=>by have:=(aH QP hq).1;omega)) (ag (C2.c.mod JN (fun hq=>by have:=(aH QP hq).1;omega))
        (ag (H8.o.2.2.trans (JN.below (fun q hq=>ae ei.o.1 (aH QP hq).1) H8.o.2.2.size)) (ae H3.o.2.2.2.2.1 (ae H8.o.2.1.size JN.size)))))))
       clear hr N6 JN QP QU C2 Mv PX hx2;go_wp2_with (at_builtin;refine aT rfl rfl rfl rfl HA.o ?_);go_roundw
       case rel=>exact⟨k+1,by have:=jX.o;omega,by go_num,by rw[On.o];exact HW.o.1,HW.o.2.1,HW.o.2.2.1,HW.o.2.2.2.1,HW.o.2.2.2.2.1,HW.o.2.2.2.2.2⟩
       case measure=>
        have:=jX.o;simp[intOf];omega
      ·have HN:=Ux (show O'=O by rw[HFt.o,HFy.o,if_neg (fun h=>im h.2.2),List.append_nil]);have KQ:(te==0)=false:=by simpa using im
       clear im C2 Mv;go_wp2_with fail;go_roundw
       case rel=>exact⟨k+1,by have:=jX.o;omega,by go_num,by rw[On.o,HN.o];exact H3.o.1.an H8.o.2.1,OE.an H3.o.2.1 H8.o.2.1,H8.o.1.x,H8.o.1.c,H8.o.2.2,ae H3.o.2.2.2.2.1 (H8.o.2.1).size⟩
       case measure=>
        have:=jX.o;simp[intOf];omega
     ·have HN:=Ux (show O'=O by rw[HFt.o,HFy.o,if_neg (fun h=>gM h.2.1),List.append_nil]);have rL:(ie != 0)=true:=by simpa using gM
      clear gv gM;go_wp2_with fail;go_roundw
      case rel=>exact⟨k+1,by have:=jX.o;omega,by go_num,by rw[On.o,HN.o];exact H3.o.1.an H5.o.2.2.1,OE.an H3.o.2.1 H5.o.2.2.1,H5.o.2.1.x,H5.o.2.1.c,H5.o.2.2.2,ae H3.o.2.2.2.2.1 (H5.o.2.2.1).size⟩
      case measure=>
       have:=jX.o;simp[intOf];omega
    ·have HN:=Ux (show O'=O by rw[HFt.o,HFy.o,if_neg (fun h=>gv h.1),List.append_nil]);have uT:(a1.kind != 1)=true:=by simpa using gv
     clear gv;go_wp2_with fail;go_roundw
     case rel=>exact⟨k+1,by have:=jX.o;omega,by go_num,by rw[On.o,HN.o];exact H3.o.1.an H5.o.2.2.1,OE.an H3.o.2.1 H5.o.2.2.1,H5.o.2.1.x,H5.o.2.1.c,H5.o.2.2.2,ae H3.o.2.2.2.2.1 (H5.o.2.2.1).size⟩
     case measure=>
      have:=jX.o;simp[intOf];omega
   ·obtain rfl:k=L.length:=by omega
    have Qj:=Ux uJ;have rF:=Ux fR;clear uJ p' nb wC fR;go_wp2_with fail;go_ret2;refine⟨_,rfl,?_,rF.o⟩;have:=Qj.o;rw[List.take_length] at this;exact this.base ei.o.1
end
end
section
open Go.RowKit
def nE(c:Cr)(d n:An):Bool:=decide (d.mode<512)||gL c d||gL c n
def Fs.dq(S:Fs)(c:Cr)(dir:Int)(s:ByteArray):Int:=
 if S.aX c dir s≠0 then S.aX c dir s else
 match S.get dir with
 |none=>5
 |some d=>match S.get (aw d.au s) with
  |none=>5
  |some n=>if S.aB n.no≠n.no then 16 else if nE c d n=false then 4 else 0
def Fs.jk(S:Fs)(n:An):Fs:=
 if S.root n.dev=n.no then S else
 match S.dev n.dev with
 |none=>S.del n.no
 |some v=>(S.aP n.dev {v with b:=BM v.b v.n v.mb v.mn (-cF n.kind n.data.size) (-1),n:=BL v.b v.n v.mb v.mn (-cF n.kind n.data.size) (-1)}).del n.no
def Fs.eF(S:Fs)(now:Int)(n:An):Fs:=
 if n.ak-1≤0 then(S.set {n with ak:=n.ak-1,ctime:=now}).jk {n with ak:=n.ak-1,ctime:=now} else S.set {n with ak:=n.ak-1,ctime:=now}
def Fs.mw(S:Fs)(now:Int)(d n:An)(s:ByteArray):Fs:=(S.aE now d.no (aM d.au s)).eF now n
def Fs.cA(S:Fs)(c:Cr)(now dir:Int)(s:ByteArray):Fs×Int:=
 if S.dq c dir s≠0 then(S,S.dq c dir s) else
 match S.get dir,S.get (aw (S.aI dir) s) with
 |some d,some n=>if n.kind=1 then(S,8) else(S.mw now d n s,0)
 |_,_=>(S,5)
def Fs.rmdirF(S:Fs)(c:Cr)(now dir:Int)(s:ByteArray):Fs×Int:=
 if S.dq c dir s≠0 then(S,S.dq c dir s) else
 match S.get dir,S.get (aw (S.aI dir) s) with
 |some d,some n=>if n.kind≠1 then(S,9) else if n.au≠[] then(S,10) else(S.mw now d n s,0)
 |_,_=>(S,5)
theorem ay.del{S:Fs}{N:Nat}(h:ay S N)(k:Int):ay (S.del k) N:=by
 refine⟨⟨?_,fun x hx=>?_⟩,h.l0,h.lN,fun a ha=>?_,h.d1,h.d8,h.root⟩
 ·unfold Fs.del;exact List.Pairwise.sublist (List.Sublist.map _ List.filter_sublist) h.nums.dB
 ·exact h.nums.low x (List.mem_filter.1 hx).1
 ·exact h.all a (List.mem_filter.1 ha).1
theorem lF{S:Fs}{k q:Int}:(S.del k).get q=if q=k then none else S.get q:=by
 show(List.filter _ S.ns).find? _=_;rw[List.find?_filter];by_cases h:q=k
 ·rw[if_pos h,List.find?_eq_none];intro a _;subst h;simp
 ·rw[if_neg h];show _=S.ns.find? _;congr 1;funext a;by_cases h2:a.no=q
  ·subst h2;simp[h]
  ·simp[h2]
theorem ay.jk{S:Fs}{N:Nat}(h:ay S N)(n:An):ay (S.jk n) N:=by
 unfold Fs.jk
 split
 ·exact h
 ·split
  ·exact h.del _
  ·rename_i v hv;exact(h.aP (u:={v with b:=BM v.b v.n v.mb v.mn (-cF n.kind n.data.size) (-1),n:=BL v.b v.n v.mb v.mn (-cF n.kind n.data.size) (-1)}) hv rfl).del _
theorem ay.eF{S:Fs}{N:Nat}(h:ay S N)(now:Int){n:An}(hn:rG n S.ds.length N)(hl:1≤n.ak):ay (S.eF now n) N:=by
 have h1:ay (S.set {n with ak:=n.ak-1,ctime:=now}) N:=h.set ⟨hn.dB,hn.lR,hn.dev,by have:=hn.ak;show 0≤n.ak-1∧n.ak-1≤1000;omega,hn.data,hn.mode,hn.kind,hn.nz,hn.sy⟩;unfold Fs.eF
 split
 ·exact h1.jk _
 ·exact h1
theorem kJ{l:List En}(h:fL l)(s:ByteArray):fL (aM l s):=List.Pairwise.sublist List.filter_sublist h
end
section
open Go.RowKit
def Fs.kC(S:Fs)(c:Cr)(t n bI:An):Int:=
 if S.aB bI.no≠bI.no then 16 else if n.kind=1∧bI.kind≠1 then 9 else if n.kind≠1∧bI.kind=1 then 8 else if bI.au≠[] then 10 else if nE c t bI=false then 4 else 0
def Fs.gp(S:Fs)(c:Cr)(src dst:Int)(d n t:An)(bI:Option An):Int×Bool:=
 if d.dev≠t.dev then(11,false) else if n.kind=1∧S.dI n.no (S.ns.length+1) dst=true then(17,false)
 else if bI.any (fun o=>o.no==n.no)=true then(0,true) else if n.kind=1∧src≠dst∧n.may c 2=false then(6,false)
 else match bI with
  |none=>(0,false)
  |some o=>(S.kC c t n o,false)
def Fs.shift(S:Fs)(now src:Int)(a:ByteArray)(dst:Int)(b:ByteArray)(d n:An)(bI:Option An):Fs:=
 let S1:=match bI with|none=>S|some o=>S.eF now o
 let S2:=S1.aE now src (aM d.au a)
 let S3:=S2.aE now dst (aV (S2.aI dst) b n.no)
 S3.set {n with ctime:=now,up:=if n.kind=1 then dst else n.up}
def Fs.dP(S:Fs)(c:Cr)(now src:Int)(a:ByteArray)(dst:Int)(b:ByteArray):Fs×Int:=
 if S.dq c src a≠0 then(S,S.dq c src a) else if S.aX c dst b≠0 then(S,S.aX c dst b) else
 match S.get src,S.get (aw (S.aI src) a),S.get dst with
 |some d,some n,some t=>
  if(S.gp c src dst d n t (S.get (aw t.au b))).1≠0 then(S,(S.gp c src dst d n t (S.get (aw t.au b))).1)
  else if(S.gp c src dst d n t (S.get (aw t.au b))).2=true then(S,0)
  else(S.shift now src a dst b d n (S.get (aw t.au b)),0)
 |_,_,_=>(S,5)
theorem zB(S:Fs)(now k:Int)(l:List En):(S.aE now k l).ds=S.ds:=by unfold Fs.aE;split<;>rfl
theorem MY{S:Fs}{N:Nat}(h:ay S N)(k:Int):fL (S.aI k)∧(S.aI k).length≤N∧∀x∈S.aI k,1≤x.no:=by
 unfold Fs.aI
 cases hg:S.get k with
 |none=>exact⟨List.Pairwise.nil,Nat.zero_le _,fun x hx=>by cases hx⟩
 |some d=>
  obtain⟨ho,-⟩:=h.get hg;exact⟨ho.dB,ho.lR,ho.nz⟩
end
section
open Go.RowKit
def wI(n:An)(data:ByteArray):Int:=cF 2 data.size-cF 2 n.data.size
def Fs.fill(S:Fs)(c:Cr)(now no:Int)(data:ByteArray):Fs×Int:=
 match S.get no with
 |none=>(S,5)
 |some n=>
  if n.kind=1 then(S,8) else if n.kind≠2 then(S,1) else if n.may c 2=false then(S,6) else if 1048576<data.size then(S,3) else
  match S.dev n.dev with
  |none=>(S,1)
  |some v=>
   if lT v.b v.n v.mb v.mn (wI n data) 0≠0 then(S,lT v.b v.n v.mb v.mn (wI n data) 0)
   else((S.aP n.dev {v with b:=v.b+wI n data}).set {n with data:=data,mtime:=now,ctime:=now},0)
def Sy.fillF(Y:Sy)(c:Cr)(no:Int)(data:ByteArray):Sy×Int:=Y.fN (fun S now=>S.fill c now no data)
end
section
open Go.RowKit
def Fs.fillW(S:Fs)(n:An)(v:Dv)(data:ByteArray):Fs×Int:=
 if lT v.b v.n v.mb v.mn (wI n data) 0≠0 then(S,lT v.b v.n v.mb v.mn (wI n data) 0)
 else((S.aP n.dev {v with b:=v.b+wI n data}).set {n with data:=data},0)
theorem bB.node{w w':World}{pw:Nat}{R:Rp}{S:Fs}(h:bB w pw R S){B:Nat}{vs:Array Value}(hB:ax w B vs 149)(hm:Mod (fun k=>k=B) w w'):bB w' pw R S:=
 h.mod hm (fun k o hk ho=>by
  subst hk;unfold ax at hB;rw[hB] at ho;injection ho with ho;subst ho;exact⟨rfl,fun cur e=>by injection e with _ e;exact absurd e (by decide)⟩)
theorem aA.node{w w':World}{a:Option Addr}{n c:Nat}{es:List En}(he:aA w a n c es){B:Nat}{vs:Array Value}(hB:ax w B vs 149)(hm:Mod (fun k=>k=B) w w'):aA w' a n c es:=
 he.gw (fun b cur hb=>hm.block b (Array.getElem?_eq_some_iff.1 hb).1 (fun e=>by
  subst e;unfold ax at hB;rw[hB] at hb;injection hb with hb;injection hb with _ hb;exact absurd hb (by decide))) hm.size
section
variable{w w':World}{pw:Nat}{R:Rp}{S:Fs}
end
end
section
open Go.RowKit
section
variable{w w':World}{pf:Nat}{R:Rf}{S:Fs}
end
end
section
open Go.RowKit
def Fs.IM(S:Fs)(d:Bool)(c:Cr)(no:Int):ByteArray×Int:=if d=true then(ByteArray.empty,20) else S.read c no
section
variable{w w':World}{pf:Nat}{R:Rf}{S:Fs}
end
end
section
open Go.RowKit
def bE:ByteArray:=ByteArray.mk #[100,105,114,101,99,116,111,114,121,115,105,122,101,115]
def bh:ByteArray:=ByteArray.mk #[100,105,114,101,99,116,111,114,121,115,105,122,101,115,46,110,101,119]
def kE:ByteArray:=ByteArray.mk #[120]
def ed(n:Int):ByteArray:=str (List.replicate (n % 32).toNat 120)
def Sy.cZ(Y:Sy)(n:Int):Sy:=if 0≤n∧n≤253402300799-Y.now then{Y with now:=Y.now+n} else Y
def Sy.jm(Y:Sy)(c:Cr)(x:Cn)(l:Ln):Sy:=
 let r:=Y.op (fun S now=>S.aN c now x.files l.name 448)
 let r1:=if r.2.2=0∧0≤l.size then(r.1.op (fun S now=>S.file c now r.2.1 kE 384 (ed l.size))).1 else r.1
 let r2:=if 0≤l.time then(r1.op (fun S now=>S.file c now x.info (l.name++dQ) 384 ByteArray.empty)).1 else r1
 r2.cZ (l.time % 256)
def Sy.dx(Y:Sy)(c:Cr)(x:Cn):List Ln→Sy
 | []=>Y
 |l::ls=>(Y.jm c x l).dx c x ls
def Sy.cT(Y:Sy)(u:Us)(no:Int)(l:List Ln):Sy×Cn×Bool:=
 if(Y.bJ u no).2.2≠0 then((Y.bJ u no).1,kr,false) else((Y.bJ u no).1.dx u.c (Y.bJ u no).2.1 l,(Y.bJ u no).2.1,true)
theorem eJ.cZ{Y:Sy}{N:Nat}(h:eJ Y N)(n:Int):eJ (Y.cZ n) N:=by
 unfold Sy.cZ
 split
 ·exact⟨h.bK,h.c0,h.cN,h.pl⟩
 ·exact h
def Ln.uS(x:Ln):Bool:=decide (0≤x.size)&&decide (0≤x.time)&&decide (cH x.name=0)
def KO(x:Ln):List UInt8:=kl x.size++32::(kl x.time++32::(rB x.name.data.toList++[10]))
def bZ(l:List Ln):List UInt8:=(l.filter Ln.uS).flatMap KO
def Fs.fH(S:Fs)(d:Bool)(c:Cr)(x:Cn):ByteArray×Int:=
 if(S.aQ d c x.dir bE).2≠0 then(ByteArray.empty,(S.aQ d c x.dir bE).2) else S.IM d c (S.aQ d c x.dir bE).1
def Sy.cQ(Y:Sy)(N:Nat)(c:Cr)(x:Cn):Sy×Int:=
 if(Y.fs.b9 N Y.dead c x).2≠0 then(Y,(Y.fs.b9 N Y.dead c x).2) else
 let want:=str (bZ (Y.fs.b9 N Y.dead c x).1)
 let h:=Y.fs.fH Y.dead c x
 if(h.2=0∧h.1=want)∨(h.2=5∧want.size=0) then(Y,0) else if h.2=20 then(Y,20) else
 let r:=Y.op (fun S now=>S.file c now x.dir bh 384 want)
 if r.2.2≠0 then(r.1,r.2.2) else
 let q:=r.1.fN (fun S now=>S.dP c now x.dir bh x.dir bE)
 if q.2≠0 then((q.1.fN (fun S now=>S.cA c now x.dir bh)).1,q.2) else(q.1,0)
end
section
open Go.RowKit
attribute [local go_sem] Oper.semAt_some
theorem IF(x:Ln)(hn:x.name.size≤9223372036854775807)(w:World):Calls Tryz.prog 42 #[UJ #[UE UL x.size,UE UL x.time,UF x.name]] w fun e w'=>e=.returned (.bool x.uS)∧UA w w':=by
 have HC:=Ux (fun w=>nW x.name w hn);have hM:x.uS=(decide (0≤x.size)&&decide (0≤x.time)&&decide (cH x.name=0)):=rfl;generalize x.uS=m at hM⊢;generalize cH x.name=ck at hM HC;by_cases h1:0≤x.size
 ·by_cases h2:0≤x.time
  ·have HM:=Ux (show m=decide (ck=0) by rw[hM,decide_eq_true h1,decide_eq_true h2];rfl);clear hM;go_enter Tryz.func42,Tryz.ntmps42;go_wp2_with fail;refine(HC.o _).mono ?_;rintro e w1 ⟨rfl,rfl⟩;go_wp2_with fail;go_ret;refine⟨?_,ao (Below.refl _ _) _⟩;rw[HM.o];congr 2
  ·have HM:=Ux (show m=false by rw[hM,decide_eq_false h2];simp);clear hM;go_enter Tryz.func42,Tryz.ntmps42;go_wp2_with fail;go_ret;exact⟨by rw[HM.o];rfl,ao (Below.refl _ _) _⟩
 ·have HM:=Ux (show m=false by rw[hM,decide_eq_false h1];simp);clear hM;go_enter Tryz.func42,Tryz.ntmps42;go_wp2_with fail;go_ret;exact⟨by rw[HM.o];rfl,ao (Below.refl _ _) _⟩
theorem Cj(l:List Ln)(k:Nat)(hk:k<l.length):bZ (l.take (k+1))=bZ (l.take k)++(if l[k].uS then KO l[k] else[]):=by
 unfold bZ;rw[List.take_succ_eq_append_getElem hk,List.filter_append,List.flatMap_append];congr 1
 cases h:l[k].uS<;>simp[List.filter_cons,h]
theorem D0(x:Ln)(h0:-9223372036854775808≤x.size∧x.size≤9223372036854775807)(h1:-9223372036854775808≤x.time∧x.time≤9223372036854775807)(h2:x.name.size≤300):(KO x).length≤1000:=by
 have a1:=(kL x.size h0.1 h0.2).1;have a2:=(kL x.time h1.1 h1.2).1;have a3:=pk x.name.data.toList;have a4:x.name.data.toList.length=x.name.size:=Array.length_toList;unfold KO;simp only[List.length_append,List.length_cons,List.length_nil];omega
theorem vE(l:List Ln)(h:∀x∈l,(-9223372036854775808≤x.size∧x.size≤9223372036854775807)∧(-9223372036854775808≤x.time∧x.time≤9223372036854775807)∧x.name.size≤300):(bZ l).length≤1000*l.length:=by
 induction l with
 |nil=>simp[bZ]
 |cons x l ih=>
  have h1:=ih (fun y hy=>h y (List.mem_cons_of_mem _ hy));obtain⟨a1,a2,a3⟩:=h x List.mem_cons_self;have h2:=D0 x a1 a2 a3;unfold bZ at h1⊢;rw[List.filter_cons]
  split
  ·rw[List.flatMap_cons,List.length_append,List.length_cons];omega
  ·rw[List.length_cons];omega
theorem Ep(s:ByteArray):s.size=s.data.toList.length:=Array.length_toList.symm
theorem wP{T e:TypeId}{B b:Nat}{p:Value}{bs:List Value}{w w':World}(h:Lib.BuilderAt T e B b p bs w)(hm:UA w w'):Lib.BuilderAt T e B b p bs w':=by
 have hlt:=h.lt;obtain⟨hB,v,hb,hown,hne⟩:=h;exact⟨hB,v,(hm.block b hlt).trans hb,ew hown hm (aa _),hne⟩
theorem vv.an{b:Nat}{l:List UInt8}{w w':World}(h:vv b l w)(hm:UA w w'):vv b l w':=
 h.imp (fun h=>wP h hm) (fun h=>wP h hm)
structure TH(w':World)(xb:Nat)(x:Ln):Prop where
 x:ax w' xb #[UE UL x.size,UE UL x.time,UF x.name] 60
theorem sn(l:List Ln)(a:Option Addr)(n c:Nat)(w:World)(hs:bF w 3 KN a n c l)(hn:n≤1000)(hb:∀x∈l,(-9223372036854775808≤x.size∧x.size≤9223372036854775807)∧(-9223372036854775808≤x.time∧x.time≤9223372036854775807)∧x.name.size≤300) :
  Calls Tryz.prog 21 #[UG a n c] w fun e w'=>e=.returned (UF (str (bZ l)))∧UA w w':=by
 have hln:l.length=n:=hs.1;have HS:=Ux hs;have HB:=Ux hb;have hbld:=vv.new w;have de:=ao (UB w) (.cells #[UH none,UG none 0 0] 117);have uE:=Ux (fun k=>show(bZ (l.take k)).length≤1000*1000 from ae (vE _ (fun x hx=>hb x (List.mem_of_mem_take hx))) (by rw[List.length_take];omega));clear hs hb;go_enter Tryz.func21,Tryz.ntmps21;go_upto_region 2 with fail;generalize w.alloc _=w0 at hbld de⊢;have cB:=Ux (ag hbld de);clear hbld de;go_wp2_with fail
 go_loopw [8] (fun t8 wr=>∃k:Nat,k≤l.length∧t8=UE UL k∧nn w.heap.size (bZ (l.take k)) wr∧(bZ (l.take k)=[]→vv w.heap.size [] wr)∧UA w wr) (fun t8 _=>l.length-(intOf t8).toNat)
 case atStart=>exact⟨0,Nat.zero_le _,rfl,nn.of cB.o.1,fun _=>cB.o.1,cB.o.2⟩
 case round=>
  obtain⟨k,hkl,rfl,BO,p',fR⟩:=hrel;by_cases hk:k<l.length
  ·obtain⟨b,off,rfl,hbl,c0,c1,c2⟩:=dK (HS.o.below fR (aa _)) k hk;have hbx:=HB.o l[k] (List.getElem_mem hk);have htk:=Cj l k hk;obtain⟨x,hx⟩:∃x,l[k]=x:=⟨_,rfl⟩;rw[hx] at c0 c1 c2 hbx htk;have hX:=ax.new wr #[UE UL x.size,UE UL x.time,UF x.name] 60;have aJ:=(UB wr).alloc (aa _) (.cells #[UE UL x.size,UE UL x.time,UF x.name] 60);have mT:=uE.o k;have jX:=Ux hk;have hk9:k≤999:=by omega
   clear hx;go_upto_region 5 with fail;generalize wr.alloc _=V at hX aJ⊢;have hbb:w.heap.size<wr.heap.size:=BO.lt;have CW:=aJ;generalize hxb:wr.heap.size=xb at hX hbb⊢;have PL:=BO.below CW;have mu:=fun h=>(p' h).an CW;have dR:=ar fR CW;have HM:=Ux (IF x (by omega) V);have H2:=Ux (ag hX (ag PL (ag dR mu)));have HTk:=Ux htk;obtain⟨xc,xf,xz⟩:=hX.facts;clear hX BO p' fR PL mu dR aJ CW c0 c1 c2 htk;go_wp2_with fail;refine HM.o.mono ?_;rintro e V2 ⟨rfl,aY⟩;have mU:=H2.o.1.an aY;have PL:=H2.o.2.1.below aY;have mu:=fun h=>(H2.o.2.2.2 h).an aY;have dR:=ar H2.o.2.2.1 aY;clear xc xf xz aY
   cases hm:x.uS with
   |false=>
    have HN:=Ux (show bZ (l.take (k+1))=bZ (l.take k) by rw[HTk.o,hm];simp);have HE:=Ux (ag PL (ag mu dR));clear hm mU PL mu dR;go_wp2_with fail;go_roundw
    case rel=>exact⟨k+1,by have:=jX.o;omega,by go_num,by rw[HN.o];exact HE.o.1,by rw[HN.o];exact HE.o.2.1,HE.o.2.2⟩
    case measure=>
     have:=jX.o;simp[intOf];omega
   |true=>
    have HN:=Ux (show bZ (l.take (k+1))=bZ (l.take k)++KO x by rw[HTk.o,hm];simp);obtain⟨sa,hsa⟩:∃sa,str (kl x.size)=sa:=⟨_,rfl⟩;obtain⟨sb,hsb⟩:∃sb,str (kl x.time)=sb:=⟨_,rfl⟩;obtain⟨sc,hsc⟩:∃sc,str (rB x.name.data.toList)=sc:=⟨_,rfl⟩;have hza:sa.size≤21:=by rw[←hsa,dn];exact(kL x.size hbx.1.1 hbx.1.2).1
    have hzb:sb.size≤21:=by rw[←hsb,dn];exact(kL x.time hbx.2.1.1 hbx.2.1.2).1
    have hzc:sc.size≤900:=by
     rw[←hsc,dn];have a3:=pk x.name.data.toList;have a4:x.name.data.toList.length=x.name.size:=Array.length_toList;have:=hbx.2.2;omega
    have HL:=Ux (show(sa++ByteArray.mk #[32]++sb++ByteArray.mk #[32]++sc++ByteArray.mk #[10]).data.toList=KO x by
     rw[←hsa,←hsb,←hsc];unfold KO str;simp[ByteArray.data_append])
    have q1:¬9223372036854775807<sa.size+1:=by omega
    have q2:¬9223372036854775807<sa.size+1+sb.size:=by omega
    have q3:¬9223372036854775807<sa.size+1+sb.size+1:=by omega
    have q4:¬9223372036854775807<sa.size+1+sb.size+1+sc.size:=by omega
    have q5:¬9223372036854775807<sa.size+1+sb.size+1+sc.size+1:=by omega
    have Rv:=Ux (fun w=>yB x.size w hbx.1.1 hbx.1.2);have HDb:=Ux (fun w=>yB x.time w hbx.2.1.1 hbx.2.1.2);have HDc:=Ux (fun w=>Dg x.name w (by have:=hbx.2.2;omega));rw[hsa] at Rv;rw[hsb] at HDb;rw[hsc] at HDc;have H3:=Ux (ag mU (ag PL dR));have hbd:UA V2 V2.drew:=(Below.refl _ _).drew;have iN:TH V2.drew xb x:=⟨mU.an hbd⟩;clear hm mU PL mu dR hsa hsb hsc;go_upto_region 6 with fail;refine wp_region_held_drew (S:=fun w'=>TH w' xb x) (by kernel_rfl) iN (fun bj=>?_);refine aL 6 [(0,14),(1,15),(4,18),(5,19),(9,23),(10,24)] (by kernel_rfl) (by kernel_rfl) rfl (fun _ _ _ _ _ h=>h) bj ?_
    iterate 6 (apply aF rfl rfl;(· (intro w9 cL;obtain⟨s1,-,-⟩:=cL.x.facts;clear cL;go_simp;(try with_reducible rfl)));simp only[ah,ai,aj])
    refine aK ?_;refine bN 2 16 (R:=fun v w'=>v=UF sa∧Below V2.drew.heap.size V2.drew w') (by kernel_rfl) rfl rfl rfl ?xa ((Rv.o _).mono (fun e w' ⟨he,hw⟩=>⟨_,he,rfl,hw⟩)) (fun v w' ⟨_,hw⟩=>⟨bj.x.an hw⟩) ?_
    case xa=>(go_simp;(try rfl))
    rintro _ V3 ⟨rfl,cl⟩;simp only[ah,ai,aj];have rq:TH V3 xb x:=⟨bj.x.an cl⟩;have mq:=ar hbd cl;refine aL 1 [(3,17)] (by kernel_rfl) (by kernel_rfl) rfl (fun _ _ _ _ _ h=>h) rq ?_
    iterate 1 (apply aF rfl rfl;(· (intro w9 cL;clear cL;go_simp;(try with_reducible rfl)));simp only[ah,ai,aj])
    refine aK ?_;refine bN 6 20 (R:=fun v w'=>v=UF sb∧UA V3 w') (by kernel_rfl) rfl rfl rfl ?xb2 ((HDb.o _).mono (fun e w' ⟨he,hw⟩=>⟨_,he,rfl,hw⟩)) (fun v w' ⟨_,hw⟩=>⟨rq.x.an hw⟩) ?_
    case xb2=>(go_simp;(try rfl))
    rintro _ V4 ⟨rfl,dM⟩;simp only[ah,ai,aj];have pJ:TH V4 xb x:=⟨rq.x.an dM⟩;have tK:=ar mq dM;refine aL 2 [(7,21),(8,22)] (by kernel_rfl) (by kernel_rfl) rfl (fun _ _ _ _ _ h=>h) pJ ?_
    iterate 2 (apply aF rfl rfl;(· (intro w9 cL;clear cL;go_simp;(try with_reducible rfl)));simp only[ah,ai,aj])
    refine aK ?_;refine bN 11 25 (R:=fun v w'=>v=UF sc∧UA V4 w') (by kernel_rfl) rfl rfl rfl ?xc2 ((HDc.o _).mono (fun e w' ⟨he,hw⟩=>⟨_,he,rfl,hw⟩)) (fun v w' ⟨_,hw⟩=>⟨pJ.x.an hw⟩) ?_
    case xc2=>(go_simp;(try rfl))
    rintro _ V5 ⟨rfl,cK⟩;simp only[ah,ai,aj];have lW:TH V5 xb x:=⟨pJ.x.an cK⟩;have gj:=ar tK cK;refine aL 2 [(12,26),(13,27)] (by kernel_rfl) (by kernel_rfl) rfl (fun _ _ _ _ _ h=>h) lW ?_
    iterate 2 (apply aF rfl rfl;(· (intro w9 cL;clear cL;go_simp;(try with_reducible rfl)));simp only[ah,ai,aj])
    refine aK ?_;have rQ:=ar H3.o.2.2 gj;have Q7:=Ux (DK w.heap.size (bZ (l.take k)) (sa++ByteArray.mk #[32]++sb++ByteArray.mk #[32]++sc++ByteArray.mk #[10]) V5 (H3.o.2.1.below gj) (by omega) (by
     rw[Ep,HL.o];have:=D0 x hbx.1 hbx.2.1 hbx.2.2;omega))
    rw[HL.o] at Q7;refine bN 14 28 (R:=fun v w'=>nn w.heap.size (bZ (l.take k)++KO x) w'∧Below w.heap.size V5 w'∧Oth w.heap.size V5 w') (by kernel_rfl) rfl rfl rfl ?xd (Q7.o.mono (fun e w' ⟨he,hw⟩=>⟨_,he,hw⟩)) (fun v w' hw=>⟨lW.x.oth hw.2.2 (by omega) (by decide)⟩) ?_
    case xd=>(go_simp;(try rfl))
    rintro v9 V9 ⟨hK9,rk,ho9⟩;simp only[ah,ai,aj];refine wpAnyH_done (by kernel_rfl) ?_ _;have HE:=Ux (ag hK9 (rQ.trans rk));clear hK9 rk ho9;go_wp2_with fail;go_roundw
    case rel=>exact⟨k+1,by have:=jX.o;omega,by go_num,by rw[HN.o];exact HE.o.1,fun h=>absurd (HN.o.symm.trans h) (by unfold KO;simp),HE.o.2⟩
    case measure=>
     have:=jX.o;simp[intOf];omega
  ·obtain rfl:k=l.length:=by omega
   rw[List.take_length] at BO p';have HE:=Ux fR;by_cases h0:bZ l=[]
   ·have HS0:=Ux (Kj w.heap.size [] wr (p' h0));have H0:=Ux h0;clear h0 BO p' fR;go_wp2_with fail;refine HS0.o.mono ?_;rintro e w9 ⟨rfl,rk⟩;have rF:=Ux (HE.o.trans rk);clear rk;go_wp2_with fail;go_ret;exact⟨by rw[H0.o];rfl,rF.o⟩
   ·have HS0:=Ux (Eo w.heap.size (bZ l) wr BO h0);clear h0 BO p' fR;go_wp2_with fail;refine HS0.o.mono ?_;rintro e w9 ⟨rfl,rk⟩;have rF:=Ux (HE.o.trans rk);clear rk;go_wp2_with fail;go_ret;exact⟨rfl,rF.o⟩
end
section
open Go.RowKit
attribute [local go_sem] Oper.semAt_some
structure TL(w':World)(bu bx:Nat)(u:Us)(x:Cn):Prop where
 u:ax w' bu #[UE UL u.u,UE UL u.g,UF u.data] 27
 x:ax w' bx #[UF x.path,UE UL x.dir,UE UL x.info,UE UL x.files,UE UL x.out,UE UL x.jC,UF x.top] 48
theorem TL.an{w w':World}{bu bx:Nat}{u:Us}{x:Cn}(h:TL w bu bx u x)(hb:UA w w'):TL w' bu bx u x:=⟨h.u.an hb,h.x.an hb⟩
section
variable{w w':World}{pf pw:Nat}{R:Rp}{pv:Value}{Y:Sy}
theorem qs(h:bm w pf pw R pv Y){N:Nat}(hk:ay Y.fs N)(hN:N≤999999)(hd:Y.dead=false)(u:Us)(x:Cn) :
  Calls Tryz.prog 18 #[UH (some ⟨pf,0,none⟩),UJ #[UE UL u.u,UE UL u.g,UF u.data],UJ #[UF x.path,UE UL x.dir,UE UL x.info,UE UL x.files,UE UL x.out,UE UL x.jC,UF x.top]] w fun e w'=>
   e=.returned (UK #[UF (Y.fs.fH Y.dead u.c x).1,UE UL (Y.fs.fH Y.dead u.c x).2])∧UA w w':=by
 obtain⟨hU,hX,hb⟩:=iJ w #[UE UL u.u,UE UL u.g,UF u.data] #[UF x.path,UE UL x.dir,UE UL x.info,UE UL x.files,UE UL x.out,UE UL x.jC,UF x.top] 27 48;have HK:=Ux (fun w1 (av:UA w w1)=>iD (h.an av) hk hN u.c x.dir bE);have HR:=Ux (fun w1 (av:UA w w1) no=>Cf (h.an av) hk hd u.c no);have HH:=Ux (show Y.fs.fH Y.dead u.c x=if(Y.fs.aQ Y.dead u.c x.dir bE).2≠0 then(ByteArray.empty,(Y.fs.aQ Y.dead u.c x.dir bE).2) else Y.fs.read u.c (Y.fs.aQ Y.dead u.c x.dir bE).1 from by
  unfold Fs.fH Fs.IM;rw[hd];rfl)
 generalize Y.fs.fH Y.dead u.c x=rd at HH⊢;generalize Y.fs.aQ Y.dead u.c x.dir bE=lk at HK HH;obtain⟨k,e1⟩:=lk;dsimp only at HK HH;have nG:=Ux (fun w1 av=>HR.o w1 av k);generalize Y.fs.read u.c k=rv at nG HH;have ec:(⟨u.u,u.g⟩:Cr)=u.c:=rfl;have ec1:u.c.u=u.u:=rfl;have ec2:u.c.g=u.g:=rfl;unfold bE at HK;clear h hk HR;go_enter Tryz.func18,Tryz.ntmps18;go_upto_region 1 with fail;generalize World.alloc _ _=X at hU hX hb⊢;have hbd:UA X X.drew:=(Below.refl _ _).drew;have hS:TL X w.heap.size (w.heap.size+1) u x:=⟨hU,hX⟩;have H0:=Ux (ag hS hb);refine wp_region_held_drew (S:=fun w'=>TL w' w.heap.size (w.heap.size+1) u x) (by kernel_rfl) (hS.an hbd) (fun bj=>?_);refine aL 4 [(0,11),(1,12),(3,14),(4,15)] (by kernel_rfl) (by kernel_rfl) rfl (fun _ _ _ _ _ h=>h) bj ?_
 iterate 4 (apply aF rfl rfl;(· (intro w9 cL;obtain⟨s1,-,-⟩:=cL.u.facts;obtain⟨s2,-,-⟩:=cL.x.facts;clear cL;go_simp;(try with_reducible rfl)));simp only[ah,ai,aj])
 refine aK ?_;refine bN 2 13 (R:=fun v w'=>v=UJ #[UE UL u.u,UE UL u.g]∧Below X.drew.heap.size X.drew w') (by kernel_rfl) rfl rfl rfl ?xa ((fi u.u u.g u.data _).mono (fun e w' ⟨he,hw⟩=>⟨_,he,rfl,hw⟩)) (fun v w' ⟨_,hw⟩=>bj.an hw) ?_
 case xa=>(go_simp;(try rfl))
 rintro _ V3 ⟨rfl,cl⟩;simp only[ah,ai,aj];have rq:=bj.an cl;have Pw:=ar hb (ar hbd cl);refine bN 5 16 (R:=fun v w'=>v=UK #[UE UL k,UE UL e1]∧UA V3 w') (by kernel_rfl) rfl rfl rfl ?xb ((HK.o _ Pw).mono (fun e w' ⟨he,hw⟩=>⟨_,he,rfl,hw⟩)) (fun v w' ⟨_,hw⟩=>rq.an hw) ?_
 case xb=>(go_simp;(try rfl))
 rintro _ V4 ⟨rfl,dM⟩;simp only[ah,ai,aj];have pJ:=rq.an dM;refine aL 5 [(6,10),(7,17),(8,18),(9,8),(10,9)] (by kernel_rfl) (by kernel_rfl) rfl (fun _ _ _ _ _ h=>h) pJ ?_
 iterate 5 (apply aF rfl rfl;(· (intro w9 cL;clear cL;go_simp;(try with_reducible rfl)));simp only[ah,ai,aj])
 refine aK ?_;refine wpAnyH_done (by kernel_rfl) ?_ _;have H4:=Ux (ar Pw dM);obtain⟨uc,uf,uz⟩:=pJ.u.facts;clear hU hX hb hbd hS bj rq pJ cl dM Pw;by_cases h1:e1≠0
 ·have hv:(e1 != 0)=true:=by simpa using h1
  have hE:=HH.o;rw[if_pos h1] at hE;subst hE;clear h1;go_wp2_with fail;go_ret2;exact⟨rfl,H4.o⟩
 ·have hv:(e1 != 0)=false:=by simpa using h1
  have hE:=HH.o;rw[if_neg h1] at hE;subst hE;clear h1;go_wp2_with fail;refine(fi u.u u.g u.data _).mono ?_;rintro e V5 ⟨rfl,cK⟩;have H5:=Ux (ar H4.o cK);clear cK uc uf uz;go_wp2_with fail;refine(nG.o _ H5.o).mono ?_;rintro e V6 ⟨rfl,fp⟩;have H6:=Ux (ar H5.o fp);clear fp;go_wp2_with fail;go_ret2;exact⟨rfl,H6.o⟩
theorem gG(h:bm w pf pw R pv Y)(n:Int)(hn:0≤n∧n≤1000)(h0:0≤Y.now∧Y.now≤253402300799) :
  Calls Tryz.prog 24 #[UH (some ⟨pf,0,none⟩),UE UL n] w fun e w'=>(∃v,e=.returned (UE UL v))∧bm w' pf pw R pv (Y.cZ n)∧Mod (fun k=>k=pf) w w':=by
 have HN:=Ux (gK h);have HY:=Ux h;have HT:=Ux (show Y.cZ n=if 0≤n∧n≤253402300799-Y.now then{Y with now:=Y.now+n} else Y from rfl);obtain⟨pc,pf',pz⟩:=h.bD.facts;obtain⟨QI,j6⟩:=hn;obtain⟨Sa,hy1⟩:=h0;have kp:¬n<0:=by omega
 clear h;by_cases hc:n≤253402300799-Y.now
 ·have hE:=Ux (HT.o.trans (if_pos ⟨QI,hc⟩));have fE:¬253402300799-Y.now<n:=by omega
  go_enter Tryz.func24,Tryz.ntmps24;go_wp2_with (refine HN.o.mono ?_;rintro e w1 ⟨rfl,rfl⟩);go_ret;rw[hE.out];have hm:Mod (fun k=>k=pf) w (w.setCell ⟨pf,1,none⟩ (UE UL (Y.now+n))):=(Mod.refl (fun k=>k=pf) w).setCell (a:=⟨pf,1,none⟩) (.inl rfl) _;exact⟨⟨_,rfl⟩,HY.o.vx hm rfl rfl (HY.o.bD.set 1 _),hm⟩
 ·have hE:=Ux (HT.o.trans (if_neg (fun h=>hc h.2)));have fE:253402300799-Y.now<n:=by omega
  clear hc;go_enter Tryz.func24,Tryz.ntmps24;go_wp2_with (refine HN.o.mono ?_;rintro e w1 ⟨rfl,rfl⟩);go_ret;rw[hE.out];exact⟨⟨_,rfl⟩,HY.o,Mod.refl _ _⟩
end
end
section
open Go.RowKit Go.ChangeShapes Go.WideShapes Go.ChangeAt
section
variable{H:Type}{enc:TypeId×Value→H}{w:World}{base:Nat}{spare:Nat→Bool}{held:Bool}
theorem fu{P:Program}{t:TypeId}{fs:Array Field}{fuel:Nat}{cs:List Value}{x:DataW H×List MemPlace}(ht:P.underlying t=some (.struct fs))(h:DataW.trod enc P w base spare held fuel t cs=some x) :
  cs.length=P.cellsOf t∧∃n,∀(i:Nat) (ty:TypeId) (off k:Nat) (l:List Value),(fs[i]?.map fun f=>(f.type,f.offset))=some (ty,off)→P.cellsOf ty=k→(cs.drop off).take k=l→∃y,DataW.trod enc P w base spare held n ty l=some y:=by
 obtain⟨xs,n,-,-,h1,h2,h3⟩:=DataW.trod_struct ht h;refine⟨h1,n,fun i ty off k l hf hk hl=>?_⟩;obtain⟨f,iM,e⟩:=Option.map_eq_some_iff.1 hf;clear hf;injection e with e1 e2;subst e1 e2 hk hl;have hi:i<xs.length:=by
  rw[h2];exact(Array.getElem?_eq_some_iff.1 iM).1
 exact⟨xs[i],by rw[h3 i f iM,List.getElem?_eq_getElem hi]⟩
theorem Lg{fuel:Nat}{cs:List Value}{x:DataW H×List MemPlace}(h:DataW.trod enc Tryz.prog w base spare held fuel 125 cs=some x):∃y:Mt,RV cs y:=by
 obtain⟨h1,n,h2⟩:=fu Tryz.underlying125 h;have hc:Tryz.prog.cellsOf 125=3:=by kernel_rfl
 have c1:Tryz.prog.cellsOf 9=1:=by kernel_rfl
 have c2:Tryz.prog.cellsOf 3=1:=by kernel_rfl
 rw[hc] at h1
 match cs,h1 with
 | [a0,a1,a2],_=>
  obtain⟨y0,k0⟩:=h2 0 9 0 1 [a0] rfl c1 rfl;obtain⟨y1,k1⟩:=h2 1 3 1 1 [a1] rfl c2 rfl;obtain⟨y2,k2⟩:=h2 2 3 2 1 [a2] rfl c2 rfl;obtain⟨s,e0,-⟩:=jK Tryz.underlying9 k0;obtain⟨n1,e1,-⟩:=eB Tryz.underlying3 k1;obtain⟨n2,e2,-⟩:=eB Tryz.underlying3 k2;simp at e0 e1 e2;subst e0 e1 e2;exact⟨⟨s,n1,n2⟩,rfl⟩
theorem Lh{fuel:Nat}{cs:List Value}{x:DataW H×List MemPlace}(h:DataW.trod enc Tryz.prog w base spare held fuel 82 cs=some x):∃y:It,RZ cs y:=by
 obtain⟨h1,n,h2⟩:=fu Tryz.underlying82 h;have hc:Tryz.prog.cellsOf 82=7:=by kernel_rfl
 have c1:Tryz.prog.cellsOf 9=1:=by kernel_rfl
 have c2:Tryz.prog.cellsOf 3=1:=by kernel_rfl
 rw[hc] at h1
 match cs,h1 with
 | [a0,a1,a2,a3,a4,a5,a6],_=>
  obtain⟨y0,k0⟩:=h2 0 9 0 1 [a0] rfl c1 rfl;obtain⟨y1,k1⟩:=h2 1 3 1 1 [a1] rfl c2 rfl;obtain⟨y2,k2⟩:=h2 2 3 2 1 [a2] rfl c2 rfl;obtain⟨y3,k3⟩:=h2 3 3 3 1 [a3] rfl c2 rfl;obtain⟨y4,k4⟩:=h2 4 3 4 1 [a4] rfl c2 rfl;obtain⟨y5,k5⟩:=h2 5 3 5 1 [a5] rfl c2 rfl;obtain⟨y6,k6⟩:=h2 6 9 6 1 [a6] rfl c1 rfl;obtain⟨s,e0,-⟩:=jK Tryz.underlying9 k0;obtain⟨n1,e1,-⟩:=eB Tryz.underlying3 k1;obtain⟨n2,e2,-⟩:=eB Tryz.underlying3 k2;obtain⟨n3,e3,-⟩:=eB Tryz.underlying3 k3;obtain⟨n4,e4,-⟩:=eB Tryz.underlying3 k4;obtain⟨n5,e5,-⟩:=eB Tryz.underlying3 k5;obtain⟨s6,e6,-⟩:=jK Tryz.underlying9 k6;simp at e0 e1 e2 e3 e4 e5 e6;subst e0 e1 e2 e3 e4 e5 e6;exact⟨⟨s,n1,n2,n3,n4,n5,s6⟩,rfl⟩
theorem EL{fuel:Nat}{cs:List Value}{x:DataW H×List MemPlace}(h:DataW.trod enc Tryz.prog w base spare held fuel 25 cs=some x) :
  ∃ma mn mc ia il ic ms is,cs=[UG ma mn mc,UG ia il ic]∧nh w ma mn mc ia il ic ms is:=by
 obtain⟨h1,n,h2⟩:=fu Tryz.underlying25 h;have hc:Tryz.prog.cellsOf 25=2:=by kernel_rfl
 have c1:Tryz.prog.cellsOf 22=1:=by kernel_rfl
 have c2:Tryz.prog.cellsOf 23=1:=by kernel_rfl
 rw[hc] at h1
 match cs,h1 with
 | [a0,a1],_=>
  obtain⟨y0,k0⟩:=h2 0 22 0 1 [a0] rfl c1 rfl;obtain⟨y1,k1⟩:=h2 1 23 1 1 [a1] rfl c2 rfl;obtain⟨ma,mn,mc,ms,e0,hm⟩:=rH (R:=RV) (sz:=3) Tryz.underlying22 (by kernel_rfl) (by decide) (fun fuel cs x h=>Lg h) k0;obtain⟨ia,il,ic,is,e1,hi⟩:=rH (R:=RZ) (sz:=7) Tryz.underlying23 (by kernel_rfl) (by decide) (fun fuel cs x h=>Lh h) k1;simp at e0 e1;subst e0 e1;exact⟨ma,mn,mc,ia,il,ic,ms,is,rfl,⟨hm,hi⟩⟩
end
end
section
open Go.RowKit Go.ChangeShapes Go.WideShapes Go.ChangeAt
section
variable{H:Type}{enc:TypeId×Value→H}{w:World}{base:Nat}{spare:Nat→Bool}{held:Bool}
def O2(cs:List Value)(y:Ln):Prop:=KN cs y∧(-9223372036854775808≤y.size∧y.size≤9223372036854775807)∧(-9223372036854775808≤y.time∧y.time≤9223372036854775807)∧y.name.size≤9223372036854775807
theorem EM{fuel:Nat}{cs:List Value}{x:DataW H×List MemPlace}(h:DataW.trod enc Tryz.prog w base spare held fuel 60 cs=some x):∃y:Ln,O2 cs y:=by
 obtain⟨h1,n,h2⟩:=fu Tryz.underlying60 h;have hc:Tryz.prog.cellsOf 60=3:=by kernel_rfl
 have c1:Tryz.prog.cellsOf 9=1:=by kernel_rfl
 have c2:Tryz.prog.cellsOf 3=1:=by kernel_rfl
 rw[hc] at h1
 match cs,h1 with
 | [a0,a1,a2],_=>
  obtain⟨y0,k0⟩:=h2 0 3 0 1 [a0] rfl c2 rfl;obtain⟨y1,k1⟩:=h2 1 3 1 1 [a1] rfl c2 rfl;obtain⟨y2,k2⟩:=h2 2 9 2 1 [a2] rfl c1 rfl;obtain⟨n0,e0,z0⟩:=eB Tryz.underlying3 k0;obtain⟨n1,e1,z1⟩:=eB Tryz.underlying3 k1;obtain⟨n2,e2,z2⟩:=jK Tryz.underlying9 k2;simp at e0 e1 e2;subst e0 e1 e2;exact⟨⟨n0,n1,n2⟩,rfl,z0,z1,z2⟩
end
end
section
open Go.RowKit
theorem Ty(n:Int):bits .and .i64 n 31=n % 32:=by
 show IntKind.i64.wrap ((BitVec.ofInt 64 n &&& BitVec.ofInt 64 31).toNat:Int)=_;rw[BitVec.toNat_and,BitVec.toNat_ofInt,show(BitVec.ofInt 64 31).toNat=2 ^ 5-1 from rfl,Nat.and_two_pow_sub_one_eq_mod,IntKind.wrap_i64];omega
theorem qy(n:Int):bits .and .i64 n 255=n % 256:=by
 show IntKind.i64.wrap ((BitVec.ofInt 64 n &&& BitVec.ofInt 64 255).toNat:Int)=_;rw[BitVec.toNat_and,BitVec.toNat_ofInt,show(BitVec.ofInt 64 255).toNat=2 ^ 8-1 from rfl,Nat.and_two_pow_sub_one_eq_mod,IntKind.wrap_i64];omega
theorem zN{w:World}{a:Option Addr}{n c:Nat}{l:List Ln}(h:bF w 3 O2 a n c l):bF w 3 KN a n c l:=by
 obtain⟨h1,h2,h3,h4⟩:=h;refine⟨h1,h2,h3,h4.imp id ?_⟩;rintro⟨b,off,ha,hb,hel⟩;refine⟨b,off,ha,hb,fun i hi=>?_⟩;obtain⟨cs,e1,e2,e3⟩:=hel i hi;exact⟨cs,e1,e2.1,e3⟩
theorem E5{w:World}{a:Option Addr}{n c:Nat}{l:List Ln}(h:bF w 3 O2 a n c l):∀x∈l,(-9223372036854775808≤x.size∧x.size≤9223372036854775807)∧(-9223372036854775808≤x.time∧x.time≤9223372036854775807)∧x.name.size≤9223372036854775807:=by
 obtain⟨h1,h2,h3,h4⟩:=h;intro x hx;rcases h4 with h0|⟨b,off,ha,hb,hel⟩
 ·have:=List.length_pos_of_mem hx;omega
 ·obtain⟨i,hi,rfl⟩:=List.mem_iff_getElem.1 hx;obtain⟨cs,e1,e2,e3⟩:=hel i hi;exact e2.2
def tY(l:List Ln):Bool:=decide ((∀x∈l,x.name.size≤300)∧l.length≤6)
theorem Gl(w:World){a:Option Addr}{n c:Nat}{l:List Ln}(h:bF w 3 O2 a n c l) :
  Calls Tryz.prog 6 #[UG a n c] w fun e w'=>e=.returned (.bool (tY l))∧w=w':=by
 have hl:l.length=n:=h.1;have hn:n≤9223372036854775807:=by obtain⟨-,h2,h3,-⟩:=h;omega
 have HS:=Ux (zN h);have HB:=Ux (E5 h);clear h;go_enter Tryz.func6,Tryz.ntmps6;go_wp2_with fail
 go_loopw [3] (fun t3 wr=>∃k:Nat,k≤l.length∧t3=UE UL k∧(∀j (hj:j<l.length),j<k→l[j].name.size≤300)∧w=wr) (fun t3 _=>l.length-(intOf t3).toNat)
 case atStart=>exact⟨0,Nat.zero_le _,rfl,fun j _ hj=>absurd hj (Nat.not_lt_zero _),rfl⟩
 case round=>
  obtain⟨k,hkl,rfl,hbe,rfl⟩:=hrel;have NJ:=Ux hbe;clear hbe;by_cases hk:k<l.length
  ·obtain⟨b,off,rfl,hbl,c0,c1,c2⟩:=dK HS.o k hk;have hbx:=(HB.o l[k] (List.getElem_mem hk)).2.2;have jX:=Ux hk;generalize hx:l[k]=x at c0 c1 c2 hbx;have HX:=Ux hx;clear hx;by_cases h3:300<x.name.size
   ·have tR:(300:Int)<(x.name.size:Int):=by omega
    have HF:=Ux (show tY l=false from decide_eq_false (fun h=>by have:=h.1 l[k] (List.getElem_mem hk);rw[HX.o] at this;omega));go_wp2_with fail;go_ret;exact⟨by rw[HF.o];rfl,rfl⟩
   ·have tR:¬(300:Int)<(x.name.size:Int):=by omega
    have P7:=Ux h3;clear h3;go_wp2_with fail;go_roundw
    case rel=>exact⟨k+1,by have:=jX.o;omega,by go_num,fun j hj hjk=>by
     by_cases hjk2:j=k
     ·subst hjk2;exact ae (Nat.le_of_eq (congrArg (fun y:Ln=>y.name.size) HX.o)) (by have:=P7.o;omega)
     ·exact NJ.o j hj (by omega),trivial⟩
    case measure=>
     have:=jX.o;simp[intOf];omega
  ·obtain rfl:k=l.length:=by omega
   have hall:∀x∈l,x.name.size≤300:=fun x hx=>by
    obtain⟨i,hi,rfl⟩:=List.mem_iff_getElem.1 hx;exact NJ.o i hi hi
   have HF:=Ux (show tY l=decide (l.length≤6) from by
    unfold tY;by_cases h6:l.length≤6
    ·rw[decide_eq_true h6,decide_eq_true ⟨hall,h6⟩]
    ·rw[decide_eq_false h6,decide_eq_false (fun h=>h6 h.2)])
   clear hall hk;by_cases h6:n≤6
   ·have h6':(n:Int)≤6:=by omega
    have HG:=Ux (show tY l=true by rw[HF.o,decide_eq_true (by omega)]);go_wp2_with fail;go_ret;exact⟨by rw[HG.o];rfl,rfl⟩
   ·have h6':¬(n:Int)≤6:=by omega
    have HG:=Ux (show tY l=false by rw[HF.o,decide_eq_false (by omega)]);go_wp2_with fail;go_ret;exact⟨by rw[HG.o];rfl,rfl⟩
theorem Bj(n:Int)(w:World) :
  Calls Tryz.prog 28 #[UE UL n] w fun e w'=>e=.returned (UF (ed n))∧w=w':=by
 have hb:bits BinOp.and IntKind.i64 n 31=n % 32:=Ty n;obtain⟨q,hq⟩:∃q:Nat,n % 32=q:=⟨(n % 32).toNat,by omega⟩;have uV:q<32:=by omega
 have HF:=Ux (show ed n=str (List.replicate q 120) by unfold ed;rw[hq];rfl);rw[hq] at hb;clear hq;go_enter Tryz.func28,Tryz.ntmps28;go_wp2_with fail
 go_loopw [3,4] (fun t3 t4 wr=>∃k:Nat,k≤q∧t3=UF (str (List.replicate k 120))∧t4=UE UL k∧w=wr) (fun _ t4 _=>q-(intOf t4).toNat)
 case atStart=>exact⟨0,Nat.zero_le _,rfl,rfl,rfl⟩
 case round=>
  obtain⟨k,hkq,rfl,rfl,rfl⟩:=hrel;obtain⟨s,hs⟩:∃s,str (List.replicate k 120)=s:=⟨_,rfl⟩;have hsz:s.size=k:=by rw[←hs,dn,List.length_replicate]
  have HS:=Ux hs;rw[hs];by_cases hk:k<q
  ·have HN:=Ux (show s++ByteArray.mk #[120]=str (List.replicate (k+1) 120) by
    rw[←hs,List.replicate_succ',←kY];rfl)
   have jX:=Ux hk;have hlim:¬9223372036854775807<s.size+1:=by omega
   clear hs;go_wp2_with fail;go_roundw
   case rel=>exact⟨k+1,by have:=jX.o;omega,by rw[←HN.o],by go_num,trivial⟩
   case measure=>
    have:=jX.o;simp[intOf];omega
  ·obtain rfl:k=q:=by omega
   clear hs;go_wp2_with fail;go_ret;exact⟨by rw[HF.o,HS.o];rfl,rfl⟩
end
section
open Go.RowKit Go.Shelf
attribute [local go_sem] Oper.semAt_some
structure SNm(w':World)(B pf:Nat)(u:Us)(x:Cn)(text:ByteArray)(bc:Nat):Prop where
 f:ax w' B #[UH (some ⟨pf,0,none⟩)] 35
 c:ax w' bc #[UE UL u.u,UE UL u.g] 64
 x:ax w' (B+1+1) #[UF x.path,UE UL x.dir,UE UL x.info,UE UL x.files,UE UL x.out,UE UL x.jC,UF x.top] 48
 t:ax w' (B+1+1+1) #[UF text] 9
section
variable{w w':World}{pf pw:Nat}{R:Rp}{pv:Value}{Y:Sy}
end
end
section
open Go.RowKit Go.Shelf
attribute [local go_sem] Oper.semAt_some
def noQ(cs:List Value)(d:Int):Prop:=cs=[UE UL d]
structure FrI(w:World)(pf:Nat)(c:Cr)(a:Option Addr)(n cap:Nat)(W:World):Prop where
 b:UA w W
 f:ax W w.heap.size #[UH (some ⟨pf,0,none⟩)] 35
 c:ax W (w.heap.size+1) #[UE UL c.u,UE UL c.g] 64
 d:ax W (w.heap.size+1+1) #[UG a n cap] 131
 o:ax W (w.heap.size+1+1+1) #[UF ByteArray.empty] 9
 e:ax W (w.heap.size+1+1+1+1) #[UE UL 0] 56
section
variable{w w':World}{pf pw:Nat}{R:Rp}{pv:Value}{Y:Sy}
end
end
section
open Go.RowKit
def is32:List It:=[⟨(ByteArray.mk #[47]),1,511,0,0,0,(ByteArray.mk #[])⟩]
def sy32:Sy:=⟨db [] is32,0,0,[],false⟩
def us32:Us:=⟨5,5,ByteArray.mk #[47]⟩
def cn32:Cn:=⟨ByteArray.mk #[47,84,114,97,115,104],2,3,4,5,6,ByteArray.mk #[]⟩
def b32:ByteArray:=ByteArray.mk #[97]
def y32a:Sy:=(sy32.bJ us32 1).1
def y32b:Sy:=(y32a.op (fun S now=>S.file ⟨5,5⟩ now 4 (ByteArray.mk #[97]) 0 (ByteArray.mk #[]))).1
def y32c:Sy:=(y32b.op (fun S now=>S.file ⟨5,5⟩ now 3 (ByteArray.mk #[97,46,50,46,116,114,97,115,104,105,110,102,111]) 0 (ByteArray.mk #[]))).1
def y32d:Sy:=(y32c.RU ⟨5,5⟩ cn32 (ByteArray.mk #[97]) (ByteArray.mk #[116,101,120,116])).1
structure SAw(w':World)(bu bc:Nat):Prop where
 u:ax w' bu #[UE UL 5,UE UL 5,UF (ByteArray.mk #[47])] 27
 x:ax w' bc #[UF (ByteArray.mk #[47,84,114,97,115,104]),UE UL 2,UE UL 3,UE UL 4,UE UL 5,UE UL 6,UF (ByteArray.mk #[])] 48
end
section
open Go.RowKit Go.Shelf
attribute [local go_sem] Oper.semAt_some
def ONo(w:World)(base:Nat)(v:Value)(l:List Int):Prop:=w.ownsRow base 3 1 v l.length (l.map (Value.int .i64))
def Fs.RG(l:List (Int×ByteArray)):List Int:=l.map (·.1)
def Fs.RF(l:List (Int×ByteArray)):List (List UInt8):=l.map (fun x=>x.2.data.toList)
structure TI(w:World)(B:Nat)(pre:List (Int×ByteArray))(W:World):Prop where
 a:∃va,ax W w.heap.size #[va] 131∧ONo W B va (Fs.RG pre)
 b:∃vb,ax W (w.heap.size+1) #[vb] 240∧OS W B vb (Fs.RF pre)
 below:UA w W
end
section
open Go.RowKit
theorem aW.sy{w w':World}{pf:Nat}{Q:Rf}{S:Fs}(hr:aW w pf Q S){p q:Nat}{R:Rp}{pv:Value}{Y:Sy}(h:bm w p q R pv Y){F':Nat→Prop}(hs:aS (R.Y p q) F' w w'):aW w' pf Q S:=
 hr.mod hs.mod (fun k o hk ho=>by
  rcases hk with rfl|hk
  ·have hb:=h.bD;unfold ax at hb;rw[hb] at ho;injection ho with ho;subst ho;exact⟨rfl,fun cur e=>by cases e⟩
  ·obtain⟨o',ho',hd⟩:=h.wd.kind hk;rw[ho] at ho';injection ho' with ho';subst ho';unfold jd at hd
   split at hd
   ·rename_i c t f;simp only[Bool.or_eq_true,beq_iff_eq] at hd;rcases hd with(rfl|rfl)|rfl<;>exact⟨rfl,fun cur e=>by cases e⟩
   ·exact⟨rfl,fun cur e=>by cases e⟩
   ·cases hd)
end
section
open Go.RowKit Go.Shelf
attribute [local go_sem] Oper.semAt_some
theorem Ih{x:Int}(h0:0≤x)(h1:x≤999999):IntKind.u64.wrap x=x:=by
 unfold IntKind.wrap;simp[IntKind.bits,IntKind.signed];omega
theorem Gi{S:Fs}{N:Nat}(h:ay S N)(hN:N≤999999):1≤S.last∧S.last≤999999:=by
 have h1:=h.d1;have h2:=h.root S.ds[0] (List.getElem_mem (by omega));have h3:=h.lN;omega
theorem fU{Y:Sy}(h:cU Y)(g:Fs→Int→Fs×Int×Int):cU (Y.op g).1:=(h.op g).2.2.1
theorem lA{Y:Sy}(h:cU Y)(u:Us)(dir:Int)(n:ByteArray):cU (Y.dC u dir n).1:=by
 unfold Sy.dC
 split
 ·exact fU h _
 ·exact h
theorem qW{u:Us}{dir:Int}:∀{l:List ByteArray} {Y:Sy},cU Y→cU (Y.et u dir l).1
 | [],_,h=>h
 |n::l,Y,h=>by
  rw[Sy.et]
  split
  ·exact lA h u dir n
  ·exact qW (lA h u dir n)
theorem js{Y:Sy}(h:cU Y)(u:Us)(p:mX):cU (Y.aZ u p).1:=by
 unfold Sy.aZ;dsimp only
 split
 ·exact lA h u _ _
 ·split<;>exact qW (lA h u _ _)
theorem jn{u:Us}:∀{l:List mX} {Y:Sy} (e:Int),cU Y→cU (Y.bw u l e).1
 | [],_,_,h=>h
 |p::l,Y,e,h=>by
  rw[Sy.bw]
  split
  ·exact js h u p
  ·exact jn _ (js h u p)
theorem kn{Y:Sy}(h:cU Y)(u:Us)(no:Int):cU (Y.bJ u no).1:=by
 unfold Sy.bJ;dsimp only;have h2:=jn (u:=u) (l:=Y.gB u (Y.fs.dg no).1) 0 h
 split
 ·exact h
 ·split
  ·exact h2
  ·generalize Y.bw u (Y.gB u (Y.fs.dg no).1) 0=a at h2⊢;have h4:=jn (u:=u) (l:=a.1.fs.cO a.1.dead u (Y.fs.dg no).1 (Y.fs.dg no).2.1) a.2.2.2 h2
   split
   ·exact h4
   ·split
    ·exact h4
    ·exact js h4 u _
structure SNa(w':World)(B Bd zb zo:Nat)(cv:Array Value)(x:Cn)(z:ByteArray):Prop where
 c:ax w' B cv 30
 x:ax w' Bd #[UF x.path,UE UL x.dir,UE UL x.info,UE UL x.files,UE UL x.out,UE UL x.jC,UF x.top] 48
 z:w'.cell? ⟨zb,zo,none⟩=some (UF z)
structure Ko(w:World)(p q:Nat)(pv:Value)(Bd:Nat)(cv:Array Value)(x:Cn)(Z:Sy)(ns:List (List UInt8))(v:Value)(W:World):Prop where
 y:∃R,bm W p q R pv Z∧∀k,R.Y p q k→w.heap.size≤k
 b:UA w W
 c:ax W w.heap.size cv 30
 x:ax W Bd #[UF x.path,UE UL x.dir,UE UL x.info,UE UL x.files,UE UL x.out,UE UL x.jC,UF x.top] 48
 n:OS W w.heap.size v ns
section
variable{w A B:World}{p q Bd:Nat}{pv v:Value}{cv:Array Value}{x:Cn}{Z Z':Sy}{ns:List (List UInt8)}
theorem Ko.an(h:Ko w p q pv Bd cv x Z ns v A)(hb:UA A B):Ko w p q pv Bd cv x Z ns v B:=by
 obtain⟨R,h1,h2⟩:=h.y;exact⟨⟨R,h1.an hb,h2⟩,ar h.b hb,h.c.an hb,h.x.an hb,h.n.tF hb⟩
theorem OS.sy{R:Rp}{base:Nat}(ho:OS A base v ns)(h:bm A p q R pv Z){F':Nat→Prop}(hs:aS (R.Y p q) F' A B):OS B base v ns:=
 bY ho hs.mod (fun k hk he=>by
  obtain⟨-,cur,hc⟩:=aH ho he;rcases hk with rfl|hk
  ·have hb:=h.bD;unfold ax at hb;rw[hb] at hc
   cases hc
  ·obtain⟨o,ho,hd⟩:=h.wd.kind hk;rw[hc] at ho;injection ho with ho;subst ho
   cases hd)
theorem Ko.step{R R':Rp}(h:Ko w p q pv Bd cv x Z ns v A)(h1:bm A p q R pv Z)(hl:∀k,R.Y p q k→w.heap.size≤k)(h2:bm B p q R' pv Z')(hs:aS (R.Y p q) (R'.Y p q) A B):Ko w p q pv Bd cv x Z' ns v B:=
 ⟨⟨R',h2,hs.bl hl h.b.size⟩,h.b.trans (hs.below hl h.b.size),h.c.sy h1 hs (by decide) (by decide),h.x.sy h1 hs (by decide) (by decide),h.n.sy h1 hs⟩
end
structure P6(w':World)(B pf:Nat)(cv rv:Array Value):Prop where
 c:ax w' B cv 30
 l:ax w' pf rv 55
theorem P6.eS{A:World}{B pf Bd:Nat}{cv rv:Array Value}(h:P6 A B pf cv rv)(h1:Bd≠B)(h2:Bd≠pf)(v0 v1 v2 v3 v4 v5 v6:Value):P6 (((((((A.setCell ⟨Bd,0,none⟩ v0).setCell ⟨Bd,1,none⟩ v1).setCell ⟨Bd,2,none⟩ v2).setCell ⟨Bd,3,none⟩ v3).setCell ⟨Bd,4,none⟩ v4).setCell ⟨Bd,5,none⟩ v5).setCell ⟨Bd,6,none⟩ v6) B pf cv rv:=by
 have hm:=(((((((Mod.refl (fun k=>k=Bd) A).setCell (a:=⟨Bd,0,none⟩) (.inl rfl) v0).setCell (a:=⟨Bd,1,none⟩) (.inl rfl) v1).setCell (a:=⟨Bd,2,none⟩) (.inl rfl) v2).setCell (a:=⟨Bd,3,none⟩) (.inl rfl) v3).setCell (a:=⟨Bd,4,none⟩) (.inl rfl) v4).setCell (a:=⟨Bd,5,none⟩) (.inl rfl) v5).setCell (a:=⟨Bd,6,none⟩) (.inl rfl) v6;exact⟨h.c.mod hm (fun e=>h1 e.symm),h.l.mod hm (fun e=>h2 e.symm)⟩
theorem Ko.made{w A:World}{p q Bd:Nat}{pv:Value}{cv:Array Value}{x:Cn}{Z:Sy}{R:Rp}(hy:bm A p q R pv Z)(hl:∀k,R.Y p q k→w.heap.size≤k)(hb:UA w A)(hc:ax A w.heap.size cv 30)
  (hX:ax A Bd #[UF ⟨#[]⟩,UE UL 0,UE UL 0,UE UL 0,UE UL 0,UE UL 0,UF ⟨#[]⟩] 48) (hBd:w.heap.size<Bd):Ko w p q pv Bd cv x Z [] (UG none 0 0) (((((((A.setCell ⟨Bd,0,none⟩ (UF x.path)).setCell ⟨Bd,1,none⟩ (UE UL x.dir)).setCell ⟨Bd,2,none⟩ (UE UL x.info)).setCell ⟨Bd,3,none⟩ (UE UL x.files)).setCell ⟨Bd,4,none⟩ (UE UL x.out)).setCell ⟨Bd,5,none⟩ (UE UL x.jC)).setCell ⟨Bd,6,none⟩ (UF x.top)):=by
 have hm:=(((((((Mod.refl (fun k=>k=Bd) A).setCell (a:=⟨Bd,0,none⟩) (.inl rfl) (UF x.path)).setCell (a:=⟨Bd,1,none⟩) (.inl rfl) (UE UL x.dir)).setCell (a:=⟨Bd,2,none⟩) (.inl rfl) (UE UL x.info)).setCell (a:=⟨Bd,3,none⟩) (.inl rfl) (UE UL x.files)).setCell (a:=⟨Bd,4,none⟩) (.inl rfl) (UE UL x.out)).setCell (a:=⟨Bd,5,none⟩) (.inl rfl) (UE UL x.jC)).setCell (a:=⟨Bd,6,none⟩) (.inl rfl) (UF x.top);exact⟨⟨R,hy.other hX (by decide) (by decide) (by decide) (by decide) hm,hl⟩,eI hb (by omega),hc.mod hm (fun e=>by omega),hX.eS,OS.nil _ _⟩
def Other(A:World)(k:Nat):Prop:=∃cur,A.heap[k]?=some (.cells cur 9 (0,0))
end
end Go.Proofs.YtabbjaomlmnnhaaGreat
