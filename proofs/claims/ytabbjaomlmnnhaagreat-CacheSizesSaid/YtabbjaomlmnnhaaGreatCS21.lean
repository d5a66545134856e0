import Derived.BigQuiet
import Derived.Test.YtabbjaomlmnnhaaGreatCS20
import Derived.Test.YtabbjaomlmnnhaaGreatCS17
import Derived.Test.YtabbjaomlmnnhaaGreatCS3
import Derived.Test.YtabbjaomlmnnhaaGreatCS12
import Derived.Test.YtabbjaomlmnnhaaGreatCS7
import Derived.Test.YtabbjaomlmnnhaaGreatCS13
import Derived.Test.YtabbjaomlmnnhaaGreatCS15
import Derived.Test.YtabbjaomlmnnhaaGreatCS8
import Derived.Test.YtabbjaomlmnnhaaGreatCS1
import Derived.Test.YtabbjaomlmnnhaaGreatCS6
import Derived.Test.YtabbjaomlmnnhaaGreatCS18
import Derived.Test.YtabbjaomlmnnhaaGreatCS2
import Derived.Test.YtabbjaomlmnnhaaGreatCS16
import Derived.Test.YtabbjaomlmnnhaaGreatCS19
import Derived.Test.YtabbjaomlmnnhaaGreatCS11
import Derived.Test.YtabbjaomlmnnhaaGreatCS5
import Derived.Test.YtabbjaomlmnnhaaGreatCS9
set_option linter.unusedVariables false
set_option linter.unusedSimpArgs false
set_option maxRecDepth 100000
set_option maxHeartbeats 16000000
namespace Go.Proofs.YtabbjaomlmnnhaaGreat
section
open Go.RowKit
attribute [local go_sem] Oper.semAt_some
theorem rm{S:Fs}(hp:Pl S)(c:Cr)(no:Int):∀y∈(S.cp false c no).1,y.name.size≤255:=by
 intro y hy;unfold Fs.cp at hy;rw[if_neg (by decide)] at hy
 split at hy
 ·cases hy
 ·obtain⟨e,he,rfl⟩:=List.mem_map.1 hy;unfold Fs.bw at he
  cases hg:S.get no with
  |none=>rw[hg] at he;cases he
  |some a=>rw[hg] at he;exact(hp.names a (bD hg) e he).2
theorem sM.base{w:World}{B B':Nat}{v:Value}{l:List Ln}(h:sM w B v l)(hb:B'≤B):sM w B' v l:=
 ⟨h.1,h.2.imp id fun⟨g,cap,cur,h1,h2,h3⟩=>⟨g,cap,cur,h1,ae hb h2,h3⟩⟩
theorem Ju{α β:Type}(f:α→Option β)(l:List α)(k:Nat)(hk:k<l.length):(l.take (k+1)).filterMap f=(l.take k).filterMap f++(match f l[k] with|some b=>[b]|none=>[]):=by
 rw[List.take_succ_eq_append_getElem hk,List.filterMap_append];congr 1
 cases h:f l[k] with
 |none=>simp[h]
 |some b=>simp[h]
structure PB(w':World)(bc bx yb:Nat)(c:Cr)(x:Cn)(y:En):Prop where
 c:aw w' bc #[.int .i64 c.u,.int .i64 c.g] 64
 x:aw w' bx #[.string x.path,.int .i64 x.dir,.int .i64 x.info,.int .i64 x.files,.int .i64 x.out,.int .i64 x.jm,.string x.top] 48
 y:aw w' yb #[.string y.name,.int .i64 y.no] 98
theorem PB.ak{w w':World}{bc bx yb:Nat}{c:Cr}{x:Cn}{y:En}(h:PB w bc bx yb c x y)(hb:Qi w w'):PB w' bc bx yb c x y:=⟨h.c.ak hb,h.x.ak hb,h.y.ak hb⟩
section
variable{w w':World}{pf pw:Nat}{R:Rp}{pv:Value}{Y:Sy}
theorem rW(h:bg w pf pw R pv Y){N:Nat}(hF:iY Y.fs N)(hN:N≤900)(hd:Y.dead=false)(u:Us)(x:Cn) :
  Calls Tryz.prog 11 #[.pointer (some ⟨pf,0,none⟩),.agg #[.int .i64 u.u,.int .i64 u.g,.string u.data],.agg #[.string x.path,.int .i64 x.dir,.int .i64 x.info,.int .i64 x.files,.int .i64 x.out,.int .i64 x.jm,.string x.top]] w fun e w'=>
   ∃v,e=.returned (.tuple #[v,.int .i64 (Y.fs.cK N Y.dead u.c x).2])∧sM w' w.heap.size v (Y.fs.cK N Y.dead u.c x).1∧Qi w w':=by
 obtain⟨hU,hX,hb⟩:=jv w #[.int .i64 u.u,.int .i64 u.g,.string u.data] #[.string x.path,.int .i64 x.dir,.int .i64 x.info,.int .i64 x.files,.int .i64 x.out,.int .i64 x.jm,.string x.top] 27 48;have HL:=Qf (fun w1 (av:Qi w w1)=>s8 (h.ak av) hF.ok (by omega) u.c x.files);have HS:=Qf (fun w1 (av:Qi w w1) k=>jZ (h.ak av) hF.ok hd k);have HK:=Qf (fun w1 (av:Qi w w1) dir n=>iw (h.ak av) hF.ok (by omega) u.c dir n);have HT:=Qf (fun w1 (av:Qi w w1) n=>sY (h.ak av) hF hN hd u.c x.files n);rw[hd] at HL HK HT;have pP:=Qf (rm hF.pl u.c x.files);have Nu:=Qf (xA (S:=Y.fs) (c:=u.c) (no:=x.files));have yQ:=Qf (xy hF.ok u.c x.files);have HI:=Qf (show Y.fs.cK N Y.dead u.c x=if(Y.fs.cp false u.c x.files).2≠0 then([],(Y.fs.cp false u.c x.files).2) else((Y.fs.cp false u.c x.files).1.filterMap (Y.fs.jH N u.c x),0) from by rw[hd];rfl);have HF:=Qf (show∀y,Y.fs.jH N u.c x y=if(Y.fs.bl y.no).kind=1∧(Y.fs.bh false u.c x.info (y.name++dm)).2=0∧(Y.fs.jB N false u.c x.files y.name).2=0 then some ⟨(Y.fs.jB N false u.c x.files y.name).1,(Y.fs.bl (Y.fs.bh false u.c x.info (y.name++dm)).1).mtime,y.name⟩ else none from fun _=>rfl);generalize Y.fs.cK N Y.dead u.c x=rd at HI⊢;generalize Y.fs.cp false u.c x.files=L at HL Nu yQ HI pP;obtain⟨L,le⟩:=L;dsimp only at HL Nu yQ HI pP;have ec:(⟨u.u,u.g⟩:Cr)=u.c:=rfl;have ec1:u.c.u=u.u:=rfl;have ec2:u.c.g=u.g:=rfl;clear h hF;go_enter Tryz.func11,Tryz.ntmps11;go_upto_region 1 with fail;generalize (w.alloc (.cells #[.int .i64 u.u,.int .i64 u.g,.string u.data] 27)).alloc (.cells #[.string x.path,.int .i64 x.dir,.int .i64 x.info,.int .i64 x.files,.int .i64 x.out,.int .i64 x.jm,.string x.top] 48)=X at hU hX hb⊢;obtain⟨uc,uf,uz⟩:=hU.facts;have H0:=Qf (ag hX hb);clear hU hX hb;go_wp2_with fail;refine(eP u.u u.g u.data _).mono ?_;rintro e w1 ⟨rfl,av⟩;have lL:=H0.o.1.ak av;obtain⟨tR,nT⟩:=Qh w1 #[.int .i64 u.u,.int .i64 u.g] 64;have eU:=au H0.o.2 av;have hxlt:=lL.lt;clear uc uf uz av;go_upto_region 2 with fail;have lG:=lL.ak nT;have cT:=au eU nT;generalize w1.alloc _=w2 at tR lG cT⊢;generalize w1.heap.size=bc at tR hxlt⊢;have H2:=Qf (ag lG (ag tR cT));obtain⟨cc,cf,cz⟩:=tR.facts;obtain⟨xc,xf,xz⟩:=lG.facts;clear lL eU nT tR lG cT;go_wp2_with fail;refine(HL.o _ H2.o.2.2).mono ?_;rintro e w3 ⟨lv,rfl,hO,bK⟩;have L1:=Qf (H2.o.1.ak bK);have Hi:=Qf (H2.o.2.1.ak bK);have fG:=Qf (au H2.o.2.2 bK);have dS:=Qf (ag H2.o.2.2.size (ag H2.o.1.lt H2.o.2.1.lt));have BO:=Qf hO;have h23:=bK.size;clear cc cf cz xc xf xz bK hO;by_cases h5:le≠0
 ·have hv5:(le != 0)=true:=by simpa using h5
  have hE:=HI.o;rw[if_pos h5] at hE;subst hE;clear h5;go_wp2_with fail;go_ret2;exact⟨_,rfl,sM.nil _ _,fG.o⟩
 ·obtain rfl:le=0:=by simpa using h5
  have hE:=HI.o;rw[if_neg (by decide)] at hE;subst hE;clear h5;obtain⟨a,ca,rfl,-⟩:=bC BO.o;go_wp2_with fail
  go_loopw [11,38] (fun t11 t38 wr=>∃k:Nat,k≤L.length∧t38=.int .i64 k∧sM wr w2.heap.size t11 ((L.take k).filterMap (Y.fs.jH N u.c x))∧OE wr w2.heap.size (.slice a L.length ca) L∧
   aw wr (w.heap.size+1) #[.string x.path,.int .i64 x.dir,.int .i64 x.info,.int .i64 x.files,.int .i64 x.out,.int .i64 x.jm,.string x.top] 48∧aw wr bc #[.int .i64 u.u,.int .i64 u.g] 64∧Qi w wr∧w3.heap.size≤wr.heap.size) (fun _ t38 _=>L.length-(intOf t38).toNat)
  case atStart=>exact⟨0,Nat.zero_le _,rfl,sM.nil _ _,BO.o,L1.o,Hi.o,fG.o,aa _⟩
  case round=>
   obtain⟨k,hkl,rfl,sn,oA,lL,tR,eU,h3r⟩:=hrel;by_cases hlt:k<L.length
   ·obtain⟨b,off,rfl,hbl⟩:=(OE.at oA).dL (by omega);obtain⟨c1,c2⟩:=(OE.at oA).cell k hlt;have hym:=pP.o L[k] (List.getElem_mem hlt);have hft:=Ju (Y.fs.jH N u.c x) L k hlt;obtain⟨y,hy⟩:∃y,L[k]=y:=⟨_,rfl⟩;rw[hy] at c1 c2 hym hft;have OO:=aw.new wr #[.string y.name,.int .i64 y.no] 98;have dX:=(Qj wr).alloc (aa _) (.cells #[.string y.name,.int .i64 y.no] 98);go_upto_region 9 with fail;generalize wr.alloc _=V at OO dX⊢;have kA:=sn.ak dX;have l5:=OE.ak oA dX;have jr:PB V bc (w.heap.size+1) wr.heap.size u.c x y:=⟨tR.ak dX,lL.ak dX,OO⟩;have cT:=au eU dX;have h3V:w3.heap.size≤V.heap.size:=ae h3r dX.size;generalize wr.heap.size=yb at OO jr⊢;have Nj:=Qf (HS.o V cT y.no);have HKi:=Qf (fun w1 (av:Qi w w1)=>HK.o w1 av x.info (y.name++dm));have HSi:=Qf (fun w1 (av:Qi w w1)=>HS.o w1 av (Y.fs.bh false u.c x.info (y.name++dm)).1);have Nh:=Qf (fun w1 (av:Qi w w1)=>HT.o w1 av y.name);have Jk:=HF.o y;have hOl:((L.take k).filterMap (Y.fs.jH N u.c x)).length≤k:=ae (List.length_filterMap_le _ _) (by rw[List.length_take];omega);generalize hO':(L.take (k+1)).filterMap (Y.fs.jH N u.c x)=O' at hft;have HOe:=Qf hO';clear hO';generalize (L.take k).filterMap (Y.fs.jH N u.c x)=O at hft hOl kA;generalize Y.fs.jH N u.c x y=ln at Jk hft;generalize Y.fs.bh false u.c x.info (y.name++dm)=lk at Jk HKi HSi;obtain⟨ik,ie⟩:=lk;dsimp only at Jk HKi HSi;generalize Y.fs.jB N false u.c x.files y.name=tr at Jk Nh;obtain⟨ts,te⟩:=tr;generalize Y.fs.bl y.no=a1 at Jk Nj;generalize Y.fs.bl ik=a2 at Jk HSi;dsimp only at Jk Nh;have HFy:=Qf Jk;have HFt:=Qf hft;have iT:=Qf hlt;have hk9:k≤999999:=by have:=yQ.o;omega
    have H3:=Qf (ag kA (ag l5 (ag jr (ag cT (ag h3V hOl)))));obtain⟨yc,yf,yz⟩:=OO.facts;clear c1 c2 sn oA lL tR eU dX OO kA l5 jr cT Jk hft hOl h3V;go_wp2_with fail;refine Nj.o.mono ?_;rintro e V1 ⟨rfl,Ar⟩;have hA:=aw.new V1 #[.int .i64 a1.no,.int .i64 a1.dev,.int .i64 a1.kind,.int .i64 a1.mode,.int .i64 a1.uid,.int .i64 a1.gid,.int .i64 a1.ao,.int .i64 a1.data.size,.int .i64 a1.mtime,.int .i64 a1.ctime] 67;have gu:=aq Ar (.cells #[.int .i64 a1.no,.int .i64 a1.dev,.int .i64 a1.kind,.int .i64 a1.mode,.int .i64 a1.uid,.int .i64 a1.gid,.int .i64 a1.ao,.int .i64 a1.data.size,.int .i64 a1.mtime,.int .i64 a1.ctime] 67);clear yc yf yz;go_upto_region 10 with fail;generalize V1.alloc _=V2 at hA gu⊢;generalize V1.heap.size=ab at hA⊢;have hSV:=H3.o.2.2.1.ak gu;have H4:=Qf (ag hA (ag hSV gu));have rD:Qi w V2:=au H3.o.2.2.2.1 gu;have hbd:Qi V2 V2.drew:=(Below.refl _ _).drew;clear hA Ar gu;refine wp_region_held_drew (S:=fun w'=>PB w' bc (w.heap.size+1) yb u.c x y) (by kernel_rfl) (hSV.ak hbd) (fun be=>?_);refine aK 6 [(0,50),(1,51),(2,52),(3,53),(4,54),(5,55)] (by kernel_rfl) (by kernel_rfl) rfl (fun _ _ _ _ _ h=>h) be ?_
    iterate 6 (apply aE rfl rfl;(· (intro w9 b8;obtain⟨s1,-,-⟩:=b8.c.facts;obtain⟨s2,-,-⟩:=b8.x.facts;obtain⟨s3,-,-⟩:=b8.y.facts;clear b8;go_simp;(try with_reducible rfl)));simp only[ah,ai,aj])
    refine aJ ?_;refine bB 6 56 (R:=fun v w'=>v=.string (y.name++dm)∧w'=V2.drew) (by kernel_rfl) rfl rfl rfl ?xa ((DL y.name (by omega) V2.drew).mono (fun e w' ⟨he,hw⟩=>⟨_,he,rfl,hw.symm⟩)) (fun v w' ⟨_,hw⟩=>by rw[hw];exact be) ?_
    case xa=>(go_simp;(try rfl))
    rintro _ _ ⟨rfl,rfl⟩;simp only[ah,ai,aj];refine bB 7 57 (R:=fun v w'=>v=.tuple #[.int .i64 ik,.int .i64 ie]∧Below V2.drew.heap.size V2.drew w') (by kernel_rfl) rfl rfl rfl ?xb ((HKi.o _ (au rD hbd)).mono (fun e w' ⟨he,hw⟩=>⟨_,he,rfl,hw⟩)) (fun v w' ⟨_,hw⟩=>be.ak hw) ?_
    case xb=>(go_simp;(try rfl))
    rintro _ V5 ⟨rfl,bU⟩;simp only[ah,ai,aj];have kB:=be.ak bU;refine aK 5 [(8,49),(9,58),(10,59),(11,16),(12,17)] (by kernel_rfl) (by kernel_rfl) rfl (fun _ _ _ _ _ h=>h) kB ?_
    iterate 5 (apply aE rfl rfl;(· (intro w9 b8;obtain⟨s1,-,-⟩:=b8.c.facts;obtain⟨s2,-,-⟩:=b8.x.facts;obtain⟨s3,-,-⟩:=b8.y.facts;clear b8;go_simp;(try with_reducible rfl)));simp only[ah,ai,aj])
    refine aJ ?_;refine wpAnyH_done (by kernel_rfl) ?_ _;have I5:=au hbd bU;have hA5:=H4.o.1.ak I5;have H5:=Qf (ag hA5 (ag kB (ag (au H4.o.2.2 I5) (au rD I5))));obtain⟨ac,af,az⟩:=hA5.facts;clear hSV hbd rD be kB I5 hA5 bU;by_cases gD:a1.kind=1
    ·have tN:(a1.kind != 1)=false:=by simpa using gD
     by_cases ij:ie=0
     ·have yY:(ie != 0)=false:=by simpa using ij
      have HK12:=Qf (ag gD ij);subst ij;clear gD;go_wp2_with fail;refine(HSi.o _ H5.o.2.2.2).mono ?_;rintro e V6 ⟨rfl,fo⟩;have hW6:=aw.new V6 #[.int .i64 a2.no,.int .i64 a2.dev,.int .i64 a2.kind,.int .i64 a2.mode,.int .i64 a2.uid,.int .i64 a2.gid,.int .i64 a2.ao,.int .i64 a2.data.size,.int .i64 a2.mtime,.int .i64 a2.ctime] 67;have lK:=aq fo (.cells #[.int .i64 a2.no,.int .i64 a2.dev,.int .i64 a2.kind,.int .i64 a2.mode,.int .i64 a2.uid,.int .i64 a2.gid,.int .i64 a2.ao,.int .i64 a2.data.size,.int .i64 a2.mtime,.int .i64 a2.ctime] 67);clear ac af az;go_upto_region 13 with fail;generalize V6.alloc _=V7 at hW6 lK⊢;generalize V6.heap.size=wb at hW6⊢;have iU:=H5.o.2.1.ak lK;have H7:=Qf (ag hW6 (ag iU (ag (au H5.o.2.2.1 lK) (au H5.o.2.2.2 lK))));obtain⟨sc,sf,sz⟩:=iU.c.facts;obtain⟨xc,xf,xz⟩:=iU.x.facts;obtain⟨yc,yf,yz⟩:=iU.y.facts;clear hW6 lK fo iU;go_wp2_with fail;refine(Nh.o _ H7.o.2.2.2).mono ?_;rintro e V8 ⟨tm,rfl,mQ⟩;have Av:=H7.o.2.1.ak mQ;have OR:=H7.o.1.ak mQ;have H8:=Qf (ag Av (ag (au H7.o.2.2.1 mQ) (au H7.o.2.2.2 mQ)));clear sc sf sz xc xf xz yc yf yz mQ;by_cases gm:te=0
      ·subst gm;have HN:=Qf (show O'=O++[⟨ts,a2.mtime,y.name⟩] by rw[HFt.o,HFy.o,if_pos (by simp[HK12.o.1])]);obtain⟨yc,yf,yz⟩:=Av.y.facts;obtain⟨wc,wf,wz⟩:=OR.facts;have MQ:=H3.o.1.ak H8.o.2.1;have LG:=OE.ak H3.o.2.1 H8.o.2.1;have LP:w2.heap.size≤V8.heap.size:=by have:=H3.o.2.2.2.2.1;have:=H8.o.2.1.size;omega
       obtain⟨g,cap,W,hr,O2,FZ⟩:=MQ.app ⟨ts,a2.mtime,y.name⟩ (by have:=H3.o.2.2.2.2.2;omega) LP;have HA:=Qf hr;have hx2:=dS.o;have HW:=Qf (ag (show sM W w2.heap.size _ O' by rw[HN.o];exact O2) (ag (bI LG FZ (fun q hq=>tE MQ LG (by decide) hq)) (ag (Av.x.mod FZ (fun hq=>by have:=(aD MQ hq).1;omega)) (ag (Av.c.mod FZ (fun hq=>by have:=(aD MQ hq).1;omega))
        (ag (H8.o.2.2.trans (FZ.below (fun q hq=>ae dS.o.1 (aD MQ hq).1) H8.o.2.2.size)) (ae H3.o.2.2.2.2.1 (ae H8.o.2.1.size FZ.size)))))))
       clear hr O2 FZ MQ LG Av OR LP hx2;go_wp2_with (at_builtin;refine aL rfl rfl rfl rfl HA.o ?_);go_roundw
       case rel=>exact⟨k+1,by have:=iT.o;omega,by go_num,by rw[HOe.o];exact HW.o.1,HW.o.2.1,HW.o.2.2.1,HW.o.2.2.2.1,HW.o.2.2.2.2.1,HW.o.2.2.2.2.2⟩
       case measure=>
        have:=iT.o;simp[intOf];omega
      ·have HN:=Qf (show O'=O by rw[HFt.o,HFy.o,if_neg (fun h=>gm h.2.2),List.append_nil]);have My:(te==0)=false:=by simpa using gm
       clear gm Av OR;go_wp2_with fail;go_roundw
       case rel=>exact⟨k+1,by have:=iT.o;omega,by go_num,by rw[HOe.o,HN.o];exact H3.o.1.ak H8.o.2.1,OE.ak H3.o.2.1 H8.o.2.1,H8.o.1.x,H8.o.1.c,H8.o.2.2,ae H3.o.2.2.2.2.1 (H8.o.2.1).size⟩
       case measure=>
        have:=iT.o;simp[intOf];omega
     ·have HN:=Qf (show O'=O by rw[HFt.o,HFy.o,if_neg (fun h=>ij h.2.1),List.append_nil]);have yY:(ie != 0)=true:=by simpa using ij
      clear gD ij;go_wp2_with fail;go_roundw
      case rel=>exact⟨k+1,by have:=iT.o;omega,by go_num,by rw[HOe.o,HN.o];exact H3.o.1.ak H5.o.2.2.1,OE.ak H3.o.2.1 H5.o.2.2.1,H5.o.2.1.x,H5.o.2.1.c,H5.o.2.2.2,ae H3.o.2.2.2.2.1 (H5.o.2.2.1).size⟩
      case measure=>
       have:=iT.o;simp[intOf];omega
    ·have HN:=Qf (show O'=O by rw[HFt.o,HFy.o,if_neg (fun h=>gD h.1),List.append_nil]);have tN:(a1.kind != 1)=true:=by simpa using gD
     clear gD;go_wp2_with fail;go_roundw
     case rel=>exact⟨k+1,by have:=iT.o;omega,by go_num,by rw[HOe.o,HN.o];exact H3.o.1.ak H5.o.2.2.1,OE.ak H3.o.2.1 H5.o.2.2.1,H5.o.2.1.x,H5.o.2.1.c,H5.o.2.2.2,ae H3.o.2.2.2.2.1 (H5.o.2.2.1).size⟩
     case measure=>
      have:=iT.o;simp[intOf];omega
   ·obtain rfl:k=L.length:=by omega
    have Mb:=Qf sn;have yV:=Qf eU;clear sn oA lL tR eU;go_wp2_with fail;go_ret2;refine⟨_,rfl,?_,yV.o⟩;have:=Mb.o;rw[List.take_length] at this;exact this.base dS.o.1
end
end
section
open Go.RowKit
def pd(c:Cr)(d n:An):Bool:=decide (d.mode<512)||fV c d||fV c n
def Fs.dW(S:Fs)(c:Cr)(dir:Int)(s:ByteArray):Int:=
 if S.aP c dir s≠0 then S.aP c dir s else
 match S.get dir with
 |none=>5
 |some d=>match S.get (aF d.ay s) with
  |none=>5
  |some n=>if S.aC n.no≠n.no then 16 else if pd c d n=false then 4 else 0
def Fs.tM(S:Fs)(n:An):Fs:=
 if S.root n.dev=n.no then S else
 match S.dev n.dev with
 |none=>S.del n.no
 |some v=>(S.bp n.dev {v with b:=ED v.b v.n v.mb v.mn (-cR n.kind n.data.size) (-1),n:=EC v.b v.n v.mb v.mn (-cR n.kind n.data.size) (-1)}).del n.no
def Fs.np(S:Fs)(now:Int)(n:An):Fs:=
 if n.ao-1≤0 then(S.set {n with ao:=n.ao-1,ctime:=now}).tM {n with ao:=n.ao-1,ctime:=now} else S.set {n with ao:=n.ao-1,ctime:=now}
def Fs.Km(S:Fs)(now:Int)(d n:An)(s:ByteArray):Fs:=(S.bE now d.no (eG d.ay s)).np now n
def Fs.Ho(S:Fs)(c:Cr)(now dir:Int)(s:ByteArray):Fs×Int:=
 if S.dW c dir s≠0 then(S,S.dW c dir s) else
 match S.get dir,S.get (aF (S.bw dir) s) with
 |some d,some n=>if n.kind=1 then(S,8) else(S.Km now d n s,0)
 |_,_=>(S,5)
def Fs.rmdirF(S:Fs)(c:Cr)(now dir:Int)(s:ByteArray):Fs×Int:=
 if S.dW c dir s≠0 then(S,S.dW c dir s) else
 match S.get dir,S.get (aF (S.bw dir) s) with
 |some d,some n=>if n.kind≠1 then(S,9) else if n.ay≠[] then(S,10) else(S.Km now d n s,0)
 |_,_=>(S,5)
theorem ax.del{S:Fs}{N:Nat}(h:ax S N)(k:Int):ax (S.del k) N:=by
 refine⟨⟨?_,fun x hx=>?_⟩,h.l0,h.lN,fun a ha=>?_,h.d1,h.d8,h.root⟩
 ·unfold Fs.del;exact List.Pairwise.sublist (List.Sublist.map _ List.filter_sublist) h.nums.eE
 ·exact h.nums.low x (List.mem_filter.1 hx).1
 ·exact h.all a (List.mem_filter.1 ha).1
theorem ax.tM{S:Fs}{N:Nat}(h:ax S N)(n:An):ax (S.tM n) N:=by
 unfold Fs.tM
 split
 ·exact h
 ·split
  ·exact h.del _
  ·rename_i v hv;exact(h.bp (u:={v with b:=ED v.b v.n v.mb v.mn (-cR n.kind n.data.size) (-1),n:=EC v.b v.n v.mb v.mn (-cR n.kind n.data.size) (-1)}) hv rfl).del _
theorem ax.np{S:Fs}{N:Nat}(h:ax S N)(now:Int){n:An}(hn:pQ n S.ds.length N)(hl:1≤n.ao):ax (S.np now n) N:=by
 have h1:ax (S.set {n with ao:=n.ao-1,ctime:=now}) N:=h.set ⟨hn.eE,hn.mJ,hn.dev,by have:=hn.ao;show 0≤n.ao-1∧n.ao-1≤1000;omega,hn.data,hn.mode,hn.kind,hn.nz,hn.sy⟩;unfold Fs.np
 split
 ·exact h1.tM _
 ·exact h1
theorem tY{l:List En}(h:gQ l)(s:ByteArray):gQ (eG l s):=List.Pairwise.sublist List.filter_sublist h
end
section
open Go.RowKit
def Fs.NZ(S:Fs)(c:Cr)(t n old:An):Int:=
 if S.aC old.no≠old.no then 16 else if n.kind=1∧old.kind≠1 then 9 else if n.kind≠1∧old.kind=1 then 8 else if old.ay≠[] then 10 else if pd c t old=false then 4 else 0
def Fs.xu(S:Fs)(c:Cr)(src dst:Int)(d n t:An)(old:Option An):Int×Bool:=
 if d.dev≠t.dev then(11,false) else if n.kind=1∧S.ux n.no (S.ns.length+1) dst=true then(17,false)
 else if old.any (fun o=>o.no==n.no)=true then(0,true) else if n.kind=1∧src≠dst∧n.may c 2=false then(6,false)
 else match old with
  |none=>(0,false)
  |some o=>(S.NZ c t n o,false)
def Fs.shift(S:Fs)(now src:Int)(a:ByteArray)(dst:Int)(b:ByteArray)(d n:An)(old:Option An):Fs:=
 let S1:=match old with|none=>S|some o=>S.np now o
 let S2:=S1.bE now src (eG d.ay a)
 let S3:=S2.bE now dst (ct (S2.bw dst) b n.no)
 S3.set {n with ctime:=now,up:=if n.kind=1 then dst else n.up}
def Fs.gX(S:Fs)(c:Cr)(now src:Int)(a:ByteArray)(dst:Int)(b:ByteArray):Fs×Int:=
 if S.dW c src a≠0 then(S,S.dW c src a) else if S.aP c dst b≠0 then(S,S.aP c dst b) else
 match S.get src,S.get (aF (S.bw src) a),S.get dst with
 |some d,some n,some t=>
  if(S.xu c src dst d n t (S.get (aF t.ay b))).1≠0 then(S,(S.xu c src dst d n t (S.get (aF t.ay b))).1)
  else if(S.xu c src dst d n t (S.get (aF t.ay b))).2=true then(S,0)
  else(S.shift now src a dst b d n (S.get (aF t.ay b)),0)
 |_,_,_=>(S,5)
theorem II(S:Fs)(now:Int)(n:An):(S.np now n).ds.length=S.ds.length:=by
 unfold Fs.np Fs.tM
 split
 ·split
  ·rfl
  ·split
   ·rfl
   ·show(List.set _ _ _).length=_;rw[List.length_set];rfl
 ·rfl
theorem wq(S:Fs)(now k:Int)(l:List En):(S.bE now k l).ds=S.ds:=by unfold Fs.bE;split<;>rfl
theorem Jv{S:Fs}{N:Nat}(h:ax S N)(k:Int):gQ (S.bw k)∧(S.bw k).length≤N∧∀x∈S.bw k,1≤x.no:=by
 unfold Fs.bw
 cases hg:S.get k with
 |none=>exact⟨List.Pairwise.nil,Nat.zero_le _,fun x hx=>by cases hx⟩
 |some d=>
  obtain⟨ho,-⟩:=h.get hg;exact⟨ho.eE,ho.mJ,ho.nz⟩
theorem ax.shift{S:Fs}{N:Nat}(h:ax S N)(now src:Int)(a:ByteArray)(dst:Int)(b:ByteArray){d n:An}{k q:Int}(hd:S.get k=some d)(hn:S.get q=some n){old:Option An}(ho:∀o,old=some o→1≤o.ao∧∃r,S.get r=some o) :
  ax (S.shift now src a dst b d n old) (N+1):=by
 obtain⟨hdo,-⟩:=h.get hd;obtain⟨hno,hnn,nR,-⟩:=h.get hn;obtain⟨S1,pZ⟩:∃S1,(match old with|none=>S|some o=>S.np now o)=S1:=⟨_,rfl⟩;have h1:ax S1 N∧S1.ds.length=S.ds.length:=by
  subst pZ
  cases old with
  |none=>exact⟨h,rfl⟩
  |some o=>
   obtain⟨hl,r,hr⟩:=ho o rfl;exact⟨h.np now (h.get hr).1 hl,II S now o⟩
 unfold Fs.shift;rw[pZ];dsimp only;have h2:ax (S1.bE now src (eG d.ay a)) N:=h1.1.bE now src _ (tY hdo.eE a) (ae (List.length_filter_le _ _) hdo.mJ) (fun x hx=>hdo.nz x (List.mem_filter.1 hx).1);obtain⟨e1,e2,e3⟩:=Jv h2 dst;have h3:=(h2.mono (Nat.le_succ N)).bE now dst (ct ((S1.bE now src (eG d.ay a)).bw dst) b n.no) (qL e1 b n.no) (by have:=uO _ b n.no e1;omega) (zT e3 b (by omega));refine h3.set ?_;rw[wq,wq,h1.2];exact(pQ.mono ⟨hno.eE,hno.mJ,hno.dev,hno.ao,hno.data,hno.mode,hno.kind,hno.nz,hno.sy⟩ (aa _) (Nat.le_succ N))
end
section
open Go.RowKit
def tW(n:An)(data:ByteArray):Int:=cR 2 data.size-cR 2 n.data.size
def Fs.fill(S:Fs)(c:Cr)(now no:Int)(data:ByteArray):Fs×Int:=
 match S.get no with
 |none=>(S,5)
 |some n=>
  if n.kind=1 then(S,8) else if n.kind≠2 then(S,1) else if n.may c 2=false then(S,6) else if 1048576<data.size then(S,3) else
  match S.dev n.dev with
  |none=>(S,1)
  |some v=>
   if kE v.b v.n v.mb v.mn (tW n data) 0≠0 then(S,kE v.b v.n v.mb v.mn (tW n data) 0)
   else((S.bp n.dev {v with b:=v.b+tW n data}).set {n with data:=data,mtime:=now,ctime:=now},0)
def Sy.fillF(Y:Sy)(c:Cr)(no:Int)(data:ByteArray):Sy×Int:=Y.kx (fun S now=>S.fill c now no data)
end
section
open Go.RowKit
def Fs.fillW(S:Fs)(n:An)(v:Dv)(data:ByteArray):Fs×Int:=
 if kE v.b v.n v.mb v.mn (tW n data) 0≠0 then(S,kE v.b v.n v.mb v.mn (tW n data) 0)
 else((S.bp n.dev {v with b:=v.b+tW n data}).set {n with data:=data},0)
theorem bm.node{w w':World}{pw:Nat}{R:Rp}{S:Fs}(h:bm w pw R S){B:Nat}{vs:Array Value}(hB:aw w B vs 149)(hm:Mod (fun k=>k=B) w w'):bm w' pw R S:=
 h.mod hm (fun k o hk ho=>by
  subst hk;unfold aw at hB;rw[hB] at ho;injection ho with ho;subst ho;exact⟨rfl,fun cur e=>by injection e with _ e;exact absurd e (by decide)⟩)
theorem aA.node{w w':World}{a:Option Addr}{n c:Nat}{es:List En}(he:aA w a n c es){B:Nat}{vs:Array Value}(hB:aw w B vs 149)(hm:Mod (fun k=>k=B) w w'):aA w' a n c es:=
 he.fH (fun b cur hb=>hm.block b (Array.getElem?_eq_some_iff.1 hb).1 (fun e=>by
  subst e;unfold aw at hB;rw[hB] at hb;injection hb with hb;injection hb with _ hb;exact absurd hb (by decide))) hm.size
section
variable{w w':World}{pw:Nat}{R:Rp}{S:Fs}
end
end
section
open Go.RowKit
section
variable{w w':World}{pf:Nat}{R:Rf}{S:Fs}
end
end
section
open Go.RowKit
def Fs.J4(S:Fs)(d:Bool)(c:Cr)(no:Int):ByteArray×Int:=if d=true then(ByteArray.empty,20) else S.read c no
section
variable{w w':World}{pf:Nat}{R:Rf}{S:Fs}
end
end
section
open Go.RowKit
def dw:ByteArray:=ByteArray.mk #[100,105,114,101,99,116,111,114,121,115,105,122,101,115]
def dZ:ByteArray:=ByteArray.mk #[100,105,114,101,99,116,111,114,121,115,105,122,101,115,46,110,101,119]
def mB:ByteArray:=ByteArray.mk #[120]
def ev(n:Int):ByteArray:=str (List.replicate (n % 32).toNat 120)
def Sy.dA(Y:Sy)(n:Int):Sy:=if 0≤n∧n≤253402300799-Y.now then{Y with now:=Y.now+n} else Y
def Sy.nB(Y:Sy)(c:Cr)(x:Cn)(l:Ln):Sy:=
 let r:=Y.op (fun S now=>S.aO c now x.files l.name 448)
 let r1:=if r.2.2=0∧0≤l.size then(r.1.op (fun S now=>S.file c now r.2.1 mB 384 (ev l.size))).1 else r.1
 let r2:=if 0≤l.time then(r1.op (fun S now=>S.file c now x.info (l.name++dm) 384 ByteArray.empty)).1 else r1
 r2.dA (l.time % 256)
def Sy.dx(Y:Sy)(c:Cr)(x:Cn):List Ln→Sy
 | []=>Y
 |l::ls=>(Y.nB c x l).dx c x ls
def Sy.db(Y:Sy)(u:Us)(no:Int)(l:List Ln):Sy×Cn×Bool:=
 if(Y.bV u no).2.2≠0 then((Y.bV u no).1,iV,false) else((Y.bV u no).1.dx u.c (Y.bV u no).2.1 l,(Y.bV u no).2.1,true)
theorem cE.dA{Y:Sy}{N:Nat}(h:cE Y N)(n:Int):cE (Y.dA n) N:=by
 unfold Sy.dA
 split
 ·exact⟨h.du,h.c0,h.cN,h.pl⟩
 ·exact h
theorem cE.nB{Y:Sy}{N:Nat}(h:cE Y N)(c:Cr)(x:Cn)(l:Ln):cE (Y.nB c x l) (N+3):=by
 unfold Sy.nB;dsimp only;have h1:cE (Y.op (fun S now=>S.aO c now x.files l.name 448)).1 (N+1):=h.op (h.du.aO c Y.now x.files l.name 448);generalize Y.op (fun S now=>S.aO c now x.files l.name 448)=r at h1⊢;have h2:cE (if r.2.2=0∧0≤l.size then(r.1.op (fun S now=>S.file c now r.2.1 mB 384 (ev l.size))).1 else r.1) (N+2):=by
  split
  ·exact h1.op (h1.du.file _ _ _ _ _ _)
  ·exact h1.mono (by omega)
 generalize (if r.2.2=0∧0≤l.size then(r.1.op (fun S now=>S.file c now r.2.1 mB 384 (ev l.size))).1 else r.1)=r1 at h2⊢;refine cE.dA ?_ _
 split
 ·exact h2.op (h2.du.file _ _ _ _ _ _)
 ·exact h2.mono (by omega)
theorem cE.dx{c:Cr}{x:Cn}:∀{l:List Ln} {Y:Sy} {N:Nat},cE Y N→cE (Y.dx c x l) (N+3*l.length)
 | [],_,_,h=>h
 |l::ls,Y,N,h=>by
  have h1:=(h.nB c x l).dx (c:=c) (x:=x) (l:=ls);exact h1.mono (by simp only[List.length_cons];omega)
theorem cE.db{Y:Sy}{N:Nat}(h:cE Y N)(u:Us)(no:Int)(l:List Ln):cE (Y.db u no l).1 (N+20+3*l.length):=by
 unfold Sy.db
 split
 ·exact(h.bV u no).mono (by omega)
 ·exact(h.bV u no).dx
def Ln.z'(x:Ln):Bool:=decide (0≤x.size)&&decide (0≤x.time)&&decide (cx x.name=0)
def IH(x:Ln):List UInt8:=js x.size++32::(js x.time++32::(pJ x.name.data.toList++[10]))
def cB(l:List Ln):List UInt8:=(l.filter Ln.z').flatMap IH
def Fs.kQ(S:Fs)(d:Bool)(c:Cr)(x:Cn):ByteArray×Int:=
 if(S.bh d c x.dir dw).2≠0 then(ByteArray.empty,(S.bh d c x.dir dw).2) else S.J4 d c (S.bh d c x.dir dw).1
def Sy.EU(Y:Sy)(N:Nat)(c:Cr)(x:Cn):Sy×Int:=
 if(Y.fs.cK N Y.dead c x).2≠0 then(Y,(Y.fs.cK N Y.dead c x).2) else
 let want:=str (cB (Y.fs.cK N Y.dead c x).1)
 let h:=Y.fs.kQ Y.dead c x
 if(h.2=0∧h.1=want)∨(h.2=5∧want.size=0) then(Y,0) else if h.2=20 then(Y,20) else
 let r:=Y.op (fun S now=>S.file c now x.dir dZ 384 want)
 if r.2.2≠0 then(r.1,r.2.2) else
 let q:=r.1.kx (fun S now=>S.gX c now x.dir dZ x.dir dw)
 if q.2≠0 then((q.1.kx (fun S now=>S.Ho c now x.dir dZ)).1,q.2) else(q.1,0)
theorem Ad(S:Fs){N M:Nat}(h:ax S N)(d:Bool)(c:Cr):(S.cK M d c iV).2≠0:=by
 have hg:S.get 0=none:=by
  cases hg:S.get 0 with
  |none=>rfl
  |some a=>have:=(h.get hg).2.2.1;omega
 have h1:(S.cp d c (iV:Cn).files).2≠0:=by
  unfold Fs.cp
  split
  ·decide
  ·have:S.dY c 0 1 4≠0:=by
    unfold Fs.dY;rw[hg];show(5:Int)≠0;decide
   show(if S.dY c 0 1 4≠0 then _ else _:List En×Int).2≠0;rw[if_pos this];exact this
 unfold Fs.cK;rw[if_pos h1];exact h1
end
section
open Go.RowKit
attribute [local go_sem] Oper.semAt_some
theorem EO(x:Ln)(hn:x.name.size≤9223372036854775807)(w:World):Calls Tryz.prog 42 #[.agg #[.int .i64 x.size,.int .i64 x.time,.string x.name]] w fun e w'=>e=.returned (.bool x.z')∧Qi w w':=by
 have HC:=Qf (fun w=>mw x.name w hn);have hM:x.z'=(decide (0≤x.size)&&decide (0≤x.time)&&decide (cx x.name=0)):=rfl;generalize x.z'=m at hM⊢;generalize cx x.name=ck at hM HC;by_cases h1:0≤x.size
 ·by_cases h2:0≤x.time
  ·have HM:=Qf (show m=decide (ck=0) by rw[hM,decide_eq_true h1,decide_eq_true h2];rfl);clear hM;go_enter Tryz.func42,Tryz.ntmps42;go_wp2_with fail;refine(HC.o _).mono ?_;rintro e w1 ⟨rfl,rfl⟩;go_wp2_with fail;go_ret;refine⟨?_,aq (Below.refl _ _) _⟩;rw[HM.o];congr 2
  ·have HM:=Qf (show m=false by rw[hM,decide_eq_false h2];simp);clear hM;go_enter Tryz.func42,Tryz.ntmps42;go_wp2_with fail;go_ret;exact⟨by rw[HM.o];rfl,aq (Below.refl _ _) _⟩
 ·have HM:=Qf (show m=false by rw[hM,decide_eq_false h1];simp);clear hM;go_enter Tryz.func42,Tryz.ntmps42;go_wp2_with fail;go_ret;exact⟨by rw[HM.o];rfl,aq (Below.refl _ _) _⟩
theorem zG(l:List Ln)(k:Nat)(hk:k<l.length):cB (l.take (k+1))=cB (l.take k)++(if l[k].z' then IH l[k] else[]):=by
 unfold cB;rw[List.take_succ_eq_append_getElem hk,List.filter_append,List.flatMap_append];congr 1
 cases h:l[k].z'<;>simp[List.filter_cons,h]
theorem Bv(x:Ln)(h0:-9223372036854775808≤x.size∧x.size≤9223372036854775807)(h1:-9223372036854775808≤x.time∧x.time≤9223372036854775807)(h2:x.name.size≤300):(IH x).length≤1000:=by
 have a1:=(jO x.size h0.1 h0.2).1;have a2:=(jO x.time h1.1 h1.2).1;have a3:=nE x.name.data.toList;have a4:x.name.data.toList.length=x.name.size:=Array.length_toList;unfold IH;simp only[List.length_append,List.length_cons,List.length_nil];omega
theorem s'(l:List Ln)(h:∀x∈l,(-9223372036854775808≤x.size∧x.size≤9223372036854775807)∧(-9223372036854775808≤x.time∧x.time≤9223372036854775807)∧x.name.size≤300):(cB l).length≤1000*l.length:=by
 induction l with
 |nil=>simp[cB]
 |cons x l ih=>
  have h1:=ih (fun y hy=>h y (List.mem_cons_of_mem _ hy));obtain⟨a1,a2,a3⟩:=h x List.mem_cons_self;have h2:=Bv x a1 a2 a3;unfold cB at h1⊢;rw[List.filter_cons]
  split
  ·rw[List.flatMap_cons,List.length_append,List.length_cons];omega
  ·rw[List.length_cons];omega
theorem BN(s:ByteArray):s.size=s.data.toList.length:=Array.length_toList.symm
theorem ue{T e:TypeId}{B b:Nat}{p:Value}{bs:List Value}{w w':World}(h:Lib.BuilderAt T e B b p bs w)(hm:Qi w w'):Lib.BuilderAt T e B b p bs w':=by
 have hlt:=h.lt;obtain⟨hB,v,hb,hown,hne⟩:=h;exact⟨hB,v,(hm.block b hlt).trans hb,dD hown hm (aa _),hne⟩
theorem sX.ak{b:Nat}{l:List UInt8}{w w':World}(h:sX b l w)(hm:Qi w w'):sX b l w':=
 h.imp (fun h=>ue h hm) (fun h=>ue h hm)
structure PA(w':World)(xb:Nat)(x:Ln):Prop where
 x:aw w' xb #[.int .i64 x.size,.int .i64 x.time,.string x.name] 60
theorem zx(l:List Ln)(a:Option Addr)(n c:Nat)(w:World)(hs:bj w 3 IG a n c l)(hn:n≤1000)(hb:∀x∈l,(-9223372036854775808≤x.size∧x.size≤9223372036854775807)∧(-9223372036854775808≤x.time∧x.time≤9223372036854775807)∧x.name.size≤300) :
  Calls Tryz.prog 21 #[.slice a n c] w fun e w'=>e=.returned (.string (str (cB l)))∧Qi w w':=by
 have hln:l.length=n:=hs.1;have HS:=Qf hs;have HB:=Qf hb;have hbld:=sX.new w;have cH:=aq (Qj w) (.cells #[.pointer none,.slice none 0 0] 117);have yQ:=Qf (fun k=>show(cB (l.take k)).length≤1000*1000 from ae (s' _ (fun x hx=>hb x (List.mem_of_mem_take hx))) (by rw[List.length_take];omega));clear hs hb;go_enter Tryz.func21,Tryz.ntmps21;go_upto_region 2 with fail;generalize w.alloc _=w0 at hbld cH⊢;have bP:=Qf (ag hbld cH);clear hbld cH;go_wp2_with fail
 go_loopw [8] (fun t8 wr=>∃k:Nat,k≤l.length∧t8=.int .i64 k∧lT w.heap.size (cB (l.take k)) wr∧(cB (l.take k)=[]→sX w.heap.size [] wr)∧Qi w wr) (fun t8 _=>l.length-(intOf t8).toNat)
 case atStart=>exact⟨0,Nat.zero_le _,rfl,lT.of bP.o.1,fun _=>bP.o.1,bP.o.2⟩
 case round=>
  obtain⟨k,hkl,rfl,zg,oA,eU⟩:=hrel;by_cases hk:k<l.length
  ·obtain⟨b,off,rfl,hbl,c0,c1,c2⟩:=cn (HS.o.below eU (aa _)) k hk;have hbx:=HB.o l[k] (List.getElem_mem hk);have htk:=zG l k hk;obtain⟨x,hx⟩:∃x,l[k]=x:=⟨_,rfl⟩;rw[hx] at c0 c1 c2 hbx htk;have hX:=aw.new wr #[.int .i64 x.size,.int .i64 x.time,.string x.name] 60;have aI:=(Qj wr).alloc (aa _) (.cells #[.int .i64 x.size,.int .i64 x.time,.string x.name] 60);have pV:=yQ.o k;have iT:=Qf hk;have hk9:k≤999:=by omega
   clear hx;go_upto_region 5 with fail;generalize wr.alloc _=V at hX aI⊢;have hbb:w.heap.size<wr.heap.size:=zg.lt;have Ar:=aI;generalize hxb:wr.heap.size=xb at hX hbb⊢;have LB:=zg.below Ar;have l5:=fun h=>(oA h).ak Ar;have cT:=au eU Ar;have HM:=Qf (EO x (by omega) V);have H2:=Qf (ag hX (ag LB (ag cT l5)));have HTk:=Qf htk;obtain⟨xc,xf,xz⟩:=hX.facts;clear hX zg oA eU LB l5 cT aI Ar c0 c1 c2 htk;go_wp2_with fail;refine HM.o.mono ?_;rintro e V2 ⟨rfl,aS⟩;have lG:=H2.o.1.ak aS;have LB:=H2.o.2.1.below aS;have l5:=fun h=>(H2.o.2.2.2 h).ak aS;have cT:=au H2.o.2.2.1 aS;clear xc xf xz aS
   cases hm:x.z' with
   |false=>
    have HN:=Qf (show cB (l.take (k+1))=cB (l.take k) by rw[HTk.o,hm];simp);have HE:=Qf (ag LB (ag l5 cT));clear hm lG LB l5 cT;go_wp2_with fail;go_roundw
    case rel=>exact⟨k+1,by have:=iT.o;omega,by go_num,by rw[HN.o];exact HE.o.1,by rw[HN.o];exact HE.o.2.1,HE.o.2.2⟩
    case measure=>
     have:=iT.o;simp[intOf];omega
   |true=>
    have HN:=Qf (show cB (l.take (k+1))=cB (l.take k)++IH x by rw[HTk.o,hm];simp);obtain⟨sa,hsa⟩:∃sa,str (js x.size)=sa:=⟨_,rfl⟩;obtain⟨sb,hsb⟩:∃sb,str (js x.time)=sb:=⟨_,rfl⟩;obtain⟨sc,hsc⟩:∃sc,str (pJ x.name.data.toList)=sc:=⟨_,rfl⟩;have hza:sa.size≤21:=by rw[←hsa,cJ];exact(jO x.size hbx.1.1 hbx.1.2).1
    have hzb:sb.size≤21:=by rw[←hsb,cJ];exact(jO x.time hbx.2.1.1 hbx.2.1.2).1
    have hzc:sc.size≤900:=by
     rw[←hsc,cJ];have a3:=nE x.name.data.toList;have a4:x.name.data.toList.length=x.name.size:=Array.length_toList;have:=hbx.2.2;omega
    have HL:=Qf (show(sa++ByteArray.mk #[32]++sb++ByteArray.mk #[32]++sc++ByteArray.mk #[10]).data.toList=IH x by
     rw[←hsa,←hsb,←hsc];unfold IH str;simp[ByteArray.data_append])
    have q1:¬9223372036854775807<sa.size+1:=by omega
    have q2:¬9223372036854775807<sa.size+1+sb.size:=by omega
    have q3:¬9223372036854775807<sa.size+1+sb.size+1:=by omega
    have q4:¬9223372036854775807<sa.size+1+sb.size+1+sc.size:=by omega
    have q5:¬9223372036854775807<sa.size+1+sb.size+1+sc.size+1:=by omega
    have NC:=Qf (fun w=>vA x.size w hbx.1.1 hbx.1.2);have HDb:=Qf (fun w=>vA x.time w hbx.2.1.1 hbx.2.1.2);have HDc:=Qf (fun w=>AI x.name w (by have:=hbx.2.2;omega));rw[hsa] at NC;rw[hsb] at HDb;rw[hsc] at HDc;have H3:=Qf (ag lG (ag LB cT));have hbd:Qi V2 V2.drew:=(Below.refl _ _).drew;have gU:PA V2.drew xb x:=⟨lG.ak hbd⟩;clear hm lG LB l5 cT hsa hsb hsc;go_upto_region 6 with fail;refine wp_region_held_drew (S:=fun w'=>PA w' xb x) (by kernel_rfl) gU (fun be=>?_);refine aK 6 [(0,14),(1,15),(4,18),(5,19),(9,23),(10,24)] (by kernel_rfl) (by kernel_rfl) rfl (fun _ _ _ _ _ h=>h) be ?_
    iterate 6 (apply aE rfl rfl;(· (intro w9 b8;obtain⟨s1,-,-⟩:=b8.x.facts;clear b8;go_simp;(try with_reducible rfl)));simp only[ah,ai,aj])
    refine aJ ?_;refine bB 2 16 (R:=fun v w'=>v=.string sa∧Below V2.drew.heap.size V2.drew w') (by kernel_rfl) rfl rfl rfl ?xa ((NC.o _).mono (fun e w' ⟨he,hw⟩=>⟨_,he,rfl,hw⟩)) (fun v w' ⟨_,hw⟩=>⟨be.x.ak hw⟩) ?_
    case xa=>(go_simp;(try rfl))
    rintro _ V3 ⟨rfl,bK⟩;simp only[ah,ai,aj];have pE:PA V3 xb x:=⟨be.x.ak bK⟩;have kT:=au hbd bK;refine aK 1 [(3,17)] (by kernel_rfl) (by kernel_rfl) rfl (fun _ _ _ _ _ h=>h) pE ?_
    iterate 1 (apply aE rfl rfl;(· (intro w9 b8;clear b8;go_simp;(try with_reducible rfl)));simp only[ah,ai,aj])
    refine aJ ?_;refine bB 6 20 (R:=fun v w'=>v=.string sb∧Qi V3 w') (by kernel_rfl) rfl rfl rfl ?xb2 ((HDb.o _).mono (fun e w' ⟨he,hw⟩=>⟨_,he,rfl,hw⟩)) (fun v w' ⟨_,hw⟩=>⟨pE.x.ak hw⟩) ?_
    case xb2=>(go_simp;(try rfl))
    rintro _ V4 ⟨rfl,cZ⟩;simp only[ah,ai,aj];have p6:PA V4 xb x:=⟨pE.x.ak cZ⟩;have rD:=au kT cZ;refine aK 2 [(7,21),(8,22)] (by kernel_rfl) (by kernel_rfl) rfl (fun _ _ _ _ _ h=>h) p6 ?_
    iterate 2 (apply aE rfl rfl;(· (intro w9 b8;clear b8;go_simp;(try with_reducible rfl)));simp only[ah,ai,aj])
    refine aJ ?_;refine bB 11 25 (R:=fun v w'=>v=.string sc∧Qi V4 w') (by kernel_rfl) rfl rfl rfl ?xc2 ((HDc.o _).mono (fun e w' ⟨he,hw⟩=>⟨_,he,rfl,hw⟩)) (fun v w' ⟨_,hw⟩=>⟨p6.x.ak hw⟩) ?_
    case xc2=>(go_simp;(try rfl))
    rintro _ V5 ⟨rfl,bU⟩;simp only[ah,ai,aj];have kB:PA V5 xb x:=⟨p6.x.ak bU⟩;have fy:=au rD bU;refine aK 2 [(12,26),(13,27)] (by kernel_rfl) (by kernel_rfl) rfl (fun _ _ _ _ _ h=>h) kB ?_
    iterate 2 (apply aE rfl rfl;(· (intro w9 b8;clear b8;go_simp;(try with_reducible rfl)));simp only[ah,ai,aj])
    refine aJ ?_;have pG:=au H3.o.2.2 fy;have Nc:=Qf (A9 w.heap.size (cB (l.take k)) (sa++ByteArray.mk #[32]++sb++ByteArray.mk #[32]++sc++ByteArray.mk #[10]) V5 (H3.o.2.1.below fy) (by omega) (by
     rw[BN,HL.o];have:=Bv x hbx.1 hbx.2.1 hbx.2.2;omega))
    rw[HL.o] at Nc;refine bB 14 28 (R:=fun v w'=>lT w.heap.size (cB (l.take k)++IH x) w'∧Below w.heap.size V5 w'∧Oth w.heap.size V5 w') (by kernel_rfl) rfl rfl rfl ?xd (Nc.o.mono (fun e w' ⟨he,hw⟩=>⟨_,he,hw⟩)) (fun v w' hw=>⟨kB.x.oth hw.2.2 (by omega) (by decide)⟩) ?_
    case xd=>(go_simp;(try rfl))
    rintro v9 V9 ⟨hK9,lF,ho9⟩;simp only[ah,ai,aj];refine wpAnyH_done (by kernel_rfl) ?_ _;have HE:=Qf (ag hK9 (pG.trans lF));clear hK9 lF ho9;go_wp2_with fail;go_roundw
    case rel=>exact⟨k+1,by have:=iT.o;omega,by go_num,by rw[HN.o];exact HE.o.1,fun h=>absurd (HN.o.symm.trans h) (by unfold IH;simp),HE.o.2⟩
    case measure=>
     have:=iT.o;simp[intOf];omega
  ·obtain rfl:k=l.length:=by omega
   rw[List.take_length] at zg oA;have HE:=Qf eU;by_cases h0:cB l=[]
   ·have HS0:=Qf (Gr w.heap.size [] wr (oA h0));have H0:=Qf h0;clear h0 zg oA eU;go_wp2_with fail;refine HS0.o.mono ?_;rintro e w9 ⟨rfl,lF⟩;have yV:=Qf (HE.o.trans lF);clear lF;go_wp2_with fail;go_ret;exact⟨by rw[H0.o];rfl,yV.o⟩
   ·have HS0:=Qf (BM w.heap.size (cB l) wr zg h0);clear h0 zg oA eU;go_wp2_with fail;refine HS0.o.mono ?_;rintro e w9 ⟨rfl,lF⟩;have yV:=Qf (HE.o.trans lF);clear lF;go_wp2_with fail;go_ret;exact⟨rfl,yV.o⟩
end
section
open Go.RowKit
attribute [local go_sem] Oper.semAt_some
structure PC(w':World)(bu bx:Nat)(u:Us)(x:Cn):Prop where
 u:aw w' bu #[.int .i64 u.u,.int .i64 u.g,.string u.data] 27
 x:aw w' bx #[.string x.path,.int .i64 x.dir,.int .i64 x.info,.int .i64 x.files,.int .i64 x.out,.int .i64 x.jm,.string x.top] 48
theorem PC.ak{w w':World}{bu bx:Nat}{u:Us}{x:Cn}(h:PC w bu bx u x)(hb:Qi w w'):PC w' bu bx u x:=⟨h.u.ak hb,h.x.ak hb⟩
section
variable{w w':World}{pf pw:Nat}{R:Rp}{pv:Value}{Y:Sy}
theorem tZ(h:bg w pf pw R pv Y){N:Nat}(hk:ax Y.fs N)(hN:N≤999999)(hd:Y.dead=false)(u:Us)(x:Cn) :
  Calls Tryz.prog 18 #[.pointer (some ⟨pf,0,none⟩),.agg #[.int .i64 u.u,.int .i64 u.g,.string u.data],.agg #[.string x.path,.int .i64 x.dir,.int .i64 x.info,.int .i64 x.files,.int .i64 x.out,.int .i64 x.jm,.string x.top]] w fun e w'=>
   e=.returned (.tuple #[.string (Y.fs.kQ Y.dead u.c x).1,.int .i64 (Y.fs.kQ Y.dead u.c x).2])∧Qi w w':=by
 obtain⟨hU,hX,hb⟩:=jv w #[.int .i64 u.u,.int .i64 u.g,.string u.data] #[.string x.path,.int .i64 x.dir,.int .i64 x.info,.int .i64 x.files,.int .i64 x.out,.int .i64 x.jm,.string x.top] 27 48;have HK:=Qf (fun w1 (av:Qi w w1)=>iw (h.ak av) hk hN u.c x.dir dw);have HR:=Qf (fun w1 (av:Qi w w1) no=>zC (h.ak av) hk hd u.c no);have HH:=Qf (show Y.fs.kQ Y.dead u.c x=if(Y.fs.bh Y.dead u.c x.dir dw).2≠0 then(ByteArray.empty,(Y.fs.bh Y.dead u.c x.dir dw).2) else Y.fs.read u.c (Y.fs.bh Y.dead u.c x.dir dw).1 from by
  unfold Fs.kQ Fs.J4;rw[hd];rfl)
 generalize Y.fs.kQ Y.dead u.c x=rd at HH⊢;generalize Y.fs.bh Y.dead u.c x.dir dw=lk at HK HH;obtain⟨k,e1⟩:=lk;dsimp only at HK HH;have oP:=Qf (fun w1 av=>HR.o w1 av k);generalize Y.fs.read u.c k=rv at oP HH;have ec:(⟨u.u,u.g⟩:Cr)=u.c:=rfl;have ec1:u.c.u=u.u:=rfl;have ec2:u.c.g=u.g:=rfl;unfold dw at HK;clear h hk HR;go_enter Tryz.func18,Tryz.ntmps18;go_upto_region 1 with fail;generalize (w.alloc (.cells #[.int .i64 u.u,.int .i64 u.g,.string u.data] 27)).alloc (.cells #[.string x.path,.int .i64 x.dir,.int .i64 x.info,.int .i64 x.files,.int .i64 x.out,.int .i64 x.jm,.string x.top] 48)=X at hU hX hb⊢;have hbd:Qi X X.drew:=(Below.refl _ _).drew;have hS:PC X w.heap.size (w.heap.size+1) u x:=⟨hU,hX⟩;have H0:=Qf (ag hS hb);refine wp_region_held_drew (S:=fun w'=>PC w' w.heap.size (w.heap.size+1) u x) (by kernel_rfl) (hS.ak hbd) (fun be=>?_);refine aK 4 [(0,11),(1,12),(3,14),(4,15)] (by kernel_rfl) (by kernel_rfl) rfl (fun _ _ _ _ _ h=>h) be ?_
 iterate 4 (apply aE rfl rfl;(· (intro w9 b8;obtain⟨s1,-,-⟩:=b8.u.facts;obtain⟨s2,-,-⟩:=b8.x.facts;clear b8;go_simp;(try with_reducible rfl)));simp only[ah,ai,aj])
 refine aJ ?_;refine bB 2 13 (R:=fun v w'=>v=.agg #[.int .i64 u.u,.int .i64 u.g]∧Below X.drew.heap.size X.drew w') (by kernel_rfl) rfl rfl rfl ?xa ((eP u.u u.g u.data _).mono (fun e w' ⟨he,hw⟩=>⟨_,he,rfl,hw⟩)) (fun v w' ⟨_,hw⟩=>be.ak hw) ?_
 case xa=>(go_simp;(try rfl))
 rintro _ V3 ⟨rfl,bK⟩;simp only[ah,ai,aj];have pE:=be.ak bK;have Lm:=au hb (au hbd bK);refine bB 5 16 (R:=fun v w'=>v=.tuple #[.int .i64 k,.int .i64 e1]∧Qi V3 w') (by kernel_rfl) rfl rfl rfl ?xb ((HK.o _ Lm).mono (fun e w' ⟨he,hw⟩=>⟨_,he,rfl,hw⟩)) (fun v w' ⟨_,hw⟩=>pE.ak hw) ?_
 case xb=>(go_simp;(try rfl))
 rintro _ V4 ⟨rfl,cZ⟩;simp only[ah,ai,aj];have p6:=pE.ak cZ;refine aK 5 [(6,10),(7,17),(8,18),(9,8),(10,9)] (by kernel_rfl) (by kernel_rfl) rfl (fun _ _ _ _ _ h=>h) p6 ?_
 iterate 5 (apply aE rfl rfl;(· (intro w9 b8;clear b8;go_simp;(try with_reducible rfl)));simp only[ah,ai,aj])
 refine aJ ?_;refine wpAnyH_done (by kernel_rfl) ?_ _;have H4:=Qf (au Lm cZ);obtain⟨uc,uf,uz⟩:=p6.u.facts;clear hU hX hb hbd hS be pE p6 bK cZ Lm;by_cases h1:e1≠0
 ·have hv:(e1 != 0)=true:=by simpa using h1
  have hE:=HH.o;rw[if_pos h1] at hE;subst hE;clear h1;go_wp2_with fail;go_ret2;exact⟨rfl,H4.o⟩
 ·have hv:(e1 != 0)=false:=by simpa using h1
  have hE:=HH.o;rw[if_neg h1] at hE;subst hE;clear h1;go_wp2_with fail;refine(eP u.u u.g u.data _).mono ?_;rintro e V5 ⟨rfl,bU⟩;have H5:=Qf (au H4.o bU);clear bU uc uf uz;go_wp2_with fail;refine(oP.o _ H5.o).mono ?_;rintro e V6 ⟨rfl,fo⟩;have H6:=Qf (au H5.o fo);clear fo;go_wp2_with fail;go_ret2;exact⟨rfl,H6.o⟩
theorem fN(h:bg w pf pw R pv Y)(n:Int)(hn:0≤n∧n≤1000)(h0:0≤Y.now∧Y.now≤253402300799) :
  Calls Tryz.prog 24 #[.pointer (some ⟨pf,0,none⟩),.int .i64 n] w fun e w'=>(∃v,e=.returned (.int .i64 v))∧bg w' pf pw R pv (Y.dA n)∧Mod (fun k=>k=pf) w w':=by
 have HN:=Qf (gy h);have HY:=Qf h;have HT:=Qf (show Y.dA n=if 0≤n∧n≤253402300799-Y.now then{Y with now:=Y.now+n} else Y from rfl);obtain⟨pc,pf',pz⟩:=h.aZ.facts;obtain⟨ME,nR⟩:=hn;obtain⟨Ob,hy1⟩:=h0;have jy:¬n<0:=by omega
 clear h;by_cases hc:n≤253402300799-Y.now
 ·have hE:=Qf (HT.o.trans (if_pos ⟨ME,hc⟩));have eT:¬253402300799-Y.now<n:=by omega
  go_enter Tryz.func24,Tryz.ntmps24;go_wp2_with (refine HN.o.mono ?_;rintro e w1 ⟨rfl,rfl⟩);go_ret;rw[hE.out];have hm:Mod (fun k=>k=pf) w (w.setCell ⟨pf,1,none⟩ (.int .i64 (Y.now+n))):=(Mod.refl (fun k=>k=pf) w).setCell (a:=⟨pf,1,none⟩) (.inl rfl) _;exact⟨⟨_,rfl⟩,HY.o.sZ hm rfl rfl (HY.o.aZ.set 1 _),hm⟩
 ·have hE:=Qf (HT.o.trans (if_neg (fun h=>hc h.2)));have eT:253402300799-Y.now<n:=by omega
  clear hc;go_enter Tryz.func24,Tryz.ntmps24;go_wp2_with (refine HN.o.mono ?_;rintro e w1 ⟨rfl,rfl⟩);go_ret;rw[hE.out];exact⟨⟨_,rfl⟩,HY.o,Mod.refl _ _⟩
end
end
section
open Go.RowKit Go.ChangeShapes Go.WideShapes Go.ChangeAt
section
variable{H:Type}{enc:TypeId×Value→H}{w:World}{base:Nat}{spare:Nat→Bool}{held:Bool}
theorem eC{P:Program}{t:TypeId}{fs:Array Field}{fuel:Nat}{cs:List Value}{x:DataW H×List MemPlace}(ht:P.underlying t=some (.struct fs))(h:DataW.trod enc P w base spare held fuel t cs=some x) :
  cs.length=P.cellsOf t∧∃n,∀(i:Nat) (ty:TypeId) (off k:Nat) (l:List Value),(fs[i]?.map fun f=>(f.type,f.offset))=some (ty,off)→P.cellsOf ty=k→(cs.drop off).take k=l→∃y,DataW.trod enc P w base spare held n ty l=some y:=by
 obtain⟨xs,n,-,-,h1,h2,h3⟩:=DataW.trod_struct ht h;refine⟨h1,n,fun i ty off k l hf hk hl=>?_⟩;obtain⟨f,gY,e⟩:=Option.map_eq_some_iff.1 hf;clear hf;injection e with e1 e2;subst e1 e2 hk hl;have hi:i<xs.length:=by
  rw[h2];exact(Array.getElem?_eq_some_iff.1 gY).1
 exact⟨xs[i],by rw[h3 i f gY,List.getElem?_eq_getElem hi]⟩
theorem Hq{fuel:Nat}{cs:List Value}{x:DataW H×List MemPlace}(h:DataW.trod enc Tryz.prog w base spare held fuel 125 cs=some x):∃y:Mt,N5 cs y:=by
 obtain⟨h1,n,h2⟩:=eC Tryz.underlying125 h;have hc:Tryz.prog.cellsOf 125=3:=by kernel_rfl
 have c1:Tryz.prog.cellsOf 9=1:=by kernel_rfl
 have c2:Tryz.prog.cellsOf 3=1:=by kernel_rfl
 rw[hc] at h1
 match cs,h1 with
 | [a0,a1,a2],_=>
  obtain⟨y0,k0⟩:=h2 0 9 0 1 [a0] rfl c1 rfl;obtain⟨y1,k1⟩:=h2 1 3 1 1 [a1] rfl c2 rfl;obtain⟨y2,k2⟩:=h2 2 3 2 1 [a2] rfl c2 rfl;obtain⟨s,e0,-⟩:=iE Tryz.underlying9 k0;obtain⟨n1,e1,-⟩:=dG Tryz.underlying3 k1;obtain⟨n2,e2,-⟩:=dG Tryz.underlying3 k2;simp at e0 e1 e2;subst e0 e1 e2;exact⟨⟨s,n1,n2⟩,rfl⟩
theorem Hr{fuel:Nat}{cs:List Value}{x:DataW H×List MemPlace}(h:DataW.trod enc Tryz.prog w base spare held fuel 82 cs=some x):∃y:It,Oa cs y:=by
 obtain⟨h1,n,h2⟩:=eC Tryz.underlying82 h;have hc:Tryz.prog.cellsOf 82=7:=by kernel_rfl
 have c1:Tryz.prog.cellsOf 9=1:=by kernel_rfl
 have c2:Tryz.prog.cellsOf 3=1:=by kernel_rfl
 rw[hc] at h1
 match cs,h1 with
 | [a0,a1,a2,a3,a4,a5,a6],_=>
  obtain⟨y0,k0⟩:=h2 0 9 0 1 [a0] rfl c1 rfl;obtain⟨y1,k1⟩:=h2 1 3 1 1 [a1] rfl c2 rfl;obtain⟨y2,k2⟩:=h2 2 3 2 1 [a2] rfl c2 rfl;obtain⟨y3,k3⟩:=h2 3 3 3 1 [a3] rfl c2 rfl;obtain⟨y4,k4⟩:=h2 4 3 4 1 [a4] rfl c2 rfl;obtain⟨y5,k5⟩:=h2 5 3 5 1 [a5] rfl c2 rfl;obtain⟨y6,k6⟩:=h2 6 9 6 1 [a6] rfl c1 rfl;obtain⟨s,e0,-⟩:=iE Tryz.underlying9 k0;obtain⟨n1,e1,-⟩:=dG Tryz.underlying3 k1;obtain⟨n2,e2,-⟩:=dG Tryz.underlying3 k2;obtain⟨n3,e3,-⟩:=dG Tryz.underlying3 k3;obtain⟨n4,e4,-⟩:=dG Tryz.underlying3 k4;obtain⟨n5,e5,-⟩:=dG Tryz.underlying3 k5;obtain⟨s6,e6,-⟩:=iE Tryz.underlying9 k6;simp at e0 e1 e2 e3 e4 e5 e6;subst e0 e1 e2 e3 e4 e5 e6;exact⟨⟨s,n1,n2,n3,n4,n5,s6⟩,rfl⟩
theorem B9{fuel:Nat}{cs:List Value}{x:DataW H×List MemPlace}(h:DataW.trod enc Tryz.prog w base spare held fuel 25 cs=some x) :
  ∃ma mn mc ia il ic ms is,cs=[.slice ma mn mc,.slice ia il ic]∧lO w ma mn mc ia il ic ms is:=by
 obtain⟨h1,n,h2⟩:=eC Tryz.underlying25 h;have hc:Tryz.prog.cellsOf 25=2:=by kernel_rfl
 have c1:Tryz.prog.cellsOf 22=1:=by kernel_rfl
 have c2:Tryz.prog.cellsOf 23=1:=by kernel_rfl
 rw[hc] at h1
 match cs,h1 with
 | [a0,a1],_=>
  obtain⟨y0,k0⟩:=h2 0 22 0 1 [a0] rfl c1 rfl;obtain⟨y1,k1⟩:=h2 1 23 1 1 [a1] rfl c2 rfl;obtain⟨ma,mn,mc,ms,e0,hm⟩:=pR (R:=N5) (sz:=3) Tryz.underlying22 (by kernel_rfl) (by decide) (fun fuel cs x h=>Hq h) k0;obtain⟨ia,il,ic,is,e1,hi⟩:=pR (R:=Oa) (sz:=7) Tryz.underlying23 (by kernel_rfl) (by decide) (fun fuel cs x h=>Hr h) k1;simp at e0 e1;subst e0 e1;exact⟨ma,mn,mc,ia,il,ic,ms,is,rfl,⟨hm,hi⟩⟩
end
end
section
open Go.RowKit Go.ChangeShapes Go.WideShapes Go.ChangeAt
section
variable{H:Type}{enc:TypeId×Value→H}{w:World}{base:Nat}{spare:Nat→Bool}{held:Bool}
def K0(cs:List Value)(y:Ln):Prop:=IG cs y∧(-9223372036854775808≤y.size∧y.size≤9223372036854775807)∧(-9223372036854775808≤y.time∧y.time≤9223372036854775807)∧y.name.size≤9223372036854775807
theorem Ca{fuel:Nat}{cs:List Value}{x:DataW H×List MemPlace}(h:DataW.trod enc Tryz.prog w base spare held fuel 60 cs=some x):∃y:Ln,K0 cs y:=by
 obtain⟨h1,n,h2⟩:=eC Tryz.underlying60 h;have hc:Tryz.prog.cellsOf 60=3:=by kernel_rfl
 have c1:Tryz.prog.cellsOf 9=1:=by kernel_rfl
 have c2:Tryz.prog.cellsOf 3=1:=by kernel_rfl
 rw[hc] at h1
 match cs,h1 with
 | [a0,a1,a2],_=>
  obtain⟨y0,k0⟩:=h2 0 3 0 1 [a0] rfl c2 rfl;obtain⟨y1,k1⟩:=h2 1 3 1 1 [a1] rfl c2 rfl;obtain⟨y2,k2⟩:=h2 2 9 2 1 [a2] rfl c1 rfl;obtain⟨n0,e0,z0⟩:=dG Tryz.underlying3 k0;obtain⟨n1,e1,z1⟩:=dG Tryz.underlying3 k1;obtain⟨n2,e2,z2⟩:=iE Tryz.underlying9 k2;simp at e0 e1 e2;subst e0 e1 e2;exact⟨⟨n0,n1,n2⟩,rfl,z0,z1,z2⟩
end
end
section
open Go.RowKit
theorem Ps(n:Int):bits .and .i64 n 31=n % 32:=by
 show IntKind.i64.wrap ((BitVec.ofInt 64 n &&& BitVec.ofInt 64 31).toNat:Int)=_;rw[BitVec.toNat_and,BitVec.toNat_ofInt,show(BitVec.ofInt 64 31).toNat=2 ^ 5-1 from rfl,Nat.and_two_pow_sub_one_eq_mod,IntKind.wrap_i64];omega
theorem oM(n:Int):bits .and .i64 n 255=n % 256:=by
 show IntKind.i64.wrap ((BitVec.ofInt 64 n &&& BitVec.ofInt 64 255).toNat:Int)=_;rw[BitVec.toNat_and,BitVec.toNat_ofInt,show(BitVec.ofInt 64 255).toNat=2 ^ 8-1 from rfl,Nat.and_two_pow_sub_one_eq_mod,IntKind.wrap_i64];omega
theorem wH{w:World}{a:Option Addr}{n c:Nat}{l:List Ln}(h:bj w 3 K0 a n c l):bj w 3 IG a n c l:=by
 obtain⟨h1,h2,h3,h4⟩:=h;refine⟨h1,h2,h3,h4.imp id ?_⟩;rintro⟨b,off,ha,hb,hel⟩;refine⟨b,off,ha,hb,fun i hi=>?_⟩;obtain⟨cs,e1,e2,e3⟩:=hel i hi;exact⟨cs,e1,e2.1,e3⟩
theorem Cu{w:World}{a:Option Addr}{n c:Nat}{l:List Ln}(h:bj w 3 K0 a n c l):∀x∈l,(-9223372036854775808≤x.size∧x.size≤9223372036854775807)∧(-9223372036854775808≤x.time∧x.time≤9223372036854775807)∧x.name.size≤9223372036854775807:=by
 obtain⟨h1,h2,h3,h4⟩:=h;intro x hx;rcases h4 with h0|⟨b,off,ha,hb,hel⟩
 ·have:=List.length_pos_of_mem hx;omega
 ·obtain⟨i,hi,rfl⟩:=List.mem_iff_getElem.1 hx;obtain⟨cs,e1,e2,e3⟩:=hel i hi;exact e2.2
def rO(l:List Ln):Bool:=decide ((∀x∈l,x.name.size≤300)∧l.length≤6)
theorem Dw(w:World){a:Option Addr}{n c:Nat}{l:List Ln}(h:bj w 3 K0 a n c l) :
  Calls Tryz.prog 6 #[.slice a n c] w fun e w'=>e=.returned (.bool (rO l))∧w=w':=by
 have hl:l.length=n:=h.1;have hn:n≤9223372036854775807:=by obtain⟨-,h2,h3,-⟩:=h;omega
 have HS:=Qf (wH h);have HB:=Qf (Cu h);clear h;go_enter Tryz.func6,Tryz.ntmps6;go_wp2_with fail
 go_loopw [3] (fun t3 wr=>∃k:Nat,k≤l.length∧t3=.int .i64 k∧(∀j (hj:j<l.length),j<k→l[j].name.size≤300)∧w=wr) (fun t3 _=>l.length-(intOf t3).toNat)
 case atStart=>exact⟨0,Nat.zero_le _,rfl,fun j _ hj=>absurd hj (Nat.not_lt_zero _),rfl⟩
 case round=>
  obtain⟨k,hkl,rfl,hbe,rfl⟩:=hrel;have JZ:=Qf hbe;clear hbe;by_cases hk:k<l.length
  ·obtain⟨b,off,rfl,hbl,c0,c1,c2⟩:=cn HS.o k hk;have hbx:=(HB.o l[k] (List.getElem_mem hk)).2.2;have iT:=Qf hk;generalize hx:l[k]=x at c0 c1 c2 hbx;have HX:=Qf hx;clear hx;by_cases h3:300<x.name.size
   ·have rH:(300:Int)<(x.name.size:Int):=by omega
    have HF:=Qf (show rO l=false from decide_eq_false (fun h=>by have:=h.1 l[k] (List.getElem_mem hk);rw[HX.o] at this;omega));go_wp2_with fail;go_ret;exact⟨by rw[HF.o];rfl,rfl⟩
   ·have rH:¬(300:Int)<(x.name.size:Int):=by omega
    have L1:=Qf h3;clear h3;go_wp2_with fail;go_roundw
    case rel=>exact⟨k+1,by have:=iT.o;omega,by go_num,fun j hj hjk=>by
     by_cases hjk2:j=k
     ·subst hjk2;exact ae (Nat.le_of_eq (congrArg (fun y:Ln=>y.name.size) HX.o)) (by have:=L1.o;omega)
     ·exact JZ.o j hj (by omega),trivial⟩
    case measure=>
     have:=iT.o;simp[intOf];omega
  ·obtain rfl:k=l.length:=by omega
   have hall:∀x∈l,x.name.size≤300:=fun x hx=>by
    obtain⟨i,hi,rfl⟩:=List.mem_iff_getElem.1 hx;exact JZ.o i hi hi
   have HF:=Qf (show rO l=decide (l.length≤6) from by
    unfold rO;by_cases h6:l.length≤6
    ·rw[decide_eq_true h6,decide_eq_true ⟨hall,h6⟩]
    ·rw[decide_eq_false h6,decide_eq_false (fun h=>h6 h.2)])
   clear hall hk;by_cases h6:n≤6
   ·have h6':(n:Int)≤6:=by omega
    have HG:=Qf (show rO l=true by rw[HF.o,decide_eq_true (by omega)]);go_wp2_with fail;go_ret;exact⟨by rw[HG.o];rfl,rfl⟩
   ·have h6':¬(n:Int)≤6:=by omega
    have HG:=Qf (show rO l=false by rw[HF.o,decide_eq_false (by omega)]);go_wp2_with fail;go_ret;exact⟨by rw[HG.o];rfl,rfl⟩
theorem yD(n:Int)(w:World) :
  Calls Tryz.prog 28 #[.int .i64 n] w fun e w'=>e=.returned (.string (ev n))∧w=w':=by
 have hb:bits BinOp.and IntKind.i64 n 31=n % 32:=Ps n;obtain⟨q,hq⟩:∃q:Nat,n % 32=q:=⟨(n % 32).toNat,by omega⟩;have xJ:q<32:=by omega
 have HF:=Qf (show ev n=str (List.replicate q 120) by unfold ev;rw[hq];rfl);rw[hq] at hb;clear hq;go_enter Tryz.func28,Tryz.ntmps28;go_wp2_with fail
 go_loopw [3,4] (fun t3 t4 wr=>∃k:Nat,k≤q∧t3=.string (str (List.replicate k 120))∧t4=.int .i64 k∧w=wr) (fun _ t4 _=>q-(intOf t4).toNat)
 case atStart=>exact⟨0,Nat.zero_le _,rfl,rfl,rfl⟩
 case round=>
  obtain⟨k,hkq,rfl,rfl,rfl⟩:=hrel;obtain⟨s,hs⟩:∃s,str (List.replicate k 120)=s:=⟨_,rfl⟩;have hsz:s.size=k:=by rw[←hs,cJ,List.length_replicate]
  have HS:=Qf hs;rw[hs];by_cases hk:k<q
  ·have HN:=Qf (show s++ByteArray.mk #[120]=str (List.replicate (k+1) 120) by
    rw[←hs,List.replicate_succ',←jX];rfl)
   have iT:=Qf hk;have hlim:¬9223372036854775807<s.size+1:=by omega
   clear hs;go_wp2_with fail;go_roundw
   case rel=>exact⟨k+1,by have:=iT.o;omega,by rw[←HN.o],by go_num,trivial⟩
   case measure=>
    have:=iT.o;simp[intOf];omega
  ·obtain rfl:k=q:=by omega
   clear hs;go_wp2_with fail;go_ret;exact⟨by rw[HF.o,HS.o];rfl,rfl⟩
end
section
open Go.RowKit Go.Shelf
attribute [local go_sem] Oper.semAt_some
structure SNm(w':World)(B pf:Nat)(u:Us)(x:Cn)(text:ByteArray)(bc:Nat):Prop where
 f:aw w' B #[.pointer (some ⟨pf,0,none⟩)] 35
 c:aw w' bc #[.int .i64 u.u,.int .i64 u.g] 64
 x:aw w' (B+1+1) #[.string x.path,.int .i64 x.dir,.int .i64 x.info,.int .i64 x.files,.int .i64 x.out,.int .i64 x.jm,.string x.top] 48
 t:aw w' (B+1+1+1) #[.string text] 9
section
variable{w w':World}{pf pw:Nat}{R:Rp}{pv:Value}{Y:Sy}
end
end
section
open Go.RowKit Go.Shelf
attribute [local go_sem] Oper.semAt_some
def noQ(cs:List Value)(d:Int):Prop:=cs=[.int .i64 d]
structure FrI(w:World)(pf:Nat)(c:Cr)(a:Option Addr)(n cap:Nat)(W:World):Prop where
 b:Qi w W
 f:aw W w.heap.size #[.pointer (some ⟨pf,0,none⟩)] 35
 c:aw W (w.heap.size+1) #[.int .i64 c.u,.int .i64 c.g] 64
 d:aw W (w.heap.size+1+1) #[.slice a n cap] 131
 o:aw W (w.heap.size+1+1+1) #[.string ByteArray.empty] 9
 e:aw W (w.heap.size+1+1+1+1) #[.int .i64 0] 56
section
variable{w w':World}{pf pw:Nat}{R:Rp}{pv:Value}{Y:Sy}
end
end
section
open Go.RowKit
def is32:List It:=[⟨(ByteArray.mk #[47]),1,511,0,0,0,(ByteArray.mk #[])⟩]
def sy32:Sy:=⟨cU [] is32,0,0,[],false⟩
def us32:Us:=⟨5,5,ByteArray.mk #[47]⟩
def cn32:Cn:=⟨ByteArray.mk #[47,84,114,97,115,104],2,3,4,5,6,ByteArray.mk #[]⟩
def b32:ByteArray:=ByteArray.mk #[97]
def y32a:Sy:=(sy32.bV us32 1).1
def y32b:Sy:=(y32a.op (fun S now=>S.file ⟨5,5⟩ now 4 (ByteArray.mk #[97]) 0 (ByteArray.mk #[]))).1
def y32c:Sy:=(y32b.op (fun S now=>S.file ⟨5,5⟩ now 3 (ByteArray.mk #[97,46,50,46,116,114,97,115,104,105,110,102,111]) 0 (ByteArray.mk #[]))).1
def y32d:Sy:=(y32c.N4 ⟨5,5⟩ cn32 (ByteArray.mk #[97]) (ByteArray.mk #[116,101,120,116])).1
structure SAw(w':World)(bu bc:Nat):Prop where
 u:aw w' bu #[.int .i64 5,.int .i64 5,.string (ByteArray.mk #[47])] 27
 x:aw w' bc #[.string (ByteArray.mk #[47,84,114,97,115,104]),.int .i64 2,.int .i64 3,.int .i64 4,.int .i64 5,.int .i64 6,.string (ByteArray.mk #[])] 48
end
section
open Go.RowKit Go.Shelf
attribute [local go_sem] Oper.semAt_some
def ONo(w:World)(base:Nat)(v:Value)(l:List Int):Prop:=w.ownsRow base 3 1 v l.length (l.map (Value.int .i64))
def Fs.NP(l:List (Int×ByteArray)):List Int:=l.map (·.1)
def Fs.NO(l:List (Int×ByteArray)):List (List UInt8):=l.map (fun x=>x.2.data.toList)
structure TI(w:World)(B:Nat)(pre:List (Int×ByteArray))(W:World):Prop where
 a:∃va,aw W w.heap.size #[va] 131∧ONo W B va (Fs.NP pre)
 b:∃vb,aw W (w.heap.size+1) #[vb] 240∧OS W B vb (Fs.NO pre)
 below:Qi w W
end
section
open Go.RowKit
theorem aN.sy{w w':World}{pf:Nat}{Q:Rf}{S:Fs}(hr:aN w pf Q S){p q:Nat}{R:Rp}{pv:Value}{Y:Sy}(h:bg w p q R pv Y){F':Nat→Prop}(hs:aR (R.Y p q) F' w w'):aN w' pf Q S:=
 hr.mod hs.mod (fun k o hk ho=>by
  rcases hk with rfl|hk
  ·have hb:=h.aZ;unfold aw at hb;rw[hb] at ho;injection ho with ho;subst ho;exact⟨rfl,fun cur e=>by cases e⟩
  ·obtain⟨o',ho',hd⟩:=h.wd.kind hk;rw[ho] at ho';injection ho' with ho';subst ho';unfold gT at hd
   split at hd
   ·rename_i c t f;simp only[Bool.or_eq_true,beq_iff_eq] at hd;rcases hd with(rfl|rfl)|rfl<;>exact⟨rfl,fun cur e=>by cases e⟩
   ·exact⟨rfl,fun cur e=>by cases e⟩
   ·cases hd)
end
section
open Go.RowKit Go.Shelf
attribute [local go_sem] Oper.semAt_some
theorem Eu{x:Int}(h0:0≤x)(h1:x≤999999):IntKind.u64.wrap x=x:=by
 unfold IntKind.wrap;simp[IntKind.bits,IntKind.signed];omega
theorem Dt{S:Fs}{N:Nat}(h:ax S N)(hN:N≤999999):1≤S.last∧S.last≤999999:=by
 have h1:=h.d1;have h2:=h.root S.ds[0] (List.getElem_mem (by omega));have h3:=h.lN;omega
theorem eZ{Y:Sy}(h:eb Y)(g:Fs→Int→Fs×Int×Int):eb (Y.op g).1:=(h.op g).2.2.1
theorem kh{Y:Sy}(h:eb Y)(u:Us)(dir:Int)(n:ByteArray):eb (Y.dR u dir n).1:=by
 unfold Sy.dR
 split
 ·exact eZ h _
 ·exact h
theorem pk{u:Us}{dir:Int}:∀{l:List ByteArray} {Y:Sy},eb Y→eb (Y.fC u dir l).1
 | [],_,h=>h
 |n::l,Y,h=>by
  rw[Sy.fC]
  split
  ·exact kh h u dir n
  ·exact pk (kh h u dir n)
theorem j5{Y:Sy}(h:eb Y)(u:Us)(p:pA):eb (Y.br u p).1:=by
 unfold Sy.br;dsimp only
 split
 ·exact kh h u _ _
 ·split<;>exact pk (kh h u _ _)
theorem jV{u:Us}:∀{l:List pA} {Y:Sy} (e:Int),eb Y→eb (Y.cl u l e).1
 | [],_,_,h=>h
 |p::l,Y,e,h=>by
  rw[Sy.cl]
  split
  ·exact j5 h u p
  ·exact jV _ (j5 h u p)
theorem ju{Y:Sy}(h:eb Y)(u:Us)(no:Int):eb (Y.bV u no).1:=by
 unfold Sy.bV;dsimp only;have h2:=jV (u:=u) (l:=Y.jI u (Y.fs.fq no).1) 0 h
 split
 ·exact h
 ·split
  ·exact h2
  ·generalize Y.cl u (Y.jI u (Y.fs.fq no).1) 0=a at h2⊢;have h4:=jV (u:=u) (l:=a.1.fs.cY a.1.dead u (Y.fs.fq no).1 (Y.fs.fq no).2.1) a.2.2.2 h2
   split
   ·exact h4
   ·split
    ·exact h4
    ·exact j5 h4 u _
structure SNa(w':World)(B Bd zb zo:Nat)(cv:Array Value)(x:Cn)(z:ByteArray):Prop where
 c:aw w' B cv 30
 x:aw w' Bd #[.string x.path,.int .i64 x.dir,.int .i64 x.info,.int .i64 x.files,.int .i64 x.out,.int .i64 x.jm,.string x.top] 48
 z:w'.cell? ⟨zb,zo,none⟩=some (.string z)
structure Ko(w:World)(p q:Nat)(pv:Value)(Bd:Nat)(cv:Array Value)(x:Cn)(Z:Sy)(ns:List (List UInt8))(v:Value)(W:World):Prop where
 y:∃R,bg W p q R pv Z∧∀k,R.Y p q k→w.heap.size≤k
 b:Qi w W
 c:aw W w.heap.size cv 30
 x:aw W Bd #[.string x.path,.int .i64 x.dir,.int .i64 x.info,.int .i64 x.files,.int .i64 x.out,.int .i64 x.jm,.string x.top] 48
 n:OS W w.heap.size v ns
section
variable{w A B:World}{p q Bd:Nat}{pv v:Value}{cv:Array Value}{x:Cn}{Z Z':Sy}{ns:List (List UInt8)}
theorem Ko.ak(h:Ko w p q pv Bd cv x Z ns v A)(hb:Qi A B):Ko w p q pv Bd cv x Z ns v B:=by
 obtain⟨R,h1,h2⟩:=h.y;exact⟨⟨R,h1.ak hb,h2⟩,au h.b hb,h.c.ak hb,h.x.ak hb,h.n.ry hb⟩
end
structure LZ(w':World)(B pf:Nat)(cv rv:Array Value):Prop where
 c:aw w' B cv 30
 l:aw w' pf rv 55
theorem LZ.dV{A:World}{B pf Bd:Nat}{cv rv:Array Value}(h:LZ A B pf cv rv)(h1:Bd≠B)(h2:Bd≠pf)(v0 v1 v2 v3 v4 v5 v6:Value):LZ (((((((A.setCell ⟨Bd,0,none⟩ v0).setCell ⟨Bd,1,none⟩ v1).setCell ⟨Bd,2,none⟩ v2).setCell ⟨Bd,3,none⟩ v3).setCell ⟨Bd,4,none⟩ v4).setCell ⟨Bd,5,none⟩ v5).setCell ⟨Bd,6,none⟩ v6) B pf cv rv:=by
 have hm:=(((((((Mod.refl (fun k=>k=Bd) A).setCell (a:=⟨Bd,0,none⟩) (.inl rfl) v0).setCell (a:=⟨Bd,1,none⟩) (.inl rfl) v1).setCell (a:=⟨Bd,2,none⟩) (.inl rfl) v2).setCell (a:=⟨Bd,3,none⟩) (.inl rfl) v3).setCell (a:=⟨Bd,4,none⟩) (.inl rfl) v4).setCell (a:=⟨Bd,5,none⟩) (.inl rfl) v5).setCell (a:=⟨Bd,6,none⟩) (.inl rfl) v6;exact⟨h.c.mod hm (fun e=>h1 e.symm),h.l.mod hm (fun e=>h2 e.symm)⟩
theorem Ko.made{w A:World}{p q Bd:Nat}{pv:Value}{cv:Array Value}{x:Cn}{Z:Sy}{R:Rp}(hy:bg A p q R pv Z)(hl:∀k,R.Y p q k→w.heap.size≤k)(hb:Qi w A)(hc:aw A w.heap.size cv 30)
  (hX:aw A Bd #[.string ⟨#[]⟩,.int .i64 0,.int .i64 0,.int .i64 0,.int .i64 0,.int .i64 0,.string ⟨#[]⟩] 48) (hBd:w.heap.size<Bd):Ko w p q pv Bd cv x Z [] (.slice none 0 0) (((((((A.setCell ⟨Bd,0,none⟩ (.string x.path)).setCell ⟨Bd,1,none⟩ (.int .i64 x.dir)).setCell ⟨Bd,2,none⟩ (.int .i64 x.info)).setCell ⟨Bd,3,none⟩ (.int .i64 x.files)).setCell ⟨Bd,4,none⟩ (.int .i64 x.out)).setCell ⟨Bd,5,none⟩ (.int .i64 x.jm)).setCell ⟨Bd,6,none⟩ (.string x.top)):=by
 have hm:=(((((((Mod.refl (fun k=>k=Bd) A).setCell (a:=⟨Bd,0,none⟩) (.inl rfl) (.string x.path)).setCell (a:=⟨Bd,1,none⟩) (.inl rfl) (.int .i64 x.dir)).setCell (a:=⟨Bd,2,none⟩) (.inl rfl) (.int .i64 x.info)).setCell (a:=⟨Bd,3,none⟩) (.inl rfl) (.int .i64 x.files)).setCell (a:=⟨Bd,4,none⟩) (.inl rfl) (.int .i64 x.out)).setCell (a:=⟨Bd,5,none⟩) (.inl rfl) (.int .i64 x.jm)).setCell (a:=⟨Bd,6,none⟩) (.inl rfl) (.string x.top);exact⟨⟨R,hy.other hX (by decide) (by decide) (by decide) (by decide) hm,hl⟩,dK hb (by omega),hc.mod hm (fun e=>by omega),hX.dV,OS.nil _ _⟩
def Other(A:World)(k:Nat):Prop:=∃cur,A.heap[k]?=some (.cells cur 9 (0,0))
end
end Go.Proofs.YtabbjaomlmnnhaaGreat
