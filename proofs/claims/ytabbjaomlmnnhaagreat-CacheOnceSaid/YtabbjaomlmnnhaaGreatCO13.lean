import Derived.Deep.CutBlock
import Derived.Deep.DeepCutAuto
import Derived.RegionTactic
import Derived.BigRegion
import Derived.Deep.QuietTactic
import Derived.BigQuiet
import Derived.WalkSmall
import Derived.WalkMore
import Derived.Deep.LoopGhost
import Derived.Test.YtabbjaomlmnnhaaGreatCO12
import Derived.Test.YtabbjaomlmnnhaaGreatCO11
import Derived.Test.YtabbjaomlmnnhaaGreatCO7
import Derived.Test.YtabbjaomlmnnhaaGreatCO5
import Derived.Test.YtabbjaomlmnnhaaGreatCO8
import Derived.Test.YtabbjaomlmnnhaaGreatCO6
import Derived.Test.YtabbjaomlmnnhaaGreatCO1
import Derived.Test.YtabbjaomlmnnhaaGreatCO4
import Derived.Test.YtabbjaomlmnnhaaGreatCO2
set_option linter.unusedVariables false
set_option linter.unusedSimpArgs false
set_option maxRecDepth 100000
set_option maxHeartbeats 16000000
namespace Go.Proofs.YtabbjaomlmnnhaaGreat
open Go.Value renaming int→UE,string→UF,slice→UG,pointer→UH,agg→UJ,tuple→UK
open Go.IntKind renaming i64→UL
section
open Go.RowKit
def J5(k:Int):List Value:=[UE UL k]
theorem J4(k:Int):(J5 k).length=1:=rfl
def OI(w:World)(base:Nat)(v:Value)(l:List Int):Prop:=w.ownsRow base 3 1 v l.length (l.flatMap J5)
theorem Jo:(Tryz.prog.info? 3).map (fun i=>(i.zero,i.size,i.bytes))=some (some (UE UL 0),1,8):=by kernel_rfl
theorem OI.app{w:World}{base:Nat}{v:Value}{l:List Int}(h:OI w base v l)(k:Int)(hl:l.length≤1000000)(hb:base≤w.heap.size) :
  ∃g cap W,(Builtin.append_ #[131,131] 131 #[v,.slice (some ⟨w.heap.size,0,none⟩) 1 1]).run Tryz.prog (w.alloc (.cells #[UE UL k] 3))=.ok (.slice (some ⟨g,0,none⟩) (l.length+1) cap) W∧
   OI W base (.slice (some ⟨g,0,none⟩) (l.length+1) cap) (l++[k])∧Mod (fun j=>v.ownBlock=some j) w W:=by
 obtain⟨i0,hi,kp,fj,fo⟩:=info_parts Jo;have ho:=World.ownsRow.alloc h (.cells #[UE UL k] 3);obtain⟨g,cap,W,h1,h2,h3,h4⟩:=eX 131 Tryz.underlying131 hi kp fj fo rfl (by omega) ho ⟨w.heap.size,0,none⟩ 1 1 [UE UL k] rfl (World.news_of_block (ax.new w #[UE UL k] 3)) (by intro u hu;simp at hu;subst hu;rfl) (by omega) (by unfold maxLen;omega) (by omega) (by simp;omega);refine⟨g,cap,W,h1,?_,((Mod.refl (fun j=>v.ownBlock=some j) w).alloc (.cells #[UE UL k] 3)).trans h3⟩;unfold OI;rw[List.length_append,List.length_singleton,List.flatMap_append];exact h2
theorem OI.cell{w:World}{base g cap:Nat}{l:List Int}(h:OI w base (.slice (some ⟨g,0,none⟩) l.length cap) l)(k:Nat)(hk:k<l.length):w.cell? ⟨g,k,none⟩=some (UE UL l[k]):=by
 obtain⟨-,-,-,h0|⟨b,off,he,hb,hel⟩⟩:=fe (R:=fun cs x=>cs=J5 x) (by omega) J4 (fun _=>rfl) h
 ·omega
 ·injection he with he;injection he with e1 e2;subst e1 e2;obtain⟨cs,h1,h2,h3⟩:=hel k hk;subst h2;have:=h3 0 (by simp[J5]);simpa [J5] using this
section
variable{w w':World}{pf pw:Nat}{R:Rp}{pv:Value}{Y:Sy}
theorem OI.sy{base:Nat}{v:Value}{l:List Int}(ho:OI w base v l)(h:bm w pf pw R pv Y){F':Nat→Prop}(hs:aS (R.Y pf pw) F' w w'):OI w' base v l:=
 bY ho hs.mod (fun k hk he=>by
  obtain⟨-,cur,hc⟩:=aH ho he;have hb:ax w k cur 3:=hc;rcases hk with rfl|hk
  ·have h1:=h.bD;unfold ax at hb h1;rw[hb] at h1
   cases h1
  ·obtain⟨o,ho,hd⟩:=h.wd.kind hk;rw[hc] at ho;injection ho with ho;subst ho
   cases hd)
theorem bm.oi(h:bm w pf pw R pv Y){base:Nat}{v:Value}{l:List Int}(ho:OI w base v l)(hm:Mod (fun j=>v.ownBlock=some j) w w'):bm w' pf pw R pv Y:=by
 refine⟨h.bD.mod hm (fun e=>?_),h.wd.mod hm (fun k o hk gM=>?_),bY h.cC hm (fun k hk he=>?_)⟩
 ·obtain⟨-,cur,hc⟩:=aH ho e;have hq:=h.bD;unfold ax at hq;rw[hc] at hq
  cases hq
 ·obtain⟨-,cur,hc⟩:=aH ho hk;rw[hc] at gM;injection gM with gM;subst gM;exact⟨rfl,fun cur e=>by cases e⟩
 ·obtain⟨-,cur,hc⟩:=aH ho hk;obtain⟨-,cur2,fE⟩:=aH h.cC he;rw[hc] at fE
  cases fE
structure kN(w wr:World)(pf pw:Nat)(pv:Value)(S:Fs)(n:Int):Prop where
 st:∃R Y,bm wr pf pw R pv Y∧Y.fs=S∧Calm Y∧Y.count≤n∧∀k,R.Y pf pw k→w.heap.size≤k
 below:UA w wr
theorem kN.an{wr:World}{S:Fs}{n:Int}(h:kN w wr pf pw pv S n)(hb:UA wr w'):kN w w' pf pw pv S n:=by
 obtain⟨⟨R,Y,h1,h2,h3,h4,h5⟩,h6⟩:=h;exact⟨⟨R,Y,h1.an hb,h2,h3,h4,h5⟩,ar h6 hb⟩
theorem kN.mono{wr:World}{S:Fs}{n n':Int}(h:kN w wr pf pw pv S n)(hn:n≤n'):kN w wr pf pw pv S n':=by
 obtain⟨⟨R,Y,h1,h2,h3,h4,h5⟩,h6⟩:=h;exact⟨⟨R,Y,h1,h2,h3,by omega,h5⟩,h6⟩
theorem kN.of{wr:World}{S:Fs}{n d:Int}(hb:UA w wr)(hc:Y.count≤n)(hF:∀k,R.Y pf pw k→w.heap.size≤k)(h:fM wr w' pf pw R pv Y S d):kN w w' pf pw pv S (n+d):=by
 obtain⟨R',Z,h1,h2,h3,h4,h5⟩:=h;refine⟨⟨R',Z,h1,h2,h3,by omega,fun k hk=>?_⟩,hb.trans (h5.below hF hb.size)⟩;exact h5.bl hF hb.size k hk
end
theorem kN.oi{w wr w':World}{pf pw:Nat}{pv:Value}{S:Fs}{n:Int}(h:kN w wr pf pw pv S n){v:Value}{l:List Int}(ho:OI wr w.heap.size v l)(hm:Mod (fun j=>v.ownBlock=some j) wr w'):kN w w' pf pw pv S n:=by
 obtain⟨⟨R,Y,h1,h2,h3,h4,h5⟩,h6⟩:=h;exact⟨⟨R,Y,h1.oi ho hm,h2,h3,h4,h5⟩,h6.trans (hm.below (fun k hk=>(aH ho hk).1) h6.size)⟩
theorem ax.oi{w w':World}{B base:Nat}{vs:Array Value}{T:TypeId}{v:Value}{l:List Int}(hb:ax w B vs T)(ho:OI w base v l)(hm:Mod (fun j=>v.ownBlock=some j) w w')(hT:T≠3):ax w' B vs T:=
 hb.mod hm (fun he=>by
  obtain⟨-,cur,hc⟩:=aH ho he;unfold ax at hb;rw[hb] at hc;injection hc with hc;injection hc with hc e;exact hT e)
theorem oQ(S:Fs)(l:List Mt)(m:Mt):aR S (l++[m])=if m.path=kv then aR S l else bP (aR S l) m:=by
 rw[As];rfl
theorem qQ(S:Fs)(l:List It)(x:It):br S (l++[x])=((dL (br S l).1 x).1,(br S l).2++[(dL (br S l).1 x).2]):=by
 rw[CL];rfl
theorem qF(S:Fs)(l:List (It×Int))(x:It×Int):bO S (l++[x])=if x.2≠0 then((bO S l).ct cw 0 x.2 x.1.mtime).1 else bO S l:=by
 rw[B9];rfl
theorem vQ(w:World){ma:Option Addr}{mn mc:Nat}{ia:Option Addr}{il ic:Nat}{ms:List Mt}{is:List It}(h:nh w ma mn mc ia il ic ms is)(hml:ms.length≤100000)(hil:is.length≤100000)
  (hmp:∀m∈ms,m.path.size≤100000) (hip:∀x∈is,x.path.size≤100000∧x.data.size≤100000) :
  Calls Tryz.prog 23 #[UJ #[UG ma mn mc,UG ia il ic]] w fun e w'=>∃pf pw R pv Y,e=.returned (UH (some ⟨pf,0,none⟩))∧bm w' pf pw R pv Y∧Y=⟨db ms is,0,0,[],false⟩∧(∀k,R.Y pf pw k→w.heap.size≤k)∧UA w w':=by
 have HS:=Ux h;have HL:=Ux (zM (w.alloc (.cells #[UG ma mn mc,UG ia il ic] 25)) (h.an ((Below.refl _ w).alloc (aa _) _)));have HN:=Ux (fun w=>IE (be ms).1 (be ms).2 (pX ms) w);have HMp:=Ux hmp;have HIp:=Ux hip;have hln:=h.m.1;have hli:=h.i.1;subst hln hli;obtain⟨Dd,de⟩:=Uz w #[UG ma ms.length mc,UG ia is.length ic] 25;have ks:=Ux (show db ms is=bO (br (aR (qh.aD 0 (be ms).1 (be ms).2) ms) is).1 (is.zip (br (aR (qh.aD 0 (be ms).1 (be ms).2) ms) is).2) from rfl);have gQ:=Ux (ay.new (be ms).1 (be ms).2);unfold sy0 at HN;generalize qh.aD 0 (be ms).1 (be ms).2=S0 at HN ks gQ;generalize (be ms).1=lb at HL HN;generalize (be ms).2=ln at HL HN;clear h hmp hip;go_enter Tryz.func23,Tryz.ntmps23;go_wp2_with fail;refine HL.o.mono ?_;rintro e w1 ⟨rfl,av⟩;have fR:=Dd.an av;have CT:=ar de av;clear Dd de av;go_wp2_with fail;refine(HN.o _).mono ?_;rintro e w2 ⟨pf,pw,R0,rfl,hY0,aY,MK⟩;have dR:=fR.an aY;have Td:kN w w2 pf pw (UG none 0 0) S0 0:=⟨⟨R0,_,hY0,rfl,⟨rfl,rfl,rfl,by show(0:Int)≤0;omega⟩,by show(0:Int)≤0;omega,fun k hk=>ae CT.size (MK k hk)⟩,ar CT aY⟩;have Ky:=Ux Td;have ei:=Ux dR;obtain⟨bc,bf,bz⟩:=dR.facts;clear fR CT hY0 aY MK dR Td;go_wp2_with fail
 go_loopw [26] (fun t26 wr=>∃k:Nat,k≤ms.length∧t26=UE UL k∧kN w wr pf pw (UG none 0 0) (aR S0 (ms.take k)) k∧ax wr w.heap.size #[UG ma ms.length mc,UG ia is.length ic] 25) (fun t26 _=>ms.length-(intOf t26).toNat)
 case atStart=>exact⟨0,Nat.zero_le _,rfl,Ky.o,ei.o⟩
 case round=>
  obtain⟨k,hk,rfl,hP,hB⟩:=hrel;have HP:=Ux hP;have HB:=Ux hB;clear bc bf bz;obtain⟨bc,bf,bz⟩:=hB.facts;have hbw:=hP.below;clear hP hB;by_cases hlt:k<ms.length
  ·obtain⟨b,off,rfl,hbl⟩:=eR HS.o.m (by omega);obtain⟨c0,c1,c2⟩:=l9 (HS.o.m.below hbw (aa _)) k hlt;have HQ:=Ux (show aR S0 (ms.take (k+1))=if ms[k].path=kv then aR S0 (ms.take k) else bP (aR S0 (ms.take k)) ms[k] by rw[List.take_succ_eq_append_getElem hlt,oQ]);have kS:=Ux (HMp.o ms[k] (List.getElem_mem hlt));have jV:=Ux (show ay (aR S0 (ms.take k)) (1+2*k) by
    have:=fV gQ.o (ms.take k)
    rwa [List.length_take,Nat.min_eq_left hk] at this)
   generalize ms[k]=m at c0 c1 c2 HQ kS;generalize j7:aR S0 (ms.take (k+1))=S2 at HQ;have oA:=Ux j7;clear j7;generalize C1:aR S0 (ms.take k)=Sk at HQ HP jV;have HSk:=Ux C1;have hX:=ax.new wr #[UF m.path,UE UL m.b,UE UL m.n] 125;have aJ:=(Below.refl _ wr).alloc (aa _) (.cells #[UF m.path,UE UL m.b,UE UL m.n] 125);clear C1 hbw;go_upto_region 7 with fail;generalize wr.alloc _=X at hX aJ⊢;have bC:=Ux (HB.o.an aJ);have NA:=Ux (HP.o.an aJ);obtain⟨xc,xf,xz⟩:=hX.facts;clear hX aJ c0 c1 c2;by_cases h1:m.path=kv
   ·have MU:m.path.toList=[47]:=by rw[h1,cd];rfl
    have HE:=Ux (HQ.o.trans (if_pos h1));clear h1;go_wp2_with fail;go_roundw
    case rel=>exact⟨k+1,by omega,by go_num,by rw[show aR S0 (ms.take (k+1))=Sk from by rw[oA.o];exact HE.o];exact NA.o.mono (by omega),bC.o⟩
    case measure=>simp[intOf];omega
   ·have MU:(m.path.toList==[47])=false:=by
     rw[cd];simp only[beq_eq_false_iff_ne,ne_eq];exact fun e=>h1 (uw e)
    have HE:=Ux (HQ.o.trans (if_neg h1));obtain⟨⟨R,Y,hY,hfs,hcl,hcn,hF⟩,hbw⟩:=NA.o;have HM:=Ux (Ci hY (N:=1+2*k) (by rw[hfs];exact jV.o) (by omega) hcl (by omega) m kS.o);rw[hfs] at HM;have HW:=Ux (ag hY (ag hcn (ag hF hbw)));clear h1 hY hfs hcl hcn hF hbw;go_wp2_with fail;refine HM.o.mono ?_;rintro e w5 ⟨rfl,Dc⟩;obtain⟨hY,hcn,hF,hbw⟩:=HW.o;have KY:=kN.of hbw hcn hF Dc;obtain⟨R',Z,-,-,-,-,z5⟩:=Dc;have oC:=Ux (bC.o.sy hY z5 rfl (by decide));have zg:=Ux KY;clear KY z5 hY hcn hF hbw;go_wp2_with fail;go_roundw
    case rel=>exact⟨k+1,by omega,by go_num,by rw[show aR S0 (ms.take (k+1))=bP Sk m from by rw[oA.o];exact HE.o];exact zg.o.mono (by omega),oC.o⟩
    case measure=>simp[intOf];omega
  ·obtain rfl:k=ms.length:=by omega
   rw[List.take_length] at HP;have yM:=Ux (fV gQ.o ms);generalize aR S0 ms=S1 at HP yM ks;have hO0:OI (wr.alloc (.cells #[] 3)) w.heap.size (.slice (some ⟨wr.heap.size,0,none⟩) 0 0) []:=⟨rfl,.inr ⟨wr.heap.size,0,#[],rfl,HP.o.below.size,ax.new _ _ _,aa _,by unfold maxLen;omega,rfl,rfl⟩⟩;have MB:=HP.o.an ((Below.refl _ wr).alloc (aa _) (.cells #[] 3));have fR:=HB.o.bI (.cells #[] 3);have Ud:=Ux hO0;have Ho:=Ux MB;have dX:=Ux fR;clear hO0 MB fR hbw;go_wp2_with fail;generalize wr.alloc _=W1 at Ud Ho dX⊢;generalize wr.heap.size=hmade at Ud⊢
   go_loopw [41,7] (fun t41 t7 wr=>∃(k:Nat) (a:Option Addr) (c:Nat),k≤is.length∧t41=UE UL k∧t7=UG a k c∧OI wr w.heap.size (UG a k c) (br S1 (is.take k)).2∧kN w wr pf pw (UG none 0 0) (br S1 (is.take k)).1 (ms.length+3*k)∧ax wr w.heap.size #[UG ma ms.length mc,UG ia is.length ic] 25) (fun t41 _ _=>is.length-(intOf t41).toNat)
   case atStart=>exact⟨0,_,_,Nat.zero_le _,rfl,rfl,Ud.o,Ho.o.mono (by omega),dX.o⟩
   case round=>
    obtain⟨k,a,c,hk,rfl,rfl,hO,hP,hB⟩:=hrel;have HO:=Ux hO;have HP:=Ux hP;have HB:=Ux hB;clear bc bf bz;obtain⟨bc,bf,bz⟩:=hB.facts;have hbw:=hP.below;clear hP hB hO;by_cases hlt:k<is.length
    ·obtain⟨b,off,rfl,hbl⟩:=eR HS.o.i (by omega);obtain⟨c0,c1,c2,c3,c4,c5,c6⟩:=mj (HS.o.i.below hbw (aa _)) k hlt;have HQ:=Ux (show br S1 (is.take (k+1))=((dL (br S1 (is.take k)).1 is[k]).1,(br S1 (is.take k)).2++[(dL (br S1 (is.take k)).1 is[k]).2]) by rw[List.take_succ_eq_append_getElem hlt,qQ]);have kS:=Ux (HIp.o is[k] (List.getElem_mem hlt));have jV:=Ux (show ay (br S1 (is.take k)).1 (1+2*ms.length+k) by
      have:=jG yM.o (is.take k)
      rwa [List.length_take,Nat.min_eq_left hk] at this)
     have yO:=Ux (show(br S1 (is.take k)).2.length=k by rw[lq,List.length_take,Nat.min_eq_left hk]);generalize is[k]=it at c0 c1 c2 c3 c4 c5 c6 HQ kS;generalize br S1 (is.take k)=Sk at HQ HP jV HO yO;obtain⟨Sk,Lk⟩:=Sk;have hX:=ax.new wr #[UF it.path,UE UL it.kind,UE UL it.mode,UE UL it.uid,UE UL it.gid,UE UL it.mtime,UF it.data] 82;have aJ:=(Below.refl _ wr).alloc (aa _) (.cells #[UF it.path,UE UL it.kind,UE UL it.mode,UE UL it.uid,UE UL it.gid,UE UL it.mtime,UF it.data] 82);clear hbw;go_upto_region 14 with fail;generalize wr.alloc _=X at hX aJ⊢;have bC:=Ux (HB.o.an aJ);have NA:=Ux (HP.o.an aJ);have K8:=Ux (ew HO.o aJ (aa _));have Rn:=Ux hX;obtain⟨xc,xf,xz⟩:=hX.facts;obtain⟨⟨R,Y,hY,hfs,hcl,hcn,hF⟩,hbw⟩:=NA.o;have HM:=Ux (E3 hY (N:=1+2*ms.length+k) (by rw[hfs];exact jV.o) (by omega) hcl (by omega) it kS.o.1 kS.o.2);rw[hfs] at HM;have HW:=Ux (ag hY (ag hcn (ag hF hbw)));have yK:=Ux (th jV.o it);have NF:=Ux (show dL Sk it=if(cj Sk it).2≠0 then((((cj Sk it).1.cy cw 0 (cj Sk it).2 it.uid it.gid).1.cq cw 0 (cj Sk it).2 it.mode).1,(cj Sk it).2) else cj Sk it from rfl);clear hX aJ c0 c1 c2 c3 c4 c5 c6 hY hfs hcl hcn hF hbw;go_wp2_with fail;refine HM.o.mono ?_;clear HM;rintro e w5 ⟨rfl,Dc⟩;generalize cj Sk it=nd at Dc yK NF⊢;obtain⟨S5,no⟩:=nd;dsimp only at Dc yK NF⊢;obtain⟨hY,hcn,hF,hbw⟩:=HW.o;have KY:=kN.of hbw hcn hF Dc;obtain⟨R',Z,-,-,-,-,z5⟩:=Dc;have rQ:=bC.o.sy hY z5 rfl (by decide);have MG:=Rn.o.sy hY z5 rfl (by decide);have C5:OI w5 w.heap.size (UG a Lk.length c) Lk:=by rw[yO.o];exact OI.sy (l:=Lk) K8.o hY z5
     obtain⟨g,cap,W,hrun,JM,Mi⟩:=C5.app no (by rw[yO.o];omega) KY.below.size;have Tc:=KY.oi C5 Mi;have oh:=rQ.oi C5 Mi (by decide);have PM:=MG.oi C5 Mi (by decide);rw[yO.o] at hrun JM;have vk:=Ux hrun;have T':=Ux Tc;have zh:=Ux oh;have HIW:=Ux PM;have Ub:=Ux JM;clear xc xf xz KY z5 hY hcn hF hbw rQ MG C5 hrun JM Mi Tc oh;obtain⟨xc,xf,xz⟩:=PM.facts;clear PM;by_cases hno:no=0
     ·have hnb:(no != 0)=false:=by simpa using hno
      have HE:=Ux (NF.o.trans (if_neg (by simp[hno])));clear hno;go_wp2_with (at_builtin;refine aT rfl rfl rfl rfl vk.o ?_);go_roundw
      case rel=>
       refine⟨k+1,_,cap,by omega,by go_num,rfl,?_,?_,zh.o⟩
       ·rw[HQ.o,HE.o];exact Ub.o
       ·rw[HQ.o,HE.o];exact T'.o.mono (by omega)
      case measure=>simp[intOf];omega
     ·have hnb:(no != 0)=true:=by simpa using hno
      have HE:=Ux (NF.o.trans (if_pos hno));clear hno;obtain⟨⟨R,Y,hY,hfs,hcl,hcn,hF⟩,hbw⟩:=T'.o;have HM:=Ux (Cm hY (N:=1+2*ms.length+k+1) (by rw[hfs];exact yK.o) (by omega) ⟨hcl.c0,by omega⟩ (by rw[hcl.cC];exact Nat.zero_le _) cw no it.uid it.gid);rw[hcl.fN,hfs] at HM;have HW:=Ux (ag hY (ag hcn (ag hF (ag hbw hcl))));clear hY hfs hcl hcn hF hbw;go_wp2_with (at_builtin;refine aT rfl rfl rfl rfl vk.o ?_);refine HM.o.mono ?_;clear HM;rintro e w6 ⟨rfl,R6,G',xZ⟩;obtain⟨hY,hcn,hF,hbw,hcl⟩:=HW.o;have MS:=zh.o.sy hY xZ rfl (by decide);have wB:=HIW.o.sy hY xZ rfl (by decide);have Te:=OI.sy Ub.o hY xZ;have N5:=kN.of hbw hcn hF (⟨R6,_,G',rfl,hcl.next _,(by show Y.count+1≤Y.count+1;omega),xZ⟩:fM W w6 pf pw R (UG none 0 0) Y _ 1);have Re:=Ux N5;have jJ:=Ux MS;have lL:=Ux wB;have HO6:=Ux Te;clear xc xf xz N5 MS G' xZ hY hcn hF hbw hcl Te;obtain⟨xc,xf,xz⟩:=wB.facts;clear wB HW;obtain⟨⟨R,Y,hY,hfs,hcl,hcn,hF⟩,hbw⟩:=Re.o;have HM:=Ux (Co hY (N:=1+2*ms.length+k+1) (by rw[hfs];exact po yK.o _ _ _ _ _) (by omega) ⟨hcl.c0,by omega⟩ (by rw[hcl.cC];exact Nat.zero_le _) cw no it.mode);rw[hcl.fN,hfs] at HM;have HW:=Ux (ag hY (ag hcn (ag hF (ag hbw hcl))));clear hY hfs hcl hcn hF hbw;go_wp2_with fail;refine HM.o.mono ?_;clear HM;rintro e w7 ⟨rfl,R7,rN,jf⟩;obtain⟨hY,hcn,hF,hbw,hcl⟩:=HW.o;have pN:=Ux (jJ.o.sy hY jf rfl (by decide));have NB:=Ux (OI.sy HO6.o hY jf);have Qg:=Ux (kN.of hbw hcn hF (⟨R7,_,rN,rfl,hcl.next _,(by show Y.count+1≤Y.count+1;omega),jf⟩:fM w6 w7 pf pw R (UG none 0 0) Y _ 1));clear rN jf hY hcn hF hbw hcl;go_wp2_with fail;go_roundw
      case rel=>
       refine⟨k+1,_,cap,by omega,by go_num,rfl,?_,?_,pN.o⟩
       ·rw[HQ.o,HE.o];exact NB.o
       ·rw[HQ.o,HE.o];exact Qg.o.mono (by omega)
      case measure=>simp[intOf];omega
    ·obtain rfl:k=is.length:=by omega
     rw[List.take_length] at HP HO;have yL:=Ux (jG yM.o is);have qD:=Ux (lq S1 is);generalize br S1 is=q at HP HO yL ks qD;obtain⟨S2,made⟩:=q;dsimp only at ks;have CO:made.length=is.length:=qD.o;clear hbw;go_wp2_with fail
     go_loopw [72] (fun t72 wr=>∃k:Nat,k≤is.length∧t72=UE UL k∧OI wr w.heap.size (UG a is.length c) made∧kN w wr pf pw (UG none 0 0) (bO S2 ((is.zip made).take k)) (ms.length+3*is.length+k)) (fun t72 _=>is.length-(intOf t72).toNat)
     case atStart=>exact⟨0,Nat.zero_le _,rfl,HO.o,HP.o.mono (by omega)⟩
     case round=>
      obtain⟨k,hk,rfl,hO,hP⟩:=hrel;have Es:=Ux hO;have Hl:=Ux hP;have hbw:=hP.below;clear hP hO bc bf bz;by_cases hlt:k<is.length
      ·obtain⟨b,off,rfl,hbl⟩:=eR HS.o.i (by omega);obtain⟨c0,c1,c2,c3,c4,c5,c6⟩:=mj (HS.o.i.below hbw (aa _)) k hlt;have hkm:k<made.length:=by omega
       obtain⟨g,rfl⟩:∃g,a=some ⟨g,0,none⟩:=by
        obtain⟨a1,c1,e1,-,-,hf⟩:=bQ Es.o;injection e1 with e1 e2 e3;rcases hf with⟨-,h0,-⟩|⟨g,hg,-,-⟩
        ·omega
        ·exact⟨g,e1.trans hg⟩
       have yX:OI wr w.heap.size (.slice (some ⟨g,0,none⟩) made.length c) made:=by rw[CO];exact Es.o
       have hgl:=(jN yX).2.2;have hmc:wr.cell? ⟨g,k,none⟩=some (UE UL made[k]):=yX.cell k hkm;have HQ:=Ux (show bO S2 ((is.zip made).take (k+1))=if made[k]≠0 then((bO S2 ((is.zip made).take k)).ct cw 0 made[k] is[k].mtime).1 else bO S2 ((is.zip made).take k) by
        rw[List.take_succ_eq_append_getElem (by rw[List.length_zip];omega),qF,List.getElem_zip])
       have jV:=Ux (pP yL.o ((is.zip made).take k));generalize is[k]=it at c0 c1 c2 c3 c4 c5 c6 HQ;generalize made[k]=no at hmc HQ;generalize bO S2 ((is.zip made).take k)=Sk at HQ Hl jV;have hX:=ax.new wr #[UF it.path,UE UL it.kind,UE UL it.mode,UE UL it.uid,UE UL it.gid,UE UL it.mtime,UF it.data] 82;have aJ:=(Below.refl _ wr).alloc (aa _) (.cells #[UF it.path,UE UL it.kind,UE UL it.mode,UE UL it.uid,UE UL it.gid,UE UL it.mtime,UF it.data] 82);clear hbw yX;have HMl:=Ux CO;clear CO;go_upto_region 23 with fail;have hmc2:=(aJ.cell (p:=⟨g,k,none⟩) hgl).trans hmc;have K8:=Ux (ew Es.o aJ (aa _));generalize wr.alloc _=X at hX aJ hmc2 K8⊢;have NA:=Ux (Hl.o.an aJ);obtain⟨xc,xf,xz⟩:=hX.facts;clear hX aJ c0 c1 c2 c3 c4 c5 c6 hmc;by_cases hno:no=0
       ·have hnb:(no != 0)=false:=by simpa using hno
        have HE:=Ux (HQ.o.trans (if_neg (by simp[hno])));clear hno;go_wp2_with fail;go_roundw
        case rel=>exact⟨k+1,by omega,by go_num,K8.o,by rw[HE.o];exact NA.o.mono (by omega)⟩
        case measure=>simp[intOf];omega
       ·have hnb:(no != 0)=true:=by simpa using hno
        have HE:=Ux (HQ.o.trans (if_pos hno));have mixed:Tryz.prog.follows .mixedOrders=true:=by kernel_rfl
        obtain⟨⟨R,Y,hY,hfs,hcl,hcn,hF⟩,hbw⟩:=NA.o;have HM:=Ux (Cb (hY.an (Below.refl _ X).drew) (N:=1+2*ms.length+is.length) (by rw[hfs];exact jV.o) (by omega) ⟨hcl.c0,by omega⟩ (by rw[hcl.cC];exact Nat.zero_le _) cw no it.mtime);rw[hcl.fN,hfs] at HM;have HW:=Ux (ag hY (ag hcn (ag hF (ag hbw hcl))));clear hno hY hfs hcl hcn hF hbw;go_wp2_with fail;refine aG 8 mixed (by kernel_rfl) (show cn _ from by repeat (first|exact cS|refine cR ?_|refine cx ?_|refine cG ?_)) ?_;simp only[List.take_succ_cons,List.take_zero,List.drop_succ_cons,List.drop_zero]
        repeat still_step
        refine wpStill_nil ?_;go_wp2_with fail;refine HM.o.mono ?_;clear HM;rintro e w7 ⟨rfl,R7,rN,jf⟩;obtain⟨hY,hcn,hF,hbw,hcl⟩:=HW.o;have uZ:UA X X.drew:=(Below.refl _ X).drew;have NB:=Ux (OI.sy (ew K8.o uZ (aa _)) (hY.an uZ) jf);have Qg:=Ux (kN.of (hbw.drew) hcn hF (⟨R7,_,rN,rfl,hcl.next _,(by show Y.count+1≤Y.count+1;omega),jf⟩:fM X.drew w7 pf pw R (UG none 0 0) Y _ 1));clear rN jf hY hcn hF hbw hcl uZ;go_wp2_with fail;go_roundw
        case rel=>exact⟨k+1,by omega,by go_num,NB.o,by rw[HE.o];exact Qg.o.mono (by omega)⟩
        case measure=>simp[intOf];omega
      ·obtain rfl:k=is.length:=by omega
       rw[List.take_of_length_le (by rw[List.length_zip];omega),←ks.o] at Hl;obtain⟨⟨R,Y,hY,hfs,hcl,hcn,hF⟩,hbw⟩:=Hl.o;have HM:=Ux (EW hY);have HW:=Ux (ag hfs (ag hcl (ag hF hbw)));have HY:=Ux hY;clear hY hfs hcl hcn hF hbw;go_wp2_with fail;refine HM.o.mono ?_;rintro e w7 ⟨rfl,pv7,rN,hm7⟩;obtain⟨hfs,hcl,hF,hbw⟩:=HW.o;have HX:=Ux (show∃R pv Y,bm w7 pf pw R pv Y∧Y=⟨db ms is,0,0,[],false⟩∧(∀k,R.Y pf pw k→w.heap.size≤k)∧UA w w7 from
        ⟨R,pv7,_,rN,(by unfold Sy.RB;rw[hfs,hcl.now]),hF,hbw.trans (hm7.below (fun k hk=>by rw[hk];exact hF pf (.inl rfl)) hbw.size)⟩)
       clear hfs hcl hF hbw rN hm7;go_wp2_with fail;go_ret;obtain⟨R,pv,Y,h1,h2,h3,h4⟩:=HX.o;exact⟨pf,pw,R,pv,Y,rfl,h1,h2,h3,h4⟩
end
section
open Go.RowKit
def rwC(r:Rw):List Value:=[UF r.path,UE UL r.kind,UE UL r.mode,UE UL r.uid,UE UL r.gid,UE UL r.mtime,UE UL r.ctime,UE UL r.dev,UE UL r.first,UF r.data]
def rwQ(cs:List Value)(r:Rw):Prop:=cs=rwC r
theorem vV{w:World}{base base':Nat}{e e':TypeId}{sz sz' n n':Nat}{v v':Value}{xs xs':List Value}(h:w.ownsRow base e sz v n xs)(h':w.ownsRow base' e' sz' v' n' xs')(he:e≠e'){k:Nat}(hk:v.ownBlock=some k):v'.ownBlock≠some k:=fun hk'=>by
 obtain⟨-,c1,h1⟩:=aH h hk;obtain⟨-,c2,h2⟩:=aH h' hk';rw[h1] at h2;injection h2 with h2;injection h2 with e1 e2 e3;exact he e2
theorem xH{w w':World}{base:Nat}{e:TypeId}{sz n:Nat}{v:Value}{xs:List Value}(h:w.ownsRow base e sz v n xs){T:TypeId}(he:e≠T){B:Nat}{vs:Array Value}(hb:ax w B vs T)(hm:Mod (fun k=>v.ownBlock=some k) w w'):ax w' B vs T:=
 hb.mod hm (fun hk=>by
  obtain⟨-,c1,h1⟩:=aH h hk;unfold ax at hb;rw[h1] at hb;injection hb with hb;injection hb with e1 e2 e3;exact he e2)
end
section
open Go.RowKit
end
section
open Go.RowKit
structure Sw(pre l:List En)(i:Nat)(Y:List En):Prop where
 len:Y.length=pre.length+l.length
 bI:∀k,k<pre.length→Y[k]?=pre[k]?
 at':∀k,k<l.length→Y[pre.length+k]?=if k<i∨l.length≤k+i then l[l.length-1-k]? else l[k]?
end
section
open Go.RowKit Go.Shelf
attribute [local go_sem] Oper.semAt_some
theorem aA.kt{w w':World}{T:Nat→Prop}{a:Option Addr}{n c:Nat}{es:List En}(h:aA w a n c es)(ht:KT T w w')(hT:∀b off,a=some ⟨b,off,none⟩→T b):aA w' a n c es:=by
 refine⟨⟨h.sl.1,h.sl.2.1,h.sl.2.2.1,h.sl.2.2.2.imp id ?_⟩,fun p hp=>?_⟩
 ·rintro⟨b,off,rfl,hb,hel⟩;refine⟨b,off,rfl,Nat.lt_of_lt_of_le hb ht.1,fun i hi=>?_⟩;obtain⟨cs,h1,h2,h3⟩:=hel i hi;refine⟨cs,h1,h2,fun j hj=>?_⟩;rw[←h3 j hj];simp only[World.cell?,ht.2 b (hT b off rfl)]
 ·obtain⟨b,off,cur,rfl,hblk⟩:=h.bD p hp;exact⟨b,off,cur,rfl,(ht.2 b (hT b off hp)).trans hblk⟩
theorem take_prefix(es:List En)(k:Nat)(hk:k<es.length):(es.take k++[es[k]]) <+: es:=by
 rw[←List.take_succ_eq_append_getElem hk];exact List.take_prefix _ _
theorem u9(n:Nat)(hn:1≤n)(Bs:Nat){ea:Option Addr}{el ec:Nat}{es:List En}(w:World)(hs:ax w Bs #[UG ea el ec] 94)(he:aA w ea el ec es) :
  TE (fun k=>k=Bs∨∃off,ea=some ⟨k,off,none⟩) Fence.wide n Tryz.prog 145 #[UH (some ⟨Bs,0,none⟩)] (fun x:En=>#[UF x.name,UE UL x.no])
   (fun xs=>xs=es) (fun pre=>∃m,pre=es.take m) (fun pre x=>(pre++[x]) <+: es) w:=fun L J Jx W hW SX hJ hJx hY h0=>by
 have hln:=he.len;subst hln;have jH:=he.sl.2.1;have fE:=he.sl.2.2.1;have Hs:=Ux (show ax W Bs #[UG ea es.length ec] 94 from(hW.2 Bs (.inl rfl)).trans hs);have HE:=Ux (he.kt hW (fun b off h=>.inr ⟨off,h⟩));have HY:=Ux hY;have HJ:=Ux hJ;clear hs hW SX hY he hJ hJx;obtain⟨xc,xf,xz⟩:=Hs.o.facts;refine callsIn_of_wp Tryz.func145 rfl trivial ?_ rfl;simp only[Tryz.ntmps145,List.size_toArray,List.length_cons,List.length_nil,Nat.reduceAdd,Nat.reduceSub,Array.replicate_succ,Array.replicate_zero,List.push_toArray,List.append_toArray,List.nil_append,List.cons_append];gi_wp2
 gi_loopw [7] (fun t7 wr=>∃k:Nat,k≤es.length∧t7=UE UL k∧J (es.take k) wr∧ax wr Bs #[UG ea es.length ec] 94∧aA wr ea es.length ec es∧W.heap.size≤wr.heap.size) (fun t7 _=>es.length-(intOf t7).toNat)
 case atStart=>exact⟨0,Nat.zero_le _,rfl,h0,Hs.o,HE.o,aa _⟩
 case round=>
  obtain⟨k,hk,rfl,C8,hbs,hen,hsz⟩:=hrel;clear xc xf xz h0;by_cases hkl:k<es.length
  ·obtain⟨b,off,rfl,hbl⟩:=hen.ej (by omega);obtain⟨c1,c2⟩:=hen.cell k hkl;have hJ1:=HJ.o _ _ _ C8 (eL.alloc wr (.cells #[UF es[k].name,UE UL es[k].no] 98));have hX:=ax.new wr #[UF es[k].name,UE UL es[k].no] 98;obtain⟨fn,tmps,assign,body,hy,hR⟩:=HY.o _ es[k] _ hJ1 (take_prefix es k hkl);have HT:=Ux (List.take_succ_eq_append_getElem hkl);have HP:=Ux (take_prefix es k hkl);have dX:=Ux (hbs.bI (.cells #[UF es[k].name,UE UL es[k].no] 98));have eA:=Ux (hen.an (((Below.refl _ wr).alloc (aa _) (.cells #[UF es[k].name,UE UL es[k].no] 98))));have HR:=Ux hR;have fj:W.heap.size≤(wr.alloc (.cells #[UF es[k].name,UE UL es[k].no] 98)).heap.size:=by rw[World.size_alloc];omega
   obtain⟨xc,xf,xz⟩:=hX.facts;clear C8 hbs hen hR hX hJ1;generalize es[k]=x at c1 c2 hy HR HT HP dX eA fj xc xf xz;gi_wp2;refine HR.o.mono ?_;rintro e W3 (⟨rfl,AP,im⟩|⟨rfl,mr⟩)
   ·have ND:=Ux AP;have gn:=Ux (show ax W3 Bs #[.slice (some ⟨b,off,none⟩) es.length ec] 94 from(im.2 Bs (.inl rfl)).trans dX.o);have kP:=Ux (eA.o.kt im (fun b' off' h=>.inr ⟨off',h⟩));have BD:=Ux (ae fj im.1);clear AP im hy xc xf xz c1 c2;gi_wp2;go_roundw
    case rel=>exact⟨k+1,by omega,by go_num,by rw[HT.o];exact ND.o,gn.o,kP.o,BD.o⟩
    case measure=>simp[intOf];omega
   ·have KD:=Ux mr;clear mr hy;gi_wp2;exact bodyPost_ret (results_none rfl _ _ _) rfl ⟨⟨_,rfl⟩,.inr ⟨_,j2 HP.o,KD.o⟩⟩
  ·obtain rfl:k=es.length:=by omega
   rw[List.take_length] at C8;have Qn:=Ux C8;clear C8 hbs hen;gi_wp2
   go_end0
   exact⟨⟨_,rfl⟩,.inl ⟨_,rfl,Qn.o⟩⟩
end
section
open Go.RowKit
def FirstOf(l:List (Int×Value×Nat))(nos:List Int):Prop:=dN l∧∀k,cI l k=if k∈nos then some (UE UL (nos.idxOf k:Nat)) else none
theorem I6{α:Type}{enc:α→List Value}{w:World}{base:Nat}{e:TypeId}{sz g cap:Nat}(hpos:0<sz)(hl:∀x,(enc x).length=sz){xs:List α}{x:α}
  (h:w.ownsRow base e sz (.slice (some ⟨g,0,none⟩) (xs.length+1) cap) (xs.length+1) ((xs++[x]).flatMap enc)):w.ownsRow base e sz (.slice (some ⟨g,0,none⟩) xs.length cap) xs.length (xs.flatMap enc):=by
 refine⟨by rw[cJ hl],.inr ?_⟩;rcases h.2 with⟨hv,-⟩|⟨g',cap',cur,hv,hb,hg,h1,h2,h3,h4⟩
 ·cases hv
 ·injection hv with e1 e2 e3;injection e1 with e1;injection e1 with e1;subst e1 e3;refine⟨g,cap,cur,rfl,hb,hg,by omega,h2,h3,?_⟩;have h5:(cur.toList.take ((xs.length+1)*sz)).take (xs.length*sz)=((xs++[x]).flatMap enc).take (xs.length*sz):=by rw[h4]
  rw[List.take_take,Nat.min_eq_left (by rw[Nat.succ_mul];omega),List.flatMap_append,List.take_append_of_le_length (by rw[cJ hl];exact aa _)] at h5;rw[h5,List.take_of_length_le (by rw[cJ hl];exact aa _)]
theorem LU{w w':World}{base:Nat}{e:TypeId}{sz n:Nat}{v:Value}{xs:List Value}(h:w.ownsRow base e sz v n xs){T:TypeId}(he:e≠T){B:Nat}{vs:Array Value}(hB:ax w B vs T)(hm:Mod (fun k=>k=B) w w'):w'.ownsRow base e sz v n xs:=
 bY h hm (fun k hk hb=>by
  obtain⟨-,cur,hc⟩:=aH h hb;subst hk;unfold ax at hB;rw[hB] at hc;injection hc with hc;injection hc with e1 e2 e3;exact he e2.symm)
section
variable{B:Nat}{w w':World}{m Bt g cap:Nat}{vo:Value}{out:List Rw}{nos:List Int}{stk:List En}
end
end
section
open Go.RowKit
def D3(b s:ByteArray):Bool:=decide (b=s)||Lib.hasPrefix s.data.toList (oE b.data.toList++[47])
def Rw.to(r:Rw)(k:Int):Rw:={r with first:=k}
def Tx(l:List Rw):List Rw:=l.map fun r=>r.to ((l.map Rw.first).idxOf r.first:Nat)
def nC(ps:List ByteArray)(r:Rw):Bool:=ps.all fun p=>!D3 p r.path
def butL(l:List Rw)(ps:List ByteArray):List Rw:=Tx (l.filter (nC ps))
section
variable{B:Nat}{w w':World}{m:Nat}{vo:Value}{out:List Rw}{nos:List Int}
end
def pxR(cs:List Value)(s:ByteArray):Prop:=cs=[UF s]
end
section
open Go.RowKit
def CleanW(l:List UInt8):Prop:=l=[47]∨(l.head?=some 47∧oE l=l)
def ptB:ByteArray:=ByteArray.mk #[46]
def relB(base s:ByteArray):ByteArray×Bool:=
 if xh (km base).data.toList=true∧xh (km s).data.toList=true∧D3 (km base) (km s)=true then
  (if km base=km s then ptB else str ((km s).data.toList.drop ((oE (km base).data.toList).length+1)),true)
 else(ByteArray.empty,false)
def joinB(a b:ByteArray):ByteArray:=if xh b.data.toList=true∨a=ByteArray.empty then km b else km (a++ByteArray.mk #[47]++b)
end
section
open Go.RowKit
section
variable{w w':World}{pf:Nat}{R:Rf}{S:Fs}
theorem aW.Lv(h:aW w pf R S){g cap:Nat}(hdv:R.dv=.slice (some ⟨g,0,none⟩) S.ds.length cap){k:Nat}(hk:k<S.ds.length)(v:Dv)(hv:S.ds[k]=v)(b n:Int) :
  aW ((((w.setCell ⟨g,k*6+2,none⟩ (UE UL b)).setCell ⟨g,k*6+3,none⟩ (UE UL n)).setCell ⟨g,k*6+4,none⟩ (UE UL v.mb)).setCell ⟨g,k*6+5,none⟩ (UE UL v.mn)) pf R (S.aP ((k:Int)+1) {v with b:=b,n:=n})∧Mod (R.F pf) w ((((w.setCell ⟨g,k*6+2,none⟩ (UE UL b)).setCell ⟨g,k*6+3,none⟩ (UE UL n)).setCell ⟨g,k*6+4,none⟩ (UE UL v.mb)).setCell ⟨g,k*6+5,none⟩ (UE UL v.mn)):=by
 have hm:Mod (fun x=>x=g) w ((((w.setCell ⟨g,k*6+2,none⟩ (UE UL b)).setCell ⟨g,k*6+3,none⟩ (UE UL n)).setCell ⟨g,k*6+4,none⟩ (UE UL v.mb)).setCell ⟨g,k*6+5,none⟩ (UE UL v.mn)):=
  ((((Mod.refl (fun x=>x=g) w).setCell (a:=⟨g,k*6+2,none⟩) (.inl rfl) _).setCell (a:=⟨g,k*6+3,none⟩) (.inl rfl) _).setCell (a:=⟨g,k*6+4,none⟩) (.inl rfl) _).setCell (a:=⟨g,k*6+5,none⟩) (.inl rfl) _
 have hgb:R.dv.ownBlock=some g:=by rw[hdv];rfl
 have hM:Mod (R.F pf) w ((((w.setCell ⟨g,k*6+2,none⟩ (UE UL b)).setCell ⟨g,k*6+3,none⟩ (UE UL n)).setCell ⟨g,k*6+4,none⟩ (UE UL v.mb)).setCell ⟨g,k*6+5,none⟩ (UE UL v.mn)):=hm.mono (fun x hx=>.inr (.inr (by rw[hx];exact hgb)));obtain⟨-,hcur⟩:=aH h.fJ hgb;have hl:(S.aP ((k:Int)+1) {v with b:=b,n:=n}).ds=S.ds.set k {v with b:=b,n:=n}:=by
  unfold Fs.aP;rw[show((k:Int)+1-1).toNat=k by omega]
 refine⟨⟨h.bD.mod hm (dJ hcur h.bD (by decide)),bY h.ti hm (fun x hx e=>?_),?_,h.ns,fun x hx=>(h.au x hx).rf h (aS.dH hM)⟩,hM⟩
 ·obtain⟨-,cur2,fE⟩:=aH h.ti e;rw[hx] at fE;exact dJ hcur (show ax w g cur2 149 from fE) (by decide) rfl
 rw[hl,List.length_set];have h0:=h.fJ;rw[hdv] at h0⊢;have hkl:k*6+5<(S.ds.flatMap Dv.cs).length:=by rw[qi];omega
 have p1:=gd h0 (k*6+2) (by omega) (UE UL b);have p2:=gd p1 (k*6+3) (by rw[List.length_set];omega) (UE UL n);have p3:=gd p2 (k*6+4) (by rw[List.length_set,List.length_set];omega) (UE UL v.mb);have p4:=gd p3 (k*6+5) (by rw[List.length_set,List.length_set,List.length_set];omega) (UE UL v.mn);have hs:=iR Dv.gu ({v with b:=b,n:=n}:Dv) S.ds k hk;rw[←hs];have c0:(S.ds.flatMap Dv.cs)[k*6]?=some (UE UL v.root):=by
  have:=iY Dv.gu S.ds k 0 hk (by omega);rw[Nat.add_zero] at this;rw[this,hv];rfl
 have c1:(S.ds.flatMap Dv.cs)[k*6+1]?=some (UE UL v.aB):=by
  rw[iY Dv.gu S.ds k 1 hk (by omega),hv];rfl
 have e0:(S.ds.flatMap Dv.cs).set (k*6) (UE UL v.root)=S.ds.flatMap Dv.cs:=by
  have hlt:k*6<(S.ds.flatMap Dv.cs).length:=by omega
  rw[List.getElem?_eq_getElem hlt] at c0;injection c0 with c0;rw[←c0,List.set_getElem_self]
 have e1:(S.ds.flatMap Dv.cs).set (k*6+1) (UE UL v.aB)=S.ds.flatMap Dv.cs:=by
  have hlt:k*6+1<(S.ds.flatMap Dv.cs).length:=by omega
  rw[List.getElem?_eq_getElem hlt] at c1;injection c1 with c1;rw[←c1,List.set_getElem_self]
 show World.ownsRow _ 0 266 6 _ _ ((((((((S.ds.flatMap Dv.cs).set (k*6) (UE UL v.root)).set (k*6+1) (UE UL v.aB)).set (k*6+2) (UE UL b)).set (k*6+3) (UE UL n)).set (k*6+4) (UE UL v.mb)).set (k*6+5) (UE UL v.mn)));rw[e0,e1];exact p4
theorem Cs(h:aW w pf R S)(a:An)(ea:Option Addr)(el ec:Nat)(hr:S.root a.dev=0) :
  Calls Tryz.prog 195 #[UH (some ⟨pf,0,none⟩),a.v ea el ec] w fun e w'=>e=.returned (UK #[UE UL 0,UE UL 1])∧UA w w':=by
 have de:=ao (UB w) (.cells #[UE UL a.no,UE UL a.dev,UE UL a.kind,UE UL a.mode,UE UL a.uid,UE UL a.gid,UE UL a.mtime,UE UL a.ctime,UE UL a.ak,UE UL a.up,UF a.data,UG ea el ec] 149);have uL:=Ux (mK (h.an ((Below.refl _ w).alloc (aa _) (.cells #[UE UL a.no,UE UL a.dev,UE UL a.kind,UE UL a.mode,UE UL a.uid,UE UL a.gid,UE UL a.mtime,UE UL a.ctime,UE UL a.ak,UE UL a.up,UF a.data,UG ea el ec] 149))) a.dev);rw[hr] at uL;have cB:=Ux de;have fR:=ax.new w #[UE UL a.no,UE UL a.dev,UE UL a.kind,UE UL a.mode,UE UL a.uid,UE UL a.gid,UE UL a.mtime,UE UL a.ctime,UE UL a.ak,UE UL a.up,UF a.data,UG ea el ec] 149;obtain⟨qc,-,-⟩:=fR.facts;unfold An.v;clear h hr de fR;go_enter Tryz.func195,Tryz.ntmps195;go_wp2_with fail;refine uL.o.mono ?_;rintro e w1 ⟨rfl,rfl⟩;go_wp2_with fail;go_ret2;exact⟨rfl,cB.o⟩
theorem Fg(h:aW w pf R S){k:Nat}(hk:k<S.ds.length)(a:An)(ea:Option Addr)(el ec:Nat)(he:aA w ea el ec a.au)(hdev:a.dev=(k:Int)+1)(hr:S.root a.dev≠0)(hs:a.data.size≤1048576)(fk:0≤S.last)(mT:S.last≤1000000)(hgl:S.ns.length≤1000000) :
  Calls Tryz.prog 195 #[UH (some ⟨pf,0,none⟩),a.v ea el ec] w fun e w'=>e=.returned (UK #[UE UL (S.make a).2.1,UE UL (S.make a).2.2])∧∃R',aW w' pf R' (S.make a).1∧aS (R.F pf) (R'.F pf) w w'∧Rf.cY R R':=by
 have hlen:=h.len;have HR:=Ux (mK (h.an ((Below.refl _ w).alloc (aa _) (.cells #[UE UL a.no,UE UL a.dev,UE UL a.kind,UE UL a.mode,UE UL a.uid,UE UL a.gid,UE UL a.mtime,UE UL a.ctime,UE UL a.ak,UE UL a.up,UF a.data,UG ea el ec] 149))) a.dev);obtain⟨g,cap,hdv,hle,zd,hgl,hc,hfg,-⟩:=h.lS (by omega);obtain⟨c0,c1,c2,c3,c4,c5⟩:=hc k hk;obtain⟨v,hv⟩:∃v,S.ds[k]=v:=⟨_,rfl⟩;rw[hv] at c0 c1 c2 c3 c4 c5;obtain⟨pc,-,pz⟩:=h.bD.facts;rw[hdv] at pc;obtain⟨rt,hrt⟩:∃rt,S.root a.dev=rt:=⟨_,rfl⟩;have hrn:=hr;rw[hrt] at HR hr;have uX:S.dev a.dev=some v:=by
  unfold Fs.dev;rw[if_pos (by omega),hdev,show((k:Int)+1-1).toNat=k by omega,List.getElem?_eq_getElem hk,hv]
 obtain⟨n,hn⟩:∃n,S.ds.length=n:=⟨_,rfl⟩;have hkn:k<n:=by omega
 rw[hn] at pc hle;have p6:(rt==0)=false:=by simpa using hr
 have hT:=fun w=>E' v.b v.n v.mb v.mn (cF a.kind a.data.size) 1 w;unfold KM at hT;have HB:=Ux (fun w=>Ab a.kind a.data.size (by omega) w);have BF:=Ux (fun(yV:lT v.b v.n v.mb v.mn (cF a.kind a.data.size) 1≠0)=>Av hrn uX yV);have rW:=Ux (fun(yV:lT v.b v.n v.mb v.mn (cF a.kind a.data.size) 1=0)=>DZ hrn uX yV);have HQ:=Ux (fun(yV:lT v.b v.n v.mb v.mn (cF a.kind a.data.size) 1=0)=>show BM v.b v.n v.mb v.mn (cF a.kind a.data.size) 1=v.b+cF a.kind a.data.size∧BL v.b v.n v.mb v.mn (cF a.kind a.data.size) 1=v.n+1 by unfold BM BL;rw[if_pos yV,if_pos yV];exact⟨rfl,rfl⟩);have ou:=Ux h;have nj:=Ux he;have ka:=Ux hdv;have HV:=Ux (show∃hk:k<S.ds.length,S.ds[k]=v from⟨hk,hv⟩);have Kq:=Ux hdev;unfold An.v;rw[hdev] at HR⊢;have B1:=ax.new w #[UE UL a.no,UE UL ((k:Int)+1),UE UL a.kind,UE UL a.mode,UE UL a.uid,UE UL a.gid,UE UL a.mtime,UE UL a.ctime,UE UL a.ak,UE UL a.up,UF a.data,UG ea el ec] 149;have av:=(UB w).alloc (aa _) (.cells #[UE UL a.no,UE UL ((k:Int)+1),UE UL a.kind,UE UL a.mode,UE UL a.uid,UE UL a.gid,UE UL a.mtime,UE UL a.ctime,UE UL a.ak,UE UL a.up,UF a.data,UG ea el ec] 149);clear h hr hrn hrt hn hv hc hdv uX he hk hdev c0 c1;generalize cF a.kind a.data.size=bk at hT HB BF rW HQ;generalize lT v.b v.n v.mb v.mn bk 1=e0 at hT BF rW HQ;generalize BM v.b v.n v.mb v.mn bk 1=qb at hT HQ;generalize BL v.b v.n v.mb v.mn bk 1=qn at hT HQ;have HT:=Ux hT;clear hT;go_enter Tryz.func195,Tryz.ntmps195;go_wp2_with fail;refine HR.o.mono ?_;rintro e w1 ⟨rfl,rfl⟩;generalize w.alloc _=W at B1 av⊢;obtain⟨Bn,Db⟩:∃Bn,w.heap.size=Bn:=⟨_,rfl⟩;rw[Db] at B1⊢;obtain⟨bc,bf,bz⟩:=B1.facts;rw[←av.cell (p:=⟨g,k*6+2,none⟩) hgl] at c2;rw[←av.cell (p:=⟨g,k*6+3,none⟩) hgl] at c3;rw[←av.cell (p:=⟨g,k*6+4,none⟩) hgl] at c4;rw[←av.cell (p:=⟨g,k*6+5,none⟩) hgl] at c5;have pc1:W.cell? ⟨pf,1,none⟩=_:=(av.cell (p:=⟨pf,1,none⟩) pz).trans (pc 1);have uI:g<W.heap.size:=Nat.lt_of_lt_of_le hgl av.size;have hpW:pf<W.heap.size:=Nat.lt_of_lt_of_le pz av.size;have HW:=Ux av;have dX:=Ux B1;have HBn:=Ux Db;clear pc av B1 Db;have mixed:Tryz.prog.follows .mixedOrders=true:=by kernel_rfl
 go_upto_region 3 with(fail)
 go_cut [6,7] (fun t6 t7 wx=>∃Bq:Nat,t6=UH (some ⟨Bq,0,none⟩)∧t7=UE UL e0∧ax wx Bq #[UE UL qb,UE UL qn,UE UL v.mb,UE UL v.mn] 192∧UA W wx)
 case first=>
  go_wp2_with fail;have rK:IntKind.i64.wrap ((k:Int)+1-1)=(k:Int):=by rw[IntKind.wrap_i64];omega
  have xQ:IntKind.i64.wrap (k:Int)=(k:Int):=by rw[IntKind.wrap_i64];omega
  have cl:(k:Int)<(n:Int):=by omega
  have dM:(0:Int)≤(k:Int):=by omega
  have hzz:W.heap.size≤W.heap.size:=aa _
  go_region_held3 (fun w'=>(∀b o,b<W.heap.size→w'.cell? ⟨b,o,none⟩=W.cell? ⟨b,o,none⟩)∧UA W w') (first|with_reducible assumption|with_reducible exact eH _|with_reducible exact dU _|with_reducible exact eb (by assumption) (by assumption)|with_reducible exact dF (by assumption) _|with_reducible exact du (by assumption) _|with_reducible exact cX (by assumption) (by assumption)|with_reducible exact eG (by assumption) (by assumption))
   (first|(go_at_call 204;((with_reducible refine(HB.o _).mono ?_);rintro e w4 ⟨rfl,rfl⟩))|(go_at_call 203;((with_reducible refine(HT.o _).mono ?_);rintro e w4 ⟨rfl,cK⟩;have hz5:=ae (And.right ‹(∀b o,b<W.heap.size→_)∧UA W _›).size cK.size;try (have hbq:=kD cK;obtain⟨bqc,bqf,bqz⟩:=hbq.facts))))
  all_goals
   obtain⟨-,oY⟩:=‹_∧UA W _›;have re:=Ux oY
   try (have Hj:=Ux hbq)
   clear oY;go_wp2_with fail;go_meet;exact⟨_,rfl,rfl,by first|exact Hj.o.dA|exact ax.new _ _ _,re.o⟩
 case rest=>
  obtain⟨Bq,rfl,rfl,hQ,hS⟩:=hcut;have HS:=Ux hS;have GQ:=Ux (show UA w wc from HW.o.trans (hS.mono HW.o.size));by_cases h0:e0=0
  ·obtain⟨hk,hv⟩:=HV.o;obtain⟨rfl,rfl⟩:=HQ.o h0;have kS:=Ux (rW.o h0);subst h0;obtain⟨qc,qf,qz⟩:=hQ.facts;have pcw:wc.cell? ⟨pf,1,none⟩=_:=(hS.cell (p:=⟨pf,1,none⟩) hpW).trans pc1;have bcw:wc.cell? ⟨Bn,1,none⟩=_:=(hS.cell (p:=⟨Bn,1,none⟩) bz).trans (bc 1);rw[←hS.cell (p:=⟨g,k*6+2,none⟩) uI] at c2;rw[←hS.cell (p:=⟨g,k*6+3,none⟩) uI] at c3;rw[←hS.cell (p:=⟨g,k*6+4,none⟩) uI] at c4;rw[←hS.cell (p:=⟨g,k*6+5,none⟩) uI] at c5;have hfw:∀i,wc.frozen? ⟨g,i,none⟩=false:=fun i=>(GQ.o.frozen (p:=⟨g,i,none⟩) hgl).trans (hfg i);have JH:=ou.o.an GQ.o;obtain⟨xY,N8⟩:=JH.Lv ka.o hk v hv (v.b+bk) (v.n+1);have tM:aS (R.F pf) (R.F pf) wc _:=aS.dH N8;have HEq:=Ux ((nj.o.an GQ.o).rf JH tM);have JV:=(dX.o.an hS).mod N8 (fun hk=>absurd (ou.o.lt hk) (by rw[HBn.o];omega));have Nr:=Ux xY;have jY:=Ux ((aS.aq GQ.o).trans tM);clear JH xY N8 tM pc1 hfg;go_wp2_with fail;have mixed:Tryz.prog.follows .mixedOrders=true:=by kernel_rfl
   have rK:IntKind.i64.wrap ((k:Int)+1-1)=(k:Int):=by rw[IntKind.wrap_i64];omega
   have xQ:IntKind.i64.wrap (k:Int)=(k:Int):=by rw[IntKind.wrap_i64];omega
   have cl:(k:Int)<(n:Int):=by omega
   have dM:(0:Int)≤(k:Int):=by omega
   refine aG 10 mixed (by kernel_rfl) (show cn _ from by repeat (first|exact cS|refine cR ?_|refine cx ?_|refine cG ?_)) ?_;simp only[List.take_succ_cons,List.take_zero,List.drop_succ_cons,List.drop_zero]
   repeat still_step
   refine wpStill_nil ?_;go_upto_region 7 with fail;generalize World.setCell _ _ _=X at HEq JV Nr jY⊢;obtain⟨xc,-,xz⟩:=Nr.o.bD.facts;obtain⟨bc,bf,bz⟩:=JV.facts;clear c2 c3 c4 c5 hfw pcw bcw qc qf qz;have uZ:UA X X.drew:=(Below.refl _ X).drew;have hAdd:=Ac (Nr.o.an uZ) (HEq.o.an uZ) fk mT (by omega);unfold An.v at hAdd;rw[Kq.o] at hAdd;have HAdd:=Ux hAdd;clear hAdd;go_wp2_with fail;refine HAdd.o.mono ?_;rintro e w5 ⟨rfl,R',ez,dw,gN,-⟩;have Hi:=Ux (ag ez (ag dw gN));clear ez dw gN;go_wp2_with fail;go_ret2;rw[kS.o];refine⟨rfl,R',?_,(jY.o.trans (aS.aq uZ)).trans Hi.o.2.1,Hi.o.2.2⟩;rw[Kq.o];exact Hi.o.1
  ·have kS:=Ux (BF.o h0);have nD:(e0 != 0)=true:=by simpa using h0
   clear h0;go_wp2_with fail;go_ret2;rw[kS.o];exact⟨rfl,R,ou.o.an GQ.o,aS.aq GQ.o,Rf.cY.refl R⟩
theorem Fh(h:aW w pf R S){N:Nat}(hk:ay S N)(hN:N≤1000000)(hgl:S.ns.length≤1000000)(a:An)(ea:Option Addr)(el ec:Nat)(he:aA w ea el ec a.au)(hs:a.data.size≤1048576) :
  Calls Tryz.prog 195 #[UH (some ⟨pf,0,none⟩),a.v ea el ec] w fun e w'=>e=.returned (UK #[UE UL (S.make a).2.1,UE UL (S.make a).2.2])∧∃R',aW w' pf R' (S.make a).1∧aS (R.F pf) (R'.F pf) w w'∧Rf.cY R R':=by
 by_cases hr:S.root a.dev=0
 ·refine(Cs h a ea el ec hr).mono ?_;rintro e w1 ⟨rfl,hb⟩;rw[wh hr];exact⟨rfl,R,h.an hb,aS.aq hb,Rf.cY.refl R⟩
 ·have hd:1≤a.dev∧a.dev≤S.ds.length:=by
   by_cases hd:1≤a.dev∧a.dev≤S.ds.length
   ·exact hd
   ·exact absurd (mL hd) hr
  exact Fg h (k:=(a.dev-1).toNat) (by omega) a ea el ec he (by omega) hr hs hk.l0 (Int.le_trans hk.lN (by omega)) hgl
end
end
section
open Go.RowKit
theorem IN(m:Int)(n:Nat)(hn:n≤100)(w:World) :
  Calls Tryz.prog 202 #[UE UL m,UE UL n] w fun e w'=>(∃b,e=.returned (.bool b))∧w'=w:=by
 go_enter Tryz.func202,Tryz.ntmps202;go_wp2_with fail
 go_loopw [0,5] (fun t0 t5 wr=>∃(x:Int) (k:Nat),k≤n∧t0=UE UL x∧t5=UE UL k∧wr=w) (fun _ t5 _=>n-(intOf t5).toNat)
 case atStart=>exact⟨m,0,Nat.zero_le _,rfl,rfl,rfl⟩
 case round=>
  obtain⟨x,k,hk,rfl,rfl,rfl⟩:=hrel;by_cases hlt:k<n
  ·go_wp2_with fail;go_roundw
   case measure=>simp[intOf];omega
   case rel=>exact⟨_,k+1,by omega,rfl,by go_num,by trivial⟩
  ·obtain rfl:k=n:=by omega
   go_wp2_with fail;go_ret;exact⟨⟨_,rfl⟩,rfl⟩
theorem OU(uid gid mode want:Int)(w:World) :
  Calls Tryz.prog 194 #[UJ #[UE UL 0,UE UL 0],UE UL uid,UE UL gid,UE UL mode,UE UL want] w fun e w'=>e=.returned (.bool true)∧UA w w':=by
 have ox:=Ux (fun m (n:Nat) hn w=>IN m n hn w);have hB:=ax.new w #[UE UL 0,UE UL 0] 64;have cB:=Ux (ao (UB w) (.cells #[UE UL 0,UE UL 0] 64));obtain⟨qc,qf,qz⟩:=hB.facts;clear hB;have key:∀x:Int,(0==x)=true∨(0==x)=false:=fun x=>by cases (0==x)<;>simp
 go_enter Tryz.func194,Tryz.ntmps194;go_upto_region 2 with fail;generalize w.alloc _=X at cB qc qf qz⊢;rcases key uid with h1|h1
 ·go_wp2_with fail
  go_loopw [12] (fun t12 wr=>∃k:Nat,k≤3∧t12=UE UL k∧wr=X) (fun t12 _=>3-(intOf t12).toNat)
  case atStart=>exact⟨0,Nat.zero_le _,rfl,rfl⟩
  case round=>
   obtain⟨k,hk,rfl,rfl⟩:=hrel;by_cases hlt:k<3
   ·have im:(k:Int)<3:=by omega
    go_wp2_with fail;refine(ox.o _ k (by omega) _).mono ?_;rintro e w2 ⟨⟨b,rfl⟩,rfl⟩
    cases b with
    |false=>
     go_wp2_with fail;go_roundw
     case measure=>simp[intOf];omega
     case rel=>exact⟨k+1,by omega,by go_num,by trivial⟩
    |true=>
     have hfk:IntKind.i64.wrap ((6:Int)+(k:Int))=(6:Int)+(k:Int):=by rw[IntKind.wrap_i64];omega
     go_wp2_with fail;have h2:=ox.o mode (6+k) (by omega);rw[show((6+k:Nat):Int)=(6:Int)+(k:Int) from by omega] at h2;refine(h2 _).mono ?_;rintro e w3 ⟨⟨b2,rfl⟩,rfl⟩
     cases b2 with
     |false=>
      go_wp2_with fail;go_ret;exact⟨rfl,cB.o⟩
     |true=>
      go_wp2_with fail;go_roundw
      case measure=>simp[intOf];omega
      case rel=>exact⟨k+1,by omega,by go_num,by trivial⟩
   ·obtain rfl:k=3:=by omega
    go_wp2_with fail;go_ret;exact⟨rfl,cB.o⟩
 ·rcases key gid with h2|h2
  ·go_wp2_with fail
   go_loopw [12] (fun t12 wr=>∃k:Nat,k≤3∧t12=UE UL k∧wr=X) (fun t12 _=>3-(intOf t12).toNat)
   case atStart=>exact⟨0,Nat.zero_le _,rfl,rfl⟩
   case round=>
    obtain⟨k,hk,rfl,rfl⟩:=hrel;by_cases hlt:k<3
    ·have im:(k:Int)<3:=by omega
     go_wp2_with fail;refine(ox.o _ k (by omega) _).mono ?_;rintro e w2 ⟨⟨b,rfl⟩,rfl⟩
     cases b with
     |false=>
      go_wp2_with fail;go_roundw
      case measure=>simp[intOf];omega
      case rel=>exact⟨k+1,by omega,by go_num,by trivial⟩
     |true=>
      have hfk:IntKind.i64.wrap ((3:Int)+(k:Int))=(3:Int)+(k:Int):=by rw[IntKind.wrap_i64];omega
      go_wp2_with fail;have h2:=ox.o mode (3+k) (by omega);rw[show((3+k:Nat):Int)=(3:Int)+(k:Int) from by omega] at h2;refine(h2 _).mono ?_;rintro e w3 ⟨⟨b2,rfl⟩,rfl⟩
      cases b2 with
      |false=>
       go_wp2_with fail;go_ret;exact⟨rfl,cB.o⟩
      |true=>
       go_wp2_with fail;go_roundw
       case measure=>simp[intOf];omega
       case rel=>exact⟨k+1,by omega,by go_num,by trivial⟩
    ·obtain rfl:k=3:=by omega
     go_wp2_with fail;go_ret;exact⟨rfl,cB.o⟩
  ·go_wp2_with fail
   go_loopw [12] (fun t12 wr=>∃k:Nat,k≤3∧t12=UE UL k∧wr=X) (fun t12 _=>3-(intOf t12).toNat)
   case atStart=>exact⟨0,Nat.zero_le _,rfl,rfl⟩
   case round=>
    obtain⟨k,hk,rfl,rfl⟩:=hrel;by_cases hlt:k<3
    ·have im:(k:Int)<3:=by omega
     go_wp2_with fail;refine(ox.o _ k (by omega) _).mono ?_;rintro e w2 ⟨⟨b,rfl⟩,rfl⟩
     cases b with
     |false=>
      go_wp2_with fail;go_roundw
      case measure=>simp[intOf];omega
      case rel=>exact⟨k+1,by omega,by go_num,by trivial⟩
     |true=>
      have hfk:IntKind.i64.wrap ((0:Int)+(k:Int))=(0:Int)+(k:Int):=by rw[IntKind.wrap_i64];omega
      go_wp2_with fail;have h2:=ox.o mode (0+k) (by omega);rw[show((0+k:Nat):Int)=(0:Int)+(k:Int) from by omega] at h2;refine(ox.o mode k (by omega) _).mono ?_;rintro e w3 ⟨⟨b2,rfl⟩,rfl⟩
      cases b2 with
      |false=>
       go_wp2_with fail;go_ret;exact⟨rfl,cB.o⟩
      |true=>
       go_wp2_with fail;go_roundw
       case measure=>simp[intOf];omega
       case rel=>exact⟨k+1,by omega,by go_num,by trivial⟩
    ·obtain rfl:k=3:=by omega
     go_wp2_with fail;go_ret;exact⟨rfl,cB.o⟩
theorem zY(a:An)(ea:Option Addr)(el ec:Nat)(w:World) :
  Calls Tryz.prog 181 #[UJ #[UE UL 0,UE UL 0],a.v ea el ec] w fun e w'=>e=.returned (.bool true)∧UA w w':=by
 unfold An.v;go_enter Tryz.func181,Tryz.ntmps181
 go_wp2
 go_ret;exact⟨rfl,by go_grown⟩
theorem Ct(u g:Int)(w:World) :
  Calls Tryz.prog 139 #[UJ #[UE UL u,UE UL g]] w fun e w'=>e=.returned (.bool (KP u g))∧UA w w':=by
 have HI:=Ux (show KP u g=decide (0≤u∧u≤2147483648∧0≤g∧g≤2147483648) from rfl);generalize KP u g=r at HI⊢;by_cases h1:0≤u
 ·by_cases h2:u≤2147483648
  ·by_cases h3:0≤g
   ·by_cases h4:g≤2147483648
    ·go_enter Tryz.func139,Tryz.ntmps139
     go_wp2
     go_ret;exact⟨eh (by rw[HI.o];exact(decide_eq_true (by omega)).symm),by go_grown⟩
    ·go_enter Tryz.func139,Tryz.ntmps139
     go_wp2
     go_ret;exact⟨eh (by rw[HI.o];exact(decide_eq_false (by omega)).symm),by go_grown⟩
   ·go_enter Tryz.func139,Tryz.ntmps139
    go_wp2
    go_ret;exact⟨eh (by rw[HI.o];exact(decide_eq_false (by omega)).symm),by go_grown⟩
  ·go_enter Tryz.func139,Tryz.ntmps139
   go_wp2
   go_ret;exact⟨eh (by rw[HI.o];exact(decide_eq_false (by omega)).symm),by go_grown⟩
 ·go_enter Tryz.func139,Tryz.ntmps139
  go_wp2
  go_ret;exact⟨eh (by rw[HI.o];exact(decide_eq_false (by omega)).symm),by go_grown⟩
theorem Cv(s:ByteArray)(w:World)(hs:s.size≤100000) :
  Calls Tryz.prog 196 #[UF s] w fun e w'=>e=.returned (UE UL (cH s))∧w'=w:=by
 have hl:s.toList=s.data.toList:=cd s;have HC:=Ux (show cH s=if s.toList=[]∨s.toList=[46]∨s.toList=[46,46]∨hasB s 47=true∨hasB s 0=true then 1 else if 255<s.size then 13 else 0 by
  unfold cH hasB;rw[hl];simp only[decide_eq_true_eq])
 have KJ:=Ux (fun w=>rM s 47 w (by omega));have H0:=Ux (fun w=>rM s 0 w (by omega));generalize hasB s 47=b47 at HC KJ;generalize hasB s 0=b0 at HC H0;clear hl;by_cases h1:s.toList=[]
 ·have HE:=Ux (HC.o.trans (if_pos (.inl h1)));go_enter Tryz.func196,Tryz.ntmps196;go_wp2_with fail;go_ret;exact⟨by rw[HE.o];rfl,rfl⟩
 ·have o8:s.toList.isEmpty=false:=by simpa using h1
  by_cases h2:s.toList=[46]
  ·have HE:=Ux (HC.o.trans (if_pos (.inr (.inl h2))));go_enter Tryz.func196,Tryz.ntmps196;go_wp2_with fail;go_ret;exact⟨by rw[HE.o];rfl,rfl⟩
  ·have kR:(s.toList==[46])=false:=by simpa using h2
   by_cases h3:s.toList=[46,46]
   ·have HE:=Ux (HC.o.trans (if_pos (.inr (.inr (.inl h3)))));go_enter Tryz.func196,Tryz.ntmps196;go_wp2_with fail;go_ret;exact⟨by rw[HE.o];rfl,rfl⟩
   ·have tR:(s.toList==[46,46])=false:=by simpa using h3
    cases b47 with
    |true=>
     have HE:=Ux (HC.o.trans (if_pos (.inr (.inr (.inr (.inl rfl))))));clear h1 h2 h3;go_enter Tryz.func196,Tryz.ntmps196;go_wp2_with fail;refine(KJ.o _).mono ?_;rintro e w1 ⟨rfl,rfl⟩;go_wp2_with fail;go_ret;exact⟨by rw[HE.o];rfl,rfl⟩
    |false=>
     cases b0 with
     |true=>
      have HE:=Ux (HC.o.trans (if_pos (.inr (.inr (.inr (.inr rfl))))));clear h1 h2 h3;go_enter Tryz.func196,Tryz.ntmps196;go_wp2_with fail;refine(KJ.o _).mono ?_;rintro e w1 ⟨rfl,rfl⟩;go_wp2_with fail;refine(H0.o _).mono ?_;rintro e w1 ⟨rfl,rfl⟩;go_wp2_with fail;go_ret;exact⟨by rw[HE.o];rfl,rfl⟩
     |false=>
      have HE:=Ux (HC.o.trans (if_neg (by simp[h1,h2,h3])));clear h1 h2 h3;by_cases h4:255<s.size
      ·have bS:=Ux (HE.o.trans (if_pos h4));have h4':(255:Int)<(s.size:Int):=by omega
       go_enter Tryz.func196,Tryz.ntmps196;go_wp2_with fail;refine(KJ.o _).mono ?_;rintro e w1 ⟨rfl,rfl⟩;go_wp2_with fail;refine(H0.o _).mono ?_;rintro e w1 ⟨rfl,rfl⟩;go_wp2_with fail;go_ret;exact⟨by rw[bS.o];rfl,rfl⟩
      ·have bS:=Ux (HE.o.trans (if_neg h4));have h4':¬(255:Int)<(s.size:Int):=by omega
       go_enter Tryz.func196,Tryz.ntmps196;go_wp2_with fail;refine(KJ.o _).mono ?_;rintro e w1 ⟨rfl,rfl⟩;go_wp2_with fail;refine(H0.o _).mono ?_;rintro e w1 ⟨rfl,rfl⟩;go_wp2_with fail;go_ret;exact⟨by rw[bS.o];rfl,rfl⟩
end
end Go.Proofs.YtabbjaomlmnnhaaGreat
