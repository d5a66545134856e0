import Derived.Deep.CutBlock
import Derived.Deep.DeepCutAuto
import Derived.RegionTactic
import Derived.BigRegion
import Derived.Deep.QuietTactic
import Derived.BigQuiet
import Derived.WalkSmall
import Derived.WalkMore
import Derived.Deep.LoopGhost
import Derived.Test.YtabbjaomlmnnhaaGreatCS12
import Derived.Test.YtabbjaomlmnnhaaGreatCS11
import Derived.Test.YtabbjaomlmnnhaaGreatCS7
import Derived.Test.YtabbjaomlmnnhaaGreatCS5
import Derived.Test.YtabbjaomlmnnhaaGreatCS8
import Derived.Test.YtabbjaomlmnnhaaGreatCS6
import Derived.Test.YtabbjaomlmnnhaaGreatCS1
import Derived.Test.YtabbjaomlmnnhaaGreatCS4
import Derived.Test.YtabbjaomlmnnhaaGreatCS2
set_option linter.unusedVariables false
set_option linter.unusedSimpArgs false
set_option maxRecDepth 100000
set_option maxHeartbeats 16000000
namespace Go.Proofs.YtabbjaomlmnnhaaGreat
section
open Go.RowKit
def Ge(k:Int):List Value:=[.int .i64 k]
theorem Gd(k:Int):(Ge k).length=1:=rfl
def OI(w:World)(base:Nat)(v:Value)(l:List Int):Prop:=w.ownsRow base 3 1 v l.length (l.flatMap Ge)
theorem Fz:(Tryz.prog.info? 3).map (fun i=>(i.zero,i.size,i.bytes))=some (some (.int .i64 0),1,8):=by kernel_rfl
theorem OI.app{w:World}{base:Nat}{v:Value}{l:List Int}(h:OI w base v l)(k:Int)(hl:l.length≤1000000)(hb:base≤w.heap.size) :
  ∃g cap W,(Builtin.append_ #[131,131] 131 #[v,.slice (some ⟨w.heap.size,0,none⟩) 1 1]).run Tryz.prog (w.alloc (.cells #[.int .i64 k] 3))=.ok (.slice (some ⟨g,0,none⟩) (l.length+1) cap) W∧
   OI W base (.slice (some ⟨g,0,none⟩) (l.length+1) cap) (l++[k])∧Mod (fun j=>v.ownBlock=some j) w W:=by
 obtain⟨i0,hi,jy,ee,et⟩:=info_parts Fz;have ho:=World.ownsRow.alloc h (.cells #[.int .i64 k] 3);obtain⟨g,cap,W,h1,h2,h3,h4⟩:=ei 131 Tryz.underlying131 hi jy ee et rfl (by omega) ho ⟨w.heap.size,0,none⟩ 1 1 [.int .i64 k] rfl (World.news_of_block (aw.new w #[.int .i64 k] 3)) (by intro u hu;simp at hu;subst hu;rfl) (by omega) (by unfold maxLen;omega) (by omega) (by simp;omega);refine⟨g,cap,W,h1,?_,((Mod.refl (fun j=>v.ownBlock=some j) w).alloc (.cells #[.int .i64 k] 3)).trans h3⟩;unfold OI;rw[List.length_append,List.length_singleton,List.flatMap_append];exact h2
theorem OI.cell{w:World}{base g cap:Nat}{l:List Int}(h:OI w base (.slice (some ⟨g,0,none⟩) l.length cap) l)(k:Nat)(hk:k<l.length):w.cell? ⟨g,k,none⟩=some (.int .i64 l[k]):=by
 obtain⟨-,-,-,h0|⟨b,off,he,hb,hel⟩⟩:=eo (R:=fun cs x=>cs=Ge x) (by omega) Gd (fun _=>rfl) h
 ·omega
 ·injection he with he;injection he with e1 e2;subst e1 e2;obtain⟨cs,h1,h2,h3⟩:=hel k hk;subst h2;have:=h3 0 (by simp[Ge]);simpa [Ge] using this
section
variable{w w':World}{pf pw:Nat}{R:Rp}{pv:Value}{Y:Sy}
theorem OI.sy{base:Nat}{v:Value}{l:List Int}(ho:OI w base v l)(h:bg w pf pw R pv Y){F':Nat→Prop}(hs:aR (R.Y pf pw) F' w w'):OI w' base v l:=
 bI ho hs.mod (fun k hk he=>by
  obtain⟨-,cur,hc⟩:=aD ho he;have hb:aw w k cur 3:=hc;rcases hk with rfl|hk
  ·have h1:=h.aZ;unfold aw at hb h1;rw[hb] at h1
   cases h1
  ·obtain⟨o,ho,hd⟩:=h.wd.kind hk;rw[hc] at ho;injection ho with ho;subst ho
   cases hd)
theorem bg.oi(h:bg w pf pw R pv Y){base:Nat}{v:Value}{l:List Int}(ho:OI w base v l)(hm:Mod (fun j=>v.ownBlock=some j) w w'):bg w' pf pw R pv Y:=by
 refine⟨h.aZ.mod hm (fun e=>?_),h.wd.mod hm (fun k o hk ij=>?_),bI h.bQ hm (fun k hk he=>?_)⟩
 ·obtain⟨-,cur,hc⟩:=aD ho e;have hq:=h.aZ;unfold aw at hq;rw[hc] at hq
  cases hq
 ·obtain⟨-,cur,hc⟩:=aD ho hk;rw[hc] at ij;injection ij with ij;subst ij;exact⟨rfl,fun cur e=>by cases e⟩
 ·obtain⟨-,cur,hc⟩:=aD ho hk;obtain⟨-,cur2,eT⟩:=aD h.bQ he;rw[hc] at eT
  cases eT
structure jP(w wr:World)(pf pw:Nat)(pv:Value)(S:Fs)(n:Int):Prop where
 st:∃R Y,bg wr pf pw R pv Y∧Y.fs=S∧Calm Y∧Y.count≤n∧∀k,R.Y pf pw k→w.heap.size≤k
 below:Qi w wr
theorem jP.ak{wr:World}{S:Fs}{n:Int}(h:jP w wr pf pw pv S n)(hb:Qi wr w'):jP w w' pf pw pv S n:=by
 obtain⟨⟨R,Y,h1,h2,h3,h4,h5⟩,h6⟩:=h;exact⟨⟨R,Y,h1.ak hb,h2,h3,h4,h5⟩,au h6 hb⟩
theorem jP.mono{wr:World}{S:Fs}{n n':Int}(h:jP w wr pf pw pv S n)(hn:n≤n'):jP w wr pf pw pv S n':=by
 obtain⟨⟨R,Y,h1,h2,h3,h4,h5⟩,h6⟩:=h;exact⟨⟨R,Y,h1,h2,h3,by omega,h5⟩,h6⟩
theorem jP.of{wr:World}{S:Fs}{n d:Int}(hb:Qi w wr)(hc:Y.count≤n)(hF:∀k,R.Y pf pw k→w.heap.size≤k)(h:eQ wr w' pf pw R pv Y S d):jP w w' pf pw pv S (n+d):=by
 obtain⟨R',Z,h1,h2,h3,h4,h5⟩:=h;refine⟨⟨R',Z,h1,h2,h3,by omega,fun k hk=>?_⟩,hb.trans (h5.below hF hb.size)⟩;exact h5.aX hF hb.size k hk
end
theorem jP.oi{w wr w':World}{pf pw:Nat}{pv:Value}{S:Fs}{n:Int}(h:jP w wr pf pw pv S n){v:Value}{l:List Int}(ho:OI wr w.heap.size v l)(hm:Mod (fun j=>v.ownBlock=some j) wr w'):jP w w' pf pw pv S n:=by
 obtain⟨⟨R,Y,h1,h2,h3,h4,h5⟩,h6⟩:=h;exact⟨⟨R,Y,h1.oi ho hm,h2,h3,h4,h5⟩,h6.trans (hm.below (fun k hk=>(aD ho hk).1) h6.size)⟩
theorem aw.oi{w w':World}{B base:Nat}{vs:Array Value}{T:TypeId}{v:Value}{l:List Int}(hb:aw w B vs T)(ho:OI w base v l)(hm:Mod (fun j=>v.ownBlock=some j) w w')(hT:T≠3):aw w' B vs T:=
 hb.mod hm (fun he=>by
  obtain⟨-,cur,hc⟩:=aD ho he;unfold aw at hb;rw[hb] at hc;injection hc with hc;injection hc with hc e;exact hT e)
theorem nk(S:Fs)(l:List Mt)(m:Mt):aQ S (l++[m])=if m.path=ks then aQ S l else bO (aQ S l) m:=by
 rw[xv];rfl
theorem o9(S:Fs)(l:List It)(x:It):aY S (l++[x])=((dQ (aY S l).1 x).1,(aY S l).2++[(dQ (aY S l).1 x).2]):=by
 rw[Ag];rfl
theorem oT(S:Fs)(l:List (It×Int))(x:It×Int):bN S (l++[x])=if x.2≠0 then((bN S l).cA bM 0 x.2 x.1.mtime).1 else bN S l:=by
 rw[zu];rfl
theorem tA(w:World){ma:Option Addr}{mn mc:Nat}{ia:Option Addr}{il ic:Nat}{ms:List Mt}{is:List It}(h:lO w ma mn mc ia il ic ms is)(hml:ms.length≤100000)(hil:is.length≤100000)
  (hmp:∀m∈ms,m.path.size≤100000) (hip:∀x∈is,x.path.size≤100000∧x.data.size≤100000) :
  Calls Tryz.prog 23 #[.agg #[.slice ma mn mc,.slice ia il ic]] w fun e w'=>∃pf pw R pv Y,e=.returned (.pointer (some ⟨pf,0,none⟩))∧bg w' pf pw R pv Y∧Y=⟨cU ms is,0,0,[],false⟩∧(∀k,R.Y pf pw k→w.heap.size≤k)∧Qi w w':=by
 have HS:=Qf h;have HL:=Qf (wG (w.alloc (.cells #[.slice ma mn mc,.slice ia il ic] 25)) (h.ak ((Below.refl _ w).alloc (aa _) _)));have HN:=Qf (fun w=>EN (aU ms).1 (aU ms).2 (om ms) w);have HMp:=Qf hmp;have HIp:=Qf hip;have hln:=h.m.1;have hli:=h.i.1;subst hln hli;obtain⟨AF,cH⟩:=Qh w #[.slice ma ms.length mc,.slice ia is.length ic] 25;have jz:=Qf (show cU ms is=bN (aY (aQ (p7.aH 0 (aU ms).1 (aU ms).2) ms) is).1 (is.zip (aY (aQ (p7.aH 0 (aU ms).1 (aU ms).2) ms) is).2) from rfl);have fY:=Qf (ax.new (aU ms).1 (aU ms).2);unfold sy0 at HN;generalize p7.aH 0 (aU ms).1 (aU ms).2=S0 at HN jz fY;generalize (aU ms).1=lb at HL HN;generalize (aU ms).2=ln at HL HN;clear h hmp hip;go_enter Tryz.func23,Tryz.ntmps23;go_wp2_with fail;refine HL.o.mono ?_;rintro e w1 ⟨rfl,av⟩;have eU:=AF.ak av;have Ao:=au cH av;clear AF cH av;go_wp2_with fail;refine(HN.o _).mono ?_;rintro e w2 ⟨pf,pw,R0,rfl,hY0,aS,Pc⟩;have cT:=eU.ak aS;have O1:jP w w2 pf pw (.slice none 0 0) S0 0:=⟨⟨R0,_,hY0,rfl,⟨rfl,rfl,rfl,by show(0:Int)≤0;omega⟩,by show(0:Int)≤0;omega,fun k hk=>ae Ao.size (Pc k hk)⟩,au Ao aS⟩;have GF:=Qf O1;have dS:=Qf cT;obtain⟨bc,bf,bz⟩:=cT.facts;clear eU Ao hY0 aS Pc cT O1;go_wp2_with fail
 go_loopw [26] (fun t26 wr=>∃k:Nat,k≤ms.length∧t26=.int .i64 k∧jP w wr pf pw (.slice none 0 0) (aQ S0 (ms.take k)) k∧aw wr w.heap.size #[.slice ma ms.length mc,.slice ia is.length ic] 25) (fun t26 _=>ms.length-(intOf t26).toNat)
 case atStart=>exact⟨0,Nat.zero_le _,rfl,GF.o,dS.o⟩
 case round=>
  obtain⟨k,hk,rfl,hP,hB⟩:=hrel;have HP:=Qf hP;have HB:=Qf hB;clear bc bf bz;obtain⟨bc,bf,bz⟩:=hB.facts;have hbw:=hP.below;clear hP hB;by_cases hlt:k<ms.length
  ·obtain⟨b,off,rfl,hbl⟩:=dU HS.o.m (by omega);obtain⟨c0,c1,c2⟩:=kL (HS.o.m.below hbw (aa _)) k hlt;have HQ:=Qf (show aQ S0 (ms.take (k+1))=if ms[k].path=ks then aQ S0 (ms.take k) else bO (aQ S0 (ms.take k)) ms[k] by rw[List.take_succ_eq_append_getElem hlt,nk]);have jR:=Qf (HMp.o ms[k] (List.getElem_mem hlt));have iP:=Qf (show ax (aQ S0 (ms.take k)) (1+2*k) by
    have:=fe fY.o (ms.take k)
    rwa [List.length_take,Nat.min_eq_left hk] at this)
   generalize ms[k]=m at c0 c1 c2 HQ jR;generalize jr:aQ S0 (ms.take (k+1))=S2 at HQ;have nW:=Qf jr;clear jr;generalize Au:aQ S0 (ms.take k)=Sk at HQ HP iP;have HSk:=Qf Au;have hX:=aw.new wr #[.string m.path,.int .i64 m.b,.int .i64 m.n] 125;have aI:=(Below.refl _ wr).alloc (aa _) (.cells #[.string m.path,.int .i64 m.b,.int .i64 m.n] 125);clear Au hbw;go_upto_region 7 with fail;generalize wr.alloc _=X at hX aI⊢;have aW:=Qf (HB.o.ak aI);have JS:=Qf (HP.o.ak aI);obtain⟨xc,xf,xz⟩:=hX.facts;clear hX aI c0 c1 c2;by_cases h1:m.path=ks
   ·have Jr:m.path.toList=[47]:=by rw[h1,bG];rfl
    have HE:=Qf (HQ.o.trans (if_pos h1));clear h1;go_wp2_with fail;go_roundw
    case rel=>exact⟨k+1,by omega,by go_num,by rw[show aQ S0 (ms.take (k+1))=Sk from by rw[nW.o];exact HE.o];exact JS.o.mono (by omega),aW.o⟩
    case measure=>simp[intOf];omega
   ·have Jr:(m.path.toList==[47])=false:=by
     rw[bG];simp only[beq_eq_false_iff_ne,ne_eq];exact fun e=>h1 (sg e)
    have HE:=Qf (HQ.o.trans (if_neg h1));obtain⟨⟨R,Y,hY,hfs,hcl,hcn,hF⟩,hbw⟩:=JS.o;have HM:=Qf (zF hY (N:=1+2*k) (by rw[hfs];exact iP.o) (by omega) hcl (by omega) m jR.o);rw[hfs] at HM;have HW:=Qf (ag hY (ag hcn (ag hF hbw)));clear h1 hY hfs hcl hcn hF hbw;go_wp2_with fail;refine HM.o.mono ?_;rintro e w5 ⟨rfl,AE⟩;obtain⟨hY,hcn,hF,hbw⟩:=HW.o;have GZ:=jP.of hbw hcn hF AE;obtain⟨R',Z,-,-,-,-,z5⟩:=AE;have l8:=Qf (aW.o.sy hY z5 rfl (by decide));have Nq:=Qf GZ;clear GZ z5 hY hcn hF hbw;go_wp2_with fail;go_roundw
    case rel=>exact⟨k+1,by omega,by go_num,by rw[show aQ S0 (ms.take (k+1))=bO Sk m from by rw[nW.o];exact HE.o];exact Nq.o.mono (by omega),l8.o⟩
    case measure=>simp[intOf];omega
  ·obtain rfl:k=ms.length:=by omega
   rw[List.take_length] at HP;have vL:=Qf (fe fY.o ms);generalize aQ S0 ms=S1 at HP vL jz;have hO0:OI (wr.alloc (.cells #[] 3)) w.heap.size (.slice (some ⟨wr.heap.size,0,none⟩) 0 0) []:=⟨rfl,.inr ⟨wr.heap.size,0,#[],rfl,HP.o.below.size,aw.new _ _ _,aa _,by unfold maxLen;omega,rfl,rfl⟩⟩;have Je:=HP.o.ak ((Below.refl _ wr).alloc (aa _) (.cells #[] 3));have eU:=HB.o.old (.cells #[] 3);have PU:=Qf hO0;have Ed:=Qf Je;have dO:=Qf eU;clear hO0 Je eU hbw;go_wp2_with fail;generalize wr.alloc _=W1 at PU Ed dO⊢;generalize wr.heap.size=hmade at PU⊢
   go_loopw [41,7] (fun t41 t7 wr=>∃(k:Nat) (a:Option Addr) (c:Nat),k≤is.length∧t41=.int .i64 k∧t7=.slice a k c∧OI wr w.heap.size (.slice a k c) (aY S1 (is.take k)).2∧jP w wr pf pw (.slice none 0 0) (aY S1 (is.take k)).1 (ms.length+3*k)∧aw wr w.heap.size #[.slice ma ms.length mc,.slice ia is.length ic] 25) (fun t41 _ _=>is.length-(intOf t41).toNat)
   case atStart=>exact⟨0,_,_,Nat.zero_le _,rfl,rfl,PU.o,Ed.o.mono (by omega),dO.o⟩
   case round=>
    obtain⟨k,a,c,hk,rfl,rfl,hO,hP,hB⟩:=hrel;have HO:=Qf hO;have HP:=Qf hP;have HB:=Qf hB;clear bc bf bz;obtain⟨bc,bf,bz⟩:=hB.facts;have hbw:=hP.below;clear hP hB hO;by_cases hlt:k<is.length
    ·obtain⟨b,off,rfl,hbl⟩:=dU HS.o.i (by omega);obtain⟨c0,c1,c2,c3,c4,c5,c6⟩:=kP (HS.o.i.below hbw (aa _)) k hlt;have HQ:=Qf (show aY S1 (is.take (k+1))=((dQ (aY S1 (is.take k)).1 is[k]).1,(aY S1 (is.take k)).2++[(dQ (aY S1 (is.take k)).1 is[k]).2]) by rw[List.take_succ_eq_append_getElem hlt,o9]);have jR:=Qf (HIp.o is[k] (List.getElem_mem hlt));have iP:=Qf (show ax (aY S1 (is.take k)).1 (1+2*ms.length+k) by
      have:=iA vL.o (is.take k)
      rwa [List.length_take,Nat.min_eq_left hk] at this)
     have sS:=Qf (show(aY S1 (is.take k)).2.length=k by rw[j9,List.length_take,Nat.min_eq_left hk]);generalize is[k]=it at c0 c1 c2 c3 c4 c5 c6 HQ jR;generalize aY S1 (is.take k)=Sk at HQ HP iP HO sS;obtain⟨Sk,Lk⟩:=Sk;have hX:=aw.new wr #[.string it.path,.int .i64 it.kind,.int .i64 it.mode,.int .i64 it.uid,.int .i64 it.gid,.int .i64 it.mtime,.string it.data] 82;have aI:=(Below.refl _ wr).alloc (aa _) (.cells #[.string it.path,.int .i64 it.kind,.int .i64 it.mode,.int .i64 it.uid,.int .i64 it.gid,.int .i64 it.mtime,.string it.data] 82);clear hbw;go_upto_region 14 with fail;generalize wr.alloc _=X at hX aI⊢;have aW:=Qf (HB.o.ak aI);have JS:=Qf (HP.o.ak aI);have G8:=Qf (dD HO.o aI (aa _));have Nx:=Qf hX;obtain⟨xc,xf,xz⟩:=hX.facts;obtain⟨⟨R,Y,hY,hfs,hcl,hcn,hF⟩,hbw⟩:=JS.o;have HM:=Qf (Cs hY (N:=1+2*ms.length+k) (by rw[hfs];exact iP.o) (by omega) hcl (by omega) it jR.o.1 jR.o.2);rw[hfs] at HM;have HW:=Qf (ag hY (ag hcn (ag hF hbw)));have vJ:=Qf (q' iP.o it);have JV:=Qf (show dQ Sk it=if(bS Sk it).2≠0 then((((bS Sk it).1.cD bM 0 (bS Sk it).2 it.uid it.gid).1.cw bM 0 (bS Sk it).2 it.mode).1,(bS Sk it).2) else bS Sk it from rfl);clear hX aI c0 c1 c2 c3 c4 c5 c6 hY hfs hcl hcn hF hbw;go_wp2_with fail;refine HM.o.mono ?_;clear HM;rintro e w5 ⟨rfl,AE⟩;generalize bS Sk it=nd at AE vJ JV⊢;obtain⟨S5,no⟩:=nd;dsimp only at AE vJ JV⊢;obtain⟨hY,hcn,hF,hbw⟩:=HW.o;have GZ:=jP.of hbw hcn hF AE;obtain⟨R',Z,-,-,-,-,z5⟩:=AE;have pG:=aW.o.sy hY z5 rfl (by decide);have Jj:=Nx.o.sy hY z5 rfl (by decide);have Ax:OI w5 w.heap.size (.slice a Lk.length c) Lk:=by rw[sS.o];exact OI.sy (l:=Lk) G8.o hY z5
     obtain⟨g,cap,W,hrun,FW,IV⟩:=Ax.app no (by rw[sS.o];omega) GZ.below.size;have O0:=GZ.oi Ax IV;have mI:=pG.oi Ax IV (by decide);have LC:=Jj.oi Ax IV (by decide);rw[sS.o] at hrun FW;have sO:=Qf hrun;have PR:=Qf O0;have vY:=Qf mI;have HIW:=Qf LC;have PT:=Qf FW;clear xc xf xz GZ z5 hY hcn hF hbw pG Jj Ax hrun FW IV O0 mI;obtain⟨xc,xf,xz⟩:=LC.facts;clear LC;by_cases hno:no=0
     ·have hnb:(no != 0)=false:=by simpa using hno
      have HE:=Qf (JV.o.trans (if_neg (by simp[hno])));clear hno;go_wp2_with (at_builtin;refine aL rfl rfl rfl rfl sO.o ?_);go_roundw
      case rel=>
       refine⟨k+1,_,cap,by omega,by go_num,rfl,?_,?_,vY.o⟩
       ·rw[HQ.o,HE.o];exact PT.o
       ·rw[HQ.o,HE.o];exact PR.o.mono (by omega)
      case measure=>simp[intOf];omega
     ·have hnb:(no != 0)=true:=by simpa using hno
      have HE:=Qf (JV.o.trans (if_pos hno));clear hno;obtain⟨⟨R,Y,hY,hfs,hcl,hcn,hF⟩,hbw⟩:=PR.o;have HM:=Qf (zK hY (N:=1+2*ms.length+k+1) (by rw[hfs];exact vJ.o) (by omega) ⟨hcl.c0,by omega⟩ (by rw[hcl.bQ];exact Nat.zero_le _) bM no it.uid it.gid);rw[hcl.kx,hfs] at HM;have HW:=Qf (ag hY (ag hcn (ag hF (ag hbw hcl))));clear hY hfs hcl hcn hF hbw;go_wp2_with (at_builtin;refine aL rfl rfl rfl rfl sO.o ?_);refine HM.o.mono ?_;clear HM;rintro e w6 ⟨rfl,R6,MJ,ve⟩;obtain⟨hY,hcn,hF,hbw,hcl⟩:=HW.o;have Jp:=vY.o.sy hY ve rfl (by decide);have tQ:=HIW.o.sy hY ve rfl (by decide);have O3:=OI.sy PT.o hY ve;have Kh:=jP.of hbw hcn hF (⟨R6,_,MJ,rfl,hcl.next _,(by show Y.count+1≤Y.count+1;omega),ve⟩:eQ W w6 pf pw R (.slice none 0 0) Y _ 1);have Np:=Qf Kh;have jx:=Qf Jp;have kr:=Qf tQ;have HO6:=Qf O3;clear xc xf xz Kh Jp MJ ve hY hcn hF hbw hcl O3;obtain⟨xc,xf,xz⟩:=tQ.facts;clear tQ HW;obtain⟨⟨R,Y,hY,hfs,hcl,hcn,hF⟩,hbw⟩:=Np.o;have HM:=Qf (zL hY (N:=1+2*ms.length+k+1) (by rw[hfs];exact rX vJ.o _ _ _ _ _) (by omega) ⟨hcl.c0,by omega⟩ (by rw[hcl.bQ];exact Nat.zero_le _) bM no it.mode);rw[hcl.kx,hfs] at HM;have HW:=Qf (ag hY (ag hcn (ag hF (ag hbw hcl))));clear hY hfs hcl hcn hF hbw;go_wp2_with fail;refine HM.o.mono ?_;clear HM;rintro e w7 ⟨rfl,R7,xQ,iU⟩;obtain⟨hY,hcn,hF,hbw,hcl⟩:=HW.o;have uu:=Qf (jx.o.sy hY iU rfl (by decide));have JT:=Qf (OI.sy HO6.o hY iU);have L9:=Qf (jP.of hbw hcn hF (⟨R7,_,xQ,rfl,hcl.next _,(by show Y.count+1≤Y.count+1;omega),iU⟩:eQ w6 w7 pf pw R (.slice none 0 0) Y _ 1));clear xQ iU hY hcn hF hbw hcl;go_wp2_with fail;go_roundw
      case rel=>
       refine⟨k+1,_,cap,by omega,by go_num,rfl,?_,?_,uu.o⟩
       ·rw[HQ.o,HE.o];exact JT.o
       ·rw[HQ.o,HE.o];exact L9.o.mono (by omega)
      case measure=>simp[intOf];omega
    ·obtain rfl:k=is.length:=by omega
     rw[List.take_length] at HP HO;have vK:=Qf (iA vL.o is);have oR:=Qf (j9 S1 is);generalize aY S1 is=q at HP HO vK jz oR;obtain⟨S2,made⟩:=q;dsimp only at jz;have Aj:made.length=is.length:=oR.o;clear hbw;go_wp2_with fail
     go_loopw [72] (fun t72 wr=>∃k:Nat,k≤is.length∧t72=.int .i64 k∧OI wr w.heap.size (.slice a is.length c) made∧jP w wr pf pw (.slice none 0 0) (bN S2 ((is.zip made).take k)) (ms.length+3*is.length+k)) (fun t72 _=>is.length-(intOf t72).toNat)
     case atStart=>exact⟨0,Nat.zero_le _,rfl,HO.o,HP.o.mono (by omega)⟩
     case round=>
      obtain⟨k,hk,rfl,hO,hP⟩:=hrel;have BO:=Qf hO;have Ec:=Qf hP;have hbw:=hP.below;clear hP hO bc bf bz;by_cases hlt:k<is.length
      ·obtain⟨b,off,rfl,hbl⟩:=dU HS.o.i (by omega);obtain⟨c0,c1,c2,c3,c4,c5,c6⟩:=kP (HS.o.i.below hbw (aa _)) k hlt;have hkm:k<made.length:=by omega
       obtain⟨g,rfl⟩:∃g,a=some ⟨g,0,none⟩:=by
        obtain⟨a1,c1,e1,-,-,hf⟩:=bC BO.o;injection e1 with e1 e2 e3;rcases hf with⟨-,h0,-⟩|⟨g,hg,-,-⟩
        ·omega
        ·exact⟨g,e1.trans hg⟩
       have vU:OI wr w.heap.size (.slice (some ⟨g,0,none⟩) made.length c) made:=by rw[Aj];exact BO.o
       have hgl:=(iI vU).2.2;have hmc:wr.cell? ⟨g,k,none⟩=some (.int .i64 made[k]):=vU.cell k hkm;have HQ:=Qf (show bN S2 ((is.zip made).take (k+1))=if made[k]≠0 then((bN S2 ((is.zip made).take k)).cA bM 0 made[k] is[k].mtime).1 else bN S2 ((is.zip made).take k) by
        rw[List.take_succ_eq_append_getElem (by rw[List.length_zip];omega),oT,List.getElem_zip])
       have iP:=Qf (nY vK.o ((is.zip made).take k));generalize is[k]=it at c0 c1 c2 c3 c4 c5 c6 HQ;generalize made[k]=no at hmc HQ;generalize bN S2 ((is.zip made).take k)=Sk at HQ Ec iP;have hX:=aw.new wr #[.string it.path,.int .i64 it.kind,.int .i64 it.mode,.int .i64 it.uid,.int .i64 it.gid,.int .i64 it.mtime,.string it.data] 82;have aI:=(Below.refl _ wr).alloc (aa _) (.cells #[.string it.path,.int .i64 it.kind,.int .i64 it.mode,.int .i64 it.uid,.int .i64 it.gid,.int .i64 it.mtime,.string it.data] 82);clear hbw vU;have HMl:=Qf Aj;clear Aj;go_upto_region 23 with fail;have hmc2:=(aI.cell (p:=⟨g,k,none⟩) hgl).trans hmc;have G8:=Qf (dD BO.o aI (aa _));generalize wr.alloc _=X at hX aI hmc2 G8⊢;have JS:=Qf (Ec.o.ak aI);obtain⟨xc,xf,xz⟩:=hX.facts;clear hX aI c0 c1 c2 c3 c4 c5 c6 hmc;by_cases hno:no=0
       ·have hnb:(no != 0)=false:=by simpa using hno
        have HE:=Qf (HQ.o.trans (if_neg (by simp[hno])));clear hno;go_wp2_with fail;go_roundw
        case rel=>exact⟨k+1,by omega,by go_num,G8.o,by rw[HE.o];exact JS.o.mono (by omega)⟩
        case measure=>simp[intOf];omega
       ·have hnb:(no != 0)=true:=by simpa using hno
        have HE:=Qf (HQ.o.trans (if_pos hno));have mixed:Tryz.prog.follows .mixedOrders=true:=by kernel_rfl
        obtain⟨⟨R,Y,hY,hfs,hcl,hcn,hF⟩,hbw⟩:=JS.o;have HM:=Qf (zy (hY.ak (Below.refl _ X).drew) (N:=1+2*ms.length+is.length) (by rw[hfs];exact iP.o) (by omega) ⟨hcl.c0,by omega⟩ (by rw[hcl.bQ];exact Nat.zero_le _) bM no it.mtime);rw[hcl.kx,hfs] at HM;have HW:=Qf (ag hY (ag hcn (ag hF (ag hbw hcl))));clear hno hY hfs hcl hcn hF hbw;go_wp2_with fail;refine aG 8 mixed (by kernel_rfl) (show bL _ from by repeat (first|exact cG|refine cF ?_|refine bR ?_|refine cd ?_)) ?_;simp only[List.take_succ_cons,List.take_zero,List.drop_succ_cons,List.drop_zero]
        repeat still_step
        refine wpStill_nil ?_;go_wp2_with fail;refine HM.o.mono ?_;clear HM;rintro e w7 ⟨rfl,R7,xQ,iU⟩;obtain⟨hY,hcn,hF,hbw,hcl⟩:=HW.o;have xS:Qi X X.drew:=(Below.refl _ X).drew;have JT:=Qf (OI.sy (dD G8.o xS (aa _)) (hY.ak xS) iU);have L9:=Qf (jP.of (hbw.drew) hcn hF (⟨R7,_,xQ,rfl,hcl.next _,(by show Y.count+1≤Y.count+1;omega),iU⟩:eQ X.drew w7 pf pw R (.slice none 0 0) Y _ 1));clear xQ iU hY hcn hF hbw hcl xS;go_wp2_with fail;go_roundw
        case rel=>exact⟨k+1,by omega,by go_num,JT.o,by rw[HE.o];exact L9.o.mono (by omega)⟩
        case measure=>simp[intOf];omega
      ·obtain rfl:k=is.length:=by omega
       rw[List.take_of_length_le (by rw[List.length_zip];omega),←jz.o] at Ec;obtain⟨⟨R,Y,hY,hfs,hcl,hcn,hF⟩,hbw⟩:=Ec.o;have HM:=Qf (Cj hY);have HW:=Qf (ag hfs (ag hcl (ag hF hbw)));have HY:=Qf hY;clear hY hfs hcl hcn hF hbw;go_wp2_with fail;refine HM.o.mono ?_;rintro e w7 ⟨rfl,pv7,xQ,hm7⟩;obtain⟨hfs,hcl,hF,hbw⟩:=HW.o;have HX:=Qf (show∃R pv Y,bg w7 pf pw R pv Y∧Y=⟨cU ms is,0,0,[],false⟩∧(∀k,R.Y pf pw k→w.heap.size≤k)∧Qi w w7 from
        ⟨R,pv7,_,xQ,(by unfold Sy.NK;rw[hfs,hcl.now]),hF,hbw.trans (hm7.below (fun k hk=>by rw[hk];exact hF pf (.inl rfl)) hbw.size)⟩)
       clear hfs hcl hF hbw xQ hm7;go_wp2_with fail;go_ret;obtain⟨R,pv,Y,h1,h2,h3,h4⟩:=HX.o;exact⟨pf,pw,R,pv,Y,rfl,h1,h2,h3,h4⟩
end
section
open Go.RowKit
def rwC(r:Rw):List Value:=[.string r.path,.int .i64 r.kind,.int .i64 r.mode,.int .i64 r.uid,.int .i64 r.gid,.int .i64 r.mtime,.int .i64 r.ctime,.int .i64 r.dev,.int .i64 r.first,.string r.data]
def rwQ(cs:List Value)(r:Rw):Prop:=cs=rwC r
theorem tE{w:World}{base base':Nat}{e e':TypeId}{sz sz' n n':Nat}{v v':Value}{xs xs':List Value}(h:w.ownsRow base e sz v n xs)(h':w.ownsRow base' e' sz' v' n' xs')(he:e≠e'){k:Nat}(hk:v.ownBlock=some k):v'.ownBlock≠some k:=fun hk'=>by
 obtain⟨-,c1,h1⟩:=aD h hk;obtain⟨-,c2,h2⟩:=aD h' hk';rw[h1] at h2;injection h2 with h2;injection h2 with e1 e2 e3;exact he e2
theorem uS{w w':World}{base:Nat}{e:TypeId}{sz n:Nat}{v:Value}{xs:List Value}(h:w.ownsRow base e sz v n xs){T:TypeId}(he:e≠T){B:Nat}{vs:Array Value}(hb:aw w B vs T)(hm:Mod (fun k=>v.ownBlock=some k) w w'):aw w' B vs T:=
 hb.mod hm (fun hk=>by
  obtain⟨-,c1,h1⟩:=aD h hk;unfold aw at hb;rw[h1] at hb;injection hb with hb;injection hb with e1 e2 e3;exact he e2)
end
section
open Go.RowKit
end
section
open Go.RowKit
structure Sw(pre l:List En)(i:Nat)(Y:List En):Prop where
 len:Y.length=pre.length+l.length
 old:∀k,k<pre.length→Y[k]?=pre[k]?
 at':∀k,k<l.length→Y[pre.length+k]?=if k<i∨l.length≤k+i then l[l.length-1-k]? else l[k]?
end
section
open Go.RowKit Go.Shelf
attribute [local go_sem] Oper.semAt_some
theorem aA.kt{w w':World}{T:Nat→Prop}{a:Option Addr}{n c:Nat}{es:List En}(h:aA w a n c es)(ht:KT T w w')(hT:∀b off,a=some ⟨b,off,none⟩→T b):aA w' a n c es:=by
 refine⟨⟨h.sl.1,h.sl.2.1,h.sl.2.2.1,h.sl.2.2.2.imp id ?_⟩,fun p hp=>?_⟩
 ·rintro⟨b,off,rfl,hb,hel⟩;refine⟨b,off,rfl,Nat.lt_of_lt_of_le hb ht.1,fun i hi=>?_⟩;obtain⟨cs,h1,h2,h3⟩:=hel i hi;refine⟨cs,h1,h2,fun j hj=>?_⟩;rw[←h3 j hj];simp only[World.cell?,ht.2 b (hT b off rfl)]
 ·obtain⟨b,off,cur,rfl,hblk⟩:=h.aZ p hp;exact⟨b,off,cur,rfl,(ht.2 b (hT b off hp)).trans hblk⟩
theorem take_prefix(es:List En)(k:Nat)(hk:k<es.length):(es.take k++[es[k]]) <+: es:=by
 rw[←List.take_succ_eq_append_getElem hk];exact List.take_prefix _ _
theorem sJ(n:Nat)(hn:1≤n)(Bs:Nat){ea:Option Addr}{el ec:Nat}{es:List En}(w:World)(hs:aw w Bs #[.slice ea el ec] 94)(he:aA w ea el ec es) :
  Pz (fun k=>k=Bs∨∃off,ea=some ⟨k,off,none⟩) Fence.wide n Tryz.prog 145 #[.pointer (some ⟨Bs,0,none⟩)] (fun x:En=>#[.string x.name,.int .i64 x.no])
   (fun xs=>xs=es) (fun pre=>∃m,pre=es.take m) (fun pre x=>(pre++[x]) <+: es) w:=fun L J Jx W hW OP hJ hJx hY h0=>by
 have hln:=he.len;subst hln;have iS:=he.sl.2.1;have eT:=he.sl.2.2.1;have Hs:=Qf (show aw W Bs #[.slice ea es.length ec] 94 from(hW.2 Bs (.inl rfl)).trans hs);have HE:=Qf (he.kt hW (fun b off h=>.inr ⟨off,h⟩));have HY:=Qf hY;have HJ:=Qf hJ;clear hs hW OP hY he hJ hJx;obtain⟨xc,xf,xz⟩:=Hs.o.facts;refine callsIn_of_wp Tryz.func145 rfl trivial ?_ rfl;simp only[Tryz.ntmps145,List.size_toArray,List.length_cons,List.length_nil,Nat.reduceAdd,Nat.reduceSub,Array.replicate_succ,Array.replicate_zero,List.push_toArray,List.append_toArray,List.nil_append,List.cons_append];gi_wp2
 gi_loopw [7] (fun t7 wr=>∃k:Nat,k≤es.length∧t7=.int .i64 k∧J (es.take k) wr∧aw wr Bs #[.slice ea es.length ec] 94∧aA wr ea es.length ec es∧W.heap.size≤wr.heap.size) (fun t7 _=>es.length-(intOf t7).toNat)
 case atStart=>exact⟨0,Nat.zero_le _,rfl,h0,Hs.o,HE.o,aa _⟩
 case round=>
  obtain⟨k,hk,rfl,Az,hbs,hen,hsz⟩:=hrel;clear xc xf xz h0;by_cases hkl:k<es.length
  ·obtain⟨b,off,rfl,hbl⟩:=hen.dL (by omega);obtain⟨c1,c2⟩:=hen.cell k hkl;have hJ1:=HJ.o _ _ _ Az (dN.alloc wr (.cells #[.string es[k].name,.int .i64 es[k].no] 98));have hX:=aw.new wr #[.string es[k].name,.int .i64 es[k].no] 98;obtain⟨fn,tmps,assign,body,hy,hR⟩:=HY.o _ es[k] _ hJ1 (take_prefix es k hkl);have HT:=Qf (List.take_succ_eq_append_getElem hkl);have HP:=Qf (take_prefix es k hkl);have dO:=Qf (hbs.old (.cells #[.string es[k].name,.int .i64 es[k].no] 98));have eS:=Qf (hen.ak (((Below.refl _ wr).alloc (aa _) (.cells #[.string es[k].name,.int .i64 es[k].no] 98))));have HR:=Qf hR;have ee:W.heap.size≤(wr.alloc (.cells #[.string es[k].name,.int .i64 es[k].no] 98)).heap.size:=by rw[World.size_alloc];omega
   obtain⟨xc,xf,xz⟩:=hX.facts;clear Az hbs hen hR hX hJ1;generalize es[k]=x at c1 c2 hy HR HT HP dO eS ee xc xf xz;gi_wp2;refine HR.o.mono ?_;rintro e W3 (⟨rfl,xW,gm⟩|⟨rfl,kU⟩)
   ·have JU:=Qf xW;have fG:=Qf (show aw W3 Bs #[.slice (some ⟨b,off,none⟩) es.length ec] 94 from(gm.2 Bs (.inl rfl)).trans dO.o);have nO:=Qf (eS.o.kt gm (fun b' off' h=>.inr ⟨off',h⟩));have yN:=Qf (ae ee gm.1);clear xW gm hy xc xf xz c1 c2;gi_wp2;go_roundw
    case rel=>exact⟨k+1,by omega,by go_num,by rw[HT.o];exact JU.o,fG.o,nO.o,yN.o⟩
    case measure=>simp[intOf];omega
   ·have GJ:=Qf kU;clear kU hy;gi_wp2;exact bodyPost_ret (results_none rfl _ _ _) rfl ⟨⟨_,rfl⟩,.inr ⟨_,ja HP.o,GJ.o⟩⟩
  ·obtain rfl:k=es.length:=by omega
   rw[List.take_length] at Az;have Mf:=Qf Az;clear Az hbs hen;gi_wp2
   go_end0
   exact⟨⟨_,rfl⟩,.inl ⟨_,rfl,Mf.o⟩⟩
end
section
open Go.RowKit
def FirstOf(l:List (Int×Value×Nat))(nos:List Int):Prop:=ew l∧∀k,bZ l k=if k∈nos then some (.int .i64 (nos.idxOf k:Nat)) else none
theorem Fb{α:Type}{enc:α→List Value}{w:World}{base:Nat}{e:TypeId}{sz g cap:Nat}(hpos:0<sz)(hl:∀x,(enc x).length=sz){xs:List α}{x:α}
  (h:w.ownsRow base e sz (.slice (some ⟨g,0,none⟩) (xs.length+1) cap) (xs.length+1) ((xs++[x]).flatMap enc)):w.ownsRow base e sz (.slice (some ⟨g,0,none⟩) xs.length cap) xs.length (xs.flatMap enc):=by
 refine⟨by rw[bW hl],.inr ?_⟩;rcases h.2 with⟨hv,-⟩|⟨g',cap',cur,hv,hb,hg,h1,h2,h3,h4⟩
 ·cases hv
 ·injection hv with e1 e2 e3;injection e1 with e1;injection e1 with e1;subst e1 e3;refine⟨g,cap,cur,rfl,hb,hg,by omega,h2,h3,?_⟩;have h5:(cur.toList.take ((xs.length+1)*sz)).take (xs.length*sz)=((xs++[x]).flatMap enc).take (xs.length*sz):=by rw[h4]
  rw[List.take_take,Nat.min_eq_left (by rw[Nat.succ_mul];omega),List.flatMap_append,List.take_append_of_le_length (by rw[bW hl];exact aa _)] at h5;rw[h5,List.take_of_length_le (by rw[bW hl];exact aa _)]
theorem IA{w w':World}{base:Nat}{e:TypeId}{sz n:Nat}{v:Value}{xs:List Value}(h:w.ownsRow base e sz v n xs){T:TypeId}(he:e≠T){B:Nat}{vs:Array Value}(hB:aw w B vs T)(hm:Mod (fun k=>k=B) w w'):w'.ownsRow base e sz v n xs:=
 bI h hm (fun k hk hb=>by
  obtain⟨-,cur,hc⟩:=aD h hb;subst hk;unfold aw at hB;rw[hB] at hc;injection hc with hc;injection hc with e1 e2 e3;exact he e2.symm)
section
variable{B:Nat}{w w':World}{m Bt g cap:Nat}{vo:Value}{out:List Rw}{nos:List Int}{stk:List En}
end
end
section
open Go.RowKit
def Bz(b s:ByteArray):Bool:=decide (b=s)||Lib.hasPrefix s.data.toList (mW b.data.toList++[47])
def Rw.to(r:Rw)(k:Int):Rw:={r with first:=k}
def Pr(l:List Rw):List Rw:=l.map fun r=>r.to ((l.map Rw.first).idxOf r.first:Nat)
def l4(ps:List ByteArray)(r:Rw):Bool:=ps.all fun p=>!Bz p r.path
def butL(l:List Rw)(ps:List ByteArray):List Rw:=Pr (l.filter (l4 ps))
section
variable{B:Nat}{w w':World}{m:Nat}{vo:Value}{out:List Rw}{nos:List Int}
end
def pxR(cs:List Value)(s:ByteArray):Prop:=cs=[.string s]
end
section
open Go.RowKit
def CleanW(l:List UInt8):Prop:=l=[47]∨(l.head?=some 47∧mW l=l)
def ptB:ByteArray:=ByteArray.mk #[46]
def relB(base s:ByteArray):ByteArray×Bool:=
 if uy (jt base).data.toList=true∧uy (jt s).data.toList=true∧Bz (jt base) (jt s)=true then
  (if jt base=jt s then ptB else str ((jt s).data.toList.drop ((mW (jt base).data.toList).length+1)),true)
 else(ByteArray.empty,false)
def joinB(a b:ByteArray):ByteArray:=if uy b.data.toList=true∨a=ByteArray.empty then jt b else jt (a++ByteArray.mk #[47]++b)
end
section
open Go.RowKit
section
variable{w w':World}{pf:Nat}{R:Rf}{S:Fs}
theorem aN.KN(h:aN w pf R S){g cap:Nat}(hdv:R.dv=.slice (some ⟨g,0,none⟩) S.ds.length cap){k:Nat}(hk:k<S.ds.length)(v:Dv)(hv:S.ds[k]=v)(b n:Int) :
  aN ((((w.setCell ⟨g,k*6+2,none⟩ (.int .i64 b)).setCell ⟨g,k*6+3,none⟩ (.int .i64 n)).setCell ⟨g,k*6+4,none⟩ (.int .i64 v.mb)).setCell ⟨g,k*6+5,none⟩ (.int .i64 v.mn)) pf R (S.bp ((k:Int)+1) {v with b:=b,n:=n})∧Mod (R.F pf) w ((((w.setCell ⟨g,k*6+2,none⟩ (.int .i64 b)).setCell ⟨g,k*6+3,none⟩ (.int .i64 n)).setCell ⟨g,k*6+4,none⟩ (.int .i64 v.mb)).setCell ⟨g,k*6+5,none⟩ (.int .i64 v.mn)):=by
 have hm:Mod (fun x=>x=g) w ((((w.setCell ⟨g,k*6+2,none⟩ (.int .i64 b)).setCell ⟨g,k*6+3,none⟩ (.int .i64 n)).setCell ⟨g,k*6+4,none⟩ (.int .i64 v.mb)).setCell ⟨g,k*6+5,none⟩ (.int .i64 v.mn)):=
  ((((Mod.refl (fun x=>x=g) w).setCell (a:=⟨g,k*6+2,none⟩) (.inl rfl) _).setCell (a:=⟨g,k*6+3,none⟩) (.inl rfl) _).setCell (a:=⟨g,k*6+4,none⟩) (.inl rfl) _).setCell (a:=⟨g,k*6+5,none⟩) (.inl rfl) _
 have hgb:R.dv.ownBlock=some g:=by rw[hdv];rfl
 have hM:Mod (R.F pf) w ((((w.setCell ⟨g,k*6+2,none⟩ (.int .i64 b)).setCell ⟨g,k*6+3,none⟩ (.int .i64 n)).setCell ⟨g,k*6+4,none⟩ (.int .i64 v.mb)).setCell ⟨g,k*6+5,none⟩ (.int .i64 v.mn)):=hm.mono (fun x hx=>.inr (.inr (by rw[hx];exact hgb)));obtain⟨-,hcur⟩:=aD h.eN hgb;have hl:(S.bp ((k:Int)+1) {v with b:=b,n:=n}).ds=S.ds.set k {v with b:=b,n:=n}:=by
  unfold Fs.bp;rw[show((k:Int)+1-1).toNat=k by omega]
 refine⟨⟨h.aZ.mod hm (cP hcur h.aZ (by decide)),bI h.re hm (fun x hx e=>?_),?_,h.ns,fun x hx=>(h.ay x hx).rf h (aR.cQ hM)⟩,hM⟩
 ·obtain⟨-,cur2,eT⟩:=aD h.re e;rw[hx] at eT;exact cP hcur (show aw w g cur2 149 from eT) (by decide) rfl
 rw[hl,List.length_set];have h0:=h.eN;rw[hdv] at h0⊢;have hkl:k*6+5<(S.ds.flatMap Dv.cs).length:=by rw[oD];omega
 have p1:=ft h0 (k*6+2) (by omega) (.int .i64 b);have p2:=ft p1 (k*6+3) (by rw[List.length_set];omega) (.int .i64 n);have p3:=ft p2 (k*6+4) (by rw[List.length_set,List.length_set];omega) (.int .i64 v.mb);have p4:=ft p3 (k*6+5) (by rw[List.length_set,List.length_set,List.length_set];omega) (.int .i64 v.mn);have hs:=gJ Dv.fF ({v with b:=b,n:=n}:Dv) S.ds k hk;rw[←hs];have c0:(S.ds.flatMap Dv.cs)[k*6]?=some (.int .i64 v.root):=by
  have:=gP Dv.fF S.ds k 0 hk (by omega);rw[Nat.add_zero] at this;rw[this,hv];rfl
 have c1:(S.ds.flatMap Dv.cs)[k*6+1]?=some (.int .i64 v.aC):=by
  rw[gP Dv.fF S.ds k 1 hk (by omega),hv];rfl
 have e0:(S.ds.flatMap Dv.cs).set (k*6) (.int .i64 v.root)=S.ds.flatMap Dv.cs:=by
  have hlt:k*6<(S.ds.flatMap Dv.cs).length:=by omega
  rw[List.getElem?_eq_getElem hlt] at c0;injection c0 with c0;rw[←c0,List.set_getElem_self]
 have e1:(S.ds.flatMap Dv.cs).set (k*6+1) (.int .i64 v.aC)=S.ds.flatMap Dv.cs:=by
  have hlt:k*6+1<(S.ds.flatMap Dv.cs).length:=by omega
  rw[List.getElem?_eq_getElem hlt] at c1;injection c1 with c1;rw[←c1,List.set_getElem_self]
 show World.ownsRow _ 0 266 6 _ _ ((((((((S.ds.flatMap Dv.cs).set (k*6) (.int .i64 v.root)).set (k*6+1) (.int .i64 v.aC)).set (k*6+2) (.int .i64 b)).set (k*6+3) (.int .i64 n)).set (k*6+4) (.int .i64 v.mb)).set (k*6+5) (.int .i64 v.mn)));rw[e0,e1];exact p4
theorem zO(h:aN w pf R S)(a:An)(ea:Option Addr)(el ec:Nat)(hr:S.root a.dev=0) :
  Calls Tryz.prog 195 #[.pointer (some ⟨pf,0,none⟩),a.v ea el ec] w fun e w'=>e=.returned (.tuple #[.int .i64 0,.int .i64 1])∧Qi w w':=by
 have cH:=aq (Qj w) (.cells #[.int .i64 a.no,.int .i64 a.dev,.int .i64 a.kind,.int .i64 a.mode,.int .i64 a.uid,.int .i64 a.gid,.int .i64 a.mtime,.int .i64 a.ctime,.int .i64 a.ao,.int .i64 a.up,.string a.data,.slice ea el ec] 149);have so:=Qf (lr (h.ak ((Below.refl _ w).alloc (aa _) (.cells #[.int .i64 a.no,.int .i64 a.dev,.int .i64 a.kind,.int .i64 a.mode,.int .i64 a.uid,.int .i64 a.gid,.int .i64 a.mtime,.int .i64 a.ctime,.int .i64 a.ao,.int .i64 a.up,.string a.data,.slice ea el ec] 149))) a.dev);rw[hr] at so;have bP:=Qf cH;have eU:=aw.new w #[.int .i64 a.no,.int .i64 a.dev,.int .i64 a.kind,.int .i64 a.mode,.int .i64 a.uid,.int .i64 a.gid,.int .i64 a.mtime,.int .i64 a.ctime,.int .i64 a.ao,.int .i64 a.up,.string a.data,.slice ea el ec] 149;obtain⟨qc,-,-⟩:=eU.facts;unfold An.v;clear h hr cH eU;go_enter Tryz.func195,Tryz.ntmps195;go_wp2_with fail;refine so.o.mono ?_;rintro e w1 ⟨rfl,rfl⟩;go_wp2_with fail;go_ret2;exact⟨rfl,bP.o⟩
theorem CD(h:aN w pf R S){k:Nat}(hk:k<S.ds.length)(a:An)(ea:Option Addr)(el ec:Nat)(he:aA w ea el ec a.ay)(hdev:a.dev=(k:Int)+1)(hr:S.root a.dev≠0)(hs:a.data.size≤1048576)(eR:0≤S.last)(pV:S.last≤1000000)(hgl:S.ns.length≤1000000) :
  Calls Tryz.prog 195 #[.pointer (some ⟨pf,0,none⟩),a.v ea el ec] w fun e w'=>e=.returned (.tuple #[.int .i64 (S.make a).2.1,.int .i64 (S.make a).2.2])∧∃R',aN w' pf R' (S.make a).1∧aR (R.F pf) (R'.F pf) w w'∧Rf.cy R R':=by
 have hlen:=h.len;have HR:=Qf (lr (h.ak ((Below.refl _ w).alloc (aa _) (.cells #[.int .i64 a.no,.int .i64 a.dev,.int .i64 a.kind,.int .i64 a.mode,.int .i64 a.uid,.int .i64 a.gid,.int .i64 a.mtime,.int .i64 a.ctime,.int .i64 a.ao,.int .i64 a.up,.string a.data,.slice ea el ec] 149))) a.dev);obtain⟨g,cap,hdv,hle,xZ,hgl,hc,hfg,-⟩:=h.kZ (by omega);obtain⟨c0,c1,c2,c3,c4,c5⟩:=hc k hk;obtain⟨v,hv⟩:∃v,S.ds[k]=v:=⟨_,rfl⟩;rw[hv] at c0 c1 c2 c3 c4 c5;obtain⟨pc,-,pz⟩:=h.aZ.facts;rw[hdv] at pc;obtain⟨rt,hrt⟩:∃rt,S.root a.dev=rt:=⟨_,rfl⟩;have hrn:=hr;rw[hrt] at HR hr;have sG:S.dev a.dev=some v:=by
  unfold Fs.dev;rw[if_pos (by omega),hdev,show((k:Int)+1-1).toNat=k by omega,List.getElem?_eq_getElem hk,hv]
 obtain⟨n,hn⟩:∃n,S.ds.length=n:=⟨_,rfl⟩;have hkn:k<n:=by omega
 rw[hn] at pc hle;have pB:(rt==0)=false:=by simpa using hr
 have hT:=fun w=>Cx v.b v.n v.mb v.mn (cR a.kind a.data.size) 1 w;unfold Hy at hT;have HB:=Qf (fun w=>wV a.kind a.data.size (by omega) w);have yP:=Qf (fun(vR:kE v.b v.n v.mb v.mn (cR a.kind a.data.size) 1≠0)=>xx hrn sG vR);have p':=Qf (fun(vR:kE v.b v.n v.mb v.mn (cR a.kind a.data.size) 1=0)=>Bu hrn sG vR);have HQ:=Qf (fun(vR:kE v.b v.n v.mb v.mn (cR a.kind a.data.size) 1=0)=>show ED v.b v.n v.mb v.mn (cR a.kind a.data.size) 1=v.b+cR a.kind a.data.size∧EC v.b v.n v.mb v.mn (cR a.kind a.data.size) 1=v.n+1 by unfold ED EC;rw[if_pos vR,if_pos vR];exact⟨rfl,rfl⟩);have mL:=Qf h;have lQ:=Qf he;have lR:=Qf hdv;have HV:=Qf (show∃hk:k<S.ds.length,S.ds[k]=v from⟨hk,hv⟩);have Gw:=Qf hdev;unfold An.v;rw[hdev] at HR⊢;have B1:=aw.new w #[.int .i64 a.no,.int .i64 ((k:Int)+1),.int .i64 a.kind,.int .i64 a.mode,.int .i64 a.uid,.int .i64 a.gid,.int .i64 a.mtime,.int .i64 a.ctime,.int .i64 a.ao,.int .i64 a.up,.string a.data,.slice ea el ec] 149;have av:=(Qj w).alloc (aa _) (.cells #[.int .i64 a.no,.int .i64 ((k:Int)+1),.int .i64 a.kind,.int .i64 a.mode,.int .i64 a.uid,.int .i64 a.gid,.int .i64 a.mtime,.int .i64 a.ctime,.int .i64 a.ao,.int .i64 a.up,.string a.data,.slice ea el ec] 149);clear h hr hrn hrt hn hv hc hdv sG he hk hdev c0 c1;generalize cR a.kind a.data.size=bk at hT HB yP p' HQ;generalize kE v.b v.n v.mb v.mn bk 1=e0 at hT yP p' HQ;generalize ED v.b v.n v.mb v.mn bk 1=qb at hT HQ;generalize EC v.b v.n v.mb v.mn bk 1=qn at hT HQ;have HT:=Qf hT;clear hT;go_enter Tryz.func195,Tryz.ntmps195;go_wp2_with fail;refine HR.o.mono ?_;rintro e w1 ⟨rfl,rfl⟩;generalize w.alloc _=W at B1 av⊢;obtain⟨Bn,F6⟩:∃Bn,w.heap.size=Bn:=⟨_,rfl⟩;rw[F6] at B1⊢;obtain⟨bc,bf,bz⟩:=B1.facts;rw[←av.cell (p:=⟨g,k*6+2,none⟩) hgl] at c2;rw[←av.cell (p:=⟨g,k*6+3,none⟩) hgl] at c3;rw[←av.cell (p:=⟨g,k*6+4,none⟩) hgl] at c4;rw[←av.cell (p:=⟨g,k*6+5,none⟩) hgl] at c5;have pc1:W.cell? ⟨pf,1,none⟩=_:=(av.cell (p:=⟨pf,1,none⟩) pz).trans (pc 1);have I0:g<W.heap.size:=Nat.lt_of_lt_of_le hgl av.size;have hpW:pf<W.heap.size:=Nat.lt_of_lt_of_le pz av.size;have HW:=Qf av;have dO:=Qf B1;have HBn:=Qf F6;clear pc av B1 F6;have mixed:Tryz.prog.follows .mixedOrders=true:=by kernel_rfl
 go_upto_region 3 with(fail)
 go_cut [6,7] (fun t6 t7 wx=>∃Bq:Nat,t6=.pointer (some ⟨Bq,0,none⟩)∧t7=.int .i64 e0∧aw wx Bq #[.int .i64 qb,.int .i64 qn,.int .i64 v.mb,.int .i64 v.mn] 192∧Qi W wx)
 case first=>
  go_wp2_with fail;have sD:IntKind.i64.wrap ((k:Int)+1-1)=(k:Int):=by rw[IntKind.wrap_i64];omega
  have yX:IntKind.i64.wrap (k:Int)=(k:Int):=by rw[IntKind.wrap_i64];omega
  have bK:(k:Int)<(n:Int):=by omega
  have cZ:(0:Int)≤(k:Int):=by omega
  have hzz:W.heap.size≤W.heap.size:=aa _
  go_region_held3 (fun w'=>(∀b o,b<W.heap.size→w'.cell? ⟨b,o,none⟩=W.cell? ⟨b,o,none⟩)∧Qi W w') (first|with_reducible assumption|with_reducible exact dJ _|with_reducible exact cV _|with_reducible exact dg (by assumption) (by assumption)|with_reducible exact cO (by assumption) _|with_reducible exact cL (by assumption) _|with_reducible exact cq (by assumption) (by assumption)|with_reducible exact dI (by assumption) (by assumption))
   (first|(go_at_call 204;((with_reducible refine(HB.o _).mono ?_);rintro e w4 ⟨rfl,rfl⟩))|(go_at_call 203;((with_reducible refine(HT.o _).mono ?_);rintro e w4 ⟨rfl,bU⟩;have hz5:=ae (And.right ‹(∀b o,b<W.heap.size→_)∧Qi W _›).size bU.size;try (have hbq:=jF bU;obtain⟨bqc,bqf,bqz⟩:=hbq.facts))))
  all_goals
   obtain⟨-,nt⟩:=‹_∧Qi W _›;have Ea:=Qf nt
   try (have Eb:=Qf hbq)
   clear nt;go_wp2_with fail;go_meet;exact⟨_,rfl,rfl,by first|exact Eb.o.cM|exact aw.new _ _ _,Ea.o⟩
 case rest=>
  obtain⟨Bq,rfl,rfl,hQ,hS⟩:=hcut;have HS:=Qf hS;have DW:=Qf (show Qi w wc from HW.o.trans (hS.mono HW.o.size));by_cases h0:e0=0
  ·obtain⟨hk,hv⟩:=HV.o;obtain⟨rfl,rfl⟩:=HQ.o h0;have jR:=Qf (p'.o h0);subst h0;obtain⟨qc,qf,qz⟩:=hQ.facts;have pcw:wc.cell? ⟨pf,1,none⟩=_:=(hS.cell (p:=⟨pf,1,none⟩) hpW).trans pc1;have bcw:wc.cell? ⟨Bn,1,none⟩=_:=(hS.cell (p:=⟨Bn,1,none⟩) bz).trans (bc 1);rw[←hS.cell (p:=⟨g,k*6+2,none⟩) I0] at c2;rw[←hS.cell (p:=⟨g,k*6+3,none⟩) I0] at c3;rw[←hS.cell (p:=⟨g,k*6+4,none⟩) I0] at c4;rw[←hS.cell (p:=⟨g,k*6+5,none⟩) I0] at c5;have hfw:∀i,wc.frozen? ⟨g,i,none⟩=false:=fun i=>(DW.o.frozen (p:=⟨g,i,none⟩) hgl).trans (hfg i);have Kf:=mL.o.ak DW.o;obtain⟨OQ,MS⟩:=Kf.KN lR.o hk v hv (v.b+bk) (v.n+1);have xU:aR (R.F pf) (R.F pf) wc _:=aR.cQ MS;have HEq:=Qf ((lQ.o.ak DW.o).rf Kf xU);have Ph:=(dO.o.ak hS).mod MS (fun hk=>absurd (mL.o.lt hk) (by rw[HBn.o];omega));have L2:=Qf OQ;have ji:=Qf ((aR.ar DW.o).trans xU);clear Kf OQ MS xU pc1 hfg;go_wp2_with fail;have mixed:Tryz.prog.follows .mixedOrders=true:=by kernel_rfl
   have sD:IntKind.i64.wrap ((k:Int)+1-1)=(k:Int):=by rw[IntKind.wrap_i64];omega
   have yX:IntKind.i64.wrap (k:Int)=(k:Int):=by rw[IntKind.wrap_i64];omega
   have bK:(k:Int)<(n:Int):=by omega
   have cZ:(0:Int)≤(k:Int):=by omega
   refine aG 10 mixed (by kernel_rfl) (show bL _ from by repeat (first|exact cG|refine cF ?_|refine bR ?_|refine cd ?_)) ?_;simp only[List.take_succ_cons,List.take_zero,List.drop_succ_cons,List.drop_zero]
   repeat still_step
   refine wpStill_nil ?_;go_upto_region 7 with fail;generalize (((wc.setCell ⟨g,k*6+2,none⟩ (.int .i64 (v.b+bk))).setCell ⟨g,k*6+3,none⟩ (.int .i64 (v.n+1))).setCell ⟨g,k*6+4,none⟩ (.int .i64 v.mb)).setCell ⟨g,k*6+5,none⟩ (.int .i64 v.mn)=X at HEq Ph L2 ji⊢;obtain⟨xc,-,xz⟩:=L2.o.aZ.facts;obtain⟨bc,bf,bz⟩:=Ph.facts;clear c2 c3 c4 c5 hfw pcw bcw qc qf qz;have xS:Qi X X.drew:=(Below.refl _ X).drew;have hAdd:=wW (L2.o.ak xS) (HEq.o.ak xS) eR pV (by omega);unfold An.v at hAdd;rw[Gw.o] at hAdd;have HAdd:=Qf hAdd;clear hAdd;go_wp2_with fail;refine HAdd.o.mono ?_;rintro e w5 ⟨rfl,R',eh,dq,ga,-⟩;have Nn:=Qf (ag eh (ag dq ga));clear eh dq ga;go_wp2_with fail;go_ret2;rw[jR.o];refine⟨rfl,R',?_,(ji.o.trans (aR.ar xS)).trans Nn.o.2.1,Nn.o.2.2⟩;rw[Gw.o];exact Nn.o.1
  ·have jR:=Qf (yP.o h0);have nV:(e0 != 0)=true:=by simpa using h0
   clear h0;go_wp2_with fail;go_ret2;rw[jR.o];exact⟨rfl,R,mL.o.ak DW.o,aR.ar DW.o,Rf.cy.refl R⟩
theorem CE(h:aN w pf R S){N:Nat}(hk:ax S N)(hN:N≤1000000)(hgl:S.ns.length≤1000000)(a:An)(ea:Option Addr)(el ec:Nat)(he:aA w ea el ec a.ay)(hs:a.data.size≤1048576) :
  Calls Tryz.prog 195 #[.pointer (some ⟨pf,0,none⟩),a.v ea el ec] w fun e w'=>e=.returned (.tuple #[.int .i64 (S.make a).2.1,.int .i64 (S.make a).2.2])∧∃R',aN w' pf R' (S.make a).1∧aR (R.F pf) (R'.F pf) w w'∧Rf.cy R R':=by
 by_cases hr:S.root a.dev=0
 ·refine(zO h a ea el ec hr).mono ?_;rintro e w1 ⟨rfl,hb⟩;rw[tK hr];exact⟨rfl,R,h.ak hb,aR.ar hb,Rf.cy.refl R⟩
 ·have hd:1≤a.dev∧a.dev≤S.ds.length:=by
   by_cases hd:1≤a.dev∧a.dev≤S.ds.length
   ·exact hd
   ·exact absurd (lu hd) hr
  exact CD h (k:=(a.dev-1).toNat) (by omega) a ea el ec he (by omega) hr hs hk.l0 (Int.le_trans hk.lN (by omega)) hgl
end
end
section
open Go.RowKit
theorem EV(m:Int)(n:Nat)(hn:n≤100)(w:World) :
  Calls Tryz.prog 202 #[.int .i64 m,.int .i64 n] w fun e w'=>(∃b,e=.returned (.bool b))∧w'=w:=by
 go_enter Tryz.func202,Tryz.ntmps202;go_wp2_with fail
 go_loopw [0,5] (fun t0 t5 wr=>∃(x:Int) (k:Nat),k≤n∧t0=.int .i64 x∧t5=.int .i64 k∧wr=w) (fun _ t5 _=>n-(intOf t5).toNat)
 case atStart=>exact⟨m,0,Nat.zero_le _,rfl,rfl,rfl⟩
 case round=>
  obtain⟨x,k,hk,rfl,rfl,rfl⟩:=hrel;by_cases hlt:k<n
  ·go_wp2_with fail;go_roundw
   case measure=>simp[intOf];omega
   case rel=>exact⟨_,k+1,by omega,rfl,by go_num,by trivial⟩
  ·obtain rfl:k=n:=by omega
   go_wp2_with fail;go_ret;exact⟨⟨_,rfl⟩,rfl⟩
theorem KQ(uid gid mode want:Int)(w:World) :
  Calls Tryz.prog 194 #[.agg #[.int .i64 0,.int .i64 0],.int .i64 uid,.int .i64 gid,.int .i64 mode,.int .i64 want] w fun e w'=>e=.returned (.bool true)∧Qi w w':=by
 have mO:=Qf (fun m (n:Nat) hn w=>EV m n hn w);have hB:=aw.new w #[.int .i64 0,.int .i64 0] 64;have bP:=Qf (aq (Qj w) (.cells #[.int .i64 0,.int .i64 0] 64));obtain⟨qc,qf,qz⟩:=hB.facts;clear hB;have key:∀x:Int,(0==x)=true∨(0==x)=false:=fun x=>by cases (0==x)<;>simp
 go_enter Tryz.func194,Tryz.ntmps194;go_upto_region 2 with fail;generalize w.alloc _=X at bP qc qf qz⊢;rcases key uid with h1|h1
 ·go_wp2_with fail
  go_loopw [12] (fun t12 wr=>∃k:Nat,k≤3∧t12=.int .i64 k∧wr=X) (fun t12 _=>3-(intOf t12).toNat)
  case atStart=>exact⟨0,Nat.zero_le _,rfl,rfl⟩
  case round=>
   obtain⟨k,hk,rfl,rfl⟩:=hrel;by_cases hlt:k<3
   ·have gm:(k:Int)<3:=by omega
    go_wp2_with fail;refine(mO.o _ k (by omega) _).mono ?_;rintro e w2 ⟨⟨b,rfl⟩,rfl⟩
    cases b with
    |false=>
     go_wp2_with fail;go_roundw
     case measure=>simp[intOf];omega
     case rel=>exact⟨k+1,by omega,by go_num,by trivial⟩
    |true=>
     have hfk:IntKind.i64.wrap ((6:Int)+(k:Int))=(6:Int)+(k:Int):=by rw[IntKind.wrap_i64];omega
     go_wp2_with fail;have h2:=mO.o mode (6+k) (by omega);rw[show((6+k:Nat):Int)=(6:Int)+(k:Int) from by omega] at h2;refine(h2 _).mono ?_;rintro e w3 ⟨⟨b2,rfl⟩,rfl⟩
     cases b2 with
     |false=>
      go_wp2_with fail;go_ret;exact⟨rfl,bP.o⟩
     |true=>
      go_wp2_with fail;go_roundw
      case measure=>simp[intOf];omega
      case rel=>exact⟨k+1,by omega,by go_num,by trivial⟩
   ·obtain rfl:k=3:=by omega
    go_wp2_with fail;go_ret;exact⟨rfl,bP.o⟩
 ·rcases key gid with h2|h2
  ·go_wp2_with fail
   go_loopw [12] (fun t12 wr=>∃k:Nat,k≤3∧t12=.int .i64 k∧wr=X) (fun t12 _=>3-(intOf t12).toNat)
   case atStart=>exact⟨0,Nat.zero_le _,rfl,rfl⟩
   case round=>
    obtain⟨k,hk,rfl,rfl⟩:=hrel;by_cases hlt:k<3
    ·have gm:(k:Int)<3:=by omega
     go_wp2_with fail;refine(mO.o _ k (by omega) _).mono ?_;rintro e w2 ⟨⟨b,rfl⟩,rfl⟩
     cases b with
     |false=>
      go_wp2_with fail;go_roundw
      case measure=>simp[intOf];omega
      case rel=>exact⟨k+1,by omega,by go_num,by trivial⟩
     |true=>
      have hfk:IntKind.i64.wrap ((3:Int)+(k:Int))=(3:Int)+(k:Int):=by rw[IntKind.wrap_i64];omega
      go_wp2_with fail;have h2:=mO.o mode (3+k) (by omega);rw[show((3+k:Nat):Int)=(3:Int)+(k:Int) from by omega] at h2;refine(h2 _).mono ?_;rintro e w3 ⟨⟨b2,rfl⟩,rfl⟩
      cases b2 with
      |false=>
       go_wp2_with fail;go_ret;exact⟨rfl,bP.o⟩
      |true=>
       go_wp2_with fail;go_roundw
       case measure=>simp[intOf];omega
       case rel=>exact⟨k+1,by omega,by go_num,by trivial⟩
    ·obtain rfl:k=3:=by omega
     go_wp2_with fail;go_ret;exact⟨rfl,bP.o⟩
  ·go_wp2_with fail
   go_loopw [12] (fun t12 wr=>∃k:Nat,k≤3∧t12=.int .i64 k∧wr=X) (fun t12 _=>3-(intOf t12).toNat)
   case atStart=>exact⟨0,Nat.zero_le _,rfl,rfl⟩
   case round=>
    obtain⟨k,hk,rfl,rfl⟩:=hrel;by_cases hlt:k<3
    ·have gm:(k:Int)<3:=by omega
     go_wp2_with fail;refine(mO.o _ k (by omega) _).mono ?_;rintro e w2 ⟨⟨b,rfl⟩,rfl⟩
     cases b with
     |false=>
      go_wp2_with fail;go_roundw
      case measure=>simp[intOf];omega
      case rel=>exact⟨k+1,by omega,by go_num,by trivial⟩
     |true=>
      have hfk:IntKind.i64.wrap ((0:Int)+(k:Int))=(0:Int)+(k:Int):=by rw[IntKind.wrap_i64];omega
      go_wp2_with fail;have h2:=mO.o mode (0+k) (by omega);rw[show((0+k:Nat):Int)=(0:Int)+(k:Int) from by omega] at h2;refine(mO.o mode k (by omega) _).mono ?_;rintro e w3 ⟨⟨b2,rfl⟩,rfl⟩
      cases b2 with
      |false=>
       go_wp2_with fail;go_ret;exact⟨rfl,bP.o⟩
      |true=>
       go_wp2_with fail;go_roundw
       case measure=>simp[intOf];omega
       case rel=>exact⟨k+1,by omega,by go_num,by trivial⟩
    ·obtain rfl:k=3:=by omega
     go_wp2_with fail;go_ret;exact⟨rfl,bP.o⟩
theorem wQ(a:An)(ea:Option Addr)(el ec:Nat)(w:World) :
  Calls Tryz.prog 181 #[.agg #[.int .i64 0,.int .i64 0],a.v ea el ec] w fun e w'=>e=.returned (.bool true)∧Qi w w':=by
 unfold An.v;go_enter Tryz.func181,Tryz.ntmps181
 go_wp2
 go_ret;exact⟨rfl,by go_grown⟩
theorem zP(u g:Int)(w:World) :
  Calls Tryz.prog 139 #[.agg #[.int .i64 u,.int .i64 g]] w fun e w'=>e=.returned (.bool (GV u g))∧Qi w w':=by
 have HI:=Qf (show GV u g=decide (0≤u∧u≤2147483648∧0≤g∧g≤2147483648) from rfl);generalize GV u g=r at HI⊢;by_cases h1:0≤u
 ·by_cases h2:u≤2147483648
  ·by_cases h3:0≤g
   ·by_cases h4:g≤2147483648
    ·go_enter Tryz.func139,Tryz.ntmps139
     go_wp2
     go_ret;exact⟨dk (by rw[HI.o];exact(decide_eq_true (by omega)).symm),by go_grown⟩
    ·go_enter Tryz.func139,Tryz.ntmps139
     go_wp2
     go_ret;exact⟨dk (by rw[HI.o];exact(decide_eq_false (by omega)).symm),by go_grown⟩
   ·go_enter Tryz.func139,Tryz.ntmps139
    go_wp2
    go_ret;exact⟨dk (by rw[HI.o];exact(decide_eq_false (by omega)).symm),by go_grown⟩
  ·go_enter Tryz.func139,Tryz.ntmps139
   go_wp2
   go_ret;exact⟨dk (by rw[HI.o];exact(decide_eq_false (by omega)).symm),by go_grown⟩
 ·go_enter Tryz.func139,Tryz.ntmps139
  go_wp2
  go_ret;exact⟨dk (by rw[HI.o];exact(decide_eq_false (by omega)).symm),by go_grown⟩
theorem zR(s:ByteArray)(w:World)(hs:s.size≤100000) :
  Calls Tryz.prog 196 #[.string s] w fun e w'=>e=.returned (.int .i64 (cx s))∧w'=w:=by
 have hl:s.toList=s.data.toList:=bG s;have HC:=Qf (show cx s=if s.toList=[]∨s.toList=[46]∨s.toList=[46,46]∨hasB s 47=true∨hasB s 0=true then 1 else if 255<s.size then 13 else 0 by
  unfold cx hasB;rw[hl];simp only[decide_eq_true_eq])
 have GR:=Qf (fun w=>pW s 47 w (by omega));have H0:=Qf (fun w=>pW s 0 w (by omega));generalize hasB s 47=b47 at HC GR;generalize hasB s 0=b0 at HC H0;clear hl;by_cases h1:s.toList=[]
 ·have HE:=Qf (HC.o.trans (if_pos (.inl h1)));go_enter Tryz.func196,Tryz.ntmps196;go_wp2_with fail;go_ret;exact⟨by rw[HE.o];rfl,rfl⟩
 ·have oC:s.toList.isEmpty=false:=by simpa using h1
  by_cases h2:s.toList=[46]
  ·have HE:=Qf (HC.o.trans (if_pos (.inr (.inl h2))));go_enter Tryz.func196,Tryz.ntmps196;go_wp2_with fail;go_ret;exact⟨by rw[HE.o];rfl,rfl⟩
  ·have kq:(s.toList==[46])=false:=by simpa using h2
   by_cases h3:s.toList=[46,46]
   ·have HE:=Qf (HC.o.trans (if_pos (.inr (.inr (.inl h3)))));go_enter Tryz.func196,Tryz.ntmps196;go_wp2_with fail;go_ret;exact⟨by rw[HE.o];rfl,rfl⟩
   ·have rH:(s.toList==[46,46])=false:=by simpa using h3
    cases b47 with
    |true=>
     have HE:=Qf (HC.o.trans (if_pos (.inr (.inr (.inr (.inl rfl))))));clear h1 h2 h3;go_enter Tryz.func196,Tryz.ntmps196;go_wp2_with fail;refine(GR.o _).mono ?_;rintro e w1 ⟨rfl,rfl⟩;go_wp2_with fail;go_ret;exact⟨by rw[HE.o];rfl,rfl⟩
    |false=>
     cases b0 with
     |true=>
      have HE:=Qf (HC.o.trans (if_pos (.inr (.inr (.inr (.inr rfl))))));clear h1 h2 h3;go_enter Tryz.func196,Tryz.ntmps196;go_wp2_with fail;refine(GR.o _).mono ?_;rintro e w1 ⟨rfl,rfl⟩;go_wp2_with fail;refine(H0.o _).mono ?_;rintro e w1 ⟨rfl,rfl⟩;go_wp2_with fail;go_ret;exact⟨by rw[HE.o];rfl,rfl⟩
     |false=>
      have HE:=Qf (HC.o.trans (if_neg (by simp[h1,h2,h3])));clear h1 h2 h3;by_cases h4:255<s.size
      ·have bH:=Qf (HE.o.trans (if_pos h4));have h4':(255:Int)<(s.size:Int):=by omega
       go_enter Tryz.func196,Tryz.ntmps196;go_wp2_with fail;refine(GR.o _).mono ?_;rintro e w1 ⟨rfl,rfl⟩;go_wp2_with fail;refine(H0.o _).mono ?_;rintro e w1 ⟨rfl,rfl⟩;go_wp2_with fail;go_ret;exact⟨by rw[bH.o];rfl,rfl⟩
      ·have bH:=Qf (HE.o.trans (if_neg h4));have h4':¬(255:Int)<(s.size:Int):=by omega
       go_enter Tryz.func196,Tryz.ntmps196;go_wp2_with fail;refine(GR.o _).mono ?_;rintro e w1 ⟨rfl,rfl⟩;go_wp2_with fail;refine(H0.o _).mono ?_;rintro e w1 ⟨rfl,rfl⟩;go_wp2_with fail;go_ret;exact⟨by rw[bH.o];rfl,rfl⟩
end
end Go.Proofs.YtabbjaomlmnnhaaGreat
