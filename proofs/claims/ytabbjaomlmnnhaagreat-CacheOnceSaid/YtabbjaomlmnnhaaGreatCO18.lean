import Derived.Test.YtabbjaomlmnnhaaGreatCO17
import Derived.Test.YtabbjaomlmnnhaaGreatCO11
import Derived.Test.YtabbjaomlmnnhaaGreatCO12
import Derived.Test.YtabbjaomlmnnhaaGreatCO3
import Derived.Test.YtabbjaomlmnnhaaGreatCO13
import Derived.Test.YtabbjaomlmnnhaaGreatCO10
import Derived.Test.YtabbjaomlmnnhaaGreatCO16
import Derived.Test.YtabbjaomlmnnhaaGreatCO8
set_option linter.unusedVariables false
set_option linter.unusedSimpArgs false
set_option maxRecDepth 100000
set_option maxHeartbeats 16000000
namespace Go.Proofs.YtabbjaomlmnnhaaGreat
open Go.Value renaming int→UE,string→UF,slice→UG,pointer→UH,agg→UJ,tuple→UK
open Go.IntKind renaming i64→UL
section
open Go.RowKit
def nF(ms:List Mt)(is:List It)(n:Int):Bool:=decide (ms.length≤10∧(is.length:Int)≤n∧(∀m∈ms,m.path.size≤300)∧∀x∈is,x.path.size≤300∧x.data.size≤1500)
theorem A0{ms:List Mt}{is:List It}{n:Int}(h:nF ms is n=true):ms.length≤10∧(is.length:Int)≤n∧(∀m∈ms,m.path.size≤300)∧∀x∈is,x.path.size≤300∧x.data.size≤1500:=of_decide_eq_true h
theorem Gp(w:World){ma:Option Addr}{mn mc:Nat}{ia:Option Addr}{il ic:Nat}{ms:List Mt}{is:List It}(h:nh w ma mn mc ia il ic ms is)(n:Int) :
  Calls Tryz.prog 22 #[UJ #[UG ma mn mc,UG ia il ic],UE UL n] w fun e w'=>e=.returned (.bool (nF ms is n))∧UA w w':=by
 have hln:=h.m.1;have hli:=h.i.1;subst hln hli;obtain⟨hB,hb⟩:=Uz w #[UG ma ms.length mc,UG ia is.length ic] 25;have HS:=Ux (h.an ((Below.refl _ w).alloc (aa _) (.cells #[UG ma ms.length mc,UG ia is.length ic] 25)));have HF:=Ux (show nF ms is n=decide (ms.length≤10∧(is.length:Int)≤n∧(∀m∈ms,m.path.size≤300)∧∀x∈is,x.path.size≤300∧x.data.size≤1500) from rfl);have hmc:=h.m.2.1;have hmx:=h.m.2.2.1;have hic:=h.i.2.1;have hix:=h.i.2.2.1;generalize nF ms is n=fb at HF⊢;clear h;go_enter Tryz.func22,Tryz.ntmps22;go_upto_region 1 with fail;generalize w.alloc _=W at hB hb HS⊢;have HB:=Ux hb;obtain⟨bc,bf,bz⟩:=hB.facts;clear hB hb;by_cases h1:10<ms.length
 ·have Q0:(10:Int)<(ms.length:Int):=by omega
  have HE:=Ux (show fb=false by rw[HF.o,decide_eq_false_iff_not];rintro⟨h,-⟩;omega);go_wp2_with fail;go_ret;rw[HE.o];exact⟨rfl,HB.o⟩
 have Q0:¬(10:Int)<(ms.length:Int):=by omega
 by_cases h2:n<(is.length:Int)
 ·have HE:=Ux (show fb=false by rw[HF.o,decide_eq_false_iff_not];rintro⟨-,h,-⟩;omega);go_wp2_with fail;go_ret;rw[HE.o];exact⟨rfl,HB.o⟩
 go_wp2_with fail
 go_loop [5] (fun t5=>∃k:Nat,k≤ms.length∧t5=UE UL k∧∀j (hj:j<ms.length),j<k→ms[j].path.size≤300) (fun t5=>ms.length-(intOf t5).toNat)
 case atStart=>exact⟨0,Nat.zero_le _,rfl,fun j _ h=>absurd h (Nat.not_lt_zero _)⟩
 case round=>
  obtain⟨k,hk,rfl,hbef⟩:=hrel;have NJ:=Ux hbef;clear hbef;by_cases hlt:k<ms.length
  ·obtain⟨b,off,rfl,hbl⟩:=eR HS.o.m (by omega);obtain⟨c0,-,-⟩:=l9 HS.o.m k hlt;have HM:=Ux (List.getElem_mem hlt);have kS:=Ux (show∀j (hj:j<ms.length),j=k→ms[j]=ms[k] from fun j hj e=>by subst e;rfl);generalize ms[k]=m at c0 HM kS;by_cases h3:300<m.path.size
   ·have PW:(300:Int)<(m.path.size:Int):=by omega
    have HE:=Ux (show fb=false by rw[HF.o,decide_eq_false_iff_not];rintro⟨-,-,h,-⟩;have:=h m HM.o;omega);go_wp2_with fail;go_ret;rw[HE.o];exact⟨rfl,HB.o⟩
   ·have PW:¬(300:Int)<(m.path.size:Int):=by omega
    go_wp2_with fail
    go_round
    case rel=>exact⟨k+1,by omega,by go_num,fun j hj Sx=>by
     by_cases hjk:j=k
     ·rw[kS.o j hj hjk];omega
     ·exact NJ.o j hj (by omega)⟩
    case measure=>simp[intOf];omega
  ·obtain rfl:k=ms.length:=by omega
   go_wp2_with fail
   go_loop [6] (fun t6=>∃k:Nat,k≤is.length∧t6=UE UL k∧∀j (hj:j<is.length),j<k→is[j].path.size≤300∧is[j].data.size≤1500) (fun t6=>is.length-(intOf t6).toNat)
   case atStart=>exact⟨0,Nat.zero_le _,rfl,fun j _ h=>absurd h (Nat.not_lt_zero _)⟩
   case round=>
    obtain⟨k,hk,rfl,hbef⟩:=hrel;have HBi:=Ux hbef;clear hbef;by_cases hlt:k<is.length
    ·obtain⟨b,off,rfl,hbl⟩:=eR HS.o.i (by omega);obtain⟨c0,-,-,-,-,-,c6⟩:=mj HS.o.i k hlt;have HM:=Ux (List.getElem_mem hlt);have kS:=Ux (show∀j (hj:j<is.length),j=k→is[j]=is[k] from fun j hj e=>by subst e;rfl);generalize is[k]=it at c0 c6 HM kS;by_cases h3:300<it.path.size
     ·have PW:(300:Int)<(it.path.size:Int):=by omega
      have HE:=Ux (show fb=false by rw[HF.o,decide_eq_false_iff_not];rintro⟨-,-,-,h⟩;have:=(h it HM.o).1;omega);go_wp2_with fail;go_ret;rw[HE.o];exact⟨rfl,HB.o⟩
     ·have PW:¬(300:Int)<(it.path.size:Int):=by omega
      by_cases h4:1500<it.data.size
      ·have h4a:(1500:Int)<(it.data.size:Int):=by omega
       have HE:=Ux (show fb=false by rw[HF.o,decide_eq_false_iff_not];rintro⟨-,-,-,h⟩;have:=(h it HM.o).2;omega);go_wp2_with fail;go_ret;rw[HE.o];exact⟨rfl,HB.o⟩
      ·have h4a:¬(1500:Int)<(it.data.size:Int):=by omega
       go_wp2_with fail
       go_round
       case rel=>exact⟨k+1,by omega,by go_num,fun j hj Sx=>by
        by_cases hjk:j=k
        ·rw[kS.o j hj hjk];omega
        ·exact HBi.o j hj (by omega)⟩
       case measure=>simp[intOf];omega
    ·obtain rfl:k=is.length:=by omega
     have HE:=Ux (show fb=true by
      rw[HF.o,decide_eq_true_eq];refine⟨by omega,by omega,fun m hm=>?_,fun x hx=>?_⟩
      ·obtain⟨j,hj,rfl⟩:=List.mem_iff_getElem.1 hm;exact NJ.o j hj hj
      ·obtain⟨j,hj,rfl⟩:=List.mem_iff_getElem.1 hx;exact HBi.o j hj hj)
     go_wp2_with fail;go_ret;rw[HE.o];exact⟨rfl,HB.o⟩
end
section
open Go.RowKit
theorem jI:gS.name.size≤100000:=by show(0:Nat)≤_;omega
theorem l4{S:Fs}(hS:∀k a,S.get k=some a→a.kind=3→a.data.size≤100000)(c:Cr)(f:Bool)(k:Option (Int→Bool→List (List UInt8)→Fd×Int))
  (hk:∀g,k=some g→∀at' must l,(∀p∈l,p.length≤100000)→(g at' must l).1.name.size≤100000) :
  ∀(l:List (List UInt8)) (at':Int) (must:Bool),(∀p∈l,p.length≤100000)→(S.cM c f k l at' must).1.name.size≤100000
 | [],at',must,_=>by rw[Fs.cM];show(0:Nat)≤_;omega
 |p::l,at',must,hl=>by
  have hp:(str p).size≤100000:=by rw[dn];exact hl p (by simp)
  have hl':∀q∈l,q.length≤100000:=fun q hq=>hl q (by simp[hq]);have ih:=l4 hS c f k hk l;rw[Fs.cM]
  split
  ·exact jI
  ·split
   ·exact ih _ _ hl'
   ·split
    ·split
     ·exact hp
     ·exact jI
    ·rename_i n hn
     split
     ·rename_i Pu
      cases hkk:k with
      |none=>exact jI
      |some g=>
       simp only
       split
       ·exact jI
       ·refine hk g hkk _ _ _ (fun q hq=>?_);rcases List.mem_append.1 hq with hq|hq
        ·have h1:=lj _ q hq;have h2:n.data.data.toList.length=n.data.size:=Array.length_toList;have h3:=hS _ n hn Pu.1;omega
        ·exact hl' q hq
     ·split
      ·exact jI
      ·split
       ·exact hp
       ·exact ih _ _ hl'
theorem qI{S:Fs}(hS:∀k a,S.get k=some a→a.kind=3→a.data.size≤100000)(c:Cr)(f:Bool):∀(h:Nat) (at':Int) (must:Bool) (l:List (List UInt8)),(∀p∈l,p.length≤100000)→(S.ft c f h at' must l).1.name.size≤100000
 |0,at',must,l,hl=>l4 hS c f none (fun g h=>by cases h) l at' must hl
 |h+1,at',must,l,hl=>l4 hS c f (some (S.ft c f h)) (fun g hg at' must l hl=>by injection hg with hg;subst hg;exact qI hS c f h at' must l hl) l at' must hl
theorem sQ{S:Fs}{N:Nat}(hk:ay S N)(c:Cr)(s:ByteArray)(hs:s.size≤100000)(f:Bool):(S.path c s f).1.name.size≤100000:=by
 unfold Fs.path
 split
 ·exact jI
 ·refine qI (fun k a h h3=>ae ((hk.get h).1.sy h3) (by omega)) c f 8 1 _ _ (fun p hp=>?_);have h1:=lj _ p hp;have h2:s.data.toList.length=s.size:=Array.length_toList;omega
end
section
open Go.RowKit
theorem uQ(w:World){ma:Option Addr}{mn mc:Nat}{ia:Option Addr}{il ic:Nat}{ms:List Mt}{is:List It}(h:nh w ma mn mc ia il ic ms is) :
  Calls Tryz.prog 91 #[UJ #[UG ma mn mc,UG ia il ic]] w fun e w'=>e=.returned (UK #[UE UL (be ms).1,UE UL (be ms).2])∧UA w w':=by
 have HS:=Ux h;have hln:=h.m.1;have hmc:=h.m.2.1;have hmx:=h.m.2.2.1;have hbx:=ao (UB w) (.cells #[UG ma mn mc,UG ia il ic] 25);have hsb:=ax.new w #[UG ma mn mc,UG ia il ic] 25;clear h;go_enter Tryz.func91,Tryz.ntmps91;go_upto_region 1 with fail;generalize w.alloc _=X0 at hbx hsb⊢;have HX0:=Ux hbx;have HSb:=Ux hsb;clear hbx hsb;go_wp2_with fail
 go_loopw [4] (fun t4 wr=>∃k:Nat,k≤ms.length∧t4=UE UL k∧be ms=be (ms.drop k)∧UA X0 wr) (fun t4 _=>ms.length-(intOf t4).toNat)
 case atStart=>exact⟨0,Nat.zero_le _,rfl,rfl,Below.refl _ _⟩
 case round=>
  obtain⟨k,hk,rfl,hE,hb⟩:=hrel;have HE:=Ux hE;have HB:=Ux (HX0.o.trans (hb.mono HX0.o.size));obtain⟨bc,bf,bz⟩:=(HSb.o.an hb).facts;clear hE;by_cases hlt:k<ms.length
  ·obtain⟨b,off,rfl,hbl⟩:=eR HS.o.m (by omega);obtain⟨c0,c1,c2⟩:=l9 (HS.o.m.below HB.o (aa _)) k hlt;have HQ:=Ux (oS hlt);generalize ms[k]=m at c0 c1 c2 HQ;obtain⟨mp,mb,mk⟩:=m;have hX:=ax.new wr #[UF mp,UE UL mb,UE UL mk] 125;have aJ:=ao hb (.cells #[UF mp,UE UL mb,UE UL mk] 125);clear hb;go_upto_region 5 with fail;generalize wr.alloc _=X at hX aJ⊢;have HX:=Ux hX;have Uo:=Ux aJ;have bC:=Ux (HX0.o.trans (aJ.mono HX0.o.size));obtain⟨xc,xf,xz⟩:=hX.facts;clear hX aJ c0 c1 c2 bc bf bz;by_cases h1:mp=kv
   ·have o8:mp.toList=[47]:=by rw[h1,cd];rfl
    have HP:=Ux h1;clear h1
    cases hlm:ig mb mk with
    |false=>
     have HN:=Ux (HE.o.trans (HQ.o.trans (if_neg (fun h=>by have h9:ig mb mk=true:=h.2;rw[hlm] at h9;cases h9))));have qD:=Ux (fun w=>lp mb mk w);rw[hlm] at qD;clear hlm;go_wp2_with fail;refine(qD.o _).mono ?_;rintro e w3 ⟨rfl,rfl⟩;go_wp2_with fail;go_roundw
     case rel=>exact⟨k+1,by omega,by go_num,HN.o,Uo.o⟩
     case measure=>simp[intOf];omega
    |true=>
     have HN:=Ux (HE.o.trans (HQ.o.trans (if_pos ⟨HP.o,hlm⟩)));have qD:=Ux (fun w=>lp mb mk w);rw[hlm] at qD;clear hlm;have mixed:Tryz.prog.follows .mixedOrders=true:=by kernel_rfl
     go_wp2_with fail;refine(qD.o _).mono ?_;rintro e w3 ⟨rfl,rfl⟩;go_wp2_with fail
     go_region
     all_goals
      go_wp2_with fail;go_ret2;rw[HN.o];exact⟨rfl,bC.o.drew⟩
   ·have o8:(mp.toList==[47])=false:=by
     rw[cd];simp only[beq_eq_false_iff_ne,ne_eq];exact fun e=>h1 (uw e)
    have HN:=Ux (HE.o.trans (HQ.o.trans (if_neg (fun h=>h1 h.1))));go_wp2_with fail;go_roundw
    case rel=>exact⟨k+1,by omega,by go_num,HN.o,Uo.o⟩
    case measure=>simp[intOf];omega
  ·obtain rfl:k=ms.length:=by omega
   have bS:=Ux (show be ms=(65536,65536) by rw[HE.o,List.drop_length];rfl);clear hb;go_wp2_with fail;go_ret2;rw[bS.o];exact⟨rfl,HB.o⟩
theorem I'{S:Fs}(c:Cr)(now dir:Int)(s:ByteArray)(m:Int):(S.aN c now dir s m).1.ns.length≤S.ns.length+1:=by
 have hmk:∀a,(S.make a).1.ns.length≤S.ns.length+1:=fun a=>by
  unfold Fs.make
  split
  ·simp
  ·split
   ·simp
   ·simp only
    split
    ·show(S.ns++[_]).length≤_;simp
    ·simp
 unfold Fs.aN
 split
 ·simp
 ·unfold Fs.bT
  split
  ·simp
  ·split
   ·simp
   ·split
    ·simp
    ·simp only
     split
     ·simp
     ·unfold Fs.aE
      split
      ·exact hmk _
      ·show(List.map _ _).length≤_;rw[List.length_map];exact hmk _
section
variable{w w':World}{pf:Nat}{R:Rf}{S:Fs}
theorem xv(h:aW w pf R S){N:Nat}(hk:ay S N)(hN:N≤99990)(hgl:S.ns.length≤99990)(hnow:R.now=0)(m:Mt)(hp:m.path.size≤100000) :
  Calls Tryz.prog 93 #[UH (some ⟨pf,0,none⟩),UJ #[UF m.path,UE UL m.b,UE UL m.n]] w fun e w'=>e=.returned (UK #[])∧∃R',aW w' pf R' (bP S m)∧aS (R.F pf) (R'.F pf) w w'∧Rf.cY R R':=by
 obtain⟨Tf,de⟩:=Uz w #[UF m.path,UE UL m.b,UE UL m.n] 125;have HF:=Ux (nO (h.an de) hk m.path hp false);have pC:=Ux (sQ hk cw m.path (by omega) false);have eA:=Ux (wg (S:=S) (m:=m));have bS:=Ux (we (S:=S) (m:=m));have kP:=Ux (tj (S:=S) (m:=m));have wX:=Ux (vZ (S:=S) (m:=m));generalize bP S m=Z at eA bS kP wX⊢;generalize S.path cw m.path false=x at HF pC eA bS kP wX;obtain⟨⟨xd,xn,xk,xs⟩,xe⟩:=x;unfold Fd.v at HF;have HH:=Ux h;have HK:=Ux hk;clear h hk;go_enter Tryz.func93,Tryz.ntmps93;go_wp2_with fail;refine HF.o.mono ?_;rintro e w1 ⟨rfl,av⟩;have Ge:=(Tf.an av).bI (.cells #[UE UL xd,UF xn,UE UL xk,.bool xs] 176);have rn:=ax.new w1 #[UE UL xd,UF xn,UE UL xk,.bool xs] 176;have aJ:=ao (ar de av) (.cells #[UE UL xd,UF xn,UE UL xk,.bool xs] 176);have hlw:w.heap.size<w1.heap.size:=by have:=av.size;simp at this;omega
 clear Tf de av;go_upto_region 2 with fail;generalize w1.alloc _=X at Ge rn aJ⊢;generalize w1.heap.size=D at rn hlw⊢;have La:=Ux Ge;have Nq:=Ux rn;have bC:=Ux aJ;obtain⟨xc,xf,xz⟩:=rn.facts;obtain⟨mc,mf,mz⟩:=Ge.facts;have G1:=Ux (HH.o.an aJ);clear Ge rn aJ;by_cases he:xe=0
 ·have heb:(xe==0)=true:=by simpa using he
  subst he;by_cases hno:xk=0
  ·have hnb:(xk==0)=true:=by simpa using hno
   have HM:=Ux (Aa G1.o HK.o (by omega) (by omega) xd xn (by exact pC.o) 493);rw[hnow] at HM;have yQ:=Ux (bS.o rfl hno);have yP:=Ux (kP.o rfl hno)
   try dsimp only at yQ
   try dsimp only at yP
   try dsimp only at HM
   have gQ:=Ux (gW HK.o cw 0 xd xn 493);have HNl:=Ux (I' (S:=S) cw 0 xd xn 493);clear eA bS kP wX hno;generalize S.aN cw 0 xd xn 493=q at HM yQ yP gQ HNl;obtain⟨S1,n1,e1⟩:=q
   try dsimp only at HM
   try dsimp only at yQ
   try dsimp only at yP
   try dsimp only at gQ
   try dsimp only at HNl
   go_wp2_with fail;refine HM.o.mono ?_;rintro e w3 ⟨rfl,R3,gN,iN,yY⟩;have BN:=La.o.rf G1.o iN rfl;have ob:=Nq.o.rf G1.o iN rfl;have pK:=Ux (ag gN (ag ((aS.aq bC.o).trans iN) yY));have hF3:¬R3.F pf D:=fun hk=>by
    rcases iN.new D hk with h1|h1
    ·have:=HH.o.lt h1;omega
    ·have:=Nq.o.lt;omega
   have rp:=gN.aside ob hF3 (by decide) 2 (UE UL n1);have xX:=ob.set 2 (UE UL n1);have QT:=BN.setOther ⟨D,2,none⟩ (UE UL n1) (show D≠w.heap.size by omega);have xR:aS (R.F pf) (R3.F pf) w (w3.setCell ⟨D,2,none⟩ (UE UL n1)):=⟨pK.o.2.1.mod.setCell (a:=⟨D,2,none⟩) (.inr (by show w.heap.size≤D;omega)) _,pK.o.2.1.new⟩;have GW:=Ux (ag rp xR);obtain⟨xc3,xf3,xz3⟩:=ob.facts;obtain⟨mc3,mf3,mz3⟩:=BN.facts;have hne:¬D=w.heap.size:=by omega
   have hne2:¬w.heap.size=D:=by omega
   by_cases h1:e1=0
   ·have MU:(e1==0)=true:=by simpa using h1
    have HE:=Ux (yQ.o h1);have Oo:=Ux (sK rp gQ.o (by omega) (by have:=HNl.o;omega) n1 m.b m.n);clear xc xf xz mc mf mz gN iN yY BN ob hF3 rp xX QT xR h1;go_wp2_with fail;refine Oo.o.mono ?_;rintro e w5 ⟨rfl,R5,iq,eW,JP⟩;have rD:=Ux (ag iq (ag (GW.o.2.trans eW) (pK.o.2.2.trans JP)));clear iq eW JP;go_wp2_with fail
    go_end0
    rw[HE.o];exact⟨rfl,R5,rD.o⟩
   ·have MU:(e1==0)=false:=by simpa using h1
    have HE:=Ux (yP.o h1);clear xc xf xz mc mf mz gN iN yY BN ob hF3 rp xX QT xR h1;go_wp2_with fail
    go_end0
    rw[HE.o];exact⟨rfl,R3,GW.o.1,GW.o.2,pK.o.2.2⟩
  ·have hnb:(xk==0)=false:=by simpa using hno
   have HM:=Ux (sK G1.o HK.o (by omega) (by omega) xk m.b m.n);have HE:=Ux (wX.o rfl hno)
   try dsimp only at HE
   clear eA bS kP wX hno;go_wp2_with fail;refine HM.o.mono ?_;rintro e w3 ⟨rfl,R3,gN,iN,yY⟩;have pK:=Ux (ag gN (ag ((aS.aq bC.o).trans iN) yY));clear gN iN yY;go_wp2_with fail
   go_end0
   rw[HE.o];exact⟨rfl,R3,pK.o⟩
 ·have heb:(xe==0)=false:=by simpa using he
  have HE:=Ux (eA.o he);clear eA bS kP wX he;go_wp2_with fail
  go_end0
  rw[HE.o];exact⟨rfl,R,G1.o,aS.aq bC.o,Rf.cY.refl R⟩
end
end
section
open Go.RowKit
section
variable{w w':World}{pf:Nat}{R:Rf}{S:Fs}
theorem zZ(h:aW w pf R S){N:Nat}(hk:ay S N)(hN:N≤99990)(hgl:S.ns.length≤99990)(hnow:R.now=0)(it:It)(hp:it.path.size≤100000)(hd:it.data.size≤100000) :
  Calls Tryz.prog 94 #[UH (some ⟨pf,0,none⟩),UJ #[UF it.path,UE UL it.kind,UE UL it.mode,UE UL it.uid,UE UL it.gid,UE UL it.mtime,UF it.data]] w fun e w'=>e=.returned (UE UL (cj S it).2)∧∃R',aW w' pf R' (cj S it).1∧aS (R.F pf) (R'.F pf) w w'∧Rf.cY R R':=by
 obtain⟨Ea,de⟩:=Uz w #[UF it.path,UE UL it.kind,UE UL it.mode,UE UL it.uid,UE UL it.gid,UE UL it.mtime,UF it.data] 82;have HF:=Ux (nO (h.an de) hk it.path hp false);have pC:=Ux (sQ hk cw it.path (by omega) false);generalize hx:S.path cw it.path false=x at HF pC;obtain⟨⟨xd,xn,xk,xs⟩,xe⟩:=x;have Kw:=Ux hx;unfold Fd.v at HF;have HH:=Ux h;have HK:=Ux hk;clear h hk hx;go_enter Tryz.func94,Tryz.ntmps94;go_wp2_with fail;refine HF.o.mono ?_;rintro e w1 ⟨rfl,av⟩;have N9:=(Ea.an av).bI (.cells #[UE UL xd,UF xn,UE UL xk,.bool xs] 176);have rn:=ax.new w1 #[UE UL xd,UF xn,UE UL xk,.bool xs] 176;have aJ:=ao (ar de av) (.cells #[UE UL xd,UF xn,UE UL xk,.bool xs] 176);clear Ea de av;go_upto_region 2 with fail;generalize w1.alloc _=X at N9 rn aJ⊢;generalize w1.heap.size=D at rn⊢;have Rn:=Ux N9;have Nq:=Ux rn;have bC:=Ux aJ;obtain⟨xc,xf,xz⟩:=rn.facts;obtain⟨ic,if',iz⟩:=N9.facts;have G1:=Ux (HH.o.an aJ);clear N9 rn aJ;by_cases he:xe=0
 ·have heb:(xe != 0)=false:=by simpa using he
  by_cases hno:xk=0
  ·have hnb:(xk != 0)=false:=by simpa using hno
   have pE:=Ux (Ap (it:=it) Kw.o he hno)
   try dsimp only at pE
   clear he hno;by_cases g1:it.kind=1
   ·have p1:(it.kind==1)=true:=by simpa using g1
    have HQ:=Ux (pE.o.trans (if_pos g1));have HM:=Ux (Aa G1.o HK.o (by omega) (by omega) xd xn (by exact pC.o) 493);have kk:it.kind=1:=g1;clear g1;rw[hnow] at HM;go_wp2_with fail;refine HM.o.mono ?_;rintro e w3 ⟨rfl,R3,gN,iN,yY⟩;have pK:=Ux (ag gN (ag ((aS.aq bC.o).trans iN) yY));clear gN iN yY xc xf xz ic if' iz;go_wp2_with fail;go_ret;rw[HQ.o];exact⟨rfl,R3,pK.o⟩
   ·have p1:(it.kind==1)=false:=by simpa using g1
    have rE:=Ux (pE.o.trans (if_neg g1));by_cases g2:it.kind=2
    ·have p2:(it.kind==2)=true:=by simpa using g2
     have HQ:=Ux (rE.o.trans (if_pos g2));have HM:=Ux (Fm G1.o HK.o (by omega) (by omega) xd xn (by exact pC.o) 420 it.data);have kk:it.kind=2:=g2;clear g2;rw[hnow] at HM;go_wp2_with fail;refine HM.o.mono ?_;rintro e w3 ⟨rfl,R3,gN,iN,yY⟩;have pK:=Ux (ag gN (ag ((aS.aq bC.o).trans iN) yY));clear gN iN yY xc xf xz ic if' iz;go_wp2_with fail;go_ret;rw[HQ.o];exact⟨rfl,R3,pK.o⟩
    ·have p2:(it.kind==2)=false:=by simpa using g2
     have vl:=Ux (rE.o.trans (if_neg g2));by_cases g3:it.kind=3
     ·have p3:(it.kind==3)=true:=by simpa using g3
      have HQ:=Ux (vl.o.trans (if_pos g3));have HM:=Ux (II G1.o HK.o (by omega) (by omega) xd xn (by exact pC.o) it.data (by omega));have kk:it.kind=3:=g3;clear g3;rw[hnow] at HM;go_wp2_with fail;refine HM.o.mono ?_;rintro e w3 ⟨rfl,R3,gN,iN,yY⟩;have pK:=Ux (ag gN (ag ((aS.aq bC.o).trans iN) yY));clear gN iN yY xc xf xz ic if' iz;go_wp2_with fail;go_ret;rw[HQ.o];exact⟨rfl,R3,pK.o⟩
     ·have p3:(it.kind==3)=false:=by simpa using g3
      have GX:=Ux (vl.o.trans (if_neg g3));by_cases g4:it.kind=4
      ·have p4:(it.kind==4)=true:=by simpa using g4
       have Hj:=Ux (GX.o.trans (if_pos g4));have wW:=Ux (nO G1.o HK.o it.data hd false);clear g4;generalize hy:S.path cw it.data false=y at Hj wW;obtain⟨⟨yd,yn,yk,ys⟩,ye⟩:=y
       try dsimp only at Hj
       unfold Fd.v at wW;clear hy;go_wp2_with fail;refine wW.o.mono ?_;rintro e w3 ⟨rfl,cl⟩;have ob:=(Nq.o.an cl).bI (.cells #[UE UL yd,UF yn,UE UL yk,.bool ys] 176);have pI:=ax.new w3 #[UE UL yd,UF yn,UE UL yk,.bool ys] 176;have dM:=ao (ar bC.o cl) (.cells #[UE UL yd,UF yn,UE UL yk,.bool ys] 176);go_upto_region 18 with fail;generalize w3.alloc _=Y at ob pI dM⊢;have uF:=Ux dM;have HHY:=Ux (HH.o.an dM);clear xc xf xz ic if' iz cl dM;obtain⟨xc,xf,xz⟩:=ob.facts;obtain⟨yc,yf,yz⟩:=pI.facts;clear ob pI;by_cases hye:ye=0
       ·have hyb:(ye==0)=true:=by simpa using hye
        have HQ:=Ux (Hj.o.trans (if_pos hye));have HM:=Ux (Fl HHY.o HK.o (by omega) yk xd xn (by exact pC.o));rw[hnow] at HM;clear hye;go_wp2_with fail;refine HM.o.mono ?_;rintro e w5 ⟨rfl,R3,gN,iN,yY⟩;have pK:=Ux (ag gN (ag ((aS.aq uF.o).trans iN) yY));clear gN iN yY xc xf xz yc yf yz;go_wp2_with fail;go_ret;rw[HQ.o];exact⟨rfl,R3,pK.o⟩
       ·have hyb:(ye==0)=false:=by simpa using hye
        have HQ:=Ux (Hj.o.trans (if_neg hye));clear hye;go_wp2_with fail;go_ret;rw[HQ.o];exact⟨rfl,R,HHY.o,aS.aq uF.o,Rf.cY.refl R⟩
      ·have p4:(it.kind==4)=false:=by simpa using g4
       have HQ:=Ux (GX.o.trans (if_neg g4));clear g1 g2 g3 g4;go_wp2_with fail;go_ret;rw[HQ.o];exact⟨rfl,R,G1.o,aS.aq bC.o,Rf.cY.refl R⟩
  ·have hnb:(xk != 0)=true:=by simpa using hno
   by_cases h1:it.kind=1
   ·have q1:(it.kind==1)=true:=by simpa using h1
    obtain⟨na,nl,nc,-,hG⟩:=mN HH.o xk;have HG:=Ux (hG X bC.o);have hkz:(S.bG xk).kind=S.mh xk:=by
     unfold Fs.bG Fs.mh
     cases S.get xk<;>rfl
    unfold An.v at HG;have hfd:∀(a:An) (w:World),(Instr.field 149 (UJ #[UE UL a.no,UE UL a.dev,UE UL a.kind,UE UL a.mode,UE UL a.uid,UE UL a.gid,UE UL a.mtime,UE UL a.ctime,UE UL a.ak,UE UL a.up,UF a.data,UG na nl nc]) 2).run Tryz.prog w=.ok (UE UL a.kind) w:=fun _ _=>by kernel_rfl
    by_cases h2:S.mh xk=1
    ·have HQ:=Ux (Ao (it:=it) Kw.o he hno h1 h2);have q2:((S.bG xk).kind==1)=true:=by rw[hkz];simpa using h2
     generalize S.bG xk=nd at HG q2;clear he hno h1 h2 hG hkz;go_wp2_with fail;refine HG.o.mono ?_;rintro e w3 ⟨rfl,cl⟩;have gn:=Ux (ar bC.o cl);have ob:=Nq.o.an cl;clear xc xf xz ic if' iz cl;obtain⟨xc,xf,xz⟩:=ob.facts;go_wp2_with fail;go_ret;rw[HQ.o];exact⟨rfl,R,HH.o.an gn.o,aS.aq gn.o,Rf.cY.refl R⟩
    ·have HQ:=Ux (oO (it:=it) Kw.o he hno (fun h=>h2 h.2));have q2:((S.bG xk).kind==1)=false:=by rw[hkz];simpa using h2
     generalize S.bG xk=nd at HG q2;clear he hno h1 h2 hG hkz;go_wp2_with fail;refine HG.o.mono ?_;rintro e w3 ⟨rfl,cl⟩;have gn:=Ux (ar bC.o cl);clear xc xf xz ic if' iz cl;go_wp2_with fail;go_ret;rw[HQ.o];exact⟨rfl,R,HH.o.an gn.o,aS.aq gn.o,Rf.cY.refl R⟩
   ·have q1:(it.kind==1)=false:=by simpa using h1
    have HQ:=Ux (oO (it:=it) Kw.o he hno (fun h=>h1 h.1));clear he hno h1;go_wp2_with fail;go_ret;rw[HQ.o];exact⟨rfl,R,G1.o,aS.aq bC.o,Rf.cY.refl R⟩
 ·have heb:(xe != 0)=true:=by simpa using he
  have HQ:=Ux (Aq (it:=it) Kw.o he);clear he;go_wp2_with fail;go_ret;rw[HQ.o];exact⟨rfl,R,G1.o,aS.aq bC.o,Rf.cY.refl R⟩
end
end
section
open Go.RowKit
section
variable{w w':World}{pf:Nat}{R R':Rf}{S:Fs}
theorem OI.rf{base:Nat}{v:Value}{l:List Int}(ho:OI w base v l)(h:aW w pf R S){F':Nat→Prop}(hs:aS (R.F pf) F' w w'):OI w' base v l:=
 bY ho hs.mod (fun k hk he=>by
  obtain⟨-,cur,hc⟩:=aH ho he;obtain⟨o,h1,hd⟩:=h.kind hk;rw[hc] at h1;injection h1 with h1;subst h1;rw[show nQ (.cells cur 3 (0,0))=false from rfl] at hd
  cases hd)
theorem aW.oi(h:aW w pf R S){base:Nat}{v:Value}{l:List Int}(ho:OI w base v l)(hm:Mod (fun j=>v.ownBlock=some j) w w'):aW w' pf R S:=
 h.mod hm (fun k o hk gM=>by
  obtain⟨-,cur,hc⟩:=aH ho hk;rw[hc] at gM;injection gM with gM;subst gM;exact⟨rfl,fun cur e=>by cases e⟩)
structure mF(w wr:World)(pf:Nat)(S:Fs):Prop where
 st:∃R,aW wr pf R S∧Rf.cY LJ R∧∀k,R.F pf k→w.heap.size≤k
 below:UA w wr
theorem mF.an{wr:World}(h:mF w wr pf S)(hb:UA wr w'):mF w w' pf S:=by
 obtain⟨⟨R,h1,h2,h3⟩,h6⟩:=h;exact⟨⟨R,h1.an hb,h2,h3⟩,ar h6 hb⟩
theorem mF.of{wr:World}(hb:UA w wr)(hl:Rf.cY LJ R)(hF:∀k,R.F pf k→w.heap.size≤k)(hR:aW w' pf R' S)(hS:aS (R.F pf) (R'.F pf) wr w')(hL:Rf.cY R R'):mF w w' pf S:=
 ⟨⟨R',hR,hl.trans hL,hS.bl hF hb.size⟩,hb.trans (hS.below hF hb.size)⟩
theorem mF.oi{wr:World}(h:mF w wr pf S){v:Value}{l:List Int}(ho:OI wr w.heap.size v l)(hm:Mod (fun j=>v.ownBlock=some j) wr w'):mF w w' pf S:=by
 obtain⟨⟨R,h1,h2,h3⟩,h6⟩:=h;exact⟨⟨R,h1.oi ho hm,h2,h3⟩,h6.trans (hm.below (fun k hk=>(aH ho hk).1) h6.size)⟩
theorem Aj{N:Nat}(h:ay S N)(hp:Pl S):S.ns.length≤N:=by
 have h1:=hp.len;have h2:=h.lN;omega
theorem Jm(S:Fs)(it:It):dL S it=if(cj S it).2≠0 then((((cj S it).1.cy cw 0 (cj S it).2 it.uid it.gid).1.cq cw 0 (cj S it).2 it.mode).1,(cj S it).2) else cj S it:=rfl
end
theorem uP(w:World){ma:Option Addr}{mn mc:Nat}{ia:Option Addr}{il ic:Nat}{ms:List Mt}{is:List It}(h:nh w ma mn mc ia il ic ms is)(hml:ms.length≤10000)(hil:is.length≤10000)
  (hmp:∀m∈ms,m.path.size≤100000) (hip:∀x∈is,x.path.size≤100000∧x.data.size≤100000) :
  Calls Tryz.prog 55 #[UJ #[UG ma mn mc,UG ia il ic]] w fun e w'=>∃pf R,e=.returned (UH (some ⟨pf,0,none⟩))∧aW w' pf R (db ms is)∧(∀k,R.F pf k→w.heap.size≤k)∧Rf.cY LJ R∧UA w w':=by
 have HS:=Ux h;have HL:=Ux (uQ (w.alloc (.cells #[UG ma mn mc,UG ia il ic] 25)) (h.an ((Below.refl _ w).alloc (aa _) _)));have HN:=Ux (fun w=>IL (be ms).1 (be ms).2 (pX ms) w);have HMp:=Ux hmp;have HIp:=Ux hip;have hln:=h.m.1;have hli:=h.i.1;subst hln hli;obtain⟨Dd,de⟩:=Uz w #[UG ma ms.length mc,UG ia is.length ic] 25;have ks:=Ux (show db ms is=bO (br (aR (qh.aD 0 (be ms).1 (be ms).2) ms) is).1 (is.zip (br (aR (qh.aD 0 (be ms).1 (be ms).2) ms) is).2) from rfl);have gQ:=Ux (ag (ay.new (be ms).1 (be ms).2) (Pl.new (be ms).1 (be ms).2));generalize qh.aD 0 (be ms).1 (be ms).2=S0 at HN ks gQ;generalize (be ms).1=lb at HL HN;generalize (be ms).2=ln at HL HN;clear h hmp hip;go_enter Tryz.func55,Tryz.ntmps55;go_wp2_with fail;refine HL.o.mono ?_;rintro e w1 ⟨rfl,av⟩;have fR:=Dd.an av;have CT:=ar de av;clear Dd de av;go_wp2_with fail;refine(HN.o _).mono ?_;rintro e w2 ⟨pf,R0,rfl,Ta,MK,ME,aY⟩;have dR:=fR.an aY;have Td:mF w w2 pf S0:=⟨⟨R0,Ta,ME,fun k hk=>ae CT.size (MK k hk)⟩,ar CT aY⟩;have Ky:=Ux Td;have ei:=Ux dR;obtain⟨bc,bf,bz⟩:=dR.facts;clear fR CT Ta ME aY MK dR Td;go_wp2_with fail
 go_loopw [6] (fun t6 wr=>∃k:Nat,k≤ms.length∧t6=UE UL k∧mF w wr pf (aR S0 (ms.take k))∧ax wr w.heap.size #[UG ma ms.length mc,UG ia is.length ic] 25) (fun t6 _=>ms.length-(intOf t6).toNat)
 case atStart=>exact⟨0,Nat.zero_le _,rfl,Ky.o,ei.o⟩
 case round=>
  obtain⟨k,hk,rfl,hP,hB⟩:=hrel;have HP:=Ux hP;have HB:=Ux hB;clear bc bf bz;obtain⟨bc,bf,bz⟩:=hB.facts;have hbw:=hP.below;clear hP hB;by_cases hlt:k<ms.length
  ·obtain⟨b,off,rfl,hbl⟩:=eR HS.o.m (by omega);obtain⟨c0,c1,c2⟩:=l9 (HS.o.m.below hbw (aa _)) k hlt;have HQ:=Ux (show aR S0 (ms.take (k+1))=if ms[k].path=kv then aR S0 (ms.take k) else bP (aR S0 (ms.take k)) ms[k] by rw[List.take_succ_eq_append_getElem hlt,oQ]);have kS:=Ux (HMp.o ms[k] (List.getElem_mem hlt));have jV:=Ux (show ay (aR S0 (ms.take k)) (1+2*k)∧Pl (aR S0 (ms.take k)) by
    have:=fV gQ.o.1 (ms.take k);rw[List.length_take,Nat.min_eq_left hk] at this;exact⟨this,gQ.o.2.aR gQ.o.1 _⟩)
   generalize ms[k]=m at c0 c1 c2 HQ kS;generalize j7:aR S0 (ms.take (k+1))=S2 at HQ;have oA:=Ux j7;clear j7;generalize C1:aR S0 (ms.take k)=Sk at HQ HP jV;have HSk:=Ux C1;clear C1 hbw;by_cases h1:m.path=kv
   ·have MU:m.path.toList=[47]:=by rw[h1,cd];rfl
    have HE:=Ux (HQ.o.trans (if_pos h1));clear h1;go_wp2_with fail;go_roundw
    case rel=>exact⟨k+1,by omega,by go_num,by rw[show aR S0 (ms.take (k+1))=Sk from by rw[oA.o];exact HE.o];exact HP.o,HB.o⟩
    case measure=>simp[intOf];omega
   ·have MU:(m.path.toList==[47])=false:=by
     rw[cd];simp only[beq_eq_false_iff_ne,ne_eq];exact fun e=>h1 (uw e)
    have HE:=Ux (HQ.o.trans (if_neg h1));obtain⟨⟨R,hR,hlk,hF⟩,hbw⟩:=HP.o;have HM:=Ux (xv hR jV.o.1 (by omega) (by have:=Aj jV.o.1 jV.o.2;omega) hlk.now m kS.o);have HW:=Ux (ag hR (ag hlk (ag hF hbw)));clear h1 hR hlk hF hbw;go_wp2_with fail;refine HM.o.mono ?_;rintro e w5 ⟨rfl,R5,iq,eW,JP⟩;obtain⟨hR,hlk,hF,hbw⟩:=HW.o;have oC:=Ux (HB.o.rf hR eW rfl);have zg:=Ux (mF.of hbw hlk hF iq eW JP);clear iq eW JP hR hlk hF hbw;go_wp2_with fail;go_roundw
    case rel=>exact⟨k+1,by omega,by go_num,by rw[show aR S0 (ms.take (k+1))=bP Sk m from by rw[oA.o];exact HE.o];exact zg.o,oC.o⟩
    case measure=>simp[intOf];omega
  ·obtain rfl:k=ms.length:=by omega
   rw[List.take_length] at HP;have yM:=Ux (ag (fV gQ.o.1 ms) (gQ.o.2.aR gQ.o.1 ms));generalize aR S0 ms=S1 at HP yM ks;have Ud:=Ux (show OI wr w.heap.size (UG none 0 0) [] from World.ownsRow_nil _ _ _ _);clear hbw;go_wp2_with fail
   go_loopw [8,7] (fun t8 t7 wr=>∃(k:Nat) (a:Option Addr) (c:Nat),k≤is.length∧t8=UE UL k∧t7=UG a k c∧OI wr w.heap.size (UG a k c) (br S1 (is.take k)).2∧mF w wr pf (br S1 (is.take k)).1∧ax wr w.heap.size #[UG ma ms.length mc,UG ia is.length ic] 25) (fun t8 _ _=>is.length-(intOf t8).toNat)
   case atStart=>exact⟨0,_,_,Nat.zero_le _,rfl,rfl,Ud.o,HP.o,HB.o⟩
   case round=>
    obtain⟨k,a,c,hk,rfl,rfl,hO,hP,hB⟩:=hrel;have HO:=Ux hO;have HP:=Ux hP;have HB:=Ux hB;clear bc bf bz;obtain⟨bc,bf,bz⟩:=hB.facts;have hbw:=hP.below;clear hP hB hO;by_cases hlt:k<is.length
    ·obtain⟨b,off,rfl,hbl⟩:=eR HS.o.i (by omega);obtain⟨c0,c1,c2,c3,c4,c5,c6⟩:=mj (HS.o.i.below hbw (aa _)) k hlt;have HQ:=Ux (show br S1 (is.take (k+1))=((dL (br S1 (is.take k)).1 is[k]).1,(br S1 (is.take k)).2++[(dL (br S1 (is.take k)).1 is[k]).2]) by rw[List.take_succ_eq_append_getElem hlt,qQ]);have kS:=Ux (HIp.o is[k] (List.getElem_mem hlt));have jV:=Ux (show ay (br S1 (is.take k)).1 (1+2*ms.length+k)∧Pl (br S1 (is.take k)).1 by
      have:=jG yM.o.1 (is.take k);rw[List.length_take,Nat.min_eq_left hk] at this;exact⟨this,yM.o.2.br yM.o.1 _⟩)
     have yO:=Ux (show(br S1 (is.take k)).2.length=k by rw[lq,List.length_take,Nat.min_eq_left hk]);generalize is[k]=it at c0 c1 c2 c3 c4 c5 c6 HQ kS;generalize br S1 (is.take k)=Sk at HQ HP jV HO yO;obtain⟨Sk,Lk⟩:=Sk;have hX:=ax.new wr #[UF it.path,UE UL it.kind,UE UL it.mode,UE UL it.uid,UE UL it.gid,UE UL it.mtime,UF it.data] 82;have aJ:=(Below.refl _ wr).alloc (aa _) (.cells #[UF it.path,UE UL it.kind,UE UL it.mode,UE UL it.uid,UE UL it.gid,UE UL it.mtime,UF it.data] 82);clear hbw;go_upto_region 13 with fail;generalize wr.alloc _=X at hX aJ⊢;have bC:=Ux (HB.o.an aJ);have NA:=Ux (HP.o.an aJ);have K8:=Ux (ew HO.o aJ (aa _));have Rn:=Ux hX;obtain⟨xc,xf,xz⟩:=hX.facts;obtain⟨⟨R,hR,hlk,hF⟩,hbw⟩:=NA.o;have HM:=Ux (zZ hR jV.o.1 (by omega) (by have:=Aj jV.o.1 jV.o.2;omega) hlk.now it kS.o.1 kS.o.2);have HW:=Ux (ag hR (ag hlk (ag hF hbw)));have yK:=Ux (th jV.o.1 it);have NF:=Ux (Jm Sk it);clear hX aJ c0 c1 c2 c3 c4 c5 c6 hR hlk hF hbw;go_wp2_with fail;refine HM.o.mono ?_;clear HM;rintro e w5 ⟨rfl,R5,iq,eW,JP⟩;generalize cj Sk it=nd at iq yK NF⊢;obtain⟨S5,no⟩:=nd;dsimp only at iq yK NF⊢;obtain⟨hR,hlk,hF,hbw⟩:=HW.o;have KY:=mF.of hbw hlk hF iq eW JP;have rQ:=bC.o.rf hR eW rfl;have MG:=Rn.o.rf hR eW rfl;have C5:OI w5 w.heap.size (UG a Lk.length c) Lk:=by rw[yO.o];exact OI.rf (l:=Lk) K8.o hR eW
     obtain⟨g,cap,W,hrun,JM,Mi⟩:=C5.app no (by rw[yO.o];omega) KY.below.size;have Tc:=KY.oi C5 Mi;have oh:=rQ.oi C5 Mi (by decide);have PM:=MG.oi C5 Mi (by decide);rw[yO.o] at hrun JM;have vk:=Ux hrun;have T':=Ux Tc;have zh:=Ux oh;have HIW:=Ux PM;have Ub:=Ux JM;clear xc xf xz KY iq eW JP hR hlk hF hbw rQ MG C5 hrun JM Mi Tc oh;obtain⟨xc,xf,xz⟩:=PM.facts;clear PM;by_cases hno:no=0
     ·have hnb:(no != 0)=false:=by simpa using hno
      have HE:=Ux (NF.o.trans (if_neg (by simp[hno])));clear hno;go_wp2_with (at_builtin;refine aT rfl rfl rfl rfl vk.o ?_);go_roundw
      case rel=>
       refine⟨k+1,_,cap,by omega,by go_num,rfl,?_,?_,zh.o⟩
       ·rw[HQ.o,HE.o];exact Ub.o
       ·rw[HQ.o,HE.o];exact T'.o
      case measure=>simp[intOf];omega
     ·have hnb:(no != 0)=true:=by simpa using hno
      have HE:=Ux (NF.o.trans (if_pos hno));clear hno;obtain⟨⟨R,hR,hlk,hF⟩,hbw⟩:=T'.o;have hnow:=hlk.now;have HM:=Ux (Cq hR yK.o no it.uid it.gid);rw[show R.now=0 from hnow] at HM;have HW:=Ux (ag hR (ag hlk (ag hF hbw)));clear hR hlk hF hbw hnow;go_wp2_with (at_builtin;refine aT rfl rfl rfl rfl vk.o ?_);refine HM.o.mono ?_;clear HM;rintro e w6 ⟨rfl,R6,N4,xZ,Th⟩;obtain⟨hR,hlk,hF,hbw⟩:=HW.o;have MS:=zh.o.rf hR xZ rfl;have wB:=HIW.o.rf hR xZ rfl;have Te:=OI.rf Ub.o hR xZ;have N5:=mF.of hbw hlk hF N4 xZ Th;have Re:=Ux N5;have jJ:=Ux MS;have lL:=Ux wB;have HO6:=Ux Te;clear xc xf xz N5 MS N4 xZ Th hR hlk hF hbw Te;obtain⟨xc,xf,xz⟩:=wB.facts;clear wB HW;obtain⟨⟨R,hR,hlk,hF⟩,hbw⟩:=Re.o;have hnow:=hlk.now;have HM:=Ux (Fe hR (po yK.o cw 0 no it.uid it.gid) no it.mode);rw[show R.now=0 from hnow] at HM;have HW:=Ux (ag hR (ag hlk (ag hF hbw)));clear hR hlk hF hbw hnow;go_wp2_with fail;refine HM.o.mono ?_;clear HM;rintro e w7 ⟨rfl,R7,C3,jf,JO⟩;obtain⟨hR,hlk,hF,hbw⟩:=HW.o;have pN:=Ux (jJ.o.rf hR jf rfl);have NB:=Ux (OI.rf HO6.o hR jf);have Qg:=Ux (mF.of hbw hlk hF C3 jf JO);clear C3 jf JO hR hlk hF hbw;go_wp2_with fail;go_roundw
      case rel=>
       refine⟨k+1,_,cap,by omega,by go_num,rfl,?_,?_,pN.o⟩
       ·rw[HQ.o,HE.o];exact NB.o
       ·rw[HQ.o,HE.o];exact Qg.o
      case measure=>simp[intOf];omega
    ·obtain rfl:k=is.length:=by omega
     rw[List.take_length] at HP HO;have yL:=Ux (jG yM.o.1 is);have qD:=Ux (lq S1 is);generalize br S1 is=q at HP HO yL ks qD;obtain⟨S2,made⟩:=q;dsimp only at ks;have CO:made.length=is.length:=qD.o;clear hbw;go_wp2_with fail
     go_loopw [11] (fun t11 wr=>∃k:Nat,k≤is.length∧t11=UE UL k∧OI wr w.heap.size (UG a is.length c) made∧mF w wr pf (bO S2 ((is.zip made).take k))∧ax wr w.heap.size #[UG ma ms.length mc,UG ia is.length ic] 25) (fun t11 _=>is.length-(intOf t11).toNat)
     case atStart=>exact⟨0,Nat.zero_le _,rfl,HO.o,HP.o,HB.o⟩
     case round=>
      obtain⟨k,hk,rfl,hO,hP,hB⟩:=hrel;have Es:=Ux hO;have Hl:=Ux hP;have gn:=Ux hB;clear bc bf bz;obtain⟨bc,bf,bz⟩:=hB.facts;have hbw:=hP.below;clear hP hO hB;by_cases hlt:k<is.length
      ·obtain⟨b,off,rfl,hbl⟩:=eR HS.o.i (by omega);obtain⟨c0,c1,c2,c3,c4,c5,c6⟩:=mj (HS.o.i.below hbw (aa _)) k hlt;have hkm:k<made.length:=by omega
       obtain⟨g,rfl⟩:∃g,a=some ⟨g,0,none⟩:=by
        obtain⟨a1,c1,e1,-,-,hf⟩:=bQ Es.o;injection e1 with e1 e2 e3;rcases hf with⟨-,h0,-⟩|⟨g,hg,-,-⟩
        ·omega
        ·exact⟨g,e1.trans hg⟩
       have yX:OI wr w.heap.size (.slice (some ⟨g,0,none⟩) made.length c) made:=by rw[CO];exact Es.o
       have hgl:=(jN yX).2.2;have hmc:wr.cell? ⟨g,k,none⟩=some (UE UL made[k]):=yX.cell k hkm;have HQ:=Ux (show bO S2 ((is.zip made).take (k+1))=if made[k]≠0 then((bO S2 ((is.zip made).take k)).ct cw 0 made[k] is[k].mtime).1 else bO S2 ((is.zip made).take k) by
        rw[List.take_succ_eq_append_getElem (by rw[List.length_zip];omega),qF,List.getElem_zip])
       have jV:=Ux (pP yL.o ((is.zip made).take k));generalize is[k]=it at c0 c1 c2 c3 c4 c5 c6 HQ;generalize made[k]=no at hmc HQ;generalize bO S2 ((is.zip made).take k)=Sk at HQ Hl jV;clear hbw yX;have HMl:=Ux CO;clear CO;by_cases hno:no=0
       ·have hnb:(no != 0)=false:=by simpa using hno
        have HE:=Ux (HQ.o.trans (if_neg (by simp[hno])));clear hno;go_wp2_with fail;go_roundw
        case rel=>exact⟨k+1,by omega,by go_num,Es.o,by rw[HE.o];exact Hl.o,gn.o⟩
        case measure=>simp[intOf];omega
       ·have hnb:(no != 0)=true:=by simpa using hno
        have HE:=Ux (HQ.o.trans (if_pos hno));have mixed:Tryz.prog.follows .mixedOrders=true:=by kernel_rfl
        obtain⟨⟨R,hR,hlk,hF⟩,hbw⟩:=Hl.o;have hnow:=hlk.now;have HM:=Ux (E9 (hR.an (Below.refl _ wr).drew) jV.o no it.mtime);rw[show R.now=0 from hnow] at HM;have HW:=Ux (ag hR (ag hlk (ag hF hbw)));clear hno hR hlk hF hbw hnow;go_wp2_with fail;refine aG 12 mixed (by kernel_rfl) (show cn _ from by repeat (first|exact cS|refine cR ?_|refine cx ?_|refine cG ?_)) ?_;simp only[List.take_succ_cons,List.take_zero,List.drop_succ_cons,List.drop_zero]
        repeat still_step
        refine wpStill_nil ?_;go_wp2_with fail;refine HM.o.mono ?_;clear HM;rintro e w7 ⟨rfl,R7,C3,jf,JO⟩;obtain⟨hR,hlk,hF,hbw⟩:=HW.o;have uZ:UA wr wr.drew:=(Below.refl _ wr).drew;have NB:=Ux (OI.rf (ew Es.o uZ (aa _)) (hR.an uZ) jf);have pN:=Ux ((gn.o.an uZ).rf (hR.an uZ) jf rfl);have Qg:=Ux (mF.of hbw.drew hlk hF C3 jf JO);clear C3 jf JO hR hlk hF hbw uZ;go_wp2_with fail;go_roundw
        case rel=>exact⟨k+1,by omega,by go_num,NB.o,by rw[HE.o];exact Qg.o,pN.o⟩
        case measure=>simp[intOf];omega
      ·obtain rfl:k=is.length:=by omega
       rw[List.take_of_length_le (by rw[List.length_zip];omega),←ks.o] at Hl;obtain⟨⟨R,hR,hlk,hF⟩,hbw⟩:=Hl.o;have HX:=Ux (show∃R,aW wr pf R (db ms is)∧(∀k,R.F pf k→w.heap.size≤k)∧Rf.cY LJ R∧UA w wr from⟨R,hR,hF,hlk,hbw⟩);clear hR hlk hF hbw;go_wp2_with fail;go_ret;obtain⟨R,h1,h2,h3,h4⟩:=HX.o;exact⟨pf,R,rfl,h1,h2,h3,h4⟩
end
section
open Go.RowKit Go.Shelf
attribute [local go_sem] Oper.semAt_some
def J1(ms:List Mt)(is:List It)(nm:ByteArray)(pl:List (Int×Int)):Bool:=decide (nF ms is 30=true∧nm.size≤300∧pl.length≤4)
theorem J0{ms:List Mt}{is:List It}{nm:ByteArray}{pl:List (Int×Int)}(h:J1 ms is nm pl=true):nF ms is 30=true∧nm.size≤300∧pl.length≤4:=of_decide_eq_true h
section
variable{w w':World}{pf pw:Nat}{R:Rp}{pv:Value}{Y:Sy}
theorem Cg(h:bm w pf pw R pv Y){a:Option Addr}{n c:Nat}{l:List (Int×Int)}(mT:bF (w.setCell ⟨pf,2,none⟩ (UE UL 0)) 2 ng a n c l)(hn:l.length≤1000000) :
  Calls Tryz.prog 56 #[UH (some ⟨pf,0,none⟩),UG a n c] w fun e w'=>e=.returned (UK #[])∧∃pv',bm w' pf pw R pv' {Y with count:=0,cC:=l}∧Mod (fun k=>k=pf) w w':=by
 have HN:=Ux (gK h);have HY:=Ux h;obtain⟨v,W,hrun,hown,mZ⟩:=Ed mT hn;obtain⟨a1,c1,rfl,-,-,-⟩:=bQ hown;have fR:=h.bD.set 2 (UE UL 0);have oh:=fR.an mZ;have HR:=Ux hrun;have HX:=Ux (ag hown (ag mZ oh));obtain⟨pc,pf',pz⟩:=h.bD.facts;obtain⟨qc,qf,qz⟩:=oh.facts;clear h mT hrun hown mZ fR oh;go_enter Tryz.func56,Tryz.ntmps56;go_wp2_with (first|(go_at_call 41;((with_reducible refine HN.o.mono ?_);rintro e w1 ⟨rfl,rfl⟩))|(at_builtin;refine aT rfl rfl rfl rfl HR.o ?_))
 go_end0
 obtain⟨hown,mZ,oh⟩:=HX.o;have fQ:=(Mod.refl (fun k=>k=pf) w).setCell (a:=⟨pf,2,none⟩) (.inl rfl) (UE UL 0);have hm:=(fQ.trans (Mod.aq mZ)).setCell (a:=⟨pf,3,none⟩) (.inl rfl) (UG a1 l.length c1);have hlt:pf<(w.setCell ⟨pf,2,none⟩ (UE UL 0)).heap.size:=by simpa [World.setCell] using HY.o.bD.lt
 refine⟨rfl,UG a1 l.length c1,⟨oh.set 3 _,HY.o.wd.mod hm (fun k o hk ho=>?_),?_⟩,hm⟩
 ·subst hk;have hb:=HY.o.bD;unfold ax at hb;rw[hb] at ho;injection ho with ho;subst ho;exact⟨rfl,fun cur e=>by cases e⟩
 ·refine xG (bY hown ((Mod.refl (fun k=>k=pf) W).setCell (a:=⟨pf,3,none⟩) (.inl rfl) _) (fun k hk he=>?_)) (Nat.zero_le _);subst hk;have:=(aH hown he).1;omega
end
theorem aW.RM{w:World}{pf:Nat}{R:Rf}{S:Fs}(h:aW w pf R S)(v:Value):aW (w.setCell ⟨pf,5,none⟩ v) pf {R with pl:=v} S:=by
 have hm:Mod (fun k=>k=pf) w (w.setCell ⟨pf,5,none⟩ v):=(Mod.refl (fun k=>k=pf) w).setCell (a:=⟨pf,5,none⟩) (.inl rfl) _;have hM:Mod (R.F pf) w (w.setCell ⟨pf,5,none⟩ v):=hm.mono (fun k hk=>.inl hk);refine⟨h.bD.set 5 _,bY h.ti hm (fun k hk e=>?_),bY h.fJ hm (fun k hk e=>?_),h.ns,fun x hx=>(h.au x hx).rf h (aS.dH hM)⟩
 ·obtain⟨-,hc⟩:=aH h.ti e;exact dJ hc h.bD (by decide) hk.symm
 ·obtain⟨-,hc⟩:=aH h.fJ e;exact dJ hc h.bD (by decide) hk.symm
structure Both(w0 w:World)(S:Fs)(pl:List (Int×Int))(vp:Value)(p1 q1:Nat)(R1:Rp)(v1:Value)(pf:Nat)(R2:Rf):Prop where
 y:bm w p1 q1 R1 v1 ⟨S,0,0,pl,false⟩
 r:aW w pf R2 S
 now:R2.now=0
 jc:R2.jc=UE UL 0
 cC:R2.pl=vp
 dd:R2.dd=.bool false
 f1:∀k,R1.Y p1 q1 k→w0.heap.size≤k
 f2:∀k,R2.F pf k→w0.heap.size≤k
 below:UA w0 w
theorem Dw(w:World){ma:Option Addr}{mn mc:Nat}{ia:Option Addr}{il ic:Nat}{ms:List Mt}{is:List It}(h:nh w ma mn mc ia il ic ms is)(u g at' to':Int)(nm:ByteArray){pa:Option Addr}{pn pc:Nat}{pl:List (Int×Int)}(hpl:bF w 2 ng pa pn pc pl)(ke:Bool)(hf:J1 ms is nm pl=true) :
  Calls Tryz.prog 25 #[UJ #[UG ma mn mc,UG ia il ic,UE UL u,UE UL g,UE UL at',UE UL to',UF nm,UG pa pn pc,.bool ke]] w fun e w'=>∃p1 q1 R1 v1 pf R2,e=.returned (UK #[UH (some ⟨p1,0,none⟩),UH (some ⟨pf,0,none⟩)])∧Both w w' (db ms is) pl (UG pa pn pc) p1 q1 R1 v1 pf R2:=by
 obtain⟨ja,-,NX⟩:=J0 hf;obtain⟨Ph,Pn,hmp,hip⟩:=A0 ja;have hil:is.length≤30:=by omega
 have hM:∀m∈ms,m.path.size≤100000:=fun m hm=>ae (hmp m hm) (by omega);have hI:∀x∈is,x.path.size≤100000∧x.data.size≤100000:=fun x hx=>by
  have:=hip x hx;omega
 obtain⟨hX,aJ⟩:=Uz w #[UG ma mn mc,UG ia il ic,UE UL u,UE UL g,UE UL at',UE UL to',UF nm,UG pa pn pc,.bool ke] 86;have HS:=Ux h;have HQ:=Ux hpl;have HL4:=Ux NX;obtain⟨S,hS⟩:∃S,db ms is=S:=⟨_,rfl⟩;rw[hS];clear h hpl hf ja NX hmp hip;go_enter Tryz.func25,Tryz.ntmps25;go_upto_region 1 with fail;generalize w.alloc _=w1 at hX aJ⊢;have vu:=Ux aJ;have HX:=Ux hX;obtain⟨bc,bf,bz⟩:=hX.facts;have Ho:=Ux (fun wr (hb:UA w1 wr)=>vQ wr (HS.o.an (vu.o.trans (hb.mono vu.o.size))) (by omega) (by omega) hM hI);have HP2:=Ux (fun wr (hb:UA w1 wr)=>(uP wr (HS.o.an (vu.o.trans (hb.mono vu.o.size))) (by omega) (by omega) hM hI).mono
  (fun e w' ⟨pf,R,h1,h2,h3,h4,h5⟩=>(⟨pf,R,h1,h2,fun k hk=>ae hb.size (h3 k hk),h4,h5⟩:∃pf R,e=Ending.returned (UH (some ⟨pf,0,none⟩))∧aW w' pf R (db ms is)∧(∀k,R.F pf k→w1.heap.size≤k)∧Rf.cY LJ R∧UA wr w')))
 rw[hS] at Ho HP2;clear hX aJ Ph hil hM hI Pn
 go_cut [4,5] (fun t4 t5 wx=>∃p1 q1 R1 v1 pf R2,t4=UH (some ⟨p1,0,none⟩)∧t5=UH (some ⟨pf,0,none⟩)∧bm wx p1 q1 R1 v1 ⟨S,0,0,[],false⟩∧(∀k,R1.Y p1 q1 k→w1.heap.size≤k)∧aW wx pf R2 S∧(∀k,R2.F pf k→w1.heap.size≤k)∧Rf.cY LJ R2∧UA w1 wx)
 case first=>
  go_region_held3 (fun w'=>(∀b o,b<w1.heap.size→w'.cell? ⟨b,o,none⟩=w1.cell? ⟨b,o,none⟩)∧UA w1 w') (first|with_reducible assumption|with_reducible exact eH _|with_reducible exact dU _|with_reducible exact eb (by assumption) (by assumption)|with_reducible exact dF (by assumption) _|with_reducible exact du (by assumption) _|with_reducible exact cX (by assumption) (by assumption)|with_reducible exact eG (by assumption) (by assumption))
   ((first
    |(go_at_call 23;((with_reducible refine(Ho.o _ (And.right (by assumption))).mono ?_);rintro e w4 ⟨p1,q1,R1,v1,Y1,rfl,eV,rfl,iM,dM⟩;have lK:=Ux (ag eV iM);clear eV iM))
    |(go_at_call 55;((with_reducible refine(HP2.o _ (And.right (by assumption))).mono ?_);rintro e w5 ⟨pf,R2,rfl,dw,ja,hlk,cK⟩;have Oi:=Ux (ag (lK.o.1.an cK) (ag dw (ag ja hlk)));clear dw ja hlk))))
  all_goals
   have hbz:UA w1 w5:=And.right (by assumption);have rX:=Ux hbz;go_wp2_with fail;go_meet;exact⟨p1,q1,R1,v1,pf,R2,rfl,rfl,Oi.o.1,lK.o.2,Oi.o.2.1,Oi.o.2.2.1,Oi.o.2.2.2,rX.o⟩
 case rest=>
  obtain⟨p1,q1,R1,v1,pf,R2,rfl,rfl,eV,iM,dw,ja,hlk,hbw⟩:=hcut;generalize wc=wb at eV dw hbw⊢;have AL:=vu.o.trans (hbw.mono vu.o.size);have hp1w:w1.heap.size≤p1:=iM p1 (.inl rfl);have hpfw:w1.heap.size≤pf:=ja pf (.inl rfl);have rK:w.heap.size≤w1.heap.size:=vu.o.size;have hne:p1≠pf:=by
   rintro rfl;have h1:=eV.bD;have h2:=dw.bD;unfold ax at h1 h2;rw[h1] at h2;injection h2 with h2;injection h2 with e1 e2 e3;revert e2;decide
  have HXb:=Ux (HX.o.an hbw);have T8:=Ux (Cg eV (HQ.o.below (AL.trans ⟨rfl,rfl,rfl,by simp,fun k hk=>Below.heap_setCell _ _ _ k (by simp only;omega)⟩) (aa _)) (by have:=HL4.o;omega));obtain⟨cc,cf,cz⟩:=(HX.o.an hbw).facts;have HZ:=Ux (ag iM (ag ja (ag hlk (ag dw (ag eV AL)))));clear eV iM dw ja hlk hbw AL bc bf bz;go_wp2_with fail;refine T8.o.mono ?_;rintro e w2 ⟨rfl,pv',xV,oy⟩;obtain⟨iM,ja,hlk,dw,eV,AL⟩:=HZ.o;have gN:aW w2 pf R2 S:=dw.mod oy (fun k o hk ho=>by
   subst hk;have h1:=eV.bD;unfold ax at h1;rw[h1] at ho;injection ho with ho;subst ho;exact⟨rfl,fun cur e=>by injection e with e1 e2;revert e2;decide⟩)
  have ob:=HXb.o.mod oy (show¬w.heap.size=p1 by have:=HX.o.lt;omega);obtain⟨dc,df,dz⟩:=ob.facts;obtain⟨gc,gf,gz⟩:=gN.bD.facts;have HT:=Ux (ag xV (ag gN oy));clear iM ja hlk dw eV AL xV gN oy ob cc cf cz;go_wp2_with fail;go_ret2;obtain⟨iM,ja,hlk,-,-,AL⟩:=HZ.o;obtain⟨xV,gN,oy⟩:=HT.o;have p7:Mod (fun k=>k=pf) w2 (w2.setCell ⟨pf,5,none⟩ (UG pa pn pc)):=(Mod.refl (fun k=>k=pf) w2).setCell (a:=⟨pf,5,none⟩) (.inl rfl) _;have yU:=oy.size;have p8:=p7.size;have hwb:=AL.size;refine⟨p1,q1,R1,pv',pf,{R2 with pl:=UG pa pn pc},rfl,⟨xV.other gN.bD rfl (by decide) (by decide) (by decide) p7,gN.RM _,hlk.now,hlk.jc,rfl,hlk.dd,fun k hk=>ae rK (iM k hk),fun k hk=>ae rK (ja k hk),?_⟩⟩;exact AL.trans ((oy.below (fun k hk=>by omega) hwb).trans (p7.below (fun k hk=>by omega) (by omega)))
end
section
open Go.RowKit Go.Shelf
attribute [local go_sem] Oper.semAt_some
def qU(ms:List Mt)(is:List It)(dt pt tx:ByteArray)(pl:List (Int×Int)):Bool:=decide (nF ms is 30=true∧dt.size≤300∧pt.size≤300∧tx.size≤300∧pl.length≤4)
theorem AZ{ms:List Mt}{is:List It}{dt pt tx:ByteArray}{pl:List (Int×Int)}(h:qU ms is dt pt tx pl=true):nF ms is 30=true∧dt.size≤300∧pt.size≤300∧tx.size≤300∧pl.length≤4:=of_decide_eq_true h
theorem Gm(w:World){ma:Option Addr}{mn mc:Nat}{ia:Option Addr}{il ic:Nat}{ms:List Mt}{is:List It}(h:nh w ma mn mc ia il ic ms is)(u g:Int)(dt pt tx:ByteArray)(no now:Int){pa:Option Addr}{pn pc:Nat}{pl:List (Int×Int)}(hpl:pl.length=pn) :
  Calls Tryz.prog 5 #[UJ #[UG ma mn mc,UG ia il ic,UE UL u,UE UL g,UF dt,UF pt,UF tx,UE UL no,UE UL now,UG pa pn pc]] w fun e w'=>e=.returned (.bool (qU ms is dt pt tx pl))∧UA w w':=by
 obtain⟨hB,hb⟩:=Uz w #[UG ma mn mc,UG ia il ic,UE UL u,UE UL g,UF dt,UF pt,UF tx,UE UL no,UE UL now,UG pa pn pc] 30;have HF:=Ux (Gp _ (h.an ((Below.refl _ w).alloc (aa _) (.cells #[UG ma mn mc,UG ia il ic,UE UL u,UE UL g,UF dt,UF pt,UF tx,UE UL no,UE UL now,UG pa pn pc] 30))) 30);have HE:=Ux (show qU ms is dt pt tx pl=decide (nF ms is 30=true∧dt.size≤300∧pt.size≤300∧tx.size≤300∧pl.length≤4) from rfl);rw[hpl] at HE;generalize qU ms is dt pt tx pl=fb at HE⊢;clear h hpl;go_enter Tryz.func5,Tryz.ntmps5;go_wp2_with fail;refine HF.o.mono ?_;rintro e w1 ⟨rfl,av⟩;have fR:=hB.an av;have HB:=Ux (ar hb av);obtain⟨bc,bf,bz⟩:=fR.facts;clear hB hb av fR
 cases hf:nF ms is 30 with
 |false=>
  rw[hf] at HE;have HG:=Ux (show fb=false by rw[HE.o];simp);clear hf;go_wp2_with fail;go_ret;exact⟨by rw[HG.o];(try rfl),HB.o⟩
 |true=>
  rw[hf] at HE;clear hf;by_cases h1:dt.size≤300
  ·have o8:(dt.size:Int)≤300:=by omega
   by_cases h2:pt.size≤300
   ·have kR:(pt.size:Int)≤300:=by omega
    by_cases h3:tx.size≤300
    ·have tR:(tx.size:Int)≤300:=by omega
     by_cases hp:pn≤4
     ·have F1:(pn:Int)≤4:=by omega
      have HG:=Ux (show fb=true by rw[HE.o];simp[h1,h2,h3,hp]);go_wp2_with fail;go_ret;exact⟨by rw[HG.o];(try rfl),HB.o⟩
     ·have F1:¬(pn:Int)≤4:=by omega
      have HD:=Ux (decide_eq_false F1);have HG:=Ux (show fb=false by rw[HE.o];simp[h1,h2,h3,hp]);go_wp2_with fail;go_ret;refine⟨?_,HB.o⟩;rw[HG.o];show Ending.returned (.bool (decide ((pn:Int)≤4)))=_;rw[HD.o]
    ·have tR:¬(tx.size:Int)≤300:=by omega
     have HG:=Ux (show fb=false by rw[HE.o];simp[h3]);go_wp2_with fail;go_ret;exact⟨by rw[HG.o];(try rfl),HB.o⟩
   ·have kR:¬(pt.size:Int)≤300:=by omega
    have HG:=Ux (show fb=false by rw[HE.o];simp[h2]);go_wp2_with fail;go_ret;exact⟨by rw[HG.o];(try rfl),HB.o⟩
  ·have o8:¬(dt.size:Int)≤300:=by omega
   have HG:=Ux (show fb=false by rw[HE.o];simp[h1]);go_wp2_with fail;go_ret;exact⟨by rw[HG.o];(try rfl),HB.o⟩
section
variable{w w':World}{pf pw:Nat}{R:Rp}{pv:Value}{Y:Sy}
theorem EY(h:bm w pf pw R pv Y)(hy:0≤Y.now)(n:Int)(h0:0≤n)(h1:n≤253402300799-Y.now) :
  Calls Tryz.prog 24 #[UH (some ⟨pf,0,none⟩),UE UL n] w fun e w'=>e=.returned (UE UL 0)∧bm w' pf pw R pv {Y with now:=Y.now+n}∧Mod (fun k=>k=pf) w w':=by
 have HN:=Ux (gK h);have HY:=Ux h;obtain⟨pc,pf',pz⟩:=h.bD.facts;have hw:IntKind.i64.wrap (Y.now+n)=Y.now+n:=by simp[IntKind.wrap,IntKind.bits,IntKind.signed];omega
 have xQ:IntKind.i64.wrap (253402300799-Y.now)=253402300799-Y.now:=by simp[IntKind.wrap,IntKind.bits,IntKind.signed];omega
 have h2:¬n<0:=by omega
 have h3:¬253402300799-Y.now<n:=by omega
 clear h;go_enter Tryz.func24,Tryz.ntmps24;go_wp2_with fail;refine HN.o.mono ?_;rintro e w1 ⟨rfl,rfl⟩;go_wp2_with fail;go_ret;exact⟨rfl,HY.o.vx ((Mod.refl (fun k=>k=pf) w).setCell (a:=⟨pf,1,none⟩) (.inl rfl) _) rfl rfl (HY.o.bD.set 1 _),(Mod.refl (fun k=>k=pf) w).setCell (a:=⟨pf,1,none⟩) (.inl rfl) _⟩
end
theorem aW.OT{w:World}{pf:Nat}{R:Rf}{S:Fs}(h:aW w pf R S)(v:Int):aW (w.setCell ⟨pf,3,none⟩ (UE UL v)) pf {R with now:=v} S:=by
 have hm:Mod (fun k=>k=pf) w (w.setCell ⟨pf,3,none⟩ (UE UL v)):=(Mod.refl (fun k=>k=pf) w).setCell (a:=⟨pf,3,none⟩) (.inl rfl) _;have hM:Mod (R.F pf) w (w.setCell ⟨pf,3,none⟩ (UE UL v)):=hm.mono (fun k hk=>.inl hk);refine⟨h.bD.set 3 _,bY h.ti hm (fun k hk e=>?_),bY h.fJ hm (fun k hk e=>?_),h.ns,fun x hx=>(h.au x hx).rf h (aS.dH hM)⟩
 ·obtain⟨-,hc⟩:=aH h.ti e;exact dJ hc h.bD (by decide) hk.symm
 ·obtain⟨-,hc⟩:=aH h.fJ e;exact dJ hc h.bD (by decide) hk.symm
def s'(n:Int):Int:=if 0≤n∧n≤253402300799 then n else 0
structure KL(w0 w:World)(S:Fs)(nw:Int)(pl:List (Int×Int))(vp:Value)(p1 q1:Nat)(R1:Rp)(v1:Value)(pf:Nat)(R2:Rf):Prop where
 y:bm w p1 q1 R1 v1 ⟨S,nw,0,pl,false⟩
 r:aW w pf R2 S
 now:R2.now=nw
 jc:R2.jc=UE UL 0
 cC:R2.pl=vp
 dd:R2.dd=.bool false
 f1:∀k,R1.Y p1 q1 k→w0.heap.size≤k
 f2:∀k,R2.F pf k→w0.heap.size≤k
 below:UA w0 w
theorem Du(w:World){ma:Option Addr}{mn mc:Nat}{ia:Option Addr}{il ic:Nat}{ms:List Mt}{is:List It}(h:nh w ma mn mc ia il ic ms is)(u g:Int)(dt pt tx:ByteArray)(no now:Int){pa:Option Addr}{pn pc:Nat}{pl:List (Int×Int)}(hpl:bF w 2 ng pa pn pc pl)(hf:qU ms is dt pt tx pl=true) :
  Calls Tryz.prog 8 #[UJ #[UG ma mn mc,UG ia il ic,UE UL u,UE UL g,UF dt,UF pt,UF tx,UE UL no,UE UL now,UG pa pn pc]] w fun e w'=>∃p1 q1 R1 v1 pf R2,e=.returned (UK #[UH (some ⟨p1,0,none⟩),UH (some ⟨pf,0,none⟩)])∧KL w w' (db ms is) (s' now) pl (UG pa pn pc) p1 q1 R1 v1 pf R2:=by
 obtain⟨ja,-,-,-,NX⟩:=AZ hf;have SK:J1 ms is ⟨#[]⟩ pl=true:=decide_eq_true ⟨ja,by decide,NX⟩;obtain⟨hX,aJ⟩:=Uz w #[UG ma mn mc,UG ia il ic,UE UL u,UE UL g,UF dt,UF pt,UF tx,UE UL no,UE UL now,UG pa pn pc] 30;have Rx:=Ux (Dw _ (h.an ((Below.refl _ w).alloc (aa _) (.cells #[UG ma mn mc,UG ia il ic,UE UL u,UE UL g,UF dt,UF pt,UF tx,UE UL no,UE UL now,UG pa pn pc] 30))) 0 0 0 0 ⟨#[]⟩ (bF.below hpl ((Below.refl _ w).alloc (aa _) (.cells #[UG ma mn mc,UG ia il ic,UE UL u,UE UL g,UF dt,UF pt,UF tx,UE UL no,UE UL now,UG pa pn pc] 30)) (aa _)) false SK);generalize db ms is=S at Rx⊢;clear h hpl hf ja NX SK;go_enter Tryz.func8,Tryz.ntmps8;go_upto_region 1 with fail;generalize w.alloc _=w1 at hX aJ Rx⊢;have HX:=Ux hX;have dX:=Ux aJ;obtain⟨xc,xf,xz⟩:=hX.facts;clear hX aJ;go_wp2_with fail;refine Rx.o.mono ?_;rintro e w2 ⟨p1,q1,R1,v1,pf,R2,rfl,yj⟩;have HB:=Ux yj;have DC:=Ux (HX.o.an yj.below);have ij:=dX.o.size;have HW:=Ux (dX.o.trans (yj.below.mono ij));clear yj xc xf xz;obtain⟨xc,xf,xz⟩:=DC.o.facts;by_cases hn:0≤now∧now≤253402300799
 ·obtain⟨h0,h1⟩:=hn;have HE:=Ux (show s' now=now from if_pos ⟨h0,h1⟩);have HT:=Ux (EY HB.o.y (Int.le_refl 0) now h0 (by show now≤253402300799-0;omega));dsimp only at HT;have hz:(0:Int)+now=now:=by omega
  rw[hz] at HT;go_wp2_with fail;refine HT.o.mono ?_;rintro e w3 ⟨rfl,pI,p7⟩;have hne:p1≠pf:=by
   rintro rfl;have h1:=HB.o.y.bD;have h2:=HB.o.r.bD;unfold ax at h1 h2;rw[h1] at h2;injection h2 with h2;injection h2 with e1 e2 e3;revert e2;decide
  have gN:aW w3 pf R2 S:=HB.o.r.mod p7 (fun k o hk ho=>by
   subst hk;have h1:=HB.o.y.bD;unfold ax at h1;rw[h1] at ho;injection ho with ho;subst ho;exact⟨rfl,fun cur e=>by injection e with e1 e2;revert e2;decide⟩)
  have ob:=DC.o.mod p7 (show¬w.heap.size=p1 by have:=HX.o.lt;have:=HB.o.f1 p1 (.inl rfl);omega);have HY:=Ux (ag pI (ag gN p7));obtain⟨gc,gf,gz⟩:=gN.bD.facts;clear pI p7 gN xc xf xz;obtain⟨xc,xf,xz⟩:=ob.facts;clear ob;go_wp2_with fail;go_ret2;rw[HE.o];have hm4:Mod (fun k=>k=pf) w3 (w3.setCell ⟨pf,3,none⟩ (UE UL now)):=(Mod.refl (fun k=>k=pf) w3).setCell (a:=⟨pf,3,none⟩) (.inl rfl) _;have F1:=HB.o.f1 p1 (.inl rfl);have hpf:=HB.o.f2 pf (.inl rfl);have ib:=HB.o.below.size;have tH:=HY.o.2.2.size;have hsw:=dX.o.size;refine⟨p1,q1,R1,v1,pf,{R2 with now:=now},rfl,⟨HY.o.1.other HY.o.2.1.bD rfl (by decide) (by decide) (by decide) hm4,HY.o.2.1.OT now,rfl,HB.o.jc,HB.o.cC,HB.o.dd,fun k hk=>ae hsw (HB.o.f1 k hk),fun k hk=>ae hsw (HB.o.f2 k hk),?_⟩⟩;exact HW.o.trans ((HY.o.2.2.below (fun k hk=>by omega) (by omega)).trans (hm4.below (fun k hk=>by omega) (by omega)))
 ·have HE:=Ux (show s' now=0 from if_neg hn);have hfin:KL w w2 S (s' now) pl (UG pa pn pc) p1 q1 R1 v1 pf R2:=by
   rw[HE.o];exact⟨HB.o.y,HB.o.r,HB.o.now,HB.o.jc,HB.o.cC,HB.o.dd,fun k hk=>ae ij (HB.o.f1 k hk),fun k hk=>ae ij (HB.o.f2 k hk),HW.o⟩
  have gm:=Ux hfin;clear hfin;by_cases h0:0≤now
  ·have h1:¬now≤253402300799:=fun h=>hn ⟨h0,h⟩;clear hn;go_wp2_with fail;go_ret2
   first|exact⟨p1,q1,R1,v1,pf,R2,rfl,gm.o⟩|exact⟨p1,q1,R1,v1,pf,rfl,R2,gm.o⟩
  ·clear hn;go_wp2_with fail;go_ret2
   first|exact⟨p1,q1,R1,v1,pf,R2,rfl,gm.o⟩|exact⟨p1,q1,R1,v1,pf,rfl,R2,gm.o⟩
end
section
open Go.RowKit
end
section
open Go.RowKit
section
variable{w w':World}{pw pf:Nat}{R:Rp}{Q:Rf}{S:Fs}
end
end
section
open Go.RowKit Go.Shelf
section
variable{w w':World}{pf pw:Nat}{R:Rp}{pv:Value}{Y:Sy}
end
end
end Go.Proofs.YtabbjaomlmnnhaaGreat
