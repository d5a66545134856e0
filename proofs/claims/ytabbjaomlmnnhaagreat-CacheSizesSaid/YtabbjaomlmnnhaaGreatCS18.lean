import Derived.Test.YtabbjaomlmnnhaaGreatCS17
import Derived.Test.YtabbjaomlmnnhaaGreatCS11
import Derived.Test.YtabbjaomlmnnhaaGreatCS12
import Derived.Test.YtabbjaomlmnnhaaGreatCS3
import Derived.Test.YtabbjaomlmnnhaaGreatCS13
import Derived.Test.YtabbjaomlmnnhaaGreatCS10
import Derived.Test.YtabbjaomlmnnhaaGreatCS16
import Derived.Test.YtabbjaomlmnnhaaGreatCS8
set_option linter.unusedVariables false
set_option linter.unusedSimpArgs false
set_option maxRecDepth 100000
set_option maxHeartbeats 16000000
namespace Go.Proofs.YtabbjaomlmnnhaaGreat
section
open Go.RowKit
def l6(ms:List Mt)(is:List It)(n:Int):Bool:=decide (ms.length≤10∧(is.length:Int)≤n∧(∀m∈ms,m.path.size≤300)∧∀x∈is,x.path.size≤300∧x.data.size≤1500)
theorem yl{ms:List Mt}{is:List It}{n:Int}(h:l6 ms is n=true):ms.length≤10∧(is.length:Int)≤n∧(∀m∈ms,m.path.size≤300)∧∀x∈is,x.path.size≤300∧x.data.size≤1500:=of_decide_eq_true h
theorem Dy(w:World){ma:Option Addr}{mn mc:Nat}{ia:Option Addr}{il ic:Nat}{ms:List Mt}{is:List It}(h:lO w ma mn mc ia il ic ms is)(n:Int) :
  Calls Tryz.prog 22 #[.agg #[.slice ma mn mc,.slice ia il ic],.int .i64 n] w fun e w'=>e=.returned (.bool (l6 ms is n))∧Qi w w':=by
 have hln:=h.m.1;have hli:=h.i.1;subst hln hli;obtain⟨hB,hb⟩:=Qh w #[.slice ma ms.length mc,.slice ia is.length ic] 25;have HS:=Qf (h.ak ((Below.refl _ w).alloc (aa _) (.cells #[.slice ma ms.length mc,.slice ia is.length ic] 25)));have HF:=Qf (show l6 ms is n=decide (ms.length≤10∧(is.length:Int)≤n∧(∀m∈ms,m.path.size≤300)∧∀x∈is,x.path.size≤300∧x.data.size≤1500) from rfl);have hmc:=h.m.2.1;have hmx:=h.m.2.2.1;have hic:=h.i.2.1;have hix:=h.i.2.2.1;generalize l6 ms is n=fb at HF⊢;clear h;go_enter Tryz.func22,Tryz.ntmps22;go_upto_region 1 with fail;generalize w.alloc _=W at hB hb HS⊢;have HB:=Qf hb;obtain⟨bc,bf,bz⟩:=hB.facts;clear hB hb;by_cases h1:10<ms.length
 ·have M4:(10:Int)<(ms.length:Int):=by omega
  have HE:=Qf (show fb=false by rw[HF.o,decide_eq_false_iff_not];rintro⟨h,-⟩;omega);go_wp2_with fail;go_ret;rw[HE.o];exact⟨rfl,HB.o⟩
 have M4:¬(10:Int)<(ms.length:Int):=by omega
 by_cases h2:n<(is.length:Int)
 ·have HE:=Qf (show fb=false by rw[HF.o,decide_eq_false_iff_not];rintro⟨-,h,-⟩;omega);go_wp2_with fail;go_ret;rw[HE.o];exact⟨rfl,HB.o⟩
 go_wp2_with fail
 go_loop [5] (fun t5=>∃k:Nat,k≤ms.length∧t5=.int .i64 k∧∀j (hj:j<ms.length),j<k→ms[j].path.size≤300) (fun t5=>ms.length-(intOf t5).toNat)
 case atStart=>exact⟨0,Nat.zero_le _,rfl,fun j _ h=>absurd h (Nat.not_lt_zero _)⟩
 case round=>
  obtain⟨k,hk,rfl,hbef⟩:=hrel;have JZ:=Qf hbef;clear hbef;by_cases hlt:k<ms.length
  ·obtain⟨b,off,rfl,hbl⟩:=dU HS.o.m (by omega);obtain⟨c0,-,-⟩:=kL HS.o.m k hlt;have HM:=Qf (List.getElem_mem hlt);have jR:=Qf (show∀j (hj:j<ms.length),j=k→ms[j]=ms[k] from fun j hj e=>by subst e;rfl);generalize ms[k]=m at c0 HM jR;by_cases h3:300<m.path.size
   ·have LO:(300:Int)<(m.path.size:Int):=by omega
    have HE:=Qf (show fb=false by rw[HF.o,decide_eq_false_iff_not];rintro⟨-,-,h,-⟩;have:=h m HM.o;omega);go_wp2_with fail;go_ret;rw[HE.o];exact⟨rfl,HB.o⟩
   ·have LO:¬(300:Int)<(m.path.size:Int):=by omega
    go_wp2_with fail
    go_round
    case rel=>exact⟨k+1,by omega,by go_num,fun j hj Lc=>by
     by_cases hjk:j=k
     ·rw[jR.o j hj hjk];omega
     ·exact JZ.o j hj (by omega)⟩
    case measure=>simp[intOf];omega
  ·obtain rfl:k=ms.length:=by omega
   go_wp2_with fail
   go_loop [6] (fun t6=>∃k:Nat,k≤is.length∧t6=.int .i64 k∧∀j (hj:j<is.length),j<k→is[j].path.size≤300∧is[j].data.size≤1500) (fun t6=>is.length-(intOf t6).toNat)
   case atStart=>exact⟨0,Nat.zero_le _,rfl,fun j _ h=>absurd h (Nat.not_lt_zero _)⟩
   case round=>
    obtain⟨k,hk,rfl,hbef⟩:=hrel;have HBi:=Qf hbef;clear hbef;by_cases hlt:k<is.length
    ·obtain⟨b,off,rfl,hbl⟩:=dU HS.o.i (by omega);obtain⟨c0,-,-,-,-,-,c6⟩:=kP HS.o.i k hlt;have HM:=Qf (List.getElem_mem hlt);have jR:=Qf (show∀j (hj:j<is.length),j=k→is[j]=is[k] from fun j hj e=>by subst e;rfl);generalize is[k]=it at c0 c6 HM jR;by_cases h3:300<it.path.size
     ·have LO:(300:Int)<(it.path.size:Int):=by omega
      have HE:=Qf (show fb=false by rw[HF.o,decide_eq_false_iff_not];rintro⟨-,-,-,h⟩;have:=(h it HM.o).1;omega);go_wp2_with fail;go_ret;rw[HE.o];exact⟨rfl,HB.o⟩
     ·have LO:¬(300:Int)<(it.path.size:Int):=by omega
      by_cases h4:1500<it.data.size
      ·have h4a:(1500:Int)<(it.data.size:Int):=by omega
       have HE:=Qf (show fb=false by rw[HF.o,decide_eq_false_iff_not];rintro⟨-,-,-,h⟩;have:=(h it HM.o).2;omega);go_wp2_with fail;go_ret;rw[HE.o];exact⟨rfl,HB.o⟩
      ·have h4a:¬(1500:Int)<(it.data.size:Int):=by omega
       go_wp2_with fail
       go_round
       case rel=>exact⟨k+1,by omega,by go_num,fun j hj Lc=>by
        by_cases hjk:j=k
        ·rw[jR.o j hj hjk];omega
        ·exact HBi.o j hj (by omega)⟩
       case measure=>simp[intOf];omega
    ·obtain rfl:k=is.length:=by omega
     have HE:=Qf (show fb=true by
      rw[HF.o,decide_eq_true_eq];refine⟨by omega,by omega,fun m hm=>?_,fun x hx=>?_⟩
      ·obtain⟨j,hj,rfl⟩:=List.mem_iff_getElem.1 hm;exact JZ.o j hj hj
      ·obtain⟨j,hj,rfl⟩:=List.mem_iff_getElem.1 hx;exact HBi.o j hj hj)
     go_wp2_with fail;go_ret;rw[HE.o];exact⟨rfl,HB.o⟩
end
section
open Go.RowKit
theorem iC:gb.name.size≤100000:=by show(0:Nat)≤_;omega
theorem kH{S:Fs}(hS:∀k a,S.get k=some a→a.kind=3→a.data.size≤100000)(c:Cr)(f:Bool)(k:Option (Int→Bool→List (List UInt8)→Fd×Int))
  (hk:∀g,k=some g→∀at' must l,(∀p∈l,p.length≤100000)→(g at' must l).1.name.size≤100000) :
  ∀(l:List (List UInt8)) (at':Int) (must:Bool),(∀p∈l,p.length≤100000)→(S.bY c f k l at' must).1.name.size≤100000
 | [],at',must,_=>by rw[Fs.bY];show(0:Nat)≤_;omega
 |p::l,at',must,hl=>by
  have hp:(str p).size≤100000:=by rw[cJ];exact hl p (by simp)
  have hl':∀q∈l,q.length≤100000:=fun q hq=>hl q (by simp[hq]);have ih:=kH hS c f k hk l;rw[Fs.bY]
  split
  ·exact iC
  ·split
   ·exact ih _ _ hl'
   ·split
    ·split
     ·exact hp
     ·exact iC
    ·rename_i n hn
     split
     ·rename_i Ll
      cases hkk:k with
      |none=>exact iC
      |some g=>
       simp only
       split
       ·exact iC
       ·refine hk g hkk _ _ _ (fun q hq=>?_);rcases List.mem_append.1 hq with hq|hq
        ·have h1:=j7 _ q hq;have h2:n.data.data.toList.length=n.data.size:=Array.length_toList;have h3:=hS _ n hn Ll.1;omega
        ·exact hl' q hq
     ·split
      ·exact iC
      ·split
       ·exact hp
       ·exact ih _ _ hl'
theorem oV{S:Fs}(hS:∀k a,S.get k=some a→a.kind=3→a.data.size≤100000)(c:Cr)(f:Bool):∀(h:Nat) (at':Int) (must:Bool) (l:List (List UInt8)),(∀p∈l,p.length≤100000)→(S.eA c f h at' must l).1.name.size≤100000
 |0,at',must,l,hl=>kH hS c f none (fun g h=>by cases h) l at' must hl
 |h+1,at',must,l,hl=>kH hS c f (some (S.eA c f h)) (fun g hg at' must l hl=>by injection hg with hg;subst hg;exact oV hS c f h at' must l hl) l at' must hl
theorem qS{S:Fs}{N:Nat}(hk:ax S N)(c:Cr)(s:ByteArray)(hs:s.size≤100000)(f:Bool):(S.path c s f).1.name.size≤100000:=by
 unfold Fs.path
 split
 ·exact iC
 ·refine oV (fun k a h h3=>ae ((hk.get h).1.sy h3) (by omega)) c f 8 1 _ _ (fun p hp=>?_);have h1:=j7 _ p hp;have h2:s.data.toList.length=s.size:=Array.length_toList;omega
end
section
open Go.RowKit
theorem sx(w:World){ma:Option Addr}{mn mc:Nat}{ia:Option Addr}{il ic:Nat}{ms:List Mt}{is:List It}(h:lO w ma mn mc ia il ic ms is) :
  Calls Tryz.prog 91 #[.agg #[.slice ma mn mc,.slice ia il ic]] w fun e w'=>e=.returned (.tuple #[.int .i64 (aU ms).1,.int .i64 (aU ms).2])∧Qi w w':=by
 have HS:=Qf h;have hln:=h.m.1;have hmc:=h.m.2.1;have hmx:=h.m.2.2.1;have hbx:=aq (Qj w) (.cells #[.slice ma mn mc,.slice ia il ic] 25);have hsb:=aw.new w #[.slice ma mn mc,.slice ia il ic] 25;clear h;go_enter Tryz.func91,Tryz.ntmps91;go_upto_region 1 with fail;generalize w.alloc _=X0 at hbx hsb⊢;have HX0:=Qf hbx;have HSb:=Qf hsb;clear hbx hsb;go_wp2_with fail
 go_loopw [4] (fun t4 wr=>∃k:Nat,k≤ms.length∧t4=.int .i64 k∧aU ms=aU (ms.drop k)∧Qi X0 wr) (fun t4 _=>ms.length-(intOf t4).toNat)
 case atStart=>exact⟨0,Nat.zero_le _,rfl,rfl,Below.refl _ _⟩
 case round=>
  obtain⟨k,hk,rfl,hE,hb⟩:=hrel;have HE:=Qf hE;have HB:=Qf (HX0.o.trans (hb.mono HX0.o.size));obtain⟨bc,bf,bz⟩:=(HSb.o.ak hb).facts;clear hE;by_cases hlt:k<ms.length
  ·obtain⟨b,off,rfl,hbl⟩:=dU HS.o.m (by omega);obtain⟨c0,c1,c2⟩:=kL (HS.o.m.below HB.o (aa _)) k hlt;have HQ:=Qf (nn hlt);generalize ms[k]=m at c0 c1 c2 HQ;obtain⟨mp,mb,mk⟩:=m;have hX:=aw.new wr #[.string mp,.int .i64 mb,.int .i64 mk] 125;have aI:=aq hb (.cells #[.string mp,.int .i64 mb,.int .i64 mk] 125);clear hb;go_upto_region 5 with fail;generalize wr.alloc _=X at hX aI⊢;have HX:=Qf hX;have P8:=Qf aI;have aW:=Qf (HX0.o.trans (aI.mono HX0.o.size));obtain⟨xc,xf,xz⟩:=hX.facts;clear hX aI c0 c1 c2 bc bf bz;by_cases h1:mp=ks
   ·have oC:mp.toList=[47]:=by rw[h1,bG];rfl
    have HP:=Qf h1;clear h1
    cases hlm:gl mb mk with
    |false=>
     have HN:=Qf (HE.o.trans (HQ.o.trans (if_neg (fun h=>by have h9:gl mb mk=true:=h.2;rw[hlm] at h9;cases h9))));have oR:=Qf (fun w=>j8 mb mk w);rw[hlm] at oR;clear hlm;go_wp2_with fail;refine(oR.o _).mono ?_;rintro e w3 ⟨rfl,rfl⟩;go_wp2_with fail;go_roundw
     case rel=>exact⟨k+1,by omega,by go_num,HN.o,P8.o⟩
     case measure=>simp[intOf];omega
    |true=>
     have HN:=Qf (HE.o.trans (HQ.o.trans (if_pos ⟨HP.o,hlm⟩)));have oR:=Qf (fun w=>j8 mb mk w);rw[hlm] at oR;clear hlm;have mixed:Tryz.prog.follows .mixedOrders=true:=by kernel_rfl
     go_wp2_with fail;refine(oR.o _).mono ?_;rintro e w3 ⟨rfl,rfl⟩;go_wp2_with fail
     go_region
     all_goals
      go_wp2_with fail;go_ret2;rw[HN.o];exact⟨rfl,aW.o.drew⟩
   ·have oC:(mp.toList==[47])=false:=by
     rw[bG];simp only[beq_eq_false_iff_ne,ne_eq];exact fun e=>h1 (sg e)
    have HN:=Qf (HE.o.trans (HQ.o.trans (if_neg (fun h=>h1 h.1))));go_wp2_with fail;go_roundw
    case rel=>exact⟨k+1,by omega,by go_num,HN.o,P8.o⟩
    case measure=>simp[intOf];omega
  ·obtain rfl:k=ms.length:=by omega
   have bH:=Qf (show aU ms=(65536,65536) by rw[HE.o,List.drop_length];rfl);clear hb;go_wp2_with fail;go_ret2;rw[bH.o];exact⟨rfl,HB.o⟩
theorem Ff{S:Fs}(c:Cr)(now dir:Int)(s:ByteArray)(m:Int):(S.aO c now dir s m).1.ns.length≤S.ns.length+1:=by
 have hmk:∀a,(S.make a).1.ns.length≤S.ns.length+1:=fun a=>by
  unfold Fs.make
  split
  ·simp
  ·split
   ·simp
   ·simp only
    split
    ·show(S.ns++[_]).length≤_;simp
    ·simp
 unfold Fs.aO
 split
 ·simp
 ·unfold Fs.cC
  split
  ·simp
  ·split
   ·simp
   ·split
    ·simp
    ·simp only
     split
     ·simp
     ·unfold Fs.bE
      split
      ·exact hmk _
      ·show(List.map _ _).length≤_;rw[List.length_map];exact hmk _
section
variable{w w':World}{pf:Nat}{R:Rf}{S:Fs}
theorem uJ(h:aN w pf R S){N:Nat}(hk:ax S N)(hN:N≤99990)(hgl:S.ns.length≤99990)(hnow:R.now=0)(m:Mt)(hp:m.path.size≤100000) :
  Calls Tryz.prog 93 #[.pointer (some ⟨pf,0,none⟩),.agg #[.string m.path,.int .i64 m.b,.int .i64 m.n]] w fun e w'=>e=.returned (.tuple #[])∧∃R',aN w' pf R' (bO S m)∧aR (R.F pf) (R'.F pf) w w'∧Rf.cy R R':=by
 obtain⟨O6,cH⟩:=Qh w #[.string m.path,.int .i64 m.b,.int .i64 m.n] 125;have HF:=Qf (mj (h.ak cH) hk m.path hp false);have nK:=Qf (qS hk bM m.path (by omega) false);have eS:=Qf (tJ (S:=S) (m:=m));have bH:=Qf (tI (S:=S) (m:=m));have nO:=Qf (ri (S:=S) (m:=m));have Eg:=Qf (tH (S:=S) (m:=m));generalize bO S m=Z at eS bH nO Eg⊢;generalize S.path bM m.path false=x at HF nK eS bH nO Eg;obtain⟨⟨xd,xn,xk,xs⟩,xe⟩:=x;unfold Fd.v at HF;have HH:=Qf h;have HK:=Qf hk;clear h hk;go_enter Tryz.func93,Tryz.ntmps93;go_wp2_with fail;refine HF.o.mono ?_;rintro e w1 ⟨rfl,av⟩;have Dn:=(O6.ak av).old (.cells #[.int .i64 xd,.string xn,.int .i64 xk,.bool xs] 176);have pD:=aw.new w1 #[.int .i64 xd,.string xn,.int .i64 xk,.bool xs] 176;have aI:=aq (au cH av) (.cells #[.int .i64 xd,.string xn,.int .i64 xk,.bool xs] 176);have hlw:w.heap.size<w1.heap.size:=by have:=av.size;simp at this;omega
 clear O6 cH av;go_upto_region 2 with fail;generalize w1.alloc _=X at Dn pD aI⊢;generalize w1.heap.size=D at pD hlw⊢;have G':=Qf Dn;have JK:=Qf pD;have aW:=Qf aI;obtain⟨xc,xf,xz⟩:=pD.facts;obtain⟨mc,mf,mz⟩:=Dn.facts;have D0:=Qf (HH.o.ak aI);clear Dn pD aI;by_cases he:xe=0
 ·have heb:(xe==0)=true:=by simpa using he
  subst he;by_cases hno:xk=0
  ·have hnb:(xk==0)=true:=by simpa using hno
   have HM:=Qf (wU D0.o HK.o (by omega) (by omega) xd xn (by exact nK.o) 493);rw[hnow] at HM;have vO:=Qf (bH.o rfl hno);have vN:=Qf (nO.o rfl hno)
   try dsimp only at vO
   try dsimp only at vN
   try dsimp only at HM
   have fY:=Qf (gN HK.o bM 0 xd xn 493);have HNl:=Qf (Ff (S:=S) bM 0 xd xn 493);clear eS bH nO Eg hno;generalize S.aO bM 0 xd xn 493=q at HM vO vN fY HNl;obtain⟨S1,n1,e1⟩:=q
   try dsimp only at HM
   try dsimp only at vO
   try dsimp only at vN
   try dsimp only at fY
   try dsimp only at HNl
   go_wp2_with fail;refine HM.o.mono ?_;rintro e w3 ⟨rfl,R3,ga,gU,vV⟩;have ze:=G'.o.rf D0.o gU rfl;have mF:=JK.o.rf D0.o gU rfl;have mN:=Qf (ag ga (ag ((aR.ar aW.o).trans gU) vV));have hF3:¬R3.F pf D:=fun hk=>by
    rcases gU.new D hk with h1|h1
    ·have:=HH.o.lt h1;omega
    ·have:=JK.o.lt;omega
   have vg:=ga.aside mF hF3 (by decide) 2 (.int .i64 n1);have vd:=mF.set 2 (.int .i64 n1);have MV:=ze.setOther ⟨D,2,none⟩ (.int .i64 n1) (show D≠w.heap.size by omega);have u9:aR (R.F pf) (R3.F pf) w (w3.setCell ⟨D,2,none⟩ (.int .i64 n1)):=⟨mN.o.2.1.mod.setCell (a:=⟨D,2,none⟩) (.inr (by show w.heap.size≤D;omega)) _,mN.o.2.1.new⟩;have L8:=Qf (ag vg u9);obtain⟨xc3,xf3,xz3⟩:=mF.facts;obtain⟨mc3,mf3,mz3⟩:=ze.facts;have hne:¬D=w.heap.size:=by omega
   have hne2:¬w.heap.size=D:=by omega
   by_cases h1:e1=0
   ·have Jr:(e1==0)=true:=by simpa using h1
    have HE:=Qf (vO.o h1);have Kx:=Qf (qK vg fY.o (by omega) (by have:=HNl.o;omega) n1 m.b m.n);clear xc xf xz mc mf mz ga gU vV ze mF hF3 vg vd MV u9 h1;go_wp2_with fail;refine Kx.o.mono ?_;rintro e w5 ⟨rfl,R5,gH,eJ,F1⟩;have pM:=Qf (ag gH (ag (L8.o.2.trans eJ) (mN.o.2.2.trans F1)));clear gH eJ F1;go_wp2_with fail
    go_end0
    rw[HE.o];exact⟨rfl,R5,pM.o⟩
   ·have Jr:(e1==0)=false:=by simpa using h1
    have HE:=Qf (vN.o h1);clear xc xf xz mc mf mz ga gU vV ze mF hF3 vg vd MV u9 h1;go_wp2_with fail
    go_end0
    rw[HE.o];exact⟨rfl,R3,L8.o.1,L8.o.2,mN.o.2.2⟩
  ·have hnb:(xk==0)=false:=by simpa using hno
   have HM:=Qf (qK D0.o HK.o (by omega) (by omega) xk m.b m.n);have HE:=Qf (Eg.o rfl hno)
   try dsimp only at HE
   clear eS bH nO Eg hno;go_wp2_with fail;refine HM.o.mono ?_;rintro e w3 ⟨rfl,R3,ga,gU,vV⟩;have mN:=Qf (ag ga (ag ((aR.ar aW.o).trans gU) vV));clear ga gU vV;go_wp2_with fail
   go_end0
   rw[HE.o];exact⟨rfl,R3,mN.o⟩
 ·have heb:(xe==0)=false:=by simpa using he
  have HE:=Qf (eS.o he);clear eS bH nO Eg he;go_wp2_with fail
  go_end0
  rw[HE.o];exact⟨rfl,R,D0.o,aR.ar aW.o,Rf.cy.refl R⟩
end
end
section
open Go.RowKit
section
variable{w w':World}{pf:Nat}{R:Rf}{S:Fs}
theorem wR(h:aN w pf R S){N:Nat}(hk:ax S N)(hN:N≤99990)(hgl:S.ns.length≤99990)(hnow:R.now=0)(it:It)(hp:it.path.size≤100000)(hd:it.data.size≤100000) :
  Calls Tryz.prog 94 #[.pointer (some ⟨pf,0,none⟩),.agg #[.string it.path,.int .i64 it.kind,.int .i64 it.mode,.int .i64 it.uid,.int .i64 it.gid,.int .i64 it.mtime,.string it.data]] w fun e w'=>e=.returned (.int .i64 (bS S it).2)∧∃R',aN w' pf R' (bS S it).1∧aR (R.F pf) (R'.F pf) w w'∧Rf.cy R R':=by
 obtain⟨BF,cH⟩:=Qh w #[.string it.path,.int .i64 it.kind,.int .i64 it.mode,.int .i64 it.uid,.int .i64 it.gid,.int .i64 it.mtime,.string it.data] 82;have HF:=Qf (mj (h.ak cH) hk it.path hp false);have nK:=Qf (qS hk bM it.path (by omega) false);generalize hx:S.path bM it.path false=x at HF nK;obtain⟨⟨xd,xn,xk,xs⟩,xe⟩:=x;have GD:=Qf hx;unfold Fd.v at HF;have HH:=Qf h;have HK:=Qf hk;clear h hk hx;go_enter Tryz.func94,Tryz.ntmps94;go_wp2_with fail;refine HF.o.mono ?_;rintro e w1 ⟨rfl,av⟩;have Ki:=(BF.ak av).old (.cells #[.int .i64 xd,.string xn,.int .i64 xk,.bool xs] 176);have pD:=aw.new w1 #[.int .i64 xd,.string xn,.int .i64 xk,.bool xs] 176;have aI:=aq (au cH av) (.cells #[.int .i64 xd,.string xn,.int .i64 xk,.bool xs] 176);clear BF cH av;go_upto_region 2 with fail;generalize w1.alloc _=X at Ki pD aI⊢;generalize w1.heap.size=D at pD⊢;have Nx:=Qf Ki;have JK:=Qf pD;have aW:=Qf aI;obtain⟨xc,xf,xz⟩:=pD.facts;obtain⟨ic,if',iz⟩:=Ki.facts;have D0:=Qf (HH.o.ak aI);clear Ki pD aI;by_cases he:xe=0
 ·have heb:(xe != 0)=false:=by simpa using he
  by_cases hno:xk=0
  ·have hnb:(xk != 0)=false:=by simpa using hno
   have nM:=Qf (xp (it:=it) GD.o he hno)
   try dsimp only at nM
   clear he hno;by_cases g1:it.kind=1
   ·have p1:(it.kind==1)=true:=by simpa using g1
    have HQ:=Qf (nM.o.trans (if_pos g1));have HM:=Qf (wU D0.o HK.o (by omega) (by omega) xd xn (by exact nK.o) 493);have kk:it.kind=1:=g1;clear g1;rw[hnow] at HM;go_wp2_with fail;refine HM.o.mono ?_;rintro e w3 ⟨rfl,R3,ga,gU,vV⟩;have mN:=Qf (ag ga (ag ((aR.ar aW.o).trans gU) vV));clear ga gU vV xc xf xz ic if' iz;go_wp2_with fail;go_ret;rw[HQ.o];exact⟨rfl,R3,mN.o⟩
   ·have p1:(it.kind==1)=false:=by simpa using g1
    have pN:=Qf (nM.o.trans (if_neg g1));by_cases g2:it.kind=2
    ·have p2:(it.kind==2)=true:=by simpa using g2
     have HQ:=Qf (pN.o.trans (if_pos g2));have HM:=Qf (CK D0.o HK.o (by omega) (by omega) xd xn (by exact nK.o) 420 it.data);have kk:it.kind=2:=g2;clear g2;rw[hnow] at HM;go_wp2_with fail;refine HM.o.mono ?_;rintro e w3 ⟨rfl,R3,ga,gU,vV⟩;have mN:=Qf (ag ga (ag ((aR.ar aW.o).trans gU) vV));clear ga gU vV xc xf xz ic if' iz;go_wp2_with fail;go_ret;rw[HQ.o];exact⟨rfl,R3,mN.o⟩
    ·have p2:(it.kind==2)=false:=by simpa using g2
     have sP:=Qf (pN.o.trans (if_neg g2));by_cases g3:it.kind=3
     ·have p3:(it.kind==3)=true:=by simpa using g3
      have HQ:=Qf (sP.o.trans (if_pos g3));have HM:=Qf (EP D0.o HK.o (by omega) (by omega) xd xn (by exact nK.o) it.data (by omega));have kk:it.kind=3:=g3;clear g3;rw[hnow] at HM;go_wp2_with fail;refine HM.o.mono ?_;rintro e w3 ⟨rfl,R3,ga,gU,vV⟩;have mN:=Qf (ag ga (ag ((aR.ar aW.o).trans gU) vV));clear ga gU vV xc xf xz ic if' iz;go_wp2_with fail;go_ret;rw[HQ.o];exact⟨rfl,R3,mN.o⟩
     ·have p3:(it.kind==3)=false:=by simpa using g3
      have DX:=Qf (sP.o.trans (if_neg g3));by_cases g4:it.kind=4
      ·have p4:(it.kind==4)=true:=by simpa using g4
       have Eb:=Qf (DX.o.trans (if_pos g4));have Mn:=Qf (mj D0.o HK.o it.data hd false);clear g4;generalize hy:S.path bM it.data false=y at Eb Mn;obtain⟨⟨yd,yn,yk,ys⟩,ye⟩:=y
       try dsimp only at Eb
       unfold Fd.v at Mn;clear hy;go_wp2_with fail;refine Mn.o.mono ?_;rintro e w3 ⟨rfl,bK⟩;have mF:=(JK.o.ak bK).old (.cells #[.int .i64 yd,.string yn,.int .i64 yk,.bool ys] 176);have nU:=aw.new w3 #[.int .i64 yd,.string yn,.int .i64 yk,.bool ys] 176;have cZ:=aq (au aW.o bK) (.cells #[.int .i64 yd,.string yn,.int .i64 yk,.bool ys] 176);go_upto_region 18 with fail;generalize w3.alloc _=Y at mF nU cZ⊢;have uv:=Qf cZ;have HHY:=Qf (HH.o.ak cZ);clear xc xf xz ic if' iz bK cZ;obtain⟨xc,xf,xz⟩:=mF.facts;obtain⟨yc,yf,yz⟩:=nU.facts;clear mF nU;by_cases hye:ye=0
       ·have hyb:(ye==0)=true:=by simpa using hye
        have HQ:=Qf (Eb.o.trans (if_pos hye));have HM:=Qf (CJ HHY.o HK.o (by omega) yk xd xn (by exact nK.o));rw[hnow] at HM;clear hye;go_wp2_with fail;refine HM.o.mono ?_;rintro e w5 ⟨rfl,R3,ga,gU,vV⟩;have mN:=Qf (ag ga (ag ((aR.ar uv.o).trans gU) vV));clear ga gU vV xc xf xz yc yf yz;go_wp2_with fail;go_ret;rw[HQ.o];exact⟨rfl,R3,mN.o⟩
       ·have hyb:(ye==0)=false:=by simpa using hye
        have HQ:=Qf (Eb.o.trans (if_neg hye));clear hye;go_wp2_with fail;go_ret;rw[HQ.o];exact⟨rfl,R,HHY.o,aR.ar uv.o,Rf.cy.refl R⟩
      ·have p4:(it.kind==4)=false:=by simpa using g4
       have HQ:=Qf (DX.o.trans (if_neg g4));clear g1 g2 g3 g4;go_wp2_with fail;go_ret;rw[HQ.o];exact⟨rfl,R,D0.o,aR.ar aW.o,Rf.cy.refl R⟩
  ·have hnb:(xk != 0)=true:=by simpa using hno
   by_cases h1:it.kind=1
   ·have q1:(it.kind==1)=true:=by simpa using h1
    obtain⟨na,nl,nc,-,hG⟩:=ly HH.o xk;have HG:=Qf (hG X aW.o);have hkz:(S.bl xk).kind=S.kN xk:=by
     unfold Fs.bl Fs.kN
     cases S.get xk<;>rfl
    unfold An.v at HG;have hfd:∀(a:An) (w:World),(Instr.field 149 (.agg #[.int .i64 a.no,.int .i64 a.dev,.int .i64 a.kind,.int .i64 a.mode,.int .i64 a.uid,.int .i64 a.gid,.int .i64 a.mtime,.int .i64 a.ctime,.int .i64 a.ao,.int .i64 a.up,.string a.data,.slice na nl nc]) 2).run Tryz.prog w=.ok (.int .i64 a.kind) w:=fun _ _=>by kernel_rfl
    by_cases h2:S.kN xk=1
    ·have HQ:=Qf (xo (it:=it) GD.o he hno h1 h2);have q2:((S.bl xk).kind==1)=true:=by rw[hkz];simpa using h2
     generalize S.bl xk=nd at HG q2;clear he hno h1 h2 hG hkz;go_wp2_with fail;refine HG.o.mono ?_;rintro e w3 ⟨rfl,bK⟩;have fG:=Qf (au aW.o bK);have mF:=JK.o.ak bK;clear xc xf xz ic if' iz bK;obtain⟨xc,xf,xz⟩:=mF.facts;go_wp2_with fail;go_ret;rw[HQ.o];exact⟨rfl,R,HH.o.ak fG.o,aR.ar fG.o,Rf.cy.refl R⟩
    ·have HQ:=Qf (ni (it:=it) GD.o he hno (fun h=>h2 h.2));have q2:((S.bl xk).kind==1)=false:=by rw[hkz];simpa using h2
     generalize S.bl xk=nd at HG q2;clear he hno h1 h2 hG hkz;go_wp2_with fail;refine HG.o.mono ?_;rintro e w3 ⟨rfl,bK⟩;have fG:=Qf (au aW.o bK);clear xc xf xz ic if' iz bK;go_wp2_with fail;go_ret;rw[HQ.o];exact⟨rfl,R,HH.o.ak fG.o,aR.ar fG.o,Rf.cy.refl R⟩
   ·have q1:(it.kind==1)=false:=by simpa using h1
    have HQ:=Qf (ni (it:=it) GD.o he hno (fun h=>h1 h.1));clear he hno h1;go_wp2_with fail;go_ret;rw[HQ.o];exact⟨rfl,R,D0.o,aR.ar aW.o,Rf.cy.refl R⟩
 ·have heb:(xe != 0)=true:=by simpa using he
  have HQ:=Qf (xq (it:=it) GD.o he);clear he;go_wp2_with fail;go_ret;rw[HQ.o];exact⟨rfl,R,D0.o,aR.ar aW.o,Rf.cy.refl R⟩
end
end
section
open Go.RowKit
section
variable{w w':World}{pf:Nat}{R R':Rf}{S:Fs}
theorem OI.rf{base:Nat}{v:Value}{l:List Int}(ho:OI w base v l)(h:aN w pf R S){F':Nat→Prop}(hs:aR (R.F pf) F' w w'):OI w' base v l:=
 bI ho hs.mod (fun k hk he=>by
  obtain⟨-,cur,hc⟩:=aD ho he;obtain⟨o,h1,hd⟩:=h.kind hk;rw[hc] at h1;injection h1 with h1;subst h1;rw[show mo (.cells cur 3 (0,0))=false from rfl] at hd
  cases hd)
theorem aN.oi(h:aN w pf R S){base:Nat}{v:Value}{l:List Int}(ho:OI w base v l)(hm:Mod (fun j=>v.ownBlock=some j) w w'):aN w' pf R S:=
 h.mod hm (fun k o hk ij=>by
  obtain⟨-,cur,hc⟩:=aD ho hk;rw[hc] at ij;injection ij with ij;subst ij;exact⟨rfl,fun cur e=>by cases e⟩)
structure lf(w wr:World)(pf:Nat)(S:Fs):Prop where
 st:∃R,aN wr pf R S∧Rf.cy Iq R∧∀k,R.F pf k→w.heap.size≤k
 below:Qi w wr
theorem lf.ak{wr:World}(h:lf w wr pf S)(hb:Qi wr w'):lf w w' pf S:=by
 obtain⟨⟨R,h1,h2,h3⟩,h6⟩:=h;exact⟨⟨R,h1.ak hb,h2,h3⟩,au h6 hb⟩
theorem lf.of{wr:World}(hb:Qi w wr)(hl:Rf.cy Iq R)(hF:∀k,R.F pf k→w.heap.size≤k)(hR:aN w' pf R' S)(hS:aR (R.F pf) (R'.F pf) wr w')(hL:Rf.cy R R'):lf w w' pf S:=
 ⟨⟨R',hR,hl.trans hL,hS.aX hF hb.size⟩,hb.trans (hS.below hF hb.size)⟩
theorem lf.oi{wr:World}(h:lf w wr pf S){v:Value}{l:List Int}(ho:OI wr w.heap.size v l)(hm:Mod (fun j=>v.ownBlock=some j) wr w'):lf w w' pf S:=by
 obtain⟨⟨R,h1,h2,h3⟩,h6⟩:=h;exact⟨⟨R,h1.oi ho hm,h2,h3⟩,h6.trans (hm.below (fun k hk=>(aD ho hk).1) h6.size)⟩
theorem xj{N:Nat}(h:ax S N)(hp:Pl S):S.ns.length≤N:=by
 have h1:=hp.len;have h2:=h.lN;omega
theorem Fx(S:Fs)(it:It):dQ S it=if(bS S it).2≠0 then((((bS S it).1.cD bM 0 (bS S it).2 it.uid it.gid).1.cw bM 0 (bS S it).2 it.mode).1,(bS S it).2) else bS S it:=rfl
end
theorem sw(w:World){ma:Option Addr}{mn mc:Nat}{ia:Option Addr}{il ic:Nat}{ms:List Mt}{is:List It}(h:lO w ma mn mc ia il ic ms is)(hml:ms.length≤10000)(hil:is.length≤10000)
  (hmp:∀m∈ms,m.path.size≤100000) (hip:∀x∈is,x.path.size≤100000∧x.data.size≤100000) :
  Calls Tryz.prog 55 #[.agg #[.slice ma mn mc,.slice ia il ic]] w fun e w'=>∃pf R,e=.returned (.pointer (some ⟨pf,0,none⟩))∧aN w' pf R (cU ms is)∧(∀k,R.F pf k→w.heap.size≤k)∧Rf.cy Iq R∧Qi w w':=by
 have HS:=Qf h;have HL:=Qf (sx (w.alloc (.cells #[.slice ma mn mc,.slice ia il ic] 25)) (h.ak ((Below.refl _ w).alloc (aa _) _)));have HN:=Qf (fun w=>ET (aU ms).1 (aU ms).2 (om ms) w);have HMp:=Qf hmp;have HIp:=Qf hip;have hln:=h.m.1;have hli:=h.i.1;subst hln hli;obtain⟨AF,cH⟩:=Qh w #[.slice ma ms.length mc,.slice ia is.length ic] 25;have jz:=Qf (show cU ms is=bN (aY (aQ (p7.aH 0 (aU ms).1 (aU ms).2) ms) is).1 (is.zip (aY (aQ (p7.aH 0 (aU ms).1 (aU ms).2) ms) is).2) from rfl);have fY:=Qf (ag (ax.new (aU ms).1 (aU ms).2) (Pl.new (aU ms).1 (aU ms).2));generalize p7.aH 0 (aU ms).1 (aU ms).2=S0 at HN jz fY;generalize (aU ms).1=lb at HL HN;generalize (aU ms).2=ln at HL HN;clear h hmp hip;go_enter Tryz.func55,Tryz.ntmps55;go_wp2_with fail;refine HL.o.mono ?_;rintro e w1 ⟨rfl,av⟩;have eU:=AF.ak av;have Ao:=au cH av;clear AF cH av;go_wp2_with fail;refine(HN.o _).mono ?_;rintro e w2 ⟨pf,R0,rfl,OY,Pc,Ji,aS⟩;have cT:=eU.ak aS;have O1:lf w w2 pf S0:=⟨⟨R0,OY,Ji,fun k hk=>ae Ao.size (Pc k hk)⟩,au Ao aS⟩;have GF:=Qf O1;have dS:=Qf cT;obtain⟨bc,bf,bz⟩:=cT.facts;clear eU Ao OY Ji aS Pc cT O1;go_wp2_with fail
 go_loopw [6] (fun t6 wr=>∃k:Nat,k≤ms.length∧t6=.int .i64 k∧lf w wr pf (aQ S0 (ms.take k))∧aw wr w.heap.size #[.slice ma ms.length mc,.slice ia is.length ic] 25) (fun t6 _=>ms.length-(intOf t6).toNat)
 case atStart=>exact⟨0,Nat.zero_le _,rfl,GF.o,dS.o⟩
 case round=>
  obtain⟨k,hk,rfl,hP,hB⟩:=hrel;have HP:=Qf hP;have HB:=Qf hB;clear bc bf bz;obtain⟨bc,bf,bz⟩:=hB.facts;have hbw:=hP.below;clear hP hB;by_cases hlt:k<ms.length
  ·obtain⟨b,off,rfl,hbl⟩:=dU HS.o.m (by omega);obtain⟨c0,c1,c2⟩:=kL (HS.o.m.below hbw (aa _)) k hlt;have HQ:=Qf (show aQ S0 (ms.take (k+1))=if ms[k].path=ks then aQ S0 (ms.take k) else bO (aQ S0 (ms.take k)) ms[k] by rw[List.take_succ_eq_append_getElem hlt,nk]);have jR:=Qf (HMp.o ms[k] (List.getElem_mem hlt));have iP:=Qf (show ax (aQ S0 (ms.take k)) (1+2*k)∧Pl (aQ S0 (ms.take k)) by
    have:=fe fY.o.1 (ms.take k);rw[List.length_take,Nat.min_eq_left hk] at this;exact⟨this,fY.o.2.aQ fY.o.1 _⟩)
   generalize ms[k]=m at c0 c1 c2 HQ jR;generalize jr:aQ S0 (ms.take (k+1))=S2 at HQ;have nW:=Qf jr;clear jr;generalize Au:aQ S0 (ms.take k)=Sk at HQ HP iP;have HSk:=Qf Au;clear Au hbw;by_cases h1:m.path=ks
   ·have Jr:m.path.toList=[47]:=by rw[h1,bG];rfl
    have HE:=Qf (HQ.o.trans (if_pos h1));clear h1;go_wp2_with fail;go_roundw
    case rel=>exact⟨k+1,by omega,by go_num,by rw[show aQ S0 (ms.take (k+1))=Sk from by rw[nW.o];exact HE.o];exact HP.o,HB.o⟩
    case measure=>simp[intOf];omega
   ·have Jr:(m.path.toList==[47])=false:=by
     rw[bG];simp only[beq_eq_false_iff_ne,ne_eq];exact fun e=>h1 (sg e)
    have HE:=Qf (HQ.o.trans (if_neg h1));obtain⟨⟨R,hR,hlk,hF⟩,hbw⟩:=HP.o;have HM:=Qf (uJ hR iP.o.1 (by omega) (by have:=xj iP.o.1 iP.o.2;omega) hlk.now m jR.o);have HW:=Qf (ag hR (ag hlk (ag hF hbw)));clear h1 hR hlk hF hbw;go_wp2_with fail;refine HM.o.mono ?_;rintro e w5 ⟨rfl,R5,gH,eJ,F1⟩;obtain⟨hR,hlk,hF,hbw⟩:=HW.o;have l8:=Qf (HB.o.rf hR eJ rfl);have Nq:=Qf (lf.of hbw hlk hF gH eJ F1);clear gH eJ F1 hR hlk hF hbw;go_wp2_with fail;go_roundw
    case rel=>exact⟨k+1,by omega,by go_num,by rw[show aQ S0 (ms.take (k+1))=bO Sk m from by rw[nW.o];exact HE.o];exact Nq.o,l8.o⟩
    case measure=>simp[intOf];omega
  ·obtain rfl:k=ms.length:=by omega
   rw[List.take_length] at HP;have vL:=Qf (ag (fe fY.o.1 ms) (fY.o.2.aQ fY.o.1 ms));generalize aQ S0 ms=S1 at HP vL jz;have PU:=Qf (show OI wr w.heap.size (.slice none 0 0) [] from World.ownsRow_nil _ _ _ _);clear hbw;go_wp2_with fail
   go_loopw [8,7] (fun t8 t7 wr=>∃(k:Nat) (a:Option Addr) (c:Nat),k≤is.length∧t8=.int .i64 k∧t7=.slice a k c∧OI wr w.heap.size (.slice a k c) (aY S1 (is.take k)).2∧lf w wr pf (aY S1 (is.take k)).1∧aw wr w.heap.size #[.slice ma ms.length mc,.slice ia is.length ic] 25) (fun t8 _ _=>is.length-(intOf t8).toNat)
   case atStart=>exact⟨0,_,_,Nat.zero_le _,rfl,rfl,PU.o,HP.o,HB.o⟩
   case round=>
    obtain⟨k,a,c,hk,rfl,rfl,hO,hP,hB⟩:=hrel;have HO:=Qf hO;have HP:=Qf hP;have HB:=Qf hB;clear bc bf bz;obtain⟨bc,bf,bz⟩:=hB.facts;have hbw:=hP.below;clear hP hB hO;by_cases hlt:k<is.length
    ·obtain⟨b,off,rfl,hbl⟩:=dU HS.o.i (by omega);obtain⟨c0,c1,c2,c3,c4,c5,c6⟩:=kP (HS.o.i.below hbw (aa _)) k hlt;have HQ:=Qf (show aY S1 (is.take (k+1))=((dQ (aY S1 (is.take k)).1 is[k]).1,(aY S1 (is.take k)).2++[(dQ (aY S1 (is.take k)).1 is[k]).2]) by rw[List.take_succ_eq_append_getElem hlt,o9]);have jR:=Qf (HIp.o is[k] (List.getElem_mem hlt));have iP:=Qf (show ax (aY S1 (is.take k)).1 (1+2*ms.length+k)∧Pl (aY S1 (is.take k)).1 by
      have:=iA vL.o.1 (is.take k);rw[List.length_take,Nat.min_eq_left hk] at this;exact⟨this,vL.o.2.aY vL.o.1 _⟩)
     have sS:=Qf (show(aY S1 (is.take k)).2.length=k by rw[j9,List.length_take,Nat.min_eq_left hk]);generalize is[k]=it at c0 c1 c2 c3 c4 c5 c6 HQ jR;generalize aY S1 (is.take k)=Sk at HQ HP iP HO sS;obtain⟨Sk,Lk⟩:=Sk;have hX:=aw.new wr #[.string it.path,.int .i64 it.kind,.int .i64 it.mode,.int .i64 it.uid,.int .i64 it.gid,.int .i64 it.mtime,.string it.data] 82;have aI:=(Below.refl _ wr).alloc (aa _) (.cells #[.string it.path,.int .i64 it.kind,.int .i64 it.mode,.int .i64 it.uid,.int .i64 it.gid,.int .i64 it.mtime,.string it.data] 82);clear hbw;go_upto_region 13 with fail;generalize wr.alloc _=X at hX aI⊢;have aW:=Qf (HB.o.ak aI);have JS:=Qf (HP.o.ak aI);have G8:=Qf (dD HO.o aI (aa _));have Nx:=Qf hX;obtain⟨xc,xf,xz⟩:=hX.facts;obtain⟨⟨R,hR,hlk,hF⟩,hbw⟩:=JS.o;have HM:=Qf (wR hR iP.o.1 (by omega) (by have:=xj iP.o.1 iP.o.2;omega) hlk.now it jR.o.1 jR.o.2);have HW:=Qf (ag hR (ag hlk (ag hF hbw)));have vJ:=Qf (q' iP.o.1 it);have JV:=Qf (Fx Sk it);clear hX aI c0 c1 c2 c3 c4 c5 c6 hR hlk hF hbw;go_wp2_with fail;refine HM.o.mono ?_;clear HM;rintro e w5 ⟨rfl,R5,gH,eJ,F1⟩;generalize bS Sk it=nd at gH vJ JV⊢;obtain⟨S5,no⟩:=nd;dsimp only at gH vJ JV⊢;obtain⟨hR,hlk,hF,hbw⟩:=HW.o;have GZ:=lf.of hbw hlk hF gH eJ F1;have pG:=aW.o.rf hR eJ rfl;have Jj:=Nx.o.rf hR eJ rfl;have Ax:OI w5 w.heap.size (.slice a Lk.length c) Lk:=by rw[sS.o];exact OI.rf (l:=Lk) G8.o hR eJ
     obtain⟨g,cap,W,hrun,FW,IV⟩:=Ax.app no (by rw[sS.o];omega) GZ.below.size;have O0:=GZ.oi Ax IV;have mI:=pG.oi Ax IV (by decide);have LC:=Jj.oi Ax IV (by decide);rw[sS.o] at hrun FW;have sO:=Qf hrun;have PR:=Qf O0;have vY:=Qf mI;have HIW:=Qf LC;have PT:=Qf FW;clear xc xf xz GZ gH eJ F1 hR hlk hF hbw pG Jj Ax hrun FW IV O0 mI;obtain⟨xc,xf,xz⟩:=LC.facts;clear LC;by_cases hno:no=0
     ·have hnb:(no != 0)=false:=by simpa using hno
      have HE:=Qf (JV.o.trans (if_neg (by simp[hno])));clear hno;go_wp2_with (at_builtin;refine aL rfl rfl rfl rfl sO.o ?_);go_roundw
      case rel=>
       refine⟨k+1,_,cap,by omega,by go_num,rfl,?_,?_,vY.o⟩
       ·rw[HQ.o,HE.o];exact PT.o
       ·rw[HQ.o,HE.o];exact PR.o
      case measure=>simp[intOf];omega
     ·have hnb:(no != 0)=true:=by simpa using hno
      have HE:=Qf (JV.o.trans (if_pos hno));clear hno;obtain⟨⟨R,hR,hlk,hF⟩,hbw⟩:=PR.o;have hnow:=hlk.now;have HM:=Qf (zN hR vJ.o no it.uid it.gid);rw[show R.now=0 from hnow] at HM;have HW:=Qf (ag hR (ag hlk (ag hF hbw)));clear hR hlk hF hbw hnow;go_wp2_with (at_builtin;refine aL rfl rfl rfl rfl sO.o ?_);refine HM.o.mono ?_;clear HM;rintro e w6 ⟨rfl,R6,Kg,ve,O8⟩;obtain⟨hR,hlk,hF,hbw⟩:=HW.o;have Jp:=vY.o.rf hR ve rfl;have tQ:=HIW.o.rf hR ve rfl;have O3:=OI.rf PT.o hR ve;have Kh:=lf.of hbw hlk hF Kg ve O8;have Np:=Qf Kh;have jx:=Qf Jp;have kr:=Qf tQ;have HO6:=Qf O3;clear xc xf xz Kh Jp Kg ve O8 hR hlk hF hbw O3;obtain⟨xc,xf,xz⟩:=tQ.facts;clear tQ HW;obtain⟨⟨R,hR,hlk,hF⟩,hbw⟩:=Np.o;have hnow:=hlk.now;have HM:=Qf (CB hR (rX vJ.o bM 0 no it.uid it.gid) no it.mode);rw[show R.now=0 from hnow] at HM;have HW:=Qf (ag hR (ag hlk (ag hF hbw)));clear hR hlk hF hbw hnow;go_wp2_with fail;refine HM.o.mono ?_;clear HM;rintro e w7 ⟨rfl,R7,Aw,iU,F0⟩;obtain⟨hR,hlk,hF,hbw⟩:=HW.o;have uu:=Qf (jx.o.rf hR iU rfl);have JT:=Qf (OI.rf HO6.o hR iU);have L9:=Qf (lf.of hbw hlk hF Aw iU F0);clear Aw iU F0 hR hlk hF hbw;go_wp2_with fail;go_roundw
      case rel=>
       refine⟨k+1,_,cap,by omega,by go_num,rfl,?_,?_,uu.o⟩
       ·rw[HQ.o,HE.o];exact JT.o
       ·rw[HQ.o,HE.o];exact L9.o
      case measure=>simp[intOf];omega
    ·obtain rfl:k=is.length:=by omega
     rw[List.take_length] at HP HO;have vK:=Qf (iA vL.o.1 is);have oR:=Qf (j9 S1 is);generalize aY S1 is=q at HP HO vK jz oR;obtain⟨S2,made⟩:=q;dsimp only at jz;have Aj:made.length=is.length:=oR.o;clear hbw;go_wp2_with fail
     go_loopw [11] (fun t11 wr=>∃k:Nat,k≤is.length∧t11=.int .i64 k∧OI wr w.heap.size (.slice a is.length c) made∧lf w wr pf (bN S2 ((is.zip made).take k))∧aw wr w.heap.size #[.slice ma ms.length mc,.slice ia is.length ic] 25) (fun t11 _=>is.length-(intOf t11).toNat)
     case atStart=>exact⟨0,Nat.zero_le _,rfl,HO.o,HP.o,HB.o⟩
     case round=>
      obtain⟨k,hk,rfl,hO,hP,hB⟩:=hrel;have BO:=Qf hO;have Ec:=Qf hP;have fG:=Qf hB;clear bc bf bz;obtain⟨bc,bf,bz⟩:=hB.facts;have hbw:=hP.below;clear hP hO hB;by_cases hlt:k<is.length
      ·obtain⟨b,off,rfl,hbl⟩:=dU HS.o.i (by omega);obtain⟨c0,c1,c2,c3,c4,c5,c6⟩:=kP (HS.o.i.below hbw (aa _)) k hlt;have hkm:k<made.length:=by omega
       obtain⟨g,rfl⟩:∃g,a=some ⟨g,0,none⟩:=by
        obtain⟨a1,c1,e1,-,-,hf⟩:=bC BO.o;injection e1 with e1 e2 e3;rcases hf with⟨-,h0,-⟩|⟨g,hg,-,-⟩
        ·omega
        ·exact⟨g,e1.trans hg⟩
       have vU:OI wr w.heap.size (.slice (some ⟨g,0,none⟩) made.length c) made:=by rw[Aj];exact BO.o
       have hgl:=(iI vU).2.2;have hmc:wr.cell? ⟨g,k,none⟩=some (.int .i64 made[k]):=vU.cell k hkm;have HQ:=Qf (show bN S2 ((is.zip made).take (k+1))=if made[k]≠0 then((bN S2 ((is.zip made).take k)).cA bM 0 made[k] is[k].mtime).1 else bN S2 ((is.zip made).take k) by
        rw[List.take_succ_eq_append_getElem (by rw[List.length_zip];omega),oT,List.getElem_zip])
       have iP:=Qf (nY vK.o ((is.zip made).take k));generalize is[k]=it at c0 c1 c2 c3 c4 c5 c6 HQ;generalize made[k]=no at hmc HQ;generalize bN S2 ((is.zip made).take k)=Sk at HQ Ec iP;clear hbw vU;have HMl:=Qf Aj;clear Aj;by_cases hno:no=0
       ·have hnb:(no != 0)=false:=by simpa using hno
        have HE:=Qf (HQ.o.trans (if_neg (by simp[hno])));clear hno;go_wp2_with fail;go_roundw
        case rel=>exact⟨k+1,by omega,by go_num,BO.o,by rw[HE.o];exact Ec.o,fG.o⟩
        case measure=>simp[intOf];omega
       ·have hnb:(no != 0)=true:=by simpa using hno
        have HE:=Qf (HQ.o.trans (if_pos hno));have mixed:Tryz.prog.follows .mixedOrders=true:=by kernel_rfl
        obtain⟨⟨R,hR,hlk,hF⟩,hbw⟩:=Ec.o;have hnow:=hlk.now;have HM:=Qf (Cw (hR.ak (Below.refl _ wr).drew) iP.o no it.mtime);rw[show R.now=0 from hnow] at HM;have HW:=Qf (ag hR (ag hlk (ag hF hbw)));clear hno hR hlk hF hbw hnow;go_wp2_with fail;refine aG 12 mixed (by kernel_rfl) (show bL _ from by repeat (first|exact cG|refine cF ?_|refine bR ?_|refine cd ?_)) ?_;simp only[List.take_succ_cons,List.take_zero,List.drop_succ_cons,List.drop_zero]
        repeat still_step
        refine wpStill_nil ?_;go_wp2_with fail;refine HM.o.mono ?_;clear HM;rintro e w7 ⟨rfl,R7,Aw,iU,F0⟩;obtain⟨hR,hlk,hF,hbw⟩:=HW.o;have xS:Qi wr wr.drew:=(Below.refl _ wr).drew;have JT:=Qf (OI.rf (dD BO.o xS (aa _)) (hR.ak xS) iU);have uu:=Qf ((fG.o.ak xS).rf (hR.ak xS) iU rfl);have L9:=Qf (lf.of hbw.drew hlk hF Aw iU F0);clear Aw iU F0 hR hlk hF hbw xS;go_wp2_with fail;go_roundw
        case rel=>exact⟨k+1,by omega,by go_num,JT.o,by rw[HE.o];exact L9.o,uu.o⟩
        case measure=>simp[intOf];omega
      ·obtain rfl:k=is.length:=by omega
       rw[List.take_of_length_le (by rw[List.length_zip];omega),←jz.o] at Ec;obtain⟨⟨R,hR,hlk,hF⟩,hbw⟩:=Ec.o;have HX:=Qf (show∃R,aN wr pf R (cU ms is)∧(∀k,R.F pf k→w.heap.size≤k)∧Rf.cy Iq R∧Qi w wr from⟨R,hR,hF,hlk,hbw⟩);clear hR hlk hF hbw;go_wp2_with fail;go_ret;obtain⟨R,h1,h2,h3,h4⟩:=HX.o;exact⟨pf,R,rfl,h1,h2,h3,h4⟩
end
section
open Go.RowKit Go.Shelf
attribute [local go_sem] Oper.semAt_some
def Gc(ms:List Mt)(is:List It)(nm:ByteArray)(pl:List (Int×Int)):Bool:=decide (l6 ms is 30=true∧nm.size≤300∧pl.length≤4)
theorem Gb{ms:List Mt}{is:List It}{nm:ByteArray}{pl:List (Int×Int)}(h:Gc ms is nm pl=true):l6 ms is 30=true∧nm.size≤300∧pl.length≤4:=of_decide_eq_true h
section
variable{w w':World}{pf pw:Nat}{R:Rp}{pv:Value}{Y:Sy}
theorem zD(h:bg w pf pw R pv Y){a:Option Addr}{n c:Nat}{l:List (Int×Int)}(pV:bj (w.setCell ⟨pf,2,none⟩ (.int .i64 0)) 2 lM a n c l)(hn:l.length≤1000000) :
  Calls Tryz.prog 56 #[.pointer (some ⟨pf,0,none⟩),.slice a n c] w fun e w'=>e=.returned (.tuple #[])∧∃pv',bg w' pf pw R pv' {Y with count:=0,bQ:=l}∧Mod (fun k=>k=pf) w w':=by
 have HN:=Qf (gy h);have HY:=Qf h;obtain⟨v,W,hrun,hown,lK⟩:=BH pV hn;obtain⟨a1,c1,rfl,-,-,-⟩:=bC hown;have eU:=h.aZ.set 2 (.int .i64 0);have mI:=eU.ak lK;have HR:=Qf hrun;have HX:=Qf (ag hown (ag lK mI));obtain⟨pc,pf',pz⟩:=h.aZ.facts;obtain⟨qc,qf,qz⟩:=mI.facts;clear h pV hrun hown lK eU mI;go_enter Tryz.func56,Tryz.ntmps56;go_wp2_with (first|(go_at_call 41;((with_reducible refine HN.o.mono ?_);rintro e w1 ⟨rfl,rfl⟩))|(at_builtin;refine aL rfl rfl rfl rfl HR.o ?_))
 go_end0
 obtain⟨hown,lK,mI⟩:=HX.o;have fR:=(Mod.refl (fun k=>k=pf) w).setCell (a:=⟨pf,2,none⟩) (.inl rfl) (.int .i64 0);have hm:=(fR.trans (Mod.ar lK)).setCell (a:=⟨pf,3,none⟩) (.inl rfl) (.slice a1 l.length c1);have hlt:pf<(w.setCell ⟨pf,2,none⟩ (.int .i64 0)).heap.size:=by simpa [World.setCell] using HY.o.aZ.lt
 refine⟨rfl,.slice a1 l.length c1,⟨mI.set 3 _,HY.o.wd.mod hm (fun k o hk ho=>?_),?_⟩,hm⟩
 ·subst hk;have hb:=HY.o.aZ;unfold aw at hb;rw[hb] at ho;injection ho with ho;subst ho;exact⟨rfl,fun cur e=>by cases e⟩
 ·refine uR (bI hown ((Mod.refl (fun k=>k=pf) W).setCell (a:=⟨pf,3,none⟩) (.inl rfl) _) (fun k hk he=>?_)) (Nat.zero_le _);subst hk;have:=(aD hown he).1;omega
end
theorem aN.NT{w:World}{pf:Nat}{R:Rf}{S:Fs}(h:aN w pf R S)(v:Value):aN (w.setCell ⟨pf,5,none⟩ v) pf {R with pl:=v} S:=by
 have hm:Mod (fun k=>k=pf) w (w.setCell ⟨pf,5,none⟩ v):=(Mod.refl (fun k=>k=pf) w).setCell (a:=⟨pf,5,none⟩) (.inl rfl) _;have hM:Mod (R.F pf) w (w.setCell ⟨pf,5,none⟩ v):=hm.mono (fun k hk=>.inl hk);refine⟨h.aZ.set 5 _,bI h.re hm (fun k hk e=>?_),bI h.eN hm (fun k hk e=>?_),h.ns,fun x hx=>(h.ay x hx).rf h (aR.cQ hM)⟩
 ·obtain⟨-,hc⟩:=aD h.re e;exact cP hc h.aZ (by decide) hk.symm
 ·obtain⟨-,hc⟩:=aD h.eN e;exact cP hc h.aZ (by decide) hk.symm
structure Both(w0 w:World)(S:Fs)(pl:List (Int×Int))(vp:Value)(p1 q1:Nat)(R1:Rp)(v1:Value)(pf:Nat)(R2:Rf):Prop where
 y:bg w p1 q1 R1 v1 ⟨S,0,0,pl,false⟩
 r:aN w pf R2 S
 now:R2.now=0
 mR:R2.mR=.int .i64 0
 bQ:R2.pl=vp
 dd:R2.dd=.bool false
 f1:∀k,R1.Y p1 q1 k→w0.heap.size≤k
 f2:∀k,R2.F pf k→w0.heap.size≤k
 below:Qi w0 w
theorem AU(w:World){ma:Option Addr}{mn mc:Nat}{ia:Option Addr}{il ic:Nat}{ms:List Mt}{is:List It}(h:lO w ma mn mc ia il ic ms is)(u g at' to':Int)(nm:ByteArray){pa:Option Addr}{pn pc:Nat}{pl:List (Int×Int)}(hpl:bj w 2 lM pa pn pc pl)(ke:Bool)(hf:Gc ms is nm pl=true) :
  Calls Tryz.prog 25 #[.agg #[.slice ma mn mc,.slice ia il ic,.int .i64 u,.int .i64 g,.int .i64 at',.int .i64 to',.string nm,.slice pa pn pc,.bool ke]] w fun e w'=>∃p1 q1 R1 v1 pf R2,e=.returned (.tuple #[.pointer (some ⟨p1,0,none⟩),.pointer (some ⟨pf,0,none⟩)])∧Both w w' (cU ms is) pl (.slice pa pn pc) p1 q1 R1 v1 pf R2:=by
 obtain⟨jf,-,Kc⟩:=Gb hf;obtain⟨Lb,Lg,hmp,hip⟩:=yl jf;have hil:is.length≤30:=by omega
 have hM:∀m∈ms,m.path.size≤100000:=fun m hm=>ae (hmp m hm) (by omega);have hI:∀x∈is,x.path.size≤100000∧x.data.size≤100000:=fun x hx=>by
  have:=hip x hx;omega
 obtain⟨hX,aI⟩:=Qh w #[.slice ma mn mc,.slice ia il ic,.int .i64 u,.int .i64 g,.int .i64 at',.int .i64 to',.string nm,.slice pa pn pc,.bool ke] 86;have HS:=Qf h;have HQ:=Qf hpl;have HL4:=Qf Kc;obtain⟨S,hS⟩:∃S,cU ms is=S:=⟨_,rfl⟩;rw[hS];clear h hpl hf jf Kc hmp hip;go_enter Tryz.func25,Tryz.ntmps25;go_upto_region 1 with fail;generalize w.alloc _=w1 at hX aI⊢;have sW:=Qf aI;have HX:=Qf hX;obtain⟨bc,bf,bz⟩:=hX.facts;have Ed:=Qf (fun wr (hb:Qi w1 wr)=>tA wr (HS.o.ak (sW.o.trans (hb.mono sW.o.size))) (by omega) (by omega) hM hI);have HP2:=Qf (fun wr (hb:Qi w1 wr)=>(sw wr (HS.o.ak (sW.o.trans (hb.mono sW.o.size))) (by omega) (by omega) hM hI).mono
  (fun e w' ⟨pf,R,h1,h2,h3,h4,h5⟩=>(⟨pf,R,h1,h2,fun k hk=>ae hb.size (h3 k hk),h4,h5⟩:∃pf R,e=Ending.returned (.pointer (some ⟨pf,0,none⟩))∧aN w' pf R (cU ms is)∧(∀k,R.F pf k→w1.heap.size≤k)∧Rf.cy Iq R∧Qi wr w')))
 rw[hS] at Ed HP2;clear hX aI Lb hil hM hI Lg
 go_cut [4,5] (fun t4 t5 wx=>∃p1 q1 R1 v1 pf R2,t4=.pointer (some ⟨p1,0,none⟩)∧t5=.pointer (some ⟨pf,0,none⟩)∧bg wx p1 q1 R1 v1 ⟨S,0,0,[],false⟩∧(∀k,R1.Y p1 q1 k→w1.heap.size≤k)∧aN wx pf R2 S∧(∀k,R2.F pf k→w1.heap.size≤k)∧Rf.cy Iq R2∧Qi w1 wx)
 case first=>
  go_region_held3 (fun w'=>(∀b o,b<w1.heap.size→w'.cell? ⟨b,o,none⟩=w1.cell? ⟨b,o,none⟩)∧Qi w1 w') (first|with_reducible assumption|with_reducible exact dJ _|with_reducible exact cV _|with_reducible exact dg (by assumption) (by assumption)|with_reducible exact cO (by assumption) _|with_reducible exact cL (by assumption) _|with_reducible exact cq (by assumption) (by assumption)|with_reducible exact dI (by assumption) (by assumption))
   ((first
    |(go_at_call 23;((with_reducible refine(Ed.o _ (And.right (by assumption))).mono ?_);rintro e w4 ⟨p1,q1,R1,v1,Y1,rfl,eF,rfl,gY,cZ⟩;have lI:=Qf (ag eF gY);clear eF gY))
    |(go_at_call 55;((with_reducible refine(HP2.o _ (And.right (by assumption))).mono ?_);rintro e w5 ⟨pf,R2,rfl,dq,jf,hlk,bU⟩;have Kr:=Qf (ag (lI.o.1.ak bU) (ag dq (ag jf hlk)));clear dq jf hlk))))
  all_goals
   have hbz:Qi w1 w5:=And.right (by assumption);have qg:=Qf hbz;go_wp2_with fail;go_meet;exact⟨p1,q1,R1,v1,pf,R2,rfl,rfl,Kr.o.1,lI.o.2,Kr.o.2.1,Kr.o.2.2.1,Kr.o.2.2.2,qg.o⟩
 case rest=>
  obtain⟨p1,q1,R1,v1,pf,R2,rfl,rfl,eF,gY,dq,jf,hlk,hbw⟩:=hcut;generalize wc=wb at eF dq hbw⊢;have xO:=sW.o.trans (hbw.mono sW.o.size);have hp1w:w1.heap.size≤p1:=gY p1 (.inl rfl);have hpfw:w1.heap.size≤pf:=jf pf (.inl rfl);have sD:w.heap.size≤w1.heap.size:=sW.o.size;have hne:p1≠pf:=by
   rintro rfl;have h1:=eF.aZ;have h2:=dq.aZ;unfold aw at h1 h2;rw[h1] at h2;injection h2 with h2;injection h2 with e1 e2 e3;revert e2;decide
  have HXb:=Qf (HX.o.ak hbw);have PO:=Qf (zD eF (HQ.o.below (xO.trans ⟨rfl,rfl,rfl,by simp,fun k hk=>Below.heap_setCell _ _ _ k (by simp only;omega)⟩) (aa _)) (by have:=HL4.o;omega));obtain⟨cc,cf,cz⟩:=(HX.o.ak hbw).facts;have HZ:=Qf (ag gY (ag jf (ag hlk (ag dq (ag eF xO)))));clear eF gY dq jf hlk hbw xO bc bf bz;go_wp2_with fail;refine PO.o.mono ?_;rintro e w2 ⟨rfl,pv',u',nS⟩;obtain⟨gY,jf,hlk,dq,eF,xO⟩:=HZ.o;have ga:aN w2 pf R2 S:=dq.mod nS (fun k o hk ho=>by
   subst hk;have h1:=eF.aZ;unfold aw at h1;rw[h1] at ho;injection ho with ho;subst ho;exact⟨rfl,fun cur e=>by injection e with e1 e2;revert e2;decide⟩)
  have mF:=HXb.o.mod nS (show¬w.heap.size=p1 by have:=HX.o.lt;omega);obtain⟨dc,df,dz⟩:=mF.facts;obtain⟨gc,gf,gz⟩:=ga.aZ.facts;have HT:=Qf (ag u' (ag ga nS));clear gY jf hlk dq eF xO u' ga nS mF cc cf cz;go_wp2_with fail;go_ret2;obtain⟨gY,jf,hlk,-,-,xO⟩:=HZ.o;obtain⟨u',ga,nS⟩:=HT.o;have pU:Mod (fun k=>k=pf) w2 (w2.setCell ⟨pf,5,none⟩ (.slice pa pn pc)):=(Mod.refl (fun k=>k=pf) w2).setCell (a:=⟨pf,5,none⟩) (.inl rfl) _;have yZ:=nS.size;have oy:=pU.size;have hwb:=xO.size;refine⟨p1,q1,R1,pv',pf,{R2 with pl:=.slice pa pn pc},rfl,⟨u'.other ga.aZ rfl (by decide) (by decide) (by decide) pU,ga.NT _,hlk.now,hlk.mR,rfl,hlk.dd,fun k hk=>ae sD (gY k hk),fun k hk=>ae sD (jf k hk),?_⟩⟩;exact xO.trans ((nS.below (fun k hk=>by omega) hwb).trans (pU.below (fun k hk=>by omega) (by omega)))
end
section
open Go.RowKit Go.Shelf
attribute [local go_sem] Oper.semAt_some
def pj(ms:List Mt)(is:List It)(dt pt tx:ByteArray)(pl:List (Int×Int)):Bool:=decide (l6 ms is 30=true∧dt.size≤300∧pt.size≤300∧tx.size≤300∧pl.length≤4)
theorem yj{ms:List Mt}{is:List It}{dt pt tx:ByteArray}{pl:List (Int×Int)}(h:pj ms is dt pt tx pl=true):l6 ms is 30=true∧dt.size≤300∧pt.size≤300∧tx.size≤300∧pl.length≤4:=of_decide_eq_true h
theorem Dx(w:World){ma:Option Addr}{mn mc:Nat}{ia:Option Addr}{il ic:Nat}{ms:List Mt}{is:List It}(h:lO w ma mn mc ia il ic ms is)(u g:Int)(dt pt tx:ByteArray)(no now:Int){pa:Option Addr}{pn pc:Nat}{pl:List (Int×Int)}(hpl:pl.length=pn) :
  Calls Tryz.prog 5 #[.agg #[.slice ma mn mc,.slice ia il ic,.int .i64 u,.int .i64 g,.string dt,.string pt,.string tx,.int .i64 no,.int .i64 now,.slice pa pn pc]] w fun e w'=>e=.returned (.bool (pj ms is dt pt tx pl))∧Qi w w':=by
 obtain⟨hB,hb⟩:=Qh w #[.slice ma mn mc,.slice ia il ic,.int .i64 u,.int .i64 g,.string dt,.string pt,.string tx,.int .i64 no,.int .i64 now,.slice pa pn pc] 30;have HF:=Qf (Dy _ (h.ak ((Below.refl _ w).alloc (aa _) (.cells #[.slice ma mn mc,.slice ia il ic,.int .i64 u,.int .i64 g,.string dt,.string pt,.string tx,.int .i64 no,.int .i64 now,.slice pa pn pc] 30))) 30);have HE:=Qf (show pj ms is dt pt tx pl=decide (l6 ms is 30=true∧dt.size≤300∧pt.size≤300∧tx.size≤300∧pl.length≤4) from rfl);rw[hpl] at HE;generalize pj ms is dt pt tx pl=fb at HE⊢;clear h hpl;go_enter Tryz.func5,Tryz.ntmps5;go_wp2_with fail;refine HF.o.mono ?_;rintro e w1 ⟨rfl,av⟩;have eU:=hB.ak av;have HB:=Qf (au hb av);obtain⟨bc,bf,bz⟩:=eU.facts;clear hB hb av eU
 cases hf:l6 ms is 30 with
 |false=>
  rw[hf] at HE;have HG:=Qf (show fb=false by rw[HE.o];simp);clear hf;go_wp2_with fail;go_ret;exact⟨by rw[HG.o];(try rfl),HB.o⟩
 |true=>
  rw[hf] at HE;clear hf;by_cases h1:dt.size≤300
  ·have oC:(dt.size:Int)≤300:=by omega
   by_cases h2:pt.size≤300
   ·have kq:(pt.size:Int)≤300:=by omega
    by_cases h3:tx.size≤300
    ·have rH:(tx.size:Int)≤300:=by omega
     by_cases hp:pn≤4
     ·have Df:(pn:Int)≤4:=by omega
      have HG:=Qf (show fb=true by rw[HE.o];simp[h1,h2,h3,hp]);go_wp2_with fail;go_ret;exact⟨by rw[HG.o];(try rfl),HB.o⟩
     ·have Df:¬(pn:Int)≤4:=by omega
      have HD:=Qf (decide_eq_false Df);have HG:=Qf (show fb=false by rw[HE.o];simp[h1,h2,h3,hp]);go_wp2_with fail;go_ret;refine⟨?_,HB.o⟩;rw[HG.o];show Ending.returned (.bool (decide ((pn:Int)≤4)))=_;rw[HD.o]
    ·have rH:¬(tx.size:Int)≤300:=by omega
     have HG:=Qf (show fb=false by rw[HE.o];simp[h3]);go_wp2_with fail;go_ret;exact⟨by rw[HG.o];(try rfl),HB.o⟩
   ·have kq:¬(pt.size:Int)≤300:=by omega
    have HG:=Qf (show fb=false by rw[HE.o];simp[h2]);go_wp2_with fail;go_ret;exact⟨by rw[HG.o];(try rfl),HB.o⟩
  ·have oC:¬(dt.size:Int)≤300:=by omega
   have HG:=Qf (show fb=false by rw[HE.o];simp[h1]);go_wp2_with fail;go_ret;exact⟨by rw[HG.o];(try rfl),HB.o⟩
section
variable{w w':World}{pf pw:Nat}{R:Rp}{pv:Value}{Y:Sy}
theorem Cl(h:bg w pf pw R pv Y)(hy:0≤Y.now)(n:Int)(h0:0≤n)(h1:n≤253402300799-Y.now) :
  Calls Tryz.prog 24 #[.pointer (some ⟨pf,0,none⟩),.int .i64 n] w fun e w'=>e=.returned (.int .i64 0)∧bg w' pf pw R pv {Y with now:=Y.now+n}∧Mod (fun k=>k=pf) w w':=by
 have HN:=Qf (gy h);have HY:=Qf h;obtain⟨pc,pf',pz⟩:=h.aZ.facts;have hw:IntKind.i64.wrap (Y.now+n)=Y.now+n:=by simp[IntKind.wrap,IntKind.bits,IntKind.signed];omega
 have yX:IntKind.i64.wrap (253402300799-Y.now)=253402300799-Y.now:=by simp[IntKind.wrap,IntKind.bits,IntKind.signed];omega
 have h2:¬n<0:=by omega
 have h3:¬253402300799-Y.now<n:=by omega
 clear h;go_enter Tryz.func24,Tryz.ntmps24;go_wp2_with fail;refine HN.o.mono ?_;rintro e w1 ⟨rfl,rfl⟩;go_wp2_with fail;go_ret;exact⟨rfl,HY.o.sZ ((Mod.refl (fun k=>k=pf) w).setCell (a:=⟨pf,1,none⟩) (.inl rfl) _) rfl rfl (HY.o.aZ.set 1 _),(Mod.refl (fun k=>k=pf) w).setCell (a:=⟨pf,1,none⟩) (.inl rfl) _⟩
end
theorem aN.KP{w:World}{pf:Nat}{R:Rf}{S:Fs}(h:aN w pf R S)(v:Int):aN (w.setCell ⟨pf,3,none⟩ (.int .i64 v)) pf {R with now:=v} S:=by
 have hm:Mod (fun k=>k=pf) w (w.setCell ⟨pf,3,none⟩ (.int .i64 v)):=(Mod.refl (fun k=>k=pf) w).setCell (a:=⟨pf,3,none⟩) (.inl rfl) _;have hM:Mod (R.F pf) w (w.setCell ⟨pf,3,none⟩ (.int .i64 v)):=hm.mono (fun k hk=>.inl hk);refine⟨h.aZ.set 3 _,bI h.re hm (fun k hk e=>?_),bI h.eN hm (fun k hk e=>?_),h.ns,fun x hx=>(h.ay x hx).rf h (aR.cQ hM)⟩
 ·obtain⟨-,hc⟩:=aD h.re e;exact cP hc h.aZ (by decide) hk.symm
 ·obtain⟨-,hc⟩:=aD h.eN e;exact cP hc h.aZ (by decide) hk.symm
def sC(n:Int):Int:=if 0≤n∧n≤253402300799 then n else 0
structure GU(w0 w:World)(S:Fs)(nw:Int)(pl:List (Int×Int))(vp:Value)(p1 q1:Nat)(R1:Rp)(v1:Value)(pf:Nat)(R2:Rf):Prop where
 y:bg w p1 q1 R1 v1 ⟨S,nw,0,pl,false⟩
 r:aN w pf R2 S
 now:R2.now=nw
 mR:R2.mR=.int .i64 0
 bQ:R2.pl=vp
 dd:R2.dd=.bool false
 f1:∀k,R1.Y p1 q1 k→w0.heap.size≤k
 f2:∀k,R2.F pf k→w0.heap.size≤k
 below:Qi w0 w
theorem AT(w:World){ma:Option Addr}{mn mc:Nat}{ia:Option Addr}{il ic:Nat}{ms:List Mt}{is:List It}(h:lO w ma mn mc ia il ic ms is)(u g:Int)(dt pt tx:ByteArray)(no now:Int){pa:Option Addr}{pn pc:Nat}{pl:List (Int×Int)}(hpl:bj w 2 lM pa pn pc pl)(hf:pj ms is dt pt tx pl=true) :
  Calls Tryz.prog 8 #[.agg #[.slice ma mn mc,.slice ia il ic,.int .i64 u,.int .i64 g,.string dt,.string pt,.string tx,.int .i64 no,.int .i64 now,.slice pa pn pc]] w fun e w'=>∃p1 q1 R1 v1 pf R2,e=.returned (.tuple #[.pointer (some ⟨p1,0,none⟩),.pointer (some ⟨pf,0,none⟩)])∧GU w w' (cU ms is) (sC now) pl (.slice pa pn pc) p1 q1 R1 v1 pf R2:=by
 obtain⟨jf,-,-,-,Kc⟩:=yj hf;have Oz:Gc ms is ⟨#[]⟩ pl=true:=decide_eq_true ⟨jf,by decide,Kc⟩;obtain⟨hX,aI⟩:=Qh w #[.slice ma mn mc,.slice ia il ic,.int .i64 u,.int .i64 g,.string dt,.string pt,.string tx,.int .i64 no,.int .i64 now,.slice pa pn pc] 30;have NF:=Qf (AU _ (h.ak ((Below.refl _ w).alloc (aa _) (.cells #[.slice ma mn mc,.slice ia il ic,.int .i64 u,.int .i64 g,.string dt,.string pt,.string tx,.int .i64 no,.int .i64 now,.slice pa pn pc] 30))) 0 0 0 0 ⟨#[]⟩ (bj.below hpl ((Below.refl _ w).alloc (aa _) (.cells #[.slice ma mn mc,.slice ia il ic,.int .i64 u,.int .i64 g,.string dt,.string pt,.string tx,.int .i64 no,.int .i64 now,.slice pa pn pc] 30)) (aa _)) false Oz);generalize cU ms is=S at NF⊢;clear h hpl hf jf Kc Oz;go_enter Tryz.func8,Tryz.ntmps8;go_upto_region 1 with fail;generalize w.alloc _=w1 at hX aI NF⊢;have HX:=Qf hX;have dO:=Qf aI;obtain⟨xc,xf,xz⟩:=hX.facts;clear hX aI;go_wp2_with fail;refine NF.o.mono ?_;rintro e w2 ⟨p1,q1,R1,v1,pf,R2,rfl,tS⟩;have HB:=Qf tS;have A2:=Qf (HX.o.ak tS.below);have je:=dO.o.size;have HW:=Qf (dO.o.trans (tS.below.mono je));clear tS xc xf xz;obtain⟨xc,xf,xz⟩:=A2.o.facts;by_cases hn:0≤now∧now≤253402300799
 ·obtain⟨h0,h1⟩:=hn;have HE:=Qf (show sC now=now from if_pos ⟨h0,h1⟩);have HT:=Qf (Cl HB.o.y (Int.le_refl 0) now h0 (by show now≤253402300799-0;omega));dsimp only at HT;have hz:(0:Int)+now=now:=by omega
  rw[hz] at HT;go_wp2_with fail;refine HT.o.mono ?_;rintro e w3 ⟨rfl,nU,pU⟩;have hne:p1≠pf:=by
   rintro rfl;have h1:=HB.o.y.aZ;have h2:=HB.o.r.aZ;unfold aw at h1 h2;rw[h1] at h2;injection h2 with h2;injection h2 with e1 e2 e3;revert e2;decide
  have ga:aN w3 pf R2 S:=HB.o.r.mod pU (fun k o hk ho=>by
   subst hk;have h1:=HB.o.y.aZ;unfold aw at h1;rw[h1] at ho;injection ho with ho;subst ho;exact⟨rfl,fun cur e=>by injection e with e1 e2;revert e2;decide⟩)
  have mF:=A2.o.mod pU (show¬w.heap.size=p1 by have:=HX.o.lt;have:=HB.o.f1 p1 (.inl rfl);omega);have HY:=Qf (ag nU (ag ga pU));obtain⟨gc,gf,gz⟩:=ga.aZ.facts;clear nU pU ga xc xf xz;obtain⟨xc,xf,xz⟩:=mF.facts;clear mF;go_wp2_with fail;go_ret2;rw[HE.o];have hm4:Mod (fun k=>k=pf) w3 (w3.setCell ⟨pf,3,none⟩ (.int .i64 now)):=(Mod.refl (fun k=>k=pf) w3).setCell (a:=⟨pf,3,none⟩) (.inl rfl) _;have Df:=HB.o.f1 p1 (.inl rfl);have hpf:=HB.o.f2 pf (.inl rfl);have iR:=HB.o.below.size;have pb:=HY.o.2.2.size;have hsw:=dO.o.size;refine⟨p1,q1,R1,v1,pf,{R2 with now:=now},rfl,⟨HY.o.1.other HY.o.2.1.aZ rfl (by decide) (by decide) (by decide) hm4,HY.o.2.1.KP now,rfl,HB.o.mR,HB.o.bQ,HB.o.dd,fun k hk=>ae hsw (HB.o.f1 k hk),fun k hk=>ae hsw (HB.o.f2 k hk),?_⟩⟩;exact HW.o.trans ((HY.o.2.2.below (fun k hk=>by omega) (by omega)).trans (hm4.below (fun k hk=>by omega) (by omega)))
 ·have HE:=Qf (show sC now=0 from if_neg hn);have hfin:GU w w2 S (sC now) pl (.slice pa pn pc) p1 q1 R1 v1 pf R2:=by
   rw[HE.o];exact⟨HB.o.y,HB.o.r,HB.o.now,HB.o.mR,HB.o.bQ,HB.o.dd,fun k hk=>ae je (HB.o.f1 k hk),fun k hk=>ae je (HB.o.f2 k hk),HW.o⟩
  have fS:=Qf hfin;clear hfin;by_cases h0:0≤now
  ·have h1:¬now≤253402300799:=fun h=>hn ⟨h0,h⟩;clear hn;go_wp2_with fail;go_ret2
   first|exact⟨p1,q1,R1,v1,pf,R2,rfl,fS.o⟩|exact⟨p1,q1,R1,v1,pf,rfl,R2,fS.o⟩
  ·clear hn;go_wp2_with fail;go_ret2
   first|exact⟨p1,q1,R1,v1,pf,R2,rfl,fS.o⟩|exact⟨p1,q1,R1,v1,pf,rfl,R2,fS.o⟩
end
section
open Go.RowKit
end
section
open Go.RowKit
section
variable{w w':World}{pw pf:Nat}{R:Rp}{Q:Rf}{S:Fs}
end
end
section
open Go.RowKit Go.Shelf
section
variable{w w':World}{pf pw:Nat}{R:Rp}{pv:Value}{Y:Sy}
theorem tk(h:bg w pf pw R pv Y) :
  Calls Tryz.prog 61 #[.pointer (some ⟨pf,0,none⟩)] w fun e w'=>e=.returned (.bool Y.dead)∧w=w':=by
 have HN:=Qf (gy h);obtain⟨pc,-,pz⟩:=h.aZ.facts;clear h;go_enter Tryz.func61,Tryz.ntmps61;go_wp2_with fail;refine HN.o.mono ?_;rintro e w1 ⟨rfl,rfl⟩;go_wp2_with fail;go_ret;exact⟨rfl,rfl⟩
end
end
end Go.Proofs.YtabbjaomlmnnhaaGreat
