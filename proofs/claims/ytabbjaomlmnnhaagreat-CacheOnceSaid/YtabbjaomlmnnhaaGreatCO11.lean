import Derived.Test.YtabbjaomlmnnhaaGreatCO10
import Derived.Test.YtabbjaomlmnnhaaGreatCO2
import Derived.Test.YtabbjaomlmnnhaaGreatCO6
import Derived.Test.YtabbjaomlmnnhaaGreatCO4
import Derived.Test.YtabbjaomlmnnhaaGreatCO8
import Derived.Test.YtabbjaomlmnnhaaGreatCO1
import Derived.Test.YtabbjaomlmnnhaaGreatCO3
set_option linter.unusedVariables false
set_option linter.unusedSimpArgs false
set_option maxRecDepth 100000
set_option maxHeartbeats 16000000
namespace Go.Proofs.YtabbjaomlmnnhaaGreat
open Go.Value renaming int→UE,string→UF,slice→UG,pointer→UH,agg→UJ,tuple→UK
open Go.IntKind renaming i64→UL
section
open Go.RowKit
def Fd.v(x:Fd):Value:=UJ #[UE UL x.dir,UF x.name,UE UL x.no,.bool x.DO]
def Ik(Bt:Nat)(w:World):Nat:=match w.cell? ⟨Bt,4,none⟩,w.cell? ⟨Bt,5,none⟩ with
 |some (.slice _ n _),some (.int _ h)=>n+(8-h).toNat*5000
 |_,_=>0
theorem lZ{w:World}{Bt pw:Nat}{c:Cr}{k:Int}{ta:Option Addr}{tl tc:Nat}{hops:Int}{must:Bool}(h:fD w Bt pw c k ta tl tc hops must):Ik Bt w=tl+(8-hops).toNat*5000:=by
 unfold fD at h;have e4:=h.cell 4;have e5:=h.cell 5;unfold Ik;rw[e4,e5];rfl
theorem bp{tmps:Array Value}{W:World}{B:Nat}{x:Fd}{e:Int}(hb:ax W B #[UE UL x.dir,UF x.name,UE UL x.no,.bool x.DO] 176)
  (h8:tmps.getD 8 undef=UH (some ⟨B,0,none⟩)) (h9:tmps.getD 9 undef=UE UL e):(results Tryz.f124 tmps).run Tryz.prog W=.ok (UK #[x.v,UE UL e]) W:=by
 have q0:=hb.cell 0;have q1:=hb.cell 1;have q2:=hb.cell 2;have q3:=hb.cell 3;rw[Array.getD_eq_getD_getElem?] at h8 h9;simp[results,Tryz.results124,go_sem,Fd.v,h8,h9,q0,q1,q2,q3]
theorem nZ{w:World}{A B:Nat}{x y v0 v1 v2 v3:Value}(h:w.cell? ⟨A,3,none⟩=some x∧w.cell? ⟨A,6,none⟩=some y)(hne:A≠B) :
  ((((w.setCell ⟨B,0,none⟩ v0).setCell ⟨B,1,none⟩ v1).setCell ⟨B,2,none⟩ v2).setCell ⟨B,3,none⟩ v3).cell? ⟨A,3,none⟩=some x∧
  ((((w.setCell ⟨B,0,none⟩ v0).setCell ⟨B,1,none⟩ v1).setCell ⟨B,2,none⟩ v2).setCell ⟨B,3,none⟩ v3).cell? ⟨A,6,none⟩=some y:=by
 have key:((((w.setCell ⟨B,0,none⟩ v0).setCell ⟨B,1,none⟩ v1).setCell ⟨B,2,none⟩ v2).setCell ⟨B,3,none⟩ v3).heap[A]?=w.heap[A]?:=by
  rw[Below.heap_setCell _ _ _ _ hne,Below.heap_setCell _ _ _ _ hne,Below.heap_setCell _ _ _ _ hne,Below.heap_setCell _ _ _ _ hne]
 constructor
 ·rw[←h.1];simp only[World.cell?,key]
 ·rw[←h.2];simp only[World.cell?,key]
section
variable{w w':World}{pw:Nat}{R:Rp}{S:Fs}
def TrR(w:World)(pw Br Bt:Nat)(S:Fs)(c:Cr)(path:ByteArray)(f:Bool)(wr:World):Prop:=
 ∃(k:Int) (l:List (List UInt8)) (must:Bool) (hp:Nat) (ta:Option Addr) (tl tc:Nat),fD wr Bt pw c k ta tl tc hp must∧SA wr ta tl tc l∧(∀b off,ta=some ⟨b,off,none⟩→b≠Bt)∧hp≤8∧l.length≤4097*(hp+1)∧
  S.path c path f=S.ft c f (8-hp) k must l∧ax wr Br #[UE UL 0,UF ⟨#[]⟩,UE UL 0,.bool false] 176∧UA w wr
theorem I3(h:bB w pw R S){N:Nat}(hk:ay S N)(hN:N≤999999)(c:Cr)(path:ByteArray)(hp:path.size≤100000)(f:Bool) :
  Calls Tryz.prog 124 #[UH (some ⟨pw,0,none⟩),UJ #[UE UL c.u,UE UL c.g],UF path,.bool f] w fun e w'=>e=.returned (UK #[(S.path c path f).1.v,UE UL (S.path c path f).2])∧UA w w':=by
 have HW:=Ux h;have HK:=Ux hk;have ka:=Ux (fun w1 (av:UA w w1)=>iA (h.an av) hk.d1);have hnz:=hk.d1;generalize S.ds.length=n at ka hnz;have hz:((n:Int)==0)=false:=by simp;omega
 have mixed:Tryz.prog.follows .mixedOrders=true:=by kernel_rfl
 obtain⟨pc,-,pz⟩:=h.bD.facts;have ni:=Ux pc;have T8:=Ux (fun w=>FM path w (by omega));have HPE:=Ux (show S.path c path f=if eZ path≠0 then(gS,eZ path) else S.ft c f 8 1 (fx path.data.toList) (b8 path.data.toList) from rfl);have pC:=Ux (show eZ path=0→path.size≤4096 by
  unfold eZ
  split
  ·intro h;cases h
  ·split
   ·intro h;cases h
   ·split
    ·intro h;cases h
    ·intro _;omega)
 generalize eZ path=pe at T8 HPE pC;clear h hk pc;have JU:ax ((w.alloc (.cells #[UE UL c.u,UE UL c.g] 64)).alloc (.cells #[UE UL 0,UF ⟨#[]⟩,UE UL 0,.bool false] 176)) (w.heap.size+1) #[UE UL 0,UF ⟨#[]⟩,UE UL 0,.bool false] 176:=by
  have:=ax.new (w.alloc (.cells #[UE UL c.u,UE UL c.g] 64)) #[UE UL 0,UF ⟨#[]⟩,UE UL 0,.bool false] 176
  rwa [World.size_alloc] at this
 have yZ:=(ax.new w #[UE UL c.u,UE UL c.g] 64).bI (.cells #[UE UL 0,UF ⟨#[]⟩,UE UL 0,.bool false] 176);have de:=ao (ao (UB w) (.cells #[UE UL c.u,UE UL c.g] 64)) (.cells #[UE UL 0,UF ⟨#[]⟩,UE UL 0,.bool false] 176);go_enter Tryz.func124,Tryz.ntmps124;go_wp2_with fail;generalize World.alloc _ _=W0 at JU yZ de⊢;refine wp_scope_straight ?_;have cB:=Ux de;have Ld:=Ux JU;have yR:=Ux yZ;clear de JU yZ;go_wp2_with fail;refine(ka.o _ cB.o).mono ?_;rintro e w1 ⟨rfl,rfl⟩;go_wp2_with fail;refine(T8.o _).mono ?_;rintro e w1 ⟨rfl,rfl⟩;by_cases hpe:pe=0
 ·have NX:=pC.o hpe;have DF:=Ux (HPE.o.trans (if_neg (by simp[hpe])));subst hpe;have HPs:=Ux (fun w=>s9 path w);have K4:=Ux (fun w=>vD path w (by omega));clear HPE pC T8;have Um:=Ux (show Calls Tryz.prog 160 #[.func (.func 191) #[] #[UH (some ⟨W0.heap.size,0,none⟩)]] (W0.alloc (.cells #[UF path] 9)).drew (fun e w'=>(∃v,e=.returned v∧OS w' W0.heap.size v (b8 path.data.toList))∧UA W0 w') from(oN path (by omega) W0.drew).mono (fun e w' h=>⟨h.1,(Below.refl _ _).drew.trans h.2⟩));have ks:=Ux (show(b8 path.data.toList).length≤4097 by
   have h1:=jE path.data.toList;have h2:path.data.toList.length=path.size:=Array.length_toList;omega)
  generalize b8 path.data.toList=ps at DF Um ks;generalize fx path.data.toList=sl at DF K4;have yZ:=yR.o;obtain⟨cc,-,cz⟩:=yZ.facts;clear yZ;go_upto_region 6 with fail
  go_cut [11] (fun t11 wx=>∃(Bt:Nat) (ta:Option Addr) (tc:Nat),t11=UH (some ⟨Bt,0,none⟩)∧fD wx Bt pw c 1 ta ps.length tc ((0:Nat):Int) sl∧SA wx ta ps.length tc ps∧(∀b off,ta=some ⟨b,off,none⟩→b≠Bt)∧W0.heap.size≤Bt∧UA W0 wx)
  case first=>
   go_wp2_with fail;have hzz:W0.heap.size≤W0.heap.size:=aa _
   go_region_held3 (fun w'=>(∀b o,b<W0.heap.size→w'.cell? ⟨b,o,none⟩=W0.cell? ⟨b,o,none⟩)∧UA W0 w') (first|with_reducible assumption|with_reducible exact eH _|with_reducible exact dU _|with_reducible exact eb (by assumption) (by assumption)|with_reducible exact dF (by assumption) _|with_reducible exact du (by assumption) _|with_reducible exact cX (by assumption) (by assumption)|with_reducible exact eG (by assumption) (by assumption))
    ((first
     |(go_at_call 161;((with_reducible refine(HPs.o _).mono ?_);rintro e w3 ⟨rfl,rfl⟩))
     |(go_at_call 160;((with_reducible refine Um.o.mono ?_);rintro e w4 ⟨⟨v,rfl,yX⟩,dM⟩;obtain⟨a4,c4,rfl,-,-,hf4⟩:=bQ yX;have oY:=mi dM;have HX:=Ux (ag (SA.xK yX) (ag hf4 dM));clear yX dM hf4))
     |(go_at_call 162;((with_reducible refine(K4.o _).mono ?_);rintro e w5 ⟨rfl,rfl⟩))))
   all_goals
    clear oY;go_wp2_with fail;go_meet;obtain⟨rP,hf,hb⟩:=HX.o;refine⟨_,a4,c4,rfl,ax.new _ _ _,rP.an ((Below.refl _ _).alloc (aa _) _),fun b off h=>?_,hb.size,hb.alloc hb.size _⟩;rcases hf with⟨h0,-⟩|⟨g,h0,-,hg⟩
    ·rw[h0] at h;cases h
    ·rw[h0] at h;injection h with h;injection h with h1 h2;omega
  case rest=>
   obtain⟨Bt,ta,tc,rfl,hT,hS,hta,hBt,hb⟩:=hcut;generalize wc=W1 at hT hS hb⊢;have dX:=Ux (cB.o.trans (hb.mono cB.o.size));have oB:=Ux (show w.heap.size+2≤Bt by have:=Ld.o.lt;omega);have nG:=Ux (show TrR w pw (w.heap.size+1) Bt S c path f W1 from⟨1,ps,sl,0,ta,ps.length,tc,hT,hS,hta,by omega,by have:=ks.o;omega,DF.o,Ld.o.an hb,dX.o⟩);clear hT hS hta hBt hb cc cz Um ks DF HPs K4;go_wp2_with fail;refine wp_label ?_;go_wp2_with fail
   go_loopw [] (fun wr=>TrR w pw (w.heap.size+1) Bt S c path f wr) (fun wr=>Ik Bt wr)
   case atStart=>exact nG.o
   case round=>
    obtain⟨k,l,must,hp,ta,tl,tc,hT,hS,hta,QG,hll,hE,JU,hb⟩:=hrel;have HT:=Ux hT;have HS:=Ux hS;have Ns:=Ux hta;have HE:=Ux hE;have HBR:=Ux JU;have HB:=Ux hb;have HM:=Ux (lZ hT);unfold fD at hT;obtain⟨bc,bf,bz⟩:=hT.facts;have hln:=hS.len;clear hS hta hE hb hT
    cases l with
    |nil=>
     obtain rfl:tl=0:=by simpa using hln.symm
     have bS:=Ux (HE.o.trans zR);obtain⟨rc,rf,rz⟩:=JU.facts;clear JU;go_wp2_with (first|exact bodyPost_ret (bp (x:=⟨0,ByteArray.empty,k,true⟩) (e:=0) HBR.o.dA rfl rfl) rfl ⟨by rw[bS.o],aC HB.o (Nat.le_succ _)⟩|exact bM (bp (x:=⟨0,ByteArray.empty,k,true⟩) (e:=0) HBR.o.dA rfl rfl) ⟨by rw[bS.o],aC HB.o (Nat.le_succ _)⟩)
    |cons p l=>
     obtain⟨m,rfl⟩:∃m,tl=m+1:=⟨l.length,by simpa using hln.symm⟩;have hlm:l.length=m:=by simpa using hln
     have qD:=Ux hlm;obtain⟨b,off,rfl,hbl⟩:=HS.o.ej (Nat.succ_pos m);have hpc:wr.cell? ⟨b,off,none⟩=some (UF (str p)):=HS.o.cell rfl 0 (by simp);have htc:m+1≤tc∧tc≤9223372036854775807:=⟨HS.o.2.1,HS.o.2.2.1⟩;obtain⟨O7,O6⟩:=htc;have Et:=Ux hll;clear hln hlm JU hll;go_upto_region 9 with fail
     go_cut [] (fun wx=>∃(ta2:Option Addr) (tc2:Nat),fD wx Bt pw c k ta2 m tc2 hp must∧SA wx ta2 m tc2 l∧(∀b off,ta2=some ⟨b,off,none⟩→b≠Bt)∧ax wx (w.heap.size+1) #[UE UL 0,UF ⟨#[]⟩,UE UL 0,.bool false] 176∧UA w wx)
     case first=>
      by_cases h1:tc=1
      ·obtain rfl:m=0:=by omega
       subst h1;go_wp2_with fail;go_meet;exact⟨_,_,HT.o.set 4 _,(show SA wr (some ⟨b,off,none⟩) 0 0 l from by have h:=HS.o.tail rfl;simpa using h).lO Ns.o 4 _,Ns.o,HBR.o.setOther ⟨Bt,4,none⟩ _ (by have:=oB.o;show Bt≠_;omega),HB.o.setCell (show w.heap.size≤Bt by have:=oB.o;omega) _⟩
      ·have Q0:¬(tc:Int)=1:=by omega
       have BD:=Ux (show SA wr (some ⟨b,off+1,none⟩) m (tc-1) l from by have h:=HS.o.tail rfl;rw[if_neg h1] at h;exact h);have TZ:=Ux (show∀b' off',some (⟨b,off+1,none⟩:Addr)=some ⟨b',off',none⟩→b'≠Bt from fun b' off' h=>by injection h with h;injection h with h3 h4;rw[←h3];exact Ns.o b off rfl);go_wp2_with fail;go_meet;exact⟨_,_,HT.o.set 4 _,BD.o.lO TZ.o 4 _,TZ.o,HBR.o.setOther ⟨Bt,4,none⟩ _ (by have:=oB.o;show Bt≠_;omega),HB.o.setCell (show w.heap.size≤Bt by have:=oB.o;omega) _⟩
     case rest=>
      obtain⟨ta2,tc2,C0,j7,Sd,PT,aY⟩:=hcut;generalize wc=W2 at C0 j7 PT aY⊢;clear bc bf bz hpc hbl O7 O6;have T4:=Ux C0;have oA:=Ux j7;have DE:=Ux Sd;have HBR2:=Ux PT;have ei:=Ux aY;have jY:=Ux (IA (HW.o.an aY) HK.o hN c k C0 (str p));rw[eO] at jY;unfold fD at C0;obtain⟨bc,bf,bz⟩:=C0.facts;obtain⟨lb,hlb⟩:∃x:Bool,((m:Int)==0)=x:=⟨_,rfl⟩;have BG:=Ux (show lb=decide (l=[]) by
       rw[←hlb,←qD.o]
       cases l with
       |nil=>rfl
       |cons x l=>simp;omega)
      have KG:=Ux (fun he=>HE.o.trans (oJ (h:=8-hp) (l:=l) (must:=must) (f:=f) (c:=c) (S:=S) (at':=k) (p:=p) he));have HStp:=Ux (show S.step c k p=((S.step c k p).1,(S.step c k p).2) from rfl);generalize hno:(S.step c k p).1=no at jY;generalize her:(S.step c k p).2=er at jY KG;have kO:=Ux hno;have Uj:=Ux her;clear j7 Sd PT aY C0 hno her HStp;go_upto_region 12 with(go_at_call 163;((with_reducible refine jY.o.mono ?_);rintro e w3 ⟨rfl,cl⟩;have gn:=Ux cl;clear cl));have cl:=gn.o;have PS:=ei.o.trans (cl.mono ei.o.size);have G4:=Ux PS;have hT3:=T4.o.an cl;have TZ:=Ux hT3;have BD:=Ux (oA.o.an cl);have Tp:=HBR2.o.an cl;have Up:=Ux Tp;have pc3:w3.cell? ⟨pw,0,none⟩=some (UH (some ⟨R.pt,0,none⟩)):=(PS.cell (p:=⟨pw,0,none⟩) pz).trans (ni.o 0);clear bc bf bz cl PS Tp;unfold fD at hT3;clear hT3
      cases hg:S.get no with
      |none=>
       have HG:=Ux (gD (HW.o.an G4.o) hg);unfold An.v dD at HG;have BI:=Ux hg;clear hg;go_wp2_with fail;refine HG.o.mono ?_;rintro e w4 ⟨rfl,dM⟩;have aJ:=ao dM (.cells #[UE UL 0,UE UL 0,UE UL 0,UE UL 0,UE UL 0,UE UL 0,UE UL 0,UE UL 0,UE UL 0,UE UL 0,UF ByteArray.empty,UG none 0 0] 149);clear dM pc3;go_upto_region 13 with fail;generalize w4.alloc _=X at aJ⊢;have bC:=Ux (G4.o.trans (aJ.mono G4.o.size));have K2:=Ux (ax.an TZ.o aJ);have T6:=Ux (BD.o.an aJ);have gT:=Ux (Up.o.an aJ);clear aJ;by_cases he:er=0
       ·have heb:(er != 0)=false:=by simpa using he
        have nj:=Ux (show(S.step c k p).2=0 by rw[Uj.o];exact he);subst he;clear KG;by_cases hup:p=[46,46]
        ·have hup':(str p).toList=[46,46]:=by rw[cd,eO];exact hup
         have uB:=Ux (HE.o.trans (xt nj.o hup));rw[kO.o] at uB;clear hup;have D8:=K2.o;obtain⟨bc,bf,bz⟩:=ax.facts D8;clear D8;go_wp2_with fail;have Ol:=Ux (show fD (X.setCell ⟨Bt,3,none⟩ (UE UL no)) Bt pw c no ta2 m tc2 hp must from K2.o.set 3 _);go_roundw
         case rel=>exact⟨no,l,must,hp,ta2,m,tc2,Ol.o,T6.o.lO DE.o 3 _,DE.o,QG,by have:=Et.o;simp at this;omega,uB.o,gT.o.setOther ⟨Bt,3,none⟩ _ (by have:=oB.o;show Bt≠_;omega),bC.o.setCell (show w.heap.size≤Bt by have:=oB.o;omega) _⟩
         case measure=>rw[HM.o,lZ Ol.o];omega
        ·have hup':((str p).toList==[46,46])=false:=by rw[cd,eO];simpa using hup
         have uB:=Ux hup;clear hup;have D8:=K2.o;obtain⟨bc,bf,bz⟩:=ax.facts D8;have fh:=gT.o;obtain⟨rc,rf,rz⟩:=fh.facts;clear D8 fh
         cases lb with
         |true=>
          have fk:l=[]:=by have:=BG.o;simpa using this.symm
          have bS:=Ux (HE.o.trans (zS nj.o uB.o (by rw[kO.o];exact BI.o) fk));clear fk;go_wp2_with fail;have hne:Bt≠w.heap.size+1:=by have:=oB.o;omega
          have b3:X.drew.cell? ⟨Bt,3,none⟩=some (UE UL k):=bc 3;have b6:X.drew.cell? ⟨Bt,6,none⟩=some (.bool must):=bc 6
          go_region_held3 (fun w'=>w'.cell? ⟨Bt,3,none⟩=some (UE UL k)∧w'.cell? ⟨Bt,6,none⟩=some (.bool must)) (first|exact⟨b3,b6⟩|exact nZ ⟨b3,b6⟩ hne) (fail)
          go_wp2_with (first|exact bodyPost_ret (bp (x:=⟨k,str p,0,must⟩) (e:=0) gT.o.drew.dA rfl rfl) rfl ⟨by rw[bS.o],aC bC.o.drew (Nat.le_succ _)⟩|exact bM (bp (x:=⟨k,str p,0,must⟩) (e:=0) gT.o.drew.dA rfl rfl) ⟨by rw[bS.o],aC bC.o.drew (Nat.le_succ _)⟩)
         |false=>
          have fk:l≠[]:=by have:=BG.o;simpa using this.symm
          have bS:=Ux (HE.o.trans (vI nj.o uB.o (by rw[kO.o];exact BI.o) fk));clear fk;go_wp2_with (first|exact bodyPost_ret (bp (x:=gS) (e:=5) gT.o.dA rfl rfl) rfl ⟨by rw[bS.o],aC bC.o (Nat.le_succ _)⟩|exact bM (bp (x:=gS) (e:=5) gT.o.dA rfl rfl) ⟨by rw[bS.o],aC bC.o (Nat.le_succ _)⟩)
       ·have heb:(er != 0)=true:=by simpa using he
        have bS:=Ux (KG.o he);have fh:=gT.o;obtain⟨rc,rf,rz⟩:=fh.facts;clear fh he;go_wp2_with (first|exact bodyPost_ret (bp (x:=gS) (e:=er) gT.o.dA rfl rfl) rfl ⟨by rw[bS.o],aC bC.o (Nat.le_succ _)⟩|exact bM (bp (x:=gS) (e:=er) gT.o.dA rfl rfl) ⟨by rw[bS.o],aC bC.o (Nat.le_succ _)⟩)
      |some nd=>
       obtain⟨ea,el,ec,-,hG⟩:=fF HW.o hg;have HG:=Ux (hG w3 G4.o);unfold An.v at HG;have BI:=Ux hg;have Rb:=Ux ((HK.o.get hg).1.sy);clear hg hG;go_wp2_with fail;refine HG.o.mono ?_;rintro e w4 ⟨rfl,dM⟩;have aJ:=ao dM (.cells #[UE UL nd.no,UE UL nd.dev,UE UL nd.kind,UE UL nd.mode,UE UL nd.uid,UE UL nd.gid,UE UL nd.mtime,UE UL nd.ctime,UE UL nd.ak,UE UL nd.up,UF nd.data,UG ea el ec] 149);have QR:=ax.new w4 #[UE UL nd.no,UE UL nd.dev,UE UL nd.kind,UE UL nd.mode,UE UL nd.uid,UE UL nd.gid,UE UL nd.mtime,UE UL nd.ctime,UE UL nd.ak,UE UL nd.up,UF nd.data,UG ea el ec] 149;clear dM pc3;go_upto_region 13 with fail;generalize w4.alloc _=X at aJ QR⊢;have bC:=Ux (G4.o.trans (aJ.mono G4.o.size));have K2:=Ux (ax.an TZ.o aJ);have T6:=Ux (BD.o.an aJ);have gT:=Ux (Up.o.an aJ);have HNX:=Ux QR;clear aJ QR;by_cases he:er=0
       ·have heb:(er != 0)=false:=by simpa using he
        have nj:=Ux (show(S.step c k p).2=0 by rw[Uj.o];exact he);subst he;clear KG;by_cases hup:p=[46,46]
        ·have hup':(str p).toList=[46,46]:=by rw[cd,eO];exact hup
         have uB:=Ux (HE.o.trans (xt nj.o hup));rw[kO.o] at uB;clear hup;have D8:=K2.o;obtain⟨bc,bf,bz⟩:=ax.facts D8;clear D8;go_wp2_with fail;have Ol:=Ux (show fD (X.setCell ⟨Bt,3,none⟩ (UE UL no)) Bt pw c no ta2 m tc2 hp must from K2.o.set 3 _);go_roundw
         case rel=>exact⟨no,l,must,hp,ta2,m,tc2,Ol.o,T6.o.lO DE.o 3 _,DE.o,QG,by have:=Et.o;simp at this;omega,uB.o,gT.o.setOther ⟨Bt,3,none⟩ _ (by have:=oB.o;show Bt≠_;omega),bC.o.setCell (show w.heap.size≤Bt by have:=oB.o;omega) _⟩
         case measure=>rw[HM.o,lZ Ol.o];omega
        ·have hup':((str p).toList==[46,46])=false:=by rw[cd,eO];simpa using hup
         have uB:=Ux hup;clear hup;have D8:=K2.o;obtain⟨bc,bf,bz⟩:=ax.facts D8;have fh:=gT.o;obtain⟨rc,rf,rz⟩:=fh.facts;have QR:=HNX.o;obtain⟨nc,nf,nz⟩:=QR.facts;clear D8 fh QR;obtain⟨lk,hlk⟩:∃x:Bool,x=((nd.kind==3)&&(!lb||must||f)):=⟨_,rfl⟩;have yO:=Ux hlk;have pF:=Ux (show lk=true↔nd.kind=3∧(l≠[]∨must=true∨f=true) by
          rw[hlk,BG.o];simp[or_assoc])
         clear hlk;go_upto_region 21 with fail
         go_cut [111] (fun t111 wx=>t111=.bool lk∧X=wx)
         case first=>
          by_cases h3:nd.kind=3
          ·have tR:(nd.kind==3)=true:=by simpa using h3
           clear h3
           cases lb<;>cases must<;>cases f
           all_goals
            have HV:=Ux yO.o;rw[tR] at HV;go_wp2_with fail;go_meet;exact⟨by rw[HV.o];rfl,rfl⟩
          ·have tR:(nd.kind==3)=false:=by simpa using h3
           have HV:=Ux yO.o;rw[tR,Bool.false_and] at HV;clear h3;go_wp2_with fail;go_meet;exact⟨by rw[HV.o],rfl⟩
         case rest=>
          obtain⟨rfl,hwc⟩:=hcut;subst hwc;have hll9:l.length≤36873:=by have h1:=Et.o;simp only[List.length_cons] at h1;omega
          cases lk with
          |true=>
           have hlk:=pF.o.1 rfl;have hdz:=Rb.o hlk.1;have HKd:=Ux hlk;have HDz:=Ux hdz;have HF:=Ux (De K2.o T6.o DE.o nd.data hdz (by omega) ⟨by omega,by omega⟩);clear hlk hdz;go_wp2_with fail;refine HF.o.mono ?_;rintro e w5 ⟨Mj,⟨h8,rfl⟩|⟨h8,hd,rfl⟩|⟨h8,hd,rfl,ta5,tl5,tc5,hT5,eW,G9⟩⟩
           ·have bS:=Ux (show S.path c path f=(gS,12) from HE.o.trans (by rw[show 8-hp=0 by omega];exact vG nj.o uB.o (by rw[kO.o];exact BI.o) HKd.o));have iq:=gT.o.mod Mj (show¬(w.heap.size+1=Bt) by have:=oB.o;omega);have rD:=Ux iq;have oC:=Ux (bC.o.trans (Mj.below (fun k hk=>by have:=oB.o;omega) bC.o.size));clear rc rf rz nc nf nz bc bf bz Mj;obtain⟨rc,rf,rz⟩:=iq.facts;clear iq h8;go_wp2_with (first|exact bodyPost_ret (bp (x:=gS) (e:=12) rD.o.dA rfl rfl) rfl ⟨by rw[bS.o],aC oC.o (Nat.le_succ _)⟩|exact bM (bp (x:=gS) (e:=12) rD.o.dA rfl rfl) ⟨by rw[bS.o],aC oC.o (Nat.le_succ _)⟩)
           ·have bS:=Ux (show S.path c path f=(gS,5) from HE.o.trans (by rw[show 8-hp=(7-hp)+1 by omega];exact vF nj.o uB.o (by rw[kO.o];exact BI.o) HKd.o hd));have iq:=gT.o.mod Mj (show¬(w.heap.size+1=Bt) by have:=oB.o;omega);have rD:=Ux iq;have oC:=Ux (bC.o.trans (Mj.below (fun k hk=>by have:=oB.o;omega) bC.o.size));clear rc rf rz nc nf nz bc bf bz Mj;obtain⟨rc,rf,rz⟩:=iq.facts;clear iq h8 hd;go_wp2_with (first|exact bodyPost_ret (bp (x:=gS) (e:=5) rD.o.dA rfl rfl) rfl ⟨by rw[bS.o],aC oC.o (Nat.le_succ _)⟩|exact bM (bp (x:=gS) (e:=5) rD.o.dA rfl rfl) ⟨by rw[bS.o],aC oC.o (Nat.le_succ _)⟩)
           ·have bS:=Ux (show S.path c path f=S.ft c f (8-(hp+1)) (if nd.data.data.toList.head?=some 47 then 1 else k) (if l=[] then must||fx nd.data.data.toList else must) (b8 nd.data.data.toList++l) from HE.o.trans (by rw[show 8-hp=(8-(hp+1))+1 by omega];exact vH nj.o uB.o (by rw[kO.o];exact BI.o) HKd.o hd));have rD:=Ux (gT.o.mod Mj (show¬(w.heap.size+1=Bt) by have:=oB.o;omega));have oC:=Ux (bC.o.trans (Mj.below (fun k hk=>by have:=oB.o;omega) bC.o.size));have hpl:(b8 nd.data.data.toList).length≤4097:=by
             have h1:=jE nd.data.data.toList;have h2:nd.data.data.toList.length=nd.data.size:=Array.length_toList;have:=HDz.o;omega
            have hl5:=eW.len;rw[List.length_append] at hl5;have HT5:=Ux (show fD w5 Bt pw c (if nd.data.data.toList.head?=some 47 then 1 else k) ta5 tl5 tc5 ((hp+1:Nat):Int) (if l=[] then must||fx nd.data.data.toList else must) from hT5);have uD:=Ux eW;have HA5:=Ux (show∀b off,ta5=some ⟨b,off,none⟩→b≠Bt from fun b off h=>by have q1:=G9 b off h;have q2:=K2.o.lt;omega);have QZ:hp+1≤8:=by omega
            clear Mj hT5 eW G9 h8 hd rc rf rz nc nf nz bc bf bz;go_wp2_with fail;go_roundw
            case rel=>exact⟨_,_,_,hp+1,ta5,tl5,tc5,HT5.o,uD.o,HA5.o,QZ,by rw[List.length_append];have h1:=Et.o;simp only[List.length_cons] at h1;omega,bS.o,rD.o,oC.o⟩
            case measure=>rw[HM.o,lZ HT5.o];have:=qD.o;omega
          |false=>
           have hlk:¬(nd.kind=3∧(l≠[]∨must=true∨f=true)):=fun h=>by have:=pF.o.2 h;cases this
           have G0:=Ux hlk;clear yO pF;by_cases h3:nd.kind=1
           ·have tR:(nd.kind != 1)=false:=by simpa using h3
            have lX:=Ux (show¬(nd.kind≠1∧(l≠[]∨must=true)) from fun h=>h.1 h3);clear h3
            cases lb with
            |true=>
             have fk:l=[]:=by have:=BG.o;simpa using this.symm
             have bS:=Ux (HE.o.trans (mI nj.o uB.o (by rw[kO.o];exact BI.o) G0.o lX.o fk));rw[kO.o] at bS;clear fk;go_wp2_with fail;have hne:Bt≠w.heap.size+1:=by have:=oB.o;omega
             have b3:X.drew.cell? ⟨Bt,3,none⟩=some (UE UL k):=bc 3;have b6:X.drew.cell? ⟨Bt,6,none⟩=some (.bool must):=bc 6
             go_region_held3 (fun w'=>w'.cell? ⟨Bt,3,none⟩=some (UE UL k)∧w'.cell? ⟨Bt,6,none⟩=some (.bool must)) (first|exact⟨b3,b6⟩|exact nZ ⟨b3,b6⟩ hne) (fail)
             go_wp2_with (first|exact bodyPost_ret (bp (x:=⟨k,str p,no,must⟩) (e:=0) gT.o.drew.dA rfl rfl) rfl ⟨by rw[bS.o],aC bC.o.drew (Nat.le_succ _)⟩|exact bM (bp (x:=⟨k,str p,no,must⟩) (e:=0) gT.o.drew.dA rfl rfl) ⟨by rw[bS.o],aC bC.o.drew (Nat.le_succ _)⟩)
            |false=>
             have fk:l≠[]:=by have:=BG.o;simpa using this.symm
             have bS:=Ux (HE.o.trans (DQ nj.o uB.o (by rw[kO.o];exact BI.o) G0.o lX.o fk));rw[kO.o] at bS;clear fk;go_wp2_with fail;have Ol:=Ux (show fD (X.setCell ⟨Bt,3,none⟩ (UE UL no)) Bt pw c no ta2 m tc2 hp must from K2.o.set 3 _);go_roundw
             case rel=>exact⟨no,l,must,hp,ta2,m,tc2,Ol.o,T6.o.lO DE.o 3 _,DE.o,QG,by have:=Et.o;simp at this;omega,bS.o,gT.o.setOther ⟨Bt,3,none⟩ _ (by have:=oB.o;show Bt≠_;omega),bC.o.setCell (show w.heap.size≤Bt by have:=oB.o;omega) _⟩
             case measure=>rw[HM.o,lZ Ol.o];omega
           ·have tR:(nd.kind != 1)=true:=by simpa using h3
            have HK3:=Ux h3;clear h3
            cases lb with
            |false=>
             have fk:l≠[]:=by have:=BG.o;simpa using this.symm
             have bS:=Ux (HE.o.trans (mJ nj.o uB.o (by rw[kO.o];exact BI.o) G0.o ⟨HK3.o,.inl fk⟩));clear fk;go_wp2_with (first|exact bodyPost_ret (bp (x:=gS) (e:=9) gT.o.dA rfl rfl) rfl ⟨by rw[bS.o],aC bC.o (Nat.le_succ _)⟩|exact bM (bp (x:=gS) (e:=9) gT.o.dA rfl rfl) ⟨by rw[bS.o],aC bC.o (Nat.le_succ _)⟩)
            |true=>
             have fk:l=[]:=by have:=BG.o;simpa using this.symm
             cases must with
             |true=>
              have bS:=Ux (HE.o.trans (mJ nj.o uB.o (by rw[kO.o];exact BI.o) G0.o ⟨HK3.o,.inr rfl⟩));clear fk;go_wp2_with (first|exact bodyPost_ret (bp (x:=gS) (e:=9) gT.o.dA rfl rfl) rfl ⟨by rw[bS.o],aC bC.o (Nat.le_succ _)⟩|exact bM (bp (x:=gS) (e:=9) gT.o.dA rfl rfl) ⟨by rw[bS.o],aC bC.o (Nat.le_succ _)⟩)
             |false=>
              have bS:=Ux (HE.o.trans (mI nj.o uB.o (by rw[kO.o];exact BI.o) G0.o (fun h=>h.2.elim (fun h=>h fk) (fun h=>by cases h)) fk));rw[kO.o] at bS;clear fk;go_wp2_with fail;have hne:Bt≠w.heap.size+1:=by have:=oB.o;omega
              have b3:X.drew.cell? ⟨Bt,3,none⟩=some (UE UL k):=bc 3;have b6:X.drew.cell? ⟨Bt,6,none⟩=some (.bool false):=bc 6
              go_region_held3 (fun w'=>w'.cell? ⟨Bt,3,none⟩=some (UE UL k)∧w'.cell? ⟨Bt,6,none⟩=some (.bool false)) (first|exact⟨b3,b6⟩|exact nZ ⟨b3,b6⟩ hne) (fail)
              go_wp2_with (first|exact bodyPost_ret (bp (x:=⟨k,str p,no,false⟩) (e:=0) gT.o.drew.dA rfl rfl) rfl ⟨by rw[bS.o],aC bC.o.drew (Nat.le_succ _)⟩|exact bM (bp (x:=⟨k,str p,no,false⟩) (e:=0) gT.o.drew.dA rfl rfl) ⟨by rw[bS.o],aC bC.o.drew (Nat.le_succ _)⟩)
       ·have heb:(er != 0)=true:=by simpa using he
        have bS:=Ux (KG.o he);have fh:=gT.o;obtain⟨rc,rf,rz⟩:=fh.facts;clear fh he;go_wp2_with (first|exact bodyPost_ret (bp (x:=gS) (e:=er) gT.o.dA rfl rfl) rfl ⟨by rw[bS.o],aC bC.o (Nat.le_succ _)⟩|exact bM (bp (x:=gS) (e:=er) gT.o.dA rfl rfl) ⟨by rw[bS.o],aC bC.o (Nat.le_succ _)⟩)
 ·have hpb:(pe==0)=false:=by simpa using hpe
  have DF:=Ux (HPE.o.trans (if_pos hpe));have JU:=Ld.o;obtain⟨rc,rf,rz⟩:=JU.facts;clear hpe JU;go_wp2_with (first|exact bodyPost_ret (bp (x:=gS) (e:=pe) Ld.o.dA rfl rfl) rfl ⟨by rw[DF.o],aC cB.o (Nat.le_succ _)⟩|exact bM (bp (x:=gS) (e:=pe) Ld.o.dA rfl rfl) ⟨by rw[DF.o],aC cB.o (Nat.le_succ _)⟩)
end
end
section
open Go.RowKit
theorem lj(l:List UInt8):∀p∈b8 l,p.length≤l.length:=fun p hp=>zK 47 l p (List.mem_filter.1 hp).1
theorem kH:gS.name.size≤1048576:=by show(0:Nat)≤_;omega
theorem nM{S:Fs}(hS:∀k a,S.get k=some a→a.data.size≤1048576)(c:Cr)(f:Bool)(k:Option (Int→Bool→List (List UInt8)→Fd×Int))
  (hk:∀g,k=some g→∀at' must l,(∀p∈l,p.length≤1048576)→(g at' must l).1.name.size≤1048576) :
  ∀(l:List (List UInt8)) (at':Int) (must:Bool),(∀p∈l,p.length≤1048576)→(S.cM c f k l at' must).1.name.size≤1048576
 | [],at',must,_=>by rw[Fs.cM];show(0:Nat)≤_;omega
 |p::l,at',must,hl=>by
  have hp:(str p).size≤1048576:=by rw[dn];exact hl p (by simp)
  have hl':∀q∈l,q.length≤1048576:=fun q hq=>hl q (by simp[hq]);have ih:=nM hS c f k hk l;rw[Fs.cM]
  split
  ·exact kH
  ·split
   ·exact ih _ _ hl'
   ·split
    ·split
     ·exact hp
     ·exact kH
    ·rename_i n hn
     split
     ·cases hkk:k with
      |none=>exact kH
      |some g=>
       simp only
       split
       ·exact kH
       ·refine hk g hkk _ _ _ (fun q hq=>?_);rcases List.mem_append.1 hq with hq|hq
        ·have h1:=lj _ q hq;have h2:n.data.data.toList.length=n.data.size:=Array.length_toList;have h3:=hS _ n hn;omega
        ·exact hl' q hq
     ·split
      ·exact kH
      ·split
       ·exact hp
       ·exact ih _ _ hl'
theorem sB{S:Fs}(hS:∀k a,S.get k=some a→a.data.size≤1048576)(c:Cr)(f:Bool):∀(h:Nat) (at':Int) (must:Bool) (l:List (List UInt8)),(∀p∈l,p.length≤1048576)→(S.ft c f h at' must l).1.name.size≤1048576
 |0,at',must,l,hl=>nM hS c f none (fun g h=>by cases h) l at' must hl
 |h+1,at',must,l,hl=>nM hS c f (some (S.ft c f h)) (fun g hg at' must l hl=>by injection hg with hg;subst hg;exact sB hS c f h at' must l hl) l at' must hl
theorem vS{S:Fs}{N:Nat}(hk:ay S N)(c:Cr)(s:ByteArray)(hs:s.size≤1048576)(f:Bool):(S.path c s f).1.name.size≤1048576:=by
 unfold Fs.path
 split
 ·exact kH
 ·refine sB (fun k a h=>(hk.get h).1.data) c f 8 1 _ _ (fun p hp=>?_);have h1:=lj _ p hp;have h2:s.data.toList.length=s.size:=Array.length_toList;omega
end
section
open Go.RowKit
theorem nx{tmps:Array Value}{W:World}{B:Nat}{x:Fd}{e:Int}(hb:ax W B #[UE UL x.dir,UF x.name,UE UL x.no,.bool x.DO] 176)
  (h8:tmps.getD 8 undef=UH (some ⟨B,0,none⟩)) (h9:tmps.getD 9 undef=UE UL e):(results Tryz.f84 tmps).run Tryz.prog W=.ok (UK #[x.v,UE UL e]) W:=by
 have q0:=hb.cell 0;have q1:=hb.cell 1;have q2:=hb.cell 2;have q3:=hb.cell 3;rw[Array.getD_eq_getD_getElem?] at h8 h9;simp[results,Tryz.results84,go_sem,Fd.v,h8,h9,q0,q1,q2,q3]
section
variable{w w':World}{pf pw:Nat}{R:Rp}{pv:Value}{Y:Sy}
theorem mH(h:bm w pf pw R pv Y){N:Nat}(hk:ay Y.fs N)(hN:N≤999999)(hd:Y.dead=false)(c:Cr)(path:ByteArray)(hp:path.size≤100000)(f:Bool) :
  Calls Tryz.prog 84 #[UH (some ⟨pf,0,none⟩),UJ #[UE UL c.u,UE UL c.g],UF path,.bool f] w fun e w'=>e=.returned (UK #[(Y.fs.path c path f).1.v,UE UL (Y.fs.path c path f).2])∧UA w w':=by
 have fh:ax ((w.alloc (.cells #[UE UL c.u,UE UL c.g] 64)).alloc (.cells #[UE UL 0,UF ⟨#[]⟩,UE UL 0,.bool false] 176)) (w.heap.size+1) #[UE UL 0,UF ⟨#[]⟩,UE UL 0,.bool false] 176:=by
  have:=ax.new (w.alloc (.cells #[UE UL c.u,UE UL c.g] 64)) #[UE UL 0,UF ⟨#[]⟩,UE UL 0,.bool false] 176
  rwa [World.size_alloc] at this
 have ir:=(ax.new w #[UE UL c.u,UE UL c.g] 64).bI (.cells #[UE UL 0,UF ⟨#[]⟩,UE UL 0,.bool false] 176);have aJ:=ao (ao (UB w) (.cells #[UE UL c.u,UE UL c.g] 64)) (.cells #[UE UL 0,UF ⟨#[]⟩,UE UL 0,.bool false] 176);have HR:=Ux (fun w1 (av:UA w w1)=>iC (h.an av));rw[hd] at HR;have HS:=Ux (fun w1 (av:UA w w1)=>I3 (h.wd.an av) hk hN c path hp f);obtain⟨pc,-,pz⟩:=h.bD.facts;have ni:=Ux (fun w1 (av:UA w w1)=>show w1.cell? ⟨pf,0,none⟩=some (UH (some ⟨pw,0,none⟩)) from(av.cell (p:=⟨pf,0,none⟩) pz).trans (pc 0));have mixed:Tryz.prog.follows .mixedOrders=true:=by kernel_rfl
 generalize Y.fs.path c path f=rd at HS⊢;unfold Fd.v at HS;clear h hk hd pc pz;go_enter Tryz.func84,Tryz.ntmps84;go_wp2_with fail;refine(HR.o _ aJ).mono ?_;rintro e w1 ⟨rfl,rfl⟩;generalize World.alloc _ _=W0 at fh ir aJ⊢;have gT:=Ux fh;have bC:=Ux aJ;have pc0:=ni.o _ aJ;obtain⟨cc,-,cz⟩:=ir.facts;clear ir aJ fh;go_wp2_with fail;refine aG 7 mixed (by kernel_rfl) (show cn _ from by repeat (first|exact cS|refine cR ?_|refine cx ?_|refine cG ?_)) ?_;simp only[List.take_succ_cons,List.take_zero,List.drop_succ_cons,List.drop_zero]
 repeat still_step
 refine wpStill_nil ?_;go_wp2_with fail;refine(HS.o _ bC.o.drew).mono ?_;rintro e w1 ⟨rfl,av⟩;have od:=gT.o.drew.an av;have BP:=Ux od;have nk:=Ux (bC.o.drew.trans (av.mono bC.o.size));obtain⟨rc,rf,rz⟩:=od.facts;clear av od;go_wp2_with fail;exact bodyPost_ret (nx BP.o.dA rfl rfl) rfl ⟨rfl,aC nk.o (Nat.le_succ _)⟩
structure Calm(Y:Sy):Prop where
 cC:Y.cC=[]
 dead:Y.dead=false
 now:Y.now=0
 c0:0≤Y.count
theorem Calm.change(h:Calm Y):Y.change=({Y with count:=Y.count+1},0):=qY h.dead (fun x hx=>by rw[h.cC] at hx;cases hx)
theorem Calm.op(h:Calm Y)(g:Fs→Int→Fs×Int×Int):Y.op g=({Y with count:=Y.count+1,fs:=(g Y.fs 0).1},(g Y.fs 0).2):=by
 unfold Sy.op;rw[h.change,h.now];rfl
theorem Calm.fN(h:Calm Y)(g:Fs→Int→Fs×Int):Y.fN g=({Y with count:=Y.count+1,fs:=(g Y.fs 0).1},(g Y.fs 0).2):=by
 unfold Sy.fN;rw[h.change,h.now];rfl
theorem Calm.next(h:Calm Y)(S:Fs):Calm {Y with count:=Y.count+1,fs:=S}:=⟨h.cC,h.dead,h.now,by have:=h.c0;show 0≤Y.count+1;omega⟩
theorem Calm.fs(h:Calm Y)(S:Fs):Calm {Y with fs:=S}:=⟨h.cC,h.dead,h.now,h.c0⟩
def fM(w w':World)(pf pw:Nat)(R:Rp)(pv:Value)(Y:Sy)(S:Fs)(d:Int):Prop:=
 ∃R' Z,bm w' pf pw R' pv Z∧Z.fs=S∧Calm Z∧Z.count≤Y.count+d∧aS (R.Y pf pw) (R'.Y pf pw) w w'
theorem fM.same(h:bm w pf pw R pv Y)(hc:Calm Y)(hb:UA w w'):fM w w' pf pw R pv Y Y.fs 0:=⟨R,Y,h.an hb,rfl,hc,by omega,aS.aq hb⟩
theorem fM.mono{S:Fs}{d d':Int}(h:fM w w' pf pw R pv Y S d)(hd:d≤d'):fM w w' pf pw R pv Y S d':=by
 obtain⟨R',Z,h1,h2,h3,h4,h5⟩:=h;exact⟨R',Z,h1,h2,h3,by omega,h5⟩
theorem ax.sy{B:Nat}{vs:Array Value}{T:TypeId}(hb:ax w B vs T)(h:bm w pf pw R pv Y){F':Nat→Prop}(hs:aS (R.Y pf pw) F' w w')(hT:jd (.cells #[] T (0,0))=false)(C0:T≠42):ax w' B vs T:=
 hb.mod hs.mod (fun hk=>by
  rcases hk with rfl|hk
  ·have h1:=h.bD;unfold ax at hb h1;rw[hb] at h1;injection h1 with h1;injection h1 with h1 h2;exact C0 h2
  ·obtain⟨o,ho,hd⟩:=h.wd.kind hk;unfold ax at hb;rw[hb] at ho;injection ho with ho;subst ho;rw[show jd (.cells vs T (0,0))=jd (.cells #[] T (0,0)) from rfl,hT] at hd
   cases hd)
end
end
section
open Go.RowKit
end
section
open Go.RowKit
theorem JE(s:ByteArray)(hs:s.size≤2000000)(w:World) :
  Calls Tryz.prog 177 #[UF s,UE .u8 0] w fun e w'=>e=.returned (.bool (hasB s 0))∧w=w':=rM s 0 w hs
theorem Fb(s:ByteArray)(w:World)(hs:s.size≤2000000) :
  Calls Tryz.prog 167 #[UF s] w fun e w'=>e=.returned (UE UL (eZ s))∧w=w':=by
 rcases Nat.eq_zero_or_pos s.size with h0|hpos
 ·have HE:=Ux (vT h0);have hn:s.toList=[]:=by rw[cd];exact List.eq_nil_of_length_eq_zero (by rw[Array.length_toList];exact h0)
  clear h0;go_enter Tryz.func167,Tryz.ntmps167;go_wp2_with fail;go_ret;exact⟨by rw[HE.o];rfl,rfl⟩
 ·have hn:¬s.toList=[]:=by
   rw[cd];intro e;have:s.data.toList.length=s.size:=Array.length_toList;rw[e] at this;simp at this;omega
  have oV:s.toList.isEmpty=false:=by simpa using hn
  by_cases qg:s[0]=47
  ·have hr:=Ux (sR hpos qg);have jH:((s[0].toNat:Int)==47)=true:=by rw[qg];rfl
   have fE:((s[0].toNat:Int) != 47)=false:=by rw[bne,jH];rfl
   clear qg;have hc:=Ux (JE s hs);generalize hasB s 0=b at hr hc
   cases b
   ·by_cases hlen:4096<s.size
    ·have hE:=Ux (show eZ s=13 by rw[hr.out];simp[hlen]);go_enter Tryz.func167,Tryz.ntmps167;go_wp2_with (go_at_call 177;refine(hc.out _).mono ?_;rintro e w1 ⟨rfl,rfl⟩);go_ret;exact⟨by rw[hE.out];rfl,rfl⟩
    ·have hE:=Ux (show eZ s=0 by rw[hr.out];simp[hlen]);go_enter Tryz.func167,Tryz.ntmps167;go_wp2_with (go_at_call 177;refine(hc.out _).mono ?_;rintro e w1 ⟨rfl,rfl⟩);go_ret;exact⟨by rw[hE.out];rfl,rfl⟩
   ·have hE:=Ux (show eZ s=1 by rw[hr.out];rfl);go_enter Tryz.func167,Tryz.ntmps167;go_wp2_with (go_at_call 177;refine(hc.out _).mono ?_;rintro e w1 ⟨rfl,rfl⟩);go_ret;exact⟨by rw[hE.out];rfl,rfl⟩
  ·have hE:=Ux (sS hpos qg);have jH:((s[0].toNat:Int)==47)=false:=by
    simp only[beq_eq_false_iff_ne,ne_eq];intro h;exact qg (by rw[nq];show s[0].toNat=47;omega)
   have fE:((s[0].toNat:Int) != 47)=true:=by rw[bne,jH];rfl
   clear qg;go_enter Tryz.func167,Tryz.ntmps167;go_wp2_with fail;go_ret;exact⟨by rw[hE.out];rfl,rfl⟩
end
section
open Go.RowKit
section
variable{w w':World}{pf pw:Nat}{R:Rp}{pv:Value}{Y:Sy}
theorem Ii(h:bm w pf pw R pv Y){N:Nat}(hk:ay Y.fs N)(hp:Pl Y.fs)(hl:Y.fs.ns.length≤100000)(hd:Y.dead=false)(no:Int) :
  Calls Tryz.prog 57 #[UH (some ⟨pf,0,none⟩),UE UL no] w fun e w'=>e=.returned (UK #[UE UL (Y.fs.dg no).1,UF (Y.fs.dg no).2.1,UE UL (Y.fs.dg no).2.2])∧UA w w':=by
 have HS:=Ux (jD h hk hd no);have uL:=Ux (fun w1 (hb:UA w w1) d=>fK (h.wd.an hb) hk.d1 d);have TT:=Ux (fun w1 (hb:UA w w1) d=>rY (h.wd.an hb) hk hp hl d);obtain⟨pc,-,pz⟩:=h.bD.facts;have ni:=Ux (fun w1 (av:UA w w1)=>show w1.cell? ⟨pf,0,none⟩=some (UH (some ⟨pw,0,none⟩)) from(av.cell (p:=⟨pf,0,none⟩) pz).trans (pc 0));have mixed:Tryz.prog.follows .mixedOrders=true:=by kernel_rfl
 obtain⟨S,hS⟩:∃S,Y.fs=S:=⟨_,rfl⟩;rw[hS] at HS uL TT⊢;have HZ0:=Ux (fun h=>EP (S:=S) (no:=no) h);have TP:=Ux (fun a h h2=>ER (S:=S) (no:=no) (a:=a) h h2);have Np:=Ux (fun a s h h2=>EO (S:=S) (no:=no) (a:=a) (s:=s) h h2);generalize S.dg no=Z at HZ0 TP Np⊢;clear h hk hp hd hS pc pz hl
 cases hg:S.get no with
 |none=>
  rw[hg] at HS;have HZ:=Ux (HZ0.o hg);unfold E1 ep at HS;clear hg;go_enter Tryz.func57,Tryz.ntmps57;go_wp2_with fail;refine HS.o.mono ?_;rintro e w1 ⟨rfl,av⟩;have dX:=Ux (ao av (.cells #[UE UL 0,UE UL 0,UE UL 0,UE UL 0,UE UL 0,UE UL 0,UE UL 0,UE UL 0,UE UL 0,UE UL 0] 67));clear av;go_wp2_with fail
  go_ret3
  exact⟨by rw[HZ.o];rfl,dX.o⟩
 |some a=>
  rw[hg] at HS;have HG:=Ux hg;unfold E1 ep at HS;clear hg;go_enter Tryz.func57,Tryz.ntmps57;go_wp2_with fail;refine HS.o.mono ?_;rintro e w1 ⟨rfl,av⟩;have hX:=ax.new w1 #[UE UL a.no,UE UL a.dev,UE UL a.kind,UE UL a.mode,UE UL a.uid,UE UL a.gid,UE UL a.ak,UE UL a.data.size,UE UL a.mtime,UE UL a.ctime] 67;have aJ:=ao av (.cells #[UE UL a.no,UE UL a.dev,UE UL a.kind,UE UL a.mode,UE UL a.uid,UE UL a.gid,UE UL a.ak,UE UL a.data.size,UE UL a.mtime,UE UL a.ctime] 67);go_upto_region 2 with fail;generalize w1.alloc _=X at hX aJ⊢;have HX:=Ux hX;have bC:=Ux aJ;obtain⟨xc,xf,xz⟩:=hX.facts;have pc0:=ni.o _ aJ;clear av hX aJ;go_wp2_with fail;refine aG 6 mixed (by kernel_rfl) (show cn _ from by repeat (first|exact cS|refine cR ?_|refine cx ?_|refine cG ?_)) ?_;simp only[List.take_succ_cons,List.take_zero,List.drop_succ_cons,List.drop_zero]
  repeat still_step
  refine wpStill_nil ?_;go_wp2_with fail;refine(uL.o _ bC.o.drew _).mono ?_;rintro e w2 ⟨rfl,rfl⟩;clear xc xf xz pc0;have pc0:=ni.o _ bC.o.drew;go_wp2_with fail;refine(TT.o _ bC.o.drew _).mono ?_;rintro e w3 ⟨rfl,cl⟩;have gn:=Ux (ar bC.o.drew cl);unfold se;clear cl pc0
  cases hpl:S.gI (S.root a.dev) with
  |none=>
   have HZ:=Ux (TP.o _ HG.o hpl);clear hpl;go_wp2_with fail
   go_ret3
   exact⟨by rw[HZ.o];rfl,gn.o⟩
  |some s=>
   have HZ:=Ux (Np.o _ _ HG.o hpl);clear hpl;go_wp2_with fail
   go_ret3
   exact⟨by rw[HZ.o];rfl,gn.o⟩
end
end
section
open Go.RowKit Go.Shelf
attribute [local go_sem] Oper.semAt_some
def Fs.RI(S:Fs)(d:Nat):Option (Int×ByteArray):=(S.gI (S.root ((d:Int)+1))).map fun s=>(S.root ((d:Int)+1),s)
def Fs.RE(S:Fs)(k:Nat):List (Int×ByteArray):=(List.range k).filterMap S.RI
def Fs.NL(S:Fs):List (Int×ByteArray):=S.RE S.ds.length
end
section
open Go.RowKit
def Nm(S:Fs):Prop:=∀a∈S.ns,∀x∈a.au,cH x.name=0
theorem Nm.set{S:Fs}(h:Nm S){a:An}(hn:∀x∈a.au,cH x.name=0):Nm (S.set a):=by
 intro y hy;unfold Fs.set at hy;simp only[List.mem_map] at hy;obtain⟨z,hz,rfl⟩:=hy
 split
 ·exact hn
 ·exact h z hz
theorem Nm.add{S:Fs}(h:Nm S){a:An}(hn:a.au=[]):Nm (S.add a):=by
 intro y hy;unfold Fs.add at hy;rcases List.mem_append.1 hy with hy|hy
 ·exact h y hy
 ·simp at hy;subst hy;intro x hx;rw[show({a with no:=S.last+1}:An).au=a.au from rfl,hn] at hx
  cases hx
theorem Nm.aD{S:Fs}(h:Nm S)(o b n:Int):Nm (S.aD o b n):=by
 intro y hy;unfold Fs.aD at hy;rcases List.mem_append.1 hy with hy|hy
 ·exact h y hy
 ·simp at hy;subst hy;intro x hx
  cases hx
theorem Nm.make{S:Fs}(h:Nm S){a:An}(hn:a.au=[]):Nm (S.make a).1:=by
 unfold Fs.make
 split
 ·exact h
 ·split
  ·exact h
  ·simp only
   split
   ·exact Nm.add (S:=S.aP _ _) (fun y hy=>h y hy) hn
   ·exact h
theorem vO{l:List En}(h:∀x∈l,cH x.name=0){s:ByteArray}(hs:cH s=0)(no:Int):∀x∈aV l s no,cH x.name=0:=by
 intro x hx;unfold aV at hx;rcases List.mem_append.1 hx with hx|hx
 ·exact h x (List.mem_filter.1 hx).1
 ·rcases List.mem_cons.1 hx with rfl|hx
  ·exact hs
  ·exact h x (List.mem_filter.1 hx).1
theorem Nm.aE{S:Fs}(h:Nm S)(now dir:Int)(l:List En)(hl:∀x∈l,cH x.name=0):Nm (S.aE now dir l):=by
 unfold Fs.aE
 split
 ·exact h
 ·exact h.set hl
theorem Nm.bT{S:Fs}(h:Nm S){a:An}(c:Cr)(now dir:Int)(s:ByteArray)(he:a.au=[]):Nm (S.bT c now dir s a).1:=by
 unfold Fs.bT
 split
 ·exact h
 ·rename_i hpl;obtain⟨d,hd,hdk,hce⟩:=cD (by simpa using hpl);rw[hd];simp only
  split
  ·exact h
  ·have hm:=h.make (a:={a with dev:=d.dev,uid:=c.u,gid:=c.g,mtime:=now,ctime:=now,ak:=1}) he
   split
   ·exact h
   ·exact hm.aE _ _ _ (vO (h d (aO hd)) hce _)
theorem Nm.aN{S:Fs}(h:Nm S)(c:Cr)(now dir:Int)(s:ByteArray)(m:Int):Nm (S.aN c now dir s m).1:=by
 unfold Fs.aN
 split
 ·exact h
 ·exact h.bT c now dir s rfl
theorem Nm.file{S:Fs}(h:Nm S)(c:Cr)(now dir:Int)(s:ByteArray)(m:Int)(t:ByteArray):Nm (S.file c now dir s m t).1:=by
 unfold Fs.file
 split
 ·exact h
 ·split
  ·exact h
  ·exact h.bT c now dir s rfl
theorem Nm.sym{S:Fs}(h:Nm S)(c:Cr)(now dir:Int)(s t:ByteArray):Nm (S.sym c now dir s t).1:=by
 unfold Fs.sym
 split
 ·exact h
 ·split
  ·exact h
  ·exact h.bT c now dir s rfl
theorem Nm.dV{S:Fs}(h:Nm S)(c:Cr)(now no dir:Int)(s:ByteArray):Nm (S.dV c now no dir s).1:=by
 unfold Fs.dV
 split
 ·exact h
 ·rename_i hpl;obtain⟨d0,mY,hdk,hce⟩:=cD (by simpa using hpl)
  split
  ·rename_i d n hd hn
   split
   ·exact h
   ·split
    ·exact h
    ·split
     ·exact h
     ·split
      ·exact h
      ·exact Nm.aE (h.set (a:={n with ak:=n.ak+1,ctime:=now}) (h n (aO hn))) _ _ _ (vO (h d (aO hd)) hce _)
  ·exact h
theorem Nm.cq{S:Fs}(h:Nm S)(c:Cr)(now no m:Int):Nm (S.cq c now no m).1:=by
 unfold Fs.cq
 split
 ·exact h
 ·rename_i n hn
  split
  ·exact h
  ·split
   ·exact h
   ·exact h.set (h n (aO hn))
theorem Nm.cy{S:Fs}(h:Nm S)(c:Cr)(now no u g:Int):Nm (S.cy c now no u g).1:=by
 unfold Fs.cy
 split
 ·exact h
 ·rename_i n hn
  split
  ·exact h
  ·split
   ·exact h
   ·split
    ·exact h
    ·exact h.set (h n (aO hn))
theorem Nm.ct{S:Fs}(h:Nm S)(c:Cr)(now no t:Int):Nm (S.ct c now no t).1:=by
 unfold Fs.ct
 split
 ·exact h
 ·rename_i n hn
  split
  ·exact h
  ·split
   ·exact h
   ·exact h.set (h n (aO hn))
theorem Nm.bR{S:Fs}(h:Nm S)(k b n:Int):Nm (S.bR k b n).1:=by
 unfold Fs.bR
 split
 ·exact h
 ·split
  ·exact h
  ·split
   ·exact h
   ·split
    ·exact h
    ·exact h.aD _ b n
theorem Nm.bP{S:Fs}(h:Nm S)(m:Mt):Nm (bP S m):=by
 unfold Go.Proofs.YtabbjaomlmnnhaaGreat.bP
 split
 ·exact h
 ·split
  ·have h1:=h.aN cw 0 (S.path cw m.path false).1.dir (S.path cw m.path false).1.name 493;simp only
   split
   ·exact h1
   ·exact h1.bR _ _ _
  ·exact h.bR _ _ _
theorem Nm.aR{S:Fs}(h:Nm S)(l:List Mt):Nm (aR S l):=by
 induction l generalizing S with
 |nil=>exact h
 |cons m l ih=>
  unfold Go.Proofs.YtabbjaomlmnnhaaGreat.aR;by_cases hm:m.path=kv
  ·rw[if_pos hm];exact ih h
  ·rw[if_neg hm];exact ih (h.bP m)
theorem Nm.cj{S:Fs}(h:Nm S)(it:It):Nm (cj S it).1:=by
 unfold Go.Proofs.YtabbjaomlmnnhaaGreat.cj;simp only
 split
 ·exact h
 ·split
  ·split<;>exact h
  ·split
   ·exact h.aN _ _ _ _ _
   ·split
    ·exact h.file _ _ _ _ _ _
    ·split
     ·exact h.sym _ _ _ _ _
     ·split
      ·split
       ·exact h.dV _ _ _ _ _
       ·exact h
      ·exact h
theorem Nm.dL{S:Fs}(h:Nm S)(it:It):Nm (dL S it).1:=by
 unfold Go.Proofs.YtabbjaomlmnnhaaGreat.dL;have h1:=h.cj it;simp only
 split
 ·exact(h1.cy _ _ _ _ _).cq _ _ _ _
 ·exact h1
theorem Nm.br{S:Fs}(h:Nm S)(l:List It):Nm (br S l).1:=by
 induction l generalizing S with
 |nil=>exact h
 |cons x l ih=>exact ih (h.dL x)
theorem Nm.bO{S:Fs}(h:Nm S)(l:List (It×Int)):Nm (bO S l):=by
 induction l generalizing S with
 |nil=>exact h
 |cons x l ih=>
  unfold Go.Proofs.YtabbjaomlmnnhaaGreat.bO;refine ih ?_
  split
  ·exact h.ct _ _ _ _
  ·exact h
theorem I1(ms:List Mt)(is:List It):Nm (db ms is):=by
 unfold db;simp only;refine Nm.bO (Nm.br (Nm.aR ?_ ms) is) _;exact Nm.aD (S:=qh) (fun a ha=>by cases ha) _ _ _
end
section
open Go.RowKit
structure Wy(S:Fs):Prop where
 ud:∀a∈S.ns,a.kind=1→∃b,S.get a.up=some b∧b.kind=1
 sd:∀a∈S.ns,∀x∈a.au,∃b,S.get x.no=some b∧b.dev=a.dev
 mp:∀d∈S.ds,d.aB≠0→∃b,S.get d.aB=some b∧S.root b.dev≠b.no
theorem Sub.up{S S':Fs}(h:Sub S S'){k:Int}(hk:∃b,S.get k=some b∧b.kind=1):∃b,S'.get k=some b∧b.kind=1:=by
 obtain⟨b,hb,h1⟩:=hk;obtain⟨c,hc,e1,-⟩:=h _ _ hb;exact⟨c,hc,by rw[e1];exact h1⟩
theorem Sub.dev{S S':Fs}(h:Sub S S'){k d:Int}(hk:∃b,S.get k=some b∧b.dev=d):∃b,S'.get k=some b∧b.dev=d:=by
 obtain⟨b,hb,h1⟩:=hk;obtain⟨c,hc,-,-,e3,-⟩:=h _ _ hb;exact⟨c,hc,by rw[e3];exact h1⟩
theorem Sub.mp{S S':Fs}(h:Sub S S'){k:Int}(hk:∃b,S.get k=some b∧S.root b.dev≠b.no):∃b,S'.get k=some b∧S'.root b.dev≠b.no:=by
 obtain⟨b,hb,h1⟩:=hk;obtain⟨c,hc,-,-,e3,e4⟩:=h _ _ hb;refine⟨c,hc,?_⟩;rw[e3,e4,bV hc,←bV hb];exact h1
theorem Wy.set{S:Fs}(h:Wy S){a b:An}(hb:S.get a.no=some b)(hk:a.kind=b.kind)(hd:a.dev=b.dev)(hu:a.up=b.up)(hr:∀x∈a.au,∃c,S.get x.no=some c∧c.dev=a.dev):Wy (S.set a):=by
 have hsub:Sub S (S.set a):=fun k c hc=>by
  rw[fC hb];by_cases hka:k=a.no
  ·rw[if_pos hka];rw[hka,hb] at hc;injection hc with hc;subst hc;exact⟨a,rfl,hk,hu,hd,rfl⟩
  ·rw[if_neg hka];exact⟨c,hc,rfl,rfl,rfl,rfl⟩
 refine⟨fun y hy hyk=>?_,fun y hy x hx=>?_,fun d mY ho=>hsub.mp (h.mp d mY ho)⟩
 ·unfold Fs.set at hy;simp only[List.mem_map] at hy;obtain⟨z,hz,rfl⟩:=hy
  split at hyk
  ·rename_i he;rw[if_pos he];have:=h.ud b (aO hb) (by rw[←hk];exact hyk);rw[←hu] at this;exact hsub.up this
  ·rename_i he;rw[if_neg he];exact hsub.up (h.ud z hz hyk)
 ·unfold Fs.set at hy;simp only[List.mem_map] at hy;obtain⟨z,hz,rfl⟩:=hy
  split at hx
  ·rename_i he;rw[if_pos he];exact hsub.dev (hr x hx)
  ·rename_i he;rw[if_neg he];exact hsub.dev (h.sd z hz x hx)
theorem Wy.aP{S:Fs}(h:Wy S){d:Int}{v u:Dv}(hv:S.dev d=some v)(hr:u.root=v.root)(ho:u.aB=v.aB):Wy (S.aP d u):=by
 have hsub:Sub S (S.aP d u):=fun k c hc=>⟨c,hc,rfl,rfl,rfl,iQ hv hr _⟩;refine⟨h.ud,h.sd,fun e he h0=>?_⟩;have hvm:v∈S.ds:=by
  unfold Fs.dev at hv
  split at hv
  ·exact List.mem_of_getElem? hv
  ·cases hv
 unfold Fs.aP at he;rcases List.mem_or_eq_of_mem_set he with he|rfl
 ·exact hsub.mp (h.mp e he h0)
 ·rw[ho] at h0⊢;exact hsub.mp (h.mp v hvm h0)
theorem Wy.add{S:Fs}{N:Nat}(hk:ay S N)(h:Wy S){a:An}(he:a.au=[])(hu:a.kind=1→∃b,S.get a.up=some b∧b.kind=1):Wy (S.add a):=by
 have hsub:=xm hk a;refine⟨fun y hy hyk=>?_,fun y hy x hx=>?_,fun d mY ho=>hsub.mp (h.mp d mY ho)⟩
 ·rcases List.mem_append.1 hy with hy|hy
  ·exact hsub.up (h.ud y hy hyk)
  ·simp at hy;subst hy;exact hsub.up (hu hyk)
 ·rcases List.mem_append.1 hy with hy|hy
  ·exact hsub.dev (h.sd y hy x hx)
  ·simp at hy;subst hy;rw[show({a with no:=S.last+1}:An).au=a.au from rfl,he] at hx
   cases hx
theorem Wy.aD{S:Fs}(hn:eU S)(hdev:∀a∈S.ns,a.dev≤S.ds.length)(h:Wy S)(k b n:Int)(h0:k≠0→∃b,S.get k=some b∧S.root b.dev≠b.no):Wy (S.aD k b n):=by
 have hsub:Sub S (S.aD k b n):=fun q c hq=>by
  refine⟨c,?_,rfl,rfl,rfl,lG S k b n (hdev c (aO hq))⟩;unfold Fs.get Fs.aD at *;simp only[List.find?_append,hq,Option.some_or]
 refine⟨fun y hy hyk=>?_,fun y hy x hx=>?_,fun d mY ho=>?_⟩
 ·rcases List.mem_append.1 hy with hy|hy
  ·exact hsub.up (h.ud y hy hyk)
  ·simp at hy;subst hy;exact⟨_,q' hn k b n,rfl⟩
 ·rcases List.mem_append.1 hy with hy|hy
  ·exact hsub.dev (h.sd y hy x hx)
  ·simp at hy;subst hy;simp[dD] at hx
 ·unfold Fs.aD at mY;rcases List.mem_append.1 mY with mY|mY
  ·exact hsub.mp (h.mp d mY ho)
  ·simp at mY;subst mY;exact hsub.mp (h0 ho)
theorem Wy.new(b n:Int):Wy (qh.aD 0 b n):=
 Wy.aD ⟨List.Pairwise.nil,fun x hx=>by cases hx⟩ (fun x hx=>by cases hx) ⟨fun x hx=>(by cases hx),fun x hx=>(by cases hx),fun d hd=>(by cases hd)⟩ 0 b n (fun h=>absurd rfl h)
theorem Wy.make{S:Fs}{N:Nat}(hk:ay S N)(h:Wy S){a:An}(he:a.au=[])(hu:a.kind=1→∃b,S.get a.up=some b∧b.kind=1):Wy (S.make a).1:=by
 unfold Fs.make
 split
 ·exact h
 ·split
  ·exact h
  ·rename_i v hv;simp only
   split
   ·have h2:=h.aP (u:={v with b:=v.b+cF a.kind a.data.size,n:=v.n+1}) hv rfl rfl;have gM:=hk.aP (u:={v with b:=v.b+cF a.kind a.data.size,n:=v.n+1}) hv rfl;exact h2.add gM he hu
   ·exact h
theorem Wy.aE{S:Fs}(h:Wy S)(now dir:Int)(l:List En)(hl:∀d,S.get dir=some d→∀x∈l,∃c,S.get x.no=some c∧c.dev=d.dev):Wy (S.aE now dir l):=by
 unfold Fs.aE
 split
 ·exact h
 ·rename_i d hd;exact h.set (b:=d) (by show S.get d.no=_;rw[bV hd];exact hd) rfl rfl rfl (hl d hd)
theorem DS{S:Fs}{l:List En}{q:Int}(h:∀x∈l,∃c,S.get x.no=some c∧c.dev=q){s:ByteArray}{k:Int}(hk:∃c,S.get k=some c∧c.dev=q):∀x∈aV l s k,∃c,S.get x.no=some c∧c.dev=q:=by
 intro x hx;unfold aV at hx;rcases List.mem_append.1 hx with hx|hx
 ·exact h x (List.mem_filter.1 hx).1
 ·rcases List.mem_cons.1 hx with rfl|hx
  ·exact hk
  ·exact h x (List.mem_filter.1 hx).1
theorem Wy.bT{S:Fs}{N:Nat}(hk:ay S N)(ht:Tr S)(h:Wy S){a:An}(c:Cr)(now dir:Int)(s:ByteArray)(he:a.au=[])(hu:a.kind=1→a.up=dir):Wy (S.bT c now dir s a).1:=by
 unfold Fs.bT
 split
 ·exact h
 ·rename_i hpl;obtain⟨d,hd,hdk,hce⟩:=cD (by simpa using hpl);rw[hd];simp only
  split
  ·exact h
  ·obtain⟨m1,m2,m3⟩:=ht.make hk (a:={a with dev:=d.dev,uid:=c.u,gid:=c.g,mtime:=now,ctime:=now,ak:=1}) he;have hm:=h.make hk (a:={a with dev:=d.dev,uid:=c.u,gid:=c.g,mtime:=now,ctime:=now,ak:=1}) he (fun hq=>⟨d,by rw[show({a with dev:=d.dev,uid:=c.u,gid:=c.g,mtime:=now,ctime:=now,ak:=1}:An).up=dir from hu hq];exact hd,hdk⟩)
   split
   ·exact h
   ·rename_i h0;obtain⟨e1,e2,e3⟩:=m3 (by simpa using h0);refine hm.aE _ _ _ fun d2 iG=>?_;obtain⟨d3,uY,-,-,KQ,-⟩:=m2 _ _ hd;rw[iG] at uY;injection uY with uY;subst uY;rw[e1,KQ];exact DS (fun x hx=>m2.dev (h.sd d (aO hd) x hx)) ⟨_,e2,rfl⟩
theorem Wy.aN{S:Fs}{N:Nat}(hk:ay S N)(ht:Tr S)(h:Wy S)(c:Cr)(now dir:Int)(s:ByteArray)(m:Int):Wy (S.aN c now dir s m).1:=by
 unfold Fs.aN
 split
 ·exact h
 ·exact h.bT hk ht c now dir s rfl (fun _=>rfl)
theorem Wy.file{S:Fs}{N:Nat}(hk:ay S N)(ht:Tr S)(h:Wy S)(c:Cr)(now dir:Int)(s:ByteArray)(m:Int)(t:ByteArray):Wy (S.file c now dir s m t).1:=by
 unfold Fs.file
 split
 ·exact h
 ·split
  ·exact h
  ·exact h.bT hk ht c now dir s rfl (fun hq=>absurd hq (by dsimp only;decide))
theorem Wy.sym{S:Fs}{N:Nat}(hk:ay S N)(ht:Tr S)(h:Wy S)(c:Cr)(now dir:Int)(s t:ByteArray):Wy (S.sym c now dir s t).1:=by
 unfold Fs.sym
 split
 ·exact h
 ·split
  ·exact h
  ·exact h.bT hk ht c now dir s rfl (fun hq=>absurd hq (by dsimp only;decide))
theorem Wy.same{S:Fs}(h:Wy S){n m:An}(hn:S.get n.no=some n)(h0:m.no=n.no)(h1:m.kind=n.kind)(h2:m.dev=n.dev)(h3:m.up=n.up)(h4:m.au=n.au):Wy (S.set m):=
 h.set (b:=n) (by rw[h0];exact hn) h1 h2 h3 (by rw[h2,h4];exact h.sd n (aO hn))
theorem Wy.dV{S:Fs}(h:Wy S)(c:Cr)(now no dir:Int)(s:ByteArray):Wy (S.dV c now no dir s).1:=by
 unfold Fs.dV
 split
 ·exact h
 ·rename_i hpl;obtain⟨d0,mY,hdk,hce⟩:=cD (by simpa using hpl)
  split
  ·rename_i d n hd hn;rw[hd] at mY;injection mY with mY;subst mY
   split
   ·exact h
   ·rename_i hnk
    split
    ·exact h
    ·split
     ·exact h
     ·rename_i hdv
      split
      ·exact h
      ·have hs:=h.same (m:={n with ak:=n.ak+1,ctime:=now}) (bH hn) rfl rfl rfl rfl rfl;have hset:S.get ({n with ak:=n.ak+1,ctime:=now}:An).no=some n:=bH hn;have hno:=bV hn;have hsub:Sub S (S.set {n with ak:=n.ak+1,ctime:=now}):=fun k c hc=>by
        rw[fC hset]
        split
        ·rename_i hkn;rw[hkn,hset] at hc;injection hc with hc;subst hc;exact⟨_,rfl,rfl,rfl,rfl,rfl⟩
        ·exact⟨c,hc,rfl,rfl,rfl,rfl⟩
       refine hs.aE _ _ _ fun d2 iG=>?_;obtain⟨d3,uY,-,-,KQ,-⟩:=hsub _ _ hd;rw[iG] at uY;injection uY with uY;subst uY;rw[KQ];exact DS (fun x hx=>hsub.dev (h.sd d (aO hd) x hx)) (hsub.dev ⟨n,hn,by simpa using hdv⟩)
  ·exact h
theorem Wy.bR{S:Fs}{N:Nat}(hk:ay S N)(h:Wy S)(k b n:Int):Wy (S.bR k b n).1:=by
 unfold Fs.bR
 split
 ·exact h
 ·rename_i a ha
  split
  ·exact h
  ·split
   ·exact h
   ·rename_i hr
    split
    ·exact h
    ·exact h.aD hk.nums (fun a ha=>(hk.all a ha).dev.2) k b n (fun _=>⟨a,ha,by rw[bV ha];exact fun e=>hr (.inr e)⟩)
theorem Wy.cq{S:Fs}(h:Wy S)(c:Cr)(now no m:Int):Wy (S.cq c now no m).1:=by
 unfold Fs.cq
 split
 ·exact h
 ·rename_i n hn
  split
  ·exact h
  ·split
   ·exact h
   ·exact h.same (bH hn) rfl rfl rfl rfl rfl
theorem Wy.cy{S:Fs}(h:Wy S)(c:Cr)(now no u g:Int):Wy (S.cy c now no u g).1:=by
 unfold Fs.cy
 split
 ·exact h
 ·rename_i n hn
  split
  ·exact h
  ·split
   ·exact h
   ·split
    ·exact h
    ·exact h.same (bH hn) rfl rfl rfl rfl rfl
theorem Wy.ct{S:Fs}(h:Wy S)(c:Cr)(now no t:Int):Wy (S.ct c now no t).1:=by
 unfold Fs.ct
 split
 ·exact h
 ·rename_i n hn
  split
  ·exact h
  ·split
   ·exact h
   ·exact h.same (bH hn) rfl rfl rfl rfl rfl
theorem Wy.bP{S:Fs}{N:Nat}(hk:ay S N)(ht:Tr S)(h:Wy S)(m:Mt):Wy (bP S m):=by
 unfold Go.Proofs.YtabbjaomlmnnhaaGreat.bP
 split
 ·exact h
 ·split
  ·have h1:=h.aN hk ht cw 0 (S.path cw m.path false).1.dir (S.path cw m.path false).1.name 493;have gv:=gW hk cw 0 (S.path cw m.path false).1.dir (S.path cw m.path false).1.name 493;simp only
   split
   ·exact h1
   ·exact h1.bR gv _ _ _
  ·exact h.bR hk _ _ _
theorem Wy.aR{S:Fs}{N:Nat}(hk:ay S N)(ht:Tr S)(h:Wy S)(l:List Mt):Wy (aR S l):=by
 induction l generalizing S N with
 |nil=>exact h
 |cons m l ih=>
  unfold Go.Proofs.YtabbjaomlmnnhaaGreat.aR;by_cases hm:m.path=kv
  ·rw[if_pos hm];exact ih hk ht h
  ·rw[if_neg hm];exact ih (mQ hk m) (ht.bP hk m) (h.bP hk ht m)
theorem Wy.cj{S:Fs}{N:Nat}(hk:ay S N)(ht:Tr S)(h:Wy S)(it:It):Wy (cj S it).1:=by
 unfold Go.Proofs.YtabbjaomlmnnhaaGreat.cj;simp only
 split
 ·exact h
 ·split
  ·split<;>exact h
  ·split
   ·exact h.aN hk ht _ _ _ _ _
   ·split
    ·exact h.file hk ht _ _ _ _ _ _
    ·split
     ·exact h.sym hk ht _ _ _ _ _
     ·split
      ·split
       ·exact h.dV _ _ _ _ _
       ·exact h
      ·exact h
theorem Wy.dL{S:Fs}{N:Nat}(hk:ay S N)(ht:Tr S)(h:Wy S)(it:It):Wy (dL S it).1:=by
 unfold Go.Proofs.YtabbjaomlmnnhaaGreat.dL;have h1:=h.cj hk ht it;simp only
 split
 ·exact(h1.cy _ _ _ _ _).cq _ _ _ _
 ·exact h1
theorem Wy.br{S:Fs}{N:Nat}(hk:ay S N)(ht:Tr S)(h:Wy S)(l:List It):Wy (br S l).1:=by
 induction l generalizing S N with
 |nil=>exact h
 |cons x l ih=>exact ih (p5 hk x) (ht.dL hk x) (h.dL hk ht x)
theorem Wy.bO{S:Fs}(h:Wy S)(l:List (It×Int)):Wy (bO S l):=by
 induction l generalizing S with
 |nil=>exact h
 |cons x l ih=>
  unfold Go.Proofs.YtabbjaomlmnnhaaGreat.bO;refine ih ?_
  split
  ·exact h.ct _ _ _ _
  ·exact h
theorem IY(ms:List Mt)(is:List It):Wy (db ms is):=by
 unfold db;simp only;have hk:=ay.new (be ms).1 (be ms).2;exact Wy.bO (Wy.br (fV hk ms) (Tr.aR hk (Tr.new _ _) ms) (Wy.aR hk (Tr.new _ _) (Wy.new _ _) ms) is) _
end
section
open Go.RowKit
def NM(n:Int):List UInt8:=if n<2 then[] else 46::kl n
def I9(base:ByteArray)(n:Int):ByteArray:=base.extract 0 (min base.size (245-(NM n).length))++str (NM n)
end
end Go.Proofs.YtabbjaomlmnnhaaGreat
