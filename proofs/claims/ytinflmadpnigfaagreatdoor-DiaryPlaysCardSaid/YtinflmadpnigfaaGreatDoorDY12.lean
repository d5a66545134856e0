import Derived.Deep.LoopGhost
import Derived.Test.YtinflmadpnigfaaGreatDoorDY11
import Derived.Test.YtinflmadpnigfaaGreatDoorDY3
import Derived.Test.YtinflmadpnigfaaGreatDoorDY6
import Derived.Test.YtinflmadpnigfaaGreatDoorDY4
import Derived.Test.YtinflmadpnigfaaGreatDoorDY1
import Derived.Test.YtinflmadpnigfaaGreatDoorDY9
import Derived.Test.YtinflmadpnigfaaGreatDoorProg
import Derived.Test.YtinflmadpnigfaaGreatDoorDY2
set_option linter.unusedVariables false
set_option linter.unusedSimpArgs false
set_option maxRecDepth 100000
set_option maxHeartbeats 16000000
namespace Go.Proofs.YtinflmadpnigfaaGreatDoor
section
open Go.RowKit
def Fd.v(x:Fd):Value:=.agg #[.int .i64 x.dir,.string x.name,.int .i64 x.no,.bool x.zX]
def IH(Bt:Nat)(w:World):Nat:=match w.cell? ⟨Bt,4,none⟩,w.cell? ⟨Bt,5,none⟩ with
 |some (.slice _ n _),some (.int _ h)=>n+(8-h).toNat*5000
 |_,_=>0
theorem mh{w:World}{Bt pw:Nat}{c:Cr}{k:Int}{ta:Option Addr}{tl tc:Nat}{hops:Int}{must:Bool}(h:eZ w Bt pw c k ta tl tc hops must):IH Bt w=tl+(8-hops).toNat*5000:=by
 unfold eZ at h;have e4:=h.cell 4;have e5:=h.cell 5;unfold IH;rw[e4,e5];rfl
theorem aU{tmps:Array Value}{W:World}{B:Nat}{x:Fd}{e:Int}(hb:au W B #[.int .i64 x.dir,.string x.name,.int .i64 x.no,.bool x.zX] 140)
  (h8:tmps.getD 8 undef=.pointer (some ⟨B,0,none⟩)) (h9:tmps.getD 9 undef=.int .i64 e):(results Tryz.f110 tmps).run Tryz.prog W=.ok (.tuple #[x.v,.int .i64 e]) W:=by
 have q0:=hb.cell 0;have q1:=hb.cell 1;have q2:=hb.cell 2;have q3:=hb.cell 3;rw[Array.getD_eq_getD_getElem?] at h8 h9;simp[results,Tryz.results110,go_sem,Fd.v,h8,h9,q0,q1,q2,q3]
theorem oM{w:World}{A B:Nat}{x y v0 v1 v2 v3:Value}(h:w.cell? ⟨A,3,none⟩=some x∧w.cell? ⟨A,6,none⟩=some y)(hne:A≠B) :
  ((((w.setCell ⟨B,0,none⟩ v0).setCell ⟨B,1,none⟩ v1).setCell ⟨B,2,none⟩ v2).setCell ⟨B,3,none⟩ v3).cell? ⟨A,3,none⟩=some x∧
  ((((w.setCell ⟨B,0,none⟩ v0).setCell ⟨B,1,none⟩ v1).setCell ⟨B,2,none⟩ v2).setCell ⟨B,3,none⟩ v3).cell? ⟨A,6,none⟩=some y:=by
 have key:((((w.setCell ⟨B,0,none⟩ v0).setCell ⟨B,1,none⟩ v1).setCell ⟨B,2,none⟩ v2).setCell ⟨B,3,none⟩ v3).heap[A]?=w.heap[A]?:=by
  rw[Below.heap_setCell _ _ _ _ hne,Below.heap_setCell _ _ _ _ hne,Below.heap_setCell _ _ _ _ hne,Below.heap_setCell _ _ _ _ hne]
 constructor
 ·rw[←h.1];simp only[World.cell?,key]
 ·rw[←h.2];simp only[World.cell?,key]
section
variable{w w':World}{pw:Nat}{R:Rp}{S:Fs}
def TrR(w:World)(pw Br Bt:Nat)(S:Fs)(c:Cr)(path:ByteArray)(f:Bool)(wr:World):Prop:=
 ∃(k:Int) (l:List (List UInt8)) (must:Bool) (hp:Nat) (ta:Option Addr) (tl tc:Nat),eZ wr Bt pw c k ta tl tc hp must∧SA wr ta tl tc l∧(∀b off,ta=some ⟨b,off,none⟩→b≠Bt)∧hp≤8∧l.length≤4097*(hp+1)∧
  S.path c path f=S.eO c f (8-hp) k must l∧au wr Br #[.int .i64 0,.string ⟨#[]⟩,.int .i64 0,.bool false] 140∧Up w wr
theorem Jo(h:bh w pw R S){N:Nat}(hk:av S N)(hN:N≤999999)(c:Cr)(path:ByteArray)(hp:path.size≤100000)(f:Bool) :
  Calls Tryz.prog 110 #[.pointer (some ⟨pw,0,none⟩),.agg #[.int .i64 c.u,.int .i64 c.g],.string path,.bool f] w fun e w'=>e=.returned (.tuple #[(S.path c path f).1.v,.int .i64 (S.path c path f).2])∧Up w w':=by
 have HW:=Um h;have HK:=Um hk;have j8:=Um (fun w1 (ar:Up w w1)=>fi (h.ak ar) hk.d1);have hnz:=hk.d1;generalize S.ds.length=n at j8 hnz;have hz:((n:Int)==0)=false:=by simp;omega
 have mixed:Tryz.prog.follows .mixedOrders=true:=by kernel_rfl
 obtain⟨pc,-,pz⟩:=h.bd.facts;have vr:=Um pc;have BZ:=Um (fun w=>wK path w (by omega));have HPE:=Um (show S.path c path f=if ed path≠0 then(gC,ed path) else S.eO c f 8 1 (eT path.data.toList) (bE path.data.toList) from rfl);have kC:=Um (show ed path=0→path.size≤4096 by
  unfold ed
  split
  ·intro h;cases h
  ·split
   ·intro h;cases h
   ·split
    ·intro h;cases h
    ·intro _;omega)
 generalize ed path=pe at BZ HPE kC;clear h hk pc;have EI:au ((w.alloc (.cells #[.int .i64 c.u,.int .i64 c.g] 69)).alloc (.cells #[.int .i64 0,.string ⟨#[]⟩,.int .i64 0,.bool false] 140)) (w.heap.size+1) #[.int .i64 0,.string ⟨#[]⟩,.int .i64 0,.bool false] 140:=by
  have:=au.new (w.alloc (.cells #[.int .i64 c.u,.int .i64 c.g] 69)) #[.int .i64 0,.string ⟨#[]⟩,.int .i64 0,.bool false] 140
  rwa [World.size_alloc] at this
 have zt:=(au.new w #[.int .i64 c.u,.int .i64 c.g] 69).eE (.cells #[.int .i64 0,.string ⟨#[]⟩,.int .i64 0,.bool false] 140);have bO:=al (al (Uq w) (.cells #[.int .i64 c.u,.int .i64 c.g] 69)) (.cells #[.int .i64 0,.string ⟨#[]⟩,.int .i64 0,.bool false] 140);go_enter Tryz.func110,Tryz.ntmps110;go_wp2_with fail;generalize (w.alloc (.cells #[.int .i64 c.u,.int .i64 c.g] 69)).alloc (.cells #[.int .i64 0,.string ⟨#[]⟩,.int .i64 0,.bool false] 140)=W0 at EI zt bO⊢;refine wp_scope_straight ?_;have bP:=Um bO;have T':=Um EI;have LB:=Um zt;clear bO EI zt;go_wp2_with fail;refine(j8.o _ bP.o).mono ?_;rintro e w1 ⟨rfl,rfl⟩;go_wp2_with fail;refine(BZ.o _).mono ?_;rintro e w1 ⟨rfl,rfl⟩;by_cases hpe:pe=0
 ·have Om:=kC.o hpe;have D5:=Um (HPE.o.trans (if_neg (by simp[hpe])));subst hpe;have Ck:=Um (fun w=>tR path w);have EZ:=Um (fun w=>vT path w (by omega));clear HPE kC BZ;have T7:=Um (show Calls Tryz.prog 171 #[.func (.func 220) #[] #[.pointer (some ⟨W0.heap.size,0,none⟩)]] (W0.alloc (.cells #[.string path] 9)).drew (fun e w'=>(∃v,e=.returned v∧OS w' W0.heap.size v (bE path.data.toList))∧Up W0 w') from(pC path (by omega) W0.drew).mono (fun e w' h=>⟨h.1,(Below.refl _ _).drew.trans h.2⟩));have ky:=Um (show(bE path.data.toList).length≤4097 by
   have h1:=jr path.data.toList;have h2:path.data.toList.length=path.size:=Array.length_toList;omega)
  generalize bE path.data.toList=ps at D5 T7 ky;generalize eT path.data.toList=sl at D5 EZ;have zt:=LB.o;obtain⟨cc,-,cz⟩:=zt.facts;clear zt;go_upto_region 6 with fail
  go_cut [11] (fun t11 wx=>∃(Bt:Nat) (ta:Option Addr) (tc:Nat),t11=.pointer (some ⟨Bt,0,none⟩)∧eZ wx Bt pw c 1 ta ps.length tc ((0:Nat):Int) sl∧SA wx ta ps.length tc ps∧(∀b off,ta=some ⟨b,off,none⟩→b≠Bt)∧W0.heap.size≤Bt∧Up W0 wx)
  case first=>
   go_wp2_with fail;have hzz:W0.heap.size≤W0.heap.size:=aa _
   go_region_held3 (fun w'=>(∀b o,b<W0.heap.size→w'.cell? ⟨b,o,none⟩=W0.cell? ⟨b,o,none⟩)∧Up W0 w') (first|with_reducible assumption|with_reducible exact ck _|with_reducible exact bI _|with_reducible exact bN (by assumption) (by assumption)|with_reducible exact bB (by assumption) _|with_reducible exact bu (by assumption) _|with_reducible exact bm (by assumption) (by assumption)|with_reducible exact cj (by assumption) (by assumption))
    ((first
     |(go_at_call 172;((with_reducible refine(Ck.o _).mono ?_);rintro e w3 ⟨rfl,rfl⟩))
     |(go_at_call 171;((with_reducible refine T7.o.mono ?_);rintro e w4 ⟨⟨v,rfl,EG⟩,dI⟩;obtain⟨a4,c4,rfl,-,-,hf4⟩:=bw EG;have lJ:=mx dI;have HX:=Um (ag (SA.yh EG) (ag hf4 dI));clear EG dI hf4))
     |(go_at_call 173;((with_reducible refine(EZ.o _).mono ?_);rintro e w5 ⟨rfl,rfl⟩))))
   all_goals
    clear lJ;go_wp2_with fail;go_meet;obtain⟨lU,hf,hb⟩:=HX.o;refine⟨_,a4,c4,rfl,au.new _ _ _,lU.ak ((Below.refl _ _).alloc (aa _) _),fun b off h=>?_,hb.size,hb.alloc hb.size _⟩;rcases hf with⟨h0,-⟩|⟨g,h0,-,hg⟩
    ·rw[h0] at h;cases h
    ·rw[h0] at h;injection h with h;injection h with h1 h2;omega
  case rest=>
   obtain⟨Bt,ta,tc,rfl,hT,hS,hta,hBt,hb⟩:=hcut;generalize wc=W1 at hT hS hb⊢;have cM:=Um (bP.o.trans (hb.mono bP.o.size));have zh:=Um (show w.heap.size+2≤Bt by have:=T'.o.lt;omega);have ik:=Um (show TrR w pw (w.heap.size+1) Bt S c path f W1 from⟨1,ps,sl,0,ta,ps.length,tc,hT,hS,hta,by omega,by have:=ky.o;omega,D5.o,T'.o.ak hb,cM.o⟩);clear hT hS hta hBt hb cc cz T7 ky D5 Ck EZ;go_wp2_with fail;refine wp_label ?_;go_wp2_with fail
   go_loopw [] (fun wr=>TrR w pw (w.heap.size+1) Bt S c path f wr) (fun wr=>IH Bt wr)
   case atStart=>exact ik.o
   case round=>
    obtain⟨k,l,must,hp,ta,tl,tc,hT,hS,hta,QJ,hll,hE,EI,hb⟩:=hrel;have HT:=Um hT;have HS:=Um hS;have N1:=Um hta;have HE:=Um hE;have HBR:=Um EI;have HB:=Um hb;have HM:=Um (mh hT);unfold eZ at hT;obtain⟨bc,bf,bz⟩:=hT.facts;have hln:=hS.len;clear hS hta hE hb hT
    cases l with
    |nil=>
     obtain rfl:tl=0:=by simpa using hln.symm
     have cq:=Um (HE.o.trans z6);obtain⟨rc,rf,rz⟩:=EI.facts;clear EI;go_wp2_with (first|exact bodyPost_ret (aU (x:=⟨0,ByteArray.empty,k,true⟩) (e:=0) HBR.o.cO rfl rfl) rfl ⟨by rw[cq.o],aw HB.o (Nat.le_succ _)⟩|exact bp (aU (x:=⟨0,ByteArray.empty,k,true⟩) (e:=0) HBR.o.cO rfl rfl) ⟨by rw[cq.o],aw HB.o (Nat.le_succ _)⟩)
    |cons p l=>
     obtain⟨m,rfl⟩:∃m,tl=m+1:=⟨l.length,by simpa using hln.symm⟩;have hlm:l.length=m:=by simpa using hln
     have rs:=Um hlm;obtain⟨b,off,rfl,hbl⟩:=HS.o.ey (Nat.succ_pos m);have hpc:wr.cell? ⟨b,off,none⟩=some (.string (str p)):=HS.o.cell rfl 0 (by simp);have htc:m+1≤tc∧tc≤9223372036854775807:=⟨HS.o.2.1,HS.o.2.2.1⟩;obtain⟨Pk,Pj⟩:=htc;have zx:=Um hll;clear hln hlm EI hll;go_upto_region 9 with fail
     go_cut [] (fun wx=>∃(ta2:Option Addr) (tc2:Nat),eZ wx Bt pw c k ta2 m tc2 hp must∧SA wx ta2 m tc2 l∧(∀b off,ta2=some ⟨b,off,none⟩→b≠Bt)∧au wx (w.heap.size+1) #[.int .i64 0,.string ⟨#[]⟩,.int .i64 0,.bool false] 140∧Up w wx)
     case first=>
      by_cases h1:tc=1
      ·obtain rfl:m=0:=by omega
       subst h1;go_wp2_with fail;go_meet;exact⟨_,_,HT.o.set 4 _,(show SA wr (some ⟨b,off,none⟩) 0 0 l from by have h:=HS.o.tail rfl;simpa using h).lP N1.o 4 _,N1.o,HBR.o.setOther ⟨Bt,4,none⟩ _ (by have:=zh.o;show Bt≠_;omega),HB.o.setCell (show w.heap.size≤Bt by have:=zh.o;omega) _⟩
      ·have Q8:¬(tc:Int)=1:=by omega
       have Lh:=Um (show SA wr (some ⟨b,off+1,none⟩) m (tc-1) l from by have h:=HS.o.tail rfl;rw[if_neg h1] at h;exact h);have Cj:=Um (show∀b' off',some (⟨b,off+1,none⟩:Addr)=some ⟨b',off',none⟩→b'≠Bt from fun b' off' h=>by injection h with h;injection h with h3 h4;rw[←h3];exact N1.o b off rfl);go_wp2_with fail;go_meet;exact⟨_,_,HT.o.set 4 _,Lh.o.lP Cj.o 4 _,Cj.o,HBR.o.setOther ⟨Bt,4,none⟩ _ (by have:=zh.o;show Bt≠_;omega),HB.o.setCell (show w.heap.size≤Bt by have:=zh.o;omega) _⟩
     case rest=>
      obtain⟨ta2,tc2,pQ,jR,Sh,PV,aD⟩:=hcut;generalize wc=W2 at pQ jR PV aD⊢;clear bc bf bz hpc hbl Pk Pj;have Qg:=Um pQ;have o4:=Um jR;have D3:=Um Sh;have HBR2:=Um PV;have cV:=Um aD;have gr:=Um (IN (HW.o.ak aD) HK.o hN c k pQ (str p));rw[aH] at gr;unfold eZ at pQ;obtain⟨bc,bf,bz⟩:=pQ.facts;obtain⟨lb,hlb⟩:∃x:Bool,((m:Int)==0)=x:=⟨_,rfl⟩;have B4:=Um (show lb=decide (l=[]) by
       rw[←hlb,←rs.o]
       cases l with
       |nil=>rfl
       |cons x l=>simp;omega)
      have Lx:=Um (fun he=>HE.o.trans (pg (h:=8-hp) (l:=l) (must:=must) (f:=f) (c:=c) (S:=S) (at':=k) (p:=p) he));have HStp:=Um (show S.step c k p=((S.step c k p).1,(S.step c k p).2) from rfl);generalize hno:(S.step c k p).1=no at gr;generalize her:(S.step c k p).2=er at gr Lx;have fL:=Um hno;have HEr:=Um her;clear jR Sh PV aD pQ hno her HStp;go_upto_region 12 with(go_at_call 174;((with_reducible refine gr.o.mono ?_);rintro e w3 ⟨rfl,bJ⟩;have ez:=Um bJ;clear bJ));have bJ:=ez.o;have PU:=cV.o.trans (bJ.mono cV.o.size);have Ie:=Um PU;have PE:=Qg.o.ak bJ;have Cj:=Um PE;have Lh:=Um (o4.o.ak bJ);have Th:=HBR2.o.ak bJ;have Ud:=Um Th;have pc3:w3.cell? ⟨pw,0,none⟩=some (.pointer (some ⟨R.pt,0,none⟩)):=(PU.cell (p:=⟨pw,0,none⟩) pz).trans (vr.o 0);clear bc bf bz bJ PU Th;unfold eZ at PE;clear PE
      cases hg:S.get no with
      |none=>
       have HG:=Um (fN (HW.o.ak Ie.o) hg);unfold An.v dh at HG;have D9:=Um hg;clear hg;go_wp2_with fail;refine HG.o.mono ?_;rintro e w4 ⟨rfl,dI⟩;have ax:=al dI (.cells #[.int .i64 0,.int .i64 0,.int .i64 0,.int .i64 0,.int .i64 0,.int .i64 0,.int .i64 0,.int .i64 0,.int .i64 0,.int .i64 0,.string ByteArray.empty,.slice none 0 0] 99);clear dI pc3;go_upto_region 13 with fail;generalize w4.alloc _=X at ax⊢;have aJ:=Um (Ie.o.trans (ax.mono Ie.o.size));have LS:=Um (au.ak Cj.o ax);have TK:=Um (Lh.o.ak ax);have gh:=Um (Ud.o.ak ax);clear ax;by_cases he:er=0
       ·have heb:(er != 0)=false:=by simpa using he
        have jW:=Um (show(S.step c k p).2=0 by rw[HEr.o];exact he);subst he;clear Lx;by_cases hup:p=[46,46]
        ·have hup':(str p).toList=[46,46]:=by rw[aC,aH];exact hup
         have u9:=Um (HE.o.trans (xR jW.o hup));rw[fL.o] at u9;clear hup;have EE:=LS.o;obtain⟨bc,bf,bz⟩:=au.facts EE;clear EE;go_wp2_with fail;have OH:=Um (show eZ (X.setCell ⟨Bt,3,none⟩ (.int .i64 no)) Bt pw c no ta2 m tc2 hp must from LS.o.set 3 _);go_roundw
         case rel=>exact⟨no,l,must,hp,ta2,m,tc2,OH.o,TK.o.lP D3.o 3 _,D3.o,QJ,by have:=zx.o;simp at this;omega,u9.o,gh.o.setOther ⟨Bt,3,none⟩ _ (by have:=zh.o;show Bt≠_;omega),aJ.o.setCell (show w.heap.size≤Bt by have:=zh.o;omega) _⟩
         case measure=>rw[HM.o,mh OH.o];omega
        ·have hup':((str p).toList==[46,46])=false:=by rw[aC,aH];simpa using hup
         have u9:=Um hup;clear hup;have EE:=LS.o;obtain⟨bc,bf,bz⟩:=au.facts EE;have eF:=gh.o;obtain⟨rc,rf,rz⟩:=eF.facts;clear EE eF
         cases lb with
         |true=>
          have dL:l=[]:=by have:=B4.o;simpa using this.symm
          have cq:=Um (HE.o.trans (z7 jW.o u9.o (by rw[fL.o];exact D9.o) dL));clear dL;go_wp2_with fail;have hne:Bt≠w.heap.size+1:=by have:=zh.o;omega
          have b3:X.drew.cell? ⟨Bt,3,none⟩=some (.int .i64 k):=bc 3;have b6:X.drew.cell? ⟨Bt,6,none⟩=some (.bool must):=bc 6
          go_region_held3 (fun w'=>w'.cell? ⟨Bt,3,none⟩=some (.int .i64 k)∧w'.cell? ⟨Bt,6,none⟩=some (.bool must)) (first|exact⟨b3,b6⟩|exact oM ⟨b3,b6⟩ hne) (fail)
          go_wp2_with (first|exact bodyPost_ret (aU (x:=⟨k,str p,0,must⟩) (e:=0) gh.o.drew.cO rfl rfl) rfl ⟨by rw[cq.o],aw aJ.o.drew (Nat.le_succ _)⟩|exact bp (aU (x:=⟨k,str p,0,must⟩) (e:=0) gh.o.drew.cO rfl rfl) ⟨by rw[cq.o],aw aJ.o.drew (Nat.le_succ _)⟩)
         |false=>
          have dL:l≠[]:=by have:=B4.o;simpa using this.symm
          have cq:=Um (HE.o.trans (vX jW.o u9.o (by rw[fL.o];exact D9.o) dL));clear dL;go_wp2_with (first|exact bodyPost_ret (aU (x:=gC) (e:=5) gh.o.cO rfl rfl) rfl ⟨by rw[cq.o],aw aJ.o (Nat.le_succ _)⟩|exact bp (aU (x:=gC) (e:=5) gh.o.cO rfl rfl) ⟨by rw[cq.o],aw aJ.o (Nat.le_succ _)⟩)
       ·have heb:(er != 0)=true:=by simpa using he
        have cq:=Um (Lx.o he);have eF:=gh.o;obtain⟨rc,rf,rz⟩:=eF.facts;clear eF he;go_wp2_with (first|exact bodyPost_ret (aU (x:=gC) (e:=er) gh.o.cO rfl rfl) rfl ⟨by rw[cq.o],aw aJ.o (Nat.le_succ _)⟩|exact bp (aU (x:=gC) (e:=er) gh.o.cO rfl rfl) ⟨by rw[cq.o],aw aJ.o (Nat.le_succ _)⟩)
      |some nd=>
       obtain⟨ea,el,ec,-,hG⟩:=eA HW.o hg;have HG:=Um (hG w3 Ie.o);unfold An.v at HG;have D9:=Um hg;have HSy:=Um ((HK.o.get hg).1.sy);clear hg hG;go_wp2_with fail;refine HG.o.mono ?_;rintro e w4 ⟨rfl,dI⟩;have ax:=al dI (.cells #[.int .i64 nd.no,.int .i64 nd.dev,.int .i64 nd.kind,.int .i64 nd.mode,.int .i64 nd.uid,.int .i64 nd.gid,.int .i64 nd.mtime,.int .i64 nd.ctime,.int .i64 nd.an,.int .i64 nd.up,.string nd.data,.slice ea el ec] 99);have QT:=au.new w4 #[.int .i64 nd.no,.int .i64 nd.dev,.int .i64 nd.kind,.int .i64 nd.mode,.int .i64 nd.uid,.int .i64 nd.gid,.int .i64 nd.mtime,.int .i64 nd.ctime,.int .i64 nd.an,.int .i64 nd.up,.string nd.data,.slice ea el ec] 99;clear dI pc3;go_upto_region 13 with fail;generalize w4.alloc _=X at ax QT⊢;have aJ:=Um (Ie.o.trans (ax.mono Ie.o.size));have LS:=Um (au.ak Cj.o ax);have TK:=Um (Lh.o.ak ax);have gh:=Um (Ud.o.ak ax);have HNX:=Um QT;clear ax QT;by_cases he:er=0
       ·have heb:(er != 0)=false:=by simpa using he
        have jW:=Um (show(S.step c k p).2=0 by rw[HEr.o];exact he);subst he;clear Lx;by_cases hup:p=[46,46]
        ·have hup':(str p).toList=[46,46]:=by rw[aC,aH];exact hup
         have u9:=Um (HE.o.trans (xR jW.o hup));rw[fL.o] at u9;clear hup;have EE:=LS.o;obtain⟨bc,bf,bz⟩:=au.facts EE;clear EE;go_wp2_with fail;have OH:=Um (show eZ (X.setCell ⟨Bt,3,none⟩ (.int .i64 no)) Bt pw c no ta2 m tc2 hp must from LS.o.set 3 _);go_roundw
         case rel=>exact⟨no,l,must,hp,ta2,m,tc2,OH.o,TK.o.lP D3.o 3 _,D3.o,QJ,by have:=zx.o;simp at this;omega,u9.o,gh.o.setOther ⟨Bt,3,none⟩ _ (by have:=zh.o;show Bt≠_;omega),aJ.o.setCell (show w.heap.size≤Bt by have:=zh.o;omega) _⟩
         case measure=>rw[HM.o,mh OH.o];omega
        ·have hup':((str p).toList==[46,46])=false:=by rw[aC,aH];simpa using hup
         have u9:=Um hup;clear hup;have EE:=LS.o;obtain⟨bc,bf,bz⟩:=au.facts EE;have eF:=gh.o;obtain⟨rc,rf,rz⟩:=eF.facts;have QT:=HNX.o;obtain⟨nc,nf,nz⟩:=QT.facts;clear EE eF QT;obtain⟨lk,hlk⟩:∃x:Bool,x=((nd.kind==3)&&(!lb||must||f)):=⟨_,rfl⟩;have B0:=Um hlk;have qi:=Um (show lk=true↔nd.kind=3∧(l≠[]∨must=true∨f=true) by
          rw[hlk,B4.o];simp[or_assoc])
         clear hlk;go_upto_region 21 with fail
         go_cut [111] (fun t111 wx=>t111=.bool lk∧X=wx)
         case first=>
          by_cases h3:nd.kind=3
          ·have vF:(nd.kind==3)=true:=by simpa using h3
           clear h3
           cases lb<;>cases must<;>cases f
           all_goals
            have HV:=Um B0.o;rw[vF] at HV;go_wp2_with fail;go_meet;exact⟨by rw[HV.o];rfl,rfl⟩
          ·have vF:(nd.kind==3)=false:=by simpa using h3
           have HV:=Um B0.o;rw[vF,Bool.false_and] at HV;clear h3;go_wp2_with fail;go_meet;exact⟨by rw[HV.o],rfl⟩
         case rest=>
          obtain⟨rfl,hwc⟩:=hcut;subst hwc;have hll9:l.length≤36873:=by have h1:=zx.o;simp only[List.length_cons] at h1;omega
          cases lk with
          |true=>
           have hlk:=qi.o.1 rfl;have hdz:=HSy.o hlk.1;have Ls:=Um hlk;have HDz:=Um hdz;have HF:=Um (DF LS.o TK.o D3.o nd.data hdz (by omega) ⟨by omega,by omega⟩);clear hlk hdz;go_wp2_with fail;refine HF.o.mono ?_;rintro e w5 ⟨Nc,⟨h8,rfl⟩|⟨h8,hd,rfl⟩|⟨h8,hd,rfl,ta5,tl5,tc5,hT5,eu,Ii⟩⟩
           ·have cq:=Um (show S.path c path f=(gC,12) from HE.o.trans (by rw[show 8-hp=0 by omega];exact vV jW.o u9.o (by rw[fL.o];exact D9.o) Ls.o));have gQ:=gh.o.mod Nc (show¬(w.heap.size+1=Bt) by have:=zh.o;omega);have oZ:=Um gQ;have hZ:=Um (aJ.o.trans (Nc.below (fun k hk=>by have:=zh.o;omega) aJ.o.size));clear rc rf rz nc nf nz bc bf bz Nc;obtain⟨rc,rf,rz⟩:=gQ.facts;clear gQ h8;go_wp2_with (first|exact bodyPost_ret (aU (x:=gC) (e:=12) oZ.o.cO rfl rfl) rfl ⟨by rw[cq.o],aw hZ.o (Nat.le_succ _)⟩|exact bp (aU (x:=gC) (e:=12) oZ.o.cO rfl rfl) ⟨by rw[cq.o],aw hZ.o (Nat.le_succ _)⟩)
           ·have cq:=Um (show S.path c path f=(gC,5) from HE.o.trans (by rw[show 8-hp=(7-hp)+1 by omega];exact vU jW.o u9.o (by rw[fL.o];exact D9.o) Ls.o hd));have gQ:=gh.o.mod Nc (show¬(w.heap.size+1=Bt) by have:=zh.o;omega);have oZ:=Um gQ;have hZ:=Um (aJ.o.trans (Nc.below (fun k hk=>by have:=zh.o;omega) aJ.o.size));clear rc rf rz nc nf nz bc bf bz Nc;obtain⟨rc,rf,rz⟩:=gQ.facts;clear gQ h8 hd;go_wp2_with (first|exact bodyPost_ret (aU (x:=gC) (e:=5) oZ.o.cO rfl rfl) rfl ⟨by rw[cq.o],aw hZ.o (Nat.le_succ _)⟩|exact bp (aU (x:=gC) (e:=5) oZ.o.cO rfl rfl) ⟨by rw[cq.o],aw hZ.o (Nat.le_succ _)⟩)
           ·have cq:=Um (show S.path c path f=S.eO c f (8-(hp+1)) (if nd.data.data.toList.head?=some 47 then 1 else k) (if l=[] then must||eT nd.data.data.toList else must) (bE nd.data.data.toList++l) from HE.o.trans (by rw[show 8-hp=(8-(hp+1))+1 by omega];exact vW jW.o u9.o (by rw[fL.o];exact D9.o) Ls.o hd));have oZ:=Um (gh.o.mod Nc (show¬(w.heap.size+1=Bt) by have:=zh.o;omega));have hZ:=Um (aJ.o.trans (Nc.below (fun k hk=>by have:=zh.o;omega) aJ.o.size));have hpl:(bE nd.data.data.toList).length≤4097:=by
             have h1:=jr nd.data.data.toList;have h2:nd.data.data.toList.length=nd.data.size:=Array.length_toList;have:=HDz.o;omega
            have hl5:=eu.len;rw[List.length_append] at hl5;have HT5:=Um (show eZ w5 Bt pw c (if nd.data.data.toList.head?=some 47 then 1 else k) ta5 tl5 tc5 ((hp+1:Nat):Int) (if l=[] then must||eT nd.data.data.toList else must) from hT5);have sv:=Um eu;have HA5:=Um (show∀b off,ta5=some ⟨b,off,none⟩→b≠Bt from fun b off h=>by have q1:=Ii b off h;have q2:=LS.o.lt;omega);have Q6:hp+1≤8:=by omega
            clear Nc hT5 eu Ii h8 hd rc rf rz nc nf nz bc bf bz;go_wp2_with fail;go_roundw
            case rel=>exact⟨_,_,_,hp+1,ta5,tl5,tc5,HT5.o,sv.o,HA5.o,Q6,by rw[List.length_append];have h1:=zx.o;simp only[List.length_cons] at h1;omega,cq.o,oZ.o,hZ.o⟩
            case measure=>rw[HM.o,mh HT5.o];have:=rs.o;omega
          |false=>
           have hlk:¬(nd.kind=3∧(l≠[]∨must=true∨f=true)):=fun h=>by have:=qi.o.2 h;cases this
           have TU:=Um hlk;clear B0 qi;by_cases h3:nd.kind=1
           ·have vF:(nd.kind != 1)=false:=by simpa using h3
            have lM:=Um (show¬(nd.kind≠1∧(l≠[]∨must=true)) from fun h=>h.1 h3);clear h3
            cases lb with
            |true=>
             have dL:l=[]:=by have:=B4.o;simpa using this.symm
             have cq:=Um (HE.o.trans (m' jW.o u9.o (by rw[fL.o];exact D9.o) TU.o lM.o dL));rw[fL.o] at cq;clear dL;go_wp2_with fail;have hne:Bt≠w.heap.size+1:=by have:=zh.o;omega
             have b3:X.drew.cell? ⟨Bt,3,none⟩=some (.int .i64 k):=bc 3;have b6:X.drew.cell? ⟨Bt,6,none⟩=some (.bool must):=bc 6
             go_region_held3 (fun w'=>w'.cell? ⟨Bt,3,none⟩=some (.int .i64 k)∧w'.cell? ⟨Bt,6,none⟩=some (.bool must)) (first|exact⟨b3,b6⟩|exact oM ⟨b3,b6⟩ hne) (fail)
             go_wp2_with (first|exact bodyPost_ret (aU (x:=⟨k,str p,no,must⟩) (e:=0) gh.o.drew.cO rfl rfl) rfl ⟨by rw[cq.o],aw aJ.o.drew (Nat.le_succ _)⟩|exact bp (aU (x:=⟨k,str p,no,must⟩) (e:=0) gh.o.drew.cO rfl rfl) ⟨by rw[cq.o],aw aJ.o.drew (Nat.le_succ _)⟩)
            |false=>
             have dL:l≠[]:=by have:=B4.o;simpa using this.symm
             have cq:=Um (HE.o.trans (Eg jW.o u9.o (by rw[fL.o];exact D9.o) TU.o lM.o dL));rw[fL.o] at cq;clear dL;go_wp2_with fail;have OH:=Um (show eZ (X.setCell ⟨Bt,3,none⟩ (.int .i64 no)) Bt pw c no ta2 m tc2 hp must from LS.o.set 3 _);go_roundw
             case rel=>exact⟨no,l,must,hp,ta2,m,tc2,OH.o,TK.o.lP D3.o 3 _,D3.o,QJ,by have:=zx.o;simp at this;omega,cq.o,gh.o.setOther ⟨Bt,3,none⟩ _ (by have:=zh.o;show Bt≠_;omega),aJ.o.setCell (show w.heap.size≤Bt by have:=zh.o;omega) _⟩
             case measure=>rw[HM.o,mh OH.o];omega
           ·have vF:(nd.kind != 1)=true:=by simpa using h3
            have HK3:=Um h3;clear h3
            cases lb with
            |false=>
             have dL:l≠[]:=by have:=B4.o;simpa using this.symm
             have cq:=Um (HE.o.trans (ng jW.o u9.o (by rw[fL.o];exact D9.o) TU.o ⟨HK3.o,.inl dL⟩));clear dL;go_wp2_with (first|exact bodyPost_ret (aU (x:=gC) (e:=9) gh.o.cO rfl rfl) rfl ⟨by rw[cq.o],aw aJ.o (Nat.le_succ _)⟩|exact bp (aU (x:=gC) (e:=9) gh.o.cO rfl rfl) ⟨by rw[cq.o],aw aJ.o (Nat.le_succ _)⟩)
            |true=>
             have dL:l=[]:=by have:=B4.o;simpa using this.symm
             cases must with
             |true=>
              have cq:=Um (HE.o.trans (ng jW.o u9.o (by rw[fL.o];exact D9.o) TU.o ⟨HK3.o,.inr rfl⟩));clear dL;go_wp2_with (first|exact bodyPost_ret (aU (x:=gC) (e:=9) gh.o.cO rfl rfl) rfl ⟨by rw[cq.o],aw aJ.o (Nat.le_succ _)⟩|exact bp (aU (x:=gC) (e:=9) gh.o.cO rfl rfl) ⟨by rw[cq.o],aw aJ.o (Nat.le_succ _)⟩)
             |false=>
              have cq:=Um (HE.o.trans (m' jW.o u9.o (by rw[fL.o];exact D9.o) TU.o (fun h=>h.2.elim (fun h=>h dL) (fun h=>by cases h)) dL));rw[fL.o] at cq;clear dL;go_wp2_with fail;have hne:Bt≠w.heap.size+1:=by have:=zh.o;omega
              have b3:X.drew.cell? ⟨Bt,3,none⟩=some (.int .i64 k):=bc 3;have b6:X.drew.cell? ⟨Bt,6,none⟩=some (.bool false):=bc 6
              go_region_held3 (fun w'=>w'.cell? ⟨Bt,3,none⟩=some (.int .i64 k)∧w'.cell? ⟨Bt,6,none⟩=some (.bool false)) (first|exact⟨b3,b6⟩|exact oM ⟨b3,b6⟩ hne) (fail)
              go_wp2_with (first|exact bodyPost_ret (aU (x:=⟨k,str p,no,false⟩) (e:=0) gh.o.drew.cO rfl rfl) rfl ⟨by rw[cq.o],aw aJ.o.drew (Nat.le_succ _)⟩|exact bp (aU (x:=⟨k,str p,no,false⟩) (e:=0) gh.o.drew.cO rfl rfl) ⟨by rw[cq.o],aw aJ.o.drew (Nat.le_succ _)⟩)
       ·have heb:(er != 0)=true:=by simpa using he
        have cq:=Um (Lx.o he);have eF:=gh.o;obtain⟨rc,rf,rz⟩:=eF.facts;clear eF he;go_wp2_with (first|exact bodyPost_ret (aU (x:=gC) (e:=er) gh.o.cO rfl rfl) rfl ⟨by rw[cq.o],aw aJ.o (Nat.le_succ _)⟩|exact bp (aU (x:=gC) (e:=er) gh.o.cO rfl rfl) ⟨by rw[cq.o],aw aJ.o (Nat.le_succ _)⟩)
 ·have hpb:(pe==0)=false:=by simpa using hpe
  have D5:=Um (HPE.o.trans (if_pos hpe));have EI:=T'.o;obtain⟨rc,rf,rz⟩:=EI.facts;clear hpe EI;go_wp2_with (first|exact bodyPost_ret (aU (x:=gC) (e:=pe) T'.o.cO rfl rfl) rfl ⟨by rw[D5.o],aw bP.o (Nat.le_succ _)⟩|exact bp (aU (x:=gC) (e:=pe) T'.o.cO rfl rfl) ⟨by rw[D5.o],aw bP.o (Nat.le_succ _)⟩)
end
end
section
open Go.RowKit
theorem kV(l:List UInt8):∀p∈bE l,p.length≤l.length:=fun p hp=>fA 47 l p (List.mem_filter.1 hp).1
theorem ks:gC.name.size≤1048576:=by show(0:Nat)≤_;omega
theorem oy{S:Fs}(hS:∀k a,S.get k=some a→a.data.size≤1048576)(c:Cr)(f:Bool)(k:Option (Int→Bool→List (List UInt8)→Fd×Int))
  (hk:∀g,k=some g→∀at' must l,(∀p∈l,p.length≤1048576)→(g at' must l).1.name.size≤1048576) :
  ∀(l:List (List UInt8)) (at':Int) (must:Bool),(∀p∈l,p.length≤1048576)→(S.cy c f k l at' must).1.name.size≤1048576
 | [],at',must,_=>by rw[Fs.cy];show(0:Nat)≤_;omega
 |p::l,at',must,hl=>by
  have hp:(str p).size≤1048576:=by rw[aP];exact hl p (by simp)
  have hl':∀q∈l,q.length≤1048576:=fun q hq=>hl q (by simp[hq]);have ih:=oy hS c f k hk l;rw[Fs.cy]
  split
  ·exact ks
  ·split
   ·exact ih _ _ hl'
   ·split
    ·split
     ·exact hp
     ·exact ks
    ·rename_i n hn
     split
     ·cases hkk:k with
      |none=>exact ks
      |some g=>
       simp only
       split
       ·exact ks
       ·refine hk g hkk _ _ _ (fun q hq=>?_);rcases List.mem_append.1 hq with hq|hq
        ·have h1:=kV _ q hq;have h2:n.data.data.toList.length=n.data.size:=Array.length_toList;have h3:=hS _ n hn;omega
        ·exact hl' q hq
     ·split
      ·exact ks
      ·split
       ·exact hp
       ·exact ih _ _ hl'
theorem th{S:Fs}(hS:∀k a,S.get k=some a→a.data.size≤1048576)(c:Cr)(f:Bool):∀(h:Nat) (at':Int) (must:Bool) (l:List (List UInt8)),(∀p∈l,p.length≤1048576)→(S.eO c f h at' must l).1.name.size≤1048576
 |0,at',must,l,hl=>oy hS c f none (fun g h=>by cases h) l at' must hl
 |h+1,at',must,l,hl=>oy hS c f (some (S.eO c f h)) (fun g hg at' must l hl=>by injection hg with hg;subst hg;exact th hS c f h at' must l hl) l at' must hl
theorem wv{S:Fs}{N:Nat}(hk:av S N)(c:Cr)(s:ByteArray)(hs:s.size≤1048576)(f:Bool):(S.path c s f).1.name.size≤1048576:=by
 unfold Fs.path
 split
 ·exact ks
 ·refine th (fun k a h=>(hk.get h).1.data) c f 8 1 _ _ (fun p hp=>?_);have h1:=kV _ p hp;have h2:s.data.toList.length=s.size:=Array.length_toList;omega
end
section
open Go.RowKit
theorem nV{tmps:Array Value}{W:World}{B:Nat}{x:Fd}{e:Int}(hb:au W B #[.int .i64 x.dir,.string x.name,.int .i64 x.no,.bool x.zX] 140)
  (h8:tmps.getD 8 undef=.pointer (some ⟨B,0,none⟩)) (h9:tmps.getD 9 undef=.int .i64 e):(results Tryz.f62 tmps).run Tryz.prog W=.ok (.tuple #[x.v,.int .i64 e]) W:=by
 have q0:=hb.cell 0;have q1:=hb.cell 1;have q2:=hb.cell 2;have q3:=hb.cell 3;rw[Array.getD_eq_getD_getElem?] at h8 h9;simp[results,Tryz.results62,go_sem,Fd.v,h8,h9,q0,q1,q2,q3]
section
variable{w w':World}{pf pw:Nat}{R:Rp}{pv:Value}{Y:Sy}
theorem mZ(h:bK w pf pw R pv Y){N:Nat}(hk:av Y.fs N)(hN:N≤999999)(hd:Y.dead=false)(c:Cr)(path:ByteArray)(hp:path.size≤100000)(f:Bool) :
  Calls Tryz.prog 62 #[.pointer (some ⟨pf,0,none⟩),.agg #[.int .i64 c.u,.int .i64 c.g],.string path,.bool f] w fun e w'=>e=.returned (.tuple #[(Y.fs.path c path f).1.v,.int .i64 (Y.fs.path c path f).2])∧Up w w':=by
 have eF:au ((w.alloc (.cells #[.int .i64 c.u,.int .i64 c.g] 69)).alloc (.cells #[.int .i64 0,.string ⟨#[]⟩,.int .i64 0,.bool false] 140)) (w.heap.size+1) #[.int .i64 0,.string ⟨#[]⟩,.int .i64 0,.bool false] 140:=by
  have:=au.new (w.alloc (.cells #[.int .i64 c.u,.int .i64 c.g] 69)) #[.int .i64 0,.string ⟨#[]⟩,.int .i64 0,.bool false] 140
  rwa [World.size_alloc] at this
 have fy:=(au.new w #[.int .i64 c.u,.int .i64 c.g] 69).eE (.cells #[.int .i64 0,.string ⟨#[]⟩,.int .i64 0,.bool false] 140);have ax:=al (al (Uq w) (.cells #[.int .i64 c.u,.int .i64 c.g] 69)) (.cells #[.int .i64 0,.string ⟨#[]⟩,.int .i64 0,.bool false] 140);have HR:=Um (fun w1 (ar:Up w w1)=>iq (h.ak ar));rw[hd] at HR;have HS:=Um (fun w1 (ar:Up w w1)=>Jo (h.wd.ak ar) hk hN c path hp f);obtain⟨pc,-,pz⟩:=h.bd.facts;have vr:=Um (fun w1 (ar:Up w w1)=>show w1.cell? ⟨pf,0,none⟩=some (.pointer (some ⟨pw,0,none⟩)) from(ar.cell (p:=⟨pf,0,none⟩) pz).trans (pc 0));have mixed:Tryz.prog.follows .mixedOrders=true:=by kernel_rfl
 generalize Y.fs.path c path f=rd at HS⊢;unfold Fd.v at HS;clear h hk hd pc pz;go_enter Tryz.func62,Tryz.ntmps62;go_wp2_with fail;refine(HR.o _ ax).mono ?_;rintro e w1 ⟨rfl,rfl⟩;generalize (w.alloc (.cells #[.int .i64 c.u,.int .i64 c.g] 69)).alloc (.cells #[.int .i64 0,.string ⟨#[]⟩,.int .i64 0,.bool false] 140)=W0 at eF fy ax⊢;have gh:=Um eF;have aJ:=Um ax;have pc0:=vr.o _ ax;obtain⟨cc,-,cz⟩:=fy.facts;clear fy ax eF;go_wp2_with fail;refine ay 7 mixed (by kernel_rfl) (show bV _ from by repeat (first|exact cZ|refine cY ?_|refine cw ?_|refine cJ ?_)) ?_;simp only[List.take_succ_cons,List.take_zero,List.drop_succ_cons,List.drop_zero]
 repeat still_step
 refine wpStill_nil ?_;go_wp2_with fail;refine(HS.o _ aJ.o.drew).mono ?_;rintro e w1 ⟨rfl,ar⟩;have l6:=gh.o.drew.ak ar;have vq:=Um l6;have jQ:=Um (aJ.o.drew.trans (ar.mono aJ.o.size));obtain⟨rc,rf,rz⟩:=l6.facts;clear ar l6;go_wp2_with fail;exact bodyPost_ret (nV vq.o.cO rfl rfl) rfl ⟨rfl,aw jQ.o (Nat.le_succ _)⟩
structure Calm(Y:Sy):Prop where
 bD:Y.bD=[]
 dead:Y.dead=false
 now:Y.now=0
 c0:0≤Y.count
theorem Calm.change(h:Calm Y):Y.change=({Y with count:=Y.count+1},0):=mP h.dead (fun x hx=>by rw[h.bD] at hx;cases hx)
theorem Calm.op(h:Calm Y)(g:Fs→Int→Fs×Int×Int):Y.op g=({Y with count:=Y.count+1,fs:=(g Y.fs 0).1},(g Y.fs 0).2):=by
 unfold Sy.op;rw[h.change,h.now];rfl
theorem Calm.nt(h:Calm Y)(g:Fs→Int→Fs×Int):Y.nt g=({Y with count:=Y.count+1,fs:=(g Y.fs 0).1},(g Y.fs 0).2):=by
 unfold Sy.nt;rw[h.change,h.now];rfl
theorem Calm.next(h:Calm Y)(S:Fs):Calm {Y with count:=Y.count+1,fs:=S}:=⟨h.bD,h.dead,h.now,by have:=h.c0;show 0≤Y.count+1;omega⟩
theorem Calm.fs(h:Calm Y)(S:Fs):Calm {Y with fs:=S}:=⟨h.bD,h.dead,h.now,h.c0⟩
def ft(w w':World)(pf pw:Nat)(R:Rp)(pv:Value)(Y:Sy)(S:Fs)(d:Int):Prop:=
 ∃R' Z,bK w' pf pw R' pv Z∧Z.fs=S∧Calm Z∧Z.count≤Y.count+d∧aL (R.Y pf pw) (R'.Y pf pw) w w'
theorem ft.same(h:bK w pf pw R pv Y)(hc:Calm Y)(hb:Up w w'):ft w w' pf pw R pv Y Y.fs 0:=⟨R,Y,h.ak hb,rfl,hc,by omega,aL.aq hb⟩
theorem ft.mono{S:Fs}{d d':Int}(h:ft w w' pf pw R pv Y S d)(hd:d≤d'):ft w w' pf pw R pv Y S d':=by
 obtain⟨R',Z,h1,h2,h3,h4,h5⟩:=h;exact⟨R',Z,h1,h2,h3,by omega,h5⟩
theorem au.sy{B:Nat}{vs:Array Value}{T:TypeId}(hb:au w B vs T)(h:bK w pf pw R pv Y){F':Nat→Prop}(hs:aL (R.Y pf pw) F' w w')(hT:gR (.cells #[] T (0,0))=false)(pQ:T≠109):au w' B vs T:=
 hb.mod hs.mod (fun hk=>by
  rcases hk with rfl|hk
  ·have h1:=h.bd;unfold au at hb h1;rw[hb] at h1;injection h1 with h1;injection h1 with h1 h2;exact pQ h2
  ·obtain⟨o,ho,hd⟩:=h.wd.kind hk;unfold au at hb;rw[hb] at ho;injection ho with ho;subst ho;rw[show gR (.cells vs T (0,0))=gR (.cells #[] T (0,0)) from rfl,hT] at hd
   cases hd)
end
end
section
open Go.RowKit
end
section
open Go.RowKit
theorem Kg(s:ByteArray)(hs:s.size≤2000000)(w:World) :
  Calls Tryz.prog 216 #[.string s,.int .u8 0] w fun e w'=>e=.returned (.bool (hasB s 0))∧w=w':=sH s 0 w hs
theorem vZ(s:ByteArray)(w:World)(hs:s.size≤2000000) :
  Calls Tryz.prog 180 #[.string s] w fun e w'=>e=.returned (.int .i64 (ed s))∧w=w':=by
 rcases Nat.eq_zero_or_pos s.size with h0|hpos
 ·have HE:=Um (qG h0);have hn:s.toList=[]:=by rw[aC];exact List.eq_nil_of_length_eq_zero (by rw[Array.length_toList];exact h0)
  clear h0;go_enter Tryz.func180,Tryz.ntmps180;go_wp2_with fail;go_ret;exact⟨by rw[HE.o];rfl,rfl⟩
 ·have hn:¬s.toList=[]:=by
   rw[aC];intro e;have:s.data.toList.length=s.size:=Array.length_toList;rw[e] at this;simp at this;omega
  have jj:s.toList.isEmpty=false:=by simpa using hn
  by_cases qQ:s[0]=47
  ·have hr:=Um (tJ hpos qQ);have eS:((s[0].toNat:Int)==47)=true:=by rw[qQ];rfl
   have eh:((s[0].toNat:Int) != 47)=false:=by rw[bne,eS];rfl
   clear qQ;have hc:=Um (Kg s hs);generalize hasB s 0=b at hr hc
   cases b
   ·by_cases hlen:4096<s.size
    ·have hE:=Um (show ed s=13 by rw[hr.out];simp[hlen]);go_enter Tryz.func180,Tryz.ntmps180;go_wp2_with (go_at_call 216;refine(hc.out _).mono ?_;rintro e w1 ⟨rfl,rfl⟩);go_ret;exact⟨by rw[hE.out];rfl,rfl⟩
    ·have hE:=Um (show ed s=0 by rw[hr.out];simp[hlen]);go_enter Tryz.func180,Tryz.ntmps180;go_wp2_with (go_at_call 216;refine(hc.out _).mono ?_;rintro e w1 ⟨rfl,rfl⟩);go_ret;exact⟨by rw[hE.out];rfl,rfl⟩
   ·have hE:=Um (show ed s=1 by rw[hr.out];rfl);go_enter Tryz.func180,Tryz.ntmps180;go_wp2_with (go_at_call 216;refine(hc.out _).mono ?_;rintro e w1 ⟨rfl,rfl⟩);go_ret;exact⟨by rw[hE.out];rfl,rfl⟩
  ·have hE:=Um (tK hpos qQ);have eS:((s[0].toNat:Int)==47)=false:=by
    simp only[beq_eq_false_iff_ne,ne_eq];intro h;exact qQ (by rw[gE];show s[0].toNat=47;omega)
   have eh:((s[0].toNat:Int) != 47)=true:=by rw[bne,eS];rfl
   clear qQ;go_enter Tryz.func180,Tryz.ntmps180;go_wp2_with fail;go_ret;exact⟨by rw[hE.out];rfl,rfl⟩
theorem Ay(s:ByteArray):eQ s=(decide (ed s=0)&&decide (iN s.data.toList≠[])):=by
 unfold eQ;congr 1;rw[Bool.eq_iff_iff];simp
theorem qY(s:ByteArray)(w:World)(hs:s.size≤2000000) :
  Calls Tryz.prog 89 #[.string s] w fun e w'=>e=.returned (.bool (eQ s))∧w=w':=by
 have hp:=Um (Ay s);have eS:=Um (fun w=>wK s w hs);have eh:=Um (fun w=>JU s w hs);generalize ed s=E at hp eS;generalize iN s.data.toList=X at hp eh;by_cases hE:E=0
 ·subst hE;by_cases hX:X=[]
  ·subst hX;have hb:(str []).toList=[]:=by rw[aC,aH]
   have hq:=Um (show eQ s=false by rw[hp.out];simp);go_enter Tryz.func89,Tryz.ntmps89;go_wp2_with (first|(go_at_call 149;refine(eS.out _).mono ?_;rintro e w1 ⟨rfl,rfl⟩)|(go_at_call 150;refine(eh.out _).mono ?_;rintro e w1 ⟨rfl,rfl⟩));go_ret;exact⟨by rw[hq.out];rfl,rfl⟩
  ·have hb:¬(str X).toList=[]:=by rw[aC,aH];exact hX
   have aD:(str X).toList.isEmpty=false:=by simpa using hb
   have hq:=Um (show eQ s=true by rw[hp.out];simp[hX]);clear hX;go_enter Tryz.func89,Tryz.ntmps89;go_wp2_with (first|(go_at_call 149;refine(eS.out _).mono ?_;rintro e w1 ⟨rfl,rfl⟩)|(go_at_call 150;refine(eh.out _).mono ?_;rintro e w1 ⟨rfl,rfl⟩));go_ret;exact⟨by rw[hq.out];rfl,rfl⟩
 ·have hb:(E==0)=false:=by simpa using hE
  have hq:=Um (show eQ s=false by rw[hp.out];simp[hE]);clear hE;go_enter Tryz.func89,Tryz.ntmps89;go_wp2_with (first|(go_at_call 149;refine(eS.out _).mono ?_;rintro e w1 ⟨rfl,rfl⟩));go_ret;exact⟨by rw[hq.out];rfl,rfl⟩
theorem oC(s:ByteArray)(w:World)(hs:s.size≤2000000) :
  Calls Tryz.prog 112 #[.string s] w fun e w'=>e=.returned (.bool (eQ s))∧Up w w':=by
 have hp:=Um (Ay s);have eS:=Um (fun w=>vZ s w hs);have eh:=Um (fun w=>FM s w hs);generalize ed s=E at hp eS;generalize iN s.data.toList=X at hp eh;by_cases hE:E=0
 ·subst hE;by_cases hX:X=[]
  ·subst hX;have hb:(str []).toList=[]:=by rw[aC,aH]
   have hq:=Um (show eQ s=false by rw[hp.out];simp);go_enter Tryz.func112,Tryz.ntmps112;go_wp2_with (first|(go_at_call 180;refine(eS.out _).mono ?_;rintro e w1 ⟨rfl,rfl⟩)|(go_at_call 181;refine(eh.out _).mono ?_;rintro e w1 ⟨rfl,ar⟩));go_ret;exact⟨by rw[hq.out];rfl,ar⟩
  ·have hb:¬(str X).toList=[]:=by rw[aC,aH];exact hX
   have aD:(str X).toList.isEmpty=false:=by simpa using hb
   have hq:=Um (show eQ s=true by rw[hp.out];simp[hX]);clear hX;go_enter Tryz.func112,Tryz.ntmps112;go_wp2_with (first|(go_at_call 180;refine(eS.out _).mono ?_;rintro e w1 ⟨rfl,rfl⟩)|(go_at_call 181;refine(eh.out _).mono ?_;rintro e w1 ⟨rfl,ar⟩));go_ret;exact⟨by rw[hq.out];rfl,ar⟩
 ·have hb:(E==0)=false:=by simpa using hE
  have hq:=Um (show eQ s=false by rw[hp.out];simp[hE]);clear hE;go_enter Tryz.func112,Tryz.ntmps112;go_wp2_with (first|(go_at_call 180;refine(eS.out _).mono ?_;rintro e w1 ⟨rfl,rfl⟩));go_ret;exact⟨by rw[hq.out];rfl,Below.refl _ _⟩
end
section
open Go.RowKit
section
variable{w w':World}{pf pw:Nat}{R:Rp}{pv:Value}{Y:Sy}
end
end
section
open Go.RowKit Go.Shelf
attribute [local go_sem] Oper.semAt_some
def Fs.RM(S:Fs)(d:Nat):Option (Int×ByteArray):=(S.fZ (S.root ((d:Int)+1))).map fun s=>(S.root ((d:Int)+1),s)
def Fs.RJ(S:Fs)(k:Nat):List (Int×ByteArray):=(List.range k).filterMap S.RM
def Fs.Of(S:Fs):List (Int×ByteArray):=S.RJ S.ds.length
end
section
open Go.RowKit
def Nm(S:Fs):Prop:=∀a∈S.ns,∀x∈a.aB,dD x.name=0
theorem Nm.set{S:Fs}(h:Nm S){a:An}(hn:∀x∈a.aB,dD x.name=0):Nm (S.set a):=by
 intro y hy;unfold Fs.set at hy;simp only[List.mem_map] at hy;obtain⟨z,hz,rfl⟩:=hy
 split
 ·exact hn
 ·exact h z hz
theorem Nm.add{S:Fs}(h:Nm S){a:An}(hn:a.aB=[]):Nm (S.add a):=by
 intro y hy;unfold Fs.add at hy;rcases List.mem_append.1 hy with hy|hy
 ·exact h y hy
 ·simp at hy;subst hy;intro x hx;rw[show({a with no:=S.last+1}:An).aB=a.aB from rfl,hn] at hx
  cases hx
theorem Nm.aF{S:Fs}(h:Nm S)(o b n:Int):Nm (S.aF o b n):=by
 intro y hy;unfold Fs.aF at hy;rcases List.mem_append.1 hy with hy|hy
 ·exact h y hy
 ·simp at hy;subst hy;intro x hx
  cases hx
theorem Nm.make{S:Fs}(h:Nm S){a:An}(hn:a.aB=[]):Nm (S.make a).1:=by
 unfold Fs.make
 split
 ·exact h
 ·split
  ·exact h
  ·simp only
   split
   ·exact Nm.add (S:=S.aR _ _) (fun y hy=>h y hy) hn
   ·exact h
theorem wm{l:List En}(h:∀x∈l,dD x.name=0){s:ByteArray}(hs:dD s=0)(no:Int):∀x∈dy l s no,dD x.name=0:=by
 intro x hx;unfold dy at hx;rcases List.mem_append.1 hx with hx|hx
 ·exact h x (List.mem_filter.1 hx).1
 ·rcases List.mem_cons.1 hx with rfl|hx
  ·exact hs
  ·exact h x (List.mem_filter.1 hx).1
theorem Nm.dk{S:Fs}(h:Nm S)(now dir:Int)(l:List En)(hl:∀x∈l,dD x.name=0):Nm (S.dk now dir l):=by
 unfold Fs.dk
 split
 ·exact h
 ·exact h.set hl
theorem Nm.cS{S:Fs}(h:Nm S){a:An}(c:Cr)(now dir:Int)(s:ByteArray)(he:a.aB=[]):Nm (S.cS c now dir s a).1:=by
 unfold Fs.cS
 split
 ·exact h
 ·rename_i hpl;obtain⟨d,hd,hdk,hce⟩:=eP (by simpa using hpl);rw[hd];simp only
  split
  ·exact h
  ·have hm:=h.make (a:={a with dev:=d.dev,uid:=c.u,gid:=c.g,mtime:=now,ctime:=now,an:=1}) he
   split
   ·exact h
   ·exact hm.dk _ _ _ (wm (h d (cx hd)) hce _)
theorem Nm.br{S:Fs}(h:Nm S)(c:Cr)(now dir:Int)(s:ByteArray)(m:Int):Nm (S.br c now dir s m).1:=by
 unfold Fs.br
 split
 ·exact h
 ·exact h.cS c now dir s rfl
theorem Nm.file{S:Fs}(h:Nm S)(c:Cr)(now dir:Int)(s:ByteArray)(m:Int)(t:ByteArray):Nm (S.file c now dir s m t).1:=by
 unfold Fs.file
 split
 ·exact h
 ·split
  ·exact h
  ·exact h.cS c now dir s rfl
theorem Nm.sym{S:Fs}(h:Nm S)(c:Cr)(now dir:Int)(s t:ByteArray):Nm (S.sym c now dir s t).1:=by
 unfold Fs.sym
 split
 ·exact h
 ·split
  ·exact h
  ·exact h.cS c now dir s rfl
theorem Nm.eL{S:Fs}(h:Nm S)(c:Cr)(now no dir:Int)(s:ByteArray):Nm (S.eL c now no dir s).1:=by
 unfold Fs.eL
 split
 ·exact h
 ·rename_i hpl;obtain⟨d0,nQ,hdk,hce⟩:=eP (by simpa using hpl)
  split
  ·rename_i d n hd hn
   split
   ·exact h
   ·split
    ·exact h
    ·split
     ·exact h
     ·split
      ·exact h
      ·exact Nm.dk (h.set (a:={n with an:=n.an+1,ctime:=now}) (h n (cx hn))) _ _ _ (wm (h d (cx hd)) hce _)
  ·exact h
theorem Nm.cL{S:Fs}(h:Nm S)(c:Cr)(now no m:Int):Nm (S.cL c now no m).1:=by
 unfold Fs.cL
 split
 ·exact h
 ·rename_i n hn
  split
  ·exact h
  ·split
   ·exact h
   ·exact h.set (h n (cx hn))
theorem Nm.cU{S:Fs}(h:Nm S)(c:Cr)(now no u g:Int):Nm (S.cU c now no u g).1:=by
 unfold Fs.cU
 split
 ·exact h
 ·rename_i n hn
  split
  ·exact h
  ·split
   ·exact h
   ·split
    ·exact h
    ·exact h.set (h n (cx hn))
theorem Nm.cQ{S:Fs}(h:Nm S)(c:Cr)(now no t:Int):Nm (S.cQ c now no t).1:=by
 unfold Fs.cQ
 split
 ·exact h
 ·rename_i n hn
  split
  ·exact h
  ·split
   ·exact h
   ·exact h.set (h n (cx hn))
theorem Nm.cn{S:Fs}(h:Nm S)(k b n:Int):Nm (S.cn k b n).1:=by
 unfold Fs.cn
 split
 ·exact h
 ·split
  ·exact h
  ·split
   ·exact h
   ·split
    ·exact h
    ·exact h.aF _ b n
theorem Nm.bT{S:Fs}(h:Nm S)(m:Mt):Nm (bT S m):=by
 unfold Go.Proofs.YtinflmadpnigfaaGreatDoor.bT
 split
 ·exact h
 ·split
  ·have h1:=h.br bQ 0 (S.path bQ m.path false).1.dir (S.path bQ m.path false).1.name 493;simp only
   split
   ·exact h1
   ·exact h1.cn _ _ _
  ·exact h.cn _ _ _
theorem Nm.aO{S:Fs}(h:Nm S)(l:List Mt):Nm (aO S l):=by
 induction l generalizing S with
 |nil=>exact h
 |cons m l ih=>
  unfold Go.Proofs.YtinflmadpnigfaaGreatDoor.aO;by_cases hm:m.path=jy
  ·rw[if_pos hm];exact ih h
  ·rw[if_neg hm];exact ih (h.bT m)
theorem Nm.cm{S:Fs}(h:Nm S)(it:It):Nm (cm S it).1:=by
 unfold Go.Proofs.YtinflmadpnigfaaGreatDoor.cm;simp only
 split
 ·exact h
 ·split
  ·split<;>exact h
  ·split
   ·exact h.br _ _ _ _ _
   ·split
    ·exact h.file _ _ _ _ _ _
    ·split
     ·exact h.sym _ _ _ _ _
     ·split
      ·split
       ·exact h.eL _ _ _ _ _
       ·exact h
      ·exact h
theorem Nm.ek{S:Fs}(h:Nm S)(it:It):Nm (ek S it).1:=by
 unfold Go.Proofs.YtinflmadpnigfaaGreatDoor.ek;have h1:=h.cm it;simp only
 split
 ·exact(h1.cU _ _ _ _ _).cL _ _ _ _
 ·exact h1
theorem Nm.aX{S:Fs}(h:Nm S)(l:List It):Nm (aX S l).1:=by
 induction l generalizing S with
 |nil=>exact h
 |cons x l ih=>exact ih (h.ek x)
theorem Nm.bS{S:Fs}(h:Nm S)(l:List (It×Int)):Nm (bS S l):=by
 induction l generalizing S with
 |nil=>exact h
 |cons x l ih=>
  unfold Go.Proofs.YtinflmadpnigfaaGreatDoor.bS;refine ih ?_
  split
  ·exact h.cQ _ _ _ _
  ·exact h
theorem Jm(ms:List Mt)(is:List It):Nm (dS ms is):=by
 unfold dS;simp only;refine Nm.bS (Nm.aX (Nm.aO ?_ ms) is) _;exact Nm.aF (S:=sK) (fun a ha=>by cases ha) _ _ _
end
section
open Go.RowKit
structure Wy(S:Fs):Prop where
 ud:∀a∈S.ns,a.kind=1→∃b,S.get a.up=some b∧b.kind=1
 sd:∀a∈S.ns,∀x∈a.aB,∃b,S.get x.no=some b∧b.dev=a.dev
 mp:∀d∈S.ds,d.over≠0→∃b,S.get d.over=some b∧S.root b.dev≠b.no
theorem Sub.up{S S':Fs}(h:Sub S S'){k:Int}(hk:∃b,S.get k=some b∧b.kind=1):∃b,S'.get k=some b∧b.kind=1:=by
 obtain⟨b,hb,h1⟩:=hk;obtain⟨c,hc,e1,-⟩:=h _ _ hb;exact⟨c,hc,by rw[e1];exact h1⟩
theorem Sub.dev{S S':Fs}(h:Sub S S'){k d:Int}(hk:∃b,S.get k=some b∧b.dev=d):∃b,S'.get k=some b∧b.dev=d:=by
 obtain⟨b,hb,h1⟩:=hk;obtain⟨c,hc,-,-,e3,-⟩:=h _ _ hb;exact⟨c,hc,by rw[e3];exact h1⟩
theorem Sub.mp{S S':Fs}(h:Sub S S'){k:Int}(hk:∃b,S.get k=some b∧S.root b.dev≠b.no):∃b,S'.get k=some b∧S'.root b.dev≠b.no:=by
 obtain⟨b,hb,h1⟩:=hk;obtain⟨c,hc,-,-,e3,e4⟩:=h _ _ hb;refine⟨c,hc,?_⟩;rw[e3,e4,dx hc,←dx hb];exact h1
theorem Wy.set{S:Fs}(h:Wy S){a b:An}(hb:S.get a.no=some b)(hk:a.kind=b.kind)(hd:a.dev=b.dev)(hu:a.up=b.up)(hr:∀x∈a.aB,∃c,S.get x.no=some c∧c.dev=a.dev):Wy (S.set a):=by
 have hsub:Sub S (S.set a):=fun k c hc=>by
  rw[gX hb];by_cases hka:k=a.no
  ·rw[if_pos hka];rw[hka,hb] at hc;injection hc with hc;subst hc;exact⟨a,rfl,hk,hu,hd,rfl⟩
  ·rw[if_neg hka];exact⟨c,hc,rfl,rfl,rfl,rfl⟩
 refine⟨fun y hy hyk=>?_,fun y hy x hx=>?_,fun d nQ ho=>hsub.mp (h.mp d nQ ho)⟩
 ·unfold Fs.set at hy;simp only[List.mem_map] at hy;obtain⟨z,hz,rfl⟩:=hy
  split at hyk
  ·rename_i he;rw[if_pos he];have:=h.ud b (cx hb) (by rw[←hk];exact hyk);rw[←hu] at this;exact hsub.up this
  ·rename_i he;rw[if_neg he];exact hsub.up (h.ud z hz hyk)
 ·unfold Fs.set at hy;simp only[List.mem_map] at hy;obtain⟨z,hz,rfl⟩:=hy
  split at hx
  ·rename_i he;rw[if_pos he];exact hsub.dev (hr x hx)
  ·rename_i he;rw[if_neg he];exact hsub.dev (h.sd z hz x hx)
theorem Wy.aR{S:Fs}(h:Wy S){d:Int}{v u:Dv}(hv:S.dev d=some v)(hr:u.root=v.root)(ho:u.over=v.over):Wy (S.aR d u):=by
 have hsub:Sub S (S.aR d u):=fun k c hc=>⟨c,hc,rfl,rfl,rfl,mi hv hr _⟩;refine⟨h.ud,h.sd,fun e he h0=>?_⟩;have hvm:v∈S.ds:=by
  unfold Fs.dev at hv
  split at hv
  ·exact List.mem_of_getElem? hv
  ·cases hv
 unfold Fs.aR at he;rcases List.mem_or_eq_of_mem_set he with he|rfl
 ·exact hsub.mp (h.mp e he h0)
 ·rw[ho] at h0⊢;exact hsub.mp (h.mp v hvm h0)
theorem Wy.add{S:Fs}{N:Nat}(hk:av S N)(h:Wy S){a:An}(he:a.aB=[])(hu:a.kind=1→∃b,S.get a.up=some b∧b.kind=1):Wy (S.add a):=by
 have hsub:=xP hk a;refine⟨fun y hy hyk=>?_,fun y hy x hx=>?_,fun d nQ ho=>hsub.mp (h.mp d nQ ho)⟩
 ·rcases List.mem_append.1 hy with hy|hy
  ·exact hsub.up (h.ud y hy hyk)
  ·simp at hy;subst hy;exact hsub.up (hu hyk)
 ·rcases List.mem_append.1 hy with hy|hy
  ·exact hsub.dev (h.sd y hy x hx)
  ·simp at hy;subst hy;rw[show({a with no:=S.last+1}:An).aB=a.aB from rfl,he] at hx
   cases hx
theorem Wy.aF{S:Fs}(hn:gY S)(hdev:∀a∈S.ns,a.dev≤S.ds.length)(h:Wy S)(k b n:Int)(h0:k≠0→∃b,S.get k=some b∧S.root b.dev≠b.no):Wy (S.aF k b n):=by
 have hsub:Sub S (S.aF k b n):=fun q c hq=>by
  refine⟨c,?_,rfl,rfl,rfl,qd S k b n (hdev c (cx hq))⟩;unfold Fs.get Fs.aF at *;simp only[List.find?_append,hq,Option.some_or]
 refine⟨fun y hy hyk=>?_,fun y hy x hx=>?_,fun d nQ ho=>?_⟩
 ·rcases List.mem_append.1 hy with hy|hy
  ·exact hsub.up (h.ud y hy hyk)
  ·simp at hy;subst hy;exact⟨_,sb hn k b n,rfl⟩
 ·rcases List.mem_append.1 hy with hy|hy
  ·exact hsub.dev (h.sd y hy x hx)
  ·simp at hy;subst hy;simp[dh] at hx
 ·unfold Fs.aF at nQ;rcases List.mem_append.1 nQ with nQ|nQ
  ·exact hsub.mp (h.mp d nQ ho)
  ·simp at nQ;subst nQ;exact hsub.mp (h0 ho)
theorem Wy.new(b n:Int):Wy (sK.aF 0 b n):=
 Wy.aF ⟨List.Pairwise.nil,fun x hx=>by cases hx⟩ (fun x hx=>by cases hx) ⟨fun x hx=>(by cases hx),fun x hx=>(by cases hx),fun d hd=>(by cases hd)⟩ 0 b n (fun h=>absurd rfl h)
theorem Wy.make{S:Fs}{N:Nat}(hk:av S N)(h:Wy S){a:An}(he:a.aB=[])(hu:a.kind=1→∃b,S.get a.up=some b∧b.kind=1):Wy (S.make a).1:=by
 unfold Fs.make
 split
 ·exact h
 ·split
  ·exact h
  ·rename_i v hv;simp only
   split
   ·have h2:=h.aR (u:={v with b:=v.b+bR a.kind a.data.size,n:=v.n+1}) hv rfl rfl;have ig:=hk.aR (u:={v with b:=v.b+bR a.kind a.data.size,n:=v.n+1}) hv rfl;exact h2.add ig he hu
   ·exact h
theorem Wy.dk{S:Fs}(h:Wy S)(now dir:Int)(l:List En)(hl:∀d,S.get dir=some d→∀x∈l,∃c,S.get x.no=some c∧c.dev=d.dev):Wy (S.dk now dir l):=by
 unfold Fs.dk
 split
 ·exact h
 ·rename_i d hd;exact h.set (b:=d) (by show S.get d.no=_;rw[dx hd];exact hd) rfl rfl rfl (hl d hd)
theorem Ei{S:Fs}{l:List En}{q:Int}(h:∀x∈l,∃c,S.get x.no=some c∧c.dev=q){s:ByteArray}{k:Int}(hk:∃c,S.get k=some c∧c.dev=q):∀x∈dy l s k,∃c,S.get x.no=some c∧c.dev=q:=by
 intro x hx;unfold dy at hx;rcases List.mem_append.1 hx with hx|hx
 ·exact h x (List.mem_filter.1 hx).1
 ·rcases List.mem_cons.1 hx with rfl|hx
  ·exact hk
  ·exact h x (List.mem_filter.1 hx).1
theorem Wy.cS{S:Fs}{N:Nat}(hk:av S N)(ht:Tr S)(h:Wy S){a:An}(c:Cr)(now dir:Int)(s:ByteArray)(he:a.aB=[])(hu:a.kind=1→a.up=dir):Wy (S.cS c now dir s a).1:=by
 unfold Fs.cS
 split
 ·exact h
 ·rename_i hpl;obtain⟨d,hd,hdk,hce⟩:=eP (by simpa using hpl);rw[hd];simp only
  split
  ·exact h
  ·obtain⟨m1,m2,m3⟩:=ht.make hk (a:={a with dev:=d.dev,uid:=c.u,gid:=c.g,mtime:=now,ctime:=now,an:=1}) he;have hm:=h.make hk (a:={a with dev:=d.dev,uid:=c.u,gid:=c.g,mtime:=now,ctime:=now,an:=1}) he (fun hq=>⟨d,by rw[show({a with dev:=d.dev,uid:=c.u,gid:=c.g,mtime:=now,ctime:=now,an:=1}:An).up=dir from hu hq];exact hd,hdk⟩)
   split
   ·exact h
   ·rename_i h0;obtain⟨e1,e2,e3⟩:=m3 (by simpa using h0);refine hm.dk _ _ _ fun d2 nP=>?_;obtain⟨d3,zn,-,-,hv3,-⟩:=m2 _ _ hd;rw[nP] at zn;injection zn with zn;subst zn;rw[e1,hv3];exact Ei (fun x hx=>m2.dev (h.sd d (cx hd) x hx)) ⟨_,e2,rfl⟩
theorem Wy.br{S:Fs}{N:Nat}(hk:av S N)(ht:Tr S)(h:Wy S)(c:Cr)(now dir:Int)(s:ByteArray)(m:Int):Wy (S.br c now dir s m).1:=by
 unfold Fs.br
 split
 ·exact h
 ·exact h.cS hk ht c now dir s rfl (fun _=>rfl)
theorem Wy.file{S:Fs}{N:Nat}(hk:av S N)(ht:Tr S)(h:Wy S)(c:Cr)(now dir:Int)(s:ByteArray)(m:Int)(t:ByteArray):Wy (S.file c now dir s m t).1:=by
 unfold Fs.file
 split
 ·exact h
 ·split
  ·exact h
  ·exact h.cS hk ht c now dir s rfl (fun hq=>absurd hq (by dsimp only;decide))
theorem Wy.sym{S:Fs}{N:Nat}(hk:av S N)(ht:Tr S)(h:Wy S)(c:Cr)(now dir:Int)(s t:ByteArray):Wy (S.sym c now dir s t).1:=by
 unfold Fs.sym
 split
 ·exact h
 ·split
  ·exact h
  ·exact h.cS hk ht c now dir s rfl (fun hq=>absurd hq (by dsimp only;decide))
theorem Wy.same{S:Fs}(h:Wy S){n m:An}(hn:S.get n.no=some n)(h0:m.no=n.no)(h1:m.kind=n.kind)(h2:m.dev=n.dev)(h3:m.up=n.up)(h4:m.aB=n.aB):Wy (S.set m):=
 h.set (b:=n) (by rw[h0];exact hn) h1 h2 h3 (by rw[h2,h4];exact h.sd n (cx hn))
theorem Wy.eL{S:Fs}(h:Wy S)(c:Cr)(now no dir:Int)(s:ByteArray):Wy (S.eL c now no dir s).1:=by
 unfold Fs.eL
 split
 ·exact h
 ·rename_i hpl;obtain⟨d0,nQ,hdk,hce⟩:=eP (by simpa using hpl)
  split
  ·rename_i d n hd hn;rw[hd] at nQ;injection nQ with nQ;subst nQ
   split
   ·exact h
   ·rename_i hnk
    split
    ·exact h
    ·split
     ·exact h
     ·rename_i hdv
      split
      ·exact h
      ·have hs:=h.same (m:={n with an:=n.an+1,ctime:=now}) (gp hn) rfl rfl rfl rfl rfl;have hset:S.get ({n with an:=n.an+1,ctime:=now}:An).no=some n:=gp hn;have hno:=dx hn;have hsub:Sub S (S.set {n with an:=n.an+1,ctime:=now}):=fun k c hc=>by
        rw[gX hset]
        split
        ·rename_i hkn;rw[hkn,hset] at hc;injection hc with hc;subst hc;exact⟨_,rfl,rfl,rfl,rfl,rfl⟩
        ·exact⟨c,hc,rfl,rfl,rfl,rfl⟩
       refine hs.dk _ _ _ fun d2 nP=>?_;obtain⟨d3,zn,-,-,hv3,-⟩:=hsub _ _ hd;rw[nP] at zn;injection zn with zn;subst zn;rw[hv3];exact Ei (fun x hx=>hsub.dev (h.sd d (cx hd) x hx)) (hsub.dev ⟨n,hn,by simpa using hdv⟩)
  ·exact h
theorem Wy.cn{S:Fs}{N:Nat}(hk:av S N)(h:Wy S)(k b n:Int):Wy (S.cn k b n).1:=by
 unfold Fs.cn
 split
 ·exact h
 ·rename_i a ha
  split
  ·exact h
  ·split
   ·exact h
   ·rename_i hr
    split
    ·exact h
    ·exact h.aF hk.nums (fun a ha=>(hk.all a ha).dev.2) k b n (fun _=>⟨a,ha,by rw[dx ha];exact fun e=>hr (.inr e)⟩)
theorem Wy.cL{S:Fs}(h:Wy S)(c:Cr)(now no m:Int):Wy (S.cL c now no m).1:=by
 unfold Fs.cL
 split
 ·exact h
 ·rename_i n hn
  split
  ·exact h
  ·split
   ·exact h
   ·exact h.same (gp hn) rfl rfl rfl rfl rfl
theorem Wy.cU{S:Fs}(h:Wy S)(c:Cr)(now no u g:Int):Wy (S.cU c now no u g).1:=by
 unfold Fs.cU
 split
 ·exact h
 ·rename_i n hn
  split
  ·exact h
  ·split
   ·exact h
   ·split
    ·exact h
    ·exact h.same (gp hn) rfl rfl rfl rfl rfl
theorem Wy.cQ{S:Fs}(h:Wy S)(c:Cr)(now no t:Int):Wy (S.cQ c now no t).1:=by
 unfold Fs.cQ
 split
 ·exact h
 ·rename_i n hn
  split
  ·exact h
  ·split
   ·exact h
   ·exact h.same (gp hn) rfl rfl rfl rfl rfl
theorem Wy.bT{S:Fs}{N:Nat}(hk:av S N)(ht:Tr S)(h:Wy S)(m:Mt):Wy (bT S m):=by
 unfold Go.Proofs.YtinflmadpnigfaaGreatDoor.bT
 split
 ·exact h
 ·split
  ·have h1:=h.br hk ht bQ 0 (S.path bQ m.path false).1.dir (S.path bQ m.path false).1.name 493;have gP:=jE hk bQ 0 (S.path bQ m.path false).1.dir (S.path bQ m.path false).1.name 493;simp only
   split
   ·exact h1
   ·exact h1.cn gP _ _ _
  ·exact h.cn hk _ _ _
theorem Wy.aO{S:Fs}{N:Nat}(hk:av S N)(ht:Tr S)(h:Wy S)(l:List Mt):Wy (aO S l):=by
 induction l generalizing S N with
 |nil=>exact h
 |cons m l ih=>
  unfold Go.Proofs.YtinflmadpnigfaaGreatDoor.aO;by_cases hm:m.path=jy
  ·rw[if_pos hm];exact ih hk ht h
  ·rw[if_neg hm];exact ih (nx hk m) (ht.bT hk m) (h.bT hk ht m)
theorem Wy.cm{S:Fs}{N:Nat}(hk:av S N)(ht:Tr S)(h:Wy S)(it:It):Wy (cm S it).1:=by
 unfold Go.Proofs.YtinflmadpnigfaaGreatDoor.cm;simp only
 split
 ·exact h
 ·split
  ·split<;>exact h
  ·split
   ·exact h.br hk ht _ _ _ _ _
   ·split
    ·exact h.file hk ht _ _ _ _ _ _
    ·split
     ·exact h.sym hk ht _ _ _ _ _
     ·split
      ·split
       ·exact h.eL _ _ _ _ _
       ·exact h
      ·exact h
theorem Wy.ek{S:Fs}{N:Nat}(hk:av S N)(ht:Tr S)(h:Wy S)(it:It):Wy (ek S it).1:=by
 unfold Go.Proofs.YtinflmadpnigfaaGreatDoor.ek;have h1:=h.cm hk ht it;simp only
 split
 ·exact(h1.cU _ _ _ _ _).cL _ _ _ _
 ·exact h1
theorem Wy.aX{S:Fs}{N:Nat}(hk:av S N)(ht:Tr S)(h:Wy S)(l:List It):Wy (aX S l).1:=by
 induction l generalizing S N with
 |nil=>exact h
 |cons x l ih=>exact ih (qL hk x) (ht.ek hk x) (h.ek hk ht x)
theorem Wy.bS{S:Fs}(h:Wy S)(l:List (It×Int)):Wy (bS S l):=by
 induction l generalizing S with
 |nil=>exact h
 |cons x l ih=>
  unfold Go.Proofs.YtinflmadpnigfaaGreatDoor.bS;refine ih ?_
  split
  ·exact h.cQ _ _ _ _
  ·exact h
theorem Ji(ms:List Mt)(is:List It):Wy (dS ms is):=by
 unfold dS;simp only;have hk:=av.new (aS ms).1 (aS ms).2;exact Wy.bS (Wy.aX (fF hk ms) (Tr.aO hk (Tr.new _ _) ms) (Wy.aO hk (Tr.new _ _) (Wy.new _ _) ms) is) _
end
section
open Go.RowKit
theorem toNat_div{m b:Int}(hm:0≤m)(hb:0≤b):(m / b).toNat=m.toNat / b.toNat:=by
 obtain⟨m,rfl⟩:=Int.eq_ofNat_of_zero_le hm;obtain⟨b,rfl⟩:=Int.eq_ofNat_of_zero_le hb;rfl
theorem toNat_mod{m b:Int}(hm:0≤m)(hb:0≤b):(m % b).toNat=m.toNat % b.toNat:=by
 obtain⟨m,rfl⟩:=Int.eq_ofNat_of_zero_le hm;obtain⟨b,rfl⟩:=Int.eq_ofNat_of_zero_le hb;rfl
theorem IE{b m:Int}(bO:2≤b)(ar:b≤10):0≤m % b∧m % b≤9:=by
 have:=Int.emod_nonneg m (show b≠0 by omega);have:=Int.emod_lt_of_pos m (show 0<b by omega);omega
theorem BO(n b:Int)(w:World)(Cd:0≤n)(gO:n≤18446744073709551615)(bO:2≤b)(ar:b≤10) :
  Calls Tryz.prog 116 #[.int .u64 n,.int .u64 b] w fun e w'=>e=.returned (.string (str (lx b.toNat n.toNat)))∧Up w w':=by
 have kc:=fun(w:World) (v:Int)=>BJ (P:=Tryz.prog) Tryz.underlying121 Tryz.underlying5 Tryz.underlying9 w v 5;go_enter Tryz.func116,Tryz.ntmps116;go_wp2_with fail
 go_loopg [0,5] n.toNat (fun g t0 t5 wr=>∃(m:Int) (s:List UInt8) (k:Nat),0≤m∧m≤n∧g=m.toNat∧t0=.int .u64 m∧t5=.string (str s)∧s.length+k=64∧m<2 ^ k∧lx b.toNat n.toNat=lx b.toNat m.toNat++s∧Up w wr)
 case atStart=>exact⟨n,[],64,Cd,Int.le_refl _,rfl,rfl,rfl,rfl,by omega,by simp,Below.refl _ _⟩
 case round=>
  obtain⟨m,s,k,Dq,eR,hg,rfl,rfl,hs,hk,hd,hB⟩:=hrel;have Hg:=Um hg;have Hd:=Um hd;have Hs:=Um hs;have Hk:=Um hk;have hsz:(str s).size≤64:=by rw[aP];omega
  clear hg hd hs hk;by_cases hlt:b≤m
  ·obtain⟨r0,r1⟩:=IE (m:=m) bO ar;have d0:0≤m / b:=Int.ediv_nonneg Dq (by omega);have d1:m / b≤m:=Int.ediv_le_self _ Dq;have hne:(b==0)=false:=by simp;omega
   have GG:(str [UInt8.ofNat (48+m % b).toNat]).size≤1:=by rw[aP];simp
   have hlo:m / b<m:=Int.ediv_lt_self_of_pos_of_ne_one (by omega) (by omega);go_wp2_with fail;go_roundg (m / b).toNat
   case measure=>rw[Hg.o];omega
   case rel=>
    have hk:=Hk.o;have hs:=Hs.o;obtain⟨k',rfl⟩:∃k',k=k'+1:=by
     cases k with
     |zero=>simp at hk;omega
     |succ k'=>exact⟨k',rfl⟩
    refine⟨m / b,UInt8.ofNat (48+m % b).toNat::s,k',d0,by omega,rfl,rfl,?_,by simp;omega,?_,?_,al hB _⟩
    ·rw[aY];rfl
    ·have h2:m / b≤m / 2:=by
      have h3:=Int.ediv_mul_le m (show b≠0 by omega);have h4:m / b*2≤m / b*b:=Int.mul_le_mul_of_nonneg_left bO d0;omega
     have h5:(2:Int) ^ (k'+1)=2 ^ k'*2:=Int.pow_succ ..;omega
    ·rw[Hd.o,iP (b:=b.toNat) (n:=m.toNat) (by omega) (by omega),toNat_div Dq (by omega),List.append_assoc];congr 2;rw[←toNat_mod Dq (by omega)];show _=UInt8.ofNat (48+m % b).toNat::s;rw[show(48+m % b).toNat=48+(m % b).toNat by omega];rfl
  ·have Dk:(str [UInt8.ofNat (48+m).toNat]).size≤1:=by rw[aP];simp
   go_wp2_with fail;go_ret;refine⟨?_,al hB _⟩;show Ending.returned (.string (str [UInt8.ofNat (48+m).toNat]++str s))=_;rw[Hd.o,aY,eH (by omega),show(48+m).toNat=48+m.toNat by omega]
theorem tF(n:Int)(w:World)(h0:-9223372036854775808≤n)(h1:n≤9223372036854775807) :
  Calls Tryz.prog 67 #[.int .i64 n] w fun e w'=>e=.returned (.string (str (cG n)))∧Up w w':=by
 by_cases hn:n<0
 ·have Hv:=Um (show cG n=45::lx 10 n.natAbs by unfold cG;rw[if_pos hn]);have hsz:=lv 10 (by decide) 19 n.natAbs (by
                            have e:(10:Nat) ^ (19+1)=100000000000000000000:=by decide
                            rw[e];omega)
  have hsz':(str (lx 10 n.natAbs)).size≤20:=by rw[aP];exact hsz
  clear hsz;go_enter Tryz.func67,Tryz.ntmps67;have Hw:=Um (show IntKind.u64.wrap (-IntKind.u64.wrap n)=-n by rw[IntKind.wrap_u64,IntKind.wrap_u64];omega);go_wp2_with fail;rw[Hw.o];refine(BO (-n) 10 _ (by omega) (by omega) (by decide) (by decide)).mono ?_;rw[show lx (10:Int).toNat (-n).toNat=lx 10 n.natAbs by rw[show(-n).toNat=n.natAbs by omega];rfl];rintro e w1 ⟨rfl,ar⟩;go_wp2_with fail;go_ret;refine⟨?_,ar⟩;rw[Hv.o];show Ending.returned (.string (str [45]++str _))=_;rw[aY];rfl
 ·have Hv:=Um (show cG n=lx 10 n.toNat by unfold cG;rw[if_neg hn]);go_enter Tryz.func67,Tryz.ntmps67;go_wp2_with fail;refine(BO n 10 _ (by omega) (by omega) (by decide) (by decide)).mono ?_;rintro e w1 ⟨rfl,ar⟩;go_wp2_with fail;go_ret;exact⟨by rw[Hv.o];rfl,ar⟩
end
end Go.Proofs.YtinflmadpnigfaaGreatDoor
