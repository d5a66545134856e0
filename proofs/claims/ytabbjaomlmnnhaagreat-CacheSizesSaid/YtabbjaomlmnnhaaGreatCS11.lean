import Derived.Test.YtabbjaomlmnnhaaGreatCS10
import Derived.Test.YtabbjaomlmnnhaaGreatCS2
import Derived.Test.YtabbjaomlmnnhaaGreatCS6
import Derived.Test.YtabbjaomlmnnhaaGreatCS4
import Derived.Test.YtabbjaomlmnnhaaGreatCS8
import Derived.Test.YtabbjaomlmnnhaaGreatCS1
import Derived.Test.YtabbjaomlmnnhaaGreatCS3
set_option linter.unusedVariables false
set_option linter.unusedSimpArgs false
set_option maxRecDepth 100000
set_option maxHeartbeats 16000000
namespace Go.Proofs.YtabbjaomlmnnhaaGreat
section
open Go.RowKit
def Fd.v(x:Fd):Value:=.agg #[.int .i64 x.dir,.string x.name,.int .i64 x.no,.bool x.Bb]
def Ex(Bt:Nat)(w:World):Nat:=match w.cell? ⟨Bt,4,none⟩,w.cell? ⟨Bt,5,none⟩ with
 |some (.slice _ n _),some (.int _ h)=>n+(8-h).toNat*5000
 |_,_=>0
theorem kD{w:World}{Bt pw:Nat}{c:Cr}{k:Int}{ta:Option Addr}{tl tc:Nat}{hops:Int}{must:Bool}(h:eI w Bt pw c k ta tl tc hops must):Ex Bt w=tl+(8-hops).toNat*5000:=by
 unfold eI at h;have e4:=h.cell 4;have e5:=h.cell 5;unfold Ex;rw[e4,e5];rfl
theorem aV{tmps:Array Value}{W:World}{B:Nat}{x:Fd}{e:Int}(hb:aw W B #[.int .i64 x.dir,.string x.name,.int .i64 x.no,.bool x.Bb] 176)
  (h8:tmps.getD 8 undef=.pointer (some ⟨B,0,none⟩)) (h9:tmps.getD 9 undef=.int .i64 e):(results Tryz.f124 tmps).run Tryz.prog W=.ok (.tuple #[x.v,.int .i64 e]) W:=by
 have q0:=hb.cell 0;have q1:=hb.cell 1;have q2:=hb.cell 2;have q3:=hb.cell 3;rw[Array.getD_eq_getD_getElem?] at h8 h9;simp[results,Tryz.results124,go_sem,Fd.v,h8,h9,q0,q1,q2,q3]
theorem mC{w:World}{A B:Nat}{x y v0 v1 v2 v3:Value}(h:w.cell? ⟨A,3,none⟩=some x∧w.cell? ⟨A,6,none⟩=some y)(hne:A≠B) :
  ((((w.setCell ⟨B,0,none⟩ v0).setCell ⟨B,1,none⟩ v1).setCell ⟨B,2,none⟩ v2).setCell ⟨B,3,none⟩ v3).cell? ⟨A,3,none⟩=some x∧
  ((((w.setCell ⟨B,0,none⟩ v0).setCell ⟨B,1,none⟩ v1).setCell ⟨B,2,none⟩ v2).setCell ⟨B,3,none⟩ v3).cell? ⟨A,6,none⟩=some y:=by
 have key:((((w.setCell ⟨B,0,none⟩ v0).setCell ⟨B,1,none⟩ v1).setCell ⟨B,2,none⟩ v2).setCell ⟨B,3,none⟩ v3).heap[A]?=w.heap[A]?:=by
  rw[Below.heap_setCell _ _ _ _ hne,Below.heap_setCell _ _ _ _ hne,Below.heap_setCell _ _ _ _ hne,Below.heap_setCell _ _ _ _ hne]
 constructor
 ·rw[←h.1];simp only[World.cell?,key]
 ·rw[←h.2];simp only[World.cell?,key]
section
variable{w w':World}{pw:Nat}{R:Rp}{S:Fs}
def TrR(w:World)(pw Br Bt:Nat)(S:Fs)(c:Cr)(path:ByteArray)(f:Bool)(wr:World):Prop:=
 ∃(k:Int) (l:List (List UInt8)) (must:Bool) (hp:Nat) (ta:Option Addr) (tl tc:Nat),eI wr Bt pw c k ta tl tc hp must∧SA wr ta tl tc l∧(∀b off,ta=some ⟨b,off,none⟩→b≠Bt)∧hp≤8∧l.length≤4097*(hp+1)∧
  S.path c path f=S.eA c f (8-hp) k must l∧aw wr Br #[.int .i64 0,.string ⟨#[]⟩,.int .i64 0,.bool false] 176∧Qi w wr
theorem E9(h:bm w pw R S){N:Nat}(hk:ax S N)(hN:N≤999999)(c:Cr)(path:ByteArray)(hp:path.size≤100000)(f:Bool) :
  Calls Tryz.prog 124 #[.pointer (some ⟨pw,0,none⟩),.agg #[.int .i64 c.u,.int .i64 c.g],.string path,.bool f] w fun e w'=>e=.returned (.tuple #[(S.path c path f).1.v,.int .i64 (S.path c path f).2])∧Qi w w':=by
 have HW:=Qf h;have HK:=Qf hk;have lR:=Qf (fun w1 (av:Qi w w1)=>gv (h.ak av) hk.d1);have hnz:=hk.d1;generalize S.ds.length=n at lR hnz;have hz:((n:Int)==0)=false:=by simp;omega
 have mixed:Tryz.prog.follows .mixedOrders=true:=by kernel_rfl
 obtain⟨pc,-,pz⟩:=h.aZ.facts;have lP:=Qf pc;have PO:=Qf (fun w=>C5 path w (by omega));have HPE:=Qf (show S.path c path f=if ej path≠0 then(gb,ej path) else S.eA c f 8 1 (eD path.data.toList) (bF path.data.toList) from rfl);have nK:=Qf (show ej path=0→path.size≤4096 by
  unfold ej
  split
  ·intro h;cases h
  ·split
   ·intro h;cases h
   ·split
    ·intro h;cases h
    ·intro _;omega)
 generalize ej path=pe at PO HPE nK;clear h hk pc;have F5:aw ((w.alloc (.cells #[.int .i64 c.u,.int .i64 c.g] 64)).alloc (.cells #[.int .i64 0,.string ⟨#[]⟩,.int .i64 0,.bool false] 176)) (w.heap.size+1) #[.int .i64 0,.string ⟨#[]⟩,.int .i64 0,.bool false] 176:=by
  have:=aw.new (w.alloc (.cells #[.int .i64 c.u,.int .i64 c.g] 64)) #[.int .i64 0,.string ⟨#[]⟩,.int .i64 0,.bool false] 176
  rwa [World.size_alloc] at this
 have vW:=(aw.new w #[.int .i64 c.u,.int .i64 c.g] 64).old (.cells #[.int .i64 0,.string ⟨#[]⟩,.int .i64 0,.bool false] 176);have cH:=aq (aq (Qj w) (.cells #[.int .i64 c.u,.int .i64 c.g] 64)) (.cells #[.int .i64 0,.string ⟨#[]⟩,.int .i64 0,.bool false] 176);go_enter Tryz.func124,Tryz.ntmps124;go_wp2_with fail;generalize (w.alloc (.cells #[.int .i64 c.u,.int .i64 c.g] 64)).alloc (.cells #[.int .i64 0,.string ⟨#[]⟩,.int .i64 0,.bool false] 176)=W0 at F5 vW cH⊢;refine wp_scope_straight ?_;have bP:=Qf cH;have A8:=Qf F5;have BR:=Qf vW;clear cH F5 vW;go_wp2_with fail;refine(lR.o _ bP.o).mono ?_;rintro e w1 ⟨rfl,rfl⟩;go_wp2_with fail;refine(PO.o _).mono ?_;rintro e w1 ⟨rfl,rfl⟩;by_cases hpe:pe=0
 ·have Kc:=nK.o hpe;have A5:=Qf (HPE.o.trans (if_neg (by simp[hpe])));subst hpe;have HPs:=Qf (fun w=>qZ path w);have G4:=Qf (fun w=>s9 path w (by omega));clear HPE nK PO;have Hh:=Qf (show Calls Tryz.prog 160 #[.func (.func 191) #[] #[.pointer (some ⟨W0.heap.size,0,none⟩)]] (W0.alloc (.cells #[.string path] 9)).drew (fun e w'=>(∃v,e=.returned v∧OS w' W0.heap.size v (bF path.data.toList))∧Qi W0 w') from(nh path (by omega) W0.drew).mono (fun e w' h=>⟨h.1,(Below.refl _ _).drew.trans h.2⟩));have jz:=Qf (show(bF path.data.toList).length≤4097 by
   have h1:=iy path.data.toList;have h2:path.data.toList.length=path.size:=Array.length_toList;omega)
  generalize bF path.data.toList=ps at A5 Hh jz;generalize eD path.data.toList=sl at A5 G4;have vW:=BR.o;obtain⟨cc,-,cz⟩:=vW.facts;clear vW;go_upto_region 6 with fail
  go_cut [11] (fun t11 wx=>∃(Bt:Nat) (ta:Option Addr) (tc:Nat),t11=.pointer (some ⟨Bt,0,none⟩)∧eI wx Bt pw c 1 ta ps.length tc ((0:Nat):Int) sl∧SA wx ta ps.length tc ps∧(∀b off,ta=some ⟨b,off,none⟩→b≠Bt)∧W0.heap.size≤Bt∧Qi W0 wx)
  case first=>
   go_wp2_with fail;have hzz:W0.heap.size≤W0.heap.size:=aa _
   go_region_held3 (fun w'=>(∀b o,b<W0.heap.size→w'.cell? ⟨b,o,none⟩=W0.cell? ⟨b,o,none⟩)∧Qi W0 w') (first|with_reducible assumption|with_reducible exact dJ _|with_reducible exact cV _|with_reducible exact dg (by assumption) (by assumption)|with_reducible exact cO (by assumption) _|with_reducible exact cL (by assumption) _|with_reducible exact cq (by assumption) (by assumption)|with_reducible exact dI (by assumption) (by assumption))
    ((first
     |(go_at_call 161;((with_reducible refine(HPs.o _).mono ?_);rintro e w3 ⟨rfl,rfl⟩))
     |(go_at_call 160;((with_reducible refine Hh.o.mono ?_);rintro e w4 ⟨⟨v,rfl,vU⟩,cZ⟩;obtain⟨a4,c4,rfl,-,-,hf4⟩:=bC vU;have nt:=kO cZ;have HX:=Qf (ag (SA.uZ vU) (ag hf4 cZ));clear vU cZ hf4))
     |(go_at_call 162;((with_reducible refine(G4.o _).mono ?_);rintro e w5 ⟨rfl,rfl⟩))))
   all_goals
    clear nt;go_wp2_with fail;go_meet;obtain⟨pY,hf,hb⟩:=HX.o;refine⟨_,a4,c4,rfl,aw.new _ _ _,pY.ak ((Below.refl _ _).alloc (aa _) _),fun b off h=>?_,hb.size,hb.alloc hb.size _⟩;rcases hf with⟨h0,-⟩|⟨g,h0,-,hg⟩
    ·rw[h0] at h;cases h
    ·rw[h0] at h;injection h with h;injection h with h1 h2;omega
  case rest=>
   obtain⟨Bt,ta,tc,rfl,hT,hS,hta,hBt,hb⟩:=hcut;generalize wc=W1 at hT hS hb⊢;have dO:=Qf (bP.o.trans (hb.mono bP.o.size));have mT:=Qf (show w.heap.size+2≤Bt by have:=A8.o.lt;omega);have oP:=Qf (show TrR w pw (w.heap.size+1) Bt S c path f W1 from⟨1,ps,sl,0,ta,ps.length,tc,hT,hS,hta,by omega,by have:=jz.o;omega,A5.o,A8.o.ak hb,dO.o⟩);clear hT hS hta hBt hb cc cz Hh jz A5 HPs G4;go_wp2_with fail;refine wp_label ?_;go_wp2_with fail
   go_loopw [] (fun wr=>TrR w pw (w.heap.size+1) Bt S c path f wr) (fun wr=>Ex Bt wr)
   case atStart=>exact oP.o
   case round=>
    obtain⟨k,l,must,hp,ta,tl,tc,hT,hS,hta,MB,hll,hE,F5,hb⟩:=hrel;have HT:=Qf hT;have HS:=Qf hS;have JL:=Qf hta;have HE:=Qf hE;have HBR:=Qf F5;have HB:=Qf hb;have HM:=Qf (kD hT);unfold eI at hT;obtain⟨bc,bf,bz⟩:=hT.facts;have hln:=hS.len;clear hS hta hE hb hT
    cases l with
    |nil=>
     obtain rfl:tl=0:=by simpa using hln.symm
     have bH:=Qf (HE.o.trans wK);obtain⟨rc,rf,rz⟩:=F5.facts;clear F5;go_wp2_with (first|exact bodyPost_ret (aV (x:=⟨0,ByteArray.empty,k,true⟩) (e:=0) HBR.o.cM rfl rfl) rfl ⟨by rw[bH.o],aB HB.o (Nat.le_succ _)⟩|exact bq (aV (x:=⟨0,ByteArray.empty,k,true⟩) (e:=0) HBR.o.cM rfl rfl) ⟨by rw[bH.o],aB HB.o (Nat.le_succ _)⟩)
    |cons p l=>
     obtain⟨m,rfl⟩:∃m,tl=m+1:=⟨l.length,by simpa using hln.symm⟩;have hlm:l.length=m:=by simpa using hln
     have oR:=Qf hlm;obtain⟨b,off,rfl,hbl⟩:=HS.o.dL (Nat.succ_pos m);have hpc:wr.cell? ⟨b,off,none⟩=some (.string (str p)):=HS.o.cell rfl 0 (by simp);have htc:m+1≤tc∧tc≤9223372036854775807:=⟨HS.o.2.1,HS.o.2.2.1⟩;obtain⟨K5,K4⟩:=htc;have BP:=Qf hll;clear hln hlm F5 hll;go_upto_region 9 with fail
     go_cut [] (fun wx=>∃(ta2:Option Addr) (tc2:Nat),eI wx Bt pw c k ta2 m tc2 hp must∧SA wx ta2 m tc2 l∧(∀b off,ta2=some ⟨b,off,none⟩→b≠Bt)∧aw wx (w.heap.size+1) #[.int .i64 0,.string ⟨#[]⟩,.int .i64 0,.bool false] 176∧Qi w wx)
     case first=>
      by_cases h1:tc=1
      ·obtain rfl:m=0:=by omega
       subst h1;go_wp2_with fail;go_meet;exact⟨_,_,HT.o.set 4 _,(show SA wr (some ⟨b,off,none⟩) 0 0 l from by have h:=HS.o.tail rfl;simpa using h).kv JL.o 4 _,JL.o,HBR.o.setOther ⟨Bt,4,none⟩ _ (by have:=mT.o;show Bt≠_;omega),HB.o.setCell (show w.heap.size≤Bt by have:=mT.o;omega) _⟩
      ·have M4:¬(tc:Int)=1:=by omega
       have yN:=Qf (show SA wr (some ⟨b,off+1,none⟩) m (tc-1) l from by have h:=HS.o.tail rfl;rw[if_neg h1] at h;exact h);have PK:=Qf (show∀b' off',some (⟨b,off+1,none⟩:Addr)=some ⟨b',off',none⟩→b'≠Bt from fun b' off' h=>by injection h with h;injection h with h3 h4;rw[←h3];exact JL.o b off rfl);go_wp2_with fail;go_meet;exact⟨_,_,HT.o.set 4 _,yN.o.kv PK.o 4 _,PK.o,HBR.o.setOther ⟨Bt,4,none⟩ _ (by have:=mT.o;show Bt≠_;omega),HB.o.setCell (show w.heap.size≤Bt by have:=mT.o;omega) _⟩
     case rest=>
      obtain⟨ta2,tc2,FU,jr,Oe,LL,aS⟩:=hcut;generalize wc=W2 at FU jr LL aS⊢;clear bc bf bz hpc hbl K5 K4;have JM:=Qf FU;have nW:=Qf jr;have A4:=Qf Oe;have HBR2:=Qf LL;have dS:=Qf aS;have ji:=Qf (EJ (HW.o.ak aS) HK.o hN c k FU (str p));rw[dP] at ji;unfold eI at FU;obtain⟨bc,bf,bz⟩:=FU.facts;obtain⟨lb,hlb⟩:∃x:Bool,((m:Int)==0)=x:=⟨_,rfl⟩;have yR:=Qf (show lb=decide (l=[]) by
       rw[←hlb,←oR.o]
       cases l with
       |nil=>rfl
       |cons x l=>simp;omega)
      have GM:=Qf (fun he=>HE.o.trans (mZ (h:=8-hp) (l:=l) (must:=must) (f:=f) (c:=c) (S:=S) (at':=k) (p:=p) he));have HStp:=Qf (show S.step c k p=((S.step c k p).1,(S.step c k p).2) from rfl);generalize hno:(S.step c k p).1=no at ji;generalize her:(S.step c k p).2=er at ji GM;have iW:=Qf hno;have P4:=Qf her;clear jr Oe LL aS FU hno her HStp;go_upto_region 12 with(go_at_call 163;((with_reducible refine ji.o.mono ?_);rintro e w3 ⟨rfl,bK⟩;have fG:=Qf bK;clear bK));have bK:=fG.o;have LK:=dS.o.trans (bK.mono dS.o.size);have D1:=Qf LK;have hT3:=JM.o.ak bK;have PK:=Qf hT3;have yN:=Qf (nW.o.ak bK);have Pg:=HBR2.o.ak bK;have P9:=Qf Pg;have pc3:w3.cell? ⟨pw,0,none⟩=some (.pointer (some ⟨R.pt,0,none⟩)):=(LK.cell (p:=⟨pw,0,none⟩) pz).trans (lP.o 0);clear bc bf bz bK LK Pg;unfold eI at hT3;clear hT3
      cases hg:S.get no with
      |none=>
       have HG:=Qf (fK (HW.o.ak D1.o) hg);unfold An.v cS at HG;have yT:=Qf hg;clear hg;go_wp2_with fail;refine HG.o.mono ?_;rintro e w4 ⟨rfl,cZ⟩;have aI:=aq cZ (.cells #[.int .i64 0,.int .i64 0,.int .i64 0,.int .i64 0,.int .i64 0,.int .i64 0,.int .i64 0,.int .i64 0,.int .i64 0,.int .i64 0,.string ByteArray.empty,.slice none 0 0] 149);clear cZ pc3;go_upto_region 13 with fail;generalize w4.alloc _=X at aI⊢;have aW:=Qf (D1.o.trans (aI.mono D1.o.size));have G3:=Qf (aw.ak PK.o aI);have PM:=Qf (yN.o.ak aI);have gd:=Qf (P9.o.ak aI);clear aI;by_cases he:er=0
       ·have heb:(er != 0)=false:=by simpa using he
        have lQ:=Qf (show(S.step c k p).2=0 by rw[P4.o];exact he);subst he;clear GM;by_cases hup:p=[46,46]
        ·have hup':(str p).toList=[46,46]:=by rw[bG,dP];exact hup
         have um:=Qf (HE.o.trans (uH lQ.o hup));rw[iW.o] at um;clear hup;have BE:=G3.o;obtain⟨bc,bf,bz⟩:=aw.facts BE;clear BE;go_wp2_with fail;have Ks:=Qf (show eI (X.setCell ⟨Bt,3,none⟩ (.int .i64 no)) Bt pw c no ta2 m tc2 hp must from G3.o.set 3 _);go_roundw
         case rel=>exact⟨no,l,must,hp,ta2,m,tc2,Ks.o,PM.o.kv A4.o 3 _,A4.o,MB,by have:=BP.o;simp at this;omega,um.o,gd.o.setOther ⟨Bt,3,none⟩ _ (by have:=mT.o;show Bt≠_;omega),aW.o.setCell (show w.heap.size≤Bt by have:=mT.o;omega) _⟩
         case measure=>rw[HM.o,kD Ks.o];omega
        ·have hup':((str p).toList==[46,46])=false:=by rw[bG,dP];simpa using hup
         have um:=Qf hup;clear hup;have BE:=G3.o;obtain⟨bc,bf,bz⟩:=aw.facts BE;have eu:=gd.o;obtain⟨rc,rf,rz⟩:=eu.facts;clear BE eu
         cases lb with
         |true=>
          have eR:l=[]:=by have:=yR.o;simpa using this.symm
          have bH:=Qf (HE.o.trans (wL lQ.o um.o (by rw[iW.o];exact yT.o) eR));clear eR;go_wp2_with fail;have hne:Bt≠w.heap.size+1:=by have:=mT.o;omega
          have b3:X.drew.cell? ⟨Bt,3,none⟩=some (.int .i64 k):=bc 3;have b6:X.drew.cell? ⟨Bt,6,none⟩=some (.bool must):=bc 6
          go_region_held3 (fun w'=>w'.cell? ⟨Bt,3,none⟩=some (.int .i64 k)∧w'.cell? ⟨Bt,6,none⟩=some (.bool must)) (first|exact⟨b3,b6⟩|exact mC ⟨b3,b6⟩ hne) (fail)
          go_wp2_with (first|exact bodyPost_ret (aV (x:=⟨k,str p,0,must⟩) (e:=0) gd.o.drew.cM rfl rfl) rfl ⟨by rw[bH.o],aB aW.o.drew (Nat.le_succ _)⟩|exact bq (aV (x:=⟨k,str p,0,must⟩) (e:=0) gd.o.drew.cM rfl rfl) ⟨by rw[bH.o],aB aW.o.drew (Nat.le_succ _)⟩)
         |false=>
          have eR:l≠[]:=by have:=yR.o;simpa using this.symm
          have bH:=Qf (HE.o.trans (tj lQ.o um.o (by rw[iW.o];exact yT.o) eR));clear eR;go_wp2_with (first|exact bodyPost_ret (aV (x:=gb) (e:=5) gd.o.cM rfl rfl) rfl ⟨by rw[bH.o],aB aW.o (Nat.le_succ _)⟩|exact bq (aV (x:=gb) (e:=5) gd.o.cM rfl rfl) ⟨by rw[bH.o],aB aW.o (Nat.le_succ _)⟩)
       ·have heb:(er != 0)=true:=by simpa using he
        have bH:=Qf (GM.o he);have eu:=gd.o;obtain⟨rc,rf,rz⟩:=eu.facts;clear eu he;go_wp2_with (first|exact bodyPost_ret (aV (x:=gb) (e:=er) gd.o.cM rfl rfl) rfl ⟨by rw[bH.o],aB aW.o (Nat.le_succ _)⟩|exact bq (aV (x:=gb) (e:=er) gd.o.cM rfl rfl) ⟨by rw[bH.o],aB aW.o (Nat.le_succ _)⟩)
      |some nd=>
       obtain⟨ea,el,ec,-,hG⟩:=eV HW.o hg;have HG:=Qf (hG w3 D1.o);unfold An.v at HG;have yT:=Qf hg;have Nj:=Qf ((HK.o.get hg).1.sy);clear hg hG;go_wp2_with fail;refine HG.o.mono ?_;rintro e w4 ⟨rfl,cZ⟩;have aI:=aq cZ (.cells #[.int .i64 nd.no,.int .i64 nd.dev,.int .i64 nd.kind,.int .i64 nd.mode,.int .i64 nd.uid,.int .i64 nd.gid,.int .i64 nd.mtime,.int .i64 nd.ctime,.int .i64 nd.ao,.int .i64 nd.up,.string nd.data,.slice ea el ec] 149);have MR:=aw.new w4 #[.int .i64 nd.no,.int .i64 nd.dev,.int .i64 nd.kind,.int .i64 nd.mode,.int .i64 nd.uid,.int .i64 nd.gid,.int .i64 nd.mtime,.int .i64 nd.ctime,.int .i64 nd.ao,.int .i64 nd.up,.string nd.data,.slice ea el ec] 149;clear cZ pc3;go_upto_region 13 with fail;generalize w4.alloc _=X at aI MR⊢;have aW:=Qf (D1.o.trans (aI.mono D1.o.size));have G3:=Qf (aw.ak PK.o aI);have PM:=Qf (yN.o.ak aI);have gd:=Qf (P9.o.ak aI);have HNX:=Qf MR;clear aI MR;by_cases he:er=0
       ·have heb:(er != 0)=false:=by simpa using he
        have lQ:=Qf (show(S.step c k p).2=0 by rw[P4.o];exact he);subst he;clear GM;by_cases hup:p=[46,46]
        ·have hup':(str p).toList=[46,46]:=by rw[bG,dP];exact hup
         have um:=Qf (HE.o.trans (uH lQ.o hup));rw[iW.o] at um;clear hup;have BE:=G3.o;obtain⟨bc,bf,bz⟩:=aw.facts BE;clear BE;go_wp2_with fail;have Ks:=Qf (show eI (X.setCell ⟨Bt,3,none⟩ (.int .i64 no)) Bt pw c no ta2 m tc2 hp must from G3.o.set 3 _);go_roundw
         case rel=>exact⟨no,l,must,hp,ta2,m,tc2,Ks.o,PM.o.kv A4.o 3 _,A4.o,MB,by have:=BP.o;simp at this;omega,um.o,gd.o.setOther ⟨Bt,3,none⟩ _ (by have:=mT.o;show Bt≠_;omega),aW.o.setCell (show w.heap.size≤Bt by have:=mT.o;omega) _⟩
         case measure=>rw[HM.o,kD Ks.o];omega
        ·have hup':((str p).toList==[46,46])=false:=by rw[bG,dP];simpa using hup
         have um:=Qf hup;clear hup;have BE:=G3.o;obtain⟨bc,bf,bz⟩:=aw.facts BE;have eu:=gd.o;obtain⟨rc,rf,rz⟩:=eu.facts;have MR:=HNX.o;obtain⟨nc,nf,nz⟩:=MR.facts;clear BE eu MR;obtain⟨lk,hlk⟩:∃x:Bool,x=((nd.kind==3)&&(!lb||must||f)):=⟨_,rfl⟩;have sS:=Qf hlk;have nN:=Qf (show lk=true↔nd.kind=3∧(l≠[]∨must=true∨f=true) by
          rw[hlk,yR.o];simp[or_assoc])
         clear hlk;go_upto_region 21 with fail
         go_cut [111] (fun t111 wx=>t111=.bool lk∧X=wx)
         case first=>
          by_cases h3:nd.kind=3
          ·have rH:(nd.kind==3)=true:=by simpa using h3
           clear h3
           cases lb<;>cases must<;>cases f
           all_goals
            have HV:=Qf sS.o;rw[rH] at HV;go_wp2_with fail;go_meet;exact⟨by rw[HV.o];rfl,rfl⟩
          ·have rH:(nd.kind==3)=false:=by simpa using h3
           have HV:=Qf sS.o;rw[rH,Bool.false_and] at HV;clear h3;go_wp2_with fail;go_meet;exact⟨by rw[HV.o],rfl⟩
         case rest=>
          obtain⟨rfl,hwc⟩:=hcut;subst hwc;have hll9:l.length≤36873:=by have h1:=BP.o;simp only[List.length_cons] at h1;omega
          cases lk with
          |true=>
           have hlk:=nN.o.1 rfl;have hdz:=Nj.o hlk.1;have HKd:=Qf hlk;have HDz:=Qf hdz;have HF:=Qf (AG G3.o PM.o A4.o nd.data hdz (by omega) ⟨by omega,by omega⟩);clear hlk hdz;go_wp2_with fail;refine HF.o.mono ?_;rintro e w5 ⟨IW,⟨h8,rfl⟩|⟨h8,hd,rfl⟩|⟨h8,hd,rfl,ta5,tl5,tc5,hT5,eJ,D5⟩⟩
           ·have bH:=Qf (show S.path c path f=(gb,12) from HE.o.trans (by rw[show 8-hp=0 by omega];exact th lQ.o um.o (by rw[iW.o];exact yT.o) HKd.o));have gH:=gd.o.mod IW (show¬(w.heap.size+1=Bt) by have:=mT.o;omega);have pM:=Qf gH;have l8:=Qf (aW.o.trans (IW.below (fun k hk=>by have:=mT.o;omega) aW.o.size));clear rc rf rz nc nf nz bc bf bz IW;obtain⟨rc,rf,rz⟩:=gH.facts;clear gH h8;go_wp2_with (first|exact bodyPost_ret (aV (x:=gb) (e:=12) pM.o.cM rfl rfl) rfl ⟨by rw[bH.o],aB l8.o (Nat.le_succ _)⟩|exact bq (aV (x:=gb) (e:=12) pM.o.cM rfl rfl) ⟨by rw[bH.o],aB l8.o (Nat.le_succ _)⟩)
           ·have bH:=Qf (show S.path c path f=(gb,5) from HE.o.trans (by rw[show 8-hp=(7-hp)+1 by omega];exact tg lQ.o um.o (by rw[iW.o];exact yT.o) HKd.o hd));have gH:=gd.o.mod IW (show¬(w.heap.size+1=Bt) by have:=mT.o;omega);have pM:=Qf gH;have l8:=Qf (aW.o.trans (IW.below (fun k hk=>by have:=mT.o;omega) aW.o.size));clear rc rf rz nc nf nz bc bf bz IW;obtain⟨rc,rf,rz⟩:=gH.facts;clear gH h8 hd;go_wp2_with (first|exact bodyPost_ret (aV (x:=gb) (e:=5) pM.o.cM rfl rfl) rfl ⟨by rw[bH.o],aB l8.o (Nat.le_succ _)⟩|exact bq (aV (x:=gb) (e:=5) pM.o.cM rfl rfl) ⟨by rw[bH.o],aB l8.o (Nat.le_succ _)⟩)
           ·have bH:=Qf (show S.path c path f=S.eA c f (8-(hp+1)) (if nd.data.data.toList.head?=some 47 then 1 else k) (if l=[] then must||eD nd.data.data.toList else must) (bF nd.data.data.toList++l) from HE.o.trans (by rw[show 8-hp=(8-(hp+1))+1 by omega];exact ti lQ.o um.o (by rw[iW.o];exact yT.o) HKd.o hd));have pM:=Qf (gd.o.mod IW (show¬(w.heap.size+1=Bt) by have:=mT.o;omega));have l8:=Qf (aW.o.trans (IW.below (fun k hk=>by have:=mT.o;omega) aW.o.size));have hpl:(bF nd.data.data.toList).length≤4097:=by
             have h1:=iy nd.data.data.toList;have h2:nd.data.data.toList.length=nd.data.size:=Array.length_toList;have:=HDz.o;omega
            have hl5:=eJ.len;rw[List.length_append] at hl5;have Ni:=Qf (show eI w5 Bt pw c (if nd.data.data.toList.head?=some 47 then 1 else k) ta5 tl5 tc5 ((hp+1:Nat):Int) (if l=[] then must||eD nd.data.data.toList else must) from hT5);have sN:=Qf eJ;have HA5:=Qf (show∀b off,ta5=some ⟨b,off,none⟩→b≠Bt from fun b off h=>by have q1:=D5 b off h;have q2:=G3.o.lt;omega);have M0:hp+1≤8:=by omega
            clear IW hT5 eJ D5 h8 hd rc rf rz nc nf nz bc bf bz;go_wp2_with fail;go_roundw
            case rel=>exact⟨_,_,_,hp+1,ta5,tl5,tc5,Ni.o,sN.o,HA5.o,M0,by rw[List.length_append];have h1:=BP.o;simp only[List.length_cons] at h1;omega,bH.o,pM.o,l8.o⟩
            case measure=>rw[HM.o,kD Ni.o];have:=oR.o;omega
          |false=>
           have hlk:¬(nd.kind=3∧(l≠[]∨must=true∨f=true)):=fun h=>by have:=nN.o.2 h;cases this
           have PV:=Qf hlk;clear sS nN;by_cases h3:nd.kind=1
           ·have rH:(nd.kind != 1)=false:=by simpa using h3
            have mS:=Qf (show¬(nd.kind≠1∧(l≠[]∨must=true)) from fun h=>h.1 h3);clear h3
            cases lb with
            |true=>
             have eR:l=[]:=by have:=yR.o;simpa using this.symm
             have bH:=Qf (HE.o.trans (lp lQ.o um.o (by rw[iW.o];exact yT.o) PV.o mS.o eR));rw[iW.o] at bH;clear eR;go_wp2_with fail;have hne:Bt≠w.heap.size+1:=by have:=mT.o;omega
             have b3:X.drew.cell? ⟨Bt,3,none⟩=some (.int .i64 k):=bc 3;have b6:X.drew.cell? ⟨Bt,6,none⟩=some (.bool must):=bc 6
             go_region_held3 (fun w'=>w'.cell? ⟨Bt,3,none⟩=some (.int .i64 k)∧w'.cell? ⟨Bt,6,none⟩=some (.bool must)) (first|exact⟨b3,b6⟩|exact mC ⟨b3,b6⟩ hne) (fail)
             go_wp2_with (first|exact bodyPost_ret (aV (x:=⟨k,str p,no,must⟩) (e:=0) gd.o.drew.cM rfl rfl) rfl ⟨by rw[bH.o],aB aW.o.drew (Nat.le_succ _)⟩|exact bq (aV (x:=⟨k,str p,no,must⟩) (e:=0) gd.o.drew.cM rfl rfl) ⟨by rw[bH.o],aB aW.o.drew (Nat.le_succ _)⟩)
            |false=>
             have eR:l≠[]:=by have:=yR.o;simpa using this.symm
             have bH:=Qf (HE.o.trans (Bg lQ.o um.o (by rw[iW.o];exact yT.o) PV.o mS.o eR));rw[iW.o] at bH;clear eR;go_wp2_with fail;have Ks:=Qf (show eI (X.setCell ⟨Bt,3,none⟩ (.int .i64 no)) Bt pw c no ta2 m tc2 hp must from G3.o.set 3 _);go_roundw
             case rel=>exact⟨no,l,must,hp,ta2,m,tc2,Ks.o,PM.o.kv A4.o 3 _,A4.o,MB,by have:=BP.o;simp at this;omega,bH.o,gd.o.setOther ⟨Bt,3,none⟩ _ (by have:=mT.o;show Bt≠_;omega),aW.o.setCell (show w.heap.size≤Bt by have:=mT.o;omega) _⟩
             case measure=>rw[HM.o,kD Ks.o];omega
           ·have rH:(nd.kind != 1)=true:=by simpa using h3
            have HK3:=Qf h3;clear h3
            cases lb with
            |false=>
             have eR:l≠[]:=by have:=yR.o;simpa using this.symm
             have bH:=Qf (HE.o.trans (lq lQ.o um.o (by rw[iW.o];exact yT.o) PV.o ⟨HK3.o,.inl eR⟩));clear eR;go_wp2_with (first|exact bodyPost_ret (aV (x:=gb) (e:=9) gd.o.cM rfl rfl) rfl ⟨by rw[bH.o],aB aW.o (Nat.le_succ _)⟩|exact bq (aV (x:=gb) (e:=9) gd.o.cM rfl rfl) ⟨by rw[bH.o],aB aW.o (Nat.le_succ _)⟩)
            |true=>
             have eR:l=[]:=by have:=yR.o;simpa using this.symm
             cases must with
             |true=>
              have bH:=Qf (HE.o.trans (lq lQ.o um.o (by rw[iW.o];exact yT.o) PV.o ⟨HK3.o,.inr rfl⟩));clear eR;go_wp2_with (first|exact bodyPost_ret (aV (x:=gb) (e:=9) gd.o.cM rfl rfl) rfl ⟨by rw[bH.o],aB aW.o (Nat.le_succ _)⟩|exact bq (aV (x:=gb) (e:=9) gd.o.cM rfl rfl) ⟨by rw[bH.o],aB aW.o (Nat.le_succ _)⟩)
             |false=>
              have bH:=Qf (HE.o.trans (lp lQ.o um.o (by rw[iW.o];exact yT.o) PV.o (fun h=>h.2.elim (fun h=>h eR) (fun h=>by cases h)) eR));rw[iW.o] at bH;clear eR;go_wp2_with fail;have hne:Bt≠w.heap.size+1:=by have:=mT.o;omega
              have b3:X.drew.cell? ⟨Bt,3,none⟩=some (.int .i64 k):=bc 3;have b6:X.drew.cell? ⟨Bt,6,none⟩=some (.bool false):=bc 6
              go_region_held3 (fun w'=>w'.cell? ⟨Bt,3,none⟩=some (.int .i64 k)∧w'.cell? ⟨Bt,6,none⟩=some (.bool false)) (first|exact⟨b3,b6⟩|exact mC ⟨b3,b6⟩ hne) (fail)
              go_wp2_with (first|exact bodyPost_ret (aV (x:=⟨k,str p,no,false⟩) (e:=0) gd.o.drew.cM rfl rfl) rfl ⟨by rw[bH.o],aB aW.o.drew (Nat.le_succ _)⟩|exact bq (aV (x:=⟨k,str p,no,false⟩) (e:=0) gd.o.drew.cM rfl rfl) ⟨by rw[bH.o],aB aW.o.drew (Nat.le_succ _)⟩)
       ·have heb:(er != 0)=true:=by simpa using he
        have bH:=Qf (GM.o he);have eu:=gd.o;obtain⟨rc,rf,rz⟩:=eu.facts;clear eu he;go_wp2_with (first|exact bodyPost_ret (aV (x:=gb) (e:=er) gd.o.cM rfl rfl) rfl ⟨by rw[bH.o],aB aW.o (Nat.le_succ _)⟩|exact bq (aV (x:=gb) (e:=er) gd.o.cM rfl rfl) ⟨by rw[bH.o],aB aW.o (Nat.le_succ _)⟩)
 ·have hpb:(pe==0)=false:=by simpa using hpe
  have A5:=Qf (HPE.o.trans (if_pos hpe));have F5:=A8.o;obtain⟨rc,rf,rz⟩:=F5.facts;clear hpe F5;go_wp2_with (first|exact bodyPost_ret (aV (x:=gb) (e:=pe) A8.o.cM rfl rfl) rfl ⟨by rw[A5.o],aB bP.o (Nat.le_succ _)⟩|exact bq (aV (x:=gb) (e:=pe) A8.o.cM rfl rfl) ⟨by rw[A5.o],aB bP.o (Nat.le_succ _)⟩)
end
end
section
open Go.RowKit
theorem j7(l:List UInt8):∀p∈bF l,p.length≤l.length:=fun p hp=>wE 47 l p (List.mem_filter.1 hp).1
theorem jL:gb.name.size≤1048576:=by show(0:Nat)≤_;omega
theorem mg{S:Fs}(hS:∀k a,S.get k=some a→a.data.size≤1048576)(c:Cr)(f:Bool)(k:Option (Int→Bool→List (List UInt8)→Fd×Int))
  (hk:∀g,k=some g→∀at' must l,(∀p∈l,p.length≤1048576)→(g at' must l).1.name.size≤1048576) :
  ∀(l:List (List UInt8)) (at':Int) (must:Bool),(∀p∈l,p.length≤1048576)→(S.bY c f k l at' must).1.name.size≤1048576
 | [],at',must,_=>by rw[Fs.bY];show(0:Nat)≤_;omega
 |p::l,at',must,hl=>by
  have hp:(str p).size≤1048576:=by rw[cJ];exact hl p (by simp)
  have hl':∀q∈l,q.length≤1048576:=fun q hq=>hl q (by simp[hq]);have ih:=mg hS c f k hk l;rw[Fs.bY]
  split
  ·exact jL
  ·split
   ·exact ih _ _ hl'
   ·split
    ·split
     ·exact hp
     ·exact jL
    ·rename_i n hn
     split
     ·cases hkk:k with
      |none=>exact jL
      |some g=>
       simp only
       split
       ·exact jL
       ·refine hk g hkk _ _ _ (fun q hq=>?_);rcases List.mem_append.1 hq with hq|hq
        ·have h1:=j7 _ q hq;have h2:n.data.data.toList.length=n.data.size:=Array.length_toList;have h3:=hS _ n hn;omega
        ·exact hl' q hq
     ·split
      ·exact jL
      ·split
       ·exact hp
       ·exact ih _ _ hl'
theorem qB{S:Fs}(hS:∀k a,S.get k=some a→a.data.size≤1048576)(c:Cr)(f:Bool):∀(h:Nat) (at':Int) (must:Bool) (l:List (List UInt8)),(∀p∈l,p.length≤1048576)→(S.eA c f h at' must l).1.name.size≤1048576
 |0,at',must,l,hl=>mg hS c f none (fun g h=>by cases h) l at' must hl
 |h+1,at',must,l,hl=>mg hS c f (some (S.eA c f h)) (fun g hg at' must l hl=>by injection hg with hg;subst hg;exact qB hS c f h at' must l hl) l at' must hl
theorem tC{S:Fs}{N:Nat}(hk:ax S N)(c:Cr)(s:ByteArray)(hs:s.size≤1048576)(f:Bool):(S.path c s f).1.name.size≤1048576:=by
 unfold Fs.path
 split
 ·exact jL
 ·refine qB (fun k a h=>(hk.get h).1.data) c f 8 1 _ _ (fun p hp=>?_);have h1:=j7 _ p hp;have h2:s.data.toList.length=s.size:=Array.length_toList;omega
end
section
open Go.RowKit
theorem lZ{tmps:Array Value}{W:World}{B:Nat}{x:Fd}{e:Int}(hb:aw W B #[.int .i64 x.dir,.string x.name,.int .i64 x.no,.bool x.Bb] 176)
  (h8:tmps.getD 8 undef=.pointer (some ⟨B,0,none⟩)) (h9:tmps.getD 9 undef=.int .i64 e):(results Tryz.f84 tmps).run Tryz.prog W=.ok (.tuple #[x.v,.int .i64 e]) W:=by
 have q0:=hb.cell 0;have q1:=hb.cell 1;have q2:=hb.cell 2;have q3:=hb.cell 3;rw[Array.getD_eq_getD_getElem?] at h8 h9;simp[results,Tryz.results84,go_sem,Fd.v,h8,h9,q0,q1,q2,q3]
section
variable{w w':World}{pf pw:Nat}{R:Rp}{pv:Value}{Y:Sy}
theorem lj(h:bg w pf pw R pv Y){N:Nat}(hk:ax Y.fs N)(hN:N≤999999)(hd:Y.dead=false)(c:Cr)(path:ByteArray)(hp:path.size≤100000)(f:Bool) :
  Calls Tryz.prog 84 #[.pointer (some ⟨pf,0,none⟩),.agg #[.int .i64 c.u,.int .i64 c.g],.string path,.bool f] w fun e w'=>e=.returned (.tuple #[(Y.fs.path c path f).1.v,.int .i64 (Y.fs.path c path f).2])∧Qi w w':=by
 have eu:aw ((w.alloc (.cells #[.int .i64 c.u,.int .i64 c.g] 64)).alloc (.cells #[.int .i64 0,.string ⟨#[]⟩,.int .i64 0,.bool false] 176)) (w.heap.size+1) #[.int .i64 0,.string ⟨#[]⟩,.int .i64 0,.bool false] 176:=by
  have:=aw.new (w.alloc (.cells #[.int .i64 c.u,.int .i64 c.g] 64)) #[.int .i64 0,.string ⟨#[]⟩,.int .i64 0,.bool false] 176
  rwa [World.size_alloc] at this
 have gp:=(aw.new w #[.int .i64 c.u,.int .i64 c.g] 64).old (.cells #[.int .i64 0,.string ⟨#[]⟩,.int .i64 0,.bool false] 176);have aI:=aq (aq (Qj w) (.cells #[.int .i64 c.u,.int .i64 c.g] 64)) (.cells #[.int .i64 0,.string ⟨#[]⟩,.int .i64 0,.bool false] 176);have HR:=Qf (fun w1 (av:Qi w w1)=>gx (h.ak av));rw[hd] at HR;have HS:=Qf (fun w1 (av:Qi w w1)=>E9 (h.wd.ak av) hk hN c path hp f);obtain⟨pc,-,pz⟩:=h.aZ.facts;have lP:=Qf (fun w1 (av:Qi w w1)=>show w1.cell? ⟨pf,0,none⟩=some (.pointer (some ⟨pw,0,none⟩)) from(av.cell (p:=⟨pf,0,none⟩) pz).trans (pc 0));have mixed:Tryz.prog.follows .mixedOrders=true:=by kernel_rfl
 generalize Y.fs.path c path f=rd at HS⊢;unfold Fd.v at HS;clear h hk hd pc pz;go_enter Tryz.func84,Tryz.ntmps84;go_wp2_with fail;refine(HR.o _ aI).mono ?_;rintro e w1 ⟨rfl,rfl⟩;generalize (w.alloc (.cells #[.int .i64 c.u,.int .i64 c.g] 64)).alloc (.cells #[.int .i64 0,.string ⟨#[]⟩,.int .i64 0,.bool false] 176)=W0 at eu gp aI⊢;have gd:=Qf eu;have aW:=Qf aI;have pc0:=lP.o _ aI;obtain⟨cc,-,cz⟩:=gp.facts;clear gp aI eu;go_wp2_with fail;refine aG 7 mixed (by kernel_rfl) (show bL _ from by repeat (first|exact cG|refine cF ?_|refine bR ?_|refine cd ?_)) ?_;simp only[List.take_succ_cons,List.take_zero,List.drop_succ_cons,List.drop_zero]
 repeat still_step
 refine wpStill_nil ?_;go_wp2_with fail;refine(HS.o _ aW.o.drew).mono ?_;rintro e w1 ⟨rfl,av⟩;have mG:=gd.o.drew.ak av;have zj:=Qf mG;have lS:=Qf (aW.o.drew.trans (av.mono aW.o.size));obtain⟨rc,rf,rz⟩:=mG.facts;clear av mG;go_wp2_with fail;exact bodyPost_ret (lZ zj.o.cM rfl rfl) rfl ⟨rfl,aB lS.o (Nat.le_succ _)⟩
structure Calm(Y:Sy):Prop where
 bQ:Y.bQ=[]
 dead:Y.dead=false
 now:Y.now=0
 c0:0≤Y.count
theorem Calm.change(h:Calm Y):Y.change=({Y with count:=Y.count+1},0):=pq h.dead (fun x hx=>by rw[h.bQ] at hx;cases hx)
theorem Calm.op(h:Calm Y)(g:Fs→Int→Fs×Int×Int):Y.op g=({Y with count:=Y.count+1,fs:=(g Y.fs 0).1},(g Y.fs 0).2):=by
 unfold Sy.op;rw[h.change,h.now];rfl
theorem Calm.kx(h:Calm Y)(g:Fs→Int→Fs×Int):Y.kx g=({Y with count:=Y.count+1,fs:=(g Y.fs 0).1},(g Y.fs 0).2):=by
 unfold Sy.kx;rw[h.change,h.now];rfl
theorem Calm.next(h:Calm Y)(S:Fs):Calm {Y with count:=Y.count+1,fs:=S}:=⟨h.bQ,h.dead,h.now,by have:=h.c0;show 0≤Y.count+1;omega⟩
theorem Calm.fs(h:Calm Y)(S:Fs):Calm {Y with fs:=S}:=⟨h.bQ,h.dead,h.now,h.c0⟩
def eQ(w w':World)(pf pw:Nat)(R:Rp)(pv:Value)(Y:Sy)(S:Fs)(d:Int):Prop:=
 ∃R' Z,bg w' pf pw R' pv Z∧Z.fs=S∧Calm Z∧Z.count≤Y.count+d∧aR (R.Y pf pw) (R'.Y pf pw) w w'
theorem eQ.same(h:bg w pf pw R pv Y)(hc:Calm Y)(hb:Qi w w'):eQ w w' pf pw R pv Y Y.fs 0:=⟨R,Y,h.ak hb,rfl,hc,by omega,aR.ar hb⟩
theorem eQ.mono{S:Fs}{d d':Int}(h:eQ w w' pf pw R pv Y S d)(hd:d≤d'):eQ w w' pf pw R pv Y S d':=by
 obtain⟨R',Z,h1,h2,h3,h4,h5⟩:=h;exact⟨R',Z,h1,h2,h3,by omega,h5⟩
theorem aw.sy{B:Nat}{vs:Array Value}{T:TypeId}(hb:aw w B vs T)(h:bg w pf pw R pv Y){F':Nat→Prop}(hs:aR (R.Y pf pw) F' w w')(hT:gT (.cells #[] T (0,0))=false)(FU:T≠42):aw w' B vs T:=
 hb.mod hs.mod (fun hk=>by
  rcases hk with rfl|hk
  ·have h1:=h.aZ;unfold aw at hb h1;rw[hb] at h1;injection h1 with h1;injection h1 with h1 h2;exact FU h2
  ·obtain⟨o,ho,hd⟩:=h.wd.kind hk;unfold aw at hb;rw[hb] at ho;injection ho with ho;subst ho;rw[show gT (.cells vs T (0,0))=gT (.cells #[] T (0,0)) from rfl,hT] at hd
   cases hd)
end
end
section
open Go.RowKit
end
section
open Go.RowKit
theorem FO(s:ByteArray)(hs:s.size≤2000000)(w:World) :
  Calls Tryz.prog 177 #[.string s,.int .u8 0] w fun e w'=>e=.returned (.bool (hasB s 0))∧w=w':=pW s 0 w hs
theorem Cz(s:ByteArray)(w:World)(hs:s.size≤2000000) :
  Calls Tryz.prog 167 #[.string s] w fun e w'=>e=.returned (.int .i64 (ej s))∧w=w':=by
 rcases Nat.eq_zero_or_pos s.size with h0|hpos
 ·have HE:=Qf (tD h0);have hn:s.toList=[]:=by rw[bG];exact List.eq_nil_of_length_eq_zero (by rw[Array.length_toList];exact h0)
  clear h0;go_enter Tryz.func167,Tryz.ntmps167;go_wp2_with fail;go_ret;exact⟨by rw[HE.o];rfl,rfl⟩
 ·have hn:¬s.toList=[]:=by
   rw[bG];intro e;have:s.data.toList.length=s.size:=Array.length_toList;rw[e] at this;simp at this;omega
  have ox:s.toList.isEmpty=false:=by simpa using hn
  by_cases oB:s[0]=47
  ·have hr:=Qf (qT hpos oB);have iS:((s[0].toNat:Int)==47)=true:=by rw[oB];rfl
   have eT:((s[0].toNat:Int) != 47)=false:=by rw[bne,iS];rfl
   clear oB;have hc:=Qf (FO s hs);generalize hasB s 0=b at hr hc
   cases b
   ·by_cases hlen:4096<s.size
    ·have hE:=Qf (show ej s=13 by rw[hr.out];simp[hlen]);go_enter Tryz.func167,Tryz.ntmps167;go_wp2_with (go_at_call 177;refine(hc.out _).mono ?_;rintro e w1 ⟨rfl,rfl⟩);go_ret;exact⟨by rw[hE.out];rfl,rfl⟩
    ·have hE:=Qf (show ej s=0 by rw[hr.out];simp[hlen]);go_enter Tryz.func167,Tryz.ntmps167;go_wp2_with (go_at_call 177;refine(hc.out _).mono ?_;rintro e w1 ⟨rfl,rfl⟩);go_ret;exact⟨by rw[hE.out];rfl,rfl⟩
   ·have hE:=Qf (show ej s=1 by rw[hr.out];rfl);go_enter Tryz.func167,Tryz.ntmps167;go_wp2_with (go_at_call 177;refine(hc.out _).mono ?_;rintro e w1 ⟨rfl,rfl⟩);go_ret;exact⟨by rw[hE.out];rfl,rfl⟩
  ·have hE:=Qf (qU hpos oB);have iS:((s[0].toNat:Int)==47)=false:=by
    simp only[beq_eq_false_iff_ne,ne_eq];intro h;exact oB (by rw[lV];show s[0].toNat=47;omega)
   have eT:((s[0].toNat:Int) != 47)=true:=by rw[bne,iS];rfl
   clear oB;go_enter Tryz.func167,Tryz.ntmps167;go_wp2_with fail;go_ret;exact⟨by rw[hE.out];rfl,rfl⟩
end
section
open Go.RowKit
section
variable{w w':World}{pf pw:Nat}{R:Rp}{pv:Value}{Y:Sy}
theorem Ev(h:bg w pf pw R pv Y){N:Nat}(hk:ax Y.fs N)(hp:Pl Y.fs)(hl:Y.fs.ns.length≤100000)(hd:Y.dead=false)(no:Int) :
  Calls Tryz.prog 57 #[.pointer (some ⟨pf,0,none⟩),.int .i64 no] w fun e w'=>e=.returned (.tuple #[.int .i64 (Y.fs.fq no).1,.string (Y.fs.fq no).2.1,.int .i64 (Y.fs.fq no).2.2])∧Qi w w':=by
 have HS:=Qf (iv h hk hd no);have so:=Qf (fun w1 (hb:Qi w w1) d=>fp (h.wd.ak hb) hk.d1 d);have PJ:=Qf (fun w1 (hb:Qi w w1) d=>qh (h.wd.ak hb) hk hp hl d);obtain⟨pc,-,pz⟩:=h.aZ.facts;have lP:=Qf (fun w1 (av:Qi w w1)=>show w1.cell? ⟨pf,0,none⟩=some (.pointer (some ⟨pw,0,none⟩)) from(av.cell (p:=⟨pf,0,none⟩) pz).trans (pc 0));have mixed:Tryz.prog.follows .mixedOrders=true:=by kernel_rfl
 obtain⟨S,hS⟩:∃S,Y.fs=S:=⟨_,rfl⟩;rw[hS] at HS so PJ⊢;have HZ0:=Qf (fun h=>Cd (S:=S) (no:=no) h);have PG:=Qf (fun a h h2=>Ce (S:=S) (no:=no) (a:=a) h h2);have JJ:=Qf (fun a s h h2=>Cc (S:=S) (no:=no) (a:=a) (s:=s) h h2);generalize S.fq no=Z at HZ0 PG JJ⊢;clear h hk hp hd hS pc pz hl
 cases hg:S.get no with
 |none=>
  rw[hg] at HS;have HZ:=Qf (HZ0.o hg);unfold Cp ep at HS;clear hg;go_enter Tryz.func57,Tryz.ntmps57;go_wp2_with fail;refine HS.o.mono ?_;rintro e w1 ⟨rfl,av⟩;have dO:=Qf (aq av (.cells #[.int .i64 0,.int .i64 0,.int .i64 0,.int .i64 0,.int .i64 0,.int .i64 0,.int .i64 0,.int .i64 0,.int .i64 0,.int .i64 0] 67));clear av;go_wp2_with fail
  go_ret3
  exact⟨by rw[HZ.o];rfl,dO.o⟩
 |some a=>
  rw[hg] at HS;have HG:=Qf hg;unfold Cp ep at HS;clear hg;go_enter Tryz.func57,Tryz.ntmps57;go_wp2_with fail;refine HS.o.mono ?_;rintro e w1 ⟨rfl,av⟩;have hX:=aw.new w1 #[.int .i64 a.no,.int .i64 a.dev,.int .i64 a.kind,.int .i64 a.mode,.int .i64 a.uid,.int .i64 a.gid,.int .i64 a.ao,.int .i64 a.data.size,.int .i64 a.mtime,.int .i64 a.ctime] 67;have aI:=aq av (.cells #[.int .i64 a.no,.int .i64 a.dev,.int .i64 a.kind,.int .i64 a.mode,.int .i64 a.uid,.int .i64 a.gid,.int .i64 a.ao,.int .i64 a.data.size,.int .i64 a.mtime,.int .i64 a.ctime] 67);go_upto_region 2 with fail;generalize w1.alloc _=X at hX aI⊢;have HX:=Qf hX;have aW:=Qf aI;obtain⟨xc,xf,xz⟩:=hX.facts;have pc0:=lP.o _ aI;clear av hX aI;go_wp2_with fail;refine aG 6 mixed (by kernel_rfl) (show bL _ from by repeat (first|exact cG|refine cF ?_|refine bR ?_|refine cd ?_)) ?_;simp only[List.take_succ_cons,List.take_zero,List.drop_succ_cons,List.drop_zero]
  repeat still_step
  refine wpStill_nil ?_;go_wp2_with fail;refine(so.o _ aW.o.drew _).mono ?_;rintro e w2 ⟨rfl,rfl⟩;clear xc xf xz pc0;have pc0:=lP.o _ aW.o.drew;go_wp2_with fail;refine(PJ.o _ aW.o.drew _).mono ?_;rintro e w3 ⟨rfl,bK⟩;have fG:=Qf (au aW.o.drew bK);unfold qj;clear bK pc0
  cases hpl:S.fP (S.root a.dev) with
  |none=>
   have HZ:=Qf (PG.o _ HG.o hpl);clear hpl;go_wp2_with fail
   go_ret3
   exact⟨by rw[HZ.o];rfl,fG.o⟩
  |some s=>
   have HZ:=Qf (JJ.o _ _ HG.o hpl);clear hpl;go_wp2_with fail
   go_ret3
   exact⟨by rw[HZ.o];rfl,fG.o⟩
end
end
section
open Go.RowKit Go.Shelf
attribute [local go_sem] Oper.semAt_some
def Fs.NR(S:Fs)(d:Nat):Option (Int×ByteArray):=(S.fP (S.root ((d:Int)+1))).map fun s=>(S.root ((d:Int)+1),s)
def Fs.NN(S:Fs)(k:Nat):List (Int×ByteArray):=(List.range k).filterMap S.NR
def Fs.J1(S:Fs):List (Int×ByteArray):=S.NN S.ds.length
end
section
open Go.RowKit
def Nm(S:Fs):Prop:=∀a∈S.ns,∀x∈a.ay,cx x.name=0
theorem Nm.set{S:Fs}(h:Nm S){a:An}(hn:∀x∈a.ay,cx x.name=0):Nm (S.set a):=by
 intro y hy;unfold Fs.set at hy;simp only[List.mem_map] at hy;obtain⟨z,hz,rfl⟩:=hy
 split
 ·exact hn
 ·exact h z hz
theorem Nm.add{S:Fs}(h:Nm S){a:An}(hn:a.ay=[]):Nm (S.add a):=by
 intro y hy;unfold Fs.add at hy;rcases List.mem_append.1 hy with hy|hy
 ·exact h y hy
 ·simp at hy;subst hy;intro x hx;rw[show({a with no:=S.last+1}:An).ay=a.ay from rfl,hn] at hx
  cases hx
theorem Nm.aH{S:Fs}(h:Nm S)(o b n:Int):Nm (S.aH o b n):=by
 intro y hy;unfold Fs.aH at hy;rcases List.mem_append.1 hy with hy|hy
 ·exact h y hy
 ·simp at hy;subst hy;intro x hx
  cases hx
theorem Nm.make{S:Fs}(h:Nm S){a:An}(hn:a.ay=[]):Nm (S.make a).1:=by
 unfold Fs.make
 split
 ·exact h
 ·split
  ·exact h
  ·simp only
   split
   ·exact Nm.add (S:=S.bp _ _) (fun y hy=>h y hy) hn
   ·exact h
theorem tv{l:List En}(h:∀x∈l,cx x.name=0){s:ByteArray}(hs:cx s=0)(no:Int):∀x∈ct l s no,cx x.name=0:=by
 intro x hx;unfold ct at hx;rcases List.mem_append.1 hx with hx|hx
 ·exact h x (List.mem_filter.1 hx).1
 ·rcases List.mem_cons.1 hx with rfl|hx
  ·exact hs
  ·exact h x (List.mem_filter.1 hx).1
theorem Nm.bE{S:Fs}(h:Nm S)(now dir:Int)(l:List En)(hl:∀x∈l,cx x.name=0):Nm (S.bE now dir l):=by
 unfold Fs.bE
 split
 ·exact h
 ·exact h.set hl
theorem Nm.cC{S:Fs}(h:Nm S){a:An}(c:Cr)(now dir:Int)(s:ByteArray)(he:a.ay=[]):Nm (S.cC c now dir s a).1:=by
 unfold Fs.cC
 split
 ·exact h
 ·rename_i hpl;obtain⟨d,hd,hdk,hce⟩:=eB (by simpa using hpl);rw[hd];simp only
  split
  ·exact h
  ·have hm:=h.make (a:={a with dev:=d.dev,uid:=c.u,gid:=c.g,mtime:=now,ctime:=now,ao:=1}) he
   split
   ·exact h
   ·exact hm.bE _ _ _ (tv (h d (bD hd)) hce _)
theorem Nm.aO{S:Fs}(h:Nm S)(c:Cr)(now dir:Int)(s:ByteArray)(m:Int):Nm (S.aO c now dir s m).1:=by
 unfold Fs.aO
 split
 ·exact h
 ·exact h.cC c now dir s rfl
theorem Nm.file{S:Fs}(h:Nm S)(c:Cr)(now dir:Int)(s:ByteArray)(m:Int)(t:ByteArray):Nm (S.file c now dir s m t).1:=by
 unfold Fs.file
 split
 ·exact h
 ·split
  ·exact h
  ·exact h.cC c now dir s rfl
theorem Nm.sym{S:Fs}(h:Nm S)(c:Cr)(now dir:Int)(s t:ByteArray):Nm (S.sym c now dir s t).1:=by
 unfold Fs.sym
 split
 ·exact h
 ·split
  ·exact h
  ·exact h.cC c now dir s rfl
theorem Nm.ez{S:Fs}(h:Nm S)(c:Cr)(now no dir:Int)(s:ByteArray):Nm (S.ez c now no dir s).1:=by
 unfold Fs.ez
 split
 ·exact h
 ·rename_i hpl;obtain⟨d0,oz,hdk,hce⟩:=eB (by simpa using hpl)
  split
  ·rename_i d n hd hn
   split
   ·exact h
   ·split
    ·exact h
    ·split
     ·exact h
     ·split
      ·exact h
      ·exact Nm.bE (h.set (a:={n with ao:=n.ao+1,ctime:=now}) (h n (bD hn))) _ _ _ (tv (h d (bD hd)) hce _)
  ·exact h
theorem Nm.cw{S:Fs}(h:Nm S)(c:Cr)(now no m:Int):Nm (S.cw c now no m).1:=by
 unfold Fs.cw
 split
 ·exact h
 ·rename_i n hn
  split
  ·exact h
  ·split
   ·exact h
   ·exact h.set (h n (bD hn))
theorem Nm.cD{S:Fs}(h:Nm S)(c:Cr)(now no u g:Int):Nm (S.cD c now no u g).1:=by
 unfold Fs.cD
 split
 ·exact h
 ·rename_i n hn
  split
  ·exact h
  ·split
   ·exact h
   ·split
    ·exact h
    ·exact h.set (h n (bD hn))
theorem Nm.cA{S:Fs}(h:Nm S)(c:Cr)(now no t:Int):Nm (S.cA c now no t).1:=by
 unfold Fs.cA
 split
 ·exact h
 ·rename_i n hn
  split
  ·exact h
  ·split
   ·exact h
   ·exact h.set (h n (bD hn))
theorem Nm.bT{S:Fs}(h:Nm S)(k b n:Int):Nm (S.bT k b n).1:=by
 unfold Fs.bT
 split
 ·exact h
 ·split
  ·exact h
  ·split
   ·exact h
   ·split
    ·exact h
    ·exact h.aH _ b n
theorem Nm.bO{S:Fs}(h:Nm S)(m:Mt):Nm (bO S m):=by
 unfold Go.Proofs.YtabbjaomlmnnhaaGreat.bO
 split
 ·exact h
 ·split
  ·have h1:=h.aO bM 0 (S.path bM m.path false).1.dir (S.path bM m.path false).1.name 493;simp only
   split
   ·exact h1
   ·exact h1.bT _ _ _
  ·exact h.bT _ _ _
theorem Nm.aQ{S:Fs}(h:Nm S)(l:List Mt):Nm (aQ S l):=by
 induction l generalizing S with
 |nil=>exact h
 |cons m l ih=>
  unfold Go.Proofs.YtabbjaomlmnnhaaGreat.aQ;by_cases hm:m.path=ks
  ·rw[if_pos hm];exact ih h
  ·rw[if_neg hm];exact ih (h.bO m)
theorem Nm.bS{S:Fs}(h:Nm S)(it:It):Nm (bS S it).1:=by
 unfold Go.Proofs.YtabbjaomlmnnhaaGreat.bS;simp only
 split
 ·exact h
 ·split
  ·split<;>exact h
  ·split
   ·exact h.aO _ _ _ _ _
   ·split
    ·exact h.file _ _ _ _ _ _
    ·split
     ·exact h.sym _ _ _ _ _
     ·split
      ·split
       ·exact h.ez _ _ _ _ _
       ·exact h
      ·exact h
theorem Nm.dQ{S:Fs}(h:Nm S)(it:It):Nm (dQ S it).1:=by
 unfold Go.Proofs.YtabbjaomlmnnhaaGreat.dQ;have h1:=h.bS it;simp only
 split
 ·exact(h1.cD _ _ _ _ _).cw _ _ _ _
 ·exact h1
theorem Nm.aY{S:Fs}(h:Nm S)(l:List It):Nm (aY S l).1:=by
 induction l generalizing S with
 |nil=>exact h
 |cons x l ih=>exact ih (h.dQ x)
theorem Nm.bN{S:Fs}(h:Nm S)(l:List (It×Int)):Nm (bN S l):=by
 induction l generalizing S with
 |nil=>exact h
 |cons x l ih=>
  unfold Go.Proofs.YtabbjaomlmnnhaaGreat.bN;refine ih ?_
  split
  ·exact h.cA _ _ _ _
  ·exact h
theorem E8(ms:List Mt)(is:List It):Nm (cU ms is):=by
 unfold cU;simp only;refine Nm.bN (Nm.aY (Nm.aQ ?_ ms) is) _;exact Nm.aH (S:=p7) (fun a ha=>by cases ha) _ _ _
end
section
open Go.RowKit
structure Wy(S:Fs):Prop where
 ud:∀a∈S.ns,a.kind=1→∃b,S.get a.up=some b∧b.kind=1
 sd:∀a∈S.ns,∀x∈a.ay,∃b,S.get x.no=some b∧b.dev=a.dev
 mp:∀d∈S.ds,d.aC≠0→∃b,S.get d.aC=some b∧S.root b.dev≠b.no
theorem Sub.up{S S':Fs}(h:Sub S S'){k:Int}(hk:∃b,S.get k=some b∧b.kind=1):∃b,S'.get k=some b∧b.kind=1:=by
 obtain⟨b,hb,h1⟩:=hk;obtain⟨c,hc,e1,-⟩:=h _ _ hb;exact⟨c,hc,by rw[e1];exact h1⟩
theorem Sub.dev{S S':Fs}(h:Sub S S'){k d:Int}(hk:∃b,S.get k=some b∧b.dev=d):∃b,S'.get k=some b∧b.dev=d:=by
 obtain⟨b,hb,h1⟩:=hk;obtain⟨c,hc,-,-,e3,-⟩:=h _ _ hb;exact⟨c,hc,by rw[e3];exact h1⟩
theorem Sub.mp{S S':Fs}(h:Sub S S'){k:Int}(hk:∃b,S.get k=some b∧S.root b.dev≠b.no):∃b,S'.get k=some b∧S'.root b.dev≠b.no:=by
 obtain⟨b,hb,h1⟩:=hk;obtain⟨c,hc,-,-,e3,e4⟩:=h _ _ hb;refine⟨c,hc,?_⟩;rw[e3,e4,cj hc,←cj hb];exact h1
theorem Wy.set{S:Fs}(h:Wy S){a b:An}(hb:S.get a.no=some b)(hk:a.kind=b.kind)(hd:a.dev=b.dev)(hu:a.up=b.up)(hr:∀x∈a.ay,∃c,S.get x.no=some c∧c.dev=a.dev):Wy (S.set a):=by
 have hsub:Sub S (S.set a):=fun k c hc=>by
  rw[iM hb];by_cases hka:k=a.no
  ·rw[if_pos hka];rw[hka,hb] at hc;injection hc with hc;subst hc;exact⟨a,rfl,hk,hu,hd,rfl⟩
  ·rw[if_neg hka];exact⟨c,hc,rfl,rfl,rfl,rfl⟩
 refine⟨fun y hy hyk=>?_,fun y hy x hx=>?_,fun d oz ho=>hsub.mp (h.mp d oz ho)⟩
 ·unfold Fs.set at hy;simp only[List.mem_map] at hy;obtain⟨z,hz,rfl⟩:=hy
  split at hyk
  ·rename_i he;rw[if_pos he];have:=h.ud b (bD hb) (by rw[←hk];exact hyk);rw[←hu] at this;exact hsub.up this
  ·rename_i he;rw[if_neg he];exact hsub.up (h.ud z hz hyk)
 ·unfold Fs.set at hy;simp only[List.mem_map] at hy;obtain⟨z,hz,rfl⟩:=hy
  split at hx
  ·rename_i he;rw[if_pos he];exact hsub.dev (hr x hx)
  ·rename_i he;rw[if_neg he];exact hsub.dev (h.sd z hz x hx)
theorem Wy.bp{S:Fs}(h:Wy S){d:Int}{v u:Dv}(hv:S.dev d=some v)(hr:u.root=v.root)(ho:u.aC=v.aC):Wy (S.bp d u):=by
 have hsub:Sub S (S.bp d u):=fun k c hc=>⟨c,hc,rfl,rfl,rfl,kF hv hr _⟩;refine⟨h.ud,h.sd,fun e he h0=>?_⟩;have hvm:v∈S.ds:=by
  unfold Fs.dev at hv
  split at hv
  ·exact List.mem_of_getElem? hv
  ·cases hv
 unfold Fs.bp at he;rcases List.mem_or_eq_of_mem_set he with he|rfl
 ·exact hsub.mp (h.mp e he h0)
 ·rw[ho] at h0⊢;exact hsub.mp (h.mp v hvm h0)
theorem Wy.add{S:Fs}{N:Nat}(hk:ax S N)(h:Wy S){a:An}(he:a.ay=[])(hu:a.kind=1→∃b,S.get a.up=some b∧b.kind=1):Wy (S.add a):=by
 have hsub:=uC hk a;refine⟨fun y hy hyk=>?_,fun y hy x hx=>?_,fun d oz ho=>hsub.mp (h.mp d oz ho)⟩
 ·rcases List.mem_append.1 hy with hy|hy
  ·exact hsub.up (h.ud y hy hyk)
  ·simp at hy;subst hy;exact hsub.up (hu hyk)
 ·rcases List.mem_append.1 hy with hy|hy
  ·exact hsub.dev (h.sd y hy x hx)
  ·simp at hy;subst hy;rw[show({a with no:=S.last+1}:An).ay=a.ay from rfl,he] at hx
   cases hx
theorem Wy.aH{S:Fs}(hn:gR S)(hdev:∀a∈S.ns,a.dev≤S.ds.length)(h:Wy S)(k b n:Int)(h0:k≠0→∃b,S.get k=some b∧S.root b.dev≠b.no):Wy (S.aH k b n):=by
 have hsub:Sub S (S.aH k b n):=fun q c hq=>by
  refine⟨c,?_,rfl,rfl,rfl,nH S k b n (hdev c (bD hq))⟩;unfold Fs.get Fs.aH at *;simp only[List.find?_append,hq,Option.some_or]
 refine⟨fun y hy hyk=>?_,fun y hy x hx=>?_,fun d oz ho=>?_⟩
 ·rcases List.mem_append.1 hy with hy|hy
  ·exact hsub.up (h.ud y hy hyk)
  ·simp at hy;subst hy;exact⟨_,py hn k b n,rfl⟩
 ·rcases List.mem_append.1 hy with hy|hy
  ·exact hsub.dev (h.sd y hy x hx)
  ·simp at hy;subst hy;simp[cS] at hx
 ·unfold Fs.aH at oz;rcases List.mem_append.1 oz with oz|oz
  ·exact hsub.mp (h.mp d oz ho)
  ·simp at oz;subst oz;exact hsub.mp (h0 ho)
theorem Wy.new(b n:Int):Wy (p7.aH 0 b n):=
 Wy.aH ⟨List.Pairwise.nil,fun x hx=>by cases hx⟩ (fun x hx=>by cases hx) ⟨fun x hx=>(by cases hx),fun x hx=>(by cases hx),fun d hd=>(by cases hd)⟩ 0 b n (fun h=>absurd rfl h)
theorem Wy.make{S:Fs}{N:Nat}(hk:ax S N)(h:Wy S){a:An}(he:a.ay=[])(hu:a.kind=1→∃b,S.get a.up=some b∧b.kind=1):Wy (S.make a).1:=by
 unfold Fs.make
 split
 ·exact h
 ·split
  ·exact h
  ·rename_i v hv;simp only
   split
   ·have h2:=h.bp (u:={v with b:=v.b+cR a.kind a.data.size,n:=v.n+1}) hv rfl rfl;have ij:=hk.bp (u:={v with b:=v.b+cR a.kind a.data.size,n:=v.n+1}) hv rfl;exact h2.add ij he hu
   ·exact h
theorem Wy.bE{S:Fs}(h:Wy S)(now dir:Int)(l:List En)(hl:∀d,S.get dir=some d→∀x∈l,∃c,S.get x.no=some c∧c.dev=d.dev):Wy (S.bE now dir l):=by
 unfold Fs.bE
 split
 ·exact h
 ·rename_i d hd;exact h.set (b:=d) (by show S.get d.no=_;rw[cj hd];exact hd) rfl rfl rfl (hl d hd)
theorem Bj{S:Fs}{l:List En}{q:Int}(h:∀x∈l,∃c,S.get x.no=some c∧c.dev=q){s:ByteArray}{k:Int}(hk:∃c,S.get k=some c∧c.dev=q):∀x∈ct l s k,∃c,S.get x.no=some c∧c.dev=q:=by
 intro x hx;unfold ct at hx;rcases List.mem_append.1 hx with hx|hx
 ·exact h x (List.mem_filter.1 hx).1
 ·rcases List.mem_cons.1 hx with rfl|hx
  ·exact hk
  ·exact h x (List.mem_filter.1 hx).1
theorem Wy.cC{S:Fs}{N:Nat}(hk:ax S N)(ht:Tr S)(h:Wy S){a:An}(c:Cr)(now dir:Int)(s:ByteArray)(he:a.ay=[])(hu:a.kind=1→a.up=dir):Wy (S.cC c now dir s a).1:=by
 unfold Fs.cC
 split
 ·exact h
 ·rename_i hpl;obtain⟨d,hd,hdk,hce⟩:=eB (by simpa using hpl);rw[hd];simp only
  split
  ·exact h
  ·obtain⟨m1,m2,m3⟩:=ht.make hk (a:={a with dev:=d.dev,uid:=c.u,gid:=c.g,mtime:=now,ctime:=now,ao:=1}) he;have hm:=h.make hk (a:={a with dev:=d.dev,uid:=c.u,gid:=c.g,mtime:=now,ctime:=now,ao:=1}) he (fun hq=>⟨d,by rw[show({a with dev:=d.dev,uid:=c.u,gid:=c.g,mtime:=now,ctime:=now,ao:=1}:An).up=dir from hu hq];exact hd,hdk⟩)
   split
   ·exact h
   ·rename_i h0;obtain⟨e1,e2,e3⟩:=m3 (by simpa using h0);refine hm.bE _ _ _ fun d2 lJ=>?_;obtain⟨d3,vS,-,-,My,-⟩:=m2 _ _ hd;rw[lJ] at vS;injection vS with vS;subst vS;rw[e1,My];exact Bj (fun x hx=>m2.dev (h.sd d (bD hd) x hx)) ⟨_,e2,rfl⟩
theorem Wy.aO{S:Fs}{N:Nat}(hk:ax S N)(ht:Tr S)(h:Wy S)(c:Cr)(now dir:Int)(s:ByteArray)(m:Int):Wy (S.aO c now dir s m).1:=by
 unfold Fs.aO
 split
 ·exact h
 ·exact h.cC hk ht c now dir s rfl (fun _=>rfl)
theorem Wy.file{S:Fs}{N:Nat}(hk:ax S N)(ht:Tr S)(h:Wy S)(c:Cr)(now dir:Int)(s:ByteArray)(m:Int)(t:ByteArray):Wy (S.file c now dir s m t).1:=by
 unfold Fs.file
 split
 ·exact h
 ·split
  ·exact h
  ·exact h.cC hk ht c now dir s rfl (fun hq=>absurd hq (by dsimp only;decide))
theorem Wy.sym{S:Fs}{N:Nat}(hk:ax S N)(ht:Tr S)(h:Wy S)(c:Cr)(now dir:Int)(s t:ByteArray):Wy (S.sym c now dir s t).1:=by
 unfold Fs.sym
 split
 ·exact h
 ·split
  ·exact h
  ·exact h.cC hk ht c now dir s rfl (fun hq=>absurd hq (by dsimp only;decide))
theorem Wy.same{S:Fs}(h:Wy S){n m:An}(hn:S.get n.no=some n)(h0:m.no=n.no)(h1:m.kind=n.kind)(h2:m.dev=n.dev)(h3:m.up=n.up)(h4:m.ay=n.ay):Wy (S.set m):=
 h.set (b:=n) (by rw[h0];exact hn) h1 h2 h3 (by rw[h2,h4];exact h.sd n (bD hn))
theorem Wy.ez{S:Fs}(h:Wy S)(c:Cr)(now no dir:Int)(s:ByteArray):Wy (S.ez c now no dir s).1:=by
 unfold Fs.ez
 split
 ·exact h
 ·rename_i hpl;obtain⟨d0,oz,hdk,hce⟩:=eB (by simpa using hpl)
  split
  ·rename_i d n hd hn;rw[hd] at oz;injection oz with oz;subst oz
   split
   ·exact h
   ·rename_i hnk
    split
    ·exact h
    ·split
     ·exact h
     ·rename_i hdv
      split
      ·exact h
      ·have hs:=h.same (m:={n with ao:=n.ao+1,ctime:=now}) (eL hn) rfl rfl rfl rfl rfl;have hset:S.get ({n with ao:=n.ao+1,ctime:=now}:An).no=some n:=eL hn;have hno:=cj hn;have hsub:Sub S (S.set {n with ao:=n.ao+1,ctime:=now}):=fun k c hc=>by
        rw[iM hset]
        split
        ·rename_i hkn;rw[hkn,hset] at hc;injection hc with hc;subst hc;exact⟨_,rfl,rfl,rfl,rfl,rfl⟩
        ·exact⟨c,hc,rfl,rfl,rfl,rfl⟩
       refine hs.bE _ _ _ fun d2 lJ=>?_;obtain⟨d3,vS,-,-,My,-⟩:=hsub _ _ hd;rw[lJ] at vS;injection vS with vS;subst vS;rw[My];exact Bj (fun x hx=>hsub.dev (h.sd d (bD hd) x hx)) (hsub.dev ⟨n,hn,by simpa using hdv⟩)
  ·exact h
theorem Wy.bT{S:Fs}{N:Nat}(hk:ax S N)(h:Wy S)(k b n:Int):Wy (S.bT k b n).1:=by
 unfold Fs.bT
 split
 ·exact h
 ·rename_i a ha
  split
  ·exact h
  ·split
   ·exact h
   ·rename_i hr
    split
    ·exact h
    ·exact h.aH hk.nums (fun a ha=>(hk.all a ha).dev.2) k b n (fun _=>⟨a,ha,by rw[cj ha];exact fun e=>hr (.inr e)⟩)
theorem Wy.cw{S:Fs}(h:Wy S)(c:Cr)(now no m:Int):Wy (S.cw c now no m).1:=by
 unfold Fs.cw
 split
 ·exact h
 ·rename_i n hn
  split
  ·exact h
  ·split
   ·exact h
   ·exact h.same (eL hn) rfl rfl rfl rfl rfl
theorem Wy.cD{S:Fs}(h:Wy S)(c:Cr)(now no u g:Int):Wy (S.cD c now no u g).1:=by
 unfold Fs.cD
 split
 ·exact h
 ·rename_i n hn
  split
  ·exact h
  ·split
   ·exact h
   ·split
    ·exact h
    ·exact h.same (eL hn) rfl rfl rfl rfl rfl
theorem Wy.cA{S:Fs}(h:Wy S)(c:Cr)(now no t:Int):Wy (S.cA c now no t).1:=by
 unfold Fs.cA
 split
 ·exact h
 ·rename_i n hn
  split
  ·exact h
  ·split
   ·exact h
   ·exact h.same (eL hn) rfl rfl rfl rfl rfl
theorem Wy.bO{S:Fs}{N:Nat}(hk:ax S N)(ht:Tr S)(h:Wy S)(m:Mt):Wy (bO S m):=by
 unfold Go.Proofs.YtabbjaomlmnnhaaGreat.bO
 split
 ·exact h
 ·split
  ·have h1:=h.aO hk ht bM 0 (S.path bM m.path false).1.dir (S.path bM m.path false).1.name 493;have gD:=gN hk bM 0 (S.path bM m.path false).1.dir (S.path bM m.path false).1.name 493;simp only
   split
   ·exact h1
   ·exact h1.bT gD _ _ _
  ·exact h.bT hk _ _ _
theorem Wy.aQ{S:Fs}{N:Nat}(hk:ax S N)(ht:Tr S)(h:Wy S)(l:List Mt):Wy (aQ S l):=by
 induction l generalizing S N with
 |nil=>exact h
 |cons m l ih=>
  unfold Go.Proofs.YtabbjaomlmnnhaaGreat.aQ;by_cases hm:m.path=ks
  ·rw[if_pos hm];exact ih hk ht h
  ·rw[if_neg hm];exact ih (lB hk m) (ht.bO hk m) (h.bO hk ht m)
theorem Wy.bS{S:Fs}{N:Nat}(hk:ax S N)(ht:Tr S)(h:Wy S)(it:It):Wy (bS S it).1:=by
 unfold Go.Proofs.YtabbjaomlmnnhaaGreat.bS;simp only
 split
 ·exact h
 ·split
  ·split<;>exact h
  ·split
   ·exact h.aO hk ht _ _ _ _ _
   ·split
    ·exact h.file hk ht _ _ _ _ _ _
    ·split
     ·exact h.sym hk ht _ _ _ _ _
     ·split
      ·split
       ·exact h.ez _ _ _ _ _
       ·exact h
      ·exact h
theorem Wy.dQ{S:Fs}{N:Nat}(hk:ax S N)(ht:Tr S)(h:Wy S)(it:It):Wy (dQ S it).1:=by
 unfold Go.Proofs.YtabbjaomlmnnhaaGreat.dQ;have h1:=h.bS hk ht it;simp only
 split
 ·exact(h1.cD _ _ _ _ _).cw _ _ _ _
 ·exact h1
theorem Wy.aY{S:Fs}{N:Nat}(hk:ax S N)(ht:Tr S)(h:Wy S)(l:List It):Wy (aY S l).1:=by
 induction l generalizing S N with
 |nil=>exact h
 |cons x l ih=>exact ih (ow hk x) (ht.dQ hk x) (h.dQ hk ht x)
theorem Wy.bN{S:Fs}(h:Wy S)(l:List (It×Int)):Wy (bN S l):=by
 induction l generalizing S with
 |nil=>exact h
 |cons x l ih=>
  unfold Go.Proofs.YtabbjaomlmnnhaaGreat.bN;refine ih ?_
  split
  ·exact h.cA _ _ _ _
  ·exact h
theorem E5(ms:List Mt)(is:List It):Wy (cU ms is):=by
 unfold cU;simp only;have hk:=ax.new (aU ms).1 (aU ms).2;exact Wy.bN (Wy.aY (fe hk ms) (Tr.aQ hk (Tr.new _ _) ms) (Wy.aQ hk (Tr.new _ _) (Wy.new _ _) ms) is) _
end
section
open Go.RowKit
def J2(n:Int):List UInt8:=if n<2 then[] else 46::js n
def Fe(base:ByteArray)(n:Int):ByteArray:=base.extract 0 (min base.size (245-(J2 n).length))++str (J2 n)
end
end Go.Proofs.YtabbjaomlmnnhaaGreat
