import Derived.Laws.BytesArg
import Derived.Deep.CutBlock
import Derived.Deep.DeepCutAuto
import Derived.RegionTactic
import Derived.BigRegion
import Derived.OrdersHeld
import Derived.Deep.RegionHeld3
import Derived.Test.YtinflmadpnigfaaGreatDoorDY16
import Derived.Test.YtinflmadpnigfaaGreatDoorDY2
import Derived.Test.YtinflmadpnigfaaGreatDoorDY13
import Derived.Test.YtinflmadpnigfaaGreatDoorDY1
set_option linter.unusedVariables false
set_option linter.unusedSimpArgs false
set_option maxRecDepth 100000
set_option maxHeartbeats 16000000
namespace Go.Proofs.YtinflmadpnigfaaGreatDoor
section
open Go.RowKit
theorem xp{l:Bool}{g:List Nt×UInt8}(h:g.1.all dZ=false):j4 l g=false:=by unfold j4;rw[h];simp
theorem ux{l:Bool}{g:List Nt×UInt8}(h:g.1=[]):j4 l g=false:=by unfold j4;rw[h];simp
theorem uy{l:Bool}{g:List Nt×UInt8}(h:g.1.all dZ=true)(h0:g.1≠[]):j4 l g=(decide (g.2.toNat=101)||(l&&(decide (g.2.toNat=0)||decide (g.2.toNat=100)||decide (g.2.toNat=117)))):=by
 unfold j4;have:g.1.isEmpty=false:=by simpa using h0
 rw[h,this];simp
theorem nC(a b:Int)(h:a=b):(a==b)=true∧(a != b)=false:=by subst h;simp
theorem nB(a b:Int)(h:a≠b):(a==b)=false∧(a != b)=true:=by simp[h]
theorem xq(f:UInt8)(k n:Nat)(hk:k<n) :
  ((((f.toNat:Int)==101)=true∧((f.toNat:Int) != 101)=false)∧(decide (f.toNat=101)||(decide (k+1=n)&&(decide (f.toNat=0)||decide (f.toNat=100)||decide (f.toNat=117))))=true)∨
  ((((f.toNat:Int)==101)=false∧((f.toNat:Int) != 101)=true)∧(k:Int)<n-1∧(decide (f.toNat=101)||(decide (k+1=n)&&(decide (f.toNat=0)||decide (f.toNat=100)||decide (f.toNat=117))))=false)∨
  ((((f.toNat:Int)==101)=false∧((f.toNat:Int) != 101)=true)∧¬(k:Int)<n-1∧((f.toNat:Int) != 0)=false∧(decide (f.toNat=101)||(decide (k+1=n)&&(decide (f.toNat=0)||decide (f.toNat=100)||decide (f.toNat=117))))=true)∨
  ((((f.toNat:Int)==101)=false∧((f.toNat:Int) != 101)=true)∧¬(k:Int)<n-1∧((f.toNat:Int) != 0)=true∧((f.toNat:Int) != 100)=false∧(decide (f.toNat=101)||(decide (k+1=n)&&(decide (f.toNat=0)||decide (f.toNat=100)||decide (f.toNat=117))))=true)∨
  ((((f.toNat:Int)==101)=false∧((f.toNat:Int) != 101)=true)∧¬(k:Int)<n-1∧((f.toNat:Int) != 0)=true∧((f.toNat:Int) != 100)=true∧((f.toNat:Int) != 117)=false∧(decide (f.toNat=101)||(decide (k+1=n)&&(decide (f.toNat=0)||decide (f.toNat=100)||decide (f.toNat=117))))=true)∨
  ((((f.toNat:Int)==101)=false∧((f.toNat:Int) != 101)=true)∧¬(k:Int)<n-1∧((f.toNat:Int) != 0)=true∧((f.toNat:Int) != 100)=true∧((f.toNat:Int) != 117)=true∧(decide (f.toNat=101)||(decide (k+1=n)&&(decide (f.toNat=0)||decide (f.toNat=100)||decide (f.toNat=117))))=false):=by
 have e:∀c:Int,((f.toNat:Int)==c)=decide ((f.toNat:Int)=c):=fun c=>by rw[Bool.eq_iff_iff];simp
 simp only[bne,e,Bool.not_eq_true',Bool.not_eq_false',decide_eq_true_eq,decide_eq_false_iff_not,Bool.or_eq_true,Bool.or_eq_false_iff,Bool.and_eq_true,Bool.and_eq_false_iff];by_cases h1:f.toNat=101
 ·left;omega
 ·by_cases h2:k+1=n
  ·by_cases h3:f.toNat=0
   ·right;right;left;omega
   ·by_cases h4:f.toNat=100
    ·right;right;right;left;omega
    ·by_cases h5:f.toNat=117
     ·right;right;right;right;left;omega
     ·right;right;right;right;right;omega
  ·right;left;omega
theorem nN(a:Option Addr)(c:Nat)(gs:List Gr)(w:World)(hG:j0 w a c gs)(hO:rv gs) :
  Calls Tryz.prog 23 #[.slice a gs.length c] w fun e w'=>e=.returned (.bool (bU (gs.map Gr.p)))∧Up w w':=by
 have HG:=Um hG;have HO:=Um hO;clear hO;have hlen:gs.length≤9223372036854775807:=ae hG.sl.2.1 hG.sl.2.2.1;clear hG;go_enter Tryz.func23,Tryz.ntmps23;go_wp2_with fail
 go_loopw [9] (fun t9 wr=>∃(k:Nat),k≤gs.length∧t9=.int .i64 k∧bU (gs.map Gr.p)=bU ((gs.drop k).map Gr.p)∧Up w wr) (fun t9 _=>gs.length-(intOf t9).toNat)
 case atStart=>exact⟨0,Nat.zero_le _,rfl,rfl,Below.refl _ _⟩
 case round=>
  obtain⟨k,hk,rfl,hfin,hW⟩:=hrel;have HF:=Um hfin;have HW:=Um hW;clear hfin;by_cases hlt:k<gs.length
  ·have km:=HG.o.below hW (aa _);obtain⟨b,off,rfl⟩:=km.addr (by omega);obtain⟨c0,c1,cl⟩:=km.cells k hlt;have hA:=km.at' gs[k] (List.getElem_mem _);have vo:=Um (HO.o gs[k] (List.getElem_mem _));have HS:=Um (xo gs k hlt);have Hlast:=Um (show decide (k+1=gs.length)=decide (k+1=gs.length) from rfl);generalize gs[k]=g at c0 c1 hA vo HS;have hB:=au.new wr #[.slice g.a g.notes.length g.c,.int .u8 g.fin.toNat] 45;have hn:g.notes.length≤9223372036854775807:=ae hA.2.1 hA.2.2.1;have HA:=Um hA;have HB:=Um hB;clear km hA hB hW;go_wp2_with fail
   go_loopw [17] (fun t17 w2=>∃(j:Nat),j≤g.notes.length∧t17=.int .i64 j∧g.notes.all dZ=(g.notes.drop j).all dZ∧au w2 wr.heap.size #[.slice g.a g.notes.length g.c,.int .u8 g.fin.toNat] 45∧Up wr w2) (fun t17 _=>g.notes.length-(intOf t17).toNat)
   case atStart=>exact⟨0,Nat.zero_le _,rfl,rfl,HB.o,al (Below.refl _ _) _⟩
   case round=>
    obtain⟨j,hj,rfl,hall,eM,nF⟩:=hrel;have jZ:=Um hall;have cV:=Um eM;have jc:=Um nF;clear hall;by_cases hjl:j<g.notes.length
    ·have jk:=HA.o.below nF (aa _);obtain⟨nb,no,hna⟩:=jk.addr (by omega);obtain⟨d0,d1,d2,d3,d4,dl⟩:=jk.cells hna j hjl;have gM:=Um (vo.out g.notes[j] (List.getElem_mem _));have gr:=Um (BP g.notes j hjl);generalize g.notes[j]=x at d0 d1 d2 d3 d4 gM gr;clear jk nF eM;rw[hna];go_wp2_with fail;refine(Eu x _ gM.o).mono ?_
     cases hm:dZ x
     ·rintro e w3 ⟨rfl,bJ⟩;have HM:=Um hm;clear hm;go_wp2_with fail;go_ret;refine⟨aZ ?_,ao HW.o (ao jc.o (ao (al (Below.refl _ _) _) bJ))⟩;rw[HF.o,HS.o,xp (show g.p.1.all dZ=false by show g.notes.all dZ=false;rw[jZ.o,gr.o,HM.o];rfl)];rfl
     ·rintro e w3 ⟨rfl,bJ⟩;have HM:=Um hm;clear hm;go_wp2_with fail;go_roundw
      case measure=>simp[intOf];omega
      case rel=>exact⟨j+1,by omega,by go_num,by rw[jZ.o,gr.o,HM.o];rfl,by rw[←hna];exact(cV.o.eE _).ak bJ,ao jc.o (ao (al (Below.refl _ _) _) bJ)⟩
    ·obtain rfl:j=g.notes.length:=by omega
     have Lf:=Um (show g.p.1.all dZ=true by show g.notes.all dZ=true;rw[jZ.o];simp);obtain⟨q0,qf,ql⟩:=eM.facts;have Hq:=Um (ao HW.o jc.o);clear nF eM jc jZ;by_cases hz:g.notes.length=0
     ·have hzb:=(nC (g.notes.length:Int) 0 (by omega)).1;have HZ:=Um (show g.p.1=[] from List.eq_nil_of_length_eq_zero hz);clear hz;go_wp2_with fail;go_ret;refine⟨aZ ?_,Hq.o⟩;rw[HF.o,HS.o,ux HZ.o];rfl
     ·have hzb:=(nB (g.notes.length:Int) 0 (by omega)).1;have HZ:=Um (show g.p.1≠[] from fun e=>hz (by have e:g.notes=[]:=e;rw[e];rfl));clear hz;have T3:=Um (uy (l:=decide (k+1=gs.length)) Lf.o HZ.o);have hwr:IntKind.i64.wrap ((gs.length:Int)-1)=(gs.length:Int)-1:=by simp[IntKind.wrap,IntKind.bits,IntKind.signed];omega
      rcases xq g.fin k gs.length hlt with⟨⟨e1,e2⟩,hr⟩|⟨⟨e1,e2⟩,e3,hr⟩|⟨⟨e1,e2⟩,e3,e4,hr⟩|⟨⟨e1,e2⟩,e3,e4,e5,hr⟩|⟨⟨e1,e2⟩,e3,e4,e5,e6,hr⟩|⟨⟨e1,e2⟩,e3,e4,e5,e6,hr⟩
      all_goals
       have HR:=Um (show j4 (decide (k+1=gs.length)) g.p=_ from T3.o.trans hr);clear hr T3;go_wp2_with fail
       first
       |(go_ret
         refine⟨aZ ?_,Hq.o⟩;rw[HF.o,HS.o,HR.o];rfl)
       |(go_roundw
         case measure=>simp[intOf];omega
         case rel=>exact⟨k+1,by omega,by go_num,by rw[HF.o,HS.o,HR.o];rfl,Hq.o⟩)
  ·obtain rfl:k=gs.length:=by omega
   go_wp2_with fail;go_ret;exact⟨aZ (by rw[HF.o,Bu]),HW.o⟩
end
section
open Go.RowKit
theorem uH(a:Option Addr)(c:Nat)(gs:List Gr)(w:World)(hG:j0 w a c gs)(hO:rv gs) :
  Calls Tryz.prog 31 #[.slice a gs.length c] w fun e w'=>e=.returned (.bool (bU (gs.map Gr.p)))∧Up w w':=by
 have HG:=Um hG;have HO:=Um hO;clear hO;have hlen:gs.length≤9223372036854775807:=ae hG.sl.2.1 hG.sl.2.2.1;clear hG;go_enter Tryz.func31,Tryz.ntmps31;go_wp2_with fail
 go_loopw [3] (fun t9 wr=>∃(k:Nat),k≤gs.length∧t9=.int .i64 k∧bU (gs.map Gr.p)=bU ((gs.drop k).map Gr.p)∧Up w wr) (fun t9 _=>gs.length-(intOf t9).toNat)
 case atStart=>exact⟨0,Nat.zero_le _,rfl,rfl,Below.refl _ _⟩
 case round=>
  obtain⟨k,hk,rfl,hfin,hW⟩:=hrel;have HF:=Um hfin;have HW:=Um hW;clear hfin;by_cases hlt:k<gs.length
  ·have km:=HG.o.below hW (aa _);obtain⟨b,off,rfl⟩:=km.addr (by omega);obtain⟨c0,c1,cl⟩:=km.cells k hlt;have L4:=Um km;have hA:=km.at' gs[k] (List.getElem_mem _);have vo:=Um (HO.o gs[k] (List.getElem_mem _));have HS:=Um (xo gs k hlt);have HC:=Um (fun W (h:j0 W (some ⟨b,off,none⟩) c gs)=>h.cells k hlt);generalize gs[k]=g at c0 c1 hA vo HS HC;have hn:g.notes.length≤9223372036854775807:=ae hA.2.1 hA.2.2.1;have HA:=Um hA;clear km hA hW;by_cases hz:g.notes.length=0
   ·have hzb:=(nC (g.notes.length:Int) 0 (by omega)).1;have HZ:=Um (show g.p.1=[] from List.eq_nil_of_length_eq_zero hz);clear hz;go_wp2_with fail;go_ret;refine⟨aZ ?_,HW.o⟩;rw[HF.o,HS.o,ux HZ.o];rfl
   ·have hzb:=(nB (g.notes.length:Int) 0 (by omega)).1;have HZ:=Um (show g.p.1≠[] from fun e=>hz (by have e:g.notes=[]:=e;rw[e];rfl));clear hz;go_wp2_with fail;clear c0 c1 cl
    go_loopw [4] (fun t17 w2=>∃(j:Nat),j≤g.notes.length∧t17=.int .i64 j∧g.notes.all dZ=(g.notes.drop j).all dZ∧Up wr w2) (fun t17 _=>g.notes.length-(intOf t17).toNat)
    case atStart=>exact⟨0,Nat.zero_le _,rfl,rfl,Below.refl _ _⟩
    case round=>
     obtain⟨j,hj,rfl,hall,nF⟩:=hrel;have jZ:=Um hall;have jc:=Um nF;clear hall;obtain⟨c0,c1,cl⟩:=HC.o _ (L4.o.below nF (aa _));have jk:=HA.o.below nF (aa _);by_cases hjl:j<g.notes.length
     ·obtain⟨nb,no,hna⟩:=jk.addr (by omega);obtain⟨d0,d1,d2,d3,d4,dl⟩:=jk.cells hna j hjl;have gM:=Um (vo.out g.notes[j] (List.getElem_mem _));have gr:=Um (BP g.notes j hjl);generalize g.notes[j]=x at d0 d1 d2 d3 d4 gM gr;clear jk nF;rw[hna] at c0;clear hna;go_wp2_with fail;refine(I7 x _ gM.o).mono ?_
      cases hm:dZ x
      ·rintro e w3 ⟨rfl,bJ⟩;have HM:=Um hm;clear hm;go_wp2_with fail;go_ret;refine⟨aZ ?_,ao HW.o (ao jc.o bJ)⟩;rw[HF.o,HS.o,xp (show g.p.1.all dZ=false by show g.notes.all dZ=false;rw[jZ.o,gr.o,HM.o];rfl)];rfl
      ·rintro e w3 ⟨rfl,bJ⟩;have HM:=Um hm;clear hm;go_wp2_with fail;go_roundw
       case measure=>simp[intOf];omega
       case rel=>exact⟨j+1,by omega,by go_num,by rw[jZ.o,gr.o,HM.o];rfl,ao jc.o bJ⟩
     ·obtain rfl:j=g.notes.length:=by omega
      have Lf:=Um (show g.p.1.all dZ=true by show g.notes.all dZ=true;rw[jZ.o];simp);have Hq:=Um (ao HW.o jc.o);have T3:=Um (uy (l:=decide (k+1=gs.length)) Lf.o HZ.o);have hwr:IntKind.i64.wrap ((gs.length:Int)-1)=(gs.length:Int)-1:=by simp[IntKind.wrap,IntKind.bits,IntKind.signed];omega
      clear nF jk jc jZ;rcases xq g.fin k gs.length hlt with⟨⟨e1,e2⟩,hr⟩|⟨⟨e1,e2⟩,e3,hr⟩|⟨⟨e1,e2⟩,e3,e4,hr⟩|⟨⟨e1,e2⟩,e3,e4,e5,hr⟩|⟨⟨e1,e2⟩,e3,e4,e5,e6,hr⟩|⟨⟨e1,e2⟩,e3,e4,e5,e6,hr⟩
      all_goals
       have HR:=Um (show j4 (decide (k+1=gs.length)) g.p=_ from T3.o.trans hr);clear hr T3;go_wp2_with fail
       first
       |(go_ret
         refine⟨aZ ?_,Hq.o⟩;rw[HF.o,HS.o,HR.o];rfl)
       |(go_roundw
         case measure=>simp[intOf];omega
         case rel=>exact⟨k+1,by omega,by go_num,by rw[HF.o,HS.o,HR.o];rfl,Hq.o⟩)
  ·obtain rfl:k=gs.length:=by omega
   go_wp2_with fail;go_ret;exact⟨aZ (by rw[HF.o,Bu]),HW.o⟩
end
section
open Go.RowKit
def bx(s:ByteArray):List UInt8:=if s.size=0 then[] else 32::dC s.data.toList
def dU(x:Nt):List UInt8:=x.kind::32::(cG x.no++(bx x.src++(bx x.dst++(bx x.tmp++[10]))))
def iG(f:UInt8):List UInt8:=if f.toNat=0 then[] else[f,10]
def fq(g:List Nt×UInt8):List UInt8:=103::10::(g.1.flatMap dU++iG g.2)
def aI(gs:List (List Nt×UInt8)):List UInt8:=gs.flatMap fq
def ca(gs:List (List Nt×UInt8)):List UInt8:=if bU gs then aI gs else[]
theorem vQ(gs:List Gr)(k:Nat)(hk:k<gs.length):aI ((gs.drop k).map Gr.p)=103::10::(gs[k].notes.flatMap dU++(iG gs[k].fin++aI ((gs.drop (k+1)).map Gr.p))):=by
 rw[List.drop_eq_getElem_cons hk,List.map_cons];simp[aI,fq,Gr.p]
theorem zO(gs:List Gr):aI ((gs.drop gs.length).map Gr.p)=[]:=by simp[aI]
theorem ub(xs:List Nt)(k:Nat)(hk:k<xs.length):(xs.drop k).flatMap dU=dU xs[k]++(xs.drop (k+1)).flatMap dU:=by
 rw[List.drop_eq_getElem_cons hk,List.flatMap_cons]
theorem GW{l:Bool}{g:List Nt×UInt8}(h:j4 l g=true):g.1.all dZ=true∧g.1≠[]∧(g.2.toNat=101∨g.2.toNat=0∨g.2.toNat=100∨g.2.toNat=117):=by
 unfold j4 at h;simp only[Bool.and_eq_true,Bool.or_eq_true,Bool.not_eq_true',decide_eq_true_eq] at h;obtain⟨⟨h1,h2⟩,h3⟩:=h;refine⟨h1,fun e=>by rw[e] at h2;simp at h2,?_⟩;omega
theorem eW:∀{gs:List (List Nt×UInt8)},bU gs=true→∀g∈gs,g.1.all dZ=true∧g.1≠[]∧(g.2.toNat=101∨g.2.toNat=0∨g.2.toNat=100∨g.2.toNat=117)
 | [],_,g,hg=>by simp at hg
 |x::gs,h,g,hg=>by
  have h':(j4 gs.isEmpty x&&bU gs)=true:=h;rw[Bool.and_eq_true] at h';rcases List.mem_cons.1 hg with rfl|hg
  ·exact GW h'.1
  ·exact eW h'.2 g hg
theorem AR{x:Nt}(h:dZ x=true):x.kind.toNat=109∨x.kind.toNat=99∨x.kind.toNat=120:=by
 unfold dZ at h
 split at h
 ·left;assumption
 ·split at h
  ·right;left;assumption
  ·right;right;simp only[Bool.and_eq_true,decide_eq_true_eq] at h;exact h.1.1.1.1
end
section
open Go.RowKit
def A'(c:UInt8):Int:=if dP c=-1 then 16 else dP c
def BH(j:Nat):Nat:=if j<10 then 48+j else 87+j
theorem Ni(c:UInt8):dP c=if 48≤c.toNat∧c.toNat≤57 then(c.toNat:Int)-48 else if 97≤c.toNat∧c.toNat≤102 then(c.toNat:Int)-87 else if 65≤c.toNat∧c.toNat≤70 then(c.toNat:Int)-55 else -1:=by
 unfold dP;simp only[IF];rfl
theorem jH(c:UInt8):(48≤c.toNat∧c.toNat≤57∧dP c=(c.toNat:Int)-48)∨(97≤c.toNat∧c.toNat≤102∧dP c=(c.toNat:Int)-87)∨(65≤c.toNat∧c.toNat≤70∧dP c=(c.toNat:Int)-55)∨
  (dP c=-1∧¬(48≤c.toNat∧c.toNat≤57)∧¬(97≤c.toNat∧c.toNat≤102)∧¬(65≤c.toNat∧c.toNat≤70)):=by
 rw[Ni]
 (repeat' split)<;>omega
theorem oK(r:Nat)(h:r<16)(hb:r<(ByteArray.mk #[48,49,50,51,52,53,54,55,56,57,97,98,99,100,101,102]).size):((ByteArray.mk #[48,49,50,51,52,53,54,55,56,57,97,98,99,100,101,102])[r]'hb).toNat=BH r:=by
 match r,h with
 |0,_=>rfl
 |1,_=>rfl
 |2,_=>rfl
 |3,_=>rfl
 |4,_=>rfl
 |5,_=>rfl
 |6,_=>rfl
 |7,_=>rfl
 |8,_=>rfl
 |9,_=>rfl
 |10,_=>rfl
 |11,_=>rfl
 |12,_=>rfl
 |13,_=>rfl
 |14,_=>rfl
 |15,_=>rfl
 |r+16,h=>exact absurd h (by omega)
theorem Du(c:UInt8)(m k:Nat)(hm:m=if 65≤c.toNat∧c.toNat≤70 then c.toNat+32 else c.toNat)(hk:k<16)(h:BH k=m):A' c=k:=by
 have hv:=jH c;unfold A';unfold BH at h
 split at hm<;>split at h<;>split<;>omega
theorem GI(c:UInt8)(m:Nat)(hm:m=if 65≤c.toNat∧c.toNat≤70 then c.toNat+32 else c.toNat)(h:∀k,k<16→BH k≠m):A' c=16:=by
 have hv:=jH c;unfold A'
 split
 ·rfl
 ·exfalso;have h1:=h (dP c).toNat (by omega);unfold BH at h1
  split at hm<;>split at h1<;>omega
theorem tE(c:UInt8)(w:World) :
  Calls Tryz.prog 231 #[.int .u8 c.toNat] w fun e w'=>e=.returned (.int .i64 (A' c))∧w=w':=by
 have hc:=o8 c;have HF:=Um (Du c);have HN:=Um (GI c);generalize c.toNat=n at hc HF HN⊢;obtain⟨m,hm⟩:∃m,m=if 65≤n∧n≤70 then n+32 else n:=⟨_,rfl⟩;have Hm:=Um hm;rcases(show(65≤n∧n≤70∧m=n+32)∨(¬(65≤n∧n≤70)∧m=n) by rw[hm];split<;>omega) with⟨h6,h7,h8⟩|⟨h6,h8⟩
 ·clear hm;have H8:=Um h8;clear h8;go_enter Tryz.func231,Tryz.ntmps231;go_wp2_with fail
  go_loop [4] (fun t4=>∃k:Nat,k≤16∧t4=.int .i64 k∧∀j,j<k→BH j≠m) (fun t4=>16-(intOf t4).toNat)
  case atStart=>exact⟨0,by omega,rfl,fun j h=>absurd h (Nat.not_lt_zero _)⟩
  case round=>
   obtain⟨k,hk,rfl,hn⟩:=hrel;have Hn:=Um hn;clear hn;by_cases hlt:k<16
   ·have hx:=oK k hlt (by simpa [ByteArray.size] using hlt);by_cases he:BH k=m
    ·have HE:=Um he;have zm:((BH k:Int)==(n:Int)+32)=true:=by
      rw[he,H8.o];simp
     clear he;go_wp2_with fail;go_ret;exact⟨iy (by rw[HF.o m k Hm.o hlt HE.o]),rfl⟩
    ·have HE:=Um he;have zm:((BH k:Int)==(n:Int)+32)=false:=by
      simp only[beq_eq_false_iff_ne,ne_eq];intro h;exact he (by have:=H8.o;omega)
     clear he;go_wp2_with fail
     go_round
     case measure=>simp[intOf];omega
     case rel=>
      refine⟨k+1,by omega,by go_num,fun j hj=>?_⟩;by_cases e:j=k
      ·subst e;exact HE.o
      ·exact Hn.o j (by omega)
   ·obtain rfl:k=16:=by omega
    go_wp2_with fail;go_ret;exact⟨iy (by rw[HN.o m Hm.o Hn.o]),rfl⟩
 ·clear hm;have H8:=Um h8;clear h8;by_cases h7:65≤n
  ·have h9:70<n:=by omega
   clear h6;go_enter Tryz.func231,Tryz.ntmps231;go_wp2_with fail
   go_loop [4] (fun t4=>∃k:Nat,k≤16∧t4=.int .i64 k∧∀j,j<k→BH j≠m) (fun t4=>16-(intOf t4).toNat)
   case atStart=>exact⟨0,by omega,rfl,fun j h=>absurd h (Nat.not_lt_zero _)⟩
   case round=>
    obtain⟨k,hk,rfl,hn⟩:=hrel;have Hn:=Um hn;clear hn;by_cases hlt:k<16
    ·have hx:=oK k hlt (by simpa [ByteArray.size] using hlt);by_cases he:BH k=m
     ·have HE:=Um he;have zm:((BH k:Int)==(n:Int))=true:=by
       rw[he,H8.o];simp
      clear he;go_wp2_with fail;go_ret;exact⟨iy (by rw[HF.o m k Hm.o hlt HE.o]),rfl⟩
     ·have HE:=Um he;have zm:((BH k:Int)==(n:Int))=false:=by
       simp only[beq_eq_false_iff_ne,ne_eq];intro h;exact he (by have:=H8.o;omega)
      clear he;go_wp2_with fail
      go_round
      case measure=>simp[intOf];omega
      case rel=>
       refine⟨k+1,by omega,by go_num,fun j hj=>?_⟩;by_cases e:j=k
       ·subst e;exact HE.o
       ·exact Hn.o j (by omega)
    ·obtain rfl:k=16:=by omega
     go_wp2_with fail;go_ret;exact⟨iy (by rw[HN.o m Hm.o Hn.o]),rfl⟩
  ·have h9:n<65:=by omega
   clear h6 h7;go_enter Tryz.func231,Tryz.ntmps231;go_wp2_with fail
   go_loop [4] (fun t4=>∃k:Nat,k≤16∧t4=.int .i64 k∧∀j,j<k→BH j≠m) (fun t4=>16-(intOf t4).toNat)
   case atStart=>exact⟨0,by omega,rfl,fun j h=>absurd h (Nat.not_lt_zero _)⟩
   case round=>
    obtain⟨k,hk,rfl,hn⟩:=hrel;have Hn:=Um hn;clear hn;by_cases hlt:k<16
    ·have hx:=oK k hlt (by simpa [ByteArray.size] using hlt);by_cases he:BH k=m
     ·have HE:=Um he;have zm:((BH k:Int)==(n:Int))=true:=by
       rw[he,H8.o];simp
      clear he;go_wp2_with fail;go_ret;exact⟨iy (by rw[HF.o m k Hm.o hlt HE.o]),rfl⟩
     ·have HE:=Um he;have zm:((BH k:Int)==(n:Int))=false:=by
       simp only[beq_eq_false_iff_ne,ne_eq];intro h;exact he (by have:=H8.o;omega)
      clear he;go_wp2_with fail
      go_round
      case measure=>simp[intOf];omega
      case rel=>
       refine⟨k+1,by omega,by go_num,fun j hj=>?_⟩;by_cases e:j=k
       ·subst e;exact HE.o
       ·exact Hn.o j (by omega)
    ·obtain rfl:k=16:=by omega
     go_wp2_with fail;go_ret;exact⟨iy (by rw[HN.o m Hm.o Hn.o]),rfl⟩
end
section
open Go.RowKit
def cF:List UInt8→Option (List UInt8)
 | []=>some []
 |c::l=>if c≠37 then(cF l).map (c :: ·) else match l with
  |a::b::r=>if dP a=-1∨dP b=-1 then none else(cF r).map (UInt8.ofNat (16*dP a+dP b).toNat :: ·)
  |_=>none
theorem ly{c:UInt8}(h:c≠37)(l:List UInt8):cF (c::l)=(cF l).map (c :: ·):=by
 rcases l with _|⟨a,_|⟨b,r⟩⟩<;>simp[cF,h]
theorem p6(a b:UInt8)(r:List UInt8):cF (37::a::b::r)=if dP a=-1∨dP b=-1 then none else(cF r).map (UInt8.ofNat (16*dP a+dP b).toNat :: ·):=by simp[cF]
theorem BI(a:UInt8):cF [37,a]=none:=by simp[cF]
theorem xu:cF [37]=none:=by simp[cF]
def jb(s:ByteArray)(i:Nat)(o:List UInt8):Prop:=cF s.data.toList=(cF (s.data.toList.drop i)).map (o ++ ·)
theorem rY(s:ByteArray):jb s 0 []:=by unfold jb;simp
theorem gK(s:ByteArray)(i:Nat)(h:i<s.size):s.data.toList.drop i=s[i]::s.data.toList.drop (i+1):=by
 rw[List.drop_eq_getElem_cons (by simpa using h)];rfl
theorem xw{s:ByteArray}{o:List UInt8}(h:jb s s.size o):cF s.data.toList=some o:=by
 unfold jb at h;rw[h,List.drop_of_length_le (show s.data.toList.length≤s.size from Nat.le_of_eq Array.length_toList)];simp[cF]
theorem r9{s:ByteArray}{i:Nat}{o:List UInt8}(h:jb s i o)(hi:i<s.size)(hc:s[i]≠37):jb s (i+1) (o++[s[i]]):=by
 unfold jb at h⊢;rw[h,gK s i hi,ly hc]
 cases cF (s.data.toList.drop (i+1))<;>simp
theorem rZ{s:ByteArray}{i:Nat}{o:List UInt8}(h:jb s i o)(hi:i<s.size)(hc:s[i]=37)(hs:s.size<i+3):cF s.data.toList=none:=by
 unfold jb at h;rw[h,gK s i hi,hc];rcases hd:s.data.toList.drop (i+1) with _|⟨a,_|⟨b,r⟩⟩
 ·rw[xu];rfl
 ·rw[BI];rfl
 ·exfalso;have:=congrArg List.length hd;rw[List.length_drop,show s.data.toList.length=s.size from Array.length_toList] at this;simp at this;omega
theorem xx{s:ByteArray}{i:Nat}{o:List UInt8}(h:jb s i o)(hi:i+2<s.size)(hc:s[i]=37)(hs:dP s[i+1]=-1∨dP s[i+2]=-1):cF s.data.toList=none:=by
 unfold jb at h;rw[h,gK s i (by omega),gK s (i+1) (by omega),gK s (i+2) hi,hc,p6,if_pos hs];rfl
theorem xv{s:ByteArray}{i:Nat}{o:List UInt8}(h:jb s i o)(hi:i+2<s.size)(hc:s[i]=37)(h1:dP s[i+1]≠-1)(h2:dP s[i+2]≠-1) :
  jb s (i+3) (o++[UInt8.ofNat (16*dP s[i+1]+dP s[i+2]).toNat]):=by
 unfold jb at h⊢;rw[h,gK s i (by omega),gK s (i+1) (by omega),gK s (i+2) hi,hc,p6,if_neg (by rintro(e|e);exact h1 e;exact h2 e)]
 cases cF (s.data.toList.drop (i+2+1))<;>simp
def OB(w:World)(base:Nat)(v:Value)(l:List UInt8):Prop:=w.ownsRow base 5 1 v l.length (Lib.byteCells l)
theorem JY:(Tryz.prog.info? 5).map (fun i=>(i.zero,i.size,i.bytes))=some (some (.int .u8 0),1,1):=by kernel_rfl
theorem OB.app{w:World}{base:Nat}{v:Value}{l:List UInt8}(h:OB w base v l)(c:UInt8)(hl:l.length≤1000000000)(hb:base≤w.heap.size) :
  ∃g cap W,(Builtin.append_ #[121,121] 121 #[v,.slice (some ⟨w.heap.size,0,none⟩) 1 1]).run Tryz.prog (w.alloc (.cells #[.int .u8 c.toNat] 5))=.ok (.slice (some ⟨g,0,none⟩) (l.length+1) cap) W∧
   OB W base (.slice (some ⟨g,0,none⟩) (l.length+1) cap) (l++[c])∧Below base w W:=by
 obtain⟨i0,hi,iU,gx,fT⟩:=info_parts JY;have ho:=World.ownsRow.alloc h (.cells #[.int .u8 c.toNat] 5);obtain⟨g,cap,W,h1,h2,h3,h4⟩:=cX 121 Tryz.underlying121 hi iU gx fT rfl (by omega) ho ⟨w.heap.size,0,none⟩ 1 1 [.int .u8 c.toNat] rfl (World.news_of_block (au.new w #[.int .u8 c.toNat] 5)) (by intro u hu;simp at hu;subst hu;rfl) (by omega) (by unfold maxLen;omega) (by omega) (by simp;omega);refine⟨g,cap,W,h1,?_,?_⟩
 ·unfold OB;rw[List.length_append,List.length_singleton];simpa [Lib.byteCells] using h2
 ·refine(((Below.refl base w).alloc hb _)).trans (h3.below (fun k hk=>(h.lt k hk).1) (by simp;omega))
theorem OB.nil(w:World)(base:Nat):OB w base (.slice none 0 0) []:=World.ownsRow_nil _ _ _ _
theorem OB.conv{w:World}{base:Nat}{v:Value}{l:List UInt8}(h:OB w base v l):(convert 121 9 v).run Tryz.prog w=.ok (.string (str l)) w:=by
 rcases h.2 with⟨rfl,h0⟩|⟨g,cap,cur,rfl,hb,hg,h1,h2,h3,h4⟩
 ·have:l=[]:=List.eq_nil_of_length_eq_zero h0;subst this;exact run_convert_bytes_nil w 121 5 Tryz.underlying121 Tryz.underlying5 0 0 9 Tryz.underlying9
 ·have hcell:=h.cells (g:=g) rfl;have:=lz (P:=Tryz.prog) (src:=121) (dst:=9) Tryz.underlying121 Tryz.underlying5 Tryz.underlying9 w g 0 cap (l.map fun c=>(c.toNat:Int)) (by
   intro j hj;have:=hcell j (.int .u8 (l.map fun c=>(c.toNat:Int))[j]) (by
    unfold Lib.byteCells;rw[List.length_map] at hj;simp[hj])
   rwa [jI] at this)
  rw[List.length_map,List.map_map] at this;rw[this];congr 2;congr 1;rw[List.map_congr_left (g:=id)]
  ·simp
  ·intro c _;simp
theorem OB.appZ{w:World}{base:Nat}{v:Value}{l:List UInt8}(h:OB w base v l)(z:Int)(c:UInt8)(hz:z=c.toNat)(hl:l.length≤1000000000)(hb:base≤w.heap.size) :
  ∃g cap W,(Builtin.append_ #[121,121] 121 #[v,.slice (some ⟨w.heap.size,0,none⟩) 1 1]).run Tryz.prog (w.alloc (.cells #[.int .u8 z] 5))=.ok (.slice (some ⟨g,0,none⟩) (l.length+1) cap) W∧
   OB W base (.slice (some ⟨g,0,none⟩) (l.length+1) cap) (l++[c])∧Below base w W:=by
 subst hz;exact h.app c hl hb
theorem tQ(a:Nat)(ha:a<9223372036854775808):(BitVec.ofInt 64 (a:Int)).toNat=a:=by
 rw[BitVec.ofInt_natCast,BitVec.toNat_ofNat];exact Nat.mod_eq_of_lt (by omega)
theorem MI(a b:Nat)(ha:a<9223372036854775808)(hb:b<9223372036854775808):bits .or .i64 (a:Int) (b:Int)=((a ||| b:Nat):Int):=by
 have hx:a ||| b<2 ^ 63:=Nat.or_lt_two_pow (by omega) (by omega);show IntKind.i64.wrap ((BitVec.ofInt 64 (a:Int) ||| BitVec.ofInt 64 (b:Int)).toNat:Int)=_;rw[BitVec.toNat_or,tQ a ha,tQ b hb,IntKind.wrap_i64];omega
theorem or16(A B:Int)(Ko:0≤A)(PZ:A≤15)(pR:0≤B)(gm:B≤15):bits .or .i64 (A*16) B=16*A+B:=by
 obtain⟨a,rfl⟩:∃a:Nat,A=a:=⟨A.toNat,by omega⟩;obtain⟨b,rfl⟩:∃b:Nat,B=b:=⟨B.toNat,by omega⟩;have key:∀a,a<16→∀b,b<16→(a*16 ||| b)=16*a+b:=by decide
 have h:=MI (a*16) b (by omega) (by omega);rw[key a (by omega) b (by omega)] at h;rw[show((a:Int)*16)=((a*16:Nat):Int) by omega,h];omega
end
section
open Go.RowKit
def ra:Option (List UInt8)→Value
 |some l=>.tuple #[.string (str l),.int .i64 0]
 |none=>.tuple #[.string ByteArray.empty,.int .i64 2]
theorem uT{N:Nat}(w:World)(n:Nat):Below N w (w.drewN n):=⟨rfl,rfl,rfl,aa _,fun _ _=>rfl⟩
theorem DM(s:ByteArray)(w:World)(hs:s.size≤2000000) :
  Calls Tryz.prog 84 #[.string s] w fun e w'=>e=.returned (ra (cF s.data.toList))∧Up w w':=by
 go_enter Tryz.func84,Tryz.ntmps84;go_wp2_with fail
 go_loopw [4,5,6,7] (fun t4 t5 t6 t7 wr=>∃(k:Nat) (o:List UInt8),k≤s.size∧t5=.int .i64 k∧OB wr w.heap.size t4 o∧o.length≤k∧jb s k o∧Up w wr) (fun _ t5 _ _ _=>s.size-(intOf t5).toNat)
 case atStart=>exact⟨0,[],Nat.zero_le _,rfl,OB.nil _ _,aa _,rY s,Below.refl _ _⟩
 case round=>
  obtain⟨k,o,hk,rfl,hO,hol,hd,hW⟩:=hrel;have HO:=Um hO;have HD:=Um hd;have HW:=Um hW;clear hO hd hW;by_cases hlt:k<s.size
  ·by_cases hc:s[k]=37
   ·have eS:((s[k].toNat:Int)==37)=true:=by rw[hc];rfl
    have eh:((s[k].toNat:Int) != 37)=false:=by rw[bne,eS];rfl
    have HC:=Um hc;clear hc;by_cases h3:k+2<s.size
    ·have gP:IntKind.i64.wrap ((k:Int)+1)=(k:Int)+1:=by simp[IntKind.wrap,IntKind.bits,IntKind.signed];omega
     have ig:IntKind.i64.wrap ((k:Int)+2)=(k:Int)+2:=by simp[IntKind.wrap,IntKind.bits,IntKind.signed];omega
     have mD:((k:Int)+1).toNat=k+1:=by omega
     have Sx:((k:Int)+2).toNat=k+2:=by omega
     have hk5:(0:Int)≤(k:Int)+1:=by omega
     have vl:(0:Int)≤(k:Int)+2:=by omega
     have hk7:(k:Int)+1<(s.size:Int):=by omega
     have QM:(k:Int)+2<(s.size:Int):=by omega
     have hk9:k+1<s.size:=by omega
     have HKs:=Um (ag gP ig);clear gP ig;go_wp2_with fail;obtain⟨gP,ig⟩:=HKs.o
     go_quiet ((go_at_call 144;exact Calls.quiet_of_same ((yA _ _).mono fun _ _ ⟨h1,h2⟩=>⟨h1,h2.symm⟩)))
     have HV:=Um (ag (jH s[k+1]) (jH s[k+2]));have ru:=Um (xx HD.o h3 HC.o);have BX:=Um (xv HD.o h3 HC.o);have uA:=o8 s[k+1];have uB:=o8 s[k+2];have Tk:dP s[k+1]=-1∨(0≤dP s[k+1]∧dP s[k+1]≤15):=by have:=HV.o.1;omega
     have EI:dP s[k+2]=-1∨(0≤dP s[k+2]∧dP s[k+2]≤15):=by have:=HV.o.2;omega
     clear uA uB HV;generalize dP s[k+1]=A at Tk ru BX⊢;generalize dP s[k+2]=B at EI ru BX⊢;rcases Tk with rfl|⟨Ko,PZ⟩
     ·have HN:=Um (ru.o (.inl rfl));go_wp2_with fail;go_ret2;exact⟨by rw[HN.o];rfl,HW.o.trans (uT _ _)⟩
     ·rcases EI with rfl|⟨pR,gm⟩
      ·have HN:=Um (ru.o (.inr rfl));go_wp2_with fail;go_ret2;exact⟨by rw[HN.o];rfl,HW.o.trans (uT _ _)⟩
      ·have HT:=Um (BX.o (by omega) (by omega));have hor:=or16 A B Ko PZ pR gm;have Qk:OB (wr.drewN nq) w.heap.size _ o:=HO.o;obtain⟨g,cap,W,hrun,SY,PY⟩:=Qk.appZ (16*A+B) (UInt8.ofNat (16*A+B).toNat) (by rw[UInt8.toNat_ofNat'];omega) (by omega) HW.o.size;have HR:=Um hrun;have HX:=Um (ag SY PY);clear hrun SY PY Qk;go_wp2_with (at_builtin;refine aG rfl rfl rfl rfl HR.o ?_);go_roundw
       case measure=>simp[intOf];omega
       case rel=>exact⟨k+3,_,by omega,by go_num,HX.o.1,by simp;omega,HT.o,HW.o.trans ((uT _ _).trans HX.o.2)⟩
    ·have HN:=Um (rZ HD.o hlt HC.o (by omega));go_wp2_with fail;go_ret2;exact⟨by rw[HN.o];rfl,HW.o⟩
   ·have eS:((s[k].toNat:Int)==37)=false:=by
     simp only[beq_eq_false_iff_ne,ne_eq];intro h;exact hc (by rw[gE];show s[k].toNat=37;omega)
    have eh:((s[k].toNat:Int) != 37)=true:=by rw[bne,eS];rfl
    obtain⟨g,cap,W,hrun,SY,PY⟩:=HO.o.app s[k] (by omega) HW.o.size;have HR:=Um hrun;have HX:=Um (ag SY PY);have HC:=Um hc;clear hrun SY PY hc;go_wp2_with (at_builtin;refine aG rfl rfl rfl rfl HR.o ?_);go_roundw
    case measure=>simp[intOf];omega
    case rel=>exact⟨k+1,o++[s[k]],by omega,by go_num,HX.o.1,by simp;omega,r9 HD.o hlt HC.o,HW.o.trans HX.o.2⟩
  ·obtain rfl:k=s.size:=by omega
   have hcv:=HO.o.conv;have HE:=Um (xw HD.o);go_wp2_with fail;go_ret2;exact⟨by rw[HE.o];rfl,HW.o⟩
end
section
open Go.RowKit
def Gh(l:List UInt8):Int:=if l.head?=some 45 then -(fY 10 (l.drop 1):Int) else(fY 10 l:Int)
def iT(l:List UInt8):Option Int:=if cG (Gh l)=l∧-9223372036854775808≤Gh l∧Gh l≤9223372036854775807 then some (Gh l) else none
theorem nu(n:Int)(h0:-9223372036854775808≤n)(h1:n≤9223372036854775807):iT (cG n)=some n:=by
 have key:Gh (cG n)=n:=by
  unfold Gh cG;by_cases hn:n<0
  ·rw[if_pos hn,List.head?_cons,if_pos rfl,List.drop_succ_cons,List.drop_zero,jx 10 (by omega) (by omega)];omega
  ·rw[if_neg hn,if_neg,jx 10 (by omega) (by omega)]
   ·omega
   ·intro e;have:=fm 10 (by omega) (by omega) n.toNat 45 (List.mem_of_head? e);exact absurd this.1 (by decide)
 unfold iT;rw[key,if_pos ⟨rfl,h0,h1⟩]
theorem MM(s:ByteArray):ij s (iT s.data.toList):=by
 by_cases h:∃n:Int,str (cG n)=s∧-9223372036854775808≤n∧n≤9223372036854775807
 ·obtain⟨n,hn,h0,h1⟩:=h;rw[gH hn,nu n h0 h1];exact⟨hn,h0,h1⟩
 ·have:iT s.data.toList=none:=by
   unfold iT;rw[if_neg];rintro⟨h1,h2,h3⟩;exact h ⟨_,by rw[h1,eC],h2,h3⟩
  rw[this];exact fun n h0 h1 e=>h ⟨n,e,h0,h1⟩
theorem yo{s:ByteArray}{r:Option Int}(h:ij s r):r=iT s.data.toList:=ij.one h (MM s)
theorem Da{l:List UInt8}{n:Int}(h:iT l=some n):-9223372036854775808≤n∧n≤9223372036854775807∧cG n=l:=by
 unfold iT at h
 split at h
 ·rename_i hh;injection h with h;subst h;exact⟨hh.2.1,hh.2.2,hh.1⟩
 ·cases h
def chk(x:Nt):Option Nt:=if dZ x then some x else none
def sk(k:List UInt8)(no:Int):List (List UInt8)→Nt
 | [a,b]=>if k=[109] then⟨109,no,str a,str b,ByteArray.empty⟩ else if k=[99] then⟨99,no,ByteArray.empty,str a,str b⟩ else⟨0,0,ByteArray.empty,ByteArray.empty,ByteArray.empty⟩
 | [a,b,c]=>if k=[120] then⟨120,no,str a,str b,str c⟩ else⟨0,0,ByteArray.empty,ByteArray.empty,ByteArray.empty⟩
 |_=>⟨0,0,ByteArray.empty,ByteArray.empty,ByteArray.empty⟩
def JH:List (List UInt8)→Option Nt
 |k::n::r=>if r.length<2 then none else match iT n with
  |some no=>chk (sk k no r)
  |none=>none
 |_=>none
def ib(l:List UInt8):Option Nt:=match(dB 32 l).mapM cF with
 |some ws=>JH ws
 |none=>none
theorem wS{α β:Type}{f:α→Option β}(l:List α)(k:Nat)(hk:k<l.length){ds:List β}(h:(l.take k).mapM f=some ds):(l.take (k+1)).mapM f=(f l[k]).map (fun y=>ds++[y]):=by
 rw[List.take_succ_eq_append_getElem hk,List.mapM_append,h];simp only[List.mapM_cons,List.mapM_nil]
 cases f l[k]<;>rfl
theorem mapM_none{α β:Type}{f:α→Option β}(l:List α)(k:Nat)(h:(l.take k).mapM f=none):l.mapM f=none:=by
 rw[←List.take_append_drop k l,List.mapM_append,h];rfl
theorem tZ{α β:Type}{f:α→Option β}{l:List α}{r:List β}(h:l.mapM f=some r):r.length=l.length:=(pL l r h).1
theorem uK:∀(n:Nat) (l o:List UInt8),l.length≤n→cF l=some o→o.length≤l.length
 |_,[],o,_,h=>by simp[cF] at h;subst h;simp
 |0,_::_,_,hn,_=>by simp at hn
 |n+1,c::l,o,hn,h=>by
  by_cases hc:c=37
  ·subst hc;rcases l with _|⟨a,_|⟨b,r⟩⟩
   ·rw[xu] at h;cases h
   ·rw[BI] at h;cases h
   ·rw[p6] at h
    split at h
    ·cases h
    ·cases hr:cF r with
     |none=>rw[hr] at h;cases h
     |some p=>
      rw[hr] at h;have:=uK n r p (by simp at hn;omega) hr;injection h with h;subst h;simp;omega
  ·rw[ly hc] at h
   cases hr:cF l with
   |none=>rw[hr] at h;cases h
   |some p=>
    rw[hr] at h;have:=uK n l p (by simpa using hn) hr;injection h with h;subst h;simp;omega
theorem om{l:List UInt8}{ws:List (List UInt8)}(h:(dB 32 l).mapM cF=some ws):∀x∈ws,x.length≤l.length:=by
 intro x hx;obtain⟨h1,h2⟩:=pL _ _ h;obtain⟨i,hi,rfl⟩:=List.mem_iff_getElem.1 hx;have h3:=h2 i (by omega);rw[List.getElem?_eq_getElem hi] at h3;have h4:=uK _ _ _ (aa _) h3;have h5:=fA 32 l _ (List.getElem_mem (l:=dB 32 l) (n:=i) (by omega));omega
end
section
open Go.RowKit
def Nt.zero:Nt:=⟨0,0,ByteArray.empty,ByteArray.empty,ByteArray.empty⟩
theorem JN:dZ Nt.zero=false:=rfl
def sN(l:List UInt8)(e:Ending):Prop:=∃x b,e=.returned (.tuple #[Nt.v x,.bool b])∧ib l=if b then some x else none
theorem oI{l:List UInt8}(x:Nt)(h:ib l=none):sN l (.returned (.tuple #[Nt.v x,.bool false])):=⟨x,false,rfl,h⟩
theorem OS.Pe{w:World}{base g n cap:Nat}{ls:List (List UInt8)}(h:OS w base (.slice (some ⟨g,0,none⟩) n cap) ls):n=ls.length:=by
 rcases h.2 with⟨hv,-⟩|⟨g',cap',cur,hv,-⟩
 ·cases hv
 ·injection hv
theorem OS.fJ{w:World}{base g n cap:Nat}{ls:List (List UInt8)}(h:OS w base (.slice (some ⟨g,0,none⟩) n cap) ls)(k:Nat)(hk:k<ls.length):w.cell? ⟨g,k,none⟩=some (.string (str ls[k])):=by
 obtain rfl:=h.Pe;exact h.cell k hk
theorem OS.RU{w:World}{base g n cap:Nat}{ls:List (List UInt8)}(h:OS w base (.slice (some ⟨g,0,none⟩) n cap) ls)(k:Nat)(hk:k<ls.length)(l:List UInt8):OS (w.setCell ⟨g,k,none⟩ (.string (str l))) base (.slice (some ⟨g,0,none⟩) n cap) (ls.set k l):=by
 obtain rfl:=h.Pe;exact h.put k hk l
theorem OS.free{w:World}{base g n cap:Nat}{ls:List (List UInt8)}(h:OS w base (.slice (some ⟨g,0,none⟩) n cap) ls):(∀i,w.frozen? ⟨g,i,none⟩=false)∧base≤g∧g<w.heap.size:=by
 obtain rfl:=h.Pe;exact cd h
theorem bF{N:Nat}{w0 w:World}{B:Nat}{v0 v1 v2 v3 v4:Value}(h:Below N w0 w)(hB:N≤B) :
  Below N w0 (((((w.setCell ⟨B,0,none⟩ v0).setCell ⟨B,1,none⟩ v1).setCell ⟨B,2,none⟩ v2).setCell ⟨B,3,none⟩ v3).setCell ⟨B,4,none⟩ v4):=((((h.setCell hB v0).setCell hB v1).setCell hB v2).setCell hB v3).setCell hB v4
theorem Ee{α:Type}(ds ps:List α)(k:Nat)(hd:ds.length=k)(hk:k<ps.length)(t:α):(ds++ps.drop k).set k t=(ds++[t])++ps.drop (k+1):=by
 rw[List.set_append_right _ _ (by omega),hd,Nat.sub_self,List.drop_eq_getElem_cons hk,ai,List.append_assoc];rfl
theorem OS.ak{w w':World}{base:Nat}{v:Value}{ls:List (List UInt8)}(h:OS w base v ls)(hb:Up w w'):OS w' base v ls:=bY h hb (aa _)
theorem Gz{k:List UInt8}{c:UInt8}(h:(str k).toList=[c]):k=[c]:=by rw[aC,aH] at h;exact h
theorem GA{k:List UInt8}{c:UInt8}(h:¬(str k).toList=[c]):k≠[c]:=fun e=>h (by rw[aC,aH];exact e)
theorem fG{k:List UInt8}{no:Int}{a b:List UInt8}{r:List (List UInt8)}(h1:¬(k=[109]∧r=[]))(h2:¬(k=[99]∧r=[]))(h3:¬(k=[120]∧r.length=1)):sk k no (a::b::r)=Nt.zero:=by
 rcases r with _|⟨c,_|⟨d,r⟩⟩
 ·show(if k=[109] then _ else if k=[99] then _ else _)=_;rw[if_neg (fun e=>h1 ⟨e,rfl⟩),if_neg (fun e=>h2 ⟨e,rfl⟩)];rfl
 ·show(if k=[120] then _ else _)=_;rw[if_neg (fun e=>h3 ⟨e,rfl⟩)];rfl
 ·rfl
theorem JL(no:Int)(a b:List UInt8):sk [109] no [a,b]=⟨109,no,str a,str b,ByteArray.empty⟩:=by simp[sk]
theorem JM(no:Int)(a b:List UInt8):sk [99] no [a,b]=⟨99,no,ByteArray.empty,str a,str b⟩:=by simp[sk]
theorem JI(no:Int)(a b c:List UInt8):sk [120] no [a,b,c]=⟨120,no,str a,str b,str c⟩:=by simp[sk]
theorem Ew{r:List (List UInt8)}{n:Nat}(h:r.length+1+1+1+1=n)(hb:((n:Int)==4)=true):r=[]:=by
 rw[beq_iff_eq] at hb;exact List.eq_nil_of_length_eq_zero (by omega)
theorem Ex{r:List (List UInt8)}{n:Nat}(h:r.length+1+1+1+1=n)(hb:((n:Int)==4)=false):r≠[]:=by
 rw[beq_eq_false_iff_ne] at hb;rintro rfl;exact hb (by simp at h;omega)
theorem MU{r:List (List UInt8)}{n:Nat}(h:r.length+1+1+1+1=n)(hb:((n:Int)==5)=true):∃c,r=[c]:=by
 rw[beq_iff_eq] at hb;exact List.length_eq_one_iff.1 (by omega)
theorem MV{r:List (List UInt8)}{n:Nat}(h:r.length+1+1+1+1=n)(hb:((n:Int)==5)=false):r.length≠1:=by
 rw[beq_eq_false_iff_ne] at hb;exact fun e=>hb (by omega)
theorem au.kM{w:World}{B:Nat}{x0 x1 x2 x3 x4 v0 v1 v2 v3 v4:Value}{T:TypeId}(h:au w B #[x0,x1,x2,x3,x4] T) :
  au (((((w.setCell ⟨B,0,none⟩ v0).setCell ⟨B,1,none⟩ v1).setCell ⟨B,2,none⟩ v2).setCell ⟨B,3,none⟩ v3).setCell ⟨B,4,none⟩ v4) B #[v0,v1,v2,v3,v4] T:=((((h.set 0 v0).set 1 v1).set 2 v2).set 3 v3).set 4 v4
theorem au.yg{w:World}{B D:Nat}{vs:Array Value}{v0 v1 v2 v3 v4:Value}{T:TypeId}(h:au w D vs T)(hne:B≠D) :
  au (((((w.setCell ⟨B,0,none⟩ v0).setCell ⟨B,1,none⟩ v1).setCell ⟨B,2,none⟩ v2).setCell ⟨B,3,none⟩ v3).setCell ⟨B,4,none⟩ v4) D vs T:=((((h.setOther _ _ hne).setOther _ _ hne).setOther _ _ hne).setOther _ _ hne).setOther _ _ hne
def cellAt(w:World)(b i:Nat):Value:=(w.cell? ⟨b,i,none⟩).getD undef
structure TN(w:World)(B8 B2:Nat)(x:Nt)(w':World):Prop where
 b8:au w' B8 #[.int .u8 x.kind.toNat,.int .i64 x.no,.string x.src,.string x.dst,.string x.tmp] 63
 b2:∃v0 v1 v2 v3 v4,au w' B2 #[v0,v1,v2,v3,v4] 63
 hw:Up w w'
 ne:B8≠B2
 le:w.heap.size≤B2
theorem TN.all{w w':World}{B8 B2:Nat}{x:Nt}(h:TN w B8 B2 x w'):TN w B8 B2 x w'∧w'.cell? ⟨B8,0,none⟩=some (.int .u8 x.kind.toNat)∧w'.cell? ⟨B8,1,none⟩=some (.int .i64 x.no)∧w'.cell? ⟨B8,2,none⟩=some (.string x.src)∧w'.cell? ⟨B8,3,none⟩=some (.string x.dst)∧w'.cell? ⟨B8,4,none⟩=some (.string x.tmp)∧w'.cell? ⟨B2,0,none⟩=some (cellAt w' B2 0)∧w'.cell? ⟨B2,1,none⟩=some (cellAt w' B2 1)∧w'.cell? ⟨B2,2,none⟩=some (cellAt w' B2 2)∧w'.cell? ⟨B2,3,none⟩=some (cellAt w' B2 3)∧w'.cell? ⟨B2,4,none⟩=some (cellAt w' B2 4)∧(∀i,w'.frozen? ⟨B2,i,none⟩=false)∧B8<w'.heap.size∧B2<w'.heap.size:=by
 obtain⟨v0,v1,v2,v3,v4,hb⟩:=h.b2;have h8:=h.b8;unfold cellAt;rw[hb.cell,hb.cell,hb.cell,hb.cell,hb.cell,h8.cell,h8.cell,h8.cell,h8.cell,h8.cell];exact⟨h,rfl,rfl,rfl,rfl,rfl,rfl,rfl,rfl,rfl,rfl,hb.frozen,h8.lt,hb.lt⟩
theorem TN.drew{w p:World}{B8 B2:Nat}{x:Nt}(h:TN w B8 B2 x p):TN w B8 B2 x p.drew:=
 ⟨h.b8,h.b2,h.hw.drew,h.ne,h.le⟩
theorem TN.call{w p w':World}{B8 B2:Nat}{x:Nt}(h:TN w B8 B2 x p)(hb:Up p w'):TN w B8 B2 x w':=by
 obtain⟨v0,v1,v2,v3,v4,h2⟩:=h.b2;exact⟨h.b8.ak hb,⟨_,_,_,_,_,h2.ak hb⟩,ao h.hw hb,h.ne,h.le⟩
theorem TN.store{w p:World}{B8 B2:Nat}{x:Nt}{v0 v1 v2 v3 v4:Value}(h:TN w B8 B2 x p) :
  TN w B8 B2 x (((((p.setCell ⟨B2,0,none⟩ v0).setCell ⟨B2,1,none⟩ v1).setCell ⟨B2,2,none⟩ v2).setCell ⟨B2,3,none⟩ v3).setCell ⟨B2,4,none⟩ v4):=by
 obtain⟨x0,x1,x2,x3,x4,h2⟩:=h.b2;exact⟨h.b8.yg (Ne.symm h.ne),⟨_,_,_,_,_,h2.kM⟩,bF h.hw h.le,h.ne,h.le⟩
theorem pE{tmps:Array Value}{W:World}{B2:Nat}{x:Nt}{b:Bool}(hb:au W B2 #[.int .u8 x.kind.toNat,.int .i64 x.no,.string x.src,.string x.dst,.string x.tmp] 63)
  (h2:tmps.getD 2 undef=.pointer (some ⟨B2,0,none⟩)) (h3:tmps.getD 3 undef=.bool b):(results Tryz.f49 tmps).run Tryz.prog W=.ok (.tuple #[Nt.v x,.bool b]) W:=by
 have q0:=hb.cell 0;have q1:=hb.cell 1;have q2:=hb.cell 2;have q3:=hb.cell 3;have q4:=hb.cell 4;simp only[List.getElem?_toArray,List.getElem?_cons_zero,List.getElem?_cons_succ] at q0 q1 q2 q3 q4;rw[Array.getD_eq_getD_getElem?] at h2 h3;simp[results,Tryz.results49,go_sem,Nt.v,h2,h3,q0,q1,q2,q3,q4]
theorem JK{k:List UInt8}{no:Int}:∀{r:List (List UInt8)},(∀y∈r,y.length≤2000000)→-9223372036854775808≤no→no≤9223372036854775807→(sk k no r).Ok:=by
 intro r h h0 h1;have hz:Nt.Ok ⟨0,0,ByteArray.empty,ByteArray.empty,ByteArray.empty⟩:=⟨Nat.zero_le _,Nat.zero_le _,Nat.zero_le _,by decide,by decide⟩;have hs:∀y∈r,(str y).size≤2000000:=fun y hy=>by rw[aP];exact h y hy
 rcases r with _|⟨a,_|⟨b,_|⟨c,_|⟨d,r⟩⟩⟩⟩
 ·exact hz
 ·exact hz
 ·have ha:=hs a (by simp);have hb:=hs b (by simp);show Nt.Ok (if _ then _ else if _ then _ else _)
  split
  ·exact⟨ha,hb,Nat.zero_le _,h0,h1⟩
  ·split
   ·exact⟨Nat.zero_le _,ha,hb,h0,h1⟩
   ·exact hz
 ·show Nt.Ok (if _ then _ else _)
  split
  ·exact⟨hs a (by simp),hs b (by simp),hs c (by simp),h0,h1⟩
  ·exact hz
 ·exact hz
theorem AI(r:Option Int):∃v b,oH r=.tuple #[.int .i64 v,.bool b]∧r=if b then some v else none:=by
 cases r with
 |none=>exact⟨0,false,rfl,rfl⟩
 |some v=>exact⟨v,true,rfl,rfl⟩
theorem JB(s:ByteArray)(w:World)(hs:s.size≤2000000)(hm:kl w) :
  Calls Tryz.prog 49 #[.string s] w fun e w'=>sN s.data.toList e∧Up w w':=by
 have HM:=Um hm;clear hm;have pR:=au.new w #[.int .u8 0,.int .i64 0,.string ByteArray.empty,.string ByteArray.empty,.string ByteArray.empty] 63;have bP:=Um pR;have oc:=Um (al (Uq w) (.cells #[.int .u8 0,.int .i64 0,.string ByteArray.empty,.string ByteArray.empty,.string ByteArray.empty] 63));have hWs:=oc.o.size;have HS:=Um (Fo s 32 (w.alloc (.cells #[.int .u8 0,.int .i64 0,.string ByteArray.empty,.string ByteArray.empty,.string ByteArray.empty] 63)) hs (HM.o.ak oc.o));clear pR;go_enter Tryz.func49,Tryz.ntmps49;go_wp2_with (go_at_call 83;refine HS.o.mono ?_;rintro e w1 ⟨⟨g,cap,rfl,hO⟩,ar⟩;have HO:=Um hO;have cM:=Um (bP.o.ak ar);have kB:=Um (ao oc.o ar);clear hO ar);generalize hps:dB 32 s.data.toList=ps at HO⊢;have Ck:=Um hps;have hpl:=(dM 32 s.data.toList).2;have hpz:∀p∈ps,p.length≤2000000:=fun p hp=>by
  have:=fA 32 s.data.toList p (by rw[hps];exact hp);have h2:s.data.toList.length=s.size:=Array.length_toList;omega
 rw[hps] at hpl;have Sm:ps.length≤2000001:=by
  have h2:s.data.toList.length=s.size:=Array.length_toList;omega
 have HPz:=Um hpz;clear hps hpl hpz;have lL:=Um (show∀k,(ps.take k).mapM cF=none→ib s.data.toList=none from fun k h=>by unfold ib;rw[Ck.o,mapM_none ps k h]);have j7:=Um (show∀ws,ps.mapM cF=some ws→ib s.data.toList=JH ws from fun ws h=>by unfold ib;rw[Ck.o,h]);clear HM HS;have hbase:w.heap.size<(w.alloc (.cells #[.int .u8 0,.int .i64 0,.string ByteArray.empty,.string ByteArray.empty,.string ByteArray.empty] 63)).heap.size:=by simp
 generalize (w.alloc (.cells #[.int .u8 0,.int .i64 0,.string ByteArray.empty,.string ByteArray.empty,.string ByteArray.empty] 63)).heap.size=base at HO hbase
 go_loopw [15] (fun t15 wr=>∃(k:Nat) (ds:List (List UInt8)),k≤ps.length∧t15=.int .i64 k∧(ps.take k).mapM cF=some ds∧OS wr base (.slice (some ⟨g,0,none⟩) ps.length cap) (ds++ps.drop k)∧au wr w.heap.size #[.int .u8 0,.int .i64 0,.string ByteArray.empty,.string ByteArray.empty,.string ByteArray.empty] 63∧Up w wr) (fun t15 _=>ps.length-(intOf t15).toNat)
 case atStart=>exact⟨0,[],Nat.zero_le _,rfl,rfl,HO.o,cM.o,kB.o⟩
 case round=>
  obtain⟨k,ds,hk,rfl,hds,hO,hB,hW⟩:=hrel;have HO:=Um hO;have HB:=Um hB;have HW:=Um hW;have HD:=Um hds;have hdl:ds.length=k:=by rw[tZ hds,List.length_take];omega
  have L8:=Um hdl;have hbl:=hB.lt;obtain⟨hfz,vm,A9⟩:=hO.free;clear hB hW hds;by_cases hlt:k<ps.length
  ·have hcl:=hO.fJ k (by rw[List.length_append,List.length_drop];omega);rw[List.getElem_append_right (by omega),List.getElem_drop] at hcl;have hkk:(ps[k+(k-ds.length)]'(by omega))=ps[k]:=by congr 1;omega
   rw[hkk] at hcl;have o0:=Um (fun w=>DM (str ps[k]) w (by rw[aP];exact HPz.o _ (List.getElem_mem _)));have HT:=Um (wS (f:=cF) ps k hlt HD.o);rw[aH] at o0;generalize str ps[k]=pk at hcl o0;generalize cF ps[k]=r at o0 HT;clear hO hdl hkk
   cases r with
   |none=>
    have HN:=Um (lL.o (k+1) HT.o);simp only[ra] at o0;clear hfz vm;go_wp2_with (go_at_call 84;refine(o0.o _).mono ?_;rintro e w2 ⟨rfl,aD⟩;have cV:=Um (HB.o.ak aD);have jc:=Um (ao HW.o aD);have eM:=cV.o;obtain⟨q0,qf,ql⟩:=eM.facts;clear aD eM);exact bodyPost_ret (v:=.tuple #[Nt.v Nt.zero,.bool false]) (by simp[results,Tryz.results49,go_sem,Nt.v,Nt.zero,q0,ql];rfl) rfl ⟨oI _ HN.o,bF jc.o (aa _)⟩
   |some t=>
    simp only[ra] at o0;have Qg:=Um (show(ps.take (k+1)).mapM cF=some (ds++[t]) from HT.o);have hbg:¬g=w.heap.size:=by omega
    have va:=Um (show k<(ds++ps.drop k).length by rw[List.length_append,List.length_drop,L8.o];omega);go_wp2_with (go_at_call 84;refine(o0.o _).mono ?_;rintro e w2 ⟨rfl,aD⟩;have cV:=Um (HB.o.ak aD);have jc:=Um (ao HW.o aD);have l8:=Um (HO.o.ak aD);have vB:=l8.o.free;obtain⟨hfz2,-,J7⟩:=vB;obtain⟨v2,Nn⟩:∃v,w2.cell? ⟨g,k,none⟩=some v:=⟨_,l8.o.fJ k va.o⟩;clear aD);go_roundw
    case measure=>simp[intOf];omega
    case rel=>exact⟨k+1,ds++[t],by omega,by go_num,Qg.o,by rw[←Ee ds ps k L8.o hlt t];exact l8.o.RU k va.o t,cV.o.setOther _ _ hbg,jc.o.setCell (show w.heap.size≤g by omega) _⟩
  ·obtain rfl:k=ps.length:=by omega
   have jU:=Um (j7.o ds (by have:=HD.o;rwa [List.take_length] at this));have Qk:=Um (show OS wr base (.slice (some ⟨g,0,none⟩) ps.length cap) ds by have:=HO.o;rwa [List.drop_length,List.append_nil] at this);have yC:ds.length=ps.length:=hdl;have D0:=Um (show(dB 32 s.data.toList).mapM cF=some ds by rw[Ck.o];have:=HD.o;rwa [List.take_length] at this);clear hdl hO hlt;go_upto_region 11 with(fail);have kB:=Um (al HW.o (.cells #[.int .u8 0,.int .i64 0,.string ByteArray.empty,.string ByteArray.empty,.string ByteArray.empty] 63));have cM:=Um (HB.o.eE (.cells #[.int .u8 0,.int .i64 0,.string ByteArray.empty,.string ByteArray.empty,.string ByteArray.empty] 63));have E3:=Um (au.new wr #[.int .u8 0,.int .i64 0,.string ByteArray.empty,.string ByteArray.empty,.string ByteArray.empty] 63);have o5:=Um (Qk.o.ak (w':=wr.alloc (.cells #[.int .u8 0,.int .i64 0,.string ByteArray.empty,.string ByteArray.empty,.string ByteArray.empty] 63)) (al (Below.refl _ _) _));have Ln:=Um (show wr.heap.size≠w.heap.size∧wr.heap.size≠g∧g≠w.heap.size by omega);have Dr:w.heap.size≤wr.heap.size:=by omega
   show Code.wp Tryz.prog _ _ _ (wr.alloc (.cells #[.int .u8 0,.int .i64 0,.string ByteArray.empty,.string ByteArray.empty,.string ByteArray.empty] 63));generalize wr.alloc _=W at kB cM E3 o5⊢;generalize wr.heap.size=B8 at E3 Ln Dr⊢;generalize eM:w.heap.size=B2 at cM Ln Dr⊢;clear HB HW Qk HD HO hfz vm A9 hbl;by_cases h4:ps.length<4
   ·have HN:=Um (show ib s.data.toList=none by
     rw[jU.o];rcases ds with _|⟨a,_|⟨b,r⟩⟩
     ·rfl
     ·rfl
     ·exact if_pos (show r.length<2 by simp at yC;omega))
    have h4i:(ps.length:Int)<4:=by omega
    obtain⟨q0,qf,ql⟩:=cM.o.facts;obtain⟨r0,-,rl⟩:=E3.o.facts;clear h4 yC;go_wp2_with fail;refine bodyPost_ret (v:=.tuple #[Nt.v Nt.zero,.bool false]) ?_ rfl ?_
    ·simp[results,Tryz.results49,go_sem,Nt.v,Nt.zero,q0,ql]
    ·exact⟨oI _ HN.o,bF kB.o (Nat.le_of_eq eM)⟩
   ·obtain⟨k0,n0,a,b,r,rfl⟩:∃k0 n0 a b r,ds=k0::n0::a::b::r:=by
     rcases ds with _|⟨a,_|⟨b,_|⟨c,_|⟨d,r⟩⟩⟩⟩
     ·simp at yC;omega
     ·simp at yC;omega
     ·simp at yC;omega
     ·simp at yC;omega
     ·exact⟨a,b,c,d,r,rfl⟩
    simp only[List.length_cons] at yC;have c0:=o5.o.fJ 0 (by simp);have c1:=o5.o.fJ 1 (by simp);have c2:=o5.o.fJ 2 (by simp);have c3:=o5.o.fJ 3 (by simp);simp only[List.getElem_cons_zero,List.getElem_cons_succ] at c0 c1 c2 c3;obtain⟨-,-,hgl⟩:=o5.o.free;have Qc:=Um (show∀y∈(k0::n0::a::b::r),y.length≤2000000 from fun y hy=>by
     have h1:=om (l:=s.data.toList) (ws:=k0::n0::a::b::r) D0.o y hy;have h2:s.data.toList.length=s.size:=Array.length_toList;omega)
    have BZ:=Um (fun w=>ML (str n0) w (by rw[aP];exact Qc.o n0 (by simp)));have lD:=Um yC;have h4i:(4:Int)≤ps.length:=by omega
    have h4n:4≤ps.length:=by omega
    obtain⟨q0,qf,ql⟩:=cM.o.facts;obtain⟨r0,rf,rl⟩:=E3.o.facts;clear yC h4 qf ql r0 rf rl q0;go_upto_block 2 with(go_at_call 85;refine(BZ.o _).mono ?_;rintro e w2 ⟨⟨nr,rfl,hno⟩,aD⟩;obtain⟨no,nb,hnr,Ss⟩:=AI nr;rw[hnr];have Qn:=Um (ag hno Ss);have jc:=Um (ao kB.o aD);have cV:=Um (cM.o.ak aD);have Ca:=Um (E3.o.ak aD);have l8:=Um (o5.o.ak aD);clear hno Ss hnr aD)
    go_cut [] (fun wx=>∃x:Nt,x=sk k0 no (a::b::r)∧au wx B8 #[.int .u8 x.kind.toNat,.int .i64 x.no,.string x.src,.string x.dst,.string x.tmp] 63∧au wx B2 #[.int .u8 0,.int .i64 0,.string ByteArray.empty,.string ByteArray.empty,.string ByteArray.empty] 63∧Up w wx)
    case first=>
     have iW:=l8.o;have Tj:=Ca.o;obtain⟨r0,rf,rl⟩:=Tj.facts;obtain⟨ofz,-,ogl⟩:=iW.free;have d0:=iW.fJ 0 (by simp);have d2:=iW.fJ 2 (by simp);have d3:=iW.fJ 3 (by simp);simp only[List.getElem_cons_zero,List.getElem_cons_succ] at d0 d2 d3;have HD4:=Um (fun(h:4<(k0::n0::a::b::r).length)=>iW.fJ 4 h);clear iW Tj ofz c0 c1 c2 c3;have Cb:(2:Int)<ps.length:=by omega
     have J2:(3:Int)<ps.length:=by omega
     go_wp2_with fail
     ·have hk:=Gz ‹(str k0).toList=[109]›;have hr:=Ew lD.o ‹((ps.length:Int)==4)=true›;subst hk hr;refine fh 8 (by kernel_rfl) (by kernel_rfl) ?_;simp only[List.take_succ_cons,List.take_zero,List.drop_succ_cons,List.drop_zero]
      repeat still_step
      refine wpStill_nil ?_;go_wp2_with fail;go_meet;exact⟨⟨109,no,str a,str b,ByteArray.empty⟩,(JL ..).symm,Ca.o.kM.drew,(cV.o.yg Ln.o.1).drew,(bF jc.o (by omega)).drew⟩
     ·go_meet;exact⟨Nt.zero,(fG (fun h=>Ex lD.o ‹((ps.length:Int)==4)=false› h.2) (fun h=>absurd ((Gz ‹(str k0).toList=[109]›).symm.trans h.1) (by decide)) (fun h=>absurd ((Gz ‹(str k0).toList=[109]›).symm.trans h.1) (by decide))).symm,Ca.o,cV.o,jc.o⟩
     ·have hk:=Gz ‹(str k0).toList=[99]›;have hr:=Ew lD.o ‹((ps.length:Int)==4)=true›;subst hk hr;refine fh 8 (by kernel_rfl) (by kernel_rfl) ?_;simp only[List.take_succ_cons,List.take_zero,List.drop_succ_cons,List.drop_zero]
      repeat still_step
      refine wpStill_nil ?_;go_wp2_with fail;go_meet;exact⟨⟨99,no,ByteArray.empty,str a,str b⟩,(JM ..).symm,Ca.o.kM.drew,(cV.o.yg Ln.o.1).drew,(bF jc.o (by omega)).drew⟩
     ·go_meet;exact⟨Nt.zero,(fG (fun h=>GA ‹¬(str k0).toList=[109]› h.1) (fun h=>Ex lD.o ‹((ps.length:Int)==4)=false› h.2) (fun h=>absurd ((Gz ‹(str k0).toList=[99]›).symm.trans h.1) (by decide))).symm,Ca.o,cV.o,jc.o⟩
     ·have hk:=Gz ‹(str k0).toList=[120]›;obtain⟨c,hr⟩:=MU lD.o ‹((ps.length:Int)==5)=true›;have J1:(4:Int)<ps.length:=by have:=‹((ps.length:Int)==5)=true›;rw[beq_iff_eq] at this;omega
      subst hk hr;have d4:=HD4.o (by simp);simp only[List.getElem_cons_zero,List.getElem_cons_succ] at d4;refine fh 11 (by kernel_rfl) (by kernel_rfl) ?_;simp only[List.take_succ_cons,List.take_zero,List.drop_succ_cons,List.drop_zero]
      repeat still_step
      refine wpStill_nil ?_;go_wp2_with fail;go_meet;exact⟨⟨120,no,str a,str b,str c⟩,(JI ..).symm,Ca.o.kM.drew,(cV.o.yg Ln.o.1).drew,(bF jc.o (by omega)).drew⟩
     ·go_meet;exact⟨Nt.zero,(fG (fun h=>GA ‹¬(str k0).toList=[109]› h.1) (fun h=>GA ‹¬(str k0).toList=[99]› h.1) (fun h=>MV lD.o ‹((ps.length:Int)==5)=false› h.2)).symm,Ca.o,cV.o,jc.o⟩
     ·go_meet;exact⟨Nt.zero,(fG (fun h=>GA ‹¬(str k0).toList=[109]› h.1) (fun h=>GA ‹¬(str k0).toList=[99]› h.1) (fun h=>GA ‹¬(str k0).toList=[120]› h.1)).symm,Ca.o,cV.o,jc.o⟩
    case rest=>
     obtain⟨x,hx,lT,aD,hw⟩:=hcut;have HX:=Um hx;have Od:=Um aD;have oY:=Um hw;have Uf:=Um lT;have e0:=lT.cell 0;have e1:=lT.cell 1;have e2:=lT.cell 2;have e3:=lT.cell 3;have e4:=lT.cell 4;simp only[List.getElem?_toArray,List.getElem?_cons_zero,List.getElem?_cons_succ] at e0 e1 e2 e3 e4;have q0:=aD.cell 0;have q1:=aD.cell 1;have q2:=aD.cell 2;have q3:=aD.cell 3;have q4:=aD.cell 4;simp only[List.getElem?_toArray,List.getElem?_cons_zero,List.getElem?_cons_succ] at q0 q1 q2 q3 q4;have hl8:=lT.lt;have zk:=aD.lt;have iV:=aD.frozen;clear lT aD hw hx c0 c1 c2 c3
     cases nb with
     |false=>
      have HN:=Um (show ib s.data.toList=none by
       have h1:=yo Qn.o.1;rw[Qn.o.2,aH] at h1;rw[jU.o];show(if(a::b::r).length<2 then none else match iT n0 with|some no=>chk (sk k0 no (a::b::r))|none=>none)=none;rw[←h1];simp)
      go_wp2_with fail;have hT:TN w B8 B2 x wc:=⟨Uf.o,⟨_,_,_,_,_,Od.o⟩,oY.o,Ln.o.1,by omega⟩
      go_region
      go_wp2_with fail;exact bodyPost_ret (pE (x:=x) Od.o.kM.drew rfl rfl) rfl ⟨oI _ HN.o,(bF oY.o (by omega)).drew⟩
     |true=>
      have gM:=Um (show x.Ok by
       have h1:=Qn.o.1;rw[Qn.o.2] at h1;rw[HX.o];exact JK (fun y hy=>Qc.o y (List.mem_cons_of_mem _ (List.mem_cons_of_mem _ hy))) h1.2.1 h1.2.2)
      have HN:=Um (show ib s.data.toList=if dZ x then some x else none by
       have h1:=yo Qn.o.1;rw[Qn.o.2,aH] at h1;rw[jU.o];show(if(a::b::r).length<2 then none else match iT n0 with|some no=>chk (sk k0 no (a::b::r))|none=>none)=_;rw[←h1,if_neg (by simp),HX.o];rfl)
      have hT:TN w B8 B2 x wc:=⟨Uf.o,⟨_,_,_,_,_,Od.o⟩,oY.o,Ln.o.1,by omega⟩;go_wp2_with fail
      go_region_held3 (fun w'=>TN w B8 B2 x w'∧w'.cell? ⟨B8,0,none⟩=some (.int .u8 x.kind.toNat)∧w'.cell? ⟨B8,1,none⟩=some (.int .i64 x.no)∧w'.cell? ⟨B8,2,none⟩=some (.string x.src)∧w'.cell? ⟨B8,3,none⟩=some (.string x.dst)∧w'.cell? ⟨B8,4,none⟩=some (.string x.tmp)∧w'.cell? ⟨B2,0,none⟩=some (cellAt w' B2 0)∧w'.cell? ⟨B2,1,none⟩=some (cellAt w' B2 1)∧w'.cell? ⟨B2,2,none⟩=some (cellAt w' B2 2)∧w'.cell? ⟨B2,3,none⟩=some (cellAt w' B2 3)∧w'.cell? ⟨B2,4,none⟩=some (cellAt w' B2 4)∧(∀i,w'.frozen? ⟨B2,i,none⟩=false)∧B8<w'.heap.size∧B2<w'.heap.size)
       (first|with_reducible exact hT.drew.all|with_reducible exact(TN.call (And.left (by assumption)) (by assumption)).all|with_reducible exact(TN.store (And.left (by assumption))).all)
       (first|(go_at_call 55;refine(Eu x _ gM.o).mono ?_;rintro e w3 ⟨rfl,bJ⟩))
      go_wp2_with fail;have hTN:TN w B8 B2 x w3:=hT.drew.call bJ;exact bodyPost_ret (pE (x:=x) (Od.o.drew.ak bJ).kM rfl rfl) rfl ⟨⟨x,_,rfl,HN.o⟩,bF hTN.hw hTN.le⟩
end
section
open Go
section
variable{P:Program}{ops:Array Oper}{Q:Exit→Act→World→Prop}{md:Region.Mode}{S:World→Prop}
theorem cI(i d:Nat){oi:Oper}{v:Value}{fuel:Nat}{listed:Array Bool}{tmps:Array Value}{defers:List Deferred}{w:World}(hi:ops[i]?=some oi)(hd:oi.dst=some d)
  (hs:Region.noSelect ops=true) (hf:Region.free md ops listed i=true) (hr:(Region.ready md ops listed).contains i=true)
  (hQ:∀c a w,Q (.panic c) (a.put oi.dst v) w→Q (.panic c) a w) (hw:Region.wanted oi (yielded ops tmps)=true) (hy:∀w,S w→(execOp (Act.eval {tmps,defers}) oi).run P w=.ok (.value v) w) (hS:S w)
  (h:wpAnyH P md ops Q S fuel (listed.setIfInBounds i true) {tmps:=tmps.setIfInBounds d v,defers} w):wpAnyH P md ops Q S (fuel+1) listed {tmps,defers} w:=
 wpAnyH_take hi hs hf hr hQ (Or.inl ⟨hw,hy⟩) hS (by rw[hd];exact h)
theorem dw(i d:Nat){oi:Oper}{fuel:Nat}{listed:Array Bool}{tmps:Array Value}{defers:List Deferred}{w:World}(hr:Region.ready md ops listed=[i])(hi:ops[i]?=some oi)(hd:oi.dst=some d)
  (hw:Region.wanted oi (yielded ops tmps)=true) {f:FuncId} {args:Array Value} (he:(execOp (Act.eval {tmps,defers}) oi).run P w=.ok (.enter f args) w) {R:Value→World→Prop}
  (hc:Calls P f args w fun e w'=>∃v,e=.returned v∧R v w') (hS:∀v w',R v w'→S w')
  (h:∀v w',R v w'→wpAnyH P md ops Q S fuel (listed.setIfInBounds i true) {tmps:=tmps.setIfInBounds d v,defers} w'):wpAnyH P md ops Q S (fuel+1) listed {tmps,defers} w:=by
 refine wpAnyH_ready hr (by simp) (AllReadyH.cons hi (fun K hK=>?_) AllReadyH.nil);rw[if_pos hw];unfold Oper.wp;rw[he];refine hc.mono ?_;rintro e w' ⟨v,rfl,hR⟩;have:=h v w' hR;refine hK.out _ _ (hS v w' hR) (fun _=>?_);rw[hd];exact this
end
end
section
open Go
section
variable{P:Program}{ops:Array Oper}{Q:Exit→Act→World→Prop}{md:Region.Mode}{S:World→Prop}
theorem jw{S':World→Prop}(hS:∀w,S' w→S w):∀(fuel:Nat) (listed:Array Bool) (a:Act) (w:World),wpAnyH P md ops Q S' fuel listed a w→wpAnyH P md ops Q S fuel listed a w
 |0,_,_,_,h=>h
 |fuel+1,_,_,_,h=>⟨h.1,fun i hi=>wpOp_mono (fun a' w' h'=>⟨hS _ h'.1,jw hS fuel _ a' w' h'.2⟩) (h.2 i hi)⟩
theorem pq(i d:Nat){oi:Oper}{fuel:Nat}{listed:Array Bool}{tmps:Array Value}{defers:List Deferred}{w W:World}{v:Value}(hr:Region.ready md ops listed=[i])(hi:ops[i]?=some oi)(hd:oi.dst=some d)
  (hw:Region.wanted oi (yielded ops tmps)=true) (he:(execOp (Act.eval {tmps,defers}) oi).run P w=.ok (.value v) W) (hS:S W)
  (h:wpAnyH P md ops Q S fuel (listed.setIfInBounds i true) {tmps:=tmps.setIfInBounds d v,defers} W):wpAnyH P md ops Q S (fuel+1) listed {tmps,defers} w:=by
 refine wpAnyH_ready hr (by simp) (AllReadyH.cons hi (fun K hK=>?_) AllReadyH.nil);rw[if_pos hw];unfold Oper.wp;rw[he];refine hK.out _ _ hS (fun _=>?_);rw[hd];exact h
theorem iI(i di j dj:Nat){oi oj:Oper}{fuel:Nat}{listed:Array Bool}{tmps:Array Value}{defers:List Deferred}{w Wi:World}{vi:Value}(hr:Region.ready md ops listed=[i,j])(hi:ops[i]?=some oi)(hj:ops[j]?=some oj)
  (hdi:oi.dst=some di) (hdj:oj.dst=some dj) (hwi:Region.wanted oi (yielded ops tmps)=true) (hwj:Region.wanted oj (yielded ops tmps)=true)
  (hei:(execOp (Act.eval {tmps,defers}) oi).run P w=.ok (.value vi) Wi) (hSi:S Wi) {f:FuncId} {args:Array Value} (hej:(execOp (Act.eval {tmps,defers}) oj).run P w=.ok (.enter f args) w) {R:Value→World→Prop}
  (hc:Calls P f args w fun e w'=>∃v,e=.returned v∧R v w') (hSj:∀v w',R v w'→S w')
  (h1:wpAnyH P md ops Q S fuel (listed.setIfInBounds i true) {tmps:=tmps.setIfInBounds di vi,defers} Wi)
  (h2:∀v w',R v w'→wpAnyH P md ops Q S fuel (listed.setIfInBounds j true) {tmps:=tmps.setIfInBounds dj v,defers} w'):wpAnyH P md ops Q S (fuel+1) listed {tmps,defers} w:=by
 refine wpAnyH_ready hr (by simp) (AllReadyH.cons hi (fun K hK=>?_) (AllReadyH.cons hj (fun K hK=>?_) AllReadyH.nil))
 ·rw[if_pos hwi];unfold Oper.wp;rw[hei];refine hK.out _ _ hSi (fun _=>?_);rw[hdi];exact h1
 ·rw[if_pos hwj];unfold Oper.wp;rw[hej];refine hc.mono ?_;rintro e w' ⟨v,rfl,hR⟩;have:=h2 v w' hR;refine hK.out _ _ (hSj v w' hR) (fun _=>?_);rw[hdj];exact this
end
end
end Go.Proofs.YtinflmadpnigfaaGreatDoor
