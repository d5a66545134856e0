import Derived.Shelf.Strings.BuilderK
import Derived.Lib.Join
import Derived.StillTailTactics
import Derived.RegionTactic
import Derived.BigRegion
import Derived.Test.YtinflmadpnigfaaGreatDoorDY8
import Derived.Test.YtinflmadpnigfaaGreatDoorDY5
import Derived.Test.YtinflmadpnigfaaGreatDoorDY2
import Derived.Test.YtinflmadpnigfaaGreatDoorDY1
import Derived.Test.YtinflmadpnigfaaGreatDoorDY3
import Derived.Test.YtinflmadpnigfaaGreatDoorDY6
import Derived.Test.YtinflmadpnigfaaGreatDoorDY7
set_option linter.unusedVariables false
set_option linter.unusedSimpArgs false
set_option maxRecDepth 100000
set_option maxHeartbeats 16000000
namespace Go.Proofs.YtinflmadpnigfaaGreatDoor
section
open Go.RowKit
theorem yN{es:List En}{no:Int}{k:Nat}(hk:k<es.length):cP (es.drop k) no=if es[k].no=no then some es[k].name else cP (es.drop (k+1)) no:=by
 rw[List.drop_eq_getElem_cons hk,pY]
theorem G1(es:List En)(a:Option Addr)(n c:Nat)(no:Int)(w:World)(he:aA w a n c es) :
  Calls Tryz.prog 195 #[.slice a n c,.int .i64 no] w fun e w'=>e=.returned (sY (cP es no))∧Up w w':=by
 have hl:=he.len;subst hl;have eS:=he.sl.2.1;have eh:=he.sl.2.2.1;have HE:=Um he;have HS:=Um (show cP es no=cP (es.drop 0) no from rfl);generalize cP es no=out at HS⊢;clear he;go_enter Tryz.func195,Tryz.ntmps195;go_wp2_with fail
 go_loopw [10] (fun t10 wr=>∃k:Nat,k≤es.length∧t10=.int .i64 k∧out=cP (es.drop k) no∧Up w wr) (fun t10 _=>es.length-(intOf t10).toNat)
 case atStart=>exact⟨0,Nat.zero_le _,rfl,HS.o,Below.refl _ _⟩
 case round=>
  obtain⟨k,hk,rfl,hf,hb⟩:=hrel;by_cases hlt:k<es.length
  ·have o3:=HE.o.ak hb;obtain⟨b,off,rfl,hbl⟩:=o3.ey (by omega);obtain⟨c0,c1⟩:=o3.cell k hlt;rw[yN hlt] at hf;have HF:=Um hf;have HB:=Um hb;generalize es[k]=x at c0 c1 HF;clear hf hb o3;by_cases hx:x.no=no
   ·have HR:=Um (HF.o.trans (if_pos hx));have hq:(x.no==no)=true:=by simpa using hx
    clear hx;go_wp2_with fail;go_ret2;exact⟨by rw[HR.o];rfl,al HB.o _⟩
   ·have HR:=Um (HF.o.trans (if_neg hx));have hq:(x.no==no)=false:=by simpa using hx
    clear hx;go_wp2_with fail;go_roundw
    case measure=>simp[intOf];omega
    case rel=>exact⟨k+1,by omega,by go_num,HR.o,al HB.o _⟩
  ·obtain rfl:k=es.length:=by omega
   rw[List.drop_length] at hf;have HR:=Um (show out=none from hf);have HB:=Um hb;clear hf hb;go_wp2_with fail;go_ret2;exact⟨by rw[HR.o];rfl,HB.o⟩
section
variable{w w':World}{pw:Nat}{R:Rp}{S:Fs}
theorem zA(h:bh w pw R S){N:Nat}(hk:av S N)(hp:Pl S)(no base:Int) :
  Calls Tryz.prog 197 #[.pointer (some ⟨pw,0,none⟩),.int .i64 no,.int .i64 base] w fun e w'=>e=.returned (.bool (S.within no base))∧Up w w':=by
 have HS:=Um (show S.within no base=S.ew base (S.ns.length+1) no∧S.Gu (S.ns.length+1) no from⟨rfl,De hk hp no⟩);have HA:=Um (fun w1 (ar:Up w w1) x=>kG (h.ak ar) hk x);have HK:=Um (ag hk hp);generalize S.within no base=out at HS⊢;clear h hk hp;go_enter Tryz.func197,Tryz.ntmps197;go_wp2_with fail
 go_loopw [1] (fun t1 wr=>∃(k:Nat) (x:Int),t1=.int .i64 x∧out=S.ew base k x∧S.Gu k x∧Up w wr) (fun t1 _=>if intOf t1=0 then 0 else(intOf t1).toNat+1)
 case atStart=>exact⟨_,no,rfl,HS.o.1,HS.o.2,Below.refl _ _⟩
 case round=>
  obtain⟨k,x,rfl,hE,hn,hb⟩:=hrel;have HE:=Um hE;have HN:=Um hn;have HB:=Um hb;clear hE hn hb;by_cases h0:x=0
  ·have p0:(x != 0)=false:=by simpa using h0
   have HO:=Um (show out=false by rw[HE.o,h0,zE]);clear h0;go_wp2_with fail;go_ret;rw[HO.o];exact⟨rfl,HB.o⟩
  ·have p0:(x != 0)=true:=by simpa using h0
   have H0:=Um h0;clear h0;by_cases h1:x=base
   ·have p1:(x==base)=true:=by simpa using h1
    have HO:=Um (show out=true by rw[HE.o,Cp HN.o H0.o h1]);clear h1;go_wp2_with fail;go_ret;rw[HO.o];exact⟨rfl,HB.o⟩
   ·have p1:(x==base)=false:=by simpa using h1
    have H1:=Um h1;have zi:=Um (HA.o wr HB.o x);clear h1;by_cases h2:S.aQ x=x
    ·have p2:(S.aQ x==x)=true:=by simpa using h2
     have HO:=Um (show out=false by rw[HE.o,Cq h2 H1.o]);generalize S.aQ x=ab at zi p2;clear h2;go_wp2_with fail;refine zi.o.mono ?_;rintro e w1 ⟨rfl,ar⟩;have cM:=Um (ao HB.o ar);clear ar;go_wp2_with fail;go_ret;rw[HO.o];exact⟨rfl,cM.o⟩
    ·have p2:(S.aQ x==x)=false:=by simpa using h2
     have hst:=zF HK.o.1 HK.o.2 HN.o H0.o H1.o h2;have HO:=Um (show out=_ from HE.o.trans hst.1);have zw:=Um hst.2;have hup:=jJ HK.o.1 HK.o.2 h2;have u9:=Um hup;generalize S.aQ x=ab at zi p2 HO zw u9;clear h2 hst hup;go_wp2_with fail;refine zi.o.mono ?_;rintro e w1 ⟨rfl,ar⟩;have cM:=Um (ao HB.o ar);clear ar;go_wp2_with fail;go_roundw
     case rel=>exact⟨k-1,ab,rfl,HO.o,zw.o,cM.o⟩
     case measure=>
      have h0:=H0.o;show(if ab=0 then 0 else ab.toNat+1)<(if x=0 then 0 else x.toNat+1);rw[if_neg h0];rcases u9.o with h|⟨h1,h2,-,-⟩
      ·rw[if_pos h];omega
      ·rw[if_neg (by omega)];omega
theorem E9(h:bh w pw R S){N:Nat}(hk:av S N)(hp:Pl S)(no:Int) :
  Calls Tryz.prog 137 #[.pointer (some ⟨pw,0,none⟩),.int .i64 no] w fun e w'=>e=.returned (.bool (S.busy no))∧Up w w':=by
 have H':=Um (gD h hk.d1);obtain⟨g,cap,hv,hle,sI,hgl,hc,-,-⟩:=h.jm hk.d1;have yD:=hk.d1;have Nl:=hk.d8;have HS:=Um (show S.busy no=(S.ds.drop (0+1)).any (fun d=>S.within d.over no) from rfl);have HA:=Um (fun w1 (ar:Up w w1) x=>zA (h.ak ar) hk hp x no);obtain⟨pc,-,-⟩:=h.bd.facts;rw[hv] at pc;have HC:=Um (fun k (hk:k<S.ds.length)=>hc k hk);have HD:=Um (fun k (hk:k<S.ds.length)=>xB (S:=S) (no:=no) hk);obtain⟨m,hm⟩:∃m,S.ds.length=m+1:=⟨S.ds.length-1,by omega⟩;have HM:=Um hm;rw[hm] at pc hle yD Nl;generalize S.busy no=out at HS⊢;clear h hk hp hv hc hm;go_enter Tryz.func137,Tryz.ntmps137;go_wp2_with fail;refine H'.o.mono ?_;rintro e w1 ⟨rfl,rfl⟩;by_cases hcap:cap=1
 ·obtain rfl:m=0:=by omega
  subst hcap;have HO:=Um (show out=false by rw[HS.o,List.drop_of_length_le (by rw[HM.o];exact aa _)];rfl);go_wp2_with fail
  go_loopw [15] (fun t15 wr=>t15=.int .i64 0∧wr=w) (fun _ _=>0)
  case atStart=>exact⟨rfl,rfl⟩
  case round=>
   obtain⟨rfl,rfl⟩:=hrel;go_wp2_with fail;go_ret;rw[HO.o];exact⟨rfl,Below.refl _ _⟩
 ·have hcap1:¬(cap:Int)=1:=by omega
  go_wp2_with fail
  go_loopw [15] (fun t15 wr=>∃(k:Nat),k≤m∧t15=.int .i64 k∧out=(S.ds.drop (k+1)).any (fun d=>S.within d.over no)∧Up w wr) (fun t15 _=>m-(intOf t15).toNat)
  case atStart=>exact⟨0,Nat.zero_le _,rfl,HS.o,Below.refl _ _⟩
  case round=>
   obtain⟨k,ig,rfl,hE,hbw⟩:=hrel;have HE:=Um hE;have je:=Um hbw;clear hE;by_cases hlt:k<m
   ·have hkl:k+1<S.ds.length:=by rw[HM.o];omega
    obtain⟨c0,c1,c2,c3,c4,c5⟩:=HC.o (k+1) hkl;rw[←hbw.cell (p:=⟨g,(k+1)*6,none⟩) hgl,show(k+1)*6=6+k*6 by omega] at c0;rw[←hbw.cell (p:=⟨g,(k+1)*6+1,none⟩) hgl,show(k+1)*6=6+k*6 by omega] at c1;rw[←hbw.cell (p:=⟨g,(k+1)*6+2,none⟩) hgl,show(k+1)*6=6+k*6 by omega] at c2;rw[←hbw.cell (p:=⟨g,(k+1)*6+3,none⟩) hgl,show(k+1)*6=6+k*6 by omega] at c3;rw[←hbw.cell (p:=⟨g,(k+1)*6+4,none⟩) hgl,show(k+1)*6=6+k*6 by omega] at c4;rw[←hbw.cell (p:=⟨g,(k+1)*6+5,none⟩) hgl,show(k+1)*6=6+k*6 by omega] at c5;have cq:=Um (HE.o.trans (HD.o (k+1) hkl));have zi:=Um (fun w1 ar=>HA.o w1 ar S.ds[k+1].over);generalize S.ds[k+1]=v at c0 c1 c2 c3 c4 c5 cq zi;have ax:=al hbw (.cells #[.int .i64 v.root,.int .i64 v.over,.int .i64 v.b,.int .i64 v.n,.int .i64 v.mb,.int .i64 v.mn] 249);have hX:=au.new wr #[.int .i64 v.root,.int .i64 v.over,.int .i64 v.b,.int .i64 v.n,.int .i64 v.mb,.int .i64 v.mn] 249;clear hbw hkl;go_upto_region 6 with fail;generalize wr.alloc _=X at ax hX⊢;obtain⟨xc,xf,xz⟩:=hX.facts;have HAy:=Um (zi.o X ax);have aJ:=Um ax;clear ax hX c0 c1 c2 c3 c4 c5 zi
    cases hwn:S.within v.over no with
    |true=>
     rw[hwn] at cq HAy;have HO:=Um (show out=true from cq.o);go_wp2_with fail;refine HAy.o.mono ?_;rintro e w1 ⟨rfl,ar⟩;have cM:=Um (ao aJ.o ar);clear ar;go_wp2_with fail;go_ret;rw[HO.o];exact⟨rfl,cM.o⟩
    |false=>
     rw[hwn] at cq HAy;have HO:=Um (show out=(S.ds.drop (k+1+1)).any (fun d=>S.within d.over no) by rw[cq.o];rfl);go_wp2_with fail;refine HAy.o.mono ?_;rintro e w1 ⟨rfl,ar⟩;have cM:=Um (ao aJ.o ar);clear ar;go_wp2_with fail;go_roundw
     case rel=>exact⟨k+1,by omega,by go_num,HO.o,cM.o⟩
     case measure=>simp[intOf];omega
   ·obtain rfl:k=m:=by omega
    have HO:=Um (show out=false by rw[HE.o,←HM.o,List.drop_length];rfl);clear hbw;go_wp2_with fail;go_ret;rw[HO.o];exact⟨rfl,je.o⟩
def xM(S:Fs)(d:Int):Value:=match S.dev d with
 |some v=>.agg #[.int .i64 v.b,.int .i64 v.n,.int .i64 v.mb,.int .i64 v.mn]
 |none=>.agg #[.int .i64 0,.int .i64 0,.int .i64 0,.int .i64 0]
theorem EP{S:Fs}{d:Int}(h:¬(1≤d∧d≤S.ds.length)):S.dev d=none∧S.root d=0:=by
 refine⟨?_,by unfold Fs.root;rw[if_neg h]⟩;unfold Fs.dev
 split
 ·rename_i h1;rw[List.getElem?_eq_none];have:¬d≤S.ds.length:=fun h2=>h ⟨h1,h2⟩;omega
 ·rfl
theorem KN{S:Fs}{N:Nat}(hk:av S N){k:Nat}(hkl:k<S.ds.length):S.dev ((k:Int)+1)=some S.ds[k]∧S.root ((k:Int)+1)=S.ds[k].root∧S.ds[k].root≠0:=by
 refine⟨?_,?_,?_⟩
 ·unfold Fs.dev;rw[if_pos (by omega),show((k:Int)+1-1).toNat=k by omega,List.getElem?_eq_getElem hkl]
 ·unfold Fs.root;rw[if_pos ⟨by omega,by omega⟩,show((k:Int)+1-1).toNat=k by omega,List.getElem?_eq_getElem hkl]
 ·have:=(hk.root S.ds[k] (List.getElem_mem hkl)).1;omega
theorem rB{tmps:Array Value}{W:World}{B:Nat}{b n mb mn:Int}(hb:au W B #[.int .i64 b,.int .i64 n,.int .i64 mb,.int .i64 mn] 206)
  (h4:tmps.getD 4 undef=.pointer (some ⟨B,0,none⟩)):(results Tryz.f131 tmps).run Tryz.prog W=.ok (.agg #[.int .i64 b,.int .i64 n,.int .i64 mb,.int .i64 mn]) W:=by
 have q0:=hb.cell 0;have q1:=hb.cell 1;have q2:=hb.cell 2;have q3:=hb.cell 3;rw[Array.getD_eq_getD_getElem?] at h4;simp only[List.getElem?_toArray,List.getElem?_cons_zero,List.getElem?_cons_succ] at q0 q1 q2 q3;simp[results,Tryz.results131,go_sem,h4,q0,q1,q2,q3]
theorem Iy(h:bh w pw R S){N:Nat}(hk:av S N)(d:Int) :
  Calls Tryz.prog 131 #[.pointer (some ⟨pw,0,none⟩),.int .i64 d] w fun e w'=>e=.returned (xM S d)∧Up w w':=by
 have mixed:Tryz.prog.follows .mixedOrders=true:=by kernel_rfl
 have bO:=al (Uq w) (.cells #[.int .i64 0,.int .i64 0,.int .i64 0,.int .i64 0] 206);have sw:=Um (fM (h.ak bO) hk.d1 d);by_cases hd:1≤d∧d≤S.ds.length
 ·obtain⟨g,cap,hv,hle,sI,hgl,hc,-,-⟩:=h.jm hk.d1;obtain⟨pc,-,pz⟩:=h.bd.facts;rw[hv] at pc;obtain⟨k,rfl⟩:∃k:Nat,d=(k:Int)+1:=⟨(d-1).toNat,by omega⟩;have hkl:k<S.ds.length:=by omega
  obtain⟨h1,h2,h3⟩:=KN hk hkl;obtain⟨c0,c1,c2,c3,c4,c5⟩:=hc k hkl;have hu:xM S ((k:Int)+1)=.agg #[.int .i64 S.ds[k].b,.int .i64 S.ds[k].n,.int .i64 S.ds[k].mb,.int .i64 S.ds[k].mn]:=by unfold xM;rw[h1]
  have hq:(S.ds[k].root==0)=false:=by simpa using h3
  rw[h2] at sw;rw[hu];have Ps:k<S.ds.length:=hkl;generalize S.ds[k]=v at c0 c1 c2 c3 c4 c5 hq sw⊢;generalize S.ds.length=m at pc hle Ps;have c2':=(bO.cell (p:=⟨g,k*6+2,none⟩) hgl).trans c2;have c3':=(bO.cell (p:=⟨g,k*6+3,none⟩) hgl).trans c3;have c4':=(bO.cell (p:=⟨g,k*6+4,none⟩) hgl).trans c4;have c5':=(bO.cell (p:=⟨g,k*6+5,none⟩) hgl).trans c5;have pc2:=fun i=>(bO.cell (p:=⟨pw,i,none⟩) pz).trans (pc i);have hX:=au.new w #[.int .i64 0,.int .i64 0,.int .i64 0,.int .i64 0] 206;clear h hk hd hv hc hkl h1 h2 h3 hu pc c0 c1 c2 c3 c4 c5;go_enter Tryz.func131,Tryz.ntmps131;go_upto_region 1 with fail;generalize w.alloc _=X at bO sw c2' c3' c4' c5' pc2 hX⊢;obtain⟨xc,xf,xz⟩:=hX.facts;have HB:=Um bO;have HX:=Um hX;clear bO hX;go_wp2_with fail;refine sw.o.mono ?_;rintro e w1 ⟨rfl,rfl⟩;go_wp2_with fail;exact bodyPost_ret (rB HX.o.cO rfl) rfl ⟨rfl,aw HB.o (aa _)⟩
 ·obtain⟨h1,h2⟩:=EP hd;have hu:xM S d=.agg #[.int .i64 0,.int .i64 0,.int .i64 0,.int .i64 0]:=by unfold xM;rw[h1]
  rw[h2] at sw;rw[hu];have hX:=au.new w #[.int .i64 0,.int .i64 0,.int .i64 0,.int .i64 0] 206;clear h hk hd h1 h2 hu;go_enter Tryz.func131,Tryz.ntmps131;go_upto_region 1 with fail;generalize w.alloc _=X at bO sw hX⊢;obtain⟨xc,xf,xz⟩:=hX.facts;have HB:=Um bO;have HX:=Um hX;clear bO hX;go_wp2_with fail;refine sw.o.mono ?_;rintro e w1 ⟨rfl,rfl⟩;go_wp2_with fail;exact bodyPost_ret (rB HX.o.cO rfl) rfl ⟨rfl,aw HB.o (aa _)⟩
end
end
section
open Go.RowKit
def jN(b:Nat)(l:List UInt8)(w:World):Prop:=Lib.IsBuilderF 123 5 b b (Lib.byteCells l) w
theorem jN.of{b:Nat}{l:List UInt8}{w:World}(h:zy b l w):jN b l w:=Lib.IsBuilderF.of h
theorem jN.lt{b:Nat}{l:List UInt8}{w:World}(h:jN b l w):b<w.heap.size:=by
 rcases h with h|h<;>exact h.lt
theorem C'{w w':World}{base:Nat}{e:TypeId}{sz n:Nat}{v:Value}{xs:List Value}(h:w.ownsRowF base e sz v n xs)(hm:Up w w'):w'.ownsRowF base e sz v n xs:=by
 refine⟨h.1,h.2.imp id fun⟨g,cap,cur,fz,hv,hb,hg,rest⟩=>⟨g,cap,cur,fz,hv,hb,?_,rest⟩⟩;rw[hm.block g (Array.getElem?_eq_some_iff.1 hg).1];exact hg
theorem xC{T e:TypeId}{B b:Nat}{p:Value}{bs:List Value}{w w':World}(h:Lib.BuilderAtF T e B b p bs w)(hm:Up w w'):Lib.BuilderAtF T e B b p bs w':=by
 have hlt:=h.lt;obtain⟨hB,v,hb,hown,hne⟩:=h;exact⟨hB,v,(hm.block b hlt).trans hb,C' hown hm,hne⟩
theorem jN.below{b:Nat}{l:List UInt8}{w w':World}(h:jN b l w)(hm:Up w w'):jN b l w':=
 h.imp (fun h=>xC h hm) (fun h=>xC h hm)
abbrev Ci(b:Nat)(w w':World):Prop:=Lib.OthersKept 5 (some b) w w'
theorem Ci.aq{b:Nat}{w w':World}(h:Up w w'):Ci b w w':=fun k o hk _ _=>(h.block k (Array.getElem?_eq_some_iff.1 hk).1).trans hk
theorem au.Oh{w w':World}{b B:Nat}{vs:Array Value}{T:TypeId}(h:au w B vs T)(ho:Ci b w w')(hne:B≠b)(hT:T≠5):au w' B vs T:=
 ho B _ h (fun e=>hne (Option.some.inj e)) (fun c fz e=>hT (by injection e))
theorem Ma(b:Nat)(l:List UInt8)(c:UInt8)(w:World)(h:jN b l w)(hl:l.length≤1000000000) :
  Calls Tryz.prog 53 #[.pointer (some ⟨b,0,none⟩),.int .u8 c.toNat] w fun e w'=>e=.returned .nilIface∧jN b (l++[c]) w'∧Below b w w'∧Ci b w w':=by
 refine(Any.Builder_WriteByte_k Tryz.Ez Tryz.ka b b (Lib.byteCells l) c.toNat w h (by rw[gq];omega) (Nat.le_of_lt h.lt)).mono ?_;rintro e w' ⟨rfl,h1,h2,h3⟩;refine⟨rfl,.inr ?_,h2,h3⟩;have:Lib.byteCells (l++[c])=Lib.byteCells l++[.int .u8 c.toNat]:=by simp[Lib.byteCells]
 rw[this];exact h1
theorem jf(b:Nat)(l:List UInt8)(s:ByteArray)(w:World)(h:jN b l w)(hl:l.length≤1000000000)(hm:s.size≤1000000000) :
  Calls Tryz.prog 50 #[.pointer (some ⟨b,0,none⟩),.string s] w fun e w'=>e=.returned (.tuple #[.int .i64 s.size,.nilIface])∧jN b (l++s.data.toList) w'∧Below b w w'∧Ci b w w':=by
 refine(Any.Builder_WriteString_k Tryz.EA Tryz.kb b b (Lib.byteCells l) s w h (by rw[gq];omega) (Nat.le_of_lt h.lt)).mono ?_;rintro e w' ⟨rfl,h1,h2,h3⟩;refine⟨rfl,.inr ?_,h2,h3⟩;have:Lib.byteCells (l++s.data.toList)=Lib.byteCells l++Lib.strCells s:=by simp[Lib.byteCells,Lib.strCells]
 rw[this];exact h1
theorem ET(b:Nat)(l:List UInt8)(w:World)(h:jN b l w)(h0:l≠[]) :
  Calls Tryz.prog 54 #[.pointer (some ⟨b,0,none⟩)] w fun e w'=>e=.returned (.string (str l))∧Below b w w':=by
 refine(Any.Builder_String_k Tryz.Ey Tryz.j9 b b l w h h0).mono ?_;rintro e w' ⟨rfl,-,h2,-⟩;exact⟨rfl,h2⟩
theorem Ed{W w':World}{b B:Nat}{v0 v1:Value}{vs:List Value}{T:TypeId}(h:au W B (v0::v1::vs).toArray T)(hne:B≠b)(hT:T≠5)(ho:Ci b W w')(hb:Below b W w') :
  w'.cell? ⟨B,0,none⟩=some v0∧w'.cell? ⟨B,1,none⟩=some v1∧Ci b W w'∧Below b W w':=by
 have h1:=h.Oh ho hne hT;exact⟨by rw[h1.cell];rfl,by rw[h1.cell];rfl,ho,hb⟩
theorem Ec{W p w':World}{b B:Nat}{v0 v1:Value}{vs:List Value}{T:TypeId}(h:au W B (v0::v1::vs).toArray T)(hne:B≠b)(hT:T≠5)
  (hS:p.cell? ⟨B,0,none⟩=some v0∧p.cell? ⟨B,1,none⟩=some v1∧Ci b W p∧Below b W p) (ho:Ci b p w') (hb:Below b p w') :
  w'.cell? ⟨B,0,none⟩=some v0∧w'.cell? ⟨B,1,none⟩=some v1∧Ci b W w'∧Below b W w':=Ed h hne hT (hS.2.2.1.trans ho) (hS.2.2.2.trans hb)
theorem O1{W p w':World}{b B:Nat}{v0 v1:Value}{vs:List Value}{T:TypeId}(h:au W B (v0::v1::vs).toArray T)(hne:B≠b)(hT:T≠5)(lS:b≤W.heap.size)
  (hS:p.cell? ⟨B,0,none⟩=some v0∧p.cell? ⟨B,1,none⟩=some v1∧Ci b W p∧Below b W p) (hb:Up p w') :
  w'.cell? ⟨B,0,none⟩=some v0∧w'.cell? ⟨B,1,none⟩=some v1∧Ci b W w'∧Below b W w':=Ec h hne hT hS (Ci.aq hb) (hb.mono (ae lS hS.2.2.2.size))
end
section
open Go.RowKit
instance Sb:LawfulBEq ByteArray where
 eq_of_beq {a b} h:=by
  obtain⟨a⟩:=a;obtain⟨b⟩:=b;have h2:(a==b)=true:=h;rw[eq_of_beq h2]
 rfl {a}:=by
  obtain⟨a⟩:=a;show(a==a)=true;simp
def entS(x:ByteArray×Value×Nat):MapEntry:={key:=.string x.1,val:=x.2.1,born:=x.2.2}
def MapBS(w:World)(m:Nat)(l:List (ByteArray×Value×Nat))(ga:Nat):Prop:=w.heap[m]?=some (.map (l.map entS).toArray ga)
def Rb(l:List (ByteArray×Value×Nat)):Prop:=(l.map (·.1)).Nodup
def Sa(l:List (ByteArray×Value×Nat))(k:ByteArray):Option Value:=(l.find? (fun x=>x.1==k)).map (·.2.1)
def mapPutS(l:List (ByteArray×Value×Nat))(k:ByteArray)(v:Value):List (ByteArray×Value×Nat):=l.map fun x=>if x.1==k then(k,v,x.2.2) else x
def mapDelS(l:List (ByteArray×Value×Nat))(k:ByteArray):List (ByteArray×Value×Nat):=l.filter fun x=>!(x.1==k)
section
variable{P:Program}{K E T:TypeId}{w:World}{m:Nat}{l:List (ByteArray×Value×Nat)}{ga:Nat}
end
end
section
open Go.RowKit
def ddB:List UInt8:=[46,46]
def clS(whole:Bool)(out:List (List UInt8))(p:List UInt8):List (List UInt8):=
 if p≠ddB then out++[p] else if out≠[]∧out.getLast?≠some ddB then out.dropLast else if whole then out else out++[p]
def clL(whole:Bool)(l:List (List UInt8)):List (List UInt8):=l.foldl (clS whole) []
def OW(s:List UInt8):Bool:=s.head?==some 47
def P'(s:List UInt8):List UInt8:=
 if OW s then 47::Lib.join (clL true (bE s)) [47] else if Lib.join (clL false (bE s)) [47]=[] then[46] else Lib.join (clL false (bE s)) [47]
def cleanB(s:ByteArray):ByteArray:=str (P' s.data.toList)
def onceL(l:List ByteArray):List ByteArray:=l.foldl (fun out p=>if p∈out then out else out++[p]) []
end
section
open Go.RowKit
theorem su{α:Type}{p:α→Bool}(l:List α)(k:Nat)(hk:k<l.length)(h:p l[k]=true):(l.take (k+1)).filter p=(l.take k).filter p++[l[k]]:=by
 rw[List.take_succ_eq_append_getElem hk,List.filter_append];simp[h]
theorem uz{α:Type}{p:α→Bool}(l:List α)(k:Nat)(hk:k<l.length)(h:p l[k]=false):(l.take (k+1)).filter p=(l.take k).filter p:=by
 rw[List.take_succ_eq_append_getElem hk,List.filter_append];simp[h]
theorem OS.len{w:World}{base:Nat}{v:Value}{ls:List (List UInt8)}(h:OS w base v ls):∃a c,v=.slice a ls.length c∧ls.length≤c∧c≤9223372036854775807:=by
 obtain⟨a,c,h1,h2,h3,-⟩:=bw h;exact⟨a,c,h1,h2,h3⟩
theorem OS.wX{w w':World}{base:Nat}{v:Value}{ls:List (List UInt8)}(h:OS w base v ls)(hb:Up w w'):OS w' base v ls:=bY h hb (aa _)
theorem OS.at'{w:World}{base c:Nat}{a:Option Addr}{ls:List (List UInt8)}(h:OS w base (.slice a ls.length c) ls)(k:Nat)(hk:k<ls.length):∃g,a=some ⟨g,0,none⟩∧g<w.heap.size∧w.cell? ⟨g,k,none⟩=some (.string (str ls[k])):=by
 obtain⟨a',c',hv,-,-,h1⟩:=bw h;injection hv with e1 e2 e3;subst e1;subst e3;rcases h1 with⟨-,h2,-⟩|⟨g,rfl,-,h3⟩
 ·omega
 ·exact⟨g,rfl,h3,h.cell k hk⟩
theorem OS.low2{w:World}{base base':Nat}{v:Value}{ls:List (List UInt8)}(h:OS w base v ls)(hb:base'≤base):OS w base' v ls:=
 ⟨h.1,h.2.imp id fun⟨g,cap,cur,hv,hg,rest⟩=>⟨g,cap,cur,hv,ae hb hg,rest⟩⟩
def tk(p:List UInt8):Bool:=!(p==[]) && !(p==[46])
theorem tw(s:ByteArray)(w:World)(hs:s.size≤100000) :
  Calls Tryz.prog 186 #[.string s] w fun e w'=>(∃v,e=.returned v∧OS w' w.heap.size v (bE s.data.toList))∧Up w w':=by
 have Re:=Um (kU s w (by omega));have Qw:=Um (show bE s.data.toList=(dB 47 s.data.toList).filter tk from rfl);have hlen:(dB 47 s.data.toList).length≤100001:=by
  have h1:=(dM 47 s.data.toList).2;have h2:s.data.toList.length=s.size:=Array.length_toList;omega
 generalize bE s.data.toList=R at Qw⊢;generalize dB 47 s.data.toList=ls at Re Qw hlen;go_enter Tryz.func186,Tryz.ntmps186;go_wp2_with fail;refine Re.o.mono ?_;rintro e w1 ⟨⟨g,cap,rfl,hO⟩,ar⟩;have HO:=Um hO;have HB:=Um ar;have pO:=ar.size;clear hO ar;go_wp2_with fail
 go_loopw [3,5] (fun t3 t5 wr=>∃(k:Nat),k≤ls.length∧t5=.int .i64 k∧OS wr w1.heap.size t3 ((ls.take k).filter tk)∧Up w1 wr) (fun _ t5 _=>ls.length-(intOf t5).toNat)
 case atStart=>exact⟨0,Nat.zero_le _,rfl,⟨rfl,.inl ⟨rfl,rfl⟩⟩,Below.refl _ _⟩
 case round=>
  obtain⟨k,hk,rfl,lj,hW⟩:=hrel;have o5:=Um lj;have HW:=Um hW;by_cases hlt:k<ls.length
  ·obtain⟨g',hg',hgl,hcl⟩:=(HO.o.wX hW).at' k hlt;injection hg' with hg';injection hg' with e1;subst e1;have NW:=Um (su (p:=tk) ls k hlt);have fL:=Um (uz (p:=tk) ls k hlt);have hfl:((ls.take k).filter tk).length≤1000000:=by
    have h1:=List.length_filter_le tk (ls.take k);have h2:(ls.take k).length≤ls.length:=by rw[List.length_take];omega
    omega
   obtain⟨g2,cap2,W,hrun,iW,eM⟩:=lj.app ls[k] (by omega) hW.size;have HX:=Um (ag iW eM);have BW:=Um (aC (str ls[k]));rw[aH] at BW;generalize ls[k]=x at hcl NW fL hrun HX BW;generalize str x=p at hcl hrun BW;clear lj hW iW eM hfl;by_cases h1:p.toList=[]
   ·have HN:=Um (fL.o (by rw[←BW.o,h1];rfl));clear hrun;go_wp2_with fail;go_roundw
    case measure=>simp[intOf];omega
    case rel=>exact⟨k+1,by omega,by go_num,by rw[HN.o];exact o5.o,HW.o⟩
   ·by_cases h2:p.toList=[46]
    ·have HN:=Um (fL.o (by rw[←BW.o,h2];rfl));clear hrun;go_wp2_with fail;go_roundw
     case measure=>simp[intOf];omega
     case rel=>exact⟨k+1,by omega,by go_num,by rw[HN.o];exact o5.o,HW.o⟩
    ·have HY:=Um (NW.o (by rw[←BW.o];unfold tk;simp[h1,h2]));have mC:p.toList.isEmpty=false:=by simpa using h1
     have Pn:(p.toList==[46])=false:=by simpa using h2
     have HR:=Um hrun;clear h1 h2 hrun;go_wp2_with (at_builtin;refine aG rfl rfl rfl rfl HR.o ?_);go_roundw
     case measure=>simp[intOf];omega
     case rel=>exact⟨k+1,by omega,by go_num,by rw[HY.o];exact HX.o.1,HW.o.trans HX.o.2⟩
  ·obtain rfl:k=ls.length:=by omega
   rw[List.take_length,←Qw.o] at o5;clear lj hW;go_wp2_with fail;go_ret;exact⟨⟨_,rfl,o5.o.low2 pO⟩,ao HB.o HW.o⟩
end
section
open Go.RowKit
theorem G'(b:Nat)(l:List UInt8)(w:World)(h:jN b l w) :
  Calls Tryz.prog 196 #[.pointer (some ⟨b,0,none⟩)] w fun e w'=>e=.returned (.int .i64 l.length)∧w'=w:=by
 refine(Tryz.Builder_Len_f b b (Lib.byteCells l) w h).mono ?_;rintro e w' ⟨rfl,rfl⟩;exact⟨by rw[gq],rfl⟩
theorem G9(x:List UInt8)(l:List (List UInt8)):iY (x::l)=iY l++(47::x):=by simp[iY]
section
variable{w w':World}{pw:Nat}{R:Rp}{S:Fs}
theorem OX(h:bh w pw R S)(k:Int):∃a ea el ec b,aA w ea el ec a.aB∧a.aB=S.dg k∧(S.get k=some a∧b=true∨(S.get k=none∧a=dh∧b=false))∧
  ∀w1,Up w w1→Calls Tryz.prog 106 #[.pointer (some ⟨R.pt,0,none⟩),.int .i64 k] w1 fun e w'=>e=.returned (.tuple #[.agg #[.int .i64 a.no,.int .i64 a.dev,.int .i64 a.kind,.int .i64 a.mode,.int .i64 a.uid,.int .i64 a.gid,.int .i64 a.mtime,.int .i64 a.ctime,.int .i64 a.an,.int .i64 a.up,.string a.data,.slice ea el ec],.bool b])∧Up w1 w':=by
 cases hg:S.get k with
 |none=>exact⟨dh,none,0,0,false,aA.nil w,by unfold Fs.dg;rw[hg];rfl,.inr ⟨rfl,rfl,rfl⟩,fun w1 hb=>fN (h.ak hb) hg⟩
 |some a=>
  obtain⟨ea,el,ec,he,hc⟩:=eA h hg;exact⟨a,ea,el,ec,true,he,by unfold Fs.dg;rw[hg],.inl ⟨rfl,rfl⟩,hc⟩
theorem NN{N:Nat}(hk:av S N)(hp:Pl S){x:Int}(hu:S.aQ x≠x){a:An}{b:Bool}(h:S.get x=some a∧b=true∨(S.get x=none∧a=dh∧b=false)) :
  (S.root a.dev≠x→S.child x=x)∧(S.root a.dev=x→∃(k:Nat) (hkl:k<S.ds.length),a.dev=(k:Int)+1∧S.child x=S.ds[k].over):=by
 rcases h with⟨h,-⟩|⟨h,rfl,-⟩
 ·refine⟨fun hr=>DO h hr,fun hr=>?_⟩;have h1:x≠1:=by
   rintro rfl;exact hu (xF hk hp)
  obtain⟨yD,v,hv,hc⟩:=DP hk hp h hr h1;have nP:=(hk.get h).1.dev.2;have hkl:(a.dev-1).toNat<S.ds.length:=by omega
  refine⟨(a.dev-1).toNat,hkl,by omega,?_⟩;rw[hc];unfold Fs.dev at hv;rw[if_pos (by omega),List.getElem?_eq_getElem hkl] at hv;injection hv with hv;rw[hv]
 ·refine⟨fun _=>uO h,fun hr=>?_⟩;exfalso;have h0:S.root dh.dev=0:=by unfold Fs.root;rw[if_neg (fun h=>absurd h.1 (by decide))]
  rw[h0] at hr;rw[←hr,uW hk] at hu;exact hu rfl
theorem G0{x:Int}{nm:ByteArray}{c:Int}(h:cP (S.dg x) c=some nm){a:An}{b:Bool}(hg:S.get x=some a∧b=true∨(S.get x=none∧a=dh∧b=false)):b=true:=by
 rcases hg with⟨-,h⟩|⟨hg,-⟩
 ·exact h
 ·unfold Fs.dg at h;rw[hg] at h
  cases h
theorem Mc{N:Nat}(hk:av S N)(hp:Pl S){x c:Int}{nm:ByteArray}(hu:S.aQ x≠x)(h:cP (S.dg (S.aQ x)) c=some nm):(S.aQ x).toNat<x.toNat:=by
 rcases jJ hk hp hu with h0|⟨h1,h2,-,-⟩
 ·rw[h0,qV hk] at h
  cases h
 ·omega
theorem Cm(h:bh w pw R S){N:Nat}(hk:av S N)(hp:Pl S)(hl:S.ns.length≤100000)(no:Int) :
  Calls Tryz.prog 132 #[.pointer (some ⟨pw,0,none⟩),.int .i64 no] w fun e w'=>e=.returned (sY (S.fZ no))∧Up w w':=by
 have H':=Um (gD h hk.d1);obtain⟨g,cap,hv,hle,sI,hgl,hcd,-,-⟩:=h.jm hk.d1;have yD:=hk.d1;have Nl:=hk.d8;have HA:=Um (fun w1 (ar:Up w w1) x=>kG (h.ak ar) hk x);have sw:=Um (fun w1 (ar:Up w w1) x=>fM (h.ak ar) hk.d1 x);have HG:=Um (fun w1 (ar:Up w w1) x=>OX (h.ak ar) x);have Qh:=Um (qe.start hp no);have hb:=h.bd;rw[hv] at hb;have HB:=Um hb;have HC:=Um (fun k (hk:k<S.ds.length)=>(hcd k hk).c1);have HK:=Um (ag hk hp);have HL:=Um hl;obtain⟨m,hm⟩:∃m,S.ds.length=m:=⟨_,rfl⟩;have HM:=Um hm;rw[hm] at HB hle yD Nl;have mixed:Tryz.prog.follows .mixedOrders=true:=by kernel_rfl
 have Dq:(0:Int)<(m:Int):=by omega
 clear h hk hp hv hb hcd hm hl;go_enter Tryz.func132,Tryz.ntmps132;go_wp2_with fail;refine H'.o.mono ?_;rintro e w1 ⟨rfl,rfl⟩;go_wp2_with fail;refine(HA.o w (Below.refl _ _) no).mono ?_;rintro e w1 ⟨rfl,ar⟩;have cM:=Um ar;clear ar;go_wp2_with fail
 go_loopw [1,6,7] (fun t1 t6 t7 wr=>∃(x:Int) (l:List (List UInt8)),t1=.int .i64 x∧t7=.int .i64 (S.aQ x)∧OS wr w.heap.size t6 l∧qe S no x l∧Up w wr) (fun t1 _ _ _=>(intOf t1).toNat)
 case atStart=>exact⟨no,[],rfl,rfl,OS.nil _ _,Qh.o,cM.o⟩
 case round=>
  obtain⟨x,l,rfl,rfl,hO,hW,hbw⟩:=hrel;obtain⟨la,lc,rfl,hlc1,hlc2⟩:=hO.len;have HO:=Um hO;have HW:=Um hW;have je:=Um hbw;have hlen:l.length≤100000:=ae hW.BB HL.o;obtain⟨bc,bf,bz⟩:=(HB.o.ak hbw).facts;clear hO hW;by_cases hx:S.aQ x=x
  ·have px:(S.aQ x != x)=false:=by simpa using hx
   have HX:=Um hx;have HTop:=Um (fun(h1:x=1)=>(show qe S no 1 l from h1▸HW.o).top HK.o.1 HK.o.2);have Qj:=Um (fun(h1:x≠1)=>HW.o.other HK.o.1 HK.o.2 HX.o h1);have LU:=Um HW.o.small;generalize S.aQ x=ab at px⊢;obtain⟨w0,hw0⟩:∃w0,w0=wr:=⟨_,rfl⟩;subst hw0;have PM:=jN.of (zy.new w0);have ax:=(Uq w0).alloc (aa _) (.cells #[.pointer none,.slice none 0 0] 123);clear hx hbw bc bf bz;go_upto_region 17 with fail;generalize w0.alloc _=X at PM ax⊢;have Lt:=Um PM;have aJ:=Um ax;clear PM ax;go_wp2_with fail
   go_loopw [15] (fun t15 w3=>∃i:Int,-1≤i∧i<l.length∧t15=.int .i64 i∧jN w0.heap.size (iY (l.drop (i+1).toNat)) w3∧Up w0 w3) (fun t15 _=>(intOf t15+1).toNat)
   case atStart=>exact⟨(l.length:Int)-1,by omega,by omega,by go_num,by rw[show((l.length:Int)-1+1).toNat=l.length by omega,List.drop_length];exact Lt.o,aJ.o⟩
   case round=>
    obtain⟨i,Nh,Dt,rfl,rW,bJ⟩:=hrel;have ez:=Um rW;have Hb3:=Um bJ;clear rW bJ;by_cases h0:0≤i
    ·obtain⟨j,rfl⟩:=Int.eq_ofNat_of_zero_le h0;have hjl:j<l.length:=by omega
     have hge:(0:Int)≤(j:Int):=h0;have LN:OS wr w.heap.size (.slice la l.length lc) l:=bY HO.o Hb3.o (aa _);obtain⟨g3,rfl,SD,hcl⟩:=LN.at' j hjl;have hsm:=LU.o l[j] (List.getElem_mem hjl);have HQ:=Um (show iY (l.drop ((j:Int)-1+1).toNat)=iY (l.drop ((j:Int)+1).toNat)++(47::l[j]) by
      rw[show((j:Int)-1+1).toNat=j by omega,show((j:Int)+1).toNat=j+1 by omega,List.drop_eq_getElem_cons hjl,G9])
     have Nn:(iY (l.drop ((j:Int)+1).toNat)).length≤1000000000:=by
      have h1:=KZ (l:=l.drop ((j:Int)+1).toNat) (fun x hx=>LU.o x (List.mem_of_mem_drop hx));have h2:(l.drop ((j:Int)+1).toNat).length≤l.length:=by rw[List.length_drop];omega
      omega
     have hqs:=aP l[j];have gr:=Um (show(ByteArray.mk #[47]++str l[j]).data.toList=47::l[j] by
      rw[show ByteArray.mk #[47]=str [47] from rfl,aY,aH];rfl)
     have hss:(ByteArray.mk #[47]++str l[j]).size≤1000000000:=by
      rw[ByteArray.size_append];show 1+(str l[j]).size≤_;omega
     have EW:=Um (jf w0.heap.size (iY (l.drop ((j:Int)+1).toNat)) (ByteArray.mk #[47]++str l[j]) wr ez.o Nn hss);rw[gr.o,←HQ.o] at EW;have J3:¬9223372036854775807<1+(str l[j]).size:=by omega
     generalize str l[j]=q at hcl EW J3;clear h0 LN hsm HQ Nn hqs gr hss;go_wp2_with fail;refine EW.o.mono ?_;rintro e w5 ⟨rfl,Im,b9,-⟩;have hZ:=Um Im;have Hb5:=Um (Hb3.o.trans b9);clear Im b9;go_wp2_with fail;go_roundw
     case measure=>simp[intOf]
     case rel=>exact⟨(j:Int)-1,by omega,by omega,by go_num,hZ.o,Hb5.o⟩
    ·obtain rfl:i=-1:=by omega
     rw[show((-1:Int)+1).toNat=0 from rfl,List.drop_zero] at ez;have Hbb:=Um (je.o.trans (Hb3.o.mono je.o.size));clear h0 Nh Dt;by_cases h1:x=1
     ·have p1:(x != 1)=false:=by simpa using h1
      have l8:=Um (HTop.o h1);have lD:=Um (G' w0.heap.size (iY l) wr ez.o);clear h1;by_cases dL:l=[]
      ·rw[if_pos dL] at l8;have hz:(((iY l).length:Int)==0)=true:=by rw[dL];rfl
       generalize ((iY l).length:Int)=ln at hz lD;clear dL;go_wp2_with fail;refine lD.o.mono ?_;rintro e w6 ⟨rfl,rfl⟩;go_wp2_with fail;go_ret2;rw[l8.o];exact⟨rfl,Hbb.o⟩
      ·rw[if_neg dL] at l8;have hne:iY l≠[]:=fun h=>dL ((BN l).1 h);have hz:(((iY l).length:Int)==0)=false:=by
        simp only[beq_eq_false_iff_ne,ne_eq];intro h;exact hne (List.eq_nil_of_length_eq_zero (by omega))
       have HSs:=Um (ET w0.heap.size (iY l) wr ez.o hne);generalize ((iY l).length:Int)=ln at hz lD;generalize str (iY l)=z at HSs l8;clear dL hne;go_wp2_with fail;refine lD.o.mono ?_;rintro e w6 ⟨rfl,rfl⟩;go_wp2_with fail;refine HSs.o.mono ?_;rintro e w7 ⟨rfl,yE⟩;have Hb7:=Um (Hbb.o.trans (yE.mono je.o.size));clear yE;go_wp2_with fail;go_ret2;rw[l8.o];exact⟨rfl,Hb7.o⟩
     ·have p1:(x != 1)=true:=by simpa using h1
      have l8:=Um (Qj.o h1);clear h1;go_wp2_with fail;go_ret2;rw[l8.o];exact⟨rfl,Hbb.o⟩
  ·have px:(S.aQ x != x)=true:=by simpa using hx
   have HX:=Um hx;obtain⟨up,hup⟩:∃y,S.aQ x=y:=⟨_,rfl⟩;have u9:=Um hup;rw[hup] at px⊢;obtain⟨a,ea,el,ec,ab,-,-,hga,hcg⟩:=HG.o wr hbw x;have L9:=Um (hcg wr (Below.refl _ _));have OR:=Um (NN HK.o.1 HK.o.2 hx hga);clear hcg hga hx hup;go_wp2_with fail;refine L9.o.mono ?_;rintro e w2 ⟨rfl,aD⟩;have ax:=al (ao je.o aD) (.cells #[.int .i64 a.no,.int .i64 a.dev,.int .i64 a.kind,.int .i64 a.mode,.int .i64 a.uid,.int .i64 a.gid,.int .i64 a.mtime,.int .i64 a.ctime,.int .i64 a.an,.int .i64 a.up,.string a.data,.slice ea el ec] 99);have bJ:=al aD (.cells #[.int .i64 a.no,.int .i64 a.dev,.int .i64 a.kind,.int .i64 a.mode,.int .i64 a.uid,.int .i64 a.gid,.int .i64 a.mtime,.int .i64 a.ctime,.int .i64 a.an,.int .i64 a.up,.string a.data,.slice ea el ec] 99);have hX:=au.new w2 #[.int .i64 a.no,.int .i64 a.dev,.int .i64 a.kind,.int .i64 a.mode,.int .i64 a.uid,.int .i64 a.gid,.int .i64 a.mtime,.int .i64 a.ctime,.int .i64 a.an,.int .i64 a.up,.string a.data,.slice ea el ec] 99;clear aD L9 bc bf bz hbw;go_upto_region 8 with fail;generalize w2.alloc _=X at ax hX bJ⊢;have aJ:=Um ax;have LZ:=Um (HO.o.wX bJ);obtain⟨xc,xf,xz⟩:=hX.facts;obtain⟨bc,bf,bz⟩:=(HB.o.ak ax).facts;have TL:=Um (sw.o X ax a.dev);clear bJ hX ax HO je;obtain⟨ch,hch⟩:∃y,S.child x=y:=⟨_,rfl⟩;have Qy:=Um hch;rw[hch] at OR;clear hch
   go_cut [41] from 21 to 78 (fun t41 wx=>t41=.bool (S.root a.dev==x)∧wx=X)
   case first=>
    have hgoal:∀z:Bool,(Value.bool z=Value.bool z∧X=X):=fun _=>⟨rfl,rfl⟩;go_wp2_with fail;refine TL.o.mono ?_;rintro e w3 ⟨rfl,rfl⟩;go_wp2_with fail;go_meet;exact⟨rfl,rfl⟩
   case rest=>
   obtain⟨rfl,rfl⟩:=hcut
   go_step
   go_cut [1] from 21 to 78 (fun t1 wx=>t1=.int .i64 ch∧Up wc wx)
   case first=>
    by_cases h3:S.root a.dev=x
    ·have q3:(S.root a.dev==x)=true:=by simpa using h3
     obtain⟨j,hjl,hj,hco⟩:=OR.o.2 h3;have cc:=(aJ.o.cell (p:=⟨g,j*6+1,none⟩) hgl).trans (HC.o j hjl);have Ds:(j:Int)<(m:Int):=by have:=HM.o;omega
     have l8:=Um hco;generalize S.ds[j].over=ov at cc l8;have J7:g<wc.heap.size:=Nat.lt_of_lt_of_le hgl aJ.o.size;have Sg:IntKind.i64.wrap ((j:Int)+1-1)=(j:Int):=by simp[IntKind.wrap,IntKind.bits,IntKind.signed];omega
     have Sf:IntKind.i64.wrap (j:Int)=(j:Int):=by simp[IntKind.wrap,IntKind.bits,IntKind.signed];omega
     have Ng:(0:Int)≤(j:Int)∧((j:Int)).toNat=j:=by omega
     obtain⟨hk1',hk3'⟩:=Ng;generalize (S.root a.dev==x)=dd at q3⊢;subst q3;rw[hj] at xc;clear h3 hjl hco hj;go_wp2_with fail
     go_quiet (fail)
     go_wp2_with fail;go_meet;exact⟨by rw[l8.o],below_drewN (Below.refl _ _) _⟩
    ·have q3:(S.root a.dev==x)=false:=by simpa using h3
     have l8:=Um (OR.o.1 h3);generalize (S.root a.dev==x)=dd at q3⊢;subst q3;clear h3;go_wp2_with fail;go_meet;exact⟨by rw[l8.o],Below.refl _ _⟩
   case rest=>
   obtain⟨rfl,hbc⟩:=hcut;have HBc:=Um (ao aJ.o hbc);have HOc:=Um (LZ.o.wX hbc);obtain⟨a2,fa,fl,fc,b2,hents,hee,SB,hcg⟩:=HG.o wc HBc.o up;have L9:=Um (hcg wc (Below.refl _ _));have jM:=Um (fun hn=>HW.o.fail HK.o.1 HK.o.2 HX.o hn);have Lo:=Um (fun s hn=>HW.o.more HK.o.1 HK.o.2 HX.o (s:=s) hn);have j7:=Um (fun nm hn=>G0 (S:=S) (x:=up) (nm:=nm) (c:=ch) hn SB);have Lr:=Um (fun s hn=>Mc HK.o.1 HK.o.2 (c:=ch) (nm:=s) HX.o hn);rw[u9.o,←hee] at Lr;rw[Qy.o,u9.o,←hee] at jM Lo;rw[←hee] at j7;generalize a2.aB=es at hents jM Lo j7 Lr;have Ly:=Um hents;clear hbc hcg hents hee SB xc xf xz bc bf bz aJ LZ TL;obtain⟨bc,bf,bz⟩:=(HB.o.ak HBc.o).facts;go_wp2_with fail;refine L9.o.mono ?_;rintro e w4 ⟨rfl,dI⟩;have et:=al (ao HBc.o dI) (.cells #[.int .i64 a2.no,.int .i64 a2.dev,.int .i64 a2.kind,.int .i64 a2.mode,.int .i64 a2.uid,.int .i64 a2.gid,.int .i64 a2.mtime,.int .i64 a2.ctime,.int .i64 a2.an,.int .i64 a2.up,.string a2.data,.slice fa fl fc] 99);have b9:=al dI (.cells #[.int .i64 a2.no,.int .i64 a2.dev,.int .i64 a2.kind,.int .i64 a2.mode,.int .i64 a2.uid,.int .i64 a2.gid,.int .i64 a2.mtime,.int .i64 a2.ctime,.int .i64 a2.an,.int .i64 a2.up,.string a2.data,.slice fa fl fc] 99);have hY:=au.new w4 #[.int .i64 a2.no,.int .i64 a2.dev,.int .i64 a2.kind,.int .i64 a2.mode,.int .i64 a2.uid,.int .i64 a2.gid,.int .i64 a2.mtime,.int .i64 a2.ctime,.int .i64 a2.an,.int .i64 a2.up,.string a2.data,.slice fa fl fc] 99;clear dI L9;go_upto_region 11 with fail;generalize w4.alloc _=Y at et hY b9⊢;have jQ:=Um et;have HOY:=Um (HOc.o.wX b9);obtain⟨yc,yf,yz⟩:=hY.facts;have sx:=Um (G1 es fa fl fc ch Y (Ly.o.ak b9));unfold sY at sx;clear b9 hY et HBc HOc Ly
   cases ho:cP es ch with
   |none=>
    rw[ho] at sx;have l8:=Um (show S.fZ no=none from jM.o ho);simp only[Option.getD_none,Option.isSome_none] at sx;clear ho
    cases b2 with
    |false=>
     go_wp2_with fail;refine sx.o.mono ?_;rintro e w6 ⟨rfl,eV⟩;have sP:=Um (ao jQ.o eV);clear eV yc yf yz;go_wp2_with fail;go_ret2;rw[l8.o];exact⟨rfl,sP.o⟩
    |true=>
     go_wp2_with fail;refine sx.o.mono ?_;rintro e w6 ⟨rfl,eV⟩;have sP:=Um (ao jQ.o eV);clear eV yc yf yz;go_wp2_with fail;go_ret2;rw[l8.o];exact⟨rfl,sP.o⟩
   |some nm=>
    rw[ho] at sx;simp only[Option.getD_some,Option.isSome_some] at sx;obtain rfl:b2=true:=j7.o nm ho;have HMr:=Um (Lo.o nm ho);have sA:=Um (Lr.o nm ho);clear ho;go_wp2_with fail;refine sx.o.mono ?_;rintro e w6 ⟨rfl,eV⟩;have Il:=ao jQ.o eV;obtain⟨g2,cap2,W,hrun,hO7,PW⟩:=(HOY.o.wX eV).app nm.data.toList (by omega) Il.size;rw[eC] at hrun;have HR:=Um hrun;have N5:=Um hO7;have sC:=Um (Il.trans PW);have HAu:=Um (HA.o W sC.o up);clear eV yc yf yz hrun hO7 PW Il;go_wp2_with (at_builtin;refine aG rfl rfl rfl rfl HR.o ?_);refine HAu.o.mono ?_;rintro e w8 ⟨rfl,lT⟩;have E3:=Um (ao sC.o lT);have HO8:=Um (N5.o.wX lT);clear lT;go_wp2_with fail;go_roundw
    case measure=>exact sA.o
    case rel=>exact⟨up,l++[nm.data.toList],rfl,rfl,HO8.o,HMr.o.1,E3.o⟩
end
end
section
open Go.RowKit
section
variable{w w':World}{pw:Nat}{R:Rp}{S:Fs}
theorem Ns{S:Fs}{c:Cr}{now no dir:Int}{s:ByteArray}(h:S.aW c dir s≠0):S.eL c now no dir s=(S,S.aW c dir s):=by unfold Fs.eL;rw[if_pos h]
theorem GM{S:Fs}{c:Cr}{now no dir:Int}{s:ByteArray}{d:An}(h:S.aW c dir s=0)(hg:S.get dir=some d)(hn:S.get no=none):S.eL c now no dir s=(S,5):=by
 unfold Fs.eL;rw[if_neg (by simp[h]),hg,hn]
theorem Nu{S:Fs}{c:Cr}{now no dir:Int}{s:ByteArray}{d n:An}(h:S.aW c dir s=0)(hg:S.get dir=some d)(hn:S.get no=some n):S.eL c now no dir s =
  if n.kind=1 then(S,4) else if aN d.aB s≠0 then(S,7) else if n.dev≠d.dev then(S,11) else if 1000≤n.an then(S,18)
  else((S.set {n with an:=n.an+1,ctime:=now}).dk now dir (dy d.aB s no),0):=by
 unfold Fs.eL;rw[if_neg (by simp[h]),hg,hn]
theorem F6{S:Fs}{c:Cr}{dir:Int}{s:ByteArray}{d:An}(h:S.aW c dir s=0)(hg:S.get dir=some d):d.kind=1:=by
 unfold Fs.aW at h;rw[hg] at h;simp only at h;by_cases hk:d.kind=1
 ·exact hk
 ·rw[if_pos hk] at h;cases h
theorem Kh(h:bh w pw R S){N:Nat}(hk:av S N)(hN:N≤999999)(c:Cr)(now no dir:Int)(s:ByteArray)(hs:s.size≤9223372036854775807) :
  Calls Tryz.prog 212 #[.pointer (some ⟨pw,0,none⟩),.agg #[.int .i64 c.u,.int .i64 c.g],.int .i64 now,.int .i64 no,.int .i64 dir,.string s] w fun e w'=>
   e=.returned (.int .i64 (S.eL c now no dir s).2)∧∃R',bh w' pw R' (S.eL c now no dir s).1∧aL (R.F pw) (R'.F pw) w w':=by
 have HP:=Um (fun w1 (ar:Up w w1)=>wo (h.ak ar) hk c dir s hs);have HW:=Um h;have HK:=Um hk;have mixed:Tryz.prog.follows .mixedOrders=true:=by kernel_rfl
 obtain⟨pc,-,pz⟩:=h.bd.facts;have vr:=Um (fun w1 (ar:Up w w1)=>show w1.cell? ⟨pw,0,none⟩=some (.pointer (some ⟨R.pt,0,none⟩)) from(ar.cell (p:=⟨pw,0,none⟩) pz).trans (pc 0));clear h hk;go_enter Tryz.func212,Tryz.ntmps212;go_wp2_with fail;refine(HP.o _ (al (Below.refl _ _) _)).mono ?_;clear HP pc pz;rintro e w1 ⟨⟨h0,rfl⟩|⟨h0,d,ea,el,ec,hg,rfl,he⟩,ar⟩
 ·have ax:=ao (al (Uq w) _) ar;have HB:=Um ax;have HC:=Um (Ns (now:=now) (no:=no) h0);have hz:(S.aW c dir s==0)=false:=by simpa using h0
  generalize S.aW c dir s=pe at HC hz⊢;unfold An.v dh;clear h0 ar ax;go_wp2_with fail;go_ret;rw[HC.o];exact⟨rfl,R,HW.o.ak (al HB.o _),aL.aq (al HB.o _)⟩
 ·have ax:=al ar (.cells #[.int .i64 d.no,.int .i64 d.dev,.int .i64 d.kind,.int .i64 d.mode,.int .i64 d.uid,.int .i64 d.gid,.int .i64 d.mtime,.int .i64 d.ctime,.int .i64 d.an,.int .i64 d.up,.string d.data,.slice ea el ec] 99);have gJ:=au.new w1 #[.int .i64 d.no,.int .i64 d.dev,.int .i64 d.kind,.int .i64 d.mode,.int .i64 d.uid,.int .i64 d.gid,.int .i64 d.mtime,.int .i64 d.ctime,.int .i64 d.an,.int .i64 d.up,.string d.data,.slice ea el ec] 99;have GG:=ar.size;have HE:=Um he;have HG:=Um hg;have HKD:=Um (F6 h0 hg);have H0:=Um h0;unfold An.v;clear h0 ar he hg;go_upto_region 2 with fail;generalize w1.alloc _=X at ax gJ⊢;have pcX:=vr.o X (ao (al (Below.refl _ _) _) ax);have aJ:=Um ax;have vJ:=Um gJ;have hsX:w1.heap.size<X.heap.size:=gJ.lt;clear ax gJ
  cases hn:S.get no with
  |none=>
   have N9:=Um (fN (HW.o.ak (ao (al (Below.refl _ _) _) aJ.o)) hn);have HZ:=Um (GM (now:=now) H0.o HG.o hn);unfold An.v dh at N9;clear hn;go_wp2_with fail;refine N9.o.mono ?_;rintro e w2 ⟨rfl,aD⟩;have HB:=Um (al (aJ.o.trans (aD.mono aJ.o.size)) (.cells #[.int .i64 0,.int .i64 0,.int .i64 0,.int .i64 0,.int .i64 0,.int .i64 0,.int .i64 0,.int .i64 0,.int .i64 0,.int .i64 0,.string ByteArray.empty,.slice none 0 0] 99));clear aD;go_wp2_with fail;go_ret;rw[HZ.o];exact⟨rfl,R,HW.o.ak (ao (al (Below.refl _ _) _) HB.o),aL.aq (ao (al (Below.refl _ _) _) HB.o)⟩
  |some n=>
   obtain⟨na,nl,nc,hne,hNG⟩:=eA HW.o hn;have HNG:=Um (hNG X (ao (al (Below.refl _ _) _) aJ.o));have HQ:=Um (Nu (now:=now) H0.o HG.o hn);have Qr:=Um hn;have HNE:=Um hne;unfold An.v at HNG;clear hn hNG hne;go_wp2_with fail;refine HNG.o.mono ?_;rintro e w2 ⟨rfl,aD⟩;have et:=al (aJ.o.trans (aD.mono aJ.o.size)) (.cells #[.int .i64 n.no,.int .i64 n.dev,.int .i64 n.kind,.int .i64 n.mode,.int .i64 n.uid,.int .i64 n.gid,.int .i64 n.mtime,.int .i64 n.ctime,.int .i64 n.an,.int .i64 n.up,.string n.data,.slice na nl nc] 99);have jP:=(vJ.o.ak aD).eE (.cells #[.int .i64 n.no,.int .i64 n.dev,.int .i64 n.kind,.int .i64 n.mode,.int .i64 n.uid,.int .i64 n.gid,.int .i64 n.mtime,.int .i64 n.ctime,.int .i64 n.an,.int .i64 n.up,.string n.data,.slice na nl nc] 99);have hNY:=au.new w2 #[.int .i64 n.no,.int .i64 n.dev,.int .i64 n.kind,.int .i64 n.mode,.int .i64 n.uid,.int .i64 n.gid,.int .i64 n.mtime,.int .i64 n.ctime,.int .i64 n.an,.int .i64 n.up,.string n.data,.slice na nl nc] 99;have Dk:(w.alloc (.cells #[.int .i64 c.u,.int .i64 c.g] 69)).heap.size≤w2.heap.size:=by have:=aD.size;omega
   have hne:w2.heap.size≠w1.heap.size:=by have:=aD.size;omega
   have hlk:=(HK.o.get Qr.o).1.an;clear aD pcX;go_upto_region 5 with fail;generalize w2.alloc _=Y at et jP hNY⊢;obtain⟨hdo,-,-,-⟩:=HK.o.get HG.o;have heY:=HE.o.ak et;have hfew:el≤1000000:=by rw[←HE.o.len];exact ae hdo.BB (by omega)
   have HF:=Um (nL d.aB ea el ec s Y heY hdo.hH hfew);have Qu:=Um hfew;obtain⟨kc,kf,kz⟩:=hNY.facts;obtain⟨dc,df,dz⟩:=jP.facts;have jQ:=Um et;have T5:=Um jP;have HNY:=Um hNY;clear et jP hNY heY hdo hfew;by_cases h1:n.kind=1
   ·have mH:(n.kind==1)=true:=by simpa using h1
    have HZ:=Um (HQ.o.trans (if_pos h1));clear h1;go_wp2_with fail;go_ret;rw[HZ.o];exact⟨rfl,R,HW.o.ak (ao (al (Below.refl _ _) _) jQ.o),aL.aq (ao (al (Below.refl _ _) _) jQ.o)⟩
   have mH:(n.kind==1)=false:=by simpa using h1
   have l7:=Um (HQ.o.trans (if_neg h1));have Qq:=Um h1;clear h1 HQ;go_wp2_with fail;refine HF.o.mono ?_;rintro e w3 ⟨rfl,bJ⟩;have ez:=Um (jQ.o.trans (bJ.mono jQ.o.size));have OQ:=Um (T5.o.ak bJ);have Qo:=Um (HNY.o.ak bJ);have Tf:=OQ.o;have hN3:=Qo.o;clear bJ kc kf kz dc df dz HF;obtain⟨kc,kf,kz⟩:=hN3.facts;obtain⟨dc,df,dz⟩:=Tf.facts;clear hN3 Tf;by_cases hf:aN d.aB s=0
   ·have hfz:(aN d.aB s != 0)=false:=by simpa using hf
    have qq:=Um (l7.o.trans (if_neg (by simp[hf])));have HF0:=Um hf;clear hf l7;generalize aN d.aB s=f at hfz⊢;by_cases h2:n.dev=d.dev
    ·have kA:(n.dev != d.dev)=false:=by simpa using h2
     have H5:=Um (qq.o.trans (if_neg (by simp[h2])));clear h2 qq;by_cases h3:1000≤n.an
     ·have HZ:=Um (H5.o.trans (if_pos h3));go_wp2_with fail;go_ret;rw[HZ.o];exact⟨rfl,R,HW.o.ak (ao (al (Below.refl _ _) _) ez.o),aL.aq (ao (al (Below.refl _ _) _) ez.o)⟩
     ·have HZ:=Um (H5.o.trans (if_neg h3));clear H5;go_wp2_with fail;have NA:=((OQ.o.setOther ⟨w2.heap.size,8,none⟩ (.int .i64 (n.an+1)) hne).setOther ⟨w2.heap.size,7,none⟩ (.int .i64 now) hne).drew;have hNZ:=(Qo.o.set 8 (.int .i64 (n.an+1))).set 7 (.int .i64 now);have wZ:Below (w.alloc (.cells #[.int .i64 c.u,.int .i64 c.g] 69)).heap.size (w.alloc (.cells #[.int .i64 c.u,.int .i64 c.g] 69)) ((w3.setCell ⟨w2.heap.size,8,none⟩ (.int .i64 (n.an+1))).setCell ⟨w2.heap.size,7,none⟩ (.int .i64 now)):=(ez.o.setCell Dk _).setCell Dk _;generalize (w3.setCell ⟨w2.heap.size,8,none⟩ (.int .i64 (n.an+1))).setCell ⟨w2.heap.size,7,none⟩ (.int .i64 now)=Z at NA hNZ wZ⊢;obtain⟨q0,q1,q2,q3,q4,q5,q6,q7,q8,q9,q10,q11⟩:=au.eX (x0:=.int .i64 n.no) hNZ;have pc0:=vr.o Z (ao (al (Below.refl _ _) _) wZ);have PC:=HW.o.ak (ao (al (Below.refl _ _) _) wZ.drew);have dW:=Um (PC.zY {n with an:=n.an+1,ctime:=now} (HNE.o.ak (ao (al (Below.refl _ _) _) wZ.drew)) (b:=n) (by rw[show({n with an:=n.an+1,ctime:=now}:An).no=n.no from rfl,dx Qr.o];exact Qr.o));have HWZ:=Um PC;have HEZ:=Um (HE.o.ak wZ.drew);have HDZ:=Um NA;have jX:=Um wZ;unfold An.v at dW;clear NA hNZ wZ PC kc kf kz dc df dz;refine ay 5 mixed (by kernel_rfl) dQ ?_;simp only[List.take_succ_cons,List.take_zero,List.drop_succ_cons,List.drop_zero]
      repeat still_step
      refine wpStill_nil ?_;go_wp2_with fail;refine dW.o.mono ?_;rintro e w5 ⟨rfl,R5,gQ,eu,-,-⟩;have Dw:=HDZ.o.wd HWZ.o eu rfl;have SG:=HEZ.o.wd HWZ.o eu;have hg5:(S.set {n with an:=n.an+1,ctime:=now}).get dir=some d:=by
       rw[gX (a:={n with an:=n.an+1,ctime:=now}) (b:=n) (by rw[show({n with an:=n.an+1,ctime:=now}:An).no=n.no from rfl,dx Qr.o];exact Qr.o),if_neg]
       ·exact HG.o
       ·intro hdn;have:dir=no:=hdn.trans (show n.no=no from dx Qr.o);have h4:=HG.o;rw[this,Qr.o] at h4;injection h4 with h4;exact Qq.o (by rw[h4];exact HKD.o)
      have H6:=Um (BC d.aB ea el ec s no w5 SG (HK.o.get HG.o).1.hH Qu.o (Bv (HK.o.get HG.o).1.nz HF0.o));have Ip:=Um (fun l a n c w6 (eV:Up w5 w6) (hl:aA w6 a n c l)=>vP (gQ.ak eV) dir now d hg5 l a n c hl);have LV:=Um ((aL.aq (ao (al (Below.refl _ _) _) jX.o.drew)).trans eu);obtain⟨dc,df,dz⟩:=Dw.facts;clear Dw SG hg5 gQ eu pc0 q0 q1 q2 q3 q4 q5 q6 q7 q8 q9 q10 q11;go_wp2_with fail;refine H6.o.mono ?_;rintro e w6 ⟨⟨a',n',c',rfl,he6⟩,eV⟩;have HT:=Um (Ip.o _ _ _ _ w6 eV he6);have sP:=Um eV;clear he6 eV Ip H6;go_wp2_with fail;refine HT.o.mono ?_;rintro e w7 ⟨rfl,R7,Dy,qO⟩;have LX:=Um (ag Dy qO);clear Dy qO HT;go_wp2_with fail;go_ret;rw[HZ.o];exact⟨rfl,R7,LX.o.1,(LV.o.trans (aL.aq sP.o)).trans LX.o.2⟩
    ·have kA:(n.dev != d.dev)=true:=by simpa using h2
     have HZ:=Um (qq.o.trans (if_pos h2));clear h2 qq;go_wp2_with fail;go_ret;rw[HZ.o];exact⟨rfl,R,HW.o.ak (ao (al (Below.refl _ _) _) ez.o),aL.aq (ao (al (Below.refl _ _) _) ez.o)⟩
   ·have hfz:(aN d.aB s != 0)=true:=by simpa using hf
    have HZ:=Um (l7.o.trans (if_pos hf));clear hf l7;generalize aN d.aB s=f at hfz⊢;go_wp2_with fail;go_ret;rw[HZ.o];exact⟨rfl,R,HW.o.ak (ao (al (Below.refl _ _) _) ez.o),aL.aq (ao (al (Below.refl _ _) _) ez.o)⟩
end
end
section
open Go.RowKit
def yJ(x:Int×Int):List Value:=[.int .i64 x.1,.int .i64 x.2]
theorem eG(x:Int×Int):(yJ x).length=2:=rfl
def lX(cs:List Value)(x:Int×Int):Prop:=cs=yJ x
structure bK(w:World)(pf pw:Nat)(R:Rp)(pv:Value)(Y:Sy):Prop where
 bd:au w pf #[.pointer (some ⟨pw,0,none⟩),.int .i64 Y.now,.int .i64 Y.count,pv,.bool Y.dead] 109
 wd:bh w pw R Y.fs
 bD:w.ownsRow 0 182 2 pv Y.bD.length (Y.bD.flatMap yJ)
def Rp.Y(R:Rp)(pf pw:Nat)(k:Nat):Prop:=k=pf∨R.F pw k
section
variable{w w':World}{pf pw:Nat}{R:Rp}{pv:Value}{Y:Sy}
theorem bK.ak(h:bK w pf pw R pv Y)(hb:Up w w'):bK w' pf pw R pv Y:=
 ⟨h.bd.ak hb,h.wd.ak hb,bY h.bD hb (aa _)⟩
theorem bK.apart(h:bK w pf pw R pv Y){k:Nat}(hk:R.F pw k):k≠pf:=by
 rintro rfl;obtain⟨o,ho,hd⟩:=h.wd.kind hk;have hb:=h.bd;unfold au at hb;rw[hb] at ho;injection ho with ho;subst ho
 cases hd
theorem bK.oF(h:bK w pf pw R pv Y){k:Nat}(hk:R.Y pf pw k):pv.ownBlock≠some k:=by
 intro he;obtain⟨-,cur,hc⟩:=aT h.bD he;rcases hk with rfl|hk
 ·have hb:=h.bd;unfold au at hb;rw[hb] at hc
  cases hc
 ·obtain⟨o,ho,hd⟩:=h.wd.kind hk;rw[hc] at ho;injection ho with ho;subst ho
  cases hd
theorem bK.step(h:bK w pf pw R pv Y){R':Rp}{S:Fs}(hw:bh w' pw R' S)(hs:aL (R.F pw) (R'.F pw) w w'):bK w' pf pw R' pv {Y with fs:=S}:=
 ⟨h.bd.mod hs.mod (fun hk=>h.apart hk rfl),hw,bq h.bD hs.mod (fun k hk=>h.oF (.inr hk))⟩
theorem bK.zJ(h:bK w pf pw R pv Y)(hm:Mod (fun k=>k=pf) w w'){Z:Sy}(hz:Z.fs=Y.fs)(hp:Z.bD=Y.bD)(hb:au w' pf #[.pointer (some ⟨pw,0,none⟩),.int .i64 Z.now,.int .i64 Z.count,pv,.bool Z.dead] 109):bK w' pf pw R pv Z:=
 ⟨hb,by rw[hz];exact h.wd.mod hm (fun k o hk ho=>by
   subst hk;have hb:=h.bd;unfold au at hb;rw[hb] at ho;injection ho with ho;subst ho;exact⟨rfl,fun cur e=>by cases e⟩),
  by rw[hp];exact bq h.bD hm (fun k hk=>h.oF (.inl hk))⟩
theorem im{R R':Rp}{pf pw:Nat}{w w':World}(h:aL (R.F pw) (R'.F pw) w w'):aL (R.Y pf pw) (R'.Y pf pw) w w':=
 ⟨h.mod.mono (fun k hk=>.inr hk),fun k hk=>hk.elim (fun e=>.inl (.inl e)) (fun hk=>(h.new k hk).imp .inr id)⟩
theorem zR{R:Rp}{pf pw:Nat}{w w':World}(h:Mod (fun k=>k=pf) w w'):aL (R.Y pf pw) (R.Y pf pw) w w':=aL.dH (h.mono (fun k hk=>.inl hk))
theorem ir(h:bK w pf pw R pv Y) :
  Calls Tryz.prog 59 #[.pointer (some ⟨pf,0,none⟩)] w fun e w'=>e=.returned (.bool false)∧w=w':=by
 obtain⟨pc,-,-⟩:=h.bd.facts;clear h;go_enter Tryz.func59,Tryz.ntmps59;go_wp2_with fail;go_ret;exact⟨rfl,rfl⟩
theorem iq(h:bK w pf pw R pv Y) :
  Calls Tryz.prog 71 #[.pointer (some ⟨pf,0,none⟩)] w fun e w'=>e=.returned (.int .i64 (if Y.dead then 20 else 0))∧w=w':=by
 have HN:=Um (ir h);obtain⟨pc,-,-⟩:=h.bd.facts;clear h
 cases hd:Y.dead with
 |true=>
  rw[hd] at pc;clear hd;go_enter Tryz.func71,Tryz.ntmps71;go_wp2_with (refine HN.o.mono ?_;rintro e w1 ⟨rfl,rfl⟩);go_ret;exact⟨rfl,rfl⟩
 |false=>
  rw[hd] at pc;clear hd;go_enter Tryz.func71,Tryz.ntmps71;go_wp2_with (refine HN.o.mono ?_;rintro e w1 ⟨rfl,rfl⟩);go_ret;exact⟨rfl,rfl⟩
theorem r'(h:Y.dead=true):Y.change=(Y,20):=by unfold Sy.change;rw[if_pos h]
theorem mP(h:Y.dead=false)(hf:∀x∈Y.bD,x.1≠Y.count+1):Y.change=({Y with count:=Y.count+1},0):=by
 unfold Sy.change;rw[if_neg (by simp[h])];rw[List.find?_eq_none.2 (by simpa using hf)]
theorem xA(h:Y.dead=false){i:Nat}(hi:i<Y.bD.length)(hb:∀j (hj:j<Y.bD.length),j<i→Y.bD[j].1≠Y.count+1)(he:Y.bD[i].1=Y.count+1) :
  Y.change=({Y with count:=Y.count+1,dead:=Y.bD[i].2==20},Y.bD[i].2):=by
 unfold Sy.change;rw[if_neg (by simp[h])];have:Y.bD.find? (fun x=>x.1==Y.count+1)=some Y.bD[i]:=by
  rw[List.find?_eq_some_iff_getElem];exact⟨by simpa using he,i,hi,rfl,fun j hj=>by simpa using hb j (by omega) hj⟩
 rw[this]
theorem fI(h:bK w pf pw R pv Y)(hc:0≤Y.count∧Y.count≤4611686018427387904)(hl:Y.bD.length≤1000000) :
  Calls Tryz.prog 60 #[.pointer (some ⟨pf,0,none⟩)] w fun e w'=>e=.returned (.int .i64 Y.change.2)∧bK w' pf pw R pv Y.change.1∧Mod (fun k=>k=pf) w w':=by
 have HR:=Um (iq h);have HY:=Um h;obtain⟨GJ,eS⟩:=hc;obtain⟨pc,pf',pz⟩:=h.bd.facts
 cases hd:Y.dead with
 |true=>
  have HE:=Um (r' hd);rw[hd] at HR;clear h hd;go_enter Tryz.func60,Tryz.ntmps60;go_wp2_with (refine HR.o.mono ?_;rintro e w1 ⟨rfl,rfl⟩);go_ret;rw[HE.o];exact⟨rfl,HY.o,Mod.refl _ _⟩
 |false=>
  rw[hd] at HR pc;have HD:=Um hd;obtain⟨pa,pcap,rfl,hle,sI,hpf⟩:=bw h.bD;have hSl:=bW (R:=lX) (by omega) eG (fun _=>rfl) h.bD;have EZ:=Um hSl;have HPf:=Um hpf;clear h hd hSl hpf;go_enter Tryz.func60,Tryz.ntmps60;have gm:=HY.o.bd;rw[HD.o] at gm;have cM:=Um (gm.set 2 (.int .i64 (Y.count+1)));clear gm;go_wp2_with (refine HR.o.mono ?_;rintro e w1 ⟨rfl,rfl⟩)
  go_loopw [23] (fun t23 wr=>∃k:Nat,k≤Y.bD.length∧t23=.int .i64 k∧au wr pf #[.pointer (some ⟨pw,0,none⟩),.int .i64 Y.now,.int .i64 (Y.count+1),.slice pa Y.bD.length pcap,.bool false] 109∧Mod (fun x=>x=pf) w wr∧(∀j (hj:j<Y.bD.length),j<k→Y.bD[j].1≠Y.count+1)) (fun t23 _=>Y.bD.length-(intOf t23).toNat)
  case atStart=>exact⟨0,Nat.zero_le _,rfl,cM.o,(Mod.refl (fun x=>x=pf) w).setCell (a:=⟨pf,2,none⟩) (.inl rfl) _,fun j _ h=>absurd h (Nat.not_lt_zero _)⟩
  case round=>
   obtain⟨k,hk,rfl,hb,hm,hbef⟩:=hrel;have je:=Um hb;have OL:=Um hm;have L':=Um hbef;obtain⟨bc,bf,bz⟩:=hb.facts;have hpl:=bq HY.o.bD hm (fun k hk=>HY.o.oF (.inl hk));clear hb hbef;by_cases hlt:k<Y.bD.length
   ·obtain⟨-,-,-,h0|⟨b,off,he,hbl,hel⟩⟩:=bW (R:=lX) (by omega) eG (fun _=>rfl) hpl
    ·omega
    ·subst he;obtain⟨cs,e1,e2,e3⟩:=hel k hlt;unfold lX at e2;subst e2;have c0:=e3 0 (by rw[eG];omega);have c1:=e3 1 (by rw[eG];omega);obtain⟨fa,fw,hfe⟩:∃fa fw,Y.bD[k]=(fa,fw):=⟨_,_,rfl⟩;have Ic:=Um hfe;have c0':wr.cell? ⟨b,off+k*2,none⟩=some (.int .i64 fa):=by rw[hfe] at c0;exact c0
     have c1':wr.cell? ⟨b,off+k*2+1,none⟩=some (.int .i64 fw):=by rw[hfe] at c1;exact c1
     have mixed:Tryz.prog.follows .mixedOrders=true:=by kernel_rfl
     clear hel e1 e3 c0 c1 hpl hm hfe;have hBX:=je.o.eE (.cells #[.int .i64 fa,.int .i64 fw] 182);have GP:=OL.o.alloc (.cells #[.int .i64 fa,.int .i64 fw] 182);have so:=au.new wr #[.int .i64 fa,.int .i64 fw] 182;go_upto_region 8 with fail;generalize wr.alloc _=X at hBX GP so⊢;have aJ:=Um hBX;have L0:=Um GP;obtain⟨xc,xf,xz⟩:=so.facts;clear bc bf bz c0' c1';obtain⟨bc,bf,bz⟩:=hBX.facts;clear hBX GP so;refine ay 6 mixed (by kernel_rfl) (show bV _ from by repeat (first|exact cZ|refine cY ?_|refine cw ?_|refine cJ ?_)) ?_;simp only[List.take_succ_cons,List.take_zero,List.drop_succ_cons,List.drop_zero]
     repeat still_step
     refine wpStill_nil ?_;by_cases he:fa=Y.count+1
     ·have HE:=Um (xA HD.o hlt L'.o (by rw[Ic.o];exact he));rw[Ic.o] at HE;have heb:(fa==Y.count+1)=true:=by simpa using he
      clear he;by_cases Kp:fw=20
      ·have DE:(fw==20)=true:=by simpa using Kp
       have HV:=Um (show(fw==20)=true from DE);clear Kp;go_wp2_with fail;go_ret;rw[HE.o];exact⟨rfl,HY.o.zJ (L0.o.drew.setCell (a:=⟨pf,4,none⟩) (.inl rfl) _) rfl rfl (by dsimp only;rw[HV.o];exact aJ.o.drew.set 4 _),L0.o.drew.setCell (a:=⟨pf,4,none⟩) (.inl rfl) _⟩
      ·have DE:(fw==20)=false:=by simpa using Kp
       have HV:=Um (show(fw==20)=false from DE);clear Kp;go_wp2_with fail;go_ret;rw[HE.o];exact⟨rfl,HY.o.zJ (L0.o.drew.setCell (a:=⟨pf,4,none⟩) (.inl rfl) _) rfl rfl (by dsimp only;rw[HV.o];exact aJ.o.drew.set 4 _),L0.o.drew.setCell (a:=⟨pf,4,none⟩) (.inl rfl) _⟩
     ·have heb:(fa==Y.count+1)=false:=by simpa using he
      have HN:=Um he;clear he;go_wp2_with fail;go_roundw
      case rel=>exact⟨k+1,by omega,by go_num,aJ.o.drew,L0.o.drew,fun j hj uk=>by
       by_cases hjk:j=k
       ·subst hjk;rw[Ic.o];exact HN.o
       ·exact L'.o j hj (by omega)⟩
      case measure=>simp[intOf];omega
   ·obtain rfl:k=Y.bD.length:=by omega
    have HE:=Um (mP HD.o (fun x hx=>by obtain⟨j,hj,rfl⟩:=List.mem_iff_getElem.1 hx;exact L'.o j hj hj));clear hm hpl;go_wp2_with fail;go_ret;rw[HE.o];exact⟨rfl,HY.o.zJ OL.o rfl rfl (by rw[HD.o];exact je.o),OL.o⟩
end
end
end Go.Proofs.YtinflmadpnigfaaGreatDoor
