import Derived.Laws.RangeAny
import Derived.Lib.OthersKept
import Derived.Test.YtinflmadpnigfaaGreatDoorDY13
import Derived.Test.YtinflmadpnigfaaGreatDoorDY14
import Derived.Test.YtinflmadpnigfaaGreatDoorDY15
import Derived.Test.YtinflmadpnigfaaGreatDoorDY2
import Derived.Test.YtinflmadpnigfaaGreatDoorDY6
import Derived.Test.YtinflmadpnigfaaGreatDoorDY12
set_option linter.unusedVariables false
set_option linter.unusedSimpArgs false
set_option maxRecDepth 100000
set_option maxHeartbeats 16000000
namespace Go.Proofs.YtinflmadpnigfaaGreatDoor
section
open Go.RowKit
section
variable{w w':World}{pf:Nat}{R:Rf}{S:Fs}
theorem aE.node(h:aE w pf R S){B:Nat}{vs:Array Value}(hB:au w B vs 99)(hF:¬R.F pf B)(hm:Mod (fun k=>k=B) w w'):aE w' pf R S:=
 ⟨h.bd.mod hm (fun e=>hF (.inl e.symm)),bq h.sj hm (fun x hx e=>hF (by rw[←hx];exact .inr (.inl e))),bq h.eI hm (fun x hx e=>hF (by rw[←hx];exact .inr (.inr e))),h.ns,fun x hx=>(h.aB x hx).node hB hm⟩
theorem FQ(h:aE w pf R S){N:Nat}(hk:av S N)(no:Int)(d:An)(hg:S.get no=some d)(hkd:d.kind=2)(v:Dv)(qM:S.dev d.dev=some v)(data:ByteArray)(hs:data.size≤1048576) :
  Calls Tryz.prog 114 #[.pointer (some ⟨pf,0,none⟩),.int .i64 no,.string data] w fun e w'=>e=.returned (.int .i64 (S.lK d v data).2)∧∃R',aE w' pf R' (S.lK d v data).1∧aL (R.F pf) (R'.F pf) w w'∧Rf.ct R R':=by
 obtain⟨hdo,hdn,-,-⟩:=hk.get hg;obtain⟨ea,el,ec,he,hG⟩:=fe h hg;have HG:=Um hG;obtain⟨k,hdk⟩:∃k:Nat,d.dev=(k:Int)+1:=⟨(d.dev-1).toNat,by have:=hdo.dev.1;omega⟩;have hkl:k<S.ds.length:=by have:=hdo.dev.2;omega
 have hlen:=h.len;obtain⟨g,cap,hdv,hle,sI,hgl,hc,hfg,-⟩:=h.jm (by omega);obtain⟨-,-,c2,c3,c4,c5⟩:=hc k hkl;have hv:S.ds[k]=v:=by
  unfold Fs.dev at qM;rw[if_pos (by omega),hdk,show((k:Int)+1-1).toNat=k by omega,List.getElem?_eq_getElem hkl] at qM;simpa using qM
 rw[hv] at c2 c3 c4 c5;obtain⟨pc,-,pz⟩:=h.bd.facts;rw[hdv] at pc;obtain⟨n,hn⟩:∃n,S.ds.length=n:=⟨_,rfl⟩;have hkn:k<n:=by omega
 rw[hn] at pc hle;have hda:=hdo.data;have b1:=sM 2 data.size (by omega);have b2:=sM 2 d.data.size (by omega);have cM:=Um (fun w=>mq 2 data.size (by omega) w);have cV:=Um (fun w=>mq 2 d.data.size (by omega) w);have HF:=Um (show S.lK d v data=if gZ v.b v.n v.mb v.mn (cK d data) 0≠0 then(S,gZ v.b v.n v.mb v.mn (cK d data) 0) else((S.aR d.dev {v with b:=v.b+cK d data}).set {d with data:=data},0) from rfl);generalize S.lK d v data=fw at HF⊢;unfold cK at HF;have hT:=fun w=>vY v.b v.n v.mb v.mn (bR 2 data.size-bR 2 d.data.size) 0 w;unfold II at hT;have HQ:=Um (fun(yB:gZ v.b v.n v.mb v.mn (bR 2 data.size-bR 2 d.data.size) 0=0)=>show Cy v.b v.n v.mb v.mn (bR 2 data.size-bR 2 d.data.size) 0=v.b+(bR 2 data.size-bR 2 d.data.size)∧Cx v.b v.n v.mb v.mn (bR 2 data.size-bR 2 d.data.size) 0=v.n by unfold Cy Cx;rw[if_pos yB,if_pos yB];exact⟨rfl,by omega⟩);generalize bR 2 data.size=xa at b1 cM HF hT HQ;generalize bR 2 d.data.size=xb at b2 cV HF hT HQ;have hwx:IntKind.i64.wrap (xa-xb)=xa-xb:=by rw[IntKind.wrap_i64];omega
 obtain⟨x,hx⟩:∃x,xa-xb=x:=⟨_,rfl⟩;rw[hx] at HF hT HQ hwx;generalize gZ v.b v.n v.mb v.mn x 0=e0 at hT HF HQ;generalize Cy v.b v.n v.mb v.mn x 0=qb at hT HQ;generalize Cx v.b v.n v.mb v.mn x 0=qn at hT HQ;have hdz:(d.no==0)=false:=by
  have h0:=sJ hk no;have e:S.cC no=d:=by unfold Fs.cC;rw[hg];rfl
  rw[e,hg] at h0;exact h0
 have HT:=Um hT;have HX:=Um hx;have HW:=Um h;have HE:=Um he;have j8:=Um hdv;have HV:=Um (show∃hk:k<S.ds.length,S.ds[k]=v from⟨hkl,hv⟩);have Iv:=Um hdk;have Ls:=Um hkd;have sx:=Um hk.nums;have T1:=Um (show S.get d.no=some d by rw[hdn];exact hg);unfold An.v at HG;rw[hdk,hkd] at HG;have mixed:Tryz.prog.follows .mixedOrders=true:=by kernel_rfl
 clear h hk hg he hG hT hc hdv hv qM hn hdo hdn hda hdk hkd hkl hx hlen;go_enter Tryz.func114,Tryz.ntmps114;go_wp2_with fail;refine(HG.o _ (Below.refl _ _)).mono ?_;rintro e w1 ⟨rfl,ar⟩;have hX:=au.new w1 #[.int .i64 d.no,.int .i64 ((k:Int)+1),.int .i64 2,.int .i64 d.mode,.int .i64 d.uid,.int .i64 d.gid,.int .i64 d.mtime,.int .i64 d.ctime,.int .i64 d.an,.int .i64 d.up,.string d.data,.slice ea el ec] 99;have ax:=al ar (.cells #[.int .i64 d.no,.int .i64 ((k:Int)+1),.int .i64 2,.int .i64 d.mode,.int .i64 d.uid,.int .i64 d.gid,.int .i64 d.mtime,.int .i64 d.ctime,.int .i64 d.an,.int .i64 d.up,.string d.data,.slice ea el ec] 99);have lh:=ar.size;go_upto_region 2 with fail;clear ar;generalize w1.alloc _=W at hX ax⊢;obtain⟨Bn,vE⟩:∃Bn,w1.heap.size=Bn:=⟨_,rfl⟩;rw[vE] at hX lh⊢;obtain⟨bc,bf,bz⟩:=hX.facts;have pO:IntKind.i64.wrap ((k:Int)+1-1)=(k:Int):=by rw[IntKind.wrap_i64];omega
 have Ih:IntKind.i64.wrap (k:Int)=(k:Int):=by rw[IntKind.wrap_i64];omega
 have bJ:(k:Int)<(n:Int):=by omega
 have dI:(0:Int)≤(k:Int):=by omega
 rw[←ax.cell (p:=⟨g,k*6+2,none⟩) hgl] at c2;rw[←ax.cell (p:=⟨g,k*6+3,none⟩) hgl] at c3;rw[←ax.cell (p:=⟨g,k*6+4,none⟩) hgl] at c4;rw[←ax.cell (p:=⟨g,k*6+5,none⟩) hgl] at c5;have pc1:W.cell? ⟨pf,1,none⟩=_:=(ax.cell (p:=⟨pf,1,none⟩) pz).trans (pc 1);have yx:g<W.heap.size:=Nat.lt_of_lt_of_le hgl ax.size;have QI:pf<W.heap.size:=Nat.lt_of_lt_of_le pz ax.size;have Qf:=Um ax;have HB:=Um hX;have QB:=Um (show w.heap.size≤Bn from lh);have hwx2:IntKind.i64.wrap (xa-xb)=x:=by rw[HX.o,hwx]
 clear pc ax hX vE lh;go_upto_region 4 with fail
 go_cut [8,9] (fun t6 t7 wx=>∃Bq:Nat,t6=.pointer (some ⟨Bq,0,none⟩)∧t7=.int .i64 e0∧au wx Bq #[.int .i64 qb,.int .i64 qn,.int .i64 v.mb,.int .i64 v.mn] 206∧Up W wx)
 case first=>
  go_wp2_with fail;have hzz:W.heap.size≤W.heap.size:=aa _
  go_region_held3 (fun w'=>(∀b o,b<W.heap.size→w'.cell? ⟨b,o,none⟩=W.cell? ⟨b,o,none⟩)∧Up W w') (first|with_reducible assumption|with_reducible exact ck _|with_reducible exact bI _|with_reducible exact bN (by assumption) (by assumption)|with_reducible exact bB (by assumption) _|with_reducible exact bu (by assumption) _|with_reducible exact bm (by assumption) (by assumption)|with_reducible exact cj (by assumption) (by assumption))
   (first|(go_at_call 184;(first|((with_reducible refine(cM.o _).mono ?_);rintro e w4 ⟨rfl,rfl⟩)|((with_reducible refine(cV.o _).mono ?_);rintro e w4 ⟨rfl,rfl⟩)))|(go_at_call 183;((with_reducible refine(HT.o _).mono ?_);rintro e w4 ⟨rfl,b9⟩;have Pg:=ae (And.right ‹(∀b o,b<W.heap.size→_)∧Up W _›).size b9.size;try (have hbq:=gj b9;obtain⟨bqc,bqf,bqz⟩:=hbq.facts))))
  all_goals
   obtain⟨-,lJ⟩:=‹_∧Up W _›;have sO:=Um lJ
   try (have zv:=Um hbq)
   clear lJ;go_wp2_with fail;go_meet;exact⟨_,rfl,rfl,by first|exact zv.o.cO|exact au.new _ _ _,sO.o⟩
 case rest=>
  obtain⟨Bq,rfl,rfl,hQ,hS⟩:=hcut;have HS:=Um hS;have oY:=Um (show Up w wc from Qf.o.trans (hS.mono Qf.o.size));by_cases h0:e0≠0
  ·have fX:=Um (HF.o.trans (if_pos h0));have o3:(e0 != 0)=true:=by simpa using h0
   clear h0;go_wp2_with fail;go_ret;rw[fX.o];exact⟨rfl,R,HW.o.ak oY.o,aL.aq oY.o,Rf.ct.refl R⟩
  have h0:e0=0:=by simpa using h0
  obtain⟨hk,hv⟩:=HV.o;obtain⟨rfl,rfl⟩:=HQ.o h0;have fX:=Um (HF.o.trans (if_neg (by simpa using h0)));subst h0;obtain⟨qc,qf,qz⟩:=hQ.facts;have bcw:=HB.o.ak hS;have pcw:wc.cell? ⟨pf,1,none⟩=_:=(hS.cell (p:=⟨pf,1,none⟩) QI).trans pc1;rw[←hS.cell (p:=⟨g,k*6+2,none⟩) yx] at c2;rw[←hS.cell (p:=⟨g,k*6+3,none⟩) yx] at c3;rw[←hS.cell (p:=⟨g,k*6+4,none⟩) yx] at c4;rw[←hS.cell (p:=⟨g,k*6+5,none⟩) yx] at c5;have hfw:∀i,wc.frozen? ⟨g,i,none⟩=false:=fun i=>(oY.o.frozen (p:=⟨g,i,none⟩) hgl).trans (hfg i);have zo:=HW.o.ak oY.o;obtain⟨Kl,GO⟩:=zo.IW j8.o hk v hv (v.b+x) v.n;have mF:aL (R.F pf) (R.F pf) wc _:=aL.dH GO;have HEq:=Um ((HE.o.ak oY.o).rf zo mF);have HnF:=Um (show¬R.F pf Bn from fun hk=>absurd (HW.o.lt hk) (by have:=QB.o;omega));have EJ:=bcw.mod GO HnF.o;have EX:=Um Kl;have gr:=Um ((aL.aq oY.o).trans mF);obtain⟨bc,bf,bz⟩:=bcw.facts;clear zo Kl GO mF pc1 hfg bcw;go_upto_region 7 with fail;refine ay 10 mixed (by kernel_rfl) (show bV _ from by repeat (first|exact cZ|refine cY ?_|refine cw ?_|refine cJ ?_)) ?_;simp only[List.take_succ_cons,List.take_zero,List.drop_succ_cons,List.drop_zero]
  repeat still_step
  refine wpStill_nil ?_;go_upto_region 8 with fail;generalize (((wc.setCell ⟨g,k*6+2,none⟩ (.int .i64 (v.b+x))).setCell ⟨g,k*6+3,none⟩ (.int .i64 v.n)).setCell ⟨g,k*6+4,none⟩ (.int .i64 v.mb)).setCell ⟨g,k*6+5,none⟩ (.int .i64 v.mn)=Z0 at HEq EJ EX gr⊢;have nQ:Up Z0 Z0.drew:=(Below.refl _ Z0).drew;have cq:=Um (HEq.o.ak nQ);have eM:=EJ.ak nQ;have jc:=Um (EX.o.ak nQ);have o4:=Um (gr.o.trans (aL.aq nQ));clear bc bf bz c2 c3 c4 c5 hfw qc qf qz EJ HEq EX gr nQ pcw;generalize Z0.drew=Z at cq eM jc o4⊢;have Qz:=Um eM;obtain⟨bc,bf,bz⟩:=eM.facts;clear eM;go_upto_region 9 with fail;have hm:Mod (fun k=>k=Bn) Z (Z.setCell ⟨Bn,10,none⟩ (.string data)):=(Mod.refl (fun k=>k=Bn) Z).setCell (a:=⟨Bn,10,none⟩) (.inl rfl) _;have qm:=jc.o.node Qz.o HnF.o hm;have DA:=cq.o.node Qz.o hm;have sq:aL (R.F pf) (R.F pf) w (Z.setCell ⟨Bn,10,none⟩ (.string data)):=⟨o4.o.mod.setCell (a:=⟨Bn,10,none⟩) (.inr QB.o) _,o4.o.2⟩;have jP:=Qz.o.set 10 (.string data);clear bc bf bz hm;generalize Z.setCell ⟨Bn,10,none⟩ (.string data)=Y at qm DA sq jP⊢;obtain⟨q0,q1,q2,q3,q4,q5,q6,q7,q8,q9,q10,q11⟩:=au.eX (x0:=.int .i64 d.no) jP;have iE:=iL qm (show gY (S.aR ((k:Int)+1) {v with b:=v.b+x}) from⟨sx.o.hH,sx.o.low⟩) (a:={d with data:=data}) DA (b:=d) T1.o;unfold An.v at iE;dsimp only at iE;rw[Iv.o,Ls.o] at iE;have dW:=Um iE;have Ir:=Um sq;clear qm DA sq jP iE;go_wp2_with fail;refine dW.o.mono ?_;rintro e w5 ⟨rfl,R',ev,fo,gy,-⟩;have xJ:=Um (ag ev (ag fo gy));clear ev fo gy;go_wp2_with fail;go_ret;rw[fX.o,Iv.o,Ls.o];exact⟨rfl,R',xJ.o.1,Ir.o.trans xJ.o.2.1,xJ.o.2.2⟩
end
end
section
open Go.RowKit
def Fs.jD(S:Fs)(d:Bool)(c:Cr)(no:Int):ByteArray×Int:=if d=true then(ByteArray.empty,20) else S.read c no
section
variable{w w':World}{pf:Nat}{R:Rf}{S:Fs}
theorem Ac(h:aE w pf R S){N:Nat}(hk:av S N)(c:Cr)(no:Int) :
  Calls Tryz.prog 77 #[.pointer (some ⟨pf,0,none⟩),.agg #[.int .i64 c.u,.int .i64 c.g],.int .i64 no] w fun e w'=>e=.returned (.tuple #[.string (S.read c no).1,.int .i64 (S.read c no).2])∧Up w w':=by
 obtain⟨fy,ax⟩:=Uo w #[.int .i64 c.u,.int .i64 c.g] 69;have HO:=Um (fun w1 (ar:Up w w1)=>wg (h.ak ar) hk c no 2 4 (by omega));have l7:=Um (fun(h0:S.dF c no 2 4≠0)=>show S.read c no=(ByteArray.empty,S.dF c no 2 4) from if_neg h0);have qq:=Um (fun(h0:S.dF c no 2 4=0) (d:An) (hd:S.get no=some d)=>show S.read c no=(d.data,0) by unfold Fs.read;rw[if_pos h0,hd]);obtain⟨cc,-,cz⟩:=fy.facts;have aJ:=Um ax;generalize S.dF c no 2 4=oe at HO l7 qq;generalize S.read c no=rd at l7 qq⊢;clear h hk fy ax;go_enter Tryz.func77,Tryz.ntmps77;go_wp2_with fail;refine(HO.o _ aJ.o).mono ?_;rintro e w1 ⟨⟨h0,rfl⟩|⟨h0,d,ea,el,ec,hg,rfl,-⟩,ar⟩
 ·have HB:=Um (ao aJ.o ar);have HR:=Um (l7.o h0);clear ar cc;unfold An.v dh;go_wp2_with fail;go_ret2;rw[HR.o];exact⟨rfl,al HB.o _⟩
 ·have HB:=Um (ao aJ.o ar);have HR:=Um (qq.o h0 d hg);clear ar cc hg;unfold An.v;go_wp2_with fail;go_ret2;rw[HR.o];exact⟨rfl,al HB.o _⟩
theorem Ab(h:aE w pf R S){N:Nat}(hk:av S N){d:Bool}(hd:R.dd=.bool d)(c:Cr)(no:Int) :
  Calls Tryz.prog 42 #[.pointer (some ⟨pf,0,none⟩),.agg #[.int .i64 c.u,.int .i64 c.g],.int .i64 no] w fun e w'=>e=.returned (.tuple #[.string (S.jD d c no).1,.int .i64 (S.jD d c no).2])∧Up w w':=by
 obtain⟨fy,ax⟩:=Uo w #[.int .i64 c.u,.int .i64 c.g] 69;have HS:=Um (fun w1 (ar:Up w w1)=>Ac (h.ak ar) hk c no);have hblk:=h.bd;rw[hd] at hblk;have Ba:=hblk.eE (.cells #[.int .i64 c.u,.int .i64 c.g] 69);obtain⟨pc,pf',pz⟩:=Ba.facts;obtain⟨cc,-,cz⟩:=fy.facts;clear h hk hd hblk Ba fy
 cases d with
 |true=>
  clear HS;go_enter Tryz.func42,Tryz.ntmps42;go_wp2_with fail;go_ret2;exact⟨rfl,ax⟩
 |false=>
  rw[show S.jD false c no=S.read c no from rfl];generalize S.read c no=rd at HS⊢;have aJ:=Um ax;clear ax;go_enter Tryz.func42,Tryz.ntmps42;go_wp2_with fail;refine(HS.o _ aJ.o).mono ?_;rintro e w1 ⟨rfl,ar⟩;have HB:=Um (ao aJ.o ar);clear ar;go_wp2_with fail;go_ret2;exact⟨rfl,HB.o⟩
end
end
section
open Go.RowKit
theorem KQ{n m:Int}(h:cG n=cG m):n=m:=by
 unfold cG at h;by_cases h1:n<0
 ·rw[if_pos h1] at h;by_cases h2:m<0
  ·rw[if_pos h2] at h;injection h with _ h;have:=EN 10 (by omega) (by omega) h;omega
  ·rw[if_neg h2] at h;have:=fm 10 (by omega) (by omega) m.toNat 45 (by rw[←h];simp);exact absurd this.1 (by decide)
 ·rw[if_neg h1] at h;by_cases h2:m<0
  ·rw[if_pos h2] at h;have:=fm 10 (by omega) (by omega) n.toNat 45 (by rw[h];simp);exact absurd this.1 (by decide)
  ·rw[if_neg h2] at h;have:=EN 10 (by omega) (by omega) h;omega
def ij(s:ByteArray):Option Int→Prop
 |some n=>str (cG n)=s∧-9223372036854775808≤n∧n≤9223372036854775807
 |none=>∀n:Int,-9223372036854775808≤n→n≤9223372036854775807→str (cG n)≠s
theorem ij.one{s:ByteArray}:∀{r t:Option Int},ij s r→ij s t→r=t
 |some n,some m,h,k=>by rw[KQ (str_inj (h.1.trans k.1.symm))]
 |some n,none,h,k=>absurd h.1 (k n h.2.1 h.2.2)
 |none,some m,h,k=>absurd k.1 (h m k.2.1 k.2.2)
 |none,none,_,_=>rfl
def oH:Option Int→Value
 |some n=>.tuple #[.int .i64 n,.bool true]
 |none=>.tuple #[.int .i64 0,.bool false]
theorem zB(x:Int):∃q:Int,IntKind.i64.wrap x=x+q*18446744073709551616∧-9223372036854775808≤IntKind.i64.wrap x∧IntKind.i64.wrap x≤9223372036854775807:=by
 rw[IntKind.wrap_i64];refine⟨-((x+9223372036854775808) / 18446744073709551616),?_,?_,?_⟩<;>omega
def oX(l:List UInt8)(n:Int):Prop:=-9223372036854775808≤n∧n≤9223372036854775807∧∃q:Int,n=-(fY 10 l:Int)+q*18446744073709551616
theorem oX.nil:oX [] 0:=⟨by omega,by omega,0,by simp[fY]⟩
theorem oX.step{l:List UInt8}{n:Int}(h:oX l n)(c:UInt8)(h0:48≤c.toNat):oX (l++[c]) (IntKind.i64.wrap (IntKind.i64.wrap (n*10)-((c.toNat:Int)-48))):=by
 obtain⟨-,-,q,hq⟩:=h;obtain⟨q1,e1,-,-⟩:=zB (n*10);obtain⟨q2,e2,b1,b2⟩:=zB (IntKind.i64.wrap (n*10)-((c.toNat:Int)-48));refine⟨b1,b2,10*q+q1+q2,?_⟩;rw[e2,e1,mY];omega
theorem oX.is{l:List UInt8}{n m:Int}(h:oX l n)(hm:m=-(fY 10 l:Int))(h0:-9223372036854775808≤m)(h1:m≤9223372036854775807):n=m:=by
 obtain⟨b0,b1,q,hq⟩:=h;omega
theorem uL(n:Int)(h0:-9223372036854775808≤n)(h1:n≤9223372036854775807):(cG n).length≤20∧0<(cG n).length:=by
 have e:(10:Nat) ^ (18+1)=10000000000000000000:=by decide
 unfold cG
 split
 ·have:=lv 10 (by decide) 18 n.natAbs (by rw[e];omega);rw[List.length_cons];omega
 ·have:=lv 10 (by decide) 18 n.toNat (by rw[e];omega);have:=p5 10 n.toNat (by omega);omega
theorem Gk{s:ByteArray}(h:s.size<1∨20<s.size):ij s none:=fun n h0 h1 e=>by
 have:=uL n h0 h1;rw[←e,aP] at h;omega
theorem gH{l:List UInt8}{s:ByteArray}(h:str l=s):s.data.toList=l:=by subst h;simp[str]
theorem pF{s:ByteArray}{a i:Nat}(hi:i<s.size)(hai:a≤i)(ha:(∃h:0<s.size,s[0]=45)→a=1)(hb:s[i].toNat<48∨57<s[i].toNat):ij s none:=fun n h0 h1 e=>by
 have hl:=gH e;have hg:s.data.toList[i]?=some s[i]:=by
  rw[Array.getElem?_toList];exact Array.getElem?_eq_getElem hi
 rw[hl] at hg;unfold cG at hl hg;by_cases hn:n<0
 ·rw[if_pos hn] at hl hg;have qR:a=1:=ha ⟨by omega,by
   have:s.data.toList[0]?=some s[0]:=by rw[Array.getElem?_toList];exact Array.getElem?_eq_getElem (by show 0<s.size;omega)
   rw[hl] at this;simpa using this.symm⟩
  obtain⟨j,rfl⟩:∃j,i=j+1:=⟨i-1,by omega⟩;rw[List.getElem?_cons_succ] at hg;have:=fm 10 (by omega) (by omega) n.natAbs _ (List.mem_of_getElem? hg);omega
 ·rw[if_neg hn] at hg;have:=fm 10 (by omega) (by omega) n.toNat _ (List.mem_of_getElem? hg);omega
theorem Nj{s:ByteArray}{c:UInt8}{l:List UInt8}(h:s.data.toList=c::l):∃h:0<s.size,s[0]=c:=by
 have hs:0<s.size:=by have h2:s.size=l.length+1:=(by have:=congrArg List.length h;simpa using this);omega
 refine⟨hs,?_⟩;have:s.data.toList[0]?=some s[0]:=by rw[Array.getElem?_toList];exact Array.getElem?_eq_getElem hs
 rw[h] at this;simpa using this.symm
theorem JC{s:ByteArray}{n:Int}(qR:¬∃h:0<s.size,s[0]=45)(hv:oX s.data.toList n)(hne:str (cG (IntKind.i64.wrap (0-n)))≠s):ij s none:=fun m h0 h1 e=>by
 have hl:=gH e;unfold cG at hl;by_cases hm:m<0
 ·rw[if_pos hm] at hl;exact qR (Nj hl)
 ·rw[if_neg hm] at hl;rw[hl] at hv;have hk:=hv.is (m:=-m) (by rw[jx 10 (by omega) (by omega)];omega) (by omega) (by omega);refine hne ?_;rw[show IntKind.i64.wrap (0-n)=m by rw[IntKind.wrap_i64];omega];exact e
theorem JD{s:ByteArray}{n:Int}(qR:∃h:0<s.size,s[0]=45)(hv:oX (s.data.toList.drop 1) n)(hne:str (cG n)≠s):ij s none:=fun m h0 h1 e=>by
 have hl:=gH e;unfold cG at hl;by_cases hm:m<0
 ·rw[if_pos hm] at hl;rw[hl,List.drop_succ_cons,List.drop_zero] at hv;have hk:=hv.is (m:=m) (by rw[jx 10 (by omega) (by omega)];omega) (by omega) (by omega);rw[hk] at hne;exact hne e
 ·rw[if_neg hm] at hl;obtain⟨hs,qR⟩:=qR;have hg:s.data.toList[0]?=some s[0]:=by rw[Array.getElem?_toList];exact Array.getElem?_eq_getElem hs
  rw[hl,qR] at hg;have:=fm 10 (by omega) (by omega) m.toNat 45 (List.mem_of_getElem? hg);exact absurd this.1 (by decide)
end
section
open Go.RowKit
theorem o9{a b:ByteArray}(h:a≠b):¬a.toList=b.toList:=fun e=>h (yU e)
theorem I5(s:ByteArray)(w:World)(hs:s.size≤2000000) :
  Calls Tryz.prog 127 #[.string s] w fun e w'=>(∃r,e=.returned (oH r)∧ij s r)∧Up w w':=by
 by_cases hsz:s.size<1∨20<s.size
 ·have HN:=Um (Gk hsz);go_enter Tryz.func127,Tryz.ntmps127;rcases hsz with h1|h1
  ·have h2:(s.size:Int)<1:=by omega
   go_wp2_with fail
   all_goals (go_ret2;exact⟨⟨none,rfl,HN.o⟩,Below.refl _ _⟩)
  ·have h2:(20:Int)<s.size:=by omega
   go_wp2_with fail
   all_goals (go_ret2;exact⟨⟨none,rfl,HN.o⟩,Below.refl _ _⟩)
 ·have h1:(1:Int)≤s.size:=by omega
  have h2:(s.size:Int)≤20:=by omega
  have h3:0<s.size:=by omega
  have HS:=Um h3;clear hsz;by_cases qR:s[0]=45
  ·have hc:((s[0].toNat:Int)==45)=true:=by rw[qR];rfl
   have Ul:=Um (show∃h:0<s.size,s[0]=45 from⟨h3,qR⟩);clear qR;go_enter Tryz.func127,Tryz.ntmps127;go_wp2_with fail
   go_loopw [5,6] (fun t5 t6 wr=>∃(k:Nat) (n:Int),1≤k∧k≤s.size∧t6=.int .i64 k∧t5=.int .i64 n∧oX ((s.data.toList.take k).drop 1) n∧w=wr) (fun _ t6 _=>s.size-(intOf t6).toNat)
   case atStart=>exact⟨1,0,by omega,by have:=HS.o;omega,rfl,rfl,by have e:(s.data.toList.take 1).drop 1=[]:=List.eq_nil_of_length_eq_zero (by rw[List.length_drop,List.length_take];omega);rw[e];exact oX.nil,rfl⟩
   case round=>
    obtain⟨k,n,gP,hk,rfl,rfl,hv,rfl⟩:=hrel;have TG:=Um hv;have Cd:=hv.1;have gO:=hv.2.1;clear hv;by_cases hlt:k<s.size
    ·have mW:=Um (gF s k hlt);by_cases hlo:s[k].toNat<48
     ·have HN:=Um (pF (a:=1) hlt (by omega) (fun _=>rfl) (.inl hlo));have A7:(s[k].toNat:Int)<48:=by omega
      clear hlo;go_wp2_with fail;go_ret2;exact⟨⟨none,rfl,HN.o⟩,Below.refl _ _⟩
     ·by_cases hhi:57<s[k].toNat
      ·have HN:=Um (pF (a:=1) hlt (by omega) (fun _=>rfl) (.inr hhi));have A7:¬(s[k].toNat:Int)<48:=by omega
       have Pw:(57:Int)<s[k].toNat:=by omega
       clear hlo hhi;go_wp2_with fail;go_ret2;exact⟨⟨none,rfl,HN.o⟩,Below.refl _ _⟩
      ·have A7:¬(s[k].toNat:Int)<48:=by omega
       have Pw:¬(57:Int)<s[k].toNat:=by omega
       have pO:IntKind.u8.wrap ((s[k].toNat:Int)-48)=(s[k].toNat:Int)-48:=by simp[IntKind.wrap,IntKind.bits,IntKind.signed];omega
       have Ih:IntKind.i64.wrap ((s[k].toNat:Int)-48)=(s[k].toNat:Int)-48:=by simp[IntKind.wrap,IntKind.bits,IntKind.signed];omega
       have fx:=Um (TG.o.step s[k] (by omega));have HD:=Um (show(s.data.toList.take (k+1)).drop 1=(s.data.toList.take k).drop 1++[s[k]] by rw[mW.o,List.drop_append_of_le_length (by rw[List.length_take,show s.data.toList.length=s.size from Array.length_toList];omega)]);clear hlo hhi;go_wp2_with fail;go_roundw
       case measure=>simp[intOf];omega
       case rel=>exact⟨k+1,_,by omega,by omega,by go_num,rfl,by rw[HD.o];have h:=fx.o;simp only[IntKind.wrap_i64] at h;unfold wrap64;exact h,by first|rfl|trivial⟩
    ·obtain rfl:k=s.size:=by omega
     have hall:=Um (iK s);have Cl:=Um (fun w=>tF n w Cd gO);have HV2:=Um (show oX (s.data.toList.drop 1) n by have:=TG.o;rwa [hall.out] at this);by_cases he:str (cG n)=s
     ·have Ql:=Um (show ij s (some n) from⟨he,Cd,gO⟩);rw[he] at Cl;clear he;go_wp2_with (go_at_call 67;refine(Cl.o _).mono ?_;rintro e w1 ⟨rfl,ar⟩)
      all_goals (go_ret2;first|exact⟨⟨some n,rfl,Ql.o⟩,ar⟩|(exfalso;simp_all;done))
     ·have Ql:=Um (JD Ul.o HV2.o he);have hb:=o9 he;have aD:=sD he;clear he;generalize str (cG n)=D at Cl hb aD;go_wp2_with (go_at_call 67;refine(Cl.o _).mono ?_;rintro e w1 ⟨rfl,ar⟩)
      all_goals (go_ret2;exact⟨⟨none,rfl,Ql.o⟩,ar⟩)
  ·have hc:((s[0].toNat:Int)==45)=false:=by
    simp only[beq_eq_false_iff_ne,ne_eq];intro h;exact qR (by rw[gE];show s[0].toNat=45;omega)
   have Ul:=Um (show¬∃h:0<s.size,s[0]=45 from fun⟨_,h⟩=>qR h);clear qR;go_enter Tryz.func127,Tryz.ntmps127;go_wp2_with fail
   go_loopw [5,6] (fun t5 t6 wr=>∃(k:Nat) (n:Int),0≤k∧k≤s.size∧t6=.int .i64 k∧t5=.int .i64 n∧oX ((s.data.toList.take k).drop 0) n∧w=wr) (fun _ t6 _=>s.size-(intOf t6).toNat)
   case atStart=>exact⟨0,0,by omega,by have:=HS.o;omega,rfl,rfl,by have e:(s.data.toList.take 0).drop 0=[]:=List.eq_nil_of_length_eq_zero (by rw[List.length_drop,List.length_take];omega);rw[e];exact oX.nil,rfl⟩
   case round=>
    obtain⟨k,n,gP,hk,rfl,rfl,hv,rfl⟩:=hrel;have TG:=Um hv;have Cd:=hv.1;have gO:=hv.2.1;clear hv;by_cases hlt:k<s.size
    ·have mW:=Um (gF s k hlt);by_cases hlo:s[k].toNat<48
     ·have HN:=Um (pF (a:=0) hlt (by omega) (fun h=>absurd h Ul.o) (.inl hlo));have A7:(s[k].toNat:Int)<48:=by omega
      clear hlo;go_wp2_with fail;go_ret2;exact⟨⟨none,rfl,HN.o⟩,Below.refl _ _⟩
     ·by_cases hhi:57<s[k].toNat
      ·have HN:=Um (pF (a:=0) hlt (by omega) (fun h=>absurd h Ul.o) (.inr hhi));have A7:¬(s[k].toNat:Int)<48:=by omega
       have Pw:(57:Int)<s[k].toNat:=by omega
       clear hlo hhi;go_wp2_with fail;go_ret2;exact⟨⟨none,rfl,HN.o⟩,Below.refl _ _⟩
      ·have A7:¬(s[k].toNat:Int)<48:=by omega
       have Pw:¬(57:Int)<s[k].toNat:=by omega
       have pO:IntKind.u8.wrap ((s[k].toNat:Int)-48)=(s[k].toNat:Int)-48:=by simp[IntKind.wrap,IntKind.bits,IntKind.signed];omega
       have Ih:IntKind.i64.wrap ((s[k].toNat:Int)-48)=(s[k].toNat:Int)-48:=by simp[IntKind.wrap,IntKind.bits,IntKind.signed];omega
       have fx:=Um (TG.o.step s[k] (by omega));have HD:=Um (show(s.data.toList.take (k+1)).drop 0=(s.data.toList.take k).drop 0++[s[k]] by rw[mW.o,List.drop_append_of_le_length (by rw[List.length_take,show s.data.toList.length=s.size from Array.length_toList];omega)]);clear hlo hhi;go_wp2_with fail;go_roundw
       case measure=>simp[intOf];omega
       case rel=>exact⟨k+1,_,by omega,by omega,by go_num,rfl,by rw[HD.o];have h:=fx.o;simp only[IntKind.wrap_i64] at h;unfold wrap64;exact h,by first|rfl|trivial⟩
    ·obtain rfl:k=s.size:=by omega
     have hall:=Um (iK s);have HM:=Um (show wrap64 (-n)=IntKind.i64.wrap (0-n) by rw[IntKind.wrap_i64];unfold wrap64;omega);have Dq:-9223372036854775808≤wrap64 (-n):=by unfold wrap64;omega
     have eR:wrap64 (-n)≤9223372036854775807:=by unfold wrap64;omega
     have Cl:=Um (fun w=>tF (wrap64 (-n)) w Dq eR);have HV2:=Um (show oX s.data.toList n by have:=TG.o;rwa [hall.out] at this);by_cases he:str (cG (wrap64 (-n)))=s
     ·have Ql:=Um (show ij s (some (wrap64 (-n))) from⟨he,Dq,eR⟩);rw[he] at Cl;clear he;go_wp2_with (go_at_call 67;refine(Cl.o _).mono ?_;rintro e w1 ⟨rfl,ar⟩)
      all_goals (go_ret2;first|exact⟨⟨some _,rfl,Ql.o⟩,ar⟩|(exfalso;simp_all;done))
     ·have Ql:=Um (JC Ul.o HV2.o (by rw[←HM.o];exact he));have hb:=o9 he;have aD:=sD he;clear he;generalize str (cG (wrap64 (-n)))=D at Cl hb aD;go_wp2_with (go_at_call 67;refine(Cl.o _).mono ?_;rintro e w1 ⟨rfl,ar⟩)
      all_goals (go_ret2;exact⟨⟨none,rfl,Ql.o⟩,ar⟩)
end
section
open Go.RowKit
def oR(b:Nat)(c:UInt8):Bool:=decide (48≤c.toNat∧c.toNat<48+b)
def gG(b m:Nat)(l:List UInt8):Option Nat:=if l≠[]∧l.all (oR b)=true∧fY b l≤m then some (fY b l) else none
def pA:Option Nat→Value
 |some n=>.tuple #[.int .u64 n,.bool true]
 |none=>.tuple #[.int .u64 0,.bool false]
theorem vO(b:Nat)(hb:1≤b)(l m:List UInt8):fY b l≤fY b (l++m):=by
 unfold fY;rw[List.foldl_append];generalize l.foldl (fun a c=>a*b+(c.toNat-48)) 0=n
 induction m generalizing n with
 |nil=>simp
 |cons c m ih=>
  rw[List.foldl_cons];refine ae ?_ (ih _);have:=Nat.le_mul_of_pos_right n hb;omega
theorem wj{b m:Nat}{s:ByteArray}{k:Nat}(hk:k<s.size)(h:oR b s[k]=false):gG b m s.data.toList=none:=by
 unfold gG;rw[if_neg];rintro⟨-,h2,-⟩;rw[List.all_eq_true] at h2;have:=h2 s[k] (by rw[Array.mem_toList_iff];exact Array.getElem_mem _);rw[h] at this
 cases this
theorem Ap{b m:Nat}{s:ByteArray}{k:Nat}(hb:1≤b)(h:m<fY b (s.data.toList.take k)):gG b m s.data.toList=none:=by
 unfold gG;rw[if_neg];rintro⟨-,-,h3⟩;have:=vO b hb (s.data.toList.take k) (s.data.toList.drop k);rw[List.take_append_drop] at this;omega
theorem I9{b m:Nat}{s:ByteArray}(h0:s.size≠0)(h1:s.data.toList.all (oR b)=true)(h2:fY b s.data.toList≤m):gG b m s.data.toList=some (fY b s.data.toList):=by
 unfold gG;rw[if_pos ⟨fun e=>h0 (by have:=congrArg List.length e;simpa using this),h1,h2⟩]
theorem Aq{b m:Nat}{s:ByteArray}(h0:s.size=0):gG b m s.data.toList=none:=by
 unfold gG;rw[if_neg];rintro⟨h,-⟩;exact h (List.eq_nil_of_length_eq_zero (by rw[show s.data.toList.length=s.size from Array.length_toList];exact h0))
theorem MB{n d m b:Nat}(hb:1≤b)(hd:d≤m)(h:¬((m:Int)-d) / b<n):n*b+d≤m:=by
 have h1:(n:Int)≤((m:Int)-d) / b:=by omega
 rw[Int.le_ediv_iff_mul_le (by omega)] at h1;have:((n*b:Nat):Int)=(n:Int)*b:=by push_cast;rfl
 omega
theorem MC{n d m b:Nat}(hb:1≤b)(hd:d≤m)(h:((m:Int)-d) / b<n):m<n*b+d:=by
 rw[Int.ediv_lt_iff_lt_mul (by omega)] at h;have:((n*b:Nat):Int)=(n:Int)*b:=by push_cast;rfl
 omega
theorem Ao(s:ByteArray)(b m:Nat)(w:World)(hs:s.size≤2000000)(bO:2≤b)(ar:b≤10)(Dq:10≤m)(hm:m≤9223372036854775808) :
  Calls Tryz.prog 146 #[.string s,.int .u64 b,.int .u64 m] w fun e w'=>e=.returned (pA (gG b m s.data.toList))∧Up w w':=by
 by_cases h0:s.size=0
 ·have HN:=Um (Aq (b:=b) (m:=m) h0);have he:s=ByteArray.empty:=by
   cases s with|mk d=>exact congrArg ByteArray.mk (Array.eq_empty_of_size_eq_zero h0)
  subst he;clear h0;go_enter Tryz.func146,Tryz.ntmps146;go_wp2_with fail;go_ret2;exact⟨by rw[HN.o];rfl,Below.refl _ _⟩
 ·have H0:=Um h0;have h1:s.toList.isEmpty=false:=by
   rw[ByteArray.toList_eq]
   cases hh:s.data.toList with
   |nil=>exact absurd (by have:=congrArg List.length hh;simpa using this) h0
   |cons=>rfl
  have h2:s.toList≠[]:=by intro e;rw[e] at h1;cases h1
  clear h0;go_enter Tryz.func146,Tryz.ntmps146;go_wp2_with fail
  go_loopw [8] (fun t8 wr=>∃k:Nat,k≤s.size∧wr.heap[w.heap.size]?=some (.stringIter s k)∧t8=.int .u64 (fY b (s.data.toList.take k):Nat)∧(s.data.toList.take k).all (oR b)=true∧fY b (s.data.toList.take k)≤m∧Up w wr) (fun _ wr=>s.size-wr.iterPos w.heap.size)
  case atStart=>exact⟨0,Nat.zero_le _,by have:=World.iter_heap w s 0;simpa using this,by simp[fY],by simp,by simp[fY],(Below.refl _ _).alloc (aa _) _⟩
  case round=>
   obtain⟨k,hk,hit,rfl,hall,hle,hW⟩:=hrel;have jZ:=Um hall;have HW:=Um hW;have HP:=Um (show wr.iterPos w.heap.size=k by simp[World.iterPos,hit]);clear hall hW;by_cases hlt:k<s.size
   ·have hnx:∀ty,(Instr.next (.pointer (some ⟨w.heap.size,0,none⟩)) true ty).run Tryz.prog wr=_:=fun ty=>Lib.run_next_any_at wr w.heap.size s k ty hit hlt;have mW:=Um (gF s k hlt);have HG:=Um (Ap (b:=b) (m:=m) (s:=s) (k:=k+1) (by omega));generalize hn:fY b (s.data.toList.take k)=n at hle;have H':=Um hn;have HVs:=Um (show fY b (s.data.toList.take (k+1))=n*b+(s[k].toNat-48) by rw[mW.o,mY,hn]);clear hn;have gO:n≤9223372036854775808:=by omega
    by_cases hhi:128≤s[k].toNat
    ·have HB:=Um (wj (b:=b) (m:=m) hlt (by unfold oR;exact decide_eq_false (by omega)));obtain⟨GJ,eS⟩:=decode_high s k hlt hhi;have eh:=decode_le s k;generalize (Utf8.decode s k).1=c at hnx GJ eh;generalize (Utf8.decode s k).2=wd at hnx;have cV:=Um (Lib.below_iterAt HW.o (k:=w.heap.size) (aa _) s (k+wd));clear hhi eS;go_wp2_with fail;go_ret2;exact⟨by rw[HB.o];rfl,cV.o⟩
    ·have hasc:=decode_ascii s k hlt (by omega);rw[hasc] at hnx;have cV:=Um (Lib.below_iterAt HW.o (k:=w.heap.size) (aa _) s (k+1));have HI2:=Um (Lib.iterAt_heap wr w.heap.size s k (k+1) hit);have ru:=Um (fun h=>wj (b:=b) (m:=m) hlt h);have HD:=Um (show oR b s[k]=decide (48≤s[k].toNat∧s[k].toNat<48+b) from rfl);have SK:s[k].toNat<256:=UInt8.toNat_lt _;generalize s[k].toNat=c at hnx hhi HVs HD SK;clear hasc;by_cases hlo:c<48
     ·have HB:=Um (ru.o (by rw[HD.o];exact decide_eq_false (by omega)));have A7:(c:Int)<48:=by omega
      clear hlo hhi;go_wp2_with fail;go_ret2;exact⟨by rw[HB.o];rfl,cV.o⟩
     ·by_cases hup:48+b≤c
      ·have HB:=Um (ru.o (by rw[HD.o];exact decide_eq_false (by omega)));have A7:(48:Int)≤c:=by omega
       have hup2:(b:Int)≤(c:Int)-48:=by omega
       clear hlo hhi hup;go_wp2_with fail;go_ret2;exact⟨by rw[HB.o];rfl,cV.o⟩
      ·obtain⟨d,rfl⟩:∃d,c=48+d:=⟨c-48,by omega⟩;have hd:d<b:=by omega
       have hcd:((48+d:Nat):Int)-48=d:=by omega
       have A7:(48:Int)≤((48+d:Nat):Int):=by omega
       have HDT:=Um (show oR b s[k]=true by rw[HD.o];exact decide_eq_true (by omega));clear hlo hhi hup HD;have HLe:=Um (fun h=>MB (n:=n) (d:=d) (m:=m) (b:=b) (by omega) (by omega) h);have T1:=Um (fun h=>MC (n:=n) (d:=d) (m:=m) (b:=b) (by omega) (by omega) h);have hq:0≤((m:Int)-d) / b:=Int.ediv_nonneg (by omega) (by omega);have hd9:d≤9:=by omega
       have hnb:=Um (show n*b≤n*10 from Nat.mul_le_mul_left _ (by omega));have HC:=Um (show((n*b:Nat):Int)=(n:Int)*b by push_cast;rfl);have Ui:=Um (show(s.data.toList.take (k+1)).all (oR b)=true by rw[mW.o,List.all_append,jZ.o];simp[HDT.o]);go_wp2_with fail
       ·have hg:((m:Int)-d) / b<n:=by
         have:=‹_∨_›;rcases this with h|h
         ·omega
         ·rw[show(48:Int)+(d:Int)-48=d by omega] at h;exact h
        go_ret2;exact⟨by rw[HG.o (by rw[HVs.o];have:=T1.o hg;omega)];rfl,cV.o⟩
       ·have hg:¬((m:Int)-d) / b<n:=by
         have:=(‹_∧_› : _∧(n:Int)≤_).2;rw[show(48:Int)+(d:Int)-48=d by omega] at this;omega
        have hnm:=HLe.o hg;go_roundw
        case rel=>exact⟨k+1,by omega,HI2.o,by rw[HVs.o];have:=HC.o;congr 1;simp only[IntKind.wrap_u64];omega,Ui.o,by rw[HVs.o];omega,cV.o⟩
        case measure=>rw[HP.o];simp[World.iterPos,HI2.o];omega
   ·obtain rfl:k=s.size:=by omega
    have mW:=Um (iK s);have hnx:∀ty,(Instr.next (.pointer (some ⟨w.heap.size,0,none⟩)) true ty).run Tryz.prog wr=_:=fun ty=>Lib.run_next_end_at wr w.heap.size s s.size ty hit (by omega);go_wp2_with fail;go_ret2;rw[mW.o] at jZ hle;exact⟨by rw[I9 H0.o jZ.o hle,mW.o];rfl,HW.o⟩
end
section
open Go.RowKit
theorem KL:∀(n:Nat),10≤n→(lx 10 n).head?≠some 48:=by
 intro n
 induction n using Nat.strongRecOn with
 |_ n ih=>
  intro h;rw[iP (by omega) h];have hp:=p5 10 (n / 10) (by omega)
  cases hd:lx 10 (n / 10) with
  |nil=>rw[hd] at hp;simp at hp
  |cons c r=>
   by_cases h2:10≤n / 10
   ·have:=ih (n / 10) (by omega) h2;rw[hd] at this;simpa using this
   ·rw[eH (by omega)] at hd;injection hd with h3 h4;subst h3;simp only[List.cons_append,List.head?_cons,ne_eq,Option.some.injEq];intro e;have:=congrArg UInt8.toNat e;simp at this;omega
theorem KJ(l:List UInt8):l≠[]→l.all (oR 10)=true→(1<l.length→l.head?≠some 48)→lx 10 (fY 10 l)=l:=by
 refine gU (P:=fun l=>l≠[]→l.all (oR 10)=true→(1<l.length→l.head?≠some 48)→lx 10 (fY 10 l)=l) (fun h=>absurd rfl h) (fun l c ih=>?_) l;intro _ hall hz;rw[List.all_append,Bool.and_eq_true] at hall;have hc:48≤c.toNat∧c.toNat<58:=by have:=hall.2;simp[oR] at this;exact this
 have hcc:UInt8.ofNat (48+(c.toNat-48))=c:=by rw[show 48+(c.toNat-48)=c.toNat by omega];simp
 rw[mY]
 cases l with
 |nil=>
  rw[show fY 10 []=0 from rfl,Nat.zero_mul,Nat.zero_add,eH (by omega),hcc];rfl
 |cons x r=>
  have hx:49≤x.toNat:=by
   have h1:=hz (by simp);have h2:oR 10 x=true:=by have:=hall.1;simp at this;exact this.1
   simp[oR] at h2;simp at h1;have:x.toNat≠48:=fun e=>h1 (UInt8.toNat_inj.1 e);omega
  have hv:1≤fY 10 (x::r):=by
   have:=vO 10 (by omega) [x] r;simp[fY] at this⊢;omega
  have ih:=ih (by simp) hall.1 (fun h=>by have:=hz (by simp);simpa using this);rw[iP (by omega) (by omega),show(fY 10 (x::r)*10+(c.toNat-48)) / 10=fY 10 (x::r) by omega,show(fY 10 (x::r)*10+(c.toNat-48)) % 10=c.toNat-48 by omega,ih,hcc]
theorem NI(n:Nat):(lx 10 n).all (oR 10)=true:=by
 rw[List.all_eq_true];intro c hc;have:=fm 10 (by omega) (by omega) n c hc;exact decide_eq_true (by omega)
theorem P7(n:Nat):lx 10 n≠[]:=fun e=>by have:=p5 10 n (by omega);rw[e] at this;simp at this
theorem qD(n m:Nat)(h:n≤m):gG 10 m (lx 10 n)=some n:=by
 unfold gG;rw[jx 10 (by omega) (by omega),if_pos ⟨P7 n,NI n,h⟩]
theorem BG{n:Nat}(h1:1<(lx 10 n).length)(h2:(lx 10 n).head?=some 48):False:=by
 by_cases h:10≤n
 ·exact KL n h h2
 ·rw[eH (by omega)] at h1;simp at h1
theorem kR{m v:Nat}{l:List UInt8}(h:gG 10 m l=some v):l≠[]∧l.all (oR 10)=true∧v≤m∧fY 10 l=v:=by
 unfold gG at h
 split at h
 ·rename_i hh;injection h with h;exact⟨hh.1,hh.2.1,h▸hh.2.2,h⟩
 ·cases h
def pN(l:List UInt8):Prop:=1<l.length∧l.head?=some 48
theorem yj{s:ByteArray}(qR:s.data.toList.head?≠some 45)(h:gG 10 9223372036854775807 s.data.toList=none∨pN s.data.toList):ij s none:=fun n h0 h1 e=>by
 have hl:=gH e;unfold cG at hl;by_cases hn:n<0
 ·rw[if_pos hn] at hl;rw[hl] at qR;exact qR rfl
 ·rw[if_neg hn] at hl;rw[hl] at h;rcases h with h|h
  ·rw[qD _ _ (by omega)] at h;cases h
  ·exact BG h.1 h.2
theorem yi{s:ByteArray}{v:Nat}(h:gG 10 9223372036854775807 s.data.toList=some v)(hl:¬pN s.data.toList):ij s (some (v:Int)):=by
 obtain⟨h1,h2,h3,h4⟩:=kR h;refine⟨?_,by omega,by omega⟩;unfold cG;rw[if_neg (by omega),Int.toNat_natCast,←h4,KJ _ h1 h2 (fun a b=>hl ⟨a,b⟩),eC]
theorem ym{s:ByteArray}{l:List UInt8}(hs:s.data.toList=45::l)(h:gG 10 9223372036854775808 l=none∨pN l∨gG 10 9223372036854775808 l=some 0):ij s none:=fun n h0 h1 e=>by
 have hl:=gH e;rw[hs] at hl;unfold cG at hl;by_cases hn:n<0
 ·rw[if_pos hn] at hl;injection hl with _ hl;subst hl;rcases h with h|h|h
  ·rw[qD _ _ (by omega)] at h;cases h
  ·exact BG h.1 h.2
  ·rw[qD _ _ (by omega)] at h;injection h with h;omega
 ·rw[if_neg hn] at hl;have:=fm 10 (by omega) (by omega) n.toNat 45 (by rw[←hl];simp);exact absurd this.1 (by decide)
theorem yl{s:ByteArray}{l:List UInt8}{v:Nat}(hs:s.data.toList=45::l)(h:gG 10 9223372036854775808 l=some v)(hl:¬pN l)(h0:v≠0):ij s (some (-(v:Int))):=by
 obtain⟨h1,h2,h3,h4⟩:=kR h;refine⟨?_,by omega,by omega⟩;unfold cG;rw[if_pos (by omega),show(-(v:Int)).natAbs=v by omega,←h4,KJ _ h1 h2 (fun a b=>hl ⟨a,b⟩),←hs,eC]
theorem NK(s:ByteArray)(l:List UInt8)(hs:s.data.toList=45::l)(w:World) :
  Calls Tryz.prog 145 #[.string s,.string (ByteArray.mk #[45])] w fun e w'=>e=.returned (.tuple #[.string (str l),.bool true])∧w=w':=by
 refine(Tryz.strings_CutPrefix s (ByteArray.mk #[45]) w).mono ?_;rintro e w' ⟨rfl,rfl⟩;rw[hs];exact⟨by simp[Lib.trimPrefix,Lib.hasPrefix,str],rfl⟩
theorem P9(s:ByteArray)(hs:s.data.toList.head?≠some 45)(w:World) :
  Calls Tryz.prog 145 #[.string s,.string (ByteArray.mk #[45])] w fun e w'=>e=.returned (.tuple #[.string s,.bool false])∧w=w':=by
 refine(Tryz.strings_CutPrefix s (ByteArray.mk #[45]) w).mono ?_;rintro e w' ⟨rfl,rfl⟩;have h1:Lib.hasPrefix s.data.toList (ByteArray.mk #[45]).data.toList=false:=by
  cases h:s.data.toList with
  |nil=>rfl
  |cons c r=>
   rw[h] at hs;have hc:(45:UInt8)≠c:=fun e=>hs (by rw[←e];rfl);show((45:UInt8)==c&&_)=false;rw[beq_eq_false_iff_ne.2 hc,Bool.false_and]
 refine⟨?_,rfl⟩;have h2:Lib.trimPrefix s.data.toList (ByteArray.mk #[45]).data.toList=s.data.toList:=by unfold Lib.trimPrefix;rw[h1];rfl
 rw[h1,h2]
theorem AW{s:ByteArray}(h:1<s.size):pN s.data.toList↔s[0]=48:=by
 have hg:s.data.toList[0]?=some s[0]:=by rw[Array.getElem?_toList];exact Array.getElem?_eq_getElem (show 0<s.size by omega)
 unfold pN;rw[List.head?_eq_getElem?,hg,show s.data.toList.length=s.size from Array.length_toList];simp[h]
theorem uh(t:ByteArray):(t.size≤1∧¬pN t.data.toList)∨(∃h:1<t.size,t[0]=48∧pN t.data.toList)∨(∃h:1<t.size,t[0]≠48∧¬pN t.data.toList):=by
 by_cases h:1<t.size
 ·by_cases h2:t[0]=48
  ·exact .inr (.inl ⟨h,h2,(AW h).2 h2⟩)
  ·exact .inr (.inr ⟨h,h2,fun e=>h2 ((AW h).1 e)⟩)
 ·refine .inl ⟨by omega,fun e=>?_⟩;have:=e.1;rw[show t.data.toList.length=t.size from Array.length_toList] at this;omega
theorem pD{a b:Int}(h:a=b):Ending.returned (.tuple #[.int .i64 a,.bool true])=.returned (oH (some b)):=by rw[h];rfl
theorem ML(s:ByteArray)(w:World)(hs:s.size≤2000000) :
  Calls Tryz.prog 85 #[.string s] w fun e w'=>(∃r,e=.returned (oH r)∧ij s r)∧Up w w':=by
 by_cases qR:s.data.toList.head?=some 45
 ·obtain⟨l,hl⟩:∃l,s.data.toList=45::l:=by
   cases h:s.data.toList with
   |nil=>rw[h] at qR;cases qR
   |cons c r=>rw[h] at qR;injection qR with qR;exact⟨r,by rw[qR]⟩
  have hls:(str l).size≤2000000:=by
   have:=congrArg List.length hl;rw[show s.data.toList.length=s.size from Array.length_toList,List.length_cons] at this;rw[aP];omega
  have HC:=Um (NK s l hl);have HR:=Um (fun w=>Ao (str l) 10 9223372036854775808 w hls (by omega) (by omega) (by omega) (by omega));have lL:=Um (ym hl);have j7:=Um (fun v=>yl (v:=v) hl);have xK:=Um (uh (str l));have hstr:(str l).data.toList=l:=by simp[str]
  rw[hstr] at HR xK;clear hstr qR hl;generalize str l=t at HC HR xK hls;generalize hr:gG 10 9223372036854775808 l=r at HR lL j7
  cases r with
  |none=>
   have HN:=Um (lL.o (.inl rfl));simp only[pA] at HR;clear hr;go_enter Tryz.func85,Tryz.ntmps85;go_wp2_with (first|(go_at_call 145;refine(HC.o _).mono ?_;rintro e w1 ⟨rfl,rfl⟩)|(go_at_call 146;refine(HR.o _).mono ?_;rintro e w1 ⟨rfl,ar⟩));go_ret2;exact⟨⟨none,rfl,HN.o⟩,ar⟩
  |some v=>
   have hv:=(kR hr).2.2.1;simp only[pA] at HR;rcases xK.o with⟨h1,h2⟩|⟨h1,h2,h3⟩|⟨h1,h2,h3⟩
   ·by_cases EB:v=0
    ·have HN:=Um (lL.o (.inr (.inr (by rw[EB]))));subst EB;have mH:(t.size:Int)≤1:=by omega
     clear hr h1 h2;go_enter Tryz.func85,Tryz.ntmps85;go_wp2_with (first|(go_at_call 145;refine(HC.o _).mono ?_;rintro e w1 ⟨rfl,rfl⟩)|(go_at_call 146;refine(HR.o _).mono ?_;rintro e w1 ⟨rfl,ar⟩));go_ret2;exact⟨⟨none,rfl,HN.o⟩,ar⟩
    ·have HN:=Um (j7.o v rfl h2 EB);have mH:(t.size:Int)≤1:=by omega
     clear hr h1 h2;have LJ:((v:Int)==0)=false:=by simpa using EB
     have qM:¬(v:Int)=0:=by omega
     have D1:=Um EB;clear EB;go_enter Tryz.func85,Tryz.ntmps85;go_wp2_with (first|(go_at_call 145;refine(HC.o _).mono ?_;rintro e w1 ⟨rfl,rfl⟩)|(go_at_call 146;refine(HR.o _).mono ?_;rintro e w1 ⟨rfl,ar⟩));go_ret2;exact⟨⟨some _,pD (by simp only[IntKind.wrap_i64,IntKind.wrap_u64,wrap64];have:=D1.o;omega),HN.o⟩,ar⟩
   ·have HN:=Um (lL.o (.inr (.inl h3)));have mH:(1:Int)<t.size:=by omega
    have hc:((t[0].toNat:Int)==48)=true:=by rw[h2];rfl
    have hp:0<t.size:=by omega
    clear hr h2 h3;go_enter Tryz.func85,Tryz.ntmps85;go_wp2_with (first|(go_at_call 145;refine(HC.o _).mono ?_;rintro e w1 ⟨rfl,rfl⟩)|(go_at_call 146;refine(HR.o _).mono ?_;rintro e w1 ⟨rfl,ar⟩));go_ret2;exact⟨⟨none,rfl,HN.o⟩,ar⟩
   ·by_cases EB:v=0
    ·have HN:=Um (lL.o (.inr (.inr (by rw[EB]))));subst EB;have mH:(1:Int)<t.size:=by omega
     have hc:((t[0].toNat:Int)==48)=false:=by
      simp only[beq_eq_false_iff_ne,ne_eq];intro e;exact h2 (by rw[gE];show t[0].toNat=48;omega)
     have hp:0<t.size:=by omega
     clear hr h2 h3;go_enter Tryz.func85,Tryz.ntmps85;go_wp2_with (first|(go_at_call 145;refine(HC.o _).mono ?_;rintro e w1 ⟨rfl,rfl⟩)|(go_at_call 146;refine(HR.o _).mono ?_;rintro e w1 ⟨rfl,ar⟩));go_ret2;exact⟨⟨none,rfl,HN.o⟩,ar⟩
    ·have HN:=Um (j7.o v rfl h3 EB);have mH:(1:Int)<t.size:=by omega
     have hc:((t[0].toNat:Int)==48)=false:=by
      simp only[beq_eq_false_iff_ne,ne_eq];intro e;exact h2 (by rw[gE];show t[0].toNat=48;omega)
     have hp:0<t.size:=by omega
     clear hr h2 h3;have LJ:((v:Int)==0)=false:=by simpa using EB
     have qM:¬(v:Int)=0:=by omega
     have D1:=Um EB;clear EB;go_enter Tryz.func85,Tryz.ntmps85;go_wp2_with (first|(go_at_call 145;refine(HC.o _).mono ?_;rintro e w1 ⟨rfl,rfl⟩)|(go_at_call 146;refine(HR.o _).mono ?_;rintro e w1 ⟨rfl,ar⟩));go_ret2;exact⟨⟨some _,pD (by simp only[IntKind.wrap_i64,IntKind.wrap_u64,wrap64];have:=D1.o;omega),HN.o⟩,ar⟩
 ·have HC:=Um (P9 s qR);have HR:=Um (fun w=>Ao s 10 9223372036854775807 w hs (by omega) (by omega) (by omega) (by omega));have lL:=Um (yj qR);have j7:=Um (fun v=>yi (s:=s) (v:=v));have xK:=Um (uh s);clear qR;obtain⟨t,ht⟩:∃t,t=s:=⟨s,rfl⟩;generalize hr:gG 10 9223372036854775807 s.data.toList=r at HR lL j7;rw[←ht] at hs HC HR xK lL j7⊢;clear ht
  cases r with
  |none=>
   have HN:=Um (lL.o (.inl rfl));simp only[pA] at HR;clear hr;go_enter Tryz.func85,Tryz.ntmps85;go_wp2_with (first|(go_at_call 145;refine(HC.o _).mono ?_;rintro e w1 ⟨rfl,rfl⟩)|(go_at_call 146;refine(HR.o _).mono ?_;rintro e w1 ⟨rfl,ar⟩));go_ret2;exact⟨⟨none,rfl,HN.o⟩,ar⟩
  |some v=>
   have hv:=(kR hr).2.2.1;simp only[pA] at HR;rcases xK.o with⟨h1,h2⟩|⟨h1,h2,h3⟩|⟨h1,h2,h3⟩
   ·have HN:=Um (j7.o v rfl h2);have mH:(t.size:Int)≤1:=by omega
    clear hr h1 h2;go_enter Tryz.func85,Tryz.ntmps85;go_wp2_with (first|(go_at_call 145;refine(HC.o _).mono ?_;rintro e w1 ⟨rfl,rfl⟩)|(go_at_call 146;refine(HR.o _).mono ?_;rintro e w1 ⟨rfl,ar⟩));go_ret2;exact⟨⟨some _,pD (by first|rfl|(simp only[IntKind.wrap_i64,IntKind.wrap_u64];omega)),HN.o⟩,ar⟩
   ·have HN:=Um (lL.o (.inr h3));have mH:(1:Int)<t.size:=by omega
    have hc:((t[0].toNat:Int)==48)=true:=by rw[h2];rfl
    have hp:0<t.size:=by omega
    clear hr h2 h3;go_enter Tryz.func85,Tryz.ntmps85;go_wp2_with (first|(go_at_call 145;refine(HC.o _).mono ?_;rintro e w1 ⟨rfl,rfl⟩)|(go_at_call 146;refine(HR.o _).mono ?_;rintro e w1 ⟨rfl,ar⟩));go_ret2;exact⟨⟨none,rfl,HN.o⟩,ar⟩
   ·have HN:=Um (j7.o v rfl h3);have mH:(1:Int)<t.size:=by omega
    have hc:((t[0].toNat:Int)==48)=false:=by
     simp only[beq_eq_false_iff_ne,ne_eq];intro e;exact h2 (by rw[gE];show t[0].toNat=48;omega)
    have hp:0<t.size:=by omega
    clear hr h2 h3;go_enter Tryz.func85,Tryz.ntmps85;go_wp2_with (first|(go_at_call 145;refine(HC.o _).mono ?_;rintro e w1 ⟨rfl,rfl⟩)|(go_at_call 146;refine(HR.o _).mono ?_;rintro e w1 ⟨rfl,ar⟩));go_ret2;exact⟨⟨some _,pD (by first|rfl|(simp only[IntKind.wrap_i64,IntKind.wrap_u64];omega)),HN.o⟩,ar⟩
end
section
open Go.RowKit
theorem s9(c:UInt8):∀(n:Nat) (s:ByteArray),Lib.countB s (ByteArray.mk #[c])=n→(Lib.splitB (ByteArray.mk #[c]) 0 n s).map (·.data.toList)=dB c s.data.toList
 |n,s,h=>by
  by_cases hm:Lib.indexB s (ByteArray.mk #[c])=-1
  ·rw[Lib.splitB_miss _ _ _ _ hm,dK c _ (lf _ _ (by rw[←mB];exact hm))];rfl
  ·have hge:=Lib.indexByte_ge s.data.toList c;rw[←mB] at hge;obtain⟨i,hi⟩:∃i:Nat,Lib.indexB s (ByteArray.mk #[c])=i:=⟨(Lib.indexB s (ByteArray.mk #[c])).toNat,by omega⟩;have hc:=Lib.countB_hit s (ByteArray.mk #[c]) i (aa 1) hi;obtain⟨n,rfl⟩:∃k,n=k+1:=⟨n-1,by omega⟩;rw[Lib.splitB_hit _ _ _ _ i hi,List.map_cons,s9 c n _ (by omega)];obtain⟨h1,h2,h3⟩:=ki _ _ i ((mB s c).symm.trans hi)
   conv=>rhs;rw[h2,gu,dK c _ h3]
   show(s.extract 0 (i+0)).data.toList::dB c (s.extract (i+1) s.size).data.toList=_;rw[yM,yL];rfl
termination_by n=>n
theorem CJ(c:UInt8)(s:ByteArray):Lib.splitB (ByteArray.mk #[c]) 0 (Lib.countB s (ByteArray.mk #[c])) s=(dB c s.data.toList).map str:=by
 rw[←s9 c _ s rfl,List.map_map]
 conv=>lhs;rw[←List.map_id (Lib.splitB _ _ _ _)]
 refine List.map_congr_left fun x _=>(eC x).symm
theorem OS.made(w:World)(base:Nat)(ls:List (List UInt8))(hb:base≤w.heap.size)(hl:ls.length≤10000000) :
  OS (w.alloc (.cells ((ls.map str).map Value.string).toArray 9)) base (.slice (some ⟨w.heap.size,0,none⟩) ls.length ls.length) ls:=by
 have hf:ls.flatMap qX=(ls.map str).map Value.string:=by
  induction ls with
  |nil=>rfl
  |cons x xs ih=>rw[List.flatMap_cons,ih (by simp at hl;omega)];rfl
 refine⟨by rw[bC mO],.inr ⟨w.heap.size,ls.length,_,rfl,hb,au.new w _ _,aa _,by unfold maxLen;omega,by simp,?_⟩⟩;rw[hf,List.take_of_length_le (by simp)]
def kl(w:World):Prop:=∃m,w.cell? ⟨2,0,none⟩=some (.int .i64 m)
theorem kl.ak{w w':World}(h:kl w)(hb:Up w w'):kl w':=by
 obtain⟨m,hm⟩:=h;exact⟨m,(hb.cell (p:=⟨_,0,none⟩) (jo hm).2).trans hm⟩
theorem kl.Gf{w:World}(h:w.ShapedOpen Tryz.prog):kl w:=Tryz.ui.s1_3 w h
theorem Fo(s:ByteArray)(c:UInt8)(w:World)(hs:s.size≤2000000)(hm:kl w) :
  Calls Tryz.prog 83 #[.string s,.string (ByteArray.mk #[c])] w fun e w'=>(∃g cap,e=.returned (.slice (some ⟨g,0,none⟩) (dB c s.data.toList).length cap)∧OS w' w.heap.size (.slice (some ⟨g,0,none⟩) (dB c s.data.toList).length cap) (dB c s.data.toList))∧Up w w':=by
 obtain⟨m,hm⟩:=hm;refine(Any.strings_Split {Tryz.ui with} Tryz.ui.i9 s (ByteArray.mk #[c]) m w (by omega) hm (aa 1)).mono ?_;rintro e w' ⟨rfl,rfl⟩;have h1:=CJ c s;have h2:Lib.countB s (ByteArray.mk #[c])+1=(dB c s.data.toList).length:=by
  rw[←Lib.splitB_all (ByteArray.mk #[c]) (aa 1) 0 _ s rfl,h1,List.length_map]
 have h3:=(dM c s.data.toList).2;have h4:s.data.toList.length=s.size:=Array.length_toList;rw[h2,h1];exact⟨⟨w.heap.size,_,rfl,OS.made w _ _ (aa _) (by omega)⟩,(Below.refl _ _).alloc (aa _) _⟩
end
section
open Go.RowKit
structure Nt where
 kind:UInt8
 no:Int
 src:ByteArray
 dst:ByteArray
 tmp:ByteArray
def Nt.cs(x:Nt):List Value:=[.int .u8 x.kind.toNat,.int .i64 x.no,.string x.src,.string x.dst,.string x.tmp]
def Nt.v(x:Nt):Value:=.agg #[.int .u8 x.kind.toNat,.int .i64 x.no,.string x.src,.string x.dst,.string x.tmp]
structure Nt.Ok(x:Nt):Prop where
 src:x.src.size≤2000000
 dst:x.dst.size≤2000000
 tmp:x.tmp.size≤2000000
 n0:-9223372036854775808≤x.no
 n1:x.no≤9223372036854775807
def dZ(x:Nt):Bool:=
 if x.kind.toNat=109 then eQ x.src&&eQ x.dst&&x.tmp.toList.isEmpty&&decide (1≤x.no)
 else if x.kind.toNat=99 then x.src.toList.isEmpty&&eQ x.dst&&eQ x.tmp&&decide (0≤x.no)
 else decide (x.kind.toNat=120)&&eQ x.src&&eQ x.dst&&eQ x.tmp&&decide (1≤x.no)
theorem wR(x:Nt):(((x.kind.toNat:Int)==109)=true∧dZ x=(eQ x.src&&eQ x.dst&&x.tmp.toList.isEmpty&&decide (1≤x.no)))∨
  (((x.kind.toNat:Int)==109)=false∧((x.kind.toNat:Int)==99)=true∧dZ x=(x.src.toList.isEmpty&&eQ x.dst&&eQ x.tmp&&decide (0≤x.no)))∨
  (((x.kind.toNat:Int)==109)=false∧((x.kind.toNat:Int)==99)=false∧((x.kind.toNat:Int)==120)=true∧dZ x=(eQ x.src&&eQ x.dst&&eQ x.tmp&&decide (1≤x.no)))∨
  (((x.kind.toNat:Int)==109)=false∧((x.kind.toNat:Int)==99)=false∧((x.kind.toNat:Int)==120)=false∧dZ x=false):=by
 have hb:∀c:Int,((x.kind.toNat:Int)==c)=decide ((x.kind.toNat:Int)=c):=fun c=>by rw[Bool.eq_iff_iff];simp
 simp only[hb,decide_eq_true_eq,decide_eq_false_iff_not];unfold dZ;by_cases h1:x.kind.toNat=109
 ·exact .inl ⟨by omega,by rw[if_pos h1]⟩
 ·by_cases h2:x.kind.toNat=99
  ·exact .inr (.inl ⟨by omega,by omega,by rw[if_neg h1,if_pos h2]⟩)
  ·by_cases h3:x.kind.toNat=120
   ·exact .inr (.inr (.inl ⟨by omega,by omega,by omega,by rw[if_neg h1,if_neg h2,decide_eq_true h3];simp⟩))
   ·exact .inr (.inr (.inr ⟨by omega,by omega,by omega,by rw[if_neg h1,if_neg h2,decide_eq_false h3];simp⟩))
theorem Eu(x:Nt)(w:World)(hx:x.Ok) :
  Calls Tryz.prog 55 #[x.v] w fun e w'=>e=.returned (.bool (dZ x))∧Up w w':=by
 have c1:=Um (fun w=>qY x.src w hx.src);have c2:=Um (fun w=>qY x.dst w hx.dst);have c3:=Um (fun w=>qY x.tmp w hx.tmp);have hb:=au.new w #[.int .u8 x.kind.toNat,.int .i64 x.no,.string x.src,.string x.dst,.string x.tmp] 63;have hB:=Um (al (Uq w) (.cells #[.int .u8 x.kind.toNat,.int .i64 x.no,.string x.src,.string x.dst,.string x.tmp] 63));unfold Nt.v;rcases wR x with⟨k1,hm⟩|⟨k1,k2,hm⟩|⟨k1,k2,k3,hm⟩|⟨k1,k2,k3,hm⟩
 all_goals
  have hM:=Um hm;clear hm;go_enter Tryz.func55,Tryz.ntmps55;go_wp2_with (go_at_call 89;first|((with_reducible refine(c1.out _).mono ?_);rintro e w1 ⟨rfl,rfl⟩)|((with_reducible refine(c2.out _).mono ?_);rintro e w1 ⟨rfl,rfl⟩)|((with_reducible refine(c3.out _).mono ?_);rintro e w1 ⟨rfl,rfl⟩))
  all_goals
   go_ret;refine⟨aZ ?_,hB.out⟩;rw[hM.out]
   try simp[*]
end
section
open Go.RowKit
theorem I7(x:Nt)(w:World)(hx:x.Ok) :
  Calls Tryz.prog 64 #[x.v] w fun e w'=>e=.returned (.bool (dZ x))∧Up w w':=by
 have c1:=Um (fun w=>oC x.src w hx.src);have c2:=Um (fun w=>oC x.dst w hx.dst);have c3:=Um (fun w=>oC x.tmp w hx.tmp);have hb:=au.new w #[.int .u8 x.kind.toNat,.int .i64 x.no,.string x.src,.string x.dst,.string x.tmp] 63;have hB:=Um (al (Uq w) (.cells #[.int .u8 x.kind.toNat,.int .i64 x.no,.string x.src,.string x.dst,.string x.tmp] 63));unfold Nt.v;rcases wR x with⟨k1,hm⟩|⟨k1,k2,hm⟩|⟨k1,k2,k3,hm⟩|⟨k1,k2,k3,hm⟩
 all_goals
  have hM:=Um hm;clear hm;go_enter Tryz.func64,Tryz.ntmps64;go_wp2_with (go_at_call 112;first|((with_reducible refine(c1.out _).mono ?_);rintro e w1 ⟨rfl,ar⟩;have hb:=hb.ak ar;have hB:=Um (ao hB.out ar);clear ar;obtain⟨cc,cf,cz⟩:=hb.facts)|((with_reducible refine(c2.out _).mono ?_);rintro e w1 ⟨rfl,ar⟩;have hb:=hb.ak ar;have hB:=Um (ao hB.out ar);clear ar;obtain⟨cc,cf,cz⟩:=hb.facts)|((with_reducible refine(c3.out _).mono ?_);rintro e w1 ⟨rfl,ar⟩;have hb:=hb.ak ar;have hB:=Um (ao hB.out ar);clear ar;obtain⟨cc,cf,cz⟩:=hb.facts))
  all_goals
   go_ret;refine⟨aZ ?_,hB.out⟩;rw[hM.out]
   try simp[*]
end
section
open Go.RowKit
structure Gr where
 a:Option Addr
 c:Nat
 notes:List Nt
 fin:UInt8
def Gr.cs(g:Gr):List Value:=[.slice g.a g.notes.length g.c,.int .u8 g.fin.toNat]
theorem Gr.bt(g:Gr):g.cs.length=2:=rfl
theorem Nt.bt(x:Nt):x.cs.length=5:=rfl
def Ig(cs:List Value)(x:Nt):Prop:=cs=x.cs
def P4(cs:List Value)(g:Gr):Prop:=cs=g.cs
def Gr.At(w:World)(g:Gr):Prop:=bj w 5 Ig g.a g.notes.length g.c g.notes
structure j0(w:World)(a:Option Addr)(c:Nat)(gs:List Gr):Prop where
 sl:bj w 2 P4 a gs.length c gs
 at':∀g∈gs,g.At w
def rv(gs:List Gr):Prop:=∀g∈gs,∀x∈g.notes,x.Ok
def Gr.p(g:Gr):List Nt×UInt8:=(g.notes,g.fin)
def j4(last:Bool)(g:List Nt×UInt8):Bool:=
 g.1.all dZ && !g.1.isEmpty&&(decide (g.2.toNat=101)||(last&&(decide (g.2.toNat=0)||decide (g.2.toNat=100)||decide (g.2.toNat=117))))
def bU:List (List Nt×UInt8)→Bool
 | []=>true
 |g::gs=>j4 gs.isEmpty g&&bU gs
theorem rF{α:Type}{w w':World}{N sz n c:Nat}{R:List Value→α→Prop}{a:Option Addr}{xs:List α}(h:bj w sz R a n c xs)(hb:Below N w w')(hN:w.heap.size≤N):bj w' sz R a n c xs:=by
 obtain⟨h1,h2,h3,h4⟩:=h;refine⟨h1,h2,h3,h4.imp id fun⟨b,off,he,hlt,hel⟩=>⟨b,off,he,Nat.lt_of_lt_of_le hlt hb.size,fun i hi=>?_⟩⟩;obtain⟨cs,eS,eh,No⟩:=hel i hi;exact⟨cs,eS,eh,fun j hj=>(hb.cell (p:=⟨b,_,none⟩) (Nat.lt_of_lt_of_le hlt hN)).trans (No j hj)⟩
theorem Gr.At.below{w w':World}{N:Nat}{g:Gr}(h:g.At w)(hb:Below N w w')(hN:w.heap.size≤N):g.At w':=rF h hb hN
theorem j0.below{w w':World}{N:Nat}{a:Option Addr}{c:Nat}{gs:List Gr}(h:j0 w a c gs)(hb:Below N w w')(hN:w.heap.size≤N):j0 w' a c gs:=
 ⟨rF h.sl hb hN,fun g hg=>(h.at' g hg).below hb hN⟩
theorem j0.cells{w:World}{b off c:Nat}{gs:List Gr}(h:j0 w (some ⟨b,off,none⟩) c gs)(k:Nat)(hk:k<gs.length) :
  w.cell? ⟨b,off+k*2,none⟩=some (.slice gs[k].a gs[k].notes.length gs[k].c)∧w.cell? ⟨b,off+k*2+1,none⟩=some (.int .u8 gs[k].fin.toNat)∧b<w.heap.size:=by
 obtain⟨-,-,-,h0|⟨b',off',he,hlt,hel⟩⟩:=h.sl
 ·omega
 ·injection he with he;injection he with e1 e2;subst e1 e2;obtain⟨cs,h1,h2,h3⟩:=hel k hk;unfold P4 at h2;subst h2;exact⟨h3 0 (by simp[Gr.cs]),h3 1 (by simp[Gr.cs]),hlt⟩
theorem j0.addr{w:World}{a:Option Addr}{c:Nat}{gs:List Gr}(h:j0 w a c gs)(hl:0<gs.length):∃b off,a=some ⟨b,off,none⟩:=by
 obtain⟨-,-,-,h0|⟨b',off',he,-⟩⟩:=h.sl
 ·omega
 ·exact⟨b',off',he⟩
structure rp(w:World)(b o:Nat)(x:Nt):Prop where
 c0:w.cell? ⟨b,o,none⟩=some (.int .u8 x.kind.toNat)
 c1:w.cell? ⟨b,o+1,none⟩=some (.int .i64 x.no)
 c2:w.cell? ⟨b,o+2,none⟩=some (.string x.src)
 c3:w.cell? ⟨b,o+3,none⟩=some (.string x.dst)
 c4:w.cell? ⟨b,o+4,none⟩=some (.string x.tmp)
 lt:b<w.heap.size
theorem Gr.At.cells{w:World}{g:Gr}{b off:Nat}(h:g.At w)(ha:g.a=some ⟨b,off,none⟩)(k:Nat)(hk:k<g.notes.length):rp w b (off+k*5) g.notes[k]:=by
 obtain⟨-,-,-,h0|⟨b',off',he,hlt,hel⟩⟩:=h
 ·omega
 ·rw[ha] at he;injection he with he;injection he with e1 e2;subst e1 e2;obtain⟨cs,h1,h2,h3⟩:=hel k hk;unfold Ig at h2;subst h2;exact⟨h3 0 (by simp[Nt.cs]),h3 1 (by simp[Nt.cs]),h3 2 (by simp[Nt.cs]),h3 3 (by simp[Nt.cs]),h3 4 (by simp[Nt.cs]),hlt⟩
theorem Gr.At.addr{w:World}{g:Gr}(h:g.At w)(hl:0<g.notes.length):∃b off,g.a=some ⟨b,off,none⟩:=by
 obtain⟨-,-,-,h0|⟨b',off',he,-⟩⟩:=h
 ·omega
 ·exact⟨b',off',he⟩
theorem rp.below{w w':World}{b o N:Nat}{x:Nt}(h:rp w b o x)(hb:Below N w w')(hN:b<N):rp w' b o x:=
 ⟨(hb.cell (p:=⟨b,_,none⟩) hN).trans h.c0,(hb.cell (p:=⟨b,_,none⟩) hN).trans h.c1,(hb.cell (p:=⟨b,_,none⟩) hN).trans h.c2,(hb.cell (p:=⟨b,_,none⟩) hN).trans h.c3,(hb.cell (p:=⟨b,_,none⟩) hN).trans h.c4,Nat.lt_of_lt_of_le h.lt hb.size⟩
theorem xo(gs:List Gr)(k:Nat)(hk:k<gs.length):bU ((gs.drop k).map Gr.p)=(j4 (decide (k+1=gs.length)) gs[k].p&&bU ((gs.drop (k+1)).map Gr.p)):=by
 rw[List.drop_eq_getElem_cons hk,List.map_cons];show(j4 _ _&&bU _)=_;congr 2;rw[List.isEmpty_map,Bool.eq_iff_iff];simp;omega
theorem Bu(gs:List Gr):bU ((gs.drop gs.length).map Gr.p)=true:=by simp[bU]
theorem BP(xs:List Nt)(k:Nat)(hk:k<xs.length):(xs.drop k).all dZ=(dZ xs[k]&&(xs.drop (k+1)).all dZ):=by
 rw[List.drop_eq_getElem_cons hk,List.all_cons]
end
end Go.Proofs.YtinflmadpnigfaaGreatDoor
