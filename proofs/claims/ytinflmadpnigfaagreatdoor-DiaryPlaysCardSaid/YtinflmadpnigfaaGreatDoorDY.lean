/- The statement DiaryPlays, as a tied card: for every input the law answers true, and each argument reads behind the call as before. -/
import Derived.Deep.DeepHandedRow
import Derived.Lay
import Derived.Test.YtinflmadpnigfaaGreatDoorDY26
import Derived.Test.YtinflmadpnigfaaGreatDoorDY21
import Derived.Test.YtinflmadpnigfaaGreatDoorDY18
import Derived.Test.YtinflmadpnigfaaGreatDoorDY22
import Derived.Test.YtinflmadpnigfaaGreatDoorDY2
import Derived.Test.YtinflmadpnigfaaGreatDoorDY9
import Derived.Test.YtinflmadpnigfaaGreatDoorCards
import Derived.Test.YtinflmadpnigfaaGreatDoorTie
set_option linter.unusedVariables false
set_option linter.unusedSimpArgs false
set_option maxRecDepth 100000
set_option maxHeartbeats 16000000
namespace Go.Proofs.YtinflmadpnigfaaGreatDoor
section
open Go.RowKit Go.Shelf
attribute [local go_sem] Oper.semAt_some
structure Dd where
 kind:Int
 no:Int
 fin:UInt8
 a:Option Addr
 c:Nat
 gs:List Gr
def Dd.cs(d:Dd):List Value:=[.int .i64 d.kind,.int .i64 d.no,.int .u8 d.fin.toNat,.slice d.a d.gs.length d.c]
def Ts(cs:List Value)(d:Dd):Prop:=cs=d.cs
structure Dd.At(w:World)(d:Dd):Prop where
 n8:j0 w d.a d.c d.gs
 num:QE d.gs
 n0:-9223372036854775808≤d.no
 n1:d.no≤9223372036854775807
def Dd.first(d:Dd):Gr:=d.gs.headD Gr.zero
def Dd.NF(d:Dd)(Y:Sy)(u:Us):Sy×Int:=
 if d.kind=0 then Y.iZ u d.first.notes else if d.kind=1 then Y.iX u d.fin d.no else if d.kind=2 then Y.jA u else Y.du u (d.gs.map Gr.p)
theorem eb.NF{Y:Sy}{N:Nat}(h:eb Y N)(d:Dd)(u:Us):eb (d.NF Y u).1 (N+1):=by
 unfold Dd.NF
 split
 ·exact h.iZ u _
 ·split
  ·exact h.iX u _ _
  ·split
   ·exact h.jA u
   ·exact h.du u _
theorem Bo{w:World}{d:Dd}(h:d.At w):d.first.At w:=by
 unfold Dd.first
 cases hg:d.gs with
 |nil=>exact⟨rfl,aa _,by decide,.inl rfl⟩
 |cons x l=>exact h.n8.at' x (by rw[hg];exact List.mem_cons_self)
theorem xm{d:Dd}(h:qU d.gs=true):mJ d.first=true:=by
 unfold Dd.first
 cases hg:d.gs with
 |nil=>rfl
 |cons x l=>
  rw[hg] at h;unfold qU at h;rw[Bool.and_eq_true,List.all_cons,Bool.and_eq_true] at h;exact h.1.1
theorem xl{w:World}{d:Dd}(h:d.At w):∀x∈d.first.notes,-9223372036854775808≤x.no∧x.no≤9223372036854775807:=by
 unfold Dd.first
 cases hg:d.gs with
 |nil=>intro x hx;cases hx
 |cons y l=>exact h.num y (by rw[hg];exact List.mem_cons_self)
theorem Bm{w:World}{d:Dd}(h:d.At w)(hf:qU d.gs=true):∀x∈d.first.notes,x.Ok:=by
 unfold Dd.first
 cases hg:d.gs with
 |nil=>intro x hx;cases hx
 |cons y l=>exact yK hf h.num y (by rw[hg];exact List.mem_cons_self)
theorem Dd.At.below{w w':World}{d:Dd}(h:d.At w)(hb:Up w w'):d.At w':=⟨h.n8.below hb (aa _),h.num,h.n0,h.n1⟩
theorem KR{w:World}{la:Option Addr}{ln lc:Nat}{ds:List Dd}(h:bj w 4 Ts la ln lc ds)(i:Nat)(hi:i<ds.length) :
  ∃lb lo,la=some ⟨lb,lo,none⟩∧lb<w.heap.size∧w.cell? ⟨lb,lo+i*4,none⟩=some (.int .i64 ds[i].kind)∧w.cell? ⟨lb,lo+i*4+1,none⟩=some (.int .i64 ds[i].no)∧w.cell? ⟨lb,lo+i*4+2,none⟩=some (.int .u8 ds[i].fin.toNat)∧w.cell? ⟨lb,lo+i*4+3,none⟩=some (.slice ds[i].a ds[i].gs.length ds[i].c):=by
 obtain⟨h1,-,-,h0|⟨b,off,rfl,hlt,hel⟩⟩:=h
 ·omega
 ·obtain⟨cs,e1,e2,e3⟩:=hel i hi;unfold Ts at e2;subst e2;exact⟨b,off,rfl,hlt,e3 0 (by simp[Dd.cs]),e3 1 (by simp[Dd.cs]),e3 2 (by simp[Dd.cs]),e3 3 (by simp[Dd.cs])⟩
structure EU(W:World)(N0 db:Nat)(cv:Array Value)(d:Dd):Prop where
 c:au W N0 cv 30
 d:au W db #[.int .i64 d.kind,.int .i64 d.no,.int .u8 d.fin.toNat,.slice d.a d.gs.length d.c] 40
section
variable{w w':World}{N0 db p q:Nat}{cv:Array Value}{d:Dd}{R:Rp}{pv:Value}{pf:Nat}{Q:Rf}{Y Z:Sy}
theorem EU.ak(h:EU w N0 db cv d)(hb:Up w w'):EU w' N0 db cv d:=⟨h.c.ak hb,h.d.ak hb⟩
theorem EU.GR(h:EU w N0 db cv d)(hT:iQ w N0 p q R pv pf Q Y Z){F':Nat→Prop}(hs:aL (R.Y p q) F' w w'):EU w' N0 db cv d:=⟨h.c.RG hT hs (by decide) (by decide),h.d.RG hT hs (by decide) (by decide)⟩
theorem EU.GQ(h:EU w N0 db cv d)(hT:iQ w N0 p q R pv pf Q Y Z){F':Nat→Prop}(hs:aL (Q.F pf) F' w w'):EU w' N0 db cv d:=⟨h.c.RF hT hs (by decide),h.d.RF hT hs (by decide)⟩
end
theorem uJ(w:World)(hm:kl w){ma:Option Addr}{mn mc:Nat}{ia:Option Addr}{il ic:Nat}{ms:List Mt}{is:List It}(h:oW w ma mn mc ia il ic ms is)(u g:Int)(dt pt tx:ByteArray)(no now:Int){pa:Option Addr}{pn pc:Nat}{pl:List (Int×Int)}(hpl:bj w 2 lX pa pn pc pl)
  {la:Option Addr} {ln lc:Nat} {ds:List Dd} (hds:bj w 4 Ts la ln lc ds) (hda:∀d∈ds,d.At w) :
  Calls Tryz.prog 3 #[.agg #[.slice ma mn mc,.slice ia il ic,.int .i64 u,.int .i64 g,.string dt,.string pt,.string tx,.int .i64 no,.int .i64 now,.slice pa pn pc],.slice la ln lc] w fun e w'=>e=.returned (.bool true)∧Up w w':=by
 obtain⟨hX,ax⟩:=Uo w #[.slice ma mn mc,.slice ia il ic,.int .i64 u,.int .i64 g,.string dt,.string pt,.string tx,.int .i64 no,.int .i64 now,.slice pa pn pc] 30;have hbI:=((Below.refl _ w).alloc (aa _) (.cells #[.slice ma mn mc,.slice ia il ic,.int .i64 u,.int .i64 g,.string dt,.string pt,.string tx,.int .i64 no,.int .i64 now,.slice pa pn pc] 30));have HFw:=Um (GY _ (h.ak hbI) u g dt pt tx no now (pa:=pa) (pc:=pc) hpl.1);have HS:=Um (ag h hpl);have HZ:=Um (fun w1 (ar:Up w w1)=>hds.below ar (aa _));have HDa:=Um hda;have HM:=Um hm;have hzl:ds.length=ln:=hds.1;have hln:ln≤9223372036854775807:=by obtain⟨-,h2,h3,-⟩:=hds;omega
 have Rz:=Um (fun(w2:World) (hb:Up w w2)=>DT w2 (HM.o.ak hb));clear h hpl hbI hds hda hm;go_enter Tryz.func3,Tryz.ntmps3;go_upto_region 1 with fail;generalize w.alloc _=w0 at hX ax HFw⊢;obtain⟨bc,bf,bz⟩:=hX.facts;go_wp2_with fail;refine HFw.o.mono ?_;rintro e w1 ⟨rfl,ar⟩;have cM:=Um (hX.ak ar);have je:=Um (ao ax ar);clear hX ax ar HFw bc bf bz;obtain⟨bc,bf,bz⟩:=cM.o.facts
 cases hf:xr ms is dt pt tx pl with
 |false=>
  clear hf bc bf bz;go_wp2_with fail;refine(Rz.o _ je.o).mono ?_;rintro e w2 ⟨rfl,aD⟩;have cV:=Um (ao je.o aD);clear aD;go_wp2_with fail;go_ret;exact⟨rfl,cV.o⟩
 |true=>
  by_cases h8:12<ln
  ·have h8b:decide (12<ln)=true:=by simpa using h8
   have h8c:decide ((12:Int)<(ln:Int))=true:=by
    rw[decide_eq_true_eq];omega
   clear hf bc bf bz;go_wp2_with fail;refine(Rz.o _ je.o).mono ?_;rintro e w2 ⟨rfl,aD⟩;have cV:=Um (ao je.o aD);clear aD;go_wp2_with fail;go_ret;exact⟨rfl,cV.o⟩
  ·have h8b:decide (12<ln)=false:=by simpa using h8
   have h8c:decide ((12:Int)<(ln:Int))=false:=by
    rw[decide_eq_false_iff_not];omega
   have Rx:=Um (DQ w1 (HS.o.1.ak je.o) u g dt pt tx no now (HS.o.2.ak je.o) hf);obtain⟨iV,hdt,hpt,htx,hpl4⟩:=By hf;obtain⟨Pr,Pv,-,-⟩:=BA iV;have E2:=Um (C3 ms is);obtain⟨N,hN⟩:∃N,1+2*ms.length+is.length=N:=⟨_,rfl⟩;have hNs:N≤51:=by omega
   rw[hN] at E2;generalize dS ms is=S at Rx E2;have TT:=Um hNs;have L7:=Um (show dt.size≤100000 by omega);have kD:=Um (show eb ⟨S,AK now,0,pl,false⟩ N from⟨E2.o,Int.le_refl _,by show(0:Int)≤_;omega,by show pl.length≤_;omega⟩);have B9:=Um (ag cM.o je.o);clear hf iV Pv Pr hN hdt htx hpt hpl4 hNs;go_wp2_with fail;refine Rx.o.mono ?_;rintro e w2 ⟨p1,q1,R1,v1,pf,R2,rfl,Cf⟩;have cV:=Um (ao B9.o.2 Cf.below);have Q4:=B9.o.1.ak Cf.below;have GG:=B9.o.2.size;have Qg:=Um (show iQ w2 w.heap.size p1 q1 R1 v1 pf R2 ⟨S,AK now,0,pl,false⟩ ⟨S,AK now,0,pl,false⟩ from
    ⟨Cf.y,⟨Cf.r,Cf.now,Cf.oS,Cf.dd,⟨pa,pn,pc,w,Cf.bD,rfl,HS.o.2,cV.o⟩,fun k hk=>ae GG (Cf.f2 k hk)⟩,fun k hk=>ae GG (Cf.f1 k hk)⟩)
   have B5:=Um Q4;clear bc bf bz Cf Q4 GG;go_wp2_with fail
   go_loopw [7] (fun t7 wr=>∃(i:Nat) (Ra:Rp) (Qa:Rf) (Z1:Sy),i≤ln∧t7=.int .i64 i∧eb Z1 (N+i)∧iQ wr w.heap.size p1 q1 Ra v1 pf Qa Z1 Z1∧Up w wr∧au wr w.heap.size #[.slice ma mn mc,.slice ia il ic,.int .i64 u,.int .i64 g,.string dt,.string pt,.string tx,.int .i64 no,.int .i64 now,.slice pa pn pc] 30) (fun t7 _=>ln-(intOf t7).toNat)
   case atStart=>exact⟨0,R1,R2,⟨S,AK now,0,pl,false⟩,Nat.zero_le _,rfl,kD.o,Qg.o,cV.o,B5.o⟩
   case round=>
    obtain⟨i,Ra,Qa,Z1,hi,rfl,hok,hT,hb,hC⟩:=hrel;by_cases hlt:i<ln
    ·have uk:(i:Int)<(ln:Int):=by omega
     have hi0:¬(i:Int)<0:=by omega
     obtain⟨lb,lo,rfl,hlb,k0,k1,k2,k3⟩:=KR (HZ.o _ hb) i (by omega);have Ka:=HDa.o (ds[i]'(by omega)) (List.getElem_mem _);generalize ds[i]'(by omega)=d at k0 k1 k2 k3 Ka;have zu:=Um Ka;have LK:=(Uq wr).alloc (aa _) (.cells #[.int .i64 d.kind,.int .i64 d.no,.int .u8 d.fin.toNat,.slice d.a d.gs.length d.c] 40);have hdN:=au.new wr #[.int .i64 d.kind,.int .i64 d.no,.int .u8 d.fin.toNat,.slice d.a d.gs.length d.c] 40;have yZ:=Um hok;have hbw:=ao hb LK;have PE:=hT.ak LK;have hC3:=hC.ak LK;clear Ka hok;go_upto_region 10 with fail;clear k0 k1 k2 k3 hlb;generalize wr.alloc _=wA at LK hdN hbw PE hC3⊢;have Oa:=Um (ND d.a d.c d.gs wA (zu.o.n8.below hbw (aa _)));have Lm:=Um (ag PE (ag hbw (show EU wA w.heap.size wr.heap.size #[.slice ma mn mc,.slice ia il ic,.int .i64 u,.int .i64 g,.string dt,.string pt,.string tx,.int .i64 no,.int .i64 now,.slice pa pn pc] d from⟨hC3,hdN⟩)));obtain⟨xc,xf,xz⟩:=hdN.facts;clear hT hb hC LK hdN hbw PE hC3;go_wp2_with fail;refine Oa.o.mono ?_;rintro e wB ⟨rfl,LK⟩;have jT:=Um (ag (Lm.o.1.ak LK) (ag (ao Lm.o.2.1 LK) (Lm.o.2.2.ak LK)));clear LK xc xf xz
     cases hfd:qU d.gs with
     |false=>
      clear hfd;go_wp2_with fail;refine(Rz.o _ jT.o.2.1).mono ?_;rintro e y1 ⟨rfl,SM⟩;have HBy1:=Um (ao jT.o.2.1 SM);clear SM;go_wp2_with fail;go_ret;exact⟨rfl,HBy1.o⟩
     |true=>
      have hNN:=TT.o;have l3:=Um (yZ.o.NF d ⟨u,g,dt⟩);have OP:=Um hfd;obtain⟨q,hq⟩:∃q,d.NF Z1 ⟨u,g,dt⟩=q:=⟨_,rfl⟩;rw[hq] at l3;obtain⟨Z5,re⟩:=q;dsimp only at l3;have Nk:=jT.o.2.2.d;obtain⟨xc,xf,xz⟩:=Nk.facts;have Oo:=zu.o.n8.below jT.o.2.1 (aa _);have hkk:d.kind=0∨d.kind=1∨d.kind=2∨(d.kind≠0∧d.kind≠1∧d.kind≠2):=by omega
      clear Nk hfd;rcases hkk with hk|hk|hk|⟨Ng,gP,ig⟩
      focus
       have nD:Z1.iZ ⟨u,g,dt⟩ d.first.notes=(Z5,re):=by rw[←hq];unfold Dd.NF;rw[if_pos hk]
       have hkb:(d.kind==0)=true:=by simpa using hk
       have hfs:=Bo (zu.o.below jT.o.2.1);rcases Nat.eq_zero_or_pos d.gs.length with dL|dL
       focus
        have hgn:d.gs=[]:=List.eq_nil_of_length_eq_zero dL;have hff:d.first=Gr.zero:=by unfold Dd.first;rw[hgn];rfl
        have hlx:¬(0:Int)<(d.gs.length:Int):=by omega
        have hfa:d.first.a=none:=by rw[hff];rfl
        have hfc:d.first.c=0:=by rw[hff];rfl
        have hfn:d.first.notes.length=0:=by rw[hff];rfl
        clear dL hgn hff Oo hq;go_upto_region 19 with fail
       rotate_left
       focus
        obtain⟨gb,go,hga⟩:=Oo.addr dL;rw[hga] at Oo;obtain⟨gA,gB,gz⟩:=Oo.cells 0 dL;have hff:d.first=d.gs[0]:=by
         unfold Dd.first;rw[List.headD_eq_head?_getD,List.head?_eq_getElem?,List.getElem?_eq_getElem dL];rfl
        rw[←hff] at gA;rw[Nat.zero_mul,Nat.add_zero] at gA;have hlx:(0:Int)<(d.gs.length:Int):=by omega
        have hlx2:0<d.gs.length:=dL;clear hff Oo gB hq;go_upto_region 19 with fail;clear gA gz
       rotate_left
       all_goals
        have rU:=jT.o.1.ak (Below.refl _ wB).drew;have rV:=jT.o.2.2.ak (Below.refl _ wB).drew;have bO:=ao jT.o.2.1 (Below.refl _ wB).drew;refine wp_region_held_drew (S:=(fun w'=>EU w' w.heap.size wr.heap.size #[.slice ma mn mc,.slice ia il ic,.int .i64 u,.int .i64 g,.string dt,.string pt,.string tx,.int .i64 no,.int .i64 now,.slice pa pn pc] d)) (by kernel_rfl) rV (fun cE=>?_);refine bH 8 [(0,74),(1,75),(2,76),(3,77),(5,79),(6,80),(7,81),(8,82)] (by kernel_rfl) (by kernel_rfl) rfl (fun _ _ _ _ _ h=>h) cE ?_
        iterate 8 (apply bo rfl rfl;(· (intro w9 dG;obtain⟨cc,-,-⟩:=dG.c.facts;obtain⟨xc,-,-⟩:=dG.d.facts;clear dG;go_simp;(try with_reducible rfl)));simp only[ah,ai,aj])
        refine bG ?_;refine dw 4 78 (R:=fun v w'=>v=.int .i64 re∧gN wB.drew w' p1 q1 Ra v1 Z5) (by kernel_rfl) rfl rfl rfl ?xa ((DN rU.y yZ.o (by omega) ⟨u,g,dt⟩ L7.o (HM.o.ak bO) d.first (hfs.below (Below.refl _ wB).drew (aa _)) (Bm zu.o OP.o) (ae (uu _ 0 (xm OP.o) (xl zu.o)) (by omega))).mono (fun e w' ⟨he,hw⟩=>⟨_,he,by rw[nD],by rw[nD] at hw;exact hw⟩)) (fun v w' ⟨_,R',_,vh⟩=>rV.GR rU vh) ?_
        case xa=>(go_simp;(try rfl))
        rintro _ wC ⟨rfl,R9,Kj,zp⟩;simp only[ah,ai,aj];have oN:=rV.GR rU zp;obtain⟨qo,ar⟩:=rU.GR Kj zp;refine dw 9 83 (R:=fun v w'=>v=.int .i64 re∧dE wC w' w.heap.size pf Qa Z5) (by kernel_rfl) rfl rfl rfl ?xb ((C0 qo.r yZ.o (by omega) ⟨u,g,dt⟩ L7.o d.first (Bo (zu.o.below (bO.trans ar))) (Bm zu.o OP.o) (ae (uu _ 0 (xm OP.o) (xl zu.o)) (by omega))).mono (fun e w' ⟨he,hw⟩=>⟨_,he,by rw[nD],by rw[nD] at hw;exact hw⟩)) (fun v w' ⟨_,R',_,vh⟩=>oN.GQ qo vh) ?_
        case xb=>(go_simp;(try rfl))
        rintro _ wD ⟨rfl,QA,Ki,lU⟩;simp only[ah,ai,aj];have jR:=oN.GQ qo lU;obtain⟨pQ,aD⟩:=qo.GQ Ki lU;refine bH 2 [(10,9),(11,10)] (by kernel_rfl) (by kernel_rfl) rfl (fun _ _ _ _ _ h=>h) jR ?_
        iterate 2 (apply bo rfl rfl;(· (intro w9 dG;clear dG;go_simp;(try with_reducible rfl)));simp only[ah,ai,aj])
        refine bG ?_;refine wpAnyH_done (by kernel_rfl) ?_ _;have jd:=Um (ag pQ (ag ((bO.trans ar).trans aD) jR));clear cE rU bO rV oN qo ar Kj zp jR pQ aD Ki lU nD;go_upto_region 24 with fail
      rotate_left 2
      focus
       have nD:Z1.iX ⟨u,g,dt⟩ d.fin d.no=(Z5,re):=by rw[←hq];unfold Dd.NF;rw[if_neg (by rw[hk];decide),if_pos hk]
       have hkb:(d.kind==0)=false:=by rw[hk];rfl
       have hkc:(d.kind==1)=true:=by rw[hk];rfl
       clear Oo hq;go_upto_region 21 with fail;have rU:=jT.o.1.ak (Below.refl _ wB).drew;have rV:=jT.o.2.2.ak (Below.refl _ wB).drew;have bO:=ao jT.o.2.1 (Below.refl _ wB).drew;refine wp_region_held_drew (S:=(fun w'=>EU w' w.heap.size wr.heap.size #[.slice ma mn mc,.slice ia il ic,.int .i64 u,.int .i64 g,.string dt,.string pt,.string tx,.int .i64 no,.int .i64 now,.slice pa pn pc] d)) (by kernel_rfl) rV (fun cE=>?_);refine bH 14 [(0,86),(1,87),(2,88),(3,89),(4,90),(5,91),(6,92),(8,94),(9,95),(10,96),(11,97),(12,98),(13,99),(14,100)] (by kernel_rfl) (by kernel_rfl) rfl (fun _ _ _ _ _ h=>h) cE ?_
       iterate 14 (apply bo rfl rfl;(· (intro w9 dG;obtain⟨cc,-,-⟩:=dG.c.facts;obtain⟨xc,-,-⟩:=dG.d.facts;clear dG;go_simp;(try with_reducible rfl)));simp only[ah,ai,aj])
       refine bG ?_;refine dw 7 93 (R:=fun v w'=>v=.int .i64 re∧gN wB.drew w' p1 q1 Ra v1 Z5) (by kernel_rfl) rfl rfl rfl ?xa ((KP rU.y yZ.o (by omega) ⟨u,g,dt⟩ L7.o (HM.o.ak bO) d.fin d.no zu.o.n0 zu.o.n1).mono (fun e w' ⟨he,hw⟩=>⟨_,he,by rw[nD],by rw[nD] at hw;exact hw⟩)) (fun v w' ⟨_,R',_,vh⟩=>rV.GR rU vh) ?_
       case xa=>(go_simp;(try rfl))
       rintro _ wC ⟨rfl,R9,Kj,zp⟩;simp only[ah,ai,aj];have oN:=rV.GR rU zp;obtain⟨qo,ar⟩:=rU.GR Kj zp;refine dw 15 101 (R:=fun v w'=>v=.int .i64 re∧dE wC w' w.heap.size pf Qa Z5) (by kernel_rfl) rfl rfl rfl ?xb ((FW qo.r yZ.o (by omega) ⟨u,g,dt⟩ L7.o d.fin d.no zu.o.n0 zu.o.n1).mono (fun e w' ⟨he,hw⟩=>⟨_,he,by rw[nD],by rw[nD] at hw;exact hw⟩)) (fun v w' ⟨_,R',_,vh⟩=>oN.GQ qo vh) ?_
       case xb=>(go_simp;(try rfl))
       rintro _ wD ⟨rfl,QA,Ki,lU⟩;simp only[ah,ai,aj];have jR:=oN.GQ qo lU;obtain⟨pQ,aD⟩:=qo.GQ Ki lU;refine bH 2 [(16,9),(17,10)] (by kernel_rfl) (by kernel_rfl) rfl (fun _ _ _ _ _ h=>h) jR ?_
       iterate 2 (apply bo rfl rfl;(· (intro w9 dG;clear dG;go_simp;(try with_reducible rfl)));simp only[ah,ai,aj])
       refine bG ?_;refine wpAnyH_done (by kernel_rfl) ?_ _;have jd:=Um (ag pQ (ag ((bO.trans ar).trans aD) jR));clear cE rU bO rV oN qo ar Kj zp jR pQ aD Ki lU nD;go_upto_region 24 with fail
      rotate_left
      focus
       have nD:Z1.jA ⟨u,g,dt⟩=(Z5,re):=by rw[←hq];unfold Dd.NF;rw[if_neg (by rw[hk];decide),if_neg (by rw[hk];decide),if_pos hk]
       have hkb:(d.kind==0)=false:=by rw[hk];rfl
       have hkc:(d.kind==1)=false:=by rw[hk];rfl
       have hkd:(d.kind==2)=true:=by rw[hk];rfl
       clear Oo hq;go_upto_region 23 with fail;have rU:=jT.o.1.ak (Below.refl _ wB).drew;have rV:=jT.o.2.2.ak (Below.refl _ wB).drew;have bO:=ao jT.o.2.1 (Below.refl _ wB).drew;refine wp_region_held_drew (S:=(fun w'=>EU w' w.heap.size wr.heap.size #[.slice ma mn mc,.slice ia il ic,.int .i64 u,.int .i64 g,.string dt,.string pt,.string tx,.int .i64 no,.int .i64 now,.slice pa pn pc] d)) (by kernel_rfl) rV (fun cE=>?_);refine bH 6 [(0,104),(1,105),(2,106),(4,108),(5,109),(6,110)] (by kernel_rfl) (by kernel_rfl) rfl (fun _ _ _ _ _ h=>h) cE ?_
       iterate 6 (apply bo rfl rfl;(· (intro w9 dG;obtain⟨cc,-,-⟩:=dG.c.facts;obtain⟨xc,-,-⟩:=dG.d.facts;clear dG;go_simp;(try with_reducible rfl)));simp only[ah,ai,aj])
       refine bG ?_;refine dw 3 107 (R:=fun v w'=>v=.int .i64 re∧gN wB.drew w' p1 q1 Ra v1 Z5) (by kernel_rfl) rfl rfl rfl ?xa ((G2 rU.y yZ.o (by omega) ⟨u,g,dt⟩ L7.o (HM.o.ak bO)).mono (fun e w' ⟨he,hw⟩=>⟨_,he,by rw[nD],by rw[nD] at hw;exact hw⟩)) (fun v w' ⟨_,R',_,vh⟩=>rV.GR rU vh) ?_
       case xa=>(go_simp;(try rfl))
       rintro _ wC ⟨rfl,R9,Kj,zp⟩;simp only[ah,ai,aj];have oN:=rV.GR rU zp;obtain⟨qo,ar⟩:=rU.GR Kj zp;refine dw 7 111 (R:=fun v w'=>v=.int .i64 re∧dE wC w' w.heap.size pf Qa Z5) (by kernel_rfl) rfl rfl rfl ?xb ((FD qo.r yZ.o (by omega) ⟨u,g,dt⟩ L7.o).mono (fun e w' ⟨he,hw⟩=>⟨_,he,by rw[nD],by rw[nD] at hw;exact hw⟩)) (fun v w' ⟨_,R',_,vh⟩=>oN.GQ qo vh) ?_
       case xb=>(go_simp;(try rfl))
       rintro _ wD ⟨rfl,QA,Ki,lU⟩;simp only[ah,ai,aj];have jR:=oN.GQ qo lU;obtain⟨pQ,aD⟩:=qo.GQ Ki lU;refine bH 2 [(8,9),(9,10)] (by kernel_rfl) (by kernel_rfl) rfl (fun _ _ _ _ _ h=>h) jR ?_
       iterate 2 (apply bo rfl rfl;(· (intro w9 dG;clear dG;go_simp;(try with_reducible rfl)));simp only[ah,ai,aj])
       refine bG ?_;refine wpAnyH_done (by kernel_rfl) ?_ _;have jd:=Um (ag pQ (ag ((bO.trans ar).trans aD) jR));clear cE rU bO rV oN qo ar Kj zp jR pQ aD Ki lU nD;go_upto_region 24 with fail
      rotate_left
      focus
       have nD:Z1.du ⟨u,g,dt⟩ (d.gs.map Gr.p)=(Z5,re):=by rw[←hq];unfold Dd.NF;rw[if_neg Ng,if_neg gP,if_neg ig]
       have hkb:(d.kind==0)=false:=by simpa using Ng
       have hkc:(d.kind==1)=false:=by simpa using gP
       have hkd:(d.kind==2)=false:=by simpa using ig
       clear Oo hq;go_upto_region 14 with fail;have rU:=jT.o.1.ak (Below.refl _ wB).drew;have rV:=jT.o.2.2.ak (Below.refl _ wB).drew;have bO:=ao jT.o.2.1 (Below.refl _ wB).drew;refine wp_region_held_drew (S:=(fun w'=>EU w' w.heap.size wr.heap.size #[.slice ma mn mc,.slice ia il ic,.int .i64 u,.int .i64 g,.string dt,.string pt,.string tx,.int .i64 no,.int .i64 now,.slice pa pn pc] d)) (by kernel_rfl) rV (fun cE=>?_);refine bH 10 [(0,51),(1,52),(2,53),(3,54),(4,55),(6,57),(7,58),(8,59),(9,60),(10,61)] (by kernel_rfl) (by kernel_rfl) rfl (fun _ _ _ _ _ h=>h) cE ?_
       iterate 10 (apply bo rfl rfl;(· (intro w9 dG;obtain⟨cc,-,-⟩:=dG.c.facts;obtain⟨xc,-,-⟩:=dG.d.facts;clear dG;go_simp;(try with_reducible rfl)));simp only[ah,ai,aj])
       refine bG ?_;refine dw 5 56 (R:=fun v w'=>v=.int .i64 re∧gN wB.drew w' p1 q1 Ra v1 Z5) (by kernel_rfl) rfl rfl rfl ?xa ((nM rU.y yZ.o (by omega) ⟨u,g,dt⟩ L7.o (HM.o.ak bO) (zu.o.n8.below bO (aa _)) (yK OP.o zu.o.num) (ae (uD OP.o zu.o.num) (by omega))).mono (fun e w' ⟨he,hw⟩=>⟨_,he,by rw[nD],by rw[nD] at hw;exact hw⟩)) (fun v w' ⟨_,R',_,vh⟩=>rV.GR rU vh) ?_
       case xa=>(go_simp;(try rfl))
       rintro _ wC ⟨rfl,R9,Kj,zp⟩;simp only[ah,ai,aj];have oN:=rV.GR rU zp;obtain⟨qo,ar⟩:=rU.GR Kj zp;refine dw 11 62 (R:=fun v w'=>v=.int .i64 re∧dE wC w' w.heap.size pf Qa Z5) (by kernel_rfl) rfl rfl rfl ?xb ((qB qo.r yZ.o (by omega) ⟨u,g,dt⟩ L7.o (zu.o.n8.below (bO.trans ar) (aa _)) (yK OP.o zu.o.num) (ae (uD OP.o zu.o.num) (by omega))).mono (fun e w' ⟨he,hw⟩=>⟨_,he,by rw[nD],by rw[nD] at hw;exact hw⟩)) (fun v w' ⟨_,R',_,vh⟩=>oN.GQ qo vh) ?_
       case xb=>(go_simp;(try rfl))
       rintro _ wD ⟨rfl,QA,Ki,lU⟩;simp only[ah,ai,aj];have jR:=oN.GQ qo lU;obtain⟨pQ,aD⟩:=qo.GQ Ki lU;refine bH 2 [(12,9),(13,10)] (by kernel_rfl) (by kernel_rfl) rfl (fun _ _ _ _ _ h=>h) jR ?_
       iterate 2 (apply bo rfl rfl;(· (intro w9 dG;clear dG;go_simp;(try with_reducible rfl)));simp only[ah,ai,aj])
       refine bG ?_;refine wpAnyH_done (by kernel_rfl) ?_ _;have jd:=Um (ag pQ (ag ((bO.trans ar).trans aD) jR));clear cE rU bO rV oN qo ar Kj zp jR pQ aD Ki lU nD;go_upto_region 24 with fail
      rotate_left
      all_goals
       obtain⟨cc,cf,cz⟩:=jd.o.2.2.c.facts;have Rn:=Um (ku jd.o.1.y l3.o.fg (by omega) ⟨u,g,dt⟩ L7.o (HM.o.ak jd.o.2.1));have HL2:=Um (fun w' (hb:Up wD w')=>kp (jd.o.1.ak hb).r.r l3.o.fg.ok (jd.o.1.ak hb).r.dd ⟨u,g,dt⟩ L7.o);have Oe:=Um (fun w' (hb:Up wD w')=>BQ (jd.o.1.y.ak hb) (jd.o.1.r.ak hb).r (jd.o.1.r.ak hb).oS (jd.o.1.r.ak hb).dd l3.o.fg.ok l3.o.fg.pl (ae l3.o.many (by omega)));obtain⟨r5,hr5⟩:∃r,Z5.fs.aV Z5.dead ⟨u,g,dt⟩=r:=⟨_,rfl⟩;rw[hr5] at Rn HL2;obtain⟨lg,l5,e5⟩:=r5;clear hr5;go_wp2_with fail;refine Rn.o.mono ?_;rintro e wE ⟨⟨b5,a5,c5,g5,-,hp5,rfl,EF,-⟩,hbE⟩;dsimp only at hp5⊢;have Ru:=Um (ag hbE (ag hp5 EF));have hcE:=jd.o.2.2.c.ak hbE;clear cc cf cz hp5 EF hbE;obtain⟨cc,cf,cz⟩:=hcE.facts;go_wp2_with fail;refine(HL2.o _ Ru.o.1).mono ?_;rintro e wF ⟨⟨b6,a6,c6,g6,-,hp6,rfl,Ik,-⟩,hbF⟩;dsimp only at hp6⊢;have hSm:=z8 a5 a6 c5 c6 g5 g6 wF (Ru.o.2.2.ak hbF).n8 Ik.n8;rw[show tm g5 g6=true from decide_eq_true (Ru.o.2.1.trans hp6.symm)] at hSm;have LU:=Um hSm;have HBF:=Um (ao Ru.o.1 hbF);clear hp6 Ik hbF hSm cc cf cz hcE;go_wp2_with fail;refine LU.o.mono ?_;rintro e wG ⟨rfl,hbG⟩;have HBG:=Um (ao HBF.o hbG);clear hbG;go_wp2_with fail;refine(Oe.o _ HBG.o).mono ?_;rintro e wH ⟨rfl,hbH⟩;have HBH:=Um (ao HBG.o hbH);clear hbH;go_wp2_with fail;go_roundw
       case measure=>simp[intOf];omega
       case rel=>exact⟨i+1,R9,QA,Z5,by omega,by go_num,l3.o,jd.o.1.ak HBH.o,ao jd.o.2.1 HBH.o,jd.o.2.2.c.ak HBH.o⟩
    ·have hle:i=ln:=by omega
     subst hle;have If:=Um hb;clear hok hT hb hC;go_wp2_with fail;refine(Rz.o _ If.o).mono ?_;rintro e y2 ⟨rfl,SL⟩;have HBy2:=Um (ao If.o SL);clear SL;go_wp2_with fail;go_ret;exact⟨rfl,HBy2.o⟩
end
section
open Go.RowKit
end
section
open Go.RowKit Go.ChangeShapes Go.WideShapes Go.ChangeAt
theorem bj.imp{α:Type}{w:World}{sz n c:Nat}{R R':List Value→α→Prop}{a:Option Addr}{xs:List α}(h:bj w sz R a n c xs)(hR:∀cs x,R cs x→R' cs x):bj w sz R' a n c xs:=by
 obtain⟨h1,h2,h3,h4⟩:=h;refine⟨h1,h2,h3,h4.imp id fun⟨b,off,he,hlt,hel⟩=>⟨b,off,he,hlt,fun i hi=>?_⟩⟩;obtain⟨cs,k1,k2,k3⟩:=hel i hi;exact⟨cs,k1,hR _ _ k2,k3⟩
theorem bj.all{α:Type}{w:World}{sz n c:Nat}{R:List Value→α→Prop}{a:Option Addr}{xs:List α}{Q:α→Prop}(h:bj w sz R a n c xs)(hR:∀cs x,R cs x→Q x):∀x∈xs,Q x:=by
 obtain⟨h1,-,-,h4⟩:=h;intro x hx;rcases h4 with h4|⟨b,off,-,-,hel⟩
 ·have:xs=[]:=List.eq_nil_of_length_eq_zero (by omega);rw[this] at hx;cases hx
 ·obtain⟨i,hi,rfl⟩:=List.mem_iff_getElem.1 hx;obtain⟨cs,-,k2,-⟩:=hel i hi;exact hR _ _ k2
section
variable{H:Type}{enc:TypeId×Value→H}{w:World}{base:Nat}{spare:Nat→Bool}{held:Bool}
theorem mg{P:Program}{t:TypeId}{fs:Array Field}{fuel:Nat}{cs:List Value}{x:DataW H×List MemPlace}(ht:P.underlying t=some (.struct fs))(h:DataW.trod enc P w base spare held fuel t cs=some x) :
  cs.length=P.cellsOf t∧∃n,∀(i:Nat) (ty:TypeId) (off k:Nat) (l:List Value),(fs[i]?.map fun f=>(f.type,f.offset))=some (ty,off)→P.cellsOf ty=k→(cs.drop off).take k=l→∃y,DataW.trod enc P w base spare held n ty l=some y:=by
 obtain⟨xs,n,-,-,h1,h2,h3⟩:=DataW.trod_struct ht h;refine⟨h1,n,fun i ty off k l hf hk hl=>?_⟩;obtain⟨f,gd,e⟩:=Option.map_eq_some_iff.1 hf;clear hf;injection e with e1 e2;subst e1 e2 hk hl;have hi:i<xs.length:=by
  rw[h2];exact(Array.getElem?_eq_some_iff.1 gd).1
 exact⟨xs[i],by rw[h3 i f gd,List.getElem?_eq_getElem hi]⟩
theorem ID{n:Int}(h0:0≤n)(h1:n≤255):n=((UInt8.ofNat n.toNat).toNat:Int):=by
 simp[UInt8.toNat_ofNat'];omega
theorem Fc{fuel:Nat}{cs:List Value}{x:DataW H×List MemPlace}(h:DataW.trod enc Tryz.prog w base spare held fuel 63 cs=some x):∃y:Nt,cs=y.cs∧(-9223372036854775808≤y.no∧y.no≤9223372036854775807):=by
 obtain⟨h1,n,h2⟩:=mg Tryz.underlying63 h;have hc:Tryz.prog.cellsOf 63=5:=by kernel_rfl
 have c0:Tryz.prog.cellsOf 5=1:=by kernel_rfl
 have c1:Tryz.prog.cellsOf 3=1:=by kernel_rfl
 have c2:Tryz.prog.cellsOf 9=1:=by kernel_rfl
 rw[hc] at h1
 match cs,h1 with
 | [a0,a1,a2,a3,a4],_=>
  obtain⟨y0,k0⟩:=h2 0 5 0 1 [a0] rfl c0 rfl;obtain⟨y1,k1⟩:=h2 1 3 1 1 [a1] rfl c1 rfl;obtain⟨y2,k2⟩:=h2 2 9 2 1 [a2] rfl c2 rfl;obtain⟨y3,k3⟩:=h2 3 9 3 1 [a3] rfl c2 rfl;obtain⟨y4,k4⟩:=h2 4 9 4 1 [a4] rfl c2 rfl;obtain⟨n0,e0,m0,m1⟩:=xN Tryz.underlying5 k0;obtain⟨n1,e1,r1⟩:=dJ Tryz.underlying3 k1;obtain⟨s2,e2,-⟩:=gS Tryz.underlying9 k2;obtain⟨s3,e3,-⟩:=gS Tryz.underlying9 k3;obtain⟨s4,e4,-⟩:=gS Tryz.underlying9 k4;simp at e0 e1 e2 e3 e4;subst e0 e1 e2 e3 e4;refine⟨⟨UInt8.ofNat n0.toNat,n1,s2,s3,s4⟩,?_,r1⟩;unfold Nt.cs;simp only;rw[←ID m0 m1]
theorem Cu{fuel:Nat}{cs:List Value}{x:DataW H×List MemPlace}(h:DataW.trod enc Tryz.prog w base spare held fuel 45 cs=some x):∃g:Gr,P4 cs g∧g.At w∧∀y∈g.notes,-9223372036854775808≤y.no∧y.no≤9223372036854775807:=by
 obtain⟨h1,n,h2⟩:=mg Tryz.underlying45 h;have hc:Tryz.prog.cellsOf 45=2:=by kernel_rfl
 have c0:Tryz.prog.cellsOf 43=1:=by kernel_rfl
 have c1:Tryz.prog.cellsOf 5=1:=by kernel_rfl
 rw[hc] at h1
 match cs,h1 with
 | [a0,a1],_=>
  obtain⟨y0,k0⟩:=h2 0 43 0 1 [a0] rfl c0 rfl;obtain⟨y1,k1⟩:=h2 1 5 1 1 [a1] rfl c1 rfl;obtain⟨a,len,cap,xs,e0,hS⟩:=np (sz:=5) (R:=fun cs (y:Nt)=>cs=y.cs∧(-9223372036854775808≤y.no∧y.no≤9223372036854775807)) Tryz.underlying43 (by kernel_rfl) (by decide) (fun fuel cs x h=>Fc h) k0;obtain⟨n1,e1,m0,m1⟩:=xN Tryz.underlying5 k1;simp at e0 e1;subst e0 e1;have hl:=hS.1;subst hl;refine⟨⟨a,cap,xs,UInt8.ofNat n1.toNat⟩,?_,hS.imp (fun _ _ h=>h.1),hS.all (fun _ _ h=>h.2)⟩;show[Value.slice a xs.length cap,Value.int .u8 n1]=[.slice a xs.length cap,.int .u8 ((UInt8.ofNat n1.toNat).toNat:Int)];rw[←ID m0 m1]
end
end
section
open Go.RowKit Go.ChangeShapes Go.WideShapes Go.ChangeAt
section
variable{H:Type}{enc:TypeId×Value→H}{w:World}{base:Nat}{spare:Nat→Bool}{held:Bool}
theorem Fe{fuel:Nat}{cs:List Value}{x:DataW H×List MemPlace}(h:DataW.trod enc Tryz.prog w base spare held fuel 40 cs=some x):∃d:Dd,Ts cs d∧d.At w:=by
 obtain⟨h1,n,h2⟩:=mg Tryz.underlying40 h;have hc:Tryz.prog.cellsOf 40=4:=by kernel_rfl
 have c0:Tryz.prog.cellsOf 3=1:=by kernel_rfl
 have c1:Tryz.prog.cellsOf 5=1:=by kernel_rfl
 have c2:Tryz.prog.cellsOf 38=1:=by kernel_rfl
 rw[hc] at h1
 match cs,h1 with
 | [a0,a1,a2,a3],_=>
  obtain⟨y0,k0⟩:=h2 0 3 0 1 [a0] rfl c0 rfl;obtain⟨y1,k1⟩:=h2 1 3 1 1 [a1] rfl c0 rfl;obtain⟨y2,k2⟩:=h2 2 5 2 1 [a2] rfl c1 rfl;obtain⟨y3,k3⟩:=h2 3 38 3 1 [a3] rfl c2 rfl;obtain⟨n0,e0,-⟩:=dJ Tryz.underlying3 k0;obtain⟨n1,e1,r1⟩:=dJ Tryz.underlying3 k1;obtain⟨n2,e2,m0,m1⟩:=xN Tryz.underlying5 k2;obtain⟨a,len,cap,zs,e3,hz⟩:=np (sz:=2) (R:=fun cs (g:Gr)=>P4 cs g∧g.At w∧∀y∈g.notes,-9223372036854775808≤y.no∧y.no≤9223372036854775807) Tryz.underlying38 (by kernel_rfl) (by decide) (fun fuel cs x h=>Cu h) k3;simp at e0 e1 e2 e3;subst e0 e1 e2 e3;have hl:=hz.1;subst hl;refine⟨⟨n0,n1,UInt8.ofNat n2.toNat,a,cap,zs⟩,?_,⟨⟨hz.imp (fun _ _ h=>h.1),hz.all (fun _ _ h=>h.2.1)⟩,hz.all (fun _ _ h=>h.2.2),r1.1,r1.2⟩⟩;show[Value.int .i64 n0,.int .i64 n1,.int .u8 n2,.slice a zs.length cap]=[Value.int .i64 n0,.int .i64 n1,.int .u8 ((UInt8.ofNat n2.toNat).toNat:Int),.slice a zs.length cap];rw[←ID m0 m1]
end
end
section
open Go.RowKit Go.ChangeShapes Go.WideShapes Go.ChangeAt
section
variable{H:Type}{enc:TypeId×Value→H}{w:World}{base:Nat}{spare:Nat→Bool}{held:Bool}
theorem fO{P:Program}{t:TypeId}{fs:Array Field}{fuel:Nat}{cs:List Value}{x:DataW H×List MemPlace}(ht:P.underlying t=some (.struct fs))(h:DataW.trod enc P w base spare held fuel t cs=some x) :
  cs.length=P.cellsOf t∧∃n,∀(i:Nat) (ty:TypeId) (off k:Nat) (l:List Value),(fs[i]?.map fun f=>(f.type,f.offset))=some (ty,off)→P.cellsOf ty=k→(cs.drop off).take k=l→∃y,DataW.trod enc P w base spare held n ty l=some y:=by
 obtain⟨xs,n,-,-,h1,h2,h3⟩:=DataW.trod_struct ht h;refine⟨h1,n,fun i ty off k l hf hk hl=>?_⟩;obtain⟨f,gd,e⟩:=Option.map_eq_some_iff.1 hf;clear hf;injection e with e1 e2;subst e1 e2 hk hl;have hi:i<xs.length:=by
  rw[h2];exact(Array.getElem?_eq_some_iff.1 gd).1
 exact⟨xs[i],by rw[h3 i f gd,List.getElem?_eq_getElem hi]⟩
theorem Md{fuel:Nat}{cs:List Value}{x:DataW H×List MemPlace}(h:DataW.trod enc Tryz.prog w base spare held fuel 111 cs=some x):∃y:Mt,RX cs y:=by
 obtain⟨h1,n,h2⟩:=fO Tryz.underlying111 h;have hc:Tryz.prog.cellsOf 111=3:=by kernel_rfl
 have c1:Tryz.prog.cellsOf 9=1:=by kernel_rfl
 have c2:Tryz.prog.cellsOf 3=1:=by kernel_rfl
 rw[hc] at h1
 match cs,h1 with
 | [a0,a1,a2],_=>
  obtain⟨y0,k0⟩:=h2 0 9 0 1 [a0] rfl c1 rfl;obtain⟨y1,k1⟩:=h2 1 3 1 1 [a1] rfl c2 rfl;obtain⟨y2,k2⟩:=h2 2 3 2 1 [a2] rfl c2 rfl;obtain⟨s,e0,-⟩:=gS Tryz.underlying9 k0;obtain⟨n1,e1,-⟩:=dJ Tryz.underlying3 k1;obtain⟨n2,e2,-⟩:=dJ Tryz.underlying3 k2;simp at e0 e1 e2;subst e0 e1 e2;exact⟨⟨s,n1,n2⟩,rfl⟩
theorem Me{fuel:Nat}{cs:List Value}{x:DataW H×List MemPlace}(h:DataW.trod enc Tryz.prog w base spare held fuel 113 cs=some x):∃y:It,Sd cs y:=by
 obtain⟨h1,n,h2⟩:=fO Tryz.underlying113 h;have hc:Tryz.prog.cellsOf 113=7:=by kernel_rfl
 have c1:Tryz.prog.cellsOf 9=1:=by kernel_rfl
 have c2:Tryz.prog.cellsOf 3=1:=by kernel_rfl
 rw[hc] at h1
 match cs,h1 with
 | [a0,a1,a2,a3,a4,a5,a6],_=>
  obtain⟨y0,k0⟩:=h2 0 9 0 1 [a0] rfl c1 rfl;obtain⟨y1,k1⟩:=h2 1 3 1 1 [a1] rfl c2 rfl;obtain⟨y2,k2⟩:=h2 2 3 2 1 [a2] rfl c2 rfl;obtain⟨y3,k3⟩:=h2 3 3 3 1 [a3] rfl c2 rfl;obtain⟨y4,k4⟩:=h2 4 3 4 1 [a4] rfl c2 rfl;obtain⟨y5,k5⟩:=h2 5 3 5 1 [a5] rfl c2 rfl;obtain⟨y6,k6⟩:=h2 6 9 6 1 [a6] rfl c1 rfl;obtain⟨s,e0,-⟩:=gS Tryz.underlying9 k0;obtain⟨n1,e1,-⟩:=dJ Tryz.underlying3 k1;obtain⟨n2,e2,-⟩:=dJ Tryz.underlying3 k2;obtain⟨n3,e3,-⟩:=dJ Tryz.underlying3 k3;obtain⟨n4,e4,-⟩:=dJ Tryz.underlying3 k4;obtain⟨n5,e5,-⟩:=dJ Tryz.underlying3 k5;obtain⟨s6,e6,-⟩:=gS Tryz.underlying9 k6;simp at e0 e1 e2 e3 e4 e5 e6;subst e0 e1 e2 e3 e4 e5 e6;exact⟨⟨s,n1,n2,n3,n4,n5,s6⟩,rfl⟩
theorem Fb{fuel:Nat}{cs:List Value}{x:DataW H×List MemPlace}(h:DataW.trod enc Tryz.prog w base spare held fuel 25 cs=some x) :
  ∃ma mn mc ia il ic ms is,cs=[.slice ma mn mc,.slice ia il ic]∧oW w ma mn mc ia il ic ms is:=by
 obtain⟨h1,n,h2⟩:=fO Tryz.underlying25 h;have hc:Tryz.prog.cellsOf 25=2:=by kernel_rfl
 have c1:Tryz.prog.cellsOf 22=1:=by kernel_rfl
 have c2:Tryz.prog.cellsOf 23=1:=by kernel_rfl
 rw[hc] at h1
 match cs,h1 with
 | [a0,a1],_=>
  obtain⟨y0,k0⟩:=h2 0 22 0 1 [a0] rfl c1 rfl;obtain⟨y1,k1⟩:=h2 1 23 1 1 [a1] rfl c2 rfl;obtain⟨ma,mn,mc,ms,e0,hm⟩:=np (R:=RX) (sz:=3) Tryz.underlying22 (by kernel_rfl) (by decide) (fun fuel cs x h=>Md h) k0;obtain⟨ia,il,ic,is,e1,hi⟩:=np (R:=Sd) (sz:=7) Tryz.underlying23 (by kernel_rfl) (by decide) (fun fuel cs x h=>Me h) k1;simp at e0 e1;subst e0 e1;exact⟨ma,mn,mc,ia,il,ic,ms,is,rfl,⟨hm,hi⟩⟩
end
end
section
open Go.RowKit Go.ChangeShapes Go.WideShapes Go.ChangeAt
section
variable{H:Type}{enc:TypeId×Value→H}{w:World}{base:Nat}{spare:Nat→Bool}{held:Bool}
theorem IG{fuel:Nat}{cs:List Value}{x:DataW H×List MemPlace}(h:DataW.trod enc Tryz.prog w base spare held fuel 182 cs=some x):∃y:Int×Int,lX cs y:=by
 obtain⟨h1,n,h2⟩:=fO Tryz.underlying182 h;have hc:Tryz.prog.cellsOf 182=2:=by kernel_rfl
 have c1:Tryz.prog.cellsOf 3=1:=by kernel_rfl
 have c2:Tryz.prog.cellsOf 42=1:=by kernel_rfl
 rw[hc] at h1
 match cs,h1 with
 | [a0,a1],_=>
  obtain⟨y0,k0⟩:=h2 0 3 0 1 [a0] rfl c1 rfl;obtain⟨y1,k1⟩:=h2 1 42 1 1 [a1] rfl c2 rfl;obtain⟨n0,e0,-⟩:=dJ Tryz.underlying3 k0;obtain⟨n1,e1,-⟩:=dJ Tryz.underlying42 k1;simp at e0 e1;subst e0 e1;exact⟨(n0,n1),rfl⟩
end
end
section
open Go.RowKit Go.ChangeShapes Go.WideShapes Go.ChangeAt
section
variable{H:Type}{enc:TypeId×Value→H}{w:World}{base:Nat}{spare:Nat→Bool}{held:Bool}
theorem Fa{fuel:Nat}{cs:List Value}{x:DataW H×List MemPlace}(h:DataW.trod enc Tryz.prog w base spare held fuel 27 cs=some x):∃u g s,cs=[.int .i64 u,.int .i64 g,.string s]∧(-9223372036854775808≤u∧u≤9223372036854775807)∧s.size≤9223372036854775807:=by
 obtain⟨h1,n,h2⟩:=fO Tryz.underlying27 h;have hc:Tryz.prog.cellsOf 27=3:=by kernel_rfl
 have c1:Tryz.prog.cellsOf 3=1:=by kernel_rfl
 have c2:Tryz.prog.cellsOf 9=1:=by kernel_rfl
 rw[hc] at h1
 match cs,h1 with
 | [a0,a1,a2],_=>
  obtain⟨y0,k0⟩:=h2 0 3 0 1 [a0] rfl c1 rfl;obtain⟨y1,k1⟩:=h2 1 3 1 1 [a1] rfl c1 rfl;obtain⟨y2,k2⟩:=h2 2 9 2 1 [a2] rfl c2 rfl;obtain⟨n0,e0,f0⟩:=dJ Tryz.underlying3 k0;obtain⟨n1,e1,-⟩:=dJ Tryz.underlying3 k1;obtain⟨s2,e2,h3⟩:=gS Tryz.underlying9 k2;simp at e0 e1 e2;subst e0 e1 e2;exact⟨n0,n1,s2,rfl,f0,h3⟩
theorem zK{fuel:Nat}{cs:List Value}{x:DataW H×List MemPlace}(h:DataW.trod enc Tryz.prog w base spare held fuel 30 cs=some x) :
  ∃ma mn mc ia il ic ms is u g dt pt tx no now pa pn pc pl,cs=[.slice ma mn mc,.slice ia il ic,.int .i64 u,.int .i64 g,.string dt,.string pt,.string tx,.int .i64 no,.int .i64 now,.slice pa pn pc]∧oW w ma mn mc ia il ic ms is∧bj w 2 lX pa pn pc pl∧(-9223372036854775808≤u∧u≤9223372036854775807)∧dt.size≤9223372036854775807∧pt.size≤9223372036854775807∧tx.size≤9223372036854775807:=by
 obtain⟨h1,n,h2⟩:=fO Tryz.underlying30 h;have hc:Tryz.prog.cellsOf 30=10:=by kernel_rfl
 have c1:Tryz.prog.cellsOf 25=2:=by kernel_rfl
 have c2:Tryz.prog.cellsOf 27=3:=by kernel_rfl
 have c3:Tryz.prog.cellsOf 3=1:=by kernel_rfl
 have c4:Tryz.prog.cellsOf 9=1:=by kernel_rfl
 have c5:Tryz.prog.cellsOf 28=1:=by kernel_rfl
 rw[hc] at h1
 match cs,h1 with
 | [a0,a1,a2,a3,a4,a5,a6,a7,a8,a9],_=>
  obtain⟨y0,k0⟩:=h2 0 25 0 2 [a0,a1] rfl c1 rfl;obtain⟨y1,k1⟩:=h2 1 27 2 3 [a2,a3,a4] rfl c2 rfl;obtain⟨y2,k2⟩:=h2 2 9 5 1 [a5] rfl c4 rfl;obtain⟨y3,k3⟩:=h2 3 9 6 1 [a6] rfl c4 rfl;obtain⟨y4,k4⟩:=h2 4 3 7 1 [a7] rfl c3 rfl;obtain⟨y5,k5⟩:=h2 5 3 8 1 [a8] rfl c3 rfl;obtain⟨y6,k6⟩:=h2 6 28 9 1 [a9] rfl c5 rfl;obtain⟨ma,mn,mc,ia,il,ic,ms,is,e0,hs⟩:=Fb k0;obtain⟨u,g,dt,e1,hu,hdt⟩:=Fa k1;obtain⟨s2,e2,z2⟩:=gS Tryz.underlying9 k2;obtain⟨s3,e3,z3⟩:=gS Tryz.underlying9 k3;obtain⟨n4,e4,-⟩:=dJ Tryz.underlying3 k4;obtain⟨n5,e5,-⟩:=dJ Tryz.underlying3 k5;obtain⟨pa,pn,pc,pl,e6,hp⟩:=np (R:=lX) (sz:=2) Tryz.underlying28 (by kernel_rfl) (by decide) (fun fuel cs x h=>IG h) k6;simp at e0 e1 e2 e3 e4 e5 e6;obtain⟨rfl,rfl⟩:=e0;obtain⟨rfl,rfl,rfl⟩:=e1;subst e2 e3 e4 e5 e6;exact⟨ma,mn,mc,ia,il,ic,ms,is,u,g,dt,s2,s3,n4,n5,pa,pn,pc,pl,rfl,hs,hp,hu,hdt,z2,z3⟩
end
end
section
open Go.ChangeShapes Go.WideShapes Go.ChangeAt
theorem dV{a b:Bool}(h:a=true)(k:b=true):(a&&b)=true:=by
 rw[h,k];rfl
theorem GB{P:Program}{f:FuncId}{fn:Func}{s:ChangeSpec}{c:OpenClaim}
  (h0:(c.wf (OpenSpec.ofChange s))=true)
  (h1:(laidOutB P)=true)
  (h2:(mapsRowed P)=true)
  (h3:(fn.params.all (P.readableRec ·))=true)
  (h4:(namedTie P c.named s.vars)=true)
  (h5:((c.stops==[]))=true)
  (h6:((P.stops==[]))=true)
  (h7:((c.knobs==[]))=true)
  (h8:((P.stopKnobs==[]))=true)
  (h9:((c.inPlace==P.inPlace f))=true)
  (h10:((c.unfollowed==P.unfollowed f))=true)
  (h11:((c.recurses==P.recurses f))=true)
  (h12:((c.named==P.varsNamed f))=true)
  (h13:((c.maps==(fn.params.toList++s.plain.varTypes P).any (P.mapsRec ·)))=true)
  (h14:((c.ifaces==(fn.params.toList++s.plain.varTypes P).any (P.ifacesRec ·)))=true)
  (h15:((c.mapsOut==P.mapsAmong fn.resultTypes.toList))=true)
  (P2:((c.loops==(fn.params.toList++s.plain.varTypes P).any (P.loopsFrom ·)))=true)
  (P1:((c.wideKeys==(fn.params.toList++s.plain.varTypes P++fn.resultTypes.toList).any (P.wideKeysFrom ·)))=true)
  (h18:(s.vars.all (P.varReadable ·))=true)
  (h19:(fn.resultTypes.all (fun t=>P.readableRec t&&decide (t<P.types.size)))=true)
  (Kp:((c.ifacesOut==fn.resultTypes.toList.any (P.ifacesRec ·)))=true)
  (h21:((c.loopsOut==fn.resultTypes.toList.any (P.loopsFrom ·)))=true)
  (h22:((c.plainKeys==P.plainKeys))=true)
  (h23:(c.shortTexts.isNone)=true)
  (h24:(P.stopsHeard)=true)
  (h25:(P.mayEnter)=true)
  (h26:((c.lifted==P.liftsFinal))=true)
  (h27:((P.make==some c.make))=true)
  (h28:((c.kinds==(if c.domain.isEmpty then[] else fn.params.toList.map fun t=>match P.underlying t with|some (.int k)=>some k|_=>none)))=true)
  (h29:((c.pinned==c.pinnedBy))=true)
  (h30:((c.veiled==(fn.params.toList++s.plain.varTypes P++fn.resultTypes.toList).any (P.veiledRec ·)))=true)
  (h31:(c.veiledFits P fn.params.toList (fn.params.toList++s.plain.varTypes P++fn.resultTypes.toList))=true) :
  joinedFacts P f fn s c=true:=by
 unfold joinedFacts;exact dV (dV (dV (dV (dV (dV (dV (dV (dV (dV (dV (dV (dV (dV (dV (dV (dV (dV (dV (dV (dV (dV (dV (dV (dV (dV (dV (dV (dV (dV (dV h0 h1) h2) h3) h4) h5) h6) h7) h8) h9) h10) h11) h12) h13) h14) h15) P2) P1) h18) h19) Kp) h21) h22) h23) h24) h25) h26) h27) h28) h29) h30) h31
end
namespace diaryPlays
open Go.ChangeShapes Go.WideShapes Go.ChangeAt Go.RowKit
theorem own:ownKnob Tryz.prog.godebug=none:=by kernel_rfl
theorem laidOut:laidOutB Tryz.prog=true:=by kernel_rfl
theorem contract(H:Type)(enc:TypeId×Value→H)(W:World)(base:Nat)(args:Array Value)(ds gs:List (DataW H))(before:List MemPlace)
  (Oi:∀(j:Nat) t v,Tryz.f3.params[j]?=some t→args[j]?=some v→Value.okWide Tryz.prog W .any base t v)
  (hW:DataW.Whole enc Tryz.prog Tryz.f3.params.toList Rows.diaryPlaysSpec.vars false W args.toList ds gs before) (hsh:W.ShapedOpen Tryz.prog) :
  Calls Tryz.prog 3 args W fun e W'=>∃v,e=.returned v∧Rows.diaryPlaysSpec.post enc Tryz.prog Tryz.f3 false true false false W args v W':=by
 have hval:∀(j:Nat) t v,Tryz.f3.params[j]?=some t→args[j]?=some v→Value.okWide Tryz.prog W .any base t v:=Oi;have hW':=hW;obtain⟨p,q,Ko,hV,rfl,hfz,hnd⟩:=hW;have hA:DataW.TrodAll enc Tryz.prog W 0 (fun _=>true) true Tryz.f3.params.toList args.toList ds p:=Ko;rw[Tryz.params3] at hA hval;have jk:=hA;obtain⟨v0,vs0,d0,ds0,p0,q0,hargs,rfl,rfl,h0,r0⟩:=trodAll_cons hA;obtain⟨v1,vs1,d1,ds1,p1,q1,rfl,rfl,rfl,h1,r1⟩:=trodAll_cons r0;obtain⟨rfl,rfl,rfl⟩:=trodAll_nil r1;obtain rfl:args=#[v0,v1]:=by cases args;simp_all
 obtain⟨rfl,rfl⟩:=trodVars_none hV;obtain⟨cs,rfl,hsz,hok⟩:=Fi Tryz.underlying30 (hval 0 30 v0 rfl rfl);obtain⟨ma,mn,mc,ia,il,ic,ms,is,u,g,dt,pt,tx,no,now,pa,pn,pc,pl,e,hsd,hsp,-⟩:∃ma mn mc ia il ic ms is u g dt pt tx no now pa pn pc pl,cs=#[.slice ma mn mc,.slice ia il ic,.int .i64 u,.int .i64 g,.string dt,.string pt,.string tx,.int .i64 no,.int .i64 now,.slice pa pn pc]∧oW W ma mn mc ia il ic ms is∧bj W 2 lX pa pn pc pl∧(-9223372036854775808≤u∧u≤9223372036854775807)∧dt.size≤9223372036854775807∧pt.size≤9223372036854775807∧tx.size≤9223372036854775807:=by
  obtain⟨fuel,hf⟩:=h0;obtain⟨ma,mn,mc,ia,il,ic,ms,is,u,g,dt,pt,tx,no,now,pa,pn,pc,pl,e,h⟩:=zK hf;exact⟨ma,mn,mc,ia,il,ic,ms,is,u,g,dt,pt,tx,no,now,pa,pn,pc,pl,Array.ext' e,h⟩
 subst e;obtain⟨la,ln,lc,rfl⟩:=okWide_slice Tryz.underlying31 (hval 1 31 v1 rfl rfl);obtain⟨la',ln',lc',ds,e,hz⟩:∃a len cap zs,[Value.slice la ln lc]=[.slice a len cap]∧bj W 4 (fun cs (d:Dd)=>Ts cs d∧d.At W) a len cap zs:=by
  obtain⟨fuel,hf⟩:=h1;exact np (sz:=4) Tryz.underlying31 (by kernel_rfl) (by decide) (fun fuel cs x h=>Fe h) hf
 simp only[List.cons.injEq,Value.slice.injEq,and_true] at e;obtain⟨rfl,rfl,rfl⟩:=e;clear Ko Oi;refine(uJ W (kl.Gf hsh) hsd u g dt pt tx no now hsp (hz.imp (fun _ _ h=>h.1)) (hz.all (fun _ _ h=>h.2))).mono fun e W' ⟨he,bel⟩=>?_;subst he;exact⟨_,rfl,_,_,_,[],_,[],hW',trodAll_mk1 (shut_bool Tryz.underlying4 _),nS laidOut bel _ _ _ _ (by kernel_rfl) jk,rfl,bel.frame _,fun h=>by cases h⟩
theorem laid_met(os:Os):laidMetH Tryz.prog Rows.diaryPlaysRow.laid ((World.laidAll Tryz.prog os Rows.diaryPlaysRow.laid).forCall (fun _ _=>0) ⟨#[],#[.agg #[.slice none 0 0,.slice none 0 0,.int .i64 0,.int .i64 0,.string ByteArray.empty,.string ByteArray.empty,.string ByteArray.empty,.int .i64 0,.int .i64 0,.slice none 0 0],.slice none 0 0],[]⟩).memory:=
 laidMet_laidAll _ (by kernel_rfl) (by kernel_rfl)
theorem reads(os:Os){H:Type}(enc:TypeId×Value→H):∃places,DataW.whole enc Tryz.prog ((World.laidAll Tryz.prog os Rows.diaryPlaysRow.laid).forCall (fun _ _=>0) ⟨#[],#[.agg #[.slice none 0 0,.slice none 0 0,.int .i64 0,.int .i64 0,.string ByteArray.empty,.string ByteArray.empty,.string ByteArray.empty,.int .i64 0,.int .i64 0,.slice none 0 0],.slice none 0 0],[]⟩).memory Tryz.f3.params.toList Rows.diaryPlaysSpec.vars false #[(.agg #[.slice none 0 0,.slice none 0 0,.int .i64 0,.int .i64 0,.string ByteArray.empty,.string ByteArray.empty,.string ByteArray.empty,.int .i64 0,.int .i64 0,.slice none 0 0]:Value),(.slice none 0 0:Value)].toList 8=some ([.agg [.agg [.nil,.nil],.agg [.lit (.int .i64 0),.lit (.int .i64 0),.lit (.string [])],.lit (.string []),.lit (.string []),.lit (.int .i64 0),.lit (.int .i64 0),.nil],.nil],[],places):=
 ⟨[],by kernel_rfl⟩
theorem lifted(os:Os)(started:os.Started)(H:Type)(enc:TypeId×Value→H)(F:Stop.Interp) :
  ReturnsInHanded {} Tryz.checked os 3 .any ((OpenSpec.ofChange Rows.diaryPlaysSpec).preRow enc Tryz.prog Tryz.f3 Rows.diaryPlaysRow.domain false Rows.diaryPlaysRow.laid) (((OpenSpec.ofChange Rows.diaryPlaysSpec).at F).post enc Tryz.prog Tryz.f3 false true false false):=by
 obtain⟨places,hx⟩:=reads os enc;refine returnsInHanded_of_row (C:=Tryz.checked) (s:=OpenSpec.ofChange Rows.diaryPlaysSpec) own started (by kernel_rfl) Tryz.func3
  (witness_row_at (enc:=enc) (C:=Tryz.checked) false (World.laidAll Tryz.prog os Rows.diaryPlaysRow.laid) #[.agg #[.slice none 0 0,.slice none 0 0,.int .i64 0,.int .i64 0,.string ByteArray.empty,.string ByteArray.empty,.string ByteArray.empty,.int .i64 0,.int .i64 0,.slice none 0 0],.slice none 0 0] rfl (by kernel_rfl) (by kernel_rfl) (by kernel_rfl)
   (OpenSpec.preRow_of_cond 8 hx (by kernel_rfl) (fun k hk=>by cases hk) (by kernel_rfl) (laid_met os))) ?_
 intro W base args ds gs before hval hW _ _ _ _ hsh _;exact contract H enc W base args ds gs before hval hW hsh
theorem said:Rows.DiaryPlaysSaid:=
 OpenClaim.holds_of_cond 3 Tryz.f3 rfl rfl rfl rfl rfl rfl rfl ⟨rfl,rfl,rfl,rfl,rfl⟩ rfl rfl rfl rfl rfl (by as_aux_lemma=>kernel_rfl) Tryz.func3
  (GB (by as_aux_lemma=>kernel_rfl) (by as_aux_lemma=>kernel_rfl) (by as_aux_lemma=>kernel_rfl) (by as_aux_lemma=>kernel_rfl) (by as_aux_lemma=>kernel_rfl) (by as_aux_lemma=>kernel_rfl) (by as_aux_lemma=>kernel_rfl) (by as_aux_lemma=>kernel_rfl) (by as_aux_lemma=>kernel_rfl) (by as_aux_lemma=>kernel_rfl) (by as_aux_lemma=>kernel_rfl) (by as_aux_lemma=>kernel_rfl) (by as_aux_lemma=>kernel_rfl) (by as_aux_lemma=>kernel_rfl) (by as_aux_lemma=>kernel_rfl) (by as_aux_lemma=>kernel_rfl) (by as_aux_lemma=>kernel_rfl) (by as_aux_lemma=>kernel_rfl) (by as_aux_lemma=>kernel_rfl) (by as_aux_lemma=>kernel_rfl) (by as_aux_lemma=>kernel_rfl) (by as_aux_lemma=>kernel_rfl) (by as_aux_lemma=>kernel_rfl) (by as_aux_lemma=>kernel_rfl) (by as_aux_lemma=>kernel_rfl) (by as_aux_lemma=>kernel_rfl) (by as_aux_lemma=>kernel_rfl) (by as_aux_lemma=>kernel_rfl) (by as_aux_lemma=>kernel_rfl) (by as_aux_lemma=>kernel_rfl) (by as_aux_lemma=>kernel_rfl) (by as_aux_lemma=>kernel_rfl))
  (of_decide_eq_true (by as_aux_lemma=>kernel_rfl)) (by unfold Func.isWrapper;first|(rw[if_pos (by decide +kernel)];kernel_rfl)|(rw[if_neg (by decide +kernel)];exact⟨rfl,rfl⟩))
  (fun os started H enc _ F=>by rw[OpenClaim.pre_eq_preRow];exact lifted os started H enc F)
theorem plain (f : FuncId) (fn : Func) (hf : Tryz.pinned.checked.prog.funcNamed "ragpicker/ragpickerlaw39.DiaryPlays" = some f) (hfn : Tryz.pinned.checked.prog.funcs[f]? = some fn) :
  false=Tryz.pinned.checked.prog.looks []∧∀(j:Nat) t,fn.params[j]?=some t→Tryz.pinned.checked.prog.wantsStandIn t=false:=by
 obtain rfl : f = 3 := Option.some.inj ((show Tryz.prog.funcNamed "ragpicker/ragpickerlaw39.DiaryPlays" = some 3 by kernel_rfl).symm.trans hf) |>.symm
 obtain rfl:fn=Tryz.f3:=(Option.some.inj (Tryz.func3.symm.trans hfn)).symm;refine⟨by kernel_rfl,fun j t ht=>?_⟩;rw[Tryz.params3] at ht;have hm:=Array.mem_of_getElem? ht;simp only[List.mem_toArray,List.mem_cons,List.not_mem_nil,or_false] at hm;rcases hm with rfl|rfl
 ·exact(show Tryz.prog.wantsStandIn 30=false by kernel_rfl)
 ·exact(show Tryz.prog.wantsStandIn 31=false by kernel_rfl)
theorem proved:Rows.DiaryPlaysCardSaid:=
 Claim7.holds_tied_plain_at .later [] _ _ _ _ said (fun _ h=>by cases h) (by kernel_rfl) (fun _ h=>by cases h) diaryPlays_row_tie rfl ⟨rfl,rfl⟩ (by kernel_rfl) rfl plain (by kernel_rfl)
#print axioms proved
end diaryPlays
end Go.Proofs.YtinflmadpnigfaaGreatDoor
