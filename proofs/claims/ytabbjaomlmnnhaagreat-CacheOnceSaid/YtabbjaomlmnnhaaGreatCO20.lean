import Derived.Sort.LoopGhostIn
import Derived.Sort.CutIn
import Derived.RangeFuncNested
import Derived.RangeFuncBound
import Derived.RangeFuncCalls
import Derived.RangeFuncLeaves
import Derived.Shelf.Abstract
import Derived.Shelf.RegionOpen
import Derived.OwnWalkIn
import Derived.TacticsInMore
import Derived.LoopNIn
import Derived.LoopIn
import Derived.WalkMore
import Derived.Test.YtabbjaomlmnnhaaGreatCO19
import Derived.Test.YtabbjaomlmnnhaaGreatCO6
import Derived.Test.YtabbjaomlmnnhaaGreatCO4
import Derived.Test.YtabbjaomlmnnhaaGreatCO17
import Derived.Test.YtabbjaomlmnnhaaGreatCO1
import Derived.Test.YtabbjaomlmnnhaaGreatCO11
import Derived.Test.YtabbjaomlmnnhaaGreatCO2
import Derived.Test.YtabbjaomlmnnhaaGreatCO9
import Derived.Test.YtabbjaomlmnnhaaGreatCO15
import Derived.Test.YtabbjaomlmnnhaaGreatCO5
set_option linter.unusedVariables false
set_option linter.unusedSimpArgs false
set_option maxRecDepth 100000
set_option maxHeartbeats 16000000
namespace Go.Proofs.YtabbjaomlmnnhaaGreat
open Go.Value renaming int→UE,string→UF,slice→UG,pointer→UH,agg→UJ,tuple→UK
open Go.IntKind renaming i64→UL
section
open Go.RowKit
theorem ko.app5{w:World}{base:Nat}{v:Value}{l:List Sp}(h:ko w base v l)(x:Sp)(hn:l.length≤1000000)(hb:base≤w.heap.size) :
  ∃g cap W,(Builtin.append_ #[158,158] 158 #[v,.slice (some ⟨w.heap.size,0,none⟩) 1 1]).run Tryz.prog (w.alloc (.cells #[UE UL x.dir,UF x.name,UE UL x.no,UE UL x.depth] 108))=.ok (.slice (some ⟨g,0,none⟩) (l.length+1) cap) W∧
   ko W base (.slice (some ⟨g,0,none⟩) (l.length+1) cap) (l++[x])∧Mod (fun k=>v.ownBlock=some k) w W∧(v.ownBlock=some g∨w.heap.size<g):=by
 obtain⟨g,cap,W,h1,h2,h3,h4⟩:=l8 (SE:=158) Tryz.underlying158 DN rfl (by decide) h (NN x) rfl (by intro u hu;simp[NN] at hu;rcases hu with rfl|rfl|rfl|rfl<;>rfl) hn (by decide) hb;refine⟨g,cap,W,h1,?_,h3,h4⟩;unfold ko;rw[List.length_append,List.length_singleton,List.flatMap_append];exact(by simpa using h2)
theorem ko.one{w:World}{base b:Nat}{x:Sp}(hb:base≤b)(h:ax w b #[UE UL x.dir,UF x.name,UE UL x.no,UE UL x.depth] 108):ko w base (.slice (some ⟨b,0,none⟩) 1 1) [x]:=
 ⟨rfl,.inr ⟨b,1,_,rfl,hb,h,aa _,by unfold maxLen;omega,rfl,rfl⟩⟩
theorem EG(pf:Nat)(c:Cr)(dir:Int)(n:ByteArray)(w:World) :
  Calls Tryz.prog 34 #[UH (some ⟨pf,0,none⟩),UJ #[UE UL c.u,UE UL c.g],UE UL dir,UF n] w fun e w'=>
   e=.returned (.func (.func 70) #[] #[UH (some ⟨w.heap.size,0,none⟩),UH (some ⟨w.heap.size+1,0,none⟩),UH (some ⟨w.heap.size+1+1,0,none⟩),UH (some ⟨w.heap.size+1+1+1,0,none⟩)])∧
   w'=(((w.alloc (.cells #[UH (some ⟨pf,0,none⟩)] 35)).alloc (.cells #[UE UL c.u,UE UL c.g] 64)).alloc (.cells #[UE UL dir] 3)).alloc (.cells #[UF n] 9):=by
 go_enter Tryz.func34,Tryz.ntmps34;go_wp2_with fail;go_ret;exact⟨rfl,rfl⟩
structure DnW(pf pw:Nat)(R:Rp)(pv:Value)(Y:Sy)(Bf Bc Bd Bn:Nat)(c:Cr)(dir:Int)(nm:ByteArray)(w:World):Prop where
 y:bm w pf pw R pv Y
 f:ax w Bf #[UH (some ⟨pf,0,none⟩)] 35
 c:ax w Bc #[UE UL c.u,UE UL c.g] 64
 d:ax w Bd #[UE UL dir] 3
 n:ax w Bn #[UF nm] 9
theorem tD{T:Nat→Prop}{B:Nat}{A C:World}(h:Below B A C)(hT:∀k,T k→k<B):KT T A C:=⟨h.size,fun k hk=>h.block k (hT k hk)⟩
theorem lY{B:Nat}{A C:World}(h:Below B A C):eL qB B py A C:=
 ⟨h.os,h.tape,h.output,h.size,fun k o hk _ hp=>by
  by_cases hlt:k<B
  ·exact(h.block k hlt).trans hk
  ·exact absurd (hp (by omega)) (by simp[py])⟩
structure DnI(S:Fs)(N:Nat)(c:Cr)(T:Nat→Prop)(w W:World)(J:List (Sp×Int)→World→Prop)(L:List (Sp×Int))(Bx f:Nat)(t7 t8:Value)(wr:World):Prop where
 ex:∃(e:Int) (stk:List Sp) (pre:List (Sp×Int)) (x0:Sp),t7=UE UL e∧ko wr (Bx+1) t8 stk.reverse∧ax wr Bx #[UE UL x0.dir,UF x0.name,UE UL x0.no,UE UL x0.depth] 108∧J pre wr∧
  (e=0∧L=pre++eD (S.eM c f stk)∧S.uG N stk≤f∧S.By N (N*N) stk∨e≠0∧L=pre++[(x0,e)])
 kt:KT T w wr
 size:W.heap.size≤wr.heap.size
structure Uw(T:Nat→Prop)(w W:World)(J:List (Sp×Int)→World→Prop)(Bx P:Nat)(lv:Value)(ql t:List Sp)(x:Sp)(pre:List (Sp×Int))(j:Nat)(t8:Value)(wr:World):Prop where
 o:ko wr (Bx+1) t8 (t.reverse++(ql.drop j).reverse)
 q:ko wr P lv ql
 ap:∀k,t8.ownBlock=some k→lv.ownBlock≠some k
 x:ax wr Bx #[UE UL x.dir,UF x.name,UE UL x.no,UE UL x.depth] 108
 jp:J pre wr
 kt:KT T w wr
 size:W.heap.size≤wr.heap.size
theorem Uw.push{T:Nat→Prop}{w W:World}{J:List (Sp×Int)→World→Prop}{Bx P:Nat}{lv:Value}{ql t:List Sp}{x:Sp}{pre:List (Sp×Int)}{j:Nat}{t8:Value}{wr:World}(h:Uw T w W J Bx P lv ql t x pre (j+1) t8 wr)(hj:j<ql.length)
  (hJ:BK qB W.heap.size py J) (hT:∀k,T k→k<W.heap.size) (hB:W.heap.size≤Bx) (hn:t.length+ql.length≤1000000) :
  ∃v W',(Builtin.append_ #[158,158] 158 #[t8,.slice (some ⟨wr.heap.size,0,none⟩) 1 1]).run Tryz.prog (wr.alloc (.cells #[UE UL ql[j].dir,UF ql[j].name,UE UL ql[j].no,UE UL ql[j].depth] 108))=.ok v W'∧
   Uw T w W J Bx P lv ql t x pre j v W':=by
 have hx:=h.x.lt;have hlen:(t.reverse++(ql.drop (j+1)).reverse).length≤1000000:=by
  rw[List.length_append,List.length_reverse,List.length_reverse,List.length_drop];omega
 obtain⟨g,cap,W',h1,h2,h3,h4⟩:=h.o.app5 ql[j] hlen (by omega);have hb:Below (Bx+1) wr W':=h3.below (fun k hk=>(aH h.o hk).1) (by omega);refine⟨_,W',h1,?_,bY h.q h3 (fun k hk=>h.ap k hk),fun k hk he=>?_,h.x.mod h3 (fun hk=>by have:=(aH h.o hk).1;omega),hJ _ _ _ h.jp (lY (hb.mono (by omega))),h.kt.trans (tD (hb.mono (by omega)) hT),ae h.size hb.size⟩
 ·rw[List.append_assoc] at h2;rw[List.drop_eq_getElem_cons hj,List.reverse_cons];exact h2
 ·simp only[Value.ownBlock,Option.some.injEq] at hk;subst hk;rcases h4 with h4|h4
  ·exact h.ap _ h4 he
  ·obtain⟨-,cur,hc⟩:=aH h.q he;have:=(Array.getElem?_eq_some_iff.1 hc).1;omega
theorem Dj{pf pw:Nat}{R:Rp}{pv:Value}{Y:Sy}{Bf Bc Bd Bn:Nat}{c:Cr}{dir:Int}{nm:ByteArray}{w:World}{M T:Nat→Prop}{N:Nat}(hF:dE Y.fs N)(hN:N≤900)(hd:Y.dead=false)
  (yW:∀k,T k→k<w.heap.size) (hT:∀W,KT T w W→DnW pf pw R pv Y Bf Bc Bd Bn c dir nm W) (n:Nat) (hn:1≤n) :
  TD M T Fence.wide n Tryz.prog 70 #[UH (some ⟨Bf,0,none⟩),UH (some ⟨Bc,0,none⟩),UH (some ⟨Bd,0,none⟩),UH (some ⟨Bn,0,none⟩)] (fun x:Sp×Int=>#[x.1.v,UE UL x.2])
   (fun xs=>xs=eD (Y.fs.iv N Y.dead c dir nm)) (fun pre=>∃m,pre=(eD (Y.fs.iv N Y.dead c dir nm)).take m) (fun pre x=>(pre++[x]) <+: eD (Y.fs.iv N Y.dead c dir nm)) w:=fun l J Jx W hW SX hM hl hJ hJx hY h0=>by
 have HT:=Ux hT;have HK:=Ux (ag hF (ag hN hd));have HM:=Ux (ag hM (ag hl hW));have HTl:=Ux (fun k hk=>show k<W.heap.size from Nat.lt_of_lt_of_le (yW k hk) SX);have HJ:=Ux hJ;have HY:=Ux hY;have H0:=Ux h0;have MP:=hT W hW;have OD:=Ux (fun w1 (av:UA W w1)=>BZ (MP.y.an av) hF.ok (by omega) c dir nm);have Kr:=Ux (show Y.fs.iv N Y.dead c dir nm=if(Y.fs.aQ Y.dead c dir nm).2≠0 then([],some (⟨dir,nm,(Y.fs.aQ Y.dead c dir nm).1,0⟩,(Y.fs.aQ Y.dead c dir nm).2))
  else Y.fs.eM c (Y.fs.uG N [⟨dir,nm,(Y.fs.aQ Y.dead c dir nm).1,0⟩]) [⟨dir,nm,(Y.fs.aQ Y.dead c dir nm).1,0⟩] from rfl)
 obtain⟨fc,-,fz⟩:=MP.f.facts;obtain⟨cc,-,cz⟩:=MP.c.facts;obtain⟨dc,-,dz⟩:=MP.d.facts;obtain⟨nc,-,nz⟩:=MP.n.facts;generalize Y.fs.aQ Y.dead c dir nm=rd at OD Kr;obtain⟨k0,e0⟩:=rd;dsimp only[Sp.v] at Kr OD;generalize Y.fs.iv N Y.dead c dir nm=wk at Kr HY⊢;clear hT hF hM hW hJ hJx hY h0 MP yW;refine callsIn_of_wp Tryz.func70 rfl trivial ?_ rfl;simp only[Tryz.ntmps70,List.size_toArray,List.length_cons,List.length_nil,Nat.reduceAdd,Nat.reduceSub,Array.replicate_succ,Array.replicate_zero,List.push_toArray,List.append_toArray,List.nil_append,List.cons_append];gi_wp2;refine⟨trivial,?_⟩;refine(callsIn_wide.2 (OD.o _ (Below.refl _ _))).mono ?_;rintro e w1 ⟨rfl,av⟩;clear fc fz cc cz dc dz nc nz;have nb:=ax.new w1 #[UE UL dir,UF nm,UE UL k0,UE UL 0] 108;have aJ:=ao av (.cells #[UE UL dir,UF nm,UE UL k0,UE UL 0] 108);have h1s:=av.size
 gi_upto_region 1 with fail
 generalize PR:w1.heap.size=Bx at nb h1s⊢;generalize xQ:w1.alloc (.cells #[UE UL dir,UF nm,UE UL k0,UE UL 0] 108)=w2 at nb aJ⊢;have ib:w2.heap.size=Bx+1:=by rw[←xQ,World.size_alloc,PR]
 obtain⟨xc,xf,xz⟩:=nb.facts;have mU:=ax.new w2 #[UE UL dir,UF nm,UE UL k0,UE UL 0] 108;have ob:=nb.bI (.cells #[UE UL dir,UF nm,UE UL k0,UE UL 0] 108);have aY:=ao aJ (.cells #[UE UL dir,UF nm,UE UL k0,UE UL 0] 108);obtain⟨f0,CP⟩:∃f,Y.fs.uG N [⟨dir,nm,k0,0⟩]=f:=⟨_,rfl⟩;have Ea:DnI Y.fs N c T w W J (eD wk) Bx f0 (UE UL e0) (.slice (some ⟨w2.heap.size,0,none⟩) 1 1) (w2.alloc (.cells #[UE UL dir,UF nm,UE UL k0,UE UL 0] 108)):=by
  refine⟨⟨e0,[⟨dir,nm,k0,0⟩],[],⟨dir,nm,k0,0⟩,rfl,ko.one (by omega) mU,ob,HJ.o _ _ _ H0.o (lY aY),?_⟩,HM.o.2.2.trans (tD aY HTl.o),aY.size⟩;by_cases he:e0=0
  ·refine .inl ⟨he,?_,by rw[CP];exact aa _,Lm HK.o.1.ok _⟩;rw[Kr.o,if_neg (by simpa using he),CP,List.nil_append]
  ·refine .inr ⟨he,?_⟩;rw[Kr.o,if_pos he];rfl
 have Uh:=Ux Ea;clear Ea mU ob aY aJ nb CP;gi_wp2;clear xc xf xz
 gi_loopg [7,8] f0 (fun gk t7 t8 wr=>DnI Y.fs N c T w W J (eD wk) Bx gk t7 t8 wr)
 case atStart=>rw[←ib];exact Uh.o
 case round=>
  obtain⟨⟨e,stk,pre,x0,rfl,hO,hX,C8,hc⟩,hkt,hsz⟩:=hrel;by_cases he:e=0
  ·subst he;rcases hc.symm with⟨h,-⟩|⟨-,hL,hmu,hst⟩
   ·exact absurd rfl h
   cases stk with
   |nil=>
    obtain⟨a,cap,rfl,-⟩:=bQ hO;have HL:=Ux (show eD wk=pre by rw[hL,Io,List.append_nil]);have Qn:=Ux C8;clear hL hmu hst hO hX C8 hkt hsz;gi_wp2
    go_end0
    exact⟨⟨_,rfl⟩,.inl (by rw[HL.o];exact Qn.o)⟩
   |cons x t=>
    obtain⟨m,hm⟩:∃m,t.length=m:=⟨_,rfl⟩;rw[List.reverse_cons] at hO;obtain⟨a,cap,rfl,-⟩:=bQ hO;have hlen:(t.reverse++[x]).length=m+1:=by rw[List.length_append,List.length_reverse,hm];rfl
    obtain⟨g,rfl,hgl,hgb,-,hgf,SR,SQ,c0,c1,c2,c3⟩:=ko.cell hO m (by rw[hlen];omega);have hget:(t.reverse++[x])[m]'(by rw[hlen];omega)=x:=by
     rw[List.getElem_append_right (by rw[List.length_reverse];omega)];simp
    rw[hget] at c0 c1 c2 c3;have hless:=ko.less (by rw[List.length_reverse,hm];rw[hlen] at hO;exact hO);rw[hlen] at SR;rw[List.length_reverse,hm] at hless;obtain⟨xc,xf,xz⟩:=hX.facts;obtain⟨f',rfl⟩:∃f',gk=f'+1:=by
     rw[iV] at hmu;have:0<(N+1) ^ Y.fs.jt x.no:=Nat.pow_pos (by omega);exact⟨gk-1,by omega⟩
    have hmm:=xo hst;have hNN:N*N≤900*900:=Nat.mul_le_mul HK.o.2.1 HK.o.2.1;rw[List.length_cons,hm] at hmm;have Sv:m≤1000000:=by omega
    have jY:=Ux (ag hL (ag hmu (ag hst hNN)));have Qn:=Ux C8;have qC:=Ux (ag hless (ag hX (ag hkt hsz)));rw[hlen];clear hL hmu hst hNN hmm hO hX C8 hkt hsz hless hget hlen;have hmB:=((((Mod.refl (fun k=>k=Bx) wr).setCell (a:=⟨Bx,0,none⟩) (.inl rfl) (UE UL x.dir)).setCell (a:=⟨Bx,1,none⟩) (.inl rfl) (UF x.name)).setCell (a:=⟨Bx,2,none⟩) (.inl rfl) (UE UL x.no)).setCell (a:=⟨Bx,3,none⟩) (.inl rfl) (UE UL x.depth);have hXP:=qC.o.2.1.dA (v0:=UE UL x.dir) (v1:=UF x.name) (v2:=UE UL x.no) (v3:=UE UL x.depth)
    gi_upto_region 5 with fail
    generalize World.setCell _ _ _=P at hmB hXP⊢;have SU:Below W.heap.size wr P:=hmB.below (fun k hk=>by omega) qC.o.2.2.2;have Pj:=qC.o.2.2.1.trans (tD SU HTl.o);have hOP:ko P (Bx+1) (.slice (some ⟨g,0,none⟩) m cap) t.reverse:=bY qC.o.1 hmB (fun k hk he=>by have:=(aH qC.o.1 he).1;omega);have hDP:=HT.o P Pj;have HP:=Ux (ag hOP (ag hXP (ag Pj (ag (ae qC.o.2.2.2 SU.size) (HJ.o _ _ _ Qn.o (lY SU))))));have HIn:=Ux (EE hDP.y HK.o.1.ok (by have:=HK.o.2.1;omega) HK.o.2.2 c x);obtain⟨fc,-,fz⟩:=hDP.f.facts;obtain⟨cc,-,cz⟩:=hDP.c.facts;obtain⟨pc,pf',pz⟩:=hXP.facts;have hgP:g<P.heap.size:=Nat.lt_of_lt_of_le hgl SU.size;clear xc xf xz hmB hXP SU Pj hOP hDP c0 c1 c2 c3 hgl hgf;have Ou:=Ux (wo HK.o.1 c x);have Om:=Ux (Iy (K:=N*N) HK.o.1 c (x:=x) (t:=t));have HTd:=Ux (ET (S:=Y.fs) (c:=c) (f:=f') (x:=x) (t:=t));have HTb:=Ux (Ip (S:=Y.fs) (c:=c) (f:=f') (x:=x) (t:=t));generalize Y.fs.dh c x=q at HIn Ou Om HTd HTb;obtain⟨ql,qe⟩:=q;dsimp only at HIn Ou Om HTd HTb;gi_wp2;refine⟨trivial,?_⟩;refine(callsIn_wide.2 HIn.o).mono ?_;rintro e w4 ⟨lv,rfl,yX,dM⟩;have xX:=HP.o.2.1.an dM;have Pk:=HP.o.2.2.1.trans (KT.aq dM (fun k hk=>Nat.lt_of_lt_of_le (HTl.o k hk) HP.o.2.2.2.1));have hJ4:=HJ.o _ _ _ HP.o.2.2.2.2 (lY (dM.mono HP.o.2.2.2.1));have H4:=Ux (ag (HP.o.1.an dM) (ag xX (ag Pk (ag (ae HP.o.2.2.2.1 dM.size) (ag yX dM.size)))));have HJ4:=Ux hJ4;clear fc fz cc cz pc pf' pz;obtain⟨xc,xf,xz⟩:=xX.facts;by_cases hq:qe≠0
    ·have HL:=Ux (show eD wk=pre++[(x,qe)] by rw[jY.o.1,HTb.o hq]);have hv:(qe==0)=false:=by simpa using hq
     have rL:(qe != 0)=true:=by simpa using hq
     obtain⟨fn,tmps,assign,body,hy,hR⟩:=HY.o pre (x,qe) w4 HJ4.o (by rw[HL.o];exact List.prefix_refl _);have HR:=Ux hR;dsimp only[Sp.v] at hy;clear hq hR xX Pk hJ4 yX dM;gi_wp2;refine HR.o.mono ?_;rintro e W3 (⟨rfl,AP,im,p7⟩|⟨rfl,mr⟩)
     ·have ND:=Ux AP;clear AP im p7 hy;gi_wp2
      go_end0
      exact⟨⟨_,rfl⟩,.inl ⟨_,HL.o.symm,ND.o⟩⟩
     ·have KD:=Ux mr;clear mr hy;gi_wp2
      go_end0
      exact⟨⟨_,rfl⟩,.inr ⟨_,⟨(eD wk).length,by rw[List.take_length,HL.o]⟩,KD.o⟩⟩
    ·obtain rfl:qe=0:=by simpa using hq
     have HMu:=Ux (Ou.o rfl);clear Ou;have HL:=Ux (show eD wk=pre++((x,0)::eD (Y.fs.eM c f' (ql++t))) by rw[jY.o.1,HTd.o rfl]);obtain⟨fn,tmps,assign,body,hy,hR⟩:=HY.o pre (x,0) w4 HJ4.o (by rw[HL.o];exact⟨eD (Y.fs.eM c f' (ql++t)),by simp⟩);have HR:=Ux hR;dsimp only[Sp.v] at hy;clear hq hR xX Pk hJ4 yX dM;gi_wp2;refine HR.o.mono ?_;rintro e W3 (⟨rfl,AP,im,p7⟩|⟨rfl,mr⟩)
     ·obtain⟨la,lcap,rfl,-⟩:=bQ H4.o.2.2.2.2.1;have hg4:=aH H4.o.1 (k:=g) rfl;have Ta:Uw T w W J Bx P.heap.size (UG la ql.length lcap) ql t x (pre++[(x,0)]) ql.length (.slice (some ⟨g,0,none⟩) m cap) W3:=by
       have oh:W.heap.size≤Bx:=h1s;have hMk:∀k,(M k∨k=l)→k<W.heap.size:=fun k hk=>hk.elim (HM.o.1 k) (fun e=>by rw[e];exact HM.o.2.1);refine⟨?_,bY H4.o.2.2.2.2.1 p7 (fun k hk he=>by have:=(aH H4.o.2.2.2.2.1 he).1;have:=hMk k hk;omega),fun k hk he=>?_,H4.o.2.1.mod p7 (fun hk=>by have:=hMk _ hk;omega),AP,H4.o.2.2.1.trans im,ae H4.o.2.2.2.1 p7.size⟩
       ·rw[List.drop_length,List.reverse_nil,List.append_nil];exact bY H4.o.1 p7 (fun k hk he=>by have:=(aH H4.o.1 he).1;have:=hMk k hk;omega)
       ·simp only[Value.ownBlock,Option.some.injEq] at hk;subst hk;have:=(aH H4.o.2.2.2.2.1 he).1;omega
      have HR0:=Ux Ta;have hqb:ql.length≤1000000:=by
       have h1:=xo (Om.o jY.o.2.2.1);have h2:=jY.o.2.2.2;rw[List.length_append] at h1;omega
      have HQb:=Ux (show t.length+ql.length≤1000000 by
       have h1:=xo (Om.o jY.o.2.2.1);have h2:=jY.o.2.2.2;rw[List.length_append] at h1;omega)
      clear AP im p7 Ta hg4 xc xf xz hy;gi_wp2
      gi_loopw [8,10] (fun t8 t10 wr=>∃j:Nat,j≤ql.length∧t10=UE UL ((j:Int)-1)∧Uw T w W J Bx P.heap.size (UG la ql.length lcap) ql t x (pre++[(x,0)]) j t8 wr) (fun _ t10 _=>(intOf t10+1).toNat)
      case atStart=>exact⟨ql.length,aa _,by first|rfl|go_num,HR0.o⟩
      case round=>
       obtain⟨j,hjl,rfl,hr⟩:=hrel;by_cases hj:0<j
       ·obtain⟨i,rfl⟩:∃i,j=i+1:=⟨j-1,by omega⟩;have hil:i<ql.length:=by omega
        obtain⟨b,rfl,hbl,-,-,-,jH,fE,d0,d1,d2,d3⟩:=ko.cell hr.q i hil;obtain⟨v,W',hrun,p6⟩:=hr.push hil HJ.o HTl.o h1s HQb.o;have HA:=Ux hrun;have rh:=Ux p6;have HIl:=Ux hil;have NZ:((i+1:Nat):Int)-1=(i:Int):=by omega
        have G7:((i:Int)+1)-1=(i:Int):=by omega
        clear hr hrun p6 hj hjl
        gi_wp2_with (gi_at_builtin;refine j0 rfl rfl rfl rfl HA.o ?_)
        go_roundw
        case rel=>exact⟨i,by have:=HIl.o;omega,by first|rfl|go_num,rh.o⟩
        case measure=>simp[intOf]
       ·obtain rfl:j=0:=by omega
        have HE:=Ux hr;clear hr hjl hj;gi_wp2
        gi_roundg f'
        case measure=>omega
        case rel=>
         refine⟨⟨0,ql++t,pre++[(x,0)],x,rfl,?_,HE.o.x,HE.o.jp,.inl ⟨rfl,?_,?_,Om.o jY.o.2.2.1⟩⟩,HE.o.kt,HE.o.size⟩
         ·have:=HE.o.o
          rwa [List.drop_zero,←List.reverse_append] at this
         ·rw[HL.o,List.append_assoc];rfl
         ·have h1:=jY.o.2.1;have h2:=HMu.o;rw[iV] at h1;rw[xM];omega
     ·have KD:=Ux mr;clear mr hy;gi_wp2;exact bodyPost_ret (results_none rfl _ _ _) rfl ⟨⟨_,rfl⟩,.inr ⟨_,j2 (by rw[HL.o];exact⟨eD (Y.fs.eM c f' (ql++t)),by simp⟩),KD.o⟩⟩
  ·rcases hc with⟨h,-⟩|⟨-,hL⟩
   ·exact absurd h he
   have HL:=Ux hL;have Qn:=Ux C8;have hv:(e==0)=false:=by simpa using he
   have rL:(e != 0)=true:=by simpa using he
   obtain⟨xc,xf,xz⟩:=hX.facts;obtain⟨fn,tmps,assign,body,hy,hR⟩:=HY.o pre (x0,e) wr Qn.o (by rw[HL.o];exact List.prefix_refl _);have HR:=Ux hR;dsimp only[Sp.v] at hy;clear he hL C8 hkt hsz hO hX hR;gi_wp2;refine HR.o.mono ?_;rintro e W3 (⟨rfl,AP,im,p7⟩|⟨rfl,mr⟩)
   ·have ND:=Ux AP;clear AP im p7 hy;gi_wp2
    go_end0
    exact⟨⟨_,rfl⟩,.inl ⟨_,HL.o.symm,ND.o⟩⟩
   ·have KD:=Ux mr;clear mr hy;gi_wp2
    go_end0
    exact⟨⟨_,rfl⟩,.inr ⟨_,⟨(eD wk).length,by rw[List.take_length,HL.o]⟩,KD.o⟩⟩
end
section
open Go.RowKit
structure Met(l:List (Int×Value×Nat))(pre:List Int):Prop where
 once:dN l
 jc:∀k,cI l k=if k∈pre then some (UE UL (pre.count k:Nat)) else none
theorem Met.nil:Met [] []:=⟨List.Pairwise.nil,fun k=>by simp[cI]⟩
theorem IQ{l:List (Int×Value×Nat)}(h:dN l)(k:Int)(v:Value):dN (gr l k v):=by
 unfold dN gr at *;rw[List.map_map];have:((fun x:Int×Value×Nat=>x.1) ∘ fun x:Int×Value×Nat=>if x.1==k then(k,v,x.2.2) else x)=fun x=>x.1:=by
  funext x;show(if x.1==k then(k,v,x.2.2) else x).1=x.1
  split
  ·rename_i h;exact(by simpa using h:x.1=k).symm
  ·rfl
 rw[this];exact h
theorem IS(l:List (Int×Value×Nat))(k:Int)(v:Value)(x:Int):cI (gr l k v) x=if x=k then(cI l k).map (fun _=>v) else cI l x:=by
 unfold cI gr
 induction l with
 |nil=>simp
 |cons y l ih=>
  rw[List.map_cons,List.find?_cons];by_cases hy:y.1=k
  ·rw[if_pos (by simpa using hy)];by_cases hx:x=k
   ·rw[if_pos hx] at ih⊢;rw[List.find?_cons];simp[hx,hy]
   ·rw[if_neg hx] at ih⊢;have h1:(k==x)=false:=by simpa using fun e=>hx e.symm
    have h2:(y.1==x)=false:=by rw[hy];exact h1
    rw[List.find?_cons];simp only[h1,h2];exact ih
  ·rw[if_neg (by simpa using hy)];by_cases hyx:y.1=x
   ·have h1:(y.1==x)=true:=by simpa using hyx
    have hx:¬x=k:=fun e=>hy (hyx.trans e);rw[if_neg hx];rw[List.find?_cons];simp only[h1]
   ·have h1:(y.1==x)=false:=by simpa using hyx
    simp only[h1];rw[ih];by_cases hx:x=k
    ·rw[if_pos hx,if_pos hx,List.find?_cons];have h2:(y.1==k)=false:=by simpa using hy
     simp only[h2]
    ·rw[if_neg hx,if_neg hx,List.find?_cons];simp only[h1]
theorem Met.yes{l:List (Int×Value×Nat)}{pre:List Int}(h:Met l pre){k:Int}(hk:k∈pre):cI l k=some (UE UL (pre.count k:Nat)):=by rw[h.jc,if_pos hk]
theorem Met.no{l:List (Int×Value×Nat)}{pre:List Int}(h:Met l pre){k:Int}(hk:k∉pre):cI l k=none:=by rw[h.jc,if_neg hk]
theorem Met.more{l:List (Int×Value×Nat)}{pre:List Int}(h:Met l pre){k:Int}(hk:k∈pre):Met (gr l k (UE UL ((pre.count k:Nat)+1))) (pre++[k]):=by
 refine⟨IQ h.once _ _,fun x=>?_⟩;rw[IS];by_cases hx:x=k
 ·subst hx;rw[if_pos rfl,h.yes hk,if_pos (List.mem_append_left _ hk),List.count_append];simp
 ·rw[if_neg hx,h.jc,List.count_append];have:List.count x [k]=0:=by
   rw[List.count_eq_zero];simpa using hx
  rw[this,Nat.add_zero];by_cases hm:x∈pre
  ·rw[if_pos hm,if_pos (List.mem_append_left _ hm)]
  ·rw[if_neg hm,if_neg];intro h2;rcases List.mem_append.1 h2 with h2|h2
   ·exact hm h2
   ·exact hx (List.mem_singleton.1 h2)
theorem Met.new{l:List (Int×Value×Nat)}{pre:List Int}(h:Met l pre){k:Int}(hk:k∉pre)(eo:Nat):Met (l++[(k,UE UL 1,eo)]) (pre++[k]):=by
 have hnone:=h.no hk;have hkey:∀y∈l,y.1≠k:=fun y hy he=>by
  unfold cI at hnone;rw[Option.map_eq_none_iff,List.find?_eq_none] at hnone;exact hnone y hy (by simpa using he)
 refine⟨?_,fun x=>?_⟩
 ·unfold dN;rw[List.map_append,List.nodup_append];refine⟨h.once,by simp,fun a ha b hb=>?_⟩;simp at hb;subst hb;obtain⟨y,hy,rfl⟩:=List.mem_map.1 ha;exact hkey y hy
 ·have h1:=h.jc x;unfold cI at h1⊢;rw[List.find?_append,List.count_append];by_cases hx:x=k
  ·subst hx;rw[if_neg hk] at h1;rw[Option.map_eq_none_iff.1 h1,Option.none_or,if_pos (List.mem_append_right _ (List.mem_singleton.2 rfl)),List.count_eq_zero_of_not_mem hk];simp
  ·have h2:List.find? (fun y:Int×Value×Nat=>y.1==x) [(k,Value.int .i64 1,eo)]=none:=by
    rw[List.find?_eq_none];intro y hy;rw[List.mem_singleton] at hy;subst hy;simpa using fun e=>hx e.symm
   rw[h2,Option.or_none,h1];have:List.count x [k]=0:=by
    rw[List.count_eq_zero];simpa using hx
   rw[this,Nat.add_zero];by_cases hm:x∈pre
   ·rw[if_pos hm,if_pos (List.mem_append_left _ hm)]
   ·rw[if_neg hm,if_neg];intro h2;rcases List.mem_append.1 h2 with h2|h2
    ·exact hm h2
    ·exact hx (List.mem_singleton.1 h2)
end
section
open Go.RowKit
theorem zr{F:Fence}{n:Nat}{P:Program}{w:World}{α:Type}{M T:Nat→Prop}{g:Operand}{ps:Array Tmp}{assign body:Code}{Q:Exit→Act→World→Prop}{a:Act}
  (hro:F.round=none) (h1:1≤n) {gf:Nat} {lb:Array Value} (hg:a.eval g=.func (.func gf) #[] lb) (Tl:F.fn gf) (eg:∀args w,(callFunc gf args).run P w=.ok (.enter gf args) w)
  {encs:α→Array Value} {S Sp:List α→Prop} {V:List α→α→Prop} {w0:World} (hseq:TD M T F (n-1) P gf lb encs S Sp V w0)
  (hM:∀k,M k→k<w.heap.size) (hT:∀k,T k→k<w.heap.size) (hTM:∀k,T k→¬M k) (de:KT T w0 w) (hps:∀x,(encs x).size=ps.size)
  (I:List α→World→Prop) (Ix:Code→List α→World→Prop) (hI:BK qB w.heap.size py I) (JQ:∀c,BK qB w.heap.size py (Ix c)) (h0:I [] w) (a₁:α→Nat→Act) (o₁:α→Obj)
  (hassign:∀(l:Nat) (x:α) (b:Nat) (W:World) (K:Act→World→Prop),W.heap.size=b→K (a₁ x b) (W.alloc (o₁ x))→
   assign.wpIn (F.inRound l) (n-1-1) P (Exit.then K (fun _ _ _=>False)) {tmps:=(ps.zip (encs x)).foldl (fun t (p,v)=>t.setIfInBounds p v) a.tmps,defers:=[]} W)
  (hbody:∀(l:Nat) (pre:List α) (x:α) (b:Nat) (W:World),w.heap.size≤l→l<b→b<W.heap.size→W.heap[b]?=some (o₁ x)→I pre W→V pre x→body.wpIn (F.inRound l) (n-1-1) P (ownPostG w.heap.size (Mod M) I Ix (pre++[x]) W) (a₁ x b) W)
  (hdone:∀(D:Nat) (xs:List α) (W:World),w.heap.size≤D→S xs→I xs W→W.heap[D]?=some (.deferred (some []))→Q .normal {a with defers:={target:=.collected D,args:=#[]}::a.defers} W)
  (hstop:∀(D:Nat) (c:Code) (pre:List α) (W:World),w.heap.size≤D→Sp pre→Ix c pre W→W.heap[D]?=some (.deferred (some []))→c.wpIn F n P Q {a with defers:={target:=.collected D,args:=#[]}::a.defers} W) :
  (Code.rangeFunc g ps assign body).wpIn F n P Q a w:=by
 refine wpIn_rangeFunc fun fn hfn=>?_;rw[hro];obtain⟨rc,hrc⟩:∃rc:LoopState→Option Code→Loop,rc=fun st pe=>{state:=st,pending:=pe,fn,tmps:=a.tmps,params:=ps,assign,body,defers:=w.heap.size}:=⟨_,rfl⟩;have yW:¬T (w.heap.size+1):=fun h=>by have:=hT _ h;omega
 have QO:¬T w.heap.size:=fun h=>by have:=hT _ h;omega
 generalize rO:(w.alloc (.deferred (some []))).alloc (.loop (rc .ready none))=W1;have ij:W1.heap.size=w.heap.size+2:=by rw[←rO];simp
 have MD:W1.heap[w.heap.size+1]?=some (.loop (rc .ready none)):=by
  have:=World.alloc_heap_new (w.alloc (.deferred (some []))) (.loop (rc .ready none));rw[World.size_alloc] at this;rw[←rO];exact this
 have QX:W1.heap[w.heap.size]?=some (.deferred (some [])):=by
  rw[←rO];exact(Below.heap_alloc _ _ _ (by simp)).trans (World.alloc_heap_new w _)
 have JR:I [] W1:=by rw[←rO];exact hI _ _ _ (hI _ _ _ h0 (eL.alloc _ _)) (eL.alloc _ _)
 have BO:KT T w W1:=by rw[←rO];exact KT.aq ((((Below.refl _ w).alloc (aa _) _).alloc (by simp) _)) hT
 refine⟨w.heap.size+1,[{target:=.collected w.heap.size,args:=#[]}],W1,{target:=.fn (.func gf) lb,args:=#[.func (.yield (w.heap.size+1)) #[] #[]]},W1,gf,
  #[.func (.yield (w.heap.size+1)) #[] #[]]++lb,W1,?_,?_,?_,?_,fun _=>h1,?_⟩
 ·rw[←rO,hrc];exact run_enterLoop_outer _ _ _ _ _
 ·simp only[resolve,hg];simp[go_sem]
 ·intro f' hf';simp[Target.leads] at hf';subst hf';exact Tl
 ·simp[invoke,go_sem,eg]
 have turnW:∀{A B:World},eL qB W1.heap.size py A B→eL qB w.heap.size py A B:=fun h=>
  ⟨h.os,h.tape,h.output,h.size,fun k o hk ht hp=>h.block k o hk ht (fun hB=>(by have:=hp (by omega);cases this))⟩
 have keepL:∀{A B:World} {k:Nat} {o:Obj},eL qB W1.heap.size py A B→A.heap[k]?=some o→k<W1.heap.size→B.heap[k]?=some o:=fun h hk hlt=>h.block _ _ hk (fun h=>h) (fun hB=>by omega);have hML:∀k,M k→k<W1.heap.size:=fun k hk=>by have:=hM k hk;omega
 refine(hseq (w.heap.size+1)
  (fun pre W=>I pre W∧W.heap[w.heap.size+1]?=some (.loop (rc .ready none))∧W.heap[w.heap.size]?=some (.deferred (some [])))
  (fun pre W=>∃c,Ix c pre W∧W.heap[w.heap.size+1]?=some (.loop (rc .done (some c)))∧W.heap[w.heap.size]?=some (.deferred (some [])))
  W1 (de.trans BO) (ae de.1 BO.1) hML (by omega)
  (fun s A B hs ht=>⟨hI s A B hs.1 (turnW ht),keepL ht hs.2.1 (by omega),keepL ht hs.2.2 (by omega)⟩)
  (fun s A B hs ht=>by
   obtain⟨c,hc,hl,hk⟩:=hs;exact⟨c,JQ c s A B hc (turnW ht),keepL ht hl (by omega),keepL ht hk (by omega)⟩)
  ?_ ⟨JR,MD,QX⟩).mono ?_
 ·rintro pre x W ⟨hi,hl,hk⟩ hlen;have hlt:w.heap.size+1<W.heap.size:=(Array.getElem?_eq_some_iff.1 hl).1;have hy:=run_yield (P:=P) (args:=encs x) hl (by rw[hrc];exact hps x);rw[hrc] at hy;refine⟨fn,_,assign,body,hy,roundIn_of_wpIn hfn (hassign _ x _ W _ rfl ?_)⟩;clear hy;have hlA:(W.alloc (o₁ x)).heap[w.heap.size+1]?=some (.loop (rc .ready none)):=(Below.heap_alloc _ _ _ hlt).trans hl;have hkA:(W.alloc (o₁ x)).heap[w.heap.size]?=some (.deferred (some [])):=(Below.heap_alloc _ _ _ (by omega)).trans hk;refine⟨_,run_beginRound hlA (by rw[hrc]),?_⟩;generalize AN:(W.alloc (o₁ x)).putObj (w.heap.size+1) (.loop {rc .ready none with state:=.busy})=Wb;have yU:Wb.heap[w.heap.size+1]?=some (.loop {rc .ready none with state:=.busy}):=by rw[←AN];exact World.putObj_heap_same (by simp;omega)
  have gM:Wb.heap[w.heap.size]?=some (.deferred (some [])):=by rw[←AN];exact(World.putObj_heap_other (by omega)).trans hkA
  have CN:Wb.heap[W.heap.size]?=some (o₁ x):=by rw[←AN];exact(World.putObj_heap_other (by omega)).trans (World.alloc_heap_new W _)
  have ib:Wb.heap.size=W.heap.size+1:=by rw[←AN];simp
  have hwA:KT T W (W.alloc (o₁ x)):=⟨by simp,fun k hk=>Below.heap_alloc _ _ _ (by have:=hT k hk;omega)⟩;have xQ:KT T W Wb:=by rw[←AN];exact hwA.trans (KT.put _ _ _ yW)
  have oy:Mod (fun k=>M k∨k=w.heap.size+1) W Wb:=by rw[←AN];exact⟨rfl,rfl,rfl,by simp,fun k hk hn=>(World.putObj_heap_other (fun e=>hn (.inr e))).trans (Below.heap_alloc _ _ _ hk)⟩
  have hib:I pre Wb:=by rw[←AN];exact hI _ _ _ (hI _ _ _ hi (eL.alloc _ _)) (eL.put (by omega) hlA rfl)
  refine wpIn_mono (hbody _ pre x W.heap.size Wb (by omega) hlt (by omega) CN hib hlen) ?_;have fin:∀(jump:Option Code) (W3:World),KeepsFrom w.heap.size Wb W3→
    (Instr.endRound (w.heap.size+1) jump).run P W3=.ok (.bool jump.isNone) (W3.putObj (w.heap.size+1) (.loop (rc (if jump.isNone then .ready else .done) jump)))∧
    W3.heap[w.heap.size+1]?=some (.loop {rc .ready none with state:=.busy})∧
    (W3.putObj (w.heap.size+1) (.loop (rc (if jump.isNone then .ready else .done) jump))).heap[w.heap.size+1]?=some (.loop (rc (if jump.isNone then .ready else .done) jump))∧
    (W3.putObj (w.heap.size+1) (.loop (rc (if jump.isNone then .ready else .done) jump))).heap[w.heap.size]?=some (.deferred (some [])):=fun jump W3 im=>by
   have p8:=im.same _ _ (by omega) yU rfl;have:=run_endRound (P:=P) jump p8;rw[hrc] at this⊢;exact⟨this,by rw[hrc] at p8;exact p8,World.putObj_heap_same (Array.getElem?_eq_some_iff.1 p8).1,(World.putObj_heap_other (by omega)).trans (im.same _ _ (aa _) gM rfl)⟩
  have leave:∀(c:Code) (W3:World),KeepsFrom w.heap.size Wb W3→Ix c (pre++[x]) W3→∃v W4,(Instr.endRound (w.heap.size+1) (some c)).run P W3=.ok (.bool v) W4∧v=false∧∃c',Ix c' (pre++[x]) W4∧W4.heap[w.heap.size+1]?=some (.loop (rc .done (some c')))∧W4.heap[w.heap.size]?=some (.deferred (some [])):=fun c W3 im rj=>by
   obtain⟨hr,p8,Jt,Ju⟩:=fin (some c) W3 im;exact⟨_,_,hr,rfl,c,JQ _ _ _ _ rj (eL.put (by omega) p8 rfl),Jt,Ju⟩
  rintro e a3 W3 hp
  cases e with
  |normal=>
   obtain⟨im,F3,rj⟩:=hp;obtain⟨hr,p8,Jt,Ju⟩:=fin none W3 im;exact⟨_,_,hr,.inl ⟨rfl,⟨hI _ _ _ rj (eL.put (by omega) p8 rfl),Jt,Ju⟩,xQ.trans ((KT.dH F3 (fun k hk=>by have:=hT k hk;have:=xQ.1;omega) hTM).trans (KT.put _ _ _ yW)),(oy.trans (F3.mono (fun k hk=>.inl hk))).trans ⟨rfl,rfl,rfl,by simp,fun k hk hn=>World.putObj_heap_other (fun e=>hn (.inr e))⟩⟩⟩
  |ret=>obtain⟨v,W4,hr,rfl,h⟩:=leave .ret W3 hp.1 hp.2;exact⟨_,_,hr,.inr ⟨rfl,h⟩⟩
  |exit id=>obtain⟨v,W4,hr,rfl,h⟩:=leave (.exit id) W3 hp.1 hp.2;exact⟨_,_,hr,.inr ⟨rfl,h⟩⟩
  |goto t=>obtain⟨v,W4,hr,rfl,h⟩:=leave (.goto t) W3 hp.1 hp.2;exact⟨_,_,hr,.inr ⟨rfl,h⟩⟩
  |panic ch=>exact hp.elim
  |outgrown=>exact hp.elim
 ·rintro e W2 ⟨⟨v,rfl⟩,(⟨xs,hS,hi,hl,hk⟩|⟨pre,S6,c,hi,hl,hk⟩)⟩
  ·exact⟨none,_,by have:=run_endLoop (P:=P) hl (by rw[hrc];simp);rw[hrc] at this;exact this,hdone _ xs _ (aa _) hS (hI _ _ _ hi (eL.put (by omega) hl rfl)) ((World.putObj_heap_other (by omega)).trans hk)⟩
  ·exact⟨some c,_,by have:=run_endLoop (P:=P) hl (by rw[hrc];simp);rw[hrc] at this;exact this,hstop _ c pre _ (aa _) S6 (JQ c _ _ _ hi (eL.put (by omega) hl rfl)) ((World.putObj_heap_other (by omega)).trans hk)⟩
end
section
open Go.RowKit
attribute [local go_sem] Oper.semAt_some
theorem nN{P:Program}{w:World}{m:Nat}{l:List (Int×Value×Nat)}{eo:Nat}{T K E:TypeId}(ht:P.underlying T=some (.map K E))(hk:P.underlying K=some (.int .i64))(h:dW w m l eo){k:Int}{v:Value}(hf:cI l k=some v) :
  (Instr.lookup T (.map (some m)) (UE UL k) false).run P w=.ok v w:=by
 rw[j4] at hf;unfold dW at h;simp only[Option.bind_eq_some_iff,Option.map_eq_some_iff] at hf;obtain⟨j,hj,x,hx,rfl⟩:=hf;unfold Instr.lookup;simp[run_underlying ht,getObj,Sem.run,h,eP _ hk,run_findKey hk,hj,hx]
theorem E8{P:Program}{w:World}{m:Nat}{l:List (Int×Value×Nat)}{eo:Nat}{T K E:TypeId}(ht:P.underlying T=some (.map K E))(hk:P.underlying K=some (.int .i64))(h:dW w m l eo){k:Int}(hf:cI l k=none){z:Value}(hz:(zeroValue E).run P w=.ok z w) :
  (Instr.lookup T (.map (some m)) (UE UL k) false).run P w=.ok z w:=by
 rw[gi] at hf;unfold dW at h;unfold Instr.lookup;simp[run_underlying ht,getObj,Sem.run,h,eP _ hk,run_findKey hk,hf,hz]
theorem Im{r:List Sp×Option (Sp×Int)}{p:Sp×Int}(h:r.2=some p):p∈eD r:=by
 unfold eD;rw[h];exact List.mem_append_right _ (List.mem_singleton.2 rfl)
theorem ES{r:List Sp×Option (Sp×Int)}{p:Sp×Int}(h:p∈eD r)(hp:p.2≠0):r.2=some p:=by
 unfold eD at h;rcases List.mem_append.1 h with h|h
 ·obtain⟨x,-,rfl⟩:=List.mem_map.1 h;exact absurd rfl hp
 ·cases hr:r.2 with
  |none=>rw[hr] at h;cases h
  |some q=>rw[hr] at h;rw[List.mem_singleton.1 h]
theorem Iq{r:List Sp×Option (Sp×Int)}(h:r.2=none):(eD r).map (·.1)=r.1:=by
 unfold eD;rw[h,List.append_nil,List.map_map]
 conv=>rhs;rw[←List.map_id r.1]
 rfl
theorem A6{S:Fs}{c:Cr}:∀(f:Nat) (l:List Sp) (p:Sp×Int),(S.eM c f l).2=some p→p.2≠0
 |0,_,_,h=>by cases h
 |_+1,[],_,h=>by cases h
 |f+1,x::t,p,h=>by
  unfold Fs.eM at h;by_cases he:(S.dh c x).2≠0
  ·rw[if_pos he] at h;injection h with h;subst h;exact he
  ·rw[if_neg he] at h;exact A6 f _ p h
theorem If{S:Fs}{N:Nat}{d:Bool}{c:Cr}{dir:Int}{n:ByteArray}{p:Sp×Int}(h:(S.iv N d c dir n).2=some p):p.2≠0:=by
 unfold Fs.iv at h
 split at h
 ·rename_i he;injection h with h;subst h;exact he
 ·exact A6 _ _ p h
theorem Ja{S:Fs}{N:Nat}(h:ay S N):S.ns.length≤N:=by
 have h1:(S.ns.map (·.no)).Nodup:=h.nums.dB.imp (fun h=>by omega);have h2:=vY (S.ns.map (·.no)) ((List.range N).map (fun k:Nat=>(k:Int)+1)) h1 (fun c hc=>by
  obtain⟨a,ha,rfl⟩:=List.mem_map.1 hc;obtain⟨h3,h4⟩:=h.nums.low a ha;have h5:=h.lN;exact List.mem_map.2 ⟨(a.no-1).toNat,List.mem_range.2 (by omega),by omega⟩)
 simpa using h2
theorem wR(w:World)(o:Obj)(k:Nat):(w.alloc o).heap[k]?=if k=w.heap.size then some o else w.heap[k]?:=by
 by_cases h:k=w.heap.size
 ·subst h;rw[if_pos rfl];exact World.alloc_heap_new w o
 ·rw[if_neg h];by_cases hlt:k<w.heap.size
  ·exact Below.heap_alloc w o k hlt
  ·rw[Array.getElem?_eq_none (by simp<;>omega),Array.getElem?_eq_none (by omega)]
theorem pZ{S:Nat→Prop}{B:Nat}{w W:World}(h:Mod S w W)(hS:∀k,S k→k<B):KeepsFrom B w W:=
 ⟨h.size,fun k o hB hk _=>(h.block k (Array.getElem?_eq_some_iff.1 hk).1 (fun hs=>by have:=hS k hs;omega)).trans hk⟩
theorem bm.RD{w w':World}{pf pw:Nat}{R:Rp}{pv:Value}{Y:Sy}(h:bm w pf pw R pv Y)(ht:∀k,k<w.heap.size→w'.heap[k]?=w.heap[k]?)(hs:w.heap.size≤w'.heap.size):bm w' pf pw R pv Y:=
 have ht':∀(k:Nat) (o:Obj),w.heap[k]?=some o→w'.heap[k]?=w.heap[k]?:=fun k o ho=>ht k (Array.getElem?_eq_some_iff.1 ho).1
 ⟨(ht' _ _ h.bD).trans h.bD,h.wd.gw (fun k o ho _=>ht' k o ho) hs,h.cC.1,h.cC.2.imp id fun⟨g,cap,cur,h1,h2,hg,h3⟩=>⟨g,cap,cur,h1,h2,(ht' _ _ hg).trans hg,h3⟩⟩
structure Bw(w:World)(pf:Nat)(S:Fs)(pre:List (Sp×Int))(W:World):Prop where
 bf:ax W w.heap.size #[UH (some ⟨pf,0,none⟩)] 35
 r8:ax W (w.heap.size+1+1) #[UE UL 0] 3
 r9:ax W (w.heap.size+1+1+1) #[UE UL 0] 3
 LN:ax W (w.heap.size+1+1+1+1) #[UE UL 0] 56
 sz:ax W (w.heap.size+1+1+1+1+1) #[UE UL (S.fX [] (pre.map (·.1)))] 3
 mp:∃l eo,dW W (w.heap.size+1+1+1+1+1+1) l eo∧Met l (pre.map (·.1.no))
 mb:ax W (w.heap.size+1+1+1+1+1+1+1) #[.map (some (w.heap.size+1+1+1+1+1+1))] 103
 z:∀p∈pre,p.2=0
 below:UA w W
structure Q3(w:World)(pre:List (Sp×Int))(W:World):Prop where
 ex:∃p∈pre,p.2≠0∧ax W (w.heap.size+1+1+1+1) #[UE UL p.2] 56
 r8:ax W (w.heap.size+1+1) #[UE UL 0] 3
 r9:ax W (w.heap.size+1+1+1) #[UE UL 0] 3
 below:UA w W
section
variable{w:World}{pf:Nat}{S:Fs}{pre:List (Sp×Int)}{N:Nat}{A C:World}
theorem jz{B:Nat}{vs:Array Value}{T:TypeId}(h:ax A B vs T)(ht:eL qB N py A C)(hB:B<N):ax C B vs T:=ht.block B _ h (fun h=>h) (fun hle=>by omega)
theorem wN{M:Nat}{w0:World}(h:Below M w0 A)(ht:eL qB N py A C)(hN:M≤N)(hM:M≤w0.heap.size):Below M w0 C:=by
 refine⟨ht.os.trans h.os,ht.tape.trans h.tape,ht.output.trans h.output,ae h.size ht.size,fun k hk=>?_⟩;obtain⟨o,ho⟩:∃o,w0.heap[k]?=some o:=⟨w0.heap[k]'(by omega),Array.getElem?_eq_getElem _⟩;have h1:=(h.block k hk).trans ho;rw[ht.block k o h1 (fun h=>h) (fun h=>by omega),ho]
theorem Bw.gw(h:Bw w pf S pre A)(ht:eL qB N py A C)(hN:w.heap.size+8≤N):Bw w pf S pre C:=by
 obtain⟨l,eo,h1,h2⟩:=h.mp;exact⟨jz h.bf ht (by omega),jz h.r8 ht (by omega),jz h.r9 ht (by omega),jz h.LN ht (by omega),jz h.sz ht (by omega),⟨l,eo,ht.block _ _ h1 (fun h=>h) (fun hle=>by omega),h2⟩,jz h.mb ht (by omega),h.z,wN h.below ht (by omega) (aa _)⟩
theorem Q3.gw(h:Q3 w pre A)(ht:eL qB N py A C)(hN:w.heap.size+8≤N):Q3 w pre C:=by
 obtain⟨p,h0,h1,h2⟩:=h.ex;exact⟨⟨p,h0,h1,jz h2 ht (by omega)⟩,jz h.r8 ht (by omega),jz h.r9 ht (by omega),wN h.below ht (by omega) (aa _)⟩
end
theorem zA{w W:World}{tmps:Array Value}{D:Nat}{a b e:Int}{B0 B1 B2:Nat}(hK:W.heap[D]?=some (.deferred (some [])))(hD:w.heap.size≤D)(hb:UA w W)
  (h0:ax W B0 #[UE UL a] 3) (h1:ax W B1 #[UE UL b] 3) (h2:ax W B2 #[UE UL e] 56)
  (t8:tmps.getD 8 undef=UH (some ⟨B0,0,none⟩)) (t9:tmps.getD 9 undef=UH (some ⟨B1,0,none⟩)) (t10:tmps.getD 10 undef=UH (some ⟨B2,0,none⟩)) {X E:Int} (hX:a=X) (hE:e=E) :
  bodyPostM Fence.wide 5 Tryz.prog Tryz.f15 (fun z w'=>∃m,z=.returned (UK #[UE UL X,UE UL m,UE UL E])∧UA w w') .ret {tmps,defers:=[{target:=.collected D,args:=#[]}]} W:=by
 subst hX hE;rw[Array.getD_eq_getD_getElem?] at t8 t9 t10;have hne:∀{B:Nat} {vs:Array Value} {T:TypeId},ax W B vs T→B≠D:=fun h he=>by
  subst he;unfold ax at h;rw[hK] at h
  cases h
 show LeavesInM Fence.wide 5 Tryz.prog Tryz.f15 _ _ _ _ W;refine⟨by simp,.inl ⟨_,_,rfl,run_takeDeferred hK,?_⟩⟩;have q0:=(h0.mod (S:=fun k=>k=D) (w':=W.putObj D (.deferred none)) ⟨rfl,rfl,rfl,by simp,fun k hk hn=>World.putObj_heap_other hn⟩ (hne h0)).cell 0;have q1:=(h1.mod (S:=fun k=>k=D) (w':=W.putObj D (.deferred none)) ⟨rfl,rfl,rfl,by simp,fun k hk hn=>World.putObj_heap_other hn⟩ (hne h1)).cell 0;have q2:=(h2.mod (S:=fun k=>k=D) (w':=W.putObj D (.deferred none)) ⟨rfl,rfl,rfl,by simp,fun k hk hn=>World.putObj_heap_other hn⟩ (hne h2)).cell 0;refine⟨UK #[UE UL a,UE UL b,UE UL e],?_,b,rfl,⟨hb.os,hb.tape,hb.output,ae hb.size (by simp),fun k hk=>(World.putObj_heap_other (fun e=>by omega)).trans (hb.block k hk)⟩⟩;simp[results,Tryz.results15,go_sem,t8,t9,t10,q0,q1,q2]
theorem Ey(w:World):(zeroValue 3).run Tryz.prog w=.ok (UE UL 0) w:=by kernel_rfl
section
variable{w:World}{pf:Nat}{S:Fs}{pre:List (Sp×Int)}{W:World}
theorem Bw.bad(h:Bw w pf S pre W)(x:Sp){xe:Int}(he:xe≠0){N:Nat}(hN:w.heap.size+8≤N) :
  KeepsFrom N W (((W.setCell ⟨w.heap.size+1+1,0,none⟩ (UE UL 0)).setCell ⟨w.heap.size+1+1+1,0,none⟩ (UE UL 0)).setCell ⟨w.heap.size+1+1+1+1,0,none⟩ (UE UL xe))∧
  Q3 w (pre++[(x,xe)]) (((W.setCell ⟨w.heap.size+1+1,0,none⟩ (UE UL 0)).setCell ⟨w.heap.size+1+1+1,0,none⟩ (UE UL 0)).setCell ⟨w.heap.size+1+1+1+1,0,none⟩ (UE UL xe)):=by
 have hm:=(((Mod.refl (fun k=>k<N) W).setCell (a:=⟨w.heap.size+1+1,0,none⟩) (.inl (show w.heap.size+1+1<N by omega)) (UE UL 0)).setCell (a:=⟨w.heap.size+1+1+1,0,none⟩) (.inl (show w.heap.size+1+1+1<N by omega)) (UE UL 0)).setCell (a:=⟨w.heap.size+1+1+1+1,0,none⟩) (.inl (show w.heap.size+1+1+1+1<N by omega)) (UE UL xe);refine⟨pZ hm (fun k hk=>hk),⟨_,List.mem_append_right _ (List.mem_singleton.2 rfl),he,?_⟩,?_,?_,((h.below.setCell (p:=⟨w.heap.size+1+1,0,none⟩) (show w.heap.size≤w.heap.size+1+1 by omega) _).setCell (p:=⟨w.heap.size+1+1+1,0,none⟩) (show w.heap.size≤w.heap.size+1+1+1 by omega) _).setCell (p:=⟨w.heap.size+1+1+1+1,0,none⟩) (show w.heap.size≤w.heap.size+1+1+1+1 by omega) _⟩
 ·exact((h.LN.setOther _ _ (by simp<;>omega)).setOther _ _ (by simp<;>omega)).set 0 _
 ·exact((h.r8.set 0 _).setOther _ _ (by simp<;>omega)).setOther _ _ (by simp<;>omega)
 ·exact((h.r9.setOther _ _ (by simp<;>omega)).set 0 _).setOther _ _ (by simp<;>omega)
theorem Bw.fin(h:Bw w pf S pre W)(s m:Int){N:Nat}(hN:w.heap.size+8≤N) :
  Mod (fun k=>k<N) W (((W.setCell ⟨w.heap.size+1+1,0,none⟩ (UE UL s)).setCell ⟨w.heap.size+1+1+1,0,none⟩ (UE UL m)).setCell ⟨w.heap.size+1+1+1+1,0,none⟩ (UE UL 0))∧
  ax (((W.setCell ⟨w.heap.size+1+1,0,none⟩ (UE UL s)).setCell ⟨w.heap.size+1+1+1,0,none⟩ (UE UL m)).setCell ⟨w.heap.size+1+1+1+1,0,none⟩ (UE UL 0)) (w.heap.size+1+1) #[UE UL s] 3∧
  ax (((W.setCell ⟨w.heap.size+1+1,0,none⟩ (UE UL s)).setCell ⟨w.heap.size+1+1+1,0,none⟩ (UE UL m)).setCell ⟨w.heap.size+1+1+1+1,0,none⟩ (UE UL 0)) (w.heap.size+1+1+1) #[UE UL m] 3∧
  ax (((W.setCell ⟨w.heap.size+1+1,0,none⟩ (UE UL s)).setCell ⟨w.heap.size+1+1+1,0,none⟩ (UE UL m)).setCell ⟨w.heap.size+1+1+1+1,0,none⟩ (UE UL 0)) (w.heap.size+1+1+1+1) #[UE UL 0] 56∧
  UA w (((W.setCell ⟨w.heap.size+1+1,0,none⟩ (UE UL s)).setCell ⟨w.heap.size+1+1+1,0,none⟩ (UE UL m)).setCell ⟨w.heap.size+1+1+1+1,0,none⟩ (UE UL 0)):=by
 refine⟨(((Mod.refl (fun k=>k<N) W).setCell (a:=⟨w.heap.size+1+1,0,none⟩) (.inl (show w.heap.size+1+1<N by omega)) _).setCell (a:=⟨w.heap.size+1+1+1,0,none⟩) (.inl (show w.heap.size+1+1+1<N by omega)) _).setCell (a:=⟨w.heap.size+1+1+1+1,0,none⟩) (.inl (show w.heap.size+1+1+1+1<N by omega)) _,?_,?_,?_,
  ((h.below.setCell (p:=⟨w.heap.size+1+1,0,none⟩) (show w.heap.size≤w.heap.size+1+1 by omega) _).setCell (p:=⟨w.heap.size+1+1+1,0,none⟩) (show w.heap.size≤w.heap.size+1+1+1 by omega) _).setCell (p:=⟨w.heap.size+1+1+1+1,0,none⟩) (show w.heap.size≤w.heap.size+1+1+1+1 by omega) _⟩
 ·exact((h.r8.set 0 _).setOther _ _ (by simp<;>omega)).setOther _ _ (by simp<;>omega)
 ·exact((h.r9.setOther _ _ (by simp<;>omega)).set 0 _).setOther _ _ (by simp<;>omega)
 ·exact((h.LN.setOther _ _ (by simp<;>omega)).setOther _ _ (by simp<;>omega)).set 0 _
theorem wv{x:Sp}:x.no∈pre.map (·.1.no)↔x.no∈(pre.map (·.1)).map (·.no):=by rw[List.map_map];rfl
theorem Bw.bI(h:Bw w pf S pre W){x:Sp}(hx:x.no∈pre.map (·.1.no)):∃q:Nat,1≤q∧q≤pre.length∧(Instr.lookup 103 (.map (some (w.heap.size+1+1+1+1+1+1))) (UE UL x.no) false).run Tryz.prog W=.ok (UE UL q) W∧
  ∃W1,(Instr.mapUpdate 103 (.map (some (w.heap.size+1+1+1+1+1+1))) (UE UL x.no) (UE UL ((q:Int)+1))).run Tryz.prog W=.ok () W1∧(Instr.lookup 103 (.map (some (w.heap.size+1+1+1+1+1+1))) (UE UL x.no) false).run Tryz.prog W1=.ok (UE UL ((q:Int)+1)) W1∧
   Bw w pf S (pre++[(x,0)]) W1∧(∀B vs T,ax W B vs T→ax W1 B vs T)∧Mod (fun k=>k=w.heap.size+1+1+1+1+1+1) W W1:=by
 obtain⟨l,eo,hM,hF⟩:=h.mp;have hy:=hF.yes hx;have hc:=hF.more hx;have hp:0<(pre.map (·.1.no)).count x.no:=List.count_pos_iff.2 hx;have hle:(pre.map (·.1.no)).count x.no≤pre.length:=by have:=List.count_le_length (a:=x.no) (l:=pre.map (·.1.no));rwa [List.length_map] at this
 have hcnt:((pre.map (·.1.no))++[x.no]).count x.no=(pre.map (·.1.no)).count x.no+1:=by rw[List.count_append];simp
 have hz:=hc.yes (List.mem_append_right _ (List.mem_singleton.2 rfl));rw[hcnt] at hz;generalize (pre.map (·.1.no)).count x.no=q at hy hc hp hle hz;obtain⟨W1,h1,h2,h3,h4⟩:=zE (w:=W) Tryz.underlying103 Tryz.underlying3 hM hF.once (k:=x.no) (UE UL ((q:Int)+1)) hy;have hb:UA w W1:=h.below.trans (h4.below (fun k hk=>by omega) h.below.size);have hsz:=h3 _ _ _ h.sz;have yU:=nN Tryz.underlying103 Tryz.underlying3 h2 hz;rw[show((q+1:Nat):Int)=(q:Int)+1 from by omega] at yU;refine⟨q,hp,hle,nN Tryz.underlying103 Tryz.underlying3 hM hy,W1,h1,yU,?_,h3,h4⟩;refine⟨h3 _ _ _ h.bf,h3 _ _ _ h.r8,h3 _ _ _ h.r9,h3 _ _ _ h.LN,?_,⟨_,_,h2,?_⟩,h3 _ _ _ h.mb,fun p hp=>?_,hb⟩
 ·rw[List.map_append,List.map_singleton,lu,if_pos (.inr (wv.1 hx)),show((0:Nat):Int)=0 from rfl,Int.add_zero];exact hsz
 ·rw[List.map_append,List.map_singleton];exact hc
 ·rcases List.mem_append.1 hp with hp|hp
  ·exact h.z p hp
  ·rw[List.mem_singleton.1 hp]
theorem Bw.new(h:Bw w pf S pre W){x:Sp}(hx:x.no∉pre.map (·.1.no)):(Instr.lookup 103 (.map (some (w.heap.size+1+1+1+1+1+1))) (UE UL x.no) false).run Tryz.prog W=.ok (UE UL 0) W∧
  ∃W1,(Instr.mapUpdate 103 (.map (some (w.heap.size+1+1+1+1+1+1))) (UE UL x.no) (UE UL 1)).run Tryz.prog W=.ok () W1∧(Instr.lookup 103 (.map (some (w.heap.size+1+1+1+1+1+1))) (UE UL x.no) false).run Tryz.prog W1=.ok (UE UL 1) W1∧
   UA w W1∧(∀B vs T,ax W B vs T→ax W1 B vs T)∧Mod (fun k=>k=w.heap.size+1+1+1+1+1+1) W W1∧
   ∀V,UA W1 V→Bw w pf S (pre++[(x,0)]) (V.setCell ⟨w.heap.size+1+1+1+1+1,0,none⟩ (UE UL (S.fX [] (pre.map (·.1))+(S.bG x.no).data.size))):=by
 obtain⟨l,eo,hM,hF⟩:=h.mp;obtain⟨W1,h1,h2,h3,h4⟩:=zF (w:=W) Tryz.underlying103 Tryz.underlying3 hM (UE UL 1) (k:=x.no) (hF.no hx);have hc:=hF.new hx eo;have hcnt:((pre.map (·.1.no))++[x.no]).count x.no=1:=by rw[List.count_append,List.count_eq_zero_of_not_mem hx];simp
 have av:UA w W1:=h.below.trans (h4.below (fun k hk=>by omega) h.below.size);refine⟨E8 Tryz.underlying103 Tryz.underlying3 hM (hF.no hx) (Ey W),W1,h1,?_,av,h3,h4,fun V hV=>?_⟩
 ·refine nN Tryz.underlying103 Tryz.underlying3 h2 ?_;rw[hc.yes (List.mem_append_right _ (List.mem_singleton.2 rfl)),hcnt];exact congrArg (fun z=>some (Value.int .i64 z)) (by omega)
 ·have hk:∀{B:Nat} {vs:Array Value} {T:TypeId},ax W B vs T→B≠w.heap.size+1+1+1+1+1→ax (V.setCell ⟨w.heap.size+1+1+1+1+1,0,none⟩ (UE UL (S.fX [] (pre.map (·.1))+(S.bG x.no).data.size))) B vs T:=fun hB hne=>((h3 _ _ _ hB).an hV).setOther _ _ (by simpa using fun e=>hne e.symm);refine⟨hk h.bf (by omega),hk h.r8 (by omega),hk h.r9 (by omega),hk h.LN (by omega),?_,⟨_,_,(h2.an hV).setOther ⟨w.heap.size+1+1+1+1+1,0,none⟩ _ (by simp),?_⟩,hk h.mb (by omega),fun p hp=>?_,(av.trans (hV.mono av.size)).setCell (p:=⟨w.heap.size+1+1+1+1+1,0,none⟩) (show w.heap.size≤w.heap.size+1+1+1+1+1 by omega) _⟩
  ·rw[List.map_append,List.map_singleton,lu,if_neg (by rintro(h0|h0);exact absurd h0 (by simp);exact hx (wv.2 h0))];exact((h3 _ _ _ h.sz).an hV).set 0 _
  ·rw[List.map_append,List.map_singleton];exact hc
  ·rcases List.mem_append.1 hp with hp|hp
   ·exact h.z p hp
   ·rw[List.mem_singleton.1 hp]
end
theorem P3(w:World)(o0 o1 o2 o3 o4 o5 o6 o7:Obj):((((((((w.alloc o0).alloc o1).alloc o2).alloc o3).alloc o4).alloc o5).alloc o6).alloc o7).heap[w.heap.size]?=some o0∧((((((((w.alloc o0).alloc o1).alloc o2).alloc o3).alloc o4).alloc o5).alloc o6).alloc o7).heap[w.heap.size+1]?=some o1∧((((((((w.alloc o0).alloc o1).alloc o2).alloc o3).alloc o4).alloc o5).alloc o6).alloc o7).heap[w.heap.size+1+1]?=some o2∧((((((((w.alloc o0).alloc o1).alloc o2).alloc o3).alloc o4).alloc o5).alloc o6).alloc o7).heap[w.heap.size+1+1+1]?=some o3∧((((((((w.alloc o0).alloc o1).alloc o2).alloc o3).alloc o4).alloc o5).alloc o6).alloc o7).heap[w.heap.size+1+1+1+1]?=some o4∧((((((((w.alloc o0).alloc o1).alloc o2).alloc o3).alloc o4).alloc o5).alloc o6).alloc o7).heap[w.heap.size+1+1+1+1+1]?=some o5∧((((((((w.alloc o0).alloc o1).alloc o2).alloc o3).alloc o4).alloc o5).alloc o6).alloc o7).heap[w.heap.size+1+1+1+1+1+1]?=some o6∧((((((((w.alloc o0).alloc o1).alloc o2).alloc o3).alloc o4).alloc o5).alloc o6).alloc o7).heap[w.heap.size+1+1+1+1+1+1+1]?=some o7∧UA w ((((((((w.alloc o0).alloc o1).alloc o2).alloc o3).alloc o4).alloc o5).alloc o6).alloc o7)∧((((((((w.alloc o0).alloc o1).alloc o2).alloc o3).alloc o4).alloc o5).alloc o6).alloc o7).heap.size=w.heap.size+8:=by
 refine⟨?_,?_,?_,?_,?_,?_,?_,?_,ao (ao (ao (ao (ao (ao (ao (ao (UB w) _) _) _) _) _) _) _) _,by simp⟩
 all_goals
  simp only[wR,World.size_alloc]
  repeat (first|rw[if_neg (by omega)]|exact if_pos trivial|exact if_pos rfl)
theorem P4(w:World)(o0 o1 o2 o3:Obj):((((w.alloc o0).alloc o1).alloc o2).alloc o3).heap[w.heap.size]?=some o0∧((((w.alloc o0).alloc o1).alloc o2).alloc o3).heap[w.heap.size+1]?=some o1∧((((w.alloc o0).alloc o1).alloc o2).alloc o3).heap[w.heap.size+1+1]?=some o2∧((((w.alloc o0).alloc o1).alloc o2).alloc o3).heap[w.heap.size+1+1+1]?=some o3∧UA w ((((w.alloc o0).alloc o1).alloc o2).alloc o3)∧((((w.alloc o0).alloc o1).alloc o2).alloc o3).heap.size=w.heap.size+4:=by
 refine⟨?_,?_,?_,?_,ao (ao (ao (ao (UB w) _) _) _) _,by simp⟩
 all_goals
  simp only[wR,World.size_alloc]
  repeat (first|rw[if_neg (by omega)]|exact if_pos trivial|exact if_pos rfl)
section
variable{w w':World}{pf pw:Nat}{R:Rp}{pv:Value}{Y:Sy}
theorem Ez(h:bm w pf pw R pv Y){N:Nat}(hF:dE Y.fs N)(hN:N≤900)(hd:Y.dead=false)(c:Cr)(dir:Int)(nm:ByteArray) :
  Calls Tryz.prog 15 #[UH (some ⟨pf,0,none⟩),UJ #[UE UL c.u,UE UL c.g],UE UL dir,UF nm] w fun e w'=>∃m,e=.returned (UK #[UE UL (Y.fs.iP N Y.dead c dir nm).1,UE UL m,UE UL (Y.fs.iP N Y.dead c dir nm).2])∧UA w w':=by
 have HTr:=Ux (show Y.fs.iP N Y.dead c dir nm=match(Y.fs.iv N Y.dead c dir nm).2 with|some (_,e)=>(0,e)|none=>(Y.fs.fX [] (Y.fs.iv N Y.dead c dir nm).1,0) from rfl);generalize Y.fs.iP N Y.dead c dir nm=X at HTr⊢;obtain⟨g0,g1,g2,g3,g4,g5,g6,g7,mZ,Ma⟩:=P3 w (.cells #[UH (some ⟨pf,0,none⟩)] 35) (.cells #[UE UL c.u,UE UL c.g] 64) (.cells #[UE UL 0] 3) (.cells #[UE UL 0] 3) (.cells #[UE UL 0] 56) (.cells #[UE UL 0] 3) (.map #[] 0) (.cells #[.map (some (w.heap.size+1+1+1+1+1+1))] 103);have hmm:=@run_makeMap Tryz.prog;refine(callsIn_wide (n:=5)).1 ?_;refine callsIn_of_wp_marks Tryz.func15 rfl trivial ?_ rfl;simp only[Tryz.ntmps15,List.size_toArray,List.length_cons,List.length_nil,Nat.reduceAdd,Nat.reduceSub,Array.replicate_succ,Array.replicate_zero,List.push_toArray,List.append_toArray,List.nil_append,List.cons_append]
 gi_upto_region 3 with fail
 generalize World.alloc _ _=w1 at g0 g1 g2 g3 g4 g5 g6 g7 mZ Ma⊢;clear hmm;have Dd:ax w1 w.heap.size #[UH (some ⟨pf,0,none⟩)] 35:=g0;have fR:ax w1 (w.heap.size+1) #[UE UL c.u,UE UL c.g] 64:=g1;have JR:Bw w pf Y.fs [] w1:=⟨g0,g2,g3,g4,g5,⟨[],0,g6,Met.nil⟩,g7,(fun p hp=>by cases hp),mZ⟩;have HI1:=Ux (ag JR (ag fR Ma));have HY0:=Ux h;have HK:=Ux (ag hF (ag hN hd));obtain⟨fc,ff,fz⟩:=Dd.facts;obtain⟨cc,cf,cz⟩:=fR.facts;clear g0 g1 g2 g3 g4 g5 g6 g7 mZ Ma JR h hF hN hd Dd fR;gi_wp2;refine⟨trivial,?_⟩;refine(callsIn_wide.2 (EG pf c dir nm w1)).mono ?_;rintro e W0 ⟨rfl,hW0⟩;clear fc ff fz cc cf cz;obtain⟨k0,k1,k2,k3,de,uH⟩:=P4 w1 (.cells #[UH (some ⟨pf,0,none⟩)] 35) (.cells #[UE UL c.u,UE UL c.g] 64) (.cells #[UE UL dir] 3) (.cells #[UF nm] 9);rw[←hW0] at k0 k1 k2 k3 de uH;clear hW0;have ij:=HI1.o.2.2;have Ea:Bw w pf Y.fs [] W0:=HI1.o.1.gw (N:=w1.heap.size) (lY de) (by omega);have hC0:=HI1.o.2.1.an de;have yW:∀k,(k<w.heap.size+2∨(w1.heap.size≤k∧k<w1.heap.size+4))→k<W0.heap.size:=fun k hk=>by omega
 have hDn:∀W,KT (fun k=>k<w.heap.size+2∨(w1.heap.size≤k∧k<w1.heap.size+4)) W0 W→DnW pf pw R pv Y w1.heap.size (w1.heap.size+1) (w1.heap.size+1+1) (w1.heap.size+1+1+1) c dir nm W:=fun W hk=>by
  have hY0:bm W0 pf pw R pv Y:=HY0.o.an Ea.below;refine⟨HY0.o.RD (fun k gM=>(hk.2 k (.inl (by omega))).trans (Ea.below.block k gM)) (ae Ea.below.size hk.1),?_,?_,?_,?_⟩
  ·exact(hk.2 _ (.inr ⟨by omega,by omega⟩)).trans k0
  ·exact(hk.2 _ (.inr ⟨by omega,by omega⟩)).trans k1
  ·exact(hk.2 _ (.inr ⟨by omega,by omega⟩)).trans k2
  ·exact(hk.2 _ (.inr ⟨by omega,by omega⟩)).trans k3
 have hSq:=Dj (M:=fun k=>k=w.heap.size+1+1+1+1+1∨k=w.heap.size+1+1+1+1+1+1) HK.o.1 HK.o.2.1 HK.o.2.2 yW hDn (5-1) (by omega);have HWL:=Ux (Ie HK.o.1 Y.dead c dir nm);have Uj:=Ux (fun p=>If (S:=Y.fs) (N:=N) (d:=Y.dead) (c:=c) (dir:=dir) (n:=nm) (p:=p));generalize Y.fs.iv N Y.dead c dir nm=wk at hSq HWL HTr Uj;have Uh:=Ux Ea;have HC0:=Ux hC0;clear Ea hC0 k0 k1 k2 k3 hDn;have iZ:=Ux (ag ij uH);clear ij uH;gi_wp2;have ij:=iZ.o.1;have uH:=iZ.o.2;refine' zr (M:=fun k=>k=w.heap.size+1+1+1+1+1∨k=w.heap.size+1+1+1+1+1+1) (T:=fun k=>k<w.heap.size+2∨(w1.heap.size≤k∧k<w1.heap.size+4)) rfl (by omega) (gf:=70) (lb:=#[UH (some ⟨w1.heap.size,0,none⟩),UH (some ⟨w1.heap.size+1,0,none⟩),UH (some ⟨w1.heap.size+1+1,0,none⟩),UH (some ⟨w1.heap.size+1+1+1,0,none⟩)]) rfl trivial (enters_of Tryz.func70 (by kernel_rfl) rfl)
  hSq (fun k hk=>by omega) yW (fun k hk hm=>by omega) (KT.refl _ _) (fun _=>rfl)
  (fun pre W=>Bw w pf Y.fs pre W)
  (fun c pre W=>c=.ret∧Q3 w pre W)
  (fun pre A C h ht=>Bw.gw h ht (by omega)) (fun c pre A C h ht=>⟨h.1,Q3.gw h.2 ht (by omega)⟩) Uh.o _ (fun x=>.cells #[UE UL x.1.dir,UF x.1.name,UE UL x.1.no,UE UL x.1.depth] 108) ?assign ?body ?done ?stop
 case assign=>
  intro L x b W K hb hK;have HB:=Ux hb;clear hb;dsimp only[Sp.v];gi_wp2;rw[HB.o];exact hK
 case body=>
  rintro L pre x b W hL hLb mZ ho hI hv;obtain⟨x,xe⟩:=x;have hbx:ax W b #[UE UL x.dir,UF x.name,UE UL x.no,UE UL x.depth] 108:=ho;have hWsz:W0.heap.size≤W.heap.size:=by omega
  have HI:=Ux hI;have HBx:=Ux (ag hbx (ag hL (ag hLb hWsz)));have hlen:pre.length≤1000000:=by
   have h1:=hv.length_le;have h2:(eD wk).length≤wk.1.length+1:=by
    unfold eD;rw[List.length_append,List.length_map]
    cases wk.2 with
    |none=>simp
    |some p=>simp
   have h3:=HWL.o;unfold Fs.zX at h3;have h4:=Ja HK.o.1.ok;have h5:(N+1)*Y.fs.ns.length≤901*900:=Nat.mul_le_mul (by have:=HK.o.2.1;omega) (by have:=HK.o.2.1;omega);rw[List.length_append] at h1;omega
  obtain⟨xc,xf,xz⟩:=hbx.facts;clear hv ho hbx;by_cases he:xe≠0
  ·obtain⟨c8,f8,z8⟩:=hI.r8.facts;obtain⟨c9,f9,z9⟩:=hI.r9.facts;obtain⟨Q2,f10,z10⟩:=hI.LN.facts;have hve:(xe != 0)=true:=by simpa using he
   have HE:=Ux he;clear he hI hlen;gi_wp2;obtain⟨k1,k2⟩:=HI.o.bad x HE.o (N:=W0.heap.size) (by have:=iZ.o;omega);exact⟨k1,rfl,k2⟩
  ·obtain rfl:xe=0:=by simpa using he
   clear he;obtain⟨cf,ff,zf⟩:=hI.bf.facts;obtain⟨cm,fm,zm⟩:=hI.mb.facts;by_cases hx:x.no∈pre.map (·.1.no)
   ·obtain⟨q,CM,uV,mT,W1,hmu,yU,JR,h3,h4⟩:=HI.o.bI hx;have av:=h3 _ _ _ HBx.o.1;obtain⟨xc1,xf1,xz1⟩:=av.facts;obtain⟨cm1,fm1,zm1⟩:=(h3 _ _ _ hI.mb).facts;have HF:=Ux (ag JR h4);have Sj:q≤1000000:=by omega
    clear hx hI JR h3 h4 av hlen uV;gi_wp2;exact⟨pZ HF.o.2 (fun k hk=>by have:=iZ.o;omega),HF.o.2.mono (fun k hk=>.inr hk),HF.o.1⟩
   ·obtain⟨mT,W1,hmu,yU,hbl,h3,h4,hfin⟩:=HI.o.new hx;have av:=h3 _ _ _ HBx.o.1;have iM:=h3 _ _ _ hI.bf;have ij:=h3 _ _ _ hI.sz;obtain⟨xc1,xf1,xz1⟩:=av.facts;obtain⟨cm1,fm1,zm1⟩:=(h3 _ _ _ hI.mb).facts;obtain⟨cf1,ff1,zf1⟩:=iM.facts;have HF:=Ux (ag hfin (ag h4 (ag hbl ij)));have eV:=HY0.o.an hbl;have jY:=Ux (nK eV HK.o.1.ok HK.o.2.2 x.no);obtain⟨uH,hs1'⟩:=AK HK.o.1.ok (by have:=Ja HK.o.1.ok;have:=HK.o.2.1;omega) (pre.map (·.1));have fj:((Y.fs.bG x.no).data.size:Int)≤1048576:=by
     cases hg:Y.fs.get x.no with
     |none=>rw[gl hg];decide
     |some a=>rw[bW hg];have:=(HK.o.1.ok.get hg).1.data;omega
    generalize Y.fs.bG x.no=a at jY fj HF;generalize Y.fs.fX [] (pre.map (·.1))=sv at uH hs1' HF;clear hx hI h3 h4 av iM ij hlen hfin hbl eV;gi_wp2;refine⟨trivial,?_⟩;refine(CallsIn.inRound L (callsIn_wide.2 jY.o)).mono ?_;rintro e V ⟨rfl,hV⟩;have hA:=ax.new V #[UE UL a.no,UE UL a.dev,UE UL a.kind,UE UL a.mode,UE UL a.uid,UE UL a.gid,UE UL a.ak,UE UL a.data.size,UE UL a.mtime,UE UL a.ctime] 67;have jb:=ao hV (.cells #[UE UL a.no,UE UL a.dev,UE UL a.kind,UE UL a.mode,UE UL a.uid,UE UL a.gid,UE UL a.ak,UE UL a.data.size,UE UL a.mtime,UE UL a.ctime] 67)
    gi_upto_region 11 with fail
    generalize V.alloc _=V2 at hA jb⊢;have hsV:=HF.o.2.2.2.an jb;obtain⟨cs,fs,zs⟩:=hsV.facts;obtain⟨ac,af,az⟩:=hA.facts;have HBA:=Ux jb;clear hA jb hV hsV;gi_wp2;have hmf:=(((HF.o.2.1.mono (fun k hk=>.inr hk)).trans (Mod.aq (S:=fun k=>k=w.heap.size+1+1+1+1+1∨k=w.heap.size+1+1+1+1+1+1) HBA.o))).setCell (a:=⟨w.heap.size+1+1+1+1+1,0,none⟩) (.inl (.inl rfl)) (UE UL (sv+a.data.size));exact⟨pZ hmf (fun k hk=>by have:=iZ.o;omega),hmf,HF.o.1 _ HBA.o⟩
 case done=>
  intro D xs W hD hxs hI hK;subst hxs;have hnone:wk.2=none:=by
   cases hw:wk.2 with
   |none=>rfl
   |some p=>exact absurd (hI.z p (Im hw)) (Uj.o p hw)
  have hX:X=(Y.fs.fX [] ((eD wk).map (·.1)),0):=by rw[HTr.o,hnone,Iq hnone]
  obtain⟨l,eo,hM,hF⟩:=hI.mp;have HI:=Ux hI;have HX:=Ux hX;have Rm:=Ux (ag hK (ag hD uH));have hln:=LB Tryz.underlying103 hM 3;obtain⟨c8,f8,z8⟩:=hI.r8.facts;obtain⟨c9,f9,z9⟩:=hI.r9.facts;obtain⟨Q2,f10,z10⟩:=hI.LN.facts;obtain⟨Q1,f11,z11⟩:=hI.sz.facts;obtain⟨c12,f12,z12⟩:=hI.mb.facts;clear hI hX hnone hF hM hK;generalize Y.fs.fX [] ((eD wk).map (·.1))=sv at HX HI Q1;dsimp only;gi_wp2;have QX:=Rm.o.2.1;have MO:=Rm.o.2.2;have QW:=iZ.o.1;obtain⟨k1,k2,k3,k4,k5⟩:=HI.o.fin sv l.length (N:=D) (by omega);exact zA ((k1.block D (Array.getElem?_eq_some_iff.1 Rm.o.1).1 (by omega)).trans Rm.o.1) (by omega) k5 k2 k3 k4 rfl rfl rfl (by rw[HX.o]) (by rw[HX.o])
 case stop=>
  rintro D c pre W hD ⟨m,hm⟩ ⟨rfl,hX⟩ hK;obtain⟨p,h1,h2,h3⟩:=hX.ex;have hw:wk.2=some p:=ES (by rw[hm] at h1;exact List.mem_of_mem_take h1) h2;have hXe:X=(0,p.2):=by rw[HTr.o,hw]
  have HX:=Ux hX;dsimp only;clear hX;gi_wp2;exact zA hK (by omega) HX.o.below HX.o.r8 HX.o.r9 h3 rfl rfl rfl (by rw[hXe]) (by rw[hXe])
end
end
section
open Go.RowKit
def xJ(o:Obj):Bool:=match o with | .cells ..=>false | .map ..=>false|_=>true
def yH(B:Nat)(W W':World):Prop:=∀(k:Nat) (o:Obj),B≤k→W.heap[k]?=some o→xJ o=true→W'.heap[k]?=some o
def RQ{α:Type}(B:Nat)(Kp:World→World→Prop)(I:List α→World→Prop)(Ix:Code→List α→World→Prop)(xs:List α)(W:World):Exit→Act→World→Prop
 | .normal,_,W'=>yH B W W'∧Kp W W'∧I xs W'
 | .ret,_,W'=>yH B W W'∧Ix .ret xs W'
 | .exit id,_,W'=>yH B W W'∧Ix (.exit id) xs W'
 | .goto t,_,W'=>yH B W W'∧Ix (.goto t) xs W'
 | .panic _,_,_=>False
 | .outgrown,_,_=>False
def SeqV{α:Type}(T:Nat→Prop)(F:Fence)(n:Nat)(P:Program)(g:Nat)(lb:Array Value)(encs:α→Array Value)(S Sp:List α→Prop)(V:List α→α→Prop)(w:World):Prop:=
 ∀(l:Nat) (J Jx:List α→World→Prop) (W:World),KT T w W→w.heap.size≤W.heap.size→BK qB W.heap.size xJ J→BK qB W.heap.size xJ Jx→
  (∀pre x W1,J pre W1→V pre x→YieldAt F (n-1) P l (encs x) W1 fun e W'=>
   (e=.returned (.bool true)∧J (pre++[x]) W'∧KT T W1 W')∨(e=.returned (.bool false)∧Jx (pre++[x]) W'))→
  J [] W→
  CallsIn F n P g (#[.func (.yield l) #[] #[]]++lb) W fun e W'=>(∃v,e=.returned v)∧((∃xs,S xs∧J xs W')∨(∃pre,Sp pre∧Jx pre W'))
end
section
open Go.RowKit Go.Shelf
attribute [local go_sem] Oper.semAt_some
end
section
open Go.RowKit Go.Shelf
attribute [local go_sem] Oper.semAt_some
def strR(cs:List Value)(s:ByteArray):Prop:=cs=[UF s]∧s.size≤9223372036854775807
def Uv(base:ByteArray)(xs:List ByteArray)(e:Ending):Prop:=
 (∃m,m<1000∧I9 base ((m:Nat)+1)∉xs∧(∀j<m,I9 base ((j:Nat)+1)∈xs)∧e=.returned (UK #[UF (I9 base (m+1)),.bool true]))∨
 ((∀j<1000,I9 base ((j:Nat)+1)∈xs)∧e=.returned (UK #[UF ByteArray.empty,.bool false]))
end
section
open Go.RowKit
def OQ(o:Obj):Bool:=match o with
 | .cells _ t _=>t==46||t==89||t==194||t==98||t==35||t==42
 | .map _ _=>true
 |_=>false
def TK(w:World)(k:Nat):Prop:=∃o,w.heap[k]?=some o∧OQ o=true
end
section
open Go.RowKit Go.Shelf
attribute [local go_sem] Oper.semAt_some
theorem GD(n:ByteArray)(hn:n.size≤1000)(w:World):Calls Tryz.prog 30 #[UF n] w fun e w'=>e=.returned (UF (n++dQ))∧w=w':=by
 have hz:¬9223372036854775807<n.size+10:=by omega
 unfold dQ;go_enter Tryz.func30,Tryz.ntmps30;go_wp2_with fail;go_ret;exact⟨rfl,rfl⟩
section
variable{w w' A B:World}{pf pw:Nat}{R:Rp}{pv:Value}{Y Z:Sy}{N:Nat}
structure NmI(w:World)(pf pw:Nat)(R:Rp)(pv:Value)(u:Us)(x:Cn)(text:ByteArray)(bc:Nat)(Z:Sy)(W:World):Prop where
 g:iu w W pf pw R pv Z
 f:ax W w.heap.size #[UH (some ⟨pf,0,none⟩)] 35
 x:ax W (w.heap.size+1+1) #[UF x.path,UE UL x.dir,UE UL x.info,UE UL x.files,UE UL x.out,UE UL x.jC,UF x.top] 48
 t:ax W (w.heap.size+1+1+1) #[UF text] 9
 c:ax W bc #[UE UL u.u,UE UL u.g] 64
 o:ax W (w.heap.size+1+1+1+1) #[UF ByteArray.empty] 9
 e:ax W (w.heap.size+1+1+1+1+1) #[UE UL 0] 56
section
variable{u:Us}{x:Cn}{text:ByteArray}{bc:Nat}
end
end
end
end Go.Proofs.YtabbjaomlmnnhaaGreat
