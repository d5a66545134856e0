import Derived.Sort.LoopGhostIn
import Derived.Sort.CutIn
import Derived.RangeFuncNested
import Derived.RangeFuncBound
import Derived.RangeFuncCalls
import Derived.RangeFuncLeaves
import Derived.Shelf.Abstract
import Derived.Shelf.RegionOpen
import Derived.OwnWalkIn
import Derived.TacticsInMore
import Derived.LoopNIn
import Derived.LoopIn
import Derived.WalkMore
import Derived.Test.YtabbjaomlmnnhaaGreatCS19
import Derived.Test.YtabbjaomlmnnhaaGreatCS6
import Derived.Test.YtabbjaomlmnnhaaGreatCS4
import Derived.Test.YtabbjaomlmnnhaaGreatCS17
import Derived.Test.YtabbjaomlmnnhaaGreatCS1
import Derived.Test.YtabbjaomlmnnhaaGreatCS11
import Derived.Test.YtabbjaomlmnnhaaGreatCS2
import Derived.Test.YtabbjaomlmnnhaaGreatCS9
import Derived.Test.YtabbjaomlmnnhaaGreatCS15
import Derived.Test.YtabbjaomlmnnhaaGreatCS5
set_option linter.unusedVariables false
set_option linter.unusedSimpArgs false
set_option maxRecDepth 100000
set_option maxHeartbeats 16000000
namespace Go.Proofs.YtabbjaomlmnnhaaGreat
section
open Go.RowKit
theorem jw.app5{w:World}{base:Nat}{v:Value}{l:List Sp}(h:jw w base v l)(x:Sp)(hn:l.length≤1000000)(hb:base≤w.heap.size) :
  ∃g cap W,(Builtin.append_ #[158,158] 158 #[v,.slice (some ⟨w.heap.size,0,none⟩) 1 1]).run Tryz.prog (w.alloc (.cells #[.int .i64 x.dir,.string x.name,.int .i64 x.no,.int .i64 x.depth] 108))=.ok (.slice (some ⟨g,0,none⟩) (l.length+1) cap) W∧
   jw W base (.slice (some ⟨g,0,none⟩) (l.length+1) cap) (l++[x])∧Mod (fun k=>v.ownBlock=some k) w W∧(v.ownBlock=some g∨w.heap.size<g):=by
 obtain⟨g,cap,W,h1,h2,h3,h4⟩:=kK (SE:=158) Tryz.underlying158 Ba rfl (by decide) h (J3 x) rfl (by intro u hu;simp[J3] at hu;rcases hu with rfl|rfl|rfl|rfl<;>rfl) hn (by decide) hb;refine⟨g,cap,W,h1,?_,h3,h4⟩;unfold jw;rw[List.length_append,List.length_singleton,List.flatMap_append];exact(by simpa using h2)
theorem jw.one{w:World}{base b:Nat}{x:Sp}(hb:base≤b)(h:aw w b #[.int .i64 x.dir,.string x.name,.int .i64 x.no,.int .i64 x.depth] 108):jw w base (.slice (some ⟨b,0,none⟩) 1 1) [x]:=
 ⟨rfl,.inr ⟨b,1,_,rfl,hb,h,aa _,by unfold maxLen;omega,rfl,rfl⟩⟩
theorem BZ(pf:Nat)(c:Cr)(dir:Int)(n:ByteArray)(w:World) :
  Calls Tryz.prog 34 #[.pointer (some ⟨pf,0,none⟩),.agg #[.int .i64 c.u,.int .i64 c.g],.int .i64 dir,.string n] w fun e w'=>
   e=.returned (.func (.func 70) #[] #[.pointer (some ⟨w.heap.size,0,none⟩),.pointer (some ⟨w.heap.size+1,0,none⟩),.pointer (some ⟨w.heap.size+1+1,0,none⟩),.pointer (some ⟨w.heap.size+1+1+1,0,none⟩)])∧
   w'=(((w.alloc (.cells #[.pointer (some ⟨pf,0,none⟩)] 35)).alloc (.cells #[.int .i64 c.u,.int .i64 c.g] 64)).alloc (.cells #[.int .i64 dir] 3)).alloc (.cells #[.string n] 9):=by
 go_enter Tryz.func34,Tryz.ntmps34;go_wp2_with fail;go_ret;exact⟨rfl,rfl⟩
structure DnW(pf pw:Nat)(R:Rp)(pv:Value)(Y:Sy)(Bf Bc Bd Bn:Nat)(c:Cr)(dir:Int)(nm:ByteArray)(w:World):Prop where
 y:bg w pf pw R pv Y
 f:aw w Bf #[.pointer (some ⟨pf,0,none⟩)] 35
 c:aw w Bc #[.int .i64 c.u,.int .i64 c.g] 64
 d:aw w Bd #[.int .i64 dir] 3
 n:aw w Bn #[.string nm] 9
theorem rs{T:Nat→Prop}{B:Nat}{A C:World}(h:Below B A C)(hT:∀k,T k→k<B):KT T A C:=⟨h.size,fun k hk=>h.block k (hT k hk)⟩
theorem kC{B:Nat}{A C:World}(h:Below B A C):dN oO B nF A C:=
 ⟨h.os,h.tape,h.output,h.size,fun k o hk _ hp=>by
  by_cases hlt:k<B
  ·exact(h.block k hlt).trans hk
  ·exact absurd (hp (by omega)) (by simp[nF])⟩
structure DnI(S:Fs)(N:Nat)(c:Cr)(T:Nat→Prop)(w W:World)(J:List (Sp×Int)→World→Prop)(L:List (Sp×Int))(Bx f:Nat)(t7 t8:Value)(wr:World):Prop where
 ex:∃(e:Int) (stk:List Sp) (pre:List (Sp×Int)) (x0:Sp),t7=.int .i64 e∧jw wr (Bx+1) t8 stk.reverse∧aw wr Bx #[.int .i64 x0.dir,.string x0.name,.int .i64 x0.no,.int .i64 x0.depth] 108∧J pre wr∧
  (e=0∧L=pre++dH (S.fh c f stk)∧S.z7 N stk≤f∧S.yK N (N*N) stk∨e≠0∧L=pre++[(x0,e)])
 kt:KT T w wr
 size:W.heap.size≤wr.heap.size
structure Qe(T:Nat→Prop)(w W:World)(J:List (Sp×Int)→World→Prop)(Bx P:Nat)(lv:Value)(ql t:List Sp)(x:Sp)(pre:List (Sp×Int))(j:Nat)(t8:Value)(wr:World):Prop where
 o:jw wr (Bx+1) t8 (t.reverse++(ql.drop j).reverse)
 q:jw wr P lv ql
 ap:∀k,t8.ownBlock=some k→lv.ownBlock≠some k
 x:aw wr Bx #[.int .i64 x.dir,.string x.name,.int .i64 x.no,.int .i64 x.depth] 108
 jp:J pre wr
 kt:KT T w wr
 size:W.heap.size≤wr.heap.size
theorem Qe.push{T:Nat→Prop}{w W:World}{J:List (Sp×Int)→World→Prop}{Bx P:Nat}{lv:Value}{ql t:List Sp}{x:Sp}{pre:List (Sp×Int)}{j:Nat}{t8:Value}{wr:World}(h:Qe T w W J Bx P lv ql t x pre (j+1) t8 wr)(hj:j<ql.length)
  (hJ:yW oO W.heap.size nF J) (hT:∀k,T k→k<W.heap.size) (hB:W.heap.size≤Bx) (hn:t.length+ql.length≤1000000) :
  ∃v W',(Builtin.append_ #[158,158] 158 #[t8,.slice (some ⟨wr.heap.size,0,none⟩) 1 1]).run Tryz.prog (wr.alloc (.cells #[.int .i64 ql[j].dir,.string ql[j].name,.int .i64 ql[j].no,.int .i64 ql[j].depth] 108))=.ok v W'∧
   Qe T w W J Bx P lv ql t x pre j v W':=by
 have hx:=h.x.lt;have hlen:(t.reverse++(ql.drop (j+1)).reverse).length≤1000000:=by
  rw[List.length_append,List.length_reverse,List.length_reverse,List.length_drop];omega
 obtain⟨g,cap,W',h1,h2,h3,h4⟩:=h.o.app5 ql[j] hlen (by omega);have hb:Below (Bx+1) wr W':=h3.below (fun k hk=>(aD h.o hk).1) (by omega);refine⟨_,W',h1,?_,bI h.q h3 (fun k hk=>h.ap k hk),fun k hk he=>?_,h.x.mod h3 (fun hk=>by have:=(aD h.o hk).1;omega),hJ _ _ _ h.jp (kC (hb.mono (by omega))),h.kt.trans (rs (hb.mono (by omega)) hT),ae h.size hb.size⟩
 ·rw[List.append_assoc] at h2;rw[List.drop_eq_getElem_cons hj,List.reverse_cons];exact h2
 ·simp only[Value.ownBlock,Option.some.injEq] at hk;subst hk;rcases h4 with h4|h4
  ·exact h.ap _ h4 he
  ·obtain⟨-,cur,hc⟩:=aD h.q he;have:=(Array.getElem?_eq_some_iff.1 hc).1;omega
theorem AL{pf pw:Nat}{R:Rp}{pv:Value}{Y:Sy}{Bf Bc Bd Bn:Nat}{c:Cr}{dir:Int}{nm:ByteArray}{w:World}{M T:Nat→Prop}{N:Nat}(hF:iY Y.fs N)(hN:N≤900)(hd:Y.dead=false)
  (vT:∀k,T k→k<w.heap.size) (hT:∀W,KT T w W→DnW pf pw R pv Y Bf Bc Bd Bn c dir nm W) (n:Nat) (hn:1≤n) :
  Py M T Fence.wide n Tryz.prog 70 #[.pointer (some ⟨Bf,0,none⟩),.pointer (some ⟨Bc,0,none⟩),.pointer (some ⟨Bd,0,none⟩),.pointer (some ⟨Bn,0,none⟩)] (fun x:Sp×Int=>#[x.1.v,.int .i64 x.2])
   (fun xs=>xs=dH (Y.fs.iD N Y.dead c dir nm)) (fun pre=>∃m,pre=(dH (Y.fs.iD N Y.dead c dir nm)).take m) (fun pre x=>(pre++[x]) <+: dH (Y.fs.iD N Y.dead c dir nm)) w:=fun l J Jx W hW OP hM hl hJ hJx hY h0=>by
 have HT:=Qf hT;have HK:=Qf (ag hF (ag hN hd));have HM:=Qf (ag hM (ag hl hW));have HTl:=Qf (fun k hk=>show k<W.heap.size from Nat.lt_of_lt_of_le (vT k hk) OP);have HJ:=Qf hJ;have HY:=Qf hY;have H0:=Qf h0;have Jm:=hT W hW;have P3:=Qf (fun w1 (av:Qi W w1)=>zq (Jm.y.ak av) hF.ok (by omega) c dir nm);have Gx:=Qf (show Y.fs.iD N Y.dead c dir nm=if(Y.fs.bh Y.dead c dir nm).2≠0 then([],some (⟨dir,nm,(Y.fs.bh Y.dead c dir nm).1,0⟩,(Y.fs.bh Y.dead c dir nm).2))
  else Y.fs.fh c (Y.fs.z7 N [⟨dir,nm,(Y.fs.bh Y.dead c dir nm).1,0⟩]) [⟨dir,nm,(Y.fs.bh Y.dead c dir nm).1,0⟩] from rfl)
 obtain⟨fc,-,fz⟩:=Jm.f.facts;obtain⟨cc,-,cz⟩:=Jm.c.facts;obtain⟨dc,-,dz⟩:=Jm.d.facts;obtain⟨nc,-,nz⟩:=Jm.n.facts;generalize Y.fs.bh Y.dead c dir nm=rd at P3 Gx;obtain⟨k0,e0⟩:=rd;dsimp only[Sp.v] at Gx P3;generalize Y.fs.iD N Y.dead c dir nm=wk at Gx HY⊢;clear hT hF hM hW hJ hJx hY h0 Jm vT;refine callsIn_of_wp Tryz.func70 rfl trivial ?_ rfl;simp only[Tryz.ntmps70,List.size_toArray,List.length_cons,List.length_nil,Nat.reduceAdd,Nat.reduceSub,Array.replicate_succ,Array.replicate_zero,List.push_toArray,List.append_toArray,List.nil_append,List.cons_append];gi_wp2;refine⟨trivial,?_⟩;refine(callsIn_wide.2 (P3.o _ (Below.refl _ _))).mono ?_;rintro e w1 ⟨rfl,av⟩;clear fc fz cc cz dc dz nc nz;have lL:=aw.new w1 #[.int .i64 dir,.string nm,.int .i64 k0,.int .i64 0] 108;have aI:=aq av (.cells #[.int .i64 dir,.string nm,.int .i64 k0,.int .i64 0] 108);have h1s:=av.size
 gi_upto_region 1 with fail
 generalize LJ:w1.heap.size=Bx at lL h1s⊢;generalize yX:w1.alloc (.cells #[.int .i64 dir,.string nm,.int .i64 k0,.int .i64 0] 108)=w2 at lL aI⊢;have iR:w2.heap.size=Bx+1:=by rw[←yX,World.size_alloc,LJ]
 obtain⟨xc,xf,xz⟩:=lL.facts;have lG:=aw.new w2 #[.int .i64 dir,.string nm,.int .i64 k0,.int .i64 0] 108;have mF:=lL.old (.cells #[.int .i64 dir,.string nm,.int .i64 k0,.int .i64 0] 108);have aS:=aq aI (.cells #[.int .i64 dir,.string nm,.int .i64 k0,.int .i64 0] 108);obtain⟨f0,Kd⟩:∃f,Y.fs.z7 N [⟨dir,nm,k0,0⟩]=f:=⟨_,rfl⟩;have BF:DnI Y.fs N c T w W J (dH wk) Bx f0 (.int .i64 e0) (.slice (some ⟨w2.heap.size,0,none⟩) 1 1) (w2.alloc (.cells #[.int .i64 dir,.string nm,.int .i64 k0,.int .i64 0] 108)):=by
  refine⟨⟨e0,[⟨dir,nm,k0,0⟩],[],⟨dir,nm,k0,0⟩,rfl,jw.one (by omega) lG,mF,HJ.o _ _ _ H0.o (kC aS),?_⟩,HM.o.2.2.trans (rs aS HTl.o),aS.size⟩;by_cases he:e0=0
  ·refine .inl ⟨he,?_,by rw[Kd];exact aa _,Ic HK.o.1.ok _⟩;rw[Gx.o,if_neg (by simpa using he),Kd,List.nil_append]
  ·refine .inr ⟨he,?_⟩;rw[Gx.o,if_pos he];rfl
 have P1:=Qf BF;clear BF lG mF aS aI lL Kd;gi_wp2;clear xc xf xz
 gi_loopg [7,8] f0 (fun gk t7 t8 wr=>DnI Y.fs N c T w W J (dH wk) Bx gk t7 t8 wr)
 case atStart=>rw[←iR];exact P1.o
 case round=>
  obtain⟨⟨e,stk,pre,x0,rfl,hO,hX,Az,hc⟩,hkt,hsz⟩:=hrel;by_cases he:e=0
  ·subst he;rcases hc.symm with⟨h,-⟩|⟨-,hL,hmu,hst⟩
   ·exact absurd rfl h
   cases stk with
   |nil=>
    obtain⟨a,cap,rfl,-⟩:=bC hO;have HL:=Qf (show dH wk=pre by rw[hL,Ez,List.append_nil]);have Mf:=Qf Az;clear hL hmu hst hO hX Az hkt hsz;gi_wp2
    go_end0
    exact⟨⟨_,rfl⟩,.inl (by rw[HL.o];exact Mf.o)⟩
   |cons x t=>
    obtain⟨m,hm⟩:∃m,t.length=m:=⟨_,rfl⟩;rw[List.reverse_cons] at hO;obtain⟨a,cap,rfl,-⟩:=bC hO;have hlen:(t.reverse++[x]).length=m+1:=by rw[List.length_append,List.length_reverse,hm];rfl
    obtain⟨g,rfl,hgl,hgb,-,hgf,OH,OG,c0,c1,c2,c3⟩:=jw.cell hO m (by rw[hlen];omega);have hget:(t.reverse++[x])[m]'(by rw[hlen];omega)=x:=by
     rw[List.getElem_append_right (by rw[List.length_reverse];omega)];simp
    rw[hget] at c0 c1 c2 c3;have hless:=jw.less (by rw[List.length_reverse,hm];rw[hlen] at hO;exact hO);rw[hlen] at OH;rw[List.length_reverse,hm] at hless;obtain⟨xc,xf,xz⟩:=hX.facts;obtain⟨f',rfl⟩:∃f',gk=f'+1:=by
     rw[rh] at hmu;have:0<(N+1) ^ Y.fs.jQ x.no:=Nat.pow_pos (by omega);exact⟨gk-1,by omega⟩
    have hmm:=uE hst;have hNN:N*N≤900*900:=Nat.mul_le_mul HK.o.2.1 HK.o.2.1;rw[List.length_cons,hm] at hmm;have Oo:m≤1000000:=by omega
    have ji:=Qf (ag hL (ag hmu (ag hst hNN)));have Mf:=Qf Az;have oQ:=Qf (ag hless (ag hX (ag hkt hsz)));rw[hlen];clear hL hmu hst hNN hmm hO hX Az hkt hsz hless hget hlen;have hmB:=((((Mod.refl (fun k=>k=Bx) wr).setCell (a:=⟨Bx,0,none⟩) (.inl rfl) (.int .i64 x.dir)).setCell (a:=⟨Bx,1,none⟩) (.inl rfl) (.string x.name)).setCell (a:=⟨Bx,2,none⟩) (.inl rfl) (.int .i64 x.no)).setCell (a:=⟨Bx,3,none⟩) (.inl rfl) (.int .i64 x.depth);have hXP:=oQ.o.2.1.cM (v0:=.int .i64 x.dir) (v1:=.string x.name) (v2:=.int .i64 x.no) (v3:=.int .i64 x.depth)
    gi_upto_region 5 with fail
    generalize (((wr.setCell ⟨Bx,0,none⟩ (.int .i64 x.dir)).setCell ⟨Bx,1,none⟩ (.string x.name)).setCell ⟨Bx,2,none⟩ (.int .i64 x.no)).setCell ⟨Bx,3,none⟩ (.int .i64 x.depth)=P at hmB hXP⊢;have OL:Below W.heap.size wr P:=hmB.below (fun k hk=>by omega) oQ.o.2.2.2;have Ld:=oQ.o.2.2.1.trans (rs OL HTl.o);have hOP:jw P (Bx+1) (.slice (some ⟨g,0,none⟩) m cap) t.reverse:=bI oQ.o.1 hmB (fun k hk he=>by have:=(aD oQ.o.1 he).1;omega);have hDP:=HT.o P Ld;have HP:=Qf (ag hOP (ag hXP (ag Ld (ag (ae oQ.o.2.2.2 OL.size) (HJ.o _ _ _ Mf.o (kC OL))))));have HIn:=Qf (BY hDP.y HK.o.1.ok (by have:=HK.o.2.1;omega) HK.o.2.2 c x);obtain⟨fc,-,fz⟩:=hDP.f.facts;obtain⟨cc,-,cz⟩:=hDP.c.facts;obtain⟨pc,pf',pz⟩:=hXP.facts;have hgP:g<P.heap.size:=Nat.lt_of_lt_of_le hgl OL.size;clear xc xf xz hmB hXP OL Ld hOP hDP c0 c1 c2 c3 hgl hgf;have Ky:=Qf (Dc HK.o.1 c x);have Ku:=Qf (EI (K:=N*N) HK.o.1 c (x:=x) (t:=t));have HTd:=Qf (Cg (S:=Y.fs) (c:=c) (f:=f') (x:=x) (t:=t));have HTb:=Qf (EA (S:=Y.fs) (c:=c) (f:=f') (x:=x) (t:=t));generalize Y.fs.dn c x=q at HIn Ky Ku HTd HTb;obtain⟨ql,qe⟩:=q;dsimp only at HIn Ky Ku HTd HTb;gi_wp2;refine⟨trivial,?_⟩;refine(callsIn_wide.2 HIn.o).mono ?_;rintro e w4 ⟨lv,rfl,vU,cZ⟩;have vd:=HP.o.2.1.ak cZ;have Le:=HP.o.2.2.1.trans (KT.ar cZ (fun k hk=>Nat.lt_of_lt_of_le (HTl.o k hk) HP.o.2.2.2.1));have hJ4:=HJ.o _ _ _ HP.o.2.2.2.2 (kC (cZ.mono HP.o.2.2.2.1));have H4:=Qf (ag (HP.o.1.ak cZ) (ag vd (ag Le (ag (ae HP.o.2.2.2.1 cZ.size) (ag vU cZ.size)))));have HJ4:=Qf hJ4;clear fc fz cc cz pc pf' pz;obtain⟨xc,xf,xz⟩:=vd.facts;by_cases hq:qe≠0
    ·have HL:=Qf (show dH wk=pre++[(x,qe)] by rw[ji.o.1,HTb.o hq]);have hv:(qe==0)=false:=by simpa using hq
     have yY:(qe != 0)=true:=by simpa using hq
     obtain⟨fn,tmps,assign,body,hy,hR⟩:=HY.o pre (x,qe) w4 HJ4.o (by rw[HL.o];exact List.prefix_refl _);have HR:=Qf hR;dsimp only[Sp.v] at hy;clear hq hR vd Le hJ4 vU cZ;gi_wp2;refine HR.o.mono ?_;rintro e W3 (⟨rfl,xW,gm,pU⟩|⟨rfl,kU⟩)
     ·have JU:=Qf xW;clear xW gm pU hy;gi_wp2
      go_end0
      exact⟨⟨_,rfl⟩,.inl ⟨_,HL.o.symm,JU.o⟩⟩
     ·have GJ:=Qf kU;clear kU hy;gi_wp2
      go_end0
      exact⟨⟨_,rfl⟩,.inr ⟨_,⟨(dH wk).length,by rw[List.take_length,HL.o]⟩,GJ.o⟩⟩
    ·obtain rfl:qe=0:=by simpa using hq
     have HMu:=Qf (Ky.o rfl);clear Ky;have HL:=Qf (show dH wk=pre++((x,0)::dH (Y.fs.fh c f' (ql++t))) by rw[ji.o.1,HTd.o rfl]);obtain⟨fn,tmps,assign,body,hy,hR⟩:=HY.o pre (x,0) w4 HJ4.o (by rw[HL.o];exact⟨dH (Y.fs.fh c f' (ql++t)),by simp⟩);have HR:=Qf hR;dsimp only[Sp.v] at hy;clear hq hR vd Le hJ4 vU cZ;gi_wp2;refine HR.o.mono ?_;rintro e W3 (⟨rfl,xW,gm,pU⟩|⟨rfl,kU⟩)
     ·obtain⟨la,lcap,rfl,-⟩:=bC H4.o.2.2.2.2.1;have hg4:=aD H4.o.1 (k:=g) rfl;have OY:Qe T w W J Bx P.heap.size (.slice la ql.length lcap) ql t x (pre++[(x,0)]) ql.length (.slice (some ⟨g,0,none⟩) m cap) W3:=by
       have mI:W.heap.size≤Bx:=h1s;have hMk:∀k,(M k∨k=l)→k<W.heap.size:=fun k hk=>hk.elim (HM.o.1 k) (fun e=>by rw[e];exact HM.o.2.1);refine⟨?_,bI H4.o.2.2.2.2.1 pU (fun k hk he=>by have:=(aD H4.o.2.2.2.2.1 he).1;have:=hMk k hk;omega),fun k hk he=>?_,H4.o.2.1.mod pU (fun hk=>by have:=hMk _ hk;omega),xW,H4.o.2.2.1.trans gm,ae H4.o.2.2.2.1 pU.size⟩
       ·rw[List.drop_length,List.reverse_nil,List.append_nil];exact bI H4.o.1 pU (fun k hk he=>by have:=(aD H4.o.1 he).1;have:=hMk k hk;omega)
       ·simp only[Value.ownBlock,Option.some.injEq] at hk;subst hk;have:=(aD H4.o.2.2.2.2.1 he).1;omega
      have HR0:=Qf OY;have hqb:ql.length≤1000000:=by
       have h1:=uE (Ku.o ji.o.2.2.1);have h2:=ji.o.2.2.2;rw[List.length_append] at h1;omega
      have HQb:=Qf (show t.length+ql.length≤1000000 by
       have h1:=uE (Ku.o ji.o.2.2.1);have h2:=ji.o.2.2.2;rw[List.length_append] at h1;omega)
      clear xW gm pU OY hg4 xc xf xz hy;gi_wp2
      gi_loopw [8,10] (fun t8 t10 wr=>∃j:Nat,j≤ql.length∧t10=.int .i64 ((j:Int)-1)∧Qe T w W J Bx P.heap.size (.slice la ql.length lcap) ql t x (pre++[(x,0)]) j t8 wr) (fun _ t10 _=>(intOf t10+1).toNat)
      case atStart=>exact⟨ql.length,aa _,by first|rfl|go_num,HR0.o⟩
      case round=>
       obtain⟨j,hjl,rfl,hr⟩:=hrel;by_cases hj:0<j
       ·obtain⟨i,rfl⟩:∃i,j=i+1:=⟨j-1,by omega⟩;have hil:i<ql.length:=by omega
        obtain⟨b,rfl,hbl,-,-,-,iS,eT,d0,d1,d2,d3⟩:=jw.cell hr.q i hil;obtain⟨v,W',hrun,pB⟩:=hr.push hil HJ.o HTl.o h1s HQb.o;have HA:=Qf hrun;have yO:=Qf pB;have HIl:=Qf hil;have IY:((i+1:Nat):Int)-1=(i:Int):=by omega
        have zd:((i:Int)+1)-1=(i:Int):=by omega
        clear hr hrun pB hj hjl
        gi_wp2_with (gi_at_builtin;refine iZ rfl rfl rfl rfl HA.o ?_)
        go_roundw
        case rel=>exact⟨i,by have:=HIl.o;omega,by first|rfl|go_num,yO.o⟩
        case measure=>simp[intOf]
       ·obtain rfl:j=0:=by omega
        have HE:=Qf hr;clear hr hjl hj;gi_wp2
        gi_roundg f'
        case measure=>omega
        case rel=>
         refine⟨⟨0,ql++t,pre++[(x,0)],x,rfl,?_,HE.o.x,HE.o.jp,.inl ⟨rfl,?_,?_,Ku.o ji.o.2.2.1⟩⟩,HE.o.kt,HE.o.size⟩
         ·have:=HE.o.o
          rwa [List.drop_zero,←List.reverse_append] at this
         ·rw[HL.o,List.append_assoc];rfl
         ·have h1:=ji.o.2.1;have h2:=HMu.o;rw[rh] at h1;rw[IC];omega
     ·have GJ:=Qf kU;clear kU hy;gi_wp2;exact bodyPost_ret (results_none rfl _ _ _) rfl ⟨⟨_,rfl⟩,.inr ⟨_,ja (by rw[HL.o];exact⟨dH (Y.fs.fh c f' (ql++t)),by simp⟩),GJ.o⟩⟩
  ·rcases hc with⟨h,-⟩|⟨-,hL⟩
   ·exact absurd h he
   have HL:=Qf hL;have Mf:=Qf Az;have hv:(e==0)=false:=by simpa using he
   have yY:(e != 0)=true:=by simpa using he
   obtain⟨xc,xf,xz⟩:=hX.facts;obtain⟨fn,tmps,assign,body,hy,hR⟩:=HY.o pre (x0,e) wr Mf.o (by rw[HL.o];exact List.prefix_refl _);have HR:=Qf hR;dsimp only[Sp.v] at hy;clear he hL Az hkt hsz hO hX hR;gi_wp2;refine HR.o.mono ?_;rintro e W3 (⟨rfl,xW,gm,pU⟩|⟨rfl,kU⟩)
   ·have JU:=Qf xW;clear xW gm pU hy;gi_wp2
    go_end0
    exact⟨⟨_,rfl⟩,.inl ⟨_,HL.o.symm,JU.o⟩⟩
   ·have GJ:=Qf kU;clear kU hy;gi_wp2
    go_end0
    exact⟨⟨_,rfl⟩,.inr ⟨_,⟨(dH wk).length,by rw[List.take_length,HL.o]⟩,GJ.o⟩⟩
end
section
open Go.RowKit
structure Met(l:List (Int×Value×Nat))(pre:List Int):Prop where
 once:ew l
 mR:∀k,bZ l k=if k∈pre then some (.int .i64 (pre.count k:Nat)) else none
theorem Met.nil:Met [] []:=⟨List.Pairwise.nil,fun k=>by simp[bZ]⟩
theorem EX{l:List (Int×Value×Nat)}(h:ew l)(k:Int)(v:Value):ew (fE l k v):=by
 unfold ew fE at *;rw[List.map_map];have:((fun x:Int×Value×Nat=>x.1) ∘ fun x:Int×Value×Nat=>if x.1==k then(k,v,x.2.2) else x)=fun x=>x.1:=by
  funext x;show(if x.1==k then(k,v,x.2.2) else x).1=x.1
  split
  ·rename_i h;exact(by simpa using h:x.1=k).symm
  ·rfl
 rw[this];exact h
theorem EY(l:List (Int×Value×Nat))(k:Int)(v:Value)(x:Int):bZ (fE l k v) x=if x=k then(bZ l k).map (fun _=>v) else bZ l x:=by
 unfold bZ fE
 induction l with
 |nil=>simp
 |cons y l ih=>
  rw[List.map_cons,List.find?_cons];by_cases hy:y.1=k
  ·rw[if_pos (by simpa using hy)];by_cases hx:x=k
   ·rw[if_pos hx] at ih⊢;rw[List.find?_cons];simp[hx,hy]
   ·rw[if_neg hx] at ih⊢;have h1:(k==x)=false:=by simpa using fun e=>hx e.symm
    have h2:(y.1==x)=false:=by rw[hy];exact h1
    rw[List.find?_cons];simp only[h1,h2];exact ih
  ·rw[if_neg (by simpa using hy)];by_cases hyx:y.1=x
   ·have h1:(y.1==x)=true:=by simpa using hyx
    have hx:¬x=k:=fun e=>hy (hyx.trans e);rw[if_neg hx];rw[List.find?_cons];simp only[h1]
   ·have h1:(y.1==x)=false:=by simpa using hyx
    simp only[h1];rw[ih];by_cases hx:x=k
    ·rw[if_pos hx,if_pos hx,List.find?_cons];have h2:(y.1==k)=false:=by simpa using hy
     simp only[h2]
    ·rw[if_neg hx,if_neg hx,List.find?_cons];simp only[h1]
theorem Met.yes{l:List (Int×Value×Nat)}{pre:List Int}(h:Met l pre){k:Int}(hk:k∈pre):bZ l k=some (.int .i64 (pre.count k:Nat)):=by rw[h.mR,if_pos hk]
theorem Met.no{l:List (Int×Value×Nat)}{pre:List Int}(h:Met l pre){k:Int}(hk:k∉pre):bZ l k=none:=by rw[h.mR,if_neg hk]
theorem Met.more{l:List (Int×Value×Nat)}{pre:List Int}(h:Met l pre){k:Int}(hk:k∈pre):Met (fE l k (.int .i64 ((pre.count k:Nat)+1))) (pre++[k]):=by
 refine⟨EX h.once _ _,fun x=>?_⟩;rw[EY];by_cases hx:x=k
 ·subst hx;rw[if_pos rfl,h.yes hk,if_pos (List.mem_append_left _ hk),List.count_append];simp
 ·rw[if_neg hx,h.mR,List.count_append];have:List.count x [k]=0:=by
   rw[List.count_eq_zero];simpa using hx
  rw[this,Nat.add_zero];by_cases hm:x∈pre
  ·rw[if_pos hm,if_pos (List.mem_append_left _ hm)]
  ·rw[if_neg hm,if_neg];intro h2;rcases List.mem_append.1 h2 with h2|h2
   ·exact hm h2
   ·exact hx (List.mem_singleton.1 h2)
theorem Met.new{l:List (Int×Value×Nat)}{pre:List Int}(h:Met l pre){k:Int}(hk:k∉pre)(ey:Nat):Met (l++[(k,.int .i64 1,ey)]) (pre++[k]):=by
 have hnone:=h.no hk;have hkey:∀y∈l,y.1≠k:=fun y hy he=>by
  unfold bZ at hnone;rw[Option.map_eq_none_iff,List.find?_eq_none] at hnone;exact hnone y hy (by simpa using he)
 refine⟨?_,fun x=>?_⟩
 ·unfold ew;rw[List.map_append,List.nodup_append];refine⟨h.once,by simp,fun a ha b hb=>?_⟩;simp at hb;subst hb;obtain⟨y,hy,rfl⟩:=List.mem_map.1 ha;exact hkey y hy
 ·have h1:=h.mR x;unfold bZ at h1⊢;rw[List.find?_append,List.count_append];by_cases hx:x=k
  ·subst hx;rw[if_neg hk] at h1;rw[Option.map_eq_none_iff.1 h1,Option.none_or,if_pos (List.mem_append_right _ (List.mem_singleton.2 rfl)),List.count_eq_zero_of_not_mem hk];simp
  ·have h2:List.find? (fun y:Int×Value×Nat=>y.1==x) [(k,Value.int .i64 1,ey)]=none:=by
    rw[List.find?_eq_none];intro y hy;rw[List.mem_singleton] at hy;subst hy;simpa using fun e=>hx e.symm
   rw[h2,Option.or_none,h1];have:List.count x [k]=0:=by
    rw[List.count_eq_zero];simpa using hx
   rw[this,Nat.add_zero];by_cases hm:x∈pre
   ·rw[if_pos hm,if_pos (List.mem_append_left _ hm)]
   ·rw[if_neg hm,if_neg];intro h2;rcases List.mem_append.1 h2 with h2|h2
    ·exact hm h2
    ·exact hx (List.mem_singleton.1 h2)
end
section
open Go.RowKit
theorem wi{F:Fence}{n:Nat}{P:Program}{w:World}{α:Type}{M T:Nat→Prop}{g:Operand}{ps:Array Tmp}{assign body:Code}{Q:Exit→Act→World→Prop}{a:Act}
  (hro:F.round=none) (h1:1≤n) {gf:Nat} {lb:Array Value} (hg:a.eval g=.func (.func gf) #[] lb) (Pb:F.fn gf) (eg:∀args w,(callFunc gf args).run P w=.ok (.enter gf args) w)
  {encs:α→Array Value} {S Sp:List α→Prop} {V:List α→α→Prop} {w0:World} (hseq:Py M T F (n-1) P gf lb encs S Sp V w0)
  (hM:∀k,M k→k<w.heap.size) (hT:∀k,T k→k<w.heap.size) (hTM:∀k,T k→¬M k) (cH:KT T w0 w) (hps:∀x,(encs x).size=ps.size)
  (I:List α→World→Prop) (Ix:Code→List α→World→Prop) (hI:yW oO w.heap.size nF I) (F2:∀c,yW oO w.heap.size nF (Ix c)) (h0:I [] w) (a₁:α→Nat→Act) (o₁:α→Obj)
  (hassign:∀(l:Nat) (x:α) (b:Nat) (W:World) (K:Act→World→Prop),W.heap.size=b→K (a₁ x b) (W.alloc (o₁ x))→
   assign.wpIn (F.inRound l) (n-1-1) P (Exit.then K (fun _ _ _=>False)) {tmps:=(ps.zip (encs x)).foldl (fun t (p,v)=>t.setIfInBounds p v) a.tmps,defers:=[]} W)
  (hbody:∀(l:Nat) (pre:List α) (x:α) (b:Nat) (W:World),w.heap.size≤l→l<b→b<W.heap.size→W.heap[b]?=some (o₁ x)→I pre W→V pre x→body.wpIn (F.inRound l) (n-1-1) P (ownPostG w.heap.size (Mod M) I Ix (pre++[x]) W) (a₁ x b) W)
  (hdone:∀(D:Nat) (xs:List α) (W:World),w.heap.size≤D→S xs→I xs W→W.heap[D]?=some (.deferred (some []))→Q .normal {a with defers:={target:=.collected D,args:=#[]}::a.defers} W)
  (hstop:∀(D:Nat) (c:Code) (pre:List α) (W:World),w.heap.size≤D→Sp pre→Ix c pre W→W.heap[D]?=some (.deferred (some []))→c.wpIn F n P Q {a with defers:={target:=.collected D,args:=#[]}::a.defers} W) :
  (Code.rangeFunc g ps assign body).wpIn F n P Q a w:=by
 refine wpIn_rangeFunc fun fn hfn=>?_;rw[hro];obtain⟨rc,hrc⟩:∃rc:LoopState→Option Code→Loop,rc=fun st pe=>{state:=st,pending:=pe,fn,tmps:=a.tmps,params:=ps,assign,body,defers:=w.heap.size}:=⟨_,rfl⟩;have vT:¬T (w.heap.size+1):=fun h=>by have:=hT _ h;omega
 have MM:¬T w.heap.size:=fun h=>by have:=hT _ h;omega
 generalize pX:(w.alloc (.deferred (some []))).alloc (.loop (rc .ready none))=W1;have je:W1.heap.size=w.heap.size+2:=by rw[←pX];simp
 have Jh:W1.heap[w.heap.size+1]?=some (.loop (rc .ready none)):=by
  have:=World.alloc_heap_new (w.alloc (.deferred (some []))) (.loop (rc .ready none));rw[World.size_alloc] at this;rw[←pX];exact this
 have MY:W1.heap[w.heap.size]?=some (.deferred (some [])):=by
  rw[←pX];exact(Below.heap_alloc _ _ _ (by simp)).trans (World.alloc_heap_new w _)
 have F3:I [] W1:=by rw[←pX];exact hI _ _ _ (hI _ _ _ h0 (dN.alloc _ _)) (dN.alloc _ _)
 have zg:KT T w W1:=by rw[←pX];exact KT.ar ((((Below.refl _ w).alloc (aa _) _).alloc (by simp) _)) hT
 refine⟨w.heap.size+1,[{target:=.collected w.heap.size,args:=#[]}],W1,{target:=.fn (.func gf) lb,args:=#[.func (.yield (w.heap.size+1)) #[] #[]]},W1,gf,
  #[.func (.yield (w.heap.size+1)) #[] #[]]++lb,W1,?_,?_,?_,?_,fun _=>h1,?_⟩
 ·rw[←pX,hrc];exact run_enterLoop_outer _ _ _ _ _
 ·simp only[resolve,hg];simp[go_sem]
 ·intro f' hf';simp[Target.leads] at hf';subst hf';exact Pb
 ·simp[invoke,go_sem,eg]
 have turnW:∀{A B:World},dN oO W1.heap.size nF A B→dN oO w.heap.size nF A B:=fun h=>
  ⟨h.os,h.tape,h.output,h.size,fun k o hk ht hp=>h.block k o hk ht (fun hB=>(by have:=hp (by omega);cases this))⟩
 have keepL:∀{A B:World} {k:Nat} {o:Obj},dN oO W1.heap.size nF A B→A.heap[k]?=some o→k<W1.heap.size→B.heap[k]?=some o:=fun h hk hlt=>h.block _ _ hk (fun h=>h) (fun hB=>by omega);have hML:∀k,M k→k<W1.heap.size:=fun k hk=>by have:=hM k hk;omega
 refine(hseq (w.heap.size+1)
  (fun pre W=>I pre W∧W.heap[w.heap.size+1]?=some (.loop (rc .ready none))∧W.heap[w.heap.size]?=some (.deferred (some [])))
  (fun pre W=>∃c,Ix c pre W∧W.heap[w.heap.size+1]?=some (.loop (rc .done (some c)))∧W.heap[w.heap.size]?=some (.deferred (some [])))
  W1 (cH.trans zg) (ae cH.1 zg.1) hML (by omega)
  (fun s A B hs ht=>⟨hI s A B hs.1 (turnW ht),keepL ht hs.2.1 (by omega),keepL ht hs.2.2 (by omega)⟩)
  (fun s A B hs ht=>by
   obtain⟨c,hc,hl,hk⟩:=hs;exact⟨c,F2 c s A B hc (turnW ht),keepL ht hl (by omega),keepL ht hk (by omega)⟩)
  ?_ ⟨F3,Jh,MY⟩).mono ?_
 ·rintro pre x W ⟨hi,hl,hk⟩ hlen;have hlt:w.heap.size+1<W.heap.size:=(Array.getElem?_eq_some_iff.1 hl).1;have hy:=run_yield (P:=P) (args:=encs x) hl (by rw[hrc];exact hps x);rw[hrc] at hy;refine⟨fn,_,assign,body,hy,roundIn_of_wpIn hfn (hassign _ x _ W _ rfl ?_)⟩;clear hy;have hlA:(W.alloc (o₁ x)).heap[w.heap.size+1]?=some (.loop (rc .ready none)):=(Below.heap_alloc _ _ _ hlt).trans hl;have hkA:(W.alloc (o₁ x)).heap[w.heap.size]?=some (.deferred (some [])):=(Below.heap_alloc _ _ _ (by omega)).trans hk;refine⟨_,run_beginRound hlA (by rw[hrc]),?_⟩;generalize xT:(W.alloc (o₁ x)).putObj (w.heap.size+1) (.loop {rc .ready none with state:=.busy})=Wb;have yZ:Wb.heap[w.heap.size+1]?=some (.loop {rc .ready none with state:=.busy}):=by rw[←xT];exact World.putObj_heap_same (by simp;omega)
  have ij:Wb.heap[w.heap.size]?=some (.deferred (some [])):=by rw[←xT];exact(World.putObj_heap_other (by omega)).trans hkA
  have ho2:Wb.heap[W.heap.size]?=some (o₁ x):=by rw[←xT];exact(World.putObj_heap_other (by omega)).trans (World.alloc_heap_new W _)
  have iR:Wb.heap.size=W.heap.size+1:=by rw[←xT];simp
  have hwA:KT T W (W.alloc (o₁ x)):=⟨by simp,fun k hk=>Below.heap_alloc _ _ _ (by have:=hT k hk;omega)⟩;have yX:KT T W Wb:=by rw[←xT];exact hwA.trans (KT.put _ _ _ vT)
  have nS:Mod (fun k=>M k∨k=w.heap.size+1) W Wb:=by rw[←xT];exact⟨rfl,rfl,rfl,by simp,fun k hk hn=>(World.putObj_heap_other (fun e=>hn (.inr e))).trans (Below.heap_alloc _ _ _ hk)⟩
  have hib:I pre Wb:=by rw[←xT];exact hI _ _ _ (hI _ _ _ hi (dN.alloc _ _)) (dN.put (by omega) hlA rfl)
  refine wpIn_mono (hbody _ pre x W.heap.size Wb (by omega) hlt (by omega) ho2 hib hlen) ?_;have fin:∀(jump:Option Code) (W3:World),KeepsFrom w.heap.size Wb W3→
    (Instr.endRound (w.heap.size+1) jump).run P W3=.ok (.bool jump.isNone) (W3.putObj (w.heap.size+1) (.loop (rc (if jump.isNone then .ready else .done) jump)))∧
    W3.heap[w.heap.size+1]?=some (.loop {rc .ready none with state:=.busy})∧
    (W3.putObj (w.heap.size+1) (.loop (rc (if jump.isNone then .ready else .done) jump))).heap[w.heap.size+1]?=some (.loop (rc (if jump.isNone then .ready else .done) jump))∧
    (W3.putObj (w.heap.size+1) (.loop (rc (if jump.isNone then .ready else .done) jump))).heap[w.heap.size]?=some (.deferred (some [])):=fun jump W3 gm=>by
   have oy:=gm.same _ _ (by omega) yZ rfl;have:=run_endRound (P:=P) jump oy;rw[hrc] at this⊢;exact⟨this,by rw[hrc] at oy;exact oy,World.putObj_heap_same (Array.getElem?_eq_some_iff.1 oy).1,(World.putObj_heap_other (by omega)).trans (gm.same _ _ (aa _) ij rfl)⟩
  have leave:∀(c:Code) (W3:World),KeepsFrom w.heap.size Wb W3→Ix c (pre++[x]) W3→∃v W4,(Instr.endRound (w.heap.size+1) (some c)).run P W3=.ok (.bool v) W4∧v=false∧∃c',Ix c' (pre++[x]) W4∧W4.heap[w.heap.size+1]?=some (.loop (rc .done (some c')))∧W4.heap[w.heap.size]?=some (.deferred (some [])):=fun c W3 gm pC=>by
   obtain⟨hr,oy,Di,FF⟩:=fin (some c) W3 gm;exact⟨_,_,hr,rfl,c,F2 _ _ _ _ pC (dN.put (by omega) oy rfl),Di,FF⟩
  rintro e a3 W3 hp
  cases e with
  |normal=>
   obtain⟨gm,Dj,pC⟩:=hp;obtain⟨hr,oy,Di,FF⟩:=fin none W3 gm;exact⟨_,_,hr,.inl ⟨rfl,⟨hI _ _ _ pC (dN.put (by omega) oy rfl),Di,FF⟩,yX.trans ((KT.cQ Dj (fun k hk=>by have:=hT k hk;have:=yX.1;omega) hTM).trans (KT.put _ _ _ vT)),(nS.trans (Dj.mono (fun k hk=>.inl hk))).trans ⟨rfl,rfl,rfl,by simp,fun k hk hn=>World.putObj_heap_other (fun e=>hn (.inr e))⟩⟩⟩
  |ret=>obtain⟨v,W4,hr,rfl,h⟩:=leave .ret W3 hp.1 hp.2;exact⟨_,_,hr,.inr ⟨rfl,h⟩⟩
  |exit id=>obtain⟨v,W4,hr,rfl,h⟩:=leave (.exit id) W3 hp.1 hp.2;exact⟨_,_,hr,.inr ⟨rfl,h⟩⟩
  |goto t=>obtain⟨v,W4,hr,rfl,h⟩:=leave (.goto t) W3 hp.1 hp.2;exact⟨_,_,hr,.inr ⟨rfl,h⟩⟩
  |panic ch=>exact hp.elim
  |outgrown=>exact hp.elim
 ·rintro e W2 ⟨⟨v,rfl⟩,(⟨xs,hS,hi,hl,hk⟩|⟨pre,OT,c,hi,hl,hk⟩)⟩
  ·exact⟨none,_,by have:=run_endLoop (P:=P) hl (by rw[hrc];simp);rw[hrc] at this;exact this,hdone _ xs _ (aa _) hS (hI _ _ _ hi (dN.put (by omega) hl rfl)) ((World.putObj_heap_other (by omega)).trans hk)⟩
  ·exact⟨some c,_,by have:=run_endLoop (P:=P) hl (by rw[hrc];simp);rw[hrc] at this;exact this,hstop _ c pre _ (aa _) OT (F2 c _ _ _ hi (dN.put (by omega) hl rfl)) ((World.putObj_heap_other (by omega)).trans hk)⟩
end
section
open Go.RowKit
attribute [local go_sem] Oper.semAt_some
theorem mi{P:Program}{w:World}{m:Nat}{l:List (Int×Value×Nat)}{ey:Nat}{T K E:TypeId}(ht:P.underlying T=some (.map K E))(hk:P.underlying K=some (.int .i64))(h:dF w m l ey){k:Int}{v:Value}(hf:bZ l k=some v) :
  (Instr.lookup T (.map (some m)) (.int .i64 k) false).run P w=.ok v w:=by
 rw[jc] at hf;unfold dF at h;simp only[Option.bind_eq_some_iff,Option.map_eq_some_iff] at hf;obtain⟨j,hj,x,hx,rfl⟩:=hf;unfold Instr.lookup;simp[run_underlying ht,getObj,Sem.run,h,fA _ hk,run_findKey hk,hj,hx]
theorem Cv{P:Program}{w:World}{m:Nat}{l:List (Int×Value×Nat)}{ey:Nat}{T K E:TypeId}(ht:P.underlying T=some (.map K E))(hk:P.underlying K=some (.int .i64))(h:dF w m l ey){k:Int}(hf:bZ l k=none){z:Value}(hz:(zeroValue E).run P w=.ok z w) :
  (Instr.lookup T (.map (some m)) (.int .i64 k) false).run P w=.ok z w:=by
 rw[ig] at hf;unfold dF at h;unfold Instr.lookup;simp[run_underlying ht,getObj,Sem.run,h,fA _ hk,run_findKey hk,hf,hz]
theorem Ey{r:List Sp×Option (Sp×Int)}{p:Sp×Int}(h:r.2=some p):p∈dH r:=by
 unfold dH;rw[h];exact List.mem_append_right _ (List.mem_singleton.2 rfl)
theorem Cf{r:List Sp×Option (Sp×Int)}{p:Sp×Int}(h:p∈dH r)(hp:p.2≠0):r.2=some p:=by
 unfold dH at h;rcases List.mem_append.1 h with h|h
 ·obtain⟨x,-,rfl⟩:=List.mem_map.1 h;exact absurd rfl hp
 ·cases hr:r.2 with
  |none=>rw[hr] at h;cases h
  |some q=>rw[hr] at h;rw[List.mem_singleton.1 h]
theorem EB{r:List Sp×Option (Sp×Int)}(h:r.2=none):(dH r).map (·.1)=r.1:=by
 unfold dH;rw[h,List.append_nil,List.map_map]
 conv=>rhs;rw[←List.map_id r.1]
 rfl
theorem yt{S:Fs}{c:Cr}:∀(f:Nat) (l:List Sp) (p:Sp×Int),(S.fh c f l).2=some p→p.2≠0
 |0,_,_,h=>by cases h
 |_+1,[],_,h=>by cases h
 |f+1,x::t,p,h=>by
  unfold Fs.fh at h;by_cases he:(S.dn c x).2≠0
  ·rw[if_pos he] at h;injection h with h;subst h;exact he
  ·rw[if_neg he] at h;exact yt f _ p h
theorem Er{S:Fs}{N:Nat}{d:Bool}{c:Cr}{dir:Int}{n:ByteArray}{p:Sp×Int}(h:(S.iD N d c dir n).2=some p):p.2≠0:=by
 unfold Fs.iD at h
 split at h
 ·rename_i he;injection h with h;subst h;exact he
 ·exact yt _ _ p h
theorem Fg{S:Fs}{N:Nat}(h:ax S N):S.ns.length≤N:=by
 have h1:(S.ns.map (·.no)).Nodup:=h.nums.eE.imp (fun h=>by omega);have h2:=tG (S.ns.map (·.no)) ((List.range N).map (fun k:Nat=>(k:Int)+1)) h1 (fun c hc=>by
  obtain⟨a,ha,rfl⟩:=List.mem_map.1 hc;obtain⟨h3,h4⟩:=h.nums.low a ha;have h5:=h.lN;exact List.mem_map.2 ⟨(a.no-1).toNat,List.mem_range.2 (by omega),by omega⟩)
 simpa using h2
theorem uh(w:World)(o:Obj)(k:Nat):(w.alloc o).heap[k]?=if k=w.heap.size then some o else w.heap[k]?:=by
 by_cases h:k=w.heap.size
 ·subst h;rw[if_pos rfl];exact World.alloc_heap_new w o
 ·rw[if_neg h];by_cases hlt:k<w.heap.size
  ·exact Below.heap_alloc w o k hlt
  ·rw[Array.getElem?_eq_none (by simp<;>omega),Array.getElem?_eq_none (by omega)]
theorem ou{S:Nat→Prop}{B:Nat}{w W:World}(h:Mod S w W)(hS:∀k,S k→k<B):KeepsFrom B w W:=
 ⟨h.size,fun k o hB hk _=>(h.block k (Array.getElem?_eq_some_iff.1 hk).1 (fun hs=>by have:=hS k hs;omega)).trans hk⟩
theorem bg.NM{w w':World}{pf pw:Nat}{R:Rp}{pv:Value}{Y:Sy}(h:bg w pf pw R pv Y)(ht:∀k,k<w.heap.size→w'.heap[k]?=w.heap[k]?)(hs:w.heap.size≤w'.heap.size):bg w' pf pw R pv Y:=
 have ht':∀(k:Nat) (o:Obj),w.heap[k]?=some o→w'.heap[k]?=w.heap[k]?:=fun k o ho=>ht k (Array.getElem?_eq_some_iff.1 ho).1
 ⟨(ht' _ _ h.aZ).trans h.aZ,h.wd.fH (fun k o ho _=>ht' k o ho) hs,h.bQ.1,h.bQ.2.imp id fun⟨g,cap,cur,h1,h2,hg,h3⟩=>⟨g,cap,cur,h1,h2,(ht' _ _ hg).trans hg,h3⟩⟩
structure yJ(w:World)(pf:Nat)(S:Fs)(pre:List (Sp×Int))(W:World):Prop where
 bf:aw W w.heap.size #[.pointer (some ⟨pf,0,none⟩)] 35
 r8:aw W (w.heap.size+1+1) #[.int .i64 0] 3
 r9:aw W (w.heap.size+1+1+1) #[.int .i64 0] 3
 Iu:aw W (w.heap.size+1+1+1+1) #[.int .i64 0] 56
 sz:aw W (w.heap.size+1+1+1+1+1) #[.int .i64 (S.gr [] (pre.map (·.1)))] 3
 mp:∃l ey,dF W (w.heap.size+1+1+1+1+1+1) l ey∧Met l (pre.map (·.1.no))
 mb:aw W (w.heap.size+1+1+1+1+1+1+1) #[.map (some (w.heap.size+1+1+1+1+1+1))] 103
 z:∀p∈pre,p.2=0
 below:Qi w W
structure M8(w:World)(pre:List (Sp×Int))(W:World):Prop where
 ex:∃p∈pre,p.2≠0∧aw W (w.heap.size+1+1+1+1) #[.int .i64 p.2] 56
 r8:aw W (w.heap.size+1+1) #[.int .i64 0] 3
 r9:aw W (w.heap.size+1+1+1) #[.int .i64 0] 3
 below:Qi w W
section
variable{w:World}{pf:Nat}{S:Fs}{pre:List (Sp×Int)}{N:Nat}{A C:World}
theorem ir{B:Nat}{vs:Array Value}{T:TypeId}(h:aw A B vs T)(ht:dN oO N nF A C)(hB:B<N):aw C B vs T:=ht.block B _ h (fun h=>h) (fun hle=>by omega)
theorem ua{M:Nat}{w0:World}(h:Below M w0 A)(ht:dN oO N nF A C)(hN:M≤N)(hM:M≤w0.heap.size):Below M w0 C:=by
 refine⟨ht.os.trans h.os,ht.tape.trans h.tape,ht.output.trans h.output,ae h.size ht.size,fun k hk=>?_⟩;obtain⟨o,ho⟩:∃o,w0.heap[k]?=some o:=⟨w0.heap[k]'(by omega),Array.getElem?_eq_getElem _⟩;have h1:=(h.block k hk).trans ho;rw[ht.block k o h1 (fun h=>h) (fun h=>by omega),ho]
theorem yJ.fH(h:yJ w pf S pre A)(ht:dN oO N nF A C)(hN:w.heap.size+8≤N):yJ w pf S pre C:=by
 obtain⟨l,ey,h1,h2⟩:=h.mp;exact⟨ir h.bf ht (by omega),ir h.r8 ht (by omega),ir h.r9 ht (by omega),ir h.Iu ht (by omega),ir h.sz ht (by omega),⟨l,ey,ht.block _ _ h1 (fun h=>h) (fun hle=>by omega),h2⟩,ir h.mb ht (by omega),h.z,ua h.below ht (by omega) (aa _)⟩
theorem M8.fH(h:M8 w pre A)(ht:dN oO N nF A C)(hN:w.heap.size+8≤N):M8 w pre C:=by
 obtain⟨p,h0,h1,h2⟩:=h.ex;exact⟨⟨p,h0,h1,ir h2 ht (by omega)⟩,ir h.r8 ht (by omega),ir h.r9 ht (by omega),ua h.below ht (by omega) (aa _)⟩
end
theorem wo{w W:World}{tmps:Array Value}{D:Nat}{a b e:Int}{B0 B1 B2:Nat}(hK:W.heap[D]?=some (.deferred (some [])))(hD:w.heap.size≤D)(hb:Qi w W)
  (h0:aw W B0 #[.int .i64 a] 3) (h1:aw W B1 #[.int .i64 b] 3) (h2:aw W B2 #[.int .i64 e] 56)
  (t8:tmps.getD 8 undef=.pointer (some ⟨B0,0,none⟩)) (t9:tmps.getD 9 undef=.pointer (some ⟨B1,0,none⟩)) (t10:tmps.getD 10 undef=.pointer (some ⟨B2,0,none⟩)) {X E:Int} (hX:a=X) (hE:e=E) :
  bodyPostM Fence.wide 5 Tryz.prog Tryz.f15 (fun z w'=>∃m,z=.returned (.tuple #[.int .i64 X,.int .i64 m,.int .i64 E])∧Qi w w') .ret {tmps,defers:=[{target:=.collected D,args:=#[]}]} W:=by
 subst hX hE;rw[Array.getD_eq_getD_getElem?] at t8 t9 t10;have hne:∀{B:Nat} {vs:Array Value} {T:TypeId},aw W B vs T→B≠D:=fun h he=>by
  subst he;unfold aw at h;rw[hK] at h
  cases h
 show LeavesInM Fence.wide 5 Tryz.prog Tryz.f15 _ _ _ _ W;refine⟨by simp,.inl ⟨_,_,rfl,run_takeDeferred hK,?_⟩⟩;have q0:=(h0.mod (S:=fun k=>k=D) (w':=W.putObj D (.deferred none)) ⟨rfl,rfl,rfl,by simp,fun k hk hn=>World.putObj_heap_other hn⟩ (hne h0)).cell 0;have q1:=(h1.mod (S:=fun k=>k=D) (w':=W.putObj D (.deferred none)) ⟨rfl,rfl,rfl,by simp,fun k hk hn=>World.putObj_heap_other hn⟩ (hne h1)).cell 0;have q2:=(h2.mod (S:=fun k=>k=D) (w':=W.putObj D (.deferred none)) ⟨rfl,rfl,rfl,by simp,fun k hk hn=>World.putObj_heap_other hn⟩ (hne h2)).cell 0;refine⟨.tuple #[.int .i64 a,.int .i64 b,.int .i64 e],?_,b,rfl,⟨hb.os,hb.tape,hb.output,ae hb.size (by simp),fun k hk=>(World.putObj_heap_other (fun e=>by omega)).trans (hb.block k hk)⟩⟩;simp[results,Tryz.results15,go_sem,t8,t9,t10,q0,q1,q2]
theorem BU(w:World):(zeroValue 3).run Tryz.prog w=.ok (.int .i64 0) w:=by kernel_rfl
section
variable{w:World}{pf:Nat}{S:Fs}{pre:List (Sp×Int)}{W:World}
theorem yJ.bad(h:yJ w pf S pre W)(x:Sp){xe:Int}(he:xe≠0){N:Nat}(hN:w.heap.size+8≤N) :
  KeepsFrom N W (((W.setCell ⟨w.heap.size+1+1,0,none⟩ (.int .i64 0)).setCell ⟨w.heap.size+1+1+1,0,none⟩ (.int .i64 0)).setCell ⟨w.heap.size+1+1+1+1,0,none⟩ (.int .i64 xe))∧
  M8 w (pre++[(x,xe)]) (((W.setCell ⟨w.heap.size+1+1,0,none⟩ (.int .i64 0)).setCell ⟨w.heap.size+1+1+1,0,none⟩ (.int .i64 0)).setCell ⟨w.heap.size+1+1+1+1,0,none⟩ (.int .i64 xe)):=by
 have hm:=(((Mod.refl (fun k=>k<N) W).setCell (a:=⟨w.heap.size+1+1,0,none⟩) (.inl (show w.heap.size+1+1<N by omega)) (.int .i64 0)).setCell (a:=⟨w.heap.size+1+1+1,0,none⟩) (.inl (show w.heap.size+1+1+1<N by omega)) (.int .i64 0)).setCell (a:=⟨w.heap.size+1+1+1+1,0,none⟩) (.inl (show w.heap.size+1+1+1+1<N by omega)) (.int .i64 xe);refine⟨ou hm (fun k hk=>hk),⟨_,List.mem_append_right _ (List.mem_singleton.2 rfl),he,?_⟩,?_,?_,((h.below.setCell (p:=⟨w.heap.size+1+1,0,none⟩) (show w.heap.size≤w.heap.size+1+1 by omega) _).setCell (p:=⟨w.heap.size+1+1+1,0,none⟩) (show w.heap.size≤w.heap.size+1+1+1 by omega) _).setCell (p:=⟨w.heap.size+1+1+1+1,0,none⟩) (show w.heap.size≤w.heap.size+1+1+1+1 by omega) _⟩
 ·exact((h.Iu.setOther _ _ (by simp<;>omega)).setOther _ _ (by simp<;>omega)).set 0 _
 ·exact((h.r8.set 0 _).setOther _ _ (by simp<;>omega)).setOther _ _ (by simp<;>omega)
 ·exact((h.r9.setOther _ _ (by simp<;>omega)).set 0 _).setOther _ _ (by simp<;>omega)
theorem yJ.fin(h:yJ w pf S pre W)(s m:Int){N:Nat}(hN:w.heap.size+8≤N) :
  Mod (fun k=>k<N) W (((W.setCell ⟨w.heap.size+1+1,0,none⟩ (.int .i64 s)).setCell ⟨w.heap.size+1+1+1,0,none⟩ (.int .i64 m)).setCell ⟨w.heap.size+1+1+1+1,0,none⟩ (.int .i64 0))∧
  aw (((W.setCell ⟨w.heap.size+1+1,0,none⟩ (.int .i64 s)).setCell ⟨w.heap.size+1+1+1,0,none⟩ (.int .i64 m)).setCell ⟨w.heap.size+1+1+1+1,0,none⟩ (.int .i64 0)) (w.heap.size+1+1) #[.int .i64 s] 3∧
  aw (((W.setCell ⟨w.heap.size+1+1,0,none⟩ (.int .i64 s)).setCell ⟨w.heap.size+1+1+1,0,none⟩ (.int .i64 m)).setCell ⟨w.heap.size+1+1+1+1,0,none⟩ (.int .i64 0)) (w.heap.size+1+1+1) #[.int .i64 m] 3∧
  aw (((W.setCell ⟨w.heap.size+1+1,0,none⟩ (.int .i64 s)).setCell ⟨w.heap.size+1+1+1,0,none⟩ (.int .i64 m)).setCell ⟨w.heap.size+1+1+1+1,0,none⟩ (.int .i64 0)) (w.heap.size+1+1+1+1) #[.int .i64 0] 56∧
  Qi w (((W.setCell ⟨w.heap.size+1+1,0,none⟩ (.int .i64 s)).setCell ⟨w.heap.size+1+1+1,0,none⟩ (.int .i64 m)).setCell ⟨w.heap.size+1+1+1+1,0,none⟩ (.int .i64 0)):=by
 refine⟨(((Mod.refl (fun k=>k<N) W).setCell (a:=⟨w.heap.size+1+1,0,none⟩) (.inl (show w.heap.size+1+1<N by omega)) _).setCell (a:=⟨w.heap.size+1+1+1,0,none⟩) (.inl (show w.heap.size+1+1+1<N by omega)) _).setCell (a:=⟨w.heap.size+1+1+1+1,0,none⟩) (.inl (show w.heap.size+1+1+1+1<N by omega)) _,?_,?_,?_,
  ((h.below.setCell (p:=⟨w.heap.size+1+1,0,none⟩) (show w.heap.size≤w.heap.size+1+1 by omega) _).setCell (p:=⟨w.heap.size+1+1+1,0,none⟩) (show w.heap.size≤w.heap.size+1+1+1 by omega) _).setCell (p:=⟨w.heap.size+1+1+1+1,0,none⟩) (show w.heap.size≤w.heap.size+1+1+1+1 by omega) _⟩
 ·exact((h.r8.set 0 _).setOther _ _ (by simp<;>omega)).setOther _ _ (by simp<;>omega)
 ·exact((h.r9.setOther _ _ (by simp<;>omega)).set 0 _).setOther _ _ (by simp<;>omega)
 ·exact((h.Iu.setOther _ _ (by simp<;>omega)).setOther _ _ (by simp<;>omega)).set 0 _
theorem tP{x:Sp}:x.no∈pre.map (·.1.no)↔x.no∈(pre.map (·.1)).map (·.no):=by rw[List.map_map];rfl
theorem yJ.old(h:yJ w pf S pre W){x:Sp}(hx:x.no∈pre.map (·.1.no)):∃q:Nat,1≤q∧q≤pre.length∧(Instr.lookup 103 (.map (some (w.heap.size+1+1+1+1+1+1))) (.int .i64 x.no) false).run Tryz.prog W=.ok (.int .i64 q) W∧
  ∃W1,(Instr.mapUpdate 103 (.map (some (w.heap.size+1+1+1+1+1+1))) (.int .i64 x.no) (.int .i64 ((q:Int)+1))).run Tryz.prog W=.ok () W1∧(Instr.lookup 103 (.map (some (w.heap.size+1+1+1+1+1+1))) (.int .i64 x.no) false).run Tryz.prog W1=.ok (.int .i64 ((q:Int)+1)) W1∧
   yJ w pf S (pre++[(x,0)]) W1∧(∀B vs T,aw W B vs T→aw W1 B vs T)∧Mod (fun k=>k=w.heap.size+1+1+1+1+1+1) W W1:=by
 obtain⟨l,ey,hM,hF⟩:=h.mp;have hy:=hF.yes hx;have hc:=hF.more hx;have hp:0<(pre.map (·.1.no)).count x.no:=List.count_pos_iff.2 hx;have hle:(pre.map (·.1.no)).count x.no≤pre.length:=by have:=List.count_le_length (a:=x.no) (l:=pre.map (·.1.no));rwa [List.length_map] at this
 have hcnt:((pre.map (·.1.no))++[x.no]).count x.no=(pre.map (·.1.no)).count x.no+1:=by rw[List.count_append];simp
 have hz:=hc.yes (List.mem_append_right _ (List.mem_singleton.2 rfl));rw[hcnt] at hz;generalize (pre.map (·.1.no)).count x.no=q at hy hc hp hle hz;obtain⟨W1,h1,h2,h3,h4⟩:=wB (w:=W) Tryz.underlying103 Tryz.underlying3 hM hF.once (k:=x.no) (.int .i64 ((q:Int)+1)) hy;have hb:Qi w W1:=h.below.trans (h4.below (fun k hk=>by omega) h.below.size);have hsz:=h3 _ _ _ h.sz;have yZ:=mi Tryz.underlying103 Tryz.underlying3 h2 hz;rw[show((q+1:Nat):Int)=(q:Int)+1 from by omega] at yZ;refine⟨q,hp,hle,mi Tryz.underlying103 Tryz.underlying3 hM hy,W1,h1,yZ,?_,h3,h4⟩;refine⟨h3 _ _ _ h.bf,h3 _ _ _ h.r8,h3 _ _ _ h.r9,h3 _ _ _ h.Iu,?_,⟨_,_,h2,?_⟩,h3 _ _ _ h.mb,fun p hp=>?_,hb⟩
 ·rw[List.map_append,List.map_singleton,kb,if_pos (.inr (tP.1 hx)),show((0:Nat):Int)=0 from rfl,Int.add_zero];exact hsz
 ·rw[List.map_append,List.map_singleton];exact hc
 ·rcases List.mem_append.1 hp with hp|hp
  ·exact h.z p hp
  ·rw[List.mem_singleton.1 hp]
theorem yJ.new(h:yJ w pf S pre W){x:Sp}(hx:x.no∉pre.map (·.1.no)):(Instr.lookup 103 (.map (some (w.heap.size+1+1+1+1+1+1))) (.int .i64 x.no) false).run Tryz.prog W=.ok (.int .i64 0) W∧
  ∃W1,(Instr.mapUpdate 103 (.map (some (w.heap.size+1+1+1+1+1+1))) (.int .i64 x.no) (.int .i64 1)).run Tryz.prog W=.ok () W1∧(Instr.lookup 103 (.map (some (w.heap.size+1+1+1+1+1+1))) (.int .i64 x.no) false).run Tryz.prog W1=.ok (.int .i64 1) W1∧
   Qi w W1∧(∀B vs T,aw W B vs T→aw W1 B vs T)∧Mod (fun k=>k=w.heap.size+1+1+1+1+1+1) W W1∧
   ∀V,Qi W1 V→yJ w pf S (pre++[(x,0)]) (V.setCell ⟨w.heap.size+1+1+1+1+1,0,none⟩ (.int .i64 (S.gr [] (pre.map (·.1))+(S.bl x.no).data.size))):=by
 obtain⟨l,ey,hM,hF⟩:=h.mp;obtain⟨W1,h1,h2,h3,h4⟩:=wC (w:=W) Tryz.underlying103 Tryz.underlying3 hM (.int .i64 1) (k:=x.no) (hF.no hx);have hc:=hF.new hx ey;have hcnt:((pre.map (·.1.no))++[x.no]).count x.no=1:=by rw[List.count_append,List.count_eq_zero_of_not_mem hx];simp
 have av:Qi w W1:=h.below.trans (h4.below (fun k hk=>by omega) h.below.size);refine⟨Cv Tryz.underlying103 Tryz.underlying3 hM (hF.no hx) (BU W),W1,h1,?_,av,h3,h4,fun V hV=>?_⟩
 ·refine mi Tryz.underlying103 Tryz.underlying3 h2 ?_;rw[hc.yes (List.mem_append_right _ (List.mem_singleton.2 rfl)),hcnt];exact congrArg (fun z=>some (Value.int .i64 z)) (by omega)
 ·have hk:∀{B:Nat} {vs:Array Value} {T:TypeId},aw W B vs T→B≠w.heap.size+1+1+1+1+1→aw (V.setCell ⟨w.heap.size+1+1+1+1+1,0,none⟩ (.int .i64 (S.gr [] (pre.map (·.1))+(S.bl x.no).data.size))) B vs T:=fun hB hne=>((h3 _ _ _ hB).ak hV).setOther _ _ (by simpa using fun e=>hne e.symm);refine⟨hk h.bf (by omega),hk h.r8 (by omega),hk h.r9 (by omega),hk h.Iu (by omega),?_,⟨_,_,(h2.ak hV).setOther ⟨w.heap.size+1+1+1+1+1,0,none⟩ _ (by simp),?_⟩,hk h.mb (by omega),fun p hp=>?_,(av.trans (hV.mono av.size)).setCell (p:=⟨w.heap.size+1+1+1+1+1,0,none⟩) (show w.heap.size≤w.heap.size+1+1+1+1+1 by omega) _⟩
  ·rw[List.map_append,List.map_singleton,kb,if_neg (by rintro(h0|h0);exact absurd h0 (by simp);exact hx (tP.2 h0))];exact((h3 _ _ _ h.sz).ak hV).set 0 _
  ·rw[List.map_append,List.map_singleton];exact hc
  ·rcases List.mem_append.1 hp with hp|hp
   ·exact h.z p hp
   ·rw[List.mem_singleton.1 hp]
end
theorem LW(w:World)(o0 o1 o2 o3 o4 o5 o6 o7:Obj):((((((((w.alloc o0).alloc o1).alloc o2).alloc o3).alloc o4).alloc o5).alloc o6).alloc o7).heap[w.heap.size]?=some o0∧((((((((w.alloc o0).alloc o1).alloc o2).alloc o3).alloc o4).alloc o5).alloc o6).alloc o7).heap[w.heap.size+1]?=some o1∧((((((((w.alloc o0).alloc o1).alloc o2).alloc o3).alloc o4).alloc o5).alloc o6).alloc o7).heap[w.heap.size+1+1]?=some o2∧((((((((w.alloc o0).alloc o1).alloc o2).alloc o3).alloc o4).alloc o5).alloc o6).alloc o7).heap[w.heap.size+1+1+1]?=some o3∧((((((((w.alloc o0).alloc o1).alloc o2).alloc o3).alloc o4).alloc o5).alloc o6).alloc o7).heap[w.heap.size+1+1+1+1]?=some o4∧((((((((w.alloc o0).alloc o1).alloc o2).alloc o3).alloc o4).alloc o5).alloc o6).alloc o7).heap[w.heap.size+1+1+1+1+1]?=some o5∧((((((((w.alloc o0).alloc o1).alloc o2).alloc o3).alloc o4).alloc o5).alloc o6).alloc o7).heap[w.heap.size+1+1+1+1+1+1]?=some o6∧((((((((w.alloc o0).alloc o1).alloc o2).alloc o3).alloc o4).alloc o5).alloc o6).alloc o7).heap[w.heap.size+1+1+1+1+1+1+1]?=some o7∧Qi w ((((((((w.alloc o0).alloc o1).alloc o2).alloc o3).alloc o4).alloc o5).alloc o6).alloc o7)∧((((((((w.alloc o0).alloc o1).alloc o2).alloc o3).alloc o4).alloc o5).alloc o6).alloc o7).heap.size=w.heap.size+8:=by
 refine⟨?_,?_,?_,?_,?_,?_,?_,?_,aq (aq (aq (aq (aq (aq (aq (aq (Qj w) _) _) _) _) _) _) _) _,by simp⟩
 all_goals
  simp only[uh,World.size_alloc]
  repeat (first|rw[if_neg (by omega)]|exact if_pos trivial|exact if_pos rfl)
theorem LX(w:World)(o0 o1 o2 o3:Obj):((((w.alloc o0).alloc o1).alloc o2).alloc o3).heap[w.heap.size]?=some o0∧((((w.alloc o0).alloc o1).alloc o2).alloc o3).heap[w.heap.size+1]?=some o1∧((((w.alloc o0).alloc o1).alloc o2).alloc o3).heap[w.heap.size+1+1]?=some o2∧((((w.alloc o0).alloc o1).alloc o2).alloc o3).heap[w.heap.size+1+1+1]?=some o3∧Qi w ((((w.alloc o0).alloc o1).alloc o2).alloc o3)∧((((w.alloc o0).alloc o1).alloc o2).alloc o3).heap.size=w.heap.size+4:=by
 refine⟨?_,?_,?_,?_,aq (aq (aq (aq (Qj w) _) _) _) _,by simp⟩
 all_goals
  simp only[uh,World.size_alloc]
  repeat (first|rw[if_neg (by omega)]|exact if_pos trivial|exact if_pos rfl)
section
variable{w w':World}{pf pw:Nat}{R:Rp}{pv:Value}{Y:Sy}
theorem sY(h:bg w pf pw R pv Y){N:Nat}(hF:iY Y.fs N)(hN:N≤900)(hd:Y.dead=false)(c:Cr)(dir:Int)(nm:ByteArray) :
  Calls Tryz.prog 15 #[.pointer (some ⟨pf,0,none⟩),.agg #[.int .i64 c.u,.int .i64 c.g],.int .i64 dir,.string nm] w fun e w'=>∃m,e=.returned (.tuple #[.int .i64 (Y.fs.jB N Y.dead c dir nm).1,.int .i64 m,.int .i64 (Y.fs.jB N Y.dead c dir nm).2])∧Qi w w':=by
 have Ng:=Qf (show Y.fs.jB N Y.dead c dir nm=match(Y.fs.iD N Y.dead c dir nm).2 with|some (_,e)=>(0,e)|none=>(Y.fs.gr [] (Y.fs.iD N Y.dead c dir nm).1,0) from rfl);generalize Y.fs.jB N Y.dead c dir nm=X at Ng⊢;obtain⟨g0,g1,g2,g3,g4,g5,g6,g7,lK,IT⟩:=LW w (.cells #[.pointer (some ⟨pf,0,none⟩)] 35) (.cells #[.int .i64 c.u,.int .i64 c.g] 64) (.cells #[.int .i64 0] 3) (.cells #[.int .i64 0] 3) (.cells #[.int .i64 0] 56) (.cells #[.int .i64 0] 3) (.map #[] 0) (.cells #[.map (some (w.heap.size+1+1+1+1+1+1))] 103);have hmm:=@run_makeMap Tryz.prog;refine(callsIn_wide (n:=5)).1 ?_;refine callsIn_of_wp_marks Tryz.func15 rfl trivial ?_ rfl;simp only[Tryz.ntmps15,List.size_toArray,List.length_cons,List.length_nil,Nat.reduceAdd,Nat.reduceSub,Array.replicate_succ,Array.replicate_zero,List.push_toArray,List.append_toArray,List.nil_append,List.cons_append]
 gi_upto_region 3 with fail
 generalize (((((((w.alloc (.cells #[.pointer (some ⟨pf,0,none⟩)] 35)).alloc (.cells #[.int .i64 c.u,.int .i64 c.g] 64)).alloc (.cells #[.int .i64 0] 3)).alloc (.cells #[.int .i64 0] 3)).alloc (.cells #[.int .i64 0] 56)).alloc (.cells #[.int .i64 0] 3)).alloc (.map #[] 0)).alloc (.cells #[.map (some (w.heap.size+1+1+1+1+1+1))] 103)=w1 at g0 g1 g2 g3 g4 g5 g6 g7 lK IT⊢;clear hmm;have AF:aw w1 w.heap.size #[.pointer (some ⟨pf,0,none⟩)] 35:=g0;have eU:aw w1 (w.heap.size+1) #[.int .i64 c.u,.int .i64 c.g] 64:=g1;have F3:yJ w pf Y.fs [] w1:=⟨g0,g2,g3,g4,g5,⟨[],0,g6,Met.nil⟩,g7,(fun p hp=>by cases hp),lK⟩;have HI1:=Qf (ag F3 (ag eU IT));have HY0:=Qf h;have HK:=Qf (ag hF (ag hN hd));obtain⟨fc,ff,fz⟩:=AF.facts;obtain⟨cc,cf,cz⟩:=eU.facts;clear g0 g1 g2 g3 g4 g5 g6 g7 lK IT F3 h hF hN hd AF eU;gi_wp2;refine⟨trivial,?_⟩;refine(callsIn_wide.2 (BZ pf c dir nm w1)).mono ?_;rintro e W0 ⟨rfl,hW0⟩;clear fc ff fz cc cf cz;obtain⟨k0,k1,k2,k3,cH,sm⟩:=LX w1 (.cells #[.pointer (some ⟨pf,0,none⟩)] 35) (.cells #[.int .i64 c.u,.int .i64 c.g] 64) (.cells #[.int .i64 dir] 3) (.cells #[.string nm] 9);rw[←hW0] at k0 k1 k2 k3 cH sm;clear hW0;have je:=HI1.o.2.2;have BF:yJ w pf Y.fs [] W0:=HI1.o.1.fH (N:=w1.heap.size) (kC cH) (by omega);have hC0:=HI1.o.2.1.ak cH;have vT:∀k,(k<w.heap.size+2∨(w1.heap.size≤k∧k<w1.heap.size+4))→k<W0.heap.size:=fun k hk=>by omega
 have hDn:∀W,KT (fun k=>k<w.heap.size+2∨(w1.heap.size≤k∧k<w1.heap.size+4)) W0 W→DnW pf pw R pv Y w1.heap.size (w1.heap.size+1) (w1.heap.size+1+1) (w1.heap.size+1+1+1) c dir nm W:=fun W hk=>by
  have hY0:bg W0 pf pw R pv Y:=HY0.o.ak BF.below;refine⟨HY0.o.NM (fun k ij=>(hk.2 k (.inl (by omega))).trans (BF.below.block k ij)) (ae BF.below.size hk.1),?_,?_,?_,?_⟩
  ·exact(hk.2 _ (.inr ⟨by omega,by omega⟩)).trans k0
  ·exact(hk.2 _ (.inr ⟨by omega,by omega⟩)).trans k1
  ·exact(hk.2 _ (.inr ⟨by omega,by omega⟩)).trans k2
  ·exact(hk.2 _ (.inr ⟨by omega,by omega⟩)).trans k3
 have hSq:=AL (M:=fun k=>k=w.heap.size+1+1+1+1+1∨k=w.heap.size+1+1+1+1+1+1) HK.o.1 HK.o.2.1 HK.o.2.2 vT hDn (5-1) (by omega);have HWL:=Qf (Ep HK.o.1 Y.dead c dir nm);have P4:=Qf (fun p=>Er (S:=Y.fs) (N:=N) (d:=Y.dead) (c:=c) (dir:=dir) (n:=nm) (p:=p));generalize Y.fs.iD N Y.dead c dir nm=wk at hSq HWL Ng P4;have P1:=Qf BF;have HC0:=Qf hC0;clear BF hC0 k0 k1 k2 k3 hDn;have gS:=Qf (ag je sm);clear je sm;gi_wp2;have je:=gS.o.1;have sm:=gS.o.2;refine' wi (M:=fun k=>k=w.heap.size+1+1+1+1+1∨k=w.heap.size+1+1+1+1+1+1) (T:=fun k=>k<w.heap.size+2∨(w1.heap.size≤k∧k<w1.heap.size+4)) rfl (by omega) (gf:=70) (lb:=#[.pointer (some ⟨w1.heap.size,0,none⟩),.pointer (some ⟨w1.heap.size+1,0,none⟩),.pointer (some ⟨w1.heap.size+1+1,0,none⟩),.pointer (some ⟨w1.heap.size+1+1+1,0,none⟩)]) rfl trivial (enters_of Tryz.func70 (by kernel_rfl) rfl)
  hSq (fun k hk=>by omega) vT (fun k hk hm=>by omega) (KT.refl _ _) (fun _=>rfl)
  (fun pre W=>yJ w pf Y.fs pre W)
  (fun c pre W=>c=.ret∧M8 w pre W)
  (fun pre A C h ht=>yJ.fH h ht (by omega)) (fun c pre A C h ht=>⟨h.1,M8.fH h.2 ht (by omega)⟩) P1.o _ (fun x=>.cells #[.int .i64 x.1.dir,.string x.1.name,.int .i64 x.1.no,.int .i64 x.1.depth] 108) ?assign ?body ?done ?stop
 case assign=>
  intro L x b W K hb hK;have HB:=Qf hb;clear hb;dsimp only[Sp.v];gi_wp2;rw[HB.o];exact hK
 case body=>
  rintro L pre x b W hL hLb lK ho hI hv;obtain⟨x,xe⟩:=x;have hbx:aw W b #[.int .i64 x.dir,.string x.name,.int .i64 x.no,.int .i64 x.depth] 108:=ho;have hWsz:W0.heap.size≤W.heap.size:=by omega
  have HI:=Qf hI;have HBx:=Qf (ag hbx (ag hL (ag hLb hWsz)));have hlen:pre.length≤1000000:=by
   have h1:=hv.length_le;have h2:(dH wk).length≤wk.1.length+1:=by
    unfold dH;rw[List.length_append,List.length_map]
    cases wk.2 with
    |none=>simp
    |some p=>simp
   have h3:=HWL.o;unfold Fs.wP at h3;have h4:=Fg HK.o.1.ok;have h5:(N+1)*Y.fs.ns.length≤901*900:=Nat.mul_le_mul (by have:=HK.o.2.1;omega) (by have:=HK.o.2.1;omega);rw[List.length_append] at h1;omega
  obtain⟨xc,xf,xz⟩:=hbx.facts;clear hv ho hbx;by_cases he:xe≠0
  ·obtain⟨c8,f8,z8⟩:=hI.r8.facts;obtain⟨c9,f9,z9⟩:=hI.r9.facts;obtain⟨M7,f10,z10⟩:=hI.Iu.facts;have hve:(xe != 0)=true:=by simpa using he
   have HE:=Qf he;clear he hI hlen;gi_wp2;obtain⟨k1,k2⟩:=HI.o.bad x HE.o (N:=W0.heap.size) (by have:=gS.o;omega);exact⟨k1,rfl,k2⟩
  ·obtain rfl:xe=0:=by simpa using he
   clear he;obtain⟨cf,ff,zf⟩:=hI.bf.facts;obtain⟨cm,fm,zm⟩:=hI.mb.facts;by_cases hx:x.no∈pre.map (·.1.no)
   ·obtain⟨q,Ah,xJ,pV,W1,hmu,yZ,F3,h3,h4⟩:=HI.o.old hx;have av:=h3 _ _ _ HBx.o.1;obtain⟨xc1,xf1,xz1⟩:=av.facts;obtain⟨cm1,fm1,zm1⟩:=(h3 _ _ _ hI.mb).facts;have HF:=Qf (ag F3 h4);have Oi:q≤1000000:=by omega
    clear hx hI F3 h3 h4 av hlen xJ;gi_wp2;exact⟨ou HF.o.2 (fun k hk=>by have:=gS.o;omega),HF.o.2.mono (fun k hk=>.inr hk),HF.o.1⟩
   ·obtain⟨pV,W1,hmu,yZ,hbl,h3,h4,hfin⟩:=HI.o.new hx;have av:=h3 _ _ _ HBx.o.1;have gY:=h3 _ _ _ hI.bf;have je:=h3 _ _ _ hI.sz;obtain⟨xc1,xf1,xz1⟩:=av.facts;obtain⟨cm1,fm1,zm1⟩:=(h3 _ _ _ hI.mb).facts;obtain⟨cf1,ff1,zf1⟩:=gY.facts;have HF:=Qf (ag hfin (ag h4 (ag hbl je)));have eF:=HY0.o.ak hbl;have ji:=Qf (jZ eF HK.o.1.ok HK.o.2.2 x.no);obtain⟨sm,hs1'⟩:=FG HK.o.1.ok (by have:=Fg HK.o.1.ok;have:=HK.o.2.1;omega) (pre.map (·.1));have ee:((Y.fs.bl x.no).data.size:Int)≤1048576:=by
     cases hg:Y.fs.get x.no with
     |none=>rw[iB hg];decide
     |some a=>rw[dE hg];have:=(HK.o.1.ok.get hg).1.data;omega
    generalize Y.fs.bl x.no=a at ji ee HF;generalize Y.fs.gr [] (pre.map (·.1))=sv at sm hs1' HF;clear hx hI h3 h4 av gY je hlen hfin hbl eF;gi_wp2;refine⟨trivial,?_⟩;refine(CallsIn.inRound L (callsIn_wide.2 ji.o)).mono ?_;rintro e V ⟨rfl,hV⟩;have hA:=aw.new V #[.int .i64 a.no,.int .i64 a.dev,.int .i64 a.kind,.int .i64 a.mode,.int .i64 a.uid,.int .i64 a.gid,.int .i64 a.ao,.int .i64 a.data.size,.int .i64 a.mtime,.int .i64 a.ctime] 67;have gu:=aq hV (.cells #[.int .i64 a.no,.int .i64 a.dev,.int .i64 a.kind,.int .i64 a.mode,.int .i64 a.uid,.int .i64 a.gid,.int .i64 a.ao,.int .i64 a.data.size,.int .i64 a.mtime,.int .i64 a.ctime] 67)
    gi_upto_region 11 with fail
    generalize V.alloc _=V2 at hA gu⊢;have hsV:=HF.o.2.2.2.ak gu;obtain⟨cs,fs,zs⟩:=hsV.facts;obtain⟨ac,af,az⟩:=hA.facts;have HBA:=Qf gu;clear hA gu hV hsV;gi_wp2;have hmf:=(((HF.o.2.1.mono (fun k hk=>.inr hk)).trans (Mod.ar (S:=fun k=>k=w.heap.size+1+1+1+1+1∨k=w.heap.size+1+1+1+1+1+1) HBA.o))).setCell (a:=⟨w.heap.size+1+1+1+1+1,0,none⟩) (.inl (.inl rfl)) (.int .i64 (sv+a.data.size));exact⟨ou hmf (fun k hk=>by have:=gS.o;omega),hmf,HF.o.1 _ HBA.o⟩
 case done=>
  intro D xs W hD hxs hI hK;subst hxs;have hnone:wk.2=none:=by
   cases hw:wk.2 with
   |none=>rfl
   |some p=>exact absurd (hI.z p (Ey hw)) (P4.o p hw)
  have hX:X=(Y.fs.gr [] ((dH wk).map (·.1)),0):=by rw[Ng.o,hnone,EB hnone]
  obtain⟨l,ey,hM,hF⟩:=hI.mp;have HI:=Qf hI;have HX:=Qf hX;have Nw:=Qf (ag hK (ag hD sm));have hln:=Bh Tryz.underlying103 hM 3;obtain⟨c8,f8,z8⟩:=hI.r8.facts;obtain⟨c9,f9,z9⟩:=hI.r9.facts;obtain⟨M7,f10,z10⟩:=hI.Iu.facts;obtain⟨M6,f11,z11⟩:=hI.sz.facts;obtain⟨c12,f12,z12⟩:=hI.mb.facts;clear hI hX hnone hF hM hK;generalize Y.fs.gr [] ((dH wk).map (·.1))=sv at HX HI M6;dsimp only;gi_wp2;have MY:=Nw.o.2.1;have Jl:=Nw.o.2.2;have MX:=gS.o.1;obtain⟨k1,k2,k3,k4,k5⟩:=HI.o.fin sv l.length (N:=D) (by omega);exact wo ((k1.block D (Array.getElem?_eq_some_iff.1 Nw.o.1).1 (by omega)).trans Nw.o.1) (by omega) k5 k2 k3 k4 rfl rfl rfl (by rw[HX.o]) (by rw[HX.o])
 case stop=>
  rintro D c pre W hD ⟨m,hm⟩ ⟨rfl,hX⟩ hK;obtain⟨p,h1,h2,h3⟩:=hX.ex;have hw:wk.2=some p:=Cf (by rw[hm] at h1;exact List.mem_of_mem_take h1) h2;have hXe:X=(0,p.2):=by rw[Ng.o,hw]
  have HX:=Qf hX;dsimp only;clear hX;gi_wp2;exact wo hK (by omega) HX.o.below HX.o.r8 HX.o.r9 h3 rfl rfl rfl (by rw[hXe]) (by rw[hXe])
end
end
section
open Go.RowKit
def uY(o:Obj):Bool:=match o with | .cells ..=>false | .map ..=>false|_=>true
def vG(B:Nat)(W W':World):Prop:=∀(k:Nat) (o:Obj),B≤k→W.heap[k]?=some o→uY o=true→W'.heap[k]?=some o
def NY{α:Type}(B:Nat)(Kp:World→World→Prop)(I:List α→World→Prop)(Ix:Code→List α→World→Prop)(xs:List α)(W:World):Exit→Act→World→Prop
 | .normal,_,W'=>vG B W W'∧Kp W W'∧I xs W'
 | .ret,_,W'=>vG B W W'∧Ix .ret xs W'
 | .exit id,_,W'=>vG B W W'∧Ix (.exit id) xs W'
 | .goto t,_,W'=>vG B W W'∧Ix (.goto t) xs W'
 | .panic _,_,_=>False
 | .outgrown,_,_=>False
def SeqV{α:Type}(T:Nat→Prop)(F:Fence)(n:Nat)(P:Program)(g:Nat)(lb:Array Value)(encs:α→Array Value)(S Sp:List α→Prop)(V:List α→α→Prop)(w:World):Prop:=
 ∀(l:Nat) (J Jx:List α→World→Prop) (W:World),KT T w W→w.heap.size≤W.heap.size→yW oO W.heap.size uY J→yW oO W.heap.size uY Jx→
  (∀pre x W1,J pre W1→V pre x→YieldAt F (n-1) P l (encs x) W1 fun e W'=>
   (e=.returned (.bool true)∧J (pre++[x]) W'∧KT T W1 W')∨(e=.returned (.bool false)∧Jx (pre++[x]) W'))→
  J [] W→
  CallsIn F n P g (#[.func (.yield l) #[] #[]]++lb) W fun e W'=>(∃v,e=.returned v)∧((∃xs,S xs∧J xs W')∨(∃pre,Sp pre∧Jx pre W'))
end
section
open Go.RowKit Go.Shelf
attribute [local go_sem] Oper.semAt_some
end
section
open Go.RowKit Go.Shelf
attribute [local go_sem] Oper.semAt_some
def strR(cs:List Value)(s:ByteArray):Prop:=cs=[.string s]∧s.size≤9223372036854775807
def Qd(base:ByteArray)(xs:List ByteArray)(e:Ending):Prop:=
 (∃m,m<1000∧Fe base ((m:Nat)+1)∉xs∧(∀j<m,Fe base ((j:Nat)+1)∈xs)∧e=.returned (.tuple #[.string (Fe base (m+1)),.bool true]))∨
 ((∀j<1000,Fe base ((j:Nat)+1)∈xs)∧e=.returned (.tuple #[.string ByteArray.empty,.bool false]))
end
section
open Go.RowKit
def KL(o:Obj):Bool:=match o with
 | .cells _ t _=>t==46||t==89||t==194||t==98||t==35||t==42
 | .map _ _=>true
 |_=>false
def TK(w:World)(k:Nat):Prop:=∃o,w.heap[k]?=some o∧KL o=true
end
section
open Go.RowKit Go.Shelf
attribute [local go_sem] Oper.semAt_some
theorem DL(n:ByteArray)(hn:n.size≤1000)(w:World):Calls Tryz.prog 30 #[.string n] w fun e w'=>e=.returned (.string (n++dm))∧w=w':=by
 have hz:¬9223372036854775807<n.size+10:=by omega
 unfold dm;go_enter Tryz.func30,Tryz.ntmps30;go_wp2_with fail;go_ret;exact⟨rfl,rfl⟩
section
variable{w w' A B:World}{pf pw:Nat}{R:Rp}{pv:Value}{Y Z:Sy}{N:Nat}
structure NmI(w:World)(pf pw:Nat)(R:Rp)(pv:Value)(u:Us)(x:Cn)(text:ByteArray)(bc:Nat)(Z:Sy)(W:World):Prop where
 g:gF w W pf pw R pv Z
 f:aw W w.heap.size #[.pointer (some ⟨pf,0,none⟩)] 35
 x:aw W (w.heap.size+1+1) #[.string x.path,.int .i64 x.dir,.int .i64 x.info,.int .i64 x.files,.int .i64 x.out,.int .i64 x.jm,.string x.top] 48
 t:aw W (w.heap.size+1+1+1) #[.string text] 9
 c:aw W bc #[.int .i64 u.u,.int .i64 u.g] 64
 o:aw W (w.heap.size+1+1+1+1) #[.string ByteArray.empty] 9
 e:aw W (w.heap.size+1+1+1+1+1) #[.int .i64 0] 56
section
variable{u:Us}{x:Cn}{text:ByteArray}{bc:Nat}
end
end
end
end Go.Proofs.YtabbjaomlmnnhaaGreat
