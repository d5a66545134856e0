import Derived.Test.YtbndfmkgamdgeaaGreatDoorSO1
import Derived.Test.YtbndfmkgamdgeaaGreatDoorSO2
import Derived.Test.YtbndfmkgamdgeaaGreatDoorSO5
import Derived.Test.YtbndfmkgamdgeaaGreatDoorSO6
import Derived.Test.YtbndfmkgamdgeaaGreatDoorSO7
import Derived.Test.YtbndfmkgamdgeaaGreatDoorSO8
import Derived.Test.YtbndfmkgamdgeaaGreatDoorSO10
import Derived.Test.YtbndfmkgamdgeaaGreatDoorSO11
import Derived.Test.YtbndfmkgamdgeaaGreatDoorSO12
import Derived.Test.YtbndfmkgamdgeaaGreatDoorSO13
import Derived.Test.YtbndfmkgamdgeaaGreatDoorSO16
import Derived.Test.YtbndfmkgamdgeaaGreatDoorSO25
import Derived.Test.YtbndfmkgamdgeaaGreatDoorSO28
import Derived.Test.YtbndfmkgamdgeaaGreatDoorSO32
import Derived.Test.YtbndfmkgamdgeaaGreatDoorSO38
import Derived.Test.YtbndfmkgamdgeaaGreatDoorSO39
set_option linter.unusedVariables false
set_option linter.unusedSimpArgs false
set_option maxRecDepth 100000
set_option maxHeartbeats 16000000
namespace Go.Proofs.YtbndfmkgamdgeaaGreatDoor
section
open Go.RowKit
theorem OSp.app5 {w:World} {base:Nat} {v:Value} {l:List Sp} (h:OSp w base v l) (x:Sp) (hn:l.length≤1000000) (hb:base≤w.heap.size) :
  ∃ g cap W,(Builtin.append_ #[182,182] 182 #[v,.slice (some ⟨w.heap.size,0,none⟩) 1 1]).run Tryz.prog (w.alloc (.cells #[.int .i64 x.dir,.string x.name,.int .i64 x.no,.int .i64 x.depth] 113))=.ok (.slice (some ⟨g,0,none⟩) (l.length+1) cap) W∧
   OSp W base (.slice (some ⟨g,0,none⟩) (l.length+1) cap) (l ++ [x])∧Mod (fun k=>v.ownBlock=some k) w W∧(v.ownBlock=some g∨w.heap.size<g):=by
 obtain⟨g,cap,W,h1,h2,h3,h4⟩:=own_app1 (SE:=182) Tryz.underlying182 sp_info rfl (by decide) h (spC x) rfl (by intro u hu;simp [spC] at hu;rcases hu with rfl | rfl | rfl | rfl <;> rfl) hn (by decide) hb;refine ⟨g,cap,W,h1,?_,h3,h4⟩;unfold OSp;rw [List.length_append,List.length_singleton,List.flatMap_append];exact (by simpa using h2)
theorem OSp.one {w:World} {base b:Nat} {x:Sp} (hb:base≤b) (h:Blk w b #[.int .i64 x.dir,.string x.name,.int .i64 x.no,.int .i64 x.depth] 113):OSp w base (.slice (some ⟨b,0,none⟩) 1 1) [x]:=
 ⟨rfl,.inr ⟨b,1,_,rfl,hb,h,Nat.le_refl _,by unfold maxLen;omega,rfl,rfl⟩⟩
theorem wdown_any (pf:Nat) (c:Cr) (dir:Int) (n:ByteArray) (w:World) :
  Calls Tryz.prog 42 #[.pointer (some ⟨pf,0,none⟩),.agg #[.int .i64 c.u,.int .i64 c.g],.int .i64 dir,.string n] w fun e w'=>
   e=.returned (.func (.func 89) #[] #[.pointer (some ⟨w.heap.size,0,none⟩),.pointer (some ⟨w.heap.size+1,0,none⟩),.pointer (some ⟨w.heap.size+1+1,0,none⟩),.pointer (some ⟨w.heap.size+1+1+1,0,none⟩)])∧
   w'=(((w.alloc (.cells #[.pointer (some ⟨pf,0,none⟩)] 40)).alloc (.cells #[.int .i64 c.u,.int .i64 c.g] 54)).alloc (.cells #[.int .i64 dir] 3)).alloc (.cells #[.string n] 9):=by
 go_enter Tryz.func42,Tryz.ntmps42;go_wp2_with fail;go_ret;exact⟨rfl,rfl⟩
structure DnW (pf pw:Nat) (R:Rp) (pv:Value) (Y:Sy) (Bf Bc Bd Bn:Nat) (c:Cr) (dir:Int) (nm:ByteArray) (w:World):Prop where
 y:SyAt w pf pw R pv Y
 f:Blk w Bf #[.pointer (some ⟨pf,0,none⟩)] 40
 c:Blk w Bc #[.int .i64 c.u,.int .i64 c.g] 54
 d:Blk w Bd #[.int .i64 dir] 3
 n:Blk w Bn #[.string nm] 9
theorem kt_below {T:Nat→Prop} {B:Nat} {A C:World} (h:Below B A C) (hT:∀ k,T k→k<B):KT T A C:=⟨h.size,fun k hk=>h.block k (hT k hk)⟩
theorem turn_any {B:Nat} {A C:World} (h:Below B A C):Turn NoT B anyO A C:=
 ⟨h.os,h.tape,h.output,h.size,fun k o hk _ hp=>by
  by_cases hlt:k<B
  ·exact (h.block k hlt).trans hk
  ·exact absurd (hp (by omega)) (by simp [anyO])⟩
structure DnI (S:Fs) (N:Nat) (c:Cr) (T:Nat→Prop) (w W:World) (J:List (Sp×Int)→World→Prop) (L:List (Sp×Int)) (Bx f:Nat) (t7 t8:Value) (wr:World):Prop where
 ex:∃ (e:Int) (stk:List Sp) (pre:List (Sp×Int)) (x0:Sp),t7=.int .i64 e∧OSp wr (Bx+1) t8 stk.reverse∧Blk wr Bx #[.int .i64 x0.dir,.string x0.name,.int .i64 x0.no,.int .i64 x0.depth] 113∧J pre wr∧
  (e=0∧L=pre ++ toldL (S.downL c f stk)∧S.muL N stk≤f∧S.StkP N (N*N) stk∨e≠0∧L=pre ++ [(x0,e)])
 kt:KT T w wr
 size:W.heap.size≤wr.heap.size
structure DnR (T:Nat→Prop) (w W:World) (J:List (Sp×Int)→World→Prop) (Bx P:Nat) (lv:Value) (ql t:List Sp) (x:Sp) (pre:List (Sp×Int)) (j:Nat) (t8:Value) (wr:World):Prop where
 o:OSp wr (Bx+1) t8 (t.reverse ++ (ql.drop j).reverse)
 q:OSp wr P lv ql
 ap:∀ k,t8.ownBlock=some k→lv.ownBlock≠some k
 x:Blk wr Bx #[.int .i64 x.dir,.string x.name,.int .i64 x.no,.int .i64 x.depth] 113
 jp:J pre wr
 kt:KT T w wr
 size:W.heap.size≤wr.heap.size
theorem DnR.push {T:Nat→Prop} {w W:World} {J:List (Sp×Int)→World→Prop} {Bx P:Nat} {lv:Value} {ql t:List Sp} {x:Sp} {pre:List (Sp×Int)} {j:Nat} {t8:Value} {wr:World} (h:DnR T w W J Bx P lv ql t x pre (j+1) t8 wr) (hj:j<ql.length)
  (hJ:AbT NoT W.heap.size anyO J) (hT:∀ k,T k→k<W.heap.size) (hB:W.heap.size≤Bx) (hn:t.length+ql.length≤1000000) :
  ∃ v W',(Builtin.append_ #[182,182] 182 #[t8,.slice (some ⟨wr.heap.size,0,none⟩) 1 1]).run Tryz.prog (wr.alloc (.cells #[.int .i64 ql[j].dir,.string ql[j].name,.int .i64 ql[j].no,.int .i64 ql[j].depth] 113))=.ok v W'∧
   DnR T w W J Bx P lv ql t x pre j v W':=by
 have hx:=h.x.lt;have hlen:(t.reverse ++ (ql.drop (j+1)).reverse).length≤1000000:=by
  rw [List.length_append,List.length_reverse,List.length_reverse,List.length_drop];omega
 obtain⟨g,cap,W',h1,h2,h3,h4⟩:=h.o.app5 ql[j] hlen (by omega);have hb:Below (Bx+1) wr W':=h3.below (fun k hk=>(own_obj1 h.o hk).1) (by omega);refine ⟨_,W',h1,?_,own_mod h.q h3 (fun k hk=>h.ap k hk),fun k hk he=>?_,h.x.mod h3 (fun hk=>by have:=(own_obj1 h.o hk).1;omega),hJ _ _ _ h.jp (turn_any (hb.mono (by omega))),h.kt.trans (kt_below (hb.mono (by omega)) hT),Nat.le_trans h.size hb.size⟩
 ·rw [List.append_assoc] at h2;rw [List.drop_eq_getElem_cons hj,List.reverse_cons];exact h2
 ·simp only [Value.ownBlock,Option.some.injEq] at hk;subst hk;rcases h4 with h4 | h4
  ·exact h.ap _ h4 he
  ·obtain ⟨-,cur,hc⟩:=own_obj1 h.q he;have:=(Array.getElem?_eq_some_iff.1 hc).1;omega
theorem down_stops {pf pw:Nat} {R:Rp} {pv:Value} {Y:Sy} {Bf Bc Bd Bn:Nat} {c:Cr} {dir:Int} {nm:ByteArray} {w:World} {M T:Nat→Prop} {N:Nat} (hF:Fine Y.fs N) (hN:N≤900) (hd:Y.dead=false)
  (hTl:∀ k,T k→k<w.heap.size) (hT:∀ W,KT T w W→DnW pf pw R pv Y Bf Bc Bd Bn c dir nm W) (n:Nat) (hn:1≤n) :
  SeqW M T Fence.wide n Tryz.prog 89 #[.pointer (some ⟨Bf,0,none⟩),.pointer (some ⟨Bc,0,none⟩),.pointer (some ⟨Bd,0,none⟩),.pointer (some ⟨Bn,0,none⟩)] (fun x:Sp×Int=>#[x.1.v,.int .i64 x.2])
   (fun xs=>xs=toldL (Y.fs.walkF N Y.dead c dir nm)) (fun pre=>∃ m,pre=(toldL (Y.fs.walkF N Y.dead c dir nm)).take m) (fun pre x=>(pre ++ [x]) <+: toldL (Y.fs.walkF N Y.dead c dir nm)) w:=fun l J Jx W hW hWs hM hl hJ hJx hY h0=>by
 have HT:=Lib.hid hT;have HK:=Lib.hid (And.intro hF (And.intro hN hd));have HM:=Lib.hid (And.intro hM (And.intro hl hW));have HTl:=Lib.hid (fun k hk=>show k<W.heap.size from Nat.lt_of_lt_of_le (hTl k hk) hWs);have HJ:=Lib.hid hJ;have HY:=Lib.hid hY;have H0:=Lib.hid h0;have hD0:=hT W hW;have HF0:=Lib.hid (fun w1 (hb1:Below W.heap.size W w1)=>wfirst_any (hD0.y.keep hb1) hF.ok (by omega) c dir nm);have HWk:=Lib.hid (show Y.fs.walkF N Y.dead c dir nm=if (Y.fs.lookF Y.dead c dir nm).2≠0 then ([],some (⟨dir,nm,(Y.fs.lookF Y.dead c dir nm).1,0⟩,(Y.fs.lookF Y.dead c dir nm).2))
  else Y.fs.downL c (Y.fs.muL N [⟨dir,nm,(Y.fs.lookF Y.dead c dir nm).1,0⟩]) [⟨dir,nm,(Y.fs.lookF Y.dead c dir nm).1,0⟩] from rfl)
 obtain⟨fc,-,fz⟩:=hD0.f.facts;obtain⟨cc,-,cz⟩:=hD0.c.facts;obtain⟨dc,-,dz⟩:=hD0.d.facts;obtain⟨nc,-,nz⟩:=hD0.n.facts;generalize Y.fs.lookF Y.dead c dir nm=rd at HF0 HWk;obtain⟨k0,e0⟩:=rd;dsimp only [Sp.v] at HWk HF0;generalize Y.fs.walkF N Y.dead c dir nm=wk at HWk HY ⊢;clear hT hF hM hW hJ hJx hY h0 hD0 hTl;refine callsIn_of_wp Tryz.func89 rfl trivial ?_ rfl;simp only [Tryz.ntmps89,List.size_toArray,List.length_cons,List.length_nil,Nat.reduceAdd,Nat.reduceSub,Array.replicate_succ,Array.replicate_zero,List.push_toArray,List.append_toArray,List.nil_append,List.cons_append];gi_wp2;refine ⟨trivial,?_⟩;refine (callsIn_wide.2 (HF0.out _ (Below.refl _ _))).mono ?_;rintro e w1 ⟨rfl,hb1⟩;clear fc fz cc cz dc dz nc nz;have hX1:=Blk.new w1 #[.int .i64 dir,.string nm,.int .i64 k0,.int .i64 0] 113;have hbX:=balloc hb1 (.cells #[.int .i64 dir,.string nm,.int .i64 k0,.int .i64 0] 113);have h1s:=hb1.size
 gi_upto_region 1 with fail
 generalize hBx:w1.heap.size=Bx at hX1 h1s ⊢;generalize hw2:w1.alloc (.cells #[.int .i64 dir,.string nm,.int .i64 k0,.int .i64 0] 113)=w2 at hX1 hbX ⊢;have hs2:w2.heap.size=Bx+1:=by rw [←hw2,World.size_alloc,hBx]
 obtain⟨xc,xf,xz⟩:=hX1.facts;have hX2:=Blk.new w2 #[.int .i64 dir,.string nm,.int .i64 k0,.int .i64 0] 113;have hX3:=hX1.old (.cells #[.int .i64 dir,.string nm,.int .i64 k0,.int .i64 0] 113);have hb2:=balloc hbX (.cells #[.int .i64 dir,.string nm,.int .i64 k0,.int .i64 0] 113);obtain⟨f0,hf0⟩:∃ f,Y.fs.muL N [⟨dir,nm,k0,0⟩]=f:=⟨_,rfl⟩;have hI0:DnI Y.fs N c T w W J (toldL wk) Bx f0 (.int .i64 e0) (.slice (some ⟨w2.heap.size,0,none⟩) 1 1) (w2.alloc (.cells #[.int .i64 dir,.string nm,.int .i64 k0,.int .i64 0] 113)):=by
  refine ⟨⟨e0,[⟨dir,nm,k0,0⟩],[],⟨dir,nm,k0,0⟩,rfl,OSp.one (by omega) hX2,hX3,HJ.out _ _ _ H0.out (turn_any hb2),?_⟩,HM.out.2.2.trans (kt_below hb2 HTl.out),hb2.size⟩;by_cases he:e0=0
  ·refine .inl ⟨he,?_,by rw [hf0];exact Nat.le_refl _,stk_one HK.out.1.ok _⟩;rw [HWk.out,if_neg (by simpa using he),hf0,List.nil_append]
  ·refine .inr ⟨he,?_⟩;rw [HWk.out,if_pos he];rfl
 have HI0:=Lib.hid hI0;clear hI0 hX2 hX3 hb2 hbX hX1 hf0;gi_wp2;clear xc xf xz
 gi_loopg [7,8] f0 (fun gk t7 t8 wr=>DnI Y.fs N c T w W J (toldL wk) Bx gk t7 t8 wr)
 case atStart=>rw [←hs2];exact HI0.out
 case round=>
  obtain⟨⟨e,stk,pre,x0,rfl,hO,hX,hJp,hc⟩,hkt,hsz⟩:=hrel;by_cases he:e=0
  ·subst he;rcases hc.symm with ⟨h,-⟩|⟨-,hL,hmu,hst⟩
   ·exact absurd rfl h
   cases stk with
   | nil=>
    obtain⟨a,cap,rfl,-⟩:=own_form hO;have HL:=Lib.hid (show toldL wk=pre by rw [hL,told_end,List.append_nil]);have HJp:=Lib.hid hJp;clear hL hmu hst hO hX hJp hkt hsz;gi_wp2
    go_end0
    exact⟨⟨_,rfl⟩,.inl (by rw [HL.out];exact HJp.out)⟩
   | cons x t=>
    obtain⟨m,hm⟩:∃ m,t.length=m:=⟨_,rfl⟩;rw [List.reverse_cons] at hO;obtain⟨a,cap,rfl,-⟩:=own_form hO;have hlen:(t.reverse ++ [x]).length=m+1:=by rw [List.length_append,List.length_reverse,hm];rfl
    obtain⟨g,rfl,hgl,hgb,-,hgf,hcap1,hcap2,c0,c1,c2,c3⟩:=OSp.cell hO m (by rw [hlen];omega);have hget:(t.reverse ++ [x])[m]'(by rw [hlen];omega)=x:=by
     rw [List.getElem_append_right (by rw [List.length_reverse];omega)];simp
    rw [hget] at c0 c1 c2 c3;have hless:=OSp.less (by rw [List.length_reverse,hm];rw [hlen] at hO;exact hO);rw [hlen] at hcap1;rw [List.length_reverse,hm] at hless;obtain⟨xc,xf,xz⟩:=hX.facts;obtain⟨f',rfl⟩:∃ f',gk=f'+1:=by
     rw [muL_cons] at hmu;have:0<(N+1) ^ Y.fs.hgt x.no:=Nat.pow_pos (by omega);exact⟨gk - 1,by omega⟩
    have hmm:=stk_len hst;have hNN:N*N≤900*900:=Nat.mul_le_mul HK.out.2.1 HK.out.2.1;rw [List.length_cons,hm] at hmm;have hm9:m≤1000000:=by omega
    have HSt:=Lib.hid (And.intro hL (And.intro hmu (And.intro hst hNN)));have HJp:=Lib.hid hJp;have HO1:=Lib.hid (And.intro hless (And.intro hX (And.intro hkt hsz)));rw [hlen];clear hL hmu hst hNN hmm hO hX hJp hkt hsz hless hget hlen;have hmB:=((((Mod.refl (fun k=>k=Bx) wr).setCell (a:=⟨Bx,0,none⟩) (.inl rfl) (.int .i64 x.dir)).setCell (a:=⟨Bx,1,none⟩) (.inl rfl) (.string x.name)).setCell (a:=⟨Bx,2,none⟩) (.inl rfl) (.int .i64 x.no)).setCell (a:=⟨Bx,3,none⟩) (.inl rfl) (.int .i64 x.depth);have hXP:=HO1.out.2.1.set4 (v0:=.int .i64 x.dir) (v1:=.string x.name) (v2:=.int .i64 x.no) (v3:=.int .i64 x.depth)
    gi_upto_region 5 with fail
    generalize (((wr.setCell ⟨Bx,0,none⟩ (.int .i64 x.dir)).setCell ⟨Bx,1,none⟩ (.string x.name)).setCell ⟨Bx,2,none⟩ (.int .i64 x.no)).setCell ⟨Bx,3,none⟩ (.int .i64 x.depth)=P at hmB hXP ⊢;have hbP:Below W.heap.size wr P:=hmB.below (fun k hk=>by omega) HO1.out.2.2.2;have hktP:=HO1.out.2.2.1.trans (kt_below hbP HTl.out);have hOP:OSp P (Bx+1) (.slice (some ⟨g,0,none⟩) m cap) t.reverse:=own_mod HO1.out.1 hmB (fun k hk he=>by have:=(own_obj1 HO1.out.1 he).1;omega);have hDP:=HT.out P hktP;have HP:=Lib.hid (And.intro hOP (And.intro hXP (And.intro hktP (And.intro (Nat.le_trans HO1.out.2.2.2 hbP.size) (HJ.out _ _ _ HJp.out (turn_any hbP))))));have HIn:=Lib.hid (winto_any hDP.y HK.out.1.ok (by have:=HK.out.2.1;omega) HK.out.2.2 c x);obtain⟨fc,-,fz⟩:=hDP.f.facts;obtain⟨cc,-,cz⟩:=hDP.c.facts;obtain⟨pc,pf',pz⟩:=hXP.facts;have hgP:g<P.heap.size:=Nat.lt_of_lt_of_le hgl hbP.size;clear xc xf xz hmB hXP hbP hktP hOP hDP c0 c1 c2 c3 hgl hgf;have HLe:=Lib.hid (into_less HK.out.1 c x);have HSs:=Lib.hid (stk_step (K:=N*N) HK.out.1 c (x:=x) (t:=t));have HTd:=Lib.hid (told_down (S:=Y.fs) (c:=c) (f:=f') (x:=x) (t:=t));have HTb:=Lib.hid (told_bad (S:=Y.fs) (c:=c) (f:=f') (x:=x) (t:=t));generalize Y.fs.intoF c x=q at HIn HLe HSs HTd HTb;obtain⟨ql,qe⟩:=q;dsimp only at HIn HLe HSs HTd HTb;gi_wp2;refine ⟨trivial,?_⟩;refine (callsIn_wide.2 HIn.out).mono ?_;rintro e w4 ⟨lv,rfl,hO4,hb4⟩;have hX4:=HP.out.2.1.keep hb4;have hkt4:=HP.out.2.2.1.trans (KT.of_below hb4 (fun k hk=>Nat.lt_of_lt_of_le (HTl.out k hk) HP.out.2.2.2.1));have hJ4:=HJ.out _ _ _ HP.out.2.2.2.2 (turn_any (hb4.mono HP.out.2.2.2.1));have H4:=Lib.hid (And.intro (HP.out.1.keep hb4) (And.intro hX4 (And.intro hkt4 (And.intro (Nat.le_trans HP.out.2.2.2.1 hb4.size) (And.intro hO4 hb4.size)))));have HJ4:=Lib.hid hJ4;clear fc fz cc cz pc pf' pz;obtain⟨xc,xf,xz⟩:=hX4.facts;by_cases hq:qe≠0
    ·have HL:=Lib.hid (show toldL wk=pre ++ [(x,qe)] by rw [HSt.out.1,HTb.out hq]);have hv:(qe == 0)=false:=by simpa using hq
     have hv2:(qe != 0)=true:=by simpa using hq
     obtain⟨fn,tmps,assign,body,hy,hR⟩:=HY.out pre (x,qe) w4 HJ4.out (by rw [HL.out];exact List.prefix_refl _);have HR:=Lib.hid hR;dsimp only [Sp.v] at hy;clear hq hR hX4 hkt4 hJ4 hO4 hb4;gi_wp2;refine HR.out.mono ?_;rintro e W3 (⟨rfl,hJ3,hk3,hm3⟩|⟨rfl,hJx3⟩)
     ·have HJ3:=Lib.hid hJ3;clear hJ3 hk3 hm3 hy;gi_wp2
      go_end0
      exact⟨⟨_,rfl⟩,.inl ⟨_,HL.out.symm,HJ3.out⟩⟩
     ·have HJx:=Lib.hid hJx3;clear hJx3 hy;gi_wp2
      go_end0
      exact⟨⟨_,rfl⟩,.inr ⟨_,⟨(toldL wk).length,by rw [List.take_length,HL.out]⟩,HJx.out⟩⟩
    ·obtain rfl:qe=0:=by simpa using hq
     have HMu:=Lib.hid (HLe.out rfl);clear HLe;have HL:=Lib.hid (show toldL wk=pre ++ ((x,0) :: toldL (Y.fs.downL c f' (ql ++ t))) by rw [HSt.out.1,HTd.out rfl]);obtain⟨fn,tmps,assign,body,hy,hR⟩:=HY.out pre (x,0) w4 HJ4.out (by rw [HL.out];exact ⟨toldL (Y.fs.downL c f' (ql ++ t)),by simp⟩);have HR:=Lib.hid hR;dsimp only [Sp.v] at hy;clear hq hR hX4 hkt4 hJ4 hO4 hb4;gi_wp2;refine HR.out.mono ?_;rintro e W3 (⟨rfl,hJ3,hk3,hm3⟩|⟨rfl,hJx3⟩)
     ·obtain ⟨la,lcap,rfl,-⟩:=own_form H4.out.2.2.2.2.1;have hg4:=own_obj1 H4.out.1 (k:=g) rfl;have hR0:DnR T w W J Bx P.heap.size (.slice la ql.length lcap) ql t x (pre ++ [(x,0)]) ql.length (.slice (some ⟨g,0,none⟩) m cap) W3:=by
       have hBW:W.heap.size≤Bx:=h1s;have hMk:∀ k,(M k∨k=l)→k<W.heap.size:=fun k hk=>hk.elim (HM.out.1 k) (fun e=>by rw [e];exact HM.out.2.1);refine ⟨?_,own_mod H4.out.2.2.2.2.1 hm3 (fun k hk he=>by have:=(own_obj1 H4.out.2.2.2.2.1 he).1;have:=hMk k hk;omega),fun k hk he=>?_,H4.out.2.1.mod hm3 (fun hk=>by have:=hMk _ hk;omega),hJ3,H4.out.2.2.1.trans hk3,Nat.le_trans H4.out.2.2.2.1 hm3.size⟩
       ·rw [List.drop_length,List.reverse_nil,List.append_nil];exact own_mod H4.out.1 hm3 (fun k hk he=>by have:=(own_obj1 H4.out.1 he).1;have:=hMk k hk;omega)
       ·simp only [Value.ownBlock,Option.some.injEq] at hk;subst hk;have:=(own_obj1 H4.out.2.2.2.2.1 he).1;omega
      have HR0:=Lib.hid hR0;have hqb:ql.length≤1000000:=by
       have h1:=stk_len (HSs.out HSt.out.2.2.1);have h2:=HSt.out.2.2.2;rw [List.length_append] at h1;omega
      have HQb:=Lib.hid (show t.length+ql.length≤1000000 by
       have h1:=stk_len (HSs.out HSt.out.2.2.1);have h2:=HSt.out.2.2.2;rw [List.length_append] at h1;omega)
      clear hJ3 hk3 hm3 hR0 hg4 xc xf xz hy;gi_wp2
      gi_loopw [8,10] (fun t8 t10 wr=>∃ j:Nat,j≤ql.length∧t10=.int .i64 ((j:Int) - 1)∧DnR T w W J Bx P.heap.size (.slice la ql.length lcap) ql t x (pre ++ [(x,0)]) j t8 wr) (fun _ t10 _=>(intOf t10+1).toNat)
      case atStart=>exact ⟨ql.length,Nat.le_refl _,by first | rfl | go_num,HR0.out⟩
      case round=>
       obtain⟨j,hjl,rfl,hr⟩:=hrel;by_cases hj:0<j
       ·obtain ⟨i,rfl⟩:∃ i,j=i+1:=⟨j - 1,by omega⟩;have hil:i<ql.length:=by omega
        obtain⟨b,rfl,hbl,-,-,-,hc1,hc2,d0,d1,d2,d3⟩:=OSp.cell hr.q i hil;obtain⟨v,W',hrun,hr2⟩:=hr.push hil HJ.out HTl.out h1s HQb.out;have HA:=Lib.hid hrun;have HR2:=Lib.hid hr2;have HIl:=Lib.hid hil;have hi1:((i+1:Nat):Int) - 1=(i:Int):=by omega
        have hi2:((i:Int)+1) - 1=(i:Int):=by omega
        clear hr hrun hr2 hj hjl
        gi_wp2_with (gi_at_builtin;refine wpListIn_app_run1 rfl rfl rfl rfl HA.out ?_)
        go_roundw
        case rel=>exact ⟨i,by have:=HIl.out;omega,by first | rfl | go_num,HR2.out⟩
        case measure=>simp [intOf]
       ·obtain rfl:j=0:=by omega
        have HE:=Lib.hid hr;clear hr hjl hj;gi_wp2
        gi_roundg f'
        case measure=>omega
        case rel=>
         refine ⟨⟨0,ql ++ t,pre ++ [(x,0)],x,rfl,?_,HE.out.x,HE.out.jp,.inl ⟨rfl,?_,?_,HSs.out HSt.out.2.2.1⟩⟩,HE.out.kt,HE.out.size⟩
         ·have:=HE.out.o
          rwa [List.drop_zero,←List.reverse_append] at this
         ·rw [HL.out,List.append_assoc];rfl
         ·have h1:=HSt.out.2.1;have h2:=HMu.out;rw [muL_cons] at h1;rw [muL_app];omega
     ·have HJx:=Lib.hid hJx3;clear hJx3 hy;gi_wp2;exact bodyPost_ret (results_none rfl _ _ _) rfl ⟨⟨_,rfl⟩,.inr ⟨_,prefix_take (by rw [HL.out];exact ⟨toldL (Y.fs.downL c f' (ql ++ t)),by simp⟩),HJx.out⟩⟩
  ·rcases hc with ⟨h,-⟩|⟨-,hL⟩
   ·exact absurd h he
   have HL:=Lib.hid hL;have HJp:=Lib.hid hJp;have hv:(e == 0)=false:=by simpa using he
   have hv2:(e != 0)=true:=by simpa using he
   obtain⟨xc,xf,xz⟩:=hX.facts;obtain⟨fn,tmps,assign,body,hy,hR⟩:=HY.out pre (x0,e) wr HJp.out (by rw [HL.out];exact List.prefix_refl _);have HR:=Lib.hid hR;dsimp only [Sp.v] at hy;clear he hL hJp hkt hsz hO hX hR;gi_wp2;refine HR.out.mono ?_;rintro e W3 (⟨rfl,hJ3,hk3,hm3⟩|⟨rfl,hJx3⟩)
   ·have HJ3:=Lib.hid hJ3;clear hJ3 hk3 hm3 hy;gi_wp2
    go_end0
    exact⟨⟨_,rfl⟩,.inl ⟨_,HL.out.symm,HJ3.out⟩⟩
   ·have HJx:=Lib.hid hJx3;clear hJx3 hy;gi_wp2
    go_end0
    exact⟨⟨_,rfl⟩,.inr ⟨_,⟨(toldL wk).length,by rw [List.take_length,HL.out]⟩,HJx.out⟩⟩
end
end Go.Proofs.YtbndfmkgamdgeaaGreatDoor
