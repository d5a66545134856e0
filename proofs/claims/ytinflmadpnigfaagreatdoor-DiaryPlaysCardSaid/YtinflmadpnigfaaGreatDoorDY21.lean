import Derived.Test.YtinflmadpnigfaaGreatDoorDY20
import Derived.Test.YtinflmadpnigfaaGreatDoorDY6
import Derived.Test.YtinflmadpnigfaaGreatDoorDY19
import Derived.Test.YtinflmadpnigfaaGreatDoorDY18
import Derived.Test.YtinflmadpnigfaaGreatDoorDY13
import Derived.Test.YtinflmadpnigfaaGreatDoorDY9
import Derived.Test.YtinflmadpnigfaaGreatDoorDY11
import Derived.Test.YtinflmadpnigfaaGreatDoorDY5
set_option linter.unusedVariables false
set_option linter.unusedSimpArgs false
set_option maxRecDepth 100000
set_option maxHeartbeats 16000000
namespace Go.Proofs.YtinflmadpnigfaaGreatDoor
section
open Go.RowKit Go.Shelf
attribute [local go_sem] Oper.semAt_some
theorem au.eB{T:Nat→Prop}{N B:Nat}{vs:Array Value}{ty:TypeId}{w w':World}(h:au w B vs ty)(ht:jS T N gV w w')(hT:¬T B):au w' B vs ty:=ht.block B _ h hT (fun _=>rfl)
theorem OG.RI{T:Nat→Prop}{base:Nat}{v:Value}{gs:List Gr}{w w':World}(h:OG w base v gs){N:Nat}(ht:jS T N gV w w')(hT:∀k,T k→k<base):OG w' base v gs:=
 h.eB fun k cur ty hk hc=>ht.block k _ hc (fun h=>by have:=hT k h;omega) (fun _=>rfl)
theorem uS{T:Nat→Prop}{N M:Nat}{w0 w w':World}(h:Below M w0 w)(ht:jS T N gV w w')(hN:M≤N)(hT:∀k,T k→M≤k)(hM:M≤w0.heap.size):Below M w0 w':=by
 refine⟨ht.os.trans h.os,ht.tape.trans h.tape,ht.output.trans h.output,ae h.size ht.size,fun k hk=>?_⟩;obtain⟨o,ho⟩:∃o,w0.heap[k]?=some o:=⟨w0.heap[k]'(by omega),Array.getElem?_eq_getElem _⟩;have h1:=(h.block k hk).trans ho;rw[ht.block k o h1 (fun h=>by have:=hT k h;omega) (fun h=>by omega),ho]
structure PI(w:World)(h base:Nat)(s:ByteArray)(pre:List (List UInt8))(W:World):Prop where
 b1:au W h #[.string s] 9
 b2:au W (h+1) #[.slice none 0 0] 38
 b3:au W (h+2) #[.int .i64 0] 42
 out:∃v gs,au W (h+3) #[v] 38∧OG W base v gs∧pre.foldlM eN []=some (gs.map Gr.p)
 RO:pre=[]∨s.size≠0
 hB:Up w W
structure PX(w:World)(h:Nat)(s:ByteArray)(c:Code)(W:World):Prop where
 c:c=.ret
 b:∃e:Int,au W (h+1) #[.slice none 0 0] 38∧au W (h+2) #[.int .i64 e] 42∧((dm s.data.toList=none∧e=2)∨(dm s.data.toList=some []∧e=0))
 hB:Up w W
theorem qu{F:Fence}{n:Nat}{P:Program}{ops:Array Oper}{rest:List Oper}{o:Oper}{a:Act}{w W:World}{Q:Exit→Act→World→Prop}{s x:Operand}{t:TypeId}{v y r:Value}
  (hgd:o.guard=none) (ho:o.op=.call {callee:=.builtin .append,args:=#[s,x],argTypes:=#[t,t]}) (hs:a.eval s=v) (hx:a.eval x=y)
  (hrun:(Builtin.append_ #[t,t] o.type #[v,y]).run P w=.ok r W) (h:wpListIn F n P ops Q rest (a.put o.dst r) W):wpListIn F n P ops Q (o::rest) a w:=
 wpListIn_plain hgd fun K hK=>by
  unfold Oper.wpIn;refine⟨by simp[Oper.about,ho,resolve,Target.leads,Sem.run_pure],?_⟩;rw[Oper.semAt_plain F _ _ (by rw[ho];intro c hc;cases hc)];simp[execOp,ho,resolve,invoke,builtin,hs,hx,hrun,Result.andThen];exact hK _ _ h
theorem pB{N h:Nat}{s:ByteArray}{w W:World}{v2 v3:Value}(b2:au W (h+1) #[v2] 38)(b3:au W (h+2) #[v3] 42)(hB:Up w W)(hh:w.heap.size≤h)(e:Int)
  (hr:(dm s.data.toList=none∧e=2)∨(dm s.data.toList=some []∧e=0)):KeepsFrom N W ((W.setCell ⟨h+1,0,none⟩ (.slice none 0 0)).setCell ⟨h+1+1,0,none⟩ (.int .i64 e))∧PX w h s .ret ((W.setCell ⟨h+1,0,none⟩ (.slice none 0 0)).setCell ⟨h+1+1,0,none⟩ (.int .i64 e)):=
 ⟨((KeepsOthers.setCell _ _ _).trans (KeepsOthers.setCell _ _ _)).from _,rfl,⟨e,(b2.set 0 _).setOther _ _ (by simp),(b3.setOther _ _ (by simp)).set 0 _,hr⟩,
  (hB.setCell (show w.heap.size≤h+1 by omega) _).setCell (show w.heap.size≤h+1+1 by omega) _⟩
theorem MG{w W1 W W':World}{s:ByteArray}{xs:List (List UInt8)}{v2:Value}(hW:W1.heap.size≤W.heap.size)(gx:W1.heap.size=w.heap.size+4+3)(hK:KeepsFrom W1.heap.size W W')(hb:Below W1.heap.size W W')
  (b1:au W w.heap.size #[.string s] 9) (b2:au W (w.heap.size+1) #[.slice none 0 0] 38) (b3:au W (w.heap.size+2) #[.int .i64 0] 42) (b4:au W' (w.heap.size+3) #[v2] 38) (hB:Up w W)
  (v:Value) (gs:List Gr) (hG:OG W' W1.heap.size v gs) (hf:xs.foldlM eN []=some (gs.map Gr.p)) (h0:s.size≠0) :
  KeepsFrom W1.heap.size W (W'.setCell ⟨w.heap.size+1+1+1,0,none⟩ v)∧KT (fun k=>k=w.heap.size+4∨k=w.heap.size+4+1∨k=w.heap.size+4+2) W (W'.setCell ⟨w.heap.size+1+1+1,0,none⟩ v)∧
   PI w w.heap.size W1.heap.size s xs (W'.setCell ⟨w.heap.size+1+1+1,0,none⟩ v):=by
 have hm:=(Mod.refl (fun k=>k=w.heap.size+3) W').setCell (a:=⟨w.heap.size+1+1+1,0,none⟩) (.inl rfl) v;refine⟨⟨ae hK.size hm.size,fun k o hk h1 h2=>(KeepsOthers.setCell _ _ _).same k o (hK.same k o hk h1 h2) h2⟩,⟨ae hb.size hm.size,fun k hk=>?_⟩,?_⟩
 ·rw[hm.block k (by have:=hb.size;omega) (by omega)];exact hb.block k (by omega)
 ·refine⟨(b1.gI hb (by omega)).mod hm (by omega),(b2.gI hb (by omega)).mod hm (by omega),(b3.gI hb (by omega)).mod hm (by omega),⟨v,gs,b4.set 0 v,?_,hf⟩,.inr h0,?_⟩
  ·exact hG.eB fun k cur T hk hc=>(hm.block k (Array.getElem?_eq_some_iff.1 hc).1 (by omega)).trans hc
  ·exact(hB.trans (hb.mono (by omega))).setCell (show w.heap.size≤w.heap.size+1+1+1 by omega) _
theorem Jg{w W1 W W':World}{s:ByteArray}{xs:List (List UInt8)}{v:Value}(hW:W1.heap.size≤W.heap.size)(gx:W1.heap.size=w.heap.size+4+3)(hK:KeepsFrom W1.heap.size W W')(hb:Below W1.heap.size W W')
  (b1:au W w.heap.size #[.string s] 9) (b2:au W (w.heap.size+1) #[.slice none 0 0] 38) (b3:au W (w.heap.size+2) #[.int .i64 0] 42) (b4:au W' (w.heap.size+3) #[v] 38) (hB:Up w W)
  (gs:List Gr) (hG:OG W' W1.heap.size v gs) (hf:xs.foldlM eN []=some (gs.map Gr.p)) (h0:s.size≠0) :
  KeepsFrom W1.heap.size W W'∧KT (fun k=>k=w.heap.size+4∨k=w.heap.size+4+1∨k=w.heap.size+4+2) W W'∧PI w w.heap.size W1.heap.size s xs W':=
 ⟨hK,⟨hb.size,fun k hk=>hb.block k (by omega)⟩,b1.gI hb (by omega),b2.gI hb (by omega),b3.gI hb (by omega),⟨v,gs,b4,hG,hf⟩,.inr h0,hB.trans (hb.mono (by omega))⟩
theorem Gj{s:ByteArray}{l:List UInt8}{W:World}(h:Calls Tryz.prog 49 #[.string s] W fun e w'=>sN l e∧Up W w')(hn:ib l=none) :
  Calls Tryz.prog 49 #[.string s] W fun e w'=>(∃y,e=.returned (.tuple #[Nt.v y,.bool false]))∧Up W w':=
 h.mono fun e w' ⟨⟨y,b,he,hl⟩,hb⟩=>⟨by
  cases b with
  |false=>exact⟨y,he⟩
  |true=>rw[hn] at hl;exact absurd hl (by simp),hb⟩
theorem Gi{s:ByteArray}{l:List UInt8}{W:World}{y:Nt}(h:Calls Tryz.prog 49 #[.string s] W fun e w'=>sN l e∧Up W w')(hn:ib l=some y) :
  Calls Tryz.prog 49 #[.string s] W fun e w'=>e=.returned (.tuple #[Nt.v y,.bool true])∧Up W w':=
 h.mono fun e w' ⟨⟨y',b,he,hl⟩,hb⟩=>⟨by
  cases b with
  |false=>rw[hn] at hl;exact absurd hl (by simp)
  |true=>rw[hn] at hl;injection hl with hl;subst hl;exact he,hb⟩
theorem ji{N:Nat}{W W':World}(h:Up W W'):KeepsFrom N W W':=⟨h.size,fun k o _ hk _=>(h.block k (Array.getElem?_eq_some_iff.1 hk).1).trans hk⟩
theorem fS{N:Nat}{A B C:World}(h:KeepsFrom N A B)(k:KeepsFrom N B C):KeepsFrom N A C:=⟨ae h.size k.size,fun i o hi hk ho=>k.same i o hi (h.same i o hi hk ho) ho⟩
theorem PX.alloc{w W:World}{h:Nat}{s:ByteArray}{c:Code}(hx:PX w h s c W)(o:Obj):PX w h s c (W.alloc o):=by
 obtain⟨e,h2,h3,h4⟩:=hx.b;exact⟨hx.c,⟨e,h2.eE o,h3.eE o,h4⟩,al hx.hB o⟩
theorem au.RS{w:World}{B D:Nat}{vs:Array Value}{T:TypeId}{o:Obj}(h:au w B vs T)(ho:w.heap[D]?=some o)(hc:o.isCells=false)(o':Obj):au (w.putObj D o') B vs T:=
 (World.putObj_heap_other (fun e=>by subst e;unfold au at h;rw[h] at ho;cases ho;cases hc)).trans h
theorem MK{w:World}{base h D:Nat}{v x0 x1:Value}{gs:List Gr}{ds:Option (List Deferred)}{o:Obj}(hG:OG w base v gs)(hb:h+2<base)(hK:w.heap[D]?=some (.deferred ds)) :
  OG (((w.setCell ⟨h+1,0,none⟩ x0).setCell ⟨h+1+1,0,none⟩ x1).putObj D o) base v gs:=
 hG.eB fun k cur T hk hc=>by
  rw[World.putObj_heap_other (fun e=>by subst e;rw[hK] at hc;cases hc),Below.heap_setCell _ _ _ _ (show k≠h+1+1 by omega),Below.heap_setCell _ _ _ _ (show k≠h+1 by omega)];exact hc
theorem C2{N:Nat}{tmps:Array Value}{defers:List Deferred}{w W:World}{D h:Nat}{v:Value}{e:Int}{R:Ending→World→Prop}
  (hK:W.heap[D]?=some (.deferred (some []))) (b2:au W (h+1) #[v] 38) (b3:au W (h+2) #[.int .i64 e] 42) (hB:Up w W) (hD:w.heap.size≤D)
  (h2:tmps.getD 2 undef=.pointer (some ⟨h+1,0,none⟩)) (h3:tmps.getD 3 undef=.pointer (some ⟨h+2,0,none⟩)) (hd:defers=[{target:=.collected D,args:=#[]}])
  (hR:R (.returned (.tuple #[v,.int .i64 e])) (W.putObj D (.deferred none))) :
  Exit.noGoto (bodyPostM Fence.wide N Tryz.prog Tryz.f21 fun e w'=>R e w'∧Up w w') .ret {tmps,defers} W:=by
 subst hd;have e1:=(au.RS b2 hK rfl (.deferred none)).cell 0;have e2:=(au.RS b3 hK rfl (.deferred none)).cell 0;have hb:Up w (W.putObj D (.deferred none)):=hB.trans (belowK_b (aa _) W D _ _ hD hK rfl rfl);rw[Array.getD_eq_getD_getElem?] at h2 h3;show LeavesInM Fence.wide N Tryz.prog Tryz.f21 _ _ _ _ W;refine⟨by simp,.inl ⟨_,_,rfl,run_takeDeferred hK,?_⟩⟩;refine⟨.tuple #[v,.int .i64 e],?_,hR,hb⟩;simp[results,Tryz.results21,go_sem,h2,h3,e1,e2]
theorem vG{b:ByteArray}(h:b.size=0):b=ByteArray.empty:=by
 cases b with|mk d=>exact congrArg ByteArray.mk (Array.eq_empty_of_size_eq_zero h)
theorem wz(s:ByteArray)(w:World)(hs:s.size≤2000000)(hm:kl w) :
  Calls Tryz.prog 21 #[.string s] w fun e w'=>rn (dm s.data.toList) w.heap.size e w'∧Up w w':=by
 have HM:=Um hm;clear hm;have hsl:s.data.toList.length=s.size:=Array.length_toList;generalize hls:Lib.trimSuffix s.data.toList [10]=l;have hll:l.length≤2000000:=by rw[←hls];have:=zL s.data.toList;omega
 have sA:=Um hls;have TH:=Um (fun w=>(Tryz.strings_TrimSuffix s (ByteArray.mk #[10]) w (by omega)));clear hsl hls;refine(callsIn_wide (n:=5)).1 ?_;refine callsIn_of_wp_marks Tryz.func21 rfl trivial ?_ rfl;simp only[Tryz.ntmps21,List.size_toArray,List.length_cons,List.length_nil,Nat.reduceAdd,Nat.reduceSub,Array.replicate_succ,Array.replicate_zero,List.push_toArray,List.append_toArray,List.nil_append,List.cons_append];gi_wp2;have q0:=(((au.new w #[.string s] 9).eE (.cells #[.slice none 0 0] 38)).eE (.cells #[.int .i64 0] 42)).eE (.cells #[.slice none 0 0] 38);have q1:=((au.new (w.alloc (.cells #[.string s] 9)) #[.slice none 0 0] 38).eE (.cells #[.int .i64 0] 42)).eE (.cells #[.slice none 0 0] 38);have q2:=(au.new ((w.alloc (.cells #[.string s] 9)).alloc (.cells #[.slice none 0 0] 38)) #[.int .i64 0] 42).eE (.cells #[.slice none 0 0] 38);have q3:=au.new (((w.alloc (.cells #[.string s] 9)).alloc (.cells #[.slice none 0 0] 38)).alloc (.cells #[.int .i64 0] 42)) #[.slice none 0 0] 38;have pR:Up w ((((w.alloc (.cells #[.string s] 9)).alloc (.cells #[.slice none 0 0] 38)).alloc (.cells #[.int .i64 0] 42)).alloc (.cells #[.slice none 0 0] 38)):=al (al (al (al (Below.refl _ _) _) _) _) _;have hsz:((((w.alloc (.cells #[.string s] 9)).alloc (.cells #[.slice none 0 0] 38)).alloc (.cells #[.int .i64 0] 42)).alloc (.cells #[.slice none 0 0] 38)).heap.size=w.heap.size+4:=by simp
 simp only[World.size_alloc] at q1 q2 q3;refine⟨trivial,?_⟩;refine(callsIn_wide.2 (TH.o _)).mono ?_;rintro e w1 ⟨rfl,rfl⟩;rw[show(⟨(Lib.trimSuffix s.data.toList (ByteArray.mk #[10]).data.toList).toArray⟩:ByteArray)=str l by rw[←sA.o];rfl];generalize (((w.alloc (.cells #[.string s] 9)).alloc (.cells #[.slice none 0 0] 38)).alloc (.cells #[.int .i64 0] 42)).alloc (.cells #[.slice none 0 0] 38)=W0 at q0 q1 q2 q3 pR hsz⊢;gi_wp2;refine⟨trivial,?_⟩;refine(callsIn_wide.2 (Mp (str l) (ByteArray.mk #[10]) W0)).mono ?_;rintro e W1 ⟨rfl,s0,s1,s2,gm,gx⟩;rw[hsz] at s0 s1 s2 gx;have gm:=gm.mono (Nat.le_of_eq hsz.symm);have lW:=pR.trans (gm.mono (by omega));have q0:=q0.gI gm (by omega);have q1:=q1.gI gm (by omega);have q2:=q2.gI gm (by omega);have q3:=q3.gI gm (by omega);unfold O5;rw[hsz];gi_wp2;have PG:PI w w.heap.size W1.heap.size s [] W1:=⟨q0,q1,q2,⟨_,[],q3,OG.nil _ _,rfl⟩,.inl rfl,lW⟩;refine' rA (T:=fun k=>k=w.heap.size+4∨k=w.heap.size+4+1∨k=w.heap.size+4+2) rfl (by omega) (gf:=139) (lb:=#[.pointer (some ⟨w.heap.size+4+1,0,none⟩),.pointer (some ⟨w.heap.size+4,0,none⟩),.pointer (some ⟨w.heap.size+4+2,0,none⟩)]) rfl trivial (enters_of Tryz.func139 (by kernel_rfl) rfl)
  (zT (5-1) (by omega) 10 (w.heap.size+4) (w.heap.size+4+1) (w.heap.size+4+2) (by omega) (by omega) l (by omega) W1 s0 s1 s2) (fun k hk=>by omega) (KT.refl _ _) (fun _=>rfl)
  (fun pre W=>PI w w.heap.size W1.heap.size s pre W)
  (fun c pre W=>PX w w.heap.size s c W)
  (fun pre A B h ht=>?own) (fun c pre A B h ht=>?ownx) PG _ ?assign ?body ?done ?stop
 case own=>
  have hT:∀k,(k=w.heap.size+4∨k=w.heap.size+4+1∨k=w.heap.size+4+2)→w.heap.size+4≤k∧k<W1.heap.size:=fun k hk=>by omega
  obtain⟨v,gs,h4,h5,h6⟩:=h.out;exact⟨h.b1.eB ht (fun e=>by have:=hT _ e;omega),h.b2.eB ht (fun e=>by have:=hT _ e;omega),h.b3.eB ht (fun e=>by have:=hT _ e;omega),⟨v,gs,h4.eB ht (fun e=>by have:=hT _ e;omega),h5.RI ht (fun k e=>(hT k e).2),h6⟩,h.RO,
   uS h.hB ht (by omega) (fun k e=>by have:=hT _ e;omega) (aa _)⟩
 case ownx=>
  have hT:∀k,(k=w.heap.size+4∨k=w.heap.size+4+1∨k=w.heap.size+4+2)→w.heap.size+4≤k∧k<W1.heap.size:=fun k hk=>by omega
  obtain⟨e,h2,h3,h4⟩:=h.b;exact⟨h.c,⟨e,h2.eB ht (fun e=>by have:=hT _ e;omega),h3.eB ht (fun e=>by have:=hT _ e;omega),h4⟩,uS h.hB ht (by omega) (fun k e=>by have:=hT _ e;omega) (aa _)⟩
 case assign=>
  intro L x W K hK;gi_wp2;exact hK
 case body=>
  rintro L pre x W hL hLW hI hN;obtain⟨b1,b2,b3,⟨v,gs,b4,hG,hf⟩,hsm,hB⟩:=hI;have hmem:∀t∈pre++[x],t∈dB 10 l:=fun t ht=>hN.subset ht;have hxl:x.length≤2000000:=ae (fA 10 l x (hmem x (by simp))) hll;have hpre:fV 2000001 (gs.map Gr.p):=by
   have h1:=pT s8 pre (fun t ht=>ae (fA 10 l t (hmem t (by simp[ht]))) (by omega)) hf;obtain⟨r,hr⟩:=hN;have h2:=sR 10 l;rw[←hr,j1,j1] at h2;exact h1.mono (by omega)
  clear hmem;have H1:=Um b1;have H2:=Um b2;have H3:=Um b3;have H4:=Um b4;have HG:=Um hG;have HF:=Um hf;have HB:=Um hB;have HPre:=Um hpre;obtain⟨c1,-,z1⟩:=b1.facts;obtain⟨c2,f2,z2⟩:=b2.facts;obtain⟨c3,f3,z3⟩:=b3.facts;obtain⟨c4,f4,z4⟩:=b4.facts;obtain⟨a,c,rfl,hgc,hgm,hfrm⟩:=hG.form;have Qs:=Um hfrm;have hgl:gs.length≤2000001:=by have:=hpre.len;rwa [List.length_map] at this
  have htl:(str x).toList=x:=by rw[aC,aH]
  have hxs:(str x).size=x.length:=aP x;clear b1 b2 b3 b4 hG hf hB hpre hfrm hsm;by_cases h0:s.size=0
  ·obtain rfl:=vG h0;have HE:=Um (show dm ByteArray.empty.data.toList=some [] from rfl);clear h0;gi_wp2;exact pB H2.o H3.o HB.o (aa _) 0 (.inr ⟨HE.o,rfl⟩)
  ·have Dl:s.toList.isEmpty=false:=by
    rw[ByteArray.toList_eq]
    cases hh:s.data.toList with
    |nil=>exact absurd (by have:=congrArg List.length hh;simpa using this) h0
    |cons=>rfl
   have sm:s.toList≠[]:=by intro e;rw[e] at Dl;cases Dl
   have LW:=Um h0;have E1:=Um (show(pre++[x]).foldlM eN []=eN (gs.map Gr.p) x by rw[nH,HF.o];rfl);have fL:=Um (show eN (gs.map Gr.p) x=none→dm s.data.toList=none from fun h=>by
    obtain⟨r,hr⟩:=hN;unfold dm;rw[if_neg (fun e=>h0 (by have:=congrArg List.length e;simpa using this)),sA.o,←hr,List.foldlM_append,E1.o,h];rfl)
   clear h0;by_cases yH:x=[103]
   ·subst yH;obtain⟨g2,cap2,W2,hrun,iW,eM,QX⟩:=HG.o.app (by omega) (show W1.heap.size≤W.heap.size by omega);have HR:=Um hrun;have HX:=Um (ag iW (ag eM trivial));have k4:=H4.o.gI eM (show w.heap.size+3<W1.heap.size by omega);obtain⟨d4,g4,y4⟩:=k4.facts;have K4:=Um k4;clear hrun iW eM k4
    gi_wp2_with (gi_at_builtin;refine qu rfl rfl rfl rfl HR.o ?_)
    exact MG (w:=w) (W1:=W1) (W':=W2) (by omega) gx (QX.from _) HX.o.2.1 H1.o H2.o H3.o K4.out HB.o (.slice (some ⟨g2,0,none⟩) (gs.length+1) cap2) (gs++[Gr.zero]) (by simpa using HX.o.1) (by rw[E1.o];unfold eN;rw[if_pos rfl,List.map_append];rfl) LW.o
   ·have SN:(x==[103])=false:=beq_eq_false_iff_ne.2 yH;have LF:=Um yH;by_cases vm:gs.length=0
    ·have HE:=Um (fL.o (by unfold eN;rw[if_neg yH,dif_neg (by rw[List.length_map];omega)]));have Nh:((gs.length:Int)-1)<0:=by omega
     clear vm;gi_wp2;exact pB H2.o H3.o HB.o (aa _) 2 (.inl ⟨HE.o,rfl⟩)
    ·obtain⟨b,rfl,GL,hblt⟩:∃b,a=some ⟨b,0,none⟩∧W1.heap.size≤b∧b<W.heap.size:=by
      rcases Qs.o with⟨-,h,-⟩|h
      ·exact absurd h vm
      ·exact h
     have HK:=Um (show gs.length-1<gs.length by omega);have A9:1≤gs.length:=by omega
     have M8:(1:Int)≤(gs.length:Int):=by omega
     have Cb:(0:Int)≤(gs.length:Int)-1:=by omega
     have J2:(gs.length:Int)-1<(gs.length:Int):=by omega
     have J1:((gs.length:Int)-1).toNat=gs.length-1:=by omega
     have Tc:=HG.o.n8;obtain⟨cA,cB,-⟩:=Tc.cells (gs.length-1) HK.o;rw[Nat.zero_add] at cA cB;have hfz:=(cd HG.o.own).1;have hgi:∀out:List (List Nt×UInt8),out=gs.map Gr.p→0<out.length:=fun out e=>by rw[e,List.length_map];exact A9
     have L3:=Um hgi;have sh:=Um (show((gs.map Gr.p)[(gs.map Gr.p).length-1]'(by rw[List.length_map];omega))=(gs[gs.length-1]'HK.out).p by simp);clear hgi Tc vm;generalize hlast:gs[gs.length-1]'HK.out=g at cA cB sh;have Rr:=Um hlast;clear hlast;by_cases hfin:g.fin=0
     ·have hfi:(g.fin.toNat:Int)=0:=by rw[hfin];rfl
      have hfb:((g.fin.toNat:Int) != 0)=false:=by rw[hfi];rfl
      have fx:=Um (show eN (gs.map Gr.p) x=(if x=[101]∨x=[100]∨x=[117] then some (jG (gs.map Gr.p) (L3.o _ rfl) fun g=>(g.1,x.headD 0)) else(ib x).map fun y=>jG (gs.map Gr.p) (L3.o _ rfl) fun g=>(g.1++[y],g.2)) by
       unfold eN;rw[if_neg LF.o,dif_pos (L3.o _ rfl),if_neg (by rw[sh.o];exact fun h=>h hfin)])
      have ve:=Um hfin;clear hfin;by_cases hx:x=[101]∨x=[100]∨x=[117]
      ·obtain⟨f,rfl⟩:∃f,x=[f]:=by rcases hx with rfl|rfl|rfl<;>exact⟨_,rfl⟩
       have Lw:=Um (show(pre++[[f]]).foldlM eN []=some (jG (gs.map Gr.p) (L3.o _ rfl) fun g=>(g.1,f)) by rw[E1.o,fx.o,if_pos hx];rfl);have HX:=Um (HG.o.fin (gs.length-1) HK.o f);have hxf:f=101∨f=100∨f=117:=by
        rcases hx with h|h|h<;>(injection h with h)
        ·exact .inl h
        ·exact .inr (.inl h)
        ·exact .inr (.inr h)
       clear hx fx E1 fL;have hks:(str [f]).size=1:=rfl;have key:∀Wz,Wz=W.setCell ⟨b,(gs.length-1)*2+1,none⟩ (.int .u8 f.toNat)→KeepsFrom W1.heap.size W Wz.drew∧KT (fun k=>k=w.heap.size+4∨k=w.heap.size+4+1∨k=w.heap.size+4+2) W Wz.drew∧PI w w.heap.size W1.heap.size s (pre++[[f]]) Wz.drew:=fun Wz hWz=>by
        subst hWz;refine Jg (by omega) gx (((KeepsOthers.setCell _ _ _).trans (KeepsOthers.drew _)).from _) ((Below.refl _ _).setCell GL _).drew H1.o H2.o H3.o (v:=.slice (some ⟨b,0,none⟩) gs.length c) (au.drew (H4.o.setOther _ _ (show b≠w.heap.size+3 by omega))) HB.o _ (HX.o.eB fun _ _ _ _ h=>h) ?_ LW.o;rw[Lw.o];exact congrArg some (kq gs HK.o _ _ rfl)
       have Key:=Um key;clear key;rcases hxf with rfl|rfl|rfl
       all_goals
        gi_wp2;refine kE 6 (by kernel_rfl) (by kernel_rfl) (by kernel_rfl) ?_;simp only[List.take_succ_cons,List.take_zero,List.drop_succ_cons,List.drop_zero]
        repeat still_step
        refine wpStill_nil ?_;gi_wp2;exact Key.out _ rfl
      ·have sg:=Um (HM.o.ak HB.o);have og:=Um (JB (str x) W (by omega) sg.o);rw[aH] at og;have Lw:=Um (show(pre++[x]).foldlM eN []=(ib x).map fun y=>jG (gs.map Gr.p) (L3.o _ rfl) fun g=>(g.1++[y],g.2) by rw[E1.o,fx.o,if_neg hx]);have hx':x≠[101]∧x≠[100]∧x≠[117]:=⟨fun e=>hx (.inl e),fun e=>hx (.inr (.inl e)),fun e=>hx (.inr (.inr e))⟩;obtain⟨hxa,hxb,hxc⟩:=hx';have hba:(x==[101])=false:=beq_eq_false_iff_ne.2 hxa;have hbb:(x==[100])=false:=beq_eq_false_iff_ne.2 hxb;have hbc:(x==[117])=false:=beq_eq_false_iff_ne.2 hxc
       cases hnl:ib x with
       |none=>
        have HE:=Um (fL.o (by rw[fx.o,if_neg hx,hnl];rfl));have zw:=Um (Gj og.o hnl);clear hx hnl og fx E1 fL Lw;gi_wp2;refine⟨trivial,?_⟩;refine(callsIn_wide.2 zw.o).mono ?_;rintro e w2 ⟨⟨y,rfl⟩,aD⟩;have k2:=H2.o.ak aD;have k3:=H3.o.ak aD;obtain⟨d2,g2,y2⟩:=k2.facts;obtain⟨d3,g3,y3⟩:=k3.facts;have K2:=Um k2;have K3:=Um k3;have KB:=Um (ao HB.o aD);have KO:=Um aD;clear k2 k3 aD;unfold Nt.v;gi_wp2;have hl:=pB (N:=W1.heap.size) K2.out K3.out KB.out (aa _) 2 (.inl ⟨HE.o,rfl⟩);exact⟨fS (fS (ji KO.out) hl.1) (ji ((Below.refl _ _).alloc (aa _) _)),hl.2.alloc _⟩
       |some y=>
        have zw:=Um (Gi og.o hnl);have T2:=Um (show(pre++[x]).foldlM eN []=some (jG (gs.map Gr.p) (L3.o _ rfl) fun g=>(g.1++[y],g.2)) by rw[Lw.o,hnl];rfl);clear hx hnl og fx E1 fL Lw;gi_wp2;refine⟨trivial,?_⟩;refine(callsIn_wide.2 zw.o).mono ?_;rintro e w2 ⟨rfl,aD⟩;unfold Nt.v;have GK:=al aD (.cells #[.int .u8 y.kind.toNat,.int .i64 y.no,.string y.src,.string y.dst,.string y.tmp] 63);have h7:=au.new w2 #[.int .u8 y.kind.toNat,.int .i64 y.no,.string y.src,.string y.dst,.string y.tmp] 63;have NU:=Um GK;have H7:=Um h7;have Hw2:=Um aD.size;clear h7 aD GK;gi_wp2;generalize w2.alloc _=W3 at NU H7⊢;have N8:=Um (HG.o.ak NU.o);have k4:=H4.o.ak NU.o;obtain⟨d4,g4,y4⟩:=k4.facts;have h7:=H7.o;obtain⟨r0,r1,r2,r3,r4⟩:=h7.GV;have Tb:=N8.o.n8;obtain⟨cA3,cB3,-⟩:=Tb.cells (gs.length-1) HK.o;rw[Nat.zero_add,Rr.o] at cA3 cB3;have hfz3:=(cd N8.o.own).1;have hb3l:b<W3.heap.size:=by have:=NU.o.size;omega
        have K4:=Um k4;clear k4 h7 Tb cA cB c4 f4 z4 c1 z1 c2 f2 z2 c3 f3 z3;gi_wp2;have hnl:g.notes.length≤2000001:=by
         have h1:=(HPre.o.notes g.p (by rw[←Rr.o];exact List.mem_map_of_mem (List.getElem_mem _))).1;exact h1
        obtain⟨g9,cap9,W9,hrun,hO9,Ow,hc9,hfz9,-,S7,SF⟩:=OG.note (w:=W3.drew) (h:=N8.o.eB fun _ _ _ _ h=>h) (gs.length-1) HK.o y (by rw[Rr.o];omega) (show W1.heap.size≤W3.heap.size by have:=NU.o.size;omega);rw[Rr.o] at hrun hO9;have h79:=(show au W3.drew w2.heap.size #[.int .u8 y.kind.toNat,.int .i64 y.no,.string y.src,.string y.dst,.string y.tmp] 63 from H7.o);have Tl:au W9 w2.heap.size #[.int .u8 y.kind.toNat,.int .i64 y.no,.string y.src,.string y.dst,.string y.tmp] 63:=(SF _ h79.lt (fun a ha e=>by
         have h1:=(HG.o.notes _ HK.o).block ha;have h2:=Hw2.o;omega)).trans h79
        have H79:=Um Tl;clear h79 Tl SF;have HR:=Um hrun;have HO9:=Um hO9;have If:=Um Ow;have TW:=Um S7;have k49:=(show au W3.drew (w.heap.size+3) #[.slice (some ⟨b,0,none⟩) gs.length c] 38 from K4.out).gI Ow (show w.heap.size+3<W1.heap.size by omega);have K49:=Um k49;obtain⟨d49,-,-⟩:=k49.facts;have cA9:=(hc9 ((gs.length-1)*2)).trans cA3;have hb9:b<W9.heap.size:=(jo cA9).2;clear Ow S7 hc9 k49 hnl;refine kF (S:=fun w'=>w'.cell? ⟨w.heap.size+1+1+1,0,none⟩=some (.slice (some ⟨b,0,none⟩) gs.length c)∧w'.cell? ⟨w2.heap.size,0,none⟩=some (.int .u8 y.kind.toNat)∧w'.cell? ⟨w2.heap.size,1,none⟩=some (.int .i64 y.no)∧w'.cell? ⟨w2.heap.size,2,none⟩=some (.string y.src)∧w'.cell? ⟨w2.heap.size,3,none⟩=some (.string y.dst)∧w'.cell? ⟨w2.heap.size,4,none⟩=some (.string y.tmp)) (by kernel_rfl) (by kernel_rfl) (fun h=>by obtain⟨_,_,h⟩:=h;exact h) ⟨d4 0,r0,r1,r2,r3,r4⟩ (fun cE=>?_);refine cI 0 23 (v:=?v0) rfl rfl (by kernel_rfl) (by kernel_rfl) (by kernel_rfl) (fun _ _ _ h=>h) rfl ?y0 cE ?_
        case y0=>(intro w dG;obtain⟨e4,e0,e1,e2,e3,e5⟩:=dG;go_simp;(try with_reducible rfl))
        simp only[ah,ai,aj];refine cI 1 24 (v:=?v1) rfl rfl (by kernel_rfl) (by kernel_rfl) (by kernel_rfl) (fun _ _ _ h=>h) rfl ?y1 cE ?_
        case y1=>(intro w dG;obtain⟨e4,e0,e1,e2,e3,e5⟩:=dG;go_simp;(try with_reducible rfl))
        simp only[ah,ai,aj];refine cI 2 25 (v:=?v2) rfl rfl (by kernel_rfl) (by kernel_rfl) (by kernel_rfl) (fun _ _ _ h=>h) rfl ?y2 cE ?_
        case y2=>(intro w dG;obtain⟨e4,e0,e1,e2,e3,e5⟩:=dG;go_simp;(try with_reducible rfl))
        simp only[ah,ai,aj];refine cI 3 26 (v:=?v3) rfl rfl (by kernel_rfl) (by kernel_rfl) (by kernel_rfl) (fun _ _ _ h=>h) rfl ?y3 cE ?_
        case y3=>(intro w dG;obtain⟨e4,e0,e1,e2,e3,e5⟩:=dG;go_simp;(try with_reducible rfl))
        simp only[ah,ai,aj];refine cI 4 27 (v:=?v4) rfl rfl (by kernel_rfl) (by kernel_rfl) (by kernel_rfl) (fun _ _ _ h=>h) rfl ?y4 cE ?_
        case y4=>(intro w dG;obtain⟨e4,e0,e1,e2,e3,e5⟩:=dG;go_simp;(try with_reducible rfl))
        simp only[ah,ai,aj];refine cI 5 28 (v:=?v5) rfl rfl (by kernel_rfl) (by kernel_rfl) (by kernel_rfl) (fun _ _ _ h=>h) rfl ?y5 cE ?_
        case y5=>(intro w dG;obtain⟨e4,e0,e1,e2,e3,e5⟩:=dG;go_simp;(try with_reducible rfl))
        simp only[ah,ai,aj];refine cI 7 30 (v:=?v7) rfl rfl (by kernel_rfl) (by kernel_rfl) (by kernel_rfl) (fun _ _ _ h=>h) rfl ?y7 cE ?_
        case y7=>(intro w dG;obtain⟨e4,e0,e1,e2,e3,e5⟩:=dG;go_simp;(try with_reducible rfl))
        simp only[ah,ai,aj];have lU:=(show(fun w':World=>w'.cell? ⟨w.heap.size+1+1+1,0,none⟩=some (.slice (some ⟨b,0,none⟩) gs.length c)∧w'.cell? ⟨w2.heap.size,0,none⟩=some (.int .u8 y.kind.toNat)∧w'.cell? ⟨w2.heap.size,1,none⟩=some (.int .i64 y.no)∧w'.cell? ⟨w2.heap.size,2,none⟩=some (.string y.src)∧w'.cell? ⟨w2.heap.size,3,none⟩=some (.string y.dst)∧w'.cell? ⟨w2.heap.size,4,none⟩=some (.string y.tmp)) (W3.drew.alloc (.cells #[.int .u8 y.kind.toNat,.int .i64 y.no,.string y.src,.string y.dst,.string y.tmp] 63)) from⟨(au.eE (w:=W3.drew) K4.out _).cell 0,(au.eE (w:=W3.drew) H7.o _).GV⟩);have zp:=(show(fun w':World=>w'.cell? ⟨w.heap.size+1+1+1,0,none⟩=some (.slice (some ⟨b,0,none⟩) gs.length c)∧w'.cell? ⟨w2.heap.size,0,none⟩=some (.int .u8 y.kind.toNat)∧w'.cell? ⟨w2.heap.size,1,none⟩=some (.int .i64 y.no)∧w'.cell? ⟨w2.heap.size,2,none⟩=some (.string y.src)∧w'.cell? ⟨w2.heap.size,3,none⟩=some (.string y.dst)∧w'.cell? ⟨w2.heap.size,4,none⟩=some (.string y.tmp)) W9 from⟨K49.out.cell 0,H79.o.GV⟩);have hSS:=(show(fun w':World=>w'.cell? ⟨w.heap.size+1+1+1,0,none⟩=some (.slice (some ⟨b,0,none⟩) gs.length c)∧w'.cell? ⟨w2.heap.size,0,none⟩=some (.int .u8 y.kind.toNat)∧w'.cell? ⟨w2.heap.size,1,none⟩=some (.int .i64 y.no)∧w'.cell? ⟨w2.heap.size,2,none⟩=some (.string y.src)∧w'.cell? ⟨w2.heap.size,3,none⟩=some (.string y.dst)∧w'.cell? ⟨w2.heap.size,4,none⟩=some (.string y.tmp)) (W9.setCell ⟨b,(gs.length-1)*2,none⟩ (.slice (some ⟨g9,0,none⟩) (g.notes.length+1) cap9)) from⟨(K49.out.setOther _ _ (show b≠w.heap.size+3 by omega)).cell 0,(H79.o.setOther _ _ (show b≠w2.heap.size by have:=Hw2.o;omega)).GV⟩);have HSA:=Um lU;have Hy:=Um zp;have HSS:=Um hSS;clear lU zp hSS;refine MA 6 29 8 31 (v:=.slice g.a g.notes.length g.c) (vj:=.slice (some ⟨W3.heap.size,0,none⟩) 1 1) (Wi:=W3.drew) (W:=(W3.drew.alloc (.cells #[.int .u8 y.kind.toNat,.int .i64 y.no,.string y.src,.string y.dst,.string y.tmp] 63))) (by kernel_rfl) rfl rfl rfl rfl rfl rfl ?r6 ?r8 cE HSA.o ?_ ?_
        case r6=>(go_simp;try rfl)
        case r8=>(go_simp;try rfl)
        ·simp only[ah,ai,aj];refine iA 8 31 (v:=.slice (some ⟨W3.heap.size,0,none⟩) 1 1) (W:=(W3.drew.alloc (.cells #[.int .u8 y.kind.toNat,.int .i64 y.no,.string y.src,.string y.dst,.string y.tmp] 63))) (by kernel_rfl) rfl rfl rfl ?q8 HSA.o ?_
         case q8=>(go_simp;try rfl)
         simp only[ah,ai,aj];refine sE 9 32 (by kernel_rfl) rfl rfl rfl rfl rfl rfl HR.o Hy.o ?_;simp only[ah,ai,aj];refine iA 10 33 (v:=.pointer (some ⟨b,(gs.length-1)*2,none⟩)) (W:=W9) (by kernel_rfl) rfl rfl rfl ?q10 Hy.o ?_
         case q10=>(go_simp;try rfl)
         simp only[ah,ai,aj];refine iA 11 34 (v:=.pointer (some ⟨b,(gs.length-1)*2,none⟩)) (W:=W9) (by kernel_rfl) rfl rfl rfl ?q11 Hy.o ?_
         case q11=>(go_simp;try rfl)
         simp only[ah,ai,aj];refine wi 12 (W:=W9.setCell ⟨b,(gs.length-1)*2,none⟩ (.slice (some ⟨g9,0,none⟩) (g.notes.length+1) cap9)) (by kernel_rfl) rfl rfl rfl ?q12 HSS.o ?_
         case q12=>(go_simp;try rfl)
         refine wpAnyH_done (by kernel_rfl) ?_ _;refine Jg (by omega) gx (fS (fS (ji NU.o) ((show KeepsOthers W3 W9 from(KeepsOthers.drew W3).trans TW.o).from _)) ((KeepsOthers.setCell _ _ _).from _)) (((NU.o.mono (by omega)).trans ((Below.refl _ W3).drew.trans If.o)).setCell GL _) H1.o H2.o H3.o (v:=.slice (some ⟨b,0,none⟩) gs.length c) (K49.out.setOther _ _ (show b≠w.heap.size+3 by omega)) HB.o _ HO9.o ?_ LW.o;rw[T2.o];exact congrArg some (kq gs HK.o _ _ (by rw[Rr.o];rfl))
        ·simp only[ah,ai,aj];refine iA 6 29 (v:=.slice g.a g.notes.length g.c) (W:=(W3.drew.alloc (.cells #[.int .u8 y.kind.toNat,.int .i64 y.no,.string y.src,.string y.dst,.string y.tmp] 63))) (by kernel_rfl) rfl rfl rfl ?q8 HSA.o ?_
         case q8=>(go_simp;try rfl)
         simp only[ah,ai,aj];refine sE 9 32 (by kernel_rfl) rfl rfl rfl rfl rfl rfl HR.o Hy.o ?_;simp only[ah,ai,aj];refine iA 10 33 (v:=.pointer (some ⟨b,(gs.length-1)*2,none⟩)) (W:=W9) (by kernel_rfl) rfl rfl rfl ?q10 Hy.o ?_
         case q10=>(go_simp;try rfl)
         simp only[ah,ai,aj];refine iA 11 34 (v:=.pointer (some ⟨b,(gs.length-1)*2,none⟩)) (W:=W9) (by kernel_rfl) rfl rfl rfl ?q11 Hy.o ?_
         case q11=>(go_simp;try rfl)
         simp only[ah,ai,aj];refine wi 12 (W:=W9.setCell ⟨b,(gs.length-1)*2,none⟩ (.slice (some ⟨g9,0,none⟩) (g.notes.length+1) cap9)) (by kernel_rfl) rfl rfl rfl ?q12 HSS.o ?_
         case q12=>(go_simp;try rfl)
         refine wpAnyH_done (by kernel_rfl) ?_ _;refine Jg (by omega) gx (fS (fS (ji NU.o) ((show KeepsOthers W3 W9 from(KeepsOthers.drew W3).trans TW.o).from _)) ((KeepsOthers.setCell _ _ _).from _)) (((NU.o.mono (by omega)).trans ((Below.refl _ W3).drew.trans If.o)).setCell GL _) H1.o H2.o H3.o (v:=.slice (some ⟨b,0,none⟩) gs.length c) (K49.out.setOther _ _ (show b≠w.heap.size+3 by omega)) HB.o _ HO9.o ?_ LW.o;rw[T2.o];exact congrArg some (kq gs HK.o _ _ (by rw[Rr.o];rfl))
     ·have HE:=Um (fL.o (by unfold eN;rw[if_neg yH,dif_pos (L3.o _ rfl),if_pos (by rw[sh.o];exact hfin)]));have hfi:¬(g.fin.toNat:Int)=0:=fun e=>hfin (UInt8.toNat_inj.1 (by show g.fin.toNat=0;omega));have hfb:((g.fin.toNat:Int) != 0)=true:=by simpa using hfi
      clear hfin;gi_wp2;exact pB H2.o H3.o HB.o (aa _) 2 (.inl ⟨HE.o,rfl⟩)
 case done=>
  rintro D xs W hD rfl hI hK;obtain⟨b1,b2,b3,⟨v,gs,b4,hG,hf⟩,hsm,hB⟩:=hI;have J3:s.size≠0:=hsm.resolve_left (fun e=>by have:=(dM 10 l).1;rw[e] at this;simp at this);have vo:=pT s8 (dB 10 l) (fun t ht=>ae (fA 10 l t ht) (by omega)) hf;rw[sR] at vo;obtain⟨a,c,rfl,-,-,-⟩:=hG.form;have Lj:=Um (show rv gs from fun g hg x hx=>(vo.notes g.p (List.mem_map_of_mem hg)).2 x hx);have HGr:=Um hG.n8;have D6:=Um hG;have BW:=Um (show(aI (gs.map Gr.p)).length≤200000000 by have:=vo.text;omega);have Ic:=Um (show dm s.data.toList=if ca (gs.map Gr.p)=s.data.toList then some (gs.map Gr.p) else none by
   unfold dm;rw[if_neg (fun e=>J3 (by have:=congrArg List.length e;simpa using this)),sA.o,hf];rfl)
  have hcl:=b4.cell 0;have hcs:=b1.cell 0;have zl:=b4.lt;have zs:=b1.lt;have H2:=Um b2;have H3:=Um b3;have H4:=Um b4;have HB:=Um hB;have HK:=Um hK;simp only[List.getElem?_toArray,List.getElem?_cons_zero] at hcl hcs;have yW:=Um (fun w2 (aD:Up W w2)=>qt a c gs w2 (HGr.o.below aD (aa _)) Lj.o BW.o);have zo:W1.heap.size≤W.heap.size:=by have:=(Array.getElem?_eq_some_iff.1 hK).1;omega
  clear b1 b2 b3 b4 hG hf hsm hB vo hK;by_cases hw:ca (gs.map Gr.p)=s.data.toList
  ·have HY:=Um (show dm s.data.toList=some (gs.map Gr.p) by rw[Ic.o,if_pos hw]);rw[hw,eC] at yW;clear hw;have hst:=Mj (rfl:s=s);gi_wp2;refine(wpIn_wide (n:=5)).2 ?_
   go_region_held3 (fun w'=>(∀b o,b<W.heap.size→w'.cell? ⟨b,o,none⟩=W.cell? ⟨b,o,none⟩)∧Up W w') (first|with_reducible assumption|with_reducible exact ck _|with_reducible exact bI _|with_reducible exact bN (by assumption) (by assumption)|with_reducible exact bB (by assumption) _|with_reducible exact bu (by assumption) _|with_reducible exact bm (by assumption) (by assumption)|with_reducible exact cj (by assumption) (by assumption)) (first|(go_at_call 22;refine(yW.o _ (by first|exact And.right (by assumption)|exact Below.refl _ _|exact(Below.refl _ _).drew)).mono ?_;rintro e w2 ⟨rfl,aD⟩))
   have hbw:Up W w2:=And.right (by assumption);have k4:=H4.o.ak hbw;have k2:=H2.o.ak hbw;have k3:=H3.o.ak hbw;have kK:=(hbw.block D (Array.getElem?_eq_some_iff.1 HK.o).1).trans HK.o;have d4:=k4.cell 0;have d2:=k2.cell 0;have d3:=k3.cell 0;simp only[List.getElem?_toArray,List.getElem?_cons_zero] at d4 d2 d3;have y4:=k4.lt;have y2:=k2.lt;have y3:=k3.lt;have g2:=k2.frozen 0;have g3:=k3.frozen 0;have K2:=Um k2;have K3:=Um k3;have KK:=Um kK;have KB:=Um (ao HB.o hbw);have L4:=Um (D6.o.ak hbw);clear k4 k2 k3 kK hcl hcs zl zs;gi_wp2;refine C2 (h:=w.heap.size) (KeepsOthers.same ((KeepsOthers.setCell _ _ _).trans (KeepsOthers.setCell _ _ _)) D _ KK.out rfl) ((K2.out.set 0 _).setOther _ _ (by simp)) ((K3.out.setOther _ _ (by simp)).set 0 _) ((KB.out.setCell (show w.heap.size≤w.heap.size+1 by omega) _).setCell (show w.heap.size≤w.heap.size+1+1 by omega) _) (by omega) rfl rfl rfl ?_;exact oG (base:=W1.heap.size) (by omega) HY.o (MK L4.o (by omega) KK.out) Lj.o
  ·have HY:=Um (show dm s.data.toList=none by rw[Ic.o,if_neg hw]);have hne:str (ca (gs.map Gr.p))≠s:=fun e=>hw (by rw[←e,aH]);have gO:=sD hne;have jj:=o9 hne;clear hw hne;generalize str (ca (gs.map Gr.p))=D2 at yW gO jj;gi_wp2;refine(wpIn_wide (n:=5)).2 ?_
   go_region_held3 (fun w'=>(∀b o,b<W.heap.size→w'.cell? ⟨b,o,none⟩=W.cell? ⟨b,o,none⟩)∧Up W w') (first|with_reducible assumption|with_reducible exact ck _|with_reducible exact bI _|with_reducible exact bN (by assumption) (by assumption)|with_reducible exact bB (by assumption) _|with_reducible exact bu (by assumption) _|with_reducible exact bm (by assumption) (by assumption)|with_reducible exact cj (by assumption) (by assumption)) (first|(go_at_call 22;refine(yW.o _ (by first|exact And.right (by assumption)|exact Below.refl _ _|exact(Below.refl _ _).drew)).mono ?_;rintro e w2 ⟨rfl,aD⟩))
   have hbw:Up W w2:=And.right (by assumption);have k4:=H4.o.ak hbw;have k2:=H2.o.ak hbw;have k3:=H3.o.ak hbw;have kK:=(hbw.block D (Array.getElem?_eq_some_iff.1 HK.o).1).trans HK.o;have d4:=k4.cell 0;have d2:=k2.cell 0;have d3:=k3.cell 0;simp only[List.getElem?_toArray,List.getElem?_cons_zero] at d4 d2 d3;have y4:=k4.lt;have y2:=k2.lt;have y3:=k3.lt;have g2:=k2.frozen 0;have g3:=k3.frozen 0;have K2:=Um k2;have K3:=Um k3;have KK:=Um kK;have KB:=Um (ao HB.o hbw);have L4:=Um (D6.o.ak hbw);clear k4 k2 k3 kK hcl hcs zl zs;gi_wp2;refine C2 (h:=w.heap.size) (KeepsOthers.same ((KeepsOthers.setCell _ _ _).trans (KeepsOthers.setCell _ _ _)) D _ KK.out rfl) ((K2.out.set 0 _).setOther _ _ (by simp)) ((K3.out.setOther _ _ (by simp)).set 0 _) ((KB.out.setCell (show w.heap.size≤w.heap.size+1 by omega) _).setCell (show w.heap.size≤w.heap.size+1+1 by omega) _) (by omega) rfl rfl rfl ?_;exact nn HY.o
 case stop=>
  rintro D c pre W hD-hX hK;obtain⟨rfl,⟨e,b2,b3,hr⟩,hB⟩:=hX;gi_wp2;refine C2 (h:=w.heap.size) hK b2 b3 hB (by omega) rfl rfl rfl ?_;rcases hr with⟨hr,rfl⟩|⟨hr,rfl⟩
  ·exact nn hr
  ·exact oG (base:=w.heap.size) (gs:=[]) (a:=none) (c:=0) (aa _) hr (OG.nil _ _) (fun g hg=>by simp at hg)
theorem wI(s:ByteArray)(w:World)(hs:s.size≤2000000)(hm:kl w) :
  Calls Tryz.prog 21 #[.string s] w fun e w'=>BV (dm s.data.toList) e w'∧Up w w':=
 (wz s w hs hm).mono fun _ _ h=>⟨h.1.res,h.2⟩
end
section
open Go.RowKit
theorem C8{s:ByteArray}{out:List (List Nt×UInt8)}(h:dm s.data.toList=some out)(w:World)(hs:s.size≤2000000)(hm:kl w) :
  Calls Tryz.prog 21 #[.string s] w fun e w'=>(∃a c gs,gs.map Gr.p=out∧e=.returned (.tuple #[.slice a gs.length c,.int .i64 0])∧j0 w' a c gs∧rv gs)∧Up w w':=
 (wI s w hs hm).mono fun e w' ⟨hr,hb⟩=>⟨by
  rcases hr with⟨h2,-⟩|⟨a,c,gs,h2,h3⟩
  ·rw[h] at h2;exact absurd h2 (by simp)
  ·rw[h] at h2;injection h2 with h2;exact⟨a,c,gs,h2.symm,h3⟩,hb⟩
theorem C9{s:ByteArray}(h:dm s.data.toList=none)(w:World)(hs:s.size≤2000000)(hm:kl w) :
  Calls Tryz.prog 21 #[.string s] w fun e w'=>e=.returned (.tuple #[.slice none 0 0,.int .i64 2])∧Up w w':=
 (wI s w hs hm).mono fun e w' ⟨hr,hb⟩=>⟨by
  rcases hr with⟨-,h2⟩|⟨a,c,gs,h2,h3⟩
  ·exact h2
  ·rw[h] at h2;exact absurd h2 (by simp),hb⟩
def MN:Nt:=⟨109,7,ByteArray.mk #[47,97],ByteArray.mk #[47,98],ByteArray.empty⟩
def OZ:ByteArray:=ByteArray.mk #[103,10,109,32,55,32,47,97,32,47,98,10,101,10]
def RE:ByteArray:=ByteArray.mk #[103,10,109,32,48,55,32,47,97,32,47,98,10,101,10]
theorem uV:bU [([MN],101)]=true:=by decide +kernel
theorem uU:aI [([MN],101)]=OZ.data.toList:=by decide +kernel
theorem DU:Nt.Ok MN:=⟨by decide,by decide,by decide,by decide,by decide⟩
theorem Hh:dm OZ.data.toList=some [([MN],101)]:=by
 rw[←uU];exact rK uV (fun g hg x hx=>by simp at hg;subst hg;simp at hx;subst hx;exact⟨DU.n0,DU.n1⟩)
theorem He:dm RE.data.toList=none:=by
 have:(dm RE.data.toList).isNone=true:=by decide +kernel
 simpa using this
theorem NC{w:World}{bn bg:Nat}{x:Nt}{f:UInt8}(hn:au w bn #[.int .u8 x.kind.toNat,.int .i64 x.no,.string x.src,.string x.dst,.string x.tmp] 63)(hg:au w bg #[.slice (some ⟨bn,0,none⟩) 1 1,.int .u8 f.toNat] 45) :
  j0 w (some ⟨bg,0,none⟩) 1 [⟨some ⟨bn,0,none⟩,1,[x],f⟩]:=by
 refine⟨⟨rfl,aa _,by decide,.inr ⟨bg,0,rfl,hg.lt,fun i hi=>?_⟩⟩,fun g hgm=>?_⟩
 ·simp at hi;subst hi;refine⟨[.slice (some ⟨bn,0,none⟩) 1 1,.int .u8 f.toNat],rfl,rfl,fun j hj=>?_⟩;rw[hg.cell]
  match j,hj with
  |0,_=>rfl
  |1,_=>rfl
 ·simp at hgm;subst hgm;refine⟨rfl,aa _,(show(1:Nat)≤9223372036854775807 by decide),.inr ⟨bn,0,rfl,hn.lt,fun i hi=>?_⟩⟩;simp at hi;subst hi;refine⟨x.cs,rfl,rfl,fun j hj=>?_⟩;rw[hn.cell]
  match j,hj with
  |0,_=>rfl
  |1,_=>rfl
  |2,_=>rfl
  |3,_=>rfl
  |4,_=>rfl
theorem Kr{w:World}{bg:Nat}(hg:au w bg #[.slice none 0 0,.int .u8 0] 45):j0 w (some ⟨bg,0,none⟩) 1 [Gr.zero]:=by
 refine⟨⟨rfl,aa _,by decide,.inr ⟨bg,0,rfl,hg.lt,fun i hi=>?_⟩⟩,fun g hgm=>?_⟩
 ·simp at hi;subst hi;refine⟨[.slice none 0 0,.int .u8 0],rfl,rfl,fun j hj=>?_⟩;rw[hg.cell]
  match j,hj with
  |0,_=>rfl
  |1,_=>rfl
 ·simp at hgm;subst hgm;exact⟨rfl,aa _,by decide,.inl rfl⟩
theorem DT(w:World)(hm:kl w):Calls Tryz.prog 5 #[] w fun e w'=>e=.returned (.bool true)∧Up w w':=by
 have GK:=al (al (Uq w) (.cells #[.int .u8 109,.int .i64 7,.string (ByteArray.mk #[47,97]),.string (ByteArray.mk #[47,98]),.string ByteArray.empty] 63)) (.cells #[.slice (some ⟨w.heap.size,0,none⟩) 1 1,.int .u8 101] 45);have h1:=(au.new w #[.int .u8 109,.int .i64 7,.string (ByteArray.mk #[47,97]),.string (ByteArray.mk #[47,98]),.string ByteArray.empty] 63).eE (.cells #[.slice (some ⟨w.heap.size,0,none⟩) 1 1,.int .u8 101] 45);have h2:=au.new (w.alloc (.cells #[.int .u8 109,.int .i64 7,.string (ByteArray.mk #[47,97]),.string (ByteArray.mk #[47,98]),.string ByteArray.empty] 63)) #[.slice (some ⟨w.heap.size,0,none⟩) 1 1,.int .u8 101] 45;have hG0:=NC (x:=MN) (f:=101) h1 h2;have SX:rv [⟨some ⟨w.heap.size,0,none⟩,1,[MN],101⟩]:=fun g hg x hx=>by simp at hg;subst hg;simp at hx;subst hx;exact DU
 have Ue:=Um GK;have N9:=Um hG0;have Is:=Um SX;have HM:=Um (hm.ak GK);clear hm GK h1 h2 hG0 SX;go_enter Tryz.func5,Tryz.ntmps5;go_upto_region 2 with(fail);rw[World.size_alloc] at N9;show Code.wp Tryz.prog _ _ _ ((w.alloc (.cells #[.int .u8 109,.int .i64 7,.string (ByteArray.mk #[47,97]),.string (ByteArray.mk #[47,98]),.string ByteArray.empty] 63)).alloc (.cells #[.slice (some ⟨w.heap.size,0,none⟩) 1 1,.int .u8 101] 45));generalize (w.alloc (.cells #[.int .u8 109,.int .i64 7,.string (ByteArray.mk #[47,97]),.string (ByteArray.mk #[47,98]),.string ByteArray.empty] 63)).alloc (.cells #[.slice (some ⟨w.heap.size,0,none⟩) 1 1,.int .u8 101] 45)=W0 at Ue N9 HM⊢;generalize vm:(⟨some ⟨w.heap.size,0,none⟩,1,[MN],101⟩:Gr)=g0 at N9 Is;have QK:g0.p=([MN],101):=by rw[←vm];rfl
 have OJ:=Um QK;have HPar:=Um (fun(w:World) (hm:kl w)=>C8 (s:=ByteArray.mk #[103,10,109,32,55,32,47,97,32,47,98,10,101,10]) Hh w (by decide) hm);have HPbr:=Um (fun(w:World) (hm:kl w)=>C9 (s:=ByteArray.mk #[103,10,109,32,48,55,32,47,97,32,47,98,10,101,10]) He w (by decide) hm);have yW:=Um (fun(w:World) (hb:Up W0 w)=>(show Calls Tryz.prog 22 #[.slice (some ⟨_,0,none⟩) 1 1] w fun e w'=>e=.returned (.string (ByteArray.mk #[103,10,109,32,55,32,47,97,32,47,98,10,101,10]))∧Up w w' from by
  have h:=qt _ _ [g0] w (N9.o.below hb (aa _)) Is.o (by show(aI [g0.p]).length≤_;rw[OJ.o,uU];decide);have e:ca ([g0].map Gr.p)=OZ.data.toList:=by show ca [g0.p]=_;rw[OJ.o];unfold ca;rw[uV];exact uU
  rw[e] at h;exact h))
 have E2:=Um (fun(w:World) (hb:Up W0 w)=>(show Calls Tryz.prog 23 #[.slice (some ⟨_,0,none⟩) 1 1] w fun e w'=>e=.returned (.bool true)∧Up w w' from by
  have h:=nN _ _ [g0] w (N9.o.below hb (aa _)) Is.o;have e:bU ([g0].map Gr.p)=true:=by show bU [g0.p]=_;rw[OJ.o];exact uV
  rw[e] at h;exact h))
 have HFz:=Um (fun(w:World)=>(show Calls Tryz.prog 23 #[.slice (some ⟨w.heap.size,0,none⟩) 1 1] (w.alloc (.cells #[.slice none 0 0,.int .u8 0] 45)) fun e w'=>e=.returned (.bool false)∧Below (w.alloc (.cells #[.slice none 0 0,.int .u8 0] 45)).heap.size (w.alloc (.cells #[.slice none 0 0,.int .u8 0] 45)) w' from by
  exact nN _ _ [Gr.zero] _ (Kr (au.new w _ _)) (fun g hg x hx=>by simp at hg;subst hg;simp[Gr.zero] at hx)))
 have LU:=Um (fun(w:World) (a:Option Addr) (c:Nat) (gs:List Gr) (hb:Up W0 w) (hm:gs.map Gr.p=[([MN],101)]) (hG:j0 w a c gs)=>(show Calls Tryz.prog 18 #[.slice (some ⟨_,0,none⟩) 1 1,.slice a gs.length c] w fun e w'=>e=.returned (.bool true)∧Up w w' from by
  have h:=z8 _ a _ c [g0] gs w (N9.o.below hb (aa _)) hG;have e:tm [g0] gs=true:=by unfold tm;rw[hm];exact decide_eq_true (by show[g0.p]=_;rw[OJ.o])
  rw[e] at h;exact h))
 clear vm QK;go_upto_region 3 with(go_at_call 21;refine(HPar.o _ HM.o).mono ?_;rintro e w1 ⟨⟨a1,c1,gs1,eR,rfl,LQ,-⟩,ar⟩;have zd:=Um eR;have L5:=Um LQ;have cM:=Um ar;clear eR LQ ar);go_upto_region 4 with(go_at_call 21;refine(HPbr.o _ (HM.o.ak cM.o)).mono ?_;rintro e w2 ⟨rfl,aD⟩;have cV:=Um (ao cM.o aD);have L4:=Um (L5.o.below aD (aa _));clear aD);go_wp2_with (go_at_call 22;refine(yW.o _ cV.o).mono ?_;rintro e w3 ⟨rfl,bJ⟩;have ez:=Um (ao cV.o bJ);have N8:=Um (L4.o.below bJ (aa _));clear bJ);refine(LU.o _ _ _ _ ez.o zd.o N8.o).mono ?_;rintro e w4 ⟨rfl,dI⟩;have oh:=Um (ao ez.o dI);clear dI;go_wp2_with fail;refine(E2.o _ oh.o).mono ?_;rintro e w5 ⟨rfl,b9⟩;have hZ:=Um (ao oh.o b9);clear b9;go_wp2_with fail;refine(HFz.o _).mono ?_;rintro e w6 ⟨rfl,eV⟩;have sP:=Um (ao (al hZ.o _) eV);clear eV;go_wp2_with fail;go_ret;exact⟨rfl,Ue.o.trans (sP.o.mono Ue.o.size)⟩
end
section
open Go.RowKit
def QE(gs:List Gr):Prop:=∀g∈gs,∀x∈g.notes,-9223372036854775808≤x.no∧x.no≤9223372036854775807
theorem yK{gs:List Gr}(h:qU gs=true)(hn:QE gs):rv gs:=fun g hg x hx=>by
 unfold qU at h;rw[Bool.and_eq_true] at h;have h1:=List.all_eq_true.1 h.1 g hg;unfold mJ at h1;rw[Bool.and_eq_true] at h1;have h2:=List.all_eq_true.1 h1.2 x hx;unfold pX at h2;simp only[Bool.and_eq_true,decide_eq_true_eq] at h2;exact⟨by omega,by omega,by omega,(hn g hg x hx).1,(hn g hg x hx).2⟩
theorem CD(k:Nat):∀l:List Nat,(∀x∈l,x≤k)→l.sum≤l.length*k
 | [],_=>by simp
 |a::l,h=>by
  rw[List.sum_cons,List.length_cons,Nat.succ_mul];have:=CD k l (fun x hx=>h x (by simp[hx]));have:=h a (by simp);omega
theorem uD{gs:List Gr}(h:qU gs=true)(hn:QE gs):(aI (gs.map Gr.p)).length≤90000:=by
 have hO:=yK h hn;unfold qU at h;rw[Bool.and_eq_true,decide_eq_true_eq] at h;have key:∀g∈gs,(fq g.p).length≤10920:=fun g hg=>by
  have h1:=List.all_eq_true.1 h.1 g hg;unfold mJ at h1;rw[Bool.and_eq_true,decide_eq_true_eq] at h1;have h2:(g.notes.flatMap dU).length≤g.notes.length*2727:=by
   rw[List.length_flatMap];have:=CD 2727 (g.notes.map fun x=>(dU x).length) (fun y hy=>by
    obtain⟨x,hx,rfl⟩:=List.mem_map.1 hy;have h3:=List.all_eq_true.1 h1.2 x hx;unfold pX at h3;simp only[Bool.and_eq_true,decide_eq_true_eq] at h3;exact wU (m:=300) (hO g hg x hx) h3.1.1 h3.1.2 h3.2)
   rwa [List.length_map] at this
  have h3:=uG g.fin;unfold fq Gr.p;simp only[List.length_cons,List.length_append];omega
 unfold aI;rw[List.length_flatMap];have:=CD 10920 ((gs.map Gr.p).map fun g=>(fq g).length) (fun y hy=>by
  obtain⟨q,hq,rfl⟩:=List.mem_map.1 hy;obtain⟨g,hg,rfl⟩:=List.mem_map.1 hq;exact key g hg)
 rw[List.length_map,List.length_map] at this;omega
end
section
open Go.RowKit
theorem AB{s:List UInt8}{gs:Gs}(h:dm s=some gs):bU gs=true∧aI gs=s:=by
 unfold dm at h
 split at h
 ·rename_i h0;injection h with h;subst h h0;exact⟨rfl,rfl⟩
 ·rename_i h0
  cases hf:(dB 10 (Lib.trimSuffix s [10])).foldlM eN [] with
  |none=>rw[hf] at h;cases h
  |some o=>
   rw[hf] at h;simp only[Option.bind_some] at h
   split at h
   ·rename_i hw;injection h with h;subst h;unfold ca at hw
    cases hd:bU o with
    |true=>rw[hd,if_pos rfl] at hw;exact⟨rfl,hw⟩
    |false=>rw[hd,if_neg (by decide)] at hw;exact absurd hw.symm h0
   ·cases h
theorem oB{S:Fs}{N:Nat}(hk:av S N)(d:Bool)(c:Cr)(no:Int):(S.jD d c no).1.size≤1048576:=by
 unfold Fs.jD
 split
 ·exact Nat.zero_le _
 ·unfold Fs.read
  split
  ·cases hg:S.get no with
   |none=>exact Nat.zero_le _
   |some a=>exact(hk.get hg).1.data
  ·exact Nat.zero_le _
theorem js{S:Fs}{N:Nat}(hk:av S N)(d:Bool)(u:Us):bU (S.aV d u).1=true∧(aI (S.aV d u).1).length≤1048576:=by
 have h0:bU ([]:Gs)=true∧(aI []).length≤1048576:=⟨rfl,by decide⟩;unfold Fs.aV
 split
 ·exact h0
 split
 ·exact h0
 split
 ·exact h0
 unfold Fs.Se
 split
 ·exact h0
 split
 ·exact h0
 split
 ·exact h0
 split
 ·exact h0
 ·rename_i gs hp;obtain⟨h1,h2⟩:=AB hp;refine⟨h1,?_⟩;show(aI gs).length≤_;rw[h2,Array.length_toList];exact oB hk d u.c _
theorem uj{gs:Gs}(h:bU gs=true){g:List Nt×UInt8}(hg:g∈gs):g.1≠[]:=(eW h g hg).2.1
theorem jz(a b:Gs):aI (a++b)=aI a++aI b:=List.flatMap_append
theorem zN(g:List Nt×UInt8):aI [g]=fq g:=by simp[aI]
theorem xt(gs:Gs):(aI gs.dropLast).length≤(aI gs).length:=by
 rcases List.eq_nil_or_concat gs with rfl|⟨l,g,rfl⟩
 ·exact aa _
 ·rw[List.concat_eq_append,List.dropLast_concat,jz,List.length_append];omega
theorem FT(x:Nt){no:Int}(h0:-9223372036854775808≤no)(h1:no≤9223372036854775807):(dU (x.fU no)).length≤2*(dU x).length+20:=by
 have h2:=(uL no h0 h1).1;have h3:(bx (x.fU no).tmp).length≤(bx x.dst).length+(bx x.tmp).length:=by
  show(bx (if x.tmp.size=0 then x.tmp else x.dst)).length≤_
  split<;>omega
 have h4:(cG (x.fU no).no).length≤20:=h2;unfold dU;simp only[List.length_cons,List.length_append];have h5:(bx (x.fU no).src).length=(bx x.src).length:=rfl;have h6:(bx (x.fU no).dst).length=(bx x.dst).length:=rfl;omega
theorem KA(ns:List Nt){no:Int}(h0:-9223372036854775808≤no)(h1:no≤9223372036854775807):((dN ns no).flatMap dU).length≤2*(ns.flatMap dU).length+20:=by
 unfold dN
 split
 ·omega
 ·rcases List.eq_nil_or_concat ns with rfl|⟨l,x,rfl⟩
  ·exact Nat.zero_le _
  ·rw[List.concat_eq_append,List.getLast?_concat,List.dropLast_concat];have:=FT x h0 h1;simp only[List.flatMap_append,List.length_append,List.flatMap_cons,List.flatMap_nil,List.append_nil];omega
theorem BD(gs:Gs){g:List Nt×UInt8}(hg:gs.getLast?=some g)(b:UInt8){no:Int}(h0:-9223372036854775808≤no)(h1:no≤9223372036854775807) :
  (aI (gs.dropLast++[(dN g.1 no,b)])).length≤2*(aI gs).length+30:=by
 rcases List.eq_nil_or_concat gs with rfl|⟨l,x,rfl⟩
 ·cases hg
 ·rw[List.concat_eq_append,List.getLast?_concat] at hg;injection hg with hg;subst hg;rw[List.concat_eq_append,List.dropLast_concat,jz,jz,zN,zN];have h2:=KA x.1 h0 h1;have h3:=uG b;unfold fq;simp only[List.length_cons,List.length_append];omega
theorem I8{x:Nt}(h:x.Ok){no:Int}(h0:-9223372036854775808≤no)(h1:no≤9223372036854775807):(x.fU no).Ok:=by
 refine⟨h.src,h.dst,?_,h0,h1⟩;show(if x.tmp.size=0 then x.tmp else x.dst).size≤_
 split
 ·exact h.tmp
 ·exact h.dst
theorem pZ{ns:List Nt}(h:∀x∈ns,x.Ok){no:Int}(h0:-9223372036854775808≤no)(h1:no≤9223372036854775807):∀x∈dN ns no,x.Ok:=by
 unfold dN
 split
 ·exact h
 ·rcases List.eq_nil_or_concat ns with rfl|⟨l,y,rfl⟩
  ·exact h
  ·rw[List.concat_eq_append] at h⊢;rw[List.getLast?_concat,List.dropLast_concat];intro x hx;rcases List.mem_append.1 hx with hx|hx
   ·exact h x (List.mem_append_left _ hx)
   ·rw[List.mem_singleton.1 hx];exact I8 (h y (by simp)) h0 h1
theorem uu(g:Gr)(f:UInt8)(h:mJ g=true)(hn:∀x∈g.notes,-9223372036854775808≤x.no∧x.no≤9223372036854775807):(aI [(g.notes,f)]).length≤90000:=by
 have:=uD (gs:=[⟨g.a,g.c,g.notes,f⟩]) (by unfold qU;rw[List.all_cons,show mJ ⟨g.a,g.c,g.notes,f⟩=true from h];rfl) (fun y hy x hx=>by rw[List.mem_singleton.1 hy] at hx;exact hn x hx);exact this
end
section
open Go.RowKit
theorem rh(u g:Int)(t:ByteArray)(w:World) :
  Calls Tryz.prog 28 #[.agg #[.int .i64 u,.int .i64 g,.string t]] w fun e w'=>e=.returned (.agg #[.int .i64 u,.int .i64 g])∧Up w w':=by
 go_enter Tryz.func28,Tryz.ntmps28;go_wp2_with fail
 go_returns
 exact⟨rfl,by go_grown⟩
section
variable{w w':World}{pw:Nat}{R:Rp}{S:Fs}
theorem F3(h:bh w pw R S){N:Nat}(hk:av S N)(hN:N≤999999)(c:Cr)(dir:Int)(n:ByteArray) :
  Calls Tryz.prog 72 #[.pointer (some ⟨pw,0,none⟩),.agg #[.int .i64 c.u,.int .i64 c.g],.int .i64 dir,.string n] w fun e w'=>e=.returned (.tuple #[.int .i64 (S.cR false c dir n).1,.int .i64 (S.cR false c dir n).2])∧Up w w':=by
 have HO:=Um (fun w1 (ar:Up w w1)=>AE (h.ak ar) hk c dir 1 1);have vt:=Um (fun w1 (ar:Up w w1) k=>mX (h.ak ar) hk.d1 k);have HK:=Um hk;have HR:=Um (show S.cR false c dir n=if S.dF c dir 1 1≠0 then(0,S.dF c dir 1 1) else if aN (S.dg dir) n=0 then(0,5) else(S.over (aN (S.dg dir) n),0) by unfold Fs.cR;rw[if_neg (by decide)]);generalize S.cR false c dir n=rd at HR⊢;have hbc:=al (Uq w) (.cells #[.int .i64 c.u,.int .i64 c.g] 69);clear h hk;go_enter Tryz.func72,Tryz.ntmps72;go_wp2_with fail;refine(HO.o _ hbc).mono ?_;rintro e w1 ⟨⟨h0,rfl⟩|⟨h0,d,ea,el,ec,hg,rfl,he⟩,ar⟩
 ·have HB:=Um (ao hbc ar);have HE:=Um (HR.o.trans (if_pos h0));have To:(S.dF c dir 1 1 != 0)=true:=by simpa using h0
  generalize S.dF c dir 1 1=oe at HE To⊢;unfold An.v dh;clear h0 ar hbc;go_wp2_with fail;go_ret2;rw[HE.o];exact⟨rfl,al HB.o _⟩
 ·have aD:=ao hbc ar;have hen:S.dg dir=d.aB:=by
   unfold Fs.dg;rw[hg]
  have HE:=Um (show rd=if aN d.aB n=0 then(0,5) else(S.over (aN d.aB n),0) by rw[HR.o,if_neg (by simpa using h0),hen]);have hfew:el≤1000000:=by
   rw[←he.len];exact ae (HK.o.get hg).1.BB (by omega)
  have HF:=Um (fun w2 (aD:Up w1 w2)=>nL d.aB ea el ec n w2 ((he.ak ar).ak aD) (HK.o.get hg).1.hH hfew);obtain⟨hX,ax⟩:=Uo w1 #[.int .i64 d.no,.int .i64 d.dev,.int .i64 d.kind,.int .i64 d.mode,.int .i64 d.uid,.int .i64 d.gid,.int .i64 d.mtime,.int .i64 d.ctime,.int .i64 d.an,.int .i64 d.up,.string d.data,.slice ea el ec] 99;have cV:=Um aD;unfold An.v;clear h0 ar hbc aD hen he hfew hg;go_upto_region 2 with fail;generalize w1.alloc _=X at hX ax⊢;have aJ:=Um ax;have vK:=Um (cV.o.trans (ax.mono cV.o.size));obtain⟨xc,xf,xz⟩:=hX.facts;clear hX ax;generalize aN d.aB n=f at HE HF;go_wp2_with fail;refine(HF.o _ aJ.o).mono ?_;rintro e w2 ⟨rfl,aD⟩;have ez:=Um (ao vK.o aD);clear aD xc xf xz;by_cases hf:f=0
  ·have fX:=Um (HE.o.trans (if_pos hf));have gd:(f==0)=true:=by simpa using hf
   clear hf;go_wp2_with fail;go_ret2;rw[fX.o];exact⟨rfl,ez.o⟩
  ·have fX:=Um (HE.o.trans (if_neg hf));have gd:(f==0)=false:=by simpa using hf
   clear hf;go_wp2_with fail;refine(vt.o _ ez.o _).mono ?_;rintro e w3 ⟨rfl,bJ⟩;have oh:=Um (ao ez.o bJ);clear bJ;go_wp2_with fail;go_ret2;rw[fX.o];exact⟨rfl,oh.o⟩
end
section
variable{w w':World}{pf pw:Nat}{R:Rp}{pv:Value}{Y:Sy}
theorem Fw(h:bK w pf pw R pv Y){N:Nat}(hk:av Y.fs N)(hN:N≤999999)(c:Cr)(dir:Int)(n:ByteArray) :
  Calls Tryz.prog 37 #[.pointer (some ⟨pf,0,none⟩),.agg #[.int .i64 c.u,.int .i64 c.g],.int .i64 dir,.string n] w fun e w'=>e=.returned (.tuple #[.int .i64 (Y.fs.cR Y.dead c dir n).1,.int .i64 (Y.fs.cR Y.dead c dir n).2])∧Up w w':=by
 obtain⟨fy,ax⟩:=Uo w #[.int .i64 c.u,.int .i64 c.g] 69;have HR:=Um (fun w1 (ar:Up w w1)=>iq (h.ak ar));have HS:=Um (fun w1 (ar:Up w w1)=>F3 (h.wd.ak ar) hk hN c dir n);obtain⟨pc,-,pz⟩:=h.bd.facts;have vr:=Um (fun w1 (ar:Up w w1)=>show w1.cell? ⟨pf,0,none⟩=some (.pointer (some ⟨pw,0,none⟩)) from(ar.cell (p:=⟨pf,0,none⟩) pz).trans (pc 0));have mixed:Tryz.prog.follows .mixedOrders=true:=by kernel_rfl
 clear h hk pc pz
 cases hd:Y.dead with
 |true=>
  rw[hd] at HR;clear hd HS;go_enter Tryz.func37,Tryz.ntmps37;go_wp2_with fail;refine(HR.o _ ax).mono ?_;rintro e w1 ⟨rfl,rfl⟩;have HB:=Um ax;clear ax fy;go_wp2_with fail;go_ret2;exact⟨rfl,HB.o⟩
 |false=>
  rw[hd] at HR;generalize Y.fs.cR false c dir n=rd at HS⊢;clear hd;go_enter Tryz.func37,Tryz.ntmps37;go_wp2_with fail;refine(HR.o _ ax).mono ?_;rintro e w1 ⟨rfl,rfl⟩;generalize w.alloc _=W0 at fy ax⊢;have aJ:=Um ax;have pc0:=vr.o _ ax;obtain⟨cc,-,cz⟩:=fy.facts;clear fy ax;go_wp2_with fail;refine ay 7 mixed (by kernel_rfl) (show bV _ from by repeat (first|exact cZ|refine cY ?_|refine cw ?_|refine cJ ?_)) ?_;simp only[List.take_succ_cons,List.take_zero,List.drop_succ_cons,List.drop_zero]
  repeat still_step
  refine wpStill_nil ?_;go_wp2_with fail;refine(HS.o _ aJ.o.drew).mono ?_;rintro e w1 ⟨rfl,ar⟩;have HB:=Um (aJ.o.drew.trans (ar.mono aJ.o.size));clear ar;go_wp2_with fail;go_ret2;exact⟨rfl,HB.o⟩
end
end
section
open Go.RowKit
end
end Go.Proofs.YtinflmadpnigfaaGreatDoor
