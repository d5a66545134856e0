import Derived.Laws.CopyRow
import Derived.Laws.Externs
import Derived.Lib.Overlaps
import Derived.Lib.AppendZeros
import Derived.Lib.JoinLaws
import Derived.Deep.AppendSrc
import Derived.Lib.SliceRun
import Derived.Lib.AppendZerosOnto
import Derived.Deep.CutBlock
import Derived.Deep.DeepCutAuto
import Derived.RegionTactic
import Derived.BigRegion
import Derived.Test.YtabbjaomlmnnhaaGreatCS2
import Derived.Test.YtabbjaomlmnnhaaGreatCS6
import Derived.Test.YtabbjaomlmnnhaaGreatCS5
set_option linter.unusedVariables false
set_option linter.unusedSimpArgs false
set_option maxRecDepth 100000
set_option maxHeartbeats 16000000
namespace Go.Proofs.YtabbjaomlmnnhaaGreat
section
open Go.RowKit
section
variable{P:Program}
theorem gG(w:World)(dT sT ty elem:TypeId)(g o dLen dCap:Nat)(a:Addr)(sLen sCap:Nat)(cur:Array Value)(t:TypeId)(cs:List Value)(n sz:Nat)
  (hu:P.underlying dT=some (.slice elem)) (hs:(P.info? elem).map (·.size)=some sz)
  (hg:w.heap[g]?=some (.cells cur t (0,0))) (hm:Nat.min sLen dLen=n) (hn:cs.length=n*sz)
  (hsrc:∀j v,cs[j]?=some v→w.cell? (a.add j)=some v) (hfit:o+cs.length≤cur.size) (h1:∀v∈cs,v.oneCell'=true) :
  (Builtin.copy_ #[dT,sT] ty #[.slice (some ⟨g,o,none⟩) dLen dCap,.slice (some a) sLen sCap]).run P w =
   .ok (goInt n) (w.setRow g (cur.toList.take o++cs++cur.toList.drop (o+cs.length)).toArray):=by
 have hl:=run_loadCells_list (P:=P) w a cs hsrc;have hst:=run_storeCells_at P g o t cs 0 cur w hg (by simpa using hfit) h1
 cases hq:P.info? elem with
 |none=>simp[hq] at hs
 |some i=>
  have hi:i.size=sz:=by simpa [hq] using hs
  simp[Builtin.copy_,run_underlying hu,Builtin.lenOf,Builtin.firstCells,sizeOf,typeInfo,hq,hi,hm,←hn,hl,hst]
theorem we(w:World){o:Oper}{a:Act}{K:Act→World→Prop}{Q:Exit→Act→World→Prop}(d s:Operand)(t t':TypeId)
  (ho:o.op=.call {callee:=.builtin .copy,args:=#[d,s],argTypes:=#[t,t']}) (v u:Value) (hd:a.eval d=v) (hs:a.eval s=u) {v':Value} {w':World}
  (hr:(Builtin.copy_ #[t,t'] o.type #[v,u]).run P w=.ok v' w') (h:K (a.put o.dst v') w'):o.wp P a w K Q:=by
 unfold Oper.wp execOp;simp only[ho,resolve,invoke,builtin,Sem.run_bind,Sem.run_pure,Result.andThen_ok,List.map_toArray,List.map_cons,List.map_nil,hd,hs,hr];exact h
theorem ko(w:World){ops:Array Oper}{rest:List Oper}{o:Oper}{a:Act}{Q:Exit→Act→World→Prop}(hgd:o.guard=none)(d s:Operand)(t t':TypeId)
  (ho:o.op=.call {callee:=.builtin .copy,args:=#[d,s],argTypes:=#[t,t']}) (v u:Value) (hd:a.eval d=v) (hs:a.eval s=u) {v':Value} {w':World}
  (hr:(Builtin.copy_ #[t,t'] o.type #[v,u]).run P w=.ok v' w') (h:wpList P ops Q rest (a.put o.dst v') w'):wpList P ops Q (o::rest) a w:=
 wpList_plain hgd fun _ hK=>we w d s t t' ho v u hd hs hr (hK _ _ h)
theorem lX{ops:Array Oper}{o:Oper}{a:Act}{w:World}{K:Act→World→Prop}{Q:Exit→Act→World→Prop}{E:Prop}
  (hg:o.guard=none) (d x:Operand) (dT sT:TypeId) (hop:o.op=Op.call {callee:=Callee.builtin Builtin.copy,args:=#[d,x],argTypes:=#[dT,sT]})
  (v u:Value) (hd:a.eval d=v) (hx:a.eval x=u) {v':Value} {w':World} (hr:(Builtin.copy_ #[dT,sT] o.type #[v,u]).run P w=.ok v' w') (hK:K (a.put o.dst v') w') :
  if Region.wanted o (yielded ops a.tmps)=true then Oper.wp P o a w K Q else E:=by
 have hw:Region.wanted o (yielded ops a.tmps)=true:=by simp[Region.wanted,hg]
 rw[if_pos hw];unfold Oper.wp;simp[execOp,hop,resolve,invoke,builtin,hd,hx,hr,Result.andThen];exact hK
end
theorem j2{w:World}{g:Nat}{cur vs:Array Value}{T:TypeId}(h:aw w g cur T):aw (w.setRow g vs) g vs T:=setRow_heap w g cur vs T _ h
theorem j1(w:World)(g:Nat)(vs:Array Value):Mod (fun k=>k=g) w (w.setRow g vs):=by
 refine⟨rfl,rfl,rfl,by simp[World.setRow],fun k hk hs=>?_⟩;simp only[World.setRow];rw[Array.getElem?_modify,if_neg (fun e=>hs e.symm)]
end
section
open Go.RowKit
theorem gj:(Tryz.prog.info? 98).map (fun i=>(i.zero,i.size,i.bytes))=some (some (.agg #[.string ByteArray.empty,.int .i64 0]),2,24):=by kernel_rfl
theorem nC(es:List En):∀u∈es.flatMap b9,u.oneCell'=true:=by
 intro u hu;obtain⟨x,-,hx⟩:=List.mem_flatMap.1 hu;simp[b9] at hx;rcases hx with rfl|rfl<;>rfl
theorem aA.news{w:World}{b off n c:Nat}{es:List En}(h:aA w (some ⟨b,off,none⟩) n c es):∀j u,(es.flatMap b9)[j]?=some u→w.cell? ((⟨b,off,none⟩:Addr).add j)=some u:=by
 intro j u hu;have hlt:j<(es.flatMap b9).length:=(List.getElem?_eq_some_iff.1 hu).1;rw[bW bJ] at hlt;have hm:=Nat.mod_lt j (show 0<2 by omega);have hdiv:j=j / 2*2+j % 2:=by omega
 have hq:j / 2<es.length:=by omega
 have h1:=gP bJ es (j / 2) (j % 2) hq hm;rw[←hdiv,hu] at h1;obtain⟨c1,c2⟩:=h.cell (j / 2) hq;rw[k9];rcases(show j % 2=0∨j % 2=1 by omega) with hr|hr
 ·rw[hr] at h1;rw[show off+j=off+j / 2*2 by omega,c1];exact h1.symm
 ·rw[hr] at h1;rw[show off+j=off+j / 2*2+1 by omega,c2];exact h1.symm
def OE(w:World)(base:Nat)(v:Value)(es:List En):Prop:=w.ownsRow base 98 2 v es.length (es.flatMap b9)
theorem OE.at{w:World}{base c:Nat}{a:Option Addr}{es:List En}(h:OE w base (.slice a es.length c) es):aA w a es.length c es:=by
 refine⟨eo (R:=Pq) (by omega) bJ (fun _=>rfl) h,fun p hp=>?_⟩;subst hp;rcases h.2 with⟨h1,-⟩|⟨g,cap,cur,h1,-,hg,-⟩
 ·cases h1
 ·injection h1 with h1;injection h1 with h1;exact⟨g,0,cur,h1,hg⟩
theorem OE.ak{w w':World}{base:Nat}{v:Value}{es:List En}(h:OE w base v es)(hb:Qi w w'):OE w' base v es:=dD h hb (aa _)
theorem AK(es:List En)(a:Option Addr)(n c:Nat)(w:World)(he:aA w a n c es)(hn:n≤1000000) :
  Calls Tryz.prog 153 #[.slice a n c] w fun e w'=>(∃a' c',e=.returned (.slice a' n c')∧OE w' w.heap.size (.slice a' n c') es)∧Qi w w':=by
 have hl:=he.len;obtain⟨i0,hi,jy,ee,et⟩:=info_parts gj;have hq:∀(w:World) (r:Option Addr) (n c:Nat),(binOp .eql 94 (.slice r n c) (.slice none 0 0)).run Tryz.prog w=.ok (.bool r.isNone) w:=fun w r n c=>Lib.run_eql_slice_nil w _ _ r n c 0 0 Tryz.underlying94
 cases a with
 |none=>
  have ME:n=0:=by
   rcases Nat.eq_zero_or_pos n with h|h
   ·exact h
   ·obtain⟨b,off,h1,-⟩:=he.dL h
    cases h1
  subst ME;obtain rfl:es=[]:=List.eq_nil_of_length_eq_zero hl;have H:=Qf (show OE w w.heap.size (.slice none 0 0) [] from World.ownsRow_nil _ _ _ _);clear he hl hi jy ee et;go_enter Tryz.func153,Tryz.ntmps153;go_wp2_with fail;go_ret;exact⟨⟨none,0,rfl,H.o⟩,Below.refl _ _⟩
 |some p=>
  obtain⟨b,off,cur,rfl,hblk⟩:=he.aZ p rfl;have mP:=he.ak ((Below.refl _ w).alloc (aa _) (.cells #[] 98));have hrun:∃a' c' W,(Builtin.append_ #[94,94] 94 #[.slice (some ⟨w.heap.size,0,none⟩) 0 0,.slice (some ⟨b,off,none⟩) n c]).run Tryz.prog (w.alloc (.cells #[] 98))=.ok (.slice a' n c') W∧
    OE W w.heap.size (.slice a' n c') es∧Qi w W:=by
   obtain⟨g,cap,W,h1,h2,h3,h4⟩:=uF (94) Tryz.underlying94 hi jy ee et rfl (by omega) (C2 (base:=w.heap.size) (sz:=2) (e:=98) w (aa _)) ⟨b,off,none⟩ n c (es.flatMap b9) (by rw[bW bJ,hl]) mP.news (nC es) (by unfold maxLen;omega) (by omega) (by simp);refine⟨some ⟨g,0,none⟩,cap,W,?_,?_,((Qj w).alloc (aa _) _).trans (h3.below (fun k hk=>by omega) (by simp))⟩
   ·rw[Nat.zero_add] at h1;exact h1
   ·rw[Nat.zero_add,List.nil_append] at h2;unfold OE;rw[hl];exact h2
  obtain⟨a',c',W,hrun,h2,h3⟩:=hrun;have H:=Qf (ag h2 h3);clear he mP hblk h2 h3 hi jy ee et hl;go_enter Tryz.func153,Tryz.ntmps153;go_wp2_with (at_builtin;refine aL rfl rfl rfl rfl hrun ?_);go_ret;exact⟨⟨a',c',rfl,H.o.1⟩,H.o.2⟩
end
section
open Go.RowKit
theorem OE.mk{w:World}{base g cap:Nat}{cur:Array Value}{es:List En}(hb:base≤g)(hg:aw w g cur 98)(h1:es.length≤cap)(h2:cap≤maxLen)(h3:cur.size=cap*2)(h4:cur.toList.take (es.length*2)=es.flatMap b9) :
  OE w base (.slice (some ⟨g,0,none⟩) es.length cap) es:=⟨bW bJ es,.inr ⟨g,cap,cur,rfl,hb,hg,h1,h2,h3,h4⟩⟩
theorem tU(es:List En)(i:Nat):(es.flatMap b9).take (i*2)=(es.take i).flatMap b9:=by
 induction es generalizing i with
 |nil=>simp
 |cons x es ih=>
  cases i with
  |zero=>simp
  |succ i=>
   rw[List.flatMap_cons,List.take_succ_cons,List.flatMap_cons,show(i+1)*2=(b9 x).length+i*2 by rw[bJ];omega,List.take_append,List.take_of_length_le (by omega),Nat.add_sub_cancel_left,ih]
theorem tV(es:List En)(i:Nat):(es.flatMap b9).drop (i*2)=(es.drop i).flatMap b9:=by
 induction es generalizing i with
 |nil=>simp
 |cons x es ih=>
  cases i with
  |zero=>simp
  |succ i=>
   rw[List.flatMap_cons,List.drop_succ_cons,show(i+1)*2=(b9 x).length+i*2 by rw[bJ];omega,List.drop_append,List.drop_eq_nil_of_le (by omega),Nat.add_sub_cancel_left,ih,List.nil_append]
theorem yp(es:List En)(a:Option Addr)(c base vb:Nat)(x:En)(w:World)(h:OE w base (.slice a es.length c) es)(hb:aw w vb #[.string x.name,.int .i64 x.no] 98)(hbase:base≤w.heap.size)(hn:es.length≤1000000) :
  Calls Tryz.prog 152 #[.slice a es.length c,.int .i64 es.length,.slice (some ⟨vb,0,none⟩) 1 1] w fun e w'=>(∃a' c',e=.returned (.slice a' (es.length+1) c')∧OE w' base (.slice a' (es.length+1) c') (es++[x]))∧Mod (fun k=>(Value.slice a es.length c).ownBlock=some k) w w':=by
 obtain⟨i0,hi,jy,ee,et⟩:=info_parts gj;obtain⟨g,cap,W,h1,h2,h3,h4⟩:=ei (94) Tryz.underlying94 hi jy ee et rfl (by omega) h ⟨vb,0,none⟩ 1 1 (b9 x) rfl (World.news_of_block hb) (by intro u hu;simp[b9] at hu;rcases hu with rfl|rfl<;>rfl) (by omega) (by unfold maxLen;omega) (by omega) hbase;have kq:OE W base (.slice (some ⟨g,0,none⟩) (es.length+1) cap) (es++[x]):=by
  unfold OE;rw[List.length_append,List.length_singleton,List.flatMap_append,List.flatMap_singleton];exact h2
 obtain⟨b',c',hv,hle,-⟩:=bC h;injection hv with e1 e2 e3;subst e1 e3;have H:=Qf (ag kq h3);clear h2 kq h3 h4 hi jy ee et hb h;obtain⟨n,hnn⟩:∃n,es.length=n:=⟨_,rfl⟩;rw[hnn] at H h1 hle hn⊢;clear hnn
 cases a with
 |none=>
  go_enter Tryz.func152,Tryz.ntmps152;go_wp2_with (at_builtin;refine aL rfl rfl rfl rfl h1 ?_)
  all_goals (go_ret;exact⟨⟨_,_,rfl,H.o.1⟩,H.o.2⟩)
 |some p=>
  go_enter Tryz.func152,Tryz.ntmps152;go_wp2_with (at_builtin;refine aL rfl rfl rfl rfl h1 ?_)
  all_goals (go_ret;exact⟨⟨_,_,rfl,H.o.1⟩,H.o.2⟩)
theorem jT(k:Nat):(Builtin.zeroCells (Value.cells (.agg #[.string ByteArray.empty,.int .i64 0])) k).size=k*2:=by
 rw[size_zeroCells];rfl
theorem hH{α:Type}(a b:List α)(n:Nat)(h:a.length=n):(a++b).take n=a:=by
 subst h;simp
theorem vx(es:List En)(g c i base vb:Nat)(x:En)(w:World)(h:OE w base (.slice (some ⟨g,0,none⟩) es.length c) es)(hb:aw w vb #[.string x.name,.int .i64 x.no] 98)(hbase:base≤w.heap.size)(hn:es.length≤1000000)(hil:i<es.length)(hroom:c<es.length+1) :
  Calls Tryz.prog 152 #[.slice (some ⟨g,0,none⟩) es.length c,.int .i64 i,.slice (some ⟨vb,0,none⟩) 1 1] w fun e w'=>(∃a' c',e=.returned (.slice a' (es.length+1) c')∧OE w' base (.slice a' (es.length+1) c') (es.take i++x::es.drop i))∧Qi w w':=by
 obtain⟨i0,hi,jy,ee,et⟩:=info_parts gj;have hA:=h.at;have hlt:=(hA.dL (by omega));obtain⟨gg,oo,hgg,hgl⟩:=hlt;injection hgg with hgg;injection hgg with e1 e2;subst e1 e2;obtain⟨b',c',hv,hle,-⟩:=bC h;injection hv with e1 e2 e3;subst e1 e3;have hsz:(Tryz.prog.info? 98).map (·.size)=some 2:=by rw[hi];simp[ee]
 obtain⟨n,hnn⟩:∃n,es.length=n:=⟨_,rfl⟩;have hold:(Builtin.firstCells i0.size i (.slice (some ⟨g,0,none⟩) i c)).run Tryz.prog w.drew=.ok ((es.take i).flatMap b9).toArray w.drew:=by
  rw[ee];refine run_firstCells_some w.drew 2 i ⟨g,0,none⟩ i c _ (by rw[bW bJ,List.length_take];omega) (fun j v hj=>?_);rw[←tU,List.getElem?_take] at hj
  split at hj
  ·exact hA.news j v hj
  ·cases hj
 have MA:=Lib.run_append_grow_zeros w 94 3 94 98 i0 _ .i64 .i64 Tryz.underlying94 Tryz.underlying3 hi jy (some ⟨g,0,none⟩) i c _ hold (n+1-i) (by omega) (by rw[ee];omega) (by omega) (by omega) (by rw[et];omega) (by rw[et];exact growslice_fits (by omega) (by omega));rw[show i+(n+1-i)=n+1 by omega] at MA;have hk:((n+1-i:Nat):Int)=(n:Int)+1-(i:Int):=by omega
 rw[hk] at MA;obtain⟨G,hG⟩:∃G,grownCap w (n+1) c 98=G:=⟨_,rfl⟩;have hG1:n+1≤G:=by rw[←hG];exact grownCap_ge w _ _ _
 have O9:G≤maxLen:=by rw[←hG];exact grownCap_le_maxLen w _ _ _ (by unfold maxLen;omega)
 rw[hG] at MA;obtain⟨ROW,Ja⟩:∃R,((es.take i).flatMap b9).toArray++Builtin.zeroCells (Value.cells (.agg #[.string ByteArray.empty,.int .i64 0])) (n+1-i)++Builtin.zeroCells (Value.cells (.agg #[.string ByteArray.empty,.int .i64 0])) (G-(n+1))=R:=⟨_,rfl⟩;rw[Ja] at MA;have hRs:ROW.size=G*2:=by
  rw[←Ja,Array.size_append,Array.size_append,jT,jT,List.size_toArray,bW bJ,List.length_take];omega
 have hRt:ROW.toList.take (i*2)=(es.take i).flatMap b9:=by
  rw[←Ja,Array.toList_append,Array.toList_append,List.append_assoc];exact hH _ _ _ (by rw[bW bJ,List.length_take];omega)
 have b1:aw (w.drew.alloc (.cells ROW 98)) w.heap.size ROW 98:=aw.new w.drew ROW 98;have B1:Qi w (w.drew.alloc (.cells ROW 98)):=((Below.refl _ w).drew).alloc (aa _) _;have hA1:=hA.ak B1;have tN:=hb.ak B1;have hne:vb≠w.heap.size:=by have:=hb.lt;omega
 generalize pX:w.drew.alloc (.cells ROW 98)=W1 at MA b1 B1 hA1 tN;clear pX;have sE:=gG W1 94 94 3 98 w.heap.size (i*2) (n+1-i) (G-i) ⟨vb,0,none⟩ 1 1 ROW 98 (b9 x) 1 2 Tryz.underlying94 hsz b1 (by simp only[Nat.min_def];split<;>omega) rfl (World.news_of_block tN) (by rw[bJ,hRs];omega) (by intro u hu;simp[b9] at hu;rcases hu with rfl|rfl<;>rfl);have b2:=j2 (vs:=(ROW.toList.take (i*2)++b9 x++ROW.toList.drop (i*2+(b9 x).length)).toArray) b1;have M2:=j1 W1 w.heap.size (ROW.toList.take (i*2)++b9 x++ROW.toList.drop (i*2+(b9 x).length)).toArray;have iR:(ROW.toList.take (i*2)++b9 x++ROW.toList.drop (i*2+(b9 x).length)).toArray.size=G*2:=by
  rw[List.size_toArray,List.length_append,List.length_append,List.length_take,List.length_drop,bJ,Array.length_toList,hRs];omega
 have Mz:(ROW.toList.take (i*2)++b9 x++ROW.toList.drop (i*2+(b9 x).length)).take ((i+1)*2)=(es.take i).flatMap b9++b9 x:=by
  rw[hRt];exact hH _ _ _ (by rw[List.length_append,bW bJ,List.length_take,bJ];omega)
 obtain⟨R2,dq⟩:∃R,(ROW.toList.take (i*2)++b9 x++ROW.toList.drop (i*2+(b9 x).length))=R:=⟨_,rfl⟩;rw[dq] at sE b2 M2 iR Mz;have B2:Qi w (W1.setRow w.heap.size R2.toArray):=B1.trans (M2.below (fun k hk=>by omega) B1.size);have kX:=hA.ak B2;generalize FQ:W1.setRow w.heap.size R2.toArray=W2 at sE b2 B2 kX;clear FQ M2;have hdl:((es.drop i).flatMap b9).length=(n-i)*2:=by rw[bW bJ,List.length_drop,hnn]
 have pB:=gG W2.drew 94 94 3 98 w.heap.size ((i+1)*2) (n+1-(i+1)) (G-(i+1)) ⟨g,i*2,none⟩ (n-i) (c-i) R2.toArray 98 ((es.drop i).flatMap b9) (n-i) 2 Tryz.underlying94 hsz b2.drew (by simp only[Nat.min_def];split<;>omega) hdl
  (fun j v hj=>by
   rw[←tV,List.getElem?_drop] at hj;have:=kX.news (i*2+j) v hj;rw[k9] at this⊢;rw[show i*2+j=0+(i*2+j) by omega];exact this) (by rw[hdl,iR];omega) (nC _)
 have b3:=j2 (vs:=(R2.toArray.toList.take ((i+1)*2)++(es.drop i).flatMap b9++R2.toArray.toList.drop ((i+1)*2+((es.drop i).flatMap b9).length)).toArray) b2.drew;have M3:=j1 W2.drew w.heap.size (R2.toArray.toList.take ((i+1)*2)++(es.drop i).flatMap b9++R2.toArray.toList.drop ((i+1)*2+((es.drop i).flatMap b9).length)).toArray;obtain⟨R3,ga⟩:∃R,(R2.toArray.toList.take ((i+1)*2)++(es.drop i).flatMap b9++R2.toArray.toList.drop ((i+1)*2+((es.drop i).flatMap b9).length))=R:=⟨_,rfl⟩;have pb:R3.toArray.size=G*2:=by
  rw[←ga,List.size_toArray,List.length_append,List.length_append,List.length_take,List.length_drop,hdl,Array.length_toList,iR];omega
 have ht3:R3.take ((n+1)*2)=(es.take i++x::es.drop i).flatMap b9:=by
  rw[←ga,List.flatMap_append,List.flatMap_cons,Mz];rw[hH _ _ _ (by rw[List.length_append,List.length_append,hdl,bW bJ,List.length_take,bJ];omega)];rw[List.append_assoc]
 rw[ga] at pB b3 M3;have B3:Qi w (W2.drew.setRow w.heap.size R3.toArray):=(B2.drew).trans (M3.below (fun k hk=>by omega) B2.size);generalize hW3:W2.drew.setRow w.heap.size R3.toArray=W3 at pB b3 B3;clear hW3 M3;have hlen:(es.take i++x::es.drop i).length=n+1:=by
  rw[List.length_append,List.length_take,List.length_cons,List.length_drop];omega
 have hfin:OE W3 base (.slice (some ⟨w.heap.size,0,none⟩) (n+1) G) (es.take i++x::es.drop i):=by
  have:=OE.mk (es:=es.take i++x::es.drop i) hbase b3 (by rw[hlen];exact hG1) O9 pb (by rw[hlen];exact ht3);rw[hlen] at this;exact this
 have H:=Qf (ag hfin B3);unfold maxLen at O9;rw[hnn] at hil hroom hn hle⊢;have q1:¬(G=i):=by omega
 have q2:¬(G=i+1):=by omega
 have q3:¬(c=i):=by omega
 clear hA hA1 kX tN hb h hold Ja hRs hRt b1 b2 b3 iR pb Mz ht3 dq ga hlen hfin B1 B2 B3 hdl hnn hG hi jy ee et hsz hk;go_enter Tryz.func152,Tryz.ntmps152;go_wp2_with (first
  |(at_builtin;refine Lib.wpList_append_run _ rfl _ _ _ _ rfl _ _ rfl rfl _ _ MA ?_)
  |(refine ko _ rfl _ _ 94 94 rfl _ _ rfl rfl sE ?_))
 have mixed:Tryz.prog.follows .mixedOrders=true:=by kernel_rfl
 have sD:IntKind.i64.wrap ((i:Int)+1)=(i:Int)+1:=by rw[IntKind.wrap_i64];omega
 have av:(0:Int)≤(i:Int)+1:=by omega
 have htn:((i:Int)+1).toNat=i+1:=by omega
 have bK:(i:Int)+1≤(n:Int)+1:=by omega
 have cZ:(i:Int)≤(n:Int):=by omega
 have bU:(0:Int)≤(i:Int):=by omega
 go_region_law_o (refine lX rfl _ _ 94 94 rfl (.slice (some ⟨w.heap.size,(i+1)*2,none⟩) (n+1-(i+1)) (G-(i+1))) (.slice (some ⟨g,i*2,none⟩) (n-i) (c-i)) (by simp[Act.eval,Act.put]) (by simp[Act.eval,Act.put]) pB ?_)
 go_wp2
 go_ret;exact⟨⟨_,_,rfl,H.o.1⟩,H.o.2⟩
end
section
open Go.RowKit
theorem aw.shape{w:World}{B:Nat}{vs:Array Value}{T:TypeId}(h:aw w B vs T):w.shape? B=some (T,vs.size):=by
 unfold aw at h;simp[World.shape?,h]
theorem vw(es:List En)(g c i base vb:Nat)(x:En)(w:World)(h:OE w base (.slice (some ⟨g,0,none⟩) es.length c) es)(hb:aw w vb #[.string x.name,.int .i64 x.no] 98)(hvb:vb≠g)(hn:es.length≤1000000)(hil:i<es.length)(hroom:es.length+1≤c) :
  Calls Tryz.prog 152 #[.slice (some ⟨g,0,none⟩) es.length c,.int .i64 i,.slice (some ⟨vb,0,none⟩) 1 1] w fun e w'=>(∃a' c',e=.returned (.slice a' (es.length+1) c')∧OE w' base (.slice a' (es.length+1) c') (es.take i++x::es.drop i))∧Mod (fun k=>k=g) w w':=by
 obtain⟨i0,hi,jy,ee,et⟩:=info_parts gj;have hsz:(Tryz.prog.info? 98).map (·.size)=some 2:=by rw[hi];simp[ee]
 have hA:=h.at;obtain⟨n,hnn⟩:∃n,es.length=n:=⟨_,rfl⟩;obtain⟨cur,hbg,hg,hcs,hct,OJ⟩:∃cur,base≤g∧aw w g cur 98∧cur.size=c*2∧cur.toList.take (n*2)=es.flatMap b9∧c≤maxLen:=by
  rcases h.2 with⟨h1,-⟩|⟨g',cap',cur,h1,av,hg,h2,h3,h4,h5⟩
  ·cases h1
  ·injection h1 with e1 e2 e3;injection e1 with e1;injection e1 with e1;subst e1 e3;exact⟨cur,av,hg,h4,by rw[←hnn];exact h5,h3⟩
 have hov:∀lb cb,(callFunc 185 #[.slice (some ⟨vb,0,none⟩) 1 1,.slice (some ⟨g,(i+1)*2,none⟩) lb cb]).run Tryz.prog w=.ok (.value (.bool false)) w:=fun lb cb=>by
  rw[run_callFunc_extern Tryz.func185 (by kernel_rfl) (by kernel_rfl) (by kernel_rfl) (e:=Extern.SlicesOverlaps.overlaps #[94,94] #[4]) (by kernel_rfl),
   Lib.run_overlaps_apart w 94 4 98 Tryz.underlying94 2 Tryz.sizeOf98 ⟨vb,0,none⟩ ⟨g,(i+1)*2,none⟩ 1 1 lb cb hvb 98 98 2 (c*2) hb.shape (by rw[←hcs];exact hg.shape) (by omega) (hb.frozen 0) (hb.frozen 2)]
  rfl
 have hdl:((es.drop i).flatMap b9).length=(n-i)*2:=by rw[bW bJ,List.length_drop,hnn]
 have sE:=gG w.drew 94 94 3 98 g ((i+1)*2) (n+1-(i+1)) (c-(i+1)) ⟨g,i*2,none⟩ (n+1-i) (c-i) cur 98 ((es.drop i).flatMap b9) (n-i) 2 Tryz.underlying94 hsz hg.drew (by simp only[Nat.min_def];split<;>omega) hdl
  (fun j v hj=>by
   rw[←tV,List.getElem?_drop] at hj;have:=hA.news (i*2+j) v hj;rw[k9] at this⊢;rw[show i*2+j=0+(i*2+j) by omega];exact this) (by rw[hdl,hcs];omega) (nC _)
 have b1:=j2 (vs:=(cur.toList.take ((i+1)*2)++(es.drop i).flatMap b9++cur.toList.drop ((i+1)*2+((es.drop i).flatMap b9).length)).toArray) hg.drew;have M1:=j1 w.drew g (cur.toList.take ((i+1)*2)++(es.drop i).flatMap b9++cur.toList.drop ((i+1)*2+((es.drop i).flatMap b9).length)).toArray;obtain⟨R1,eh⟩:∃R,(cur.toList.take ((i+1)*2)++(es.drop i).flatMap b9++cur.toList.drop ((i+1)*2+((es.drop i).flatMap b9).length))=R:=⟨_,rfl⟩;have je:R1.length=c*2:=by
  rw[←eh,List.length_append,List.length_append,List.length_take,List.length_drop,hdl,Array.length_toList,hcs];omega
 have GW:R1.take (i*2)=(es.take i).flatMap b9:=by
  rw[←eh,List.append_assoc,List.take_append_of_le_length (by rw[List.length_take,Array.length_toList,hcs];omega),List.take_take,←tU,←hct,List.take_take];congr 1;omega
 have fR:(R1.drop ((i+1)*2)).take ((n-i)*2)=(es.drop i).flatMap b9:=by
  have pV:(cur.toList.take ((i+1)*2)).length=(i+1)*2:=by rw[List.length_take,Array.length_toList,hcs];omega
  rw[←eh,List.append_assoc,List.drop_append,List.drop_eq_nil_of_le (by omega),pV,Nat.sub_self,List.drop_zero,List.nil_append];exact hH _ _ _ hdl
 rw[eh] at sE b1 M1;have M1':Mod (fun k=>k=g) w (w.drew.setRow g R1.toArray):=((Mod.refl _ w).drew).trans M1;generalize pX:w.drew.setRow g R1.toArray=W1 at sE b1 M1';clear pX M1;have tN:=hb.mod M1' (fun e=>hvb e);have pB:=gG W1 94 94 3 98 g (i*2) (n+1-i) (c-i) ⟨vb,0,none⟩ 1 1 R1.toArray 98 (b9 x) 1 2 Tryz.underlying94 hsz b1 (by simp only[Nat.min_def];split<;>omega) rfl (World.news_of_block tN) (by rw[bJ,List.size_toArray,je];omega) (by intro u hu;simp[b9] at hu;rcases hu with rfl|rfl<;>rfl);have b2:=j2 (vs:=(R1.toArray.toList.take (i*2)++b9 x++R1.toArray.toList.drop (i*2+(b9 x).length)).toArray) b1;have M2:=j1 W1 g (R1.toArray.toList.take (i*2)++b9 x++R1.toArray.toList.drop (i*2+(b9 x).length)).toArray;obtain⟨R2,dq⟩:∃R,(R1.toArray.toList.take (i*2)++b9 x++R1.toArray.toList.drop (i*2+(b9 x).length))=R:=⟨_,rfl⟩;have iR:R2.toArray.size=c*2:=by
  rw[←dq,List.size_toArray,List.length_append,List.length_append,List.length_take,List.length_drop,bJ,Array.length_toList,List.size_toArray,je];omega
 have Mz:R2.take ((n+1)*2)=(es.take i++x::es.drop i).flatMap b9:=by
  have yZ:((es.take i).flatMap b9).length=i*2:=by rw[bW bJ,List.length_take];omega
  rw[←dq,List.flatMap_append,List.flatMap_cons,show R1.toArray.toList=R1 from rfl,GW,bJ,List.take_append,List.take_of_length_le (by rw[List.length_append,yZ,bJ];omega),
   show i*2+2=(i+1)*2 by omega,show(n+1)*2-((es.take i).flatMap b9++b9 x).length=(n-i)*2 by rw[List.length_append,yZ,bJ];omega,fR,List.append_assoc]
 rw[dq] at pB b2 M2;have MF:=M1'.trans M2;generalize FQ:W1.setRow g R2.toArray=W2 at pB b2 MF;clear FQ M2;have hlen:(es.take i++x::es.drop i).length=n+1:=by
  rw[List.length_append,List.length_take,List.length_cons,List.length_drop];omega
 have hfin:OE W2 base (.slice (some ⟨g,0,none⟩) (n+1) c) (es.take i++x::es.drop i):=by
  have:=OE.mk (es:=es.take i++x::es.drop i) hbg b2 (by rw[hlen];omega) OJ iR (by rw[hlen];exact Mz);rw[hlen] at this;exact this
 have H:=Qf (ag hfin MF);unfold maxLen at OJ;rw[hnn] at hil hroom hn⊢;have q3:¬(c=i):=by omega
 have q4:¬(c=i+1):=by omega
 have q5:¬(c<n+1):=by omega
 clear hA tN hb h eh je GW fR dq iR Mz b1 b2 hlen hfin hdl hnn hi jy ee et hsz M1' MF hcs hct hg hbg;go_enter Tryz.func152,Tryz.ntmps152;go_wp2_with (simp only[hov]);have mixed:Tryz.prog.follows .mixedOrders=true:=by kernel_rfl
 have sD:IntKind.i64.wrap ((i:Int)+1)=(i:Int)+1:=by rw[IntKind.wrap_i64];omega
 have av:(0:Int)≤(i:Int)+1:=by omega
 have htn:((i:Int)+1).toNat=i+1:=by omega
 have bK:(i:Int)+1≤(n:Int)+1:=by omega
 have cZ:(i:Int)≤(n:Int)+1:=by omega
 have bU:(0:Int)≤(i:Int):=by omega
 go_region_law_o (refine lX rfl _ _ 94 94 rfl (.slice (some ⟨g,(i+1)*2,none⟩) (n+1-(i+1)) (c-(i+1))) (.slice (some ⟨g,i*2,none⟩) (n+1-i) (c-i)) (by simp[Act.eval,Act.put]) (by simp[Act.eval,Act.put]) sE ?_)
 go_wp2_with (refine ko _ rfl _ _ 94 94 rfl _ _ rfl rfl pB ?_);go_ret;exact⟨⟨_,_,rfl,H.o.1⟩,H.o.2⟩
end
section
open Go.RowKit
theorem yq(es:List En)(a:Option Addr)(c i base vb:Nat)(x:En)(w:World)(h:OE w base (.slice a es.length c) es)(hb:aw w vb #[.string x.name,.int .i64 x.no] 98)(hvb:∀g,a=some ⟨g,0,none⟩→vb≠g)(hbase:base≤w.heap.size)(hn:es.length≤1000000)(hil:i≤es.length) :
  Calls Tryz.prog 152 #[.slice a es.length c,.int .i64 i,.slice (some ⟨vb,0,none⟩) 1 1] w fun e w'=>(∃a' c',e=.returned (.slice a' (es.length+1) c')∧OE w' base (.slice a' (es.length+1) c') (es.take i++x::es.drop i))∧Mod (fun k=>(Value.slice a es.length c).ownBlock=some k) w w':=by
 by_cases hi:i<es.length
 ·obtain⟨b',c',hv,-,-,hf⟩:=bC h;injection hv with e1 e2 e3;subst e1 e3;rcases hf with⟨-,h0,-⟩|⟨g,rfl,-,-⟩
  ·omega
  ·by_cases hr:es.length+1≤c
   ·refine(vw es g c i base vb x w h hb (hvb g rfl) hn hi hr).mono ?_;rintro e w' ⟨h1,h2⟩;exact⟨h1,h2.mono (fun k hk=>by rw[hk];rfl)⟩
   ·refine(vx es g c i base vb x w h hb hbase hn hi (by omega)).mono ?_;rintro e w' ⟨h1,h2⟩;exact⟨h1,Mod.ar h2⟩
 ·obtain rfl:i=es.length:=by omega
  rw[List.take_length,List.drop_length];exact yp es a c base vb x w h hb hbase hn
theorem Iv{l:List En}(h:gQ l)(s:ByteArray)(no:Int)(hno:gn l s=false):ct l s no=l.take (cX l s)++⟨s,no⟩::l.drop (cX l s):=by
 rw[EZ h,if_neg,Nat.add_zero];rintro⟨hk,he⟩;unfold gn at hno;rw[lH h,dif_pos hk,if_pos he] at hno
 cases hno
theorem rP(es:List En)(a:Option Addr)(n c:Nat)(s:ByteArray)(no:Int)(w:World)(he:aA w a n c es)(hr:gQ es)(hn:n≤1000000)(hno:gn es s=false) :
  Calls Tryz.prog 110 #[.slice a n c,.string s,.int .i64 no] w fun e w'=>(∃a' n' c',e=.returned (.slice a' n' c')∧aA w' a' n' c' (ct es s no))∧Qi w w':=by
 have hl:=he.len;have HS:=Qf (mh es a n c s w he hr hn);rw[hno] at HS;have HP:=Qf (Iv hr s no hno);have hat:=rQ es s;generalize cX es s=A at HS HP hat;have HE:=Qf he;clear he hno;go_enter Tryz.func110,Tryz.ntmps110;go_wp2_with fail;refine HS.o.mono ?_;rintro e w1 ⟨rfl,av⟩;have eS:=Qf (HE.o.ak av);go_wp2_with fail;refine(AK es a n c w1 eS.o hn).mono ?_;rintro e w2 ⟨⟨a2,c2,rfl,hO⟩,aS⟩;have HO:=Qf hO;have dS:=Qf (au av aS);clear hO;go_wp2_with fail;have kA:=HO.o.ak ((Below.refl _ w2).alloc (aa _) (.cells #[.string s,.int .i64 no] 98));subst hl;have hblk:=aw.new w2 #[.string s,.int .i64 no] 98;refine(yq es a2 c2 A w1.heap.size w2.heap.size ⟨s,no⟩ _ kA hblk (fun g hg=>?_) (by have:=aS.size;simp;omega) hn hat).mono ?_
 ·subst hg;rcases HO.o.2 with⟨h1,-⟩|⟨g',cap',cur,h1,av,hg,-⟩
  ·cases h1
  ·injection h1 with e1;injection e1 with e1;injection e1 with e1;subst e1;have:=aw.lt (show aw w2 g cur 98 from hg);omega
 ·rintro e w3 ⟨⟨a3,c3,rfl,G0⟩,ze⟩;have HR:=Qf (show aA w3 a3 (es.length+1) c3 (ct es s no) by
   have hlen:(es.take A++({name:=s,no:=no}:En)::es.drop A).length=es.length+1:=by
    rw[List.length_append,List.length_take,List.length_cons,List.length_drop];omega
   rw[HP.o];have h3:=G0;rw[←hlen] at h3⊢;exact h3.at)
  have fG:=Qf (show Qi w w3 from(aq dS.o _).trans (ze.below (fun k hk=>by
   rcases HO.o.2 with⟨h1,-⟩|⟨g',cap',cur,h1,bK,hg,-⟩
   ·injection h1 with e1;rw[e1] at hk;cases hk
   ·injection h1 with e1;rw[e1] at hk;simp only[Value.ownBlock,Option.some.injEq] at hk;have:=av.size;omega) (by have:=dS.o.size;simp;omega)))
  clear G0 ze;go_wp2_with fail;go_ret;exact⟨⟨_,_,_,rfl,HR.o⟩,fG.o⟩
end
section
open Go.RowKit
section
variable{w w':World}{pw:Nat}{R:Rp}{S:Fs}
theorem lA(h:bm w pw R S){N:Nat}(hk:ax S N)(c:Cr)(dir:Int)(s:ByteArray)(hs:s.size≤9223372036854775807) :
  Calls Tryz.prog 107 #[.pointer (some ⟨pw,0,none⟩),.agg #[.int .i64 c.u,.int .i64 c.g],.int .i64 dir,.string s] w fun e w'=>((S.aP c dir s≠0∧e=.returned (.tuple #[cS.v none 0 0,.int .i64 (S.aP c dir s)]))∨(S.aP c dir s=0∧∃d ea el ec,S.get dir=some d∧e=.returned (.tuple #[d.v ea el ec,.int .i64 0])∧aA w ea el ec d.ay))∧Qi w w':=by
 cases hg:S.get dir with
 |none=>
  refine(zY h hk c dir s hs hg).mono ?_;rintro e w1 ⟨rfl,hb⟩;have:S.aP c dir s=5:=by unfold Fs.aP;rw[hg]
  rw[this];exact⟨.inl ⟨by decide,rfl⟩,hb⟩
 |some d=>
  refine(zX h hk c dir s hs d hg).mono ?_;rintro e w1 ⟨h1|⟨h1,ea,el,ec,h2,h3⟩,hb⟩
  ·exact⟨.inl h1,hb⟩
  ·exact⟨.inr ⟨h1,d,ea,el,ec,rfl,h2,h3⟩,hb⟩
theorem BX(h:bm w pw R S){N:Nat}(hk:ax S N)(hN:N≤1000000)(a:An)(ea:Option Addr)(el ec:Nat)(he:aA w ea el ec a.ay)(hs:a.data.size≤9223372036854775807) :
  Calls Tryz.prog 108 #[.pointer (some ⟨pw,0,none⟩),a.v ea el ec] w fun e w'=>e=.returned (.tuple #[.int .i64 (S.make a).2.1,.int .i64 (S.make a).2.2])∧∃R',bm w' pw R' (S.make a).1∧aR (R.F pw) (R'.F pw) w w':=by
 by_cases hr:S.root a.dev=0
 ·refine(zk h hk.d1 a ea el ec hr).mono ?_;rintro e w1 ⟨rfl,hb⟩;rw[tK hr];exact⟨rfl,R,h.ak hb,aR.ar hb⟩
 ·have hd:1≤a.dev∧a.dev≤S.ds.length:=by
   by_cases hd:1≤a.dev∧a.dev≤S.ds.length
   ·exact hd
   ·exact absurd (lu hd) hr
  exact BW h (k:=(a.dev-1).toNat) (by omega) a ea el ec he (by omega) hr hs hk.l0 (Int.le_trans hk.lN (by omega))
end
end
section
open Go.RowKit
section
variable{w w':World}{pw:Nat}{R:Rp}{S:Fs}
theorem aA.kv{a:Option Addr}{n c:Nat}{es:List En}(h:aA w a n c es){B:Nat}{vs:Array Value}{T:TypeId}(hb:aw w B vs T)(hT:T≠98)(i:Nat)(v:Value):aA (w.setCell ⟨B,i,none⟩ v) a n c es:=
 h.fH (fun b cur hc=>by
  have hne:b≠B:=by
   intro e;subst e;unfold aw at hb;rw[hb] at hc;injection hc with hc;injection hc with _ hc _;exact hT hc
  exact((Mod.refl (fun k=>k=B) w).setCell (a:=⟨B,i,none⟩) (.inl rfl) v).block b (Array.getElem?_eq_some_iff.1 hc).1 hne) (by simp)
theorem nx{es:List En}{s:ByteArray}(hz:∀x∈es,1≤x.no)(h:aF es s=0):gn es s=false:=by
 unfold aF at h;unfold gn
 split at h
 ·rename_i x hx;have:=hz x (List.mem_of_find?_eq_some hx);omega
 ·rename_i hx;rw[hx];rfl
theorem C8{S:Fs}{a:An}(h:(S.make a).2.2≠0):(S.make a).1=S∧(S.make a).2.1=0:=by
 revert h;unfold Fs.make
 split
 ·intro _;exact⟨rfl,rfl⟩
 ·split
  ·intro _;exact⟨rfl,rfl⟩
  ·simp only
   split
   ·intro h;exact absurd rfl h
   ·intro _;exact⟨rfl,rfl⟩
theorem Ft{S:Fs}(hn:gR S)(a:An){k:Int}{d:An}(hg:S.get k=some d):(S.make a).1.get k=some d:=by
 have hk:k≤S.last:=by
  have:=hn.low d (bD hg);rw[cj hg] at this;exact this.2
 unfold Fs.make
 split
 ·exact hg
 ·split
  ·exact hg
  ·rename_i v hv;simp only
   split
   ·rw[km (S:=S.bp a.dev {v with b:=v.b+cR a.kind a.data.size,n:=v.n+1}) ⟨hn.eE,hn.low⟩,if_neg (by show¬k=S.last+1;omega)];exact hg
   ·exact hg
theorem JA{S:Fs}{c:Cr}{now dir:Int}{s:ByteArray}{a:An}(h:S.aP c dir s≠0):S.cC c now dir s a=(S,0,S.aP c dir s):=by unfold Fs.cC;rw[if_pos h]
theorem Gk{S:Fs}{c:Cr}{now dir:Int}{s:ByteArray}{a d:An}(h:S.aP c dir s=0)(hg:S.get dir=some d)(hf:aF d.ay s≠0):S.cC c now dir s a=(S,0,7):=by
 unfold Fs.cC;rw[if_neg (by simp[h]),hg];simp only;rw[if_pos hf]
theorem DI{S:Fs}{c:Cr}{now dir:Int}{s:ByteArray}{a d:An}(h:S.aP c dir s=0)(hg:S.get dir=some d)(hf:aF d.ay s=0)(hm:(S.make {a with dev:=d.dev,uid:=c.u,gid:=c.g,mtime:=now,ctime:=now,ao:=1}).2.2≠0) :
  S.cC c now dir s a=(S,0,(S.make {a with dev:=d.dev,uid:=c.u,gid:=c.g,mtime:=now,ctime:=now,ao:=1}).2.2):=by
 unfold Fs.cC;rw[if_neg (by simp[h]),hg];simp only;rw[if_neg (by simp[hf]),if_pos hm]
theorem Gj{S:Fs}{c:Cr}{now dir:Int}{s:ByteArray}{a d:An}(h:S.aP c dir s=0)(hg:S.get dir=some d)(hf:aF d.ay s=0)(hm:(S.make {a with dev:=d.dev,uid:=c.u,gid:=c.g,mtime:=now,ctime:=now,ao:=1}).2.2=0) :
  S.cC c now dir s a=((S.make {a with dev:=d.dev,uid:=c.u,gid:=c.g,mtime:=now,ctime:=now,ao:=1}).1.bE now dir (ct d.ay s (S.make {a with dev:=d.dev,uid:=c.u,gid:=c.g,mtime:=now,ctime:=now,ao:=1}).2.1),(S.make {a with dev:=d.dev,uid:=c.u,gid:=c.g,mtime:=now,ctime:=now,ao:=1}).2.1,0):=by
 unfold Fs.cC;rw[if_neg (by simp[h]),hg];simp only;rw[if_neg (by simp[hf]),if_neg (by simp[hm])]
theorem aw.KO{w:World}{B:Nat}{x0 x1 x2 x3 x4 x5 x6 x7 x8 x9 x10 x11 v1 v4 v5 v6 v7 v8:Value}{T:TypeId}(h:aw w B #[x0,x1,x2,x3,x4,x5,x6,x7,x8,x9,x10,x11] T) :
  aw ((((((w.setCell ⟨B,1,none⟩ v1).setCell ⟨B,4,none⟩ v4).setCell ⟨B,5,none⟩ v5).setCell ⟨B,6,none⟩ v6).setCell ⟨B,7,none⟩ v7).setCell ⟨B,8,none⟩ v8) B #[x0,v1,x2,x3,v4,v5,v6,v7,v8,x9,x10,x11] T:=
 (((((h.set 1 v1).set 4 v4).set 5 v5).set 6 v6).set 7 v7).set 8 v8
theorem uP(h:bm w pw R S){N:Nat}(hk:ax S N)(hN:N≤999999)(c:Cr)(now dir:Int)(s:ByteArray)(hs:s.size≤9223372036854775807)(a:An)(ha:a.ay=[])(had:a.data.size≤9223372036854775807) :
  Calls Tryz.prog 73 #[.pointer (some ⟨pw,0,none⟩),.agg #[.int .i64 c.u,.int .i64 c.g],.int .i64 now,.int .i64 dir,.string s,a.v none 0 0] w fun e w'=>
   e=.returned (.tuple #[.int .i64 (S.cC c now dir s a).2.1,.int .i64 (S.cC c now dir s a).2.2])∧∃R',bm w' pw R' (S.cC c now dir s a).1∧aR (R.F pw) (R'.F pw) w w':=by
 have HP:=Qf (fun w1 (av:Qi w w1)=>lA (h.ak av) hk c dir s hs);unfold An.v;have HW:=Qf h;clear h;go_enter Tryz.func73,Tryz.ntmps73;go_wp2_with fail;refine(HP.o _ (aq (aq (Below.refl _ _) _) _)).mono ?_;rintro e w1 ⟨⟨h0,rfl⟩|⟨h0,d,ea,el,ec,hg,rfl,he⟩,av⟩
 ·have aI:=au (aq (aq (Qj w) _) _) av;have HB:=Qf aI;have HC:=Qf (JA (now:=now) (a:=a) h0);have hz:(S.aP c dir s==0)=false:=by simpa using h0
  generalize S.aP c dir s=pe at HC hz⊢;unfold An.v cS;clear h0 av aI;go_wp2_with fail;go_ret2;rw[HC.o];exact⟨rfl,R,HW.o.ak (aq HB.o _),aR.ar (aq HB.o _)⟩
 ·have aI:=au (aq (aq (Qj w) _) _) av;have vW:aw w1 w.heap.size #[.int .i64 c.u,.int .i64 c.g] 64:=((aw.new w #[.int .i64 c.u,.int .i64 c.g] 64).old (.cells #[.int .i64 a.no,.int .i64 a.dev,.int .i64 a.kind,.int .i64 a.mode,.int .i64 a.uid,.int .i64 a.gid,.int .i64 a.mtime,.int .i64 a.ctime,.int .i64 a.ao,.int .i64 a.up,.string a.data,.slice none 0 0] 149)).ak av;have hAr:aw w1 (w.heap.size+1) #[.int .i64 a.no,.int .i64 a.dev,.int .i64 a.kind,.int .i64 a.mode,.int .i64 a.uid,.int .i64 a.gid,.int .i64 a.mtime,.int .i64 a.ctime,.int .i64 a.ao,.int .i64 a.up,.string a.data,.slice none 0 0] 149:=by
   have:=((aw.new (w.alloc (.cells #[.int .i64 c.u,.int .i64 c.g] 64)) #[.int .i64 a.no,.int .i64 a.dev,.int .i64 a.kind,.int .i64 a.mode,.int .i64 a.uid,.int .i64 a.gid,.int .i64 a.mtime,.int .i64 a.ctime,.int .i64 a.ao,.int .i64 a.up,.string a.data,.slice none 0 0] 149).ak av)
   rwa [World.size_alloc] at this
  have gp:=vW.old (.cells #[.int .i64 d.no,.int .i64 d.dev,.int .i64 d.kind,.int .i64 d.mode,.int .i64 d.uid,.int .i64 d.gid,.int .i64 d.mtime,.int .i64 d.ctime,.int .i64 d.ao,.int .i64 d.up,.string d.data,.slice ea el ec] 149);have LM:=hAr.old (.cells #[.int .i64 d.no,.int .i64 d.dev,.int .i64 d.kind,.int .i64 d.mode,.int .i64 d.uid,.int .i64 d.gid,.int .i64 d.mtime,.int .i64 d.ctime,.int .i64 d.ao,.int .i64 d.up,.string d.data,.slice ea el ec] 149);have gV:=aw.new w1 #[.int .i64 d.no,.int .i64 d.dev,.int .i64 d.kind,.int .i64 d.mode,.int .i64 d.uid,.int .i64 d.gid,.int .i64 d.mtime,.int .i64 d.ctime,.int .i64 d.ao,.int .i64 d.up,.string d.data,.slice ea el ec] 149;have dX:=aq aI (.cells #[.int .i64 d.no,.int .i64 d.dev,.int .i64 d.kind,.int .i64 d.mode,.int .i64 d.uid,.int .i64 d.gid,.int .i64 d.mtime,.int .i64 d.ctime,.int .i64 d.ao,.int .i64 d.up,.string d.data,.slice ea el ec] 149);have hsz:w.heap.size+2≤w1.heap.size:=by have:=av.size;simp at this;omega
  have heX:=(he.ak av).ak ((Below.refl _ w1).alloc (aa _) (.cells #[.int .i64 d.no,.int .i64 d.dev,.int .i64 d.kind,.int .i64 d.mode,.int .i64 d.uid,.int .i64 d.gid,.int .i64 d.mtime,.int .i64 d.ctime,.int .i64 d.ao,.int .i64 d.up,.string d.data,.slice ea el ec] 149));obtain⟨hdo,-,-,-⟩:=hk.get hg;have hel:=he.len;unfold An.v;clear vW he hAr av aI;go_wp2_with fail;generalize w1.alloc _=X at gp LM gV dX heX⊢;have HX:=Qf dX;have HC:=Qf gp;have HA:=Qf LM;have HD:=Qf gV;have HE:=Qf heX;have hfew:el≤1000000:=by rw[←hel];exact ae hdo.mJ (by omega)
  have HF:=Qf (fX d.ay ea el ec s X heX hdo.eE hfew);clear dX gp LM gV heX hel;refine HF.o.mono ?_;rintro e w2 ⟨rfl,aS⟩;have lG:=au HX.o aS;have sH:=HC.o.ak aS;have kX:=HA.o.ak aS;have Jl:=HD.o.ak aS;clear HX HC HA HD HF;by_cases hf:aF d.ay s=0
  ·have hfz:(aF d.ay s==0)=true:=by simpa using hf
   have mixed:Tryz.prog.follows .mixedOrders=true:=by kernel_rfl
   have PG:=Qf (DI (a:=a) (now:=now) h0 hg hf);have JJ:=Qf (Gj (a:=a) (now:=now) h0 hg hf);generalize aF d.ay s=f at hfz;go_wp2_with fail;obtain⟨cc,cf,cz⟩:=sH.facts;obtain⟨dc,df,dz⟩:=Jl.facts;have hA3:=(kX.KO (v1:=.int .i64 d.dev) (v4:=.int .i64 c.u) (v5:=.int .i64 c.g) (v6:=.int .i64 now) (v7:=.int .i64 now) (v8:=.int .i64 1)).drew;have tT:Qi w ((((((w2.setCell ⟨w.heap.size+1,1,none⟩ (.int .i64 d.dev)).setCell ⟨w.heap.size+1,4,none⟩ (.int .i64 c.u)).setCell ⟨w.heap.size+1,5,none⟩ (.int .i64 c.g)).setCell ⟨w.heap.size+1,6,none⟩ (.int .i64 now)).setCell ⟨w.heap.size+1,7,none⟩ (.int .i64 now)).setCell ⟨w.heap.size+1,8,none⟩ (.int .i64 1)).drew:=
    ((((((lG.setCell (Nat.le_succ _) _).setCell (Nat.le_succ _) _).setCell (Nat.le_succ _) _).setCell (Nat.le_succ _) _).setCell (Nat.le_succ _) _).setCell (Nat.le_succ _) _).drew
   have hne:w.heap.size+1≠w1.heap.size:=by omega
   have MX:aw ((((((w2.setCell ⟨w.heap.size+1,1,none⟩ (.int .i64 d.dev)).setCell ⟨w.heap.size+1,4,none⟩ (.int .i64 c.u)).setCell ⟨w.heap.size+1,5,none⟩ (.int .i64 c.g)).setCell ⟨w.heap.size+1,6,none⟩ (.int .i64 now)).setCell ⟨w.heap.size+1,7,none⟩ (.int .i64 now)).setCell ⟨w.heap.size+1,8,none⟩ (.int .i64 1)).drew w1.heap.size _ _:=
    ((((((Jl.setOther ⟨w.heap.size+1,1,none⟩ (.int .i64 d.dev) hne).setOther ⟨w.heap.size+1,4,none⟩ (.int .i64 c.u) hne).setOther ⟨w.heap.size+1,5,none⟩ (.int .i64 c.g) hne).setOther ⟨w.heap.size+1,6,none⟩ (.int .i64 now) hne).setOther ⟨w.heap.size+1,7,none⟩ (.int .i64 now) hne).setOther ⟨w.heap.size+1,8,none⟩ (.int .i64 1) hne).drew
   have hT:149≠98:=by decide
   have hE3:aA ((((((w2.setCell ⟨w.heap.size+1,1,none⟩ (.int .i64 d.dev)).setCell ⟨w.heap.size+1,4,none⟩ (.int .i64 c.u)).setCell ⟨w.heap.size+1,5,none⟩ (.int .i64 c.g)).setCell ⟨w.heap.size+1,6,none⟩ (.int .i64 now)).setCell ⟨w.heap.size+1,7,none⟩ (.int .i64 now)).setCell ⟨w.heap.size+1,8,none⟩ (.int .i64 1)).drew ea el ec d.ay:=
    (((((((HE.o.ak aS).kv kX hT 1 (.int .i64 d.dev)).kv (kX.set 1 _) hT 4 (.int .i64 c.u)).kv ((kX.set 1 _).set 4 _) hT 5 (.int .i64 c.g)).kv (((kX.set 1 _).set 4 _).set 5 _) hT 6 (.int .i64 now)).kv ((((kX.set 1 _).set 4 _).set 5 _).set 6 _) hT 7 (.int .i64 now)).kv (((((kX.set 1 _).set 4 _).set 5 _).set 6 _).set 7 _) hT 8 (.int .i64 1)).ak (Below.refl _ _).drew
   have nO:=Qf hE3;have NH:=Qf hA3;have fG:=Qf tT;have KF:=Qf MX;obtain⟨ac,af,az⟩:=kX.facts;clear hA3 tT MX hE3 hT
   go_region
   have LN:=NH.o;have MZ:=fG.o;have hD4:=KF.o;have AB:=nO.o;clear nO NH fG KF lG kX sH Jl ac af az cc cf cz dc df dz;generalize ((((((w2.setCell ⟨w.heap.size+1,1,none⟩ (.int .i64 d.dev)).setCell ⟨w.heap.size+1,4,none⟩ (.int .i64 c.u)).setCell ⟨w.heap.size+1,5,none⟩ (.int .i64 c.g)).setCell ⟨w.heap.size+1,6,none⟩ (.int .i64 now)).setCell ⟨w.heap.size+1,7,none⟩ (.int .i64 now)).setCell ⟨w.heap.size+1,8,none⟩ (.int .i64 1)).drew=Y at LN MZ hD4 AB⊢;have HA:=Qf LN;have HB:=Qf MZ;have HD:=Qf hD4;have A7:=Qf AB;obtain⟨q0,q1,q2,q3,q4,q5,q6,q7,q8,q9,q10,q11⟩:=LN.fB;clear LN MZ hD4 AB;go_wp2_with fail;have jR:=BX (HW.o.ak HB.o) hk (by omega) {a with dev:=d.dev,uid:=c.u,gid:=c.g,mtime:=now,ctime:=now,ao:=1} none 0 0 (by rw[show({a with dev:=d.dev,uid:=c.u,gid:=c.g,mtime:=now,ctime:=now,ao:=1}:An).ay=a.ay from rfl,ha];exact aA.nil _) had;unfold An.v at jR;refine jR.mono ?_;clear jR;rintro e w4 ⟨rfl,R4,vg,nt⟩;have hst:aR (R.F pw) (R4.F pw) w w4:=(aR.ar HB.o).trans nt;by_cases hm:(S.make {a with dev:=d.dev,uid:=c.u,gid:=c.g,mtime:=now,ctime:=now,ao:=1}).2.2=0
   ·have hmz:((S.make {a with dev:=d.dev,uid:=c.u,gid:=c.g,mtime:=now,ctime:=now,ao:=1}).2.2==0)=true:=by simpa using hm
    have HZ:=Qf (JJ.o hm);have rC:=HD.o.wd (HW.o.ak HB.o) nt rfl;have he4:=A7.o.wd (HW.o.ak HB.o) nt;have hg4:=Ft hk.nums ({a with dev:=d.dev,uid:=c.u,gid:=c.g,mtime:=now,ctime:=now,ao:=1}) hg;have DY:=Qf (rP d.ay ea el ec s (S.make {a with dev:=d.dev,uid:=c.u,gid:=c.g,mtime:=now,ctime:=now,ao:=1}).2.1 w4 he4 hdo.eE hfew (nx hdo.nz hf));have D9:=Qf (fun l a n c w5 (bU:Qi w4 w5) (hl:aA w5 a n c l)=>lg (vg.ak bU) dir now d hg4 l a n c hl);have G5:=Qf hst;obtain⟨dc4,df4,dz4⟩:=rC.facts;generalize S.make {a with dev:=d.dev,uid:=c.u,gid:=c.g,mtime:=now,ctime:=now,ao:=1}=Mk at HZ hmz DY D9 G5⊢;clear hm rC he4 hg4 vg hst nt PG JJ q0 q1 q2 q3 q4 q5 q6 q7 q8 q9 q10 q11;go_wp2_with fail;refine DY.o.mono ?_;rintro e w5 ⟨⟨a',n',c',rfl,OB⟩,bU⟩;have HT:=Qf (D9.o _ _ _ _ w5 bU OB);have l8:=Qf bU;clear OB bU D9 DY;go_wp2_with fail;refine HT.o.mono ?_;rintro e w6 ⟨rfl,R6,Kg,ve⟩;have JQ:=Qf (ag Kg ve);clear Kg ve HT;go_wp2_with fail;go_ret2;rw[HZ.o];exact⟨rfl,R6,JQ.o.1,(G5.o.trans (aR.ar l8.o)).trans JQ.o.2⟩
   ·have HZ:=Qf (PG.o hm);have L8:=Qf vg;have G5:=Qf hst;have hmz:((S.make {a with dev:=d.dev,uid:=c.u,gid:=c.g,mtime:=now,ctime:=now,ao:=1}).2.2==0)=false:=by simpa using hm
    obtain⟨hsm,sm⟩:=C8 hm;rw[hsm] at L8;rw[sm];generalize (S.make {a with dev:=d.dev,uid:=c.u,gid:=c.g,mtime:=now,ctime:=now,ao:=1}).2.2=me at HZ hmz⊢;clear hm hsm sm vg hst nt;go_wp2_with fail;go_ret2;rw[HZ.o];exact⟨rfl,R4,L8.o,G5.o⟩
  ·have hfz:(aF d.ay s==0)=false:=by simpa using hf
   have HZ:=Qf (Gk (a:=a) (now:=now) h0 hg hf);generalize aF d.ay s=f at hfz;have HB:=Qf lG;clear lG sH kX Jl;go_wp2_with fail;go_ret2;rw[HZ.o];exact⟨rfl,R,HW.o.ak HB.o,aR.ar HB.o⟩
end
end
section
open Go.RowKit
theorem s9(s:ByteArray)(w:World)(hs:s.size≤100000) :
  Calls Tryz.prog 162 #[.string s] w fun e w'=>e=.returned (.bool (eD s.data.toList))∧w=w':=by
 have HT:=Qf (EG s w (by omega));have HS:=Qf (show eD s.data.toList=(gK s.data.toList==[]||gK s.data.toList==[46]||gK s.data.toList==[46,46]) from rfl);generalize gK s.data.toList=t at HT HS;generalize eD s.data.toList=b at HS;have htl:(str t).toList=t:=by rw[bG,dP]
 by_cases h1:t=[]
 ·subst h1;have hb:b=true:=by rw[HS.o];rfl
  subst hb;go_enter Tryz.func162,Tryz.ntmps162;go_wp2_with (refine HT.o.mono ?_;rintro e w1 ⟨rfl,rfl⟩);go_ret;exact⟨rfl,rfl⟩
 ·have n1:t.isEmpty=false:=by simpa using h1
  by_cases h2:t=[46]
  ·subst h2;have hb:b=true:=by rw[HS.o];rfl
   subst hb;go_enter Tryz.func162,Tryz.ntmps162;go_wp2_with (refine HT.o.mono ?_;rintro e w1 ⟨rfl,rfl⟩);go_ret;exact⟨rfl,rfl⟩
  ·have n2:(t==[46])=false:=by simpa using h2
   by_cases h3:t=[46,46]
   ·subst h3;have hb:b=true:=by rw[HS.o];rfl
    subst hb;go_enter Tryz.func162,Tryz.ntmps162;go_wp2_with (refine HT.o.mono ?_;rintro e w1 ⟨rfl,rfl⟩);go_ret;exact⟨rfl,rfl⟩
   ·have n3:(t==[46,46])=false:=by simpa using h3
    have hb:b=false:=by rw[HS.o,n2,n3];simpa using h1
    subst hb;clear h1 h2 h3;go_enter Tryz.func162,Tryz.ntmps162;go_wp2_with (refine HT.o.mono ?_;rintro e w1 ⟨rfl,rfl⟩);go_ret;exact⟨rfl,rfl⟩
def bL(Q:Exit→Act→World→Prop):Prop:=∀c d v a w,Q (.panic c) (Act.put a d v) w→Q (.panic c) a w
theorem cG{P:Program}{fn:Func}{R:Ending→World→Prop}:bL (bodyPost P fn R):=se
theorem cF{K:Act→World→Prop}{Q:Exit→Act→World→Prop}(h:bL Q):bL (Exit.then K Q):=fun c d v a w hq=>h c d v a w hq
theorem bR{i:Nat}{Q:Exit→Act→World→Prop}(h:bL Q):bL (Exit.inBlock i Q):=fun c d v a w hq=>h c d v a w hq
theorem cd{Q:Exit→Act→World→Prop}(h:bL Q):bL (Exit.noGoto Q):=fun c d v a w hq=>h c d v a w hq
theorem o8{W w:World}{B:Nat}{v0 v1 v2 v3 v4 v5 v6 v7 v8 v9 v10 v11:Value}(h:(∀b o,b<W.heap.size→w.cell? ⟨b,o,none⟩=W.cell? ⟨b,o,none⟩)∧Qi W w)(hB:W.heap.size≤B) :
  (∀b o,b<W.heap.size→((((((((((((w.setCell ⟨B,0,none⟩ v0).setCell ⟨B,1,none⟩ v1).setCell ⟨B,2,none⟩ v2).setCell ⟨B,3,none⟩ v3).setCell ⟨B,4,none⟩ v4).setCell ⟨B,5,none⟩ v5).setCell ⟨B,6,none⟩ v6).setCell ⟨B,7,none⟩ v7).setCell ⟨B,8,none⟩ v8).setCell ⟨B,9,none⟩ v9).setCell ⟨B,10,none⟩ v10).setCell ⟨B,11,none⟩ v11).cell? ⟨b,o,none⟩=W.cell? ⟨b,o,none⟩)∧
   Qi W ((((((((((((w.setCell ⟨B,0,none⟩ v0).setCell ⟨B,1,none⟩ v1).setCell ⟨B,2,none⟩ v2).setCell ⟨B,3,none⟩ v3).setCell ⟨B,4,none⟩ v4).setCell ⟨B,5,none⟩ v5).setCell ⟨B,6,none⟩ v6).setCell ⟨B,7,none⟩ v7).setCell ⟨B,8,none⟩ v8).setCell ⟨B,9,none⟩ v9).setCell ⟨B,10,none⟩ v10).setCell ⟨B,11,none⟩ v11):=
 kO (aT h.2 hB)
section
variable{w w':World}{pw:Nat}{R:Rp}{S:Fs}
theorem Cm{S:Fs}{c:Cr}{k:Int}{p:List UInt8}(h:S.get k=none):S.step c k p=(0,9):=by unfold Fs.step;rw[h]
theorem step_eq{S:Fs}{c:Cr}{k:Int}{p:List UInt8}{d:An}(h:S.get k=some d):S.step c k p=if d.kind≠1 then(0,9) else if d.may c 1=false then(0,6) else if p=[46,46] then(S.aX k,0) else if 255<p.length then(0,13) else(S.aC (aF d.ay (str p)),0):=by
 unfold Fs.step;rw[h]
theorem EJ(h:bm w pw R S){N:Nat}(hk:ax S N)(hN:N≤999999){Bt:Nat}(c:Cr)(k:Int){ta:Option Addr}{tl tc:Nat}{hops:Int}{must:Bool}
  (hb:aw w Bt #[.pointer (some ⟨pw,0,none⟩),.int .i64 c.u,.int .i64 c.g,.int .i64 k,.slice ta tl tc,.int .i64 hops,.bool must] 262) (p:ByteArray) :
  Calls Tryz.prog 163 #[.pointer (some ⟨Bt,0,none⟩),.string p] w fun e w'=>e=.returned (.tuple #[.int .i64 (S.step c k p.data.toList).1,.int .i64 (S.step c k p.data.toList).2])∧Qi w w':=by
 have HW:=Qf h;have HK:=Qf hk;have HBT:=Qf hb;have mixed:Tryz.prog.follows .mixedOrders=true:=by kernel_rfl
 obtain⟨bc,bf,bz⟩:=hb.facts;obtain⟨pc,-,pz⟩:=h.aZ.facts;have HBC:=Qf bc;have lP:=Qf pc;clear h hk hb
 cases hg:S.get k with
 |none=>
  have HG:=Qf (fun w1 (av:Qi w w1)=>fK (HW.o.ak av) hg);have HE:=Qf (Cm (c:=c) (p:=p.data.toList) hg);unfold An.v cS at HG;clear hg;go_enter Tryz.func163,Tryz.ntmps163;go_upto_region 1 with fail
  go_cut [6,7] (fun t6 t7 wx=>∃Bd:Nat,t6=.pointer (some ⟨Bd,0,none⟩)∧t7=.bool false∧Qi w wx)
  case first=>
   go_wp2_with fail;have hzz:w.heap.size≤w.heap.size:=aa _
   go_region_held3 (fun w'=>(∀b o,b<w.heap.size→w'.cell? ⟨b,o,none⟩=w.cell? ⟨b,o,none⟩)∧Qi w w') (first|with_reducible exact o8 (by assumption) (by assumption)|(first|with_reducible assumption|with_reducible exact dJ _|with_reducible exact cV _|with_reducible exact dg (by assumption) (by assumption)|with_reducible exact cO (by assumption) _|with_reducible exact cL (by assumption) _|with_reducible exact cq (by assumption) (by assumption)|with_reducible exact dI (by assumption) (by assumption)))
    ((go_at_call 69;((with_reducible refine(HG.o _ (And.right ‹(∀b o,b<w.heap.size→_)∧Qi w _›)).mono ?_);rintro e w4 ⟨rfl,bU⟩;have hz5:=ae (And.right ‹(∀b o,b<w.heap.size→_)∧Qi w _›).size bU.size;try (have hbq:=jF bU;obtain⟨bqc,bqf,bqz⟩:=hbq.facts))))
   all_goals
    obtain⟨-,nt⟩:=‹_∧Qi w _›;have Ea:=Qf nt;clear nt;go_wp2_with fail;go_meet;exact⟨_,rfl,rfl,Ea.o⟩
  case rest=>
   obtain⟨Bd,rfl,rfl,hS⟩:=hcut;have HB:=Qf hS;clear hS bc bf bz pc pz;go_wp2_with fail;go_ret2;rw[HE.o];exact⟨rfl,HB.o⟩
 |some d=>
  obtain⟨ea,el,ec,he,hG⟩:=eV HW.o hg;have lQ:=Qf he;have HG:=Qf hG;have HQ:=Qf (step_eq (c:=c) (p:=p.data.toList) hg);have HHG:=Qf hg;have hfew:el≤1000000:=by rw[←he.len];exact ae (HK.o.get hg).1.mJ (by omega)
  have Ml:=Qf hfew;unfold An.v at HG;clear hg he hG hfew;go_enter Tryz.func163,Tryz.ntmps163;go_upto_region 1 with fail
  go_cut [6,7] (fun t6 t7 wx=>∃Bd:Nat,t6=.pointer (some ⟨Bd,0,none⟩)∧t7=.bool true∧aw wx Bd #[.int .i64 d.no,.int .i64 d.dev,.int .i64 d.kind,.int .i64 d.mode,.int .i64 d.uid,.int .i64 d.gid,.int .i64 d.mtime,.int .i64 d.ctime,.int .i64 d.ao,.int .i64 d.up,.string d.data,.slice ea el ec] 149∧Qi w wx)
  case first=>
   go_wp2_with fail;have hzz:w.heap.size≤w.heap.size:=aa _
   go_region_held3 (fun w'=>(∀b o,b<w.heap.size→w'.cell? ⟨b,o,none⟩=w.cell? ⟨b,o,none⟩)∧Qi w w') (first|with_reducible exact o8 (by assumption) (by assumption)|(first|with_reducible assumption|with_reducible exact dJ _|with_reducible exact cV _|with_reducible exact dg (by assumption) (by assumption)|with_reducible exact cO (by assumption) _|with_reducible exact cL (by assumption) _|with_reducible exact cq (by assumption) (by assumption)|with_reducible exact dI (by assumption) (by assumption)))
    ((go_at_call 69;((with_reducible refine(HG.o _ (And.right ‹(∀b o,b<w.heap.size→_)∧Qi w _›)).mono ?_);rintro e w4 ⟨rfl,bU⟩;have hz5:=ae (And.right ‹(∀b o,b<w.heap.size→_)∧Qi w _›).size bU.size;try (have hbq:=jF bU;obtain⟨bqc,bqf,bqz⟩:=hbq.facts))))
   all_goals
    obtain⟨-,nt⟩:=‹_∧Qi w _›;have Ea:=Qf nt
    try (have Eb:=Qf hbq)
    clear nt;go_wp2_with fail;go_meet;exact⟨_,rfl,rfl,by first|exact Eb.o.dh|exact aw.new _ _ _,Ea.o⟩
  case rest=>
   obtain⟨Bd,rfl,rfl,gV,aI⟩:=hcut;generalize wc=X at gV aI⊢;have aW:=Qf aI;have yU:=Qf gV;have BE:=HBT.o.ak aI;clear bc bf bz;obtain⟨bc,bf,bz⟩:=BE.facts;obtain⟨dc,df,dz⟩:=gV.facts;clear aI gV BE pc;by_cases h1:d.kind=1
   ·have oC:(d.kind != 1)=false:=by simpa using h1
    have pN:=Qf (HQ.o.trans (if_neg (by simp[h1])));have mS:=Qf (fun w=>lz c d ea el ec 1 w);unfold Cr.v An.v at mS;clear h1 HQ;go_wp2_with fail;refine aG 5 mixed (by kernel_rfl) (show bL _ from by repeat (first|exact cG|refine cF ?_|refine bR ?_)) ?_;simp only[List.take_succ_cons,List.take_zero,List.drop_succ_cons,List.drop_zero]
    repeat still_step
    refine wpStill_nil ?_;go_wp2_with fail;refine(mS.o _).mono ?_;rintro e w2 ⟨rfl,aS⟩;have bK:=aW.o.drew.trans (aS.mono aW.o.size);have dS:=Qf bK;have FU:=HBT.o.ak bK;have Jl:=yU.o.drew.ak aS;have ND:=Qf Jl;have pc2:w2.cell? ⟨pw,0,none⟩=some (.pointer (some ⟨R.pt,0,none⟩)):=(bK.cell (p:=⟨pw,0,none⟩) pz).trans (lP.o 0);clear bc bf bz dc df dz aS;obtain⟨bc,bf,bz⟩:=FU.facts;obtain⟨dc,df,dz⟩:=Jl.facts;clear FU Jl bK
    cases hm:d.may c 1 with
    |false=>
     have HE:=Qf (pN.o.trans (if_pos hm));clear hm;go_wp2_with fail;go_ret2;rw[HE.o];exact⟨rfl,dS.o⟩
    |true=>
     have sP:=Qf (pN.o.trans (if_neg (by rw[hm];decide)));clear hm pN;by_cases h2:p.data.toList=[46,46]
     ·have kq:p.toList=[46,46]:=by rw[bG];exact h2
      have HE:=Qf (sP.o.trans (if_pos h2));have HAb:=Qf (fun w1 (av:Qi w w1)=>qp (HW.o.ak av) HK.o k);clear h2 sP;go_wp2_with fail;refine aG 8 mixed (by kernel_rfl) (show bL _ from by repeat (first|exact cG|refine cF ?_|refine bR ?_)) ?_;simp only[List.take_succ_cons,List.take_zero,List.drop_succ_cons,List.drop_zero]
      repeat still_step
      refine wpStill_nil ?_;go_wp2_with fail;refine(HAb.o _ dS.o.drew).mono ?_;rintro e w3 ⟨rfl,bK⟩;have fG:=Qf (dS.o.drew.trans (bK.mono dS.o.size));clear bK;go_wp2_with fail;go_ret2;rw[HE.o];exact⟨rfl,fG.o⟩
     ·have kq:(p.toList==[46,46])=false:=by rw[bG];simpa using h2
      have DX:=Qf (sP.o.trans (if_neg h2));have hpl:p.data.toList.length=p.size:=Array.length_toList;clear h2 sP;by_cases h3:255<p.size
      ·have HE:=Qf (DX.o.trans (if_pos (by rw[hpl];exact h3)));have rH:(255:Int)<(p.size:Int):=by omega
       clear hpl;go_wp2_with fail;go_ret2;rw[HE.o];exact⟨rfl,dS.o⟩
      ·have HE:=Qf (DX.o.trans (if_neg (by rw[hpl];exact h3)));rw[qx] at HE;have rH:¬(255:Int)<(p.size:Int):=by omega
       have HF:=Qf (fun w1 (av:Qi w w1)=>fX d.ay ea el ec p w1 (lQ.o.ak av) (HK.o.get HHG.o).1.eE Ml.o);have pO:=Qf (fun w1 (av:Qi w w1)=>jA (HW.o.ak av) HK.o.d1 (aF d.ay p));clear hpl DX h3;generalize aF d.ay p=f at HE HF pO;go_wp2_with fail;have hzz:w2.heap.size≤w2.heap.size:=aa _;have De:=dS.o.size
       go_region_held3 (fun w'=>(∀b o,b<w2.heap.size→w'.cell? ⟨b,o,none⟩=w2.cell? ⟨b,o,none⟩)∧Qi w2 w') (first|with_reducible assumption|with_reducible exact dJ _|with_reducible exact cV _|with_reducible exact dg (by assumption) (by assumption)|with_reducible exact cO (by assumption) _|with_reducible exact cL (by assumption) _|with_reducible exact cq (by assumption) (by assumption)|with_reducible exact dI (by assumption) (by assumption))
        ((first|(go_at_call 66;((with_reducible refine(HF.o _ (dS.o.trans ((And.right ‹(∀b o,b<w2.heap.size→_)∧Qi w2 _›).mono De))).mono ?_);rintro e w4 ⟨rfl,bU⟩))|(go_at_call 67;((with_reducible refine(pO.o _ (dS.o.trans ((And.right ‹(∀b o,b<w2.heap.size→_)∧Qi w2 _›).mono De))).mono ?_);rintro e w4 ⟨rfl,bU⟩))))
       all_goals
        obtain⟨-,nt⟩:=‹_∧Qi w2 _›;have uv:=Qf (dS.o.trans (nt.mono De));clear nt;go_wp2_with fail;go_ret2;rw[HE.o];exact⟨rfl,uv.o⟩
   ·have oC:(d.kind != 1)=true:=by simpa using h1
    have HE:=Qf (HQ.o.trans (if_pos h1));clear h1;go_wp2_with fail;go_ret2;rw[HE.o];exact⟨rfl,aW.o⟩
end
end
section
open Go.RowKit
structure Rf.cy(R R':Rf):Prop where
 now:R'.now=R.now
 mR:R'.mR=R.mR
 pl:R'.pl=R.pl
 dd:R'.dd=R.dd
theorem Rf.cy.refl(R:Rf):Rf.cy R R:=⟨rfl,rfl,rfl,rfl⟩
theorem Rf.cy.trans{A B C:Rf}(h:Rf.cy A B)(k:Rf.cy B C):Rf.cy A C:=⟨k.now.trans h.now,k.mR.trans h.mR,k.pl.trans h.pl,k.dd.trans h.dd⟩
theorem ID{S:Fs}(hn:gR S){G:List Gn}(hG:S.ns=G.map (·.a)){i:Nat}(hi:i<G.length){a:An}(hno:G[i].a.no=a.no){y:Gn}(hy:y.a=a):(S.set a).ns=(G.set i y).map (·.a):=by
 have hr:=hn.eE;rw[hG] at hr;show(S.ns.map _)=_;rw[hG];apply List.ext_getElem
 ·simp
 ·intro j h1 h2;have hj:j<G.length:=by simpa using h1
  simp only[List.getElem_map,List.getElem_set];by_cases hij:i=j
  ·subst hij;rw[if_pos rfl,hno];simp[hy]
  ·rw[if_neg hij,if_neg];have key:=List.pairwise_iff_getElem.1 hr;simp only[List.length_map,List.getElem_map] at key;simp only[beq_iff_eq];rcases Nat.lt_or_gt_of_ne hij with h|h
   ·have:=key i j (by simpa using hi) (by simpa using hj) h;omega
   ·have:=key j i (by simpa using hj) (by simpa using hi) h;omega
theorem E0(w:World)(g o:Nat)(v0 v1 v2 v3 v4 v5 v6 v7 v8 v9 v10 v11:Value):putRow w g o [v0,v1,v2,v3,v4,v5,v6,v7,v8,v9,v10,v11]=(((((((((((w.setCell ⟨g,o,none⟩ v0).setCell ⟨g,o+1,none⟩ v1).setCell ⟨g,o+2,none⟩ v2).setCell ⟨g,o+3,none⟩ v3).setCell ⟨g,o+4,none⟩ v4).setCell ⟨g,o+5,none⟩ v5).setCell ⟨g,o+6,none⟩ v6).setCell ⟨g,o+7,none⟩ v7).setCell ⟨g,o+8,none⟩ v8).setCell ⟨g,o+9,none⟩ v9).setCell ⟨g,o+10,none⟩ v10).setCell ⟨g,o+11,none⟩ v11:=rfl
section
variable{w w':World}{pf:Nat}{R:Rf}{S:Fs}
theorem cP{g:Nat}{e:TypeId}(hk:∃cur,w.heap[g]?=some (.cells cur e (0,0))){x:Nat}{vs:Array Value}{T:TypeId}(hx:aw w x vs T)(hT:T≠e):x≠g:=by
 rintro rfl;obtain⟨cur,hc⟩:=hk;unfold aw at hx;rw[hx] at hc;injection hc with hc;injection hc with _ hc;exact hT hc
theorem aN.put(h:aN w pf R S)(hn:gR S){g cap:Nat}(hv:R.nv=.slice (some ⟨g,0,none⟩) R.G.length cap){i:Nat}(hi:i<R.G.length){a:An}{ea:Option Addr}{el ec:Nat}(hno:R.G[i].a.no=a.no)(he:aA w ea el ec a.ay) :
  aN (putRow w g (i*12) [.int .i64 a.no,.int .i64 a.dev,.int .i64 a.kind,.int .i64 a.mode,.int .i64 a.uid,.int .i64 a.gid,.int .i64 a.mtime,.int .i64 a.ctime,.int .i64 a.ao,.int .i64 a.up,.string a.data,.slice ea el ec]) pf {R with G:=R.G.set i ⟨a,ea,el,ec,0⟩} (S.set a)∧Mod (R.F pf) w (putRow w g (i*12) [.int .i64 a.no,.int .i64 a.dev,.int .i64 a.kind,.int .i64 a.mode,.int .i64 a.uid,.int .i64 a.gid,.int .i64 a.mtime,.int .i64 a.ctime,.int .i64 a.ao,.int .i64 a.up,.string a.data,.slice ea el ec]):=by
 have hgb:R.nv.ownBlock=some g:=by rw[hv];rfl
 have hm:=qO (g:=g) [.int .i64 a.no,.int .i64 a.dev,.int .i64 a.kind,.int .i64 a.mode,.int .i64 a.uid,.int .i64 a.gid,.int .i64 a.mtime,.int .i64 a.ctime,.int .i64 a.ao,.int .i64 a.up,.string a.data,.slice ea el ec] w (i*12);have hM:Mod (R.F pf) w (putRow w g (i*12) [.int .i64 a.no,.int .i64 a.dev,.int .i64 a.kind,.int .i64 a.mode,.int .i64 a.uid,.int .i64 a.gid,.int .i64 a.mtime,.int .i64 a.ctime,.int .i64 a.ao,.int .i64 a.up,.string a.data,.slice ea el ec]):=hm.mono (fun k hk=>.inr (.inl (by rw[hk];exact hgb)));obtain⟨-,hcur⟩:=aD h.re hgb;have hst:aR (R.F pf) (R.F pf) w (putRow w g (i*12) [.int .i64 a.no,.int .i64 a.dev,.int .i64 a.kind,.int .i64 a.mode,.int .i64 a.uid,.int .i64 a.gid,.int .i64 a.mtime,.int .i64 a.ctime,.int .i64 a.ao,.int .i64 a.up,.string a.data,.slice ea el ec]):=aR.cQ hM;refine⟨⟨h.aZ.mod hm (cP hcur h.aZ (by decide)),?_,bI h.eN hm (fun k hk e=>?_),ID hn h.ns hi hno rfl,fun x hx=>?_⟩,hM⟩
 ·show World.ownsRow _ 0 149 12 R.nv (R.G.set i _).length ((R.G.set i _).flatMap Gn.cs);rw[List.length_set];have h0:=h.re;rw[hv] at h0⊢;exact Bm (enc:=Gn.cs) (by omega) Gn.fF h0 i hi ⟨a,ea,el,ec,0⟩
 ·obtain⟨-,cur2,eT⟩:=aD h.eN e;rw[hk] at eT;exact cP hcur (show aw w g cur2 266 from eT) (by decide) rfl
 ·rcases List.mem_or_eq_of_mem_set hx with hx|rfl
  ·exact(h.ay x hx).rf h hst
  ·exact he.rf h hst
theorem jE(h:aN w pf R S)(hn:gR S){a:An}{ea:Option Addr}{el ec:Nat}(he:aA w ea el ec a.ay){b:An}(hb:S.get a.no=some b) :
  Calls Tryz.prog 140 #[.pointer (some ⟨pf,0,none⟩),a.v ea el ec] w fun e w'=>e=.returned (.tuple #[])∧∃R',aN w' pf R' (S.set a)∧aR (R.F pf) (R'.F pf) w w'∧Rf.cy R R'∧R'.dv=R.dv:=by
 rcases oh h a.no with⟨i,hi,hp,-,hno⟩|⟨-,xN⟩
 ·have cH:=aq (Qj w) (.cells #[.int .i64 a.no,.int .i64 a.dev,.int .i64 a.kind,.int .i64 a.mode,.int .i64 a.uid,.int .i64 a.gid,.int .i64 a.mtime,.int .i64 a.ctime,.int .i64 a.ao,.int .i64 a.up,.string a.data,.slice ea el ec] 149);have D2:=aw.new w #[.int .i64 a.no,.int .i64 a.dev,.int .i64 a.kind,.int .i64 a.mode,.int .i64 a.uid,.int .i64 a.gid,.int .i64 a.mtime,.int .i64 a.ctime,.int .i64 a.ao,.int .i64 a.up,.string a.data,.slice ea el ec] 149;have Eh:=Qf (uM (h.ak ((Below.refl _ w).alloc (aa _) (.cells #[.int .i64 a.no,.int .i64 a.dev,.int .i64 a.kind,.int .i64 a.mode,.int .i64 a.uid,.int .i64 a.gid,.int .i64 a.mtime,.int .i64 a.ctime,.int .i64 a.ao,.int .i64 a.up,.string a.data,.slice ea el ec] 149))) a.no);rw[hp] at Eh;obtain⟨g,cap,hnv,hcap,OG,hgl,hc,hfz,cur,hcur⟩:=h.bS (by omega);have HP:=Qf (fun w1 (hb:Qi w w1)=>(h.ak hb).put hn hnv hi hno (he.ak hb));obtain⟨pc,-,pz⟩:=h.aZ.facts;rw[hnv] at pc;have GO:=Qf hcur;obtain⟨n,ox⟩:∃n,R.G.length=n:=⟨_,rfl⟩;rw[ox] at pc hcap;have hin:i<n:=by omega
  have nM:=Qf D2;have bP:=Qf cH;have mixed:Tryz.prog.follows .mixedOrders=true:=by kernel_rfl
  obtain⟨y,y1,y2,y3,c0,c1,c2,c3,c4,c5,c6,c7,c8,c9,M7,M6⟩:∃(y:An) (y1:Option Addr) (y2 y3:Nat),NdC w g (i*12) y y1 y2 y3:=⟨_,_,_,_,hc i hi⟩;have HC:=Qf (fun w1 (hb:Qi w w1)=>ag (hb.cell (p:=⟨g,i*12,none⟩) hgl) (fun j=>hb.cell (p:=⟨g,i*12+j,none⟩) hgl));unfold An.v;clear h hn he hb hp hnv hc hi hno ox D2 cH hcur hfz;go_enter Tryz.func140,Tryz.ntmps140;have D2:=nM.o;obtain⟨qc,qf,qz⟩:=D2.facts;clear D2;go_wp2_with fail;refine Eh.o.mono ?_;rintro e w1 ⟨rfl,av⟩;have Ah:=nM.o.ak av;have aS:=au bP.o av;obtain⟨d0,dd⟩:=HC.o w1 aS;rw[←d0] at c0;rw[←dd 1] at c1;rw[←dd 2] at c2;rw[←dd 3] at c3;rw[←dd 4] at c4;rw[←dd 5] at c5;rw[←dd 6] at c6;rw[←dd 7] at c7;rw[←dd 8] at c8;rw[←dd 9] at c9;rw[←dd 10] at M7;rw[←dd 11] at M6;have I1:g<w1.heap.size:=Nat.lt_of_lt_of_le hgl aS.size;have hfz1:=(GO.o.ak aS).frozen;have pc2:=fun i=>(aS.cell (p:=⟨pf,i,none⟩) pz).trans (pc i);have dS:=Qf aS;clear qc qf qz;obtain⟨qc,qf,qz⟩:=Ah.facts;clear Ah av aS d0 dd pc;go_wp2_with fail;refine aG 7 mixed (by kernel_rfl) (show bL _ from by repeat (first|exact cG|refine cF ?_|refine bR ?_|refine cd ?_)) ?_;simp only[List.take_succ_cons,List.take_zero,List.drop_succ_cons,List.drop_zero]
  repeat still_step
  refine wpStill_nil ?_;go_wp2_with fail
  go_end0
  obtain⟨hR,hM⟩:=HP.o _ dS.o;rw[E0] at hR hM;exact⟨rfl,_,hR.ak ((Below.refl _ _).drew),(aR.ar dS.o).trans (aR.cQ hM.drew),⟨rfl,rfl,rfl,rfl⟩,rfl⟩
 ·rw[hb] at xN;cases xN
end
end
end Go.Proofs.YtabbjaomlmnnhaaGreat
