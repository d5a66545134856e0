import Derived.Laws.CopyRow
import Derived.Laws.Externs
import Derived.Lib.Overlaps
import Derived.Lib.AppendZeros
import Derived.Lib.JoinLaws
import Derived.Deep.AppendSrc
import Derived.Lib.SliceRun
import Derived.Lib.AppendZerosOnto
import Derived.Deep.CutBlock
import Derived.Deep.DeepCutAuto
import Derived.RegionTactic
import Derived.BigRegion
import Derived.Test.YtabbjaomlmnnhaaGreatCO2
import Derived.Test.YtabbjaomlmnnhaaGreatCO6
import Derived.Test.YtabbjaomlmnnhaaGreatCO5
set_option linter.unusedVariables false
set_option linter.unusedSimpArgs false
set_option maxRecDepth 100000
set_option maxHeartbeats 16000000
namespace Go.Proofs.YtabbjaomlmnnhaaGreat
open Go.Value renaming int→UE,string→UF,slice→UG,pointer→UH,agg→UJ,tuple→UK
open Go.IntKind renaming i64→UL
section
open Go.RowKit
section
variable{P:Program}
theorem iK(w:World)(dT sT ty elem:TypeId)(g o dLen dCap:Nat)(a:Addr)(sLen sCap:Nat)(cur:Array Value)(t:TypeId)(cs:List Value)(n sz:Nat)
  (hu:P.underlying dT=some (.slice elem)) (hs:(P.info? elem).map (·.size)=some sz)
  (hg:w.heap[g]?=some (.cells cur t (0,0))) (hm:Nat.min sLen dLen=n) (hn:cs.length=n*sz)
  (hsrc:∀j v,cs[j]?=some v→w.cell? (a.add j)=some v) (hfit:o+cs.length≤cur.size) (h1:∀v∈cs,v.oneCell'=true) :
  (Builtin.copy_ #[dT,sT] ty #[.slice (some ⟨g,o,none⟩) dLen dCap,.slice (some a) sLen sCap]).run P w =
   .ok (goInt n) (w.setRow g (cur.toList.take o++cs++cur.toList.drop (o+cs.length)).toArray):=by
 have hl:=run_loadCells_list (P:=P) w a cs hsrc;have hst:=run_storeCells_at P g o t cs 0 cur w hg (by simpa using hfit) h1
 cases hq:P.info? elem with
 |none=>simp[hq] at hs
 |some i=>
  have hi:i.size=sz:=by simpa [hq] using hs
  simp[Builtin.copy_,run_underlying hu,Builtin.lenOf,Builtin.firstCells,sizeOf,typeInfo,hq,hi,hm,←hn,hl,hst]
theorem zl(w:World){o:Oper}{a:Act}{K:Act→World→Prop}{Q:Exit→Act→World→Prop}(d s:Operand)(t t':TypeId)
  (ho:o.op=.call {callee:=.builtin .copy,args:=#[d,s],argTypes:=#[t,t']}) (v u:Value) (hd:a.eval d=v) (hs:a.eval s=u) {v':Value} {w':World}
  (hr:(Builtin.copy_ #[t,t'] o.type #[v,u]).run P w=.ok v' w') (h:K (a.put o.dst v') w'):o.wp P a w K Q:=by
 unfold Oper.wp execOp;simp only[ho,resolve,invoke,builtin,Sem.run_bind,Sem.run_pure,Result.andThen_ok,List.map_toArray,List.map_cons,List.map_nil,hd,hs,hr];exact h
theorem lJ(w:World){ops:Array Oper}{rest:List Oper}{o:Oper}{a:Act}{Q:Exit→Act→World→Prop}(hgd:o.guard=none)(d s:Operand)(t t':TypeId)
  (ho:o.op=.call {callee:=.builtin .copy,args:=#[d,s],argTypes:=#[t,t']}) (v u:Value) (hd:a.eval d=v) (hs:a.eval s=u) {v':Value} {w':World}
  (hr:(Builtin.copy_ #[t,t'] o.type #[v,u]).run P w=.ok v' w') (h:wpList P ops Q rest (a.put o.dst v') w'):wpList P ops Q (o::rest) a w:=
 wpList_plain hgd fun _ hK=>zl w d s t t' ho v u hd hs hr (hK _ _ h)
theorem nt{ops:Array Oper}{o:Oper}{a:Act}{w:World}{K:Act→World→Prop}{Q:Exit→Act→World→Prop}{E:Prop}
  (hg:o.guard=none) (d x:Operand) (dT sT:TypeId) (hop:o.op=Op.call {callee:=Callee.builtin Builtin.copy,args:=#[d,x],argTypes:=#[dT,sT]})
  (v u:Value) (hd:a.eval d=v) (hx:a.eval x=u) {v':Value} {w':World} (hr:(Builtin.copy_ #[dT,sT] o.type #[v,u]).run P w=.ok v' w') (hK:K (a.put o.dst v') w') :
  if Region.wanted o (yielded ops a.tmps)=true then Oper.wp P o a w K Q else E:=by
 have hw:Region.wanted o (yielded ops a.tmps)=true:=by simp[Region.wanted,hg]
 rw[if_pos hw];unfold Oper.wp;simp[execOp,hop,resolve,invoke,builtin,hd,hx,hr,Result.andThen];exact hK
end
theorem k9{w:World}{g:Nat}{cur vs:Array Value}{T:TypeId}(h:ax w g cur T):ax (w.setRow g vs) g vs T:=setRow_heap w g cur vs T _ h
theorem k8(w:World)(g:Nat)(vs:Array Value):Mod (fun k=>k=g) w (w.setRow g vs):=by
 refine⟨rfl,rfl,rfl,by simp[World.setRow],fun k hk hs=>?_⟩;simp only[World.setRow];rw[Array.getElem?_modify,if_neg (fun e=>hs e.symm)]
end
section
open Go.RowKit
theorem gY:(Tryz.prog.info? 98).map (fun i=>(i.zero,i.size,i.bytes))=some (some (UJ #[UF ByteArray.empty,UE UL 0]),2,24):=by kernel_rfl
theorem ph(es:List En):∀u∈es.flatMap cP,u.oneCell'=true:=by
 intro u hu;obtain⟨x,-,hx⟩:=List.mem_flatMap.1 hu;simp[cP] at hx;rcases hx with rfl|rfl<;>rfl
theorem aA.news{w:World}{b off n c:Nat}{es:List En}(h:aA w (some ⟨b,off,none⟩) n c es):∀j u,(es.flatMap cP)[j]?=some u→w.cell? ((⟨b,off,none⟩:Addr).add j)=some u:=by
 intro j u hu;have hlt:j<(es.flatMap cP).length:=(List.getElem?_eq_some_iff.1 hu).1;rw[cJ cp] at hlt;have hm:=Nat.mod_lt j (show 0<2 by omega);have hdiv:j=j / 2*2+j % 2:=by omega
 have hq:j / 2<es.length:=by omega
 have h1:=iY cp es (j / 2) (j % 2) hq hm;rw[←hdiv,hu] at h1;obtain⟨c1,c2⟩:=h.cell (j / 2) hq;rw[mD];rcases(show j % 2=0∨j % 2=1 by omega) with hr|hr
 ·rw[hr] at h1;rw[show off+j=off+j / 2*2 by omega,c1];exact h1.symm
 ·rw[hr] at h1;rw[show off+j=off+j / 2*2+1 by omega,c2];exact h1.symm
def OE(w:World)(base:Nat)(v:Value)(es:List En):Prop:=w.ownsRow base 98 2 v es.length (es.flatMap cP)
theorem OE.at{w:World}{base c:Nat}{a:Option Addr}{es:List En}(h:OE w base (UG a es.length c) es):aA w a es.length c es:=by
 refine⟨fe (R:=Tv) (by omega) cp (fun _=>rfl) h,fun p hp=>?_⟩;subst hp;rcases h.2 with⟨h1,-⟩|⟨g,cap,cur,h1,-,hg,-⟩
 ·cases h1
 ·injection h1 with h1;injection h1 with h1;exact⟨g,0,cur,h1,hg⟩
theorem OE.an{w w':World}{base:Nat}{v:Value}{es:List En}(h:OE w base v es)(hb:UA w w'):OE w' base v es:=ew h hb (aa _)
theorem Di(es:List En)(a:Option Addr)(n c:Nat)(w:World)(he:aA w a n c es)(hn:n≤1000000) :
  Calls Tryz.prog 153 #[UG a n c] w fun e w'=>(∃a' c',e=.returned (UG a' n c')∧OE w' w.heap.size (UG a' n c') es)∧UA w w':=by
 have hl:=he.len;obtain⟨i0,hi,kp,fj,fo⟩:=info_parts gY;have hq:∀(w:World) (r:Option Addr) (n c:Nat),(binOp .eql 94 (UG r n c) (UG none 0 0)).run Tryz.prog w=.ok (.bool r.isNone) w:=fun w r n c=>Lib.run_eql_slice_nil w _ _ r n c 0 0 Tryz.underlying94
 cases a with
 |none=>
  have QI:n=0:=by
   rcases Nat.eq_zero_or_pos n with h|h
   ·exact h
   ·obtain⟨b,off,h1,-⟩:=he.ej h
    cases h1
  subst QI;obtain rfl:es=[]:=List.eq_nil_of_length_eq_zero hl;have H:=Ux (show OE w w.heap.size (UG none 0 0) [] from World.ownsRow_nil _ _ _ _);clear he hl hi kp fj fo;go_enter Tryz.func153,Tryz.ntmps153;go_wp2_with fail;go_ret;exact⟨⟨none,0,rfl,H.o⟩,Below.refl _ _⟩
 |some p=>
  obtain⟨b,off,cur,rfl,hblk⟩:=he.bD p rfl;have lx:=he.an ((Below.refl _ w).alloc (aa _) (.cells #[] 98));have hrun:∃a' c' W,(Builtin.append_ #[94,94] 94 #[.slice (some ⟨w.heap.size,0,none⟩) 0 0,.slice (some ⟨b,off,none⟩) n c]).run Tryz.prog (w.alloc (.cells #[] 98))=.ok (UG a' n c') W∧
    OE W w.heap.size (UG a' n c') es∧UA w W:=by
   obtain⟨g,cap,W,h1,h2,h3,h4⟩:=xp (94) Tryz.underlying94 hi kp fj fo rfl (by omega) (FH (base:=w.heap.size) (sz:=2) (e:=98) w (aa _)) ⟨b,off,none⟩ n c (es.flatMap cP) (by rw[cJ cp,hl]) lx.news (ph es) (by unfold maxLen;omega) (by omega) (by simp);refine⟨some ⟨g,0,none⟩,cap,W,?_,?_,((UB w).alloc (aa _) _).trans (h3.below (fun k hk=>by omega) (by simp))⟩
   ·rw[Nat.zero_add] at h1;exact h1
   ·rw[Nat.zero_add,List.nil_append] at h2;unfold OE;rw[hl];exact h2
  obtain⟨a',c',W,hrun,h2,h3⟩:=hrun;have H:=Ux (ag h2 h3);clear he lx hblk h2 h3 hi kp fj fo hl;go_enter Tryz.func153,Tryz.ntmps153;go_wp2_with (at_builtin;refine aT rfl rfl rfl rfl hrun ?_);go_ret;exact⟨⟨a',c',rfl,H.o.1⟩,H.o.2⟩
end
section
open Go.RowKit
theorem OE.mk{w:World}{base g cap:Nat}{cur:Array Value}{es:List En}(hb:base≤g)(hg:ax w g cur 98)(h1:es.length≤cap)(h2:cap≤maxLen)(h3:cur.size=cap*2)(h4:cur.toList.take (es.length*2)=es.flatMap cP) :
  OE w base (.slice (some ⟨g,0,none⟩) es.length cap) es:=⟨cJ cp es,.inr ⟨g,cap,cur,rfl,hb,hg,h1,h2,h3,h4⟩⟩
theorem wE(es:List En)(i:Nat):(es.flatMap cP).take (i*2)=(es.take i).flatMap cP:=by
 induction es generalizing i with
 |nil=>simp
 |cons x es ih=>
  cases i with
  |zero=>simp
  |succ i=>
   rw[List.flatMap_cons,List.take_succ_cons,List.flatMap_cons,show(i+1)*2=(cP x).length+i*2 by rw[cp];omega,List.take_append,List.take_of_length_le (by omega),Nat.add_sub_cancel_left,ih]
theorem wF(es:List En)(i:Nat):(es.flatMap cP).drop (i*2)=(es.drop i).flatMap cP:=by
 induction es generalizing i with
 |nil=>simp
 |cons x es ih=>
  cases i with
  |zero=>simp
  |succ i=>
   rw[List.flatMap_cons,List.drop_succ_cons,show(i+1)*2=(cP x).length+i*2 by rw[cp];omega,List.drop_append,List.drop_eq_nil_of_le (by omega),Nat.add_sub_cancel_left,ih,List.nil_append]
theorem A3(es:List En)(a:Option Addr)(c base vb:Nat)(x:En)(w:World)(h:OE w base (UG a es.length c) es)(hb:ax w vb #[UF x.name,UE UL x.no] 98)(hbase:base≤w.heap.size)(hn:es.length≤1000000) :
  Calls Tryz.prog 152 #[UG a es.length c,UE UL es.length,.slice (some ⟨vb,0,none⟩) 1 1] w fun e w'=>(∃a' c',e=.returned (UG a' (es.length+1) c')∧OE w' base (UG a' (es.length+1) c') (es++[x]))∧Mod (fun k=>(Value.slice a es.length c).ownBlock=some k) w w':=by
 obtain⟨i0,hi,kp,fj,fo⟩:=info_parts gY;obtain⟨g,cap,W,h1,h2,h3,h4⟩:=eX (94) Tryz.underlying94 hi kp fj fo rfl (by omega) h ⟨vb,0,none⟩ 1 1 (cP x) rfl (World.news_of_block hb) (by intro u hu;simp[cP] at hu;rcases hu with rfl|rfl<;>rfl) (by omega) (by unfold maxLen;omega) (by omega) hbase;have kR:OE W base (.slice (some ⟨g,0,none⟩) (es.length+1) cap) (es++[x]):=by
  unfold OE;rw[List.length_append,List.length_singleton,List.flatMap_append,List.flatMap_singleton];exact h2
 obtain⟨b',c',hv,hle,-⟩:=bQ h;injection hv with e1 e2 e3;subst e1 e3;have H:=Ux (ag kR h3);clear h2 kR h3 h4 hi kp fj fo hb h;obtain⟨n,hnn⟩:∃n,es.length=n:=⟨_,rfl⟩;rw[hnn] at H h1 hle hn⊢;clear hnn
 cases a with
 |none=>
  go_enter Tryz.func152,Tryz.ntmps152;go_wp2_with (at_builtin;refine aT rfl rfl rfl rfl h1 ?_)
  all_goals (go_ret;exact⟨⟨_,_,rfl,H.o.1⟩,H.o.2⟩)
 |some p=>
  go_enter Tryz.func152,Tryz.ntmps152;go_wp2_with (at_builtin;refine aT rfl rfl rfl rfl h1 ?_)
  all_goals (go_ret;exact⟨⟨_,_,rfl,H.o.1⟩,H.o.2⟩)
theorem kU(k:Nat):(Builtin.zeroCells (Value.cells (UJ #[UF ByteArray.empty,UE UL 0])) k).size=k*2:=by
 rw[size_zeroCells];rfl
theorem jo{α:Type}(a b:List α)(n:Nat)(h:a.length=n):(a++b).take n=a:=by
 subst h;simp
theorem yy(es:List En)(g c i base vb:Nat)(x:En)(w:World)(h:OE w base (.slice (some ⟨g,0,none⟩) es.length c) es)(hb:ax w vb #[UF x.name,UE UL x.no] 98)(hbase:base≤w.heap.size)(hn:es.length≤1000000)(hil:i<es.length)(hroom:c<es.length+1) :
  Calls Tryz.prog 152 #[.slice (some ⟨g,0,none⟩) es.length c,UE UL i,.slice (some ⟨vb,0,none⟩) 1 1] w fun e w'=>(∃a' c',e=.returned (UG a' (es.length+1) c')∧OE w' base (UG a' (es.length+1) c') (es.take i++x::es.drop i))∧UA w w':=by
 obtain⟨i0,hi,kp,fj,fo⟩:=info_parts gY;have hA:=h.at;have hlt:=(hA.ej (by omega));obtain⟨gg,oo,hgg,hgl⟩:=hlt;injection hgg with hgg;injection hgg with e1 e2;subst e1 e2;obtain⟨b',c',hv,hle,-⟩:=bQ h;injection hv with e1 e2 e3;subst e1 e3;have hsz:(Tryz.prog.info? 98).map (·.size)=some 2:=by rw[hi];simp[fj]
 obtain⟨n,hnn⟩:∃n,es.length=n:=⟨_,rfl⟩;have hold:(Builtin.firstCells i0.size i (.slice (some ⟨g,0,none⟩) i c)).run Tryz.prog w.drew=.ok ((es.take i).flatMap cP).toArray w.drew:=by
  rw[fj];refine run_firstCells_some w.drew 2 i ⟨g,0,none⟩ i c _ (by rw[cJ cp,List.length_take];omega) (fun j v hj=>?_);rw[←wE,List.getElem?_take] at hj
  split at hj
  ·exact hA.news j v hj
  ·cases hj
 have KR:=Lib.run_append_grow_zeros w 94 3 94 98 i0 _ .i64 .i64 Tryz.underlying94 Tryz.underlying3 hi kp (some ⟨g,0,none⟩) i c _ hold (n+1-i) (by omega) (by rw[fj];omega) (by omega) (by omega) (by rw[fo];omega) (by rw[fo];exact growslice_fits (by omega) (by omega));rw[show i+(n+1-i)=n+1 by omega] at KR;have hk:((n+1-i:Nat):Int)=(n:Int)+1-(i:Int):=by omega
 rw[hk] at KR;obtain⟨G,hG⟩:∃G,grownCap w (n+1) c 98=G:=⟨_,rfl⟩;have hG1:n+1≤G:=by rw[←hG];exact grownCap_ge w _ _ _
 have Tk:G≤maxLen:=by rw[←hG];exact grownCap_le_maxLen w _ _ _ (by unfold maxLen;omega)
 rw[hG] at KR;obtain⟨ROW,My⟩:∃R,((es.take i).flatMap cP).toArray++Builtin.zeroCells (Value.cells (UJ #[UF ByteArray.empty,UE UL 0])) (n+1-i)++Builtin.zeroCells (Value.cells (UJ #[UF ByteArray.empty,UE UL 0])) (G-(n+1))=R:=⟨_,rfl⟩;rw[My] at KR;have hRs:ROW.size=G*2:=by
  rw[←My,Array.size_append,Array.size_append,kU,kU,List.size_toArray,cJ cp,List.length_take];omega
 have hRt:ROW.toList.take (i*2)=(es.take i).flatMap cP:=by
  rw[←My,Array.toList_append,Array.toList_append,List.append_assoc];exact jo _ _ _ (by rw[cJ cp,List.length_take];omega)
 have b1:ax (w.drew.alloc (.cells ROW 98)) w.heap.size ROW 98:=ax.new w.drew ROW 98;have B1:UA w (w.drew.alloc (.cells ROW 98)):=((Below.refl _ w).drew).alloc (aa _) _;have hA1:=hA.an B1;have uT:=hb.an B1;have hne:vb≠w.heap.size:=by have:=hb.lt;omega
 generalize rO:w.drew.alloc (.cells ROW 98)=W1 at KR b1 B1 hA1 uT;clear rO;have uU:=iK W1 94 94 3 98 w.heap.size (i*2) (n+1-i) (G-i) ⟨vb,0,none⟩ 1 1 ROW 98 (cP x) 1 2 Tryz.underlying94 hsz b1 (by simp only[Nat.min_def];split<;>omega) rfl (World.news_of_block uT) (by rw[cp,hRs];omega) (by intro u hu;simp[cP] at hu;rcases hu with rfl|rfl<;>rfl);have b2:=k9 (vs:=(ROW.toList.take (i*2)++cP x++ROW.toList.drop (i*2+(cP x).length)).toArray) b1;have M2:=k8 W1 w.heap.size (ROW.toList.take (i*2)++cP x++ROW.toList.drop (i*2+(cP x).length)).toArray;have ib:(ROW.toList.take (i*2)++cP x++ROW.toList.drop (i*2+(cP x).length)).toArray.size=G*2:=by
  rw[List.size_toArray,List.length_append,List.length_append,List.length_take,List.length_drop,cp,Array.length_toList,hRs];omega
 have FZ:(ROW.toList.take (i*2)++cP x++ROW.toList.drop (i*2+(cP x).length)).take ((i+1)*2)=(es.take i).flatMap cP++cP x:=by
  rw[hRt];exact jo _ _ _ (by rw[List.length_append,cJ cp,List.length_take,cp];omega)
 obtain⟨R2,dw⟩:∃R,(ROW.toList.take (i*2)++cP x++ROW.toList.drop (i*2+(cP x).length))=R:=⟨_,rfl⟩;rw[dw] at uU b2 M2 ib FZ;have B2:UA w (W1.setRow w.heap.size R2.toArray):=B1.trans (M2.below (fun k hk=>by omega) B1.size);have mv:=hA.an B2;generalize CZ:W1.setRow w.heap.size R2.toArray=W2 at uU b2 B2 mv;clear CZ M2;have hdl:((es.drop i).flatMap cP).length=(n-i)*2:=by rw[cJ cp,List.length_drop,hnn]
 have p6:=iK W2.drew 94 94 3 98 w.heap.size ((i+1)*2) (n+1-(i+1)) (G-(i+1)) ⟨g,i*2,none⟩ (n-i) (c-i) R2.toArray 98 ((es.drop i).flatMap cP) (n-i) 2 Tryz.underlying94 hsz b2.drew (by simp only[Nat.min_def];split<;>omega) hdl
  (fun j v hj=>by
   rw[←wF,List.getElem?_drop] at hj;have:=mv.news (i*2+j) v hj;rw[mD] at this⊢;rw[show i*2+j=0+(i*2+j) by omega];exact this) (by rw[hdl,ib];omega) (ph _)
 have b3:=k9 (vs:=(R2.toArray.toList.take ((i+1)*2)++(es.drop i).flatMap cP++R2.toArray.toList.drop ((i+1)*2+((es.drop i).flatMap cP).length)).toArray) b2.drew;have M3:=k8 W2.drew w.heap.size (R2.toArray.toList.take ((i+1)*2)++(es.drop i).flatMap cP++R2.toArray.toList.drop ((i+1)*2+((es.drop i).flatMap cP).length)).toArray;obtain⟨R3,gN⟩:∃R,(R2.toArray.toList.take ((i+1)*2)++(es.drop i).flatMap cP++R2.toArray.toList.drop ((i+1)*2+((es.drop i).flatMap cP).length))=R:=⟨_,rfl⟩;have tH:R3.toArray.size=G*2:=by
  rw[←gN,List.size_toArray,List.length_append,List.length_append,List.length_take,List.length_drop,hdl,Array.length_toList,ib];omega
 have ht3:R3.take ((n+1)*2)=(es.take i++x::es.drop i).flatMap cP:=by
  rw[←gN,List.flatMap_append,List.flatMap_cons,FZ];rw[jo _ _ _ (by rw[List.length_append,List.length_append,hdl,cJ cp,List.length_take,cp];omega)];rw[List.append_assoc]
 rw[gN] at p6 b3 M3;have B3:UA w (W2.drew.setRow w.heap.size R3.toArray):=(B2.drew).trans (M3.below (fun k hk=>by omega) B2.size);generalize hW3:W2.drew.setRow w.heap.size R3.toArray=W3 at p6 b3 B3;clear hW3 M3;have hlen:(es.take i++x::es.drop i).length=n+1:=by
  rw[List.length_append,List.length_take,List.length_cons,List.length_drop];omega
 have hfin:OE W3 base (.slice (some ⟨w.heap.size,0,none⟩) (n+1) G) (es.take i++x::es.drop i):=by
  have:=OE.mk (es:=es.take i++x::es.drop i) hbase b3 (by rw[hlen];exact hG1) Tk tH (by rw[hlen];exact ht3);rw[hlen] at this;exact this
 have H:=Ux (ag hfin B3);unfold maxLen at Tk;rw[hnn] at hil hroom hn hle⊢;have q1:¬(G=i):=by omega
 have q2:¬(G=i+1):=by omega
 have q3:¬(c=i):=by omega
 clear hA hA1 mv uT hb h hold My hRs hRt b1 b2 b3 ib tH FZ ht3 dw gN hlen hfin B1 B2 B3 hdl hnn hG hi kp fj fo hsz hk;go_enter Tryz.func152,Tryz.ntmps152;go_wp2_with (first
  |(at_builtin;refine Lib.wpList_append_run _ rfl _ _ _ _ rfl _ _ rfl rfl _ _ KR ?_)
  |(refine lJ _ rfl _ _ 94 94 rfl _ _ rfl rfl uU ?_))
 have mixed:Tryz.prog.follows .mixedOrders=true:=by kernel_rfl
 have rK:IntKind.i64.wrap ((i:Int)+1)=(i:Int)+1:=by rw[IntKind.wrap_i64];omega
 have av:(0:Int)≤(i:Int)+1:=by omega
 have htn:((i:Int)+1).toNat=i+1:=by omega
 have cl:(i:Int)+1≤(n:Int)+1:=by omega
 have dM:(i:Int)≤(n:Int):=by omega
 have cK:(0:Int)≤(i:Int):=by omega
 go_region_law_o (refine nt rfl _ _ 94 94 rfl (.slice (some ⟨w.heap.size,(i+1)*2,none⟩) (n+1-(i+1)) (G-(i+1))) (.slice (some ⟨g,i*2,none⟩) (n-i) (c-i)) (by simp[Act.eval,Act.put]) (by simp[Act.eval,Act.put]) p6 ?_)
 go_wp2
 go_ret;exact⟨⟨_,_,rfl,H.o.1⟩,H.o.2⟩
end
section
open Go.RowKit
theorem ax.shape{w:World}{B:Nat}{vs:Array Value}{T:TypeId}(h:ax w B vs T):w.shape? B=some (T,vs.size):=by
 unfold ax at h;simp[World.shape?,h]
theorem yx(es:List En)(g c i base vb:Nat)(x:En)(w:World)(h:OE w base (.slice (some ⟨g,0,none⟩) es.length c) es)(hb:ax w vb #[UF x.name,UE UL x.no] 98)(hvb:vb≠g)(hn:es.length≤1000000)(hil:i<es.length)(hroom:es.length+1≤c) :
  Calls Tryz.prog 152 #[.slice (some ⟨g,0,none⟩) es.length c,UE UL i,.slice (some ⟨vb,0,none⟩) 1 1] w fun e w'=>(∃a' c',e=.returned (UG a' (es.length+1) c')∧OE w' base (UG a' (es.length+1) c') (es.take i++x::es.drop i))∧Mod (fun k=>k=g) w w':=by
 obtain⟨i0,hi,kp,fj,fo⟩:=info_parts gY;have hsz:(Tryz.prog.info? 98).map (·.size)=some 2:=by rw[hi];simp[fj]
 have hA:=h.at;obtain⟨n,hnn⟩:∃n,es.length=n:=⟨_,rfl⟩;obtain⟨cur,hbg,hg,hcs,hct,SS⟩:∃cur,base≤g∧ax w g cur 98∧cur.size=c*2∧cur.toList.take (n*2)=es.flatMap cP∧c≤maxLen:=by
  rcases h.2 with⟨h1,-⟩|⟨g',cap',cur,h1,av,hg,h2,h3,h4,h5⟩
  ·cases h1
  ·injection h1 with e1 e2 e3;injection e1 with e1;injection e1 with e1;subst e1 e3;exact⟨cur,av,hg,h4,by rw[←hnn];exact h5,h3⟩
 have hov:∀lb cb,(callFunc 185 #[.slice (some ⟨vb,0,none⟩) 1 1,.slice (some ⟨g,(i+1)*2,none⟩) lb cb]).run Tryz.prog w=.ok (.value (.bool false)) w:=fun lb cb=>by
  rw[run_callFunc_extern Tryz.func185 (by kernel_rfl) (by kernel_rfl) (by kernel_rfl) (e:=Extern.SlicesOverlaps.overlaps #[94,94] #[4]) (by kernel_rfl),
   Lib.run_overlaps_apart w 94 4 98 Tryz.underlying94 2 Tryz.sizeOf98 ⟨vb,0,none⟩ ⟨g,(i+1)*2,none⟩ 1 1 lb cb hvb 98 98 2 (c*2) hb.shape (by rw[←hcs];exact hg.shape) (by omega) (hb.frozen 0) (hb.frozen 2)]
  rfl
 have hdl:((es.drop i).flatMap cP).length=(n-i)*2:=by rw[cJ cp,List.length_drop,hnn]
 have uU:=iK w.drew 94 94 3 98 g ((i+1)*2) (n+1-(i+1)) (c-(i+1)) ⟨g,i*2,none⟩ (n+1-i) (c-i) cur 98 ((es.drop i).flatMap cP) (n-i) 2 Tryz.underlying94 hsz hg.drew (by simp only[Nat.min_def];split<;>omega) hdl
  (fun j v hj=>by
   rw[←wF,List.getElem?_drop] at hj;have:=hA.news (i*2+j) v hj;rw[mD] at this⊢;rw[show i*2+j=0+(i*2+j) by omega];exact this) (by rw[hdl,hcs];omega) (ph _)
 have b1:=k9 (vs:=(cur.toList.take ((i+1)*2)++(es.drop i).flatMap cP++cur.toList.drop ((i+1)*2+((es.drop i).flatMap cP).length)).toArray) hg.drew;have M1:=k8 w.drew g (cur.toList.take ((i+1)*2)++(es.drop i).flatMap cP++cur.toList.drop ((i+1)*2+((es.drop i).flatMap cP).length)).toArray;obtain⟨R1,ez⟩:∃R,(cur.toList.take ((i+1)*2)++(es.drop i).flatMap cP++cur.toList.drop ((i+1)*2+((es.drop i).flatMap cP).length))=R:=⟨_,rfl⟩;have ij:R1.length=c*2:=by
  rw[←ez,List.length_append,List.length_append,List.length_take,List.length_drop,hdl,Array.length_toList,hcs];omega
 have yT:R1.take (i*2)=(es.take i).flatMap cP:=by
  rw[←ez,List.append_assoc,List.take_append_of_le_length (by rw[List.length_take,Array.length_toList,hcs];omega),List.take_take,←wE,←hct,List.take_take];congr 1;omega
 have fQ:(R1.drop ((i+1)*2)).take ((n-i)*2)=(es.drop i).flatMap cP:=by
  have mT:(cur.toList.take ((i+1)*2)).length=(i+1)*2:=by rw[List.length_take,Array.length_toList,hcs];omega
  rw[←ez,List.append_assoc,List.drop_append,List.drop_eq_nil_of_le (by omega),mT,Nat.sub_self,List.drop_zero,List.nil_append];exact jo _ _ _ hdl
 rw[ez] at uU b1 M1;have M1':Mod (fun k=>k=g) w (w.drew.setRow g R1.toArray):=((Mod.refl _ w).drew).trans M1;generalize rO:w.drew.setRow g R1.toArray=W1 at uU b1 M1';clear rO M1;have uT:=hb.mod M1' (fun e=>hvb e);have p6:=iK W1 94 94 3 98 g (i*2) (n+1-i) (c-i) ⟨vb,0,none⟩ 1 1 R1.toArray 98 (cP x) 1 2 Tryz.underlying94 hsz b1 (by simp only[Nat.min_def];split<;>omega) rfl (World.news_of_block uT) (by rw[cp,List.size_toArray,ij];omega) (by intro u hu;simp[cP] at hu;rcases hu with rfl|rfl<;>rfl);have b2:=k9 (vs:=(R1.toArray.toList.take (i*2)++cP x++R1.toArray.toList.drop (i*2+(cP x).length)).toArray) b1;have M2:=k8 W1 g (R1.toArray.toList.take (i*2)++cP x++R1.toArray.toList.drop (i*2+(cP x).length)).toArray;obtain⟨R2,dw⟩:∃R,(R1.toArray.toList.take (i*2)++cP x++R1.toArray.toList.drop (i*2+(cP x).length))=R:=⟨_,rfl⟩;have ib:R2.toArray.size=c*2:=by
  rw[←dw,List.size_toArray,List.length_append,List.length_append,List.length_take,List.length_drop,cp,Array.length_toList,List.size_toArray,ij];omega
 have FZ:R2.take ((n+1)*2)=(es.take i++x::es.drop i).flatMap cP:=by
  have yU:((es.take i).flatMap cP).length=i*2:=by rw[cJ cp,List.length_take];omega
  rw[←dw,List.flatMap_append,List.flatMap_cons,show R1.toArray.toList=R1 from rfl,yT,cp,List.take_append,List.take_of_length_le (by rw[List.length_append,yU,cp];omega),
   show i*2+2=(i+1)*2 by omega,show(n+1)*2-((es.take i).flatMap cP++cP x).length=(n-i)*2 by rw[List.length_append,yU,cp];omega,fQ,List.append_assoc]
 rw[dw] at p6 b2 M2;have MF:=M1'.trans M2;generalize CZ:W1.setRow g R2.toArray=W2 at p6 b2 MF;clear CZ M2;have hlen:(es.take i++x::es.drop i).length=n+1:=by
  rw[List.length_append,List.length_take,List.length_cons,List.length_drop];omega
 have hfin:OE W2 base (.slice (some ⟨g,0,none⟩) (n+1) c) (es.take i++x::es.drop i):=by
  have:=OE.mk (es:=es.take i++x::es.drop i) hbg b2 (by rw[hlen];omega) SS ib (by rw[hlen];exact FZ);rw[hlen] at this;exact this
 have H:=Ux (ag hfin MF);unfold maxLen at SS;rw[hnn] at hil hroom hn⊢;have q3:¬(c=i):=by omega
 have q4:¬(c=i+1):=by omega
 have q5:¬(c<n+1):=by omega
 clear hA uT hb h ez ij yT fQ dw ib FZ b1 b2 hlen hfin hdl hnn hi kp fj fo hsz M1' MF hcs hct hg hbg;go_enter Tryz.func152,Tryz.ntmps152;go_wp2_with (simp only[hov]);have mixed:Tryz.prog.follows .mixedOrders=true:=by kernel_rfl
 have rK:IntKind.i64.wrap ((i:Int)+1)=(i:Int)+1:=by rw[IntKind.wrap_i64];omega
 have av:(0:Int)≤(i:Int)+1:=by omega
 have htn:((i:Int)+1).toNat=i+1:=by omega
 have cl:(i:Int)+1≤(n:Int)+1:=by omega
 have dM:(i:Int)≤(n:Int)+1:=by omega
 have cK:(0:Int)≤(i:Int):=by omega
 go_region_law_o (refine nt rfl _ _ 94 94 rfl (.slice (some ⟨g,(i+1)*2,none⟩) (n+1-(i+1)) (c-(i+1))) (.slice (some ⟨g,i*2,none⟩) (n+1-i) (c-i)) (by simp[Act.eval,Act.put]) (by simp[Act.eval,Act.put]) uU ?_)
 go_wp2_with (refine lJ _ rfl _ _ 94 94 rfl _ _ rfl rfl p6 ?_);go_ret;exact⟨⟨_,_,rfl,H.o.1⟩,H.o.2⟩
end
section
open Go.RowKit
theorem A4(es:List En)(a:Option Addr)(c i base vb:Nat)(x:En)(w:World)(h:OE w base (UG a es.length c) es)(hb:ax w vb #[UF x.name,UE UL x.no] 98)(hvb:∀g,a=some ⟨g,0,none⟩→vb≠g)(hbase:base≤w.heap.size)(hn:es.length≤1000000)(hil:i≤es.length) :
  Calls Tryz.prog 152 #[UG a es.length c,UE UL i,.slice (some ⟨vb,0,none⟩) 1 1] w fun e w'=>(∃a' c',e=.returned (UG a' (es.length+1) c')∧OE w' base (UG a' (es.length+1) c') (es.take i++x::es.drop i))∧Mod (fun k=>(Value.slice a es.length c).ownBlock=some k) w w':=by
 by_cases hi:i<es.length
 ·obtain⟨b',c',hv,-,-,hf⟩:=bQ h;injection hv with e1 e2 e3;subst e1 e3;rcases hf with⟨-,h0,-⟩|⟨g,rfl,-,-⟩
  ·omega
  ·by_cases hr:es.length+1≤c
   ·refine(yx es g c i base vb x w h hb (hvb g rfl) hn hi hr).mono ?_;rintro e w' ⟨h1,h2⟩;exact⟨h1,h2.mono (fun k hk=>by rw[hk];rfl)⟩
   ·refine(yy es g c i base vb x w h hb hbase hn hi (by omega)).mono ?_;rintro e w' ⟨h1,h2⟩;exact⟨h1,Mod.aq h2⟩
 ·obtain rfl:i=es.length:=by omega
  rw[List.take_length,List.drop_length];exact A3 es a c base vb x w h hb hbase hn
theorem LP{l:List En}(h:fL l)(s:ByteArray)(no:Int)(hno:iX l s=false):aV l s no=l.take (dG l s)++⟨s,no⟩::l.drop (dG l s):=by
 rw[Cy h,if_neg,Nat.add_zero];rintro⟨hk,he⟩;unfold iX at hno;rw[mV h,dif_pos hk,if_pos he] at hno
 cases hno
theorem tZ(es:List En)(a:Option Addr)(n c:Nat)(s:ByteArray)(no:Int)(w:World)(he:aA w a n c es)(hr:fL es)(hn:n≤1000000)(hno:iX es s=false) :
  Calls Tryz.prog 110 #[UG a n c,UF s,UE UL no] w fun e w'=>(∃a' n' c',e=.returned (UG a' n' c')∧aA w' a' n' c' (aV es s no))∧UA w w':=by
 have hl:=he.len;have HS:=Ux (lf es a n c s w he hr hn);rw[hno] at HS;have HP:=Ux (LP hr s no hno);have hat:=ua es s;generalize dG es s=A at HS HP hat;have HE:=Ux he;clear he hno;go_enter Tryz.func110,Tryz.ntmps110;go_wp2_with fail;refine HS.o.mono ?_;rintro e w1 ⟨rfl,av⟩;have eA:=Ux (HE.o.an av);go_wp2_with fail;refine(Di es a n c w1 eA.o hn).mono ?_;rintro e w2 ⟨⟨a2,c2,rfl,hO⟩,aY⟩;have HO:=Ux hO;have ei:=Ux (ar av aY);clear hO;go_wp2_with fail;have lV:=HO.o.an ((Below.refl _ w2).alloc (aa _) (.cells #[UF s,UE UL no] 98));subst hl;have hblk:=ax.new w2 #[UF s,UE UL no] 98;refine(A4 es a2 c2 A w1.heap.size w2.heap.size ⟨s,no⟩ _ lV hblk (fun g hg=>?_) (by have:=aY.size;simp;omega) hn hat).mono ?_
 ·subst hg;rcases HO.o.2 with⟨h1,-⟩|⟨g',cap',cur,h1,av,hg,-⟩
  ·cases h1
  ·injection h1 with e1;injection e1 with e1;injection e1 with e1;subst e1;have:=ax.lt (show ax w2 g cur 98 from hg);omega
 ·rintro e w3 ⟨⟨a3,c3,rfl,KZ⟩,BN⟩;have HR:=Ux (show aA w3 a3 (es.length+1) c3 (aV es s no) by
   have hlen:(es.take A++({name:=s,no:=no}:En)::es.drop A).length=es.length+1:=by
    rw[List.length_append,List.length_take,List.length_cons,List.length_drop];omega
   rw[HP.o];have h3:=KZ;rw[←hlen] at h3⊢;exact h3.at)
  have gn:=Ux (show UA w w3 from(ao ei.o _).trans (BN.below (fun k hk=>by
   rcases HO.o.2 with⟨h1,-⟩|⟨g',cap',cur,h1,cl,hg,-⟩
   ·injection h1 with e1;rw[e1] at hk;cases hk
   ·injection h1 with e1;rw[e1] at hk;simp only[Value.ownBlock,Option.some.injEq] at hk;have:=av.size;omega) (by have:=ei.o.size;simp;omega)))
  clear KZ BN;go_wp2_with fail;go_ret;exact⟨⟨_,_,_,rfl,HR.o⟩,gn.o⟩
end
section
open Go.RowKit
section
variable{w w':World}{pw:Nat}{R:Rp}{S:Fs}
theorem mO(h:bB w pw R S){N:Nat}(hk:ay S N)(c:Cr)(dir:Int)(s:ByteArray)(hs:s.size≤9223372036854775807) :
  Calls Tryz.prog 107 #[UH (some ⟨pw,0,none⟩),UJ #[UE UL c.u,UE UL c.g],UE UL dir,UF s] w fun e w'=>((S.aX c dir s≠0∧e=.returned (UK #[dD.v none 0 0,UE UL (S.aX c dir s)]))∨(S.aX c dir s=0∧∃d ea el ec,S.get dir=some d∧e=.returned (UK #[d.v ea el ec,UE UL 0])∧aA w ea el ec d.au))∧UA w w':=by
 cases hg:S.get dir with
 |none=>
  refine(CC h hk c dir s hs hg).mono ?_;rintro e w1 ⟨rfl,hb⟩;have:S.aX c dir s=5:=by unfold Fs.aX;rw[hg]
  rw[this];exact⟨.inl ⟨by decide,rfl⟩,hb⟩
 |some d=>
  refine(CB h hk c dir s hs d hg).mono ?_;rintro e w1 ⟨h1|⟨h1,ea,el,ec,h2,h3⟩,hb⟩
  ·exact⟨.inl h1,hb⟩
  ·exact⟨.inr ⟨h1,d,ea,el,ec,rfl,h2,h3⟩,hb⟩
theorem EC(h:bB w pw R S){N:Nat}(hk:ay S N)(hN:N≤1000000)(a:An)(ea:Option Addr)(el ec:Nat)(he:aA w ea el ec a.au)(hs:a.data.size≤9223372036854775807) :
  Calls Tryz.prog 108 #[UH (some ⟨pw,0,none⟩),a.v ea el ec] w fun e w'=>e=.returned (UK #[UE UL (S.make a).2.1,UE UL (S.make a).2.2])∧∃R',bB w' pw R' (S.make a).1∧aS (R.F pw) (R'.F pw) w w':=by
 by_cases hr:S.root a.dev=0
 ·refine(BV h hk.d1 a ea el ec hr).mono ?_;rintro e w1 ⟨rfl,hb⟩;rw[wh hr];exact⟨rfl,R,h.an hb,aS.aq hb⟩
 ·have hd:1≤a.dev∧a.dev≤S.ds.length:=by
   by_cases hd:1≤a.dev∧a.dev≤S.ds.length
   ·exact hd
   ·exact absurd (mL hd) hr
  exact EB h (k:=(a.dev-1).toNat) (by omega) a ea el ec he (by omega) hr hs hk.l0 (Int.le_trans hk.lN (by omega))
end
end
section
open Go.RowKit
section
variable{w w':World}{pw:Nat}{R:Rp}{S:Fs}
theorem aA.lO{a:Option Addr}{n c:Nat}{es:List En}(h:aA w a n c es){B:Nat}{vs:Array Value}{T:TypeId}(hb:ax w B vs T)(hT:T≠98)(i:Nat)(v:Value):aA (w.setCell ⟨B,i,none⟩ v) a n c es:=
 h.gw (fun b cur hc=>by
  have hne:b≠B:=by
   intro e;subst e;unfold ax at hb;rw[hb] at hc;injection hc with hc;injection hc with _ hc _;exact hT hc
  exact((Mod.refl (fun k=>k=B) w).setCell (a:=⟨B,i,none⟩) (.inl rfl) v).block b (Array.getElem?_eq_some_iff.1 hc).1 hne) (by simp)
theorem AW{es:List En}{s:ByteArray}(hz:∀x∈es,1≤x.no)(h:aw es s=0):iX es s=false:=by
 unfold aw at h;unfold iX
 split at h
 ·rename_i x hx;have:=hz x (List.mem_of_find?_eq_some hx);omega
 ·rename_i hx;rw[hx];rfl
theorem FR{S:Fs}{a:An}(h:(S.make a).2.2≠0):(S.make a).1=S∧(S.make a).2.1=0:=by
 revert h;unfold Fs.make
 split
 ·intro _;exact⟨rfl,rfl⟩
 ·split
  ·intro _;exact⟨rfl,rfl⟩
  ·simp only
   split
   ·intro h;exact absurd rfl h
   ·intro _;exact⟨rfl,rfl⟩
theorem oR{S:Fs}(hn:eU S)(a:An){k:Int}{d:An}(hg:S.get k=some d):(S.make a).1.get k=some d:=by
 have hk:k≤S.last:=by
  have:=hn.low d (aO hg);rw[bV hg] at this;exact this.2
 unfold Fs.make
 split
 ·exact hg
 ·split
  ·exact hg
  ·rename_i v hv;simp only
   split
   ·rw[gZ (S:=S.aP a.dev {v with b:=v.b+cF a.kind a.data.size,n:=v.n+1}) ⟨hn.dB,hn.low⟩,if_neg (by show¬k=S.last+1;omega)];exact hg
   ·exact hg
theorem M6{S:Fs}{c:Cr}{now dir:Int}{s:ByteArray}{a:An}(h:S.aX c dir s≠0):S.bT c now dir s a=(S,0,S.aX c dir s):=by unfold Fs.bT;rw[if_pos h]
theorem Kb{S:Fs}{c:Cr}{now dir:Int}{s:ByteArray}{a d:An}(h:S.aX c dir s=0)(hg:S.get dir=some d)(hf:aw d.au s≠0):S.bT c now dir s a=(S,0,7):=by
 unfold Fs.bT;rw[if_neg (by simp[h]),hg];simp only;rw[if_pos hf]
theorem Gz{S:Fs}{c:Cr}{now dir:Int}{s:ByteArray}{a d:An}(h:S.aX c dir s=0)(hg:S.get dir=some d)(hf:aw d.au s=0)(hm:(S.make {a with dev:=d.dev,uid:=c.u,gid:=c.g,mtime:=now,ctime:=now,ak:=1}).2.2≠0) :
  S.bT c now dir s a=(S,0,(S.make {a with dev:=d.dev,uid:=c.u,gid:=c.g,mtime:=now,ctime:=now,ak:=1}).2.2):=by
 unfold Fs.bT;rw[if_neg (by simp[h]),hg];simp only;rw[if_neg (by simp[hf]),if_pos hm]
theorem Ka{S:Fs}{c:Cr}{now dir:Int}{s:ByteArray}{a d:An}(h:S.aX c dir s=0)(hg:S.get dir=some d)(hf:aw d.au s=0)(hm:(S.make {a with dev:=d.dev,uid:=c.u,gid:=c.g,mtime:=now,ctime:=now,ak:=1}).2.2=0) :
  S.bT c now dir s a=((S.make {a with dev:=d.dev,uid:=c.u,gid:=c.g,mtime:=now,ctime:=now,ak:=1}).1.aE now dir (aV d.au s (S.make {a with dev:=d.dev,uid:=c.u,gid:=c.g,mtime:=now,ctime:=now,ak:=1}).2.1),(S.make {a with dev:=d.dev,uid:=c.u,gid:=c.g,mtime:=now,ctime:=now,ak:=1}).2.1,0):=by
 unfold Fs.bT;rw[if_neg (by simp[h]),hg];simp only;rw[if_neg (by simp[hf]),if_neg (by simp[hm])]
theorem ax.OR{w:World}{B:Nat}{x0 x1 x2 x3 x4 x5 x6 x7 x8 x9 x10 x11 v1 v4 v5 v6 v7 v8:Value}{T:TypeId}(h:ax w B #[x0,x1,x2,x3,x4,x5,x6,x7,x8,x9,x10,x11] T) :
  ax ((((((w.setCell ⟨B,1,none⟩ v1).setCell ⟨B,4,none⟩ v4).setCell ⟨B,5,none⟩ v5).setCell ⟨B,6,none⟩ v6).setCell ⟨B,7,none⟩ v7).setCell ⟨B,8,none⟩ v8) B #[x0,v1,x2,x3,v4,v5,v6,v7,v8,x9,x10,x11] T:=
 (((((h.set 1 v1).set 4 v4).set 5 v5).set 6 v6).set 7 v7).set 8 v8
theorem xE(h:bB w pw R S){N:Nat}(hk:ay S N)(hN:N≤999999)(c:Cr)(now dir:Int)(s:ByteArray)(hs:s.size≤9223372036854775807)(a:An)(ha:a.au=[])(had:a.data.size≤9223372036854775807) :
  Calls Tryz.prog 73 #[UH (some ⟨pw,0,none⟩),UJ #[UE UL c.u,UE UL c.g],UE UL now,UE UL dir,UF s,a.v none 0 0] w fun e w'=>
   e=.returned (UK #[UE UL (S.bT c now dir s a).2.1,UE UL (S.bT c now dir s a).2.2])∧∃R',bB w' pw R' (S.bT c now dir s a).1∧aS (R.F pw) (R'.F pw) w w':=by
 have HP:=Ux (fun w1 (av:UA w w1)=>mO (h.an av) hk c dir s hs);unfold An.v;have HW:=Ux h;clear h;go_enter Tryz.func73,Tryz.ntmps73;go_wp2_with fail;refine(HP.o _ (ao (ao (Below.refl _ _) _) _)).mono ?_;rintro e w1 ⟨⟨h0,rfl⟩|⟨h0,d,ea,el,ec,hg,rfl,he⟩,av⟩
 ·have aJ:=ar (ao (ao (UB w) _) _) av;have HB:=Ux aJ;have HC:=Ux (M6 (now:=now) (a:=a) h0);have hz:(S.aX c dir s==0)=false:=by simpa using h0
  generalize S.aX c dir s=pe at HC hz⊢;unfold An.v dD;clear h0 av aJ;go_wp2_with fail;go_ret2;rw[HC.o];exact⟨rfl,R,HW.o.an (ao HB.o _),aS.aq (ao HB.o _)⟩
 ·have aJ:=ar (ao (ao (UB w) _) _) av;have yZ:ax w1 w.heap.size #[UE UL c.u,UE UL c.g] 64:=((ax.new w #[UE UL c.u,UE UL c.g] 64).bI (.cells #[UE UL a.no,UE UL a.dev,UE UL a.kind,UE UL a.mode,UE UL a.uid,UE UL a.gid,UE UL a.mtime,UE UL a.ctime,UE UL a.ak,UE UL a.up,UF a.data,UG none 0 0] 149)).an av;have hAr:ax w1 (w.heap.size+1) #[UE UL a.no,UE UL a.dev,UE UL a.kind,UE UL a.mode,UE UL a.uid,UE UL a.gid,UE UL a.mtime,UE UL a.ctime,UE UL a.ak,UE UL a.up,UF a.data,UG none 0 0] 149:=by
   have:=((ax.new (w.alloc (.cells #[UE UL c.u,UE UL c.g] 64)) #[UE UL a.no,UE UL a.dev,UE UL a.kind,UE UL a.mode,UE UL a.uid,UE UL a.gid,UE UL a.mtime,UE UL a.ctime,UE UL a.ak,UE UL a.up,UF a.data,UG none 0 0] 149).an av)
   rwa [World.size_alloc] at this
  have ir:=yZ.bI (.cells #[UE UL d.no,UE UL d.dev,UE UL d.kind,UE UL d.mode,UE UL d.uid,UE UL d.gid,UE UL d.mtime,UE UL d.ctime,UE UL d.ak,UE UL d.up,UF d.data,UG ea el ec] 149);have PU:=hAr.bI (.cells #[UE UL d.no,UE UL d.dev,UE UL d.kind,UE UL d.mode,UE UL d.uid,UE UL d.gid,UE UL d.mtime,UE UL d.ctime,UE UL d.ak,UE UL d.up,UF d.data,UG ea el ec] 149);have jg:=ax.new w1 #[UE UL d.no,UE UL d.dev,UE UL d.kind,UE UL d.mode,UE UL d.uid,UE UL d.gid,UE UL d.mtime,UE UL d.ctime,UE UL d.ak,UE UL d.up,UF d.data,UG ea el ec] 149;have eT:=ao aJ (.cells #[UE UL d.no,UE UL d.dev,UE UL d.kind,UE UL d.mode,UE UL d.uid,UE UL d.gid,UE UL d.mtime,UE UL d.ctime,UE UL d.ak,UE UL d.up,UF d.data,UG ea el ec] 149);have hsz:w.heap.size+2≤w1.heap.size:=by have:=av.size;simp at this;omega
  have heX:=(he.an av).an ((Below.refl _ w1).alloc (aa _) (.cells #[UE UL d.no,UE UL d.dev,UE UL d.kind,UE UL d.mode,UE UL d.uid,UE UL d.gid,UE UL d.mtime,UE UL d.ctime,UE UL d.ak,UE UL d.up,UF d.data,UG ea el ec] 149));obtain⟨hdo,-,-,-⟩:=hk.get hg;have hel:=he.len;unfold An.v;clear yZ he hAr av aJ;go_wp2_with fail;generalize w1.alloc _=X at ir PU jg eT heX⊢;have HX:=Ux eT;have HC:=Ux ir;have HA:=Ux PU;have HD:=Ux jg;have HE:=Ux heX;have hfew:el≤1000000:=by rw[←hel];exact ae hdo.lR (by omega)
  have HF:=Ux (gO d.au ea el ec s X heX hdo.dB hfew);clear eT ir PU jg heX hel;refine HF.o.mono ?_;rintro e w2 ⟨rfl,aY⟩;have mU:=ar HX.o aY;have u4:=HC.o.an aY;have mv:=HA.o.an aY;have MO:=HD.o.an aY;clear HX HC HA HD HF;by_cases hf:aw d.au s=0
  ·have hfz:(aw d.au s==0)=true:=by simpa using hf
   have mixed:Tryz.prog.follows .mixedOrders=true:=by kernel_rfl
   have TP:=Ux (Gz (a:=a) (now:=now) h0 hg hf);have Np:=Ux (Ka (a:=a) (now:=now) h0 hg hf);generalize aw d.au s=f at hfz;go_wp2_with fail;obtain⟨cc,cf,cz⟩:=u4.facts;obtain⟨dc,df,dz⟩:=MO.facts;have hA3:=(mv.OR (v1:=UE UL d.dev) (v4:=UE UL c.u) (v5:=UE UL c.g) (v6:=UE UL now) (v7:=UE UL now) (v8:=UE UL 1)).drew;have wD:UA w ((((((w2.setCell ⟨w.heap.size+1,1,none⟩ (UE UL d.dev)).setCell ⟨w.heap.size+1,4,none⟩ (UE UL c.u)).setCell ⟨w.heap.size+1,5,none⟩ (UE UL c.g)).setCell ⟨w.heap.size+1,6,none⟩ (UE UL now)).setCell ⟨w.heap.size+1,7,none⟩ (UE UL now)).setCell ⟨w.heap.size+1,8,none⟩ (UE UL 1)).drew:=
    ((((((mU.setCell (Nat.le_succ _) _).setCell (Nat.le_succ _) _).setCell (Nat.le_succ _) _).setCell (Nat.le_succ _) _).setCell (Nat.le_succ _) _).setCell (Nat.le_succ _) _).drew
   have hne:w.heap.size+1≠w1.heap.size:=by omega
   have QW:ax ((((((w2.setCell ⟨w.heap.size+1,1,none⟩ (UE UL d.dev)).setCell ⟨w.heap.size+1,4,none⟩ (UE UL c.u)).setCell ⟨w.heap.size+1,5,none⟩ (UE UL c.g)).setCell ⟨w.heap.size+1,6,none⟩ (UE UL now)).setCell ⟨w.heap.size+1,7,none⟩ (UE UL now)).setCell ⟨w.heap.size+1,8,none⟩ (UE UL 1)).drew w1.heap.size _ _:=
    ((((((MO.setOther ⟨w.heap.size+1,1,none⟩ (UE UL d.dev) hne).setOther ⟨w.heap.size+1,4,none⟩ (UE UL c.u) hne).setOther ⟨w.heap.size+1,5,none⟩ (UE UL c.g) hne).setOther ⟨w.heap.size+1,6,none⟩ (UE UL now) hne).setOther ⟨w.heap.size+1,7,none⟩ (UE UL now) hne).setOther ⟨w.heap.size+1,8,none⟩ (UE UL 1) hne).drew
   have hT:149≠98:=by decide
   have hE3:aA ((((((w2.setCell ⟨w.heap.size+1,1,none⟩ (UE UL d.dev)).setCell ⟨w.heap.size+1,4,none⟩ (UE UL c.u)).setCell ⟨w.heap.size+1,5,none⟩ (UE UL c.g)).setCell ⟨w.heap.size+1,6,none⟩ (UE UL now)).setCell ⟨w.heap.size+1,7,none⟩ (UE UL now)).setCell ⟨w.heap.size+1,8,none⟩ (UE UL 1)).drew ea el ec d.au:=
    (((((((HE.o.an aY).lO mv hT 1 (UE UL d.dev)).lO (mv.set 1 _) hT 4 (UE UL c.u)).lO ((mv.set 1 _).set 4 _) hT 5 (UE UL c.g)).lO (((mv.set 1 _).set 4 _).set 5 _) hT 6 (UE UL now)).lO ((((mv.set 1 _).set 4 _).set 5 _).set 6 _) hT 7 (UE UL now)).lO (((((mv.set 1 _).set 4 _).set 5 _).set 6 _).set 7 _) hT 8 (UE UL 1)).an (Below.refl _ _).drew
   have kP:=Ux hE3;have Rz:=Ux hA3;have gn:=Ux wD;have OH:=Ux QW;obtain⟨ac,af,az⟩:=mv.facts;clear hA3 wD QW hE3 hT
   go_region
   have PV:=Rz.o;have QY:=gn.o;have hD4:=OH.o;have C':=kP.o;clear kP Rz gn OH mU mv u4 MO ac af az cc cf cz dc df dz;generalize ((((((w2.setCell ⟨w.heap.size+1,1,none⟩ (UE UL d.dev)).setCell ⟨w.heap.size+1,4,none⟩ (UE UL c.u)).setCell ⟨w.heap.size+1,5,none⟩ (UE UL c.g)).setCell ⟨w.heap.size+1,6,none⟩ (UE UL now)).setCell ⟨w.heap.size+1,7,none⟩ (UE UL now)).setCell ⟨w.heap.size+1,8,none⟩ (UE UL 1)).drew=Y at PV QY hD4 C'⊢;have HA:=Ux PV;have HB:=Ux QY;have HD:=Ux hD4;have DI:=Ux C';obtain⟨q0,q1,q2,q3,q4,q5,q6,q7,q8,q9,q10,q11⟩:=PV.fO;clear PV QY hD4 C';go_wp2_with fail;have kS:=EC (HW.o.an HB.o) hk (by omega) {a with dev:=d.dev,uid:=c.u,gid:=c.g,mtime:=now,ctime:=now,ak:=1} none 0 0 (by rw[show({a with dev:=d.dev,uid:=c.u,gid:=c.g,mtime:=now,ctime:=now,ak:=1}:An).au=a.au from rfl,ha];exact aA.nil _) had;unfold An.v at kS;refine kS.mono ?_;clear kS;rintro e w4 ⟨rfl,R4,rp,oY⟩;have hst:aS (R.F pw) (R4.F pw) w w4:=(aS.aq HB.o).trans oY;by_cases hm:(S.make {a with dev:=d.dev,uid:=c.u,gid:=c.g,mtime:=now,ctime:=now,ak:=1}).2.2=0
   ·have hmz:((S.make {a with dev:=d.dev,uid:=c.u,gid:=c.g,mtime:=now,ctime:=now,ak:=1}).2.2==0)=true:=by simpa using hm
    have HZ:=Ux (Np.o hm);have qR:=HD.o.wd (HW.o.an HB.o) oY rfl;have he4:=DI.o.wd (HW.o.an HB.o) oY;have hg4:=oR hk.nums ({a with dev:=d.dev,uid:=c.u,gid:=c.g,mtime:=now,ctime:=now,ak:=1}) hg;have GY:=Ux (tZ d.au ea el ec s (S.make {a with dev:=d.dev,uid:=c.u,gid:=c.g,mtime:=now,ctime:=now,ak:=1}).2.1 w4 he4 hdo.dB hfew (AW hdo.nz hf));have He:=Ux (fun l a n c w5 (cK:UA w4 w5) (hl:aA w5 a n c l)=>ku (rp.an cK) dir now d hg4 l a n c hl);have K5:=Ux hst;obtain⟨dc4,df4,dz4⟩:=qR.facts;generalize S.make {a with dev:=d.dev,uid:=c.u,gid:=c.g,mtime:=now,ctime:=now,ak:=1}=Mk at HZ hmz GY He K5⊢;clear hm qR he4 hg4 rp hst oY TP Np q0 q1 q2 q3 q4 q5 q6 q7 q8 q9 q10 q11;go_wp2_with fail;refine GY.o.mono ?_;rintro e w5 ⟨⟨a',n',c',rfl,SM⟩,cK⟩;have HT:=Ux (He.o _ _ _ _ w5 cK SM);have oC:=Ux cK;clear SM cK He GY;go_wp2_with fail;refine HT.o.mono ?_;rintro e w6 ⟨rfl,R6,N4,xZ⟩;have Ny:=Ux (ag N4 xZ);clear N4 xZ HT;go_wp2_with fail;go_ret2;rw[HZ.o];exact⟨rfl,R6,Ny.o.1,(K5.o.trans (aS.aq oC.o)).trans Ny.o.2⟩
   ·have HZ:=Ux (TP.o hm);have GW:=Ux rp;have K5:=Ux hst;have hmz:((S.make {a with dev:=d.dev,uid:=c.u,gid:=c.g,mtime:=now,ctime:=now,ak:=1}).2.2==0)=false:=by simpa using hm
    obtain⟨hsm,uH⟩:=FR hm;rw[hsm] at GW;rw[uH];generalize (S.make {a with dev:=d.dev,uid:=c.u,gid:=c.g,mtime:=now,ctime:=now,ak:=1}).2.2=me at HZ hmz⊢;clear hm hsm uH rp hst oY;go_wp2_with fail;go_ret2;rw[HZ.o];exact⟨rfl,R4,GW.o,K5.o⟩
  ·have hfz:(aw d.au s==0)=false:=by simpa using hf
   have HZ:=Ux (Kb (a:=a) (now:=now) h0 hg hf);generalize aw d.au s=f at hfz;have HB:=Ux mU;clear mU u4 mv MO;go_wp2_with fail;go_ret2;rw[HZ.o];exact⟨rfl,R,HW.o.an HB.o,aS.aq HB.o⟩
end
end
section
open Go.RowKit
theorem vD(s:ByteArray)(w:World)(hs:s.size≤100000) :
  Calls Tryz.prog 162 #[UF s] w fun e w'=>e=.returned (.bool (fx s.data.toList))∧w=w':=by
 have HT:=Ux (Iu s w (by omega));have HS:=Ux (show fx s.data.toList=(iS s.data.toList==[]||iS s.data.toList==[46]||iS s.data.toList==[46,46]) from rfl);generalize iS s.data.toList=t at HT HS;generalize fx s.data.toList=b at HS;have htl:(str t).toList=t:=by rw[cd,eO]
 by_cases h1:t=[]
 ·subst h1;have hb:b=true:=by rw[HS.o];rfl
  subst hb;go_enter Tryz.func162,Tryz.ntmps162;go_wp2_with (refine HT.o.mono ?_;rintro e w1 ⟨rfl,rfl⟩);go_ret;exact⟨rfl,rfl⟩
 ·have n1:t.isEmpty=false:=by simpa using h1
  by_cases h2:t=[46]
  ·subst h2;have hb:b=true:=by rw[HS.o];rfl
   subst hb;go_enter Tryz.func162,Tryz.ntmps162;go_wp2_with (refine HT.o.mono ?_;rintro e w1 ⟨rfl,rfl⟩);go_ret;exact⟨rfl,rfl⟩
  ·have n2:(t==[46])=false:=by simpa using h2
   by_cases h3:t=[46,46]
   ·subst h3;have hb:b=true:=by rw[HS.o];rfl
    subst hb;go_enter Tryz.func162,Tryz.ntmps162;go_wp2_with (refine HT.o.mono ?_;rintro e w1 ⟨rfl,rfl⟩);go_ret;exact⟨rfl,rfl⟩
   ·have n3:(t==[46,46])=false:=by simpa using h3
    have hb:b=false:=by rw[HS.o,n2,n3];simpa using h1
    subst hb;clear h1 h2 h3;go_enter Tryz.func162,Tryz.ntmps162;go_wp2_with (refine HT.o.mono ?_;rintro e w1 ⟨rfl,rfl⟩);go_ret;exact⟨rfl,rfl⟩
def cn(Q:Exit→Act→World→Prop):Prop:=∀c d v a w,Q (.panic c) (Act.put a d v) w→Q (.panic c) a w
theorem cS{P:Program}{fn:Func}{R:Ending→World→Prop}:cn (bodyPost P fn R):=uu
theorem cR{K:Act→World→Prop}{Q:Exit→Act→World→Prop}(h:cn Q):cn (Exit.then K Q):=fun c d v a w hq=>h c d v a w hq
theorem cx{i:Nat}{Q:Exit→Act→World→Prop}(h:cn Q):cn (Exit.inBlock i Q):=fun c d v a w hq=>h c d v a w hq
theorem cG{Q:Exit→Act→World→Prop}(h:cn Q):cn (Exit.noGoto Q):=fun c d v a w hq=>h c d v a w hq
theorem qP{W w:World}{B:Nat}{v0 v1 v2 v3 v4 v5 v6 v7 v8 v9 v10 v11:Value}(h:(∀b o,b<W.heap.size→w.cell? ⟨b,o,none⟩=W.cell? ⟨b,o,none⟩)∧UA W w)(hB:W.heap.size≤B) :
  (∀b o,b<W.heap.size→((((((((((((w.setCell ⟨B,0,none⟩ v0).setCell ⟨B,1,none⟩ v1).setCell ⟨B,2,none⟩ v2).setCell ⟨B,3,none⟩ v3).setCell ⟨B,4,none⟩ v4).setCell ⟨B,5,none⟩ v5).setCell ⟨B,6,none⟩ v6).setCell ⟨B,7,none⟩ v7).setCell ⟨B,8,none⟩ v8).setCell ⟨B,9,none⟩ v9).setCell ⟨B,10,none⟩ v10).setCell ⟨B,11,none⟩ v11).cell? ⟨b,o,none⟩=W.cell? ⟨b,o,none⟩)∧
   UA W ((((((((((((w.setCell ⟨B,0,none⟩ v0).setCell ⟨B,1,none⟩ v1).setCell ⟨B,2,none⟩ v2).setCell ⟨B,3,none⟩ v3).setCell ⟨B,4,none⟩ v4).setCell ⟨B,5,none⟩ v5).setCell ⟨B,6,none⟩ v6).setCell ⟨B,7,none⟩ v7).setCell ⟨B,8,none⟩ v8).setCell ⟨B,9,none⟩ v9).setCell ⟨B,10,none⟩ v10).setCell ⟨B,11,none⟩ v11):=
 mi (bg h.2 hB)
section
variable{w w':World}{pw:Nat}{R:Rp}{S:Fs}
theorem EZ{S:Fs}{c:Cr}{k:Int}{p:List UInt8}(h:S.get k=none):S.step c k p=(0,9):=by unfold Fs.step;rw[h]
theorem step_eq{S:Fs}{c:Cr}{k:Int}{p:List UInt8}{d:An}(h:S.get k=some d):S.step c k p=if d.kind≠1 then(0,9) else if d.may c 1=false then(0,6) else if p=[46,46] then(S.bl k,0) else if 255<p.length then(0,13) else(S.aB (aw d.au (str p)),0):=by
 unfold Fs.step;rw[h]
theorem IA(h:bB w pw R S){N:Nat}(hk:ay S N)(hN:N≤999999){Bt:Nat}(c:Cr)(k:Int){ta:Option Addr}{tl tc:Nat}{hops:Int}{must:Bool}
  (hb:ax w Bt #[UH (some ⟨pw,0,none⟩),UE UL c.u,UE UL c.g,UE UL k,UG ta tl tc,UE UL hops,.bool must] 262) (p:ByteArray) :
  Calls Tryz.prog 163 #[UH (some ⟨Bt,0,none⟩),UF p] w fun e w'=>e=.returned (UK #[UE UL (S.step c k p.data.toList).1,UE UL (S.step c k p.data.toList).2])∧UA w w':=by
 have HW:=Ux h;have HK:=Ux hk;have HBT:=Ux hb;have mixed:Tryz.prog.follows .mixedOrders=true:=by kernel_rfl
 obtain⟨bc,bf,bz⟩:=hb.facts;obtain⟨pc,-,pz⟩:=h.bD.facts;have HBC:=Ux bc;have ni:=Ux pc;clear h hk hb
 cases hg:S.get k with
 |none=>
  have HG:=Ux (fun w1 (av:UA w w1)=>gD (HW.o.an av) hg);have HE:=Ux (EZ (c:=c) (p:=p.data.toList) hg);unfold An.v dD at HG;clear hg;go_enter Tryz.func163,Tryz.ntmps163;go_upto_region 1 with fail
  go_cut [6,7] (fun t6 t7 wx=>∃Bd:Nat,t6=UH (some ⟨Bd,0,none⟩)∧t7=.bool false∧UA w wx)
  case first=>
   go_wp2_with fail;have hzz:w.heap.size≤w.heap.size:=aa _
   go_region_held3 (fun w'=>(∀b o,b<w.heap.size→w'.cell? ⟨b,o,none⟩=w.cell? ⟨b,o,none⟩)∧UA w w') (first|with_reducible exact qP (by assumption) (by assumption)|(first|with_reducible assumption|with_reducible exact eH _|with_reducible exact dU _|with_reducible exact eb (by assumption) (by assumption)|with_reducible exact dF (by assumption) _|with_reducible exact du (by assumption) _|with_reducible exact cX (by assumption) (by assumption)|with_reducible exact eG (by assumption) (by assumption)))
    ((go_at_call 69;((with_reducible refine(HG.o _ (And.right ‹(∀b o,b<w.heap.size→_)∧UA w _›)).mono ?_);rintro e w4 ⟨rfl,cK⟩;have hz5:=ae (And.right ‹(∀b o,b<w.heap.size→_)∧UA w _›).size cK.size;try (have hbq:=kD cK;obtain⟨bqc,bqf,bqz⟩:=hbq.facts))))
   all_goals
    obtain⟨-,oY⟩:=‹_∧UA w _›;have re:=Ux oY;clear oY;go_wp2_with fail;go_meet;exact⟨_,rfl,rfl,re.o⟩
  case rest=>
   obtain⟨Bd,rfl,rfl,hS⟩:=hcut;have HB:=Ux hS;clear hS bc bf bz pc pz;go_wp2_with fail;go_ret2;rw[HE.o];exact⟨rfl,HB.o⟩
 |some d=>
  obtain⟨ea,el,ec,he,hG⟩:=fF HW.o hg;have nj:=Ux he;have HG:=Ux hG;have HQ:=Ux (step_eq (c:=c) (p:=p.data.toList) hg);have HHG:=Ux hg;have hfew:el≤1000000:=by rw[←he.len];exact ae (HK.o.get hg).1.lR (by omega)
  have Qs:=Ux hfew;unfold An.v at HG;clear hg he hG hfew;go_enter Tryz.func163,Tryz.ntmps163;go_upto_region 1 with fail
  go_cut [6,7] (fun t6 t7 wx=>∃Bd:Nat,t6=UH (some ⟨Bd,0,none⟩)∧t7=.bool true∧ax wx Bd #[UE UL d.no,UE UL d.dev,UE UL d.kind,UE UL d.mode,UE UL d.uid,UE UL d.gid,UE UL d.mtime,UE UL d.ctime,UE UL d.ak,UE UL d.up,UF d.data,UG ea el ec] 149∧UA w wx)
  case first=>
   go_wp2_with fail;have hzz:w.heap.size≤w.heap.size:=aa _
   go_region_held3 (fun w'=>(∀b o,b<w.heap.size→w'.cell? ⟨b,o,none⟩=w.cell? ⟨b,o,none⟩)∧UA w w') (first|with_reducible exact qP (by assumption) (by assumption)|(first|with_reducible assumption|with_reducible exact eH _|with_reducible exact dU _|with_reducible exact eb (by assumption) (by assumption)|with_reducible exact dF (by assumption) _|with_reducible exact du (by assumption) _|with_reducible exact cX (by assumption) (by assumption)|with_reducible exact eG (by assumption) (by assumption)))
    ((go_at_call 69;((with_reducible refine(HG.o _ (And.right ‹(∀b o,b<w.heap.size→_)∧UA w _›)).mono ?_);rintro e w4 ⟨rfl,cK⟩;have hz5:=ae (And.right ‹(∀b o,b<w.heap.size→_)∧UA w _›).size cK.size;try (have hbq:=kD cK;obtain⟨bqc,bqf,bqz⟩:=hbq.facts))))
   all_goals
    obtain⟨-,oY⟩:=‹_∧UA w _›;have re:=Ux oY
    try (have Hj:=Ux hbq)
    clear oY;go_wp2_with fail;go_meet;exact⟨_,rfl,rfl,by first|exact Hj.o.dY|exact ax.new _ _ _,re.o⟩
  case rest=>
   obtain⟨Bd,rfl,rfl,jg,aJ⟩:=hcut;generalize wc=X at jg aJ⊢;have bC:=Ux aJ;have BJ:=Ux jg;have D8:=HBT.o.an aJ;clear bc bf bz;obtain⟨bc,bf,bz⟩:=D8.facts;obtain⟨dc,df,dz⟩:=jg.facts;clear aJ jg D8 pc;by_cases h1:d.kind=1
   ·have o8:(d.kind != 1)=false:=by simpa using h1
    have rE:=Ux (HQ.o.trans (if_neg (by simp[h1])));have lX:=Ux (fun w=>kB c d ea el ec 1 w);unfold Cr.v An.v at lX;clear h1 HQ;go_wp2_with fail;refine aG 5 mixed (by kernel_rfl) (show cn _ from by repeat (first|exact cS|refine cR ?_|refine cx ?_)) ?_;simp only[List.take_succ_cons,List.take_zero,List.drop_succ_cons,List.drop_zero]
    repeat still_step
    refine wpStill_nil ?_;go_wp2_with fail;refine(lX.o _).mono ?_;rintro e w2 ⟨rfl,aY⟩;have cl:=bC.o.drew.trans (aY.mono bC.o.size);have ei:=Ux cl;have C0:=HBT.o.an cl;have MO:=BJ.o.drew.an aY;have OJ:=Ux MO;have pc2:w2.cell? ⟨pw,0,none⟩=some (UH (some ⟨R.pt,0,none⟩)):=(cl.cell (p:=⟨pw,0,none⟩) pz).trans (ni.o 0);clear bc bf bz dc df dz aY;obtain⟨bc,bf,bz⟩:=C0.facts;obtain⟨dc,df,dz⟩:=MO.facts;clear C0 MO cl
    cases hm:d.may c 1 with
    |false=>
     have HE:=Ux (rE.o.trans (if_pos hm));clear hm;go_wp2_with fail;go_ret2;rw[HE.o];exact⟨rfl,ei.o⟩
    |true=>
     have vl:=Ux (rE.o.trans (if_neg (by rw[hm];decide)));clear hm rE;by_cases h2:p.data.toList=[46,46]
     ·have kR:p.toList=[46,46]:=by rw[cd];exact h2
      have HE:=Ux (vl.o.trans (if_pos h2));have HAb:=Ux (fun w1 (av:UA w w1)=>nI (HW.o.an av) HK.o k);clear h2 vl;go_wp2_with fail;refine aG 8 mixed (by kernel_rfl) (show cn _ from by repeat (first|exact cS|refine cR ?_|refine cx ?_)) ?_;simp only[List.take_succ_cons,List.take_zero,List.drop_succ_cons,List.drop_zero]
      repeat still_step
      refine wpStill_nil ?_;go_wp2_with fail;refine(HAb.o _ ei.o.drew).mono ?_;rintro e w3 ⟨rfl,cl⟩;have gn:=Ux (ei.o.drew.trans (cl.mono ei.o.size));clear cl;go_wp2_with fail;go_ret2;rw[HE.o];exact⟨rfl,gn.o⟩
     ·have kR:(p.toList==[46,46])=false:=by rw[cd];simpa using h2
      have GX:=Ux (vl.o.trans (if_neg h2));have hpl:p.data.toList.length=p.size:=Array.length_toList;clear h2 vl;by_cases h3:255<p.size
      ·have HE:=Ux (GX.o.trans (if_pos (by rw[hpl];exact h3)));have tR:(255:Int)<(p.size:Int):=by omega
       clear hpl;go_wp2_with fail;go_ret2;rw[HE.o];exact⟨rfl,ei.o⟩
      ·have HE:=Ux (GX.o.trans (if_neg (by rw[hpl];exact h3)));rw[so] at HE;have tR:¬(255:Int)<(p.size:Int):=by omega
       have HF:=Ux (fun w1 (av:UA w w1)=>gO d.au ea el ec p w1 (nj.o.an av) (HK.o.get HHG.o).1.dB Qs.o);have pL:=Ux (fun w1 (av:UA w w1)=>jB (HW.o.an av) HK.o.d1 (aw d.au p));clear hpl GX h3;generalize aw d.au p=f at HE HF pL;go_wp2_with fail;have hzz:w2.heap.size≤w2.heap.size:=aa _;have F0:=ei.o.size
       go_region_held3 (fun w'=>(∀b o,b<w2.heap.size→w'.cell? ⟨b,o,none⟩=w2.cell? ⟨b,o,none⟩)∧UA w2 w') (first|with_reducible assumption|with_reducible exact eH _|with_reducible exact dU _|with_reducible exact eb (by assumption) (by assumption)|with_reducible exact dF (by assumption) _|with_reducible exact du (by assumption) _|with_reducible exact cX (by assumption) (by assumption)|with_reducible exact eG (by assumption) (by assumption))
        ((first|(go_at_call 66;((with_reducible refine(HF.o _ (ei.o.trans ((And.right ‹(∀b o,b<w2.heap.size→_)∧UA w2 _›).mono F0))).mono ?_);rintro e w4 ⟨rfl,cK⟩))|(go_at_call 67;((with_reducible refine(pL.o _ (ei.o.trans ((And.right ‹(∀b o,b<w2.heap.size→_)∧UA w2 _›).mono F0))).mono ?_);rintro e w4 ⟨rfl,cK⟩))))
       all_goals
        obtain⟨-,oY⟩:=‹_∧UA w2 _›;have uF:=Ux (ei.o.trans (oY.mono F0));clear oY;go_wp2_with fail;go_ret2;rw[HE.o];exact⟨rfl,uF.o⟩
   ·have o8:(d.kind != 1)=true:=by simpa using h1
    have HE:=Ux (HQ.o.trans (if_pos h1));clear h1;go_wp2_with fail;go_ret2;rw[HE.o];exact⟨rfl,bC.o⟩
end
end
section
open Go.RowKit
structure Rf.cY(R R':Rf):Prop where
 now:R'.now=R.now
 jc:R'.jc=R.jc
 pl:R'.pl=R.pl
 dd:R'.dd=R.dd
theorem Rf.cY.refl(R:Rf):Rf.cY R R:=⟨rfl,rfl,rfl,rfl⟩
theorem Rf.cY.trans{A B C:Rf}(h:Rf.cY A B)(k:Rf.cY B C):Rf.cY A C:=⟨k.now.trans h.now,k.jc.trans h.jc,k.pl.trans h.pl,k.dd.trans h.dd⟩
theorem L1{S:Fs}(hn:eU S){G:List Gn}(hG:S.ns=G.map (·.a)){i:Nat}(hi:i<G.length){a:An}(hno:G[i].a.no=a.no){y:Gn}(hy:y.a=a):(S.set a).ns=(G.set i y).map (·.a):=by
 have hr:=hn.dB;rw[hG] at hr;show(S.ns.map _)=_;rw[hG];apply List.ext_getElem
 ·simp
 ·intro j h1 h2;have hj:j<G.length:=by simpa using h1
  simp only[List.getElem_map,List.getElem_set];by_cases hij:i=j
  ·subst hij;rw[if_pos rfl,hno];simp[hy]
  ·rw[if_neg hij,if_neg];have key:=List.pairwise_iff_getElem.1 hr;simp only[List.length_map,List.getElem_map] at key;simp only[beq_iff_eq];rcases Nat.lt_or_gt_of_ne hij with h|h
   ·have:=key i j (by simpa using hi) (by simpa using hj) h;omega
   ·have:=key j i (by simpa using hj) (by simpa using hi) h;omega
theorem IT(w:World)(g o:Nat)(v0 v1 v2 v3 v4 v5 v6 v7 v8 v9 v10 v11:Value):putRow w g o [v0,v1,v2,v3,v4,v5,v6,v7,v8,v9,v10,v11]=(((((((((((w.setCell ⟨g,o,none⟩ v0).setCell ⟨g,o+1,none⟩ v1).setCell ⟨g,o+2,none⟩ v2).setCell ⟨g,o+3,none⟩ v3).setCell ⟨g,o+4,none⟩ v4).setCell ⟨g,o+5,none⟩ v5).setCell ⟨g,o+6,none⟩ v6).setCell ⟨g,o+7,none⟩ v7).setCell ⟨g,o+8,none⟩ v8).setCell ⟨g,o+9,none⟩ v9).setCell ⟨g,o+10,none⟩ v10).setCell ⟨g,o+11,none⟩ v11:=rfl
section
variable{w w':World}{pf:Nat}{R:Rf}{S:Fs}
theorem dJ{g:Nat}{e:TypeId}(hk:∃cur,w.heap[g]?=some (.cells cur e (0,0))){x:Nat}{vs:Array Value}{T:TypeId}(hx:ax w x vs T)(hT:T≠e):x≠g:=by
 rintro rfl;obtain⟨cur,hc⟩:=hk;unfold ax at hx;rw[hx] at hc;injection hc with hc;injection hc with _ hc;exact hT hc
theorem aW.put(h:aW w pf R S)(hn:eU S){g cap:Nat}(hv:R.nv=.slice (some ⟨g,0,none⟩) R.G.length cap){i:Nat}(hi:i<R.G.length){a:An}{ea:Option Addr}{el ec:Nat}(hno:R.G[i].a.no=a.no)(he:aA w ea el ec a.au) :
  aW (putRow w g (i*12) [UE UL a.no,UE UL a.dev,UE UL a.kind,UE UL a.mode,UE UL a.uid,UE UL a.gid,UE UL a.mtime,UE UL a.ctime,UE UL a.ak,UE UL a.up,UF a.data,UG ea el ec]) pf {R with G:=R.G.set i ⟨a,ea,el,ec,0⟩} (S.set a)∧Mod (R.F pf) w (putRow w g (i*12) [UE UL a.no,UE UL a.dev,UE UL a.kind,UE UL a.mode,UE UL a.uid,UE UL a.gid,UE UL a.mtime,UE UL a.ctime,UE UL a.ak,UE UL a.up,UF a.data,UG ea el ec]):=by
 have hgb:R.nv.ownBlock=some g:=by rw[hv];rfl
 have hm:=sN (g:=g) [UE UL a.no,UE UL a.dev,UE UL a.kind,UE UL a.mode,UE UL a.uid,UE UL a.gid,UE UL a.mtime,UE UL a.ctime,UE UL a.ak,UE UL a.up,UF a.data,UG ea el ec] w (i*12);have hM:Mod (R.F pf) w (putRow w g (i*12) [UE UL a.no,UE UL a.dev,UE UL a.kind,UE UL a.mode,UE UL a.uid,UE UL a.gid,UE UL a.mtime,UE UL a.ctime,UE UL a.ak,UE UL a.up,UF a.data,UG ea el ec]):=hm.mono (fun k hk=>.inr (.inl (by rw[hk];exact hgb)));obtain⟨-,hcur⟩:=aH h.ti hgb;have hst:aS (R.F pf) (R.F pf) w (putRow w g (i*12) [UE UL a.no,UE UL a.dev,UE UL a.kind,UE UL a.mode,UE UL a.uid,UE UL a.gid,UE UL a.mtime,UE UL a.ctime,UE UL a.ak,UE UL a.up,UF a.data,UG ea el ec]):=aS.dH hM;refine⟨⟨h.bD.mod hm (dJ hcur h.bD (by decide)),?_,bY h.fJ hm (fun k hk e=>?_),L1 hn h.ns hi hno rfl,fun x hx=>?_⟩,hM⟩
 ·show World.ownsRow _ 0 149 12 R.nv (R.G.set i _).length ((R.G.set i _).flatMap Gn.cs);rw[List.length_set];have h0:=h.ti;rw[hv] at h0⊢;exact DV (enc:=Gn.cs) (by omega) Gn.gu h0 i hi ⟨a,ea,el,ec,0⟩
 ·obtain⟨-,cur2,fE⟩:=aH h.fJ e;rw[hk] at fE;exact dJ hcur (show ax w g cur2 266 from fE) (by decide) rfl
 ·rcases List.mem_or_eq_of_mem_set hx with hx|rfl
  ·exact(h.au x hx).rf h hst
  ·exact he.rf h hst
theorem kA(h:aW w pf R S)(hn:eU S){a:An}{ea:Option Addr}{el ec:Nat}(he:aA w ea el ec a.au){b:An}(hb:S.get a.no=some b) :
  Calls Tryz.prog 140 #[UH (some ⟨pf,0,none⟩),a.v ea el ec] w fun e w'=>e=.returned (UK #[])∧∃R',aW w' pf R' (S.set a)∧aS (R.F pf) (R'.F pf) w w'∧Rf.cY R R'∧R'.dv=R.dv:=by
 rcases pV h a.no with⟨i,hi,hp,-,hno⟩|⟨-,lU⟩
 ·have de:=ao (UB w) (.cells #[UE UL a.no,UE UL a.dev,UE UL a.kind,UE UL a.mode,UE UL a.uid,UE UL a.gid,UE UL a.mtime,UE UL a.ctime,UE UL a.ak,UE UL a.up,UF a.data,UG ea el ec] 149);have G6:=ax.new w #[UE UL a.no,UE UL a.dev,UE UL a.kind,UE UL a.mode,UE UL a.uid,UE UL a.gid,UE UL a.mtime,UE UL a.ctime,UE UL a.ak,UE UL a.up,UF a.data,UG ea el ec] 149;have Hy:=Ux (xy (h.an ((Below.refl _ w).alloc (aa _) (.cells #[UE UL a.no,UE UL a.dev,UE UL a.kind,UE UL a.mode,UE UL a.uid,UE UL a.gid,UE UL a.mtime,UE UL a.ctime,UE UL a.ak,UE UL a.up,UF a.data,UG ea el ec] 149))) a.no);rw[hp] at Hy;obtain⟨g,cap,hnv,hcap,SQ,hgl,hc,hfz,cur,hcur⟩:=h.cj (by omega);have HP:=Ux (fun w1 (hb:UA w w1)=>(h.an hb).put hn hnv hi hno (he.an hb));obtain⟨pc,-,pz⟩:=h.bD.facts;rw[hnv] at pc;have KI:=Ux hcur;obtain⟨n,oV⟩:∃n,R.G.length=n:=⟨_,rfl⟩;rw[oV] at pc hcap;have hin:i<n:=by omega
  have pE:=Ux G6;have cB:=Ux de;have mixed:Tryz.prog.follows .mixedOrders=true:=by kernel_rfl
  obtain⟨y,y1,y2,y3,c0,c1,c2,c3,c4,c5,c6,c7,c8,c9,Q2,Q1⟩:∃(y:An) (y1:Option Addr) (y2 y3:Nat),NdC w g (i*12) y y1 y2 y3:=⟨_,_,_,_,hc i hi⟩;have HC:=Ux (fun w1 (hb:UA w w1)=>ag (hb.cell (p:=⟨g,i*12,none⟩) hgl) (fun j=>hb.cell (p:=⟨g,i*12+j,none⟩) hgl));unfold An.v;clear h hn he hb hp hnv hc hi hno oV G6 de hcur hfz;go_enter Tryz.func140,Tryz.ntmps140;have G6:=pE.o;obtain⟨qc,qf,qz⟩:=G6.facts;clear G6;go_wp2_with fail;refine Hy.o.mono ?_;rintro e w1 ⟨rfl,av⟩;have CM:=pE.o.an av;have aY:=ar cB.o av;obtain⟨d0,dd⟩:=HC.o w1 aY;rw[←d0] at c0;rw[←dd 1] at c1;rw[←dd 2] at c2;rw[←dd 3] at c3;rw[←dd 4] at c4;rw[←dd 5] at c5;rw[←dd 6] at c6;rw[←dd 7] at c7;rw[←dd 8] at c8;rw[←dd 9] at c9;rw[←dd 10] at Q2;rw[←dd 11] at Q1;have iL:g<w1.heap.size:=Nat.lt_of_lt_of_le hgl aY.size;have hfz1:=(KI.o.an aY).frozen;have pc2:=fun i=>(aY.cell (p:=⟨pf,i,none⟩) pz).trans (pc i);have ei:=Ux aY;clear qc qf qz;obtain⟨qc,qf,qz⟩:=CM.facts;clear CM av aY d0 dd pc;go_wp2_with fail;refine aG 7 mixed (by kernel_rfl) (show cn _ from by repeat (first|exact cS|refine cR ?_|refine cx ?_|refine cG ?_)) ?_;simp only[List.take_succ_cons,List.take_zero,List.drop_succ_cons,List.drop_zero]
  repeat still_step
  refine wpStill_nil ?_;go_wp2_with fail
  go_end0
  obtain⟨hR,hM⟩:=HP.o _ ei.o;rw[IT] at hR hM;exact⟨rfl,_,hR.an ((Below.refl _ _).drew),(aS.aq ei.o).trans (aS.dH hM.drew),⟨rfl,rfl,rfl,rfl⟩,rfl⟩
 ·rw[hb] at lU;cases lU
end
end
end Go.Proofs.YtabbjaomlmnnhaaGreat
