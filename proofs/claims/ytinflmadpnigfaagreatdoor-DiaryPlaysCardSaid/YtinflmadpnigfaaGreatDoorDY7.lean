import Derived.Laws.CopyRow
import Derived.Laws.Externs
import Derived.Lib.Overlaps
import Derived.Lib.AppendZeros
import Derived.Lib.JoinLaws
import Derived.Deep.AppendSrc
import Derived.Lib.SliceRun
import Derived.Lib.AppendZerosOnto
import Derived.Deep.CutBlock
import Derived.Deep.DeepCutAuto
import Derived.RegionTactic
import Derived.BigRegion
import Derived.Test.YtinflmadpnigfaaGreatDoorDY6
import Derived.Test.YtinflmadpnigfaaGreatDoorDY2
import Derived.Test.YtinflmadpnigfaaGreatDoorDY5
set_option linter.unusedVariables false
set_option linter.unusedSimpArgs false
set_option maxRecDepth 100000
set_option maxHeartbeats 16000000
namespace Go.Proofs.YtinflmadpnigfaaGreatDoor
section
open Go.RowKit
def mE(es:List En)(s:ByteArray):Bool:=(es.find? (fun x=>decide (x.name=s))).isSome
theorem tj(es:List En)(a:Option Addr)(n c:Nat)(s:ByteArray)(w:World)(he:aA w a n c es)(hr:mT es)(hn:n≤1000000) :
  Calls Tryz.prog 192 #[.slice a n c,.string s,.func (.func 193) #[] #[]] w fun e w'=>e=.returned (.tuple #[.int .i64 (dO es s),.bool (mE es s)])∧Up w w':=by
 have hl:=he.len;have HR:=Um hr;have HE:=Um he;have hat:=uF es s;clear hr he;obtain⟨A,hA⟩:∃A,dO es s=A:=⟨_,rfl⟩;have HA:=Um hA;rw[hA] at hat⊢;clear hA;go_enter Tryz.func192,Tryz.ntmps192;go_wp2_with fail
 go_loopw [9,10] (fun i j wr=>∃lo hi:Nat,lo≤A∧A≤hi∧hi≤n∧i=.int .i64 lo∧j=.int .i64 hi∧Up w wr) (fun i j _=>(intOf j-intOf i).toNat)
 case atStart=>exact⟨0,n,by omega,by omega,by omega,rfl,rfl,Below.refl _ _⟩
 case round=>
  obtain⟨lo,hi,h1,h2,h3,rfl,rfl,hB⟩:=hrel;by_cases hlt:lo<hi
  ·obtain⟨b,off,rfl,hb⟩:=HE.o.ey (by omega);obtain⟨k,hk⟩:∃k:Nat,(lo+hi) / 2=k:=⟨_,rfl⟩;have hkl:k<es.length:=by omega
   obtain⟨c1,c2⟩:=(HE.o.ak hB).cell k hkl;obtain⟨x,hx⟩:∃x,es[k]=x:=⟨_,rfl⟩;rw[hx] at c1 c2;have hcv:(rb x.name s<0)=(k<A):=by
    rw[NM,←hx,xW HR.o s k hkl,HA.o];simp
   by_cases hkA:k<A
   ·have hneg:rb x.name s<0:=by rw[hcv];exact hkA
    clear hcv hx;go_wp2_with fail;refine(yT x s _).mono ?_;rintro e w1 ⟨rfl,ar⟩;go_wp2_with fail;go_roundw
    case rel=>exact⟨k+1,hi,by omega,by omega,h3,by go_num,rfl,ao hB ar⟩
    case measure=>simp[intOf];omega
   ·have hneg:¬rb x.name s<0:=by rw[hcv];exact hkA
    clear hcv hx;go_wp2_with fail;refine(yT x s _).mono ?_;rintro e w1 ⟨rfl,ar⟩;go_wp2_with fail;go_roundw
    case rel=>exact⟨lo,k,by omega,by omega,by omega,rfl,by rw[show((lo:Int)+(hi:Int)) / 2=(k:Int) by omega],ao hB ar⟩
    case measure=>simp[intOf];omega
  ·obtain rfl:lo=A:=by omega
   by_cases hAn:lo<n
   ·obtain⟨b,off,rfl,hb⟩:=HE.o.ey (by omega);have hkl:lo<es.length:=by omega
    obtain⟨c1,c2⟩:=(HE.o.ak hB).cell lo hkl;obtain⟨x,hx⟩:∃x,es[lo]=x:=⟨_,rfl⟩;rw[hx] at c1 c2;by_cases hxs:x.name=s
    ·have hz:rb x.name s=0:=by rw[ES];exact hxs
     have HF:=Um (show mE es s=true by
      unfold mE;rw[pU HR.o s,dif_pos (by rw[HA.o];exact hkl),if_pos (by simp only[HA.o,hx];exact hxs)];rfl)
     have Hz:=Um hz;clear hx hxs hz;go_wp2_with fail;refine(yT x s _).mono ?_;rw[Hz.o];rintro e w1 ⟨rfl,ar⟩;go_wp2_with fail;go_ret2;exact⟨by rw[HF.o];rfl,ao hB ar⟩
    ·have hz:¬rb x.name s=0:=by rw[ES];exact hxs
     have HF:=Um (show mE es s=false by
      unfold mE;rw[pU HR.o s,dif_pos (by rw[HA.o];exact hkl),if_neg (by simp only[HA.o,hx];exact hxs)];rfl)
     have fT:(rb x.name s==0)=false:=by simpa using hz
     clear hx hxs hz;go_wp2_with fail;refine(yT x s _).mono ?_;rintro e w1 ⟨rfl,ar⟩;go_wp2_with fail;go_ret2;exact⟨by rw[HF.o];rfl,ao hB ar⟩
   ·have HF:=Um (show mE es s=false by
     unfold mE;rw[pU HR.o s,dif_neg (by rw[HA.o];omega)];rfl)
    go_wp2_with fail;go_ret2;exact⟨by rw[HF.o];rfl,hB⟩
theorem Kf{es:List En}{s:ByteArray}(h:mE es s=false):aN es s=0:=by
 unfold mE at h;unfold aN
 cases hf:es.find? (fun x=>decide (x.name=s)) with
 |none=>rfl
 |some x=>rw[hf] at h;cases h
theorem NQ{es:List En}{s:ByteArray}(hr:mT es)(h:mE es s=true):∃hk:dO es s<es.length,aN es s=es[dO es s].no∧es[dO es s].name=s:=by
 unfold mE at h;unfold aN;rw[pU hr s] at h⊢
 split at h
 ·rename_i hk
  split at h
  ·rename_i hx;refine⟨hk,?_,hx⟩;rw[dif_pos hk,if_pos hx]
  ·cases h
 ·cases h
theorem nL(es:List En)(a:Option Addr)(n c:Nat)(s:ByteArray)(w:World)(he:aA w a n c es)(hr:mT es)(hn:n≤1000000) :
  Calls Tryz.prog 121 #[.slice a n c,.string s] w fun e w'=>e=.returned (.int .i64 (aN es s))∧Up w w':=by
 have hl:=he.len;have HS:=Um (tj es a n c s w he hr hn)
 cases hh:mE es s
 ·rw[hh] at HS;rw[Kf hh];go_enter Tryz.func121,Tryz.ntmps121;go_wp2_with fail;refine HS.o.mono ?_;rintro e w1 ⟨rfl,ar⟩;go_wp2_with fail;go_ret;exact⟨rfl,ar⟩
 ·rw[hh] at HS;obtain⟨hk,hf,-⟩:=NQ hr hh;rw[hf];obtain⟨b,off,rfl,hb⟩:=he.ey (by omega);obtain⟨A,hA⟩:∃A,dO es s=A:=⟨_,rfl⟩;simp only[hA] at hk HS⊢;obtain⟨x,hx⟩:∃x,es[A]=x:=⟨_,rfl⟩;rw[hx];have HE:=Um he;clear hf hA he hh;go_enter Tryz.func121,Tryz.ntmps121;go_wp2_with fail;refine HS.o.mono ?_;rintro e w1 ⟨rfl,ar⟩;obtain⟨c1,c2⟩:=(HE.o.ak ar).cell A hk;rw[hx] at c1 c2;go_wp2_with fail;go_ret;exact⟨rfl,ar⟩
end
section
open Go.RowKit
section
variable{P:Program}
theorem iH(w:World)(dT sT ty elem:TypeId)(g o dLen dCap:Nat)(a:Addr)(sLen sCap:Nat)(cur:Array Value)(t:TypeId)(cs:List Value)(n sz:Nat)
  (hu:P.underlying dT=some (.slice elem)) (hs:(P.info? elem).map (·.size)=some sz)
  (hg:w.heap[g]?=some (.cells cur t (0,0))) (hm:Nat.min sLen dLen=n) (hn:cs.length=n*sz)
  (hsrc:∀j v,cs[j]?=some v→w.cell? (a.add j)=some v) (hfit:o+cs.length≤cur.size) (h1:∀v∈cs,v.oneCell'=true) :
  (Builtin.copy_ #[dT,sT] ty #[.slice (some ⟨g,o,none⟩) dLen dCap,.slice (some a) sLen sCap]).run P w =
   .ok (goInt n) (w.setRow g (cur.toList.take o++cs++cur.toList.drop (o+cs.length)).toArray):=by
 have hl:=run_loadCells_list (P:=P) w a cs hsrc;have hst:=run_storeCells_at P g o t cs 0 cur w hg (by simpa using hfit) h1
 cases hq:P.info? elem with
 |none=>simp[hq] at hs
 |some i=>
  have hi:i.size=sz:=by simpa [hq] using hs
  simp[Builtin.copy_,run_underlying hu,Builtin.lenOf,Builtin.firstCells,sizeOf,typeInfo,hq,hi,hm,←hn,hl,hst]
theorem zC(w:World){o:Oper}{a:Act}{K:Act→World→Prop}{Q:Exit→Act→World→Prop}(d s:Operand)(t t':TypeId)
  (ho:o.op=.call {callee:=.builtin .copy,args:=#[d,s],argTypes:=#[t,t']}) (v u:Value) (hd:a.eval d=v) (hs:a.eval s=u) {v':Value} {w':World}
  (hr:(Builtin.copy_ #[t,t'] o.type #[v,u]).run P w=.ok v' w') (h:K (a.put o.dst v') w'):o.wp P a w K Q:=by
 unfold Oper.wp execOp;simp only[ho,resolve,invoke,builtin,Sem.run_bind,Sem.run_pure,Result.andThen_ok,List.map_toArray,List.map_cons,List.map_nil,hd,hs,hr];exact h
theorem lG(w:World){ops:Array Oper}{rest:List Oper}{o:Oper}{a:Act}{Q:Exit→Act→World→Prop}(hgd:o.guard=none)(d s:Operand)(t t':TypeId)
  (ho:o.op=.call {callee:=.builtin .copy,args:=#[d,s],argTypes:=#[t,t']}) (v u:Value) (hd:a.eval d=v) (hs:a.eval s=u) {v':Value} {w':World}
  (hr:(Builtin.copy_ #[t,t'] o.type #[v,u]).run P w=.ok v' w') (h:wpList P ops Q rest (a.put o.dst v') w'):wpList P ops Q (o::rest) a w:=
 wpList_plain hgd fun _ hK=>zC w d s t t' ho v u hd hs hr (hK _ _ h)
theorem nT{ops:Array Oper}{o:Oper}{a:Act}{w:World}{K:Act→World→Prop}{Q:Exit→Act→World→Prop}{E:Prop}
  (hg:o.guard=none) (d x:Operand) (dT sT:TypeId) (hop:o.op=Op.call {callee:=Callee.builtin Builtin.copy,args:=#[d,x],argTypes:=#[dT,sT]})
  (v u:Value) (hd:a.eval d=v) (hx:a.eval x=u) {v':Value} {w':World} (hr:(Builtin.copy_ #[dT,sT] o.type #[v,u]).run P w=.ok v' w') (hK:K (a.put o.dst v') w') :
  if Region.wanted o (yielded ops a.tmps)=true then Oper.wp P o a w K Q else E:=by
 have hw:Region.wanted o (yielded ops a.tmps)=true:=by simp[Region.wanted,hg]
 rw[if_pos hw];unfold Oper.wp;simp[execOp,hop,resolve,invoke,builtin,hd,hx,hr,Result.andThen];exact hK
end
theorem kL{w:World}{g:Nat}{cur vs:Array Value}{T:TypeId}(h:au w g cur T):au (w.setRow g vs) g vs T:=setRow_heap w g cur vs T _ h
theorem kJ(w:World)(g:Nat)(vs:Array Value):Mod (fun k=>k=g) w (w.setRow g vs):=by
 refine⟨rfl,rfl,rfl,by simp[World.setRow],fun k hk hs=>?_⟩;simp only[World.setRow];rw[Array.getElem?_modify,if_neg (fun e=>hs e.symm)]
end
section
open Go.RowKit
theorem mK:(Tryz.prog.info? 271).map (fun i=>(i.zero,i.size,i.bytes))=some (some (.agg #[.string ByteArray.empty,.int .i64 0]),2,24):=by kernel_rfl
theorem uE(es:List En):∀u∈es.flatMap cH,u.oneCell'=true:=by
 intro u hu;obtain⟨x,-,hx⟩:=List.mem_flatMap.1 hu;simp[cH] at hx;rcases hx with rfl|rfl<;>rfl
theorem aA.news{w:World}{b off n c:Nat}{es:List En}(h:aA w (some ⟨b,off,none⟩) n c es):∀j u,(es.flatMap cH)[j]?=some u→w.cell? ((⟨b,off,none⟩:Addr).add j)=some u:=by
 intro j u hu;have hlt:j<(es.flatMap cH).length:=(List.getElem?_eq_some_iff.1 hu).1;rw[bC bM] at hlt;have hm:=Nat.mod_lt j (show 0<2 by omega);have hdiv:j=j / 2*2+j % 2:=by omega
 have hq:j / 2<es.length:=by omega
 have h1:=fH bM es (j / 2) (j % 2) hq hm;rw[←hdiv,hu] at h1;obtain⟨c1,c2⟩:=h.cell (j / 2) hq;rw[jI];rcases(show j % 2=0∨j % 2=1 by omega) with hr|hr
 ·rw[hr] at h1;rw[show off+j=off+j / 2*2 by omega,c1];exact h1.symm
 ·rw[hr] at h1;rw[show off+j=off+j / 2*2+1 by omega,c2];exact h1.symm
def OE(w:World)(base:Nat)(v:Value)(es:List En):Prop:=w.ownsRow base 271 2 v es.length (es.flatMap cH)
theorem OE.at{w:World}{base c:Nat}{a:Option Addr}{es:List En}(h:OE w base (.slice a es.length c) es):aA w a es.length c es:=by
 refine⟨bW (R:=Tp) (by omega) bM (fun _=>rfl) h,fun p hp=>?_⟩;subst hp;rcases h.2 with⟨h1,-⟩|⟨g,cap,cur,h1,-,hg,-⟩
 ·cases h1
 ·injection h1 with h1;injection h1 with h1;exact⟨g,0,cur,h1,hg⟩
theorem OE.ak{w w':World}{base:Nat}{v:Value}{es:List En}(h:OE w base v es)(hb:Up w w'):OE w' base v es:=bY h hb (aa _)
theorem DJ(es:List En)(a:Option Addr)(n c:Nat)(w:World)(he:aA w a n c es)(hn:n≤1000000) :
  Calls Tryz.prog 225 #[.slice a n c] w fun e w'=>(∃a' c',e=.returned (.slice a' n c')∧OE w' w.heap.size (.slice a' n c') es)∧Up w w':=by
 have hl:=he.len;obtain⟨i0,hi,iU,gx,fT⟩:=info_parts mK;have hq:∀(w:World) (r:Option Addr) (n c:Nat),(binOp .eql 97 (.slice r n c) (.slice none 0 0)).run Tryz.prog w=.ok (.bool r.isNone) w:=fun w r n c=>Lib.run_eql_slice_nil w _ _ r n c 0 0 Tryz.underlying97
 cases a with
 |none=>
  have Cd:n=0:=by
   rcases Nat.eq_zero_or_pos n with h|h
   ·exact h
   ·obtain⟨b,off,h1,-⟩:=he.ey h
    cases h1
  subst Cd;obtain rfl:es=[]:=List.eq_nil_of_length_eq_zero hl;have H:=Um (show OE w w.heap.size (.slice none 0 0) [] from World.ownsRow_nil _ _ _ _);clear he hl hi iU gx fT;go_enter Tryz.func225,Tryz.ntmps225;go_wp2_with fail;go_ret;exact⟨⟨none,0,rfl,H.o⟩,Below.refl _ _⟩
 |some p=>
  obtain⟨b,off,cur,rfl,hblk⟩:=he.bd p rfl;have o3:=he.ak ((Below.refl _ w).alloc (aa _) (.cells #[] 271));have hrun:∃a' c' W,(Builtin.append_ #[97,97] 97 #[.slice (some ⟨w.heap.size,0,none⟩) 0 0,.slice (some ⟨b,off,none⟩) n c]).run Tryz.prog (w.alloc (.cells #[] 271))=.ok (.slice a' n c') W∧
    OE W w.heap.size (.slice a' n c') es∧Up w W:=by
   obtain⟨g,cap,W,h1,h2,h3,h4⟩:=xQ (97) Tryz.underlying97 hi iU gx fT rfl (by omega) (Gd (base:=w.heap.size) (sz:=2) (e:=271) w (aa _)) ⟨b,off,none⟩ n c (es.flatMap cH) (by rw[bC bM,hl]) o3.news (uE es) (by unfold maxLen;omega) (by omega) (by simp);refine⟨some ⟨g,0,none⟩,cap,W,?_,?_,((Uq w).alloc (aa _) _).trans (h3.below (fun k hk=>by omega) (by simp))⟩
   ·rw[Nat.zero_add] at h1;exact h1
   ·rw[Nat.zero_add,List.nil_append] at h2;unfold OE;rw[hl];exact h2
  obtain⟨a',c',W,hrun,h2,h3⟩:=hrun;have H:=Um (ag h2 h3);clear he o3 hblk h2 h3 hi iU gx fT hl;go_enter Tryz.func225,Tryz.ntmps225;go_wp2_with (at_builtin;refine aG rfl rfl rfl rfl hrun ?_);go_ret;exact⟨⟨a',c',rfl,H.o.1⟩,H.o.2⟩
end
section
open Go.RowKit
theorem OE.mk{w:World}{base g cap:Nat}{cur:Array Value}{es:List En}(hb:base≤g)(hg:au w g cur 271)(h1:es.length≤cap)(h2:cap≤maxLen)(h3:cur.size=cap*2)(h4:cur.toList.take (es.length*2)=es.flatMap cH) :
  OE w base (.slice (some ⟨g,0,none⟩) es.length cap) es:=⟨bC bM es,.inr ⟨g,cap,cur,rfl,hb,hg,h1,h2,h3,h4⟩⟩
theorem xh(es:List En)(i:Nat):(es.flatMap cH).take (i*2)=(es.take i).flatMap cH:=by
 induction es generalizing i with
 |nil=>simp
 |cons x es ih=>
  cases i with
  |zero=>simp
  |succ i=>
   rw[List.flatMap_cons,List.take_succ_cons,List.flatMap_cons,show(i+1)*2=(cH x).length+i*2 by rw[bM];omega,List.take_append,List.take_of_length_le (by omega),Nat.add_sub_cancel_left,ih]
theorem xj(es:List En)(i:Nat):(es.flatMap cH).drop (i*2)=(es.drop i).flatMap cH:=by
 induction es generalizing i with
 |nil=>simp
 |cons x es ih=>
  cases i with
  |zero=>simp
  |succ i=>
   rw[List.flatMap_cons,List.drop_succ_cons,show(i+1)*2=(cH x).length+i*2 by rw[bM];omega,List.drop_append,List.drop_eq_nil_of_le (by omega),Nat.add_sub_cancel_left,ih,List.nil_append]
theorem BE(es:List En)(a:Option Addr)(c base vb:Nat)(x:En)(w:World)(h:OE w base (.slice a es.length c) es)(hb:au w vb #[.string x.name,.int .i64 x.no] 271)(hbase:base≤w.heap.size)(hn:es.length≤1000000) :
  Calls Tryz.prog 224 #[.slice a es.length c,.int .i64 es.length,.slice (some ⟨vb,0,none⟩) 1 1] w fun e w'=>(∃a' c',e=.returned (.slice a' (es.length+1) c')∧OE w' base (.slice a' (es.length+1) c') (es++[x]))∧Mod (fun k=>(Value.slice a es.length c).ownBlock=some k) w w':=by
 obtain⟨i0,hi,iU,gx,fT⟩:=info_parts mK;obtain⟨g,cap,W,h1,h2,h3,h4⟩:=cX (97) Tryz.underlying97 hi iU gx fT rfl (by omega) h ⟨vb,0,none⟩ 1 1 (cH x) rfl (World.news_of_block hb) (by intro u hu;simp[cH] at hu;rcases hu with rfl|rfl<;>rfl) (by omega) (by unfold maxLen;omega) (by omega) hbase;have kA:OE W base (.slice (some ⟨g,0,none⟩) (es.length+1) cap) (es++[x]):=by
  unfold OE;rw[List.length_append,List.length_singleton,List.flatMap_append,List.flatMap_singleton];exact h2
 obtain⟨b',c',hv,hle,-⟩:=bw h;injection hv with e1 e2 e3;subst e1 e3;have H:=Um (ag kA h3);clear h2 kA h3 h4 hi iU gx fT hb h;obtain⟨n,hnn⟩:∃n,es.length=n:=⟨_,rfl⟩;rw[hnn] at H h1 hle hn⊢;clear hnn
 cases a with
 |none=>
  go_enter Tryz.func224,Tryz.ntmps224;go_wp2_with (at_builtin;refine aG rfl rfl rfl rfl h1 ?_)
  all_goals (go_ret;exact⟨⟨_,_,rfl,H.o.1⟩,H.o.2⟩)
 |some p=>
  go_enter Tryz.func224,Tryz.ntmps224;go_wp2_with (at_builtin;refine aG rfl rfl rfl rfl h1 ?_)
  all_goals (go_ret;exact⟨⟨_,_,rfl,H.o.1⟩,H.o.2⟩)
theorem sQ(k:Nat):(Builtin.zeroCells (Value.cells (.agg #[.string ByteArray.empty,.int .i64 0])) k).size=k*2:=by
 rw[size_zeroCells];rfl
theorem jg{α:Type}(a b:List α)(n:Nat)(h:a.length=n):(a++b).take n=a:=by
 subst h;simp
theorem yQ(es:List En)(g c i base vb:Nat)(x:En)(w:World)(h:OE w base (.slice (some ⟨g,0,none⟩) es.length c) es)(hb:au w vb #[.string x.name,.int .i64 x.no] 271)(hbase:base≤w.heap.size)(hn:es.length≤1000000)(hil:i<es.length)(hroom:c<es.length+1) :
  Calls Tryz.prog 224 #[.slice (some ⟨g,0,none⟩) es.length c,.int .i64 i,.slice (some ⟨vb,0,none⟩) 1 1] w fun e w'=>(∃a' c',e=.returned (.slice a' (es.length+1) c')∧OE w' base (.slice a' (es.length+1) c') (es.take i++x::es.drop i))∧Up w w':=by
 obtain⟨i0,hi,iU,gx,fT⟩:=info_parts mK;have hA:=h.at;have hlt:=(hA.ey (by omega));obtain⟨gg,oo,hgg,hgl⟩:=hlt;injection hgg with hgg;injection hgg with e1 e2;subst e1 e2;obtain⟨b',c',hv,hle,-⟩:=bw h;injection hv with e1 e2 e3;subst e1 e3;have hsz:(Tryz.prog.info? 271).map (·.size)=some 2:=by rw[hi];simp[gx]
 obtain⟨n,hnn⟩:∃n,es.length=n:=⟨_,rfl⟩;have hold:(Builtin.firstCells i0.size i (.slice (some ⟨g,0,none⟩) i c)).run Tryz.prog w.drew=.ok ((es.take i).flatMap cH).toArray w.drew:=by
  rw[gx];refine run_firstCells_some w.drew 2 i ⟨g,0,none⟩ i c _ (by rw[bC bM,List.length_take];omega) (fun j v hj=>?_);rw[←xh,List.getElem?_take] at hj
  split at hj
  ·exact hA.news j v hj
  ·cases hj
 have QH:=Lib.run_append_grow_zeros w 97 3 97 271 i0 _ .i64 .i64 Tryz.underlying97 Tryz.underlying3 hi iU (some ⟨g,0,none⟩) i c _ hold (n+1-i) (by omega) (by rw[gx];omega) (by omega) (by omega) (by rw[fT];omega) (by rw[fT];exact growslice_fits (by omega) (by omega));rw[show i+(n+1-i)=n+1 by omega] at QH;have hk:((n+1-i:Nat):Int)=(n:Int)+1-(i:Int):=by omega
 rw[hk] at QH;obtain⟨G,hG⟩:∃G,grownCap w (n+1) c 271=G:=⟨_,rfl⟩;have LQ:n+1≤G:=by rw[←hG];exact grownCap_ge w _ _ _
 have km:G≤maxLen:=by rw[←hG];exact grownCap_le_maxLen w _ _ _ (by unfold maxLen;omega)
 rw[hG] at QH;obtain⟨ROW,Ny⟩:∃R,((es.take i).flatMap cH).toArray++Builtin.zeroCells (Value.cells (.agg #[.string ByteArray.empty,.int .i64 0])) (n+1-i)++Builtin.zeroCells (Value.cells (.agg #[.string ByteArray.empty,.int .i64 0])) (G-(n+1))=R:=⟨_,rfl⟩;rw[Ny] at QH;have hRs:ROW.size=G*2:=by
  rw[←Ny,Array.size_append,Array.size_append,sQ,sQ,List.size_toArray,bC bM,List.length_take];omega
 have hRt:ROW.toList.take (i*2)=(es.take i).flatMap cH:=by
  rw[←Ny,Array.toList_append,Array.toList_append,List.append_assoc];exact jg _ _ _ (by rw[bC bM,List.length_take];omega)
 have b1:au (w.drew.alloc (.cells ROW 271)) w.heap.size ROW 271:=au.new w.drew ROW 271;have B1:Up w (w.drew.alloc (.cells ROW 271)):=((Below.refl _ w).drew).alloc (aa _) _;have PZ:=hA.ak B1;have LJ:=hb.ak B1;have hne:vb≠w.heap.size:=by have:=hb.lt;omega
 generalize LL:w.drew.alloc (.cells ROW 271)=W1 at QH b1 B1 PZ LJ;clear LL;have Cc:=iH W1 97 97 3 271 w.heap.size (i*2) (n+1-i) (G-i) ⟨vb,0,none⟩ 1 1 ROW 271 (cH x) 1 2 Tryz.underlying97 hsz b1 (by simp only[Nat.min_def];split<;>omega) rfl (World.news_of_block LJ) (by rw[bM,hRs];omega) (by intro u hu;simp[cH] at hu;rcases hu with rfl|rfl<;>rfl);have b2:=kL (vs:=(ROW.toList.take (i*2)++cH x++ROW.toList.drop (i*2+(cH x).length)).toArray) b1;have M2:=kJ W1 w.heap.size (ROW.toList.take (i*2)++cH x++ROW.toList.drop (i*2+(cH x).length)).toArray;have sm:(ROW.toList.take (i*2)++cH x++ROW.toList.drop (i*2+(cH x).length)).toArray.size=G*2:=by
  rw[List.size_toArray,List.length_append,List.length_append,List.length_take,List.length_drop,bM,Array.length_toList,hRs];omega
 have QG:(ROW.toList.take (i*2)++cH x++ROW.toList.drop (i*2+(cH x).length)).take ((i+1)*2)=(es.take i).flatMap cH++cH x:=by
  rw[hRt];exact jg _ _ _ (by rw[List.length_append,bC bM,List.length_take,bM];omega)
 obtain⟨R2,fo⟩:∃R,(ROW.toList.take (i*2)++cH x++ROW.toList.drop (i*2+(cH x).length))=R:=⟨_,rfl⟩;rw[fo] at Cc b2 M2 sm QG;have B2:Up w (W1.setRow w.heap.size R2.toArray):=B1.trans (M2.below (fun k hk=>by omega) B1.size);have jk:=hA.ak B2;generalize nF:W1.setRow w.heap.size R2.toArray=W2 at Cc b2 B2 jk;clear nF M2;have hdl:((es.drop i).flatMap cH).length=(n-i)*2:=by rw[bC bM,List.length_drop,hnn]
 have J5:=iH W2.drew 97 97 3 271 w.heap.size ((i+1)*2) (n+1-(i+1)) (G-(i+1)) ⟨g,i*2,none⟩ (n-i) (c-i) R2.toArray 271 ((es.drop i).flatMap cH) (n-i) 2 Tryz.underlying97 hsz b2.drew (by simp only[Nat.min_def];split<;>omega) hdl
  (fun j v hj=>by
   rw[←xj,List.getElem?_drop] at hj;have:=jk.news (i*2+j) v hj;rw[jI] at this⊢;rw[show i*2+j=0+(i*2+j) by omega];exact this) (by rw[hdl,sm];omega) (uE _)
 have b3:=kL (vs:=(R2.toArray.toList.take ((i+1)*2)++(es.drop i).flatMap cH++R2.toArray.toList.drop ((i+1)*2+((es.drop i).flatMap cH).length)).toArray) b2.drew;have M3:=kJ W2.drew w.heap.size (R2.toArray.toList.take ((i+1)*2)++(es.drop i).flatMap cH++R2.toArray.toList.drop ((i+1)*2+((es.drop i).flatMap cH).length)).toArray;obtain⟨R3,gy⟩:∃R,(R2.toArray.toList.take ((i+1)*2)++(es.drop i).flatMap cH++R2.toArray.toList.drop ((i+1)*2+((es.drop i).flatMap cH).length))=R:=⟨_,rfl⟩;have vh:R3.toArray.size=G*2:=by
  rw[←gy,List.size_toArray,List.length_append,List.length_append,List.length_take,List.length_drop,hdl,Array.length_toList,sm];omega
 have ht3:R3.take ((n+1)*2)=(es.take i++x::es.drop i).flatMap cH:=by
  rw[←gy,List.flatMap_append,List.flatMap_cons,QG];rw[jg _ _ _ (by rw[List.length_append,List.length_append,hdl,bC bM,List.length_take,bM];omega)];rw[List.append_assoc]
 rw[gy] at J5 b3 M3;have B3:Up w (W2.drew.setRow w.heap.size R3.toArray):=(B2.drew).trans (M3.below (fun k hk=>by omega) B2.size);generalize hW3:W2.drew.setRow w.heap.size R3.toArray=W3 at J5 b3 B3;clear hW3 M3;have hlen:(es.take i++x::es.drop i).length=n+1:=by
  rw[List.length_append,List.length_take,List.length_cons,List.length_drop];omega
 have hfin:OE W3 base (.slice (some ⟨w.heap.size,0,none⟩) (n+1) G) (es.take i++x::es.drop i):=by
  have:=OE.mk (es:=es.take i++x::es.drop i) hbase b3 (by rw[hlen];exact LQ) km vh (by rw[hlen];exact ht3);rw[hlen] at this;exact this
 have H:=Um (ag hfin B3);unfold maxLen at km;rw[hnn] at hil hroom hn hle⊢;have q1:¬(G=i):=by omega
 have q2:¬(G=i+1):=by omega
 have q3:¬(c=i):=by omega
 clear hA PZ jk LJ hb h hold Ny hRs hRt b1 b2 b3 sm vh QG ht3 fo gy hlen hfin B1 B2 B3 hdl hnn hG hi iU gx fT hsz hk;go_enter Tryz.func224,Tryz.ntmps224;go_wp2_with (first
  |(at_builtin;refine Lib.wpList_append_run _ rfl _ _ _ _ rfl _ _ rfl rfl _ _ QH ?_)
  |(refine lG _ rfl _ _ 97 97 rfl _ _ rfl rfl Cc ?_))
 have mixed:Tryz.prog.follows .mixedOrders=true:=by kernel_rfl
 have pO:IntKind.i64.wrap ((i:Int)+1)=(i:Int)+1:=by rw[IntKind.wrap_i64];omega
 have ar:(0:Int)≤(i:Int)+1:=by omega
 have htn:((i:Int)+1).toNat=i+1:=by omega
 have bJ:(i:Int)+1≤(n:Int)+1:=by omega
 have dI:(i:Int)≤(n:Int):=by omega
 have b9:(0:Int)≤(i:Int):=by omega
 go_region_law_o (refine nT rfl _ _ 97 97 rfl (.slice (some ⟨w.heap.size,(i+1)*2,none⟩) (n+1-(i+1)) (G-(i+1))) (.slice (some ⟨g,i*2,none⟩) (n-i) (c-i)) (by simp[Act.eval,Act.put]) (by simp[Act.eval,Act.put]) J5 ?_)
 go_wp2
 go_ret;exact⟨⟨_,_,rfl,H.o.1⟩,H.o.2⟩
end
section
open Go.RowKit
theorem au.shape{w:World}{B:Nat}{vs:Array Value}{T:TypeId}(h:au w B vs T):w.shape? B=some (T,vs.size):=by
 unfold au at h;simp[World.shape?,h]
theorem yP(es:List En)(g c i base vb:Nat)(x:En)(w:World)(h:OE w base (.slice (some ⟨g,0,none⟩) es.length c) es)(hb:au w vb #[.string x.name,.int .i64 x.no] 271)(hvb:vb≠g)(hn:es.length≤1000000)(hil:i<es.length)(hroom:es.length+1≤c) :
  Calls Tryz.prog 224 #[.slice (some ⟨g,0,none⟩) es.length c,.int .i64 i,.slice (some ⟨vb,0,none⟩) 1 1] w fun e w'=>(∃a' c',e=.returned (.slice a' (es.length+1) c')∧OE w' base (.slice a' (es.length+1) c') (es.take i++x::es.drop i))∧Mod (fun k=>k=g) w w':=by
 obtain⟨i0,hi,iU,gx,fT⟩:=info_parts mK;have hsz:(Tryz.prog.info? 271).map (·.size)=some 2:=by rw[hi];simp[gx]
 have hA:=h.at;obtain⟨n,hnn⟩:∃n,es.length=n:=⟨_,rfl⟩;obtain⟨cur,hbg,hg,hcs,hct,SJ⟩:∃cur,base≤g∧au w g cur 271∧cur.size=c*2∧cur.toList.take (n*2)=es.flatMap cH∧c≤maxLen:=by
  rcases h.2 with⟨h1,-⟩|⟨g',cap',cur,h1,ar,hg,h2,h3,h4,h5⟩
  ·cases h1
  ·injection h1 with e1 e2 e3;injection e1 with e1;injection e1 with e1;subst e1 e3;exact⟨cur,ar,hg,h4,by rw[←hnn];exact h5,h3⟩
 have hov:∀lb cb,(callFunc 247 #[.slice (some ⟨vb,0,none⟩) 1 1,.slice (some ⟨g,(i+1)*2,none⟩) lb cb]).run Tryz.prog w=.ok (.value (.bool false)) w:=fun lb cb=>by
  rw[run_callFunc_extern Tryz.func247 (by kernel_rfl) (by kernel_rfl) (by kernel_rfl) (e:=Extern.SlicesOverlaps.overlaps #[97,97] #[4]) (by kernel_rfl),
   Lib.run_overlaps_apart w 97 4 271 Tryz.underlying97 2 Tryz.sizeOf271 ⟨vb,0,none⟩ ⟨g,(i+1)*2,none⟩ 1 1 lb cb hvb 271 271 2 (c*2) hb.shape (by rw[←hcs];exact hg.shape) (by omega) (hb.frozen 0) (hb.frozen 2)]
  rfl
 have hdl:((es.drop i).flatMap cH).length=(n-i)*2:=by rw[bC bM,List.length_drop,hnn]
 have Cc:=iH w.drew 97 97 3 271 g ((i+1)*2) (n+1-(i+1)) (c-(i+1)) ⟨g,i*2,none⟩ (n+1-i) (c-i) cur 271 ((es.drop i).flatMap cH) (n-i) 2 Tryz.underlying97 hsz hg.drew (by simp only[Nat.min_def];split<;>omega) hdl
  (fun j v hj=>by
   rw[←xj,List.getElem?_drop] at hj;have:=hA.news (i*2+j) v hj;rw[jI] at this⊢;rw[show i*2+j=0+(i*2+j) by omega];exact this) (by rw[hdl,hcs];omega) (uE _)
 have b1:=kL (vs:=(cur.toList.take ((i+1)*2)++(es.drop i).flatMap cH++cur.toList.drop ((i+1)*2+((es.drop i).flatMap cH).length)).toArray) hg.drew;have M1:=kJ w.drew g (cur.toList.take ((i+1)*2)++(es.drop i).flatMap cH++cur.toList.drop ((i+1)*2+((es.drop i).flatMap cH).length)).toArray;obtain⟨R1,ev⟩:∃R,(cur.toList.take ((i+1)*2)++(es.drop i).flatMap cH++cur.toList.drop ((i+1)*2+((es.drop i).flatMap cH).length))=R:=⟨_,rfl⟩;have Dl:R1.length=c*2:=by
  rw[←ev,List.length_append,List.length_append,List.length_take,List.length_drop,hdl,Array.length_toList,hcs];omega
 have ht1:R1.take (i*2)=(es.take i).flatMap cH:=by
  rw[←ev,List.append_assoc,List.take_append_of_le_length (by rw[List.length_take,Array.length_toList,hcs];omega),List.take_take,←xh,←hct,List.take_take];congr 1;omega
 have eR:(R1.drop ((i+1)*2)).take ((n-i)*2)=(es.drop i).flatMap cH:=by
  have qk:(cur.toList.take ((i+1)*2)).length=(i+1)*2:=by rw[List.length_take,Array.length_toList,hcs];omega
  rw[←ev,List.append_assoc,List.drop_append,List.drop_eq_nil_of_le (by omega),qk,Nat.sub_self,List.drop_zero,List.nil_append];exact jg _ _ _ hdl
 rw[ev] at Cc b1 M1;have M1':Mod (fun k=>k=g) w (w.drew.setRow g R1.toArray):=((Mod.refl _ w).drew).trans M1;generalize LL:w.drew.setRow g R1.toArray=W1 at Cc b1 M1';clear LL M1;have LJ:=hb.mod M1' (fun e=>hvb e);have J5:=iH W1 97 97 3 271 g (i*2) (n+1-i) (c-i) ⟨vb,0,none⟩ 1 1 R1.toArray 271 (cH x) 1 2 Tryz.underlying97 hsz b1 (by simp only[Nat.min_def];split<;>omega) rfl (World.news_of_block LJ) (by rw[bM,List.size_toArray,Dl];omega) (by intro u hu;simp[cH] at hu;rcases hu with rfl|rfl<;>rfl);have b2:=kL (vs:=(R1.toArray.toList.take (i*2)++cH x++R1.toArray.toList.drop (i*2+(cH x).length)).toArray) b1;have M2:=kJ W1 g (R1.toArray.toList.take (i*2)++cH x++R1.toArray.toList.drop (i*2+(cH x).length)).toArray;obtain⟨R2,fo⟩:∃R,(R1.toArray.toList.take (i*2)++cH x++R1.toArray.toList.drop (i*2+(cH x).length))=R:=⟨_,rfl⟩;have sm:R2.toArray.size=c*2:=by
  rw[←fo,List.size_toArray,List.length_append,List.length_append,List.length_take,List.length_drop,bM,Array.length_toList,List.size_toArray,Dl];omega
 have QG:R2.take ((n+1)*2)=(es.take i++x::es.drop i).flatMap cH:=by
  have zk:((es.take i).flatMap cH).length=i*2:=by rw[bC bM,List.length_take];omega
  rw[←fo,List.flatMap_append,List.flatMap_cons,show R1.toArray.toList=R1 from rfl,ht1,bM,List.take_append,List.take_of_length_le (by rw[List.length_append,zk,bM];omega),
   show i*2+2=(i+1)*2 by omega,show(n+1)*2-((es.take i).flatMap cH++cH x).length=(n-i)*2 by rw[List.length_append,zk,bM];omega,eR,List.append_assoc]
 rw[fo] at J5 b2 M2;have MF:=M1'.trans M2;generalize nF:W1.setRow g R2.toArray=W2 at J5 b2 MF;clear nF M2;have hlen:(es.take i++x::es.drop i).length=n+1:=by
  rw[List.length_append,List.length_take,List.length_cons,List.length_drop];omega
 have hfin:OE W2 base (.slice (some ⟨g,0,none⟩) (n+1) c) (es.take i++x::es.drop i):=by
  have:=OE.mk (es:=es.take i++x::es.drop i) hbg b2 (by rw[hlen];omega) SJ sm (by rw[hlen];exact QG);rw[hlen] at this;exact this
 have H:=Um (ag hfin MF);unfold maxLen at SJ;rw[hnn] at hil hroom hn⊢;have q3:¬(c=i):=by omega
 have q4:¬(c=i+1):=by omega
 have q5:¬(c<n+1):=by omega
 clear hA LJ hb h ev Dl ht1 eR fo sm QG b1 b2 hlen hfin hdl hnn hi iU gx fT hsz M1' MF hcs hct hg hbg;go_enter Tryz.func224,Tryz.ntmps224;go_wp2_with (simp only[hov]);have mixed:Tryz.prog.follows .mixedOrders=true:=by kernel_rfl
 have pO:IntKind.i64.wrap ((i:Int)+1)=(i:Int)+1:=by rw[IntKind.wrap_i64];omega
 have ar:(0:Int)≤(i:Int)+1:=by omega
 have htn:((i:Int)+1).toNat=i+1:=by omega
 have bJ:(i:Int)+1≤(n:Int)+1:=by omega
 have dI:(i:Int)≤(n:Int)+1:=by omega
 have b9:(0:Int)≤(i:Int):=by omega
 go_region_law_o (refine nT rfl _ _ 97 97 rfl (.slice (some ⟨g,(i+1)*2,none⟩) (n+1-(i+1)) (c-(i+1))) (.slice (some ⟨g,i*2,none⟩) (n+1-i) (c-i)) (by simp[Act.eval,Act.put]) (by simp[Act.eval,Act.put]) Cc ?_)
 go_wp2_with (refine lG _ rfl _ _ 97 97 rfl _ _ rfl rfl J5 ?_);go_ret;exact⟨⟨_,_,rfl,H.o.1⟩,H.o.2⟩
end
section
open Go.RowKit
theorem BF(es:List En)(a:Option Addr)(c i base vb:Nat)(x:En)(w:World)(h:OE w base (.slice a es.length c) es)(hb:au w vb #[.string x.name,.int .i64 x.no] 271)(hvb:∀g,a=some ⟨g,0,none⟩→vb≠g)(hbase:base≤w.heap.size)(hn:es.length≤1000000)(hil:i≤es.length) :
  Calls Tryz.prog 224 #[.slice a es.length c,.int .i64 i,.slice (some ⟨vb,0,none⟩) 1 1] w fun e w'=>(∃a' c',e=.returned (.slice a' (es.length+1) c')∧OE w' base (.slice a' (es.length+1) c') (es.take i++x::es.drop i))∧Mod (fun k=>(Value.slice a es.length c).ownBlock=some k) w w':=by
 by_cases hi:i<es.length
 ·obtain⟨b',c',hv,-,-,hf⟩:=bw h;injection hv with e1 e2 e3;subst e1 e3;rcases hf with⟨-,h0,-⟩|⟨g,rfl,-,-⟩
  ·omega
  ·by_cases hr:es.length+1≤c
   ·refine(yP es g c i base vb x w h hb (hvb g rfl) hn hi hr).mono ?_;rintro e w' ⟨h1,h2⟩;exact⟨h1,h2.mono (fun k hk=>by rw[hk];rfl)⟩
   ·refine(yQ es g c i base vb x w h hb hbase hn hi (by omega)).mono ?_;rintro e w' ⟨h1,h2⟩;exact⟨h1,Mod.aq h2⟩
 ·obtain rfl:i=es.length:=by omega
  rw[List.take_length,List.drop_length];exact BE es a c base vb x w h hb hbase hn
theorem MD{l:List En}(h:mT l)(s:ByteArray)(no:Int)(hno:mE l s=false):dy l s no=l.take (dO l s)++⟨s,no⟩::l.drop (dO l s):=by
 rw[Jb h,if_neg,Nat.add_zero];rintro⟨hk,he⟩;unfold mE at hno;rw[pU h,dif_pos hk,if_pos he] at hno
 cases hno
theorem BC(es:List En)(a:Option Addr)(n c:Nat)(s:ByteArray)(no:Int)(w:World)(he:aA w a n c es)(hr:mT es)(hn:n≤1000000)(hno:mE es s=false) :
  Calls Tryz.prog 179 #[.slice a n c,.string s,.int .i64 no] w fun e w'=>(∃a' n' c',e=.returned (.slice a' n' c')∧aA w' a' n' c' (dy es s no))∧Up w w':=by
 have hl:=he.len;have HS:=Um (tj es a n c s w he hr hn);rw[hno] at HS;have HP:=Um (MD hr s no hno);have hat:=uF es s;generalize dO es s=A at HS HP hat;have HE:=Um he;clear he hno;go_enter Tryz.func179,Tryz.ntmps179;go_wp2_with fail;refine HS.o.mono ?_;rintro e w1 ⟨rfl,ar⟩;have fX:=Um (HE.o.ak ar);go_wp2_with fail;refine(DJ es a n c w1 fX.o hn).mono ?_;rintro e w2 ⟨⟨a2,c2,rfl,hO⟩,aD⟩;have HO:=Um hO;have cV:=Um (ao ar aD);clear hO;go_wp2_with fail;have iW:=HO.o.ak ((Below.refl _ w2).alloc (aa _) (.cells #[.string s,.int .i64 no] 271));subst hl;have hblk:=au.new w2 #[.string s,.int .i64 no] 271;refine(BF es a2 c2 A w1.heap.size w2.heap.size ⟨s,no⟩ _ iW hblk (fun g hg=>?_) (by have:=aD.size;simp;omega) hn hat).mono ?_
 ·subst hg;rcases HO.o.2 with⟨h1,-⟩|⟨g',cap',cur,h1,ar,hg,-⟩
  ·cases h1
  ·injection h1 with e1;injection e1 with e1;injection e1 with e1;subst e1;have:=au.lt (show au w2 g cur 271 from hg);omega
 ·rintro e w3 ⟨⟨a3,c3,rfl,LN⟩,LO⟩;have HR:=Um (show aA w3 a3 (es.length+1) c3 (dy es s no) by
   have hlen:(es.take A++({name:=s,no:=no}:En)::es.drop A).length=es.length+1:=by
    rw[List.length_append,List.length_take,List.length_cons,List.length_drop];omega
   rw[HP.o];have h3:=LN;rw[←hlen] at h3⊢;exact h3.at)
  have ez:=Um (show Up w w3 from(al cV.o _).trans (LO.below (fun k hk=>by
   rcases HO.o.2 with⟨h1,-⟩|⟨g',cap',cur,h1,bJ,hg,-⟩
   ·injection h1 with e1;rw[e1] at hk;cases hk
   ·injection h1 with e1;rw[e1] at hk;simp only[Value.ownBlock,Option.some.injEq] at hk;have:=ar.size;omega) (by have:=cV.o.size;simp;omega)))
  clear LN LO;go_wp2_with fail;go_ret;exact⟨⟨_,_,_,rfl,HR.o⟩,ez.o⟩
end
section
open Go.RowKit
section
variable{w w':World}{pw:Nat}{R:Rp}{S:Fs}
theorem wo(h:bh w pw R S){N:Nat}(hk:av S N)(c:Cr)(dir:Int)(s:ByteArray)(hs:s.size≤9223372036854775807) :
  Calls Tryz.prog 176 #[.pointer (some ⟨pw,0,none⟩),.agg #[.int .i64 c.u,.int .i64 c.g],.int .i64 dir,.string s] w fun e w'=>((S.aW c dir s≠0∧e=.returned (.tuple #[dh.v none 0 0,.int .i64 (S.aW c dir s)]))∨(S.aW c dir s=0∧∃d ea el ec,S.get dir=some d∧e=.returned (.tuple #[d.v ea el ec,.int .i64 0])∧aA w ea el ec d.aB))∧Up w w':=by
 cases hg:S.get dir with
 |none=>
  refine(C6 h hk c dir s hs hg).mono ?_;rintro e w1 ⟨rfl,hb⟩;have:S.aW c dir s=5:=by unfold Fs.aW;rw[hg]
  rw[this];exact⟨.inl ⟨by decide,rfl⟩,hb⟩
 |some d=>
  refine(C5 h hk c dir s hs d hg).mono ?_;rintro e w1 ⟨h1|⟨h1,ea,el,ec,h2,h3⟩,hb⟩
  ·exact⟨.inl h1,hb⟩
  ·exact⟨.inr ⟨h1,d,ea,el,ec,rfl,h2,h3⟩,hb⟩
theorem E7(h:bh w pw R S){N:Nat}(hk:av S N)(hN:N≤1000000)(a:An)(ea:Option Addr)(el ec:Nat)(he:aA w ea el ec a.aB)(hs:a.data.size≤9223372036854775807) :
  Calls Tryz.prog 177 #[.pointer (some ⟨pw,0,none⟩),a.v ea el ec] w fun e w'=>e=.returned (.tuple #[.int .i64 (S.make a).2.1,.int .i64 (S.make a).2.2])∧∃R',bh w' pw R' (S.make a).1∧aL (R.F pw) (R'.F pw) w w':=by
 by_cases hr:S.root a.dev=0
 ·refine(Co h hk.d1 a ea el ec hr).mono ?_;rintro e w1 ⟨rfl,hb⟩;rw[wT hr];exact⟨rfl,R,h.ak hb,aL.aq hb⟩
 ·have hd:1≤a.dev∧a.dev≤S.ds.length:=by
   by_cases hd:1≤a.dev∧a.dev≤S.ds.length
   ·exact hd
   ·exact absurd (ni hd) hr
  exact E6 h (k:=(a.dev-1).toNat) (by omega) a ea el ec he (by omega) hr hs hk.l0 (Int.le_trans hk.lN (by omega))
end
end
section
open Go.RowKit
section
variable{w w':World}{pw:Nat}{R:Rp}{S:Fs}
theorem aA.lP{a:Option Addr}{n c:Nat}{es:List En}(h:aA w a n c es){B:Nat}{vs:Array Value}{T:TypeId}(hb:au w B vs T)(hT:T≠271)(i:Nat)(v:Value):aA (w.setCell ⟨B,i,none⟩ v) a n c es:=
 h.eB (fun b cur hc=>by
  have hne:b≠B:=by
   intro e;subst e;unfold au at hb;rw[hb] at hc;injection hc with hc;injection hc with _ hc _;exact hT hc
  exact((Mod.refl (fun k=>k=B) w).setCell (a:=⟨B,i,none⟩) (.inl rfl) v).block b (Array.getElem?_eq_some_iff.1 hc).1 hne) (by simp)
theorem Bv{es:List En}{s:ByteArray}(hz:∀x∈es,1≤x.no)(h:aN es s=0):mE es s=false:=by
 unfold aN at h;unfold mE
 split at h
 ·rename_i x hx;have:=hz x (List.mem_of_find?_eq_some hx);omega
 ·rename_i hx;rw[hx];rfl
theorem Gv{S:Fs}{a:An}(h:(S.make a).2.2≠0):(S.make a).1=S∧(S.make a).2.1=0:=by
 revert h;unfold Fs.make
 split
 ·intro _;exact⟨rfl,rfl⟩
 ·split
  ·intro _;exact⟨rfl,rfl⟩
  ·simp only
   split
   ·intro h;exact absurd rfl h
   ·intro _;exact⟨rfl,rfl⟩
theorem JP{S:Fs}(hn:gY S)(a:An){k:Int}{d:An}(hg:S.get k=some d):(S.make a).1.get k=some d:=by
 have hk:k≤S.last:=by
  have:=hn.low d (cx hg);rw[dx hg] at this;exact this.2
 unfold Fs.make
 split
 ·exact hg
 ·split
  ·exact hg
  ·rename_i v hv;simp only
   split
   ·rw[lB (S:=S.aR a.dev {v with b:=v.b+bR a.kind a.data.size,n:=v.n+1}) ⟨hn.hH,hn.low⟩,if_neg (by show¬k=S.last+1;omega)];exact hg
   ·exact hg
theorem NL{S:Fs}{c:Cr}{now dir:Int}{s:ByteArray}{a:An}(h:S.aW c dir s≠0):S.cS c now dir s a=(S,0,S.aW c dir s):=by unfold Fs.cS;rw[if_pos h]
theorem KU{S:Fs}{c:Cr}{now dir:Int}{s:ByteArray}{a d:An}(h:S.aW c dir s=0)(hg:S.get dir=some d)(hf:aN d.aB s≠0):S.cS c now dir s a=(S,0,7):=by
 unfold Fs.cS;rw[if_neg (by simp[h]),hg];simp only;rw[if_pos hf]
theorem G6{S:Fs}{c:Cr}{now dir:Int}{s:ByteArray}{a d:An}(h:S.aW c dir s=0)(hg:S.get dir=some d)(hf:aN d.aB s=0)(hm:(S.make {a with dev:=d.dev,uid:=c.u,gid:=c.g,mtime:=now,ctime:=now,an:=1}).2.2≠0) :
  S.cS c now dir s a=(S,0,(S.make {a with dev:=d.dev,uid:=c.u,gid:=c.g,mtime:=now,ctime:=now,an:=1}).2.2):=by
 unfold Fs.cS;rw[if_neg (by simp[h]),hg];simp only;rw[if_neg (by simp[hf]),if_pos hm]
theorem KS{S:Fs}{c:Cr}{now dir:Int}{s:ByteArray}{a d:An}(h:S.aW c dir s=0)(hg:S.get dir=some d)(hf:aN d.aB s=0)(hm:(S.make {a with dev:=d.dev,uid:=c.u,gid:=c.g,mtime:=now,ctime:=now,an:=1}).2.2=0) :
  S.cS c now dir s a=((S.make {a with dev:=d.dev,uid:=c.u,gid:=c.g,mtime:=now,ctime:=now,an:=1}).1.dk now dir (dy d.aB s (S.make {a with dev:=d.dev,uid:=c.u,gid:=c.g,mtime:=now,ctime:=now,an:=1}).2.1),(S.make {a with dev:=d.dev,uid:=c.u,gid:=c.g,mtime:=now,ctime:=now,an:=1}).2.1,0):=by
 unfold Fs.cS;rw[if_neg (by simp[h]),hg];simp only;rw[if_neg (by simp[hf]),if_neg (by simp[hm])]
theorem au.O2{w:World}{B:Nat}{x0 x1 x2 x3 x4 x5 x6 x7 x8 x9 x10 x11 v1 v4 v5 v6 v7 v8:Value}{T:TypeId}(h:au w B #[x0,x1,x2,x3,x4,x5,x6,x7,x8,x9,x10,x11] T) :
  au ((((((w.setCell ⟨B,1,none⟩ v1).setCell ⟨B,4,none⟩ v4).setCell ⟨B,5,none⟩ v5).setCell ⟨B,6,none⟩ v6).setCell ⟨B,7,none⟩ v7).setCell ⟨B,8,none⟩ v8) B #[x0,v1,x2,x3,v4,v5,v6,v7,v8,x9,x10,x11] T:=
 (((((h.set 1 v1).set 4 v4).set 5 v5).set 6 v6).set 7 v7).set 8 v8
theorem xZ(h:bh w pw R S){N:Nat}(hk:av S N)(hN:N≤999999)(c:Cr)(now dir:Int)(s:ByteArray)(hs:s.size≤9223372036854775807)(a:An)(ha:a.aB=[])(had:a.data.size≤9223372036854775807) :
  Calls Tryz.prog 111 #[.pointer (some ⟨pw,0,none⟩),.agg #[.int .i64 c.u,.int .i64 c.g],.int .i64 now,.int .i64 dir,.string s,a.v none 0 0] w fun e w'=>
   e=.returned (.tuple #[.int .i64 (S.cS c now dir s a).2.1,.int .i64 (S.cS c now dir s a).2.2])∧∃R',bh w' pw R' (S.cS c now dir s a).1∧aL (R.F pw) (R'.F pw) w w':=by
 have HP:=Um (fun w1 (ar:Up w w1)=>wo (h.ak ar) hk c dir s hs);unfold An.v;have HW:=Um h;clear h;go_enter Tryz.func111,Tryz.ntmps111;go_wp2_with fail;refine(HP.o _ (al (al (Below.refl _ _) _) _)).mono ?_;rintro e w1 ⟨⟨h0,rfl⟩|⟨h0,d,ea,el,ec,hg,rfl,he⟩,ar⟩
 ·have ax:=ao (al (al (Uq w) _) _) ar;have HB:=Um ax;have HC:=Um (NL (now:=now) (a:=a) h0);have hz:(S.aW c dir s==0)=false:=by simpa using h0
  generalize S.aW c dir s=pe at HC hz⊢;unfold An.v dh;clear h0 ar ax;go_wp2_with fail;go_ret2;rw[HC.o];exact⟨rfl,R,HW.o.ak (al HB.o _),aL.aq (al HB.o _)⟩
 ·have ax:=ao (al (al (Uq w) _) _) ar;have zt:au w1 w.heap.size #[.int .i64 c.u,.int .i64 c.g] 69:=((au.new w #[.int .i64 c.u,.int .i64 c.g] 69).eE (.cells #[.int .i64 a.no,.int .i64 a.dev,.int .i64 a.kind,.int .i64 a.mode,.int .i64 a.uid,.int .i64 a.gid,.int .i64 a.mtime,.int .i64 a.ctime,.int .i64 a.an,.int .i64 a.up,.string a.data,.slice none 0 0] 99)).ak ar;have Tk:au w1 (w.heap.size+1) #[.int .i64 a.no,.int .i64 a.dev,.int .i64 a.kind,.int .i64 a.mode,.int .i64 a.uid,.int .i64 a.gid,.int .i64 a.mtime,.int .i64 a.ctime,.int .i64 a.an,.int .i64 a.up,.string a.data,.slice none 0 0] 99:=by
   have:=((au.new (w.alloc (.cells #[.int .i64 c.u,.int .i64 c.g] 69)) #[.int .i64 a.no,.int .i64 a.dev,.int .i64 a.kind,.int .i64 a.mode,.int .i64 a.uid,.int .i64 a.gid,.int .i64 a.mtime,.int .i64 a.ctime,.int .i64 a.an,.int .i64 a.up,.string a.data,.slice none 0 0] 99).ak ar)
   rwa [World.size_alloc] at this
  have fy:=zt.eE (.cells #[.int .i64 d.no,.int .i64 d.dev,.int .i64 d.kind,.int .i64 d.mode,.int .i64 d.uid,.int .i64 d.gid,.int .i64 d.mtime,.int .i64 d.ctime,.int .i64 d.an,.int .i64 d.up,.string d.data,.slice ea el ec] 99);have hAX:=Tk.eE (.cells #[.int .i64 d.no,.int .i64 d.dev,.int .i64 d.kind,.int .i64 d.mode,.int .i64 d.uid,.int .i64 d.gid,.int .i64 d.mtime,.int .i64 d.ctime,.int .i64 d.an,.int .i64 d.up,.string d.data,.slice ea el ec] 99);have gJ:=au.new w1 #[.int .i64 d.no,.int .i64 d.dev,.int .i64 d.kind,.int .i64 d.mode,.int .i64 d.uid,.int .i64 d.gid,.int .i64 d.mtime,.int .i64 d.ctime,.int .i64 d.an,.int .i64 d.up,.string d.data,.slice ea el ec] 99;have et:=al ax (.cells #[.int .i64 d.no,.int .i64 d.dev,.int .i64 d.kind,.int .i64 d.mode,.int .i64 d.uid,.int .i64 d.gid,.int .i64 d.mtime,.int .i64 d.ctime,.int .i64 d.an,.int .i64 d.up,.string d.data,.slice ea el ec] 99);have hsz:w.heap.size+2≤w1.heap.size:=by have:=ar.size;simp at this;omega
  have heX:=(he.ak ar).ak ((Below.refl _ w1).alloc (aa _) (.cells #[.int .i64 d.no,.int .i64 d.dev,.int .i64 d.kind,.int .i64 d.mode,.int .i64 d.uid,.int .i64 d.gid,.int .i64 d.mtime,.int .i64 d.ctime,.int .i64 d.an,.int .i64 d.up,.string d.data,.slice ea el ec] 99));obtain⟨hdo,-,-,-⟩:=hk.get hg;have hel:=he.len;unfold An.v;clear zt he Tk ar ax;go_wp2_with fail;generalize w1.alloc _=X at fy hAX gJ et heX⊢;have HX:=Um et;have HC:=Um fy;have HA:=Um hAX;have HD:=Um gJ;have HE:=Um heX;have hfew:el≤1000000:=by rw[←hel];exact ae hdo.BB (by omega)
  have HF:=Um (nL d.aB ea el ec s X heX hdo.hH hfew);clear et fy hAX gJ heX hel;refine HF.o.mono ?_;rintro e w2 ⟨rfl,aD⟩;have jO:=ao HX.o aD;have Q4:=HC.o.ak aD;have jk:=HA.o.ak aD;have Ov:=HD.o.ak aD;clear HX HC HA HD HF;by_cases hf:aN d.aB s=0
  ·have hfz:(aN d.aB s==0)=true:=by simpa using hf
   have mixed:Tryz.prog.follows .mixedOrders=true:=by kernel_rfl
   have NV:=Um (G6 (a:=a) (now:=now) h0 hg hf);have HZ2:=Um (KS (a:=a) (now:=now) h0 hg hf);generalize aN d.aB s=f at hfz;go_wp2_with fail;obtain⟨cc,cf,cz⟩:=Q4.facts;obtain⟨dc,df,dz⟩:=Ov.facts;have hA3:=(jk.O2 (v1:=.int .i64 d.dev) (v4:=.int .i64 c.u) (v5:=.int .i64 c.g) (v6:=.int .i64 now) (v7:=.int .i64 now) (v8:=.int .i64 1)).drew;have rW:Up w ((((((w2.setCell ⟨w.heap.size+1,1,none⟩ (.int .i64 d.dev)).setCell ⟨w.heap.size+1,4,none⟩ (.int .i64 c.u)).setCell ⟨w.heap.size+1,5,none⟩ (.int .i64 c.g)).setCell ⟨w.heap.size+1,6,none⟩ (.int .i64 now)).setCell ⟨w.heap.size+1,7,none⟩ (.int .i64 now)).setCell ⟨w.heap.size+1,8,none⟩ (.int .i64 1)).drew:=
    ((((((jO.setCell (Nat.le_succ _) _).setCell (Nat.le_succ _) _).setCell (Nat.le_succ _) _).setCell (Nat.le_succ _) _).setCell (Nat.le_succ _) _).setCell (Nat.le_succ _) _).drew
   have hne:w.heap.size+1≠w1.heap.size:=by omega
   have Tf:au ((((((w2.setCell ⟨w.heap.size+1,1,none⟩ (.int .i64 d.dev)).setCell ⟨w.heap.size+1,4,none⟩ (.int .i64 c.u)).setCell ⟨w.heap.size+1,5,none⟩ (.int .i64 c.g)).setCell ⟨w.heap.size+1,6,none⟩ (.int .i64 now)).setCell ⟨w.heap.size+1,7,none⟩ (.int .i64 now)).setCell ⟨w.heap.size+1,8,none⟩ (.int .i64 1)).drew w1.heap.size _ _:=
    ((((((Ov.setOther ⟨w.heap.size+1,1,none⟩ (.int .i64 d.dev) hne).setOther ⟨w.heap.size+1,4,none⟩ (.int .i64 c.u) hne).setOther ⟨w.heap.size+1,5,none⟩ (.int .i64 c.g) hne).setOther ⟨w.heap.size+1,6,none⟩ (.int .i64 now) hne).setOther ⟨w.heap.size+1,7,none⟩ (.int .i64 now) hne).setOther ⟨w.heap.size+1,8,none⟩ (.int .i64 1) hne).drew
   have hT:99≠271:=by decide
   have hE3:aA ((((((w2.setCell ⟨w.heap.size+1,1,none⟩ (.int .i64 d.dev)).setCell ⟨w.heap.size+1,4,none⟩ (.int .i64 c.u)).setCell ⟨w.heap.size+1,5,none⟩ (.int .i64 c.g)).setCell ⟨w.heap.size+1,6,none⟩ (.int .i64 now)).setCell ⟨w.heap.size+1,7,none⟩ (.int .i64 now)).setCell ⟨w.heap.size+1,8,none⟩ (.int .i64 1)).drew ea el ec d.aB:=
    (((((((HE.o.ak aD).lP jk hT 1 (.int .i64 d.dev)).lP (jk.set 1 _) hT 4 (.int .i64 c.u)).lP ((jk.set 1 _).set 4 _) hT 5 (.int .i64 c.g)).lP (((jk.set 1 _).set 4 _).set 5 _) hT 6 (.int .i64 now)).lP ((((jk.set 1 _).set 4 _).set 5 _).set 6 _) hT 7 (.int .i64 now)).lP (((((jk.set 1 _).set 4 _).set 5 _).set 6 _).set 7 _) hT 8 (.int .i64 1)).ak (Below.refl _ _).drew
   have vg:=Um hE3;have RB:=Um hA3;have ez:=Um rW;have OQ:=Um Tf;obtain⟨ac,af,az⟩:=jk.facts;clear hA3 rW Tf hE3 hT
   go_region
   have hA4:=RB.o;have Ox:=ez.o;have hD4:=OQ.o;have DB:=vg.o;clear vg RB ez OQ jO jk Q4 Ov ac af az cc cf cz dc df dz;generalize ((((((w2.setCell ⟨w.heap.size+1,1,none⟩ (.int .i64 d.dev)).setCell ⟨w.heap.size+1,4,none⟩ (.int .i64 c.u)).setCell ⟨w.heap.size+1,5,none⟩ (.int .i64 c.g)).setCell ⟨w.heap.size+1,6,none⟩ (.int .i64 now)).setCell ⟨w.heap.size+1,7,none⟩ (.int .i64 now)).setCell ⟨w.heap.size+1,8,none⟩ (.int .i64 1)).drew=Y at hA4 Ox hD4 DB⊢;have HA:=Um hA4;have HB:=Um Ox;have HD:=Um hD4;have Ru:=Um DB;obtain⟨q0,q1,q2,q3,q4,q5,q6,q7,q8,q9,q10,q11⟩:=hA4.eX;clear hA4 Ox hD4 DB;go_wp2_with fail;have jU:=E7 (HW.o.ak HB.o) hk (by omega) {a with dev:=d.dev,uid:=c.u,gid:=c.g,mtime:=now,ctime:=now,an:=1} none 0 0 (by rw[show({a with dev:=d.dev,uid:=c.u,gid:=c.g,mtime:=now,ctime:=now,an:=1}:An).aB=a.aB from rfl,ha];exact aA.nil _) had;unfold An.v at jU;refine jU.mono ?_;clear jU;rintro e w4 ⟨rfl,R4,yF,lJ⟩;have hst:aL (R.F pw) (R4.F pw) w w4:=(aL.aq HB.o).trans lJ;by_cases hm:(S.make {a with dev:=d.dev,uid:=c.u,gid:=c.g,mtime:=now,ctime:=now,an:=1}).2.2=0
   ·have hmz:((S.make {a with dev:=d.dev,uid:=c.u,gid:=c.g,mtime:=now,ctime:=now,an:=1}).2.2==0)=true:=by simpa using hm
    have HZ:=Um (HZ2.o hm);have wY:=HD.o.wd (HW.o.ak HB.o) lJ rfl;have he4:=Ru.o.wd (HW.o.ak HB.o) lJ;have hg4:=JP hk.nums ({a with dev:=d.dev,uid:=c.u,gid:=c.g,mtime:=now,ctime:=now,an:=1}) hg;have H6:=Um (BC d.aB ea el ec s (S.make {a with dev:=d.dev,uid:=c.u,gid:=c.g,mtime:=now,ctime:=now,an:=1}).2.1 w4 he4 hdo.hH hfew (Bv hdo.nz hf));have Ip:=Um (fun l a n c w5 (b9:Up w4 w5) (hl:aA w5 a n c l)=>vP (yF.ak b9) dir now d hg4 l a n c hl);have LV:=Um hst;obtain⟨dc4,df4,dz4⟩:=wY.facts;generalize S.make {a with dev:=d.dev,uid:=c.u,gid:=c.g,mtime:=now,ctime:=now,an:=1}=Mk at HZ hmz H6 Ip LV⊢;clear hm wY he4 hg4 yF hst lJ NV HZ2 q0 q1 q2 q3 q4 q5 q6 q7 q8 q9 q10 q11;go_wp2_with fail;refine H6.o.mono ?_;rintro e w5 ⟨⟨a',n',c',rfl,SG⟩,b9⟩;have HT:=Um (Ip.o _ _ _ _ w5 b9 SG);have hZ:=Um b9;clear SG b9 Ip H6;go_wp2_with fail;refine HT.o.mono ?_;rintro e w6 ⟨rfl,R6,Bc,lV⟩;have BY:=Um (ag Bc lV);clear Bc lV HT;go_wp2_with fail;go_ret2;rw[HZ.o];exact⟨rfl,R6,BY.o.1,(LV.o.trans (aL.aq hZ.o)).trans BY.o.2⟩
   ·have HZ:=Um (NV.o hm);have se:=Um yF;have LV:=Um hst;have hmz:((S.make {a with dev:=d.dev,uid:=c.u,gid:=c.g,mtime:=now,ctime:=now,an:=1}).2.2==0)=false:=by simpa using hm
    obtain⟨hsm,J3⟩:=Gv hm;rw[hsm] at se;rw[J3];generalize (S.make {a with dev:=d.dev,uid:=c.u,gid:=c.g,mtime:=now,ctime:=now,an:=1}).2.2=me at HZ hmz⊢;clear hm hsm J3 yF hst lJ;go_wp2_with fail;go_ret2;rw[HZ.o];exact⟨rfl,R4,se.o,LV.o⟩
  ·have hfz:(aN d.aB s==0)=false:=by simpa using hf
   have HZ:=Um (KU (a:=a) (now:=now) h0 hg hf);generalize aN d.aB s=f at hfz;have HB:=Um jO;clear jO Q4 jk Ov;go_wp2_with fail;go_ret2;rw[HZ.o];exact⟨rfl,R,HW.o.ak HB.o,aL.aq HB.o⟩
end
end
section
open Go.RowKit
theorem vT(s:ByteArray)(w:World)(hs:s.size≤100000) :
  Calls Tryz.prog 173 #[.string s] w fun e w'=>e=.returned (.bool (eT s.data.toList))∧w=w':=by
 have HT:=Um (zQ s w (by omega));have HS:=Um (show eT s.data.toList=(eD s.data.toList==[]||eD s.data.toList==[46]||eD s.data.toList==[46,46]) from rfl);generalize eD s.data.toList=t at HT HS;generalize eT s.data.toList=b at HS;have htl:(str t).toList=t:=by rw[aC,aH]
 by_cases h1:t=[]
 ·subst h1;have hb:b=true:=by rw[HS.o];rfl
  subst hb;go_enter Tryz.func173,Tryz.ntmps173;go_wp2_with (refine HT.o.mono ?_;rintro e w1 ⟨rfl,rfl⟩);go_ret;exact⟨rfl,rfl⟩
 ·have n1:t.isEmpty=false:=by simpa using h1
  by_cases h2:t=[46]
  ·subst h2;have hb:b=true:=by rw[HS.o];rfl
   subst hb;go_enter Tryz.func173,Tryz.ntmps173;go_wp2_with (refine HT.o.mono ?_;rintro e w1 ⟨rfl,rfl⟩);go_ret;exact⟨rfl,rfl⟩
  ·have n2:(t==[46])=false:=by simpa using h2
   by_cases h3:t=[46,46]
   ·subst h3;have hb:b=true:=by rw[HS.o];rfl
    subst hb;go_enter Tryz.func173,Tryz.ntmps173;go_wp2_with (refine HT.o.mono ?_;rintro e w1 ⟨rfl,rfl⟩);go_ret;exact⟨rfl,rfl⟩
   ·have n3:(t==[46,46])=false:=by simpa using h3
    have hb:b=false:=by rw[HS.o,n2,n3];simpa using h1
    subst hb;clear h1 h2 h3;go_enter Tryz.func173,Tryz.ntmps173;go_wp2_with (refine HT.o.mono ?_;rintro e w1 ⟨rfl,rfl⟩);go_ret;exact⟨rfl,rfl⟩
def bV(Q:Exit→Act→World→Prop):Prop:=∀c d v a w,Q (.panic c) (Act.put a d v) w→Q (.panic c) a w
theorem cZ{P:Program}{fn:Func}{R:Ending→World→Prop}:bV (bodyPost P fn R):=uR
theorem cY{K:Act→World→Prop}{Q:Exit→Act→World→Prop}(h:bV Q):bV (Exit.then K Q):=fun c d v a w hq=>h c d v a w hq
theorem cw{i:Nat}{Q:Exit→Act→World→Prop}(h:bV Q):bV (Exit.inBlock i Q):=fun c d v a w hq=>h c d v a w hq
theorem cJ{Q:Exit→Act→World→Prop}(h:bV Q):bV (Exit.noGoto Q):=fun c d v a w hq=>h c d v a w hq
theorem rS{W w:World}{B:Nat}{v0 v1 v2 v3 v4 v5 v6 v7 v8 v9 v10 v11:Value}(h:(∀b o,b<W.heap.size→w.cell? ⟨b,o,none⟩=W.cell? ⟨b,o,none⟩)∧Up W w)(hB:W.heap.size≤B) :
  (∀b o,b<W.heap.size→((((((((((((w.setCell ⟨B,0,none⟩ v0).setCell ⟨B,1,none⟩ v1).setCell ⟨B,2,none⟩ v2).setCell ⟨B,3,none⟩ v3).setCell ⟨B,4,none⟩ v4).setCell ⟨B,5,none⟩ v5).setCell ⟨B,6,none⟩ v6).setCell ⟨B,7,none⟩ v7).setCell ⟨B,8,none⟩ v8).setCell ⟨B,9,none⟩ v9).setCell ⟨B,10,none⟩ v10).setCell ⟨B,11,none⟩ v11).cell? ⟨b,o,none⟩=W.cell? ⟨b,o,none⟩)∧
   Up W ((((((((((((w.setCell ⟨B,0,none⟩ v0).setCell ⟨B,1,none⟩ v1).setCell ⟨B,2,none⟩ v2).setCell ⟨B,3,none⟩ v3).setCell ⟨B,4,none⟩ v4).setCell ⟨B,5,none⟩ v5).setCell ⟨B,6,none⟩ v6).setCell ⟨B,7,none⟩ v7).setCell ⟨B,8,none⟩ v8).setCell ⟨B,9,none⟩ v9).setCell ⟨B,10,none⟩ v10).setCell ⟨B,11,none⟩ v11):=
 mx (aM h.2 hB)
section
variable{w w':World}{pw:Nat}{R:Rp}{S:Fs}
theorem Fk{S:Fs}{c:Cr}{k:Int}{p:List UInt8}(h:S.get k=none):S.step c k p=(0,9):=by unfold Fs.step;rw[h]
theorem step_eq{S:Fs}{c:Cr}{k:Int}{p:List UInt8}{d:An}(h:S.get k=some d):S.step c k p=if d.kind≠1 then(0,9) else if d.may c 1=false then(0,6) else if p=[46,46] then(S.aQ k,0) else if 255<p.length then(0,13) else(S.over (aN d.aB (str p)),0):=by
 unfold Fs.step;rw[h]
theorem IN(h:bh w pw R S){N:Nat}(hk:av S N)(hN:N≤999999){Bt:Nat}(c:Cr)(k:Int){ta:Option Addr}{tl tc:Nat}{hops:Int}{must:Bool}
  (hb:au w Bt #[.pointer (some ⟨pw,0,none⟩),.int .i64 c.u,.int .i64 c.g,.int .i64 k,.slice ta tl tc,.int .i64 hops,.bool must] 257) (p:ByteArray) :
  Calls Tryz.prog 174 #[.pointer (some ⟨Bt,0,none⟩),.string p] w fun e w'=>e=.returned (.tuple #[.int .i64 (S.step c k p.data.toList).1,.int .i64 (S.step c k p.data.toList).2])∧Up w w':=by
 have HW:=Um h;have HK:=Um hk;have HBT:=Um hb;have mixed:Tryz.prog.follows .mixedOrders=true:=by kernel_rfl
 obtain⟨bc,bf,bz⟩:=hb.facts;obtain⟨pc,-,pz⟩:=h.bd.facts;have HBC:=Um bc;have vr:=Um pc;clear h hk hb
 cases hg:S.get k with
 |none=>
  have HG:=Um (fun w1 (ar:Up w w1)=>fN (HW.o.ak ar) hg);have HE:=Um (Fk (c:=c) (p:=p.data.toList) hg);unfold An.v dh at HG;clear hg;go_enter Tryz.func174,Tryz.ntmps174;go_upto_region 1 with fail
  go_cut [6,7] (fun t6 t7 wx=>∃Bd:Nat,t6=.pointer (some ⟨Bd,0,none⟩)∧t7=.bool false∧Up w wx)
  case first=>
   go_wp2_with fail;have hzz:w.heap.size≤w.heap.size:=aa _
   go_region_held3 (fun w'=>(∀b o,b<w.heap.size→w'.cell? ⟨b,o,none⟩=w.cell? ⟨b,o,none⟩)∧Up w w') (first|with_reducible exact rS (by assumption) (by assumption)|(first|with_reducible assumption|with_reducible exact ck _|with_reducible exact bI _|with_reducible exact bN (by assumption) (by assumption)|with_reducible exact bB (by assumption) _|with_reducible exact bu (by assumption) _|with_reducible exact bm (by assumption) (by assumption)|with_reducible exact cj (by assumption) (by assumption)))
    ((go_at_call 106;((with_reducible refine(HG.o _ (And.right ‹(∀b o,b<w.heap.size→_)∧Up w _›)).mono ?_);rintro e w4 ⟨rfl,b9⟩;have Pg:=ae (And.right ‹(∀b o,b<w.heap.size→_)∧Up w _›).size b9.size;try (have hbq:=gj b9;obtain⟨bqc,bqf,bqz⟩:=hbq.facts))))
   all_goals
    obtain⟨-,lJ⟩:=‹_∧Up w _›;have sO:=Um lJ;clear lJ;go_wp2_with fail;go_meet;exact⟨_,rfl,rfl,sO.o⟩
  case rest=>
   obtain⟨Bd,rfl,rfl,hS⟩:=hcut;have HB:=Um hS;clear hS bc bf bz pc pz;go_wp2_with fail;go_ret2;rw[HE.o];exact⟨rfl,HB.o⟩
 |some d=>
  obtain⟨ea,el,ec,he,hG⟩:=eA HW.o hg;have jW:=Um he;have HG:=Um hG;have HQ:=Um (step_eq (c:=c) (p:=p.data.toList) hg);have HHG:=Um hg;have hfew:el≤1000000:=by rw[←he.len];exact ae (HK.o.get hg).1.BB (by omega)
  have Qu:=Um hfew;unfold An.v at HG;clear hg he hG hfew;go_enter Tryz.func174,Tryz.ntmps174;go_upto_region 1 with fail
  go_cut [6,7] (fun t6 t7 wx=>∃Bd:Nat,t6=.pointer (some ⟨Bd,0,none⟩)∧t7=.bool true∧au wx Bd #[.int .i64 d.no,.int .i64 d.dev,.int .i64 d.kind,.int .i64 d.mode,.int .i64 d.uid,.int .i64 d.gid,.int .i64 d.mtime,.int .i64 d.ctime,.int .i64 d.an,.int .i64 d.up,.string d.data,.slice ea el ec] 99∧Up w wx)
  case first=>
   go_wp2_with fail;have hzz:w.heap.size≤w.heap.size:=aa _
   go_region_held3 (fun w'=>(∀b o,b<w.heap.size→w'.cell? ⟨b,o,none⟩=w.cell? ⟨b,o,none⟩)∧Up w w') (first|with_reducible exact rS (by assumption) (by assumption)|(first|with_reducible assumption|with_reducible exact ck _|with_reducible exact bI _|with_reducible exact bN (by assumption) (by assumption)|with_reducible exact bB (by assumption) _|with_reducible exact bu (by assumption) _|with_reducible exact bm (by assumption) (by assumption)|with_reducible exact cj (by assumption) (by assumption)))
    ((go_at_call 106;((with_reducible refine(HG.o _ (And.right ‹(∀b o,b<w.heap.size→_)∧Up w _›)).mono ?_);rintro e w4 ⟨rfl,b9⟩;have Pg:=ae (And.right ‹(∀b o,b<w.heap.size→_)∧Up w _›).size b9.size;try (have hbq:=gj b9;obtain⟨bqc,bqf,bqz⟩:=hbq.facts))))
   all_goals
    obtain⟨-,lJ⟩:=‹_∧Up w _›;have sO:=Um lJ
    try (have zv:=Um hbq)
    clear lJ;go_wp2_with fail;go_meet;exact⟨_,rfl,rfl,by first|exact zv.o.dR|exact au.new _ _ _,sO.o⟩
  case rest=>
   obtain⟨Bd,rfl,rfl,gJ,ax⟩:=hcut;generalize wc=X at gJ ax⊢;have aJ:=Um ax;have vJ:=Um gJ;have EE:=HBT.o.ak ax;clear bc bf bz;obtain⟨bc,bf,bz⟩:=EE.facts;obtain⟨dc,df,dz⟩:=gJ.facts;clear ax gJ EE pc;by_cases h1:d.kind=1
   ·have mH:(d.kind != 1)=false:=by simpa using h1
    have l7:=Um (HQ.o.trans (if_neg (by simp[h1])));have lM:=Um (fun w=>nk c d ea el ec 1 w);unfold Cr.v An.v at lM;clear h1 HQ;go_wp2_with fail;refine ay 5 mixed (by kernel_rfl) (show bV _ from by repeat (first|exact cZ|refine cY ?_|refine cw ?_)) ?_;simp only[List.take_succ_cons,List.take_zero,List.drop_succ_cons,List.drop_zero]
    repeat still_step
    refine wpStill_nil ?_;go_wp2_with fail;refine(lM.o _).mono ?_;rintro e w2 ⟨rfl,aD⟩;have bJ:=aJ.o.drew.trans (aD.mono aJ.o.size);have cV:=Um bJ;have pQ:=HBT.o.ak bJ;have Ov:=vJ.o.drew.ak aD;have HD2:=Um Ov;have pc2:w2.cell? ⟨pw,0,none⟩=some (.pointer (some ⟨R.pt,0,none⟩)):=(bJ.cell (p:=⟨pw,0,none⟩) pz).trans (vr.o 0);clear bc bf bz dc df dz aD;obtain⟨bc,bf,bz⟩:=pQ.facts;obtain⟨dc,df,dz⟩:=Ov.facts;clear pQ Ov bJ
    cases hm:d.may c 1 with
    |false=>
     have HE:=Um (l7.o.trans (if_pos hm));clear hm;go_wp2_with fail;go_ret2;rw[HE.o];exact⟨rfl,cV.o⟩
    |true=>
     have qq:=Um (l7.o.trans (if_neg (by rw[hm];decide)));clear hm l7;by_cases h2:p.data.toList=[46,46]
     ·have kA:p.toList=[46,46]:=by rw[aC];exact h2
      have HE:=Um (qq.o.trans (if_pos h2));have HAb:=Um (fun w1 (ar:Up w w1)=>kG (HW.o.ak ar) HK.o k);clear h2 qq;go_wp2_with fail;refine ay 8 mixed (by kernel_rfl) (show bV _ from by repeat (first|exact cZ|refine cY ?_|refine cw ?_)) ?_;simp only[List.take_succ_cons,List.take_zero,List.drop_succ_cons,List.drop_zero]
      repeat still_step
      refine wpStill_nil ?_;go_wp2_with fail;refine(HAb.o _ cV.o.drew).mono ?_;rintro e w3 ⟨rfl,bJ⟩;have ez:=Um (cV.o.drew.trans (bJ.mono cV.o.size));clear bJ;go_wp2_with fail;go_ret2;rw[HE.o];exact⟨rfl,ez.o⟩
     ·have kA:(p.toList==[46,46])=false:=by rw[aC];simpa using h2
      have H5:=Um (qq.o.trans (if_neg h2));have hpl:p.data.toList.length=p.size:=Array.length_toList;clear h2 qq;by_cases h3:255<p.size
      ·have HE:=Um (H5.o.trans (if_pos (by rw[hpl];exact h3)));have vF:(255:Int)<(p.size:Int):=by omega
       clear hpl;go_wp2_with fail;go_ret2;rw[HE.o];exact⟨rfl,cV.o⟩
      ·have HE:=Um (H5.o.trans (if_neg (by rw[hpl];exact h3)));rw[eC] at HE;have vF:¬(255:Int)<(p.size:Int):=by omega
       have HF:=Um (fun w1 (ar:Up w w1)=>nL d.aB ea el ec p w1 (jW.o.ak ar) (HK.o.get HHG.o).1.hH Qu.o);have vt:=Um (fun w1 (ar:Up w w1)=>mX (HW.o.ak ar) HK.o.d1 (aN d.aB p));clear hpl H5 h3;generalize aN d.aB p=f at HE HF vt;go_wp2_with fail;have hzz:w2.heap.size≤w2.heap.size:=aa _;have Dk:=cV.o.size
       go_region_held3 (fun w'=>(∀b o,b<w2.heap.size→w'.cell? ⟨b,o,none⟩=w2.cell? ⟨b,o,none⟩)∧Up w2 w') (first|with_reducible assumption|with_reducible exact ck _|with_reducible exact bI _|with_reducible exact bN (by assumption) (by assumption)|with_reducible exact bB (by assumption) _|with_reducible exact bu (by assumption) _|with_reducible exact bm (by assumption) (by assumption)|with_reducible exact cj (by assumption) (by assumption))
        ((first|(go_at_call 121;((with_reducible refine(HF.o _ (cV.o.trans ((And.right ‹(∀b o,b<w2.heap.size→_)∧Up w2 _›).mono Dk))).mono ?_);rintro e w4 ⟨rfl,b9⟩))|(go_at_call 122;((with_reducible refine(vt.o _ (cV.o.trans ((And.right ‹(∀b o,b<w2.heap.size→_)∧Up w2 _›).mono Dk))).mono ?_);rintro e w4 ⟨rfl,b9⟩))))
       all_goals
        obtain⟨-,lJ⟩:=‹_∧Up w2 _›;have oh:=Um (cV.o.trans (lJ.mono Dk));clear lJ;go_wp2_with fail;go_ret2;rw[HE.o];exact⟨rfl,oh.o⟩
   ·have mH:(d.kind != 1)=true:=by simpa using h1
    have HE:=Um (HQ.o.trans (if_pos h1));clear h1;go_wp2_with fail;go_ret2;rw[HE.o];exact⟨rfl,aJ.o⟩
end
end
end Go.Proofs.YtinflmadpnigfaaGreatDoor
