import Derived.Deep.AppendLies
import Derived.Maps.AppendAt
import Derived.Laws.OwnMore
import Derived.OwnWalk
import Derived.Test.YtihdbncoijhihaaGreatCL1
import Derived.Test.YtihdbncoijhihaaGreatProg
set_option linter.unusedVariables false
set_option linter.unusedSimpArgs false
set_option maxRecDepth 100000
set_option maxHeartbeats 16000000
namespace Go.Proofs.YtihdbncoijhihaaGreat
section
open Go.RowKit
section
variable {α:Type} {enc:α→List Value} {sz:Nat}
theorem flat_len (hl:∀ x,(enc x).length=sz):∀ (xs:List α),(xs.flatMap enc).length=xs.length*sz
 | []=>by simp
 | x :: xs=>by rw [List.flatMap_cons,List.length_append,flat_len hl xs,hl,List.length_cons,Nat.succ_mul,Nat.add_comm]
theorem flat_get (hl:∀ x,(enc x).length=sz):∀ (xs:List α) (i j:Nat) (hi:i<xs.length),j<sz→(xs.flatMap enc)[i*sz+j]? = (enc xs[i])[j]?
 | [],i,j,hi,_=>by simp at hi
 | x :: xs,0,j,_,hj=>by
  rw [List.flatMap_cons,Nat.zero_mul,Nat.zero_add,List.getElem?_append_left (by rw [hl];exact hj)];rfl
 | x :: xs,i+1,j,hi,hj=>by
  rw [List.flatMap_cons,List.getElem?_append_right (by rw [hl,Nat.succ_mul];omega),hl,show (i+1)*sz+j - sz=i*sz+j by rw [Nat.succ_mul];omega];exact flat_get hl xs i j (by simpa using hi) hj
def setAll (l:List Value) (o:Nat):List Value→List Value
 | []=>l
 | v :: vs=>setAll (l.set o v) (o+1) vs
theorem setAll_append (xs:List Value):∀ (vs:List Value) (l:List Value) (o:Nat),setAll (xs ++ l) (xs.length+o) vs=xs ++ setAll l o vs
 | [],_,_=>rfl
 | v :: vs,l,o=>by
  unfold setAll;rw [List.set_append_right _ _ (by omega),show xs.length+o - xs.length=o by omega,Nat.add_assoc];exact setAll_append xs vs _ _
theorem setAll_head:∀ (vs bs rest:List Value),bs.length=vs.length→setAll (bs ++ rest) 0 vs=vs ++ rest
 | [],bs,rest,h=>by
  simp at h;subst h;rfl
 | v :: vs,[],rest,h=>by simp at h
 | v :: vs,b :: bs,rest,h=>by
  unfold setAll;rw [List.cons_append,List.set_cons_zero];have:=setAll_append [v] vs (bs ++ rest) 0;simp only [List.length_singleton,Nat.add_zero,List.singleton_append] at this;rw [Nat.zero_add,this,setAll_head vs bs rest (by simpa using h)];rfl
theorem setAll_flat (hl:∀ x,(enc x).length=sz) (y:α):∀ (xs:List α) (k:Nat),k<xs.length→setAll (xs.flatMap enc) (k*sz) (enc y)=(xs.set k y).flatMap enc
 | [],k,h=>by simp at h
 | x :: xs,0,_=>by
  rw [List.flatMap_cons,Nat.zero_mul,setAll_head _ _ _ (by rw [hl,hl])];rfl
 | x :: xs,k+1,h=>by
  rw [List.flatMap_cons,show (k+1)*sz=(enc x).length+k*sz by rw [hl,Nat.succ_mul,Nat.add_comm],setAll_append,setAll_flat hl y xs k (by simpa using h)];rfl
theorem setAll_take (N:Nat):∀ (vs l:List Value) (o:Nat),(setAll l o vs).take N=setAll (l.take N) o vs
 | [],_,_=>rfl
 | v :: vs,l,o=>by
  unfold setAll;rw [setAll_take N vs];congr 1;exact List.take_set
theorem setAll_length:∀ (vs l:List Value) (o:Nat),(setAll l o vs).length=l.length
 | [],_,_=>rfl
 | v :: vs,l,o=>by unfold setAll;rw [setAll_length vs,List.length_set]
end
def putRow (w:World) (g o:Nat):List Value→World
 | []=>w
 | v :: vs=>putRow (w.setCell ⟨g,o,none⟩ v) g (o+1) vs
theorem putRow_blk {T:TypeId} {g:Nat}:∀ (vs:List Value) (w:World) (o:Nat) (cur:Array Value),Blk w g cur T→Blk (putRow w g o vs) g (setAll cur.toList o vs).toArray T
 | [],w,o,cur,h=>by simpa [putRow,setAll] using h
 | v :: vs,w,o,cur,h=>by
  unfold putRow setAll;have:=putRow_blk vs _ (o+1) _ (h.set o v);simpa using this
theorem putRow_mod {g:Nat}:∀ (vs:List Value) (w:World) (o:Nat),Mod (fun k=>k=g) w (putRow w g o vs)
 | [],_,_=>Mod.refl _ _
 | v :: vs,w,o=>((Mod.refl (fun k=>k=g) w).setCell (a:=⟨g,o,none⟩) (.inl rfl) v).trans (putRow_mod vs _ _)
section
variable {w w':World} {base:Nat} {e:TypeId} {sz n:Nat} {v:Value} {xs:List Value}
theorem own_mod {S:Nat→Prop} (h:w.ownsRow base e sz v n xs) (hm:Mod S w w') (hs:∀ k,S k→v.ownBlock≠some k):w'.ownsRow base e sz v n xs:=by
 refine ⟨h.1,h.2.imp id fun ⟨g,cap,cur,hv,hb,hg,rest⟩=>⟨g,cap,cur,hv,hb,?_,rest⟩⟩;subst hv;rw [hm.block g (Array.getElem?_eq_some_iff.1 hg).1 (fun h=>hs g h rfl)];exact hg
theorem own_below {N:Nat} (h:w.ownsRow base e sz v n xs) (hm:Below N w w') (hN:w.heap.size≤N):w'.ownsRow base e sz v n xs:=by
 refine ⟨h.1,h.2.imp id fun ⟨g,cap,cur,hv,hb,hg,rest⟩=>⟨g,cap,cur,hv,hb,?_,rest⟩⟩;rw [hm.block g (Nat.lt_of_lt_of_le (Array.getElem?_eq_some_iff.1 hg).1 hN)];exact hg
theorem own_grown_mod {row:Option Nat} (h:w.grownBy w' row):Mod (fun k=>row=some k) w w':=
 ⟨h.os,h.tape,h.output,h.size,fun k hk hs=>h.block k hk (fun e=>hs e.symm)⟩
theorem own_form (h:w.ownsRow base e sz v n xs):∃ a cap,v=.slice a n cap∧n≤cap∧cap≤9223372036854775807∧((a=none∧n=0∧cap=0)∨∃ g,a=some ⟨g,0,none⟩∧base≤g∧g<w.heap.size):=by
 rcases h.2 with ⟨rfl,rfl⟩|⟨g,cap,cur,rfl,hb,hg,h1,h2,-,-⟩
 ·exact ⟨none,0,rfl,Nat.le_refl _,by omega,.inl ⟨rfl,rfl,rfl⟩⟩
 ·exact ⟨_,cap,rfl,h1,h2,.inr ⟨g,rfl,hb,(Array.getElem?_eq_some_iff.1 hg).1⟩⟩
theorem own_slice {α:Type} {enc:α→List Value} {R:List Value→α→Prop} {a:Option Addr} {cap:Nat} {ys:List α} (hpos:0<sz) (hl:∀ x,(enc x).length=sz) (hR:∀ x,R (enc x) x)
  (h:w.ownsRow base e sz (.slice a n cap) n (ys.flatMap enc)):SliceAt w sz R a n cap ys:=by
 have hn:ys.length=n:=by
  have:=h.1;rw [flat_len hl] at this;exact Nat.eq_of_mul_eq_mul_right hpos this
 rcases h.2 with ⟨hv,rfl⟩|⟨g,cap',cur,hv,hb,hg,h1,h2,h3,h4⟩
 ·injection hv with e1 e2 e3;subst e1 e3;exact⟨hn,Nat.le_refl _,by omega,.inl rfl⟩
 ·injection hv with e1 e2 e3;subst e1 e3;refine ⟨hn,h1,h2,.inr ⟨g,0,rfl,(Array.getElem?_eq_some_iff.1 hg).1,fun i hi=>⟨enc ys[i],hl _,hR _,fun j hj=>?_⟩⟩⟩;rw [hl] at hj;have hget:=flat_get hl ys i j hi hj;rw [←h4] at hget;rw [List.getElem?_take_of_lt (by have:(i+1)*sz≤n*sz:=Nat.mul_le_mul_right _ (by omega);rw [Nat.succ_mul] at this;omega)] at hget;rw [World.cell?,hg];simp only [Nat.zero_add];rw [Array.getElem?_toList] at hget;rw [hget,List.getElem?_eq_getElem (by rw [hl];exact hj)];rfl
theorem own_put {α:Type} {enc:α→List Value} {g cap:Nat} {ys:List α} (hpos:0<sz) (hl:∀ x,(enc x).length=sz) (h:w.ownsRow base e sz (.slice (some ⟨g,0,none⟩) n cap) n (ys.flatMap enc)) (k:Nat) (hk:k<n) (y:α) :
  (putRow w g (k*sz) (enc y)).ownsRow base e sz (.slice (some ⟨g,0,none⟩) n cap) n ((ys.set k y).flatMap enc):=by
 have hn:ys.length=n:=by
  have:=h.1;rw [flat_len hl] at this;exact Nat.eq_of_mul_eq_mul_right hpos this
 refine ⟨by rw [flat_len hl,List.length_set,hn],.inr ?_⟩;rcases h.2 with ⟨hv,rfl⟩|⟨g',cap',cur,hv,hb,hg,h1,h2,h3,h4⟩
 ·cases hv
 ·injection hv with e1 e2 e3;injection e1 with e1;injection e1 with e1;subst e1 e3;refine ⟨g,cap,_,rfl,hb,putRow_blk _ _ _ _ hg,h1,h2,?_,?_⟩
  ·rw [List.size_toArray,setAll_length,Array.length_toList,h3]
  ·rw [setAll_take,h4,setAll_flat hl y ys k (by omega)]
end
section
variable {P:Program} {w:World} {base:Nat} {e t:TypeId} {sz by_ n:Nat} {v:Value} {xs:List Value} {i:TypeInfo} {z:Value}
theorem step_app (ty:TypeId) (ht:P.underlying t=some (.slice e)) (hi:P.info? e=some i) (hz:i.zero=some z) (hsize:i.size=sz) (hby:i.bytes=by_) (hzs:z.cells.size=sz) (hsz:0<sz)
  (hown:w.ownsRow base e sz v n xs) (ad:Addr) (m c:Nat) (news:List Value) (hl:news.length=m*sz) (hnews:∀ j u,news[j]? = some u→w.cell? (ad.add j)=some u) (h1:∀ u∈news,u.oneCell'=true)
  (hm:0<m) (h63:n+m≤maxLen) (hbytes:(n+m)*by_≤140737488355328) (hbase:base≤w.heap.size) :
  ∃ g cap W,(Builtin.append_ #[t,t] ty #[v,.slice (some ad) m c]).run P w=.ok (.slice (some ⟨g,0,none⟩) (n+m) cap) W∧
   W.ownsRow base e sz (.slice (some ⟨g,0,none⟩) (n+m) cap) (n+m) (xs ++ news)∧Mod (fun k=>v.ownBlock=some k) w W∧(v.ownBlock=some g∨g=w.heap.size):=by
 obtain⟨g,cap,W,h2,h3,h4,h5,-⟩:=run_append_lies w t ty base e i z sz by_ ht hi hz hsize hby hzs hsz v n xs hown ad m c news hl hnews h1 hm h63 hbytes hbase _ rfl;exact⟨g,cap,W,h2,h3,own_grown_mod h4,h5⟩
theorem step_app_nil (ty:TypeId) (ht:P.underlying t=some (.slice e)) (hi:P.info? e=some i) (hown:w.ownsRow base e sz v n xs) (a:Option Addr) (c:Nat) :
  (Builtin.append_ #[t,t] ty #[v,.slice a 0 c]).run P w=.ok v w:=by
 rcases hown.2 with ⟨rfl,rfl⟩|⟨g,cap,cur,rfl,_,_,hnc,_⟩
 ·cases a <;> simp [Builtin.append_,run_underlying ht,sizeOf,typeInfo,hi,Builtin.lenOf,Builtin.firstCells,loadCells,loadCellsFrom]
 ·cases a <;> simp [Builtin.append_,run_underlying ht,sizeOf,typeInfo,hi,Builtin.lenOf,Builtin.firstCells,hnc,storeCells,loadCells,loadCellsFrom]
theorem step_app_any {g0 c0:Nat} (ty:TypeId) (ht:P.underlying t=some (.slice e)) (hi:P.info? e=some i) (hz:i.zero=some z) (hsize:i.size=sz) (hby:i.bytes=by_) (hzs:z.cells.size=sz) (hsz:0<sz)
  (hown:w.ownsRow base e sz (.slice (some ⟨g0,0,none⟩) n c0) n xs) (ad:Addr) (m c:Nat) (news:List Value) (hl:news.length=m*sz) (hnews:∀ j u,news[j]? = some u→w.cell? (ad.add j)=some u) (h1:∀ u∈news,u.oneCell'=true)
  (h63:n+m≤maxLen) (hbytes:(n+m)*by_≤140737488355328) (hbase:base≤w.heap.size) :
  ∃ g cap W,(Builtin.append_ #[t,t] ty #[.slice (some ⟨g0,0,none⟩) n c0,.slice (some ad) m c]).run P w=.ok (.slice (some ⟨g,0,none⟩) (n+m) cap) W∧
   W.ownsRow base e sz (.slice (some ⟨g,0,none⟩) (n+m) cap) (n+m) (xs ++ news)∧Mod (fun k=>k=g0) w W∧(g=g0∨g=w.heap.size):=by
 rcases Nat.eq_zero_or_pos m with rfl | hm
 ·have hn:news=[]:=List.eq_nil_of_length_eq_zero (by simpa using hl);subst hn;exact⟨g0,c0,w,step_app_nil ty ht hi hown _ _,by simpa using hown,Mod.refl _ _,.inl rfl⟩
 ·obtain ⟨g,cap,W,h1,h2,h3,h4⟩:=step_app ty ht hi hz hsize hby hzs hsz hown ad m c news hl hnews h1 hm h63 hbytes hbase;refine ⟨g,cap,W,h1,h2,h3.mono (fun k hk=>?_),h4.imp (fun h=>?_) id⟩
  ·simpa [Value.ownBlock] using hk.symm
  ·simpa [Value.ownBlock] using h.symm
theorem own_empty (w:World) (hb:base≤w.heap.size):(w.alloc (.cells #[] e)).ownsRow base e sz (.slice (some ⟨w.heap.size,0,none⟩) 0 0) 0 []:=
 World.ownsRow_made w #[] 0 hb (Nat.zero_le _) (by simp)
end
section
variable {P:Program} {ops:Array Oper} {rest:List Oper} {o:Oper} {a:Act} {w W:World} {Q:Exit→Act→World→Prop} {s x:Operand} {t:TypeId} {v y r:Value}
theorem wpList_app_run (hgd:o.guard=none) (ho:o.op=.call {callee:=.builtin .append,args:=#[s,x],argTypes:=#[t,t]}) (hs:a.eval s=v) (hx:a.eval x=y)
  (hrun:(Builtin.append_ #[t,t] o.type #[v,y]).run P w=.ok r W) (h:wpList P ops Q rest (a.put o.dst r) W):wpList P ops Q (o :: rest) a w:=
 wpList_plain hgd fun K hK=>by
  unfold Oper.wp execOp;simp only [ho,resolve,invoke,builtin,Sem.run_bind,Sem.run_pure,Result.andThen_ok,List.map_toArray,List.map_cons,List.map_nil,hs,hx,hrun];exact hK _ _ h
theorem step_app_run {K:Act→World→Prop} {E:Prop} (hgd:o.guard=none) (ho:o.op=.call {callee:=.builtin .append,args:=#[s,x],argTypes:=#[t,t]}) (hs:a.eval s=v) (hx:a.eval x=y)
  (hrun:(Builtin.append_ #[t,t] o.type #[v,y]).run P w=.ok r W) (h:K (a.put o.dst r) W) :
  if Region.wanted o (yielded ops a.tmps)=true then Oper.wp P o a w K Q else E:=by
 have hw:Region.wanted o (yielded ops a.tmps)=true:=by simp [Region.wanted,hgd]
 rw [if_pos hw];unfold Oper.wp execOp;simp only [ho,resolve,invoke,builtin,Sem.run_bind,Sem.run_pure,Result.andThen_ok,List.map_toArray,List.map_cons,List.map_nil,hs,hx,hrun];exact h
end
end
section
open Go.RowKit
structure En where
 name:ByteArray
 no:Int
 deriving DecidableEq
structure An where
 no:Int
 dev:Int
 kind:Int
 mode:Int
 uid:Int
 gid:Int
 mtime:Int
 ctime:Int
 links:Int
 up:Int
 data:ByteArray
 ents:List En
 deriving DecidableEq
def an0:An:=⟨0,0,0,0,0,0,0,0,0,0,ByteArray.empty,[]⟩
structure Dv where
 root:Int
 over:Int
 b:Int
 n:Int
 mb:Int
 mn:Int
 deriving DecidableEq
structure Fs where
 ns:List An
 ds:List Dv
 last:Int
 deriving DecidableEq
def ltB (a b:ByteArray):Bool:=Op.bytesLess a.data.toList b.data.toList
theorem ltB_mk (a b:ByteArray):Op.bytesLess a.toList b.toList=ltB a b:=by unfold ltB;rw [ByteArray.toList_eq,ByteArray.toList_eq]
theorem less_irrefl:∀ l:List UInt8,Op.bytesLess l l=false
 | []=>rfl
 | a :: l=>by simp [Op.bytesLess,less_irrefl l]
theorem less_trans:∀ a b c:List UInt8,Op.bytesLess a b=true→Op.bytesLess b c=true→Op.bytesLess a c=true
 | [],[],_,h,_=>by simp [Op.bytesLess] at h
 | [],_ :: _,[],_,h=>by simp [Op.bytesLess] at h
 | [],_ :: _,_ :: _,_,_=>rfl
 | _ :: _,[],_,h,_=>by simp [Op.bytesLess] at h
 | _ :: _,_ :: _,[],_,h=>by simp [Op.bytesLess] at h
 | x :: a,y :: b,z :: c,h,k=>by
  simp only [Op.bytesLess,Bool.or_eq_true,Bool.and_eq_true,decide_eq_true_eq,beq_iff_eq] at h k ⊢;rcases h with h | ⟨rfl,h⟩
  ·rcases k with k | ⟨rfl,k⟩
   ·exact .inl (UInt8.lt_trans h k)
   ·exact .inl h
  ·rcases k with k | ⟨rfl,k⟩
   ·exact .inl k
   ·exact .inr ⟨rfl,less_trans a b c h k⟩
theorem less_total:∀ a b:List UInt8,Op.bytesLess a b=false→Op.bytesLess b a=false→a=b
 | [],[],_,_=>rfl
 | [],_ :: _,h,_=>by simp [Op.bytesLess] at h
 | _ :: _,[],_,h=>by simp [Op.bytesLess] at h
 | x :: a,y :: b,h,k=>by
  simp only [Op.bytesLess,Bool.or_eq_false_iff,Bool.and_eq_false_iff,decide_eq_false_iff_not,beq_eq_false_iff_ne] at h k;have hxy:x=y:=by
   have h1:=h.1;have h2:=k.1;rw [UInt8.not_lt] at h1 h2;exact UInt8.le_antisymm h2 h1
  subst hxy;have h1:=h.2.resolve_left (by simp);have h2:=k.2.resolve_left (by simp);rw [less_total a b h1 h2]
theorem ba_eq {a b:ByteArray} (h:a.data.toList=b.data.toList):a=b:=by
 cases a;cases b
 simp at h ⊢;exact h
theorem ltB_irrefl (a:ByteArray):ltB a a=false:=less_irrefl _
theorem ltB_trans {a b c:ByteArray} (h:ltB a b=true) (k:ltB b c=true):ltB a c=true:=less_trans _ _ _ h k
theorem ltB_total {a b:ByteArray} (h:ltB a b=false) (k:ltB b a=false):a=b:=ba_eq (less_total _ _ h k)
theorem ltB_asymm {a b:ByteArray} (h:ltB a b=true):ltB b a=false:=by
 cases k:ltB b a with
 | false=>rfl
 | true=>have:=ltB_trans h k;rw [ltB_irrefl] at this;cases this
theorem ltB_ne {a b:ByteArray} (h:ltB a b=true):a≠b:=by
 rintro rfl;rw [ltB_irrefl] at h
 cases h
def entFind (l:List En) (n:ByteArray):Int:=match l.find? (fun x=>decide (x.name=n)) with | some x=>x.no | none=>0
def entPut (l:List En) (n:ByteArray) (no:Int):List En:=l.filter (fun x=>ltB x.name n) ++ ⟨n,no⟩ :: l.filter (fun x=>ltB n x.name)
def entDrop (l:List En) (n:ByteArray):List En:=l.filter (fun x=>!decide (x.name=n))
def Rise (l:List En):Prop:=l.Pairwise (fun a b=>ltB a.name b.name=true)
def entAt (l:List En) (n:ByteArray):Nat:=(l.filter (fun x=>ltB x.name n)).length
theorem entAt_le (l:List En) (n:ByteArray):entAt l n≤l.length:=List.length_filter_le _ _
theorem rise_take {l:List En} (h:Rise l) (n:ByteArray):l.filter (fun x=>ltB x.name n)=l.take (entAt l n):=by
 unfold entAt
 induction l with
 | nil=>rfl
 | cons x l ih=>
  have hx:=List.pairwise_cons.1 h;by_cases hc:ltB x.name n=true
  ·rw [List.filter_cons_of_pos (by simpa using hc),List.length_cons,List.take_succ_cons,←ih hx.2]
  ·rw [List.filter_cons_of_neg (by simpa using hc)];have:l.filter (fun x=>ltB x.name n)=[]:=by
    rw [List.filter_eq_nil_iff];intro y hy hyn;exact hc (ltB_trans (hx.1 y hy) hyn)
   rw [this];rfl
theorem rise_lt {l:List En} (h:Rise l) (n:ByteArray) (k:Nat) (hk:k<l.length):ltB l[k].name n=decide (k<entAt l n):=by
 unfold entAt
 induction l generalizing k with
 | nil=>simp at hk
 | cons x l ih=>
  have hx:=List.pairwise_cons.1 h;by_cases hc:ltB x.name n=true
  ·rw [List.filter_cons_of_pos (by simpa using hc),List.length_cons]
   cases k with
   | zero=>simp [hc]
   | succ k=>simpa using ih hx.2 k (by simpa using hk)
  ·rw [List.filter_cons_of_neg (by simpa using hc)];have:l.filter (fun x=>ltB x.name n)=[]:=by
    rw [List.filter_eq_nil_iff];intro y hy hyn;exact hc (ltB_trans (hx.1 y hy) hyn)
   rw [this]
   cases k with
   | zero=>simpa using hc
   | succ k=>
    have hm:l[k]'(by simpa using hk)∈l:=List.getElem_mem _;simp only [List.getElem_cons_succ,List.length_nil,Nat.not_lt_zero,decide_false]
    cases hq:ltB (l[k]'(by simpa using hk)).name n with
    | false=>rfl
    | true=>exact absurd (ltB_trans (hx.1 _ hm) hq) hc
theorem find_at {l:List En} (h:Rise l) (n:ByteArray):l.find? (fun x=>decide (x.name=n))=if hk:entAt l n<l.length then (if l[entAt l n].name=n then some l[entAt l n] else none) else none:=by
 have key:∀ (k:Nat) (hk:k<l.length),l[k].name=n→k=entAt l n:=by
  intro k hk he;have h1:=rise_lt h n k hk;rw [he,ltB_irrefl] at h1;have h2:¬ k<entAt l n:=by simpa using h1.symm
  by_cases h3:k=entAt l n
  ·exact h3
  ·exfalso;have hlt:entAt l n<k:=by omega
   have h4:=List.pairwise_iff_getElem.1 h (entAt l n) k (by omega) hk hlt;rw [he] at h4;have h5:=rise_lt h n (entAt l n) (by omega);rw [h4] at h5;simp at h5
 split
 ·rename_i hk
  split
  ·rename_i he;rw [List.find?_eq_some_iff_getElem];refine ⟨by simpa using he,entAt l n,hk,rfl,fun j hj=>?_⟩;simp only [Bool.not_eq_eq_eq_not,Bool.not_true,decide_eq_false_iff_not];intro hj2;have:=key j (by omega) hj2;omega
  ·rename_i he;rw [List.find?_eq_none];intro x hx;simp only [decide_eq_true_eq];intro hxn;obtain⟨j,hj,rfl⟩:=List.mem_iff_getElem.1 hx;have:=key j hj hxn;subst this;exact he hxn
 ·rename_i hk;rw [List.find?_eq_none];intro x hx;simp only [decide_eq_true_eq];intro hxn;obtain⟨j,hj,rfl⟩:=List.mem_iff_getElem.1 hx;have:=key j hj hxn;subst this;exact hk hj
theorem rise_drop {l:List En} (h:Rise l) (n:ByteArray):l.filter (fun x=>ltB n x.name)=l.drop (entAt l n+(if (∃ hk:entAt l n<l.length,l[entAt l n].name=n) then 1 else 0)):=by
 unfold entAt
 induction l with
 | nil=>simp
 | cons x l ih=>
  have hx:=List.pairwise_cons.1 h;by_cases hc:ltB x.name n=true
  ·have h1:ltB n x.name=false:=ltB_asymm hc;rw [List.filter_cons_of_neg (by simp [h1])];simp only [List.filter_cons_of_pos (p:=fun x:En=>ltB x.name n) (a:=x) (l:=l) (by simpa using hc),List.length_cons];rw [ih hx.2];have:(∃ hk:(l.filter fun x=>ltB x.name n).length+1<l.length+1,((x :: l)[(l.filter fun x=>ltB x.name n).length+1]'hk).name=n)↔(∃ hk:(l.filter fun x=>ltB x.name n).length<l.length,(l[(l.filter fun x=>ltB x.name n).length]'hk).name=n):=by
    constructor
    ·rintro ⟨hk,he⟩;exact ⟨by omega,by simpa using he⟩
    ·rintro ⟨hk,he⟩;exact ⟨by omega,by simpa using he⟩
   simp only [this];rw [Nat.add_right_comm,List.drop_succ_cons]
  ·have he:l.filter (fun x=>ltB x.name n)=[]:=by
    rw [List.filter_eq_nil_iff];intro y hy hyn;exact hc (ltB_trans (hx.1 y hy) hyn)
   have hall:∀ y∈l,ltB n x.name=true∨x.name=n→ltB n y.name=true:=by
    rintro y hy (h1 | rfl)
    ·exact ltB_trans h1 (hx.1 y hy)
    ·exact hx.1 y hy
   have hor:ltB n x.name=true∨x.name=n:=by
    cases hq:ltB n x.name with
    | true=>exact .inl rfl
    | false=>exact .inr (ltB_total (by simpa using hc) hq)
   have hrest:l.filter (fun x=>ltB n x.name)=l:=by
    rw [List.filter_eq_self];intro y hy;exact hall y hy hor
   rw [List.filter_cons_of_neg (p:=fun x:En=>ltB x.name n) (by simpa using hc),he];rcases hor with h1 | h1
   ·rw [List.filter_cons_of_pos (by simpa using h1),hrest,if_neg]
    ·rfl
    ·rintro ⟨hk,he⟩;simp only [List.length_nil,List.getElem_cons_zero] at he;rw [he,ltB_irrefl] at h1
     cases h1
   ·rw [List.filter_cons_of_neg (by rw [h1];simp [ltB_irrefl]),hrest,if_pos ⟨by simp,by simpa using h1⟩];rfl
theorem put_at {l:List En} (h:Rise l) (n:ByteArray) (no:Int):entPut l n no=l.take (entAt l n) ++ ⟨n,no⟩ :: l.drop (entAt l n+(if (∃ hk:entAt l n<l.length,l[entAt l n].name=n) then 1 else 0)):=by
 unfold entPut;rw [rise_take h,rise_drop h]
theorem rise_put {l:List En} (h:Rise l) (n:ByteArray) (no:Int):Rise (entPut l n no):=by
 unfold entPut Rise;rw [List.pairwise_append];refine ⟨List.Pairwise.filter _ h,?_,?_⟩
 ·rw [List.pairwise_cons];refine ⟨fun y hy=>?_,List.Pairwise.filter _ h⟩;simpa using (List.mem_filter.1 hy).2
 ·intro a ha b hb;have h1:ltB a.name n=true:=by simpa using (List.mem_filter.1 ha).2
  rcases List.mem_cons.1 hb with rfl | hb
  ·exact h1
  ·have h2:ltB n b.name=true:=by simpa using (List.mem_filter.1 hb).2
   exact ltB_trans h1 h2
def Fs.get (S:Fs) (k:Int):Option An:=S.ns.find? (fun x=>x.no == k)
def Fs.set (S:Fs) (a:An):Fs:={S with ns:=S.ns.map fun x=>if x.no == a.no then a else x}
def Fs.add (S:Fs) (a:An):Fs:={S with ns:=S.ns ++ [{a with no:=S.last+1}],last:=S.last+1}
def Fs.del (S:Fs) (k:Int):Fs:={S with ns:=S.ns.filter fun x=>!(x.no == k)}
def Fs.root (S:Fs) (d:Int):Int:=if 1≤d∧d≤S.ds.length then (match S.ds[(d - 1).toNat]? with | some v=>v.root | none=>0) else 0
def Fs.over (S:Fs) (k:Int):Int:=if 0<k then (match S.ds.find? (fun d=>d.over == k) with | some d=>d.root | none=>k) else k
theorem an_no {S:Fs} {k:Int} {a:An} (h:S.get k=some a):a.no=k:=by
 have:=List.find?_some h;simpa using this
theorem an_mem {S:Fs} {k:Int} {a:An} (h:S.get k=some a):a∈S.ns:=List.mem_of_find?_eq_some h
structure Nums (S:Fs):Prop where
 rise:(S.ns.map (·.no)).Pairwise (· < ·)
 low:∀ x∈S.ns,1≤x.no∧x.no≤S.last
theorem an_set {S:Fs} {a b:An} (h:S.get a.no=some b) (k:Int):(S.set a).get k=if k=a.no then some a else S.get k:=by
 unfold Fs.get Fs.set at *;simp only;rw [List.find?_map];by_cases hk:k=a.no
 ·subst hk;rw [if_pos rfl];have:((fun x:An=>x.no == a.no) ∘ fun x:An=>if x.no == a.no then a else x)=fun x:An=>x.no == a.no:=by
   funext x;simp only [Function.comp_apply]
   split
   ·rename_i he;rw [he];simp
   ·rfl
  rw [this,h];have hb:b.no=a.no:=by simpa using List.find?_some h
  simp [hb]
 ·rw [if_neg hk];have:((fun x:An=>x.no == k) ∘ fun x:An=>if x.no == a.no then a else x)=fun x:An=>x.no == k:=by
   funext x;simp only [Function.comp_apply]
   split
   ·rename_i he;have:x.no=a.no:=by simpa using he
    rw [this]
   ·rfl
  rw [this]
  cases hf:List.find? (fun x:An=>x.no == k) S.ns with
  | none=>rfl
  | some x=>
   have hx:x.no=k:=by simpa using List.find?_some hf
   simp [hx,hk]
theorem an_add {S:Fs} (h:Nums S) (a:An) (k:Int):(S.add a).get k=if k=S.last+1 then some {a with no:=S.last+1} else S.get k:=by
 unfold Fs.get Fs.add;simp only [List.find?_append];by_cases hk:k=S.last+1
 ·subst hk;have:S.ns.find? (fun x=>x.no == S.last+1)=none:=by
   rw [List.find?_eq_none];intro x hx;have:=h.low x hx;simp;omega
  rw [if_pos rfl,this];simp
 ·rw [if_neg hk];have hne:¬ S.last+1=k:=fun e=>hk e.symm;simp [hne]
theorem an_nos {S:Fs} (a:An):(S.set a).ns.map (·.no)=S.ns.map (·.no):=by
 unfold Fs.set;simp only [List.map_map];apply List.map_congr_left;intro x _;simp only [Function.comp_apply]
 split
 ·rename_i he;simpa using (beq_iff_eq.1 he).symm
 ·rfl
theorem Nums.set {S:Fs} (h:Nums S) (a:An):Nums (S.set a):=by
 refine ⟨by rw [an_nos];exact h.rise,fun x hx=>?_⟩;have hm:x.no∈(S.set a).ns.map (·.no):=List.mem_map_of_mem hx;rw [an_nos] at hm;obtain⟨y,hy,he⟩:=List.mem_map.1 hm;have:=h.low y hy;show 1≤x.no∧x.no≤S.last;omega
theorem Nums.add {S:Fs} (h:Nums S) (h0:0≤S.last) (a:An):Nums (S.add a):=by
 refine ⟨?_,fun x hx=>?_⟩
 ·show ((S.ns ++ [_]).map _).Pairwise _;rw [List.map_append,List.pairwise_append];refine ⟨h.rise,by simp,fun x hx y hy=>?_⟩;obtain⟨z,hz,rfl⟩:=List.mem_map.1 hx;have:=h.low z hz;simp at hy;omega
 ·show 1≤x.no∧x.no≤S.last+1;rcases List.mem_append.1 hx with hx | hx
  ·have:=h.low x hx;omega
  ·simp at hx;subst hx;simp;omega
end
section
open Go.RowKit
def fineB (b n mb mn:Int):Bool:=decide (0≤b∧0≤n∧b≤mb∧n≤mn∧mb≤1073741824∧mn≤65536)
theorem fine_any (b n mb mn:Int) (w:World) :
  Calls Tryz.prog 275 #[.agg #[.int .i64 b,.int .i64 n,.int .i64 mb,.int .i64 mn]] w fun e w'=>e=.returned (.bool (fineB b n mb mn))∧w.alloc (.cells #[.int .i64 b,.int .i64 n,.int .i64 mb,.int .i64 mn] 212)=w':=by
 unfold fineB;go_enter Tryz.func275,Tryz.ntmps275
 go_wp2
 all_goals (go_ret;simp [*];try omega)
theorem rfine_any (b n mb mn:Int) (w:World) :
  Calls Tryz.prog 284 #[.agg #[.int .i64 b,.int .i64 n,.int .i64 mb,.int .i64 mn]] w fun e w'=>e=.returned (.bool (fineB b n mb mn))∧w.alloc (.cells #[.int .i64 b,.int .i64 n,.int .i64 mb,.int .i64 mn] 212)=w':=by
 unfold fineB;go_enter Tryz.func284,Tryz.ntmps284
 go_wp2
 all_goals (go_ret;simp [*];try omega)
def tkBad (b n mb mn x y:Int):Bool:=!fineB b n mb mn || decide (x < -1073741824) || decide (1073741824<x) || decide (y < -1073741824) || decide (1073741824<y)
def tkE (b n mb mn x y:Int):Int:=if tkBad b n mb mn x y then 1 else if mn<n+y then 15 else if mb<b+x then 14 else if fineB (b+x) (n+y) mb mn then 0 else 1
def tkB (b n mb mn x y:Int):Int:=if tkE b n mb mn x y=0 then b+x else b
def tkN (b n mb mn x y:Int):Int:=if tkE b n mb mn x y=0 then n+y else n
def tkV (b n mb mn x y:Int):Value:=.tuple #[.agg #[.int .i64 (tkB b n mb mn x y),.int .i64 (tkN b n mb mn x y),.int .i64 mb,.int .i64 mn],.int .i64 (tkE b n mb mn x y)]
theorem tkBad_eq (b n mb mn x y:Int) (hf:fineB b n mb mn=true) (h1:-1073741824≤x) (h2:x≤1073741824) (h3:-1073741824≤y) (h4:y≤1073741824):tkBad b n mb mn x y=false:=by
 unfold tkBad;simp [hf];omega
theorem tkV_of (b n mb mn x y e:Int) (h:tkE b n mb mn x y=e) (he:e≠0):tkV b n mb mn x y=.tuple #[.agg #[.int .i64 b,.int .i64 n,.int .i64 mb,.int .i64 mn],.int .i64 e]:=by
 unfold tkV tkB tkN;rw [h];simp [he]
theorem tkV_ok (b n mb mn x y:Int) (h:tkE b n mb mn x y=0):tkV b n mb mn x y=.tuple #[.agg #[.int .i64 (b+x),.int .i64 (n+y),.int .i64 mb,.int .i64 mn],.int .i64 0]:=by
 unfold tkV tkB tkN;rw [h];simp
theorem take_any (b n mb mn x y:Int) (w:World) :
  Calls Tryz.prog 252 #[.agg #[.int .i64 b,.int .i64 n,.int .i64 mb,.int .i64 mn],.int .i64 x,.int .i64 y] w fun e w'=>e=.returned (tkV b n mb mn x y)∧Below w.heap.size w w':=by
 by_cases hf:fineB b n mb mn=true
 ·have hf':=hf;unfold fineB at hf';simp only [decide_eq_true_eq] at hf';obtain⟨f1,f2,f3,f4,f5,f6⟩:=hf';by_cases hx:x < -1073741824∨1073741824<x∨y < -1073741824∨1073741824<y
  ·have hv:=tkV_of b n mb mn x y 1 (by unfold tkE tkBad;rw [if_pos];simp;omega) (by decide);have Hv:=Lib.hid hv;clear hv;have hd:(decide (x < -1073741824) || decide (1073741824<x) || decide (y < -1073741824) || decide (1073741824<y))=true:=by simp;omega
   go_enter Tryz.func252,Tryz.ntmps252;go_wp2_with (go_at_call 275;refine (fine_any _ _ _ _ _).mono ?_;rintro e w' ⟨rfl,rfl⟩)
   all_goals (first | (exfalso;omega) | (go_returns;exact ⟨by rw [Hv.out],by go_grown⟩))
  ·obtain ⟨x1,x2,y1,y2⟩:-1073741824≤x∧x≤1073741824∧-1073741824≤y∧y≤1073741824:=by omega
   clear hx;have Hb:=Lib.hid (tkBad_eq b n mb mn x y hf x1 x2 y1 y2);by_cases g1:mn<n+y
   ·have Hv:=Lib.hid (tkV_of b n mb mn x y 15 (by unfold tkE;rw [Hb.out];simp [g1]) (by decide));go_enter Tryz.func252,Tryz.ntmps252;go_wp2_with (go_at_call 275;refine (fine_any _ _ _ _ _).mono ?_;rintro e w' ⟨rfl,rfl⟩)
    go_returns;exact ⟨by rw [Hv.out],by go_grown⟩
   ·by_cases g2:mb<b+x
    ·have Hv:=Lib.hid (tkV_of b n mb mn x y 14 (by unfold tkE;rw [Hb.out];simp [g1,g2]) (by decide));go_enter Tryz.func252,Tryz.ntmps252;go_wp2_with (go_at_call 275;refine (fine_any _ _ _ _ _).mono ?_;rintro e w' ⟨rfl,rfl⟩)
     go_returns;exact ⟨by rw [Hv.out],by go_grown⟩
    ·by_cases g3:fineB (b+x) (n+y) mb mn=true
     ·have Hv:=Lib.hid (tkV_ok b n mb mn x y (by unfold tkE;rw [Hb.out];simp [g1,g2,g3]));go_enter Tryz.func252,Tryz.ntmps252;go_wp2_with (go_at_call 275;refine (fine_any _ _ _ _ _).mono ?_;rintro e w' ⟨rfl,rfl⟩)
      go_returns;exact ⟨by rw [Hv.out],by go_grown⟩
     ·have Hv:=Lib.hid (tkV_of b n mb mn x y 1 (by unfold tkE;rw [Hb.out];simp [g1,g2,g3]) (by decide));simp only [Bool.not_eq_true] at g3;go_enter Tryz.func252,Tryz.ntmps252;go_wp2_with (go_at_call 275;refine (fine_any _ _ _ _ _).mono ?_;rintro e w' ⟨rfl,rfl⟩)
      go_returns;exact ⟨by rw [Hv.out],by go_grown⟩
 ·simp only [Bool.not_eq_true] at hf;have Hv:=Lib.hid (tkV_of b n mb mn x y 1 (by unfold tkE tkBad;simp [hf]) (by decide));go_enter Tryz.func252,Tryz.ntmps252;go_wp2_with (go_at_call 275;refine (fine_any _ _ _ _ _).mono ?_;rintro e w' ⟨rfl,rfl⟩)
  go_returns;exact ⟨by rw [Hv.out],by go_grown⟩
end
section
open Go.RowKit
theorem rtake_any (b n mb mn x y:Int) (w:World) :
  Calls Tryz.prog 273 #[.agg #[.int .i64 b,.int .i64 n,.int .i64 mb,.int .i64 mn],.int .i64 x,.int .i64 y] w fun e w'=>e=.returned (tkV b n mb mn x y)∧Below w.heap.size w w':=by
 by_cases hf:fineB b n mb mn=true
 ·have hf':=hf;unfold fineB at hf';simp only [decide_eq_true_eq] at hf';obtain⟨f1,f2,f3,f4,f5,f6⟩:=hf';by_cases hx:x < -1073741824∨1073741824<x∨y < -1073741824∨1073741824<y
  ·have hv:=tkV_of b n mb mn x y 1 (by unfold tkE tkBad;rw [if_pos];simp;omega) (by decide);have Hv:=Lib.hid hv;clear hv;have hd:(decide (1073741824<x) || decide (x < -1073741824) || decide (1073741824<y) || decide (y < -1073741824))=true:=by simp;omega
   go_enter Tryz.func273,Tryz.ntmps273;go_wp2_with (go_at_call 284;refine (rfine_any _ _ _ _ _).mono ?_;rintro e w' ⟨rfl,rfl⟩)
   all_goals (first | (exfalso;omega) | (go_returns;exact ⟨by rw [Hv.out],by go_grown⟩))
  ·obtain ⟨x1,x2,y1,y2⟩:-1073741824≤x∧x≤1073741824∧-1073741824≤y∧y≤1073741824:=by omega
   clear hx;have Hb:=Lib.hid (tkBad_eq b n mb mn x y hf x1 x2 y1 y2);by_cases g1:mn<n+y
   ·have Hv:=Lib.hid (tkV_of b n mb mn x y 15 (by unfold tkE;rw [Hb.out];simp [g1]) (by decide));go_enter Tryz.func273,Tryz.ntmps273;go_wp2_with (go_at_call 284;refine (rfine_any _ _ _ _ _).mono ?_;rintro e w' ⟨rfl,rfl⟩)
    go_returns;exact ⟨by rw [Hv.out],by go_grown⟩
   ·by_cases g2:mb<b+x
    ·have Hv:=Lib.hid (tkV_of b n mb mn x y 14 (by unfold tkE;rw [Hb.out];simp [g1,g2]) (by decide));go_enter Tryz.func273,Tryz.ntmps273;go_wp2_with (go_at_call 284;refine (rfine_any _ _ _ _ _).mono ?_;rintro e w' ⟨rfl,rfl⟩)
     go_returns;exact ⟨by rw [Hv.out],by go_grown⟩
    ·by_cases g3:fineB (b+x) (n+y) mb mn=true
     ·have Hv:=Lib.hid (tkV_ok b n mb mn x y (by unfold tkE;rw [Hb.out];simp [g1,g2,g3]));have g3':=g3;unfold fineB at g3';simp only [decide_eq_true_eq] at g3';obtain⟨k1,k2,-⟩:=g3';go_enter Tryz.func273,Tryz.ntmps273;go_wp2_with (go_at_call 284;refine (rfine_any _ _ _ _ _).mono ?_;rintro e w' ⟨rfl,rfl⟩)
      go_returns;exact ⟨by rw [Hv.out],by go_grown⟩
     ·have Hv:=Lib.hid (tkV_of b n mb mn x y 1 (by unfold tkE;rw [Hb.out];simp [g1,g2,g3]) (by decide));have k:n+y<0∨b+x<0:=by
       unfold fineB at g3;simp only [decide_eq_true_eq] at g3;omega
      clear g3;by_cases k1:n+y<0
      ·clear k;go_enter Tryz.func273,Tryz.ntmps273;go_wp2_with (go_at_call 284;refine (rfine_any _ _ _ _ _).mono ?_;rintro e w' ⟨rfl,rfl⟩)
       go_returns;exact ⟨by rw [Hv.out],by go_grown⟩
      ·have k2:b+x<0:=by omega
       clear k;go_enter Tryz.func273,Tryz.ntmps273;go_wp2_with (go_at_call 284;refine (rfine_any _ _ _ _ _).mono ?_;rintro e w' ⟨rfl,rfl⟩)
       go_returns;exact ⟨by rw [Hv.out],by go_grown⟩
 ·simp only [Bool.not_eq_true] at hf;have Hv:=Lib.hid (tkV_of b n mb mn x y 1 (by unfold tkE tkBad;simp [hf]) (by decide));go_enter Tryz.func273,Tryz.ntmps273;go_wp2_with (go_at_call 284;refine (rfine_any _ _ _ _ _).mono ?_;rintro e w' ⟨rfl,rfl⟩)
  go_returns;exact ⟨by rw [Hv.out],by go_grown⟩
def limB (b n:Int):Bool:=decide (1≤b∧b≤1073741824∧1≤n∧n≤65536)
theorem lim_mk (b n:Int) (h1:1≤b) (h2:b≤1073741824) (h3:1≤n) (h4:n≤65536):limB b n=true:=by
 unfold limB;simp [h1,h2,h3,h4]
theorem lim_of {b n:Int} (h:limB b n=true):1≤b∧b≤1073741824∧1≤n∧n≤65536:=by
 unfold limB at h;simpa using h
theorem limits_any (b n:Int) (w:World) :
  Calls Tryz.prog 237 #[.int .i64 b,.int .i64 n] w fun e w'=>e=.returned (.bool (limB b n))∧w=w':=by
 unfold limB;go_enter Tryz.func237,Tryz.ntmps237
 go_wp2
 all_goals (go_ret;simp [*];try omega)
theorem new_yes (b n:Int) (h:limB b n=true) (w:World) :
  Calls Tryz.prog 267 #[.int .i64 b,.int .i64 n] w fun e w'=>e=.returned (.tuple #[.agg #[.int .i64 0,.int .i64 0,.int .i64 b,.int .i64 n],.int .i64 0])∧Below w.heap.size w w':=by
 obtain⟨h1,h2,h3,h4⟩:=lim_of h;clear h;go_enter Tryz.func267,Tryz.ntmps267
 go_wp2
 go_returns;exact ⟨rfl,by go_grown⟩
theorem new_no (b n:Int) (h:limB b n=false) (w:World) :
  Calls Tryz.prog 267 #[.int .i64 b,.int .i64 n] w fun e w'=>e=.returned (.tuple #[.agg #[.int .i64 0,.int .i64 0,.int .i64 0,.int .i64 0],.int .i64 3])∧Below w.heap.size w w':=by
 have hd:(decide (b<1) || decide (1073741824<b) || decide (n<1) || decide (65536<n))=true:=by
  unfold limB at h;simp at h ⊢;omega
 have hn:¬ (1≤b∧b≤1073741824∧1≤n∧n≤65536):=by unfold limB at h;simpa using h
 clear h;go_enter Tryz.func267,Tryz.ntmps267
 go_wp2
 all_goals (first | (exfalso;omega) | (go_returns;exact ⟨rfl,by go_grown⟩))
def blkI (kind size:Int):Int:=if kind=1 then 1 else if kind=2∧0<size then (size - 1) / 512+1 else 0
theorem blocks_any (k s:Int) (hs:s≤9223372036854775807) (w:World) :
  Calls Tryz.prog 253 #[.int .i64 k,.int .i64 s] w fun e w'=>e=.returned (.int .i64 (blkI k s))∧w=w':=by
 by_cases h1:k=1
 ·have Hv:=Lib.hid (show blkI k s=1 by unfold blkI;rw [if_pos h1]);subst h1;go_enter Tryz.func253,Tryz.ntmps253
  go_wp2
  go_ret;exact ⟨by rw [Hv.out];rfl,rfl⟩
 ·have e1:(k == 1)=false:=by simpa using h1
  by_cases h2:k=2
  ·subst h2;by_cases h3:0<s
   ·have Hv:=Lib.hid (show blkI 2 s=(s - 1) / 512+1 by unfold blkI;rw [if_neg h1,if_pos ⟨rfl,h3⟩]);go_enter Tryz.func253,Tryz.ntmps253
    go_wp2
    go_ret;exact ⟨by rw [Hv.out];rfl,rfl⟩
   ·have Hv:=Lib.hid (show blkI 2 s=0 by unfold blkI;rw [if_neg h1,if_neg (by omega)]);go_enter Tryz.func253,Tryz.ntmps253
    go_wp2
    go_ret;exact ⟨by rw [Hv.out];rfl,rfl⟩
  ·have e2:(k == 2)=false:=by simpa using h2
   have Hv:=Lib.hid (show blkI k s=0 by unfold blkI;rw [if_neg h1,if_neg (by omega)]);clear h1 h2;go_enter Tryz.func253,Tryz.ntmps253
   go_wp2
   go_ret;exact ⟨by rw [Hv.out];rfl,rfl⟩
theorem rblocks_any (k s:Int) (hs:s≤2000000) (w:World) :
  Calls Tryz.prog 274 #[.int .i64 k,.int .i64 s] w fun e w'=>e=.returned (.int .i64 (blkI k s))∧w=w':=by
 by_cases h1:k=1
 ·have Hv:=Lib.hid (show blkI k s=1 by unfold blkI;rw [if_pos h1]);subst h1;go_enter Tryz.func274,Tryz.ntmps274
  go_wp2
  go_ret;exact ⟨by rw [Hv.out];rfl,rfl⟩
 ·have e1:(k == 1)=false:=by simpa using h1
  by_cases h2:k=2
  ·subst h2;clear h1;go_enter Tryz.func274,Tryz.ntmps274
   go_wp2
   go_loop [5] (fun t=>∃ n:Int,0≤n∧n≤4000∧(n=0∨512*(n - 1)<s)∧t=.int .i64 n) (fun t=>(4000 - intOf t).toNat)
   case atStart=>exact ⟨0,by omega,by omega,.inl rfl,rfl⟩
   case round=>
    obtain⟨n,hn0,hn1,hn2,rfl⟩:=hrel;by_cases hc:512*n<s
    ·go_wp2
     go_round
     case rel=>exact ⟨n+1,by omega,by omega,.inr (by omega),rfl⟩
     case measure=>simp [intOf];omega
    ·have Hv:=Lib.hid (show blkI 2 s=n by unfold blkI;rw [if_neg (by decide)];split <;> omega)
     go_wp2
     go_ret;exact ⟨by rw [Hv.out];rfl,rfl⟩
  ·have e2:(k == 2)=false:=by simpa using h2
   have Hv:=Lib.hid (show blkI k s=0 by unfold blkI;rw [if_neg h1,if_neg (by omega)]);clear h1 h2;go_enter Tryz.func274,Tryz.ntmps274
   go_wp2
   refine wp_loop_rounds 1 ?_;rw [rounds_succ]
   go_wp2
   go_ret;exact ⟨by rw [Hv.out];rfl,rfl⟩
end
end Go.Proofs.YtihdbncoijhihaaGreat
