import Derived.Deep.AppendLies
import Derived.Maps.AppendAt
import Derived.Laws.OwnMore
import Derived.OwnWalk
import Derived.StillTailTactics
import Derived.Lib.LastIndexByte
import Derived.Test.YtihdbncoijhihaaGreatDoorSN1
import Derived.Test.YtihdbncoijhihaaGreatDoorSN3
set_option linter.unusedVariables false
set_option linter.unusedSimpArgs false
set_option maxRecDepth 100000
set_option maxHeartbeats 16000000
namespace Go.Proofs.YtihdbncoijhihaaGreatDoor
section
open Go.RowKit
section
variable {α:Type} {enc:α→List Value} {sz:Nat}
theorem flat_len (hl:∀ x,(enc x).length=sz):∀ (xs:List α),(xs.flatMap enc).length=xs.length*sz
 | []=>by simp
 | x :: xs=>by rw [List.flatMap_cons,List.length_append,flat_len hl xs,hl,List.length_cons,Nat.succ_mul,Nat.add_comm]
theorem flat_get (hl:∀ x,(enc x).length=sz):∀ (xs:List α) (i j:Nat) (hi:i<xs.length),j<sz→(xs.flatMap enc)[i*sz+j]? = (enc xs[i])[j]?
 | [],i,j,hi,_=>by simp at hi
 | x :: xs,0,j,_,hj=>by
  rw [List.flatMap_cons,Nat.zero_mul,Nat.zero_add,List.getElem?_append_left (by rw [hl];exact hj)];rfl
 | x :: xs,i+1,j,hi,hj=>by
  rw [List.flatMap_cons,List.getElem?_append_right (by rw [hl,Nat.succ_mul];omega),hl,show (i+1)*sz+j - sz=i*sz+j by rw [Nat.succ_mul];omega];exact flat_get hl xs i j (by simpa using hi) hj
def setAll (l:List Value) (o:Nat):List Value→List Value
 | []=>l
 | v :: vs=>setAll (l.set o v) (o+1) vs
theorem setAll_append (xs:List Value):∀ (vs:List Value) (l:List Value) (o:Nat),setAll (xs ++ l) (xs.length+o) vs=xs ++ setAll l o vs
 | [],_,_=>rfl
 | v :: vs,l,o=>by
  unfold setAll;rw [List.set_append_right _ _ (by omega),show xs.length+o - xs.length=o by omega,Nat.add_assoc];exact setAll_append xs vs _ _
theorem setAll_head:∀ (vs bs rest:List Value),bs.length=vs.length→setAll (bs ++ rest) 0 vs=vs ++ rest
 | [],bs,rest,h=>by
  simp at h;subst h;rfl
 | v :: vs,[],rest,h=>by simp at h
 | v :: vs,b :: bs,rest,h=>by
  unfold setAll;rw [List.cons_append,List.set_cons_zero];have:=setAll_append [v] vs (bs ++ rest) 0;simp only [List.length_singleton,Nat.add_zero,List.singleton_append] at this;rw [Nat.zero_add,this,setAll_head vs bs rest (by simpa using h)];rfl
theorem setAll_flat (hl:∀ x,(enc x).length=sz) (y:α):∀ (xs:List α) (k:Nat),k<xs.length→setAll (xs.flatMap enc) (k*sz) (enc y)=(xs.set k y).flatMap enc
 | [],k,h=>by simp at h
 | x :: xs,0,_=>by
  rw [List.flatMap_cons,Nat.zero_mul,setAll_head _ _ _ (by rw [hl,hl])];rfl
 | x :: xs,k+1,h=>by
  rw [List.flatMap_cons,show (k+1)*sz=(enc x).length+k*sz by rw [hl,Nat.succ_mul,Nat.add_comm],setAll_append,setAll_flat hl y xs k (by simpa using h)];rfl
theorem setAll_take (N:Nat):∀ (vs l:List Value) (o:Nat),(setAll l o vs).take N=setAll (l.take N) o vs
 | [],_,_=>rfl
 | v :: vs,l,o=>by
  unfold setAll;rw [setAll_take N vs];congr 1;exact List.take_set
theorem setAll_length:∀ (vs l:List Value) (o:Nat),(setAll l o vs).length=l.length
 | [],_,_=>rfl
 | v :: vs,l,o=>by unfold setAll;rw [setAll_length vs,List.length_set]
end
def putRow (w:World) (g o:Nat):List Value→World
 | []=>w
 | v :: vs=>putRow (w.setCell ⟨g,o,none⟩ v) g (o+1) vs
theorem putRow_blk {T:TypeId} {g:Nat}:∀ (vs:List Value) (w:World) (o:Nat) (cur:Array Value),Blk w g cur T→Blk (putRow w g o vs) g (setAll cur.toList o vs).toArray T
 | [],w,o,cur,h=>by simpa [putRow,setAll] using h
 | v :: vs,w,o,cur,h=>by
  unfold putRow setAll;have:=putRow_blk vs _ (o+1) _ (h.set o v);simpa using this
theorem putRow_mod {g:Nat}:∀ (vs:List Value) (w:World) (o:Nat),Mod (fun k=>k=g) w (putRow w g o vs)
 | [],_,_=>Mod.refl _ _
 | v :: vs,w,o=>((Mod.refl (fun k=>k=g) w).setCell (a:=⟨g,o,none⟩) (.inl rfl) v).trans (putRow_mod vs _ _)
section
variable {w w':World} {base:Nat} {e:TypeId} {sz n:Nat} {v:Value} {xs:List Value}
theorem own_mod {S:Nat→Prop} (h:w.ownsRow base e sz v n xs) (hm:Mod S w w') (hs:∀ k,S k→v.ownBlock≠some k):w'.ownsRow base e sz v n xs:=by
 refine ⟨h.1,h.2.imp id fun ⟨g,cap,cur,hv,hb,hg,rest⟩=>⟨g,cap,cur,hv,hb,?_,rest⟩⟩;subst hv;rw [hm.block g (Array.getElem?_eq_some_iff.1 hg).1 (fun h=>hs g h rfl)];exact hg
theorem own_below {N:Nat} (h:w.ownsRow base e sz v n xs) (hm:Below N w w') (hN:w.heap.size≤N):w'.ownsRow base e sz v n xs:=by
 refine ⟨h.1,h.2.imp id fun ⟨g,cap,cur,hv,hb,hg,rest⟩=>⟨g,cap,cur,hv,hb,?_,rest⟩⟩;rw [hm.block g (Nat.lt_of_lt_of_le (Array.getElem?_eq_some_iff.1 hg).1 hN)];exact hg
theorem own_grown_mod {row:Option Nat} (h:w.grownBy w' row):Mod (fun k=>row=some k) w w':=
 ⟨h.os,h.tape,h.output,h.size,fun k hk hs=>h.block k hk (fun e=>hs e.symm)⟩
theorem own_form (h:w.ownsRow base e sz v n xs):∃ a cap,v=.slice a n cap∧n≤cap∧cap≤9223372036854775807∧((a=none∧n=0∧cap=0)∨∃ g,a=some ⟨g,0,none⟩∧base≤g∧g<w.heap.size):=by
 rcases h.2 with ⟨rfl,rfl⟩|⟨g,cap,cur,rfl,hb,hg,h1,h2,-,-⟩
 ·exact ⟨none,0,rfl,Nat.le_refl _,by omega,.inl ⟨rfl,rfl,rfl⟩⟩
 ·exact ⟨_,cap,rfl,h1,h2,.inr ⟨g,rfl,hb,(Array.getElem?_eq_some_iff.1 hg).1⟩⟩
theorem own_slice {α:Type} {enc:α→List Value} {R:List Value→α→Prop} {a:Option Addr} {cap:Nat} {ys:List α} (hpos:0<sz) (hl:∀ x,(enc x).length=sz) (hR:∀ x,R (enc x) x)
  (h:w.ownsRow base e sz (.slice a n cap) n (ys.flatMap enc)):SliceAt w sz R a n cap ys:=by
 have hn:ys.length=n:=by
  have:=h.1;rw [flat_len hl] at this;exact Nat.eq_of_mul_eq_mul_right hpos this
 rcases h.2 with ⟨hv,rfl⟩|⟨g,cap',cur,hv,hb,hg,h1,h2,h3,h4⟩
 ·injection hv with e1 e2 e3;subst e1 e3;exact⟨hn,Nat.le_refl _,by omega,.inl rfl⟩
 ·injection hv with e1 e2 e3;subst e1 e3;refine ⟨hn,h1,h2,.inr ⟨g,0,rfl,(Array.getElem?_eq_some_iff.1 hg).1,fun i hi=>⟨enc ys[i],hl _,hR _,fun j hj=>?_⟩⟩⟩;rw [hl] at hj;have hget:=flat_get hl ys i j hi hj;rw [←h4] at hget;rw [List.getElem?_take_of_lt (by have:(i+1)*sz≤n*sz:=Nat.mul_le_mul_right _ (by omega);rw [Nat.succ_mul] at this;omega)] at hget;rw [World.cell?,hg];simp only [Nat.zero_add];rw [Array.getElem?_toList] at hget;rw [hget,List.getElem?_eq_getElem (by rw [hl];exact hj)];rfl
theorem own_put {α:Type} {enc:α→List Value} {g cap:Nat} {ys:List α} (hpos:0<sz) (hl:∀ x,(enc x).length=sz) (h:w.ownsRow base e sz (.slice (some ⟨g,0,none⟩) n cap) n (ys.flatMap enc)) (k:Nat) (hk:k<n) (y:α) :
  (putRow w g (k*sz) (enc y)).ownsRow base e sz (.slice (some ⟨g,0,none⟩) n cap) n ((ys.set k y).flatMap enc):=by
 have hn:ys.length=n:=by
  have:=h.1;rw [flat_len hl] at this;exact Nat.eq_of_mul_eq_mul_right hpos this
 refine ⟨by rw [flat_len hl,List.length_set,hn],.inr ?_⟩;rcases h.2 with ⟨hv,rfl⟩|⟨g',cap',cur,hv,hb,hg,h1,h2,h3,h4⟩
 ·cases hv
 ·injection hv with e1 e2 e3;injection e1 with e1;injection e1 with e1;subst e1 e3;refine ⟨g,cap,_,rfl,hb,putRow_blk _ _ _ _ hg,h1,h2,?_,?_⟩
  ·rw [List.size_toArray,setAll_length,Array.length_toList,h3]
  ·rw [setAll_take,h4,setAll_flat hl y ys k (by omega)]
end
section
variable {P:Program} {w:World} {base:Nat} {e t:TypeId} {sz by_ n:Nat} {v:Value} {xs:List Value} {i:TypeInfo} {z:Value}
theorem step_app (ty:TypeId) (ht:P.underlying t=some (.slice e)) (hi:P.info? e=some i) (hz:i.zero=some z) (hsize:i.size=sz) (hby:i.bytes=by_) (hzs:z.cells.size=sz) (hsz:0<sz)
  (hown:w.ownsRow base e sz v n xs) (ad:Addr) (m c:Nat) (news:List Value) (hl:news.length=m*sz) (hnews:∀ j u,news[j]? = some u→w.cell? (ad.add j)=some u) (h1:∀ u∈news,u.oneCell'=true)
  (hm:0<m) (h63:n+m≤maxLen) (hbytes:(n+m)*by_≤140737488355328) (hbase:base≤w.heap.size) :
  ∃ g cap W,(Builtin.append_ #[t,t] ty #[v,.slice (some ad) m c]).run P w=.ok (.slice (some ⟨g,0,none⟩) (n+m) cap) W∧
   W.ownsRow base e sz (.slice (some ⟨g,0,none⟩) (n+m) cap) (n+m) (xs ++ news)∧Mod (fun k=>v.ownBlock=some k) w W∧(v.ownBlock=some g∨g=w.heap.size):=by
 obtain⟨g,cap,W,h2,h3,h4,h5,-⟩:=run_append_lies w t ty base e i z sz by_ ht hi hz hsize hby hzs hsz v n xs hown ad m c news hl hnews h1 hm h63 hbytes hbase _ rfl;exact⟨g,cap,W,h2,h3,own_grown_mod h4,h5⟩
theorem step_app_nil (ty:TypeId) (ht:P.underlying t=some (.slice e)) (hi:P.info? e=some i) (hown:w.ownsRow base e sz v n xs) (a:Option Addr) (c:Nat) :
  (Builtin.append_ #[t,t] ty #[v,.slice a 0 c]).run P w=.ok v w:=by
 rcases hown.2 with ⟨rfl,rfl⟩|⟨g,cap,cur,rfl,_,_,hnc,_⟩
 ·cases a <;> simp [Builtin.append_,run_underlying ht,sizeOf,typeInfo,hi,Builtin.lenOf,Builtin.firstCells,loadCells,loadCellsFrom]
 ·cases a <;> simp [Builtin.append_,run_underlying ht,sizeOf,typeInfo,hi,Builtin.lenOf,Builtin.firstCells,hnc,storeCells,loadCells,loadCellsFrom]
theorem step_app_any {g0 c0:Nat} (ty:TypeId) (ht:P.underlying t=some (.slice e)) (hi:P.info? e=some i) (hz:i.zero=some z) (hsize:i.size=sz) (hby:i.bytes=by_) (hzs:z.cells.size=sz) (hsz:0<sz)
  (hown:w.ownsRow base e sz (.slice (some ⟨g0,0,none⟩) n c0) n xs) (ad:Addr) (m c:Nat) (news:List Value) (hl:news.length=m*sz) (hnews:∀ j u,news[j]? = some u→w.cell? (ad.add j)=some u) (h1:∀ u∈news,u.oneCell'=true)
  (h63:n+m≤maxLen) (hbytes:(n+m)*by_≤140737488355328) (hbase:base≤w.heap.size) :
  ∃ g cap W,(Builtin.append_ #[t,t] ty #[.slice (some ⟨g0,0,none⟩) n c0,.slice (some ad) m c]).run P w=.ok (.slice (some ⟨g,0,none⟩) (n+m) cap) W∧
   W.ownsRow base e sz (.slice (some ⟨g,0,none⟩) (n+m) cap) (n+m) (xs ++ news)∧Mod (fun k=>k=g0) w W∧(g=g0∨g=w.heap.size):=by
 rcases Nat.eq_zero_or_pos m with rfl | hm
 ·have hn:news=[]:=List.eq_nil_of_length_eq_zero (by simpa using hl);subst hn;exact⟨g0,c0,w,step_app_nil ty ht hi hown _ _,by simpa using hown,Mod.refl _ _,.inl rfl⟩
 ·obtain ⟨g,cap,W,h1,h2,h3,h4⟩:=step_app ty ht hi hz hsize hby hzs hsz hown ad m c news hl hnews h1 hm h63 hbytes hbase;refine ⟨g,cap,W,h1,h2,h3.mono (fun k hk=>?_),h4.imp (fun h=>?_) id⟩
  ·simpa [Value.ownBlock] using hk.symm
  ·simpa [Value.ownBlock] using h.symm
theorem own_empty (w:World) (hb:base≤w.heap.size):(w.alloc (.cells #[] e)).ownsRow base e sz (.slice (some ⟨w.heap.size,0,none⟩) 0 0) 0 []:=
 World.ownsRow_made w #[] 0 hb (Nat.zero_le _) (by simp)
end
section
variable {P:Program} {ops:Array Oper} {rest:List Oper} {o:Oper} {a:Act} {w W:World} {Q:Exit→Act→World→Prop} {s x:Operand} {t:TypeId} {v y r:Value}
theorem wpList_app_run (hgd:o.guard=none) (ho:o.op=.call {callee:=.builtin .append,args:=#[s,x],argTypes:=#[t,t]}) (hs:a.eval s=v) (hx:a.eval x=y)
  (hrun:(Builtin.append_ #[t,t] o.type #[v,y]).run P w=.ok r W) (h:wpList P ops Q rest (a.put o.dst r) W):wpList P ops Q (o :: rest) a w:=
 wpList_plain hgd fun K hK=>by
  unfold Oper.wp execOp;simp only [ho,resolve,invoke,builtin,Sem.run_bind,Sem.run_pure,Result.andThen_ok,List.map_toArray,List.map_cons,List.map_nil,hs,hx,hrun];exact hK _ _ h
theorem step_app_run {K:Act→World→Prop} {E:Prop} (hgd:o.guard=none) (ho:o.op=.call {callee:=.builtin .append,args:=#[s,x],argTypes:=#[t,t]}) (hs:a.eval s=v) (hx:a.eval x=y)
  (hrun:(Builtin.append_ #[t,t] o.type #[v,y]).run P w=.ok r W) (h:K (a.put o.dst r) W) :
  if Region.wanted o (yielded ops a.tmps)=true then Oper.wp P o a w K Q else E:=by
 have hw:Region.wanted o (yielded ops a.tmps)=true:=by simp [Region.wanted,hgd]
 rw [if_pos hw];unfold Oper.wp execOp;simp only [ho,resolve,invoke,builtin,Sem.run_bind,Sem.run_pure,Result.andThen_ok,List.map_toArray,List.map_cons,List.map_nil,hs,hx,hrun];exact h
end
end
section
open Go.RowKit
theorem snoc_ind {α:Type} {P:List α→Prop} (h0:P []) (h1:∀ l x,P l→P (l ++ [x])) (l:List α):P l:=by
 have key:∀ r:List α,P r.reverse:=by
  intro r
  induction r with
  | nil=>exact h0
  | cons x r ih=>rw [List.reverse_cons];exact h1 _ _ ih
 have:=key l.reverse
 rwa [List.reverse_reverse] at this
def splStep (c:UInt8) (acc:List (List UInt8)) (x:UInt8):List (List UInt8):=if x=c then acc ++ [[]] else acc.set (acc.length - 1) (acc.getD (acc.length - 1) [] ++ [x])
def spl (c:UInt8) (l:List UInt8):List (List UInt8):=l.foldl (splStep c) [[]]
theorem spl_snoc (c:UInt8) (l:List UInt8) (x:UInt8):spl c (l ++ [x])=splStep c (spl c l) x:=by simp [spl]
theorem spl_len (c:UInt8) (l:List UInt8):0<(spl c l).length∧(spl c l).length≤l.length+1:=by
 refine snoc_ind (P:=fun l=>0<(spl c l).length∧(spl c l).length≤l.length+1) (by simp [spl]) (fun l x ih=>?_) l;rw [spl_snoc,List.length_append];unfold splStep
 split
 ·simp;omega
 ·simp;omega
theorem spl_size (c:UInt8) (l:List UInt8):∀ p∈spl c l,p.length≤l.length:=by
 refine snoc_ind (P:=fun l=>∀ p∈spl c l,p.length≤l.length) (by simp [spl]) (fun l x ih=>?_) l
 ·intro p hp;rw [spl_snoc] at hp;unfold splStep at hp;rw [List.length_append,List.length_singleton]
  split at hp
  ·rcases List.mem_append.1 hp with h | h
   ·have:=ih p h;omega
   ·simp at h;subst h;simp
  ·rcases List.mem_or_eq_of_mem_set hp with h | rfl
   ·have:=ih p h;omega
   ·rw [List.length_append,List.length_singleton];have hl:=(spl_len c l).1;rw [List.getD_eq_getElem?_getD,List.getElem?_eq_getElem (by omega)];have:=ih _ (List.getElem_mem (l:=spl c l) (n:=(spl c l).length - 1) (by omega));simp only [Option.getD_some];omega
def encS (l:List UInt8):List Value:=[.string (str l)]
theorem encS_len (l:List UInt8):(encS l).length=1:=rfl
def OS (w:World) (base:Nat) (v:Value) (ls:List (List UInt8)):Prop:=w.ownsRow base 9 1 v ls.length (ls.flatMap encS)
theorem str_info:(Tryz.prog.info? 9).map (fun i=>(i.zero,i.size,i.bytes))=some (some (.string ByteArray.empty),1,16):=by kernel_rfl
theorem OS.one (w:World) (base:Nat) (l:List UInt8) (hb:base≤w.heap.size):OS (w.alloc (.cells #[.string (str l)] 9)) base (.slice (some ⟨w.heap.size,0,none⟩) 1 1) [l]:=
 ⟨rfl,.inr ⟨w.heap.size,1,_,rfl,hb,Blk.new w _ _,Nat.le_refl _,by unfold maxLen;omega,rfl,rfl⟩⟩
theorem OS.app {w:World} {base:Nat} {v:Value} {ls:List (List UInt8)} (h:OS w base v ls) (l:List UInt8) (hl:ls.length≤1000000) (hb:base≤w.heap.size) :
  ∃ g cap W,(Builtin.append_ #[38,38] 38 #[v,.slice (some ⟨w.heap.size,0,none⟩) 1 1]).run Tryz.prog (w.alloc (.cells #[.string (str l)] 9))=.ok (.slice (some ⟨g,0,none⟩) (ls.length+1) cap) W∧
   OS W base (.slice (some ⟨g,0,none⟩) (ls.length+1) cap) (ls ++ [l])∧Below base w W:=by
 obtain⟨i0,hi,hz0,hz1,hz2⟩:=info_parts str_info;have ho:=World.ownsRow.alloc h (.cells #[.string (str l)] 9);obtain⟨g,cap,W,h1,h2,h3,h4⟩:=step_app 38 Tryz.underlying38 hi hz0 hz1 hz2 rfl (by omega) ho ⟨w.heap.size,0,none⟩ 1 1 [.string (str l)] rfl (World.news_of_block (Blk.new w #[.string (str l)] 9)) (by intro u hu;simp at hu;subst hu;rfl) (by omega) (by unfold maxLen;omega) (by omega) (by simp;omega);refine ⟨g,cap,W,h1,?_,?_⟩
 ·unfold OS;rw [List.length_append,List.length_singleton,List.flatMap_append];exact h2
 ·refine (((Below.refl base w).alloc hb _)).trans (h3.below (fun k hk=>(h.lt k hk).1) (by simp;omega))
theorem OS.put {w:World} {base g cap:Nat} {ls:List (List UInt8)} (h:OS w base (.slice (some ⟨g,0,none⟩) ls.length cap) ls) (k:Nat) (hk:k<ls.length) (l:List UInt8) :
  OS (w.setCell ⟨g,k,none⟩ (.string (str l))) base (.slice (some ⟨g,0,none⟩) ls.length cap) (ls.set k l):=by
 have:=own_put (enc:=encS) (by omega) encS_len h k hk l;rw [Nat.mul_one] at this;unfold OS;rw [List.length_set];exact this
theorem OS.cell {w:World} {base g cap:Nat} {ls:List (List UInt8)} (h:OS w base (.slice (some ⟨g,0,none⟩) ls.length cap) ls) (k:Nat) (hk:k<ls.length):w.cell? ⟨g,k,none⟩=some (.string (str ls[k])):=by
 obtain⟨-,-,-,h0 | ⟨b,off,he,hb,hel⟩⟩:=own_slice (R:=fun cs x=>cs=encS x) (by omega) encS_len (fun _=>rfl) h
 ·omega
 ·injection he with he;injection he with e1 e2;subst e1 e2;obtain⟨cs,h1,h2,h3⟩:=hel k hk;subst h2;have:=h3 0 (by simp [encS]);simpa [encS] using this
theorem own_frozen {w:World} {base g cap n sz:Nat} {e:TypeId} {xs:List Value} (h:w.ownsRow base e sz (.slice (some ⟨g,0,none⟩) n cap) n xs):(∀ i,w.frozen? ⟨g,i,none⟩=false)∧base≤g∧g<w.heap.size:=by
 rcases h.2 with ⟨hv,-⟩|⟨g',cap',cur,hv,hb,hg,-⟩
 ·cases hv
 ·injection hv with hv;injection hv with hv;injection hv with hv;subst hv;exact⟨Blk.frozen (w:=w) (vs:=cur) hg,hb,(Array.getElem?_eq_some_iff.1 hg).1⟩
theorem wp_still_tail {P:Program} {id:Nat} {Q:Exit→Act→World→Prop} {a:Act} {w:World} {L:List Oper} (n:Nat) (hm:P.follows .mixedOrders=true) (hB:Region.lexTailB .any L.toArray n=true)
  (h:wpStill P L.toArray w.drew (fun a'=>wpList P L.toArray Q (L.drop n) a' w.drew) (L.take n) a):(Code.region id L.toArray true).wp P Q a w:=wp_region_still_tail n hm hB h
theorem pieces_any (s:ByteArray) (w:World) (hs:s.size≤100000) :
  Calls Tryz.prog 161 #[.string s] w fun e w'=>(∃ g cap,e=.returned (.slice (some ⟨g,0,none⟩) (spl 47 s.data.toList).length cap)∧OS w' w.heap.size (.slice (some ⟨g,0,none⟩) (spl 47 s.data.toList).length cap) (spl 47 s.data.toList))∧Below w.heap.size w w':=by
 go_enter Tryz.func161,Tryz.ntmps161;go_wp2_with fail
 go_loopw [3,4] (fun t3 t4 wr=>∃ (k g cap:Nat) (ls:List (List UInt8)),k≤s.size∧t4=.int .i64 k∧t3=.slice (some ⟨g,0,none⟩) ls.length cap∧OS wr w.heap.size (.slice (some ⟨g,0,none⟩) ls.length cap) ls∧ls=spl 47 (s.data.toList.take k)∧Below w.heap.size w wr) (fun _ t4 _=>s.size - (intOf t4).toNat)
 case atStart=>exact ⟨0,w.heap.size,1,[[]],Nat.zero_le _,rfl,rfl,OS.one w _ [] (Nat.le_refl _),by simp [spl],balloc (Below.refl _ _) _⟩
 case round=>
  obtain⟨k,g,cap,ls,hk,rfl,rfl,hO,hls,hW⟩:=hrel;have hll:0<ls.length∧ls.length≤100001:=by
   have h1:=spl_len 47 (s.data.toList.take k);have h2:(s.data.toList.take k).length≤k:=List.length_take_le _ _;rw [hls];omega
  have HO:=Lib.hid hO;have HLs:=Lib.hid hls;have HW:=Lib.hid hW;obtain⟨hl0,hl1⟩:=hll;by_cases hlt:k<s.size
  ·have Hst:=Lib.hid (take_step s k hlt);by_cases hc:s[k]=47
   ·have hc1:((s[k].toNat:Int) == 47)=true:=by rw [hc];rfl
    have HC:=Lib.hid hc;obtain⟨g2,cap2,W,hrun,hO2,hB2⟩:=hO.app [] (by omega) hW.size;have HR:=Lib.hid hrun;have HX:=Lib.hid (And.intro hO2 hB2);clear hc hO hls hW hrun hO2 hB2;go_wp2_with (at_builtin;refine wpList_app_run rfl rfl rfl rfl HR.out ?_);go_roundw
    case measure=>simp [intOf];omega
    case rel=>exact ⟨k+1,g2,cap2,ls ++ [[]],by omega,by go_num,by simp,by simpa using HX.out.1,by rw [Hst.out,spl_snoc,splStep,if_pos HC.out,←HLs.out],HW.out.trans HX.out.2⟩
   ·have hc1:((s[k].toNat:Int) == 47)=false:=by
     simp only [beq_eq_false_iff_ne,ne_eq];intro h;exact hc (by rw [u8_eq];show s[k].toNat=47;omega)
    have HC:=Lib.hid hc;have hcl:=hO.cell (ls.length - 1) (by omega);obtain⟨hfz,-,-⟩:=own_frozen hO;have hts:(str ls[ls.length - 1]).size≤100000:=by
     rw [str_size];have h1:=spl_size 47 (s.data.toList.take k) ls[ls.length - 1] (by rw [←hls];exact List.getElem_mem _);have h2:(s.data.toList.take k).length≤k:=List.length_take_le _ _;omega
    have HX:=Lib.hid (fun (t:ByteArray) (ht:t=str (ls[ls.length - 1] ++ [s[k]]))=>(show OS (wr.drew.setCell ⟨g,ls.length - 1,none⟩ (.string t)) w.heap.size (.slice (some ⟨g,0,none⟩) ls.length cap) (ls.set (ls.length - 1) (ls[ls.length - 1] ++ [s[k]])) from by rw [ht];exact OS.put (w:=wr.drew) hO _ (by omega) _));have HEq:=Lib.hid (show splStep 47 ls s[k]=ls.set (ls.length - 1) (ls[ls.length - 1] ++ [s[k]]) by
     unfold splStep;rw [if_neg HC.out,List.getD_eq_getElem?_getD,List.getElem?_eq_getElem (show ls.length - 1<ls.length by omega)];rfl)
    have hx:=ext1 s k hlt;have HT:=Lib.hid (str_append ls[ls.length - 1] [s[k]]);have hbg:=Lib.hid (own_frozen hO).2;generalize str ls[ls.length - 1]=t at hcl hts HT;have HN:=Lib.hid (show (1:Int)≤(ls.length:Int)∧(0:Int)≤(ls.length:Int) - 1∧(ls.length:Int) - 1<(ls.length:Int)∧((ls.length:Int) - 1).toNat=ls.length - 1∧(0:Int)≤(k:Int)+1∧(k:Int)≤(k:Int)+1∧(k:Int)+1≤(s.size:Int)∧((k:Int)+1).toNat=k+1 by omega);have hss:(str [s[k]]).size=1:=rfl;have HW1:=Lib.hid (And.intro (show IntKind.i64.wrap ((ls.length:Int) - 1)=(ls.length:Int) - 1 by simp [IntKind.wrap,IntKind.bits,IntKind.signed];omega) (And.intro (show IntKind.i64.wrap ((k:Int)+1)=(k:Int)+1 by simp [IntKind.wrap,IntKind.bits,IntKind.signed];omega) (show ¬ 9223372036854775807<t.size+1 by omega)));clear hc hO hls hW;go_wp2_with fail;obtain⟨g1,g2,g3⟩:=HW1.out;obtain⟨n0,n1,n2,n3,n4,n5,n6,n7⟩:=HN.out;refine wp_still_tail 17 (by kernel_rfl) (by kernel_rfl) ?_;simp only [List.take_succ_cons,List.take_zero,List.drop_succ_cons,List.drop_zero]
    repeat still_step
    refine wpStill_nil ?_;clear g1 g2 g3;go_wp2_with fail;go_roundw
    case measure=>simp [intOf];omega
    case rel=>exact ⟨k+1,g,cap,ls.set (ls.length - 1) (ls[ls.length - 1] ++ [s[k]]),by omega,by go_num,by rw [List.length_set],by rw [List.length_set];exact HX.out _ HT.out,by rw [Hst.out,spl_snoc,←HLs.out,HEq.out],HW.out.trans ((Below.refl _ _).drew.setCell hbg.out.1 _)⟩
  ·obtain rfl:k=s.size:=by omega
   have Hst:=Lib.hid (take_end s);clear hO hls hW;go_wp2_with fail;go_ret;rw [Hst.out] at HLs;have hls:=HLs.out;subst hls;exact⟨⟨g,cap,rfl,HO.out⟩,HW.out⟩
end
section
open Go.RowKit
def segL (l:List UInt8):List UInt8:=(l.reverse.takeWhile (· != 47)).reverse
def trimL (l:List UInt8):List UInt8:=(l.reverse.dropWhile (· == 47)).reverse
def lastL (l:List UInt8):List UInt8:=if segL (trimL l)=[46]∨segL (trimL l)=[46,46] then [] else segL (trimL l)
def pathE (s:ByteArray):Int:=if s.data.toList=[] then 5 else if s.data.toList.head?≠some 47∨(0:UInt8)∈s.data.toList then 1 else if 4096<s.size then 13 else 0
def pathB (s:ByteArray):Bool:=pathE s == 0 && lastL s.data.toList != []
theorem segL_snoc (l:List UInt8) (x:UInt8):segL (l ++ [x])=if x=47 then [] else segL l ++ [x]:=by
 unfold segL;rw [List.reverse_append,List.reverse_singleton,List.singleton_append,List.takeWhile_cons];by_cases h:x=47
 ·subst h;simp
 ·have:(x != 47)=true:=by simpa using h
  rw [this,if_neg h];simp
theorem spl_last (l:List UInt8):(spl 47 l).getLast? = some (segL l):=by
 refine snoc_ind (P:=fun l=>(spl 47 l).getLast? = some (segL l)) rfl (fun l x ih=>?_) l;rw [spl_snoc,segL_snoc];unfold splStep;have hl:=(spl_len 47 l).1;by_cases h:x=47
 ·rw [if_pos h,if_pos h];simp
 ·rw [if_neg h,if_neg h];rw [List.getLast?_eq_getElem?] at ih ⊢;rw [List.length_set,List.getElem?_set_self (by omega)];rw [List.getD_eq_getElem?_getD,ih];rfl
def hasB (s:ByteArray) (c:UInt8):Bool:=decide (c∈s.data.toList)
theorem has_any (s:ByteArray) (c:UInt8) (w:World) (hs:s.size≤100000) :
  Calls Tryz.prog 158 #[.string s,.int .u8 c.toNat] w fun e w'=>e=.returned (.bool (hasB s c))∧w=w':=by
 go_enter Tryz.func158,Tryz.ntmps158;go_wp2_with fail
 go_loop [5] (fun t5=>∃ k:Nat,k≤s.size∧t5=.int .i64 k∧∀ j (h:j<s.size),j<k→s[j]≠c) (fun t5=>s.size - (intOf t5).toNat)
 case atStart=>exact ⟨0,Nat.zero_le _,rfl,fun j _ h=>absurd h (Nat.not_lt_zero _)⟩
 case round=>
  obtain⟨k,hk,rfl,hn⟩:=hrel;have Hn:=Lib.hid hn;clear hn;by_cases hlt:k<s.size
  ·by_cases he:s[k]=c
   ·have HE:=Lib.hid he;have he1:((s[k].toNat:Int) == (c.toNat:Int))=true:=by rw [he];simp
    clear he;go_wp2_with fail;go_ret;refine ⟨ret_bool ?_,rfl⟩;have:c∈s.data.toList:=by
     rw [←HE.out];exact List.getElem_mem (l:=s.data.toList) (n:=k) (by simpa using hlt)
    exact (decide_eq_true this).symm
   ·have HE:=Lib.hid he;have he1:((s[k].toNat:Int) == (c.toNat:Int))=false:=by
     simp only [beq_eq_false_iff_ne,ne_eq];intro h;exact he (by rw [u8_eq];omega)
    clear he;go_wp2_with fail
    go_round
    case measure=>simp [intOf];omega
    case rel=>
     refine ⟨k+1,by omega,by go_num,fun j hj hjk=>?_⟩;by_cases e:j=k
     ·subst e;exact HE.out
     ·exact Hn.out j hj (by omega)
  ·obtain rfl:k=s.size:=by omega
   go_wp2_with fail;go_ret;refine ⟨ret_bool ?_,rfl⟩;have:¬ c∈s.data.toList:=by
    intro h;obtain⟨j,hj,rfl⟩:=List.getElem_of_mem h;have hj':j<s.size:=by simpa using hj
    exact Hn.out j hj' hj' rfl
   exact (decide_eq_false this).symm
theorem segL_app (a b:List UInt8) (hb:∀ x∈b,x≠47):segL (a ++ b)=segL a ++ b:=by
 revert hb;refine snoc_ind (P:=fun b=>(∀ x∈b,x≠47)→segL (a ++ b)=segL a ++ b) (by simp) (fun b x ih hb=>?_) b;rw [←List.append_assoc,segL_snoc,if_neg (hb x (by simp)),ih (fun y hy=>hb y (List.mem_append_left _ hy)),List.append_assoc]
theorem seg_idx (s:ByteArray):∃ i:Nat,Lib.lastIndexByte s 47=(i:Int) - 1∧i≤s.size∧s.data.toList.drop i=segL s.data.toList:=by
 have hg:∀ j (h:j<s.size),s.data[j]! = s.data.toList[j]'(by simpa using h):=fun j h=>by
  rw [getElem!_pos s.data j h];rfl
 rcases Lib.lastIdx_spec s 47 s.size with ⟨h1,h2⟩|⟨i,hi,h1,h2,h3⟩
 ·refine ⟨0,by unfold Lib.lastIndexByte;rw [h1];rfl,Nat.zero_le _,?_⟩;have hb:∀ x∈s.data.toList,x≠47:=by
   intro x hx;obtain⟨j,hj,rfl⟩:=List.getElem_of_mem hx;have hj':j<s.size:=by simpa using hj
   have:=h2 j hj';rw [hg j hj'] at this;intro e;rw [e] at this;exact this rfl
  have:=segL_app [] s.data.toList hb;rw [List.nil_append] at this;rw [this];rfl
 ·refine ⟨i+1,by unfold Lib.lastIndexByte;rw [h1];omega,hi,?_⟩;have hi':i<s.data.toList.length:=by simpa using hi
  have hb:∀ x∈s.data.toList.drop (i+1),x≠47:=by
   intro x hx;obtain⟨j,hj,rfl⟩:=List.getElem_of_mem hx;rw [List.length_drop] at hj;have hj':i+1+j<s.size:=by
    have:s.data.toList.length=s.size:=Array.length_toList;omega
   have:=h3 (i+1+j) (by omega) hj';rw [hg _ hj'] at this;intro e;rw [List.getElem_drop] at e;rw [e] at this;exact this rfl
  have h47:s.data.toList[i]=47:=by
   rw [hg i hi] at h2;rw [u8_eq];show (s.data.toList[i]).toNat=47;omega
  have hsp:s.data.toList=(s.data.toList.take i ++ [47]) ++ s.data.toList.drop (i+1):=by
   rw [←h47,←List.take_succ_eq_append_getElem,List.take_append_drop]
  have h5:=segL_app (s.data.toList.take i ++ [47]) (s.data.toList.drop (i+1)) hb;rw [←hsp,segL_snoc,if_pos rfl,List.nil_append] at h5;exact h5.symm
theorem tail_any (s:ByteArray) (w:World) (hs:s.size≤100000) :
  Calls Tryz.prog 159 #[.string s] w fun e w'=>e=.returned (.string (str (segL s.data.toList)))∧w=w':=by
 obtain⟨i,h1,h2,h3⟩:=seg_idx s;have hc:=Lib.hid (show ∀ w,Calls Tryz.prog 216 #[.string s,.int .u8 47] w fun e w'=>e=.returned (.int .i64 ((i:Int) - 1))∧w=w' from fun w=>by
  refine (Tryz.strings_LastIndexByte s 47 (by omega) w).mono ?_;rintro e w' ⟨rfl,rfl⟩;exact⟨by rw [h1],rfl⟩)
 have hx:=Lib.hid (show s.extract i s.size=str (segL s.data.toList) by
  rw [←h3];apply ba_ext;rw [ByteArray.toList_eq,ByteArray.toList_eq,ByteArray.data_extract];show (s.data.extract i s.data.size).toList=_;rw [Array.toList_extract,List.extract_eq_take_drop];show List.take (s.data.size - i) (List.drop i s.data.toList)=List.drop i s.data.toList;exact List.take_of_length_le (by rw [List.length_drop,Array.length_toList];omega))
 clear h1 h3;go_enter Tryz.func159,Tryz.ntmps159;go_wp2_with (go_at_call 216;refine (hc.out _).mono ?_;rintro e w1 ⟨rfl,rfl⟩);go_ret;exact⟨by rw [←hx.out];rfl,rfl⟩
end
section
open Go.RowKit
theorem str_list (l:List UInt8):(str l).data.toList=l:=by simp [str]
theorem ba_list (t:ByteArray):t.toList=t.data.toList:=ByteArray.toList_eq t
theorem trimL_len (l:List UInt8):(trimL l).length≤l.length:=by
 unfold trimL;rw [List.length_reverse];have:=(List.dropWhile_sublist (l:=l.reverse) (fun x=>x == 47)).length_le
 rwa [List.length_reverse] at this
theorem trimL_snoc (l:List UInt8) (x:UInt8):trimL (l ++ [x])=if x=47 then trimL l else l ++ [x]:=by
 unfold trimL;rw [List.reverse_append,List.reverse_singleton,List.singleton_append,List.dropWhile_cons];by_cases h:x=47
 ·subst h;simp
 ·have:(x == 47)=false:=by simpa using h
  rw [this,if_neg h];simp
end
section
open Go.RowKit
def permB (cu cg uid gid mode want:Int):Bool:=
 if cu=0 then true else
  (bits .and .i64 (bits .and .i64 (if cu=uid then mode / 64 else if cg=gid then mode / 8 else mode) want) 7 == bits .and .i64 want 7)
structure Cr where
 u:Int
 g:Int
def An.may (a:An) (c:Cr) (want:Int):Bool:=permB c.u c.g a.uid a.gid a.mode want
def ownsB (c:Cr) (a:An):Bool:=(c.u == 0) || (c.u == a.uid)
def idB (u g:Int):Bool:=decide (0≤u∧u≤2147483648∧0≤g∧g≤2147483648)
def Fs.dev (S:Fs) (d:Int):Option Dv:=if 1≤d then S.ds[(d - 1).toNat]? else none
def Fs.setDev (S:Fs) (d:Int) (v:Dv):Fs:={S with ds:=S.ds.set (d - 1).toNat v}
def Fs.addRoot (S:Fs) (over blocks nodes:Int):Fs:=
 {ns:=S.ns ++ [{an0 with no:=S.last+1,dev:=S.ds.length+1,kind:=1,mode:=493,links:=1,up:=S.last+1}]
  ds:=S.ds ++ [⟨S.last+1,over,1,1,blocks,nodes⟩]
  last:=S.last+1}
def fs0:Fs:=⟨[],[],0⟩
def Fs.mount (S:Fs) (k blocks nodes:Int):Fs×Int×Int:=
 match S.get k with
 | none=>(S,0,5)
 | some a=>
  if a.kind≠1 then (S,0,9)
  else if S.over k≠k∨S.root a.dev=k then (S,0,16)
  else if 8≤S.ds.length∨limB blocks nodes=false then (S,0,3)
  else (S.addRoot k blocks nodes,S.last+1,0)
def Fs.above (S:Fs) (k:Int):Int:=
 match S.get k with
 | none=>0
 | some a=>
  if a.kind≠1 then 0
  else if S.root a.dev=k∧1<a.dev then
   (match S.dev a.dev with
    | none=>0
    | some v=>match S.get v.over with | none=>0 | some b=>b.up)
  else a.up
def Fs.make (S:Fs) (a:An):Fs×Int×Int:=
 if S.root a.dev=0 then (S,0,1) else
 match S.dev a.dev with
 | none=>(S,0,1)
 | some v=>
  let e:=tkE v.b v.n v.mb v.mn (blkI a.kind a.data.size) 1
  if e=0 then (((S.setDev a.dev {v with b:=v.b+blkI a.kind a.data.size,n:=v.n+1}).add a),S.last+1,0)
  else (S,0,e)
def partsL (l:List UInt8):List (List UInt8):=(spl 47 l).filter fun p=>!(p == []) && !(p == [46])
def slashB (l:List UInt8):Bool:=segL l == [] || segL l == [46] || segL l == [46,46]
structure Fd where
 dir:Int
 name:ByteArray
 no:Int
 slash:Bool
def fd0:Fd:=⟨0,ByteArray.empty,0,false⟩
def Fs.step (S:Fs) (c:Cr) (at':Int) (p:List UInt8):Int×Int:=
 match S.get at' with
 | none=>(0,9)
 | some d=>
  if d.kind≠1 then (0,9)
  else if d.may c 1=false then (0,6)
  else if p=[46,46] then (S.above at',0)
  else if 255<p.length then (0,13)
  else (S.over (entFind d.ents (str p)),0)
def Fs.seekL (S:Fs) (c:Cr) (follow:Bool) (k:Option (Int→Bool→List (List UInt8)→Fd×Int)):List (List UInt8)→Int→Bool→Fd×Int
 | [],at',_=>(⟨0,ByteArray.empty,at',true⟩,0)
 | p :: l,at',must=>
  let r:=S.step c at' p
  if r.2≠0 then (fd0,r.2)
  else if p=[46,46] then S.seekL c follow k l r.1 must
  else match S.get r.1 with
  | none=>if l=[] then (⟨at',str p,0,must⟩,0) else (fd0,5)
  | some n=>
   if n.kind=3∧(l≠[]∨must=true∨follow=true) then
    (match k with
     | none=>(fd0,12)
     | some k=>
      if n.data.data.toList=[] then (fd0,5)
      else k (if n.data.data.toList.head? = some 47 then 1 else at') (if l=[] then must || slashB n.data.data.toList else must) (partsL n.data.data.toList ++ l))
   else if n.kind≠1∧(l≠[]∨must=true) then (fd0,9)
   else if l=[] then (⟨at',str p,r.1,must⟩,0)
   else S.seekL c follow k l r.1 must
def Fs.seekH (S:Fs) (c:Cr) (follow:Bool):Nat→Int→Bool→List (List UInt8)→Fd×Int
 | 0,at',must,l=>S.seekL c follow none l at' must
 | h+1,at',must,l=>S.seekL c follow (some (S.seekH c follow h)) l at' must
def Fs.path (S:Fs) (c:Cr) (s:ByteArray) (follow:Bool):Fd×Int:=
 if pathE s≠0 then (fd0,pathE s) else S.seekH c follow 8 1 (slashB s.data.toList) (partsL s.data.toList)
def checkE (s:ByteArray):Int:=
 if s.data.toList=[]∨s.data.toList=[46]∨s.data.toList=[46,46]∨(47:UInt8)∈s.data.toList∨(0:UInt8)∈s.data.toList then 1 else if 255<s.size then 13 else 0
def Fs.placeE (S:Fs) (c:Cr) (dir:Int) (s:ByteArray):Int:=
 match S.get dir with
 | none=>5
 | some d=>if d.kind≠1 then 9 else if checkE s≠0 then checkE s else if d.may c 3=false then 6 else 0
def Fs.touch (S:Fs) (now dir:Int) (l:List En):Fs:=
 match S.get dir with
 | none=>S
 | some d=>S.set {d with ents:=l,mtime:=now,ctime:=now}
def Fs.come (S:Fs) (c:Cr) (now dir:Int) (s:ByteArray) (a:An):Fs×Int×Int:=
 if S.placeE c dir s≠0 then (S,0,S.placeE c dir s) else
 match S.get dir with
 | none=>(S,0,5)
 | some d=>
  if entFind d.ents s≠0 then (S,0,7)
  else
   let r:=S.make {a with dev:=d.dev,uid:=c.u,gid:=c.g,mtime:=now,ctime:=now,links:=1}
   if r.2.2≠0 then (S,0,r.2.2)
   else (r.1.touch now dir (entPut d.ents s r.2.1),r.2.1,0)
def Fs.mkdir (S:Fs) (c:Cr) (now dir:Int) (s:ByteArray) (mode:Int):Fs×Int×Int:=
 if mode<0∨1023<mode then (S,0,1) else S.come c now dir s {an0 with kind:=1,mode:=mode,up:=dir}
def Fs.file (S:Fs) (c:Cr) (now dir:Int) (s:ByteArray) (mode:Int) (data:ByteArray):Fs×Int×Int:=
 if mode<0∨1023<mode then (S,0,1) else if 1048576<data.size then (S,0,3) else S.come c now dir s {an0 with kind:=2,mode:=mode,data:=data}
def Fs.sym (S:Fs) (c:Cr) (now dir:Int) (s text:ByteArray):Fs×Int×Int:=
 if text.data.toList=[]∨(0:UInt8)∈text.data.toList then (S,0,1) else if 4096<text.size then (S,0,13) else S.come c now dir s {an0 with kind:=3,mode:=511,data:=text}
def Fs.hard (S:Fs) (c:Cr) (now no dir:Int) (s:ByteArray):Fs×Int:=
 if S.placeE c dir s≠0 then (S,S.placeE c dir s) else
 match S.get dir,S.get no with
 | some d,some n=>
  if n.kind=1 then (S,4)
  else if entFind d.ents s≠0 then (S,7)
  else if n.dev≠d.dev then (S,11)
  else if 1000≤n.links then (S,18)
  else ((S.set {n with links:=n.links+1,ctime:=now}).touch now dir (entPut d.ents s no),0)
 | _,_=>(S,5)
def Fs.chmod (S:Fs) (c:Cr) (now no mode:Int):Fs×Int:=
 match S.get no with
 | none=>(S,5)
 | some n=>if ownsB c n=false then (S,4) else if mode<0∨1023<mode∨n.kind=3 then (S,1) else (S.set {n with mode:=mode,ctime:=now},0)
def Fs.chown (S:Fs) (c:Cr) (now no u g:Int):Fs×Int:=
 match S.get no with
 | none=>(S,5)
 | some n=>if ownsB c n=false then (S,4) else if c.u≠0 then (S,4) else if idB u g=false then (S,1) else (S.set {n with uid:=u,gid:=g,ctime:=now},0)
def Fs.utime (S:Fs) (c:Cr) (now no t:Int):Fs×Int:=
 match S.get no with
 | none=>(S,5)
 | some n=>if ownsB c n=false then (S,4) else if t<0∨253402300799<t then (S,1) else (S.set {n with mtime:=t,ctime:=now},0)
structure Sy where
 fs:Fs
 now:Int
 count:Int
 plan:List (Int×Int)
 dead:Bool
def Sy.change (Y:Sy):Sy×Int:=
 if Y.dead then (Y,20) else
 match Y.plan.find? (fun x=>x.1 == Y.count+1) with
 | none=>({Y with count:=Y.count+1},0)
 | some x=>({Y with count:=Y.count+1,dead:=x.2 == 20},x.2)
end
end Go.Proofs.YtihdbncoijhihaaGreatDoor
