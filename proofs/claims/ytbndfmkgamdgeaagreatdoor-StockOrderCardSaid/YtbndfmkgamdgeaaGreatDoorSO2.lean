import Derived.Test.YtbndfmkgamdgeaaGreatDoorSO1
set_option linter.unusedVariables false
set_option linter.unusedSimpArgs false
set_option maxRecDepth 100000
set_option maxHeartbeats 16000000
namespace Go.Proofs.YtbndfmkgamdgeaaGreatDoor
section
def str (l:List UInt8):ByteArray:=⟨l.toArray⟩
theorem str_size (l:List UInt8):(str l).size=l.length:=by simp [str,ByteArray.size]
theorem str_append (a b:List UInt8):str a ++ str b=str (a ++ b):=ByteArray.mk_append_mk a b
theorem str_of (s:ByteArray):str s.data.toList=s:=by
 unfold str
 cases s
 simp
def digF:Nat→Nat→Nat→List UInt8
 | 0,_,_=>[]
 | f+1,b,n=>if n<b then [UInt8.ofNat (48+n)] else digF f b (n / b) ++ [UInt8.ofNat (48+n % b)]
def dig (b n:Nat):List UInt8:=digF (n+1) b n
theorem digF_more (b:Nat) (hb:2≤b):∀ (f n:Nat),n<f→digF f b n=digF (n+1) b n
 | 0,n,h=>by omega
 | f+1,n,h=>by
  unfold digF;by_cases hn:n<b
  ·rw [if_pos hn,if_pos hn]
  ·rw [if_neg hn,if_neg hn];have h0:0<n:=by omega
   have h1:n / b<n:=Nat.div_lt_self h0 (by omega);rw [digF_more b hb f (n / b) (by omega)]
   cases n with
   | zero=>omega
   | succ m=>rw [digF_more b hb (m+1) ((m+1) / b) h1]
theorem dig_small {b n:Nat} (h:n<b):dig b n=[UInt8.ofNat (48+n)]:=by
 unfold dig digF;rw [if_pos h]
theorem dig_step {b n:Nat} (hb:2≤b) (h:b≤n):dig b n=dig b (n / b) ++ [UInt8.ofNat (48+n % b)]:=by
 have h1:n / b<n:=Nat.div_lt_self (by omega) (by omega);unfold dig
 conv=>lhs;unfold digF
 rw [if_neg (by omega),digF_more b hb n (n / b) h1]
theorem dig_len (b:Nat) (hb:2≤b):∀ (k n:Nat),n<b ^ (k+1)→(dig b n).length≤k+1
 | 0,n,h=>by rw [dig_small (by simpa using h)];simp
 | k+1,n,h=>by
  by_cases hn:n<b
  ·rw [dig_small hn];simp
  ·rw [dig_step hb (by omega)];have:n / b<b ^ (k+1):=by rw [Nat.div_lt_iff_lt_mul (by omega)];rwa [Nat.pow_succ] at h
   have:=dig_len b hb k (n / b) this;simp;omega
theorem dig_pos (b n:Nat) (hb:2≤b):0<(dig b n).length:=by
 by_cases hn:n<b
 ·rw [dig_small hn];simp
 ·rw [dig_step hb (by omega)];simp
def valD (b:Nat) (l:List UInt8):Nat:=l.foldl (fun a c=>a*b+(c.toNat - 48)) 0
def decL (n:Int):List UInt8:=if n<0 then 45 :: dig 10 n.natAbs else dig 10 n.toNat
theorem decL_len (n:Int) (h0:-9223372036854775808≤n) (h1:n≤9223372036854775807):(decL n).length≤21∧0<(decL n).length:=by
 unfold decL;have e:(10:Nat) ^ (19+1)=100000000000000000000:=by decide
 split
 ·have:=dig_len 10 (by decide) 19 n.natAbs (by rw [e];omega);simp;omega
 ·have:=dig_len 10 (by decide) 19 n.toNat (by rw [e];omega);have:=dig_pos 10 n.toNat (by decide);omega
theorem foldl_push (ns:List Int):∀ (s:List UInt8),ns.foldl (fun (r:ByteArray) n=>r.push (UInt8.ofNat n.toNat)) (str s)=str (s ++ ns.map fun n=>UInt8.ofNat n.toNat):=by
 induction ns with
 | nil=>intro s;simp
 | cons n ns ih=>
  intro s;rw [List.foldl_cons];have:(str s).push (UInt8.ofNat n.toNat)=str (s ++ [UInt8.ofNat n.toNat]):=by
   unfold str;show ByteArray.mk (s.toArray.push _)=_;simp
  rw [this,ih];simp
theorem conv_bytes {P:Program} {src dst e:TypeId} (hs:P.underlying src=some (.slice e)) (he:P.underlying e=some (.int .u8)) (hd:P.underlying dst=some .string)
  (w:World) (B o c:Nat) (ns:List Int) (h:∀ j,(hj:j<ns.length)→w.cell? ⟨B,o+j,none⟩=some (.int .u8 ns[j])) :
  (convert src dst (.slice (some ⟨B,o,none⟩) ns.length c)).run P w=.ok (.string (str (ns.map fun n=>UInt8.ofNat n.toNat))) w:=by
 rw [run_convert_bytes_string w src dst e _ _ _ hs he hd];have hl:(loadCells ⟨B,o,none⟩ ns.length).run P w=.ok (ns.map (Value.int .u8)).toArray w:=by
  have:=run_loadCells_list (P:=P) w ⟨B,o,none⟩ (ns.map (Value.int .u8)) (by
   intro j v hv;have hj:j<ns.length:=by
    have:=(List.getElem?_eq_some_iff.1 hv).1;simpa using this
   have ha:(⟨B,o,none⟩:Addr).add j=⟨B,o+j,none⟩:=by
    unfold Addr.add
    split
    ·rename_i h0;subst h0;rfl
    ·rfl
   rw [ha,h j hj];simpa [List.getElem?_eq_getElem hj] using hv)
  rwa [List.length_map] at this
 rw [run_bytesToString w _ _ _ ns hl];have:=foldl_push ns [];rw [show str []=ByteArray.empty from rfl] at this;rw [this,List.nil_append]
theorem ba_ext {a b:ByteArray} (h:a.toList=b.toList):a=b:=by
 rw [ByteArray.toList_eq,ByteArray.toList_eq] at h
 cases a;cases b
 simp at h;subst h;rfl
end
section
open Go.RowKit
section
variable {α:Type} {enc:α→List Value} {sz:Nat}
theorem flat_len (hl:∀ x,(enc x).length=sz):∀ (xs:List α),(xs.flatMap enc).length=xs.length*sz
 | []=>by simp
 | x :: xs=>by rw [List.flatMap_cons,List.length_append,flat_len hl xs,hl,List.length_cons,Nat.succ_mul,Nat.add_comm]
theorem flat_get (hl:∀ x,(enc x).length=sz):∀ (xs:List α) (i j:Nat) (hi:i<xs.length),j<sz→(xs.flatMap enc)[i*sz+j]? = (enc xs[i])[j]?
 | [],i,j,hi,_=>by simp at hi
 | x :: xs,0,j,_,hj=>by
  rw [List.flatMap_cons,Nat.zero_mul,Nat.zero_add,List.getElem?_append_left (by rw [hl];exact hj)];rfl
 | x :: xs,i+1,j,hi,hj=>by
  rw [List.flatMap_cons,List.getElem?_append_right (by rw [hl,Nat.succ_mul];omega),hl,show (i+1)*sz+j - sz=i*sz+j by rw [Nat.succ_mul];omega];exact flat_get hl xs i j (by simpa using hi) hj
def setAll (l:List Value) (o:Nat):List Value→List Value
 | []=>l
 | v :: vs=>setAll (l.set o v) (o+1) vs
theorem setAll_append (xs:List Value):∀ (vs:List Value) (l:List Value) (o:Nat),setAll (xs ++ l) (xs.length+o) vs=xs ++ setAll l o vs
 | [],_,_=>rfl
 | v :: vs,l,o=>by
  unfold setAll;rw [List.set_append_right _ _ (by omega),show xs.length+o - xs.length=o by omega,Nat.add_assoc];exact setAll_append xs vs _ _
theorem setAll_head:∀ (vs bs rest:List Value),bs.length=vs.length→setAll (bs ++ rest) 0 vs=vs ++ rest
 | [],bs,rest,h=>by
  simp at h;subst h;rfl
 | v :: vs,[],rest,h=>by simp at h
 | v :: vs,b :: bs,rest,h=>by
  unfold setAll;rw [List.cons_append,List.set_cons_zero];have:=setAll_append [v] vs (bs ++ rest) 0;simp only [List.length_singleton,Nat.add_zero,List.singleton_append] at this;rw [Nat.zero_add,this,setAll_head vs bs rest (by simpa using h)];rfl
theorem setAll_flat (hl:∀ x,(enc x).length=sz) (y:α):∀ (xs:List α) (k:Nat),k<xs.length→setAll (xs.flatMap enc) (k*sz) (enc y)=(xs.set k y).flatMap enc
 | [],k,h=>by simp at h
 | x :: xs,0,_=>by
  rw [List.flatMap_cons,Nat.zero_mul,setAll_head _ _ _ (by rw [hl,hl])];rfl
 | x :: xs,k+1,h=>by
  rw [List.flatMap_cons,show (k+1)*sz=(enc x).length+k*sz by rw [hl,Nat.succ_mul,Nat.add_comm],setAll_append,setAll_flat hl y xs k (by simpa using h)];rfl
end
def putRow (w:World) (g o:Nat):List Value→World
 | []=>w
 | v :: vs=>putRow (w.setCell ⟨g,o,none⟩ v) g (o+1) vs
theorem putRow_blk {T:TypeId} {g:Nat}:∀ (vs:List Value) (w:World) (o:Nat) (cur:Array Value),Blk w g cur T→Blk (putRow w g o vs) g (setAll cur.toList o vs).toArray T
 | [],w,o,cur,h=>by simpa [putRow,setAll] using h
 | v :: vs,w,o,cur,h=>by
  unfold putRow setAll;have:=putRow_blk vs _ (o+1) _ (h.set o v);simpa using this
section
variable {w w':World} {base:Nat} {e:TypeId} {sz n:Nat} {v:Value} {xs:List Value}
theorem own_mod {S:Nat→Prop} (h:w.ownsRow base e sz v n xs) (hm:Mod S w w') (hs:∀ k,S k→v.ownBlock≠some k):w'.ownsRow base e sz v n xs:=by
 refine ⟨h.1,h.2.imp id fun ⟨g,cap,cur,hv,hb,hg,rest⟩=>⟨g,cap,cur,hv,hb,?_,rest⟩⟩;subst hv;rw [hm.block g (Array.getElem?_eq_some_iff.1 hg).1 (fun h=>hs g h rfl)];exact hg
theorem own_below {N:Nat} (h:w.ownsRow base e sz v n xs) (hm:Below N w w') (hN:w.heap.size≤N):w'.ownsRow base e sz v n xs:=by
 refine ⟨h.1,h.2.imp id fun ⟨g,cap,cur,hv,hb,hg,rest⟩=>⟨g,cap,cur,hv,hb,?_,rest⟩⟩;rw [hm.block g (Nat.lt_of_lt_of_le (Array.getElem?_eq_some_iff.1 hg).1 hN)];exact hg
theorem own_grown_mod {row:Option Nat} (h:w.grownBy w' row):Mod (fun k=>row=some k) w w':=
 ⟨h.os,h.tape,h.output,h.size,fun k hk hs=>h.block k hk (fun e=>hs e.symm)⟩
theorem own_form (h:w.ownsRow base e sz v n xs):∃ a cap,v=.slice a n cap∧n≤cap∧cap≤9223372036854775807∧((a=none∧n=0∧cap=0)∨∃ g,a=some ⟨g,0,none⟩∧base≤g∧g<w.heap.size):=by
 rcases h.2 with ⟨rfl,rfl⟩|⟨g,cap,cur,rfl,hb,hg,h1,h2,-,-⟩
 ·exact ⟨none,0,rfl,Nat.le_refl _,by omega,.inl ⟨rfl,rfl,rfl⟩⟩
 ·exact ⟨_,cap,rfl,h1,h2,.inr ⟨g,rfl,hb,(Array.getElem?_eq_some_iff.1 hg).1⟩⟩
theorem own_slice {α:Type} {enc:α→List Value} {R:List Value→α→Prop} {a:Option Addr} {cap:Nat} {ys:List α} (hpos:0<sz) (hl:∀ x,(enc x).length=sz) (hR:∀ x,R (enc x) x)
  (h:w.ownsRow base e sz (.slice a n cap) n (ys.flatMap enc)):SliceAt w sz R a n cap ys:=by
 have hn:ys.length=n:=by
  have:=h.1;rw [flat_len hl] at this;exact Nat.eq_of_mul_eq_mul_right hpos this
 rcases h.2 with ⟨hv,rfl⟩|⟨g,cap',cur,hv,hb,hg,h1,h2,h3,h4⟩
 ·injection hv with e1 e2 e3;subst e1 e3;exact⟨hn,Nat.le_refl _,by omega,.inl rfl⟩
 ·injection hv with e1 e2 e3;subst e1 e3;refine ⟨hn,h1,h2,.inr ⟨g,0,rfl,(Array.getElem?_eq_some_iff.1 hg).1,fun i hi=>⟨enc ys[i],hl _,hR _,fun j hj=>?_⟩⟩⟩;rw [hl] at hj;have hget:=flat_get hl ys i j hi hj;rw [←h4] at hget;rw [List.getElem?_take_of_lt (by have:(i+1)*sz≤n*sz:=Nat.mul_le_mul_right _ (by omega);rw [Nat.succ_mul] at this;omega)] at hget;rw [World.cell?,hg];simp only [Nat.zero_add];rw [Array.getElem?_toList] at hget;rw [hget,List.getElem?_eq_getElem (by rw [hl];exact hj)];rfl
end
section
variable {P:Program} {w:World} {base:Nat} {e t:TypeId} {sz by_ n:Nat} {v:Value} {xs:List Value} {i:TypeInfo} {z:Value}
theorem step_app (ty:TypeId) (ht:P.underlying t=some (.slice e)) (hi:P.info? e=some i) (hz:i.zero=some z) (hsize:i.size=sz) (hby:i.bytes=by_) (hzs:z.cells.size=sz) (hsz:0<sz)
  (hown:w.ownsRow base e sz v n xs) (ad:Addr) (m c:Nat) (news:List Value) (hl:news.length=m*sz) (hnews:∀ j u,news[j]? = some u→w.cell? (ad.add j)=some u) (h1:∀ u∈news,u.oneCell'=true)
  (hm:0<m) (h63:n+m≤maxLen) (hbytes:(n+m)*by_≤140737488355328) (hbase:base≤w.heap.size) :
  ∃ g cap W,(Builtin.append_ #[t,t] ty #[v,.slice (some ad) m c]).run P w=.ok (.slice (some ⟨g,0,none⟩) (n+m) cap) W∧
   W.ownsRow base e sz (.slice (some ⟨g,0,none⟩) (n+m) cap) (n+m) (xs ++ news)∧Mod (fun k=>v.ownBlock=some k) w W∧(v.ownBlock=some g∨g=w.heap.size):=by
 obtain⟨g,cap,W,h2,h3,h4,h5,-⟩:=run_append_lies w t ty base e i z sz by_ ht hi hz hsize hby hzs hsz v n xs hown ad m c news hl hnews h1 hm h63 hbytes hbase _ rfl;exact⟨g,cap,W,h2,h3,own_grown_mod h4,h5⟩
theorem step_app_nil (ty:TypeId) (ht:P.underlying t=some (.slice e)) (hi:P.info? e=some i) (hown:w.ownsRow base e sz v n xs) (a:Option Addr) (c:Nat) :
  (Builtin.append_ #[t,t] ty #[v,.slice a 0 c]).run P w=.ok v w:=by
 rcases hown.2 with ⟨rfl,rfl⟩|⟨g,cap,cur,rfl,_,_,hnc,_⟩
 ·cases a <;> simp [Builtin.append_,run_underlying ht,sizeOf,typeInfo,hi,Builtin.lenOf,Builtin.firstCells,loadCells,loadCellsFrom]
 ·cases a <;> simp [Builtin.append_,run_underlying ht,sizeOf,typeInfo,hi,Builtin.lenOf,Builtin.firstCells,hnc,storeCells,loadCells,loadCellsFrom]
theorem step_app_any {g0 c0:Nat} (ty:TypeId) (ht:P.underlying t=some (.slice e)) (hi:P.info? e=some i) (hz:i.zero=some z) (hsize:i.size=sz) (hby:i.bytes=by_) (hzs:z.cells.size=sz) (hsz:0<sz)
  (hown:w.ownsRow base e sz (.slice (some ⟨g0,0,none⟩) n c0) n xs) (ad:Addr) (m c:Nat) (news:List Value) (hl:news.length=m*sz) (hnews:∀ j u,news[j]? = some u→w.cell? (ad.add j)=some u) (h1:∀ u∈news,u.oneCell'=true)
  (h63:n+m≤maxLen) (hbytes:(n+m)*by_≤140737488355328) (hbase:base≤w.heap.size) :
  ∃ g cap W,(Builtin.append_ #[t,t] ty #[.slice (some ⟨g0,0,none⟩) n c0,.slice (some ad) m c]).run P w=.ok (.slice (some ⟨g,0,none⟩) (n+m) cap) W∧
   W.ownsRow base e sz (.slice (some ⟨g,0,none⟩) (n+m) cap) (n+m) (xs ++ news)∧Mod (fun k=>k=g0) w W∧(g=g0∨g=w.heap.size):=by
 rcases Nat.eq_zero_or_pos m with rfl | hm
 ·have hn:news=[]:=List.eq_nil_of_length_eq_zero (by simpa using hl);subst hn;exact⟨g0,c0,w,step_app_nil ty ht hi hown _ _,by simpa using hown,Mod.refl _ _,.inl rfl⟩
 ·obtain ⟨g,cap,W,h1,h2,h3,h4⟩:=step_app ty ht hi hz hsize hby hzs hsz hown ad m c news hl hnews h1 hm h63 hbytes hbase;refine ⟨g,cap,W,h1,h2,h3.mono (fun k hk=>?_),h4.imp (fun h=>?_) id⟩
  ·simpa [Value.ownBlock] using hk.symm
  ·simpa [Value.ownBlock] using h.symm
theorem own_empty (w:World) (hb:base≤w.heap.size):(w.alloc (.cells #[] e)).ownsRow base e sz (.slice (some ⟨w.heap.size,0,none⟩) 0 0) 0 []:=
 World.ownsRow_made w #[] 0 hb (Nat.zero_le _) (by simp)
end
section
variable {P:Program} {ops:Array Oper} {rest:List Oper} {o:Oper} {a:Act} {w W:World} {Q:Exit→Act→World→Prop} {s x:Operand} {t:TypeId} {v y r:Value}
theorem wpList_app_run (hgd:o.guard=none) (ho:o.op=.call {callee:=.builtin .append,args:=#[s,x],argTypes:=#[t,t]}) (hs:a.eval s=v) (hx:a.eval x=y)
  (hrun:(Builtin.append_ #[t,t] o.type #[v,y]).run P w=.ok r W) (h:wpList P ops Q rest (a.put o.dst r) W):wpList P ops Q (o :: rest) a w:=
 wpList_plain hgd fun K hK=>by
  unfold Oper.wp execOp;simp only [ho,resolve,invoke,builtin,Sem.run_bind,Sem.run_pure,Result.andThen_ok,List.map_toArray,List.map_cons,List.map_nil,hs,hx,hrun];exact hK _ _ h
theorem step_app_run {K:Act→World→Prop} {E:Prop} (hgd:o.guard=none) (ho:o.op=.call {callee:=.builtin .append,args:=#[s,x],argTypes:=#[t,t]}) (hs:a.eval s=v) (hx:a.eval x=y)
  (hrun:(Builtin.append_ #[t,t] o.type #[v,y]).run P w=.ok r W) (h:K (a.put o.dst r) W) :
  if Region.wanted o (yielded ops a.tmps)=true then Oper.wp P o a w K Q else E:=by
 have hw:Region.wanted o (yielded ops a.tmps)=true:=by simp [Region.wanted,hgd]
 rw [if_pos hw];unfold Oper.wp execOp;simp only [ho,resolve,invoke,builtin,Sem.run_bind,Sem.run_pure,Result.andThen_ok,List.map_toArray,List.map_cons,List.map_nil,hs,hx,hrun];exact h
end
end
section
open Go.RowKit
def ent (x:Int×Value×Nat):MapEntry:={key:=.int .i64 x.1,val:=x.2.1,born:=x.2.2}
def MapB (w:World) (m:Nat) (l:List (Int×Value×Nat)) (clk:Nat):Prop:=w.heap[m]? = some (.map (l.map ent).toArray clk)
def KeysOnce (l:List (Int×Value×Nat)):Prop:=(l.map (·.1)).Nodup
def mapFind (l:List (Int×Value×Nat)) (k:Int):Option Value:=(l.find? (fun x=>x.1 == k)).map (·.2.1)
def mapPut (l:List (Int×Value×Nat)) (k:Int) (v:Value):List (Int×Value×Nat):=l.map fun x=>if x.1 == k then (k,v,x.2.2) else x
def mapDel (l:List (Int×Value×Nat)) (k:Int):List (Int×Value×Nat):=l.filter fun x=>!(x.1 == k)
theorem MapB.lt {w:World} {m:Nat} {l:List (Int×Value×Nat)} {clk:Nat} (h:MapB w m l clk):m<w.heap.size:=by
 unfold MapB at h;exact (Array.getElem?_eq_some_iff.1 h).1
theorem MapB.old {w:World} {m:Nat} {l:List (Int×Value×Nat)} {clk:Nat} (h:MapB w m l clk) (o:Obj):MapB (w.alloc o) m l clk:=
 (Below.heap_alloc w o m h.lt).trans h
theorem MapB.keep {w w':World} {m:Nat} {l:List (Int×Value×Nat)} {clk:Nat} (h:MapB w m l clk) (hb:Below w.heap.size w w'):MapB w' m l clk:=
 (hb.block m h.lt).trans h
theorem MapB.setOther {w:World} {m:Nat} {l:List (Int×Value×Nat)} {clk:Nat} (h:MapB w m l clk) (a:Addr) (v:Value) (hne:a.block≠m):MapB (w.setCell a v) m l clk:=
 (Below.heap_setCell w a v m (fun e=>hne e.symm)).trans h
theorem findNow_list (k:Int):∀ (l:List (Int×Value×Nat)) (i:Nat),
  Instr.findNow (.int .i64) (.int .i64 k) (l.map ent) i=some ((l.findIdx? (fun x=>x.1 == k)).bind fun j=>(l[j]?).map fun x=>(i+j,x.2.1))
 | [],i=>by simp [Instr.findNow]
 | x :: l,i=>by
  have ih:=findNow_list k l (i+1);rw [List.map_cons];unfold Instr.findNow;have hs:Instr.sameNow (.int .i64) (.int .i64 k) (ent x).key=some (k == x.1):=by simp [Instr.sameNow,ent]
  rw [hs];by_cases e:x.1=k
  ·subst e;simp [List.findIdx?_cons,ent]
  ·have e1:(k == x.1)=false:=by simpa using fun h=>e h.symm
   have e2:(x.1 == k)=false:=by simpa using e
   rw [e1];show Instr.findNow _ _ _ _=_;rw [ih];simp only [List.findIdx?_cons,e2,Bool.false_eq_true,if_false];congr 1
   cases List.findIdx? (fun x=>x.1 == k) l with
   | none=>rfl
   | some j=>simp;congr 1;funext y;simp;omega
theorem mapFind_idx (k:Int):∀ (l:List (Int×Value×Nat)),mapFind l k=(l.findIdx? (fun x=>x.1 == k)).bind fun j=>(l[j]?).map fun x=>x.2.1
 | []=>rfl
 | x :: l=>by
  have ih:=mapFind_idx k l;unfold mapFind at ih ⊢;by_cases e:(x.1 == k)=true
  ·simp [List.findIdx?_cons,e]
  ·simp only [Bool.not_eq_true] at e;simp only [List.find?_cons,List.findIdx?_cons,e,Bool.false_eq_true,if_false,ih]
   cases List.findIdx? (fun x=>x.1 == k) l <;> simp
theorem mapPut_idx (k:Int) (v:Value):∀ (l:List (Int×Value×Nat)) (j:Nat),KeysOnce l→l.findIdx? (fun x=>x.1 == k)=some j→
  ((l.map ent).modify j fun e=>{e with key:=.int .i64 k,val:=v})=(mapPut l k v).map ent
 | [],j,_,h=>by simp at h
 | x :: l,j,hn,h=>by
  unfold KeysOnce at hn;simp only [List.map_cons,List.nodup_cons] at hn;obtain⟨hx,hl⟩:=hn;by_cases e:(x.1 == k)=true
  ·simp only [List.findIdx?_cons,e,if_true,Option.some.injEq] at h;subst h;have e':x.1=k:=by simpa using e
   have hrest:mapPut l k v=l:=by
    unfold mapPut;rw [List.map_congr_left (g:=id)]
    ·simp
    ·intro y hy;have:¬ y.1=k:=fun h'=>hx (by rw [e',←h'];exact List.mem_map.2 ⟨y,hy,rfl⟩);simp [this]
   have hput:mapPut (x :: l) k v=(k,v,x.2.2) :: l:=by
    unfold mapPut at hrest ⊢;rw [List.map_cons,hrest,e,if_pos rfl]
   rw [hput];rfl
  ·simp only [Bool.not_eq_true] at e;simp only [List.findIdx?_cons,e,Bool.false_eq_true,if_false,Option.map_eq_some_iff] at h;obtain⟨j',hj,rfl⟩:=h;have ih:=mapPut_idx k v l j' hl hj;unfold mapPut at ih ⊢;simp only [List.map_cons,List.modify_succ_cons,e,Bool.false_eq_true,if_false];rw [ih]
theorem mapFind_none {l:List (Int×Value×Nat)} {k:Int}:mapFind l k=none↔l.findIdx? (fun x=>x.1 == k)=none:=by
 rw [List.findIdx?_eq_none_iff];unfold mapFind;simp
section
variable {P:Program} {K E T:TypeId} {w:World} {m:Nat} {l:List (Int×Value×Nat)} {clk:Nat}
theorem checkKey_int (b:Bool) (hk:P.underlying K=some (.int .i64)) (v:Value) (w:World):(Instr.checkKey b 10000 K v).run P w=.ok () w:=by
 unfold Instr.checkKey;simp [run_underlying hk]
theorem run_findKey (hk:P.underlying K=some (.int .i64)) (k:Int) (w:World):(Instr.findKey K (.int .i64 k) (l.map ent)).run P w=.ok ((l.findIdx? (fun x=>x.1 == k)).bind fun j=>(l[j]?).map fun x=>(j,x.2.1)) w:=by
 unfold Instr.findKey;simp [run_underlying hk,findNow_list]
theorem run_lookup_yes (ht:P.underlying T=some (.map K E)) (hk:P.underlying K=some (.int .i64)) (h:MapB w m l clk) {k:Int} {v:Value} (hf:mapFind l k=some v) :
  (Instr.lookup T (.map (some m)) (.int .i64 k) true).run P w=.ok (.tuple #[v,.bool true]) w:=by
 rw [mapFind_idx] at hf;unfold MapB at h;simp only [Option.bind_eq_some_iff,Option.map_eq_some_iff] at hf;obtain⟨j,hj,x,hx,rfl⟩:=hf;unfold Instr.lookup;simp [run_underlying ht,getObj,Sem.run,h,checkKey_int _ hk,run_findKey hk,hj,hx]
theorem run_lookup_no (ht:P.underlying T=some (.map K E)) (hk:P.underlying K=some (.int .i64)) (h:MapB w m l clk) {k:Int} (hf:mapFind l k=none) {z:Value} (hz:(zeroValue E).run P w=.ok z w) :
  (Instr.lookup T (.map (some m)) (.int .i64 k) true).run P w=.ok (.tuple #[z,.bool false]) w:=by
 rw [mapFind_none] at hf;unfold MapB at h;unfold Instr.lookup;simp [run_underlying ht,getObj,Sem.run,h,checkKey_int _ hk,run_findKey hk,hf,hz]
theorem run_put (ht:P.underlying T=some (.map K E)) (hk:P.underlying K=some (.int .i64)) (h:MapB w m l clk) (hn:KeysOnce l) {k:Int} {v0 v:Value} (hf:mapFind l k=some v0) :
  (Instr.mapUpdate T (.map (some m)) (.int .i64 k) v).run P w=.ok () (ChangeMaps.setBlock w m (.map ((mapPut l k v).map ent).toArray clk)):=by
 rw [mapFind_idx] at hf;unfold MapB at h;simp only [Option.bind_eq_some_iff,Option.map_eq_some_iff] at hf;obtain⟨j,hj,x,hx,rfl⟩:=hf;have hp:=mapPut_idx k v l j hn hj;have hxk:x.1=k:=by
  obtain⟨hlt,h1,-⟩:=List.findIdx?_eq_some_iff_getElem.1 hj;rw [List.getElem?_eq_getElem hlt] at hx;obtain rfl:=Option.some.inj hx;simpa using h1
 have hst:(Instr.keyThatStays (ent x).key (.int .i64 k)).run P w=.ok (.int .i64 k) w:=by
  subst hxk;simp [Instr.keyThatStays,Instr.sameBits,ent]
 unfold Instr.mapUpdate;simp [run_underlying ht,getObj,setObj,Sem.run,h,checkKey_int _ hk,run_findKey hk,hj,hx,hst,hp,ChangeMaps.setBlock]
theorem run_add (ht:P.underlying T=some (.map K E)) (hk:P.underlying K=some (.int .i64)) (h:MapB w m l clk) {k:Int} {v:Value} (hf:mapFind l k=none) :
  (Instr.mapUpdate T (.map (some m)) (.int .i64 k) v).run P w=.ok () (ChangeMaps.setBlock w m (.map ((l ++ [(k,v,clk)]).map ent).toArray (clk+1))):=by
 rw [mapFind_none] at hf;unfold MapB at h;unfold Instr.mapUpdate;simp [run_underlying ht,getObj,setObj,Sem.run,h,checkKey_int _ hk,run_findKey hk,hf,ChangeMaps.setBlock,ent]
theorem run_len (ht:P.underlying T=some (.map K E)) (h:MapB w m l clk) (ty:TypeId) :
  (Builtin.len_ #[T] ty #[.map (some m)]).run P w=.ok (.int .i64 l.length) w:=by
 unfold MapB at h;unfold Builtin.len_;simp [run_underlying ht,getObj,Sem.run,h,goInt]
theorem MapB.set (h:MapB w m l clk) (l':List (Int×Value×Nat)) (clk':Nat) :
  MapB (ChangeMaps.setBlock w m (.map (l'.map ent).toArray clk')) m l' clk'∧(∀ B vs T,Blk w B vs T→Blk (ChangeMaps.setBlock w m (.map (l'.map ent).toArray clk')) B vs T)∧
   Mod (fun k=>k=m) w (ChangeMaps.setBlock w m (.map (l'.map ent).toArray clk')):=by
 have hlt:=h.lt;refine ⟨?_,?_,(Mod.refl (fun k=>k=m) w).setBlock (b:=m) (.inl rfl) _⟩
 ·unfold MapB;simp [ChangeMaps.setBlock,hlt]
 ·intro B vs T hB;refine hB.setBlock ?_ _;rintro rfl;unfold Blk at hB;unfold MapB at h;rw [h] at hB
  cases hB
theorem step_put (ht:P.underlying T=some (.map K E)) (hk:P.underlying K=some (.int .i64)) (h:MapB w m l clk) (hn:KeysOnce l) {k:Int} {v0:Value} (v:Value) (hf:mapFind l k=some v0) :
  ∃ W,(Instr.mapUpdate T (.map (some m)) (.int .i64 k) v).run P w=.ok () W∧MapB W m (mapPut l k v) clk∧(∀ B vs T,Blk w B vs T→Blk W B vs T)∧Mod (fun k=>k=m) w W:=
 ⟨_,run_put ht hk h hn hf,h.set _ _⟩
theorem step_add (ht:P.underlying T=some (.map K E)) (hk:P.underlying K=some (.int .i64)) (h:MapB w m l clk) {k:Int} (v:Value) (hf:mapFind l k=none) :
  ∃ W,(Instr.mapUpdate T (.map (some m)) (.int .i64 k) v).run P w=.ok () W∧MapB W m (l ++ [(k,v,clk)]) (clk+1)∧(∀ B vs T,Blk w B vs T→Blk W B vs T)∧Mod (fun k=>k=m) w W:=
 ⟨_,run_add ht hk h hf,h.set _ _⟩
end
end
section
open Go
theorem then_panic {P:Program} {fn:Func} {R:Ending→World→Prop} {K:Act→World→Prop}:∀ c d v a w,Exit.then K (bodyPost P fn R) (.panic c) (Act.put a d v) w→Exit.then K (bodyPost P fn R) (.panic c) a w:=
 fun c d v a w h=>by
  have h':(Act.put a d v).defers=[]∧R (.panicked c) w:=h;exact show a.defers=[]∧R (.panicked c) w from ⟨by rw [←h'.1];cases d <;> rfl,h'.2⟩
def pureOp:Op→Bool
 | .move _=>true
 | .assign _=>true
 | .extract _ _=>true
 | _=>false
section
variable {P:Program} {ops:Array Oper} {md:Region.Mode} {Q:Exit→Act→World→Prop}
theorem pure_yields {o:Oper} (hp:pureOp o.op=true) {w:World} {K:Act→World→Prop} {a:Act} (h:o.wp P a w K Q∨(o.asks P a w∧LetsOut Q)) :
  ∃ v,(∀ w',(execOp a.eval o).run P w'=.ok (.value v) w')∧K (a.put o.dst v) w:=by
 have key:∀ v,(∀ w',(execOp a.eval o).run P w'=.ok (.value v) w')→((execOp a.eval o).runT P w #[]).2=#[]→∃ v,(∀ w',(execOp a.eval o).run P w'=.ok (.value v) w')∧K (a.put o.dst v) w:=by
  intro v hr ht;refine ⟨v,hr,?_⟩;rcases h with h | h
  ·unfold Oper.wp at h;rw [hr] at h;exact h
  ·have:=h.1.1;rw [ht] at this;simp at this
 have bad:(∀ w',∃ m,(execOp a.eval o).run P w'=.halt (.stuck m) w')→((execOp a.eval o).runT P w #[]).2=#[]→∃ v,(∀ w',(execOp a.eval o).run P w'=.ok (.value v) w')∧K (a.put o.dst v) w:=by
  intro hr ht;rcases h with h | h
  ·obtain ⟨m,hm⟩:=hr w;unfold Oper.wp at h;rw [hm] at h;exact h.elim
  ·have:=h.1.1;rw [ht] at this;simp at this
 unfold pureOp at hp
 split at hp
 ·rename_i x hx;exact key (a.eval x) (fun w'=>by simp [execOp,hx]) (by simp only [execOp,hx];rfl)
 ·rename_i x hx;exact key (a.eval x) (fun w'=>by simp [execOp,hx]) (by simp only [execOp,hx];rfl)
 ·rename_i t ix hx
  cases ht:a.eval t with
  | tuple vs=>
   cases hv:vs[ix]? with
   | some v=>exact key v (fun w'=>by simp [execOp,hx,Instr.extract,ht,hv]) (by simp only [execOp,hx,Instr.extract,ht,hv];rfl)
   | none=>exact bad (fun w'=>⟨_,by simp only [execOp,hx,Instr.extract,ht,hv];rfl⟩) (by simp only [execOp,hx,Instr.extract,ht,hv];rfl)
  | _=>exact bad (fun w'=>⟨_,by simp only [execOp,hx,Instr.extract,ht];rfl⟩) (by simp only [execOp,hx,Instr.extract,ht];rfl)
 ·cases hp
def lexB2 (md:Region.Mode) (ops:Array Oper):Nat→Nat→Array Bool→Bool
 | 0,_,listed=>(Region.ready md ops listed).isEmpty
 | g+1,k,listed=>
  (decide (Region.ready md ops listed=[k]) || (match ops[k]? with
   | some o=>pureOp o.op && o.guard.isNone && (Region.ready md ops listed).contains k && Region.free md ops listed k
   | none=>false)) && lexB2 md ops g (k+1) (listed.setIfInBounds k true)
theorem wanted_of {o:Oper} {T:Nat→Option Bool} (h:o.guard.isNone=true):Region.wanted o T=true:=by
 simp [Region.wanted,Option.isNone_iff_eq_none.1 h]
theorem anyH_lex2 (hsel:Region.noSelect ops=true) (hQ:∀ c d v a w,Q (.panic c) (Act.put a d v) w→Q (.panic c) a w):∀ (l:List Oper) (k:Nat) (listed:Array Bool) (a:Act) (w:World),(∀ j,l[j]? = ops[k+j]?)→
  lexB2 md ops l.length k listed=true→wpList P ops Q l a w→wpAnyH P md ops Q (fun _=>True) l.length listed a w
 | [],_,_,_,_,_,hB,h=>⟨by simpa [lexB2] using hB,h⟩
 | o :: l,k,listed,a,w,hl,hB,h=>by
  have h0:ops[k]? = some o:=by simpa using (hl 0).symm
  have hl':∀ j,l[j]? = ops[k+1+j]?:=fun j=>by have:=hl (j+1);simpa [Nat.add_assoc,Nat.add_comm 1 j] using this
  simp only [List.length_cons,lexB2,Bool.and_eq_true,Bool.or_eq_true,decide_eq_true_eq,h0] at hB;rcases hB.1 with h1 | ⟨⟨⟨hp,hg⟩,hr⟩,hf⟩
  ·refine ⟨fun h2=>(by rw [h2] at h1;cases h1),fun i hi=>?_⟩;rw [h1] at hi;have hik:i=k:=by simpa using hi
   subst hik;have hw:wpOp P ops Q i (wpList P ops Q l) a w:=by unfold wpOp;simp only [h0];exact h
   exact wpOp_mono (fun a' w' h'=>⟨trivial,anyH_lex2 hsel hQ l (i+1) _ a' w' hl' hB.2 h'⟩) hw
  ·have hw:Region.wanted o (yielded ops a.tmps)=true:=wanted_of hg;unfold wpList at h;rw [if_pos hw] at h;obtain⟨v,hy,hK⟩:=pure_yields hp h;exact wpAnyH_take h0 hsel hf hr (fun c a w hq=>hQ c _ _ a w hq) (.inl ⟨hw,fun w' _=>hy w'⟩) trivial (anyH_lex2 hsel hQ l (k+1) _ _ w hl' hB.2 hK)
def chainB2 (md:Region.Mode) (ops:Array Oper) (n:Nat):Bool:=
 (List.range ops.size).all fun t=>decide (t≤n) || (List.range t).any fun j=>decide (n≤j) && Region.waitsFor md ops t j
theorem tail_waits2 {n:Nat} {listed:Array Bool} (hs:Region.sinkB md ops n=true) (hc:chainB2 md ops n=true) (hn:n<ops.size) (inv:HeadInv md ops n listed) {i:Nat} (hi:i<n) (hun:listed.getD i true=false) :
  ∀ t,n≤t→t∉Region.ready md ops listed:=by
 have low:∀ (d i:Nat),n - i=d→i<n→listed.getD i true=false→n∉Region.ready md ops listed:=by
  intro d
  induction d using Nat.strongRecOn with
  | _ d ih=>
   intro i hd hi hun hr;obtain⟨-,on,hon,hall⟩:=mem_ready.1 hr;obtain⟨j,hj,hj2⟩:=List.any_eq_true.1 (List.all_eq_true.1 hs i (List.mem_range.2 hi));simp only [Bool.and_eq_true,decide_eq_true_eq] at hj2;obtain⟨oj,hoj,e,he,hb,hei⟩:=Region.waitsFor_spec hj2.2;have hjn:j≤n:=by have:=List.mem_range.1 hj;omega
   have hno:listed.getD i false=false:=getD_both hun;rcases Nat.lt_or_ge j n with hlt | hge
   ·cases hl:listed.getD j false with
    | true=>
     have:=inv.closed j oj hoj hl e he hb;rw [hei,hno] at this
     cases this
    | false=>exact ih (n - j) (by omega) j rfl hlt (getD_in (by rw [inv.size];omega) hl) hr
   ·obtain rfl:j=n:=by omega
    obtain rfl:oj=on:=Option.some.inj (hoj.symm.trans hon);have:=hall e he hb;rw [hei,hno] at this
    cases this
 intro t ht hr;rcases Nat.eq_or_lt_of_le ht with rfl | hlt
 ·exact low _ i rfl hi hun hr
 ·obtain ⟨-,ot,hot,hall⟩:=mem_ready.1 hr;have htl:t<ops.size:=(Array.getElem?_eq_some_iff.1 hot).1;have h1:=List.all_eq_true.1 hc t (List.mem_range.2 htl);simp only [Bool.or_eq_true,decide_eq_true_eq] at h1;rcases h1 with h1 | h1
  ·omega
  ·obtain ⟨j,hj,hj2⟩:=List.any_eq_true.1 h1;simp only [Bool.and_eq_true,decide_eq_true_eq] at hj2;obtain⟨o',ho',e,he,hb,hej⟩:=Region.waitsFor_spec hj2.2;obtain rfl:o'=ot:=Option.some.inj (ho'.symm.trans hot);have:=hall e he hb;rw [hej,getD_both (inv.tail j hj2.1 (by have:=List.mem_range.1 hj;omega))] at this
   cases this
variable {w:World}
theorem anyL_first2 {n i:Nat} {oi:Oper} {v:Value} {L:Array Bool→Act→Prop} (hi:ops[i]? = some oi) (hsel:Region.noSelect ops=true)
  (hs:Region.sinkB md ops n=true) (hc:chainB2 md ops n=true) (hn:n<ops.size) (hin:i<n) (hdone:∀ listed a,L listed a→∀ j∈Region.ready md ops listed,n≤j) :
  ∀ (f:Nat) (listed:Array Bool) (a:Act),HeadInv md ops n listed→
   (∀ j oj,ops[j]? = some oj→j≠i→listed.getD j true=false→(∀ e∈oj.after,Region.binds md e=true→e.on≠i)→oi.apart ops oj=true)→
   i∈Region.ready md ops listed→YieldsAt P ops w oi v a→wpAnyL P md ops w n L f (listed.setIfInBounds i true) (a.put oi.dst v)→wpAnyL P md ops w n L (f+1) listed a
 | f,listed,a,inv,hfree,hr,hy,H=>by
  have hun:=(mem_ready.1 hr).1;have hlow:∀ j∈Region.ready md ops listed,j<n:=fun j hj=>Nat.lt_of_not_le fun h=>tail_waits2 hs hc hn inv hin hun j h hj;refine ⟨List.ne_nil_of_mem hr,fun j hj=>⟨hlow j hj,?_⟩⟩;by_cases hji:j=i
  ·subst hji;exact hy.stOp hi H
  ·cases f with
   | zero=>exact absurd (hdone _ _ H j (ready_mono hj hji)) (Nat.not_le_of_lt (hlow j hj))
   | succ f=>
    have h1:=(H.2 j (ready_mono hj hji)).2;obtain⟨hjun,oj,hoj,hall⟩:=mem_ready.1 hj;have hnot:∀ e∈oj.after,Region.binds md e=true→e.on≠i:=fun e he hb heq=>by
     have h2:=hall e he hb;rw [heq,getD_both hun] at h2
     cases h2
    refine stOp_mono (fun a' h3=>?_) (stOp_put hoj (hfree j oj hoj hji hjun hnot) (fun cs b=>Region.noSelect_spec hsel i oi cs b hi) (fun cs b=>Region.noSelect_spec hsel j oj cs b hoj) hy h1);refine anyL_first2 hi hsel hs hc hn hin hdone f (listed.setIfInBounds j true) a' (inv.set hj (hlow j hj)) (fun k ok hk hki hku hno=>hfree k ok hk hki ?_ hno) (ready_mono hr (Ne.symm hji)) h3.1 ?_
    ·by_cases hjk:j=k
     ·subst hjk;exact hjun
     ·rw [getD_set_ne true hjk] at hku;exact hku
    ·rw [Array.setIfInBounds_comm _ _ hji];exact h3.2
def headB2 (md:Region.Mode) (ops:Array Oper) (g:Nat):Nat→Nat→Array Bool→Bool
 | 0,k,listed=>lexB2 md ops g k listed && (Region.ready md ops listed).all fun j=>decide (k≤j)
 | f+1,k,listed=>(Region.ready md ops listed).contains k && Region.free md ops listed k && headB2 md ops g f (k+1) (listed.setIfInBounds k true)
theorem anyL_lex2 {n g:Nat} {Lq:Act→Prop} (hsel:Region.noSelect ops=true) (hs:Region.sinkB md ops n=true) (hc:chainB2 md ops n=true) (hn:n<ops.size) :
  ∀ (l:List Oper) (k:Nat) (listed:Array Bool) (a:Act),(∀ j,j<l.length→l[j]? = ops[k+j]?)→k+l.length=n→HeadInv md ops n listed→headB2 md ops g l.length k listed=true→wpStill P ops w Lq l a→
  wpAnyL P md ops w n (fun listed' a'=>(lexB2 md ops g n listed'=true∧∀ j∈Region.ready md ops listed',n≤j)∧Lq a') l.length listed a
 | [],k,listed,a,_,hk,_,hB,h=>by
  obtain rfl:k=n:=by simpa using hk
  simp only [List.length_nil,headB2,Bool.and_eq_true,List.all_eq_true,decide_eq_true_eq] at hB;exact⟨hB,h⟩
 | o :: l,k,listed,a,hl,hk,inv,hB,h=>by
  have h0:ops[k]? = some o:=by simpa using (hl 0 (by simp)).symm
  simp only [List.length_cons,headB2,Bool.and_eq_true] at hB;obtain⟨⟨hr,hf⟩,hB'⟩:=hB;have hkn:k<n:=by simp only [List.length_cons] at hk;omega
  have hr':k∈Region.ready md ops listed:=by simpa using hr
  have hst:stOp P ops w k (wpStill P ops w Lq l) a:=by unfold stOp;simp only [h0];exact h
  obtain⟨v,hy,hK⟩:=yieldsAt_of_stOp h0 hst;exact anyL_first2 h0 hsel hs hc hn hkn (fun _ _ hL=>hL.1.2) l.length listed a inv (Region.free_spec h0 hf) hr' hy
   (anyL_lex2 hsel hs hc hn l (k+1) _ _ (fun j hj=>by have:=hl (j+1) (by simp;omega);simpa [Nat.add_assoc,Nat.add_comm 1 j] using this) (by simp only [List.length_cons] at hk;omega) (inv.set hr' hkn) hB' hK)
def lexRegionB (ops:Array Oper) (n:Nat):Bool:=
 Region.noSelect ops && decide (n<ops.size) && Region.sinkB .any ops n && chainB2 .any ops n && headB2 .any ops (ops.size - n) n 0 (Array.replicate ops.size false)
theorem wp_region_lex {id:Nat} {a:Act} {l:List Oper} (n:Nat) (hm:P.follows .mixedOrders=true) (hB:lexRegionB l.toArray n=true) (hQ:∀ c d v a w,Q (.panic c) (Act.put a d v) w→Q (.panic c) a w)
  (h:wpStill P l.toArray w.drew (fun a'=>wpList P l.toArray Q (l.drop n) a' w.drew) (l.take n) a):(Code.region id l.toArray true).wp P Q a w:=by
 simp only [lexRegionB,Bool.and_eq_true,decide_eq_true_eq] at hB;obtain⟨⟨⟨⟨hsel,hn⟩,hs⟩,hc⟩,hlex⟩:=hB;have hn':n<l.length:=by simpa using hn
 have htl:(l.take n).length=n:=by simp;omega
 have hdl:(l.drop n).length=l.toArray.size - n:=by simp
 have inv0:HeadInv .any l.toArray n (Array.replicate l.toArray.size false):=
  ⟨by simp,fun j oj _ hl=>(by rw [getD_replicate_false] at hl;cases hl),fun t _ ht=>getD_in (by simpa using ht) (getD_replicate_false _ _)⟩
 have H:=anyL_lex2 (md:=.any) (g:=l.toArray.size - n) hsel hs hc hn (l.take n) 0 _ a (fun j hj=>by
  have hj':j<n:=by rw [htl] at hj;exact hj
  simp [hj']) (by simpa using htl) inv0 (by rw [htl];exact hlex) h
 refine wp_region_any hm ?_;have:=wpAny_of_head (Q':=Q) (g:=l.toArray.size - n) (fun listed a' hL=>by
  have:=wpAny_of_held _ _ _ _ (anyH_lex2 (md:=.any) hsel hQ (l.drop n) n listed a' w.drew (fun j=>by simp [List.getElem?_drop]) (by rw [hdl];exact hL.1.1) hL.2)
  rwa [hdl] at this) _ _ _ H
 rw [htl,show n+(l.toArray.size - n)=l.toArray.size by omega] at this;exact this
end
end
end Go.Proofs.YtbndfmkgamdgeaaGreatDoor
