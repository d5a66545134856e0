import Derived.Deep.LoopGhost
import Derived.Laws.CopyRow
import Derived.Laws.Externs
import Derived.Lib.Overlaps
import Derived.Lib.AppendZeros
import Derived.Lib.JoinLaws
import Derived.Deep.AppendSrc
import Derived.Lib.SliceRun
import Derived.Lib.AppendZerosOnto
import Derived.Test.YtihdbncoijhihaaGreatDoorSN10
import Derived.Test.YtihdbncoijhihaaGreatDoorSN8
import Derived.Test.YtihdbncoijhihaaGreatDoorSN7
import Derived.Test.YtihdbncoijhihaaGreatDoorSN4
set_option linter.unusedVariables false
set_option linter.unusedSimpArgs false
set_option maxRecDepth 100000
set_option maxHeartbeats 16000000
namespace Go.Proofs.YtihdbncoijhihaaGreatDoor
section
open Go.RowKit Go.Shelf
attribute [local go_sem] Oper.semAt_some
theorem keeps_mod1 {S:Nat→Prop} {w W:World} (h:Mod S w W) (hS:∀ k,S k→∃ cur T fz,w.heap[k]? = some (.cells cur T fz)):KeepsOthers w W:=
 ⟨h.size,fun k o hk ho=>(h.block k (Array.getElem?_eq_some_iff.1 hk).1 (fun hs=>by obtain ⟨cur,T,fz,hc⟩:=hS k hs;rw [hc] at hk;injection hk with hk;subst hk;cases ho)).trans hk⟩
theorem OS.nil (w:World) (base:Nat):OS w base (.slice none 0 0) []:=⟨rfl,.inl ⟨rfl,rfl⟩⟩
theorem OS.turn {w w':World} {base:Nat} {v:Value} {ls:List (List UInt8)} (h:OS w base v ls) (ht:∀ k cur,base≤k→w.heap[k]? = some (.cells cur 9 (0,0))→w'.heap[k]? = some (.cells cur 9 (0,0))):OS w' base v ls:=
 ⟨h.1,h.2.imp id fun ⟨g,cap,cur,hv,hb,hg,rest⟩=>⟨g,cap,cur,hv,hb,ht _ _ hb hg,rest⟩⟩
theorem OS.low {w:World} {base base':Nat} {v:Value} {ls:List (List UInt8)} (h:OS w base v ls) (hb:base'≤base):OS w base' v ls:=
 ⟨h.1,h.2.imp id fun ⟨g,cap,cur,hv,hg,rest⟩=>⟨g,cap,cur,hv,Nat.le_trans hb hg,rest⟩⟩
theorem OS.appK {w:World} {base:Nat} {v:Value} {ls:List (List UInt8)} (h:OS w base v ls) (l:List UInt8) (hl:ls.length≤1000000) (hb:base≤w.heap.size) :
  ∃ g cap W,(Builtin.append_ #[38,38] 38 #[v,.slice (some ⟨w.heap.size,0,none⟩) 1 1]).run Tryz.prog (w.alloc (.cells #[.string (str l)] 9))=.ok (.slice (some ⟨g,0,none⟩) (ls.length+1) cap) W∧
   OS W base (.slice (some ⟨g,0,none⟩) (ls.length+1) cap) (ls ++ [l])∧Below base w W∧KeepsOthers w W∧(v.ownBlock=some g∨w.heap.size≤g):=by
 obtain⟨i0,hi,hz0,hz1,hz2⟩:=info_parts str_info;have ho:=World.ownsRow.alloc h (.cells #[.string (str l)] 9);obtain⟨g,cap,W,h1,h2,h3,h4⟩:=step_app 38 Tryz.underlying38 hi hz0 hz1 hz2 rfl (by omega) ho ⟨w.heap.size,0,none⟩ 1 1 [.string (str l)] rfl (World.news_of_block (Blk.new w #[.string (str l)] 9)) (by intro u hu;simp at hu;subst hu;rfl) (by omega) (by unfold maxLen;omega) (by omega) (by simp;omega);refine ⟨g,cap,W,h1,?_,?_,(KeepsOthers.alloc _ _).trans (keeps_mod1 h3 (fun k hk=>by obtain ⟨-,cur,hc⟩:=own_obj1 ho hk;exact ⟨_,_,_,hc⟩)),h4.imp id (fun h=>by rw [h];simp)⟩
 ·unfold OS;rw [List.length_append,List.length_singleton,List.flatMap_append];exact h2
 ·refine (((Below.refl base w).alloc hb _)).trans (h3.below (fun k hk=>(h.lt k hk).1) (by simp;omega))
theorem wpListIn_app_run1 {F:Fence} {n:Nat} {P:Program} {ops:Array Oper} {rest:List Oper} {o:Oper} {a:Act} {w W:World} {Q:Exit→Act→World→Prop} {s x:Operand} {t:TypeId} {v y r:Value}
  (hgd:o.guard=none) (ho:o.op=.call {callee:=.builtin .append,args:=#[s,x],argTypes:=#[t,t]}) (hs:a.eval s=v) (hx:a.eval x=y)
  (hrun:(Builtin.append_ #[t,t] o.type #[v,y]).run P w=.ok r W) (h:wpListIn F n P ops Q rest (a.put o.dst r) W):wpListIn F n P ops Q (o :: rest) a w:=
 wpListIn_plain hgd fun K hK=>by
  unfold Oper.wpIn;refine ⟨by simp [Oper.about,ho,resolve,Target.leads,Sem.run_pure],?_⟩;rw [Oper.semAt_plain F _ _ (by rw [ho];intro c hc;cases hc)];simp [execOp,ho,resolve,invoke,builtin,hs,hx,hrun,Result.andThen];exact hK _ _ h
structure CI (T:Nat→Prop) (w:World) (B base:Nat) (pre:List (List UInt8)) (W:World):Prop where
 box:∃ v,Blk W B #[v] 38∧OS W base v pre
 mod:Mod T w W
theorem mod_turn {T:Nat→Prop} {N:Nat} {w W W':World} (h:Mod T w W) (ht:Turn T N notCells W W') (hN:w.heap.size≤N):Mod T w W':=by
 refine ⟨ht.os.trans h.os,ht.tape.trans h.tape,ht.output.trans h.output,Nat.le_trans h.size ht.size,fun k hk hs=>?_⟩;obtain⟨o,ho⟩:∃ o,w.heap[k]? = some o:=⟨w.heap[k]'(by omega),Array.getElem?_eq_getElem _⟩;rw [ht.block k o ((h.block k hk hs).trans ho) hs (fun h=>by omega),ho]
theorem appseq_any {g:Nat} {lb:Array Value} (eg:∀ args w,(callFunc g args).run Tryz.prog w=.ok (.enter g args) w) {T:Nat→Prop} {S Sp:List (List UInt8)→Prop} {V:List (List UInt8)→List UInt8→Prop} (w:World)
  (hseq:SeqT T Fence.wide 4 Tryz.prog g lb (fun x:List UInt8=>#[.string (str x)]) S Sp V w) (hT:∀ k,T k→k<w.heap.size) (hV:∀ pre x,V pre x→pre.length≤1000000) :
  Calls Tryz.prog 267 #[.slice none 0 0,.func (.func g) #[] lb] w fun e w'=>(∃ v ss,e=.returned v∧S ss∧OS w' w.heap.size v ss)∧Mod T w w':=by
 refine (callsIn_wide (n:=5)).1 ?_;refine callsIn_of_wp_marks Tryz.func267 rfl trivial ?_ rfl;simp only [Tryz.ntmps267,List.size_toArray,List.length_cons,List.length_nil,Nat.reduceAdd,Nat.reduceSub,Array.replicate_succ,Array.replicate_zero,List.push_toArray,List.append_toArray,List.nil_append,List.cons_append];have q0:=Blk.new w #[.slice none 0 0] 38;have hB0:=balloc (Below.refl w.heap.size w) (.cells #[.slice none 0 0] 38);have hz:(w.alloc (.cells #[.slice none 0 0] 38)).heap.size=w.heap.size+1:=by simp
 have HSq:=Lib.hid hseq;clear hseq;gi_wp2;generalize w.alloc (.cells #[.slice none 0 0] 38)=W1 at q0 hB0 hz ⊢;refine' wpIn_rangeT (T:=T) rfl (by omega) (gf:=g) (lb:=lb) rfl trivial eg HSq.out (fun k hk=>by have:=hT k hk;omega) (KT.of_below hB0 hT) (fun _=>rfl)
  (fun pre W=>CI T w w.heap.size W1.heap.size pre W)
  (fun _ _ _=>False)
  (fun pre A B h ht=>?own) (fun c pre A B h ht=>h) ⟨⟨_,q0,OS.nil _ _⟩,Mod.of_below hB0⟩ _ ?assign ?body ?done (fun D c pre W _ _ h _=>h.elim)
 case own=>
  obtain⟨⟨v,h1,h2⟩,h3⟩:=h;exact⟨⟨v,ht.block _ _ h1 (fun e=>by have:=hT _ e;omega) (fun _=>rfl),h2.turn (fun k cur hk hc=>ht.block _ _ hc (fun e=>by have:=hT _ e;omega) (fun _=>rfl))⟩,mod_turn h3 ht (by omega)⟩
 case assign=>
  intro L x W K hK;gi_wp2;exact hK
 case body=>
  rintro L pre x W hL hLW ⟨⟨v,b1,hO⟩,hM⟩ hv;obtain⟨a,c,rfl,-,-,-⟩:=own_form hO;obtain⟨g2,cap2,W2,hrun,hO2,hB2,hKO,hg2⟩:=hO.appK x (hV _ _ hv) (show W1.heap.size≤W.heap.size by omega);have hlp:=hO.1;have HR:=Lib.hid hrun;have k1:=b1.keepB hB2 (show w.heap.size<W1.heap.size by omega);obtain⟨c1,f1,z1⟩:=b1.facts;obtain⟨d1,e1,y1⟩:=k1.facts;have K1:=Lib.hid k1;have HX:=Lib.hid (And.intro hO2 (And.intro hB2 (And.intro hKO (And.intro hM hg2))));clear hrun hO2 hB2 k1 b1 hKO hM hO hg2 hlp
  gi_wp2_with (gi_at_builtin;refine wpListIn_app_run1 rfl rfl rfl rfl HR.out ?_)
  obtain⟨hO2,hB2,hKO,hM,hg2⟩:=HX.out;have hm:=(Mod.refl (fun k=>k=w.heap.size) W2).setCell (a:=⟨w.heap.size,0,none⟩) (.inl rfl) (.slice (some ⟨g2,0,none⟩) (pre.length+1) cap2);refine ⟨(hKO.trans (KeepsOthers.setCell _ _ _)).from _,⟨Nat.le_trans hB2.size hm.size,fun k hk=>?_⟩,⟨⟨_,K1.out.set 0 _,hO2.turn (fun k cur hk hc=>(hm.block k (Array.getElem?_eq_some_iff.1 hc).1 (by omega)).trans hc)⟩,?_⟩⟩
  ·have:=hT k hk;rw [hm.block k (by have:=hB2.size;omega) (by omega)];exact hB2.block k (by omega)
  ·refine ⟨hm.os.trans (hB2.os.trans hM.os),hm.tape.trans (hB2.tape.trans hM.tape),hm.output.trans (hB2.output.trans hM.output),Nat.le_trans hM.size (Nat.le_trans hB2.size hm.size),fun k hk hs=>?_⟩;rw [hm.block k (by have:=hB2.size;have:=hM.size;omega) (by omega),hB2.block k (by omega)];exact hM.block k hk hs
 case done=>
  rintro D xs W hD hS ⟨⟨v,b1,hO⟩,hM⟩ hK;obtain⟨a,c,rfl,-,-,-⟩:=own_form hO;obtain⟨c1,f1,z1⟩:=b1.facts;have HO:=Lib.hid (And.intro hO hM);clear hO hM b1;gi_wp2;show LeavesInM Fence.wide 5 Tryz.prog Tryz.f267 _ _ _ _ W;refine ⟨by simp,.inl ⟨_,_,rfl,run_takeDeferred hK,?_⟩⟩;refine ⟨.slice a xs.length c,by simp [results,Tryz.results267,go_sem],⟨_,_,rfl,hS,(HO.out.1.low (show w.heap.size≤W1.heap.size by omega)).turn (fun k cur hk hc=>(World.putObj_heap_other (fun e=>by subst e;rw [hK] at hc;cases hc)).trans hc)⟩,?_⟩;have hm:=HO.out.2;exact⟨hm.os,hm.tape,hm.output,Nat.le_trans hm.size (by simp),fun k hk hs=>(World.putObj_heap_other (fun e=>by omega)).trans (hm.block k hk hs)⟩
theorem collect_any {g:Nat} {lb:Array Value} (eg:∀ args w,(callFunc g args).run Tryz.prog w=.ok (.enter g args) w) {T:Nat→Prop} {S Sp:List (List UInt8)→Prop} {V:List (List UInt8)→List UInt8→Prop} (w:World)
  (hseq:SeqT T Fence.wide 4 Tryz.prog g lb (fun x:List UInt8=>#[.string (str x)]) S Sp V w) (hT:∀ k,T k→k<w.heap.size) (hV:∀ pre x,V pre x→pre.length≤1000000) :
  Calls Tryz.prog 217 #[.func (.func g) #[] lb] w fun e w'=>(∃ v ss,e=.returned v∧S ss∧OS w' w.heap.size v ss)∧Mod T w w':=by
 have HA:=Lib.hid (appseq_any eg w hseq hT hV);clear hseq hT hV eg;go_enter Tryz.func217,Tryz.ntmps217;go_wp2_with fail;refine HA.out.mono ?_;rintro e w1 ⟨⟨v,ss,rfl,hS,hO⟩,hM⟩;have HX:=Lib.hid (And.intro hS (And.intro hO hM));clear hS hO hM;go_wp2_with fail;go_ret;exact⟨⟨v,ss,rfl,HX.out.1,HX.out.2.1⟩,HX.out.2.2⟩
theorem nparts_any (s:ByteArray) (w:World) :
  Calls Tryz.prog 218 #[.string s] w fun e w'=>e=.returned (.func (.func 268) #[] #[.pointer (some ⟨w.heap.size,0,none⟩)])∧w'=w.alloc (.cells #[.string s] 9):=by
 go_enter Tryz.func218,Tryz.ntmps218;go_wp2_with fail;go_ret;exact⟨rfl,rfl⟩
theorem pcollect_any (s:ByteArray) (hs:s.size≤100000) (w:World) :
  Calls Tryz.prog 217 #[.func (.func 268) #[] #[.pointer (some ⟨w.heap.size,0,none⟩)]] (w.alloc (.cells #[.string s] 9)) fun e w'=>(∃ v,e=.returned v∧OS w' w.heap.size v (partsL s.data.toList))∧Below w.heap.size w w':=by
 have hz:(w.alloc (.cells #[.string s] 9)).heap.size=w.heap.size+1:=by simp
 refine (collect_any (enters_of Tryz.func268 (by kernel_rfl) rfl) (w.alloc (.cells #[.string s] 9)) (parts_stops 4 (by omega) w.heap.size s hs _ (Blk.new w #[.string s] 9)) (fun k hk=>by omega) (fun pre x h=>?_)).mono ?_
 ·have h1:=h.length_le;have h2:=parts_len s.data.toList;have h3:s.data.toList.length=s.size:=Array.length_toList;rw [List.length_append,List.length_singleton] at h1;omega
 ·rintro e w1 ⟨⟨v,ss,rfl,rfl,hO⟩,hM⟩;exact⟨⟨v,rfl,hO.low (by omega)⟩,(balloc (Below.refl w.heap.size w) _).trans (hM.below (fun k hk=>by omega) (by omega))⟩
end
section
open Go.RowKit
section
variable {w w':World} {pw:Nat} {R:Rp} {S:Fs}
theorem body_panic {P:Program} {fn:Func} {R:Ending→World→Prop}:∀ c d v a w,bodyPost P fn R (.panic c) (Act.put a d v) w→bodyPost P fn R (.panic c) a w:=
 fun c d v a w h=>by
  have h':(Act.put a d v).defers=[]∧R (.panicked c) w:=h;exact show a.defers=[]∧R (.panicked c) w from ⟨by rw [←h'.1];cases d <;> rfl,h'.2⟩
theorem touch_any (h:WdAt w pw R S) (dir now:Int) (d:An) (hg:S.get dir=some d) (l:List En) (a:Option Addr) (n c:Nat) (hl:EntsAt w a n c l) :
  Calls Tryz.prog 285 #[.pointer (some ⟨pw,0,none⟩),.int .i64 dir,.int .i64 now,.slice a n c] w fun e w'=>e=.returned (.tuple #[])∧∃ R',WdAt w' pw R' (S.touch now dir l)∧Stp (R.F pw) (R'.F pw) w w':=by
 obtain⟨ea,el,ec,he,hG⟩:=wget_fix h hg;have HG:=Lib.hid (hG w (Below.refl _ _));unfold An.v at HG;have HT:=Lib.hid (show S.touch now dir l=S.set {d with ents:=l,mtime:=now,ctime:=now} by unfold Fs.touch;rw [hg]);have hno:=an_no hg;have HSet:=Lib.hid (fun w1 (hb1:Below w.heap.size w w1)=>(h.keep hb1).setN {d with ents:=l,mtime:=now,ctime:=now} (hl.keep hb1) (b:=d) (by rw [show ({d with ents:=l,mtime:=now,ctime:=now}:An).no=d.no from rfl,hno];exact hg));unfold An.v at HSet;obtain⟨pc,-,pz⟩:=h.blk.facts;have mixed:Tryz.prog.follows .mixedOrders=true:=by kernel_rfl
 clear h hg he hG hno hl;go_enter Tryz.func285,Tryz.ntmps285;go_wp2_with fail;refine HG.out.mono ?_;rintro e w1 ⟨rfl,hb1⟩;have pc0:(w1.alloc (.cells #[.int .i64 d.no,.int .i64 d.dev,.int .i64 d.kind,.int .i64 d.mode,.int .i64 d.uid,.int .i64 d.gid,.int .i64 now,.int .i64 now,.int .i64 d.links,.int .i64 d.up,.string d.data,.slice a n c] 109)).cell? ⟨pw,0,none⟩=_:=((balloc hb1 (.cells #[.int .i64 d.no,.int .i64 d.dev,.int .i64 d.kind,.int .i64 d.mode,.int .i64 d.uid,.int .i64 d.gid,.int .i64 now,.int .i64 now,.int .i64 d.links,.int .i64 d.up,.string d.data,.slice a n c] 109)).cell (p:=⟨pw,0,none⟩) pz).trans (pc 0);have hB:=Blk.new w1 #[.int .i64 d.no,.int .i64 d.dev,.int .i64 d.kind,.int .i64 d.mode,.int .i64 d.uid,.int .i64 d.gid,.int .i64 now,.int .i64 now,.int .i64 d.links,.int .i64 d.up,.string d.data,.slice a n c] 109;have hbX:=balloc hb1 (.cells #[.int .i64 d.no,.int .i64 d.dev,.int .i64 d.kind,.int .i64 d.mode,.int .i64 d.uid,.int .i64 d.gid,.int .i64 now,.int .i64 now,.int .i64 d.links,.int .i64 d.up,.string d.data,.slice a n c] 109);clear pc hb1;go_wp2_with fail;generalize w1.alloc (.cells #[.int .i64 d.no,.int .i64 d.dev,.int .i64 d.kind,.int .i64 d.mode,.int .i64 d.uid,.int .i64 d.gid,.int .i64 now,.int .i64 now,.int .i64 d.links,.int .i64 d.up,.string d.data,.slice a n c] 109)=X at pc0 hB hbX ⊢;obtain⟨bc,-,bz⟩:=hB.facts;have HS:=Lib.hid (HSet.out _ hbX.drew);have HX:=Lib.hid hbX;clear hB hbX;refine wp_region_lex 5 mixed (by kernel_rfl) body_panic ?_;simp only [List.take_succ_cons,List.take_zero,List.drop_succ_cons,List.drop_zero]
 repeat still_step
 refine wpStill_nil ?_;go_wp2_with fail;refine HS.out.mono ?_;rintro e w5 ⟨rfl,R',hR1,hR2,-,-⟩;have HR:=Lib.hid (And.intro hR1 hR2);clear hR1 hR2;go_wp2_with fail
 go_end0
 rw [HT.out];exact⟨rfl,R',HR.out.1,(Stp.of_below HX.out.drew).trans HR.out.2⟩
end
end
section
open Go.RowKit
def cmpB (a b:ByteArray):Int:=if ltB a b=true then -1 else if ltB b a=true then 1 else 0
theorem cmpB_lt (a b:ByteArray):(cmpB a b<0)=(ltB a b=true):=by
 unfold cmpB
 cases h:ltB a b
 ·simp;split <;> omega
 ·simp
theorem cmpB_eq (a b:ByteArray):(cmpB a b=0)=(a=b):=by
 unfold cmpB
 cases h:ltB a b
 ·cases k:ltB b a
  ·simp [ltB_total h k]
  ·simp [(ltB_ne k).symm]
 ·simp [ltB_ne h]
theorem compare_any (a b:ByteArray) (w:World) :
  Calls Tryz.prog 301 #[.string a,.string b] w fun e w'=>e=.returned (.int .i64 (cmpB a b))∧w=w':=by
 unfold cmpB
 cases h:ltB a b
 ·cases k:ltB b a
  ·obtain rfl:a=b:=ltB_total h k;rw [←ltB_mk] at h;clear k;go_enter Tryz.func301,Tryz.ntmps301
   go_wp2
   go_ret;exact⟨rfl,rfl⟩
  ·have hne:¬ a.toList=b.toList:=fun e=>by
    rw [ByteArray.toList_eq,ByteArray.toList_eq] at e;rw [ba_eq e,ltB_irrefl] at k
    cases k
   have hq:(a.toList == b.toList)=false:=by simpa using hne
   rw [←ltB_mk] at h;clear k;go_enter Tryz.func301,Tryz.ntmps301
   go_wp2
   go_ret;exact⟨rfl,rfl⟩
 ·rw [←ltB_mk] at h;go_enter Tryz.func301,Tryz.ntmps301
  go_wp2
  go_ret;exact⟨rfl,rfl⟩
theorem by_any (x:En) (n:ByteArray) (w:World) :
  Calls Tryz.prog 270 #[.agg #[.string x.name,.int .i64 x.no],.string n] w fun e w'=>e=.returned (.int .i64 (cmpB x.name n))∧Below w.heap.size w w':=by
 go_enter Tryz.func270,Tryz.ntmps270;go_wp2_with (go_at_call 301;refine (compare_any _ _ _).mono ?_;rintro e w1 ⟨rfl,rfl⟩);go_ret;exact⟨rfl,by go_grown⟩
end
section
open Go.RowKit
def hasE (es:List En) (s:ByteArray):Bool:=(es.find? (fun x=>decide (x.name=s))).isSome
theorem search_any (es:List En) (a:Option Addr) (n c:Nat) (s:ByteArray) (w:World) (he:EntsAt w a n c es) (hr:Rise es) (hn:n≤1000000) :
  Calls Tryz.prog 269 #[.slice a n c,.string s,.func (.func 270) #[] #[]] w fun e w'=>e=.returned (.tuple #[.int .i64 (entAt es s),.bool (hasE es s)])∧Below w.heap.size w w':=by
 have hl:=he.len;have HR:=Lib.hid hr;have HE:=Lib.hid he;have hat:=entAt_le es s;clear hr he;obtain⟨A,hA⟩:∃ A,entAt es s=A:=⟨_,rfl⟩;have HA:=Lib.hid hA;rw [hA] at hat ⊢;clear hA;go_enter Tryz.func269,Tryz.ntmps269;go_wp2_with fail
 go_loopw [9,10] (fun i j wr=>∃ lo hi:Nat,lo≤A∧A≤hi∧hi≤n∧i=.int .i64 lo∧j=.int .i64 hi∧Below w.heap.size w wr) (fun i j _=>(intOf j - intOf i).toNat)
 case atStart=>exact ⟨0,n,by omega,by omega,by omega,rfl,rfl,Below.refl _ _⟩
 case round=>
  obtain⟨lo,hi,h1,h2,h3,rfl,rfl,hB⟩:=hrel;by_cases hlt:lo<hi
  ·obtain ⟨b,off,rfl,hb⟩:=HE.out.some_of (by omega);obtain⟨k,hk⟩:∃ k:Nat,(lo+hi) / 2=k:=⟨_,rfl⟩;have hkl:k<es.length:=by omega
   obtain⟨c1,c2⟩:=(HE.out.keep hB).cell k hkl;obtain⟨x,hx⟩:∃ x,es[k]=x:=⟨_,rfl⟩;rw [hx] at c1 c2;have hcv:(cmpB x.name s<0)=(k<A):=by
    rw [cmpB_lt,←hx,rise_lt HR.out s k hkl,HA.out];simp
   by_cases hkA:k<A
   ·have hneg:cmpB x.name s<0:=by rw [hcv];exact hkA
    clear hcv hx;go_wp2_with fail;refine (by_any x s _).mono ?_;rintro e w1 ⟨rfl,hb1⟩;go_wp2_with fail;go_roundw
    case rel=>exact ⟨k+1,hi,by omega,by omega,h3,by go_num,rfl,bnext hB hb1⟩
    case measure=>simp [intOf];omega
   ·have hneg:¬ cmpB x.name s<0:=by rw [hcv];exact hkA
    clear hcv hx;go_wp2_with fail;refine (by_any x s _).mono ?_;rintro e w1 ⟨rfl,hb1⟩;go_wp2_with fail;go_roundw
    case rel=>exact ⟨lo,k,by omega,by omega,by omega,rfl,by rw [show ((lo:Int)+(hi:Int)) / 2=(k:Int) by omega],bnext hB hb1⟩
    case measure=>simp [intOf];omega
  ·obtain rfl:lo=A:=by omega
   by_cases hAn:lo<n
   ·obtain ⟨b,off,rfl,hb⟩:=HE.out.some_of (by omega);have hkl:lo<es.length:=by omega
    obtain⟨c1,c2⟩:=(HE.out.keep hB).cell lo hkl;obtain⟨x,hx⟩:∃ x,es[lo]=x:=⟨_,rfl⟩;rw [hx] at c1 c2;by_cases hxs:x.name=s
    ·have hz:cmpB x.name s=0:=by rw [cmpB_eq];exact hxs
     have HF:=Lib.hid (show hasE es s=true by
      unfold hasE;rw [find_at HR.out s,dif_pos (by rw [HA.out];exact hkl),if_pos (by simp only [HA.out,hx];exact hxs)];rfl)
     have Hz:=Lib.hid hz;clear hx hxs hz;go_wp2_with fail;refine (by_any x s _).mono ?_;rw [Hz.out];rintro e w1 ⟨rfl,hb1⟩;go_wp2_with fail;go_ret2;exact⟨by rw [HF.out];rfl,bnext hB hb1⟩
    ·have hz:¬ cmpB x.name s=0:=by rw [cmpB_eq];exact hxs
     have HF:=Lib.hid (show hasE es s=false by
      unfold hasE;rw [find_at HR.out s,dif_pos (by rw [HA.out];exact hkl),if_neg (by simp only [HA.out,hx];exact hxs)];rfl)
     have hz2:(cmpB x.name s == 0)=false:=by simpa using hz
     clear hx hxs hz;go_wp2_with fail;refine (by_any x s _).mono ?_;rintro e w1 ⟨rfl,hb1⟩;go_wp2_with fail;go_ret2;exact⟨by rw [HF.out];rfl,bnext hB hb1⟩
   ·have HF:=Lib.hid (show hasE es s=false by
     unfold hasE;rw [find_at HR.out s,dif_neg (by rw [HA.out];omega)];rfl)
    go_wp2_with fail;go_ret2;exact⟨by rw [HF.out];rfl,hB⟩
theorem has_find {es:List En} {s:ByteArray} (h:hasE es s=false):entFind es s=0:=by
 unfold hasE at h;unfold entFind
 cases hf:es.find? (fun x=>decide (x.name=s)) with
 | none=>rfl
 | some x=>rw [hf] at h;cases h
theorem at_find {es:List En} {s:ByteArray} (hr:Rise es) (h:hasE es s=true):∃ hk:entAt es s<es.length,entFind es s=es[entAt es s].no∧es[entAt es s].name=s:=by
 unfold hasE at h;unfold entFind;rw [find_at hr s] at h ⊢
 split at h
 ·rename_i hk
  split at h
  ·rename_i hx;refine ⟨hk,?_,hx⟩;rw [dif_pos hk,if_pos hx]
  ·cases h
 ·cases h
theorem efind_any (es:List En) (a:Option Addr) (n c:Nat) (s:ByteArray) (w:World) (he:EntsAt w a n c es) (hr:Rise es) (hn:n≤1000000) :
  Calls Tryz.prog 225 #[.slice a n c,.string s] w fun e w'=>e=.returned (.int .i64 (entFind es s))∧Below w.heap.size w w':=by
 have hl:=he.len;have HS:=Lib.hid (search_any es a n c s w he hr hn)
 cases hh:hasE es s
 ·rw [hh] at HS;rw [has_find hh];go_enter Tryz.func225,Tryz.ntmps225;go_wp2_with fail;refine HS.out.mono ?_;rintro e w1 ⟨rfl,hb1⟩;go_wp2_with fail;go_ret;exact⟨rfl,hb1⟩
 ·rw [hh] at HS;obtain⟨hk,hf,-⟩:=at_find hr hh;rw [hf];obtain⟨b,off,rfl,hb⟩:=he.some_of (by omega);obtain⟨A,hA⟩:∃ A,entAt es s=A:=⟨_,rfl⟩;simp only [hA] at hk HS ⊢;obtain⟨x,hx⟩:∃ x,es[A]=x:=⟨_,rfl⟩;rw [hx];have HE:=Lib.hid he;clear hf hA he hh;go_enter Tryz.func225,Tryz.ntmps225;go_wp2_with fail;refine HS.out.mono ?_;rintro e w1 ⟨rfl,hb1⟩;obtain⟨c1,c2⟩:=(HE.out.keep hb1).cell A hk;rw [hx] at c1 c2;go_wp2_with fail;go_ret;exact⟨rfl,hb1⟩
end
section
open Go.RowKit
section
variable {P:Program}
theorem run_copy_rowK (w:World) (dT sT ty elem:TypeId) (g o dLen dCap:Nat) (a:Addr) (sLen sCap:Nat) (cur:Array Value) (t:TypeId) (cs:List Value) (n sz:Nat)
  (hu:P.underlying dT=some (.slice elem)) (hs:(P.info? elem).map (·.size)=some sz)
  (hg:w.heap[g]? = some (.cells cur t (0,0))) (hm:Nat.min sLen dLen=n) (hn:cs.length=n*sz)
  (hsrc:∀ j v,cs[j]? = some v→w.cell? (a.add j)=some v) (hfit:o+cs.length≤cur.size) (h1:∀ v∈cs,v.oneCell'=true) :
  (Builtin.copy_ #[dT,sT] ty #[.slice (some ⟨g,o,none⟩) dLen dCap,.slice (some a) sLen sCap]).run P w =
   .ok (goInt n) (w.setRow g (cur.toList.take o ++ cs ++ cur.toList.drop (o+cs.length)).toArray):=by
 have hl:=run_loadCells_list (P:=P) w a cs hsrc;have hst:=run_storeCells_at P g o t cs 0 cur w hg (by simpa using hfit) h1
 cases hq:P.info? elem with
 | none=>simp [hq] at hs
 | some i=>
  have hi:i.size=sz:=by simpa [hq] using hs
  simp [Builtin.copy_,run_underlying hu,Builtin.lenOf,Builtin.firstCells,sizeOf,typeInfo,hq,hi,hm,←hn,hl,hst]
theorem wp_copy_run (w:World) {o:Oper} {a:Act} {K:Act→World→Prop} {Q:Exit→Act→World→Prop} (d s:Operand) (t t':TypeId)
  (ho:o.op=.call {callee:=.builtin .copy,args:=#[d,s],argTypes:=#[t,t']}) (v u:Value) (hd:a.eval d=v) (hs:a.eval s=u) {v':Value} {w':World}
  (hr:(Builtin.copy_ #[t,t'] o.type #[v,u]).run P w=.ok v' w') (h:K (a.put o.dst v') w'):o.wp P a w K Q:=by
 unfold Oper.wp execOp;simp only [ho,resolve,invoke,builtin,Sem.run_bind,Sem.run_pure,Result.andThen_ok,List.map_toArray,List.map_cons,List.map_nil,hd,hs,hr];exact h
theorem wpList_copy_run (w:World) {ops:Array Oper} {rest:List Oper} {o:Oper} {a:Act} {Q:Exit→Act→World→Prop} (hgd:o.guard=none) (d s:Operand) (t t':TypeId)
  (ho:o.op=.call {callee:=.builtin .copy,args:=#[d,s],argTypes:=#[t,t']}) (v u:Value) (hd:a.eval d=v) (hs:a.eval s=u) {v':Value} {w':World}
  (hr:(Builtin.copy_ #[t,t'] o.type #[v,u]).run P w=.ok v' w') (h:wpList P ops Q rest (a.put o.dst v') w'):wpList P ops Q (o :: rest) a w:=
 wpList_plain hgd fun _ hK=>wp_copy_run w d s t t' ho v u hd hs hr (hK _ _ h)
theorem step_copy_run {ops:Array Oper} {o:Oper} {a:Act} {w:World} {K:Act→World→Prop} {Q:Exit→Act→World→Prop} {E:Prop}
  (hg:o.guard=none) (d x:Operand) (dT sT:TypeId) (hop:o.op=Op.call {callee:=Callee.builtin Builtin.copy,args:=#[d,x],argTypes:=#[dT,sT]})
  (v u:Value) (hd:a.eval d=v) (hx:a.eval x=u) {v':Value} {w':World} (hr:(Builtin.copy_ #[dT,sT] o.type #[v,u]).run P w=.ok v' w') (hK:K (a.put o.dst v') w') :
  if Region.wanted o (yielded ops a.tmps)=true then Oper.wp P o a w K Q else E:=by
 have hw:Region.wanted o (yielded ops a.tmps)=true:=by simp [Region.wanted,hg]
 rw [if_pos hw];unfold Oper.wp;simp [execOp,hop,resolve,invoke,builtin,hd,hx,hr,Result.andThen];exact hK
end
theorem setRow_blk {w:World} {g:Nat} {cur vs:Array Value} {T:TypeId} (h:Blk w g cur T):Blk (w.setRow g vs) g vs T:=setRow_heap w g cur vs T _ h
theorem setRow_mod (w:World) (g:Nat) (vs:Array Value):Mod (fun k=>k=g) w (w.setRow g vs):=by
 refine ⟨rfl,rfl,rfl,by simp [World.setRow],fun k hk hs=>?_⟩;simp only [World.setRow];rw [Array.getElem?_modify,if_neg (fun e=>hs e.symm)]
end
section
open Go.RowKit
theorem ent_info:(Tryz.prog.info? 113).map (fun i=>(i.zero,i.size,i.bytes))=some (some (.agg #[.string ByteArray.empty,.int .i64 0]),2,24):=by kernel_rfl
theorem entC_one (es:List En):∀ u∈es.flatMap entC,u.oneCell'=true:=by
 intro u hu;obtain⟨x,-,hx⟩:=List.mem_flatMap.1 hu;simp [entC] at hx;rcases hx with rfl | rfl <;> rfl
theorem EntsAt.news {w:World} {b off n c:Nat} {es:List En} (h:EntsAt w (some ⟨b,off,none⟩) n c es):∀ j u,(es.flatMap entC)[j]? = some u→w.cell? ((⟨b,off,none⟩:Addr).add j)=some u:=by
 intro j u hu;have hlt:j<(es.flatMap entC).length:=(List.getElem?_eq_some_iff.1 hu).1;rw [flat_len entC_len] at hlt;have hm:=Nat.mod_lt j (show 0<2 by omega);have hdiv:j=j / 2*2+j % 2:=by omega
 have hq:j / 2<es.length:=by omega
 have h1:=flat_get entC_len es (j / 2) (j % 2) hq hm;rw [←hdiv,hu] at h1;obtain⟨c1,c2⟩:=h.cell (j / 2) hq;rw [addr_add];rcases (show j % 2=0∨j % 2=1 by omega) with hr | hr
 ·rw [hr] at h1;rw [show off+j=off+j / 2*2 by omega,c1];exact h1.symm
 ·rw [hr] at h1;rw [show off+j=off+j / 2*2+1 by omega,c2];exact h1.symm
def OE (w:World) (base:Nat) (v:Value) (es:List En):Prop:=w.ownsRow base 113 2 v es.length (es.flatMap entC)
theorem OE.at {w:World} {base c:Nat} {a:Option Addr} {es:List En} (h:OE w base (.slice a es.length c) es):EntsAt w a es.length c es:=by
 refine ⟨own_slice (R:=entQ) (by omega) entC_len (fun _=>rfl) h,fun p hp=>?_⟩;subst hp;rcases h.2 with ⟨h1,-⟩|⟨g,cap,cur,h1,-,hg,-⟩
 ·cases h1
 ·injection h1 with h1;injection h1 with h1;exact⟨g,0,cur,h1,hg⟩
theorem OE.keep {w w':World} {base:Nat} {v:Value} {es:List En} (h:OE w base v es) (hb:Below w.heap.size w w'):OE w' base v es:=own_below h hb (Nat.le_refl _)
theorem eclone_any (es:List En) (a:Option Addr) (n c:Nat) (w:World) (he:EntsAt w a n c es) (hn:n≤1000000) :
  Calls Tryz.prog 310 #[.slice a n c] w fun e w'=>(∃ a' c',e=.returned (.slice a' n c')∧OE w' w.heap.size (.slice a' n c') es)∧Below w.heap.size w w':=by
 have hl:=he.len;obtain⟨i0,hi,hz0,hz1,hz2⟩:=info_parts ent_info;have hq:∀ (w:World) (r:Option Addr) (n c:Nat),(binOp .eql 107 (.slice r n c) (.slice none 0 0)).run Tryz.prog w=.ok (.bool r.isNone) w:=fun w r n c=>Lib.run_eql_slice_nil w _ _ r n c 0 0 Tryz.underlying107
 cases a with
 | none=>
  have hn0:n=0:=by
   rcases Nat.eq_zero_or_pos n with h | h
   ·exact h
   ·obtain ⟨b,off,h1,-⟩:=he.some_of h
    cases h1
  subst hn0;obtain rfl:es=[]:=List.eq_nil_of_length_eq_zero hl;have H:=Lib.hid (show OE w w.heap.size (.slice none 0 0) [] from World.ownsRow_nil _ _ _ _);clear he hl hi hz0 hz1 hz2;go_enter Tryz.func310,Tryz.ntmps310;go_wp2_with fail;go_ret;exact⟨⟨none,0,rfl,H.out⟩,Below.refl _ _⟩
 | some p=>
  obtain⟨b,off,cur,rfl,hblk⟩:=he.blk p rfl;have he2:=he.keep ((Below.refl _ w).alloc (Nat.le_refl _) (.cells #[] 113));have hrun:∃ a' c' W,(Builtin.append_ #[107,107] 107 #[.slice (some ⟨w.heap.size,0,none⟩) 0 0,.slice (some ⟨b,off,none⟩) n c]).run Tryz.prog (w.alloc (.cells #[] 113))=.ok (.slice a' n c') W∧
    OE W w.heap.size (.slice a' n c') es∧Below w.heap.size w W:=by
   obtain⟨g,cap,W,h1,h2,h3,h4⟩:=step_app_any (107) Tryz.underlying107 hi hz0 hz1 hz2 rfl (by omega) (own_empty (base:=w.heap.size) (sz:=2) (e:=113) w (Nat.le_refl _)) ⟨b,off,none⟩ n c (es.flatMap entC) (by rw [flat_len entC_len,hl]) he2.news (entC_one es) (by unfold maxLen;omega) (by omega) (by simp);refine ⟨some ⟨g,0,none⟩,cap,W,?_,?_,((Below.refl w.heap.size w).alloc (Nat.le_refl _) _).trans (h3.below (fun k hk=>by omega) (by simp))⟩
   ·rw [Nat.zero_add] at h1;exact h1
   ·rw [Nat.zero_add,List.nil_append] at h2;unfold OE;rw [hl];exact h2
  obtain⟨a',c',W,hrun,h2,h3⟩:=hrun;have H:=Lib.hid (And.intro h2 h3);clear he he2 hblk h2 h3 hi hz0 hz1 hz2 hl;go_enter Tryz.func310,Tryz.ntmps310;go_wp2_with (at_builtin;refine wpList_app_run rfl rfl rfl rfl hrun ?_);go_ret;exact⟨⟨a',c',rfl,H.out.1⟩,H.out.2⟩
end
section
open Go.RowKit
theorem OE.mk {w:World} {base g cap:Nat} {cur:Array Value} {es:List En} (hb:base≤g) (hg:Blk w g cur 113) (h1:es.length≤cap) (h2:cap≤maxLen) (h3:cur.size=cap*2) (h4:cur.toList.take (es.length*2)=es.flatMap entC) :
  OE w base (.slice (some ⟨g,0,none⟩) es.length cap) es:=⟨flat_len entC_len es,.inr ⟨g,cap,cur,rfl,hb,hg,h1,h2,h3,h4⟩⟩
theorem flat_take (es:List En) (i:Nat):(es.flatMap entC).take (i*2)=(es.take i).flatMap entC:=by
 induction es generalizing i with
 | nil=>simp
 | cons x es ih=>
  cases i with
  | zero=>simp
  | succ i=>
   rw [List.flatMap_cons,List.take_succ_cons,List.flatMap_cons,show (i+1)*2=(entC x).length+i*2 by rw [entC_len];omega,List.take_append,List.take_of_length_le (by omega),Nat.add_sub_cancel_left,ih]
theorem flat_drop (es:List En) (i:Nat):(es.flatMap entC).drop (i*2)=(es.drop i).flatMap entC:=by
 induction es generalizing i with
 | nil=>simp
 | cons x es ih=>
  cases i with
  | zero=>simp
  | succ i=>
   rw [List.flatMap_cons,List.drop_succ_cons,show (i+1)*2=(entC x).length+i*2 by rw [entC_len];omega,List.drop_append,List.drop_eq_nil_of_le (by omega),Nat.add_sub_cancel_left,ih,List.nil_append]
theorem einsert_end (es:List En) (a:Option Addr) (c base vb:Nat) (x:En) (w:World) (h:OE w base (.slice a es.length c) es) (hb:Blk w vb #[.string x.name,.int .i64 x.no] 113) (hbase:base≤w.heap.size) (hn:es.length≤1000000) :
  Calls Tryz.prog 309 #[.slice a es.length c,.int .i64 es.length,.slice (some ⟨vb,0,none⟩) 1 1] w fun e w'=>(∃ a' c',e=.returned (.slice a' (es.length+1) c')∧OE w' base (.slice a' (es.length+1) c') (es ++ [x]))∧Mod (fun k=>(Value.slice a es.length c).ownBlock=some k) w w':=by
 obtain⟨i0,hi,hz0,hz1,hz2⟩:=info_parts ent_info;obtain⟨g,cap,W,h1,h2,h3,h4⟩:=step_app (107) Tryz.underlying107 hi hz0 hz1 hz2 rfl (by omega) h ⟨vb,0,none⟩ 1 1 (entC x) rfl (World.news_of_block hb) (by intro u hu;simp [entC] at hu;rcases hu with rfl | rfl <;> rfl) (by omega) (by unfold maxLen;omega) (by omega) hbase;have h2':OE W base (.slice (some ⟨g,0,none⟩) (es.length+1) cap) (es ++ [x]):=by
  unfold OE;rw [List.length_append,List.length_singleton,List.flatMap_append,List.flatMap_singleton];exact h2
 obtain⟨b',c',hv,hle,-⟩:=own_form h;injection hv with e1 e2 e3;subst e1 e3;have H:=Lib.hid (And.intro h2' h3);clear h2 h2' h3 h4 hi hz0 hz1 hz2 hb h;obtain⟨n,hnn⟩:∃ n,es.length=n:=⟨_,rfl⟩;rw [hnn] at H h1 hle hn ⊢;clear hnn
 cases a with
 | none=>
  go_enter Tryz.func309,Tryz.ntmps309;go_wp2_with (at_builtin;refine wpList_app_run rfl rfl rfl rfl h1 ?_)
  all_goals (go_ret;exact ⟨⟨_,_,rfl,H.out.1⟩,H.out.2⟩)
 | some p=>
  go_enter Tryz.func309,Tryz.ntmps309;go_wp2_with (at_builtin;refine wpList_app_run rfl rfl rfl rfl h1 ?_)
  all_goals (go_ret;exact ⟨⟨_,_,rfl,H.out.1⟩,H.out.2⟩)
theorem zero_cells (k:Nat):(Builtin.zeroCells (Value.cells (.agg #[.string ByteArray.empty,.int .i64 0])) k).size=k*2:=by
 rw [size_zeroCells];rfl
theorem take_app_len {α:Type} (a b:List α) (n:Nat) (h:a.length=n):(a ++ b).take n=a:=by
 subst h;simp
theorem einsert_grow (es:List En) (g c i base vb:Nat) (x:En) (w:World) (h:OE w base (.slice (some ⟨g,0,none⟩) es.length c) es) (hb:Blk w vb #[.string x.name,.int .i64 x.no] 113) (hbase:base≤w.heap.size) (hn:es.length≤1000000) (hil:i<es.length) (hroom:c<es.length+1) :
  Calls Tryz.prog 309 #[.slice (some ⟨g,0,none⟩) es.length c,.int .i64 i,.slice (some ⟨vb,0,none⟩) 1 1] w fun e w'=>(∃ a' c',e=.returned (.slice a' (es.length+1) c')∧OE w' base (.slice a' (es.length+1) c') (es.take i ++ x :: es.drop i))∧Below w.heap.size w w':=by
 obtain⟨i0,hi,hz0,hz1,hz2⟩:=info_parts ent_info;have hA:=h.at;have hlt:=(hA.some_of (by omega));obtain⟨gg,oo,hgg,hgl⟩:=hlt;injection hgg with hgg;injection hgg with e1 e2;subst e1 e2;obtain⟨b',c',hv,hle,-⟩:=own_form h;injection hv with e1 e2 e3;subst e1 e3;have hsz:(Tryz.prog.info? 113).map (·.size)=some 2:=by rw [hi];simp [hz1]
 obtain⟨n,hnn⟩:∃ n,es.length=n:=⟨_,rfl⟩;have hold:(Builtin.firstCells i0.size i (.slice (some ⟨g,0,none⟩) i c)).run Tryz.prog w.drew=.ok ((es.take i).flatMap entC).toArray w.drew:=by
  rw [hz1];refine run_firstCells_some w.drew 2 i ⟨g,0,none⟩ i c _ (by rw [flat_len entC_len,List.length_take];omega) (fun j v hj=>?_);rw [←flat_take,List.getElem?_take] at hj
  split at hj
  ·exact hA.news j v hj
  ·cases hj
 have hr0:=Lib.run_append_grow_zeros w 107 3 107 113 i0 _ .i64 .i64 Tryz.underlying107 Tryz.underlying3 hi hz0 (some ⟨g,0,none⟩) i c _ hold (n+1 - i) (by omega) (by rw [hz1];omega) (by omega) (by omega) (by rw [hz2];omega) (by rw [hz2];exact growslice_fits (by omega) (by omega));rw [show i+(n+1 - i)=n+1 by omega] at hr0;have hk:((n+1 - i:Nat):Int)=(n:Int)+1 - (i:Int):=by omega
 rw [hk] at hr0;obtain⟨G,hG⟩:∃ G,grownCap w (n+1) c 113=G:=⟨_,rfl⟩;have hG1:n+1≤G:=by rw [←hG];exact grownCap_ge w _ _ _
 have hG2:G≤maxLen:=by rw [←hG];exact grownCap_le_maxLen w _ _ _ (by unfold maxLen;omega)
 rw [hG] at hr0;obtain⟨ROW,hROW⟩:∃ R,((es.take i).flatMap entC).toArray ++ Builtin.zeroCells (Value.cells (.agg #[.string ByteArray.empty,.int .i64 0])) (n+1 - i) ++ Builtin.zeroCells (Value.cells (.agg #[.string ByteArray.empty,.int .i64 0])) (G - (n+1))=R:=⟨_,rfl⟩;rw [hROW] at hr0;have hRs:ROW.size=G*2:=by
  rw [←hROW,Array.size_append,Array.size_append,zero_cells,zero_cells,List.size_toArray,flat_len entC_len,List.length_take];omega
 have hRt:ROW.toList.take (i*2)=(es.take i).flatMap entC:=by
  rw [←hROW,Array.toList_append,Array.toList_append,List.append_assoc];exact take_app_len _ _ _ (by rw [flat_len entC_len,List.length_take];omega)
 have b1:Blk (w.drew.alloc (.cells ROW 113)) w.heap.size ROW 113:=Blk.new w.drew ROW 113;have B1:Below w.heap.size w (w.drew.alloc (.cells ROW 113)):=((Below.refl _ w).drew).alloc (Nat.le_refl _) _;have hA1:=hA.keep B1;have hv1:=hb.keep B1;have hne:vb≠w.heap.size:=by have:=hb.lt;omega
 generalize hW1:w.drew.alloc (.cells ROW 113)=W1 at hr0 b1 B1 hA1 hv1;clear hW1;have hr1:=run_copy_rowK W1 107 107 3 113 w.heap.size (i*2) (n+1 - i) (G - i) ⟨vb,0,none⟩ 1 1 ROW 113 (entC x) 1 2 Tryz.underlying107 hsz b1 (by simp only [Nat.min_def];split <;> omega) rfl (World.news_of_block hv1) (by rw [entC_len,hRs];omega) (by intro u hu;simp [entC] at hu;rcases hu with rfl | rfl <;> rfl);have b2:=setRow_blk (vs:=(ROW.toList.take (i*2) ++ entC x ++ ROW.toList.drop (i*2+(entC x).length)).toArray) b1;have M2:=setRow_mod W1 w.heap.size (ROW.toList.take (i*2) ++ entC x ++ ROW.toList.drop (i*2+(entC x).length)).toArray;have hs2:(ROW.toList.take (i*2) ++ entC x ++ ROW.toList.drop (i*2+(entC x).length)).toArray.size=G*2:=by
  rw [List.size_toArray,List.length_append,List.length_append,List.length_take,List.length_drop,entC_len,Array.length_toList,hRs];omega
 have ht2:(ROW.toList.take (i*2) ++ entC x ++ ROW.toList.drop (i*2+(entC x).length)).take ((i+1)*2)=(es.take i).flatMap entC ++ entC x:=by
  rw [hRt];exact take_app_len _ _ _ (by rw [List.length_append,flat_len entC_len,List.length_take,entC_len];omega)
 obtain⟨R2,hR2⟩:∃ R,(ROW.toList.take (i*2) ++ entC x ++ ROW.toList.drop (i*2+(entC x).length))=R:=⟨_,rfl⟩;rw [hR2] at hr1 b2 M2 hs2 ht2;have B2:Below w.heap.size w (W1.setRow w.heap.size R2.toArray):=B1.trans (M2.below (fun k hk=>by omega) B1.size);have hA2:=hA.keep B2;generalize hW2:W1.setRow w.heap.size R2.toArray=W2 at hr1 b2 B2 hA2;clear hW2 M2;have hdl:((es.drop i).flatMap entC).length=(n - i)*2:=by rw [flat_len entC_len,List.length_drop,hnn]
 have hr2:=run_copy_rowK W2.drew 107 107 3 113 w.heap.size ((i+1)*2) (n+1 - (i+1)) (G - (i+1)) ⟨g,i*2,none⟩ (n - i) (c - i) R2.toArray 113 ((es.drop i).flatMap entC) (n - i) 2 Tryz.underlying107 hsz b2.drew (by simp only [Nat.min_def];split <;> omega) hdl
  (fun j v hj=>by
   rw [←flat_drop,List.getElem?_drop] at hj;have:=hA2.news (i*2+j) v hj;rw [addr_add] at this ⊢;rw [show i*2+j=0+(i*2+j) by omega];exact this) (by rw [hdl,hs2];omega) (entC_one _)
 have b3:=setRow_blk (vs:=(R2.toArray.toList.take ((i+1)*2) ++ (es.drop i).flatMap entC ++ R2.toArray.toList.drop ((i+1)*2+((es.drop i).flatMap entC).length)).toArray) b2.drew;have M3:=setRow_mod W2.drew w.heap.size (R2.toArray.toList.take ((i+1)*2) ++ (es.drop i).flatMap entC ++ R2.toArray.toList.drop ((i+1)*2+((es.drop i).flatMap entC).length)).toArray;obtain⟨R3,hR3⟩:∃ R,(R2.toArray.toList.take ((i+1)*2) ++ (es.drop i).flatMap entC ++ R2.toArray.toList.drop ((i+1)*2+((es.drop i).flatMap entC).length))=R:=⟨_,rfl⟩;have hs3:R3.toArray.size=G*2:=by
  rw [←hR3,List.size_toArray,List.length_append,List.length_append,List.length_take,List.length_drop,hdl,Array.length_toList,hs2];omega
 have ht3:R3.take ((n+1)*2)=(es.take i ++ x :: es.drop i).flatMap entC:=by
  rw [←hR3,List.flatMap_append,List.flatMap_cons,ht2];rw [take_app_len _ _ _ (by rw [List.length_append,List.length_append,hdl,flat_len entC_len,List.length_take,entC_len];omega)];rw [List.append_assoc]
 rw [hR3] at hr2 b3 M3;have B3:Below w.heap.size w (W2.drew.setRow w.heap.size R3.toArray):=(B2.drew).trans (M3.below (fun k hk=>by omega) B2.size);generalize hW3:W2.drew.setRow w.heap.size R3.toArray=W3 at hr2 b3 B3;clear hW3 M3;have hlen:(es.take i ++ x :: es.drop i).length=n+1:=by
  rw [List.length_append,List.length_take,List.length_cons,List.length_drop];omega
 have hfin:OE W3 base (.slice (some ⟨w.heap.size,0,none⟩) (n+1) G) (es.take i ++ x :: es.drop i):=by
  have:=OE.mk (es:=es.take i ++ x :: es.drop i) hbase b3 (by rw [hlen];exact hG1) hG2 hs3 (by rw [hlen];exact ht3);rw [hlen] at this;exact this
 have H:=Lib.hid (And.intro hfin B3);unfold maxLen at hG2;rw [hnn] at hil hroom hn hle ⊢;have q1:¬ (G=i):=by omega
 have q2:¬ (G=i+1):=by omega
 have q3:¬ (c=i):=by omega
 clear hA hA1 hA2 hv1 hb h hold hROW hRs hRt b1 b2 b3 hs2 hs3 ht2 ht3 hR2 hR3 hlen hfin B1 B2 B3 hdl hnn hG hi hz0 hz1 hz2 hsz hk;go_enter Tryz.func309,Tryz.ntmps309;go_wp2_with (first
  | (at_builtin;refine Lib.wpList_append_run _ rfl _ _ _ _ rfl _ _ rfl rfl _ _ hr0 ?_)
  | (refine wpList_copy_run _ rfl _ _ 107 107 rfl _ _ rfl rfl hr1 ?_))
 have mixed:Tryz.prog.follows .mixedOrders=true:=by kernel_rfl
 have hw1:IntKind.i64.wrap ((i:Int)+1)=(i:Int)+1:=by rw [IntKind.wrap_i64];omega
 have hb1:(0:Int)≤(i:Int)+1:=by omega
 have htn:((i:Int)+1).toNat=i+1:=by omega
 have hb3:(i:Int)+1≤(n:Int)+1:=by omega
 have hb4:(i:Int)≤(n:Int):=by omega
 have hb5:(0:Int)≤(i:Int):=by omega
 go_region_law_o (refine step_copy_run rfl _ _ 107 107 rfl (.slice (some ⟨w.heap.size,(i+1)*2,none⟩) (n+1 - (i+1)) (G - (i+1))) (.slice (some ⟨g,i*2,none⟩) (n - i) (c - i)) (by simp [Act.eval,Act.put]) (by simp [Act.eval,Act.put]) hr2 ?_)
 go_wp2
 go_ret;exact⟨⟨_,_,rfl,H.out.1⟩,H.out.2⟩
end
end Go.Proofs.YtihdbncoijhihaaGreatDoor
