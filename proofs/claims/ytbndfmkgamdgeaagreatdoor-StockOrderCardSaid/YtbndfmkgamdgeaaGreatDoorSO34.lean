import Derived.Test.YtbndfmkgamdgeaaGreatDoorSO1
import Derived.Test.YtbndfmkgamdgeaaGreatDoorSO2
import Derived.Test.YtbndfmkgamdgeaaGreatDoorSO5
import Derived.Test.YtbndfmkgamdgeaaGreatDoorSO6
import Derived.Test.YtbndfmkgamdgeaaGreatDoorSO7
import Derived.Test.YtbndfmkgamdgeaaGreatDoorSO8
import Derived.Test.YtbndfmkgamdgeaaGreatDoorSO11
import Derived.Test.YtbndfmkgamdgeaaGreatDoorSO13
import Derived.Test.YtbndfmkgamdgeaaGreatDoorSO14
import Derived.Test.YtbndfmkgamdgeaaGreatDoorSO16
import Derived.Test.YtbndfmkgamdgeaaGreatDoorSO17
import Derived.Test.YtbndfmkgamdgeaaGreatDoorSO18
import Derived.Test.YtbndfmkgamdgeaaGreatDoorSO20
import Derived.Test.YtbndfmkgamdgeaaGreatDoorSO21
import Derived.Test.YtbndfmkgamdgeaaGreatDoorSO22
import Derived.Test.YtbndfmkgamdgeaaGreatDoorSO25
import Derived.Test.YtbndfmkgamdgeaaGreatDoorSO28
import Derived.Test.YtbndfmkgamdgeaaGreatDoorSO31
set_option linter.unusedVariables false
set_option linter.unusedSimpArgs false
set_option maxRecDepth 100000
set_option maxHeartbeats 16000000
namespace Go.Proofs.YtbndfmkgamdgeaaGreatDoor
section
open Go.RowKit
section
variable {w w':World} {pf:Nat} {R:Rf} {S:Fs}
end
end
section
open Go.RowKit
section
variable {w w':World} {pf:Nat} {R:Rf} {S:Fs}
end
end
section
open Go.RowKit Go.Shelf
attribute [local go_sem] Oper.semAt_some
theorem run_store_func {P:Program} {w:World} {p:Addr} {m:Mode} (f:Fn) (a b:Array Value):(store p (.func f a b) m).run P w=stored P w p (.func f a b) m:=run_store P w p _ m rfl
attribute [local go_sem] run_store_func
theorem Blk.turnI {T:Nat→Prop} {N B:Nat} {vs:Array Value} {ty:TypeId} {w w':World} (h:Blk w B vs ty) (ht:Turn T N notCells w w') (hT:¬ T B):Blk w' B vs ty:=ht.block B _ h hT (fun _=>rfl)
theorem below_turnI {T:Nat→Prop} {N M:Nat} {w0 w w':World} (h:Below M w0 w) (ht:Turn T N notCells w w') (hN:M≤N) (hT:∀ k,T k→M≤k) (hM:M≤w0.heap.size):Below M w0 w':=by
 refine ⟨ht.os.trans h.os,ht.tape.trans h.tape,ht.output.trans h.output,Nat.le_trans h.size ht.size,fun k hk=>?_⟩;obtain⟨o,ho⟩:∃ o,w0.heap[k]? = some o:=⟨w0.heap[k]'(by omega),Array.getElem?_eq_getElem _⟩;have h1:=(h.block k hk).trans ho;rw [ht.block k o h1 (fun h=>by have:=hT k h;omega) (fun h=>by omega),ho]
theorem wpIn_rangeBk {F:Fence} {n:Nat} {P:Program} {w:World} {α:Type} {T:Nat→Prop} {g:Operand} {ps:Array Tmp} {assign body:Code} {Q:Exit→Act→World→Prop} {a:Act} {id:Nat}
  (hro:F.round=none) (h1:1≤n) {gf:Nat} {lb:Array Value} (hg:a.eval g=.func (.func gf) #[] lb) (hFg:F.fn gf) (eg:∀ args w,(callFunc gf args).run P w=.ok (.enter gf args) w)
  {encs:α→Array Value} {S Sp:List α→Prop} {V:List α→α→Prop} {w0:World} (hseq:SeqT T F (n - 1) P gf lb encs S Sp V w0)
  (hT:∀ k,T k→k<w.heap.size) (hb0:KT T w0 w) (hps:∀ x,(encs x).size=ps.size)
  (I J:List α→World→Prop) (hI:AbT T w.heap.size notCells I) (hJ:AbT T w.heap.size notCells J) (h0:I [] w) (a₁:α→Act)
  (hassign:∀ (l:Nat) (x:α) (W:World) (K:Act→World→Prop),K (a₁ x) W→
   assign.wpIn (F.inRound l) (n - 1 - 1) P (Exit.then K (fun _ _ _=>False)) {tmps:=(ps.zip (encs x)).foldl (fun t (p,v)=>t.setIfInBounds p v) a.tmps,defers:=[]} W)
  (hbody:∀ (l:Nat) (pre:List α) (x:α) (W:World),w.heap.size≤l→l<W.heap.size→I pre W→V pre x→body.wpIn (F.inRound l) (n - 1 - 1) P (ownPostG w.heap.size (KT T) I (fun c pre W=>c=.exit id∧J pre W) (pre ++ [x]) W) (a₁ x) W)
  (hend:∀ (D:Nat) (W:World),w.heap.size≤D→((∃ xs,S xs∧I xs W)∨(∃ pre,Sp pre∧J pre W))→W.heap[D]? = some (.deferred (some []))→Q .normal {a with defers:={target:=.collected D,args:=#[]} :: a.defers} W) :
  (Code.rangeFunc g ps assign body).wpIn F n P (Exit.inBlock id Q) a w:=
 wpIn_rangeT hro h1 hg hFg eg hseq hT hb0 hps I (fun c pre W=>c=.exit id∧J pre W) hI (fun c s A B h ht=>⟨h.1,hJ s A B h.2 ht⟩) h0 a₁ hassign hbody
  (fun D xs W hD hs hi hk=>hend D W hD (.inl ⟨xs,hs,hi⟩) hk)
  (fun D c pre W hD hs hj hk=>by
   obtain⟨rfl,hj⟩:=hj;refine wpIn_exit ?_;show (if id=id then _ else _);rw [if_pos rfl];exact hend D W hD (.inr ⟨pre,hs,hj⟩) hk)
theorem ii_ret {r:ByteArray×Int×Int} {tmps:Array Value} {w W:World} {D:Nat} (v:Value×Value×Value) (hK:W.heap[D]? = some (.deferred (some []))) (hb:Below w.heap.size w W) (hD:w.heap.size≤D)
  (h2:tmps.getD 2 undef=v.1) (h3:tmps.getD 3 undef=v.2.1) (h4:tmps.getD 4 undef=v.2.2) (hv:v=(.string r.1,.int .i64 r.2.1,.int .i64 r.2.2)) :
  Exit.noGoto (bodyPostM Fence.wide 5 Tryz.prog Tryz.f77 fun e w'=>e=.returned (.tuple #[.string r.1,.int .i64 r.2.1,.int .i64 r.2.2])∧Below w.heap.size w w') .ret {tmps,defers:=[{target:=.collected D,args:=#[]}]} W:=by
 subst hv;rw [Array.getD_eq_getD_getElem?] at h2 h3 h4;show LeavesInM Fence.wide 5 Tryz.prog Tryz.f77 _ _ _ _ W;refine ⟨by simp,.inl ⟨_,_,rfl,run_takeDeferred hK,?_⟩⟩;refine ⟨.tuple #[.string r.1,.int .i64 r.2.1,.int .i64 r.2.2],?_,rfl,⟨hb.os,hb.tape,hb.output,Nat.le_trans hb.size (by simp),fun k hk=>(World.putObj_heap_other (fun e=>by omega)).trans (hb.block k hk)⟩⟩;simp [results,Tryz.results77,go_sem,h2,h3,h4]
structure II (w:World) (h:Nat) (q:Rd) (W:World):Prop where
 rd:Blk W h (rdC q) 229
 fn:Blk W (h+1) #[.func (.func 125) #[.pointer (some ⟨h,0,none⟩)] #[]] 120
 hB:Below w.heap.size w W
theorem iparse_any (s:ByteArray) (w:World) (hs:s.size≤2000000) :
  Calls Tryz.prog 77 #[.string s] w fun e w'=>e=.returned (.tuple #[.string (infoP s.data.toList).1,.int .i64 (infoP s.data.toList).2.1,.int .i64 (infoP s.data.toList).2.2])∧Below w.heap.size w w':=by
 obtain⟨l,rfl⟩:∃ l,s=str l:=⟨_,(str_of s).symm⟩;rw [str_list];rw [str_size] at hs;have q0:=(Blk.new w (rdC Rd.zero) 229).old (.cells #[.func (.func 125) #[.pointer (some ⟨w.heap.size,0,none⟩)] #[]] 120);have q1:=Blk.new (w.alloc (.cells (rdC Rd.zero) 229)) #[.func (.func 125) #[.pointer (some ⟨w.heap.size,0,none⟩)] #[]] 120;have hB0:Below w.heap.size w ((w.alloc (.cells (rdC Rd.zero) 229)).alloc (.cells #[.func (.func 125) #[.pointer (some ⟨w.heap.size,0,none⟩)] #[]] 120)):=balloc (balloc (Below.refl _ _) _) _;have hsz:((w.alloc (.cells (rdC Rd.zero) 229)).alloc (.cells #[.func (.func 125) #[.pointer (some ⟨w.heap.size,0,none⟩)] #[]] 120)).heap.size=w.heap.size+2:=by simp
 simp only [World.size_alloc] at q1;refine (callsIn_wide (n:=5)).1 ?_;refine callsIn_of_wp_marks Tryz.func77 rfl trivial ?_ rfl;simp only [Tryz.ntmps77,List.size_toArray,List.length_cons,List.length_nil,Nat.reduceAdd,Nat.reduceSub,Array.replicate_succ,Array.replicate_zero,List.push_toArray,List.append_toArray,List.nil_append,List.cons_append];refine wpIn_wide.2 ?_;go_wp2_with fail;refine wp_scope_straight ?_;have hSq:=seq_any (str l) (ByteArray.mk #[10]) ((w.alloc (.cells (rdC Rd.zero) 229)).alloc (.cells #[.func (.func 125) #[.pointer (some ⟨w.heap.size,0,none⟩)] #[]] 120));rw [hsz] at hSq;have HSq:=Lib.hid hSq;have H0:=Lib.hid (show II w w.heap.size Rd.zero _ from ⟨q0,q1,hB0⟩);clear hSq q0 q1 hB0;go_wp2_with fail;go_step3;go_wp2_with fail;refine HSq.out.mono ?_;rintro e W1 ⟨rfl,s0,s1,s2,hB1,hz1⟩;unfold seqV;have HI1:=Lib.hid (show II w w.heap.size Rd.zero W1 from ⟨H0.out.rd.keepB hB1 (by omega),H0.out.fn.keepB hB1 (by omega),H0.out.hB.trans (hB1.mono (by omega))⟩);have HS:=Lib.hid (And.intro s0 (And.intro s1 s2));clear s0 s1 s2 hB1;go_wp2_with fail;refine (wpIn_wide (n:=5)).1 ?_;refine' wpIn_rangeBk (T:=fun k=>k=w.heap.size+2∨k=w.heap.size+2+1∨k=w.heap.size+2+2) rfl (by omega) (gf:=228) (lb:=#[.pointer (some ⟨w.heap.size+2+1,0,none⟩),.pointer (some ⟨w.heap.size+2,0,none⟩),.pointer (some ⟨w.heap.size+2+2,0,none⟩)]) rfl trivial (enters_of Tryz.func228 (by kernel_rfl) rfl)
  (split_stops (5 - 1) (by omega) 10 (w.heap.size+2) (w.heap.size+2+1) (w.heap.size+2+2) (by omega) (by omega) l hs W1 HS.out.1 HS.out.2.1 HS.out.2.2) (fun k hk=>by omega) (KT.refl _ _) (fun _=>rfl)
  (fun pre W=>∃ q,Rd.zero.pre pre=some q∧II w w.heap.size q W)
  (fun _ W=>II w w.heap.size (Rd.zero.lines (spl 10 l)) W)
  (fun pre A B h ht=>?own) (fun pre A B h ht=>?ownx) ⟨_,rfl,HI1.out⟩ _ ?assign ?body ?done
 case own=>
  obtain⟨q,hq,h⟩:=h;exact⟨q,hq,h.rd.turnI ht (by omega),h.fn.turnI ht (by omega),below_turnI h.hB ht (by omega) (fun k e=>by omega) (Nat.le_refl _)⟩
 case ownx=>exact ⟨h.rd.turnI ht (by omega),h.fn.turnI ht (by omega),below_turnI h.hB ht (by omega) (fun k e=>by omega) (Nat.le_refl _)⟩
 case assign=>
  intro L x W K hK;gi_wp2;exact hK
 case body=>
  rintro L pre x W hL hLW ⟨q,hq,hI⟩ hN;have hxl:x.length≤2000000:=Nat.le_trans (spl_size 10 l x (hN.subset (by simp))) hs;have hok:=ROk.pre (m:=2000000) (ROk.zero _) (fun t ht=>Nat.le_trans (spl_size 10 l t (hN.subset (by simp [ht]))) hs) hq;have hpl:pre.length≤2000001:=by
   have h1:=hN.length_le;have h2:=(spl_len 10 l).2;rw [List.length_append,List.length_singleton] at h1;omega
  rw [Nat.zero_add] at hok;have HL:=Lib.hid (iline_any q w.heap.size x W hI.rd hxl ⟨hok.p0.1,by have:=hok.p0.2;omega⟩ ⟨hok.d0.1,by have:=hok.d0.2;omega⟩);have HI:=Lib.hid hI;have HQ:=Lib.hid (show Rd.zero.pre (pre ++ [x])=if (q.line x).2=true then some (q.line x).1 else none by rw [Rd.pre_snoc,hq];rfl);have HX:=Lib.hid (show (q.line x).2=false→Rd.zero.lines (spl 10 l)=(q.line x).1 from fun hf=>by
   obtain⟨r,hr⟩:=hN;rw [←hr,List.append_assoc,Rd.lines_pre _ hq];show (if (q.line x).2=true then _ else _)=_;rw [if_neg (by rw [hf];decide)])
  obtain⟨fc,ff,fz⟩:=hI.fn.facts;generalize q.line x=rx at HL HQ HX;obtain⟨q2,b⟩:=rx;dsimp only at HL HQ HX;clear hI hN hq hok;have keep:∀ (q':Rd) W',Blk W' w.heap.size (rdC q') 229→Mod (fun k=>k=w.heap.size) W W'→KeepsFrom W1.heap.size W W'∧KT (fun k=>k=w.heap.size+2∨k=w.heap.size+2+1∨k=w.heap.size+2+2) W W'∧II w w.heap.size q' W':=fun q' W' h1 h2=>by
   have hW:=HI.out.hB.size;refine ⟨⟨h2.size,fun k o hB hk _=>(h2.block k (Array.getElem?_eq_some_iff.1 hk).1 (fun e=>by omega)).trans hk⟩,KT.of_mod h2 (fun k hk=>by omega) (fun k hk=>by omega),h1,HI.out.fn.mod h2 (by omega),HI.out.hB.trans (h2.below (fun k hk=>by omega) (by omega))⟩
  have HK:=Lib.hid keep;clear keep;gi_wp2;refine ⟨trivial,?_⟩;refine (callsIn_wide.2 HL.out).mono ?_;rintro e W2 ⟨rfl,hr,hm⟩;have HR:=Lib.hid (HK.out _ _ hr hm);clear hr hm
  cases b with
  | true=>
   have HQ2:=Lib.hid (HQ.out.trans (if_pos rfl));gi_wp2;exact⟨HR.out.1,HR.out.2.1,q2,HQ2.out,HR.out.2.2⟩
  | false=>
   have HX2:=Lib.hid (HX.out rfl);gi_wp2;exact⟨HR.out.1,rfl,by rw [HX2.out];exact HR.out.2.2⟩
 case done=>
  intro D W hD hS hK;obtain⟨q,hq,hI⟩:∃ q,Rd.zero.lines (spl 10 l)=q∧II w w.heap.size q W:=by
   rcases hS with ⟨xs,rfl,q,hq,hI⟩|⟨pre,-,hI⟩
   ·refine ⟨q,?_,hI⟩;have:=Rd.lines_pre [] hq;rw [List.append_nil] at this;exact this
   ·exact ⟨_,rfl,hI⟩
  have hlq:q.path.length≤2000000∧q.day.length≤2000000:=by
   rw [←hq];exact Rd.lines_len (ROk.zero _) (fun t ht=>Nat.le_trans (spl_size 10 l t ht) hs)
  obtain⟨r,hr⟩:∃ r,r=infoP l:=⟨_,rfl⟩;have HE:=Lib.hid (show r=endI q by rw [hr];unfold infoP;rw [hq]);have hb5:=hI.rd.facts;unfold rdC at hb5;obtain⟨bc,bf,bz⟩:=hb5;have HI:=Lib.hid hI;have HDe:=Lib.hid (fun w=>decode_any (str q.path) w (by rw [str_size];exact hlq.1));have HDt:=Lib.hid (fun w=>dparse_any (str q.day) w (by rw [str_size];omega));rw [str_list] at HDe HDt;have HK:=Lib.hid hK;clear hI hK hS hlq;by_cases h0:q.paths=0
  ·have HR:=Lib.hid (show r=(ByteArray.empty,0,2) by rw [HE.out];unfold endI;rw [if_pos h0]);have h0b:(q.paths == 0)=true:=by simpa using h0
   clear h0;go_wp2_with fail;refine ii_ret (r:=infoP l) (_,_,_) HK.out HI.out.hB (by omega) rfl rfl rfl ?_;rw [←hr,HR.out]
   try rfl
  ·have h0b:(q.paths == 0)=false:=by simpa using h0
   go_wp2_with fail;refine (HDe.out _).mono ?_;rintro e W2 ⟨rfl,hb2⟩;have k2:=HI.out.rd.keep hb2;have HB2:=Lib.hid (bnext HI.out.hB hb2);have HK2:=Lib.hid ((hb2.block D (Array.getElem?_eq_some_iff.1 HK.out).1).trans HK.out);have K2:=Lib.hid k2;clear bc bf bz k2 hb2;have hb5:=K2.out.facts;unfold rdC at hb5;obtain⟨bc,bf,bz⟩:=hb5
   cases hdec:decP q.path with
   | none=>
    have HR:=Lib.hid (show r=(ByteArray.empty,0,2) by rw [HE.out];unfold endI;rw [if_neg h0,hdec]);unfold decRes;clear hdec h0;go_wp2_with fail;refine ii_ret (r:=infoP l) (_,_,_) HK2.out HB2.out (by omega) rfl rfl rfl ?_;rw [←hr,HR.out]
    try rfl
   | some p=>
    have HR:=Lib.hid (show r=if p=[]∨(0:UInt8)∈p then (ByteArray.empty,0,2) else (str p,if (dateP q.day).2≠0 then -1 else (dateP q.day).1,0) by rw [HE.out];unfold endI;rw [if_neg h0,hdec]);have hpl:(str p).toList=p:=by rw [ba_list,str_list]
    have HC:=Lib.hid (contains_any (str p));have hhb:hasB (str p) 0=decide ((0:UInt8)∈p):=by unfold hasB;rw [str_list]
    rw [hhb] at HC;unfold decRes;clear hdec h0 hhb;by_cases hp:p=[]
    ·have HR2:=Lib.hid (HR.out.trans (if_pos (.inl hp)));have hpe:(str p).toList=[]:=by rw [hpl,hp]
     clear hp hpl;go_wp2_with fail;refine ii_ret (r:=infoP l) (_,_,_) HK2.out HB2.out (by omega) rfl rfl rfl ?_;rw [←hr,HR2.out]
     try rfl
    ·have hpe:¬ (str p).toList=[]:=by rw [hpl];exact hp
     have hpe2:(str p).toList.isEmpty=false:=by simpa using hpe
     by_cases hz:(0:UInt8)∈p
     ·have HR2:=Lib.hid (HR.out.trans (if_pos (.inr hz)));rw [decide_eq_true hz] at HC;clear hp hpl hz;go_wp2_with fail;refine (HC.out _).mono ?_;rintro e W3 ⟨rfl,rfl⟩;go_wp2_with fail;refine ii_ret (r:=infoP l) (_,_,_) HK2.out HB2.out (by omega) rfl rfl rfl ?_;rw [←hr,HR2.out]
      try rfl
     ·have HR2:=Lib.hid (HR.out.trans (if_neg (fun e=>e.elim hp hz)));rw [decide_eq_false hz] at HC;generalize dateP q.day=dp at HDt HR2;obtain⟨day,de⟩:=dp;dsimp only at HDt HR2;clear hp hpl hz;go_wp2_with fail;refine (HC.out _).mono ?_;rintro e W3 ⟨rfl,rfl⟩;go_wp2_with fail;refine (HDt.out _).mono ?_;rintro e W4 ⟨rfl,hb4⟩;have HB4:=Lib.hid (bnext HB2.out hb4);have HK4:=Lib.hid ((hb4.block D (Array.getElem?_eq_some_iff.1 HK2.out).1).trans HK2.out);clear hb4 bc bf bz;by_cases hde:de=0
      ·have HR3:=Lib.hid (show r=(str p,day,0) by rw [HR2.out,if_neg (by simpa using hde)]);have hdb:(de != 0)=false:=by simpa using hde
       clear hde;go_wp2_with fail;refine ii_ret (r:=infoP l) (_,_,_) HK4.out HB4.out (by omega) rfl rfl rfl ?_;rw [←hr,HR3.out]
       try rfl
      ·have HR3:=Lib.hid (show r=(str p,-1,0) by rw [HR2.out,if_pos hde]);have hdb:(de != 0)=true:=by simpa using hde
       clear hde;go_wp2_with fail;refine ii_ret (r:=infoP l) (_,_,_) HK4.out HB4.out (by omega) rfl rfl rfl ?_;rw [←hr,HR3.out]
       try rfl
end
section
open Go.RowKit Go.Sort
theorem isnanI_any (a:Int) (w:World):Calls Tryz.prog 44 #[.int .i64 a] w fun e w'=>e=.returned (.bool false)∧w=w':=by
 go_enter Tryz.func44,Tryz.ntmps44;go_wp2_with fail;go_ret;exact⟨by simp,rfl⟩
theorem isnanS_any (a:ByteArray) (w:World):Calls Tryz.prog 45 #[.string a] w fun e w'=>e=.returned (.bool false)∧w=w':=by
 go_enter Tryz.func45,Tryz.ntmps45;go_wp2_with fail;go_ret;exact⟨by simp,rfl⟩
theorem cmpI_any (a b:Int) (w:World):Calls Tryz.prog 20 #[.int .i64 a,.int .i64 b] w fun e w'=>e=.returned (.int .i64 (cmpI a b))∧w=w':=by
 have HN:=Lib.hid isnanI_any;by_cases h1:a<b
 ·have HE:=Lib.hid (show cmpI a b=-1 by unfold cmpI;rw [if_pos h1]);go_enter Tryz.func20,Tryz.ntmps20;go_wp2_with fail;refine (HN.out _ _).mono ?_;rintro e w1 ⟨rfl,rfl⟩;go_wp2_with fail;refine (HN.out _ _).mono ?_;rintro e w1 ⟨rfl,rfl⟩;go_wp2_with fail;go_ret;exact⟨by rw [HE.out];rfl,rfl⟩
 ·by_cases h2:b<a
  ·have HE:=Lib.hid (show cmpI a b=1 by unfold cmpI;rw [if_neg h1,if_pos h2]);go_enter Tryz.func20,Tryz.ntmps20;go_wp2_with fail;refine (HN.out _ _).mono ?_;rintro e w1 ⟨rfl,rfl⟩;go_wp2_with fail;refine (HN.out _ _).mono ?_;rintro e w1 ⟨rfl,rfl⟩;go_wp2_with fail;go_ret;exact⟨by rw [HE.out];rfl,rfl⟩
  ·have HE:=Lib.hid (show cmpI a b=0 by unfold cmpI;rw [if_neg h1,if_neg h2]);go_enter Tryz.func20,Tryz.ntmps20;go_wp2_with fail;refine (HN.out _ _).mono ?_;rintro e w1 ⟨rfl,rfl⟩;go_wp2_with fail;refine (HN.out _ _).mono ?_;rintro e w1 ⟨rfl,rfl⟩;go_wp2_with fail;go_ret;exact⟨by rw [HE.out];rfl,rfl⟩
theorem lss_cases (a b:ByteArray):(Op.bytesLess a.toList b.toList=true∧cmpS a b=-1)∨(Op.bytesLess a.toList b.toList=false∧(a.toList == b.toList)=false∧cmpS a b=1)∨(Op.bytesLess a.toList b.toList=false∧(a.toList == b.toList)=true∧cmpS a b=0):=by
 unfold cmpS;rw [ltB_mk,ba_beq]
 cases h1:ltB a b with
 | true=>exact .inl ⟨rfl,rfl⟩
 | false=>
  right
  cases h2:ltB b a with
  | true=>exact .inl ⟨rfl,decide_eq_false (fun e=>by rw [e,ltB_irrefl] at h2;cases h2),rfl⟩
  | false=>exact .inr ⟨rfl,decide_eq_true (ltB_total h1 h2),rfl⟩
theorem cmpS_any (a b:ByteArray) (w:World):Calls Tryz.prog 21 #[.string a,.string b] w fun e w'=>e=.returned (.int .i64 (cmpS a b))∧w=w':=by
 have HN:=Lib.hid isnanS_any;have key:=lss_cases a b;generalize cmpS a b=r at key ⊢;rcases key with ⟨h1,rfl⟩|⟨h1,h2,rfl⟩|⟨h1,h2,rfl⟩
 all_goals
  go_enter Tryz.func21,Tryz.ntmps21;go_wp2_with fail;refine (HN.out _ _).mono ?_;rintro e w1 ⟨rfl,rfl⟩;go_wp2_with fail;refine (HN.out _ _).mono ?_;rintro e w1 ⟨rfl,rfl⟩;go_wp2_with fail;go_ret;exact⟨rfl,rfl⟩
def orL:List Int→Int
 | []=>0
 | x :: l=>if x≠0 then x else orL l
theorem orL_4 (a b c d:Int):orL [a,b,c,d]=orI a (orI b (orI c d)):=by
 unfold orI orL orL orL orL orL;by_cases hd:d=0 <;> simp [hd]
theorem or_any (b c:Nat) (xs:List Int) (w:World) (hl:xs.length≤1000000) (hx:∀ i (h:i<xs.length),w.cell? ⟨b,i,none⟩=some (.int .i64 xs[i])) :
  Calls Tryz.prog 19 #[.slice (some ⟨b,0,none⟩) xs.length c] w fun e w'=>e=.returned (.int .i64 (orL xs))∧w=w':=by
 have HX:=Lib.hid hx;clear hx;go_enter Tryz.func19,Tryz.ntmps19;go_wp2_with fail
 go_loopw [8] (fun t8 wr=>∃ k:Nat,k≤xs.length∧t8=.int .i64 k∧orL xs=orL (xs.drop k)∧wr=w) (fun t8 _=>xs.length - (intOf t8).toNat)
 case atStart=>exact ⟨0,Nat.zero_le _,rfl,rfl,rfl⟩
 case round=>
  obtain⟨k,hk,rfl,hfin,rfl⟩:=hrel;have HF:=Lib.hid hfin;clear hfin;by_cases hlt:k<xs.length
  ·have hc:=HX.out k hlt;have HS:=Lib.hid (show orL (xs.drop k)=if xs[k]≠0 then xs[k] else orL (xs.drop (k+1)) by rw [List.drop_eq_getElem_cons hlt];rfl);generalize xs[k]=x at hc HS;by_cases hz:x=0
   ·have hz':(x != 0)=false:=by simpa using hz
    have HG:=Lib.hid (HF.out.trans (HS.out.trans (if_neg (by simpa using hz))));clear hz;go_wp2_with fail;go_roundw
    case measure=>simp [intOf];omega
    case rel=>exact ⟨k+1,by omega,by go_num,HG.out,by first | rfl | trivial⟩
   ·have hz':(x != 0)=true:=by simpa using hz
    have HG:=Lib.hid (HF.out.trans (HS.out.trans (if_pos hz)));clear hz;go_wp2_with fail;go_ret;exact⟨by rw [HG.out];rfl,rfl⟩
  ·have HG:=Lib.hid (HF.out.trans (show orL (xs.drop k)=0 by rw [List.drop_eq_nil_of_le (by omega)];rfl));go_wp2_with fail;go_ret;exact⟨by rw [HG.out];rfl,rfl⟩
theorem grow_of {w w':World} (h:Below w.heap.size w w') (hd:w.drawn≤w'.drawn):∃ q os,w'=Go.Sort.grow (w.drewN q) os:=by
 refine ⟨w'.drawn - w.drawn,w'.heap.extract w.heap.size w'.heap.size,?_⟩;have hh:w'.heap=w.heap ++ w'.heap.extract w.heap.size w'.heap.size:=by
  refine Array.ext_getElem? fun i=>?_;by_cases hi:i<w.heap.size
  ·rw [h.block i hi,Array.getElem?_append_left hi]
  ·rw [Array.getElem?_append_right (by omega),Array.getElem?_extract];have:=h.size;by_cases h2:i<w'.heap.size
   ·rw [if_pos (by omega)];congr 1;omega
   ·rw [if_neg (by omega),Array.getElem?_eq_none (by omega)]
 have h1:=h.os;have h2:=h.tape;have h3:=h.output;obtain⟨a,b,c,d,e⟩:=w;obtain⟨a',b',c',d',e'⟩:=w';simp only at h1 h2 h3 hh hd;subst h1 h2 h3;unfold Go.Sort.grow World.drewN;simp only;rw [←hh];congr 1;omega
theorem or_new (a b c d:Int) (w:World):Calls Tryz.prog 19 #[.slice (some ⟨w.heap.size,0,none⟩) 4 4] (w.alloc (.cells #[.int .i64 a,.int .i64 b,.int .i64 c,.int .i64 d] 3)).drew fun e w'=>e=.returned (.int .i64 (orL [a,b,c,d]))∧(w.alloc (.cells #[.int .i64 a,.int .i64 b,.int .i64 c,.int .i64 d] 3)).drew=w':=by
 have h:=(Blk.new w #[.int .i64 a,.int .i64 b,.int .i64 c,.int .i64 d] 3).drew;refine or_any w.heap.size 4 [a,b,c,d] _ (by simp) (fun i hi=>?_);have hi4:i<4:=hi;rcases (by omega:i=0∨i=1∨i=2∨i=3) with rfl | rfl | rfl | rfl
 ·exact h.cell 0
 ·exact h.cell 1
 ·exact h.cell 2
 ·exact h.cell 3
theorem keepD_here (W:World):(∀ b o,b<W.heap.size→W.drew.cell? ⟨b,o,none⟩=W.cell? ⟨b,o,none⟩)∧Below W.heap.size W W.drew∧W.drawn≤W.drew.drawn:=⟨fun _ _ _=>rfl,(Below.refl _ _).drew,Nat.le_succ _⟩
theorem keepD_alloc {W p:World} (h:(∀ b o,b<W.heap.size→p.cell? ⟨b,o,none⟩=W.cell? ⟨b,o,none⟩)∧Below W.heap.size W p∧W.drawn≤p.drawn) (o:Obj) :
  (∀ b i,b<W.heap.size→(p.alloc o).cell? ⟨b,i,none⟩=W.cell? ⟨b,i,none⟩)∧Below W.heap.size W (p.alloc o)∧W.drawn≤(p.alloc o).drawn:=
 ⟨(keepS_alloc ⟨h.1,h.2.1⟩ o).1,(keepS_alloc ⟨h.1,h.2.1⟩ o).2,h.2.2⟩
theorem keepD_allocD {W p:World} (h:(∀ b o,b<W.heap.size→p.drew.cell? ⟨b,o,none⟩=W.cell? ⟨b,o,none⟩)∧Below W.heap.size W p.drew∧W.drawn≤p.drew.drawn) (o:Obj) :
  (∀ b i,b<W.heap.size→(p.alloc o).drew.cell? ⟨b,i,none⟩=W.cell? ⟨b,i,none⟩)∧Below W.heap.size W (p.alloc o).drew∧W.drawn≤(p.alloc o).drew.drawn:=keepD_alloc (p:=p.drew) h o
theorem earlier_any (x y:Ey) (w:World):Calls Tryz.prog 5 #[.agg (eyC x).toArray,.agg (eyC y).toArray] w fun e w'=>e=.returned (.int .i64 (earF x y))∧∃ q os,w'=Go.Sort.grow (w.drewN q) os:=by
 obtain⟨x1,x2,x3,x4,x5,x6⟩:=x;obtain⟨y1,y2,y3,y4,y5,y6⟩:=y;unfold eyC;have HI:=Lib.hid cmpI_any;have HS:=Lib.hid cmpS_any;have HE:=Lib.hid (show earF ⟨x1,x2,x3,x4,x5,x6⟩ ⟨y1,y2,y3,y4,y5,y6⟩=orL [cmpI x4 y4,cmpI x2.size y2.size,cmpS x2 y2,cmpS x1 y1] from (orL_4 _ _ _ _).symm);generalize earF ⟨x1,x2,x3,x4,x5,x6⟩ ⟨y1,y2,y3,y4,y5,y6⟩=r at HE ⊢;have HX:=Lib.hid (Blk.new w #[.string x1,.string x2,.string x3,.int .i64 x4,.int .i64 x5,.bool x6] 23);have hB:=balloc (balloc (Below.refl w.heap.size w) (.cells #[.string x1,.string x2,.string x3,.int .i64 x4,.int .i64 x5,.bool x6] 23)) (.cells #[.string y1,.string y2,.string y3,.int .i64 y4,.int .i64 y5,.bool y6] 23);have hXB:=HX.out.old (.cells #[.string y1,.string y2,.string y3,.int .i64 y4,.int .i64 y5,.bool y6] 23);have hYB:=Blk.new (w.alloc (.cells #[.string x1,.string x2,.string x3,.int .i64 x4,.int .i64 x5,.bool x6] 23)) #[.string y1,.string y2,.string y3,.int .i64 y4,.int .i64 y5,.bool y6] 23;rw [World.size_alloc] at hYB;have hdr:w.drawn≤((w.alloc (.cells #[.string x1,.string x2,.string x3,.int .i64 x4,.int .i64 x5,.bool x6] 23)).alloc (.cells #[.string y1,.string y2,.string y3,.int .i64 y4,.int .i64 y5,.bool y6] 23)).drawn:=Nat.le_refl _;have HO:=Lib.hid or_new;go_enter Tryz.func5,Tryz.ntmps5;go_upto_region 1 with fail;generalize (w.alloc (.cells #[.string x1,.string x2,.string x3,.int .i64 x4,.int .i64 x5,.bool x6] 23)).alloc (.cells #[.string y1,.string y2,.string y3,.int .i64 y4,.int .i64 y5,.bool y6] 23)=W at hB hXB hYB hdr ⊢;obtain⟨xc,-,xz⟩:=hXB.facts;obtain⟨yc,-,yz⟩:=hYB.facts;have HB:=Lib.hid hB;have HD:=Lib.hid hdr;clear hB hXB hYB hdr
 go_region_held3 (fun w'=>(∀ b o,b<W.heap.size→w'.cell? ⟨b,o,none⟩=W.cell? ⟨b,o,none⟩)∧Below W.heap.size W w'∧W.drawn≤w'.drawn) (first | with_reducible assumption | with_reducible exact keepD_here _ | with_reducible exact keepD_allocD (by assumption) _)
  ((first
   | (go_at_call 20;((with_reducible refine (HI.out _ _ _).mono ?_);rintro e w4 ⟨rfl,rfl⟩))
   | (go_at_call 21;((with_reducible refine (HS.out _ _ _).mono ?_);rintro e w4 ⟨rfl,rfl⟩))
   | (go_at_call 19;((refine (HO.out _ _ _ _ _).mono ?_);rintro e w4 ⟨rfl,rfl⟩))))
 all_goals
  go_wp2_with fail;go_ret;exact⟨by rw [HE.out];rfl,grow_of (balloc HB.out _).drew (Nat.le_trans HD.out (Nat.le_succ _))⟩
end
section
open Go.RowKit
section
variable {P:Program} {ops:Array Oper} {Q:Exit→Act→World→Prop} {md:Region.Mode} {S:World→Prop}
end
end
section
open Go.RowKit
def bA:ByteArray:=⟨#[47,97]⟩
def bAX:ByteArray:=⟨#[47,97,47,120]⟩
def bBX:ByteArray:=⟨#[47,98,47,120]⟩
def bX:ByteArray:=⟨#[120]⟩
def its22:List It:=[⟨bA,1,448,5,0,9,⟨#[]⟩⟩,⟨bAX,2,0,0,0,0,bX⟩,⟨bBX,2,0,0,0,0,⟨#[]⟩⟩]
def C22:Array Value:=#[.string (ByteArray.mk #[47,97]),.int .i64 1,.int .i64 448,.int .i64 5,.int .i64 0,.int .i64 9,.string (ByteArray.mk #[]),.string (ByteArray.mk #[47,97,47,120]),.int .i64 2,.int .i64 0,.int .i64 0,.int .i64 0,.int .i64 0,.string (ByteArray.mk #[120]),.string (ByteArray.mk #[47,98,47,120]),.int .i64 2,.int .i64 0,.int .i64 0,.int .i64 0,.int .i64 0,.string (ByteArray.mk #[])]
end
section
open Go.RowKit
section
variable {w w':World} {pf:Nat} {R:Rf} {S:Fs}
end
end
section
open Go.RowKit
section
variable {w w':World} {pf:Nat} {R:Rf} {S:Fs}
end
end
section
open Go.RowKit Go.Shelf
attribute [local go_sem] Oper.semAt_some
def few30 (ms:List Mt) (is:List It) (dt pt tx:ByteArray) (pl:List (Int×Int)):Bool:=decide (few22 ms is 30=true∧dt.size≤300∧pt.size≤300∧tx.size≤300∧pl.length≤4)
section
variable {w w':World} {pf pw:Nat} {R:Rp} {pv:Value} {Y:Sy}
end
def nowI (n:Int):Int:=if 0≤n∧n≤253402300799 then n else 0
structure Both30 (w0 w:World) (S:Fs) (nw:Int) (pl:List (Int×Int)) (vp:Value) (p1 q1:Nat) (R1:Rp) (v1:Value) (pf:Nat) (R2:Rf):Prop where
 y:SyAt w p1 q1 R1 v1 ⟨S,nw,0,pl,false⟩
 r:RfAt w pf R2 S
 now:R2.now=nw
 cnt:R2.cnt=.int .i64 0
 plan:R2.pl=vp
 dd:R2.dd=.bool false
 f1:∀ k,R1.Y p1 q1 k→w0.heap.size≤k
 f2:∀ k,R2.F pf k→w0.heap.size≤k
 below:Below w0.heap.size w0 w
end
section
open Go.RowKit
def offTree (o:Obj):Bool:=match o with | .cells ..=>false | .map ..=>false | _=>true
def KeepsV (B:Nat) (W W':World):Prop:=∀ (k:Nat) (o:Obj),B≤k→W.heap[k]? = some o→offTree o=true→W'.heap[k]? = some o
def ownPostV {α:Type} (B:Nat) (Kp:World→World→Prop) (I:List α→World→Prop) (Ix:Code→List α→World→Prop) (xs:List α) (W:World):Exit→Act→World→Prop
 | .normal,_,W'=>KeepsV B W W'∧Kp W W'∧I xs W'
 | .ret,_,W'=>KeepsV B W W'∧Ix .ret xs W'
 | .exit id,_,W'=>KeepsV B W W'∧Ix (.exit id) xs W'
 | .goto t,_,W'=>KeepsV B W W'∧Ix (.goto t) xs W'
 | .panic _,_,_=>False
 | .outgrown,_,_=>False
def SeqV {α:Type} (T:Nat→Prop) (F:Fence) (n:Nat) (P:Program) (g:Nat) (lb:Array Value) (encs:α→Array Value) (S Sp:List α→Prop) (V:List α→α→Prop) (w:World):Prop:=
 ∀ (l:Nat) (J Jx:List α→World→Prop) (W:World),KT T w W→w.heap.size≤W.heap.size→AbT NoT W.heap.size offTree J→AbT NoT W.heap.size offTree Jx→
  (∀ pre x W1,J pre W1→V pre x→YieldAt F (n - 1) P l (encs x) W1 fun e W'=>
   (e=.returned (.bool true)∧J (pre ++ [x]) W'∧KT T W1 W')∨(e=.returned (.bool false)∧Jx (pre ++ [x]) W'))→
  J [] W→
  CallsIn F n P g (#[.func (.yield l) #[] #[]] ++ lb) W fun e W'=>(∃ v,e=.returned v)∧((∃ xs,S xs∧J xs W')∨(∃ pre,Sp pre∧Jx pre W'))
end
section
open Go.RowKit
section
variable {S:Fs} {d:Bool} {u:Us}
theorem addCn_len (l:List Cn) (p:Plc):(S.addCn d u l p).length≤l.length+1:=by
 unfold Fs.addCn putCn
 split
 ·split
  ·omega
  ·simp
 ·omega
theorem addCns_len:∀ (ps:List Plc) (l:List Cn),(ps.foldl (S.addCn d u) l).length≤l.length+ps.length
 | [],l=>Nat.le_refl _
 | p :: ps,l=>by
  rw [List.foldl_cons,List.length_cons];have h1:=addCns_len ps (S.addCn d u l p);have h2:=addCn_len (S:=S) (d:=d) (u:=u) l p;omega
theorem placesF_len (S:Fs) (d:Bool) (u:Us) (top:Int) (path:ByteArray):(S.placesF d u top path).length≤2:=by
 unfold Fs.placesF
 split <;> simp
theorem topCns_len:∀ (ts:List (Int×ByteArray)) (l:List Cn),(ts.foldl (S.topCn d u) l).length≤l.length+2*ts.length
 | [],l=>Nat.le_refl _
 | t :: ts,l=>by
  rw [List.foldl_cons,List.length_cons];have h1:=topCns_len ts (S.topCn d u l t);have h2:(S.topCn d u l t).length≤l.length+2:=Nat.le_trans (addCns_len _ l) (Nat.add_le_add_left (placesF_len S d u t.1 t.2) _);omega
end
theorem take_snoc {α:Type} (l:List α) (k:Nat) (hk:k<l.length):l.take (k+1)=l.take k ++ [l[k]]:=by
 rw [List.take_add_one,List.getElem?_eq_getElem hk];rfl
section
variable {w w':World} {pf:Nat} {R:Rf} {S:Fs}
end
end
section
open Go.RowKit
end
section
open Go.RowKit Go.Shelf Go.Sort
theorem ahead_any (x y:Ey) (w:World):Calls Tryz.prog 6 #[.agg #[.string x.can,.string x.name,.string x.path,.int .i64 x.date,.int .i64 x.size,.bool x.good],.agg #[.string y.can,.string y.name,.string y.path,.int .i64 y.date,.int .i64 y.size,.bool y.good]] w fun e w'=>e=.returned (.bool (aheadB x y))∧Below w.heap.size w w':=by
 obtain⟨x1,x2,x3,x4,x5,x6⟩:=x;obtain⟨y1,y2,y3,y4,y5,y6⟩:=y;have HE:=Lib.hid (show aheadB ⟨x1,x2,x3,x4,x5,x6⟩ ⟨y1,y2,y3,y4,y5,y6⟩=if x4≠y4 then decide (x4<y4) else if x2.size≠y2.size then decide (x2.size<y2.size) else if x2≠y2 then ltB x2 y2 else ltB x1 y1 from rfl);generalize aheadB ⟨x1,x2,x3,x4,x5,x6⟩ ⟨y1,y2,y3,y4,y5,y6⟩=r at HE ⊢;by_cases h4:x4=y4
 ·have h4':(x4 != y4)=false:=by simpa using h4
  have HE1:=Lib.hid (HE.out.trans (if_neg (by simpa using h4)));clear h4;by_cases h2:x2.size=y2.size
  ·have h2':((x2.size:Int) != (y2.size:Int))=false:=by rw [h2];simp
   have HE2:=Lib.hid (HE1.out.trans (if_neg (by simpa using h2)));clear h2;by_cases h3:x2=y2
   ·have HE3:=Lib.hid (HE2.out.trans (if_neg (by simpa using h3)));subst h3;go_enter Tryz.func6,Tryz.ntmps6;go_wp2_with fail;go_ret;exact⟨by rw [HE3.out,←ltB_mk];rfl,balloc (balloc (Below.refl _ _) _) _⟩
   ·have h3b:(x2.toList == y2.toList)=false:=by rw [ba_beq];exact decide_eq_false h3
    have h3':¬ x2.toList=y2.toList:=fun h=>h3 (by have:=ba_beq x2 y2;rw [h] at this;simpa using this.symm);have HE3:=Lib.hid (HE2.out.trans (if_pos h3));clear h3;go_enter Tryz.func6,Tryz.ntmps6;go_wp2_with fail;go_ret;exact⟨by rw [HE3.out,←ltB_mk];rfl,balloc (balloc (Below.refl _ _) _) _⟩
  ·have h2':((x2.size:Int) != (y2.size:Int))=true:=by rw [bne_iff_ne];omega
   have HE2:=Lib.hid (HE1.out.trans (if_pos h2));have HD:=Lib.hid (show decide ((x2.size:Int)<(y2.size:Int))=decide (x2.size<y2.size) by simp);clear h2;go_enter Tryz.func6,Tryz.ntmps6;go_wp2_with fail;go_ret;exact⟨by rw [HE2.out,←HD.out];rfl,balloc (balloc (Below.refl _ _) _) _⟩
 ·have h4':(x4 != y4)=true:=by simpa using h4
  have HE1:=Lib.hid (HE.out.trans (if_pos h4));clear h4;go_enter Tryz.func6,Tryz.ntmps6;go_wp2_with fail;go_ret;exact⟨by rw [HE1.out];rfl,balloc (balloc (Below.refl _ _) _) _⟩
end
end Go.Proofs.YtbndfmkgamdgeaaGreatDoor
