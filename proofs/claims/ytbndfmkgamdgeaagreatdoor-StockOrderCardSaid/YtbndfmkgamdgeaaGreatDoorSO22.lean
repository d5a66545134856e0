import Derived.Test.YtbndfmkgamdgeaaGreatDoorSO1
import Derived.Test.YtbndfmkgamdgeaaGreatDoorSO2
import Derived.Test.YtbndfmkgamdgeaaGreatDoorSO5
import Derived.Test.YtbndfmkgamdgeaaGreatDoorSO7
import Derived.Test.YtbndfmkgamdgeaaGreatDoorSO8
import Derived.Test.YtbndfmkgamdgeaaGreatDoorSO10
import Derived.Test.YtbndfmkgamdgeaaGreatDoorSO11
import Derived.Test.YtbndfmkgamdgeaaGreatDoorSO12
import Derived.Test.YtbndfmkgamdgeaaGreatDoorSO13
import Derived.Test.YtbndfmkgamdgeaaGreatDoorSO16
import Derived.Test.YtbndfmkgamdgeaaGreatDoorSO17
import Derived.Test.YtbndfmkgamdgeaaGreatDoorSO18
import Derived.Test.YtbndfmkgamdgeaaGreatDoorSO21
set_option linter.unusedVariables false
set_option linter.unusedSimpArgs false
set_option maxRecDepth 100000
set_option maxHeartbeats 16000000
namespace Go.Proofs.YtbndfmkgamdgeaaGreatDoor
section
open Go.RowKit
section
variable {w w':World} {pf:Nat} {R:Rf} {S:Fs}
end
end
section
open Go.RowKit
section
variable {w w':World} {pf:Nat} {R:Rf} {S:Fs}
end
end
section
open Go.RowKit Go.Shelf
attribute [local go_sem] Oper.semAt_some
theorem prefix_whole (l:List UInt8):Lib.hasPrefix l [47]=wholeB l:=by
 cases l with
 | nil=>rfl
 | cons x l=>
  unfold wholeB Lib.hasPrefix;simp [List.isPrefixOf,BEq.comm]
theorem blkc_turn {T:Nat→Prop} {N B:Nat} {vs:Array Value} {ty:TypeId} {w w':World} (h:Blk w B vs ty) (ht:Turn T N notCells w w') (hT:¬ T B):Blk w' B vs ty:=ht.block B _ h hT (fun _=>rfl)
theorem belowc_turn {T:Nat→Prop} {N M:Nat} {w0 w w':World} (h:Below M w0 w) (ht:Turn T N notCells w w') (hN:M≤N) (hT:∀ k,T k→M≤k) (hM:M≤w0.heap.size):Below M w0 w':=by
 refine ⟨ht.os.trans h.os,ht.tape.trans h.tape,ht.output.trans h.output,Nat.le_trans h.size ht.size,fun k hk=>?_⟩;obtain⟨o,ho⟩:∃ o,w0.heap[k]? = some o:=⟨w0.heap[k]'(by omega),Array.getElem?_eq_getElem _⟩;have h1:=(h.block k hk).trans ho;rw [ht.block k o h1 (fun h=>by have:=hT k h;omega) (fun h=>by omega),ho]
structure CC (w:World) (base:Nat) (wh:Bool) (pre:List (List UInt8)) (W:World):Prop where
 whole:Blk W w.heap.size #[.bool wh] 4
 box:∃ v,Blk W (w.heap.size+1) #[v] 201∧OS W base v (clL wh pre)
 below:Below w.heap.size w W
theorem cc_put {w W1 W W':World} {wh:Bool} {pre:List (List UInt8)} {x:List UInt8} (hz:W1.heap.size=w.heap.size+3) (hW:W1.heap.size≤W.heap.size) (hK:KeepsOthers W W') (hb:Below W1.heap.size W W')
  (b3:Blk W w.heap.size #[.bool wh] 4) (v0 v:Value) (b4:Blk W (w.heap.size+1) #[v0] 201) (hB:Below w.heap.size w W) (hO:OS W' W1.heap.size v (clL wh (pre ++ [x]))) :
  KeepsFrom W1.heap.size W (W'.setCell ⟨w.heap.size+1,0,none⟩ v)∧KT (fun k=>k=w.heap.size+2) W (W'.setCell ⟨w.heap.size+1,0,none⟩ v)∧CC w W1.heap.size wh (pre ++ [x]) (W'.setCell ⟨w.heap.size+1,0,none⟩ v):=by
 have hm:Mod (fun k=>k=w.heap.size+1) W' (W'.setCell ⟨w.heap.size+1,0,none⟩ v):=(Mod.refl (fun k=>k=w.heap.size+1) W').setCell (a:=⟨w.heap.size+1,0,none⟩) (.inl rfl) v;refine ⟨(hK.trans (KeepsOthers.setCell _ _ _)).from _,⟨Nat.le_trans hb.size hm.size,fun k hk=>?_⟩,?_,⟨v,?_,?_⟩,?_⟩
 ·subst hk;rw [hm.block _ (by have:=hb.size;omega) (by omega),hb.block _ (by omega)]
 ·exact (b3.keepB hb (by omega)).setOther _ _ (by simp)
 ·exact (b4.keepB hb (by omega)).set 0 v
 ·exact own_mod hO hm (fun k hk he=>by
   have:=(own_obj1 hO he).1;omega)
 ·exact (hB.trans (hb.mono (by omega))).setCell (show w.heap.size≤w.heap.size+1 by omega) v
theorem cc_same {w W1 W:World} {wh:Bool} {pre:List (List UInt8)} {x:List UInt8} (h:CC w W1.heap.size wh pre W) (hs:clL wh (pre ++ [x])=clL wh pre) :
  KeepsFrom W1.heap.size W W∧KT (fun k=>k=w.heap.size+2) W W∧CC w W1.heap.size wh (pre ++ [x]) W:=
 ⟨(KeepsOthers.refl W).from _,KT.refl _ _,h.whole,by rw [hs];exact h.box,h.below⟩
theorem map_str_list (l:List (List UInt8)):(l.map str).map (·.data.toList)=l:=by
 rw [List.map_map]
 conv=>rhs;rw [←List.map_id l]
 exact List.map_congr_left fun x _=>str_list x
theorem join_any {base c:Nat} {a:Option Addr} {out:List (List UInt8)} (w:World) (h:OS w base (.slice a out.length c) out) (hl:out.length≤100001) (hj:(Lib.join out [47]).length≤100001*100001) :
  Calls Tryz.prog 106 #[.slice a out.length c,.string (ByteArray.mk #[47])] w fun e w'=>e=.returned (.string (str (Lib.join out [47])))∧Below w.heap.size w w':=by
 by_cases h0:out.length=0
 ·obtain rfl:=List.eq_nil_of_length_eq_zero h0;refine (Tryz.strings_Join_none a c (ByteArray.mk #[47]) w).mono ?_;rintro e w' ⟨rfl,rfl⟩;exact⟨rfl,Below.refl _ _⟩
 ·obtain ⟨g,rfl,hg,-⟩:=h.at' 0 (by omega);obtain⟨_,_,hv,hc1,hc2⟩:=h.len;injection hv with e1 e2 e3;have hcc:out.length≤c:=by omega
  have key:=Tryz.strings_Join g 0 c (out.map str) (ByteArray.mk #[47]) w (fun j x hx=>by
   have hjl:j<out.length:=by
    have:=(List.getElem?_eq_some_iff.1 hx).1
    rwa [List.length_map] at this
   rw [List.getElem?_map,List.getElem?_eq_getElem hjl] at hx;injection hx with hx;obtain⟨g',hg',-,h3⟩:=h.at' j hjl;injection hg' with hg';injection hg' with e;subst e;rw [Nat.zero_add,←hx];exact h3) hg (by rw [List.length_map];omega) (by rw [List.length_map];exact hcc) (by rw [map_str_list];exact Nat.le_trans hj (by omega))
  rw [List.length_map,map_str_list] at key;exact key
theorem cc_ret {R:ByteArray} {tmps:Array Value} {w W:World} {D:Nat} (hK:W.heap[D]? = some (.deferred (some []))) (hb:Below w.heap.size w W) (hD:w.heap.size≤D) (h2:tmps.getD 2 undef=.string R) :
  bodyPostM Fence.wide 5 Tryz.prog Tryz.f57 (fun e w'=>e=.returned (.string R)∧Below w.heap.size w w') .ret {tmps,defers:=[{target:=.collected D,args:=#[]}]} W:=by
 rw [Array.getD_eq_getD_getElem?] at h2;show LeavesInM Fence.wide 5 Tryz.prog Tryz.f57 _ _ _ _ W;refine ⟨by simp,.inl ⟨_,_,rfl,run_takeDeferred hK,?_⟩⟩;refine ⟨.string R,?_,rfl,⟨hb.os,hb.tape,hb.output,Nat.le_trans hb.size (by simp),fun k hk=>(World.putObj_heap_other (fun e=>by omega)).trans (hb.block k hk)⟩⟩;simp [results,Tryz.results57,go_sem,h2]
theorem clean_any (s:ByteArray) (w:World) (hs:s.size≤100000) :
  Calls Tryz.prog 57 #[.string s] w fun e w'=>e=.returned (.string (cleanB s))∧Below w.heap.size w w':=by
 have HHp:=Lib.hid (show ∀ w,Calls Tryz.prog 56 #[.string s,.string (ByteArray.mk #[47])] w fun e w'=>e=.returned (.bool (wholeB s.data.toList))∧w'=w from fun w=>by
  have h:=Tryz.strings_HasPrefix s (ByteArray.mk #[47]) w;rw [show (ByteArray.mk #[47]).data.toList=[47] from rfl,prefix_whole] at h;exact h)
 have HRs:=Lib.hid (show cleanB s=str (if wholeB s.data.toList=true then 47 :: Lib.join (clL (wholeB s.data.toList) (partsL s.data.toList)) [47] else if Lib.join (clL (wholeB s.data.toList) (partsL s.data.toList)) [47]=[] then [46] else Lib.join (clL (wholeB s.data.toList) (partsL s.data.toList)) [47]) by
  unfold cleanB cleanL
  cases wholeB s.data.toList <;> rfl)
 generalize cleanB s=R at HRs ⊢;generalize wholeB s.data.toList=wh at HRs HHp;have HPa:=Lib.hid (fun w=>nparts_any s w);have hpn:(partsL s.data.toList).length≤100001:=by
  have h1:=parts_len s.data.toList;have h2:s.data.toList.length=s.size:=Array.length_toList;omega
 refine (callsIn_wide (n:=5)).1 ?_;refine callsIn_of_wp_marks Tryz.func57 rfl trivial ?_ rfl;simp only [Tryz.ntmps57,List.size_toArray,List.length_cons,List.length_nil,Nat.reduceAdd,Nat.reduceSub,Array.replicate_succ,Array.replicate_zero,List.push_toArray,List.append_toArray,List.nil_append,List.cons_append];gi_wp2;refine ⟨trivial,?_⟩;refine (callsIn_wide.2 (HHp.out _)).mono ?_;rintro e w1 ⟨rfl,rfl⟩;have q3:=((Blk.new w1 #[.bool wh] 4).old (.cells #[.slice none 0 0] 201)).old (.cells #[.string s] 9);have q4:=(Blk.new (w1.alloc (.cells #[.bool wh] 4)) #[.slice none 0 0] 201).old (.cells #[.string s] 9);have qs:=Blk.new ((w1.alloc (.cells #[.bool wh] 4)).alloc (.cells #[.slice none 0 0] 201)) #[.string s] 9;have hB0:=balloc (balloc (balloc (Below.refl w1.heap.size w1) (.cells #[.bool wh] 4)) (.cells #[.slice none 0 0] 201)) (.cells #[.string s] 9);have hz:(((w1.alloc (.cells #[.bool wh] 4)).alloc (.cells #[.slice none 0 0] 201)).alloc (.cells #[.string s] 9)).heap.size=w1.heap.size+3:=by simp
 have hz2:((w1.alloc (.cells #[.bool wh] 4)).alloc (.cells #[.slice none 0 0] 201)).heap.size=w1.heap.size+2:=by simp
 have hz1:(w1.alloc (.cells #[.bool wh] 4)).heap.size=w1.heap.size+1:=by simp
 rw [hz1] at q4;rw [hz2] at qs;gi_wp2;refine ⟨trivial,?_⟩;refine (callsIn_wide.2 (HPa.out _)).mono ?_;rintro e W1 ⟨rfl,rfl⟩;generalize ((w1.alloc (.cells #[.bool wh] 4)).alloc (.cells #[.slice none 0 0] 201)).alloc (.cells #[.string s] 9)=W1 at q3 q4 qs hB0 hz ⊢;rw [hz2];have Q3:=Lib.hid q3;have Q4:=Lib.hid q4;have QS:=Lib.hid qs;have HB0:=Lib.hid hB0;clear q3 q4 qs hB0 hz2 hz1;gi_wp2;refine' wpIn_rangeT (T:=fun k=>k=w1.heap.size+2) rfl (by omega) (gf:=104) (lb:=#[.pointer (some ⟨w1.heap.size+2,0,none⟩)]) rfl trivial (enters_of Tryz.func104 (by kernel_rfl) rfl)
  (parts_stops (5 - 1) (by omega) (w1.heap.size+2) s hs W1 QS.out) (fun k hk=>by omega) (KT.refl _ _) (fun _=>rfl)
  (fun pre W=>CC w1 W1.heap.size wh pre W)
  (fun _ _ _=>False)
  (fun pre A B h ht=>?own) (fun c pre A B h ht=>h) ⟨Q3.out,⟨_,Q4.out,OS.nil _ _⟩,HB0.out⟩ _ ?assign ?body ?done (fun D c pre W _ _ h _=>h.elim)
 case own=>
  obtain⟨h0,⟨v,h1,h2⟩,h3⟩:=h;exact⟨blkc_turn h0 ht (fun e=>by omega),⟨v,blkc_turn h1 ht (fun e=>by omega),h2.turn (fun k cur hk hc=>ht.block _ _ hc (fun e=>by omega) (fun _=>rfl))⟩,belowc_turn h3 ht (by omega) (fun k e=>by omega) (Nat.le_refl _)⟩
 case assign=>
  intro L x W K hK;gi_wp2;exact hK
 case body=>
  rintro L pre x W hL hLW ⟨b3,⟨v,b4,hO⟩,hB⟩ hv;have hcl:clL wh (pre ++ [x])=clS wh (clL wh pre) x:=clL_snoc wh pre x;have hol:(clL wh pre).length≤100001:=by
   have h1:=clL_len wh pre;have h2:=hv.length_le;rw [List.length_append,List.length_singleton] at h2;omega
  have HC:=Lib.hid (show CC w1 W1.heap.size wh pre W from ⟨b3,⟨v,b4,hO⟩,hB⟩);obtain⟨a,c,rfl,hc1,hc2⟩:=hO.len;obtain⟨g2,cap2,W2,hrun,hO2,hB2,hKO,hg2⟩:=hO.appK x (by omega) (show W1.heap.size≤W.heap.size by omega);have HCl:=Lib.hid hcl;have HR:=Lib.hid hrun;have k3:=b3.keepB hB2 (show w1.heap.size<W1.heap.size by omega);have k4:=b4.keepB hB2 (show w1.heap.size+1<W1.heap.size by omega);obtain⟨x3,f3,z3⟩:=b3.facts;obtain⟨x4,f4,z4⟩:=b4.facts;obtain⟨y4,e4,u4⟩:=k4.facts;have HB3:=Lib.hid b3;have HB4:=Lib.hid b4;have HOS:=Lib.hid hO;have HX:=Lib.hid (And.intro hO2 (And.intro hB2 (And.intro hKO hB)));have HT:=Lib.hid (ba_list (str x));rw [str_list] at HT;clear hrun hO2 hB2 hKO hB hcl k3 k4 b3 b4 hv;obtain⟨out,hout⟩:∃ out,clL wh pre=out:=⟨_,rfl⟩;rw [hout] at HCl HR HX HOS hc1 x4 hol;have HOut:=Lib.hid hout;clear hout;by_cases hx:x=ddB
  ·subst hx;have hp:((str ddB).toList == [46,46])=true:=by rw [HT.out];rfl
   by_cases hstay:out=[]∨out.getLast? = some ddB
   ·have HSt:=Lib.hid (HCl.out.trans (clS_stay hstay));have hfacts:out=[]∨((0:Int)<(out.length:Int)∧∃ (g3:Nat) (q:ByteArray),a=some ⟨g3,0,none⟩∧g3<W.heap.size∧W.cell? ⟨g3,out.length - 1,none⟩=some (.string q)∧(q.toList == [46,46])=true):=by
     by_cases h0:out.length=0
     ·left;exact List.eq_nil_of_length_eq_zero h0
     ·right;refine ⟨by omega,?_⟩;obtain⟨g3,h1,h2,h3⟩:=HOS.out.at' (out.length - 1) (by omega);refine ⟨g3,_,h1,h2,h3,?_⟩;rcases hstay with h | h
      ·rw [h] at h0;exact absurd rfl h0
      ·rw [last_getL (by omega)] at h;injection h with h;rw [h,ba_list,str_list];rfl
    clear hstay;rcases hfacts with rfl | ⟨hz0,g3,q,rfl,hg3,hcl3,hq⟩
    ·simp only [List.length_nil] at HR HX HOS x4
     cases wh
     ·gi_wp2_with (gi_at_builtin;refine wpListIn_app_run1 rfl rfl rfl rfl HR.out ?_)
      exact cc_put (w:=w1) (W1:=W1) (W':=W2) hz (by omega) HX.out.2.2.1 HX.out.2.1 HB3.out _ _ HB4.out HX.out.2.2.2 (by rw [HSt.out,if_neg (by decide)];exact HX.out.1)
     ·gi_wp2;have hend:=cc_same HC.out (x:=ddB) (by rw [HSt.out,HOut.out];simp);rw [hz] at hend;exact hend
    ·cases wh
     ·gi_wp2_with (gi_at_builtin;refine wpListIn_app_run1 rfl rfl rfl rfl HR.out ?_)
      exact cc_put (w:=w1) (W1:=W1) (W':=W2) hz (by omega) HX.out.2.2.1 HX.out.2.1 HB3.out _ _ HB4.out HX.out.2.2.2 (by rw [HSt.out,if_neg (by decide)];exact HX.out.1)
     ·gi_wp2;have hend:=cc_same HC.out (x:=ddB) (by rw [HSt.out,HOut.out];simp);rw [hz] at hend;exact hend
   ·have hne:out≠[]:=fun e=>hstay (.inl e);have h0:0<out.length:=List.length_pos_iff.2 hne;have hz0:(0:Int)<(out.length:Int):=by omega
    have HSt:=Lib.hid (HCl.out.trans (clS_less hne (fun y hy e=>hstay (.inr (by rw [hy,e])))));have HL:=Lib.hid (HOS.out.less hne);obtain⟨g3,rfl,hg3,hcl3⟩:=HOS.out.at' (out.length - 1) (by omega);have hq:((str out[out.length - 1]).toList == [46,46])=false:=by
     rw [ba_list,str_list];simp only [beq_eq_false_iff_ne,ne_eq];intro e;exact hstay (.inr (by rw [last_getL h0,e];rfl))
    generalize str out[out.length - 1]=q at hcl3 hq;clear hstay hne;gi_wp2;exact cc_put (w:=w1) (W1:=W1) (W':=W) hz (by omega) (KeepsOthers.refl W) (Below.refl _ W) HB3.out _ _ HB4.out HX.out.2.2.2 (by rw [HSt.out];exact HL.out)
  ·have hp:((str x).toList == [46,46])=false:=by
    rw [HT.out];simp only [beq_eq_false_iff_ne,ne_eq];exact hx
   have HSt:=Lib.hid (HCl.out.trans (clS_other hx));clear hx
   gi_wp2_with (gi_at_builtin;refine wpListIn_app_run1 rfl rfl rfl rfl HR.out ?_)
   exact cc_put (w:=w1) (W1:=W1) (W':=W2) hz (by omega) HX.out.2.2.1 HX.out.2.1 HB3.out _ _ HB4.out HX.out.2.2.2 (by rw [HSt.out];exact HX.out.1)
 case done=>
  rintro D xs W hD rfl ⟨b3,⟨v,b4,hO⟩,hB⟩ hK;obtain⟨a,c,rfl,-,-⟩:=hO.len;have hol:(clL wh (partsL s.data.toList)).length≤100001:=Nat.le_trans (clL_len _ _) hpn;have hjl:(Lib.join (clL wh (partsL s.data.toList)) [47]).length≤100001*100001:=by
   have h1:=join_len 100000 (clL wh (partsL s.data.toList)) (fun x hx=>by
    have h2:=clL_mem hx;have h3:=spl_size 47 s.data.toList x (List.mem_filter.1 h2).1;have h4:s.data.toList.length=s.size:=Array.length_toList;omega)
   exact Nat.le_trans h1 (Nat.mul_le_mul hol (by omega))
  generalize clL wh (partsL s.data.toList)=out at hO hol hjl HRs b4;have HJ:=Lib.hid (join_any W hO hol hjl);have HJl:=Lib.hid hjl;obtain⟨x3,f3,z3⟩:=b3.facts;obtain⟨x4,f4,z4⟩:=b4.facts;have H3:=Lib.hid b3;have HB:=Lib.hid hB;have HK:=Lib.hid hK;clear b3 b4 hO hB hK hjl;gi_wp2;refine ⟨trivial,?_⟩;refine (callsIn_wide.2 HJ.out).mono ?_;rintro e w2 ⟨rfl,hb2⟩;have k3:=H3.out.keep hb2;obtain⟨y3,g3,u3⟩:=k3.facts;have HKK:=Lib.hid ((hb2.block D (Array.getElem?_eq_some_iff.1 HK.out).1).trans HK.out);have HBB:=Lib.hid (bnext HB.out hb2);clear hb2 k3 x3 f3 z3 x4 f4 z4;have HTl:=Lib.hid (ba_list (str (Lib.join out [47])));rw [str_list] at HTl;have HStr:=Lib.hid (show str (47 :: Lib.join out [47])=ByteArray.mk #[47] ++ str (Lib.join out [47]) by rw [show (47 :: Lib.join out [47])=[47] ++ Lib.join out [47] from rfl,←str_append];rfl);have hts:(str (Lib.join out [47])).size≤100001*100001:=by rw [str_size];exact HJl.out
  have HTs:=Lib.hid (show str (Lib.join out [47])=str (Lib.join out [47]) from rfl);generalize Lib.join out [47]=jn at HRs HTl HStr hts HTs ⊢;generalize htj:str jn=tj at HTl HStr hts ⊢;have HTj:=Lib.hid htj;clear htj HTs
  cases wh with
  | true=>
   have hs1:¬ 9223372036854775807<1+tj.size:=by omega
   have h:R=ByteArray.mk #[47] ++ tj:=by rw [HRs.out,←HStr.out];simp
   have HE:=Lib.hid h;clear h;have hD2:w1.heap.size≤D:=by omega
   gi_wp2;exact cc_ret HKK.out HBB.out hD2 (by rw [HE.out];rfl)
  | false=>
   have hD2:w1.heap.size≤D:=by omega
   by_cases hte:tj.toList=[]
   ·have h:R=ByteArray.mk #[46]:=by rw [HRs.out,show jn=[] by rw [←HTl.out,hte]];rfl
    have HE:=Lib.hid h;clear h;gi_wp2;exact cc_ret HKK.out HBB.out hD2 (by rw [HE.out];rfl)
   ·have hp1:tj.toList.isEmpty=false:=by simpa using hte
    have h:R=tj:=by
     have hjn:¬ jn=[]:=by rw [←HTl.out];exact hte
     rw [HRs.out,←HTj.out];simp [hjn]
    have HE:=Lib.hid h;clear h hte;gi_wp2;exact cc_ret HKK.out HBB.out hD2 (by rw [HE.out];rfl)
end
section
open Go.RowKit Go.Shelf Go.Sort
theorem eyC_one (x:Ey):∀ v∈eyC x,v.oneCell'=true:=by
 intro v hv;simp [eyC] at hv;rcases hv with rfl | rfl | rfl | rfl | rfl | rfl <;> rfl
def eyQ (cs:List Value) (x:Ey):Prop:=cs=eyC x
theorem ey_info:(Tryz.prog.info? 23).map (fun i=>(i.zero,i.size,i.bytes))=some (some (.agg #[.string ByteArray.empty,.string ByteArray.empty,.string ByteArray.empty,.int .i64 0,.int .i64 0,.bool false]),6,72):=by kernel_rfl
def OEy (w:World) (base:Nat) (v:Value) (l:List Ey):Prop:=w.ownsRow base 23 6 v l.length (l.flatMap eyC)
theorem OEy.nil (w:World) (base:Nat):OEy w base (.slice none 0 0) []:=⟨rfl,.inl ⟨rfl,rfl⟩⟩
theorem OEy.at {w:World} {base c:Nat} {a:Option Addr} {l:List Ey} (h:OEy w base (.slice a l.length c) l):SliceAt w 6 eyQ a l.length c l:=own_slice (R:=eyQ) (by omega) eyC_len (fun _=>rfl) h
theorem OEy.keep {w w':World} {base:Nat} {v:Value} {l:List Ey} (h:OEy w base v l) (hb:Below w.heap.size w w'):OEy w' base v l:=own_below h hb (Nat.le_refl _)
theorem OEy.app {w:World} {base:Nat} {v:Value} {l:List Ey} (h:OEy w base v l) (x:Ey) (hn:l.length≤1000000) (hb:base≤w.heap.size) :
  ∃ g cap W,(Builtin.append_ #[56,56] 56 #[v,.slice (some ⟨w.heap.size,0,none⟩) 1 1]).run Tryz.prog (w.alloc (.cells #[.string x.can,.string x.name,.string x.path,.int .i64 x.date,.int .i64 x.size,.bool x.good] 23))=.ok (.slice (some ⟨g,0,none⟩) (l.length+1) cap) W∧
   OEy W base (.slice (some ⟨g,0,none⟩) (l.length+1) cap) (l ++ [x])∧Mod (fun k=>v.ownBlock=some k) w W∧(v.ownBlock=some g∨w.heap.size<g):=by
 obtain⟨g,cap,W,h1,h2,h3,h4⟩:=own_app1 Tryz.underlying56 ey_info rfl (by decide) h (eyC x) rfl (eyC_one x) (by omega) (by decide) hb;refine ⟨g,cap,W,h1,?_,h3,h4⟩;unfold OEy;rw [List.length_append,List.length_singleton,List.flatMap_append];exact (by simpa using h2)
theorem eyC_ones (l:List Ey):∀ u∈l.flatMap eyC,u.oneCell'=true:=by
 intro u hu;obtain⟨x,-,hx⟩:=List.mem_flatMap.1 hu;exact eyC_one x u hx
theorem eys_some {w:World} {a:Option Addr} {n c:Nat} {l:List Ey} (h:SliceAt w 6 eyQ a n c l) (hn:0<n):∃ b off,a=some ⟨b,off,none⟩∧b<w.heap.size:=by
 obtain⟨-,-,-,h0 | ⟨b,off,he,hb,-⟩⟩:=h
 ·omega
 ·exact ⟨b,off,he,hb⟩
theorem eys_cells {w:World} {b off n c:Nat} {l:List Ey} (h:SliceAt w 6 eyQ (some ⟨b,off,none⟩) n c l) (k:Nat) (hk:k<l.length):∀ j u,(eyC l[k])[j]? = some u→w.cell? ⟨b,off+k*6+j,none⟩=some u:=by
 intro j u hu;obtain⟨hl,-,-,h0 | ⟨b',off',he,-,hel⟩⟩:=h
 ·omega
 ·injection he with he;injection he with e1 e2;subst e1 e2;obtain⟨cs,k1,k2,k3⟩:=hel k hk;unfold eyQ at k2;subst k2;obtain⟨h1,h2⟩:=List.getElem?_eq_some_iff.1 hu;rw [←h2];exact k3 j h1
theorem eys_six {w:World} {b off n c:Nat} {l:List Ey} (h:SliceAt w 6 eyQ (some ⟨b,off,none⟩) n c l) (k:Nat) (hk:k<l.length) :
  w.cell? ⟨b,off+k*6,none⟩=some (.string l[k].can)∧w.cell? ⟨b,off+k*6+1,none⟩=some (.string l[k].name)∧w.cell? ⟨b,off+k*6+2,none⟩=some (.string l[k].path)∧w.cell? ⟨b,off+k*6+3,none⟩=some (.int .i64 l[k].date)∧w.cell? ⟨b,off+k*6+4,none⟩=some (.int .i64 l[k].size)∧w.cell? ⟨b,off+k*6+5,none⟩=some (.bool l[k].good):=
 ⟨eys_cells h k hk 0 _ rfl,eys_cells h k hk 1 _ rfl,eys_cells h k hk 2 _ rfl,eys_cells h k hk 3 _ rfl,eys_cells h k hk 4 _ rfl,eys_cells h k hk 5 _ rfl⟩
theorem eys_news {w:World} {b off n c:Nat} {l:List Ey} (h:SliceAt w 6 eyQ (some ⟨b,off,none⟩) n c l):∀ j u,(l.flatMap eyC)[j]? = some u→w.cell? ((⟨b,off,none⟩:Addr).add j)=some u:=by
 intro j u hu;have hlt:j<(l.flatMap eyC).length:=(List.getElem?_eq_some_iff.1 hu).1;rw [flat_len eyC_len] at hlt;have hm:=Nat.mod_lt j (show 0<6 by omega);have hdiv:j=j / 6*6+j % 6:=by omega
 have hq:j / 6<l.length:=by omega
 have h1:=flat_get eyC_len l (j / 6) (j % 6) hq hm;rw [←hdiv,hu] at h1;rw [addr_add,show off+j=off+j / 6*6+j % 6 by omega];exact eys_cells h (j / 6) hq (j % 6) u h1.symm
end
section
open Go.RowKit
def few22 (ms:List Mt) (is:List It) (n:Int):Bool:=decide (ms.length≤10∧(is.length:Int)≤n∧(∀ m∈ms,m.path.size≤300)∧∀ x∈is,x.path.size≤300∧x.data.size≤1500)
end
section
open Go.RowKit Go.Shelf Go.Sort
def SortsN (n:Nat):Prop:=∀ (w:World) (base:Nat) (a:Option Addr) (c:Nat) (l:List Ey),OEy w base (.slice a l.length c) l→l.length≤n→base≤w.heap.size→
 Calls Tryz.prog 33 #[.slice a l.length c,.func (.func 5) #[] #[]] w fun e w'=>e=.returned (.tuple #[])∧SliceAt w' 6 eyQ a l.length c (isort ltE l)∧Below base w w'
theorem so_ins1 (a:Option Addr) (n c:Nat) (hn:n≤1) (w:World):Calls Tryz.prog 129 #[.slice a n c,.int .i64 0,.int .i64 n,.func (.func 5) #[] #[]] w fun e w'=>e=.returned (.tuple #[])∧w=w':=by
 have h1:¬ (1:Int)<(n:Int):=by omega
 go_enter Tryz.func129,Tryz.ntmps129;go_wp2_with fail;refine wp_loop_rounds 1 ?_;rw [rounds_succ];go_wp2_with fail
 go_end0
 exact⟨rfl,rfl⟩
theorem so_sort1 (a:Option Addr) (n c:Nat) (hn:n≤1) (w:World):Calls Tryz.prog 33 #[.slice a n c,.func (.func 5) #[] #[]] w fun e w'=>e=.returned (.tuple #[])∧w=w':=by
 have HI:=Lib.hid (so_ins1 a n c hn);have HS:RowKit.Hid (∀ w,Calls Tryz.prog 78 #[.slice a n c,.int .i64 n,.func (.func 5) #[] #[]] w fun e w'=>e=.returned (.tuple #[])∧w=w'):=by
  intro w;have h1:¬ (20:Int)≤(n:Int):=by omega
  have h2:¬ (20:Int)<(n:Int):=by omega
  go_enter Tryz.func78,Tryz.ntmps78;go_wp2_with fail;refine wp_loop_rounds 1 ?_;rw [rounds_succ];go_wp2_with fail;refine (HI.out _).mono ?_;rintro e w1 ⟨rfl,rfl⟩;go_wp2_with fail;refine wp_loop_rounds 1 ?_;rw [rounds_succ];go_wp2_with fail
  go_end0
  exact⟨rfl,rfl⟩
 go_enter Tryz.func33,Tryz.ntmps33;go_wp2_with fail;refine (HS.out _).mono ?_;rintro e w1 ⟨rfl,rfl⟩;go_wp2_with fail
 go_end0
 exact⟨rfl,rfl⟩
theorem isort_le1 (l:List Ey) (h:l.length≤1):isort ltE l=l:=by
 match l,h with
 | [],_=>rfl
 | [x],_=>exact isort_one x
theorem sorts_one:SortsN 1:=fun w base a c l hO hl hb=>(so_sort1 a l.length c hl w).mono fun e w' ⟨he,hw⟩=>by
 subst hw;rw [isort_le1 l hl];exact⟨he,hO.at,Below.refl _ _⟩
end
end Go.Proofs.YtbndfmkgamdgeaaGreatDoor
