import Derived.Test.YtbndfmkgamdgeaaGreatDoorSO1
import Derived.Test.YtbndfmkgamdgeaaGreatDoorSO2
import Derived.Test.YtbndfmkgamdgeaaGreatDoorSO3
import Derived.Test.YtbndfmkgamdgeaaGreatDoorSO5
import Derived.Test.YtbndfmkgamdgeaaGreatDoorSO6
import Derived.Test.YtbndfmkgamdgeaaGreatDoorSO7
import Derived.Test.YtbndfmkgamdgeaaGreatDoorSO8
import Derived.Test.YtbndfmkgamdgeaaGreatDoorSO9
import Derived.Test.YtbndfmkgamdgeaaGreatDoorSO11
import Derived.Test.YtbndfmkgamdgeaaGreatDoorSO12
import Derived.Test.YtbndfmkgamdgeaaGreatDoorSO13
import Derived.Test.YtbndfmkgamdgeaaGreatDoorSO16
import Derived.Test.YtbndfmkgamdgeaaGreatDoorSO17
import Derived.Test.YtbndfmkgamdgeaaGreatDoorSO18
import Derived.Test.YtbndfmkgamdgeaaGreatDoorSO21
import Derived.Test.YtbndfmkgamdgeaaGreatDoorSO22
import Derived.Test.YtbndfmkgamdgeaaGreatDoorSO24
import Derived.Test.YtbndfmkgamdgeaaGreatDoorSO25
import Derived.Test.YtbndfmkgamdgeaaGreatDoorSO28
import Derived.Test.YtbndfmkgamdgeaaGreatDoorSO31
import Derived.Test.YtbndfmkgamdgeaaGreatDoorSO32
import Derived.Test.YtbndfmkgamdgeaaGreatDoorSO38
import Derived.Test.YtbndfmkgamdgeaaGreatDoorSO39
import Derived.Test.YtbndfmkgamdgeaaGreatDoorSO40
import Derived.Test.YtbndfmkgamdgeaaGreatDoorSO42
set_option linter.unusedVariables false
set_option linter.unusedSimpArgs false
set_option maxRecDepth 100000
set_option maxHeartbeats 16000000
namespace Go.Proofs.YtbndfmkgamdgeaaGreatDoor
section
open Go.RowKit
def splitB2 (s:ByteArray):ByteArray×ByteArray:=
 let l:=cleanL s.data.toList
 if l=[47]∨l=[46] then (str l,ByteArray.empty)
 else if Go.Lib.lastIndexByte (str l) 47<0 then (ptB,str l)
 else if Go.Lib.lastIndexByte (str l) 47=0 then (topB,(str l).extract 1 (str l).size)
 else ((str l).extract 0 (Go.Lib.lastIndexByte (str l) 47).toNat,(str l).extract ((Go.Lib.lastIndexByte (str l) 47).toNat+1) (str l).size)
def fineP (s:ByteArray):ByteArray×Bool:=if pathE s=0∧checkE (splitB2 s).2=0 then (s,true) else (ByteArray.empty,false)
def fullF (top s:ByteArray):ByteArray×Bool:=
 if ddB∈partsL s.data.toList then (ByteArray.empty,false)
 else if top=ByteArray.empty∧wholeB s.data.toList=true then fineP (cleanB s)
 else if top≠ByteArray.empty∧wholeB s.data.toList=false then fineP (joinB top s)
 else (ByteArray.empty,false)
def entI (x:Cn) (n:ByteArray) (size:Int) (t:ByteArray):Ey:=
 if (infoP t.data.toList).2.2≠0 then ⟨x.path,n,ByteArray.empty,-1,size,false⟩
 else if (fullF x.top (infoP t.data.toList).1).2=true then ⟨x.path,n,(fullF x.top (infoP t.data.toList).1).1,(infoP t.data.toList).2.1,size,true⟩
 else ⟨x.path,n,ByteArray.empty,(infoP t.data.toList).2.1,size,false⟩
def Fs.sizeF (S:Fs) (N:Nat) (d:Bool) (c:Cr) (dir:Int) (n:ByteArray):Int:=if (S.treeF N d c dir n).2=0 then (S.treeF N d c dir n).1 else 0
def Fs.oneF (S:Fs) (N:Nat) (d:Bool) (c:Cr) (x:Cn) (n:ByteArray):Ey×Int:=
 if (S.lookF d c x.files n).2≠0 then (ey0,(S.lookF d c x.files n).2)
 else if (S.lookF d c x.info (n ++ nSfx)).2≠0 then (ey0,(S.lookF d c x.info (n ++ nSfx)).2)
 else if (S.read c (S.lookF d c x.info (n ++ nSfx)).1).2≠0 then (⟨x.path,n,ByteArray.empty,-1,S.sizeF N d c x.files n,false⟩,0)
 else (entI x n (S.sizeF N d c x.files n) (S.read c (S.lookF d c x.info (n ++ nSfx)).1).1,0)
def Fs.oneO (S:Fs) (N:Nat) (d:Bool) (c:Cr) (x:Cn) (y:En):Option Ey:=if (S.oneF N d c x y.name).2=0 then some (S.oneF N d c x y.name).1 else none
def Fs.inF (S:Fs) (N:Nat) (d:Bool) (c:Cr) (x:Cn):List Ey×Int:=
 if (S.listF d c x.files).2≠0 then ([],(S.listF d c x.files).2) else (isort ltE ((S.listF d c x.files).1.filterMap (S.oneO N d c x)),0)
def Fs.stockF (S:Fs) (N:Nat) (u:Us):List Ey:=(S.allCn false u).flatMap fun x=>(S.inF N false u.c x).1
theorem cmpI_neg (a b:Int):cmpI b a=-cmpI a b:=by
 unfold cmpI
 split <;> split <;> omega
theorem cmpI_rng (a b:Int):-1≤cmpI a b∧cmpI a b≤1:=by
 unfold cmpI
 split
 ·omega
 ·split <;> omega
theorem ltB_asym {a b:ByteArray} (h:ltB a b=true):ltB b a=false:=by
 have h1:=cmpS_lt a b;rw [h] at h1
 cases h2:ltB b a with
 | false=>rfl
 | true=>
  have h3:=str_swo (fun x:ByteArray=>x);have h4:=h3.trans a b a h h2;rw [h3.irrefl] at h4
  cases h4
theorem cmpS_neg (a b:ByteArray):cmpS b a=-cmpS a b:=by
 unfold cmpS
 cases h1:ltB a b with
 | true=>rw [ltB_asym h1];rfl
 | false=>
  cases h2:ltB b a with
  | true=>rfl
  | false=>rfl
theorem cmpS_rng (a b:ByteArray):-1≤cmpS a b∧cmpS a b≤1:=by
 unfold cmpS
 split
 ·omega
 ·split <;> omega
theorem orI_neg {a b a' b':Int} (h1:a'=-a) (h2:b'=-b):orI a' b'=-orI a b:=by
 unfold orI;subst h1 h2;by_cases h:a=0
 ·subst h;simp
 ·rw [if_pos (by omega),if_pos h]
theorem orI_rng {a b:Int} (h1:-1≤a∧a≤1) (h2:-1≤b∧b≤1):-1≤orI a b∧orI a b≤1:=by
 unfold orI
 split
 ·exact h1
 ·exact h2
theorem earF_neg (x y:Ey):earF y x=-earF x y:=orI_neg (cmpI_neg _ _) (orI_neg (cmpI_neg _ _) (orI_neg (cmpS_neg _ _) (cmpS_neg _ _)))
theorem earF_rng (x y:Ey):-1≤earF x y∧earF x y≤1:=orI_rng (cmpI_rng _ _) (orI_rng (cmpI_rng _ _) (orI_rng (cmpS_rng _ _) (cmpS_rng _ _)))
theorem earF_self (x:Ey):earF x x=0:=by have:=earF_neg x x;omega
theorem earF_trans (x y z:Ey) (h1:earF x y≤0) (h2:earF y z≤0):earF x z≤0:=by
 have h3:=ltE_swo.ntrans z y x (by unfold ltE;rw [decide_eq_false];have:=earF_neg y z;omega) (by unfold ltE;rw [decide_eq_false];have:=earF_neg x y;omega);unfold ltE at h3;have h4:=of_decide_eq_false h3;have:=earF_neg x z;omega
theorem order_law (a b c:Ey):(decide (0<earF a b) || decide (0<earF b c) || decide (earF a c≤0))=true∧(decide (0≤earF a b) == !aheadB a b)=true:=by
 constructor
 ·by_cases h1:0<earF a b
  ·simp [h1]
  ·by_cases h2:0<earF b c
   ·simp [h2]
   ·simp [earF_trans a b c (by omega) (by omega)]
 ·rw [←ltE_ahead];unfold ltE;by_cases h:earF a b<0
  ·rw [decide_eq_true h,decide_eq_false (by omega)];rfl
  ·rw [decide_eq_false h,decide_eq_true (by omega)];rfl
def tx34:ByteArray:=ByteArray.mk #[91,84,114,97,115,104,32,73,110,102,111,93,10,80,97,116,104,61,47,97,47,100,10,68,101,108,101,116,105,111,110,68,97,116,101,61,49,57,55,48,45,48,49,45,48,49,84,48,48,58,48,48,58,48,57,10]
theorem full34a:fullF (ByteArray.mk #[47,109]) (ByteArray.mk #[97,47,46,46,47,98])=(ByteArray.mk #[],false):=by kernel_rfl
theorem full34b:fullF (ByteArray.mk #[47,109]) (ByteArray.mk #[97,47,98])=(ByteArray.mk #[47,109,47,97,47,98],true):=by kernel_rfl
end
section
open Go.RowKit Go.Shelf
attribute [local go_sem] Oper.semAt_some
theorem last_rng (s:ByteArray) (c:Int):-1≤Lib.lastIndexByte s c∧Lib.lastIndexByte s c<s.size:=by
 rcases Lib.lastIndexByte_spec s c with ⟨h,-⟩|⟨i,h1,h2,-⟩
 ·omega
 ·omega
theorem tsplit_any (s:ByteArray) (w:World) (hs:s.size≤90000) :
  Calls Tryz.prog 59 #[.string s] w fun e w'=>e=.returned (.tuple #[.string (splitB2 s).1,.string (splitB2 s).2])∧Below w.heap.size w w':=by
 have HC:=Lib.hid (fun w=>clean_any s w (by omega));have HLi:=Lib.hid (fun w=>Tryz.strings_LastIndexByte (cleanB s) 47 (by have:=clean_size s;omega) w);have hr:=last_rng (cleanB s) 47;have htz:(cleanB s).size≤90002:=by have:=clean_size s;omega
 have HS:=Lib.hid (show splitB2 s=if (cleanB s).toList=[47]∨(cleanB s).toList=[46] then (cleanB s,ByteArray.empty) else if Lib.lastIndexByte (cleanB s) 47<0 then (ptB,cleanB s) else if Lib.lastIndexByte (cleanB s) 47=0 then (topB,(cleanB s).extract 1 (cleanB s).size) else ((cleanB s).extract 0 (Lib.lastIndexByte (cleanB s) 47).toNat,(cleanB s).extract ((Lib.lastIndexByte (cleanB s) 47).toNat+1) (cleanB s).size) by
  unfold splitB2 cleanB;rw [ba_list,str_list])
 generalize splitB2 s=r at HS ⊢;generalize cleanB s=t at HC HLi hr HS htz;generalize Lib.lastIndexByte t 47=i at HLi hr HS;go_enter Tryz.func59,Tryz.ntmps59;go_wp2_with fail;refine (HC.out _).mono ?_;rintro e w1 ⟨rfl,hb1⟩;have HB:=Lib.hid hb1;clear hb1;go_wp2_with fail;refine (HLi.out _).mono ?_;rintro e w2 ⟨rfl,rfl⟩;by_cases h1:t.toList=[47]∨t.toList=[46]
 ·have HR:=Lib.hid (HS.out.trans (if_pos h1));rcases h1 with h1 | h1
  ·go_wp2_with fail;go_ret2;exact⟨by rw [HR.out];rfl,HB.out⟩
  ·go_wp2_with fail;go_ret2;exact⟨by rw [HR.out];rfl,HB.out⟩
 ·have H1:=Lib.hid (HS.out.trans (if_neg h1));have e1:(t.toList == [47])=false:=beq_eq_false_iff_ne.2 (fun e=>h1 (.inl e));have e2:(t.toList == [46])=false:=beq_eq_false_iff_ne.2 (fun e=>h1 (.inr e));clear h1;by_cases h2:i<0
  ·have HR:=Lib.hid (H1.out.trans (if_pos h2));go_wp2_with fail;go_ret2;exact⟨by rw [HR.out];rfl,HB.out⟩
  ·have H2:=Lib.hid (H1.out.trans (if_neg h2));obtain⟨k,rfl⟩:∃ k:Nat,i=k:=⟨i.toNat,by omega⟩;by_cases h3:k=0
   ·subst h3;have HR:=Lib.hid (H2.out.trans (if_pos rfl));have hq1:(1:Int)≤(t.size:Int):=by omega
    clear h2;go_wp2_with fail
    go_quiet (fail)
    go_wp2_with fail;go_ret2;exact⟨by rw [HR.out];rfl,below_drewN HB.out _⟩
   ·have HR:=Lib.hid (H2.out.trans (if_neg (by omega)));have hq0:((k:Int) == 0)=false:=by simpa using h3
    have hq1:(k:Int)≤(t.size:Int):=by omega
    have hq2:(k:Int)+1≤(t.size:Int):=by omega
    clear h2;go_wp2_with fail
    go_quiet (fail)
    go_wp2_with fail;go_ret2;exact⟨by rw [HR.out];rfl,below_drewN HB.out _⟩
theorem split_size (s:ByteArray):(splitB2 s).2.size≤s.size+2:=by
 have h1:=clean_size s;have hx:∀ (t:ByteArray) (a b:Nat),(t.extract a b).size≤t.size:=fun t a b=>by rw [ByteArray.size_extract];omega
 have hc:str (cleanL s.data.toList)=cleanB s:=rfl;unfold splitB2;dsimp only;rw [hc]
 split
 ·exact Nat.zero_le _
 ·split
  ·exact h1
  ·split
   ·exact Nat.le_trans (hx _ _ _) h1
   ·exact Nat.le_trans (hx _ _ _) h1
theorem Blk.putC {w:World} {B D:Nat} {vs:Array Value} {T:TypeId} (h:Blk w B vs T) (ho:w.heap[D]? = some (.deferred (some []))) (o':Obj):Blk (w.putObj D o') B vs T:=
 (World.putObj_heap_other (fun e=>by subst e;unfold Blk at h;rw [h] at ho;cases ho)).trans h
theorem sf_cells {tmps:Array Value} {defers:List Deferred} {w W:World} {D b4:Nat} {v:ByteArray} {b:Bool} {r:ByteArray×Bool} (hd:defers=[{target:=.collected D,args:=#[]}])
  (hK:W.heap[D]? = some (.deferred (some []))) (hb:Below w.heap.size w W) (hD:w.heap.size≤D) (h4:Blk W b4 #[.string v] 9) (h5:Blk W (b4+1) #[.bool b] 4)
  (t4:tmps.getD 4 undef=.pointer (some ⟨b4,0,none⟩)) (t5:tmps.getD 5 undef=.pointer (some ⟨b4+1,0,none⟩)) (hr:r=(v,b)) :
  bodyPostM Fence.wide 5 Tryz.prog Tryz.f24 (fun e w'=>e=.returned (.tuple #[.string r.1,.bool r.2])∧Below w.heap.size w w') .ret {tmps,defers} W:=by
 subst hr hd;have e1:=(Blk.putC h4 hK (.deferred none)).cell 0;have e2:=(Blk.putC h5 hK (.deferred none)).cell 0;rw [Array.getD_eq_getD_getElem?] at t4 t5;show LeavesInM Fence.wide 5 Tryz.prog Tryz.f24 _ _ _ _ W;refine ⟨by simp,.inl ⟨_,_,rfl,run_takeDeferred hK,?_⟩⟩;refine ⟨.tuple #[.string v,.bool b],?_,rfl,⟨hb.os,hb.tape,hb.output,Nat.le_trans hb.size (by simp),fun k hk=>(World.putObj_heap_other (fun e=>by omega)).trans (hb.block k hk)⟩⟩;simp [results,Tryz.results24,go_sem,t4,t5,e1,e2]
structure FI (w:World) (h:Nat) (top:ByteArray) (x:Cn) (W:World):Prop where
 bx:Blk W h #[.string x.path,.int .i64 x.dir,.int .i64 x.info,.int .i64 x.files,.int .i64 x.out,.int .i64 x.way,.string top] 45
 b4:Blk W (h+1) #[.string ByteArray.empty] 9
 b5:Blk W (h+1+1) #[.bool false] 4
 hB:Below w.heap.size w W
theorem FI.keep {w W W':World} {h:Nat} {top:ByteArray} {x:Cn} (k:FI w h top x W) (hb:Below W.heap.size W W'):FI w h top x W':=⟨k.bx.keep hb,k.b4.keep hb,k.b5.keep hb,bnext k.hB hb⟩
theorem sfull_any (x:Cn) (s:ByteArray) (w:World) (hs:s.size≤20000) (ht:x.top.size≤20000) :
  Calls Tryz.prog 24 #[.agg #[.string x.path,.int .i64 x.dir,.int .i64 x.info,.int .i64 x.files,.int .i64 x.out,.int .i64 x.way,.string x.top],.string s] w fun e w'=>e=.returned (.tuple #[.string (fullF x.top s).1,.bool (fullF x.top s).2])∧Below w.heap.size w w':=by
 refine (callsIn_wide (n:=5)).1 ?_;refine callsIn_of_wp_marks Tryz.func24 rfl trivial ?_ rfl;simp only [Tryz.ntmps24,List.size_toArray,List.length_cons,List.length_nil,Nat.reduceAdd,Nat.reduceSub,Array.replicate_succ,Array.replicate_zero,List.push_toArray,List.append_toArray,List.nil_append,List.cons_append];have h0:=((Blk.new w #[.string x.path,.int .i64 x.dir,.int .i64 x.info,.int .i64 x.files,.int .i64 x.out,.int .i64 x.way,.string x.top] 45).old (.cells #[.string ByteArray.empty] 9)).old (.cells #[.bool false] 4);have h1:=(Blk.new (w.alloc (.cells #[.string x.path,.int .i64 x.dir,.int .i64 x.info,.int .i64 x.files,.int .i64 x.out,.int .i64 x.way,.string x.top] 45)) #[.string ByteArray.empty] 9).old (.cells #[.bool false] 4);have h2:=Blk.new ((w.alloc (.cells #[.string x.path,.int .i64 x.dir,.int .i64 x.info,.int .i64 x.files,.int .i64 x.out,.int .i64 x.way,.string x.top] 45)).alloc (.cells #[.string ByteArray.empty] 9)) #[.bool false] 4;have hz:(((w.alloc (.cells #[.string x.path,.int .i64 x.dir,.int .i64 x.info,.int .i64 x.files,.int .i64 x.out,.int .i64 x.way,.string x.top] 45)).alloc (.cells #[.string ByteArray.empty] 9)).alloc (.cells #[.bool false] 4)).heap.size=w.heap.size+3:=by simp
 have hb:=balloc (balloc (balloc (Below.refl w.heap.size w) (.cells #[.string x.path,.int .i64 x.dir,.int .i64 x.info,.int .i64 x.files,.int .i64 x.out,.int .i64 x.way,.string x.top] 45)) (.cells #[.string ByteArray.empty] 9)) (.cells #[.bool false] 4);simp only [World.size_alloc] at h1 h2;have HI0:=Lib.hid (show FI w w.heap.size x.top x _ from ⟨h0,h1,h2,hb⟩);clear h0 h1 h2 hb;refine wpIn_wide.2 ?_;go_wp2_with fail;show Calls Tryz.prog 55 #[.string s] (((w.alloc (.cells #[.string x.path,.int .i64 x.dir,.int .i64 x.info,.int .i64 x.files,.int .i64 x.out,.int .i64 x.way,.string x.top] 45)).alloc (.cells #[.string ByteArray.empty] 9)).alloc (.cells #[.bool false] 4)) _;generalize ((w.alloc (.cells #[.string x.path,.int .i64 x.dir,.int .i64 x.info,.int .i64 x.files,.int .i64 x.out,.int .i64 x.way,.string x.top] 45)).alloc (.cells #[.string ByteArray.empty] 9)).alloc (.cells #[.bool false] 4)=W0 at HI0 hz ⊢;have hS:=Blk.new W0 #[.string s] 9;have HI1:=Lib.hid (HI0.out.keep (balloc (Below.refl W0.heap.size W0) (.cells #[.string s] 9)));have hz1:(W0.alloc (.cells #[.string s] 9)).heap.size=w.heap.size+4:=by rw [World.size_alloc,hz]
 refine (nparts_any s _).mono ?_;rintro e W1 ⟨rfl,rfl⟩;rw [hz] at hS ⊢;generalize W0.alloc (.cells #[.string s] 9)=W1 at hS HI1 hz1 ⊢;have HS:=Lib.hid hS;clear hS;go_wp2_with fail;refine (wpIn_wide (n:=5)).1 ?_;refine' wpIn_rangeT (T:=fun k=>k=w.heap.size+3) rfl (by omega) (gf:=104) (lb:=#[.pointer (some ⟨w.heap.size+3,0,none⟩)]) rfl trivial (enters_of Tryz.func104 (by kernel_rfl) rfl)
  (parts_stops (5 - 1) (by omega) (w.heap.size+3) s (by omega) W1 HS.out) (fun k hk=>by omega) (KT.refl _ _) (fun _=>rfl)
  (fun pre W=>FI w w.heap.size x.top x W∧ddB∉pre)
  (fun c pre W=>c=.ret∧FI w w.heap.size x.top x W∧ddB∈partsL s.data.toList)
  (fun pre A B h ht=>?own) (fun c pre A B h ht=>?ownx) ⟨HI1.out,by simp⟩ _ ?assign ?body ?done ?stop
 case own=>exact ⟨⟨blkc_turn h.1.bx ht (by omega),blkc_turn h.1.b4 ht (by omega),blkc_turn h.1.b5 ht (by omega),belowc_turn h.1.hB ht (by omega) (fun k e=>by omega) (Nat.le_refl _)⟩,h.2⟩
 case ownx=>exact ⟨h.1,⟨blkc_turn h.2.1.bx ht (by omega),blkc_turn h.2.1.b4 ht (by omega),blkc_turn h.2.1.b5 ht (by omega),belowc_turn h.2.1.hB ht (by omega) (fun k e=>by omega) (Nat.le_refl _)⟩,h.2.2⟩
 case assign=>
  intro L y W K hK;gi_wp2;exact hK
 case body=>
  rintro L pre y W hL hLW ⟨hI,hn⟩ hv;have hyl:(str y).toList=y:=by rw [ba_list,str_list]
  have HI:=Lib.hid hI;have hWs:=hI.hB.size;by_cases hd:y=ddB
  ·have hyb:((str y).toList == [46,46])=true:=by rw [hyl,hd];rfl
   have HD:=Lib.hid (show ddB∈partsL s.data.toList from hv.subset (by simp [hd]));obtain⟨b4c,b4f,b4z⟩:=hI.b4.facts;obtain⟨b5c,b5f,b5z⟩:=hI.b5.facts;clear hd hyl hI hn hv;gi_wp2;exact⟨((KeepsOthers.setCell _ _ _).trans (KeepsOthers.setCell _ _ _)).from _,rfl,⟨(HI.out.bx.setOther _ _ (by simp)).setOther _ _ (show w.heap.size+1+1≠w.heap.size by omega),(HI.out.b4.set 0 _).setOther _ _ (by simp),(HI.out.b5.setOther _ _ (by simp)).set 0 _,(HI.out.hB.setCell (show w.heap.size≤w.heap.size+1 by omega) _).setCell (show w.heap.size≤w.heap.size+1+1 by omega) _⟩,HD.out⟩
  ·have hyb:((str y).toList == [46,46])=false:=by rw [hyl];exact beq_eq_false_iff_ne.2 hd
   have HN:=Lib.hid (show ddB∉pre ++ [y] by simp [hn,Ne.symm hd]);clear hd hyl hI hn hv;gi_wp2;exact⟨⟨Nat.le_refl _,fun _ _ _ h _=>h⟩,KT.refl _ _,HI.out,HN.out⟩
 case done=>
  rintro D xs W hD rfl ⟨hI,hn⟩ hK;have HHp:=Lib.hid (show ∀ w,Calls Tryz.prog 56 #[.string s,.string (ByteArray.mk #[47])] w fun e w'=>e=.returned (.bool (wholeB s.data.toList))∧w'=w from fun w=>by
   have h:=Tryz.strings_HasPrefix s (ByteArray.mk #[47]) w;rw [show (ByteArray.mk #[47]).data.toList=[47] from rfl,prefix_whole] at h;exact h)
  have HCl:=Lib.hid (fun w=>clean_any s w (by omega));have HJo:=Lib.hid (fun w=>tjoin_any x.top s w (by omega) (by omega));have hcz:=clean_size s;have hjz:(joinB x.top s).size≤40010:=by
   unfold joinB
   split
   ·omega
   ·have:=clean_size (x.top ++ ByteArray.mk #[47] ++ s);rw [ByteArray.size_append,ByteArray.size_append] at this;have e1:(ByteArray.mk #[47]).size=1:=rfl;omega
  have HF:=Lib.hid (show fullF x.top s=if x.top=ByteArray.empty∧wholeB s.data.toList=true then fineP (cleanB s) else if x.top≠ByteArray.empty∧wholeB s.data.toList=false then fineP (joinB x.top s) else (ByteArray.empty,false) from if_neg hn);have HK:=Lib.hid hK;have HI:=Lib.hid hI;obtain⟨xc,-,xz⟩:=hI.bx.facts;have hfr:fullF x.top s=fullF x.top s:=rfl;obtain⟨r,hr⟩:∃ r,fullF x.top s=r:=⟨_,rfl⟩;generalize wholeB s.data.toList=wh at HHp HF;generalize hcl:cleanB s=cl at HCl HF hcz;generalize hjn:joinB x.top s=jn at HJo HF hjz;have hWs:=hI.hB.size;clear hI hK hn hfr;go_wp2_with fail;refine (HHp.out _).mono ?_;rintro e W2 ⟨rfl,rfl⟩;by_cases ht0:x.top=ByteArray.empty
  ·have hte:x.top.toList=[]:=by rw [ht0];exact (ba_list _).trans rfl
   have hte2:x.top.toList.isEmpty=true:=by rw [hte];rfl
   cases wh with
   | true=>
    have HR:=Lib.hid (HF.out.trans (if_pos ⟨ht0,rfl⟩));clear ht0;go_wp2_with fail;refine (HCl.out _).mono ?_;rintro e W2 ⟨rfl,hb2⟩;have HI2:=Lib.hid (HI.out.keep hb2);have HK2:=Lib.hid ((hb2.block D (Array.getElem?_eq_some_iff.1 HK.out).1).trans HK.out);clear hb2 xc xz;have HSp:=Lib.hid (fun w=>tsplit_any cl w (by skip;omega));have HPa:=Lib.hid (fun w=>npath_any cl w (by skip;omega));have HCk:=Lib.hid (fun w=>ncheck_any (splitB2 cl).2 w (by have:=split_size cl;skip;omega));have HFi:=Lib.hid (show fineP cl=if pathE cl=0∧checkE (splitB2 cl).2=0 then (cl,true) else (ByteArray.empty,false) from rfl);generalize fineP cl=fp at HFi HR;generalize pathE cl=pe at HPa HFi;generalize checkE (splitB2 cl).2=ce at HCk HFi;generalize splitB2 cl=sp at HSp HCk;obtain⟨sd,sn⟩:=sp;dsimp only at HSp HCk;generalize cl=q at HSp HPa HFi HI2 ⊢;go_wp2_with fail;refine (HSp.out _).mono ?_;rintro e W3 ⟨rfl,hb3⟩;have HI3:=Lib.hid (HI2.out.keep hb3);have HK3:=Lib.hid ((hb3.block D (Array.getElem?_eq_some_iff.1 HK2.out).1).trans HK2.out);have h3:=HI3.out;obtain⟨b4c,b4f,b4z⟩:=h3.b4.facts;obtain⟨b5c,b5f,b5z⟩:=h3.b5.facts;clear hb3 h3;go_wp2_with fail;refine (HPa.out _).mono ?_;rintro e W4 ⟨rfl,rfl⟩;by_cases hpe:pe=0
    ·have hpb:(pe != 0)=false:=by simpa using hpe
     have hde:decide (pe=0)=true:=by simpa using hpe
     go_wp2_with fail;refine (HCk.out _).mono ?_;rintro e W5 ⟨rfl,rfl⟩;by_cases hce:ce=0
     ·have hcb:(ce != 0)=false:=by simpa using hce
      have HR2:=Lib.hid (HR.out.trans (HFi.out.trans (if_pos ⟨hpe,hce⟩)));clear hpe hce;go_wp2_with fail;exact sf_cells rfl (KeepsOthers.same ((KeepsOthers.setCell _ _ _).trans (KeepsOthers.setCell _ _ _)) D _ HK3.out rfl) ((HI3.out.hB.setCell (show w.heap.size≤w.heap.size+1 by omega) _).setCell (show w.heap.size≤w.heap.size+1+1 by omega) _) (by omega) ((HI3.out.b4.set 0 _).setOther _ _ (by simp)) ((HI3.out.b5.setOther _ _ (by simp)).set 0 _) rfl rfl HR2.out
     ·have hcb:(ce != 0)=true:=by simpa using hce
      have HR2:=Lib.hid (HR.out.trans (HFi.out.trans (if_neg (fun e=>hce e.2))));clear hpe hce;go_wp2_with fail;exact sf_cells rfl (KeepsOthers.same ((KeepsOthers.setCell _ _ _).trans (KeepsOthers.setCell _ _ _)) D _ HK3.out rfl) ((HI3.out.hB.setCell (show w.heap.size≤w.heap.size+1 by omega) _).setCell (show w.heap.size≤w.heap.size+1+1 by omega) _) (by omega) ((HI3.out.b4.set 0 _).setOther _ _ (by simp)) ((HI3.out.b5.setOther _ _ (by simp)).set 0 _) rfl rfl HR2.out
    ·have hpb:(pe != 0)=true:=by simpa using hpe
     have HR2:=Lib.hid (HR.out.trans (HFi.out.trans (if_neg (fun e=>hpe e.1))));clear hpe;go_wp2_with fail;exact sf_cells rfl (KeepsOthers.same ((KeepsOthers.setCell _ _ _).trans (KeepsOthers.setCell _ _ _)) D _ HK3.out rfl) ((HI3.out.hB.setCell (show w.heap.size≤w.heap.size+1 by omega) _).setCell (show w.heap.size≤w.heap.size+1+1 by omega) _) (by omega) ((HI3.out.b4.set 0 _).setOther _ _ (by simp)) ((HI3.out.b5.setOther _ _ (by simp)).set 0 _) rfl rfl HR2.out
   | false=>
    have HR:=Lib.hid (HF.out.trans ((if_neg (fun e=>by cases e.2)).trans (if_neg (fun e=>e.1 ht0))));obtain⟨b4c,b4f,b4z⟩:=HI.out.b4.facts;obtain⟨b5c,b5f,b5z⟩:=HI.out.b5.facts;clear ht0;go_wp2_with fail;exact sf_cells rfl (KeepsOthers.same ((KeepsOthers.setCell _ _ _).trans (KeepsOthers.setCell _ _ _)) D _ HK.out rfl) ((HI.out.hB.setCell (show w.heap.size≤w.heap.size+1 by omega) _).setCell (show w.heap.size≤w.heap.size+1+1 by omega) _) (by omega) ((HI.out.b4.set 0 _).setOther _ _ (by simp)) ((HI.out.b5.setOther _ _ (by simp)).set 0 _) rfl rfl HR.out
  ·have hte:¬ x.top.toList=[]:=fun e=>tl_ne ht0 (e.trans (by rw [ba_list];rfl));have hte2:x.top.toList.isEmpty=false:=by simpa using hte
   have hte3:(x.top.toList == [])=false:=by simpa using hte
   cases wh with
   | true=>
    have HR:=Lib.hid (HF.out.trans ((if_neg (fun e=>ht0 e.1)).trans (if_neg (fun e=>by cases e.2))));obtain⟨b4c,b4f,b4z⟩:=HI.out.b4.facts;obtain⟨b5c,b5f,b5z⟩:=HI.out.b5.facts;clear ht0;go_wp2_with fail;exact sf_cells rfl (KeepsOthers.same ((KeepsOthers.setCell _ _ _).trans (KeepsOthers.setCell _ _ _)) D _ HK.out rfl) ((HI.out.hB.setCell (show w.heap.size≤w.heap.size+1 by omega) _).setCell (show w.heap.size≤w.heap.size+1+1 by omega) _) (by omega) ((HI.out.b4.set 0 _).setOther _ _ (by simp)) ((HI.out.b5.setOther _ _ (by simp)).set 0 _) rfl rfl HR.out
   | false=>
    have HR:=Lib.hid (HF.out.trans ((if_neg (fun e=>ht0 e.1)).trans (if_pos ⟨ht0,rfl⟩)));clear ht0;go_wp2_with fail;refine (HJo.out _).mono ?_;rintro e W2 ⟨rfl,hb2⟩;have HI2:=Lib.hid (HI.out.keep hb2);have HK2:=Lib.hid ((hb2.block D (Array.getElem?_eq_some_iff.1 HK.out).1).trans HK.out);clear hb2 xc xz;have HSp:=Lib.hid (fun w=>tsplit_any jn w (by skip;omega));have HPa:=Lib.hid (fun w=>npath_any jn w (by skip;omega));have HCk:=Lib.hid (fun w=>ncheck_any (splitB2 jn).2 w (by have:=split_size jn;skip;omega));have HFi:=Lib.hid (show fineP jn=if pathE jn=0∧checkE (splitB2 jn).2=0 then (jn,true) else (ByteArray.empty,false) from rfl);generalize fineP jn=fp at HFi HR;generalize pathE jn=pe at HPa HFi;generalize checkE (splitB2 jn).2=ce at HCk HFi;generalize splitB2 jn=sp at HSp HCk;obtain⟨sd,sn⟩:=sp;dsimp only at HSp HCk;generalize jn=q at HSp HPa HFi HI2 ⊢;go_wp2_with fail;refine (HSp.out _).mono ?_;rintro e W3 ⟨rfl,hb3⟩;have HI3:=Lib.hid (HI2.out.keep hb3);have HK3:=Lib.hid ((hb3.block D (Array.getElem?_eq_some_iff.1 HK2.out).1).trans HK2.out);have h3:=HI3.out;obtain⟨b4c,b4f,b4z⟩:=h3.b4.facts;obtain⟨b5c,b5f,b5z⟩:=h3.b5.facts;clear hb3 h3;go_wp2_with fail;refine (HPa.out _).mono ?_;rintro e W4 ⟨rfl,rfl⟩;by_cases hpe:pe=0
    ·have hpb:(pe != 0)=false:=by simpa using hpe
     have hde:decide (pe=0)=true:=by simpa using hpe
     go_wp2_with fail;refine (HCk.out _).mono ?_;rintro e W5 ⟨rfl,rfl⟩;by_cases hce:ce=0
     ·have hcb:(ce != 0)=false:=by simpa using hce
      have HR2:=Lib.hid (HR.out.trans (HFi.out.trans (if_pos ⟨hpe,hce⟩)));clear hpe hce;go_wp2_with fail;exact sf_cells rfl (KeepsOthers.same ((KeepsOthers.setCell _ _ _).trans (KeepsOthers.setCell _ _ _)) D _ HK3.out rfl) ((HI3.out.hB.setCell (show w.heap.size≤w.heap.size+1 by omega) _).setCell (show w.heap.size≤w.heap.size+1+1 by omega) _) (by omega) ((HI3.out.b4.set 0 _).setOther _ _ (by simp)) ((HI3.out.b5.setOther _ _ (by simp)).set 0 _) rfl rfl HR2.out
     ·have hcb:(ce != 0)=true:=by simpa using hce
      have HR2:=Lib.hid (HR.out.trans (HFi.out.trans (if_neg (fun e=>hce e.2))));clear hpe hce;go_wp2_with fail;exact sf_cells rfl (KeepsOthers.same ((KeepsOthers.setCell _ _ _).trans (KeepsOthers.setCell _ _ _)) D _ HK3.out rfl) ((HI3.out.hB.setCell (show w.heap.size≤w.heap.size+1 by omega) _).setCell (show w.heap.size≤w.heap.size+1+1 by omega) _) (by omega) ((HI3.out.b4.set 0 _).setOther _ _ (by simp)) ((HI3.out.b5.setOther _ _ (by simp)).set 0 _) rfl rfl HR2.out
    ·have hpb:(pe != 0)=true:=by simpa using hpe
     have HR2:=Lib.hid (HR.out.trans (HFi.out.trans (if_neg (fun e=>hpe e.1))));clear hpe;go_wp2_with fail;exact sf_cells rfl (KeepsOthers.same ((KeepsOthers.setCell _ _ _).trans (KeepsOthers.setCell _ _ _)) D _ HK3.out rfl) ((HI3.out.hB.setCell (show w.heap.size≤w.heap.size+1 by omega) _).setCell (show w.heap.size≤w.heap.size+1+1 by omega) _) (by omega) ((HI3.out.b4.set 0 _).setOther _ _ (by simp)) ((HI3.out.b5.setOther _ _ (by simp)).set 0 _) rfl rfl HR2.out
 case stop=>
  rintro D c pre W hD - ⟨rfl,hI,hm⟩ hK;have hF:fullF x.top s=(ByteArray.empty,false):=if_pos hm;gi_wp2;exact sf_cells rfl hK hI.hB (by omega) hI.b4 hI.b5 rfl rfl hF
end
section
open Go.RowKit
attribute [local go_sem] Oper.semAt_some
theorem run_at_yes {P:Program} {w:World} {m:Nat} {l:List (Int×Value×Nat)} {clk:Nat} {T K E:TypeId} (ht:P.underlying T=some (.map K E)) (hk:P.underlying K=some (.int .i64)) (h:MapB w m l clk) {k:Int} {v:Value} (hf:mapFind l k=some v) :
  (Instr.lookup T (.map (some m)) (.int .i64 k) false).run P w=.ok v w:=by
 rw [mapFind_idx] at hf;unfold MapB at h;simp only [Option.bind_eq_some_iff,Option.map_eq_some_iff] at hf;obtain⟨j,hj,x,hx,rfl⟩:=hf;unfold Instr.lookup;simp [run_underlying ht,getObj,Sem.run,h,checkKey_int _ hk,run_findKey hk,hj,hx]
theorem run_at_no {P:Program} {w:World} {m:Nat} {l:List (Int×Value×Nat)} {clk:Nat} {T K E:TypeId} (ht:P.underlying T=some (.map K E)) (hk:P.underlying K=some (.int .i64)) (h:MapB w m l clk) {k:Int} (hf:mapFind l k=none) {z:Value} (hz:(zeroValue E).run P w=.ok z w) :
  (Instr.lookup T (.map (some m)) (.int .i64 k) false).run P w=.ok z w:=by
 rw [mapFind_none] at hf;unfold MapB at h;unfold Instr.lookup;simp [run_underlying ht,getObj,Sem.run,h,checkKey_int _ hk,run_findKey hk,hf,hz]
theorem told_mem {r:List Sp×Option (Sp×Int)} {p:Sp×Int} (h:r.2=some p):p∈toldL r:=by
 unfold toldL;rw [h];exact List.mem_append_right _ (List.mem_singleton.2 rfl)
theorem told_zero {r:List Sp×Option (Sp×Int)} {p:Sp×Int} (h:p∈toldL r) (hp:p.2≠0):r.2=some p:=by
 unfold toldL at h;rcases List.mem_append.1 h with h | h
 ·obtain ⟨x,-,rfl⟩:=List.mem_map.1 h;exact absurd rfl hp
 ·cases hr:r.2 with
  | none=>rw [hr] at h;cases h
  | some q=>rw [hr] at h;rw [List.mem_singleton.1 h]
theorem told_all {r:List Sp×Option (Sp×Int)} (h:r.2=none):(toldL r).map (·.1)=r.1:=by
 unfold toldL;rw [h,List.append_nil,List.map_map]
 conv=>rhs;rw [←List.map_id r.1]
 rfl
theorem down_err {S:Fs} {c:Cr}:∀ (f:Nat) (l:List Sp) (p:Sp×Int),(S.downL c f l).2=some p→p.2≠0
 | 0,_,_,h=>by cases h
 | _+1,[],_,h=>by cases h
 | f+1,x :: t,p,h=>by
  unfold Fs.downL at h;by_cases he:(S.intoF c x).2≠0
  ·rw [if_pos he] at h;injection h with h;subst h;exact he
  ·rw [if_neg he] at h;exact down_err f _ p h
theorem walk_err {S:Fs} {N:Nat} {d:Bool} {c:Cr} {dir:Int} {n:ByteArray} {p:Sp×Int} (h:(S.walkF N d c dir n).2=some p):p.2≠0:=by
 unfold Fs.walkF at h
 split at h
 ·rename_i he;injection h with h;subst h;exact he
 ·exact down_err _ _ p h
theorem ns_len {S:Fs} {N:Nat} (h:FsOk S N):S.ns.length≤N:=by
 have h1:(S.ns.map (·.no)).Nodup:=h.nums.rise.imp (fun h=>by omega);have h2:=nodup_len (S.ns.map (·.no)) ((List.range N).map (fun k:Nat=>(k:Int)+1)) h1 (fun c hc=>by
  obtain⟨a,ha,rfl⟩:=List.mem_map.1 hc;obtain⟨h3,h4⟩:=h.nums.low a ha;have h5:=h.lN;exact List.mem_map.2 ⟨(a.no - 1).toNat,List.mem_range.2 (by omega),by omega⟩)
 simpa using h2
theorem alloc_get (w:World) (o:Obj) (k:Nat):(w.alloc o).heap[k]? = if k=w.heap.size then some o else w.heap[k]?:=by
 by_cases h:k=w.heap.size
 ·subst h;rw [if_pos rfl];exact World.alloc_heap_new w o
 ·rw [if_neg h];by_cases hlt:k<w.heap.size
  ·exact Below.heap_alloc w o k hlt
  ·rw [Array.getElem?_eq_none (by simp <;> omega),Array.getElem?_eq_none (by omega)]
theorem keeps_low {S:Nat→Prop} {B:Nat} {w W:World} (h:Mod S w W) (hS:∀ k,S k→k<B):KeepsFrom B w W:=
 ⟨h.size,fun k o hB hk _=>(h.block k (Array.getElem?_eq_some_iff.1 hk).1 (fun hs=>by have:=hS k hs;omega)).trans hk⟩
theorem SyAt.turnT {w w':World} {pf pw:Nat} {R:Rp} {pv:Value} {Y:Sy} (h:SyAt w pf pw R pv Y) (ht:∀ k,k<w.heap.size→w'.heap[k]? = w.heap[k]?) (hs:w.heap.size≤w'.heap.size):SyAt w' pf pw R pv Y:=
 have ht':∀ (k:Nat) (o:Obj),w.heap[k]? = some o→w'.heap[k]? = w.heap[k]?:=fun k o ho=>ht k (Array.getElem?_eq_some_iff.1 ho).1
 ⟨(ht' _ _ h.blk).trans h.blk,h.wd.turn (fun k o ho _=>ht' k o ho) hs,h.plan.1,h.plan.2.imp id fun ⟨g,cap,cur,h1,h2,hg,h3⟩=>⟨g,cap,cur,h1,h2,(ht' _ _ hg).trans hg,h3⟩⟩
structure TrI (w:World) (pf:Nat) (S:Fs) (pre:List (Sp×Int)) (W:World):Prop where
 bf:Blk W w.heap.size #[.pointer (some ⟨pf,0,none⟩)] 40
 r8:Blk W (w.heap.size+1+1) #[.int .i64 0] 3
 r9:Blk W (w.heap.size+1+1+1) #[.int .i64 0] 3
 r10:Blk W (w.heap.size+1+1+1+1) #[.int .i64 0] 57
 sz:Blk W (w.heap.size+1+1+1+1+1) #[.int .i64 (S.heavy [] (pre.map (·.1)))] 3
 mp:∃ l clk,MapB W (w.heap.size+1+1+1+1+1+1) l clk∧Met l (pre.map (·.1.no))
 mb:Blk W (w.heap.size+1+1+1+1+1+1+1) #[.map (some (w.heap.size+1+1+1+1+1+1))] 108
 z:∀ p∈pre,p.2=0
 below:Below w.heap.size w W
structure TrX (w:World) (pre:List (Sp×Int)) (W:World):Prop where
 ex:∃ p∈pre,p.2≠0∧Blk W (w.heap.size+1+1+1+1) #[.int .i64 p.2] 57
 r8:Blk W (w.heap.size+1+1) #[.int .i64 0] 3
 r9:Blk W (w.heap.size+1+1+1) #[.int .i64 0] 3
 below:Below w.heap.size w W
section
variable {w:World} {pf:Nat} {S:Fs} {pre:List (Sp×Int)} {N:Nat} {A C:World}
theorem blk_any {B:Nat} {vs:Array Value} {T:TypeId} (h:Blk A B vs T) (ht:Turn NoT N anyO A C) (hB:B<N):Blk C B vs T:=ht.block B _ h (fun h=>h) (fun hle=>by omega)
theorem below_any {M:Nat} {w0:World} (h:Below M w0 A) (ht:Turn NoT N anyO A C) (hN:M≤N) (hM:M≤w0.heap.size):Below M w0 C:=by
 refine ⟨ht.os.trans h.os,ht.tape.trans h.tape,ht.output.trans h.output,Nat.le_trans h.size ht.size,fun k hk=>?_⟩;obtain⟨o,ho⟩:∃ o,w0.heap[k]? = some o:=⟨w0.heap[k]'(by omega),Array.getElem?_eq_getElem _⟩;have h1:=(h.block k hk).trans ho;rw [ht.block k o h1 (fun h=>h) (fun h=>by omega),ho]
theorem TrI.turn (h:TrI w pf S pre A) (ht:Turn NoT N anyO A C) (hN:w.heap.size+8≤N):TrI w pf S pre C:=by
 obtain⟨l,clk,h1,h2⟩:=h.mp;exact⟨blk_any h.bf ht (by omega),blk_any h.r8 ht (by omega),blk_any h.r9 ht (by omega),blk_any h.r10 ht (by omega),blk_any h.sz ht (by omega),⟨l,clk,ht.block _ _ h1 (fun h=>h) (fun hle=>by omega),h2⟩,blk_any h.mb ht (by omega),h.z,below_any h.below ht (by omega) (Nat.le_refl _)⟩
theorem TrX.turn (h:TrX w pre A) (ht:Turn NoT N anyO A C) (hN:w.heap.size+8≤N):TrX w pre C:=by
 obtain⟨p,h0,h1,h2⟩:=h.ex;exact⟨⟨p,h0,h1,blk_any h2 ht (by omega)⟩,blk_any h.r8 ht (by omega),blk_any h.r9 ht (by omega),below_any h.below ht (by omega) (Nat.le_refl _)⟩
end
theorem tree_ret {w W:World} {tmps:Array Value} {D:Nat} {a b e:Int} {B0 B1 B2:Nat} (hK:W.heap[D]? = some (.deferred (some []))) (hD:w.heap.size≤D) (hb:Below w.heap.size w W)
  (h0:Blk W B0 #[.int .i64 a] 3) (h1:Blk W B1 #[.int .i64 b] 3) (h2:Blk W B2 #[.int .i64 e] 57)
  (t8:tmps.getD 8 undef=.pointer (some ⟨B0,0,none⟩)) (t9:tmps.getD 9 undef=.pointer (some ⟨B1,0,none⟩)) (t10:tmps.getD 10 undef=.pointer (some ⟨B2,0,none⟩)) {X E:Int} (hX:a=X) (hE:e=E) :
  bodyPostM Fence.wide 5 Tryz.prog Tryz.f17 (fun z w'=>∃ m,z=.returned (.tuple #[.int .i64 X,.int .i64 m,.int .i64 E])∧Below w.heap.size w w') .ret {tmps,defers:=[{target:=.collected D,args:=#[]}]} W:=by
 subst hX hE;rw [Array.getD_eq_getD_getElem?] at t8 t9 t10;have hne:∀ {B:Nat} {vs:Array Value} {T:TypeId},Blk W B vs T→B≠D:=fun h he=>by
  subst he;unfold Blk at h;rw [hK] at h
  cases h
 show LeavesInM Fence.wide 5 Tryz.prog Tryz.f17 _ _ _ _ W;refine ⟨by simp,.inl ⟨_,_,rfl,run_takeDeferred hK,?_⟩⟩;have q0:=(h0.mod (S:=fun k=>k=D) (w':=W.putObj D (.deferred none)) ⟨rfl,rfl,rfl,by simp,fun k hk hn=>World.putObj_heap_other hn⟩ (hne h0)).cell 0;have q1:=(h1.mod (S:=fun k=>k=D) (w':=W.putObj D (.deferred none)) ⟨rfl,rfl,rfl,by simp,fun k hk hn=>World.putObj_heap_other hn⟩ (hne h1)).cell 0;have q2:=(h2.mod (S:=fun k=>k=D) (w':=W.putObj D (.deferred none)) ⟨rfl,rfl,rfl,by simp,fun k hk hn=>World.putObj_heap_other hn⟩ (hne h2)).cell 0;refine ⟨.tuple #[.int .i64 a,.int .i64 b,.int .i64 e],?_,b,rfl,⟨hb.os,hb.tape,hb.output,Nat.le_trans hb.size (by simp),fun k hk=>(World.putObj_heap_other (fun e=>by omega)).trans (hb.block k hk)⟩⟩;simp [results,Tryz.results17,go_sem,t8,t9,t10,q0,q1,q2]
theorem zero_intW (w:World):(zeroValue 3).run Tryz.prog w=.ok (.int .i64 0) w:=by kernel_rfl
section
variable {w:World} {pf:Nat} {S:Fs} {pre:List (Sp×Int)} {W:World}
theorem TrI.bad (h:TrI w pf S pre W) (x:Sp) {xe:Int} (he:xe≠0) {N:Nat} (hN:w.heap.size+8≤N) :
  KeepsFrom N W (((W.setCell ⟨w.heap.size+1+1,0,none⟩ (.int .i64 0)).setCell ⟨w.heap.size+1+1+1,0,none⟩ (.int .i64 0)).setCell ⟨w.heap.size+1+1+1+1,0,none⟩ (.int .i64 xe))∧
  TrX w (pre ++ [(x,xe)]) (((W.setCell ⟨w.heap.size+1+1,0,none⟩ (.int .i64 0)).setCell ⟨w.heap.size+1+1+1,0,none⟩ (.int .i64 0)).setCell ⟨w.heap.size+1+1+1+1,0,none⟩ (.int .i64 xe)):=by
 have hm:=(((Mod.refl (fun k=>k<N) W).setCell (a:=⟨w.heap.size+1+1,0,none⟩) (.inl (show w.heap.size+1+1<N by omega)) (.int .i64 0)).setCell (a:=⟨w.heap.size+1+1+1,0,none⟩) (.inl (show w.heap.size+1+1+1<N by omega)) (.int .i64 0)).setCell (a:=⟨w.heap.size+1+1+1+1,0,none⟩) (.inl (show w.heap.size+1+1+1+1<N by omega)) (.int .i64 xe);refine ⟨keeps_low hm (fun k hk=>hk),⟨_,List.mem_append_right _ (List.mem_singleton.2 rfl),he,?_⟩,?_,?_,((h.below.setCell (p:=⟨w.heap.size+1+1,0,none⟩) (show w.heap.size≤w.heap.size+1+1 by omega) _).setCell (p:=⟨w.heap.size+1+1+1,0,none⟩) (show w.heap.size≤w.heap.size+1+1+1 by omega) _).setCell (p:=⟨w.heap.size+1+1+1+1,0,none⟩) (show w.heap.size≤w.heap.size+1+1+1+1 by omega) _⟩
 ·exact ((h.r10.setOther _ _ (by simp <;> omega)).setOther _ _ (by simp <;> omega)).set 0 _
 ·exact ((h.r8.set 0 _).setOther _ _ (by simp <;> omega)).setOther _ _ (by simp <;> omega)
 ·exact ((h.r9.setOther _ _ (by simp <;> omega)).set 0 _).setOther _ _ (by simp <;> omega)
theorem TrI.fin (h:TrI w pf S pre W) (s m:Int) {N:Nat} (hN:w.heap.size+8≤N) :
  Mod (fun k=>k<N) W (((W.setCell ⟨w.heap.size+1+1,0,none⟩ (.int .i64 s)).setCell ⟨w.heap.size+1+1+1,0,none⟩ (.int .i64 m)).setCell ⟨w.heap.size+1+1+1+1,0,none⟩ (.int .i64 0))∧
  Blk (((W.setCell ⟨w.heap.size+1+1,0,none⟩ (.int .i64 s)).setCell ⟨w.heap.size+1+1+1,0,none⟩ (.int .i64 m)).setCell ⟨w.heap.size+1+1+1+1,0,none⟩ (.int .i64 0)) (w.heap.size+1+1) #[.int .i64 s] 3∧
  Blk (((W.setCell ⟨w.heap.size+1+1,0,none⟩ (.int .i64 s)).setCell ⟨w.heap.size+1+1+1,0,none⟩ (.int .i64 m)).setCell ⟨w.heap.size+1+1+1+1,0,none⟩ (.int .i64 0)) (w.heap.size+1+1+1) #[.int .i64 m] 3∧
  Blk (((W.setCell ⟨w.heap.size+1+1,0,none⟩ (.int .i64 s)).setCell ⟨w.heap.size+1+1+1,0,none⟩ (.int .i64 m)).setCell ⟨w.heap.size+1+1+1+1,0,none⟩ (.int .i64 0)) (w.heap.size+1+1+1+1) #[.int .i64 0] 57∧
  Below w.heap.size w (((W.setCell ⟨w.heap.size+1+1,0,none⟩ (.int .i64 s)).setCell ⟨w.heap.size+1+1+1,0,none⟩ (.int .i64 m)).setCell ⟨w.heap.size+1+1+1+1,0,none⟩ (.int .i64 0)):=by
 refine ⟨(((Mod.refl (fun k=>k<N) W).setCell (a:=⟨w.heap.size+1+1,0,none⟩) (.inl (show w.heap.size+1+1<N by omega)) _).setCell (a:=⟨w.heap.size+1+1+1,0,none⟩) (.inl (show w.heap.size+1+1+1<N by omega)) _).setCell (a:=⟨w.heap.size+1+1+1+1,0,none⟩) (.inl (show w.heap.size+1+1+1+1<N by omega)) _,?_,?_,?_,
  ((h.below.setCell (p:=⟨w.heap.size+1+1,0,none⟩) (show w.heap.size≤w.heap.size+1+1 by omega) _).setCell (p:=⟨w.heap.size+1+1+1,0,none⟩) (show w.heap.size≤w.heap.size+1+1+1 by omega) _).setCell (p:=⟨w.heap.size+1+1+1+1,0,none⟩) (show w.heap.size≤w.heap.size+1+1+1+1 by omega) _⟩
 ·exact ((h.r8.set 0 _).setOther _ _ (by simp <;> omega)).setOther _ _ (by simp <;> omega)
 ·exact ((h.r9.setOther _ _ (by simp <;> omega)).set 0 _).setOther _ _ (by simp <;> omega)
 ·exact ((h.r10.setOther _ _ (by simp <;> omega)).setOther _ _ (by simp <;> omega)).set 0 _
theorem heavy_map {x:Sp}:x.no∈pre.map (·.1.no)↔x.no∈(pre.map (·.1)).map (·.no):=by rw [List.map_map];rfl
theorem TrI.old (h:TrI w pf S pre W) {x:Sp} (hx:x.no∈pre.map (·.1.no)):∃ q:Nat,1≤q∧q≤pre.length∧(Instr.lookup 108 (.map (some (w.heap.size+1+1+1+1+1+1))) (.int .i64 x.no) false).run Tryz.prog W=.ok (.int .i64 q) W∧
  ∃ W1,(Instr.mapUpdate 108 (.map (some (w.heap.size+1+1+1+1+1+1))) (.int .i64 x.no) (.int .i64 ((q:Int)+1))).run Tryz.prog W=.ok () W1∧(Instr.lookup 108 (.map (some (w.heap.size+1+1+1+1+1+1))) (.int .i64 x.no) false).run Tryz.prog W1=.ok (.int .i64 ((q:Int)+1)) W1∧
   TrI w pf S (pre ++ [(x,0)]) W1∧(∀ B vs T,Blk W B vs T→Blk W1 B vs T)∧Mod (fun k=>k=w.heap.size+1+1+1+1+1+1) W W1:=by
 obtain⟨l,clk,hM,hF⟩:=h.mp;have hy:=hF.yes hx;have hc:=hF.more hx;have hp:0<(pre.map (·.1.no)).count x.no:=List.count_pos_iff.2 hx;have hle:(pre.map (·.1.no)).count x.no≤pre.length:=by have:=List.count_le_length (a:=x.no) (l:=pre.map (·.1.no));rwa [List.length_map] at this
 have hcnt:((pre.map (·.1.no)) ++ [x.no]).count x.no=(pre.map (·.1.no)).count x.no+1:=by rw [List.count_append];simp
 have hz:=hc.yes (List.mem_append_right _ (List.mem_singleton.2 rfl));rw [hcnt] at hz;generalize (pre.map (·.1.no)).count x.no=q at hy hc hp hle hz;obtain⟨W1,h1,h2,h3,h4⟩:=step_put (w:=W) Tryz.underlying108 Tryz.underlying3 hM hF.once (k:=x.no) (.int .i64 ((q:Int)+1)) hy;have hb:Below w.heap.size w W1:=h.below.trans (h4.below (fun k hk=>by omega) h.below.size);have hsz:=h3 _ _ _ h.sz;have hl2:=run_at_yes Tryz.underlying108 Tryz.underlying3 h2 hz;rw [show ((q+1:Nat):Int)=(q:Int)+1 from by omega] at hl2;refine ⟨q,hp,hle,run_at_yes Tryz.underlying108 Tryz.underlying3 hM hy,W1,h1,hl2,?_,h3,h4⟩;refine ⟨h3 _ _ _ h.bf,h3 _ _ _ h.r8,h3 _ _ _ h.r9,h3 _ _ _ h.r10,?_,⟨_,_,h2,?_⟩,h3 _ _ _ h.mb,fun p hp=>?_,hb⟩
 ·rw [List.map_append,List.map_singleton,heavy_snoc,if_pos (.inr (heavy_map.1 hx)),show ((0:Nat):Int)=0 from rfl,Int.add_zero];exact hsz
 ·rw [List.map_append,List.map_singleton];exact hc
 ·rcases List.mem_append.1 hp with hp | hp
  ·exact h.z p hp
  ·rw [List.mem_singleton.1 hp]
theorem TrI.new (h:TrI w pf S pre W) {x:Sp} (hx:x.no∉pre.map (·.1.no)):(Instr.lookup 108 (.map (some (w.heap.size+1+1+1+1+1+1))) (.int .i64 x.no) false).run Tryz.prog W=.ok (.int .i64 0) W∧
  ∃ W1,(Instr.mapUpdate 108 (.map (some (w.heap.size+1+1+1+1+1+1))) (.int .i64 x.no) (.int .i64 1)).run Tryz.prog W=.ok () W1∧(Instr.lookup 108 (.map (some (w.heap.size+1+1+1+1+1+1))) (.int .i64 x.no) false).run Tryz.prog W1=.ok (.int .i64 1) W1∧
   Below w.heap.size w W1∧(∀ B vs T,Blk W B vs T→Blk W1 B vs T)∧Mod (fun k=>k=w.heap.size+1+1+1+1+1+1) W W1∧
   ∀ V,Below W1.heap.size W1 V→TrI w pf S (pre ++ [(x,0)]) (V.setCell ⟨w.heap.size+1+1+1+1+1,0,none⟩ (.int .i64 (S.heavy [] (pre.map (·.1))+(S.getZ x.no).data.size))):=by
 obtain⟨l,clk,hM,hF⟩:=h.mp;obtain⟨W1,h1,h2,h3,h4⟩:=step_add (w:=W) Tryz.underlying108 Tryz.underlying3 hM (.int .i64 1) (k:=x.no) (hF.no hx);have hc:=hF.new hx clk;have hcnt:((pre.map (·.1.no)) ++ [x.no]).count x.no=1:=by rw [List.count_append,List.count_eq_zero_of_not_mem hx];simp
 have hb1:Below w.heap.size w W1:=h.below.trans (h4.below (fun k hk=>by omega) h.below.size);refine ⟨run_at_no Tryz.underlying108 Tryz.underlying3 hM (hF.no hx) (zero_intW W),W1,h1,?_,hb1,h3,h4,fun V hV=>?_⟩
 ·refine run_at_yes Tryz.underlying108 Tryz.underlying3 h2 ?_;rw [hc.yes (List.mem_append_right _ (List.mem_singleton.2 rfl)),hcnt];exact congrArg (fun z=>some (Value.int .i64 z)) (by omega)
 ·have hk:∀ {B:Nat} {vs:Array Value} {T:TypeId},Blk W B vs T→B≠w.heap.size+1+1+1+1+1→Blk (V.setCell ⟨w.heap.size+1+1+1+1+1,0,none⟩ (.int .i64 (S.heavy [] (pre.map (·.1))+(S.getZ x.no).data.size))) B vs T:=fun hB hne=>((h3 _ _ _ hB).keep hV).setOther _ _ (by simpa using fun e=>hne e.symm);refine ⟨hk h.bf (by omega),hk h.r8 (by omega),hk h.r9 (by omega),hk h.r10 (by omega),?_,⟨_,_,(h2.keep hV).setOther ⟨w.heap.size+1+1+1+1+1,0,none⟩ _ (by simp),?_⟩,hk h.mb (by omega),fun p hp=>?_,(hb1.trans (hV.mono hb1.size)).setCell (p:=⟨w.heap.size+1+1+1+1+1,0,none⟩) (show w.heap.size≤w.heap.size+1+1+1+1+1 by omega) _⟩
  ·rw [List.map_append,List.map_singleton,heavy_snoc,if_neg (by rintro (h0 | h0);exact absurd h0 (by simp);exact hx (heavy_map.2 h0))];exact ((h3 _ _ _ h.sz).keep hV).set 0 _
  ·rw [List.map_append,List.map_singleton];exact hc
  ·rcases List.mem_append.1 hp with hp | hp
   ·exact h.z p hp
   ·rw [List.mem_singleton.1 hp]
end
theorem boxes8 (w:World) (o0 o1 o2 o3 o4 o5 o6 o7:Obj):((((((((w.alloc o0).alloc o1).alloc o2).alloc o3).alloc o4).alloc o5).alloc o6).alloc o7).heap[w.heap.size]? = some o0∧((((((((w.alloc o0).alloc o1).alloc o2).alloc o3).alloc o4).alloc o5).alloc o6).alloc o7).heap[w.heap.size+1]? = some o1∧((((((((w.alloc o0).alloc o1).alloc o2).alloc o3).alloc o4).alloc o5).alloc o6).alloc o7).heap[w.heap.size+1+1]? = some o2∧((((((((w.alloc o0).alloc o1).alloc o2).alloc o3).alloc o4).alloc o5).alloc o6).alloc o7).heap[w.heap.size+1+1+1]? = some o3∧((((((((w.alloc o0).alloc o1).alloc o2).alloc o3).alloc o4).alloc o5).alloc o6).alloc o7).heap[w.heap.size+1+1+1+1]? = some o4∧((((((((w.alloc o0).alloc o1).alloc o2).alloc o3).alloc o4).alloc o5).alloc o6).alloc o7).heap[w.heap.size+1+1+1+1+1]? = some o5∧((((((((w.alloc o0).alloc o1).alloc o2).alloc o3).alloc o4).alloc o5).alloc o6).alloc o7).heap[w.heap.size+1+1+1+1+1+1]? = some o6∧((((((((w.alloc o0).alloc o1).alloc o2).alloc o3).alloc o4).alloc o5).alloc o6).alloc o7).heap[w.heap.size+1+1+1+1+1+1+1]? = some o7∧Below w.heap.size w ((((((((w.alloc o0).alloc o1).alloc o2).alloc o3).alloc o4).alloc o5).alloc o6).alloc o7)∧((((((((w.alloc o0).alloc o1).alloc o2).alloc o3).alloc o4).alloc o5).alloc o6).alloc o7).heap.size=w.heap.size+8:=by
 refine ⟨?_,?_,?_,?_,?_,?_,?_,?_,balloc (balloc (balloc (balloc (balloc (balloc (balloc (balloc (Below.refl w.heap.size w) _) _) _) _) _) _) _) _,by simp⟩
 all_goals
  simp only [alloc_get,World.size_alloc]
  repeat (first | rw [if_neg (by omega)] | exact if_pos trivial | exact if_pos rfl)
theorem boxes4 (w:World) (o0 o1 o2 o3:Obj):((((w.alloc o0).alloc o1).alloc o2).alloc o3).heap[w.heap.size]? = some o0∧((((w.alloc o0).alloc o1).alloc o2).alloc o3).heap[w.heap.size+1]? = some o1∧((((w.alloc o0).alloc o1).alloc o2).alloc o3).heap[w.heap.size+1+1]? = some o2∧((((w.alloc o0).alloc o1).alloc o2).alloc o3).heap[w.heap.size+1+1+1]? = some o3∧Below w.heap.size w ((((w.alloc o0).alloc o1).alloc o2).alloc o3)∧((((w.alloc o0).alloc o1).alloc o2).alloc o3).heap.size=w.heap.size+4:=by
 refine ⟨?_,?_,?_,?_,balloc (balloc (balloc (balloc (Below.refl w.heap.size w) _) _) _) _,by simp⟩
 all_goals
  simp only [alloc_get,World.size_alloc]
  repeat (first | rw [if_neg (by omega)] | exact if_pos trivial | exact if_pos rfl)
section
variable {w w':World} {pf pw:Nat} {R:Rp} {pv:Value} {Y:Sy}
theorem wtree_any (h:SyAt w pf pw R pv Y) {N:Nat} (hF:Fine Y.fs N) (hN:N≤900) (hd:Y.dead=false) (c:Cr) (dir:Int) (nm:ByteArray) :
  Calls Tryz.prog 17 #[.pointer (some ⟨pf,0,none⟩),.agg #[.int .i64 c.u,.int .i64 c.g],.int .i64 dir,.string nm] w fun e w'=>∃ m,e=.returned (.tuple #[.int .i64 (Y.fs.treeF N Y.dead c dir nm).1,.int .i64 m,.int .i64 (Y.fs.treeF N Y.dead c dir nm).2])∧Below w.heap.size w w':=by
 have HTr:=Lib.hid (show Y.fs.treeF N Y.dead c dir nm=match (Y.fs.walkF N Y.dead c dir nm).2 with | some (_,e)=>(0,e) | none=>(Y.fs.heavy [] (Y.fs.walkF N Y.dead c dir nm).1,0) from rfl);generalize Y.fs.treeF N Y.dead c dir nm=X at HTr ⊢;obtain⟨g0,g1,g2,g3,g4,g5,g6,g7,hbW,hsW⟩:=boxes8 w (.cells #[.pointer (some ⟨pf,0,none⟩)] 40) (.cells #[.int .i64 c.u,.int .i64 c.g] 54) (.cells #[.int .i64 0] 3) (.cells #[.int .i64 0] 3) (.cells #[.int .i64 0] 57) (.cells #[.int .i64 0] 3) (.map #[] 0) (.cells #[.map (some (w.heap.size+1+1+1+1+1+1))] 108);have hmm:=@run_makeMap Tryz.prog;refine (callsIn_wide (n:=5)).1 ?_;refine callsIn_of_wp_marks Tryz.func17 rfl trivial ?_ rfl;simp only [Tryz.ntmps17,List.size_toArray,List.length_cons,List.length_nil,Nat.reduceAdd,Nat.reduceSub,Array.replicate_succ,Array.replicate_zero,List.push_toArray,List.append_toArray,List.nil_append,List.cons_append]
 gi_upto_region 3 with fail
 generalize (((((((w.alloc (.cells #[.pointer (some ⟨pf,0,none⟩)] 40)).alloc (.cells #[.int .i64 c.u,.int .i64 c.g] 54)).alloc (.cells #[.int .i64 0] 3)).alloc (.cells #[.int .i64 0] 3)).alloc (.cells #[.int .i64 0] 57)).alloc (.cells #[.int .i64 0] 3)).alloc (.map #[] 0)).alloc (.cells #[.map (some (w.heap.size+1+1+1+1+1+1))] 108)=w1 at g0 g1 g2 g3 g4 g5 g6 g7 hbW hsW ⊢;clear hmm;have hB0:Blk w1 w.heap.size #[.pointer (some ⟨pf,0,none⟩)] 40:=g0;have hB1:Blk w1 (w.heap.size+1) #[.int .i64 c.u,.int .i64 c.g] 54:=g1;have hI1:TrI w pf Y.fs [] w1:=⟨g0,g2,g3,g4,g5,⟨[],0,g6,Met.nil⟩,g7,(fun p hp=>by cases hp),hbW⟩;have HI1:=Lib.hid (And.intro hI1 (And.intro hB1 hsW));have HY0:=Lib.hid h;have HK:=Lib.hid (And.intro hF (And.intro hN hd));obtain⟨fc,ff,fz⟩:=hB0.facts;obtain⟨cc,cf,cz⟩:=hB1.facts;clear g0 g1 g2 g3 g4 g5 g6 g7 hbW hsW hI1 h hF hN hd hB0 hB1;gi_wp2;refine ⟨trivial,?_⟩;refine (callsIn_wide.2 (wdown_any pf c dir nm w1)).mono ?_;rintro e W0 ⟨rfl,hW0⟩;clear fc ff fz cc cf cz;obtain⟨k0,k1,k2,k3,hb0,hs0⟩:=boxes4 w1 (.cells #[.pointer (some ⟨pf,0,none⟩)] 40) (.cells #[.int .i64 c.u,.int .i64 c.g] 54) (.cells #[.int .i64 dir] 3) (.cells #[.string nm] 9);rw [←hW0] at k0 k1 k2 k3 hb0 hs0;clear hW0;have hs1:=HI1.out.2.2;have hI0:TrI w pf Y.fs [] W0:=HI1.out.1.turn (N:=w1.heap.size) (turn_any hb0) (by omega);have hC0:=HI1.out.2.1.keep hb0;have hTl:∀ k,(k<w.heap.size+2∨(w1.heap.size≤k∧k<w1.heap.size+4))→k<W0.heap.size:=fun k hk=>by omega
 have hDn:∀ W,KT (fun k=>k<w.heap.size+2∨(w1.heap.size≤k∧k<w1.heap.size+4)) W0 W→DnW pf pw R pv Y w1.heap.size (w1.heap.size+1) (w1.heap.size+1+1) (w1.heap.size+1+1+1) c dir nm W:=fun W hk=>by
  have hY0:SyAt W0 pf pw R pv Y:=HY0.out.keep hI0.below;refine ⟨HY0.out.turnT (fun k hk2=>(hk.2 k (.inl (by omega))).trans (hI0.below.block k hk2)) (Nat.le_trans hI0.below.size hk.1),?_,?_,?_,?_⟩
  ·exact (hk.2 _ (.inr ⟨by omega,by omega⟩)).trans k0
  ·exact (hk.2 _ (.inr ⟨by omega,by omega⟩)).trans k1
  ·exact (hk.2 _ (.inr ⟨by omega,by omega⟩)).trans k2
  ·exact (hk.2 _ (.inr ⟨by omega,by omega⟩)).trans k3
 have hSq:=down_stops (M:=fun k=>k=w.heap.size+1+1+1+1+1∨k=w.heap.size+1+1+1+1+1+1) HK.out.1 HK.out.2.1 HK.out.2.2 hTl hDn (5 - 1) (by omega);have HWL:=Lib.hid (walk_len HK.out.1 Y.dead c dir nm);have HEr:=Lib.hid (fun p=>walk_err (S:=Y.fs) (N:=N) (d:=Y.dead) (c:=c) (dir:=dir) (n:=nm) (p:=p));generalize Y.fs.walkF N Y.dead c dir nm=wk at hSq HWL HTr HEr;have HI0:=Lib.hid hI0;have HC0:=Lib.hid hC0;clear hI0 hC0 k0 k1 k2 k3 hDn;have HS1:=Lib.hid (And.intro hs1 hs0);clear hs1 hs0;gi_wp2;have hs1:=HS1.out.1;have hs0:=HS1.out.2;refine' wpIn_rangeA (M:=fun k=>k=w.heap.size+1+1+1+1+1∨k=w.heap.size+1+1+1+1+1+1) (T:=fun k=>k<w.heap.size+2∨(w1.heap.size≤k∧k<w1.heap.size+4)) rfl (by omega) (gf:=89) (lb:=#[.pointer (some ⟨w1.heap.size,0,none⟩),.pointer (some ⟨w1.heap.size+1,0,none⟩),.pointer (some ⟨w1.heap.size+1+1,0,none⟩),.pointer (some ⟨w1.heap.size+1+1+1,0,none⟩)]) rfl trivial (enters_of Tryz.func89 (by kernel_rfl) rfl)
  hSq (fun k hk=>by omega) hTl (fun k hk hm=>by omega) (KT.refl _ _) (fun _=>rfl)
  (fun pre W=>TrI w pf Y.fs pre W)
  (fun c pre W=>c=.ret∧TrX w pre W)
  (fun pre A C h ht=>TrI.turn h ht (by omega)) (fun c pre A C h ht=>⟨h.1,TrX.turn h.2 ht (by omega)⟩) HI0.out _ (fun x=>.cells #[.int .i64 x.1.dir,.string x.1.name,.int .i64 x.1.no,.int .i64 x.1.depth] 113) ?assign ?body ?done ?stop
 case assign=>
  intro L x b W K hb hK;have HB:=Lib.hid hb;clear hb;dsimp only [Sp.v];gi_wp2;rw [HB.out];exact hK
 case body=>
  rintro L pre x b W hL hLb hbW ho hI hv;obtain⟨x,xe⟩:=x;have hbx:Blk W b #[.int .i64 x.dir,.string x.name,.int .i64 x.no,.int .i64 x.depth] 113:=ho;have hWsz:W0.heap.size≤W.heap.size:=by omega
  have HI:=Lib.hid hI;have HBx:=Lib.hid (And.intro hbx (And.intro hL (And.intro hLb hWsz)));have hlen:pre.length≤1000000:=by
   have h1:=hv.length_le;have h2:(toldL wk).length≤wk.1.length+1:=by
    unfold toldL;rw [List.length_append,List.length_map]
    cases wk.2 with
    | none=>simp
    | some p=>simp
   have h3:=HWL.out;unfold Fs.rowsF at h3;have h4:=ns_len HK.out.1.ok;have h5:(N+1)*Y.fs.ns.length≤901*900:=Nat.mul_le_mul (by have:=HK.out.2.1;omega) (by have:=HK.out.2.1;omega);rw [List.length_append] at h1;omega
  obtain⟨xc,xf,xz⟩:=hbx.facts;clear hv ho hbx;by_cases he:xe≠0
  ·obtain ⟨c8,f8,z8⟩:=hI.r8.facts;obtain⟨c9,f9,z9⟩:=hI.r9.facts;obtain⟨c10,f10,z10⟩:=hI.r10.facts;have hve:(xe != 0)=true:=by simpa using he
   have HE:=Lib.hid he;clear he hI hlen;gi_wp2;obtain⟨k1,k2⟩:=HI.out.bad x HE.out (N:=W0.heap.size) (by have:=HS1.out;omega);exact⟨k1,rfl,k2⟩
  ·obtain rfl:xe=0:=by simpa using he
   clear he;obtain⟨cf,ff,zf⟩:=hI.bf.facts;obtain⟨cm,fm,zm⟩:=hI.mb.facts;by_cases hx:x.no∈pre.map (·.1.no)
   ·obtain ⟨q,hq1,hq2,hl1,W1,hmu,hl2,hI1,h3,h4⟩:=HI.out.old hx;have hb1:=h3 _ _ _ HBx.out.1;obtain⟨xc1,xf1,xz1⟩:=hb1.facts;obtain⟨cm1,fm1,zm1⟩:=(h3 _ _ _ hI.mb).facts;have HF:=Lib.hid (And.intro hI1 h4);have hq3:q≤1000000:=by omega
    clear hx hI hI1 h3 h4 hb1 hlen hq2;gi_wp2;exact⟨keeps_low HF.out.2 (fun k hk=>by have:=HS1.out;omega),HF.out.2.mono (fun k hk=>.inr hk),HF.out.1⟩
   ·obtain ⟨hl1,W1,hmu,hl2,hbl,h3,h4,hfin⟩:=HI.out.new hx;have hb1:=h3 _ _ _ HBx.out.1;have hf1:=h3 _ _ _ hI.bf;have hs1:=h3 _ _ _ hI.sz;obtain⟨xc1,xf1,xz1⟩:=hb1.facts;obtain⟨cm1,fm1,zm1⟩:=(h3 _ _ _ hI.mb).facts;obtain⟨cf1,ff1,zf1⟩:=hf1.facts;have HF:=Lib.hid (And.intro hfin (And.intro h4 (And.intro hbl hs1)));have hY1:=HY0.out.keep hbl;have HSt:=Lib.hid (sstatA_any hY1 HK.out.1.ok HK.out.2.2 x.no);obtain⟨hs0,hs1'⟩:=heavy_le HK.out.1.ok (by have:=ns_len HK.out.1.ok;have:=HK.out.2.1;omega) (pre.map (·.1));have hz1:((Y.fs.getZ x.no).data.size:Int)≤1048576:=by
     cases hg:Y.fs.get x.no with
     | none=>rw [getZ_none hg];decide
     | some a=>rw [getZ_some hg];have:=(HK.out.1.ok.get hg).1.data;omega
    generalize Y.fs.getZ x.no=a at HSt hz1 HF;generalize Y.fs.heavy [] (pre.map (·.1))=sv at hs0 hs1' HF;clear hx hI h3 h4 hb1 hf1 hs1 hlen hfin hbl hY1;gi_wp2;refine ⟨trivial,?_⟩;refine (CallsIn.inRound L (callsIn_wide.2 HSt.out)).mono ?_;rintro e V ⟨rfl,hV⟩;have hA:=Blk.new V #[.int .i64 a.no,.int .i64 a.dev,.int .i64 a.kind,.int .i64 a.mode,.int .i64 a.uid,.int .i64 a.gid,.int .i64 a.links,.int .i64 a.data.size,.int .i64 a.mtime,.int .i64 a.ctime] 115;have hbA:=balloc hV (.cells #[.int .i64 a.no,.int .i64 a.dev,.int .i64 a.kind,.int .i64 a.mode,.int .i64 a.uid,.int .i64 a.gid,.int .i64 a.links,.int .i64 a.data.size,.int .i64 a.mtime,.int .i64 a.ctime] 115)
    gi_upto_region 11 with fail
    generalize V.alloc (.cells #[.int .i64 a.no,.int .i64 a.dev,.int .i64 a.kind,.int .i64 a.mode,.int .i64 a.uid,.int .i64 a.gid,.int .i64 a.links,.int .i64 a.data.size,.int .i64 a.mtime,.int .i64 a.ctime] 115)=V2 at hA hbA ⊢;have hsV:=HF.out.2.2.2.keep hbA;obtain⟨cs,fs,zs⟩:=hsV.facts;obtain⟨ac,af,az⟩:=hA.facts;have HBA:=Lib.hid hbA;clear hA hbA hV hsV;gi_wp2;have hmf:=(((HF.out.2.1.mono (fun k hk=>.inr hk)).trans (Mod.of_below (S:=fun k=>k=w.heap.size+1+1+1+1+1∨k=w.heap.size+1+1+1+1+1+1) HBA.out))).setCell (a:=⟨w.heap.size+1+1+1+1+1,0,none⟩) (.inl (.inl rfl)) (.int .i64 (sv+a.data.size));exact⟨keeps_low hmf (fun k hk=>by have:=HS1.out;omega),hmf,HF.out.1 _ HBA.out⟩
 case done=>
  intro D xs W hD hxs hI hK;subst hxs;have hnone:wk.2=none:=by
   cases hw:wk.2 with
   | none=>rfl
   | some p=>exact absurd (hI.z p (told_mem hw)) (HEr.out p hw)
  have hX:X=(Y.fs.heavy [] ((toldL wk).map (·.1)),0):=by rw [HTr.out,hnone,told_all hnone]
  obtain⟨l,clk,hM,hF⟩:=hI.mp;have HI:=Lib.hid hI;have HX:=Lib.hid hX;have HKD:=Lib.hid (And.intro hK (And.intro hD hs0));have hln:=run_len Tryz.underlying108 hM 3;obtain⟨c8,f8,z8⟩:=hI.r8.facts;obtain⟨c9,f9,z9⟩:=hI.r9.facts;obtain⟨c10,f10,z10⟩:=hI.r10.facts;obtain⟨c11,f11,z11⟩:=hI.sz.facts;obtain⟨c12,f12,z12⟩:=hI.mb.facts;clear hI hX hnone hF hM hK;generalize Y.fs.heavy [] ((toldL wk).map (·.1))=sv at HX HI c11;dsimp only;gi_wp2;have hD1:=HKD.out.2.1;have hD2:=HKD.out.2.2;have hD3:=HS1.out.1;obtain⟨k1,k2,k3,k4,k5⟩:=HI.out.fin sv l.length (N:=D) (by omega);exact tree_ret ((k1.block D (Array.getElem?_eq_some_iff.1 HKD.out.1).1 (by omega)).trans HKD.out.1) (by omega) k5 k2 k3 k4 rfl rfl rfl (by rw [HX.out]) (by rw [HX.out])
 case stop=>
  rintro D c pre W hD ⟨m,hm⟩ ⟨rfl,hX⟩ hK;obtain⟨p,h1,h2,h3⟩:=hX.ex;have hw:wk.2=some p:=told_zero (by rw [hm] at h1;exact List.mem_of_mem_take h1) h2;have hXe:X=(0,p.2):=by rw [HTr.out,hw]
  have HX:=Lib.hid hX;dsimp only;clear hX;gi_wp2;exact tree_ret hK (by omega) HX.out.below HX.out.r8 HX.out.r9 h3 rfl rfl rfl (by rw [hXe]) (by rw [hXe])
end
end
section
open Go.RowKit Go.Shelf
attribute [local go_sem] Oper.semAt_some
theorem cfile_any (n:ByteArray) (hn:n.size≤1000) (w:World):Calls Tryz.prog 75 #[.string n] w fun e w'=>e=.returned (.string (n ++ nSfx))∧w=w':=by
 have hz:¬ 9223372036854775807<n.size+10:=by omega
 unfold nSfx;go_enter Tryz.func75,Tryz.ntmps75;go_wp2_with fail;go_ret;exact⟨rfl,rfl⟩
section
variable {w w' A B:World} {pf pw:Nat} {R:Rp} {pv:Value} {Y Z:Sy} {N:Nat}
structure NmI (w:World) (pf pw:Nat) (R:Rp) (pv:Value) (u:Us) (x:Cn) (text:ByteArray) (bc:Nat) (Z:Sy) (W:World):Prop where
 g:Goes w W pf pw R pv Z
 f:Blk W w.heap.size #[.pointer (some ⟨pf,0,none⟩)] 40
 x:Blk W (w.heap.size+1+1) #[.string x.path,.int .i64 x.dir,.int .i64 x.info,.int .i64 x.files,.int .i64 x.out,.int .i64 x.way,.string x.top] 45
 t:Blk W (w.heap.size+1+1+1) #[.string text] 9
 c:Blk W bc #[.int .i64 u.u,.int .i64 u.g] 54
 o:Blk W (w.heap.size+1+1+1+1) #[.string ByteArray.empty] 9
 e:Blk W (w.heap.size+1+1+1+1+1) #[.int .i64 0] 57
section
variable {u:Us} {x:Cn} {text:ByteArray} {bc:Nat}
end
end
end
end Go.Proofs.YtbndfmkgamdgeaaGreatDoor
