import Derived.Test.YtbndfmkgamdgeaaGreatDoorSO1
import Derived.Test.YtbndfmkgamdgeaaGreatDoorSO2
import Derived.Test.YtbndfmkgamdgeaaGreatDoorSO3
import Derived.Test.YtbndfmkgamdgeaaGreatDoorSO5
import Derived.Test.YtbndfmkgamdgeaaGreatDoorSO6
import Derived.Test.YtbndfmkgamdgeaaGreatDoorSO7
import Derived.Test.YtbndfmkgamdgeaaGreatDoorSO8
import Derived.Test.YtbndfmkgamdgeaaGreatDoorSO11
import Derived.Test.YtbndfmkgamdgeaaGreatDoorSO13
import Derived.Test.YtbndfmkgamdgeaaGreatDoorSO17
import Derived.Test.YtbndfmkgamdgeaaGreatDoorSO18
set_option linter.unusedVariables false
set_option linter.unusedSimpArgs false
set_option maxRecDepth 100000
set_option maxHeartbeats 16000000
namespace Go.Proofs.YtbndfmkgamdgeaaGreatDoor
section
open Go.RowKit
end
section
open Go.RowKit
def hexR (c:UInt8):Int:=if hexV c=-1 then 16 else hexV c
def dgt (j:Nat):Nat:=if j<10 then 48+j else 87+j
theorem hexV_eq (c:UInt8):hexV c=if 48≤c.toNat∧c.toNat≤57 then (c.toNat:Int) - 48 else if 97≤c.toNat∧c.toNat≤102 then (c.toNat:Int) - 87 else if 65≤c.toNat∧c.toNat≤70 then (c.toNat:Int) - 55 else -1:=by
 unfold hexV;simp only [u8_le];rfl
theorem hexV_cases (c:UInt8):(48≤c.toNat∧c.toNat≤57∧hexV c=(c.toNat:Int) - 48)∨(97≤c.toNat∧c.toNat≤102∧hexV c=(c.toNat:Int) - 87)∨(65≤c.toNat∧c.toNat≤70∧hexV c=(c.toNat:Int) - 55)∨
  (hexV c=-1∧¬ (48≤c.toNat∧c.toNat≤57)∧¬ (97≤c.toNat∧c.toNat≤102)∧¬ (65≤c.toNat∧c.toNat≤70)):=by
 rw [hexV_eq]
 (repeat' split) <;> omega
end
section
open Go
def noDefer (ops:Array Oper):Bool:=ops.all fun o=>match o.op with | .defer _=>false | _=>true
theorem noDefer_spec {ops:Array Oper} (h:noDefer ops=true) {i:Nat} {o:Oper} (hi:ops[i]? = some o):∀ c,o.op≠.defer c:=by
 intro c hc;unfold noDefer at h;rw [Array.all_eq_true] at h;obtain⟨hlt,rfl⟩:=Array.getElem?_eq_some_iff.1 hi;have:=h i hlt;rw [hc] at this
 cases this
section
variable {P:Program} {ops:Array Oper} {md:Region.Mode} {w:World} {l:Nat} {n:Nat}
end
end
section
open Go.RowKit
structure Rf.Like (R R':Rf):Prop where
 now:R'.now=R.now
 cnt:R'.cnt=R.cnt
 pl:R'.pl=R.pl
 dd:R'.dd=R.dd
section
variable {w w':World} {pf:Nat} {R:Rf} {S:Fs}
end
end
section
open Go.RowKit
end
section
open Go.RowKit
def insideB (b s:ByteArray):Bool:=decide (b=s) || Lib.hasPrefix s.data.toList (trimL b.data.toList ++ [47])
def Rw.to (r:Rw) (k:Int):Rw:={r with first:=k}
def anewL (l:List Rw):List Rw:=l.map fun r=>r.to ((l.map Rw.first).idxOf r.first:Nat)
def keepB (ps:List ByteArray) (r:Rw):Bool:=ps.all fun p=>!insideB p r.path
def butL (l:List Rw) (ps:List ByteArray):List Rw:=anewL (l.filter (keepB ps))
section
variable {B:Nat} {w w':World} {m:Nat} {vo:Value} {out:List Rw} {nos:List Int}
end
def pxR (cs:List Value) (s:ByteArray):Prop:=cs=[.string s]
end
section
open Go.RowKit
def CleanW (l:List UInt8):Prop:=l=[47]∨(l.head? = some 47∧trimL l=l)
def ptB:ByteArray:=ByteArray.mk #[46]
def relB (base s:ByteArray):ByteArray×Bool:=
 if wholeB (cleanB base).data.toList=true∧wholeB (cleanB s).data.toList=true∧insideB (cleanB base) (cleanB s)=true then
  (if cleanB base=cleanB s then ptB else str ((cleanB s).data.toList.drop ((trimL (cleanB base).data.toList).length+1)),true)
 else (ByteArray.empty,false)
def joinB (a b:ByteArray):ByteArray:=if wholeB b.data.toList=true∨a=ByteArray.empty then cleanB b else cleanB (a ++ ByteArray.mk #[47] ++ b)
end
section
open Go.RowKit
section
variable {w w':World} {pf:Nat} {R:Rf} {S:Fs}
end
end
section
open Go.RowKit
def sliceN:Value→Nat | .slice _ n _=>n | _=>0
end
section
open Go.RowKit
def decRes:Option (List UInt8)→Value
 | some l=>.tuple #[.string (str l),.int .i64 0]
 | none=>.tuple #[.string ByteArray.empty,.int .i64 2]
theorem below_dr {N:Nat} (w:World) (n:Nat):Below N w (w.drewN n):=⟨rfl,rfl,rfl,Nat.le_refl _,fun _ _=>rfl⟩
theorem decode_any (s:ByteArray) (w:World) (hs:s.size≤2000000) :
  Calls Tryz.prog 127 #[.string s] w fun e w'=>e=.returned (decRes (decP s.data.toList))∧Below w.heap.size w w':=by
 go_enter Tryz.func127,Tryz.ntmps127;go_wp2_with fail
 go_loopw [4,5,6,7] (fun t4 t5 t6 t7 wr=>∃ (k:Nat) (o:List UInt8),k≤s.size∧t5=.int .i64 k∧OB wr w.heap.size t4 o∧o.length≤k∧decAt s k o∧Below w.heap.size w wr) (fun _ t5 _ _ _=>s.size - (intOf t5).toNat)
 case atStart=>exact ⟨0,[],Nat.zero_le _,rfl,OB.nil _ _,Nat.le_refl _,decAt_start s,Below.refl _ _⟩
 case round=>
  obtain⟨k,o,hk,rfl,hO,hol,hd,hW⟩:=hrel;have HO:=Lib.hid hO;have HD:=Lib.hid hd;have HW:=Lib.hid hW;clear hO hd hW;by_cases hlt:k<s.size
  ·by_cases hc:s[k]=37
   ·have hc1:((s[k].toNat:Int) == 37)=true:=by rw [hc];rfl
    have hc2:((s[k].toNat:Int) != 37)=false:=by rw [bne,hc1];rfl
    have HC:=Lib.hid hc;clear hc;by_cases h3:k+2<s.size
    ·have hk1:IntKind.i64.wrap ((k:Int)+1)=(k:Int)+1:=by simp [IntKind.wrap,IntKind.bits,IntKind.signed];omega
     have hk2:IntKind.i64.wrap ((k:Int)+2)=(k:Int)+2:=by simp [IntKind.wrap,IntKind.bits,IntKind.signed];omega
     have hk3:((k:Int)+1).toNat=k+1:=by omega
     have hk4:((k:Int)+2).toNat=k+2:=by omega
     have hk5:(0:Int)≤(k:Int)+1:=by omega
     have hk6:(0:Int)≤(k:Int)+2:=by omega
     have hk7:(k:Int)+1<(s.size:Int):=by omega
     have hk8:(k:Int)+2<(s.size:Int):=by omega
     have hk9:k+1<s.size:=by omega
     have HKs:=Lib.hid (And.intro hk1 hk2);clear hk1 hk2;go_wp2_with fail;obtain⟨hk1,hk2⟩:=HKs.out
     go_quiet ((go_at_call 181;exact Calls.quiet_of_same ((hexdigit_any _ _).mono fun _ _ ⟨h1,h2⟩=>⟨h1,h2.symm⟩)))
     have HV:=Lib.hid (And.intro (hexV_cases s[k+1]) (hexV_cases s[k+2]));have HBad:=Lib.hid (decAt_bad HD.out h3 HC.out);have HTwo:=Lib.hid (decAt_two HD.out h3 HC.out);have uA:=u8_lt s[k+1];have uB:=u8_lt s[k+2];have hAr:hexV s[k+1]=-1∨(0≤hexV s[k+1]∧hexV s[k+1]≤15):=by have:=HV.out.1;omega
     have hBr:hexV s[k+2]=-1∨(0≤hexV s[k+2]∧hexV s[k+2]≤15):=by have:=HV.out.2;omega
     clear uA uB HV;generalize hexV s[k+1]=A at hAr HBad HTwo ⊢;generalize hexV s[k+2]=B at hBr HBad HTwo ⊢;rcases hAr with rfl | ⟨hA0,hA1⟩
     ·have HN:=Lib.hid (HBad.out (.inl rfl));go_wp2_with fail;go_ret2;exact⟨by rw [HN.out];rfl,HW.out.trans (below_dr _ _)⟩
     ·rcases hBr with rfl | ⟨hB0,hB1⟩
      ·have HN:=Lib.hid (HBad.out (.inr rfl));go_wp2_with fail;go_ret2;exact⟨by rw [HN.out];rfl,HW.out.trans (below_dr _ _)⟩
      ·have HT:=Lib.hid (HTwo.out (by omega) (by omega));have hor:=or16 A B hA0 hA1 hB0 hB1;have HOd:OB (wr.drewN nq) w.heap.size _ o:=HO.out;obtain⟨g,cap,W,hrun,hO',hB'⟩:=HOd.appZ (16*A+B) (UInt8.ofNat (16*A+B).toNat) (by rw [UInt8.toNat_ofNat'];omega) (by omega) HW.out.size;have HR:=Lib.hid hrun;have HX:=Lib.hid (And.intro hO' hB');clear hrun hO' hB' HOd;go_wp2_with (at_builtin;refine wpList_app_run rfl rfl rfl rfl HR.out ?_);go_roundw
       case measure=>simp [intOf];omega
       case rel=>exact ⟨k+3,_,by omega,by go_num,HX.out.1,by simp;omega,HT.out,HW.out.trans ((below_dr _ _).trans HX.out.2)⟩
    ·have HN:=Lib.hid (decAt_short HD.out hlt HC.out (by omega));go_wp2_with fail;go_ret2;exact⟨by rw [HN.out];rfl,HW.out⟩
   ·have hc1:((s[k].toNat:Int) == 37)=false:=by
     simp only [beq_eq_false_iff_ne,ne_eq];intro h;exact hc (by rw [u8_eq];show s[k].toNat=37;omega)
    have hc2:((s[k].toNat:Int) != 37)=true:=by rw [bne,hc1];rfl
    obtain⟨g,cap,W,hrun,hO',hB'⟩:=HO.out.app s[k] (by omega) HW.out.size;have HR:=Lib.hid hrun;have HX:=Lib.hid (And.intro hO' hB');have HC:=Lib.hid hc;clear hrun hO' hB' hc;go_wp2_with (at_builtin;refine wpList_app_run rfl rfl rfl rfl HR.out ?_);go_roundw
    case measure=>simp [intOf];omega
    case rel=>exact ⟨k+1,o ++ [s[k]],by omega,by go_num,HX.out.1,by simp;omega,decAt_plain HD.out hlt HC.out,HW.out.trans HX.out.2⟩
  ·obtain rfl:k=s.size:=by omega
   have hcv:=HO.out.conv;have HE:=Lib.hid (decAt_end HD.out);go_wp2_with fail;go_ret2;exact⟨by rw [HE.out];rfl,HW.out⟩
end
section
open Go
section
variable {P:Program} {ops:Array Oper} {Q:Exit→Act→World→Prop} {md:Region.Mode} {S:World→Prop}
theorem reg_call (i d:Nat) {oi:Oper} {fuel:Nat} {listed:Array Bool} {tmps:Array Value} {defers:List Deferred} {w:World} (hr:Region.ready md ops listed=[i]) (hi:ops[i]? = some oi) (hd:oi.dst=some d)
  (hw:Region.wanted oi (yielded ops tmps)=true) {f:FuncId} {args:Array Value} (he:(execOp (Act.eval {tmps,defers}) oi).run P w=.ok (.enter f args) w) {R:Value→World→Prop}
  (hc:Calls P f args w fun e w'=>∃ v,e=.returned v∧R v w') (hS:∀ v w',R v w'→S w')
  (h:∀ v w',R v w'→wpAnyH P md ops Q S fuel (listed.setIfInBounds i true) {tmps:=tmps.setIfInBounds d v,defers} w'):wpAnyH P md ops Q S (fuel+1) listed {tmps,defers} w:=by
 refine wpAnyH_ready hr (by simp) (AllReadyH.cons hi (fun K hK=>?_) AllReadyH.nil);rw [if_pos hw];unfold Oper.wp;rw [he];refine hc.mono ?_;rintro e w' ⟨v,rfl,hR⟩;have:=h v w' hR;refine hK.out _ _ (hS v w' hR) (fun _=>?_);rw [hd];exact this
end
end
section
open Go
section
variable {P:Program} {ops:Array Oper} {Q:Exit→Act→World→Prop} {md:Region.Mode} {S:World→Prop}
theorem reg_make_call (i di j dj:Nat) {oi oj:Oper} {fuel:Nat} {listed:Array Bool} {tmps:Array Value} {defers:List Deferred} {w Wi:World} {vi:Value} (hr:Region.ready md ops listed=[i,j]) (hi:ops[i]? = some oi) (hj:ops[j]? = some oj)
  (hdi:oi.dst=some di) (hdj:oj.dst=some dj) (hwi:Region.wanted oi (yielded ops tmps)=true) (hwj:Region.wanted oj (yielded ops tmps)=true)
  (hei:(execOp (Act.eval {tmps,defers}) oi).run P w=.ok (.value vi) Wi) (hSi:S Wi) {f:FuncId} {args:Array Value} (hej:(execOp (Act.eval {tmps,defers}) oj).run P w=.ok (.enter f args) w) {R:Value→World→Prop}
  (hc:Calls P f args w fun e w'=>∃ v,e=.returned v∧R v w') (hSj:∀ v w',R v w'→S w')
  (h1:wpAnyH P md ops Q S fuel (listed.setIfInBounds i true) {tmps:=tmps.setIfInBounds di vi,defers} Wi)
  (h2:∀ v w',R v w'→wpAnyH P md ops Q S fuel (listed.setIfInBounds j true) {tmps:=tmps.setIfInBounds dj v,defers} w'):wpAnyH P md ops Q S (fuel+1) listed {tmps,defers} w:=by
 refine wpAnyH_ready hr (by simp) (AllReadyH.cons hi (fun K hK=>?_) (AllReadyH.cons hj (fun K hK=>?_) AllReadyH.nil))
 ·rw [if_pos hwi];unfold Oper.wp;rw [hei];refine hK.out _ _ hSi (fun _=>?_);rw [hdi];exact h1
 ·rw [if_pos hwj];unfold Oper.wp;rw [hej];refine hc.mono ?_;rintro e w' ⟨v,rfl,hR⟩;have:=h2 v w' hR;refine hK.out _ _ (hSj v w' hR) (fun _=>?_);rw [hdj];exact this
end
end
section
open Go
section
variable {P:Program} {ops:Array Oper} {md:Region.Mode} {l:Nat} {n:Nat} {Q:Exit→Act→World→Prop}
theorem rowsIn_of {row:String} {args:Array Value} {w:World} {R:Value→World→Prop} (h:Rows P row args w R):RowsIn Fence.wide n P row args w R:=
 fun c cs _=>let ⟨v,w',r,s⟩:=h c cs;⟨v,w',r,stepsIn_wide.2 s⟩
theorem operIn_of {o:Oper} (hd:∀ c,o.op≠.defer c) {a:Act} {w:World} {K K':Act→World→Prop} (hK:∀ a w,K a w→K' a w) (h:o.wp P a w K Q):o.wpIn (Fence.wide.inRound l) n P a w K' Q:=by
 unfold Oper.wp at h;unfold Oper.wpIn;refine ⟨fun _ _=>trivial,?_⟩;rw [Fence.inRound_round,Oper.semAt_some l _ o hd];generalize (execOp a.eval o).run P w=r at *
 cases r with
 | ok m w'=>
  cases m with
  | value v=>exact hK _ _ h
  | skip=>exact hK _ _ h
  | defer d=>exact hK _ _ h
  | enter f args=>
   refine ⟨fun h=>by simp [Fence.wide] at h,?_⟩;refine CallsIn.inRound l (callsIn_wide.2 (Calls.mono h fun e w'' he=>?_))
   cases e with
   | returned v=>exact hK _ _ he
   | panicked c=>exact he
   | outgrown=>exact he
  | row row args=>
   refine ⟨fun h=>by simp [Fence.wide] at h,?_⟩;exact (rowsIn_of h).mono fun v w'' hv=>hK _ _ hv
  | _=>exact h.elim
 | halt x w'=>
  cases x with
  | panic v=>exact h
  | _=>exact h.elim
theorem anyIn_of (hd:noDefer ops=true) (hno:¬ LetsOut Q):∀ (fuel:Nat) (listed:Array Bool) (a:Act) (w:World),wpAny P md ops Q fuel listed a w→wpAnyIn (Fence.wide.inRound l) n P md ops Q fuel listed a w
 | 0,_,_,_,h=>h
 | fuel+1,listed,a,w,h=>by
  refine ⟨h.1,fun i hi=>?_⟩;have h2:=h.2 i hi;unfold wpOp at h2;unfold wpOpIn
  cases ho:ops[i]? with
  | none=>rw [ho] at h2;exact anyIn_of hd hno fuel _ _ _ h2
  | some o=>
   rw [ho] at h2;simp only at h2 ⊢
   split
   ·rename_i hw;rw [if_pos hw] at h2;rcases h2 with h2 | ⟨-,h2⟩
    ·exact operIn_of (noDefer_spec hd ho) (fun a w h=>anyIn_of hd hno fuel _ a w h) h2
    ·exact absurd h2 hno
   ·rename_i hw;rw [if_neg hw] at h2;exact⟨fun _ _=>trivial,anyIn_of hd hno fuel _ _ _ h2⟩
theorem wpIn_region_held_round {S:World→Prop} {id:Nat} {a:Act} {w:World} (hm:P.follows .mixedOrders=true) (hd:noDefer ops=true) (hno:¬ LetsOut Q) (hS:S w.drew)
  (h:S w.drew→wpAnyH P .any ops Q S ops.size (Array.replicate ops.size false) a w.drew):(Code.region id ops true).wpIn (Fence.wide.inRound l) n P Q a w:=
 wpIn_region_any hm (anyIn_of hd hno _ _ _ _ (wpAny_of_held _ _ _ _ (h hS)))
section
variable {S:World→Prop} {oi:Oper} {fuel:Nat} {listed:Array Bool} {tmps:Array Value} {defers:List Deferred} {w W:World} {v:Value}
theorem reg_alone (i d:Nat) (hr:Region.ready md ops listed=[i]) (hi:ops[i]? = some oi) (hd:oi.dst=some d) (hw:Region.wanted oi (yielded ops tmps)=true)
  (he:(execOp (Act.eval {tmps,defers}) oi).run P w=.ok (.value v) W) (hS:S W) (h:wpAnyH P md ops Q S fuel (listed.setIfInBounds i true) {tmps:=tmps.setIfInBounds d v,defers} W):wpAnyH P md ops Q S (fuel+1) listed {tmps,defers} w:=by
 refine wpAnyH_ready hr (by simp) (AllReadyH.cons hi (fun K hK=>?_) AllReadyH.nil);rw [if_pos hw];unfold Oper.wp;rw [he];refine hK.out _ _ hS (fun _=>?_);rw [hd];exact h
theorem reg_two (i di j dj:Nat) {oj:Oper} {vj:Value} (hr:Region.ready md ops listed=[i,j]) (hi:ops[i]? = some oi) (hj:ops[j]? = some oj) (hdi:oi.dst=some di) (hdj:oj.dst=some dj)
  (hwi:Region.wanted oi (yielded ops tmps)=true) (hwj:Region.wanted oj (yielded ops tmps)=true) {Wi:World}
  (hei:(execOp (Act.eval {tmps,defers}) oi).run P w=.ok (.value v) Wi) (hej:(execOp (Act.eval {tmps,defers}) oj).run P w=.ok (.value vj) W) (hSi:S Wi) (hSj:S W)
  (h1:wpAnyH P md ops Q S fuel (listed.setIfInBounds i true) {tmps:=tmps.setIfInBounds di v,defers} Wi) (h2:wpAnyH P md ops Q S fuel (listed.setIfInBounds j true) {tmps:=tmps.setIfInBounds dj vj,defers} W) :
  wpAnyH P md ops Q S (fuel+1) listed {tmps,defers} w:=by
 refine wpAnyH_ready hr (by simp) (AllReadyH.cons hi (fun K hK=>?_) (AllReadyH.cons hj (fun K hK=>?_) AllReadyH.nil))
 ·rw [if_pos hwi];unfold Oper.wp;rw [hei];refine hK.out _ _ hSi (fun _=>?_);rw [hdi];exact h1
 ·rw [if_pos hwj];unfold Oper.wp;rw [hej];refine hK.out _ _ hSj (fun _=>?_);rw [hdj];exact h2
theorem reg_app (i d:Nat) {y r:Value} {s x:Operand} {t:TypeId} (hr:Region.ready md ops listed=[i]) (hi:ops[i]? = some oi) (hd:oi.dst=some d)
  (hgd:oi.guard=none) (ho:oi.op=.call {callee:=.builtin .append,args:=#[s,x],argTypes:=#[t,t]}) (hs:(Act.eval {tmps,defers}) s=v) (hx:(Act.eval {tmps,defers}) x=y)
  (hrun:(Builtin.append_ #[t,t] oi.type #[v,y]).run P w=.ok r W) (hS:S W)
  (h:wpAnyH P md ops Q S fuel (listed.setIfInBounds i true) {tmps:=tmps.setIfInBounds d r,defers} W):wpAnyH P md ops Q S (fuel+1) listed {tmps,defers} w:=by
 refine reg_alone i d hr hi hd (by simp [Region.wanted,hgd]) ?_ hS h;unfold execOp;simp only [ho,resolve,invoke,builtin,Sem.run_bind,Sem.run_pure,Result.andThen_ok,List.map_toArray,List.map_cons,List.map_nil,hs,hx,hrun]
theorem reg_store (i:Nat) (hr:Region.ready md ops listed=[i]) (hi:ops[i]? = some oi) (hd:oi.dst=none) (hw:Region.wanted oi (yielded ops tmps)=true)
  (he:(execOp (Act.eval {tmps,defers}) oi).run P w=.ok (.skip) W) (hS:S W) (h:wpAnyH P md ops Q S fuel (listed.setIfInBounds i true) {tmps,defers} W):wpAnyH P md ops Q S (fuel+1) listed {tmps,defers} w:=by
 refine wpAnyH_ready hr (by simp) (AllReadyH.cons hi (fun K hK=>?_) AllReadyH.nil);rw [if_pos hw];unfold Oper.wp;rw [he];refine hK.out _ _ hS (fun _=>?_);rw [hd];exact h
end
end
end
section
open Go
section
variable {P:Program} {ops:Array Oper} {Q:Exit→Act→World→Prop} {md:Region.Mode} {S:World→Prop}
def takesB (md:Region.Mode) (ops:Array Oper):List (Nat×Nat)→Array Bool→Bool
 | [],_=>true
 | (i,d) :: l,listed=>(match ops[i]? with | some o=>decide (o.dst=some d) | none=>false) && Region.free md ops listed i && (Region.ready md ops listed).contains i && takesB md ops l (listed.setIfInBounds i true)
def takesL:List (Nat×Nat)→Array Bool→Array Bool
 | [],x=>x
 | (i,_) :: l,x=>takesL l (x.setIfInBounds i true)
def Takes (P:Program) (ops:Array Oper) (S:World→Prop) (defers:List Deferred):List (Nat×Nat)→Array Value→(Array Value→Prop)→Prop
 | [],t,K=>K t
 | (i,d) :: l,t,K=>∃ oi v,ops[i]? = some oi∧((Region.wanted oi (yielded ops t)=true∧∀ w,S w→(execOp (Act.eval {tmps:=t,defers}) oi).run P w=.ok (.value v) w)∨(Region.wanted oi (yielded ops t)=false∧v=undef))∧Takes P ops S defers l (t.setIfInBounds d v) K
theorem takes_cons {defers:List Deferred} {i d:Nat} {l:List (Nat×Nat)} {t:Array Value} {K:Array Value→Prop} {oi:Oper} {v:Value} (h0:ops[i]? = some oi) (hw:Region.wanted oi (yielded ops t)=true)
  (hy:∀ w,S w→(execOp (Act.eval {tmps:=t,defers}) oi).run P w=.ok (.value v) w) (h:Takes P ops S defers l (t.setIfInBounds d v) K):Takes P ops S defers ((i,d) :: l) t K:=⟨oi,v,h0,.inl ⟨hw,hy⟩,h⟩
theorem takes_nil {defers:List Deferred} {t:Array Value} {K:Array Value→Prop} (h:K t):Takes P ops S defers [] t K:=h
theorem reg_takesL (hs:Region.noSelect ops=true) (hQ:∀ c a (d:Nat) v w,Q (.panic c) (Act.put a (some d) v) w→Q (.panic c) a w) {defers:List Deferred} {w:World} (hS:S w) {fuel:Nat} :
  ∀ (l:List (Nat×Nat)) (listed:Array Bool) (t:Array Value),takesB md ops l listed=true→Takes P ops S defers l t (fun t'=>wpAnyH P md ops Q S fuel (takesL l listed) {tmps:=t',defers} w)→wpAnyH P md ops Q S (fuel+l.length) listed {tmps:=t,defers} w
 | [],_,_,_,h=>h
 | (i,d) :: l,listed,t,hB,h=>by
  obtain⟨oi,v,h0,hv,h⟩:=h;simp only [takesB,h0,Bool.and_eq_true,decide_eq_true_eq] at hB;obtain⟨⟨⟨hd,hf⟩,hr⟩,hB⟩:=hB;refine wpAnyH_take h0 hs hf hr (fun c a w=>?_) hv hS ?_
  ·rw [hd];exact hQ c a d v w
  ·rw [hd];exact reg_takesL hs hQ hS l _ _ hB h
theorem reg_takes (n:Nat) (l:List (Nat×Nat)) {listed:Array Bool} {tmps:Array Value} {defers:List Deferred} {w:World} {fuel:Nat} (hB:takesB md ops l listed=true) (hs:Region.noSelect ops=true) (hn:l.length=n)
  (hQ:∀ c a (d:Nat) v w,Q (.panic c) (Act.put a (some d) v) w→Q (.panic c) a w) (hS:S w) (h:Takes P ops S defers l tmps (fun t'=>wpAnyH P md ops Q S fuel (takesL l listed) {tmps:=t',defers} w)) :
  wpAnyH P md ops Q S (fuel+n) listed {tmps,defers} w:=by
 subst hn;exact reg_takesL hs hQ hS l listed tmps hB h
end
end
section
open Go.RowKit
theorem blk_turnN {N:Nat} {A B:World} {b:Nat} {vs:Array Value} {T:TypeId} (h:Blk A b vs T) (ht:Turn NoT N notCells A B):Blk B b vs T:=ht.block b _ h (fun h=>h) (fun _=>rfl)
theorem below_turnN {N M:Nat} {w0 A B:World} (h:Below M w0 A) (ht:Turn NoT N notCells A B) (hN:M≤N) (hM:M≤w0.heap.size):Below M w0 B:=by
 refine ⟨ht.os.trans h.os,ht.tape.trans h.tape,ht.output.trans h.output,Nat.le_trans h.size ht.size,fun k hk=>?_⟩;obtain⟨o,ho⟩:∃ o,w0.heap[k]? = some o:=⟨w0.heap[k]'(by omega),Array.getElem?_eq_getElem _⟩;have h1:=(h.block k hk).trans ho;rw [ht.block k o h1 (fun h=>h) (fun h=>by omega),ho]
end
section
open Go.RowKit Go.Shelf
attribute [local go_sem] Oper.semAt_some
def Coll (B:Nat) (W:World) (ds:List Deferred):Prop:=∃ Ds:List Nat,ds=Ds.map (fun D=>({target:=.collected D,args:=#[]}:Deferred))∧Ds.Nodup∧∀ D∈Ds,B≤D∧W.heap[D]? = some (.deferred (some []))
theorem Coll.nil (B:Nat) (W:World):Coll B W []:=⟨[],rfl,List.Pairwise.nil,fun D h=>by cases h⟩
theorem coll_leave {n:Nat} {fn:Func} {tmps:Array Value} {v:Value} {R:Ending→World→Prop} (hres:∀ W,(results fn tmps).run Tryz.prog W=.ok v W) :
  ∀ (Ds:List Nat) (W:World),Ds.Nodup→(∀ D∈Ds,W.heap[D]? = some (.deferred (some [])))→(∀ W',Mod (fun k=>k∈Ds) W W'→R (.returned v) W')→
   LeavesInM Fence.wide n Tryz.prog fn tmps R (Ds.map (fun D=>({target:=.collected D,args:=#[]}:Deferred))) .returning W
 | [],W,_,_,hR=>⟨v,hres W,hR W (Mod.refl _ _)⟩
 | D :: Ds,W,hn,hD,hR=>by
  rw [List.nodup_cons] at hn;refine ⟨by simp,.inl ⟨_,_,rfl,run_takeDeferred (hD D List.mem_cons_self),?_⟩⟩;refine coll_leave hres Ds _ hn.2 (fun E hE=>?_) (fun W' hm=>hR W' ?_)
  ·have hne:E≠D:=by rintro rfl;exact hn.1 hE
   exact (World.putObj_heap_other hne).trans (hD E (List.mem_cons_of_mem _ hE))
  ·refine ⟨hm.os,hm.tape,hm.output,Nat.le_trans (by simp) hm.size,fun k hk hnk=>?_⟩;have hne:k≠D:=fun e=>hnk (by rw [e];exact List.mem_cons_self);rw [hm.block k (by simpa using hk) (fun h=>hnk (List.mem_cons_of_mem _ h))];exact World.putObj_heap_other hne
section
variable {w w':World} {pf pw:Nat} {R:Rp} {pv:Value} {Y:Sy}
theorem entsall_any (a:Option Addr) (n c:Nat) (w:World) :
  Calls Tryz.prog 121 #[.slice a n c] w fun e w'=>e=.returned (.func (.func 177) #[] #[.pointer (some ⟨w.heap.size,0,none⟩)])∧w'=w.alloc (.cells #[.slice a n c] 88):=by
 go_enter Tryz.func121,Tryz.ntmps121;go_wp2_with fail;go_ret;exact⟨rfl,rfl⟩
end
end
section
open Go.RowKit Go.ChangeShapes Go.WideShapes Go.ChangeAt
section
variable {H:Type} {enc:TypeId×Value→H} {w:World} {base:Nat} {spare:Nat→Bool} {held:Bool}
theorem trod_fields5 {P:Program} {t:TypeId} {fs:Array Field} {fuel:Nat} {cs:List Value} {x:DataW H×List MemPlace} (ht:P.underlying t=some (.struct fs)) (h:DataW.trod enc P w base spare held fuel t cs=some x) :
  cs.length=P.cellsOf t∧∃ n,∀ (i:Nat) (ty:TypeId) (off k:Nat) (l:List Value),(fs[i]?.map fun f=>(f.type,f.offset))=some (ty,off)→P.cellsOf ty=k→(cs.drop off).take k=l→∃ y,DataW.trod enc P w base spare held n ty l=some y:=by
 obtain⟨xs,n,-,-,h1,h2,h3⟩:=DataW.trod_struct ht h;refine ⟨h1,n,fun i ty off k l hf hk hl=>?_⟩;obtain⟨f,hf1,e⟩:=Option.map_eq_some_iff.1 hf;clear hf;injection e with e1 e2;subst e1 e2 hk hl;have hi:i<xs.length:=by
  rw [h2];exact (Array.getElem?_eq_some_iff.1 hf1).1
 exact⟨xs[i],by rw [h3 i f hf1,List.getElem?_eq_getElem hi]⟩
end
end
end Go.Proofs.YtbndfmkgamdgeaaGreatDoor
