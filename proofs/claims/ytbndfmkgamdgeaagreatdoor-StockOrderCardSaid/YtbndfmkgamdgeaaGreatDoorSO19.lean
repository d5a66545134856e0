import Derived.Test.YtbndfmkgamdgeaaGreatDoorSO1
import Derived.Test.YtbndfmkgamdgeaaGreatDoorSO2
import Derived.Test.YtbndfmkgamdgeaaGreatDoorSO5
import Derived.Test.YtbndfmkgamdgeaaGreatDoorSO6
import Derived.Test.YtbndfmkgamdgeaaGreatDoorSO7
import Derived.Test.YtbndfmkgamdgeaaGreatDoorSO8
import Derived.Test.YtbndfmkgamdgeaaGreatDoorSO9
import Derived.Test.YtbndfmkgamdgeaaGreatDoorSO10
import Derived.Test.YtbndfmkgamdgeaaGreatDoorSO11
import Derived.Test.YtbndfmkgamdgeaaGreatDoorSO15
set_option linter.unusedVariables false
set_option linter.unusedSimpArgs false
set_option maxRecDepth 100000
set_option maxHeartbeats 16000000
namespace Go.Proofs.YtbndfmkgamdgeaaGreatDoor
section
open Go.RowKit
theorem slash_any (s:ByteArray) (w:World) (hs:s.size≤100000) :
  Calls Tryz.prog 199 #[.string s] w fun e w'=>e=.returned (.bool (slashB s.data.toList))∧w=w':=by
 have HT:=Lib.hid (tail_any s w (by omega));have HS:=Lib.hid (show slashB s.data.toList=(segL s.data.toList == [] || segL s.data.toList == [46] || segL s.data.toList == [46,46]) from rfl);generalize segL s.data.toList=t at HT HS;generalize slashB s.data.toList=b at HS;have htl:(str t).toList=t:=by rw [ba_list,str_list]
 by_cases h1:t=[]
 ·subst h1;have hb:b=true:=by rw [HS.out];rfl
  subst hb;go_enter Tryz.func199,Tryz.ntmps199;go_wp2_with (refine HT.out.mono ?_;rintro e w1 ⟨rfl,rfl⟩);go_ret;exact⟨rfl,rfl⟩
 ·have n1:t.isEmpty=false:=by simpa using h1
  by_cases h2:t=[46]
  ·subst h2;have hb:b=true:=by rw [HS.out];rfl
   subst hb;go_enter Tryz.func199,Tryz.ntmps199;go_wp2_with (refine HT.out.mono ?_;rintro e w1 ⟨rfl,rfl⟩);go_ret;exact⟨rfl,rfl⟩
  ·have n2:(t == [46])=false:=by simpa using h2
   by_cases h3:t=[46,46]
   ·subst h3;have hb:b=true:=by rw [HS.out];rfl
    subst hb;go_enter Tryz.func199,Tryz.ntmps199;go_wp2_with (refine HT.out.mono ?_;rintro e w1 ⟨rfl,rfl⟩);go_ret;exact⟨rfl,rfl⟩
   ·have n3:(t == [46,46])=false:=by simpa using h3
    have hb:b=false:=by rw [HS.out,n2,n3];simpa using h1
    subst hb;clear h1 h2 h3;go_enter Tryz.func199,Tryz.ntmps199;go_wp2_with (refine HT.out.mono ?_;rintro e w1 ⟨rfl,rfl⟩);go_ret;exact⟨rfl,rfl⟩
def PanicOk (Q:Exit→Act→World→Prop):Prop:=∀ c d v a w,Q (.panic c) (Act.put a d v) w→Q (.panic c) a w
theorem pk_body {P:Program} {fn:Func} {R:Ending→World→Prop}:PanicOk (bodyPost P fn R):=body_panic
theorem pk_then {K:Act→World→Prop} {Q:Exit→Act→World→Prop} (h:PanicOk Q):PanicOk (Exit.then K Q):=fun c d v a w hq=>h c d v a w hq
theorem pk_block {i:Nat} {Q:Exit→Act→World→Prop} (h:PanicOk Q):PanicOk (Exit.inBlock i Q):=fun c d v a w hq=>h c d v a w hq
theorem pk_scope {Q:Exit→Act→World→Prop} (h:PanicOk Q):PanicOk (Exit.noGoto Q):=fun c d v a w hq=>h c d v a w hq
theorem keepS_set12 {W w:World} {B:Nat} {v0 v1 v2 v3 v4 v5 v6 v7 v8 v9 v10 v11:Value} (h:(∀ b o,b<W.heap.size→w.cell? ⟨b,o,none⟩=W.cell? ⟨b,o,none⟩)∧Below W.heap.size W w) (hB:W.heap.size≤B) :
  (∀ b o,b<W.heap.size→((((((((((((w.setCell ⟨B,0,none⟩ v0).setCell ⟨B,1,none⟩ v1).setCell ⟨B,2,none⟩ v2).setCell ⟨B,3,none⟩ v3).setCell ⟨B,4,none⟩ v4).setCell ⟨B,5,none⟩ v5).setCell ⟨B,6,none⟩ v6).setCell ⟨B,7,none⟩ v7).setCell ⟨B,8,none⟩ v8).setCell ⟨B,9,none⟩ v9).setCell ⟨B,10,none⟩ v10).setCell ⟨B,11,none⟩ v11).cell? ⟨b,o,none⟩=W.cell? ⟨b,o,none⟩)∧
   Below W.heap.size W ((((((((((((w.setCell ⟨B,0,none⟩ v0).setCell ⟨B,1,none⟩ v1).setCell ⟨B,2,none⟩ v2).setCell ⟨B,3,none⟩ v3).setCell ⟨B,4,none⟩ v4).setCell ⟨B,5,none⟩ v5).setCell ⟨B,6,none⟩ v6).setCell ⟨B,7,none⟩ v7).setCell ⟨B,8,none⟩ v8).setCell ⟨B,9,none⟩ v9).setCell ⟨B,10,none⟩ v10).setCell ⟨B,11,none⟩ v11):=
 keepS_of (below_set12 h.2 hB)
section
variable {w w':World} {pw:Nat} {R:Rp} {S:Fs}
theorem step_gone {S:Fs} {c:Cr} {k:Int} {p:List UInt8} (h:S.get k=none):S.step c k p=(0,9):=by unfold Fs.step;rw [h]
theorem step_eq {S:Fs} {c:Cr} {k:Int} {p:List UInt8} {d:An} (h:S.get k=some d):S.step c k p=if d.kind≠1 then (0,9) else if d.may c 1=false then (0,6) else if p=[46,46] then (S.above k,0) else if 255<p.length then (0,13) else (S.over (entFind d.ents (str p)),0):=by
 unfold Fs.step;rw [h]
theorem step_any (h:WdAt w pw R S) {N:Nat} (hk:FsOk S N) (hN:N≤999999) {Bt:Nat} (c:Cr) (k:Int) {ta:Option Addr} {tl tc:Nat} {hops:Int} {must:Bool}
  (hb:Blk w Bt #[.pointer (some ⟨pw,0,none⟩),.int .i64 c.u,.int .i64 c.g,.int .i64 k,.slice ta tl tc,.int .i64 hops,.bool must] 308) (p:ByteArray) :
  Calls Tryz.prog 200 #[.pointer (some ⟨Bt,0,none⟩),.string p] w fun e w'=>e=.returned (.tuple #[.int .i64 (S.step c k p.data.toList).1,.int .i64 (S.step c k p.data.toList).2])∧Below w.heap.size w w':=by
 have HW:=Lib.hid h;have HK:=Lib.hid hk;have HBT:=Lib.hid hb;have mixed:Tryz.prog.follows .mixedOrders=true:=by kernel_rfl
 obtain⟨bc,bf,bz⟩:=hb.facts;obtain⟨pc,-,pz⟩:=h.blk.facts;have HBC:=Lib.hid bc;have HPC:=Lib.hid pc;clear h hk hb
 cases hg:S.get k with
 | none=>
  have HG:=Lib.hid (fun w1 (hb1:Below w.heap.size w w1)=>wget_no (HW.out.keep hb1) hg);have HE:=Lib.hid (step_gone (c:=c) (p:=p.data.toList) hg);unfold An.v an0 at HG;clear hg;go_enter Tryz.func200,Tryz.ntmps200;go_upto_region 1 with fail
  go_cut [6,7] (fun t6 t7 wx=>∃ Bd:Nat,t6=.pointer (some ⟨Bd,0,none⟩)∧t7=.bool false∧Below w.heap.size w wx)
  case first=>
   go_wp2_with fail;have hzz:w.heap.size≤w.heap.size:=Nat.le_refl _
   go_region_held3 (fun w'=>(∀ b o,b<w.heap.size→w'.cell? ⟨b,o,none⟩=w.cell? ⟨b,o,none⟩)∧Below w.heap.size w w') (first | with_reducible exact keepS_set12 (by assumption) (by assumption) | (first | with_reducible assumption | with_reducible exact keepS_here _ | with_reducible exact keepS_here2 _ | with_reducible exact keepS_call (by assumption) (by assumption) | with_reducible exact keepS_alloc (by assumption) _ | with_reducible exact keepS_allocD (by assumption) _ | with_reducible exact keepS_realloc (by assumption) (by assumption) | with_reducible exact keepS_set4 (by assumption) (by assumption)))
    ((go_at_call 132;((with_reducible refine (HG.out _ (And.right ‹(∀ b o,b<w.heap.size→_)∧Below w.heap.size w _›)).mono ?_);rintro e w4 ⟨rfl,hb5⟩;have hz5:=Nat.le_trans (And.right ‹(∀ b o,b<w.heap.size→_)∧Below w.heap.size w _›).size hb5.size;try (have hbq:=new_drew hb5;obtain ⟨bqc,bqf,bqz⟩:=hbq.facts))))
   all_goals
    obtain⟨-,hS4⟩:=‹_∧Below w.heap.size w _›;have HS4:=Lib.hid hS4;clear hS4;go_wp2_with fail;go_meet;exact⟨_,rfl,rfl,HS4.out⟩
  case rest=>
   obtain⟨Bd,rfl,rfl,hS⟩:=hcut;have HB:=Lib.hid hS;clear hS bc bf bz pc pz;go_wp2_with fail;go_ret2;rw [HE.out];exact⟨rfl,HB.out⟩
 | some d=>
  obtain⟨ea,el,ec,he,hG⟩:=wget_fix HW.out hg;have HE0:=Lib.hid he;have HG:=Lib.hid hG;have HQ:=Lib.hid (step_eq (c:=c) (p:=p.data.toList) hg);have HHG:=Lib.hid hg;have hfew:el≤1000000:=by rw [←he.len];exact Nat.le_trans (HK.out.get hg).1.few (by omega)
  have HFew:=Lib.hid hfew;unfold An.v at HG;clear hg he hG hfew;go_enter Tryz.func200,Tryz.ntmps200;go_upto_region 1 with fail
  go_cut [6,7] (fun t6 t7 wx=>∃ Bd:Nat,t6=.pointer (some ⟨Bd,0,none⟩)∧t7=.bool true∧Blk wx Bd #[.int .i64 d.no,.int .i64 d.dev,.int .i64 d.kind,.int .i64 d.mode,.int .i64 d.uid,.int .i64 d.gid,.int .i64 d.mtime,.int .i64 d.ctime,.int .i64 d.links,.int .i64 d.up,.string d.data,.slice ea el ec] 163∧Below w.heap.size w wx)
  case first=>
   go_wp2_with fail;have hzz:w.heap.size≤w.heap.size:=Nat.le_refl _
   go_region_held3 (fun w'=>(∀ b o,b<w.heap.size→w'.cell? ⟨b,o,none⟩=w.cell? ⟨b,o,none⟩)∧Below w.heap.size w w') (first | with_reducible exact keepS_set12 (by assumption) (by assumption) | (first | with_reducible assumption | with_reducible exact keepS_here _ | with_reducible exact keepS_here2 _ | with_reducible exact keepS_call (by assumption) (by assumption) | with_reducible exact keepS_alloc (by assumption) _ | with_reducible exact keepS_allocD (by assumption) _ | with_reducible exact keepS_realloc (by assumption) (by assumption) | with_reducible exact keepS_set4 (by assumption) (by assumption)))
    ((go_at_call 132;((with_reducible refine (HG.out _ (And.right ‹(∀ b o,b<w.heap.size→_)∧Below w.heap.size w _›)).mono ?_);rintro e w4 ⟨rfl,hb5⟩;have hz5:=Nat.le_trans (And.right ‹(∀ b o,b<w.heap.size→_)∧Below w.heap.size w _›).size hb5.size;try (have hbq:=new_drew hb5;obtain ⟨bqc,bqf,bqz⟩:=hbq.facts))))
   all_goals
    obtain⟨-,hS4⟩:=‹_∧Below w.heap.size w _›;have HS4:=Lib.hid hS4
    try (have HQ4:=Lib.hid hbq)
    clear hS4;go_wp2_with fail;go_meet;exact⟨_,rfl,rfl,by first | exact HQ4.out.set12 | exact Blk.new _ _ _,HS4.out⟩
  case rest=>
   obtain⟨Bd,rfl,rfl,hDX,hbX⟩:=hcut;generalize wc=X at hDX hbX ⊢;have HBX:=Lib.hid hbX;have HDX:=Lib.hid hDX;have hTX:=HBT.out.keep hbX;clear bc bf bz;obtain⟨bc,bf,bz⟩:=hTX.facts;obtain⟨dc,df,dz⟩:=hDX.facts;clear hbX hDX hTX pc;by_cases h1:d.kind=1
   ·have h1':(d.kind != 1)=false:=by simpa using h1
    have HQ1:=Lib.hid (HQ.out.trans (if_neg (by simp [h1])));have HNd:=Lib.hid (fun w=>pnode_any c d ea el ec 1 w);unfold Cr.v An.v at HNd;clear h1 HQ;go_wp2_with fail;refine wp_region_lex 5 mixed (by kernel_rfl) (show PanicOk _ from by repeat (first | exact pk_body | refine pk_then ?_ | refine pk_block ?_)) ?_;simp only [List.take_succ_cons,List.take_zero,List.drop_succ_cons,List.drop_zero]
    repeat still_step
    refine wpStill_nil ?_;go_wp2_with fail;refine (HNd.out _).mono ?_;rintro e w2 ⟨rfl,hb2⟩;have hb3:=HBX.out.drew.trans (hb2.mono HBX.out.size);have HB2:=Lib.hid hb3;have hT2:=HBT.out.keep hb3;have hD2:=HDX.out.drew.keep hb2;have HD2:=Lib.hid hD2;have pc2:w2.cell? ⟨pw,0,none⟩=some (.pointer (some ⟨R.pt,0,none⟩)):=(hb3.cell (p:=⟨pw,0,none⟩) pz).trans (HPC.out 0);clear bc bf bz dc df dz hb2;obtain⟨bc,bf,bz⟩:=hT2.facts;obtain⟨dc,df,dz⟩:=hD2.facts;clear hT2 hD2 hb3
    cases hm:d.may c 1 with
    | false=>
     have HE:=Lib.hid (HQ1.out.trans (if_pos hm));clear hm;go_wp2_with fail;go_ret2;rw [HE.out];exact⟨rfl,HB2.out⟩
    | true=>
     have HQ2:=Lib.hid (HQ1.out.trans (if_neg (by rw [hm];decide)));clear hm HQ1;by_cases h2:p.data.toList=[46,46]
     ·have h2':p.toList=[46,46]:=by rw [ba_list];exact h2
      have HE:=Lib.hid (HQ2.out.trans (if_pos h2));have HAb:=Lib.hid (fun w1 (hb1:Below w.heap.size w w1)=>wabove_any (HW.out.keep hb1) HK.out k);clear h2 HQ2;go_wp2_with fail;refine wp_region_lex 8 mixed (by kernel_rfl) (show PanicOk _ from by repeat (first | exact pk_body | refine pk_then ?_ | refine pk_block ?_)) ?_;simp only [List.take_succ_cons,List.take_zero,List.drop_succ_cons,List.drop_zero]
      repeat still_step
      refine wpStill_nil ?_;go_wp2_with fail;refine (HAb.out _ HB2.out.drew).mono ?_;rintro e w3 ⟨rfl,hb3⟩;have HB3:=Lib.hid (HB2.out.drew.trans (hb3.mono HB2.out.size));clear hb3;go_wp2_with fail;go_ret2;rw [HE.out];exact⟨rfl,HB3.out⟩
     ·have h2':(p.toList == [46,46])=false:=by rw [ba_list];simpa using h2
      have HQ3:=Lib.hid (HQ2.out.trans (if_neg h2));have hpl:p.data.toList.length=p.size:=Array.length_toList;clear h2 HQ2;by_cases h3:255<p.size
      ·have HE:=Lib.hid (HQ3.out.trans (if_pos (by rw [hpl];exact h3)));have h3':(255:Int)<(p.size:Int):=by omega
       clear hpl;go_wp2_with fail;go_ret2;rw [HE.out];exact⟨rfl,HB2.out⟩
      ·have HE:=Lib.hid (HQ3.out.trans (if_neg (by rw [hpl];exact h3)));rw [str_of] at HE;have h3':¬ (255:Int)<(p.size:Int):=by omega
       have HF:=Lib.hid (fun w1 (hb1:Below w.heap.size w w1)=>efind_any d.ents ea el ec p w1 (HE0.out.keep hb1) (HK.out.get HHG.out).1.rise HFew.out);have HOv:=Lib.hid (fun w1 (hb1:Below w.heap.size w w1)=>wover_any (HW.out.keep hb1) HK.out.d1 (entFind d.ents p));clear hpl HQ3 h3;generalize entFind d.ents p=f at HE HF HOv;go_wp2_with fail;have hzz:w2.heap.size≤w2.heap.size:=Nat.le_refl _;have hsz2:=HB2.out.size
       go_region_held3 (fun w'=>(∀ b o,b<w2.heap.size→w'.cell? ⟨b,o,none⟩=w2.cell? ⟨b,o,none⟩)∧Below w2.heap.size w2 w') (first | with_reducible assumption | with_reducible exact keepS_here _ | with_reducible exact keepS_here2 _ | with_reducible exact keepS_call (by assumption) (by assumption) | with_reducible exact keepS_alloc (by assumption) _ | with_reducible exact keepS_allocD (by assumption) _ | with_reducible exact keepS_realloc (by assumption) (by assumption) | with_reducible exact keepS_set4 (by assumption) (by assumption))
        ((first | (go_at_call 133;((with_reducible refine (HF.out _ (HB2.out.trans ((And.right ‹(∀ b o,b<w2.heap.size→_)∧Below w2.heap.size w2 _›).mono hsz2))).mono ?_);rintro e w4 ⟨rfl,hb5⟩)) | (go_at_call 122;((with_reducible refine (HOv.out _ (HB2.out.trans ((And.right ‹(∀ b o,b<w2.heap.size→_)∧Below w2.heap.size w2 _›).mono hsz2))).mono ?_);rintro e w4 ⟨rfl,hb5⟩))))
       all_goals
        obtain⟨-,hS4⟩:=‹_∧Below w2.heap.size w2 _›;have HB4:=Lib.hid (HB2.out.trans (hS4.mono hsz2));clear hS4;go_wp2_with fail;go_ret2;rw [HE.out];exact⟨rfl,HB4.out⟩
   ·have h1':(d.kind != 1)=true:=by simpa using h1
    have HE:=Lib.hid (HQ.out.trans (if_pos h1));clear h1;go_wp2_with fail;go_ret2;rw [HE.out];exact⟨rfl,HBX.out⟩
end
end
end Go.Proofs.YtbndfmkgamdgeaaGreatDoor
