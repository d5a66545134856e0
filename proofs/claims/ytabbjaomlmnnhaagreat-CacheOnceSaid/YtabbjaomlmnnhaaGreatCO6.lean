import Derived.Shelf.Abstract
import Derived.Shelf.RegionOpen
import Derived.OwnWalkIn
import Derived.TacticsInMore
import Derived.LoopNIn
import Derived.LoopIn
import Derived.StillTail
import Derived.StillTactics
import Derived.RangeFuncNested
import Derived.WalkKit
import Derived.Deep.LoopGhost
import Derived.Test.YtabbjaomlmnnhaaGreatCO4
import Derived.Test.YtabbjaomlmnnhaaGreatCO2
import Derived.Test.YtabbjaomlmnnhaaGreatCO5
import Derived.Test.YtabbjaomlmnnhaaGreatCO3
import Derived.Test.YtabbjaomlmnnhaaGreatCO1
set_option linter.unusedVariables false
set_option linter.unusedSimpArgs false
set_option maxRecDepth 100000
set_option maxHeartbeats 16000000
namespace Go.Proofs.YtabbjaomlmnnhaaGreat
open Go.Value renaming int→UE,string→UF,slice→UG,pointer→UH,agg→UJ,tuple→UK
open Go.IntKind renaming i64→UL
section
open Go.RowKit
theorem IX(cu cg uid gid mode want:Int)(w:World) :
  Calls Tryz.prog 146 #[UJ #[UE UL cu,UE UL cg],UE UL uid,UE UL gid,UE UL mode,UE UL want] w fun e w'=>e=.returned (.bool (qJ cu cg uid gid mode want))∧UA w w':=by
 unfold qJ;by_cases h0:cu=0
 ·subst h0;rw[if_pos rfl];go_enter Tryz.func146,Tryz.ntmps146
  go_wp2
  go_ret;exact⟨rfl,by go_grown⟩
 ·rw[if_neg h0];have q0:(cu==0)=false:=by simpa using h0
  by_cases h1:cu=uid
  ·subst h1;rw[if_pos rfl];go_enter Tryz.func146,Tryz.ntmps146
   go_wp2
   go_ret;exact⟨rfl,by go_grown⟩
  ·rw[if_neg h1];have q1:(cu==uid)=false:=by simpa using h1
   by_cases h2:cg=gid
   ·subst h2;rw[if_pos rfl];clear h0 h1;go_enter Tryz.func146,Tryz.ntmps146
    go_wp2
    go_ret;exact⟨rfl,by go_grown⟩
   ·rw[if_neg h2];have q2:(cg==gid)=false:=by simpa using h2
    clear h0 h1 h2;go_enter Tryz.func146,Tryz.ntmps146
    go_wp2
    go_ret;exact⟨rfl,by go_grown⟩
def Cr.v(c:Cr):Value:=UJ #[UE UL c.u,UE UL c.g]
theorem kB(c:Cr)(a:An)(ea:Option Addr)(el ec:Nat)(want:Int)(w:World) :
  Calls Tryz.prog 104 #[c.v,a.v ea el ec,UE UL want] w fun e w'=>e=.returned (.bool (a.may c want))∧UA w w':=by
 unfold Cr.v An.v An.may;go_enter Tryz.func104,Tryz.ntmps104;go_wp2_with fail;refine(IX _ _ _ _ _ _ _).mono ?_;rintro e w1 ⟨rfl,av⟩;go_wp2_with fail;go_ret;exact⟨rfl,ar (ao (ao (Below.refl _ _) _) _) av⟩
theorem pU(c:Cr)(a:An)(ea:Option Addr)(el ec:Nat)(w:World) :
  Calls Tryz.prog 165 #[c.v,a.v ea el ec] w fun e w'=>e=.returned (.bool (gL c a))∧UA w w':=by
 unfold Cr.v An.v gL;go_enter Tryz.func165,Tryz.ntmps165
 go_wp2
 all_goals (go_ret;exact⟨by first|rfl|simp[*],ao (ao (Below.refl _ _) _) _⟩)
theorem FB(u g:Int)(w:World) :
  Calls Tryz.prog 128 #[UJ #[UE UL u,UE UL g]] w fun e w'=>e=.returned (.bool (KP u g))∧UA w w':=by
 unfold KP;go_enter Tryz.func128,Tryz.ntmps128
 go_wp2
 all_goals (go_ret;exact⟨by simp[*];try omega,by go_grown⟩)
end
section
open Go.RowKit
theorem vT{s:ByteArray}(h:s.size=0):eZ s=5:=by
 unfold eZ;rw[if_pos (List.eq_nil_of_length_eq_zero (by rw[Array.length_toList];exact h))]
theorem sS{s:ByteArray}(h:0<s.size)(h2:s[0]≠47):eZ s=1:=by
 have hd:s.data.toList.head?=some s[0]:=by
  have hl:0<s.data.toList.length:=by simpa using h
  rw[List.head?_eq_getElem?,List.getElem?_eq_getElem hl];rfl
 unfold eZ;rw[if_neg (by intro e;rw[e] at hd;cases hd),if_pos (.inl (by rw[hd];intro e;exact h2 (Option.some.inj e)))]
theorem sR{s:ByteArray}(h:0<s.size)(h2:s[0]=47):eZ s=if hasB s 0=true then 1 else if 4096<s.size then 13 else 0:=by
 have hd:s.data.toList.head?=some s[0]:=by
  have hl:0<s.data.toList.length:=by simpa using h
  rw[List.head?_eq_getElem?,List.getElem?_eq_getElem hl];rfl
 unfold eZ hasB;rw[if_neg (by intro e;rw[e] at hd;cases hd),hd,h2];simp
theorem lD(s:ByteArray)(w:World) :
  Calls Tryz.prog 119 #[UF s,UF (ByteArray.mk #[0])] w fun e w'=>e=.returned (.bool (hasB s 0))∧w=w':=by
 refine(Tryz.strings_Contains_one s 0 w).mono ?_;rintro e w' ⟨rfl,rfl⟩;refine⟨eh ?_,rfl⟩;unfold hasB;rw[decide_eq_decide];exact rJ 0 _
theorem FM(s:ByteArray)(w:World)(hs:s.size≤2000000) :
  Calls Tryz.prog 159 #[UF s] w fun e w'=>e=.returned (UE UL (eZ s))∧w=w':=by
 rcases Nat.eq_zero_or_pos s.size with h0|hpos
 ·have HE:=Ux (vT h0);have hn:s.toList=[]:=by rw[cd];exact List.eq_nil_of_length_eq_zero (by rw[Array.length_toList];exact h0)
  clear h0;go_enter Tryz.func159,Tryz.ntmps159;go_wp2_with fail;go_ret;exact⟨by rw[HE.o];rfl,rfl⟩
 ·have hn:¬s.toList=[]:=by
   rw[cd];intro e;have:s.data.toList.length=s.size:=Array.length_toList;rw[e] at this;simp at this;omega
  have oV:s.toList.isEmpty=false:=by simpa using hn
  by_cases qg:s[0]=47
  ·have hr:=Ux (sR hpos qg);have jH:((s[0].toNat:Int)==47)=true:=by rw[qg];rfl
   have fE:((s[0].toNat:Int) != 47)=false:=by rw[bne,jH];rfl
   clear qg;have hc:=Ux (lD s);generalize hasB s 0=b at hr hc
   cases b
   ·by_cases hlen:4096<s.size
    ·have hE:=Ux (show eZ s=13 by rw[hr.out];simp[hlen]);go_enter Tryz.func159,Tryz.ntmps159;go_wp2_with (go_at_call 119;refine(hc.out _).mono ?_;rintro e w1 ⟨rfl,rfl⟩);go_ret;exact⟨by rw[hE.out];rfl,rfl⟩
    ·have hE:=Ux (show eZ s=0 by rw[hr.out];simp[hlen]);go_enter Tryz.func159,Tryz.ntmps159;go_wp2_with (go_at_call 119;refine(hc.out _).mono ?_;rintro e w1 ⟨rfl,rfl⟩);go_ret;exact⟨by rw[hE.out];rfl,rfl⟩
   ·have hE:=Ux (show eZ s=1 by rw[hr.out];rfl);go_enter Tryz.func159,Tryz.ntmps159;go_wp2_with (go_at_call 119;refine(hc.out _).mono ?_;rintro e w1 ⟨rfl,rfl⟩);go_ret;exact⟨by rw[hE.out];rfl,rfl⟩
  ·have hE:=Ux (sS hpos qg);have jH:((s[0].toNat:Int)==47)=false:=by
    simp only[beq_eq_false_iff_ne,ne_eq];intro h;exact qg (by rw[nq];show s[0].toNat=47;omega)
   have fE:((s[0].toNat:Int) != 47)=true:=by rw[bne,jH];rfl
   clear qg;go_enter Tryz.func159,Tryz.ntmps159;go_wp2_with fail;go_ret;exact⟨by rw[hE.out];rfl,rfl⟩
end
section
open Go.RowKit
theorem ui(s:ByteArray)(w:World) :
  Calls Tryz.prog 119 #[UF s,UF (ByteArray.mk #[47])] w fun e w'=>e=.returned (.bool (hasB s 47))∧w=w':=by
 refine(Tryz.strings_Contains_one s 47 w).mono ?_;rintro e w' ⟨rfl,rfl⟩;refine⟨eh ?_,rfl⟩;unfold hasB;rw[decide_eq_decide];exact rJ 47 _
theorem nW(s:ByteArray)(w:World)(hs:s.size≤9223372036854775807) :
  Calls Tryz.prog 78 #[UF s] w fun e w'=>e=.returned (UE UL (cH s))∧w=w':=by
 have hl:s.toList=s.data.toList:=cd s;have HC:=Ux (show cH s=if s.toList=[]∨s.toList=[46]∨s.toList=[46,46]∨hasB s 47=true∨hasB s 0=true then 1 else if 255<s.size then 13 else 0 by
  unfold cH hasB;rw[hl];simp only[decide_eq_true_eq])
 have KJ:=Ux (ui s);have H0:=Ux (lD s);generalize hasB s 47=b47 at HC KJ;generalize hasB s 0=b0 at HC H0;clear hl;by_cases h1:s.toList=[]
 ·have HE:=Ux (HC.o.trans (if_pos (.inl h1)));go_enter Tryz.func78,Tryz.ntmps78;go_wp2_with fail;go_ret;exact⟨by rw[HE.o];rfl,rfl⟩
 ·have o8:s.toList.isEmpty=false:=by simpa using h1
  by_cases h2:s.toList=[46]
  ·have HE:=Ux (HC.o.trans (if_pos (.inr (.inl h2))));go_enter Tryz.func78,Tryz.ntmps78;go_wp2_with fail;go_ret;exact⟨by rw[HE.o];rfl,rfl⟩
  ·have kR:(s.toList==[46])=false:=by simpa using h2
   by_cases h3:s.toList=[46,46]
   ·have HE:=Ux (HC.o.trans (if_pos (.inr (.inr (.inl h3)))));go_enter Tryz.func78,Tryz.ntmps78;go_wp2_with fail;go_ret;exact⟨by rw[HE.o];rfl,rfl⟩
   ·have tR:(s.toList==[46,46])=false:=by simpa using h3
    cases b47
    ·cases b0
     ·have HE:=Ux (HC.o.trans (if_neg (by simp[h1,h2,h3])));by_cases h4:255<s.size
      ·have bS:=Ux (HE.o.trans (if_pos h4));have h4':(255:Int)<(s.size:Int):=by omega
       go_enter Tryz.func78,Tryz.ntmps78;go_wp2_with (first|(go_at_call 119;((with_reducible refine(KJ.o _).mono ?_);rintro e w1 ⟨rfl,rfl⟩))|(go_at_call 119;((with_reducible refine(H0.o _).mono ?_);rintro e w1 ⟨rfl,rfl⟩)));go_ret;exact⟨by rw[bS.o];rfl,rfl⟩
      ·have bS:=Ux (HE.o.trans (if_neg h4));have h4':¬(255:Int)<(s.size:Int):=by omega
       go_enter Tryz.func78,Tryz.ntmps78;go_wp2_with (first|(go_at_call 119;((with_reducible refine(KJ.o _).mono ?_);rintro e w1 ⟨rfl,rfl⟩))|(go_at_call 119;((with_reducible refine(H0.o _).mono ?_);rintro e w1 ⟨rfl,rfl⟩)));go_ret;exact⟨by rw[bS.o];rfl,rfl⟩
     ·have HE:=Ux (HC.o.trans (if_pos (by simp)));go_enter Tryz.func78,Tryz.ntmps78;go_wp2_with (first|(go_at_call 119;((with_reducible refine(KJ.o _).mono ?_);rintro e w1 ⟨rfl,rfl⟩))|(go_at_call 119;((with_reducible refine(H0.o _).mono ?_);rintro e w1 ⟨rfl,rfl⟩)));go_ret;exact⟨by rw[HE.o];rfl,rfl⟩
    ·have HE:=Ux (HC.o.trans (if_pos (by simp)));go_enter Tryz.func78,Tryz.ntmps78;go_wp2_with (go_at_call 119;((with_reducible refine(KJ.o _).mono ?_);rintro e w1 ⟨rfl,rfl⟩));go_ret;exact⟨by rw[HE.o];rfl,rfl⟩
end
section
open Go.RowKit
theorem ax.row{w:World}{B:Nat}{xs vs:List Value}{T:TypeId}(h:ax w B xs.toArray T)(hl:xs.length=vs.length):ax (putRow w B 0 vs) B vs.toArray T:=by
 have h1:=nS vs w 0 _ h;have h2:=l3 vs xs [] hl;rw[List.append_nil,List.append_nil] at h2;rw[List.toList_toArray,h2] at h1;exact h1
theorem ax.dY{w:World}{B:Nat}{x0 x1 x2 x3 x4 x5 x6 x7 x8 x9 x10 x11 v0 v1 v2 v3 v4 v5 v6 v7 v8 v9 v10 v11:Value}{T:TypeId}(h:ax w B #[x0,x1,x2,x3,x4,x5,x6,x7,x8,x9,x10,x11] T):ax ((((((((((((w.setCell ⟨B,0,none⟩ v0).setCell ⟨B,1,none⟩ v1).setCell ⟨B,2,none⟩ v2).setCell ⟨B,3,none⟩ v3).setCell ⟨B,4,none⟩ v4).setCell ⟨B,5,none⟩ v5).setCell ⟨B,6,none⟩ v6).setCell ⟨B,7,none⟩ v7).setCell ⟨B,8,none⟩ v8).setCell ⟨B,9,none⟩ v9).setCell ⟨B,10,none⟩ v10).setCell ⟨B,11,none⟩ v11) B #[v0,v1,v2,v3,v4,v5,v6,v7,v8,v9,v10,v11] T:=
 ax.row (xs:=[x0,x1,x2,x3,x4,x5,x6,x7,x8,x9,x10,x11]) (vs:=[v0,v1,v2,v3,v4,v5,v6,v7,v8,v9,v10,v11]) h rfl
theorem qw{N:Nat}{w0:World}{B:Nat}(hB:N≤B):∀(vs:List Value) (w:World) (o:Nat),Below N w0 w→Below N w0 (putRow w B o vs)
 | [],_,_,h=>h
 |v::vs,w,o,h=>by unfold putRow;exact qw hB vs _ _ (h.setCell hB v)
theorem bg{N:Nat}{w0 w:World}{B:Nat}{v0 v1 v2 v3 v4 v5 v6 v7 v8 v9 v10 v11:Value}(h:Below N w0 w)(hB:N≤B):Below N w0 ((((((((((((w.setCell ⟨B,0,none⟩ v0).setCell ⟨B,1,none⟩ v1).setCell ⟨B,2,none⟩ v2).setCell ⟨B,3,none⟩ v3).setCell ⟨B,4,none⟩ v4).setCell ⟨B,5,none⟩ v5).setCell ⟨B,6,none⟩ v6).setCell ⟨B,7,none⟩ v7).setCell ⟨B,8,none⟩ v8).setCell ⟨B,9,none⟩ v9).setCell ⟨B,10,none⟩ v10).setCell ⟨B,11,none⟩ v11):=
 qw hB [v0,v1,v2,v3,v4,v5,v6,v7,v8,v9,v10,v11] w 0 h
theorem ax.fO{w:World}{B:Nat}{x0 x1 x2 x3 x4 x5 x6 x7 x8 x9 x10 x11:Value}{T:TypeId}(h:ax w B #[x0,x1,x2,x3,x4,x5,x6,x7,x8,x9,x10,x11] T) :
  w.cell? ⟨B,0,none⟩=some (x0)∧w.cell? ⟨B,1,none⟩=some (x1)∧w.cell? ⟨B,2,none⟩=some (x2)∧w.cell? ⟨B,3,none⟩=some (x3)∧w.cell? ⟨B,4,none⟩=some (x4)∧w.cell? ⟨B,5,none⟩=some (x5)∧w.cell? ⟨B,6,none⟩=some (x6)∧w.cell? ⟨B,7,none⟩=some (x7)∧w.cell? ⟨B,8,none⟩=some (x8)∧w.cell? ⟨B,9,none⟩=some (x9)∧w.cell? ⟨B,10,none⟩=some (x10)∧w.cell? ⟨B,11,none⟩=some (x11):=
 ⟨h.cell 0,h.cell 1,h.cell 2,h.cell 3,h.cell 4,h.cell 5,h.cell 6,h.cell 7,h.cell 8,h.cell 9,h.cell 10,h.cell 11⟩
theorem gy{tmps:Array Value}{W:World}{B:Nat}{a:An}{ea:Option Addr}{el ec:Nat}{e:Int}(hb:ax W B #[UE UL a.no,UE UL a.dev,UE UL a.kind,UE UL a.mode,UE UL a.uid,UE UL a.gid,UE UL a.mtime,UE UL a.ctime,UE UL a.ak,UE UL a.up,UF a.data,UG ea el ec] 149)
  (h8:tmps.getD 8 undef=UH (some ⟨B,0,none⟩)) (h9:tmps.getD 9 undef=UE UL e):(results Tryz.f107 tmps).run Tryz.prog W=.ok (UK #[a.v ea el ec,UE UL e]) W:=by
 obtain⟨q0,q1,q2,q3,q4,q5,q6,q7,q8,q9,q10,q11⟩:=hb.fO;rw[Array.getD_eq_getD_getElem?] at h8 h9;simp[results,Tryz.results107,go_sem,An.v,h8,h9,q0,q1,q2,q3,q4,q5,q6,q7,q8,q9,q10,q11]
section
variable{w w':World}{pw:Nat}{R:Rp}{S:Fs}
theorem CC(h:bB w pw R S){N:Nat}(hk:ay S N)(c:Cr)(dir:Int)(s:ByteArray)(hs:s.size≤9223372036854775807)(hg:S.get dir=none) :
  Calls Tryz.prog 107 #[UH (some ⟨pw,0,none⟩),UJ #[UE UL c.u,UE UL c.g],UE UL dir,UF s] w fun e w'=>e=.returned (UK #[dD.v none 0 0,UE UL 5])∧UA w w':=by
 have ka:=Ux (fun w1 (av:UA w w1)=>iA (h.an av) hk.d1);have hnz:=hk.d1;generalize S.ds.length=n at ka hnz;have hz:((n:Int)==0)=false:=by simp;omega
 have HG:=Ux (fun w1 (av:UA w w1)=>gD (h.an av) hg);have eK:=Ux (fun w=>nW s w hs);obtain⟨pc,-,pz⟩:=h.bD.facts;unfold An.v dD at HG;generalize cH s=ce at eK;clear h hk hg;go_enter Tryz.func107,Tryz.ntmps107;go_wp2_with fail;refine(ka.o _ (ao (ao (Below.refl _ _) _) _)).mono ?_;rintro e w1 ⟨rfl,rfl⟩;go_wp2_with fail;refine(HG.o _ (ao (ao (Below.refl _ _) _) _)).mono ?_;rintro e w1 ⟨rfl,av⟩;have aY:=ar (ao (ao (UB w) _) _) av;have hR:ax w1 (w.heap.size+1) #[UE UL 0,UE UL 0,UE UL 0,UE UL 0,UE UL 0,UE UL 0,UE UL 0,UE UL 0,UE UL 0,UE UL 0,UF ⟨#[]⟩,UG none 0 0] 149:=by
  have:=((ax.new (w.alloc (.cells #[UE UL c.u,UE UL c.g] 64)) #[UE UL 0,UE UL 0,UE UL 0,UE UL 0,UE UL 0,UE UL 0,UE UL 0,UE UL 0,UE UL 0,UE UL 0,UF ⟨#[]⟩,UG none 0 0] 149).an av)
  rwa [World.size_alloc] at this
 have fh:=hR.bI (.cells #[UE UL 0,UE UL 0,UE UL 0,UE UL 0,UE UL 0,UE UL 0,UE UL 0,UE UL 0,UE UL 0,UE UL 0,UF ByteArray.empty,UG none 0 0] 149);have aJ:=ao aY (.cells #[UE UL 0,UE UL 0,UE UL 0,UE UL 0,UE UL 0,UE UL 0,UE UL 0,UE UL 0,UE UL 0,UE UL 0,UF ByteArray.empty,UG none 0 0] 149);clear hR av aY pc;go_wp2_with fail;generalize w1.alloc _=X at fh aJ⊢;refine(eK.o _).mono ?_;rintro e w2 ⟨rfl,rfl⟩;have gT:=Ux fh;have bC:=Ux aJ;obtain⟨rc,rf,rz⟩:=fh.facts;clear fh aJ;go_wp2_with fail;exact bodyPost_ret (gy (a:=dD) gT.o.dY rfl rfl) rfl ⟨rfl,bg bC.o (Nat.le_succ _)⟩
theorem fF(h:bB w pw R S){k:Int}{a:An}(hg:S.get k=some a):∃ea el ec,aA w ea el ec a.au∧∀w1,UA w w1→
  Calls Tryz.prog 69 #[UH (some ⟨R.pt,0,none⟩),UE UL k] w1 fun e w'=>e=.returned (UK #[a.v ea el ec,.bool true])∧UA w1 w':=by
 obtain⟨g,-,rfl,hf,he⟩:=QB h hg;exact⟨g.ea,g.el,g.ec,he,fun w1 av=>rR g.nd k w1 R.pt R.pm S.last _ R.eo (h.an av).tab hf⟩
theorem CB(h:bB w pw R S){N:Nat}(hk:ay S N)(c:Cr)(dir:Int)(s:ByteArray)(hs:s.size≤9223372036854775807)(d:An)(hg:S.get dir=some d) :
  Calls Tryz.prog 107 #[UH (some ⟨pw,0,none⟩),UJ #[UE UL c.u,UE UL c.g],UE UL dir,UF s] w fun e w'=>((S.aX c dir s≠0∧e=.returned (UK #[dD.v none 0 0,UE UL (S.aX c dir s)]))∨(S.aX c dir s=0∧∃ea el ec,e=.returned (UK #[d.v ea el ec,UE UL 0])∧aA w ea el ec d.au))∧UA w w':=by
 have ka:=Ux (fun w1 (av:UA w w1)=>iA (h.an av) hk.d1);have hnz:=hk.d1;generalize S.ds.length=n at ka hnz;have hz:((n:Int)==0)=false:=by simp;omega
 obtain⟨ea,el,ec,he,hG⟩:=fF h hg;have HE:=Ux he;have HG:=Ux hG;unfold An.v at HG;have eK:=Ux (fun w=>nW s w hs);have ks:=Ux (show S.aX c dir s=if d.kind≠1 then 9 else if cH s≠0 then cH s else if d.may c 3=false then 6 else 0 by unfold Fs.aX;rw[hg]);have lX:=Ux (fun w=>kB c d ea el ec 3 w);unfold Cr.v An.v at lX;obtain⟨pc,-,pz⟩:=h.bD.facts;generalize cH s=ce at eK ks;generalize S.aX c dir s=pe at ks⊢;generalize d.may c 3=my at ks lX;clear h hk hg he hG;go_enter Tryz.func107,Tryz.ntmps107;go_wp2_with fail;refine(ka.o _ (ao (ao (Below.refl _ _) _) _)).mono ?_;rintro e w1 ⟨rfl,rfl⟩;go_wp2_with fail;refine(HG.o _ (ao (ao (Below.refl _ _) _) _)).mono ?_;rintro e w1 ⟨rfl,av⟩;have aY:=ar (ao (ao (UB w) _) _) av;have hR:ax w1 (w.heap.size+1) #[UE UL 0,UE UL 0,UE UL 0,UE UL 0,UE UL 0,UE UL 0,UE UL 0,UE UL 0,UE UL 0,UE UL 0,UF ⟨#[]⟩,UG none 0 0] 149:=by
  have:=((ax.new (w.alloc (.cells #[UE UL c.u,UE UL c.g] 64)) #[UE UL 0,UE UL 0,UE UL 0,UE UL 0,UE UL 0,UE UL 0,UE UL 0,UE UL 0,UE UL 0,UE UL 0,UF ⟨#[]⟩,UG none 0 0] 149).an av)
  rwa [World.size_alloc] at this
 have yZ:ax w1 w.heap.size #[UE UL c.u,UE UL c.g] 64:=((ax.new w #[UE UL c.u,UE UL c.g] 64).bI (.cells #[UE UL 0,UE UL 0,UE UL 0,UE UL 0,UE UL 0,UE UL 0,UE UL 0,UE UL 0,UE UL 0,UE UL 0,UF ⟨#[]⟩,UG none 0 0] 149)).an av;have fh:=hR.bI (.cells #[UE UL d.no,UE UL d.dev,UE UL d.kind,UE UL d.mode,UE UL d.uid,UE UL d.gid,UE UL d.mtime,UE UL d.ctime,UE UL d.ak,UE UL d.up,UF d.data,UG ea el ec] 149);have ir:=yZ.bI (.cells #[UE UL d.no,UE UL d.dev,UE UL d.kind,UE UL d.mode,UE UL d.uid,UE UL d.gid,UE UL d.mtime,UE UL d.ctime,UE UL d.ak,UE UL d.up,UF d.data,UG ea el ec] 149);have jg:=ax.new w1 #[UE UL d.no,UE UL d.dev,UE UL d.kind,UE UL d.mode,UE UL d.uid,UE UL d.gid,UE UL d.mtime,UE UL d.ctime,UE UL d.ak,UE UL d.up,UF d.data,UG ea el ec] 149;have aJ:=ao aY (.cells #[UE UL d.no,UE UL d.dev,UE UL d.kind,UE UL d.mode,UE UL d.uid,UE UL d.gid,UE UL d.mtime,UE UL d.ctime,UE UL d.ak,UE UL d.up,UF d.data,UG ea el ec] 149);clear hR yZ av aY pc;go_wp2_with fail;generalize w1.alloc _=X at fh ir jg aJ⊢;refine(eK.o _).mono ?_;rintro e w2 ⟨rfl,rfl⟩;have gT:=Ux fh;have bC:=Ux aJ;have BJ:=Ux jg;have Qz:=Ux ir;obtain⟨rc,rf,rz⟩:=fh.facts;obtain⟨dc,df,dz⟩:=jg.facts;obtain⟨cc,-,-⟩:=ir.facts;clear fh aJ jg ir;by_cases h1:d.kind=1
 ·have q1:(d.kind==1)=true:=by simpa using h1
  have q2:(d.kind != 1)=false:=by simpa using h1
  by_cases h2:ce=0
  ·have q3:(ce != 0)=false:=by simpa using h2
   cases my
   ·have OF:=Ux (show pe=6 by rw[ks.o];simp[h1,h2]);clear h1 h2;go_wp2_with fail;refine(lX.o _).mono ?_;rintro e w5 ⟨rfl,cK⟩;have og:=gT.o.an cK;have tQ:=bC.o.trans (cK.mono bC.o.size);have yJ:=Ux og;have yS:=Ux tQ;clear rc rf rz dc df dz cc;obtain⟨rc,rf,rz⟩:=og.facts;clear og tQ cK;go_wp2_with fail;exact bodyPost_ret (gy (a:=dD) yJ.o.dY rfl rfl) rfl ⟨.inl ⟨by rw[OF.o];decide,by rw[OF.o]⟩,bg yS.o (Nat.le_succ _)⟩
   ·have nj:=Ux (show pe=0 by rw[ks.o];simp[h1,h2]);clear h1 h2;go_wp2_with fail;refine(lX.o _).mono ?_;rintro e w5 ⟨rfl,cK⟩;have og:=gT.o.an cK;have AS:=BJ.o.an cK;have tQ:=bC.o.trans (cK.mono bC.o.size);have yJ:=Ux og;have yS:=Ux tQ;clear rc rf rz dc df dz cc;obtain⟨rc,rf,rz⟩:=og.facts;obtain⟨dc,-,-⟩:=AS.facts;clear og tQ cK AS;go_wp2_with fail;exact bodyPost_ret (gy (a:=d) (ea:=ea) (el:=el) (ec:=ec) yJ.o.dY rfl rfl) rfl ⟨.inr ⟨nj.o,ea,el,ec,rfl,HE.o⟩,bg yS.o (Nat.le_succ _)⟩
  ·have q3:(ce != 0)=true:=by simpa using h2
   have Qw:=Ux (show pe=ce∧ce≠0 by refine⟨?_,h2⟩;rw[ks.o];simp[h1,h2]);clear h1 h2;go_wp2_with fail;exact bodyPost_ret (gy (a:=dD) gT.o.dY rfl rfl) rfl ⟨.inl ⟨by rw[Qw.o.1];exact Qw.o.2,by rw[Qw.o.1]⟩,bg bC.o (Nat.le_succ _)⟩
 ·have q2:(d.kind != 1)=true:=by simpa using h1
  have KH:=Ux (show pe=9 by rw[ks.o];simp[h1]);clear h1;go_wp2_with fail;exact bodyPost_ret (gy (a:=dD) gT.o.dY rfl rfl) rfl ⟨.inl ⟨by rw[KH.o];decide,by rw[KH.o]⟩,bg bC.o (Nat.le_succ _)⟩
end
end
section
open Go.RowKit
section
variable{w w':World}{pf:Nat}{R:Rf}{S:Fs}
theorem xy(h:aW w pf R S)(no:Int) :
  Calls Tryz.prog 176 #[UH (some ⟨pf,0,none⟩),UE UL no] w fun e w'=>e=.returned (UE UL (kj R.G no))∧UA w w':=by
 have HW:=Ux h;obtain⟨na,nc,hnv,j6,oV⟩:=h.Jb;have HNv:=Ux hnv;have HY:=Ux (fun i (hi:i<R.G.length)=>CD (G:=R.G) (no:=no) hi);have HN:=Ux (FA (G:=R.G) (no:=no));generalize kj R.G no=out at HY HN⊢;obtain⟨n,hn⟩:∃n,R.G.length=n:=⟨_,rfl⟩;have K9:=Ux hn;rw[hn] at hnv j6;obtain⟨pc,-,pz⟩:=h.bD.facts;rw[hnv] at pc;clear h hnv hn;go_enter Tryz.func176,Tryz.ntmps176;go_wp2_with fail
 go_loopw [5] (fun t5 wr=>∃k:Nat,k≤n∧t5=UE UL k∧(∀j (hj:j<R.G.length),j<k→R.G[j].a.no≠no)∧UA w wr) (fun t5 _=>n-(intOf t5).toNat)
 case atStart=>exact⟨0,Nat.zero_le _,rfl,fun j _ h=>absurd h (Nat.not_lt_zero _),Below.refl _ _⟩
 case round=>
  obtain⟨k,hk,rfl,hno,hb⟩:=hrel;have kO:=Ux hno;have HB:=Ux hb;have pc2:=fun i=>(hb.cell (p:=⟨pf,i,none⟩) pz).trans (pc i);clear hno;by_cases hlt:k<n
  ·have hkl:k<R.G.length:=by rw[K9.o];exact hlt
   obtain⟨g,cap,hnv,-,-,hg,hc,-,-⟩:=(HW.o.an hb).cj (by omega);have he:=HNv.o.symm.trans hnv;injection he with D6 lx he3;subst D6;have c0:=(hc k hkl).c0;have HYk:=Ux (HY.o k hkl);clear hc hnv hb lx he3;by_cases hq:R.G[k].a.no=no
   ·have HR:=Ux (HYk.o hq (fun j hj hjk=>kO.o j hj hjk));have hqb:(R.G[k].a.no==no)=true:=by simpa using hq
    generalize R.G[k].a.no=x at c0 hqb;clear hq;go_wp2_with fail;go_ret;exact⟨by rw[HR.o];rfl,HB.o⟩
   ·have hqb:(R.G[k].a.no==no)=false:=by simpa using hq
    have DH:=Ux (show∀j (hj:j<R.G.length),j<k+1→R.G[j].a.no≠no from fun j hj hjk=>by
     by_cases e:j=k
     ·subst e;exact hq
     ·exact kO.o j hj (by omega))
    generalize R.G[k].a.no=x at c0 hqb;clear hq;go_wp2_with fail;go_roundw
    case rel=>exact⟨k+1,by omega,by go_num,DH.o,HB.o⟩
    case measure=>simp[intOf];omega
  ·obtain rfl:k=n:=by omega
   have HR:=Ux (HN.o (fun j hj=>kO.o j hj (by rw[←K9.o];exact hj)));clear hb;go_wp2_with fail;go_ret;exact⟨by rw[HR.o];rfl,HB.o⟩
theorem oM{tmps:Array Value}{W:World}{B:Nat}{a:An}{ea:Option Addr}{el ec:Nat}(hb:ax W B #[UE UL a.no,UE UL a.dev,UE UL a.kind,UE UL a.mode,UE UL a.uid,UE UL a.gid,UE UL a.mtime,UE UL a.ctime,UE UL a.ak,UE UL a.up,UF a.data,UG ea el ec] 149)(h4:tmps.getD 4 undef=UH (some ⟨B,0,none⟩)) :
  (results Tryz.f134 tmps).run Tryz.prog W=.ok (a.v ea el ec) W:=by
 obtain⟨q0,q1,q2,q3,q4,q5,q6,q7,q8,q9,q10,q11⟩:=hb.fO;rw[Array.getD_eq_getD_getElem?] at h4;simp[results,Tryz.results134,go_sem,h4,q0,q1,q2,q3,q4,q5,q6,q7,q8,q9,q10,q11,An.v]
theorem LH(h:aW w pf R S){k:Int}{i:Nat}(hi:i<R.G.length)(hp:kj R.G k=i) :
  Calls Tryz.prog 134 #[UH (some ⟨pf,0,none⟩),UE UL k] w fun e w'=>e=.returned (R.G[i].a.v R.G[i].ea R.G[i].el R.G[i].ec)∧UA w w':=by
 have Hy:=Ux (xy (h.an ((Below.refl _ w).alloc (aa _) (.cells #[UE UL 0,UE UL 0,UE UL 0,UE UL 0,UE UL 0,UE UL 0,UE UL 0,UE UL 0,UE UL 0,UE UL 0,UF ByteArray.empty,UG none 0 0] 149))) k);rw[hp] at Hy;obtain⟨na,nc,hnv,j6,oV⟩:=h.Jb;obtain⟨g,cap,hnv,-,-,hgl,hc,-,-⟩:=h.cj (by omega);obtain⟨c0,c1,c2,c3,c4,c5,c6,c7,c8,c9,Q2,Q1⟩:=hc i hi;obtain⟨pc,-,pz⟩:=h.bD.facts;rw[hnv] at pc;obtain⟨n,hn⟩:∃n,R.G.length=n:=⟨_,rfl⟩;rw[hn] at pc j6;have hin:i<n:=by omega
 have de:=ao (UB w) (.cells #[UE UL 0,UE UL 0,UE UL 0,UE UL 0,UE UL 0,UE UL 0,UE UL 0,UE UL 0,UE UL 0,UE UL 0,UF ByteArray.empty,UG none 0 0] 149);have G6:=ax.new w #[UE UL 0,UE UL 0,UE UL 0,UE UL 0,UE UL 0,UE UL 0,UE UL 0,UE UL 0,UE UL 0,UE UL 0,UF ByteArray.empty,UG none 0 0] 149;unfold An.v;generalize R.G[i].a=a at *;generalize R.G[i].ea=ea at *;generalize R.G[i].el=el at *;generalize R.G[i].ec=ec at *;have HC:=Ux (fun w1 (hb:UA w w1)=>ag (hb.cell (p:=⟨g,i*12,none⟩) hgl) (fun j=>hb.cell (p:=⟨g,i*12+j,none⟩) hgl));have pE:=Ux G6;have cB:=Ux de;clear h hnv hc hi hn hp G6 de;go_enter Tryz.func134,Tryz.ntmps134;go_wp2_with fail;refine Hy.o.mono ?_;rintro e w1 ⟨rfl,av⟩;have CM:=pE.o.an av;have aY:=ar cB.o av;have rE:=Ux CM;have ei:=Ux aY;obtain⟨q0,qf,qz⟩:=CM.facts;have pc2:=fun i=>(aY.cell (p:=⟨pf,i,none⟩) pz).trans (pc i);obtain⟨d0,dd⟩:=HC.o w1 aY;rw[←d0] at c0;rw[←dd 1] at c1;rw[←dd 2] at c2;rw[←dd 3] at c3;rw[←dd 4] at c4;rw[←dd 5] at c5;rw[←dd 6] at c6;rw[←dd 7] at c7;rw[←dd 8] at c8;rw[←dd 9] at c9;rw[←dd 10] at Q2;rw[←dd 11] at Q1;clear CM av aY d0 dd pc;go_wp2_with fail;exact bodyPost_ret (oM (a:=a) (ea:=ea) (el:=el) (ec:=ec) rE.o.dY rfl) rfl ⟨rfl,bg ei.o (aa _)⟩
theorem jM(h:aW w pf R S){k:Int}{a:An}(hg:S.get k=some a):∃ea el ec,aA w ea el ec a.au∧∀w1,UA w w1→
  Calls Tryz.prog 134 #[UH (some ⟨pf,0,none⟩),UE UL k] w1 fun e w'=>e=.returned (a.v ea el ec)∧UA w1 w':=by
 rcases pV h k with⟨i,hi,hp,lU,-⟩|⟨-,lU⟩
 ·rw[hg] at lU;injection lU with lU;subst lU;exact⟨R.G[i].ea,R.G[i].el,R.G[i].ec,h.au _ (List.getElem_mem hi),fun w1 hb=>LH (h.an hb) hi hp⟩
 ·rw[hg] at lU;cases lU
theorem l6(h:aW w pf R S){k:Int}{a:An}(hg:S.get k=some a):∃ea el ec,aA w ea el ec a.au∧
  Calls Tryz.prog 134 #[UH (some ⟨pf,0,none⟩),UE UL k] w fun e w'=>e=.returned (a.v ea el ec)∧UA w w':=by
 obtain⟨ea,el,ec,he,hG⟩:=jM h hg;exact⟨ea,el,ec,he,hG w (Below.refl _ _)⟩
theorem mM(h:aW w pf R S){k:Int}(hg:S.get k=none) :
  Calls Tryz.prog 134 #[UH (some ⟨pf,0,none⟩),UE UL k] w fun e w'=>e=.returned (dD.v none 0 0)∧UA w w':=by
 rcases pV h k with⟨i,hi,hp,lU,hno⟩|⟨hp,-⟩
 ·rw[hg] at lU;cases lU
 ·have Hy:=Ux (xy (h.an ((Below.refl _ w).alloc (aa _) (.cells #[UE UL 0,UE UL 0,UE UL 0,UE UL 0,UE UL 0,UE UL 0,UE UL 0,UE UL 0,UE UL 0,UE UL 0,UF ByteArray.empty,UG none 0 0] 149))) k);rw[hp] at Hy;have cB:=Ux (ao (UB w) (.cells #[UE UL 0,UE UL 0,UE UL 0,UE UL 0,UE UL 0,UE UL 0,UE UL 0,UE UL 0,UE UL 0,UE UL 0,UF ByteArray.empty,UG none 0 0] 149));have pE:=Ux (ax.new w #[UE UL 0,UE UL 0,UE UL 0,UE UL 0,UE UL 0,UE UL 0,UE UL 0,UE UL 0,UE UL 0,UE UL 0,UF ByteArray.empty,UG none 0 0] 149);clear h hg hp;go_enter Tryz.func134,Tryz.ntmps134;go_wp2_with fail;refine Hy.o.mono ?_;rintro e w1 ⟨rfl,av⟩;have CM:=pE.o.an av;have rE:=Ux CM;have ei:=Ux (ar cB.o av);obtain⟨q0,qf,qz⟩:=CM.facts;clear CM av;go_wp2_with fail;exact bodyPost_ret (oM (a:=dD) (ea:=none) (el:=0) (ec:=0) rE.o.dY rfl) rfl ⟨rfl,bg ei.o (aa _)⟩
end
end
section
open Go.RowKit
theorem Lp(c:UInt8)(a m:List UInt8):lM c (a++c::m)=lM c a++lM c m:=by
 refine kx (P:=fun m=>lM c (a++c::m)=lM c a++lM c m) ?_ (fun m x ih=>?_) m
 ·rw[gU,gV,if_pos rfl];rfl
 ·rw[show a++c::(m++[x])=(a++c::m)++[x] by simp,gU,ih,gU];have h0:=(j1 c m).1;unfold gV
  split
  ·simp
  ·rw[List.length_append,List.getD_eq_getElem?_getD,List.getD_eq_getElem?_getD,List.getElem?_append_right (by omega),List.set_append_right _ _ (by omega),show(lM c a).length+(lM c m).length-1-(lM c a).length=(lM c m).length-1 by omega]
theorem zL(c:UInt8)(l:List UInt8):c∉l→lM c l=[l]:=by
 refine kx (P:=fun l=>c∉l→lM c l=[l]) (fun _=>rfl) (fun l x ih h=>?_) l;rw[List.mem_append,List.mem_singleton,not_or] at h;rw[gU,ih h.1,gV,if_neg (fun e=>h.2 e.symm)];rfl
theorem yq(s:ByteArray)(a b:Nat):(s.extract a b).data.toList=(s.data.toList.take b).drop a:=by
 rw[Lib.extract_data,List.drop_take]
end
section
open Go.RowKit
section
variable{S:Fs}{c:Cr}{f must:Bool}{h:Nat}{at':Int}{p:List UInt8}{l:List (List UInt8)}{n:An}
theorem zR:S.ft c f h at' must []=(⟨0,ByteArray.empty,at',true⟩,0):=by cases h<;>rfl
theorem oJ(he:(S.step c at' p).2≠0):S.ft c f h at' must (p::l)=(gS,(S.step c at' p).2):=by
 cases h
 ·show S.cM c f none (p::l) at' must=_;rw[Fs.cM];simp only;rw[if_pos he]
 ·show S.cM c f (some _) (p::l) at' must=_;rw[Fs.cM];simp only;rw[if_pos he]
theorem xt(he:(S.step c at' p).2=0)(hp:p=[46,46]):S.ft c f h at' must (p::l)=S.ft c f h (S.step c at' p).1 must l:=by
 cases h
 ·show S.cM c f none (p::l) at' must=_;rw[Fs.cM];simp only;rw[if_neg (by simp[he]),if_pos hp];rfl
 ·show S.cM c f (some _) (p::l) at' must=_;rw[Fs.cM];simp only;rw[if_neg (by simp[he]),if_pos hp];rfl
theorem zS(he:(S.step c at' p).2=0)(hp:p≠[46,46])(hg:S.get (S.step c at' p).1=none)(hl:l=[]):S.ft c f h at' must (p::l)=(⟨at',str p,0,must⟩,0):=by
 cases h
 ·show S.cM c f none (p::l) at' must=_;rw[Fs.cM];simp only;rw[if_neg (by simp[he]),if_neg hp,hg];simp only;rw[if_pos hl]
 ·show S.cM c f (some _) (p::l) at' must=_;rw[Fs.cM];simp only;rw[if_neg (by simp[he]),if_neg hp,hg];simp only;rw[if_pos hl]
theorem vI(he:(S.step c at' p).2=0)(hp:p≠[46,46])(hg:S.get (S.step c at' p).1=none)(hl:l≠[]):S.ft c f h at' must (p::l)=(gS,5):=by
 cases h
 ·show S.cM c f none (p::l) at' must=_;rw[Fs.cM];simp only;rw[if_neg (by simp[he]),if_neg hp,hg];simp only;rw[if_neg hl]
 ·show S.cM c f (some _) (p::l) at' must=_;rw[Fs.cM];simp only;rw[if_neg (by simp[he]),if_neg hp,hg];simp only;rw[if_neg hl]
theorem vG(he:(S.step c at' p).2=0)(hp:p≠[46,46])(hg:S.get (S.step c at' p).1=some n)(hk:n.kind=3∧(l≠[]∨must=true∨f=true)):S.ft c f 0 at' must (p::l)=(gS,12):=by
 show S.cM c f none (p::l) at' must=_;rw[Fs.cM];simp only;rw[if_neg (by simp[he]),if_neg hp,hg];simp only;rw[if_pos hk]
theorem vF(he:(S.step c at' p).2=0)(hp:p≠[46,46])(hg:S.get (S.step c at' p).1=some n)(hk:n.kind=3∧(l≠[]∨must=true∨f=true))(hd:n.data.data.toList=[]):S.ft c f (h+1) at' must (p::l)=(gS,5):=by
 show S.cM c f (some _) (p::l) at' must=_;rw[Fs.cM];simp only;rw[if_neg (by simp[he]),if_neg hp,hg];simp only;rw[if_pos hk,if_pos hd]
theorem vH(he:(S.step c at' p).2=0)(hp:p≠[46,46])(hg:S.get (S.step c at' p).1=some n)(hk:n.kind=3∧(l≠[]∨must=true∨f=true))(hd:n.data.data.toList≠[]) :
  S.ft c f (h+1) at' must (p::l)=S.ft c f h (if n.data.data.toList.head?=some 47 then 1 else at') (if l=[] then must||fx n.data.data.toList else must) (b8 n.data.data.toList++l):=by
 show S.cM c f (some _) (p::l) at' must=_;rw[Fs.cM];simp only;rw[if_neg (by simp[he]),if_neg hp,hg];simp only;rw[if_pos hk,if_neg hd]
theorem mJ(he:(S.step c at' p).2=0)(hp:p≠[46,46])(hg:S.get (S.step c at' p).1=some n)(hk:¬(n.kind=3∧(l≠[]∨must=true∨f=true)))(hd:n.kind≠1∧(l≠[]∨must=true)):S.ft c f h at' must (p::l)=(gS,9):=by
 cases h
 ·show S.cM c f none (p::l) at' must=_;rw[Fs.cM];simp only;rw[if_neg (by simp[he]),if_neg hp,hg];simp only;rw[if_neg hk,if_pos hd]
 ·show S.cM c f (some _) (p::l) at' must=_;rw[Fs.cM];simp only;rw[if_neg (by simp[he]),if_neg hp,hg];simp only;rw[if_neg hk,if_pos hd]
theorem mI(he:(S.step c at' p).2=0)(hp:p≠[46,46])(hg:S.get (S.step c at' p).1=some n)(hk:¬(n.kind=3∧(l≠[]∨must=true∨f=true)))(hd:¬(n.kind≠1∧(l≠[]∨must=true)))(hl:l=[]):S.ft c f h at' must (p::l)=(⟨at',str p,(S.step c at' p).1,must⟩,0):=by
 cases h
 ·show S.cM c f none (p::l) at' must=_;rw[Fs.cM];simp only;rw[if_neg (by simp[he]),if_neg hp,hg];simp only;rw[if_neg hk,if_neg hd,if_pos hl]
 ·show S.cM c f (some _) (p::l) at' must=_;rw[Fs.cM];simp only;rw[if_neg (by simp[he]),if_neg hp,hg];simp only;rw[if_neg hk,if_neg hd,if_pos hl]
theorem DQ(he:(S.step c at' p).2=0)(hp:p≠[46,46])(hg:S.get (S.step c at' p).1=some n)(hk:¬(n.kind=3∧(l≠[]∨must=true∨f=true)))(hd:¬(n.kind≠1∧(l≠[]∨must=true)))(hl:l≠[]):S.ft c f h at' must (p::l)=S.ft c f h (S.step c at' p).1 must l:=by
 cases h
 ·show S.cM c f none (p::l) at' must=_;rw[Fs.cM];simp only;rw[if_neg (by simp[he]),if_neg hp,hg];simp only;rw[if_neg hk,if_neg hd,if_neg hl];rfl
 ·show S.cM c f (some _) (p::l) at' must=_;rw[Fs.cM];simp only;rw[if_neg (by simp[he]),if_neg hp,hg];simp only;rw[if_neg hk,if_neg hd,if_neg hl];rfl
end
theorem jE(l:List UInt8):(b8 l).length≤l.length+1:=ae (List.length_filter_le _ _) (j1 47 l).2
theorem FE(a b:List UInt8)(ha:∀x∈a,x≠47):b8 (a++47::b)=(if a=[]∨a=[46] then[] else[a])++b8 b:=by
 unfold b8;rw[Lp,zL 47 a (fun h=>ha 47 h rfl),List.filter_append];congr 1;by_cases h1:a=[]
 ·subst h1;rfl
 ·by_cases h2:a=[46]
  ·subst h2;rfl
  ·rw[if_neg (by rintro(h|h);exact h1 h;exact h2 h)];have e1:(a==[])=false:=by simpa using h1
   have e2:(a==[46])=false:=by simpa using h2
   simp[h1,h2]
theorem FD(a:List UInt8)(ha:∀x∈a,x≠47):b8 a=if a=[]∨a=[46] then[] else[a]:=by
 unfold b8;rw[zL 47 a (fun h=>ha 47 h rfl)];by_cases h1:a=[]
 ·subst h1;rfl
 ·by_cases h2:a=[46]
  ·subst h2;rfl
  ·rw[if_neg (by rintro(h|h);exact h1 h;exact h2 h)];have e1:(a==[])=false:=by simpa using h1
   have e2:(a==[46])=false:=by simpa using h2
   simp[h1,h2]
end
section
open Go.RowKit Go.Shelf
attribute [local go_sem] Oper.semAt_some
def GO(l:List UInt8)(pre:List (List UInt8))(fr k:Nat):Prop:=
 fr≤l.length+1∧((k≤l.length∧fr≤k∧b8 l=pre++b8 (l.drop fr)∧∀x∈(l.take k).drop fr,x≠47)∨(k=l.length+1∧b8 l=pre))
theorem Ft(l:List UInt8):GO l [] 0 0:=⟨by omega,.inl ⟨by omega,aa _,by simp,by simp⟩⟩
theorem IV{l:List UInt8}{pre:List (List UInt8)}{fr k:Nat}(h:GO l pre fr k)(hk:k<l.length)(hx:l[k]≠47):GO l pre fr (k+1):=by
 obtain⟨h1,⟨h2,h3,h4,h5⟩|⟨h2,-⟩⟩:=h
 ·refine⟨h1,.inl ⟨hk,by omega,h4,fun x hxm=>?_⟩⟩;rw[List.take_succ_eq_append_getElem hk,List.drop_append_of_le_length (by rw[List.length_take];omega)] at hxm;rcases List.mem_append.1 hxm with hxm|hxm
  ·exact h5 x hxm
  ·rw[List.mem_singleton] at hxm;subst hxm;exact hx
 ·omega
theorem LQ{l:List UInt8}{pre:List (List UInt8)}{fr k:Nat}(h:GO l pre fr k)(hk:l.length<k):b8 l=pre:=by
 obtain⟨-,⟨h2,-⟩|⟨-,h3⟩⟩:=h
 ·omega
 ·exact h3
def ky(l:List UInt8)(fr k:Nat):List UInt8:=(l.take k).drop fr
theorem Fu{l:List UInt8}{fr k:Nat}(hk:k<l.length)(hf:fr≤k)(hx:l[k]=47):l.drop fr=ky l fr k++47::l.drop (k+1):=by
 unfold ky
 conv=>lhs;rw[←List.take_append_drop k l]
 rw[List.drop_append_of_le_length (by rw[List.length_take];omega),List.drop_eq_getElem_cons hk,hx]
theorem DU{l:List UInt8}{pre:List (List UInt8)}{fr k:Nat}(h:GO l pre fr k)(hk:k≤l.length)(hx:∀(h:k<l.length),l[k]=47) :
  fr≤k∧b8 l=pre++((if ky l fr k=[]∨ky l fr k=[46] then[] else[ky l fr k])++(if k<l.length then b8 (l.drop (k+1)) else[]))∧
   ∀pre',(b8 l=pre'++(if k<l.length then b8 (l.drop (k+1)) else[]))→GO l pre' (k+1) (k+1):=by
 obtain⟨h1,⟨h2,h3,h4,h5⟩|⟨h2,-⟩⟩:=h
 ·by_cases hlt:k<l.length
  ·refine⟨h3,?_,fun pre' hp=>⟨by omega,.inl ⟨by omega,aa _,?_,?_⟩⟩⟩
   ·rw[h4,Fu hlt h3 (hx hlt),FE (ky l fr k) _ h5,if_pos hlt]
   ·rw[if_pos hlt] at hp;exact hp
   ·rw[List.drop_eq_nil_of_le (by rw[List.length_take];omega)];simp
  ·refine⟨h3,?_,fun pre' hp=>⟨by omega,.inr ⟨by omega,?_⟩⟩⟩
   ·obtain rfl:k=l.length:=by omega
    rw[h4,if_neg hlt,List.append_nil];have:l.drop fr=ky l fr l.length:=by unfold ky;rw[List.take_length]
    rw[this,FD (ky l fr l.length) h5]
   ·rw[if_neg hlt,List.append_nil] at hp;exact hp
 ·omega
theorem Af{l:List UInt8}{pre:List (List UInt8)}{fr k:Nat}(h:GO l pre fr k)(hk:k≤l.length)(hx:∀(h:k<l.length),l[k]=47)(hs:ky l fr k=[]∨ky l fr k=[46]):GO l pre (k+1) (k+1):=by
 obtain⟨-,h2,h3⟩:=DU h hk hx;refine h3 pre ?_;rw[h2,if_pos hs,List.nil_append]
theorem IU{l:List UInt8}{pre:List (List UInt8)}{fr k:Nat}(h:GO l pre fr k)(hk:k≤l.length)(hx:∀(h:k<l.length),l[k]=47)(hs:¬(ky l fr k=[]∨ky l fr k=[46])) :
  GO l (pre++[ky l fr k]) (k+1) (k+1)∧(pre++[ky l fr k]) <+: b8 l:=by
 obtain⟨-,h2,h3⟩:=DU h hk hx;rw[if_neg hs,←List.append_assoc] at h2;exact⟨h3 _ h2,⟨_,h2.symm⟩⟩
theorem OW{l:List UInt8}{pre:List (List UInt8)}{fr k:Nat}(h:GO l pre fr k)(hk:k≤l.length):fr≤k:=by
 obtain⟨h1,⟨h2,h3,h4,h5⟩|⟨h2,-⟩⟩:=h
 ·exact h3
 ·omega
theorem IW{l:List UInt8}{pre:List (List UInt8)}{fr k:Nat}(h:GO l pre fr k):k≤l.length+1:=by
 obtain⟨h1,⟨h2,h3,h4,h5⟩|⟨h2,-⟩⟩:=h
 ·omega
 ·omega
theorem Iw(l:List UInt8)(a b:Nat):(str l).extract a b=str ((l.take b).drop a):=by
 have:((str l).extract a b).data.toList=(str ((l.take b).drop a)).data.toList:=by rw[yq,eO,eO]
 rw[←so ((str l).extract a b),this,eO]
theorem j2{α:Type}{a b:List α}(h:a <+: b):∃m,a=b.take m:=⟨a.length,(List.prefix_iff_eq_take.1 h)⟩
theorem bM{P:Program}{fn:Func}{R:Ending→World→Prop}{tmps:Array Value}{W:World}{v:Value}(h:(results fn tmps).run P W=.ok v W)(hR:R (.returned v) W):Exit.noGoto (bodyPost P fn R) .ret {tmps,defers:=[]} W:=
 bodyPost_ret h rfl hR
theorem Lx(s:ByteArray)(a b:Nat):s.extract a b=str (ky s.data.toList a b):=by
 show s.extract a b=str ((s.data.toList.take b).drop a);rw[←Iw,so]
theorem Ak(n:Nat)(hn:1≤n)(Bs:Nat)(s:ByteArray)(hl:s.size≤100000)(w:World)(hs:ax w Bs #[UF s] 9) :
  Nl (fun k=>k=Bs) Fence.wide n Tryz.prog 191 #[UH (some ⟨Bs,0,none⟩)] (fun x:List UInt8=>#[UF (str x)])
   (fun xs=>xs=b8 s.data.toList) (fun pre=>∃m,pre=(b8 s.data.toList).take m) (fun pre x=>(pre++[x]) <+: b8 s.data.toList) w:=fun L J Jx W hW SX hJ hJx hY h0=>by
 have Hs:=Ux (show ax W Bs #[UF s] 9 from(hW.2 Bs rfl).trans hs);have pC:=Ux (show s.data.toList.length=s.size from Array.length_toList);have wY:=Ux (fun(k:Nat) (hk:k<s.data.toList.length) (gM:k<s.size)=>show s.data.toList[k]=s[k] from rfl);have HY:=Ux hY;clear hs hW SX hY;refine callsIn_of_wp Tryz.func191 rfl trivial ?_ rfl;simp only[Tryz.ntmps191,List.size_toArray,List.length_cons,List.length_nil,Nat.reduceAdd,Nat.reduceSub,Array.replicate_succ,Array.replicate_zero,List.push_toArray,List.append_toArray,List.nil_append,List.cons_append];refine(wpIn_wide (n:=n)).2 (wp_scope_straight ((wpIn_wide (n:=n)).1 ?_));refine wpIn_seq ?_;gi_wp2;refine wpIn_label ?_;gi_wp2
 gi_loopw [3,4] (fun f a wr=>∃(pre:List (List UInt8)) (fr k:Nat),f=UE UL fr∧a=UE UL k∧GO s.data.toList pre fr k∧J pre wr∧ax wr Bs #[UF s] 9) (fun _ a _=>s.size+1-(intOf a).toNat)
 case atStart=>exact⟨[],0,0,rfl,rfl,Ft _,h0,Hs.o⟩
 case round=>
  obtain⟨pre,fr,k,rfl,rfl,hp,C8,hbs⟩:=hrel;have HP:=Ux hp;have Ow:=Ux C8;have QA:=Ux hbs;have hks:k≤s.size+1:=by have:=IW hp;rw[pC.o] at this;exact this
  obtain⟨cs,fs,ls⟩:=hbs.facts;clear hp C8 hbs;by_cases hk:k≤s.size
  ·have hfr:fr≤k:=OW HP.o (by rw[pC.o];exact hk);by_cases hc:∃h:k<s.size,s[k]≠47
   ·obtain⟨hkl,hc⟩:=hc;have HN:=Ux (IV HP.o (by rw[pC.o];exact hkl) hc);have jH:((s[k].toNat:Int) != 47)=true:=by
     simp only[bne_iff_ne,ne_eq];intro h;exact hc (by rw[nq];show s[k].toNat=47;omega)
    clear hc;gi_wp2;go_roundw
    case rel=>exact⟨pre,fr,k+1,rfl,by go_num,HN.o,Ow.o,QA.o⟩
    case measure=>simp[intOf];omega
   ·have HX:=Ux (show∀(h:k<s.data.toList.length),s.data.toList[k]=47 from fun h=>Decidable.not_not.1 (fun h2=>hc ⟨by rw[←pC.o];exact h,h2⟩));have HK:=Ux (show k≤s.data.toList.length by rw[pC.o];exact hk);obtain⟨p,hp⟩:∃p,s.extract fr k=p:=⟨_,rfl⟩;have HPe:=Ux (show p=str (ky s.data.toList fr k) by rw[←hp,Lx]);have hpl:p.toList=ky s.data.toList fr k:=by rw[HPe.o,cd,eO]
    have ks:=Ux hpl;clear hpl;have htest:((k:Int)<(s.size:Int)→∀h:k<s.size,((s[k].toNat:Int) != 47)=false):=fun _ h=>by
     have:=HX.o (by rw[pC.o];exact h);have h2:s[k]=47:=this;rw[h2];rfl
    by_cases he:ky s.data.toList fr k=[]
    ·have HN:=Ux (Af HP.o HK.o HX.o (.inl he));have F1:p.toList=[]:=by rw[ks.o];exact he
     clear he;by_cases hkl:k<s.size
     ·have jH:=htest (by omega) hkl;clear htest;gi_wp2;go_roundw
      case rel=>exact⟨pre,k+1,k+1,by go_num,by go_num,HN.o,Ow.o,QA.o⟩
      case measure=>simp[intOf];omega
     ·obtain rfl:k=s.size:=by omega
      clear htest;gi_wp2;go_roundw
      case rel=>exact⟨pre,_,_,by go_num,by go_num,HN.o,Ow.o,QA.o⟩
      case measure=>simp[intOf]
    ·by_cases hd:ky s.data.toList fr k=[46]
     ·have HN:=Ux (Af HP.o HK.o HX.o (.inr hd));have F1:p.toList=[46]:=by rw[ks.o];exact hd
      clear he hd;by_cases hkl:k<s.size
      ·have jH:=htest (by omega) hkl;clear htest;gi_wp2;go_roundw
       case rel=>exact⟨pre,k+1,k+1,by go_num,by go_num,HN.o,Ow.o,QA.o⟩
       case measure=>simp[intOf];omega
      ·obtain rfl:k=s.size:=by omega
       clear htest;gi_wp2;go_roundw
       case rel=>exact⟨pre,_,_,by go_num,by go_num,HN.o,Ow.o,QA.o⟩
       case measure=>simp[intOf]
     ·have hN:=IU HP.o HK.o HX.o (by rintro(h|h);exact he h;exact hd h);have HN:=Ux hN.1;have HV:=Ux hN.2;have F1:p.toList.isEmpty=false:=by rw[ks.o];simpa using he
      have Me:(p.toList==[46])=false:=by rw[ks.o];simpa using hd
      clear he hd hN;by_cases hkl:k<s.size
      ·have jH:=htest (by omega) hkl;clear htest;obtain⟨fn,tmps,assign,body,hy,hR⟩:=HY.o pre _ wr Ow.o HV.o;have G5:(Instr.yield L #[UF p]).run Tryz.prog wr=.ok (.round L fn tmps assign body) wr:=by rw[HPe.o];exact hy
       have HR:=Ux hR;clear hy hR;gi_wp2;refine HR.o.mono ?_;rintro e W3 (⟨rfl,AP,im⟩|⟨rfl,mr⟩)
       ·have ND:=Ux AP;have gn:=Ux (show ax W3 Bs #[UF s] 9 from(im.2 Bs rfl).trans QA.o);clear AP im G5;gi_wp2;go_roundw
        case rel=>exact⟨_,k+1,k+1,by go_num,by go_num,HN.o,ND.o,gn.o⟩
        case measure=>simp[intOf];omega
       ·have KD:=Ux mr;clear mr G5;gi_wp2;exact bM (results_none rfl _ _ _) ⟨⟨_,rfl⟩,.inr ⟨_,j2 HV.o,KD.o⟩⟩
      ·obtain rfl:k=s.size:=by omega
       clear htest;obtain⟨fn,tmps,assign,body,hy,hR⟩:=HY.o pre _ wr Ow.o HV.o;have G5:(Instr.yield L #[UF p]).run Tryz.prog wr=.ok (.round L fn tmps assign body) wr:=by rw[HPe.o];exact hy
       have HR:=Ux hR;clear hy hR;gi_wp2;refine HR.o.mono ?_;rintro e W3 (⟨rfl,AP,im⟩|⟨rfl,mr⟩)
       ·have ND:=Ux AP;have gn:=Ux (show ax W3 Bs #[UF s] 9 from(im.2 Bs rfl).trans QA.o);clear AP im G5;gi_wp2;go_roundw
        case rel=>exact⟨_,_,_,by go_num,by go_num,HN.o,ND.o,gn.o⟩
        case measure=>simp[intOf]
       ·have KD:=Ux mr;clear mr G5;gi_wp2;exact bM (results_none rfl _ _ _) ⟨⟨_,rfl⟩,.inr ⟨_,j2 HV.o,KD.o⟩⟩
  ·have HE:=Ux (LQ HP.o (by rw[pC.o];omega));have hk':¬(k:Int)≤(s.size:Int):=by omega
   gi_wp2
   go_end0
   exact⟨⟨_,rfl⟩,.inl (by rw[HE.o];exact Ow.o)⟩
end
section
open Go
def rI(ops:Array Oper):Bool:=ops.all fun o=>match o.op with | .defer _=>false|_=>true
theorem xL{ops:Array Oper}(h:rI ops=true){i:Nat}{o:Oper}(hi:ops[i]?=some o):∀c,o.op≠.defer c:=by
 intro c hc;unfold rI at h;rw[Array.all_eq_true] at h;obtain⟨hlt,rfl⟩:=Array.getElem?_eq_some_iff.1 hi;have:=h i hlt;rw[hc] at this
 cases this
section
variable{P:Program}{ops:Array Oper}{md:Region.Mode}{w:World}{l:Nat}{n:Nat}
end
end
section
open Go.RowKit Go.Shelf
attribute [local go_sem] Oper.semAt_some
theorem tE{S:Nat→Prop}{w W:World}(h:Mod S w W)(hS:∀k,S k→∃cur T fz,w.heap[k]?=some (.cells cur T fz)):KeepsOthers w W:=
 ⟨h.size,fun k o hk ho=>(h.block k (Array.getElem?_eq_some_iff.1 hk).1 (fun hs=>by obtain⟨cur,T,fz,hc⟩:=hS k hs;rw[hc] at hk;injection hk with hk;subst hk;cases ho)).trans hk⟩
theorem OS.nil(w:World)(base:Nat):OS w base (UG none 0 0) []:=⟨rfl,.inl ⟨rfl,rfl⟩⟩
theorem OS.gw{w w':World}{base:Nat}{v:Value}{ls:List (List UInt8)}(h:OS w base v ls)(ht:∀k cur,base≤k→w.heap[k]?=some (.cells cur 9 (0,0))→w'.heap[k]?=some (.cells cur 9 (0,0))):OS w' base v ls:=
 ⟨h.1,h.2.imp id fun⟨g,cap,cur,hv,hb,hg,rest⟩=>⟨g,cap,cur,hv,hb,ht _ _ hb hg,rest⟩⟩
theorem OS.low{w:World}{base base':Nat}{v:Value}{ls:List (List UInt8)}(h:OS w base v ls)(hb:base'≤base):OS w base' v ls:=
 ⟨h.1,h.2.imp id fun⟨g,cap,cur,hv,hg,rest⟩=>⟨g,cap,cur,hv,ae hb hg,rest⟩⟩
theorem OS.appK{w:World}{base:Nat}{v:Value}{ls:List (List UInt8)}(h:OS w base v ls)(l:List UInt8)(hl:ls.length≤1000000)(hb:base≤w.heap.size) :
  ∃g cap W,(Builtin.append_ #[240,240] 240 #[v,.slice (some ⟨w.heap.size,0,none⟩) 1 1]).run Tryz.prog (w.alloc (.cells #[UF (str l)] 9))=.ok (.slice (some ⟨g,0,none⟩) (ls.length+1) cap) W∧
   OS W base (.slice (some ⟨g,0,none⟩) (ls.length+1) cap) (ls++[l])∧Below base w W∧KeepsOthers w W∧(v.ownBlock=some g∨w.heap.size≤g):=by
 obtain⟨i0,hi,kp,fj,fo⟩:=info_parts sq;have ho:=World.ownsRow.alloc h (.cells #[UF (str l)] 9);obtain⟨g,cap,W,h1,h2,h3,h4⟩:=eX 240 Tryz.underlying240 hi kp fj fo rfl (by omega) ho ⟨w.heap.size,0,none⟩ 1 1 [UF (str l)] rfl (World.news_of_block (ax.new w #[UF (str l)] 9)) (by intro u hu;simp at hu;subst hu;rfl) (by omega) (by unfold maxLen;omega) (by omega) (by simp;omega);refine⟨g,cap,W,h1,?_,?_,(KeepsOthers.alloc _ _).trans (tE h3 (fun k hk=>by obtain⟨-,cur,hc⟩:=aH ho hk;exact⟨_,_,_,hc⟩)),h4.imp id (fun h=>by rw[h];simp)⟩
 ·unfold OS;rw[List.length_append,List.length_singleton,List.flatMap_append];exact h2
 ·refine(((Below.refl base w).alloc hb _)).trans (h3.below (fun k hk=>(h.lt k hk).1) (by simp;omega))
theorem j0{F:Fence}{n:Nat}{P:Program}{ops:Array Oper}{rest:List Oper}{o:Oper}{a:Act}{w W:World}{Q:Exit→Act→World→Prop}{s x:Operand}{t:TypeId}{v y r:Value}
  (hgd:o.guard=none) (ho:o.op=.call {callee:=.builtin .append,args:=#[s,x],argTypes:=#[t,t]}) (hs:a.eval s=v) (hx:a.eval x=y)
  (hrun:(Builtin.append_ #[t,t] o.type #[v,y]).run P w=.ok r W) (h:wpListIn F n P ops Q rest (a.put o.dst r) W):wpListIn F n P ops Q (o::rest) a w:=
 wpListIn_plain hgd fun K hK=>by
  unfold Oper.wpIn;refine⟨by simp[Oper.about,ho,resolve,Target.leads,Sem.run_pure],?_⟩;rw[Oper.semAt_plain F _ _ (by rw[ho];intro c hc;cases hc)];simp[execOp,ho,resolve,invoke,builtin,hs,hx,hrun,Result.andThen];exact hK _ _ h
structure CI(T:Nat→Prop)(w:World)(B base:Nat)(pre:List (List UInt8))(W:World):Prop where
 box:∃v,ax W B #[v] 240∧OS W base v pre
 mod:Mod T w W
theorem Jg{T:Nat→Prop}{N:Nat}{w W W':World}(h:Mod T w W)(ht:eL T N fG W W')(hN:w.heap.size≤N):Mod T w W':=by
 refine⟨ht.os.trans h.os,ht.tape.trans h.tape,ht.output.trans h.output,ae h.size ht.size,fun k hk hs=>?_⟩;obtain⟨o,ho⟩:∃o,w.heap[k]?=some o:=⟨w.heap[k]'(by omega),Array.getElem?_eq_getElem _⟩;rw[ht.block k o ((h.block k hk hs).trans ho) hs (fun h=>by omega),ho]
theorem Dy{g:Nat}{lb:Array Value}(eg:∀args w,(callFunc g args).run Tryz.prog w=.ok (.enter g args) w){T:Nat→Prop}{S Sp:List (List UInt8)→Prop}{V:List (List UInt8)→List UInt8→Prop}(w:World)
  (hseq:Nl T Fence.wide 4 Tryz.prog g lb (fun x:List UInt8=>#[UF (str x)]) S Sp V w) (hT:∀k,T k→k<w.heap.size) (hV:∀pre x,V pre x→pre.length≤1000000) :
  Calls Tryz.prog 190 #[UG none 0 0,.func (.func g) #[] lb] w fun e w'=>(∃v ss,e=.returned v∧S ss∧OS w' w.heap.size v ss)∧Mod T w w':=by
 refine(callsIn_wide (n:=5)).1 ?_;refine callsIn_of_wp_marks Tryz.func190 rfl trivial ?_ rfl;simp only[Tryz.ntmps190,List.size_toArray,List.length_cons,List.length_nil,Nat.reduceAdd,Nat.reduceSub,Array.replicate_succ,Array.replicate_zero,List.push_toArray,List.append_toArray,List.nil_append,List.cons_append];obtain⟨q0,Dd⟩:=Uz w #[UG none 0 0] 240;have hz:(w.alloc (.cells #[UG none 0 0] 240)).heap.size=w.heap.size+1:=by simp
 have HSq:=Ux hseq;clear hseq;gi_wp2;generalize w.alloc _=W1 at q0 Dd hz⊢;refine' zq (T:=T) rfl (by omega) (gf:=g) (lb:=lb) rfl trivial eg HSq.o (fun k hk=>by have:=hT k hk;omega) (KT.aq Dd hT) (fun _=>rfl)
  (fun pre W=>CI T w w.heap.size W1.heap.size pre W)
  (fun _ _ _=>False)
  (fun pre A B h ht=>?own) (fun c pre A B h ht=>h) ⟨⟨_,q0,OS.nil _ _⟩,Mod.aq Dd⟩ _ ?assign ?body ?done (fun D c pre W _ _ h _=>h.elim)
 case own=>
  obtain⟨⟨v,h1,h2⟩,h3⟩:=h;exact⟨⟨v,ht.block _ _ h1 (fun e=>by have:=hT _ e;omega) (fun _=>rfl),h2.gw (fun k cur hk hc=>ht.block _ _ hc (fun e=>by have:=hT _ e;omega) (fun _=>rfl))⟩,Jg h3 ht (by omega)⟩
 case assign=>
  intro L x W K hK;gi_wp2;exact hK
 case body=>
  rintro L pre x W hL hLW ⟨⟨v,b1,hO⟩,hM⟩ hv;obtain⟨a,c,rfl,-,-,-⟩:=bQ hO;obtain⟨g2,cap2,W2,hrun,lV,dR,hKO,lU⟩:=hO.appK x (hV _ _ hv) (show W1.heap.size≤W.heap.size by omega);have hlp:=hO.1;have HR:=Ux hrun;have k1:=b1.nC dR (show w.heap.size<W1.heap.size by omega);obtain⟨c1,f1,z1⟩:=b1.facts;obtain⟨d1,e1,y1⟩:=k1.facts;have K1:=Ux k1;have HX:=Ux (ag lV (ag dR (ag hKO (ag hM lU))));clear hrun lV dR k1 b1 hKO hM hO lU hlp
  gi_wp2_with (gi_at_builtin;refine j0 rfl rfl rfl rfl HR.o ?_)
  obtain⟨lV,dR,hKO,hM,lU⟩:=HX.o;have hm:=(Mod.refl (fun k=>k=w.heap.size) W2).setCell (a:=⟨w.heap.size,0,none⟩) (.inl rfl) (.slice (some ⟨g2,0,none⟩) (pre.length+1) cap2);refine⟨(hKO.trans (KeepsOthers.setCell _ _ _)).from _,⟨ae dR.size hm.size,fun k hk=>?_⟩,⟨⟨_,K1.out.set 0 _,lV.gw (fun k cur hk hc=>(hm.block k (Array.getElem?_eq_some_iff.1 hc).1 (by omega)).trans hc)⟩,?_⟩⟩
  ·have:=hT k hk;rw[hm.block k (by have:=dR.size;omega) (by omega)];exact dR.block k (by omega)
  ·refine⟨hm.os.trans (dR.os.trans hM.os),hm.tape.trans (dR.tape.trans hM.tape),hm.output.trans (dR.output.trans hM.output),ae hM.size (ae dR.size hm.size),fun k hk hs=>?_⟩;rw[hm.block k (by have:=dR.size;have:=hM.size;omega) (by omega),dR.block k (by omega)];exact hM.block k hk hs
 case done=>
  rintro D xs W hD hS ⟨⟨v,b1,hO⟩,hM⟩ hK;obtain⟨a,c,rfl,-,-,-⟩:=bQ hO;obtain⟨c1,f1,z1⟩:=b1.facts;have HO:=Ux (ag hO hM);clear hO hM b1;gi_wp2;show LeavesInM Fence.wide 5 Tryz.prog Tryz.f190 _ _ _ _ W;refine⟨by simp,.inl ⟨_,_,rfl,run_takeDeferred hK,?_⟩⟩;refine⟨UG a xs.length c,by simp[results,Tryz.results190,go_sem],⟨_,_,rfl,hS,(HO.o.1.low (show w.heap.size≤W1.heap.size by omega)).gw (fun k cur hk hc=>(World.putObj_heap_other (fun e=>by subst e;rw[hK] at hc;cases hc)).trans hc)⟩,?_⟩;have hm:=HO.o.2;exact⟨hm.os,hm.tape,hm.output,ae hm.size (by simp),fun k hk hs=>(World.putObj_heap_other (fun e=>by omega)).trans (hm.block k hk hs)⟩
theorem Ba{g:Nat}{lb:Array Value}(eg:∀args w,(callFunc g args).run Tryz.prog w=.ok (.enter g args) w){T:Nat→Prop}{S Sp:List (List UInt8)→Prop}{V:List (List UInt8)→List UInt8→Prop}(w:World)
  (hseq:Nl T Fence.wide 4 Tryz.prog g lb (fun x:List UInt8=>#[UF (str x)]) S Sp V w) (hT:∀k,T k→k<w.heap.size) (hV:∀pre x,V pre x→pre.length≤1000000) :
  Calls Tryz.prog 160 #[.func (.func g) #[] lb] w fun e w'=>(∃v ss,e=.returned v∧S ss∧OS w' w.heap.size v ss)∧Mod T w w':=by
 have HA:=Ux (Dy eg w hseq hT hV);clear hseq hT hV eg;go_enter Tryz.func160,Tryz.ntmps160;go_wp2_with fail;refine HA.o.mono ?_;rintro e w1 ⟨⟨v,ss,rfl,hS,hO⟩,hM⟩;have HX:=Ux (ag hS (ag hO hM));clear hS hO hM;go_wp2_with fail;go_ret;exact⟨⟨v,ss,rfl,HX.o.1,HX.o.2.1⟩,HX.o.2.2⟩
theorem s9(s:ByteArray)(w:World) :
  Calls Tryz.prog 161 #[UF s] w fun e w'=>e=.returned (.func (.func 191) #[] #[UH (some ⟨w.heap.size,0,none⟩)])∧w'=w.alloc (.cells #[UF s] 9):=by
 go_enter Tryz.func161,Tryz.ntmps161;go_wp2_with fail;go_ret;exact⟨rfl,rfl⟩
theorem oN(s:ByteArray)(hs:s.size≤100000)(w:World) :
  Calls Tryz.prog 160 #[.func (.func 191) #[] #[UH (some ⟨w.heap.size,0,none⟩)]] (w.alloc (.cells #[UF s] 9)) fun e w'=>(∃v,e=.returned v∧OS w' w.heap.size v (b8 s.data.toList))∧UA w w':=by
 have hz:(w.alloc (.cells #[UF s] 9)).heap.size=w.heap.size+1:=by simp
 refine(Ba (enters_of Tryz.func191 (by kernel_rfl) rfl) (w.alloc (.cells #[UF s] 9)) (Ak 4 (by omega) w.heap.size s hs _ (ax.new w #[UF s] 9)) (fun k hk=>by omega) (fun pre x h=>?_)).mono ?_
 ·have h1:=h.length_le;have h2:=jE s.data.toList;have h3:s.data.toList.length=s.size:=Array.length_toList;rw[List.length_append,List.length_singleton] at h1;omega
 ·rintro e w1 ⟨⟨v,ss,rfl,rfl,hO⟩,hM⟩;exact⟨⟨v,rfl,hO.low (by omega)⟩,(ao (UB w) _).trans (hM.below (fun k hk=>by omega) (by omega))⟩
end
section
open Go.RowKit
section
variable{w w':World}{pw:Nat}{R:Rp}{S:Fs}
theorem uu{P:Program}{fn:Func}{R:Ending→World→Prop}:∀c d v a w,bodyPost P fn R (.panic c) (Act.put a d v) w→bodyPost P fn R (.panic c) a w:=
 fun c d v a w h=>by
  have h':(Act.put a d v).defers=[]∧R (.panicked c) w:=h;exact show a.defers=[]∧R (.panicked c) w from⟨by rw[←h'.1];cases d<;>rfl,h'.2⟩
theorem ku(h:bB w pw R S)(dir now:Int)(d:An)(hg:S.get dir=some d)(l:List En)(a:Option Addr)(n c:Nat)(hl:aA w a n c l) :
  Calls Tryz.prog 109 #[UH (some ⟨pw,0,none⟩),UE UL dir,UE UL now,UG a n c] w fun e w'=>e=.returned (UK #[])∧∃R',bB w' pw R' (S.aE now dir l)∧aS (R.F pw) (R'.F pw) w w':=by
 obtain⟨ea,el,ec,he,hG⟩:=fF h hg;have HG:=Ux (hG w (Below.refl _ _));unfold An.v at HG;have HT:=Ux (show S.aE now dir l=S.set {d with au:=l,mtime:=now,ctime:=now} by unfold Fs.aE;rw[hg]);have hno:=bV hg;have ey:=Ux (fun w1 (av:UA w w1)=>(h.an av).xr {d with au:=l,mtime:=now,ctime:=now} (hl.an av) (b:=d) (by rw[show({d with au:=l,mtime:=now,ctime:=now}:An).no=d.no from rfl,hno];exact hg));unfold An.v at ey;obtain⟨pc,-,pz⟩:=h.bD.facts;have mixed:Tryz.prog.follows .mixedOrders=true:=by kernel_rfl
 clear h hg he hG hno hl;go_enter Tryz.func109,Tryz.ntmps109;go_wp2_with fail;refine HG.o.mono ?_;rintro e w1 ⟨rfl,av⟩;have pc0:(w1.alloc (.cells #[UE UL d.no,UE UL d.dev,UE UL d.kind,UE UL d.mode,UE UL d.uid,UE UL d.gid,UE UL now,UE UL now,UE UL d.ak,UE UL d.up,UF d.data,UG a n c] 149)).cell? ⟨pw,0,none⟩=_:=((ao av (.cells #[UE UL d.no,UE UL d.dev,UE UL d.kind,UE UL d.mode,UE UL d.uid,UE UL d.gid,UE UL now,UE UL now,UE UL d.ak,UE UL d.up,UF d.data,UG a n c] 149)).cell (p:=⟨pw,0,none⟩) pz).trans (pc 0);have hB:=ax.new w1 #[UE UL d.no,UE UL d.dev,UE UL d.kind,UE UL d.mode,UE UL d.uid,UE UL d.gid,UE UL now,UE UL now,UE UL d.ak,UE UL d.up,UF d.data,UG a n c] 149;have aJ:=ao av (.cells #[UE UL d.no,UE UL d.dev,UE UL d.kind,UE UL d.mode,UE UL d.uid,UE UL d.gid,UE UL now,UE UL now,UE UL d.ak,UE UL d.up,UF d.data,UG a n c] 149);clear pc av;go_wp2_with fail;generalize w1.alloc _=X at pc0 hB aJ⊢;obtain⟨bc,-,bz⟩:=hB.facts;have HS:=Ux (ey.o _ aJ.drew);have HX:=Ux aJ;clear hB aJ;refine aG 5 mixed (by kernel_rfl) uu ?_;simp only[List.take_succ_cons,List.take_zero,List.drop_succ_cons,List.drop_zero]
 repeat still_step
 refine wpStill_nil ?_;go_wp2_with fail;refine HS.o.mono ?_;rintro e w5 ⟨rfl,R',ez,dw,-,-⟩;have HR:=Ux (ag ez dw);clear ez dw;go_wp2_with fail
 go_end0
 rw[HT.o];exact⟨rfl,R',HR.o.1,(aS.aq HX.o.drew).trans HR.o.2⟩
end
end
section
open Go.RowKit
def qq(a b:ByteArray):Int:=if gA a b=true then -1 else if gA b a=true then 1 else 0
theorem M7(a b:ByteArray):(qq a b<0)=(gA a b=true):=by
 unfold qq
 cases h:gA a b
 ·simp;split<;>omega
 ·simp
theorem Eh(a b:ByteArray):(qq a b=0)=(a=b):=by
 unfold qq
 cases h:gA a b
 ·cases k:gA b a
  ·simp[jF h k]
  ·simp[(CG k).symm]
 ·simp[CG h]
theorem A9(a b:ByteArray)(w:World) :
  Calls Tryz.prog 147 #[UF a,UF b] w fun e w'=>e=.returned (UE UL (qq a b))∧w=w':=by
 unfold qq
 cases h:gA a b
 ·cases k:gA b a
  ·obtain rfl:a=b:=jF h k;rw[←tu] at h;clear k;go_enter Tryz.func147,Tryz.ntmps147
   go_wp2
   go_ret;exact⟨rfl,rfl⟩
  ·have hne:¬a.toList=b.toList:=fun e=>by
    rw[ByteArray.toList_eq,ByteArray.toList_eq] at e;rw[uw e,eE] at k
    cases k
   have hq:(a.toList==b.toList)=false:=by simpa using hne
   rw[←tu] at h;clear k;go_enter Tryz.func147,Tryz.ntmps147
   go_wp2
   go_ret;exact⟨rfl,rfl⟩
 ·rw[←tu] at h;go_enter Tryz.func147,Tryz.ntmps147
  go_wp2
  go_ret;exact⟨rfl,rfl⟩
theorem yF(x:En)(n:ByteArray)(w:World) :
  Calls Tryz.prog 106 #[UJ #[UF x.name,UE UL x.no],UF n] w fun e w'=>e=.returned (UE UL (qq x.name n))∧UA w w':=by
 go_enter Tryz.func106,Tryz.ntmps106;go_wp2_with (go_at_call 147;refine(A9 _ _ _).mono ?_;rintro e w1 ⟨rfl,rfl⟩);go_ret;exact⟨rfl,by go_grown⟩
end
section
open Go.RowKit
def iX(es:List En)(s:ByteArray):Bool:=(es.find? (fun x=>decide (x.name=s))).isSome
theorem lf(es:List En)(a:Option Addr)(n c:Nat)(s:ByteArray)(w:World)(he:aA w a n c es)(hr:fL es)(hn:n≤1000000) :
  Calls Tryz.prog 105 #[UG a n c,UF s,.func (.func 106) #[] #[]] w fun e w'=>e=.returned (UK #[UE UL (dG es s),.bool (iX es s)])∧UA w w':=by
 have hl:=he.len;have HR:=Ux hr;have HE:=Ux he;have hat:=ua es s;clear hr he;obtain⟨A,hA⟩:∃A,dG es s=A:=⟨_,rfl⟩;have HA:=Ux hA;rw[hA] at hat⊢;clear hA;go_enter Tryz.func105,Tryz.ntmps105;go_wp2_with fail
 go_loopw [9,10] (fun i j wr=>∃lo hi:Nat,lo≤A∧A≤hi∧hi≤n∧i=UE UL lo∧j=UE UL hi∧UA w wr) (fun i j _=>(intOf j-intOf i).toNat)
 case atStart=>exact⟨0,n,by omega,by omega,by omega,rfl,rfl,Below.refl _ _⟩
 case round=>
  obtain⟨lo,hi,h1,h2,h3,rfl,rfl,hB⟩:=hrel;by_cases hlt:lo<hi
  ·obtain⟨b,off,rfl,hb⟩:=HE.o.ej (by omega);obtain⟨k,hk⟩:∃k:Nat,(lo+hi) / 2=k:=⟨_,rfl⟩;have hkl:k<es.length:=by omega
   obtain⟨c1,c2⟩:=(HE.o.an hB).cell k hkl;obtain⟨x,hx⟩:∃x,es[k]=x:=⟨_,rfl⟩;rw[hx] at c1 c2;have hcv:(qq x.name s<0)=(k<A):=by
    rw[M7,←hx,xw HR.o s k hkl,HA.o];simp
   by_cases hkA:k<A
   ·have hneg:qq x.name s<0:=by rw[hcv];exact hkA
    clear hcv hx;go_wp2_with fail;refine(yF x s _).mono ?_;rintro e w1 ⟨rfl,av⟩;go_wp2_with fail;go_roundw
    case rel=>exact⟨k+1,hi,by omega,by omega,h3,by go_num,rfl,ar hB av⟩
    case measure=>simp[intOf];omega
   ·have hneg:¬qq x.name s<0:=by rw[hcv];exact hkA
    clear hcv hx;go_wp2_with fail;refine(yF x s _).mono ?_;rintro e w1 ⟨rfl,av⟩;go_wp2_with fail;go_roundw
    case rel=>exact⟨lo,k,by omega,by omega,by omega,rfl,by rw[show((lo:Int)+(hi:Int)) / 2=(k:Int) by omega],ar hB av⟩
    case measure=>simp[intOf];omega
  ·obtain rfl:lo=A:=by omega
   by_cases hAn:lo<n
   ·obtain⟨b,off,rfl,hb⟩:=HE.o.ej (by omega);have hkl:lo<es.length:=by omega
    obtain⟨c1,c2⟩:=(HE.o.an hB).cell lo hkl;obtain⟨x,hx⟩:∃x,es[lo]=x:=⟨_,rfl⟩;rw[hx] at c1 c2;by_cases hxs:x.name=s
    ·have hz:qq x.name s=0:=by rw[Eh];exact hxs
     have HF:=Ux (show iX es s=true by
      unfold iX;rw[mV HR.o s,dif_pos (by rw[HA.o];exact hkl),if_pos (by simp only[HA.o,hx];exact hxs)];rfl)
     have Hz:=Ux hz;clear hx hxs hz;go_wp2_with fail;refine(yF x s _).mono ?_;rw[Hz.o];rintro e w1 ⟨rfl,av⟩;go_wp2_with fail;go_ret2;exact⟨by rw[HF.o];rfl,ar hB av⟩
    ·have hz:¬qq x.name s=0:=by rw[Eh];exact hxs
     have HF:=Ux (show iX es s=false by
      unfold iX;rw[mV HR.o s,dif_pos (by rw[HA.o];exact hkl),if_neg (by simp only[HA.o,hx];exact hxs)];rfl)
     have fo:(qq x.name s==0)=false:=by simpa using hz
     clear hx hxs hz;go_wp2_with fail;refine(yF x s _).mono ?_;rintro e w1 ⟨rfl,av⟩;go_wp2_with fail;go_ret2;exact⟨by rw[HF.o];rfl,ar hB av⟩
   ·have HF:=Ux (show iX es s=false by
     unfold iX;rw[mV HR.o s,dif_neg (by rw[HA.o];omega)];rfl)
    go_wp2_with fail;go_ret2;exact⟨by rw[HF.o];rfl,hB⟩
theorem JD{es:List En}{s:ByteArray}(h:iX es s=false):aw es s=0:=by
 unfold iX at h;unfold aw
 cases hf:es.find? (fun x=>decide (x.name=s)) with
 |none=>rfl
 |some x=>rw[hf] at h;cases h
theorem Ni{es:List En}{s:ByteArray}(hr:fL es)(h:iX es s=true):∃hk:dG es s<es.length,aw es s=es[dG es s].no∧es[dG es s].name=s:=by
 unfold iX at h;unfold aw;rw[mV hr s] at h⊢
 split at h
 ·rename_i hk
  split at h
  ·rename_i hx;refine⟨hk,?_,hx⟩;rw[dif_pos hk,if_pos hx]
  ·cases h
 ·cases h
theorem gO(es:List En)(a:Option Addr)(n c:Nat)(s:ByteArray)(w:World)(he:aA w a n c es)(hr:fL es)(hn:n≤1000000) :
  Calls Tryz.prog 66 #[UG a n c,UF s] w fun e w'=>e=.returned (UE UL (aw es s))∧UA w w':=by
 have hl:=he.len;have HS:=Ux (lf es a n c s w he hr hn)
 cases hh:iX es s
 ·rw[hh] at HS;rw[JD hh];go_enter Tryz.func66,Tryz.ntmps66;go_wp2_with fail;refine HS.o.mono ?_;rintro e w1 ⟨rfl,av⟩;go_wp2_with fail;go_ret;exact⟨rfl,av⟩
 ·rw[hh] at HS;obtain⟨hk,hf,-⟩:=Ni hr hh;rw[hf];obtain⟨b,off,rfl,hb⟩:=he.ej (by omega);obtain⟨A,hA⟩:∃A,dG es s=A:=⟨_,rfl⟩;simp only[hA] at hk HS⊢;obtain⟨x,hx⟩:∃x,es[A]=x:=⟨_,rfl⟩;rw[hx];have HE:=Ux he;clear hf hA he hh;go_enter Tryz.func66,Tryz.ntmps66;go_wp2_with fail;refine HS.o.mono ?_;rintro e w1 ⟨rfl,av⟩;obtain⟨c1,c2⟩:=(HE.o.an av).cell A hk;rw[hx] at c1 c2;go_wp2_with fail;go_ret;exact⟨rfl,av⟩
end
end Go.Proofs.YtabbjaomlmnnhaaGreat
