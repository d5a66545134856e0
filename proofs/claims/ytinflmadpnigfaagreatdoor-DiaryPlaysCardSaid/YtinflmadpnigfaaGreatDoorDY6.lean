import Derived.Shelf.Abstract
import Derived.Shelf.RegionOpen
import Derived.OwnWalkIn
import Derived.TacticsInMore
import Derived.LoopNIn
import Derived.LoopIn
import Derived.StillTail
import Derived.StillTactics
import Derived.RangeFuncNested
import Derived.WalkKit
import Derived.Deep.LoopGhost
import Derived.Test.YtinflmadpnigfaaGreatDoorDY4
import Derived.Test.YtinflmadpnigfaaGreatDoorDY3
import Derived.Test.YtinflmadpnigfaaGreatDoorDY5
import Derived.Test.YtinflmadpnigfaaGreatDoorDY2
import Derived.Test.YtinflmadpnigfaaGreatDoorDY1
set_option linter.unusedVariables false
set_option linter.unusedSimpArgs false
set_option maxRecDepth 100000
set_option maxHeartbeats 16000000
namespace Go.Proofs.YtinflmadpnigfaaGreatDoor
section
open Go.RowKit
theorem Jh(cu cg uid gid mode want:Int)(w:World) :
  Calls Tryz.prog 168 #[.agg #[.int .i64 cu,.int .i64 cg],.int .i64 uid,.int .i64 gid,.int .i64 mode,.int .i64 want] w fun e w'=>e=.returned (.bool (wu cu cg uid gid mode want))∧Up w w':=by
 unfold wu;by_cases h0:cu=0
 ·subst h0;rw[if_pos rfl];go_enter Tryz.func168,Tryz.ntmps168
  go_wp2
  go_ret;exact⟨rfl,by go_grown⟩
 ·rw[if_neg h0];have q0:(cu==0)=false:=by simpa using h0
  by_cases h1:cu=uid
  ·subst h1;rw[if_pos rfl];go_enter Tryz.func168,Tryz.ntmps168
   go_wp2
   go_ret;exact⟨rfl,by go_grown⟩
  ·rw[if_neg h1];have q1:(cu==uid)=false:=by simpa using h1
   by_cases h2:cg=gid
   ·subst h2;rw[if_pos rfl];clear h0 h1;go_enter Tryz.func168,Tryz.ntmps168
    go_wp2
    go_ret;exact⟨rfl,by go_grown⟩
   ·rw[if_neg h2];have q2:(cg==gid)=false:=by simpa using h2
    clear h0 h1 h2;go_enter Tryz.func168,Tryz.ntmps168
    go_wp2
    go_ret;exact⟨rfl,by go_grown⟩
def Cr.v(c:Cr):Value:=.agg #[.int .i64 c.u,.int .i64 c.g]
theorem nk(c:Cr)(a:An)(ea:Option Addr)(el ec:Nat)(want:Int)(w:World) :
  Calls Tryz.prog 107 #[c.v,a.v ea el ec,.int .i64 want] w fun e w'=>e=.returned (.bool (a.may c want))∧Up w w':=by
 unfold Cr.v An.v An.may;go_enter Tryz.func107,Tryz.ntmps107;go_wp2_with fail;refine(Jh _ _ _ _ _ _ _).mono ?_;rintro e w1 ⟨rfl,ar⟩;go_wp2_with fail;go_ret;exact⟨rfl,ao (al (al (Below.refl _ _) _) _) ar⟩
theorem F2(c:Cr)(a:An)(ea:Option Addr)(el ec:Nat)(w:World) :
  Calls Tryz.prog 245 #[c.v,a.v ea el ec] w fun e w'=>e=.returned (.bool (j2 c a))∧Up w w':=by
 unfold Cr.v An.v j2;go_enter Tryz.func245,Tryz.ntmps245
 go_wp2
 all_goals (go_ret;exact⟨by first|rfl|simp[*],al (al (Below.refl _ _) _) _⟩)
theorem F8(u g:Int)(w:World) :
  Calls Tryz.prog 214 #[.agg #[.int .i64 u,.int .i64 g]] w fun e w'=>e=.returned (.bool (LI u g))∧Up w w':=by
 unfold LI;go_enter Tryz.func214,Tryz.ntmps214
 go_wp2
 all_goals (go_ret;exact⟨by simp[*];try omega,by go_grown⟩)
end
section
open Go.RowKit
theorem qG{s:ByteArray}(h:s.size=0):ed s=5:=by
 unfold ed;rw[if_pos (List.eq_nil_of_length_eq_zero (by rw[Array.length_toList];exact h))]
theorem tK{s:ByteArray}(h:0<s.size)(h2:s[0]≠47):ed s=1:=by
 have hd:s.data.toList.head?=some s[0]:=by
  have hl:0<s.data.toList.length:=by simpa using h
  rw[List.head?_eq_getElem?,List.getElem?_eq_getElem hl];rfl
 unfold ed;rw[if_neg (by intro e;rw[e] at hd;cases hd),if_pos (.inl (by rw[hd];intro e;exact h2 (Option.some.inj e)))]
theorem tJ{s:ByteArray}(h:0<s.size)(h2:s[0]=47):ed s=if hasB s 0=true then 1 else if 4096<s.size then 13 else 0:=by
 have hd:s.data.toList.head?=some s[0]:=by
  have hl:0<s.data.toList.length:=by simpa using h
  rw[List.head?_eq_getElem?,List.getElem?_eq_getElem hl];rfl
 unfold ed hasB;rw[if_neg (by intro e;rw[e] at hd;cases hd),hd,h2];simp
theorem lA(s:ByteArray)(w:World) :
  Calls Tryz.prog 205 #[.string s,.string (ByteArray.mk #[0])] w fun e w'=>e=.returned (.bool (hasB s 0))∧w=w':=by
 refine(Tryz.strings_Contains_one s 0 w).mono ?_;rintro e w' ⟨rfl,rfl⟩;refine⟨aZ ?_,rfl⟩;unfold hasB;rw[decide_eq_decide];exact sG 0 _
theorem wK(s:ByteArray)(w:World)(hs:s.size≤2000000) :
  Calls Tryz.prog 149 #[.string s] w fun e w'=>e=.returned (.int .i64 (ed s))∧w=w':=by
 rcases Nat.eq_zero_or_pos s.size with h0|hpos
 ·have HE:=Um (qG h0);have hn:s.toList=[]:=by rw[aC];exact List.eq_nil_of_length_eq_zero (by rw[Array.length_toList];exact h0)
  clear h0;go_enter Tryz.func149,Tryz.ntmps149;go_wp2_with fail;go_ret;exact⟨by rw[HE.o];rfl,rfl⟩
 ·have hn:¬s.toList=[]:=by
   rw[aC];intro e;have:s.data.toList.length=s.size:=Array.length_toList;rw[e] at this;simp at this;omega
  have jj:s.toList.isEmpty=false:=by simpa using hn
  by_cases qQ:s[0]=47
  ·have hr:=Um (tJ hpos qQ);have eS:((s[0].toNat:Int)==47)=true:=by rw[qQ];rfl
   have eh:((s[0].toNat:Int) != 47)=false:=by rw[bne,eS];rfl
   clear qQ;have hc:=Um (lA s);generalize hasB s 0=b at hr hc
   cases b
   ·by_cases hlen:4096<s.size
    ·have hE:=Um (show ed s=13 by rw[hr.out];simp[hlen]);go_enter Tryz.func149,Tryz.ntmps149;go_wp2_with (go_at_call 205;refine(hc.out _).mono ?_;rintro e w1 ⟨rfl,rfl⟩);go_ret;exact⟨by rw[hE.out];rfl,rfl⟩
    ·have hE:=Um (show ed s=0 by rw[hr.out];simp[hlen]);go_enter Tryz.func149,Tryz.ntmps149;go_wp2_with (go_at_call 205;refine(hc.out _).mono ?_;rintro e w1 ⟨rfl,rfl⟩);go_ret;exact⟨by rw[hE.out];rfl,rfl⟩
   ·have hE:=Um (show ed s=1 by rw[hr.out];rfl);go_enter Tryz.func149,Tryz.ntmps149;go_wp2_with (go_at_call 205;refine(hc.out _).mono ?_;rintro e w1 ⟨rfl,rfl⟩);go_ret;exact⟨by rw[hE.out];rfl,rfl⟩
  ·have hE:=Um (tK hpos qQ);have eS:((s[0].toNat:Int)==47)=false:=by
    simp only[beq_eq_false_iff_ne,ne_eq];intro h;exact qQ (by rw[gE];show s[0].toNat=47;omega)
   have eh:((s[0].toNat:Int) != 47)=true:=by rw[bne,eS];rfl
   clear qQ;go_enter Tryz.func149,Tryz.ntmps149;go_wp2_with fail;go_ret;exact⟨by rw[hE.out];rfl,rfl⟩
end
section
open Go.RowKit
theorem uM(s:ByteArray)(w:World) :
  Calls Tryz.prog 205 #[.string s,.string (ByteArray.mk #[47])] w fun e w'=>e=.returned (.bool (hasB s 47))∧w=w':=by
 refine(Tryz.strings_Contains_one s 47 w).mono ?_;rintro e w' ⟨rfl,rfl⟩;refine⟨aZ ?_,rfl⟩;unfold hasB;rw[decide_eq_decide];exact sG 47 _
theorem tV(s:ByteArray)(w:World)(hs:s.size≤9223372036854775807) :
  Calls Tryz.prog 221 #[.string s] w fun e w'=>e=.returned (.int .i64 (dD s))∧w=w':=by
 have hl:s.toList=s.data.toList:=aC s;have HC:=Um (show dD s=if s.toList=[]∨s.toList=[46]∨s.toList=[46,46]∨hasB s 47=true∨hasB s 0=true then 1 else if 255<s.size then 13 else 0 by
  unfold dD hasB;rw[hl];simp only[decide_eq_true_eq])
 have LD:=Um (uM s);have H0:=Um (lA s);generalize hasB s 47=b47 at HC LD;generalize hasB s 0=b0 at HC H0;clear hl;by_cases h1:s.toList=[]
 ·have HE:=Um (HC.o.trans (if_pos (.inl h1)));go_enter Tryz.func221,Tryz.ntmps221;go_wp2_with fail;go_ret;exact⟨by rw[HE.o];rfl,rfl⟩
 ·have mH:s.toList.isEmpty=false:=by simpa using h1
  by_cases h2:s.toList=[46]
  ·have HE:=Um (HC.o.trans (if_pos (.inr (.inl h2))));go_enter Tryz.func221,Tryz.ntmps221;go_wp2_with fail;go_ret;exact⟨by rw[HE.o];rfl,rfl⟩
  ·have kA:(s.toList==[46])=false:=by simpa using h2
   by_cases h3:s.toList=[46,46]
   ·have HE:=Um (HC.o.trans (if_pos (.inr (.inr (.inl h3)))));go_enter Tryz.func221,Tryz.ntmps221;go_wp2_with fail;go_ret;exact⟨by rw[HE.o];rfl,rfl⟩
   ·have vF:(s.toList==[46,46])=false:=by simpa using h3
    cases b47
    ·cases b0
     ·have HE:=Um (HC.o.trans (if_neg (by simp[h1,h2,h3])));by_cases h4:255<s.size
      ·have cq:=Um (HE.o.trans (if_pos h4));have h4':(255:Int)<(s.size:Int):=by omega
       go_enter Tryz.func221,Tryz.ntmps221;go_wp2_with (first|(go_at_call 205;((with_reducible refine(LD.o _).mono ?_);rintro e w1 ⟨rfl,rfl⟩))|(go_at_call 205;((with_reducible refine(H0.o _).mono ?_);rintro e w1 ⟨rfl,rfl⟩)));go_ret;exact⟨by rw[cq.o];rfl,rfl⟩
      ·have cq:=Um (HE.o.trans (if_neg h4));have h4':¬(255:Int)<(s.size:Int):=by omega
       go_enter Tryz.func221,Tryz.ntmps221;go_wp2_with (first|(go_at_call 205;((with_reducible refine(LD.o _).mono ?_);rintro e w1 ⟨rfl,rfl⟩))|(go_at_call 205;((with_reducible refine(H0.o _).mono ?_);rintro e w1 ⟨rfl,rfl⟩)));go_ret;exact⟨by rw[cq.o];rfl,rfl⟩
     ·have HE:=Um (HC.o.trans (if_pos (by simp)));go_enter Tryz.func221,Tryz.ntmps221;go_wp2_with (first|(go_at_call 205;((with_reducible refine(LD.o _).mono ?_);rintro e w1 ⟨rfl,rfl⟩))|(go_at_call 205;((with_reducible refine(H0.o _).mono ?_);rintro e w1 ⟨rfl,rfl⟩)));go_ret;exact⟨by rw[HE.o];rfl,rfl⟩
    ·have HE:=Um (HC.o.trans (if_pos (by simp)));go_enter Tryz.func221,Tryz.ntmps221;go_wp2_with (go_at_call 205;((with_reducible refine(LD.o _).mono ?_);rintro e w1 ⟨rfl,rfl⟩));go_ret;exact⟨by rw[HE.o];rfl,rfl⟩
end
section
open Go.RowKit
theorem au.row{w:World}{B:Nat}{xs vs:List Value}{T:TypeId}(h:au w B xs.toArray T)(hl:xs.length=vs.length):au (putRow w B 0 vs) B vs.toArray T:=by
 have h1:=oE vs w 0 _ h;have h2:=mj vs xs [] hl;rw[List.append_nil,List.append_nil] at h2;rw[List.toList_toArray,h2] at h1;exact h1
theorem au.dR{w:World}{B:Nat}{x0 x1 x2 x3 x4 x5 x6 x7 x8 x9 x10 x11 v0 v1 v2 v3 v4 v5 v6 v7 v8 v9 v10 v11:Value}{T:TypeId}(h:au w B #[x0,x1,x2,x3,x4,x5,x6,x7,x8,x9,x10,x11] T):au ((((((((((((w.setCell ⟨B,0,none⟩ v0).setCell ⟨B,1,none⟩ v1).setCell ⟨B,2,none⟩ v2).setCell ⟨B,3,none⟩ v3).setCell ⟨B,4,none⟩ v4).setCell ⟨B,5,none⟩ v5).setCell ⟨B,6,none⟩ v6).setCell ⟨B,7,none⟩ v7).setCell ⟨B,8,none⟩ v8).setCell ⟨B,9,none⟩ v9).setCell ⟨B,10,none⟩ v10).setCell ⟨B,11,none⟩ v11) B #[v0,v1,v2,v3,v4,v5,v6,v7,v8,v9,v10,v11] T:=
 au.row (xs:=[x0,x1,x2,x3,x4,x5,x6,x7,x8,x9,x10,x11]) (vs:=[v0,v1,v2,v3,v4,v5,v6,v7,v8,v9,v10,v11]) h rfl
theorem rj{N:Nat}{w0:World}{B:Nat}(hB:N≤B):∀(vs:List Value) (w:World) (o:Nat),Below N w0 w→Below N w0 (putRow w B o vs)
 | [],_,_,h=>h
 |v::vs,w,o,h=>by unfold putRow;exact rj hB vs _ _ (h.setCell hB v)
theorem aM{N:Nat}{w0 w:World}{B:Nat}{v0 v1 v2 v3 v4 v5 v6 v7 v8 v9 v10 v11:Value}(h:Below N w0 w)(hB:N≤B):Below N w0 ((((((((((((w.setCell ⟨B,0,none⟩ v0).setCell ⟨B,1,none⟩ v1).setCell ⟨B,2,none⟩ v2).setCell ⟨B,3,none⟩ v3).setCell ⟨B,4,none⟩ v4).setCell ⟨B,5,none⟩ v5).setCell ⟨B,6,none⟩ v6).setCell ⟨B,7,none⟩ v7).setCell ⟨B,8,none⟩ v8).setCell ⟨B,9,none⟩ v9).setCell ⟨B,10,none⟩ v10).setCell ⟨B,11,none⟩ v11):=
 rj hB [v0,v1,v2,v3,v4,v5,v6,v7,v8,v9,v10,v11] w 0 h
theorem au.eX{w:World}{B:Nat}{x0 x1 x2 x3 x4 x5 x6 x7 x8 x9 x10 x11:Value}{T:TypeId}(h:au w B #[x0,x1,x2,x3,x4,x5,x6,x7,x8,x9,x10,x11] T) :
  w.cell? ⟨B,0,none⟩=some (x0)∧w.cell? ⟨B,1,none⟩=some (x1)∧w.cell? ⟨B,2,none⟩=some (x2)∧w.cell? ⟨B,3,none⟩=some (x3)∧w.cell? ⟨B,4,none⟩=some (x4)∧w.cell? ⟨B,5,none⟩=some (x5)∧w.cell? ⟨B,6,none⟩=some (x6)∧w.cell? ⟨B,7,none⟩=some (x7)∧w.cell? ⟨B,8,none⟩=some (x8)∧w.cell? ⟨B,9,none⟩=some (x9)∧w.cell? ⟨B,10,none⟩=some (x10)∧w.cell? ⟨B,11,none⟩=some (x11):=
 ⟨h.cell 0,h.cell 1,h.cell 2,h.cell 3,h.cell 4,h.cell 5,h.cell 6,h.cell 7,h.cell 8,h.cell 9,h.cell 10,h.cell 11⟩
theorem gi{tmps:Array Value}{W:World}{B:Nat}{a:An}{ea:Option Addr}{el ec:Nat}{e:Int}(hb:au W B #[.int .i64 a.no,.int .i64 a.dev,.int .i64 a.kind,.int .i64 a.mode,.int .i64 a.uid,.int .i64 a.gid,.int .i64 a.mtime,.int .i64 a.ctime,.int .i64 a.an,.int .i64 a.up,.string a.data,.slice ea el ec] 99)
  (h8:tmps.getD 8 undef=.pointer (some ⟨B,0,none⟩)) (h9:tmps.getD 9 undef=.int .i64 e):(results Tryz.f176 tmps).run Tryz.prog W=.ok (.tuple #[a.v ea el ec,.int .i64 e]) W:=by
 obtain⟨q0,q1,q2,q3,q4,q5,q6,q7,q8,q9,q10,q11⟩:=hb.eX;rw[Array.getD_eq_getD_getElem?] at h8 h9;simp[results,Tryz.results176,go_sem,An.v,h8,h9,q0,q1,q2,q3,q4,q5,q6,q7,q8,q9,q10,q11]
section
variable{w w':World}{pw:Nat}{R:Rp}{S:Fs}
theorem C6(h:bh w pw R S){N:Nat}(hk:av S N)(c:Cr)(dir:Int)(s:ByteArray)(hs:s.size≤9223372036854775807)(hg:S.get dir=none) :
  Calls Tryz.prog 176 #[.pointer (some ⟨pw,0,none⟩),.agg #[.int .i64 c.u,.int .i64 c.g],.int .i64 dir,.string s] w fun e w'=>e=.returned (.tuple #[dh.v none 0 0,.int .i64 5])∧Up w w':=by
 have j8:=Um (fun w1 (ar:Up w w1)=>fi (h.ak ar) hk.d1);have hnz:=hk.d1;generalize S.ds.length=n at j8 hnz;have hz:((n:Int)==0)=false:=by simp;omega
 have HG:=Um (fun w1 (ar:Up w w1)=>fN (h.ak ar) hg);have dY:=Um (fun w=>tV s w hs);obtain⟨pc,-,pz⟩:=h.bd.facts;unfold An.v dh at HG;generalize dD s=ce at dY;clear h hk hg;go_enter Tryz.func176,Tryz.ntmps176;go_wp2_with fail;refine(j8.o _ (al (al (Below.refl _ _) _) _)).mono ?_;rintro e w1 ⟨rfl,rfl⟩;go_wp2_with fail;refine(HG.o _ (al (al (Below.refl _ _) _) _)).mono ?_;rintro e w1 ⟨rfl,ar⟩;have aD:=ao (al (al (Uq w) _) _) ar;have hR:au w1 (w.heap.size+1) #[.int .i64 0,.int .i64 0,.int .i64 0,.int .i64 0,.int .i64 0,.int .i64 0,.int .i64 0,.int .i64 0,.int .i64 0,.int .i64 0,.string ⟨#[]⟩,.slice none 0 0] 99:=by
  have:=((au.new (w.alloc (.cells #[.int .i64 c.u,.int .i64 c.g] 69)) #[.int .i64 0,.int .i64 0,.int .i64 0,.int .i64 0,.int .i64 0,.int .i64 0,.int .i64 0,.int .i64 0,.int .i64 0,.int .i64 0,.string ⟨#[]⟩,.slice none 0 0] 99).ak ar)
  rwa [World.size_alloc] at this
 have eF:=hR.eE (.cells #[.int .i64 0,.int .i64 0,.int .i64 0,.int .i64 0,.int .i64 0,.int .i64 0,.int .i64 0,.int .i64 0,.int .i64 0,.int .i64 0,.string ByteArray.empty,.slice none 0 0] 99);have ax:=al aD (.cells #[.int .i64 0,.int .i64 0,.int .i64 0,.int .i64 0,.int .i64 0,.int .i64 0,.int .i64 0,.int .i64 0,.int .i64 0,.int .i64 0,.string ByteArray.empty,.slice none 0 0] 99);clear hR ar aD pc;go_wp2_with fail;generalize w1.alloc _=X at eF ax⊢;refine(dY.o _).mono ?_;rintro e w2 ⟨rfl,rfl⟩;have gh:=Um eF;have aJ:=Um ax;obtain⟨rc,rf,rz⟩:=eF.facts;clear eF ax;go_wp2_with fail;exact bodyPost_ret (gi (a:=dh) gh.o.dR rfl rfl) rfl ⟨rfl,aM aJ.o (Nat.le_succ _)⟩
theorem eA(h:bh w pw R S){k:Int}{a:An}(hg:S.get k=some a):∃ea el ec,aA w ea el ec a.aB∧∀w1,Up w w1→
  Calls Tryz.prog 106 #[.pointer (some ⟨R.pt,0,none⟩),.int .i64 k] w1 fun e w'=>e=.returned (.tuple #[a.v ea el ec,.bool true])∧Up w1 w':=by
 obtain⟨g,-,rfl,hf,he⟩:=QD h hg;exact⟨g.ea,g.el,g.ec,he,fun w1 ar=>yI g.nd k w1 R.pt R.pm S.last _ R.ga (h.ak ar).tab hf⟩
theorem C5(h:bh w pw R S){N:Nat}(hk:av S N)(c:Cr)(dir:Int)(s:ByteArray)(hs:s.size≤9223372036854775807)(d:An)(hg:S.get dir=some d) :
  Calls Tryz.prog 176 #[.pointer (some ⟨pw,0,none⟩),.agg #[.int .i64 c.u,.int .i64 c.g],.int .i64 dir,.string s] w fun e w'=>((S.aW c dir s≠0∧e=.returned (.tuple #[dh.v none 0 0,.int .i64 (S.aW c dir s)]))∨(S.aW c dir s=0∧∃ea el ec,e=.returned (.tuple #[d.v ea el ec,.int .i64 0])∧aA w ea el ec d.aB))∧Up w w':=by
 have j8:=Um (fun w1 (ar:Up w w1)=>fi (h.ak ar) hk.d1);have hnz:=hk.d1;generalize S.ds.length=n at j8 hnz;have hz:((n:Int)==0)=false:=by simp;omega
 obtain⟨ea,el,ec,he,hG⟩:=eA h hg;have HE:=Um he;have HG:=Um hG;unfold An.v at HG;have dY:=Um (fun w=>tV s w hs);have ky:=Um (show S.aW c dir s=if d.kind≠1 then 9 else if dD s≠0 then dD s else if d.may c 3=false then 6 else 0 by unfold Fs.aW;rw[hg]);have lM:=Um (fun w=>nk c d ea el ec 3 w);unfold Cr.v An.v at lM;obtain⟨pc,-,pz⟩:=h.bd.facts;generalize dD s=ce at dY ky;generalize S.aW c dir s=pe at ky⊢;generalize d.may c 3=my at ky lM;clear h hk hg he hG;go_enter Tryz.func176,Tryz.ntmps176;go_wp2_with fail;refine(j8.o _ (al (al (Below.refl _ _) _) _)).mono ?_;rintro e w1 ⟨rfl,rfl⟩;go_wp2_with fail;refine(HG.o _ (al (al (Below.refl _ _) _) _)).mono ?_;rintro e w1 ⟨rfl,ar⟩;have aD:=ao (al (al (Uq w) _) _) ar;have hR:au w1 (w.heap.size+1) #[.int .i64 0,.int .i64 0,.int .i64 0,.int .i64 0,.int .i64 0,.int .i64 0,.int .i64 0,.int .i64 0,.int .i64 0,.int .i64 0,.string ⟨#[]⟩,.slice none 0 0] 99:=by
  have:=((au.new (w.alloc (.cells #[.int .i64 c.u,.int .i64 c.g] 69)) #[.int .i64 0,.int .i64 0,.int .i64 0,.int .i64 0,.int .i64 0,.int .i64 0,.int .i64 0,.int .i64 0,.int .i64 0,.int .i64 0,.string ⟨#[]⟩,.slice none 0 0] 99).ak ar)
  rwa [World.size_alloc] at this
 have zt:au w1 w.heap.size #[.int .i64 c.u,.int .i64 c.g] 69:=((au.new w #[.int .i64 c.u,.int .i64 c.g] 69).eE (.cells #[.int .i64 0,.int .i64 0,.int .i64 0,.int .i64 0,.int .i64 0,.int .i64 0,.int .i64 0,.int .i64 0,.int .i64 0,.int .i64 0,.string ⟨#[]⟩,.slice none 0 0] 99)).ak ar;have eF:=hR.eE (.cells #[.int .i64 d.no,.int .i64 d.dev,.int .i64 d.kind,.int .i64 d.mode,.int .i64 d.uid,.int .i64 d.gid,.int .i64 d.mtime,.int .i64 d.ctime,.int .i64 d.an,.int .i64 d.up,.string d.data,.slice ea el ec] 99);have fy:=zt.eE (.cells #[.int .i64 d.no,.int .i64 d.dev,.int .i64 d.kind,.int .i64 d.mode,.int .i64 d.uid,.int .i64 d.gid,.int .i64 d.mtime,.int .i64 d.ctime,.int .i64 d.an,.int .i64 d.up,.string d.data,.slice ea el ec] 99);have gJ:=au.new w1 #[.int .i64 d.no,.int .i64 d.dev,.int .i64 d.kind,.int .i64 d.mode,.int .i64 d.uid,.int .i64 d.gid,.int .i64 d.mtime,.int .i64 d.ctime,.int .i64 d.an,.int .i64 d.up,.string d.data,.slice ea el ec] 99;have ax:=al aD (.cells #[.int .i64 d.no,.int .i64 d.dev,.int .i64 d.kind,.int .i64 d.mode,.int .i64 d.uid,.int .i64 d.gid,.int .i64 d.mtime,.int .i64 d.ctime,.int .i64 d.an,.int .i64 d.up,.string d.data,.slice ea el ec] 99);clear hR zt ar aD pc;go_wp2_with fail;generalize w1.alloc _=X at eF fy gJ ax⊢;refine(dY.o _).mono ?_;rintro e w2 ⟨rfl,rfl⟩;have gh:=Um eF;have aJ:=Um ax;have vJ:=Um gJ;have Oc:=Um fy;obtain⟨rc,rf,rz⟩:=eF.facts;obtain⟨dc,df,dz⟩:=gJ.facts;obtain⟨cc,-,-⟩:=fy.facts;clear eF ax gJ fy;by_cases h1:d.kind=1
 ·have q1:(d.kind==1)=true:=by simpa using h1
  have q2:(d.kind != 1)=false:=by simpa using h1
  by_cases h2:ce=0
  ·have q3:(ce != 0)=false:=by simpa using h2
   cases my
   ·have HE6:=Um (show pe=6 by rw[ky.o];simp[h1,h2]);clear h1 h2;go_wp2_with fail;refine(lM.o _).mono ?_;rintro e w5 ⟨rfl,b9⟩;have oO:=gh.o.ak b9;have ur:=aJ.o.trans (b9.mono aJ.o.size);have yY:=Um oO;have lF:=Um ur;clear rc rf rz dc df dz cc;obtain⟨rc,rf,rz⟩:=oO.facts;clear oO ur b9;go_wp2_with fail;exact bodyPost_ret (gi (a:=dh) yY.o.dR rfl rfl) rfl ⟨.inl ⟨by rw[HE6.o];decide,by rw[HE6.o]⟩,aM lF.o (Nat.le_succ _)⟩
   ·have jW:=Um (show pe=0 by rw[ky.o];simp[h1,h2]);clear h1 h2;go_wp2_with fail;refine(lM.o _).mono ?_;rintro e w5 ⟨rfl,b9⟩;have oO:=gh.o.ak b9;have sr:=vJ.o.ak b9;have ur:=aJ.o.trans (b9.mono aJ.o.size);have yY:=Um oO;have lF:=Um ur;clear rc rf rz dc df dz cc;obtain⟨rc,rf,rz⟩:=oO.facts;obtain⟨dc,-,-⟩:=sr.facts;clear oO ur b9 sr;go_wp2_with fail;exact bodyPost_ret (gi (a:=d) (ea:=ea) (el:=el) (ec:=ec) yY.o.dR rfl rfl) rfl ⟨.inr ⟨jW.o,ea,el,ec,rfl,HE.o⟩,aM lF.o (Nat.le_succ _)⟩
  ·have q3:(ce != 0)=true:=by simpa using h2
   have Qv:=Um (show pe=ce∧ce≠0 by refine⟨?_,h2⟩;rw[ky.o];simp[h1,h2]);clear h1 h2;go_wp2_with fail;exact bodyPost_ret (gi (a:=dh) gh.o.dR rfl rfl) rfl ⟨.inl ⟨by rw[Qv.o.1];exact Qv.o.2,by rw[Qv.o.1]⟩,aM aJ.o (Nat.le_succ _)⟩
 ·have q2:(d.kind != 1)=true:=by simpa using h1
  have T4:=Um (show pe=9 by rw[ky.o];simp[h1]);clear h1;go_wp2_with fail;exact bodyPost_ret (gi (a:=dh) gh.o.dR rfl rfl) rfl ⟨.inl ⟨by rw[T4.o];decide,by rw[T4.o]⟩,aM aJ.o (Nat.le_succ _)⟩
end
end
section
open Go.RowKit
section
variable{w w':World}{pf:Nat}{R:Rf}{S:Fs}
theorem xY(h:aE w pf R S)(no:Int) :
  Calls Tryz.prog 76 #[.pointer (some ⟨pf,0,none⟩),.int .i64 no] w fun e w'=>e=.returned (.int .i64 (kh R.G no))∧Up w w':=by
 have HW:=Um h;obtain⟨na,nc,hnv,gO,jj⟩:=h.wN;have HNv:=Um hnv;have HY:=Um (fun i (hi:i<R.G.length)=>C7 (G:=R.G) (no:=no) hi);have HN:=Um (F7 (G:=R.G) (no:=no));generalize kh R.G no=out at HY HN⊢;obtain⟨n,hn⟩:∃n,R.G.length=n:=⟨_,rfl⟩;have H':=Um hn;rw[hn] at hnv gO;obtain⟨pc,-,pz⟩:=h.bd.facts;rw[hnv] at pc;clear h hnv hn;go_enter Tryz.func76,Tryz.ntmps76;go_wp2_with fail
 go_loopw [5] (fun t5 wr=>∃k:Nat,k≤n∧t5=.int .i64 k∧(∀j (hj:j<R.G.length),j<k→R.G[j].a.no≠no)∧Up w wr) (fun t5 _=>n-(intOf t5).toNat)
 case atStart=>exact⟨0,Nat.zero_le _,rfl,fun j _ h=>absurd h (Nat.not_lt_zero _),Below.refl _ _⟩
 case round=>
  obtain⟨k,hk,rfl,hno,hb⟩:=hrel;have fL:=Um hno;have HB:=Um hb;have pc2:=fun i=>(hb.cell (p:=⟨pf,i,none⟩) pz).trans (pc i);clear hno;by_cases hlt:k<n
  ·have hkl:k<R.G.length:=by rw[H'.o];exact hlt
   obtain⟨g,cap,hnv,-,-,hg,hc,-,-⟩:=(HW.o.ak hb).cm (by omega);have he:=HNv.o.symm.trans hnv;injection he with zm o3 he3;subst zm;have c0:=(hc k hkl).c0;have HYk:=Um (HY.o k hkl);clear hc hnv hb o3 he3;by_cases hq:R.G[k].a.no=no
   ·have HR:=Um (HYk.o hq (fun j hj hjk=>fL.o j hj hjk));have hqb:(R.G[k].a.no==no)=true:=by simpa using hq
    generalize R.G[k].a.no=x at c0 hqb;clear hq;go_wp2_with fail;go_ret;exact⟨by rw[HR.o];rfl,HB.o⟩
   ·have hqb:(R.G[k].a.no==no)=false:=by simpa using hq
    have D8:=Um (show∀j (hj:j<R.G.length),j<k+1→R.G[j].a.no≠no from fun j hj hjk=>by
     by_cases e:j=k
     ·subst e;exact hq
     ·exact fL.o j hj (by omega))
    generalize R.G[k].a.no=x at c0 hqb;clear hq;go_wp2_with fail;go_roundw
    case rel=>exact⟨k+1,by omega,by go_num,D8.o,HB.o⟩
    case measure=>simp[intOf];omega
  ·obtain rfl:k=n:=by omega
   have HR:=Um (HN.o (fun j hj=>fL.o j hj (by rw[←H'.o];exact hj)));clear hb;go_wp2_with fail;go_ret;exact⟨by rw[HR.o];rfl,HB.o⟩
theorem po{tmps:Array Value}{W:World}{B:Nat}{a:An}{ea:Option Addr}{el ec:Nat}(hb:au W B #[.int .i64 a.no,.int .i64 a.dev,.int .i64 a.kind,.int .i64 a.mode,.int .i64 a.uid,.int .i64 a.gid,.int .i64 a.mtime,.int .i64 a.ctime,.int .i64 a.an,.int .i64 a.up,.string a.data,.slice ea el ec] 99)(h4:tmps.getD 4 undef=.pointer (some ⟨B,0,none⟩)) :
  (results Tryz.f41 tmps).run Tryz.prog W=.ok (a.v ea el ec) W:=by
 obtain⟨q0,q1,q2,q3,q4,q5,q6,q7,q8,q9,q10,q11⟩:=hb.eX;rw[Array.getD_eq_getD_getElem?] at h4;simp[results,Tryz.results41,go_sem,h4,q0,q1,q2,q3,q4,q5,q6,q7,q8,q9,q10,q11,An.v]
theorem My(h:aE w pf R S){k:Int}{i:Nat}(hi:i<R.G.length)(hp:kh R.G k=i) :
  Calls Tryz.prog 41 #[.pointer (some ⟨pf,0,none⟩),.int .i64 k] w fun e w'=>e=.returned (R.G[i].a.v R.G[i].ea R.G[i].el R.G[i].ec)∧Up w w':=by
 have Iw:=Um (xY (h.ak ((Below.refl _ w).alloc (aa _) (.cells #[.int .i64 0,.int .i64 0,.int .i64 0,.int .i64 0,.int .i64 0,.int .i64 0,.int .i64 0,.int .i64 0,.int .i64 0,.int .i64 0,.string ByteArray.empty,.slice none 0 0] 99))) k);rw[hp] at Iw;obtain⟨na,nc,hnv,gO,jj⟩:=h.wN;obtain⟨g,cap,hnv,-,-,hgl,hc,-,-⟩:=h.cm (by omega);obtain⟨c0,c1,c2,c3,c4,c5,c6,c7,c8,c9,c10,c11⟩:=hc i hi;obtain⟨pc,-,pz⟩:=h.bd.facts;rw[hnv] at pc;obtain⟨n,hn⟩:∃n,R.G.length=n:=⟨_,rfl⟩;rw[hn] at pc gO;have hin:i<n:=by omega
 have bO:=al (Uq w) (.cells #[.int .i64 0,.int .i64 0,.int .i64 0,.int .i64 0,.int .i64 0,.int .i64 0,.int .i64 0,.int .i64 0,.int .i64 0,.int .i64 0,.string ByteArray.empty,.slice none 0 0] 99);have nD:=au.new w #[.int .i64 0,.int .i64 0,.int .i64 0,.int .i64 0,.int .i64 0,.int .i64 0,.int .i64 0,.int .i64 0,.int .i64 0,.int .i64 0,.string ByteArray.empty,.slice none 0 0] 99;unfold An.v;generalize R.G[i].a=a at *;generalize R.G[i].ea=ea at *;generalize R.G[i].el=el at *;generalize R.G[i].ec=ec at *;have HC:=Um (fun w1 (hb:Up w w1)=>ag (hb.cell (p:=⟨g,i*12,none⟩) hgl) (fun j=>hb.cell (p:=⟨g,i*12+j,none⟩) hgl));have nO:=Um nD;have bP:=Um bO;clear h hnv hc hi hn hp nD bO;go_enter Tryz.func41,Tryz.ntmps41;go_wp2_with fail;refine Iw.o.mono ?_;rintro e w1 ⟨rfl,ar⟩;have Dm:=nO.o.ak ar;have aD:=ao bP.o ar;have l7:=Um Dm;have cV:=Um aD;obtain⟨q0,qf,qz⟩:=Dm.facts;have pc2:=fun i=>(aD.cell (p:=⟨pf,i,none⟩) pz).trans (pc i);obtain⟨d0,dd⟩:=HC.o w1 aD;rw[←d0] at c0;rw[←dd 1] at c1;rw[←dd 2] at c2;rw[←dd 3] at c3;rw[←dd 4] at c4;rw[←dd 5] at c5;rw[←dd 6] at c6;rw[←dd 7] at c7;rw[←dd 8] at c8;rw[←dd 9] at c9;rw[←dd 10] at c10;rw[←dd 11] at c11;clear Dm ar aD d0 dd pc;go_wp2_with fail;exact bodyPost_ret (po (a:=a) (ea:=ea) (el:=el) (ec:=ec) l7.o.dR rfl) rfl ⟨rfl,aM cV.o (aa _)⟩
theorem fe(h:aE w pf R S){k:Int}{a:An}(hg:S.get k=some a):∃ea el ec,aA w ea el ec a.aB∧∀w1,Up w w1→
  Calls Tryz.prog 41 #[.pointer (some ⟨pf,0,none⟩),.int .i64 k] w1 fun e w'=>e=.returned (a.v ea el ec)∧Up w1 w':=by
 rcases qF h k with⟨i,hi,hp,vB,-⟩|⟨-,vB⟩
 ·rw[hg] at vB;injection vB with vB;subst vB;exact⟨R.G[i].ea,R.G[i].el,R.G[i].ec,h.aB _ (List.getElem_mem hi),fun w1 hb=>My (h.ak hb) hi hp⟩
 ·rw[hg] at vB;cases vB
theorem mm(h:aE w pf R S){k:Int}{a:An}(hg:S.get k=some a):∃ea el ec,aA w ea el ec a.aB∧
  Calls Tryz.prog 41 #[.pointer (some ⟨pf,0,none⟩),.int .i64 k] w fun e w'=>e=.returned (a.v ea el ec)∧Up w w':=by
 obtain⟨ea,el,ec,he,hG⟩:=fe h hg;exact⟨ea,el,ec,he,hG w (Below.refl _ _)⟩
theorem jh(h:aE w pf R S){k:Int}(hg:S.get k=none) :
  Calls Tryz.prog 41 #[.pointer (some ⟨pf,0,none⟩),.int .i64 k] w fun e w'=>e=.returned (dh.v none 0 0)∧Up w w':=by
 rcases qF h k with⟨i,hi,hp,vB,hno⟩|⟨hp,-⟩
 ·rw[hg] at vB;cases vB
 ·have Iw:=Um (xY (h.ak ((Below.refl _ w).alloc (aa _) (.cells #[.int .i64 0,.int .i64 0,.int .i64 0,.int .i64 0,.int .i64 0,.int .i64 0,.int .i64 0,.int .i64 0,.int .i64 0,.int .i64 0,.string ByteArray.empty,.slice none 0 0] 99))) k);rw[hp] at Iw;have bP:=Um (al (Uq w) (.cells #[.int .i64 0,.int .i64 0,.int .i64 0,.int .i64 0,.int .i64 0,.int .i64 0,.int .i64 0,.int .i64 0,.int .i64 0,.int .i64 0,.string ByteArray.empty,.slice none 0 0] 99));have nO:=Um (au.new w #[.int .i64 0,.int .i64 0,.int .i64 0,.int .i64 0,.int .i64 0,.int .i64 0,.int .i64 0,.int .i64 0,.int .i64 0,.int .i64 0,.string ByteArray.empty,.slice none 0 0] 99);clear h hg hp;go_enter Tryz.func41,Tryz.ntmps41;go_wp2_with fail;refine Iw.o.mono ?_;rintro e w1 ⟨rfl,ar⟩;have Dm:=nO.o.ak ar;have l7:=Um Dm;have cV:=Um (ao bP.o ar);obtain⟨q0,qf,qz⟩:=Dm.facts;clear Dm ar;go_wp2_with fail;exact bodyPost_ret (po (a:=dh) (ea:=none) (el:=0) (ec:=0) l7.o.dR rfl) rfl ⟨rfl,aM cV.o (aa _)⟩
end
end
section
open Go.RowKit
theorem gu(c:UInt8)(a m:List UInt8):dB c (a++c::m)=dB c a++dB c m:=by
 refine gU (P:=fun m=>dB c (a++c::m)=dB c a++dB c m) ?_ (fun m x ih=>?_) m
 ·rw[ei,dX,if_pos rfl];rfl
 ·rw[show a++c::(m++[x])=(a++c::m)++[x] by simp,ei,ih,ei];have h0:=(dM c m).1;unfold dX
  split
  ·simp
  ·rw[List.length_append,List.getD_eq_getElem?_getD,List.getD_eq_getElem?_getD,List.getElem?_append_right (by omega),List.set_append_right _ _ (by omega),show(dB c a).length+(dB c m).length-1-(dB c a).length=(dB c m).length-1 by omega]
theorem dK(c:UInt8)(l:List UInt8):c∉l→dB c l=[l]:=by
 refine gU (P:=fun l=>c∉l→dB c l=[l]) (fun _=>rfl) (fun l x ih h=>?_) l;rw[List.mem_append,List.mem_singleton,not_or] at h;rw[ei,ih h.1,dX,if_neg (fun e=>h.2 e.symm)];rfl
theorem lf:∀(l:List UInt8) (c:UInt8),Lib.indexByte l c=-1→c∉l
 | [],c,_=>by simp
 |b::l,c,h=>by
  unfold Lib.indexByte at h;have hge:=Lib.indexByte_ge l c
  split at h
  ·omega
  ·rename_i hb
   split at h
   ·rename_i h2;have:=lf l c (beq_iff_eq.1 h2);rw[List.mem_cons,not_or];exact⟨fun e=>hb (beq_iff_eq.2 e.symm),this⟩
   ·omega
theorem ki:∀(l:List UInt8) (c:UInt8) (i:Nat),Lib.indexByte l c=i→i<l.length∧l=l.take i++c::l.drop (i+1)∧c∉l.take i
 | [],c,i,h=>by unfold Lib.indexByte at h;omega
 |b::l,c,i,h=>by
  unfold Lib.indexByte at h;have hge:=Lib.indexByte_ge l c
  split at h
  ·rename_i hb;obtain rfl:i=0:=by omega
   refine⟨by simp,?_,by simp⟩;rw[←beq_iff_eq.1 hb];simp
  ·rename_i hb
   split at h
   ·omega
   ·rename_i h2;obtain⟨j,rfl⟩:∃j,i=j+1:=⟨i-1,by have:Lib.indexByte l c≠-1:=fun e=>h2 (beq_iff_eq.2 e);omega⟩;obtain⟨h3,h4,h5⟩:=ki l c j (by omega);refine⟨by simp;omega,?_,?_⟩
    ·rw[List.take_succ_cons,List.drop_succ_cons,List.cons_append,←h4]
    ·rw[List.take_succ_cons,List.mem_cons,not_or];exact⟨fun e=>hb (beq_iff_eq.2 e.symm),h5⟩
theorem mB(s:ByteArray)(c:UInt8):Lib.indexB s (ByteArray.mk #[c])=Lib.indexByte s.data.toList c:=Lib.index_one s.data.toList c
theorem jl(s:ByteArray)(a b:Nat):(s.extract a b).data.toList=(s.data.toList.take b).drop a:=by
 rw[Lib.extract_data,List.drop_take]
theorem yM(s:ByteArray)(i:Nat):(s.extract 0 (i+0)).data.toList=s.data.toList.take i:=by
 rw[jl,List.drop_zero,Nat.add_zero]
theorem yL(s:ByteArray)(i:Nat):(s.extract (i+1) s.size).data.toList=s.data.toList.drop (i+1):=by
 rw[jl,List.take_of_length_le (show s.data.toList.length≤s.size from Nat.le_of_eq Array.length_toList)]
end
section
open Go.RowKit
section
variable{S:Fs}{c:Cr}{f must:Bool}{h:Nat}{at':Int}{p:List UInt8}{l:List (List UInt8)}{n:An}
theorem z6:S.eO c f h at' must []=(⟨0,ByteArray.empty,at',true⟩,0):=by cases h<;>rfl
theorem pg(he:(S.step c at' p).2≠0):S.eO c f h at' must (p::l)=(gC,(S.step c at' p).2):=by
 cases h
 ·show S.cy c f none (p::l) at' must=_;rw[Fs.cy];simp only;rw[if_pos he]
 ·show S.cy c f (some _) (p::l) at' must=_;rw[Fs.cy];simp only;rw[if_pos he]
theorem xR(he:(S.step c at' p).2=0)(hp:p=[46,46]):S.eO c f h at' must (p::l)=S.eO c f h (S.step c at' p).1 must l:=by
 cases h
 ·show S.cy c f none (p::l) at' must=_;rw[Fs.cy];simp only;rw[if_neg (by simp[he]),if_pos hp];rfl
 ·show S.cy c f (some _) (p::l) at' must=_;rw[Fs.cy];simp only;rw[if_neg (by simp[he]),if_pos hp];rfl
theorem z7(he:(S.step c at' p).2=0)(hp:p≠[46,46])(hg:S.get (S.step c at' p).1=none)(hl:l=[]):S.eO c f h at' must (p::l)=(⟨at',str p,0,must⟩,0):=by
 cases h
 ·show S.cy c f none (p::l) at' must=_;rw[Fs.cy];simp only;rw[if_neg (by simp[he]),if_neg hp,hg];simp only;rw[if_pos hl]
 ·show S.cy c f (some _) (p::l) at' must=_;rw[Fs.cy];simp only;rw[if_neg (by simp[he]),if_neg hp,hg];simp only;rw[if_pos hl]
theorem vX(he:(S.step c at' p).2=0)(hp:p≠[46,46])(hg:S.get (S.step c at' p).1=none)(hl:l≠[]):S.eO c f h at' must (p::l)=(gC,5):=by
 cases h
 ·show S.cy c f none (p::l) at' must=_;rw[Fs.cy];simp only;rw[if_neg (by simp[he]),if_neg hp,hg];simp only;rw[if_neg hl]
 ·show S.cy c f (some _) (p::l) at' must=_;rw[Fs.cy];simp only;rw[if_neg (by simp[he]),if_neg hp,hg];simp only;rw[if_neg hl]
theorem vV(he:(S.step c at' p).2=0)(hp:p≠[46,46])(hg:S.get (S.step c at' p).1=some n)(hk:n.kind=3∧(l≠[]∨must=true∨f=true)):S.eO c f 0 at' must (p::l)=(gC,12):=by
 show S.cy c f none (p::l) at' must=_;rw[Fs.cy];simp only;rw[if_neg (by simp[he]),if_neg hp,hg];simp only;rw[if_pos hk]
theorem vU(he:(S.step c at' p).2=0)(hp:p≠[46,46])(hg:S.get (S.step c at' p).1=some n)(hk:n.kind=3∧(l≠[]∨must=true∨f=true))(hd:n.data.data.toList=[]):S.eO c f (h+1) at' must (p::l)=(gC,5):=by
 show S.cy c f (some _) (p::l) at' must=_;rw[Fs.cy];simp only;rw[if_neg (by simp[he]),if_neg hp,hg];simp only;rw[if_pos hk,if_pos hd]
theorem vW(he:(S.step c at' p).2=0)(hp:p≠[46,46])(hg:S.get (S.step c at' p).1=some n)(hk:n.kind=3∧(l≠[]∨must=true∨f=true))(hd:n.data.data.toList≠[]) :
  S.eO c f (h+1) at' must (p::l)=S.eO c f h (if n.data.data.toList.head?=some 47 then 1 else at') (if l=[] then must||eT n.data.data.toList else must) (bE n.data.data.toList++l):=by
 show S.cy c f (some _) (p::l) at' must=_;rw[Fs.cy];simp only;rw[if_neg (by simp[he]),if_neg hp,hg];simp only;rw[if_pos hk,if_neg hd]
theorem ng(he:(S.step c at' p).2=0)(hp:p≠[46,46])(hg:S.get (S.step c at' p).1=some n)(hk:¬(n.kind=3∧(l≠[]∨must=true∨f=true)))(hd:n.kind≠1∧(l≠[]∨must=true)):S.eO c f h at' must (p::l)=(gC,9):=by
 cases h
 ·show S.cy c f none (p::l) at' must=_;rw[Fs.cy];simp only;rw[if_neg (by simp[he]),if_neg hp,hg];simp only;rw[if_neg hk,if_pos hd]
 ·show S.cy c f (some _) (p::l) at' must=_;rw[Fs.cy];simp only;rw[if_neg (by simp[he]),if_neg hp,hg];simp only;rw[if_neg hk,if_pos hd]
theorem m'(he:(S.step c at' p).2=0)(hp:p≠[46,46])(hg:S.get (S.step c at' p).1=some n)(hk:¬(n.kind=3∧(l≠[]∨must=true∨f=true)))(hd:¬(n.kind≠1∧(l≠[]∨must=true)))(hl:l=[]):S.eO c f h at' must (p::l)=(⟨at',str p,(S.step c at' p).1,must⟩,0):=by
 cases h
 ·show S.cy c f none (p::l) at' must=_;rw[Fs.cy];simp only;rw[if_neg (by simp[he]),if_neg hp,hg];simp only;rw[if_neg hk,if_neg hd,if_pos hl]
 ·show S.cy c f (some _) (p::l) at' must=_;rw[Fs.cy];simp only;rw[if_neg (by simp[he]),if_neg hp,hg];simp only;rw[if_neg hk,if_neg hd,if_pos hl]
theorem Eg(he:(S.step c at' p).2=0)(hp:p≠[46,46])(hg:S.get (S.step c at' p).1=some n)(hk:¬(n.kind=3∧(l≠[]∨must=true∨f=true)))(hd:¬(n.kind≠1∧(l≠[]∨must=true)))(hl:l≠[]):S.eO c f h at' must (p::l)=S.eO c f h (S.step c at' p).1 must l:=by
 cases h
 ·show S.cy c f none (p::l) at' must=_;rw[Fs.cy];simp only;rw[if_neg (by simp[he]),if_neg hp,hg];simp only;rw[if_neg hk,if_neg hd,if_neg hl];rfl
 ·show S.cy c f (some _) (p::l) at' must=_;rw[Fs.cy];simp only;rw[if_neg (by simp[he]),if_neg hp,hg];simp only;rw[if_neg hk,if_neg hd,if_neg hl];rfl
end
theorem jr(l:List UInt8):(bE l).length≤l.length+1:=ae (List.length_filter_le _ _) (dM 47 l).2
theorem Gb(a b:List UInt8)(ha:∀x∈a,x≠47):bE (a++47::b)=(if a=[]∨a=[46] then[] else[a])++bE b:=by
 unfold bE;rw[gu,dK 47 a (fun h=>ha 47 h rfl),List.filter_append];congr 1;by_cases h1:a=[]
 ·subst h1;rfl
 ·by_cases h2:a=[46]
  ·subst h2;rfl
  ·rw[if_neg (by rintro(h|h);exact h1 h;exact h2 h)];have e1:(a==[])=false:=by simpa using h1
   have e2:(a==[46])=false:=by simpa using h2
   simp[h1,h2]
theorem Ga(a:List UInt8)(ha:∀x∈a,x≠47):bE a=if a=[]∨a=[46] then[] else[a]:=by
 unfold bE;rw[dK 47 a (fun h=>ha 47 h rfl)];by_cases h1:a=[]
 ·subst h1;rfl
 ·by_cases h2:a=[46]
  ·subst h2;rfl
  ·rw[if_neg (by rintro(h|h);exact h1 h;exact h2 h)];have e1:(a==[])=false:=by simpa using h1
   have e2:(a==[46])=false:=by simpa using h2
   simp[h1,h2]
end
section
open Go.RowKit Go.Shelf
attribute [local go_sem] Oper.semAt_some
def Hl(l:List UInt8)(pre:List (List UInt8))(fr k:Nat):Prop:=
 fr≤l.length+1∧((k≤l.length∧fr≤k∧bE l=pre++bE (l.drop fr)∧∀x∈(l.take k).drop fr,x≠47)∨(k=l.length+1∧bE l=pre))
theorem FZ(l:List UInt8):Hl l [] 0 0:=⟨by omega,.inl ⟨by omega,aa _,by simp,by simp⟩⟩
theorem Je{l:List UInt8}{pre:List (List UInt8)}{fr k:Nat}(h:Hl l pre fr k)(hk:k<l.length)(hx:l[k]≠47):Hl l pre fr (k+1):=by
 obtain⟨h1,⟨h2,h3,h4,h5⟩|⟨h2,-⟩⟩:=h
 ·refine⟨h1,.inl ⟨hk,by omega,h4,fun x hxm=>?_⟩⟩;rw[List.take_succ_eq_append_getElem hk,List.drop_append_of_le_length (by rw[List.length_take];omega)] at hxm;rcases List.mem_append.1 hxm with hxm|hxm
  ·exact h5 x hxm
  ·rw[List.mem_singleton] at hxm;subst hxm;exact hx
 ·omega
theorem ME{l:List UInt8}{pre:List (List UInt8)}{fr k:Nat}(h:Hl l pre fr k)(hk:l.length<k):bE l=pre:=by
 obtain⟨-,⟨h2,-⟩|⟨-,h3⟩⟩:=h
 ·omega
 ·exact h3
def ko(l:List UInt8)(fr k:Nat):List UInt8:=(l.take k).drop fr
theorem F0{l:List UInt8}{fr k:Nat}(hk:k<l.length)(hf:fr≤k)(hx:l[k]=47):l.drop fr=ko l fr k++47::l.drop (k+1):=by
 unfold ko
 conv=>lhs;rw[←List.take_append_drop k l]
 rw[List.drop_append_of_le_length (by rw[List.length_take];omega),List.drop_eq_getElem_cons hk,hx]
theorem Ej{l:List UInt8}{pre:List (List UInt8)}{fr k:Nat}(h:Hl l pre fr k)(hk:k≤l.length)(hx:∀(h:k<l.length),l[k]=47) :
  fr≤k∧bE l=pre++((if ko l fr k=[]∨ko l fr k=[46] then[] else[ko l fr k])++(if k<l.length then bE (l.drop (k+1)) else[]))∧
   ∀pre',(bE l=pre'++(if k<l.length then bE (l.drop (k+1)) else[]))→Hl l pre' (k+1) (k+1):=by
 obtain⟨h1,⟨h2,h3,h4,h5⟩|⟨h2,-⟩⟩:=h
 ·by_cases hlt:k<l.length
  ·refine⟨h3,?_,fun pre' hp=>⟨by omega,.inl ⟨by omega,aa _,?_,?_⟩⟩⟩
   ·rw[h4,F0 hlt h3 (hx hlt),Gb (ko l fr k) _ h5,if_pos hlt]
   ·rw[if_pos hlt] at hp;exact hp
   ·rw[List.drop_eq_nil_of_le (by rw[List.length_take];omega)];simp
  ·refine⟨h3,?_,fun pre' hp=>⟨by omega,.inr ⟨by omega,?_⟩⟩⟩
   ·obtain rfl:k=l.length:=by omega
    rw[h4,if_neg hlt,List.append_nil];have:l.drop fr=ko l fr l.length:=by unfold ko;rw[List.take_length]
    rw[this,Ga (ko l fr l.length) h5]
   ·rw[if_neg hlt,List.append_nil] at hp;exact hp
 ·omega
theorem Aw{l:List UInt8}{pre:List (List UInt8)}{fr k:Nat}(h:Hl l pre fr k)(hk:k≤l.length)(hx:∀(h:k<l.length),l[k]=47)(hs:ko l fr k=[]∨ko l fr k=[46]):Hl l pre (k+1) (k+1):=by
 obtain⟨-,h2,h3⟩:=Ej h hk hx;refine h3 pre ?_;rw[h2,if_pos hs,List.nil_append]
theorem Jd{l:List UInt8}{pre:List (List UInt8)}{fr k:Nat}(h:Hl l pre fr k)(hk:k≤l.length)(hx:∀(h:k<l.length),l[k]=47)(hs:¬(ko l fr k=[]∨ko l fr k=[46])) :
  Hl l (pre++[ko l fr k]) (k+1) (k+1)∧(pre++[ko l fr k]) <+: bE l:=by
 obtain⟨-,h2,h3⟩:=Ej h hk hx;rw[if_neg hs,←List.append_assoc] at h2;exact⟨h3 _ h2,⟨_,h2.symm⟩⟩
theorem Pb{l:List UInt8}{pre:List (List UInt8)}{fr k:Nat}(h:Hl l pre fr k)(hk:k≤l.length):fr≤k:=by
 obtain⟨h1,⟨h2,h3,h4,h5⟩|⟨h2,-⟩⟩:=h
 ·exact h3
 ·omega
theorem Jf{l:List UInt8}{pre:List (List UInt8)}{fr k:Nat}(h:Hl l pre fr k):k≤l.length+1:=by
 obtain⟨h1,⟨h2,h3,h4,h5⟩|⟨h2,-⟩⟩:=h
 ·omega
 ·omega
theorem IL(l:List UInt8)(a b:Nat):(str l).extract a b=str ((l.take b).drop a):=by
 have:((str l).extract a b).data.toList=(str ((l.take b).drop a)).data.toList:=by rw[jl,aH,aH]
 rw[←eC ((str l).extract a b),this,aH]
theorem rJ{α:Type}{a b:List α}(h:a <+: b):∃m,a=b.take m:=⟨a.length,(List.prefix_iff_eq_take.1 h)⟩
theorem bp{P:Program}{fn:Func}{R:Ending→World→Prop}{tmps:Array Value}{W:World}{v:Value}(h:(results fn tmps).run P W=.ok v W)(hR:R (.returned v) W):Exit.noGoto (bodyPost P fn R) .ret {tmps,defers:=[]} W:=
 bodyPost_ret h rfl hR
theorem Mq(s:ByteArray)(a b:Nat):s.extract a b=str (ko s.data.toList a b):=by
 show s.extract a b=str ((s.data.toList.take b).drop a);rw[←IL,eC]
theorem Az(n:Nat)(hn:1≤n)(Bs:Nat)(s:ByteArray)(hl:s.size≤100000)(w:World)(hs:au w Bs #[.string s] 9) :
  Lb (fun k=>k=Bs) Fence.wide n Tryz.prog 220 #[.pointer (some ⟨Bs,0,none⟩)] (fun x:List UInt8=>#[.string (str x)])
   (fun xs=>xs=bE s.data.toList) (fun pre=>∃m,pre=(bE s.data.toList).take m) (fun pre x=>(pre++[x]) <+: bE s.data.toList) w:=fun L J Jx W hW hWs hJ hJx hY h0=>by
 have Hs:=Um (show au W Bs #[.string s] 9 from(hW.2 Bs rfl).trans hs);have kC:=Um (show s.data.toList.length=s.size from Array.length_toList);have OR:=Um (fun(k:Nat) (hk:k<s.data.toList.length) (ig:k<s.size)=>show s.data.toList[k]=s[k] from rfl);have HY:=Um hY;clear hs hW hWs hY;refine callsIn_of_wp Tryz.func220 rfl trivial ?_ rfl;simp only[Tryz.ntmps220,List.size_toArray,List.length_cons,List.length_nil,Nat.reduceAdd,Nat.reduceSub,Array.replicate_succ,Array.replicate_zero,List.push_toArray,List.append_toArray,List.nil_append,List.cons_append];refine(wpIn_wide (n:=n)).2 (wp_scope_straight ((wpIn_wide (n:=n)).1 ?_));refine wpIn_seq ?_;gi_wp2;refine wpIn_label ?_;gi_wp2
 gi_loopw [3,4] (fun f a wr=>∃(pre:List (List UInt8)) (fr k:Nat),f=.int .i64 fr∧a=.int .i64 k∧Hl s.data.toList pre fr k∧J pre wr∧au wr Bs #[.string s] 9) (fun _ a _=>s.size+1-(intOf a).toNat)
 case atStart=>exact⟨[],0,0,rfl,rfl,FZ _,h0,Hs.o⟩
 case round=>
  obtain⟨pre,fr,k,rfl,rfl,hp,S8,hbs⟩:=hrel;have HP:=Um hp;have Lu:=Um S8;have sB:=Um hbs;have hks:k≤s.size+1:=by have:=Jf hp;rw[kC.o] at this;exact this
  obtain⟨cs,fs,ls⟩:=hbs.facts;clear hp S8 hbs;by_cases hk:k≤s.size
  ·have hfr:fr≤k:=Pb HP.o (by rw[kC.o];exact hk);by_cases hc:∃h:k<s.size,s[k]≠47
   ·obtain⟨hkl,hc⟩:=hc;have HN:=Um (Je HP.o (by rw[kC.o];exact hkl) hc);have eS:((s[k].toNat:Int) != 47)=true:=by
     simp only[bne_iff_ne,ne_eq];intro h;exact hc (by rw[gE];show s[k].toNat=47;omega)
    clear hc;gi_wp2;go_roundw
    case rel=>exact⟨pre,fr,k+1,rfl,by go_num,HN.o,Lu.o,sB.o⟩
    case measure=>simp[intOf];omega
   ·have HX:=Um (show∀(h:k<s.data.toList.length),s.data.toList[k]=47 from fun h=>Decidable.not_not.1 (fun h2=>hc ⟨by rw[←kC.o];exact h,h2⟩));have HK:=Um (show k≤s.data.toList.length by rw[kC.o];exact hk);obtain⟨p,hp⟩:∃p,s.extract fr k=p:=⟨_,rfl⟩;have HPe:=Um (show p=str (ko s.data.toList fr k) by rw[←hp,Mq]);have hpl:p.toList=ko s.data.toList fr k:=by rw[HPe.o,aC,aH]
    have ky:=Um hpl;clear hpl;have htest:((k:Int)<(s.size:Int)→∀h:k<s.size,((s[k].toNat:Int) != 47)=false):=fun _ h=>by
     have:=HX.o (by rw[kC.o];exact h);have h2:s[k]=47:=this;rw[h2];rfl
    by_cases he:ko s.data.toList fr k=[]
    ·have HN:=Um (Aw HP.o HK.o HX.o (.inl he));have mC:p.toList=[]:=by rw[ky.o];exact he
     clear he;by_cases hkl:k<s.size
     ·have eS:=htest (by omega) hkl;clear htest;gi_wp2;go_roundw
      case rel=>exact⟨pre,k+1,k+1,by go_num,by go_num,HN.o,Lu.o,sB.o⟩
      case measure=>simp[intOf];omega
     ·obtain rfl:k=s.size:=by omega
      clear htest;gi_wp2;go_roundw
      case rel=>exact⟨pre,_,_,by go_num,by go_num,HN.o,Lu.o,sB.o⟩
      case measure=>simp[intOf]
    ·by_cases hd:ko s.data.toList fr k=[46]
     ·have HN:=Um (Aw HP.o HK.o HX.o (.inr hd));have mC:p.toList=[46]:=by rw[ky.o];exact hd
      clear he hd;by_cases hkl:k<s.size
      ·have eS:=htest (by omega) hkl;clear htest;gi_wp2;go_roundw
       case rel=>exact⟨pre,k+1,k+1,by go_num,by go_num,HN.o,Lu.o,sB.o⟩
       case measure=>simp[intOf];omega
      ·obtain rfl:k=s.size:=by omega
       clear htest;gi_wp2;go_roundw
       case rel=>exact⟨pre,_,_,by go_num,by go_num,HN.o,Lu.o,sB.o⟩
       case measure=>simp[intOf]
     ·have hN:=Jd HP.o HK.o HX.o (by rintro(h|h);exact he h;exact hd h);have HN:=Um hN.1;have HV:=Um hN.2;have mC:p.toList.isEmpty=false:=by rw[ky.o];simpa using he
      have Pn:(p.toList==[46])=false:=by rw[ky.o];simpa using hd
      clear he hd hN;by_cases hkl:k<s.size
      ·have eS:=htest (by omega) hkl;clear htest;obtain⟨fn,tmps,assign,body,hy,hR⟩:=HY.o pre _ wr Lu.o HV.o;have A5:(Instr.yield L #[.string p]).run Tryz.prog wr=.ok (.round L fn tmps assign body) wr:=by rw[HPe.o];exact hy
       have HR:=Um hR;clear hy hR;gi_wp2;refine HR.o.mono ?_;rintro e W3 (⟨rfl,LP,mD⟩|⟨rfl,yG⟩)
       ·have TY:=Um LP;have ez:=Um (show au W3 Bs #[.string s] 9 from(mD.2 Bs rfl).trans sB.o);clear LP mD A5;gi_wp2;go_roundw
        case rel=>exact⟨_,k+1,k+1,by go_num,by go_num,HN.o,TY.o,ez.o⟩
        case measure=>simp[intOf];omega
       ·have HJx:=Um yG;clear yG A5;gi_wp2;exact bp (results_none rfl _ _ _) ⟨⟨_,rfl⟩,.inr ⟨_,rJ HV.o,HJx.o⟩⟩
      ·obtain rfl:k=s.size:=by omega
       clear htest;obtain⟨fn,tmps,assign,body,hy,hR⟩:=HY.o pre _ wr Lu.o HV.o;have A5:(Instr.yield L #[.string p]).run Tryz.prog wr=.ok (.round L fn tmps assign body) wr:=by rw[HPe.o];exact hy
       have HR:=Um hR;clear hy hR;gi_wp2;refine HR.o.mono ?_;rintro e W3 (⟨rfl,LP,mD⟩|⟨rfl,yG⟩)
       ·have TY:=Um LP;have ez:=Um (show au W3 Bs #[.string s] 9 from(mD.2 Bs rfl).trans sB.o);clear LP mD A5;gi_wp2;go_roundw
        case rel=>exact⟨_,_,_,by go_num,by go_num,HN.o,TY.o,ez.o⟩
        case measure=>simp[intOf]
       ·have HJx:=Um yG;clear yG A5;gi_wp2;exact bp (results_none rfl _ _ _) ⟨⟨_,rfl⟩,.inr ⟨_,rJ HV.o,HJx.o⟩⟩
  ·have HE:=Um (ME HP.o (by rw[kC.o];omega));have hk':¬(k:Int)≤(s.size:Int):=by omega
   gi_wp2
   go_end0
   exact⟨⟨_,rfl⟩,.inl (by rw[HE.o];exact Lu.o)⟩
end
section
open Go
def kY(ops:Array Oper):Bool:=ops.all fun o=>match o.op with | .defer _=>false|_=>true
theorem pH{ops:Array Oper}(h:kY ops=true){i:Nat}{o:Oper}(hi:ops[i]?=some o):∀c,o.op≠.defer c:=by
 intro c hc;unfold kY at h;rw[Array.all_eq_true] at h;obtain⟨hlt,rfl⟩:=Array.getElem?_eq_some_iff.1 hi;have:=h i hlt;rw[hc] at this
 cases this
section
variable{P:Program}{ops:Array Oper}{md:Region.Mode}{w:World}{l:Nat}{n:Nat}
theorem vu{o:Oper}(hd:∀c,o.op≠.defer c){a:Act}{K:Act→Prop}{K':Act→World→Prop}{Q':Exit→Act→World→Prop}(h:∀a,K a→K' a w)(hh:o.still P a w K) :
  o.wpIn (Fence.wide.inRound l) n P a w K' Q':=by
 unfold Oper.still at hh;unfold Oper.wpIn;refine⟨fun _ _=>trivial,?_⟩;rw[Fence.inRound_round,Oper.semAt_some l _ o hd];generalize (execOp a.eval o).run P w=r at *
 cases r with
 |ok m w'=>
  cases m<;>simp only[Oper.stillUpon] at hh<;>simp only[Oper.uponIn]
  case enter f args=>
   obtain⟨rfl,v,hc,hn⟩:=hh;refine⟨fun h=>by simp[Fence.wide] at h,?_⟩;refine CallsIn.inRound l ?_;exact callsIn_wide.2 (hc.mono fun e w'' ⟨he,hw⟩=>by subst he;subst hw;exact h _ hn)
  all_goals (obtain⟨rfl,h2⟩:=hh;exact h _ h2)
 |halt x w'=>simp only[Oper.stillUpon] at hh
theorem sS(hd:kY ops=true){i:Nat}{a:Act}{K:Act→Prop}{K':Act→World→Prop}{Q':Exit→Act→World→Prop}(h:∀a,K a→K' a w)(hh:stOp P ops w i K a) :
  wpOpIn (Fence.wide.inRound l) n P ops Q' i K' a w:=by
 unfold stOp at hh;unfold wpOpIn
 split
 ·rename_i ho;simp only[ho] at hh;exact h _ hh
 ·rename_i o ho;simp only[ho] at hh
  split
  ·rename_i hw;simp only[hw,if_true] at hh;exact vu (pH hd ho) h hh
  ·rename_i hw;simp only[hw] at hh;exact⟨fun _ _=>trivial,h _ hh⟩
theorem lH(hd:kY ops=true){k g:Nat}{L:Array Bool→Act→Prop}{Q':Exit→Act→World→Prop}(hL:∀listed a,L listed a→wpAnyIn (Fence.wide.inRound l) n P md ops Q' g listed a w) :
  ∀(f:Nat) (listed:Array Bool) (a:Act),wpAnyL P md ops w k L f listed a→wpAnyIn (Fence.wide.inRound l) n P md ops Q' (f+g) listed a w
 |0,listed,a,h=>by rw[Nat.zero_add];exact hL _ _ h
 |f+1,listed,a,h=>by
  rw[show f+1+g=(f+g)+1 by omega];exact⟨fun h0=>absurd h0 h.1,fun i hi=>sS hd (fun a' h'=>lH hd hL f _ a' h') (h.2 i hi).2⟩
theorem l9{F:Fence}{Q':Exit→Act→World→Prop}:∀(l:List Oper) (k:Nat) (listed:Array Bool) (a:Act) (w:World),(∀j,l[j]?=ops[k+j]?)→
  Region.seqB md ops l.length k listed=true→wpListIn F n P ops Q' l a w→wpAnyIn F n P md ops Q' l.length listed a w
 | [],_,_,_,_,_,hB,h=>⟨by simpa [Region.seqB] using hB,h⟩
 |o::l,k,listed,a,w,hl,hB,h=>by
  have h0:ops[k]?=some o:=by simpa using (hl 0).symm
  simp only[List.length_cons,Region.seqB,Bool.and_eq_true,decide_eq_true_eq] at hB;refine⟨fun h1=>(by rw[hB.1] at h1;cases h1),fun i hi=>?_⟩;rw[hB.1] at hi;have hik:i=k:=by simpa using hi
  subst hik;have hw:wpOpIn F n P ops Q' i (wpListIn F n P ops Q' l) a w:=by unfold wpOpIn;simp only[h0];exact h
  exact wpOpIn_mono (fun a' w' h'=>l9 l (i+1) _ a' w' (fun j=>by have:=hl (j+1);simpa [Nat.add_assoc,Nat.add_comm 1 j] using this) hB.2 h') hw
theorem kE{id:Nat}{Q:Exit→Act→World→Prop}{a:Act}{w:World}{L:List Oper}(k:Nat)(hm:P.follows .mixedOrders=true)(hd:kY L.toArray=true)(hB:Region.lexTailB .any L.toArray k=true)
  (h:wpStill P L.toArray w.drew (fun a'=>wpListIn (Fence.wide.inRound l) n P L.toArray Q (L.drop k) a' w.drew) (L.take k) a):(Code.region id L.toArray true).wpIn (Fence.wide.inRound l) n P Q a w:=by
 simp only[Region.lexTailB,Bool.and_eq_true,decide_eq_true_eq] at hB;obtain⟨⟨⟨⟨hsel,hn⟩,hs⟩,hc⟩,hlex⟩:=hB;have hn':k<L.length:=by simpa using hn
 have htl:(L.take k).length=k:=by simp;omega
 have hdl:(L.drop k).length=L.toArray.size-k:=by simp
 have inv0:HeadInv .any L.toArray k (Array.replicate L.toArray.size false):=
  ⟨by simp,fun j oj _ hl=>(by rw[getD_replicate_false] at hl;cases hl),fun t _ ht=>getD_in (by simpa using ht) (getD_replicate_false _ _)⟩
 have H:=wpAnyL_lex (md:=.any) (g:=L.toArray.size-k) hsel hs hc hn (L.take k) 0 _ a (fun j hj=>by
  have hj':j<k:=by rw[htl] at hj;exact hj
  simp[hj']) (by simpa using htl) inv0 (by rw[htl];exact hlex) h
 refine wpIn_region_any hm ?_;have:=lH (l:=l) (n:=n) hd (Q':=Q) (g:=L.toArray.size-k) (fun listed a' hL=>by
  have:=l9 (F:=Fence.wide.inRound l) (n:=n) (md:=.any) (Q':=Q) (L.drop k) k listed a' w.drew (fun j=>by simp[List.getElem?_drop]) (by rw[hdl];exact hL.1) hL.2
  rwa [hdl] at this) _ _ _ H
 rw[htl,show k+(L.toArray.size-k)=L.toArray.size by omega] at this;exact this
end
end
section
open Go.RowKit Go.Shelf
attribute [local go_sem] Oper.semAt_some
theorem Di{S:Nat→Prop}{w W:World}(h:Mod S w W)(hS:∀k,S k→∃cur T fz,w.heap[k]?=some (.cells cur T fz)):KeepsOthers w W:=
 ⟨h.size,fun k o hk ho=>(h.block k (Array.getElem?_eq_some_iff.1 hk).1 (fun hs=>by obtain⟨cur,T,fz,hc⟩:=hS k hs;rw[hc] at hk;injection hk with hk;subst hk;cases ho)).trans hk⟩
theorem OS.nil(w:World)(base:Nat):OS w base (.slice none 0 0) []:=⟨rfl,.inl ⟨rfl,rfl⟩⟩
theorem OS.eB{w w':World}{base:Nat}{v:Value}{ls:List (List UInt8)}(h:OS w base v ls)(ht:∀k cur,base≤k→w.heap[k]?=some (.cells cur 9 (0,0))→w'.heap[k]?=some (.cells cur 9 (0,0))):OS w' base v ls:=
 ⟨h.1,h.2.imp id fun⟨g,cap,cur,hv,hb,hg,rest⟩=>⟨g,cap,cur,hv,hb,ht _ _ hb hg,rest⟩⟩
theorem OS.low{w:World}{base base':Nat}{v:Value}{ls:List (List UInt8)}(h:OS w base v ls)(hb:base'≤base):OS w base' v ls:=
 ⟨h.1,h.2.imp id fun⟨g,cap,cur,hv,hg,rest⟩=>⟨g,cap,cur,hv,ae hb hg,rest⟩⟩
theorem OS.appK{w:World}{base:Nat}{v:Value}{ls:List (List UInt8)}(h:OS w base v ls)(l:List UInt8)(hl:ls.length≤1000000)(hb:base≤w.heap.size) :
  ∃g cap W,(Builtin.append_ #[154,154] 154 #[v,.slice (some ⟨w.heap.size,0,none⟩) 1 1]).run Tryz.prog (w.alloc (.cells #[.string (str l)] 9))=.ok (.slice (some ⟨g,0,none⟩) (ls.length+1) cap) W∧
   OS W base (.slice (some ⟨g,0,none⟩) (ls.length+1) cap) (ls++[l])∧Below base w W∧KeepsOthers w W∧(v.ownBlock=some g∨w.heap.size≤g):=by
 obtain⟨i0,hi,iU,gx,fT⟩:=info_parts s7;have ho:=World.ownsRow.alloc h (.cells #[.string (str l)] 9);obtain⟨g,cap,W,h1,h2,h3,h4⟩:=cX 154 Tryz.underlying154 hi iU gx fT rfl (by omega) ho ⟨w.heap.size,0,none⟩ 1 1 [.string (str l)] rfl (World.news_of_block (au.new w #[.string (str l)] 9)) (by intro u hu;simp at hu;subst hu;rfl) (by omega) (by unfold maxLen;omega) (by omega) (by simp;omega);refine⟨g,cap,W,h1,?_,?_,(KeepsOthers.alloc _ _).trans (Di h3 (fun k hk=>by obtain⟨-,cur,hc⟩:=aT ho hk;exact⟨_,_,_,hc⟩)),h4.imp id (fun h=>by rw[h];simp)⟩
 ·unfold OS;rw[List.length_append,List.length_singleton,List.flatMap_append];exact h2
 ·refine(((Below.refl base w).alloc hb _)).trans (h3.below (fun k hk=>(h.lt k hk).1) (by simp;omega))
theorem o6{F:Fence}{n:Nat}{P:Program}{ops:Array Oper}{rest:List Oper}{o:Oper}{a:Act}{w W:World}{Q:Exit→Act→World→Prop}{s x:Operand}{t:TypeId}{v y r:Value}
  (hgd:o.guard=none) (ho:o.op=.call {callee:=.builtin .append,args:=#[s,x],argTypes:=#[t,t]}) (hs:a.eval s=v) (hx:a.eval x=y)
  (hrun:(Builtin.append_ #[t,t] o.type #[v,y]).run P w=.ok r W) (h:wpListIn F n P ops Q rest (a.put o.dst r) W):wpListIn F n P ops Q (o::rest) a w:=
 wpListIn_plain hgd fun K hK=>by
  unfold Oper.wpIn;refine⟨by simp[Oper.about,ho,resolve,Target.leads,Sem.run_pure],?_⟩;rw[Oper.semAt_plain F _ _ (by rw[ho];intro c hc;cases hc)];simp[execOp,ho,resolve,invoke,builtin,hs,hx,hrun,Result.andThen];exact hK _ _ h
structure CI(T:Nat→Prop)(w:World)(B base:Nat)(pre:List (List UInt8))(W:World):Prop where
 box:∃v,au W B #[v] 154∧OS W base v pre
 mod:Mod T w W
theorem JG{T:Nat→Prop}{N:Nat}{w W W':World}(h:Mod T w W)(ht:jS T N gV W W')(hN:w.heap.size≤N):Mod T w W':=by
 refine⟨ht.os.trans h.os,ht.tape.trans h.tape,ht.output.trans h.output,ae h.size ht.size,fun k hk hs=>?_⟩;obtain⟨o,ho⟩:∃o,w.heap[k]?=some o:=⟨w.heap[k]'(by omega),Array.getElem?_eq_getElem _⟩;rw[ht.block k o ((h.block k hk hs).trans ho) hs (fun h=>by omega),ho]
theorem DV{g:Nat}{lb:Array Value}(eg:∀args w,(callFunc g args).run Tryz.prog w=.ok (.enter g args) w){T:Nat→Prop}{S Sp:List (List UInt8)→Prop}{V:List (List UInt8)→List UInt8→Prop}(w:World)
  (hseq:Lb T Fence.wide 4 Tryz.prog g lb (fun x:List UInt8=>#[.string (str x)]) S Sp V w) (hT:∀k,T k→k<w.heap.size) (hV:∀pre x,V pre x→pre.length≤1000000) :
  Calls Tryz.prog 219 #[.slice none 0 0,.func (.func g) #[] lb] w fun e w'=>(∃v ss,e=.returned v∧S ss∧OS w' w.heap.size v ss)∧Mod T w w':=by
 refine(callsIn_wide (n:=5)).1 ?_;refine callsIn_of_wp_marks Tryz.func219 rfl trivial ?_ rfl;simp only[Tryz.ntmps219,List.size_toArray,List.length_cons,List.length_nil,Nat.reduceAdd,Nat.reduceSub,Array.replicate_succ,Array.replicate_zero,List.push_toArray,List.append_toArray,List.nil_append,List.cons_append];obtain⟨q0,pR⟩:=Uo w #[.slice none 0 0] 154;have hz:(w.alloc (.cells #[.slice none 0 0] 154)).heap.size=w.heap.size+1:=by simp
 have HSq:=Um hseq;clear hseq;gi_wp2;generalize w.alloc _=W1 at q0 pR hz⊢;refine' rA (T:=T) rfl (by omega) (gf:=g) (lb:=lb) rfl trivial eg HSq.o (fun k hk=>by have:=hT k hk;omega) (KT.aq pR hT) (fun _=>rfl)
  (fun pre W=>CI T w w.heap.size W1.heap.size pre W)
  (fun _ _ _=>False)
  (fun pre A B h ht=>?own) (fun c pre A B h ht=>h) ⟨⟨_,q0,OS.nil _ _⟩,Mod.aq pR⟩ _ ?assign ?body ?done (fun D c pre W _ _ h _=>h.elim)
 case own=>
  obtain⟨⟨v,h1,h2⟩,h3⟩:=h;exact⟨⟨v,ht.block _ _ h1 (fun e=>by have:=hT _ e;omega) (fun _=>rfl),h2.eB (fun k cur hk hc=>ht.block _ _ hc (fun e=>by have:=hT _ e;omega) (fun _=>rfl))⟩,JG h3 ht (by omega)⟩
 case assign=>
  intro L x W K hK;gi_wp2;exact hK
 case body=>
  rintro L pre x W hL hLW ⟨⟨v,b1,hO⟩,hM⟩ hv;obtain⟨a,c,rfl,-,-,-⟩:=bw hO;obtain⟨g2,cap2,W2,hrun,iW,eM,QX,vB⟩:=hO.appK x (hV _ _ hv) (show W1.heap.size≤W.heap.size by omega);have hlp:=hO.1;have HR:=Um hrun;have k1:=b1.gI eM (show w.heap.size<W1.heap.size by omega);obtain⟨c1,f1,z1⟩:=b1.facts;obtain⟨d1,e1,y1⟩:=k1.facts;have K1:=Um k1;have HX:=Um (ag iW (ag eM (ag QX (ag hM vB))));clear hrun iW eM k1 b1 QX hM hO vB hlp
  gi_wp2_with (gi_at_builtin;refine o6 rfl rfl rfl rfl HR.o ?_)
  obtain⟨iW,eM,QX,hM,vB⟩:=HX.o;have hm:=(Mod.refl (fun k=>k=w.heap.size) W2).setCell (a:=⟨w.heap.size,0,none⟩) (.inl rfl) (.slice (some ⟨g2,0,none⟩) (pre.length+1) cap2);refine⟨(QX.trans (KeepsOthers.setCell _ _ _)).from _,⟨ae eM.size hm.size,fun k hk=>?_⟩,⟨⟨_,K1.out.set 0 _,iW.eB (fun k cur hk hc=>(hm.block k (Array.getElem?_eq_some_iff.1 hc).1 (by omega)).trans hc)⟩,?_⟩⟩
  ·have:=hT k hk;rw[hm.block k (by have:=eM.size;omega) (by omega)];exact eM.block k (by omega)
  ·refine⟨hm.os.trans (eM.os.trans hM.os),hm.tape.trans (eM.tape.trans hM.tape),hm.output.trans (eM.output.trans hM.output),ae hM.size (ae eM.size hm.size),fun k hk hs=>?_⟩;rw[hm.block k (by have:=eM.size;have:=hM.size;omega) (by omega),eM.block k (by omega)];exact hM.block k hk hs
 case done=>
  rintro D xs W hD hS ⟨⟨v,b1,hO⟩,hM⟩ hK;obtain⟨a,c,rfl,-,-,-⟩:=bw hO;obtain⟨c1,f1,z1⟩:=b1.facts;have HO:=Um (ag hO hM);clear hO hM b1;gi_wp2;show LeavesInM Fence.wide 5 Tryz.prog Tryz.f219 _ _ _ _ W;refine⟨by simp,.inl ⟨_,_,rfl,run_takeDeferred hK,?_⟩⟩;refine⟨.slice a xs.length c,by simp[results,Tryz.results219,go_sem],⟨_,_,rfl,hS,(HO.o.1.low (show w.heap.size≤W1.heap.size by omega)).eB (fun k cur hk hc=>(World.putObj_heap_other (fun e=>by subst e;rw[hK] at hc;cases hc)).trans hc)⟩,?_⟩;have hm:=HO.o.2;exact⟨hm.os,hm.tape,hm.output,ae hm.size (by simp),fun k hk hs=>(World.putObj_heap_other (fun e=>by omega)).trans (hm.block k hk hs)⟩
theorem BL{g:Nat}{lb:Array Value}(eg:∀args w,(callFunc g args).run Tryz.prog w=.ok (.enter g args) w){T:Nat→Prop}{S Sp:List (List UInt8)→Prop}{V:List (List UInt8)→List UInt8→Prop}(w:World)
  (hseq:Lb T Fence.wide 4 Tryz.prog g lb (fun x:List UInt8=>#[.string (str x)]) S Sp V w) (hT:∀k,T k→k<w.heap.size) (hV:∀pre x,V pre x→pre.length≤1000000) :
  Calls Tryz.prog 171 #[.func (.func g) #[] lb] w fun e w'=>(∃v ss,e=.returned v∧S ss∧OS w' w.heap.size v ss)∧Mod T w w':=by
 have HA:=Um (DV eg w hseq hT hV);clear hseq hT hV eg;go_enter Tryz.func171,Tryz.ntmps171;go_wp2_with fail;refine HA.o.mono ?_;rintro e w1 ⟨⟨v,ss,rfl,hS,hO⟩,hM⟩;have HX:=Um (ag hS (ag hO hM));clear hS hO hM;go_wp2_with fail;go_ret;exact⟨⟨v,ss,rfl,HX.o.1,HX.o.2.1⟩,HX.o.2.2⟩
theorem tR(s:ByteArray)(w:World) :
  Calls Tryz.prog 172 #[.string s] w fun e w'=>e=.returned (.func (.func 220) #[] #[.pointer (some ⟨w.heap.size,0,none⟩)])∧w'=w.alloc (.cells #[.string s] 9):=by
 go_enter Tryz.func172,Tryz.ntmps172;go_wp2_with fail;go_ret;exact⟨rfl,rfl⟩
theorem pC(s:ByteArray)(hs:s.size≤100000)(w:World) :
  Calls Tryz.prog 171 #[.func (.func 220) #[] #[.pointer (some ⟨w.heap.size,0,none⟩)]] (w.alloc (.cells #[.string s] 9)) fun e w'=>(∃v,e=.returned v∧OS w' w.heap.size v (bE s.data.toList))∧Up w w':=by
 have hz:(w.alloc (.cells #[.string s] 9)).heap.size=w.heap.size+1:=by simp
 refine(BL (enters_of Tryz.func220 (by kernel_rfl) rfl) (w.alloc (.cells #[.string s] 9)) (Az 4 (by omega) w.heap.size s hs _ (au.new w #[.string s] 9)) (fun k hk=>by omega) (fun pre x h=>?_)).mono ?_
 ·have h1:=h.length_le;have h2:=jr s.data.toList;have h3:s.data.toList.length=s.size:=Array.length_toList;rw[List.length_append,List.length_singleton] at h1;omega
 ·rintro e w1 ⟨⟨v,ss,rfl,rfl,hO⟩,hM⟩;exact⟨⟨v,rfl,hO.low (by omega)⟩,(al (Uq w) _).trans (hM.below (fun k hk=>by omega) (by omega))⟩
end
section
open Go.RowKit
section
variable{w w':World}{pw:Nat}{R:Rp}{S:Fs}
theorem uR{P:Program}{fn:Func}{R:Ending→World→Prop}:∀c d v a w,bodyPost P fn R (.panic c) (Act.put a d v) w→bodyPost P fn R (.panic c) a w:=
 fun c d v a w h=>by
  have h':(Act.put a d v).defers=[]∧R (.panicked c) w:=h;exact show a.defers=[]∧R (.panicked c) w from⟨by rw[←h'.1];cases d<;>rfl,h'.2⟩
theorem vP(h:bh w pw R S)(dir now:Int)(d:An)(hg:S.get dir=some d)(l:List En)(a:Option Addr)(n c:Nat)(hl:aA w a n c l) :
  Calls Tryz.prog 178 #[.pointer (some ⟨pw,0,none⟩),.int .i64 dir,.int .i64 now,.slice a n c] w fun e w'=>e=.returned (.tuple #[])∧∃R',bh w' pw R' (S.dk now dir l)∧aL (R.F pw) (R'.F pw) w w':=by
 obtain⟨ea,el,ec,he,hG⟩:=eA h hg;have HG:=Um (hG w (Below.refl _ _));unfold An.v at HG;have HT:=Um (show S.dk now dir l=S.set {d with aB:=l,mtime:=now,ctime:=now} by unfold Fs.dk;rw[hg]);have hno:=dx hg;have dW:=Um (fun w1 (ar:Up w w1)=>(h.ak ar).zY {d with aB:=l,mtime:=now,ctime:=now} (hl.ak ar) (b:=d) (by rw[show({d with aB:=l,mtime:=now,ctime:=now}:An).no=d.no from rfl,hno];exact hg));unfold An.v at dW;obtain⟨pc,-,pz⟩:=h.bd.facts;have mixed:Tryz.prog.follows .mixedOrders=true:=by kernel_rfl
 clear h hg he hG hno hl;go_enter Tryz.func178,Tryz.ntmps178;go_wp2_with fail;refine HG.o.mono ?_;rintro e w1 ⟨rfl,ar⟩;have pc0:(w1.alloc (.cells #[.int .i64 d.no,.int .i64 d.dev,.int .i64 d.kind,.int .i64 d.mode,.int .i64 d.uid,.int .i64 d.gid,.int .i64 now,.int .i64 now,.int .i64 d.an,.int .i64 d.up,.string d.data,.slice a n c] 99)).cell? ⟨pw,0,none⟩=_:=((al ar (.cells #[.int .i64 d.no,.int .i64 d.dev,.int .i64 d.kind,.int .i64 d.mode,.int .i64 d.uid,.int .i64 d.gid,.int .i64 now,.int .i64 now,.int .i64 d.an,.int .i64 d.up,.string d.data,.slice a n c] 99)).cell (p:=⟨pw,0,none⟩) pz).trans (pc 0);have hB:=au.new w1 #[.int .i64 d.no,.int .i64 d.dev,.int .i64 d.kind,.int .i64 d.mode,.int .i64 d.uid,.int .i64 d.gid,.int .i64 now,.int .i64 now,.int .i64 d.an,.int .i64 d.up,.string d.data,.slice a n c] 99;have ax:=al ar (.cells #[.int .i64 d.no,.int .i64 d.dev,.int .i64 d.kind,.int .i64 d.mode,.int .i64 d.uid,.int .i64 d.gid,.int .i64 now,.int .i64 now,.int .i64 d.an,.int .i64 d.up,.string d.data,.slice a n c] 99);clear pc ar;go_wp2_with fail;generalize w1.alloc _=X at pc0 hB ax⊢;obtain⟨bc,-,bz⟩:=hB.facts;have HS:=Um (dW.o _ ax.drew);have HX:=Um ax;clear hB ax;refine ay 5 mixed (by kernel_rfl) uR ?_;simp only[List.take_succ_cons,List.take_zero,List.drop_succ_cons,List.drop_zero]
 repeat still_step
 refine wpStill_nil ?_;go_wp2_with fail;refine HS.o.mono ?_;rintro e w5 ⟨rfl,R',ev,fo,-,-⟩;have HR:=Um (ag ev fo);clear ev fo;go_wp2_with fail
 go_end0
 rw[HT.o];exact⟨rfl,R',HR.o.1,(aL.aq HX.o.drew).trans HR.o.2⟩
end
end
section
open Go.RowKit
def rb(a b:ByteArray):Int:=if ie a b=true then -1 else if ie b a=true then 1 else 0
theorem NM(a b:ByteArray):(rb a b<0)=(ie a b=true):=by
 unfold rb
 cases h:ie a b
 ·simp;split<;>omega
 ·simp
theorem ES(a b:ByteArray):(rb a b=0)=(a=b):=by
 unfold rb
 cases h:ie a b
 ·cases k:ie b a
  ·simp[ny h k]
  ·simp[(Df k).symm]
 ·simp[Df h]
theorem BK(a b:ByteArray)(w:World) :
  Calls Tryz.prog 230 #[.string a,.string b] w fun e w'=>e=.returned (.int .i64 (rb a b))∧w=w':=by
 unfold rb
 cases h:ie a b
 ·cases k:ie b a
  ·obtain rfl:a=b:=ny h k;rw[←ua] at h;clear k;go_enter Tryz.func230,Tryz.ntmps230
   go_wp2
   go_ret;exact⟨rfl,rfl⟩
  ·have hne:¬a.toList=b.toList:=fun e=>by
    rw[ByteArray.toList_eq,ByteArray.toList_eq] at e;rw[p' e,iC] at k
    cases k
   have hq:(a.toList==b.toList)=false:=by simpa using hne
   rw[←ua] at h;clear k;go_enter Tryz.func230,Tryz.ntmps230
   go_wp2
   go_ret;exact⟨rfl,rfl⟩
 ·rw[←ua] at h;go_enter Tryz.func230,Tryz.ntmps230
  go_wp2
  go_ret;exact⟨rfl,rfl⟩
theorem yT(x:En)(n:ByteArray)(w:World) :
  Calls Tryz.prog 193 #[.agg #[.string x.name,.int .i64 x.no],.string n] w fun e w'=>e=.returned (.int .i64 (rb x.name n))∧Up w w':=by
 go_enter Tryz.func193,Tryz.ntmps193;go_wp2_with (go_at_call 230;refine(BK _ _ _).mono ?_;rintro e w1 ⟨rfl,rfl⟩);go_ret;exact⟨rfl,by go_grown⟩
end
end Go.Proofs.YtinflmadpnigfaaGreatDoor
