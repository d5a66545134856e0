import Derived.Shelf.Abstract
import Derived.Shelf.RegionOpen
import Derived.OwnWalkIn
import Derived.TacticsInMore
import Derived.LoopNIn
import Derived.LoopIn
import Derived.StillTail
import Derived.StillTactics
import Derived.RangeFuncNested
import Derived.WalkKit
import Derived.Deep.LoopGhost
import Derived.Test.YtabbjaomlmnnhaaGreatCS4
import Derived.Test.YtabbjaomlmnnhaaGreatCS2
import Derived.Test.YtabbjaomlmnnhaaGreatCS5
import Derived.Test.YtabbjaomlmnnhaaGreatCS3
import Derived.Test.YtabbjaomlmnnhaaGreatCS1
set_option linter.unusedVariables false
set_option linter.unusedSimpArgs false
set_option maxRecDepth 100000
set_option maxHeartbeats 16000000
namespace Go.Proofs.YtabbjaomlmnnhaaGreat
section
open Go.RowKit
theorem E4(cu cg uid gid mode want:Int)(w:World) :
  Calls Tryz.prog 146 #[.agg #[.int .i64 cu,.int .i64 cg],.int .i64 uid,.int .i64 gid,.int .i64 mode,.int .i64 want] w fun e w'=>e=.returned (.bool (tB cu cg uid gid mode want))∧Qi w w':=by
 unfold tB;by_cases h0:cu=0
 ·subst h0;rw[if_pos rfl];go_enter Tryz.func146,Tryz.ntmps146
  go_wp2
  go_ret;exact⟨rfl,by go_grown⟩
 ·rw[if_neg h0];have q0:(cu==0)=false:=by simpa using h0
  by_cases h1:cu=uid
  ·subst h1;rw[if_pos rfl];go_enter Tryz.func146,Tryz.ntmps146
   go_wp2
   go_ret;exact⟨rfl,by go_grown⟩
  ·rw[if_neg h1];have q1:(cu==uid)=false:=by simpa using h1
   by_cases h2:cg=gid
   ·subst h2;rw[if_pos rfl];clear h0 h1;go_enter Tryz.func146,Tryz.ntmps146
    go_wp2
    go_ret;exact⟨rfl,by go_grown⟩
   ·rw[if_neg h2];have q2:(cg==gid)=false:=by simpa using h2
    clear h0 h1 h2;go_enter Tryz.func146,Tryz.ntmps146
    go_wp2
    go_ret;exact⟨rfl,by go_grown⟩
def Cr.v(c:Cr):Value:=.agg #[.int .i64 c.u,.int .i64 c.g]
theorem lz(c:Cr)(a:An)(ea:Option Addr)(el ec:Nat)(want:Int)(w:World) :
  Calls Tryz.prog 104 #[c.v,a.v ea el ec,.int .i64 want] w fun e w'=>e=.returned (.bool (a.may c want))∧Qi w w':=by
 unfold Cr.v An.v An.may;go_enter Tryz.func104,Tryz.ntmps104;go_wp2_with fail;refine(E4 _ _ _ _ _ _ _).mono ?_;rintro e w1 ⟨rfl,av⟩;go_wp2_with fail;go_ret;exact⟨rfl,au (aq (aq (Below.refl _ _) _) _) av⟩
theorem og(c:Cr)(a:An)(ea:Option Addr)(el ec:Nat)(w:World) :
  Calls Tryz.prog 165 #[c.v,a.v ea el ec] w fun e w'=>e=.returned (.bool (fV c a))∧Qi w w':=by
 unfold Cr.v An.v fV;go_enter Tryz.func165,Tryz.ntmps165
 go_wp2
 all_goals (go_ret;exact⟨by first|rfl|simp[*],aq (aq (Below.refl _ _) _) _⟩)
theorem CX(u g:Int)(w:World) :
  Calls Tryz.prog 128 #[.agg #[.int .i64 u,.int .i64 g]] w fun e w'=>e=.returned (.bool (GV u g))∧Qi w w':=by
 unfold GV;go_enter Tryz.func128,Tryz.ntmps128
 go_wp2
 all_goals (go_ret;exact⟨by simp[*];try omega,by go_grown⟩)
end
section
open Go.RowKit
theorem tD{s:ByteArray}(h:s.size=0):ej s=5:=by
 unfold ej;rw[if_pos (List.eq_nil_of_length_eq_zero (by rw[Array.length_toList];exact h))]
theorem qU{s:ByteArray}(h:0<s.size)(h2:s[0]≠47):ej s=1:=by
 have hd:s.data.toList.head?=some s[0]:=by
  have hl:0<s.data.toList.length:=by simpa using h
  rw[List.head?_eq_getElem?,List.getElem?_eq_getElem hl];rfl
 unfold ej;rw[if_neg (by intro e;rw[e] at hd;cases hd),if_pos (.inl (by rw[hd];intro e;exact h2 (Option.some.inj e)))]
theorem qT{s:ByteArray}(h:0<s.size)(h2:s[0]=47):ej s=if hasB s 0=true then 1 else if 4096<s.size then 13 else 0:=by
 have hd:s.data.toList.head?=some s[0]:=by
  have hl:0<s.data.toList.length:=by simpa using h
  rw[List.head?_eq_getElem?,List.getElem?_eq_getElem hl];rfl
 unfold ej hasB;rw[if_neg (by intro e;rw[e] at hd;cases hd),hd,h2];simp
theorem kj(s:ByteArray)(w:World) :
  Calls Tryz.prog 119 #[.string s,.string (ByteArray.mk #[0])] w fun e w'=>e=.returned (.bool (hasB s 0))∧w=w':=by
 refine(Tryz.strings_Contains_one s 0 w).mono ?_;rintro e w' ⟨rfl,rfl⟩;refine⟨dk ?_,rfl⟩;unfold hasB;rw[decide_eq_decide];exact pT 0 _
theorem C5(s:ByteArray)(w:World)(hs:s.size≤2000000) :
  Calls Tryz.prog 159 #[.string s] w fun e w'=>e=.returned (.int .i64 (ej s))∧w=w':=by
 rcases Nat.eq_zero_or_pos s.size with h0|hpos
 ·have HE:=Qf (tD h0);have hn:s.toList=[]:=by rw[bG];exact List.eq_nil_of_length_eq_zero (by rw[Array.length_toList];exact h0)
  clear h0;go_enter Tryz.func159,Tryz.ntmps159;go_wp2_with fail;go_ret;exact⟨by rw[HE.o];rfl,rfl⟩
 ·have hn:¬s.toList=[]:=by
   rw[bG];intro e;have:s.data.toList.length=s.size:=Array.length_toList;rw[e] at this;simp at this;omega
  have ox:s.toList.isEmpty=false:=by simpa using hn
  by_cases oB:s[0]=47
  ·have hr:=Qf (qT hpos oB);have iS:((s[0].toNat:Int)==47)=true:=by rw[oB];rfl
   have eT:((s[0].toNat:Int) != 47)=false:=by rw[bne,iS];rfl
   clear oB;have hc:=Qf (kj s);generalize hasB s 0=b at hr hc
   cases b
   ·by_cases hlen:4096<s.size
    ·have hE:=Qf (show ej s=13 by rw[hr.out];simp[hlen]);go_enter Tryz.func159,Tryz.ntmps159;go_wp2_with (go_at_call 119;refine(hc.out _).mono ?_;rintro e w1 ⟨rfl,rfl⟩);go_ret;exact⟨by rw[hE.out];rfl,rfl⟩
    ·have hE:=Qf (show ej s=0 by rw[hr.out];simp[hlen]);go_enter Tryz.func159,Tryz.ntmps159;go_wp2_with (go_at_call 119;refine(hc.out _).mono ?_;rintro e w1 ⟨rfl,rfl⟩);go_ret;exact⟨by rw[hE.out];rfl,rfl⟩
   ·have hE:=Qf (show ej s=1 by rw[hr.out];rfl);go_enter Tryz.func159,Tryz.ntmps159;go_wp2_with (go_at_call 119;refine(hc.out _).mono ?_;rintro e w1 ⟨rfl,rfl⟩);go_ret;exact⟨by rw[hE.out];rfl,rfl⟩
  ·have hE:=Qf (qU hpos oB);have iS:((s[0].toNat:Int)==47)=false:=by
    simp only[beq_eq_false_iff_ne,ne_eq];intro h;exact oB (by rw[lV];show s[0].toNat=47;omega)
   have eT:((s[0].toNat:Int) != 47)=true:=by rw[bne,iS];rfl
   clear oB;go_enter Tryz.func159,Tryz.ntmps159;go_wp2_with fail;go_ret;exact⟨by rw[hE.out];rfl,rfl⟩
end
section
open Go.RowKit
theorem rU(s:ByteArray)(w:World) :
  Calls Tryz.prog 119 #[.string s,.string (ByteArray.mk #[47])] w fun e w'=>e=.returned (.bool (hasB s 47))∧w=w':=by
 refine(Tryz.strings_Contains_one s 47 w).mono ?_;rintro e w' ⟨rfl,rfl⟩;refine⟨dk ?_,rfl⟩;unfold hasB;rw[decide_eq_decide];exact pT 47 _
theorem mw(s:ByteArray)(w:World)(hs:s.size≤9223372036854775807) :
  Calls Tryz.prog 78 #[.string s] w fun e w'=>e=.returned (.int .i64 (cx s))∧w=w':=by
 have hl:s.toList=s.data.toList:=bG s;have HC:=Qf (show cx s=if s.toList=[]∨s.toList=[46]∨s.toList=[46,46]∨hasB s 47=true∨hasB s 0=true then 1 else if 255<s.size then 13 else 0 by
  unfold cx hasB;rw[hl];simp only[decide_eq_true_eq])
 have GR:=Qf (rU s);have H0:=Qf (kj s);generalize hasB s 47=b47 at HC GR;generalize hasB s 0=b0 at HC H0;clear hl;by_cases h1:s.toList=[]
 ·have HE:=Qf (HC.o.trans (if_pos (.inl h1)));go_enter Tryz.func78,Tryz.ntmps78;go_wp2_with fail;go_ret;exact⟨by rw[HE.o];rfl,rfl⟩
 ·have oC:s.toList.isEmpty=false:=by simpa using h1
  by_cases h2:s.toList=[46]
  ·have HE:=Qf (HC.o.trans (if_pos (.inr (.inl h2))));go_enter Tryz.func78,Tryz.ntmps78;go_wp2_with fail;go_ret;exact⟨by rw[HE.o];rfl,rfl⟩
  ·have kq:(s.toList==[46])=false:=by simpa using h2
   by_cases h3:s.toList=[46,46]
   ·have HE:=Qf (HC.o.trans (if_pos (.inr (.inr (.inl h3)))));go_enter Tryz.func78,Tryz.ntmps78;go_wp2_with fail;go_ret;exact⟨by rw[HE.o];rfl,rfl⟩
   ·have rH:(s.toList==[46,46])=false:=by simpa using h3
    cases b47
    ·cases b0
     ·have HE:=Qf (HC.o.trans (if_neg (by simp[h1,h2,h3])));by_cases h4:255<s.size
      ·have bH:=Qf (HE.o.trans (if_pos h4));have h4':(255:Int)<(s.size:Int):=by omega
       go_enter Tryz.func78,Tryz.ntmps78;go_wp2_with (first|(go_at_call 119;((with_reducible refine(GR.o _).mono ?_);rintro e w1 ⟨rfl,rfl⟩))|(go_at_call 119;((with_reducible refine(H0.o _).mono ?_);rintro e w1 ⟨rfl,rfl⟩)));go_ret;exact⟨by rw[bH.o];rfl,rfl⟩
      ·have bH:=Qf (HE.o.trans (if_neg h4));have h4':¬(255:Int)<(s.size:Int):=by omega
       go_enter Tryz.func78,Tryz.ntmps78;go_wp2_with (first|(go_at_call 119;((with_reducible refine(GR.o _).mono ?_);rintro e w1 ⟨rfl,rfl⟩))|(go_at_call 119;((with_reducible refine(H0.o _).mono ?_);rintro e w1 ⟨rfl,rfl⟩)));go_ret;exact⟨by rw[bH.o];rfl,rfl⟩
     ·have HE:=Qf (HC.o.trans (if_pos (by simp)));go_enter Tryz.func78,Tryz.ntmps78;go_wp2_with (first|(go_at_call 119;((with_reducible refine(GR.o _).mono ?_);rintro e w1 ⟨rfl,rfl⟩))|(go_at_call 119;((with_reducible refine(H0.o _).mono ?_);rintro e w1 ⟨rfl,rfl⟩)));go_ret;exact⟨by rw[HE.o];rfl,rfl⟩
    ·have HE:=Qf (HC.o.trans (if_pos (by simp)));go_enter Tryz.func78,Tryz.ntmps78;go_wp2_with (go_at_call 119;((with_reducible refine(GR.o _).mono ?_);rintro e w1 ⟨rfl,rfl⟩));go_ret;exact⟨by rw[HE.o];rfl,rfl⟩
end
section
open Go.RowKit
theorem aw.row{w:World}{B:Nat}{xs vs:List Value}{T:TypeId}(h:aw w B xs.toArray T)(hl:xs.length=vs.length):aw (putRow w B 0 vs) B vs.toArray T:=by
 have h1:=mr vs w 0 _ h;have h2:=kG vs xs [] hl;rw[List.append_nil,List.append_nil] at h2;rw[List.toList_toArray,h2] at h1;exact h1
theorem aw.dh{w:World}{B:Nat}{x0 x1 x2 x3 x4 x5 x6 x7 x8 x9 x10 x11 v0 v1 v2 v3 v4 v5 v6 v7 v8 v9 v10 v11:Value}{T:TypeId}(h:aw w B #[x0,x1,x2,x3,x4,x5,x6,x7,x8,x9,x10,x11] T):aw ((((((((((((w.setCell ⟨B,0,none⟩ v0).setCell ⟨B,1,none⟩ v1).setCell ⟨B,2,none⟩ v2).setCell ⟨B,3,none⟩ v3).setCell ⟨B,4,none⟩ v4).setCell ⟨B,5,none⟩ v5).setCell ⟨B,6,none⟩ v6).setCell ⟨B,7,none⟩ v7).setCell ⟨B,8,none⟩ v8).setCell ⟨B,9,none⟩ v9).setCell ⟨B,10,none⟩ v10).setCell ⟨B,11,none⟩ v11) B #[v0,v1,v2,v3,v4,v5,v6,v7,v8,v9,v10,v11] T:=
 aw.row (xs:=[x0,x1,x2,x3,x4,x5,x6,x7,x8,x9,x10,x11]) (vs:=[v0,v1,v2,v3,v4,v5,v6,v7,v8,v9,v10,v11]) h rfl
theorem oK{N:Nat}{w0:World}{B:Nat}(hB:N≤B):∀(vs:List Value) (w:World) (o:Nat),Below N w0 w→Below N w0 (putRow w B o vs)
 | [],_,_,h=>h
 |v::vs,w,o,h=>by unfold putRow;exact oK hB vs _ _ (h.setCell hB v)
theorem aT{N:Nat}{w0 w:World}{B:Nat}{v0 v1 v2 v3 v4 v5 v6 v7 v8 v9 v10 v11:Value}(h:Below N w0 w)(hB:N≤B):Below N w0 ((((((((((((w.setCell ⟨B,0,none⟩ v0).setCell ⟨B,1,none⟩ v1).setCell ⟨B,2,none⟩ v2).setCell ⟨B,3,none⟩ v3).setCell ⟨B,4,none⟩ v4).setCell ⟨B,5,none⟩ v5).setCell ⟨B,6,none⟩ v6).setCell ⟨B,7,none⟩ v7).setCell ⟨B,8,none⟩ v8).setCell ⟨B,9,none⟩ v9).setCell ⟨B,10,none⟩ v10).setCell ⟨B,11,none⟩ v11):=
 oK hB [v0,v1,v2,v3,v4,v5,v6,v7,v8,v9,v10,v11] w 0 h
theorem aw.fB{w:World}{B:Nat}{x0 x1 x2 x3 x4 x5 x6 x7 x8 x9 x10 x11:Value}{T:TypeId}(h:aw w B #[x0,x1,x2,x3,x4,x5,x6,x7,x8,x9,x10,x11] T) :
  w.cell? ⟨B,0,none⟩=some (x0)∧w.cell? ⟨B,1,none⟩=some (x1)∧w.cell? ⟨B,2,none⟩=some (x2)∧w.cell? ⟨B,3,none⟩=some (x3)∧w.cell? ⟨B,4,none⟩=some (x4)∧w.cell? ⟨B,5,none⟩=some (x5)∧w.cell? ⟨B,6,none⟩=some (x6)∧w.cell? ⟨B,7,none⟩=some (x7)∧w.cell? ⟨B,8,none⟩=some (x8)∧w.cell? ⟨B,9,none⟩=some (x9)∧w.cell? ⟨B,10,none⟩=some (x10)∧w.cell? ⟨B,11,none⟩=some (x11):=
 ⟨h.cell 0,h.cell 1,h.cell 2,h.cell 3,h.cell 4,h.cell 5,h.cell 6,h.cell 7,h.cell 8,h.cell 9,h.cell 10,h.cell 11⟩
theorem fJ{tmps:Array Value}{W:World}{B:Nat}{a:An}{ea:Option Addr}{el ec:Nat}{e:Int}(hb:aw W B #[.int .i64 a.no,.int .i64 a.dev,.int .i64 a.kind,.int .i64 a.mode,.int .i64 a.uid,.int .i64 a.gid,.int .i64 a.mtime,.int .i64 a.ctime,.int .i64 a.ao,.int .i64 a.up,.string a.data,.slice ea el ec] 149)
  (h8:tmps.getD 8 undef=.pointer (some ⟨B,0,none⟩)) (h9:tmps.getD 9 undef=.int .i64 e):(results Tryz.f107 tmps).run Tryz.prog W=.ok (.tuple #[a.v ea el ec,.int .i64 e]) W:=by
 obtain⟨q0,q1,q2,q3,q4,q5,q6,q7,q8,q9,q10,q11⟩:=hb.fB;rw[Array.getD_eq_getD_getElem?] at h8 h9;simp[results,Tryz.results107,go_sem,An.v,h8,h9,q0,q1,q2,q3,q4,q5,q6,q7,q8,q9,q10,q11]
section
variable{w w':World}{pw:Nat}{R:Rp}{S:Fs}
theorem zY(h:bm w pw R S){N:Nat}(hk:ax S N)(c:Cr)(dir:Int)(s:ByteArray)(hs:s.size≤9223372036854775807)(hg:S.get dir=none) :
  Calls Tryz.prog 107 #[.pointer (some ⟨pw,0,none⟩),.agg #[.int .i64 c.u,.int .i64 c.g],.int .i64 dir,.string s] w fun e w'=>e=.returned (.tuple #[cS.v none 0 0,.int .i64 5])∧Qi w w':=by
 have lR:=Qf (fun w1 (av:Qi w w1)=>gv (h.ak av) hk.d1);have hnz:=hk.d1;generalize S.ds.length=n at lR hnz;have hz:((n:Int)==0)=false:=by simp;omega
 have HG:=Qf (fun w1 (av:Qi w w1)=>fK (h.ak av) hg);have dM:=Qf (fun w=>mw s w hs);obtain⟨pc,-,pz⟩:=h.aZ.facts;unfold An.v cS at HG;generalize cx s=ce at dM;clear h hk hg;go_enter Tryz.func107,Tryz.ntmps107;go_wp2_with fail;refine(lR.o _ (aq (aq (Below.refl _ _) _) _)).mono ?_;rintro e w1 ⟨rfl,rfl⟩;go_wp2_with fail;refine(HG.o _ (aq (aq (Below.refl _ _) _) _)).mono ?_;rintro e w1 ⟨rfl,av⟩;have aS:=au (aq (aq (Qj w) _) _) av;have hR:aw w1 (w.heap.size+1) #[.int .i64 0,.int .i64 0,.int .i64 0,.int .i64 0,.int .i64 0,.int .i64 0,.int .i64 0,.int .i64 0,.int .i64 0,.int .i64 0,.string ⟨#[]⟩,.slice none 0 0] 149:=by
  have:=((aw.new (w.alloc (.cells #[.int .i64 c.u,.int .i64 c.g] 64)) #[.int .i64 0,.int .i64 0,.int .i64 0,.int .i64 0,.int .i64 0,.int .i64 0,.int .i64 0,.int .i64 0,.int .i64 0,.int .i64 0,.string ⟨#[]⟩,.slice none 0 0] 149).ak av)
  rwa [World.size_alloc] at this
 have eu:=hR.old (.cells #[.int .i64 0,.int .i64 0,.int .i64 0,.int .i64 0,.int .i64 0,.int .i64 0,.int .i64 0,.int .i64 0,.int .i64 0,.int .i64 0,.string ByteArray.empty,.slice none 0 0] 149);have aI:=aq aS (.cells #[.int .i64 0,.int .i64 0,.int .i64 0,.int .i64 0,.int .i64 0,.int .i64 0,.int .i64 0,.int .i64 0,.int .i64 0,.int .i64 0,.string ByteArray.empty,.slice none 0 0] 149);clear hR av aS pc;go_wp2_with fail;generalize w1.alloc _=X at eu aI⊢;refine(dM.o _).mono ?_;rintro e w2 ⟨rfl,rfl⟩;have gd:=Qf eu;have aW:=Qf aI;obtain⟨rc,rf,rz⟩:=eu.facts;clear eu aI;go_wp2_with fail;exact bodyPost_ret (fJ (a:=cS) gd.o.dh rfl rfl) rfl ⟨rfl,aT aW.o (Nat.le_succ _)⟩
theorem eV(h:bm w pw R S){k:Int}{a:An}(hg:S.get k=some a):∃ea el ec,aA w ea el ec a.ay∧∀w1,Qi w w1→
  Calls Tryz.prog 69 #[.pointer (some ⟨R.pt,0,none⟩),.int .i64 k] w1 fun e w'=>e=.returned (.tuple #[a.v ea el ec,.bool true])∧Qi w1 w':=by
 obtain⟨g,-,rfl,hf,he⟩:=Mv h hg;exact⟨g.ea,g.el,g.ec,he,fun w1 av=>vl g.nd k w1 R.pt R.pm S.last _ R.ey (h.ak av).tab hf⟩
theorem zX(h:bm w pw R S){N:Nat}(hk:ax S N)(c:Cr)(dir:Int)(s:ByteArray)(hs:s.size≤9223372036854775807)(d:An)(hg:S.get dir=some d) :
  Calls Tryz.prog 107 #[.pointer (some ⟨pw,0,none⟩),.agg #[.int .i64 c.u,.int .i64 c.g],.int .i64 dir,.string s] w fun e w'=>((S.aP c dir s≠0∧e=.returned (.tuple #[cS.v none 0 0,.int .i64 (S.aP c dir s)]))∨(S.aP c dir s=0∧∃ea el ec,e=.returned (.tuple #[d.v ea el ec,.int .i64 0])∧aA w ea el ec d.ay))∧Qi w w':=by
 have lR:=Qf (fun w1 (av:Qi w w1)=>gv (h.ak av) hk.d1);have hnz:=hk.d1;generalize S.ds.length=n at lR hnz;have hz:((n:Int)==0)=false:=by simp;omega
 obtain⟨ea,el,ec,he,hG⟩:=eV h hg;have HE:=Qf he;have HG:=Qf hG;unfold An.v at HG;have dM:=Qf (fun w=>mw s w hs);have jz:=Qf (show S.aP c dir s=if d.kind≠1 then 9 else if cx s≠0 then cx s else if d.may c 3=false then 6 else 0 by unfold Fs.aP;rw[hg]);have mS:=Qf (fun w=>lz c d ea el ec 3 w);unfold Cr.v An.v at mS;obtain⟨pc,-,pz⟩:=h.aZ.facts;generalize cx s=ce at dM jz;generalize S.aP c dir s=pe at jz⊢;generalize d.may c 3=my at jz mS;clear h hk hg he hG;go_enter Tryz.func107,Tryz.ntmps107;go_wp2_with fail;refine(lR.o _ (aq (aq (Below.refl _ _) _) _)).mono ?_;rintro e w1 ⟨rfl,rfl⟩;go_wp2_with fail;refine(HG.o _ (aq (aq (Below.refl _ _) _) _)).mono ?_;rintro e w1 ⟨rfl,av⟩;have aS:=au (aq (aq (Qj w) _) _) av;have hR:aw w1 (w.heap.size+1) #[.int .i64 0,.int .i64 0,.int .i64 0,.int .i64 0,.int .i64 0,.int .i64 0,.int .i64 0,.int .i64 0,.int .i64 0,.int .i64 0,.string ⟨#[]⟩,.slice none 0 0] 149:=by
  have:=((aw.new (w.alloc (.cells #[.int .i64 c.u,.int .i64 c.g] 64)) #[.int .i64 0,.int .i64 0,.int .i64 0,.int .i64 0,.int .i64 0,.int .i64 0,.int .i64 0,.int .i64 0,.int .i64 0,.int .i64 0,.string ⟨#[]⟩,.slice none 0 0] 149).ak av)
  rwa [World.size_alloc] at this
 have vW:aw w1 w.heap.size #[.int .i64 c.u,.int .i64 c.g] 64:=((aw.new w #[.int .i64 c.u,.int .i64 c.g] 64).old (.cells #[.int .i64 0,.int .i64 0,.int .i64 0,.int .i64 0,.int .i64 0,.int .i64 0,.int .i64 0,.int .i64 0,.int .i64 0,.int .i64 0,.string ⟨#[]⟩,.slice none 0 0] 149)).ak av;have eu:=hR.old (.cells #[.int .i64 d.no,.int .i64 d.dev,.int .i64 d.kind,.int .i64 d.mode,.int .i64 d.uid,.int .i64 d.gid,.int .i64 d.mtime,.int .i64 d.ctime,.int .i64 d.ao,.int .i64 d.up,.string d.data,.slice ea el ec] 149);have gp:=vW.old (.cells #[.int .i64 d.no,.int .i64 d.dev,.int .i64 d.kind,.int .i64 d.mode,.int .i64 d.uid,.int .i64 d.gid,.int .i64 d.mtime,.int .i64 d.ctime,.int .i64 d.ao,.int .i64 d.up,.string d.data,.slice ea el ec] 149);have gV:=aw.new w1 #[.int .i64 d.no,.int .i64 d.dev,.int .i64 d.kind,.int .i64 d.mode,.int .i64 d.uid,.int .i64 d.gid,.int .i64 d.mtime,.int .i64 d.ctime,.int .i64 d.ao,.int .i64 d.up,.string d.data,.slice ea el ec] 149;have aI:=aq aS (.cells #[.int .i64 d.no,.int .i64 d.dev,.int .i64 d.kind,.int .i64 d.mode,.int .i64 d.uid,.int .i64 d.gid,.int .i64 d.mtime,.int .i64 d.ctime,.int .i64 d.ao,.int .i64 d.up,.string d.data,.slice ea el ec] 149);clear hR vW av aS pc;go_wp2_with fail;generalize w1.alloc _=X at eu gp gV aI⊢;refine(dM.o _).mono ?_;rintro e w2 ⟨rfl,rfl⟩;have gd:=Qf eu;have aW:=Qf aI;have yU:=Qf gV;have Ms:=Qf gp;obtain⟨rc,rf,rz⟩:=eu.facts;obtain⟨dc,df,dz⟩:=gV.facts;obtain⟨cc,-,-⟩:=gp.facts;clear eu aI gV gp;by_cases h1:d.kind=1
 ·have q1:(d.kind==1)=true:=by simpa using h1
  have q2:(d.kind != 1)=false:=by simpa using h1
  by_cases h2:ce=0
  ·have q3:(ce != 0)=false:=by simpa using h2
   cases my
   ·have KE:=Qf (show pe=6 by rw[jz.o];simp[h1,h2]);clear h1 h2;go_wp2_with fail;refine(mS.o _).mono ?_;rintro e w5 ⟨rfl,bU⟩;have mH:=gd.o.ak bU;have rG:=aW.o.trans (bU.mono aW.o.size);have vI:=Qf mH;have vP:=Qf rG;clear rc rf rz dc df dz cc;obtain⟨rc,rf,rz⟩:=mH.facts;clear mH rG bU;go_wp2_with fail;exact bodyPost_ret (fJ (a:=cS) vI.o.dh rfl rfl) rfl ⟨.inl ⟨by rw[KE.o];decide,by rw[KE.o]⟩,aT vP.o (Nat.le_succ _)⟩
   ·have lQ:=Qf (show pe=0 by rw[jz.o];simp[h1,h2]);clear h1 h2;go_wp2_with fail;refine(mS.o _).mono ?_;rintro e w5 ⟨rfl,bU⟩;have mH:=gd.o.ak bU;have xY:=yU.o.ak bU;have rG:=aW.o.trans (bU.mono aW.o.size);have vI:=Qf mH;have vP:=Qf rG;clear rc rf rz dc df dz cc;obtain⟨rc,rf,rz⟩:=mH.facts;obtain⟨dc,-,-⟩:=xY.facts;clear mH rG bU xY;go_wp2_with fail;exact bodyPost_ret (fJ (a:=d) (ea:=ea) (el:=el) (ec:=ec) vI.o.dh rfl rfl) rfl ⟨.inr ⟨lQ.o,ea,el,ec,rfl,HE.o⟩,aT vP.o (Nat.le_succ _)⟩
  ·have q3:(ce != 0)=true:=by simpa using h2
   have Mp:=Qf (show pe=ce∧ce≠0 by refine⟨?_,h2⟩;rw[jz.o];simp[h1,h2]);clear h1 h2;go_wp2_with fail;exact bodyPost_ret (fJ (a:=cS) gd.o.dh rfl rfl) rfl ⟨.inl ⟨by rw[Mp.o.1];exact Mp.o.2,by rw[Mp.o.1]⟩,aT aW.o (Nat.le_succ _)⟩
 ·have q2:(d.kind != 1)=true:=by simpa using h1
  have GN:=Qf (show pe=9 by rw[jz.o];simp[h1]);clear h1;go_wp2_with fail;exact bodyPost_ret (fJ (a:=cS) gd.o.dh rfl rfl) rfl ⟨.inl ⟨by rw[GN.o];decide,by rw[GN.o]⟩,aT aW.o (Nat.le_succ _)⟩
end
end
section
open Go.RowKit
section
variable{w w':World}{pf:Nat}{R:Rf}{S:Fs}
theorem uM(h:aN w pf R S)(no:Int) :
  Calls Tryz.prog 176 #[.pointer (some ⟨pf,0,none⟩),.int .i64 no] w fun e w'=>e=.returned (.int .i64 (jq R.G no))∧Qi w w':=by
 have HW:=Qf h;obtain⟨na,nc,hnv,nR,ox⟩:=h.Fh;have HNv:=Qf hnv;have HY:=Qf (fun i (hi:i<R.G.length)=>zZ (G:=R.G) (no:=no) hi);have HN:=Qf (CV (G:=R.G) (no:=no));generalize jq R.G no=out at HY HN⊢;obtain⟨n,hn⟩:∃n,R.G.length=n:=⟨_,rfl⟩;have G9:=Qf hn;rw[hn] at hnv nR;obtain⟨pc,-,pz⟩:=h.aZ.facts;rw[hnv] at pc;clear h hnv hn;go_enter Tryz.func176,Tryz.ntmps176;go_wp2_with fail
 go_loopw [5] (fun t5 wr=>∃k:Nat,k≤n∧t5=.int .i64 k∧(∀j (hj:j<R.G.length),j<k→R.G[j].a.no≠no)∧Qi w wr) (fun t5 _=>n-(intOf t5).toNat)
 case atStart=>exact⟨0,Nat.zero_le _,rfl,fun j _ h=>absurd h (Nat.not_lt_zero _),Below.refl _ _⟩
 case round=>
  obtain⟨k,hk,rfl,hno,hb⟩:=hrel;have iW:=Qf hno;have HB:=Qf hb;have pc2:=fun i=>(hb.cell (p:=⟨pf,i,none⟩) pz).trans (pc i);clear hno;by_cases hlt:k<n
  ·have hkl:k<R.G.length:=by rw[G9.o];exact hlt
   obtain⟨g,cap,hnv,-,-,hg,hc,-,-⟩:=(HW.o.ak hb).bS (by omega);have he:=HNv.o.symm.trans hnv;injection he with BB mP he3;subst BB;have c0:=(hc k hkl).c0;have HYk:=Qf (HY.o k hkl);clear hc hnv hb mP he3;by_cases hq:R.G[k].a.no=no
   ·have HR:=Qf (HYk.o hq (fun j hj hjk=>iW.o j hj hjk));have hqb:(R.G[k].a.no==no)=true:=by simpa using hq
    generalize R.G[k].a.no=x at c0 hqb;clear hq;go_wp2_with fail;go_ret;exact⟨by rw[HR.o];rfl,HB.o⟩
   ·have hqb:(R.G[k].a.no==no)=false:=by simpa using hq
    have A6:=Qf (show∀j (hj:j<R.G.length),j<k+1→R.G[j].a.no≠no from fun j hj hjk=>by
     by_cases e:j=k
     ·subst e;exact hq
     ·exact iW.o j hj (by omega))
    generalize R.G[k].a.no=x at c0 hqb;clear hq;go_wp2_with fail;go_roundw
    case rel=>exact⟨k+1,by omega,by go_num,A6.o,HB.o⟩
    case measure=>simp[intOf];omega
  ·obtain rfl:k=n:=by omega
   have HR:=Qf (HN.o (fun j hj=>iW.o j hj (by rw[←G9.o];exact hj)));clear hb;go_wp2_with fail;go_ret;exact⟨by rw[HR.o];rfl,HB.o⟩
theorem ng{tmps:Array Value}{W:World}{B:Nat}{a:An}{ea:Option Addr}{el ec:Nat}(hb:aw W B #[.int .i64 a.no,.int .i64 a.dev,.int .i64 a.kind,.int .i64 a.mode,.int .i64 a.uid,.int .i64 a.gid,.int .i64 a.mtime,.int .i64 a.ctime,.int .i64 a.ao,.int .i64 a.up,.string a.data,.slice ea el ec] 149)(h4:tmps.getD 4 undef=.pointer (some ⟨B,0,none⟩)) :
  (results Tryz.f134 tmps).run Tryz.prog W=.ok (a.v ea el ec) W:=by
 obtain⟨q0,q1,q2,q3,q4,q5,q6,q7,q8,q9,q10,q11⟩:=hb.fB;rw[Array.getD_eq_getD_getElem?] at h4;simp[results,Tryz.results134,go_sem,h4,q0,q1,q2,q3,q4,q5,q6,q7,q8,q9,q10,q11,An.v]
theorem Ip(h:aN w pf R S){k:Int}{i:Nat}(hi:i<R.G.length)(hp:jq R.G k=i) :
  Calls Tryz.prog 134 #[.pointer (some ⟨pf,0,none⟩),.int .i64 k] w fun e w'=>e=.returned (R.G[i].a.v R.G[i].ea R.G[i].el R.G[i].ec)∧Qi w w':=by
 have Eh:=Qf (uM (h.ak ((Below.refl _ w).alloc (aa _) (.cells #[.int .i64 0,.int .i64 0,.int .i64 0,.int .i64 0,.int .i64 0,.int .i64 0,.int .i64 0,.int .i64 0,.int .i64 0,.int .i64 0,.string ByteArray.empty,.slice none 0 0] 149))) k);rw[hp] at Eh;obtain⟨na,nc,hnv,nR,ox⟩:=h.Fh;obtain⟨g,cap,hnv,-,-,hgl,hc,-,-⟩:=h.bS (by omega);obtain⟨c0,c1,c2,c3,c4,c5,c6,c7,c8,c9,M7,M6⟩:=hc i hi;obtain⟨pc,-,pz⟩:=h.aZ.facts;rw[hnv] at pc;obtain⟨n,hn⟩:∃n,R.G.length=n:=⟨_,rfl⟩;rw[hn] at pc nR;have hin:i<n:=by omega
 have cH:=aq (Qj w) (.cells #[.int .i64 0,.int .i64 0,.int .i64 0,.int .i64 0,.int .i64 0,.int .i64 0,.int .i64 0,.int .i64 0,.int .i64 0,.int .i64 0,.string ByteArray.empty,.slice none 0 0] 149);have D2:=aw.new w #[.int .i64 0,.int .i64 0,.int .i64 0,.int .i64 0,.int .i64 0,.int .i64 0,.int .i64 0,.int .i64 0,.int .i64 0,.int .i64 0,.string ByteArray.empty,.slice none 0 0] 149;unfold An.v;generalize R.G[i].a=a at *;generalize R.G[i].ea=ea at *;generalize R.G[i].el=el at *;generalize R.G[i].ec=ec at *;have HC:=Qf (fun w1 (hb:Qi w w1)=>ag (hb.cell (p:=⟨g,i*12,none⟩) hgl) (fun j=>hb.cell (p:=⟨g,i*12+j,none⟩) hgl));have nM:=Qf D2;have bP:=Qf cH;clear h hnv hc hi hn hp D2 cH;go_enter Tryz.func134,Tryz.ntmps134;go_wp2_with fail;refine Eh.o.mono ?_;rintro e w1 ⟨rfl,av⟩;have Ah:=nM.o.ak av;have aS:=au bP.o av;have pN:=Qf Ah;have dS:=Qf aS;obtain⟨q0,qf,qz⟩:=Ah.facts;have pc2:=fun i=>(aS.cell (p:=⟨pf,i,none⟩) pz).trans (pc i);obtain⟨d0,dd⟩:=HC.o w1 aS;rw[←d0] at c0;rw[←dd 1] at c1;rw[←dd 2] at c2;rw[←dd 3] at c3;rw[←dd 4] at c4;rw[←dd 5] at c5;rw[←dd 6] at c6;rw[←dd 7] at c7;rw[←dd 8] at c8;rw[←dd 9] at c9;rw[←dd 10] at M7;rw[←dd 11] at M6;clear Ah av aS d0 dd pc;go_wp2_with fail;exact bodyPost_ret (ng (a:=a) (ea:=ea) (el:=el) (ec:=ec) pN.o.dh rfl) rfl ⟨rfl,aT dS.o (aa _)⟩
theorem iH(h:aN w pf R S){k:Int}{a:An}(hg:S.get k=some a):∃ea el ec,aA w ea el ec a.ay∧∀w1,Qi w w1→
  Calls Tryz.prog 134 #[.pointer (some ⟨pf,0,none⟩),.int .i64 k] w1 fun e w'=>e=.returned (a.v ea el ec)∧Qi w1 w':=by
 rcases oh h k with⟨i,hi,hp,xN,-⟩|⟨-,xN⟩
 ·rw[hg] at xN;injection xN with xN;subst xN;exact⟨R.G[i].ea,R.G[i].el,R.G[i].ec,h.ay _ (List.getElem_mem hi),fun w1 hb=>Ip (h.ak hb) hi hp⟩
 ·rw[hg] at xN;cases xN
theorem kI(h:aN w pf R S){k:Int}{a:An}(hg:S.get k=some a):∃ea el ec,aA w ea el ec a.ay∧
  Calls Tryz.prog 134 #[.pointer (some ⟨pf,0,none⟩),.int .i64 k] w fun e w'=>e=.returned (a.v ea el ec)∧Qi w w':=by
 obtain⟨ea,el,ec,he,hG⟩:=iH h hg;exact⟨ea,el,ec,he,hG w (Below.refl _ _)⟩
theorem lx(h:aN w pf R S){k:Int}(hg:S.get k=none) :
  Calls Tryz.prog 134 #[.pointer (some ⟨pf,0,none⟩),.int .i64 k] w fun e w'=>e=.returned (cS.v none 0 0)∧Qi w w':=by
 rcases oh h k with⟨i,hi,hp,xN,hno⟩|⟨hp,-⟩
 ·rw[hg] at xN;cases xN
 ·have Eh:=Qf (uM (h.ak ((Below.refl _ w).alloc (aa _) (.cells #[.int .i64 0,.int .i64 0,.int .i64 0,.int .i64 0,.int .i64 0,.int .i64 0,.int .i64 0,.int .i64 0,.int .i64 0,.int .i64 0,.string ByteArray.empty,.slice none 0 0] 149))) k);rw[hp] at Eh;have bP:=Qf (aq (Qj w) (.cells #[.int .i64 0,.int .i64 0,.int .i64 0,.int .i64 0,.int .i64 0,.int .i64 0,.int .i64 0,.int .i64 0,.int .i64 0,.int .i64 0,.string ByteArray.empty,.slice none 0 0] 149));have nM:=Qf (aw.new w #[.int .i64 0,.int .i64 0,.int .i64 0,.int .i64 0,.int .i64 0,.int .i64 0,.int .i64 0,.int .i64 0,.int .i64 0,.int .i64 0,.string ByteArray.empty,.slice none 0 0] 149);clear h hg hp;go_enter Tryz.func134,Tryz.ntmps134;go_wp2_with fail;refine Eh.o.mono ?_;rintro e w1 ⟨rfl,av⟩;have Ah:=nM.o.ak av;have pN:=Qf Ah;have dS:=Qf (au bP.o av);obtain⟨q0,qf,qz⟩:=Ah.facts;clear Ah av;go_wp2_with fail;exact bodyPost_ret (ng (a:=cS) (ea:=none) (el:=0) (ec:=0) pN.o.dh rfl) rfl ⟨rfl,aT dS.o (aa _)⟩
end
end
section
open Go.RowKit
theorem If(c:UInt8)(a m:List UInt8):ku c (a++c::m)=ku c a++ku c m:=by
 refine jC (P:=fun m=>ku c (a++c::m)=ku c a++ku c m) ?_ (fun m x ih=>?_) m
 ·rw[gh,gi,if_pos rfl];rfl
 ·rw[show a++c::(m++[x])=(a++c::m)++[x] by simp,gh,ih,gh];have h0:=(i' c m).1;unfold gi
  split
  ·simp
  ·rw[List.length_append,List.getD_eq_getElem?_getD,List.getD_eq_getElem?_getD,List.getElem?_append_right (by omega),List.set_append_right _ _ (by omega),show(ku c a).length+(ku c m).length-1-(ku c a).length=(ku c m).length-1 by omega]
theorem wF(c:UInt8)(l:List UInt8):c∉l→ku c l=[l]:=by
 refine jC (P:=fun l=>c∉l→ku c l=[l]) (fun _=>rfl) (fun l x ih h=>?_) l;rw[List.mem_append,List.mem_singleton,not_or] at h;rw[gh,ih h.1,gi,if_neg (fun e=>h.2 e.symm)];rfl
theorem vq(s:ByteArray)(a b:Nat):(s.extract a b).data.toList=(s.data.toList.take b).drop a:=by
 rw[Lib.extract_data,List.drop_take]
end
section
open Go.RowKit
section
variable{S:Fs}{c:Cr}{f must:Bool}{h:Nat}{at':Int}{p:List UInt8}{l:List (List UInt8)}{n:An}
theorem wK:S.eA c f h at' must []=(⟨0,ByteArray.empty,at',true⟩,0):=by cases h<;>rfl
theorem mZ(he:(S.step c at' p).2≠0):S.eA c f h at' must (p::l)=(gb,(S.step c at' p).2):=by
 cases h
 ·show S.bY c f none (p::l) at' must=_;rw[Fs.bY];simp only;rw[if_pos he]
 ·show S.bY c f (some _) (p::l) at' must=_;rw[Fs.bY];simp only;rw[if_pos he]
theorem uH(he:(S.step c at' p).2=0)(hp:p=[46,46]):S.eA c f h at' must (p::l)=S.eA c f h (S.step c at' p).1 must l:=by
 cases h
 ·show S.bY c f none (p::l) at' must=_;rw[Fs.bY];simp only;rw[if_neg (by simp[he]),if_pos hp];rfl
 ·show S.bY c f (some _) (p::l) at' must=_;rw[Fs.bY];simp only;rw[if_neg (by simp[he]),if_pos hp];rfl
theorem wL(he:(S.step c at' p).2=0)(hp:p≠[46,46])(hg:S.get (S.step c at' p).1=none)(hl:l=[]):S.eA c f h at' must (p::l)=(⟨at',str p,0,must⟩,0):=by
 cases h
 ·show S.bY c f none (p::l) at' must=_;rw[Fs.bY];simp only;rw[if_neg (by simp[he]),if_neg hp,hg];simp only;rw[if_pos hl]
 ·show S.bY c f (some _) (p::l) at' must=_;rw[Fs.bY];simp only;rw[if_neg (by simp[he]),if_neg hp,hg];simp only;rw[if_pos hl]
theorem tj(he:(S.step c at' p).2=0)(hp:p≠[46,46])(hg:S.get (S.step c at' p).1=none)(hl:l≠[]):S.eA c f h at' must (p::l)=(gb,5):=by
 cases h
 ·show S.bY c f none (p::l) at' must=_;rw[Fs.bY];simp only;rw[if_neg (by simp[he]),if_neg hp,hg];simp only;rw[if_neg hl]
 ·show S.bY c f (some _) (p::l) at' must=_;rw[Fs.bY];simp only;rw[if_neg (by simp[he]),if_neg hp,hg];simp only;rw[if_neg hl]
theorem th(he:(S.step c at' p).2=0)(hp:p≠[46,46])(hg:S.get (S.step c at' p).1=some n)(hk:n.kind=3∧(l≠[]∨must=true∨f=true)):S.eA c f 0 at' must (p::l)=(gb,12):=by
 show S.bY c f none (p::l) at' must=_;rw[Fs.bY];simp only;rw[if_neg (by simp[he]),if_neg hp,hg];simp only;rw[if_pos hk]
theorem tg(he:(S.step c at' p).2=0)(hp:p≠[46,46])(hg:S.get (S.step c at' p).1=some n)(hk:n.kind=3∧(l≠[]∨must=true∨f=true))(hd:n.data.data.toList=[]):S.eA c f (h+1) at' must (p::l)=(gb,5):=by
 show S.bY c f (some _) (p::l) at' must=_;rw[Fs.bY];simp only;rw[if_neg (by simp[he]),if_neg hp,hg];simp only;rw[if_pos hk,if_pos hd]
theorem ti(he:(S.step c at' p).2=0)(hp:p≠[46,46])(hg:S.get (S.step c at' p).1=some n)(hk:n.kind=3∧(l≠[]∨must=true∨f=true))(hd:n.data.data.toList≠[]) :
  S.eA c f (h+1) at' must (p::l)=S.eA c f h (if n.data.data.toList.head?=some 47 then 1 else at') (if l=[] then must||eD n.data.data.toList else must) (bF n.data.data.toList++l):=by
 show S.bY c f (some _) (p::l) at' must=_;rw[Fs.bY];simp only;rw[if_neg (by simp[he]),if_neg hp,hg];simp only;rw[if_pos hk,if_neg hd]
theorem lq(he:(S.step c at' p).2=0)(hp:p≠[46,46])(hg:S.get (S.step c at' p).1=some n)(hk:¬(n.kind=3∧(l≠[]∨must=true∨f=true)))(hd:n.kind≠1∧(l≠[]∨must=true)):S.eA c f h at' must (p::l)=(gb,9):=by
 cases h
 ·show S.bY c f none (p::l) at' must=_;rw[Fs.bY];simp only;rw[if_neg (by simp[he]),if_neg hp,hg];simp only;rw[if_neg hk,if_pos hd]
 ·show S.bY c f (some _) (p::l) at' must=_;rw[Fs.bY];simp only;rw[if_neg (by simp[he]),if_neg hp,hg];simp only;rw[if_neg hk,if_pos hd]
theorem lp(he:(S.step c at' p).2=0)(hp:p≠[46,46])(hg:S.get (S.step c at' p).1=some n)(hk:¬(n.kind=3∧(l≠[]∨must=true∨f=true)))(hd:¬(n.kind≠1∧(l≠[]∨must=true)))(hl:l=[]):S.eA c f h at' must (p::l)=(⟨at',str p,(S.step c at' p).1,must⟩,0):=by
 cases h
 ·show S.bY c f none (p::l) at' must=_;rw[Fs.bY];simp only;rw[if_neg (by simp[he]),if_neg hp,hg];simp only;rw[if_neg hk,if_neg hd,if_pos hl]
 ·show S.bY c f (some _) (p::l) at' must=_;rw[Fs.bY];simp only;rw[if_neg (by simp[he]),if_neg hp,hg];simp only;rw[if_neg hk,if_neg hd,if_pos hl]
theorem Bg(he:(S.step c at' p).2=0)(hp:p≠[46,46])(hg:S.get (S.step c at' p).1=some n)(hk:¬(n.kind=3∧(l≠[]∨must=true∨f=true)))(hd:¬(n.kind≠1∧(l≠[]∨must=true)))(hl:l≠[]):S.eA c f h at' must (p::l)=S.eA c f h (S.step c at' p).1 must l:=by
 cases h
 ·show S.bY c f none (p::l) at' must=_;rw[Fs.bY];simp only;rw[if_neg (by simp[he]),if_neg hp,hg];simp only;rw[if_neg hk,if_neg hd,if_neg hl];rfl
 ·show S.bY c f (some _) (p::l) at' must=_;rw[Fs.bY];simp only;rw[if_neg (by simp[he]),if_neg hp,hg];simp only;rw[if_neg hk,if_neg hd,if_neg hl];rfl
end
theorem iy(l:List UInt8):(bF l).length≤l.length+1:=ae (List.length_filter_le _ _) (i' 47 l).2
theorem C0(a b:List UInt8)(ha:∀x∈a,x≠47):bF (a++47::b)=(if a=[]∨a=[46] then[] else[a])++bF b:=by
 unfold bF;rw[If,wF 47 a (fun h=>ha 47 h rfl),List.filter_append];congr 1;by_cases h1:a=[]
 ·subst h1;rfl
 ·by_cases h2:a=[46]
  ·subst h2;rfl
  ·rw[if_neg (by rintro(h|h);exact h1 h;exact h2 h)];have e1:(a==[])=false:=by simpa using h1
   have e2:(a==[46])=false:=by simpa using h2
   simp[h1,h2]
theorem CZ(a:List UInt8)(ha:∀x∈a,x≠47):bF a=if a=[]∨a=[46] then[] else[a]:=by
 unfold bF;rw[wF 47 a (fun h=>ha 47 h rfl)];by_cases h1:a=[]
 ·subst h1;rfl
 ·by_cases h2:a=[46]
  ·subst h2;rfl
  ·rw[if_neg (by rintro(h|h);exact h1 h;exact h2 h)];have e1:(a==[])=false:=by simpa using h1
   have e2:(a==[46])=false:=by simpa using h2
   simp[h1,h2]
end
section
open Go.RowKit Go.Shelf
attribute [local go_sem] Oper.semAt_some
def DU(l:List UInt8)(pre:List (List UInt8))(fr k:Nat):Prop:=
 fr≤l.length+1∧((k≤l.length∧fr≤k∧bF l=pre++bF (l.drop fr)∧∀x∈(l.take k).drop fr,x≠47)∨(k=l.length+1∧bF l=pre))
theorem CO(l:List UInt8):DU l [] 0 0:=⟨by omega,.inl ⟨by omega,aa _,by simp,by simp⟩⟩
theorem E2{l:List UInt8}{pre:List (List UInt8)}{fr k:Nat}(h:DU l pre fr k)(hk:k<l.length)(hx:l[k]≠47):DU l pre fr (k+1):=by
 obtain⟨h1,⟨h2,h3,h4,h5⟩|⟨h2,-⟩⟩:=h
 ·refine⟨h1,.inl ⟨hk,by omega,h4,fun x hxm=>?_⟩⟩;rw[List.take_succ_eq_append_getElem hk,List.drop_append_of_le_length (by rw[List.length_take];omega)] at hxm;rcases List.mem_append.1 hxm with hxm|hxm
  ·exact h5 x hxm
  ·rw[List.mem_singleton] at hxm;subst hxm;exact hx
 ·omega
theorem Iw{l:List UInt8}{pre:List (List UInt8)}{fr k:Nat}(h:DU l pre fr k)(hk:l.length<k):bF l=pre:=by
 obtain⟨-,⟨h2,-⟩|⟨-,h3⟩⟩:=h
 ·omega
 ·exact h3
def jD(l:List UInt8)(fr k:Nat):List UInt8:=(l.take k).drop fr
theorem CP{l:List UInt8}{fr k:Nat}(hk:k<l.length)(hf:fr≤k)(hx:l[k]=47):l.drop fr=jD l fr k++47::l.drop (k+1):=by
 unfold jD
 conv=>lhs;rw[←List.take_append_drop k l]
 rw[List.drop_append_of_le_length (by rw[List.length_take];omega),List.drop_eq_getElem_cons hk,hx]
theorem Bl{l:List UInt8}{pre:List (List UInt8)}{fr k:Nat}(h:DU l pre fr k)(hk:k≤l.length)(hx:∀(h:k<l.length),l[k]=47) :
  fr≤k∧bF l=pre++((if jD l fr k=[]∨jD l fr k=[46] then[] else[jD l fr k])++(if k<l.length then bF (l.drop (k+1)) else[]))∧
   ∀pre',(bF l=pre'++(if k<l.length then bF (l.drop (k+1)) else[]))→DU l pre' (k+1) (k+1):=by
 obtain⟨h1,⟨h2,h3,h4,h5⟩|⟨h2,-⟩⟩:=h
 ·by_cases hlt:k<l.length
  ·refine⟨h3,?_,fun pre' hp=>⟨by omega,.inl ⟨by omega,aa _,?_,?_⟩⟩⟩
   ·rw[h4,CP hlt h3 (hx hlt),C0 (jD l fr k) _ h5,if_pos hlt]
   ·rw[if_pos hlt] at hp;exact hp
   ·rw[List.drop_eq_nil_of_le (by rw[List.length_take];omega)];simp
  ·refine⟨h3,?_,fun pre' hp=>⟨by omega,.inr ⟨by omega,?_⟩⟩⟩
   ·obtain rfl:k=l.length:=by omega
    rw[h4,if_neg hlt,List.append_nil];have:l.drop fr=jD l fr l.length:=by unfold jD;rw[List.take_length]
    rw[this,CZ (jD l fr l.length) h5]
   ·rw[if_neg hlt,List.append_nil] at hp;exact hp
 ·omega
theorem wY{l:List UInt8}{pre:List (List UInt8)}{fr k:Nat}(h:DU l pre fr k)(hk:k≤l.length)(hx:∀(h:k<l.length),l[k]=47)(hs:jD l fr k=[]∨jD l fr k=[46]):DU l pre (k+1) (k+1):=by
 obtain⟨-,h2,h3⟩:=Bl h hk hx;refine h3 pre ?_;rw[h2,if_pos hs,List.nil_append]
theorem E1{l:List UInt8}{pre:List (List UInt8)}{fr k:Nat}(h:DU l pre fr k)(hk:k≤l.length)(hx:∀(h:k<l.length),l[k]=47)(hs:¬(jD l fr k=[]∨jD l fr k=[46])) :
  DU l (pre++[jD l fr k]) (k+1) (k+1)∧(pre++[jD l fr k]) <+: bF l:=by
 obtain⟨-,h2,h3⟩:=Bl h hk hx;rw[if_neg hs,←List.append_assoc] at h2;exact⟨h3 _ h2,⟨_,h2.symm⟩⟩
theorem KS{l:List UInt8}{pre:List (List UInt8)}{fr k:Nat}(h:DU l pre fr k)(hk:k≤l.length):fr≤k:=by
 obtain⟨h1,⟨h2,h3,h4,h5⟩|⟨h2,-⟩⟩:=h
 ·exact h3
 ·omega
theorem E3{l:List UInt8}{pre:List (List UInt8)}{fr k:Nat}(h:DU l pre fr k):k≤l.length+1:=by
 obtain⟨h1,⟨h2,h3,h4,h5⟩|⟨h2,-⟩⟩:=h
 ·omega
 ·omega
theorem EH(l:List UInt8)(a b:Nat):(str l).extract a b=str ((l.take b).drop a):=by
 have:((str l).extract a b).data.toList=(str ((l.take b).drop a)).data.toList:=by rw[vq,dP,dP]
 rw[←qx ((str l).extract a b),this,dP]
theorem ja{α:Type}{a b:List α}(h:a <+: b):∃m,a=b.take m:=⟨a.length,(List.prefix_iff_eq_take.1 h)⟩
theorem bq{P:Program}{fn:Func}{R:Ending→World→Prop}{tmps:Array Value}{W:World}{v:Value}(h:(results fn tmps).run P W=.ok v W)(hR:R (.returned v) W):Exit.noGoto (bodyPost P fn R) .ret {tmps,defers:=[]} W:=
 bodyPost_ret h rfl hR
theorem Ij(s:ByteArray)(a b:Nat):s.extract a b=str (jD s.data.toList a b):=by
 show s.extract a b=str ((s.data.toList.take b).drop a);rw[←EH,qx]
theorem xl(n:Nat)(hn:1≤n)(Bs:Nat)(s:ByteArray)(hl:s.size≤100000)(w:World)(hs:aw w Bs #[.string s] 9) :
  JF (fun k=>k=Bs) Fence.wide n Tryz.prog 191 #[.pointer (some ⟨Bs,0,none⟩)] (fun x:List UInt8=>#[.string (str x)])
   (fun xs=>xs=bF s.data.toList) (fun pre=>∃m,pre=(bF s.data.toList).take m) (fun pre x=>(pre++[x]) <+: bF s.data.toList) w:=fun L J Jx W hW OP hJ hJx hY h0=>by
 have Hs:=Qf (show aw W Bs #[.string s] 9 from(hW.2 Bs rfl).trans hs);have nK:=Qf (show s.data.toList.length=s.size from Array.length_toList);have uq:=Qf (fun(k:Nat) (hk:k<s.data.toList.length) (ij:k<s.size)=>show s.data.toList[k]=s[k] from rfl);have HY:=Qf hY;clear hs hW OP hY;refine callsIn_of_wp Tryz.func191 rfl trivial ?_ rfl;simp only[Tryz.ntmps191,List.size_toArray,List.length_cons,List.length_nil,Nat.reduceAdd,Nat.reduceSub,Array.replicate_succ,Array.replicate_zero,List.push_toArray,List.append_toArray,List.nil_append,List.cons_append];refine(wpIn_wide (n:=n)).2 (wp_scope_straight ((wpIn_wide (n:=n)).1 ?_));refine wpIn_seq ?_;gi_wp2;refine wpIn_label ?_;gi_wp2
 gi_loopw [3,4] (fun f a wr=>∃(pre:List (List UInt8)) (fr k:Nat),f=.int .i64 fr∧a=.int .i64 k∧DU s.data.toList pre fr k∧J pre wr∧aw wr Bs #[.string s] 9) (fun _ a _=>s.size+1-(intOf a).toNat)
 case atStart=>exact⟨[],0,0,rfl,rfl,CO _,h0,Hs.o⟩
 case round=>
  obtain⟨pre,fr,k,rfl,rfl,hp,Az,hbs⟩:=hrel;have HP:=Qf hp;have KA:=Qf Az;have Mu:=Qf hbs;have hks:k≤s.size+1:=by have:=E3 hp;rw[nK.o] at this;exact this
  obtain⟨cs,fs,ls⟩:=hbs.facts;clear hp Az hbs;by_cases hk:k≤s.size
  ·have hfr:fr≤k:=KS HP.o (by rw[nK.o];exact hk);by_cases hc:∃h:k<s.size,s[k]≠47
   ·obtain⟨hkl,hc⟩:=hc;have HN:=Qf (E2 HP.o (by rw[nK.o];exact hkl) hc);have iS:((s[k].toNat:Int) != 47)=true:=by
     simp only[bne_iff_ne,ne_eq];intro h;exact hc (by rw[lV];show s[k].toNat=47;omega)
    clear hc;gi_wp2;go_roundw
    case rel=>exact⟨pre,fr,k+1,rfl,by go_num,HN.o,KA.o,Mu.o⟩
    case measure=>simp[intOf];omega
   ·have HX:=Qf (show∀(h:k<s.data.toList.length),s.data.toList[k]=47 from fun h=>Decidable.not_not.1 (fun h2=>hc ⟨by rw[←nK.o];exact h,h2⟩));have HK:=Qf (show k≤s.data.toList.length by rw[nK.o];exact hk);obtain⟨p,hp⟩:∃p,s.extract fr k=p:=⟨_,rfl⟩;have HPe:=Qf (show p=str (jD s.data.toList fr k) by rw[←hp,Ij]);have hpl:p.toList=jD s.data.toList fr k:=by rw[HPe.o,bG,dP]
    have jz:=Qf hpl;clear hpl;have htest:((k:Int)<(s.size:Int)→∀h:k<s.size,((s[k].toNat:Int) != 47)=false):=fun _ h=>by
     have:=HX.o (by rw[nK.o];exact h);have h2:s[k]=47:=this;rw[h2];rfl
    by_cases he:jD s.data.toList fr k=[]
    ·have HN:=Qf (wY HP.o HK.o HX.o (.inl he));have Df:p.toList=[]:=by rw[jz.o];exact he
     clear he;by_cases hkl:k<s.size
     ·have iS:=htest (by omega) hkl;clear htest;gi_wp2;go_roundw
      case rel=>exact⟨pre,k+1,k+1,by go_num,by go_num,HN.o,KA.o,Mu.o⟩
      case measure=>simp[intOf];omega
     ·obtain rfl:k=s.size:=by omega
      clear htest;gi_wp2;go_roundw
      case rel=>exact⟨pre,_,_,by go_num,by go_num,HN.o,KA.o,Mu.o⟩
      case measure=>simp[intOf]
    ·by_cases hd:jD s.data.toList fr k=[46]
     ·have HN:=Qf (wY HP.o HK.o HX.o (.inr hd));have Df:p.toList=[46]:=by rw[jz.o];exact hd
      clear he hd;by_cases hkl:k<s.size
      ·have iS:=htest (by omega) hkl;clear htest;gi_wp2;go_roundw
       case rel=>exact⟨pre,k+1,k+1,by go_num,by go_num,HN.o,KA.o,Mu.o⟩
       case measure=>simp[intOf];omega
      ·obtain rfl:k=s.size:=by omega
       clear htest;gi_wp2;go_roundw
       case rel=>exact⟨pre,_,_,by go_num,by go_num,HN.o,KA.o,Mu.o⟩
       case measure=>simp[intOf]
     ·have hN:=E1 HP.o HK.o HX.o (by rintro(h|h);exact he h;exact hd h);have HN:=Qf hN.1;have HV:=Qf hN.2;have Df:p.toList.isEmpty=false:=by rw[jz.o];simpa using he
      have MC:(p.toList==[46])=false:=by rw[jz.o];simpa using hd
      clear he hd hN;by_cases hkl:k<s.size
      ·have iS:=htest (by omega) hkl;clear htest;obtain⟨fn,tmps,assign,body,hy,hR⟩:=HY.o pre _ wr KA.o HV.o;have J':(Instr.yield L #[.string p]).run Tryz.prog wr=.ok (.round L fn tmps assign body) wr:=by rw[HPe.o];exact hy
       have HR:=Qf hR;clear hy hR;gi_wp2;refine HR.o.mono ?_;rintro e W3 (⟨rfl,xW,gm⟩|⟨rfl,kU⟩)
       ·have JU:=Qf xW;have fG:=Qf (show aw W3 Bs #[.string s] 9 from(gm.2 Bs rfl).trans Mu.o);clear xW gm J';gi_wp2;go_roundw
        case rel=>exact⟨_,k+1,k+1,by go_num,by go_num,HN.o,JU.o,fG.o⟩
        case measure=>simp[intOf];omega
       ·have GJ:=Qf kU;clear kU J';gi_wp2;exact bq (results_none rfl _ _ _) ⟨⟨_,rfl⟩,.inr ⟨_,ja HV.o,GJ.o⟩⟩
      ·obtain rfl:k=s.size:=by omega
       clear htest;obtain⟨fn,tmps,assign,body,hy,hR⟩:=HY.o pre _ wr KA.o HV.o;have J':(Instr.yield L #[.string p]).run Tryz.prog wr=.ok (.round L fn tmps assign body) wr:=by rw[HPe.o];exact hy
       have HR:=Qf hR;clear hy hR;gi_wp2;refine HR.o.mono ?_;rintro e W3 (⟨rfl,xW,gm⟩|⟨rfl,kU⟩)
       ·have JU:=Qf xW;have fG:=Qf (show aw W3 Bs #[.string s] 9 from(gm.2 Bs rfl).trans Mu.o);clear xW gm J';gi_wp2;go_roundw
        case rel=>exact⟨_,_,_,by go_num,by go_num,HN.o,JU.o,fG.o⟩
        case measure=>simp[intOf]
       ·have GJ:=Qf kU;clear kU J';gi_wp2;exact bq (results_none rfl _ _ _) ⟨⟨_,rfl⟩,.inr ⟨_,ja HV.o,GJ.o⟩⟩
  ·have HE:=Qf (Iw HP.o (by rw[nK.o];omega));have hk':¬(k:Int)≤(s.size:Int):=by omega
   gi_wp2
   go_end0
   exact⟨⟨_,rfl⟩,.inl (by rw[HE.o];exact KA.o)⟩
end
section
open Go
def pS(ops:Array Oper):Bool:=ops.all fun o=>match o.op with | .defer _=>false|_=>true
theorem u0{ops:Array Oper}(h:pS ops=true){i:Nat}{o:Oper}(hi:ops[i]?=some o):∀c,o.op≠.defer c:=by
 intro c hc;unfold pS at h;rw[Array.all_eq_true] at h;obtain⟨hlt,rfl⟩:=Array.getElem?_eq_some_iff.1 hi;have:=h i hlt;rw[hc] at this
 cases this
section
variable{P:Program}{ops:Array Oper}{md:Region.Mode}{w:World}{l:Nat}{n:Nat}
end
end
section
open Go.RowKit Go.Shelf
attribute [local go_sem] Oper.semAt_some
theorem ru{S:Nat→Prop}{w W:World}(h:Mod S w W)(hS:∀k,S k→∃cur T fz,w.heap[k]?=some (.cells cur T fz)):KeepsOthers w W:=
 ⟨h.size,fun k o hk ho=>(h.block k (Array.getElem?_eq_some_iff.1 hk).1 (fun hs=>by obtain⟨cur,T,fz,hc⟩:=hS k hs;rw[hc] at hk;injection hk with hk;subst hk;cases ho)).trans hk⟩
theorem OS.nil(w:World)(base:Nat):OS w base (.slice none 0 0) []:=⟨rfl,.inl ⟨rfl,rfl⟩⟩
theorem OS.fH{w w':World}{base:Nat}{v:Value}{ls:List (List UInt8)}(h:OS w base v ls)(ht:∀k cur,base≤k→w.heap[k]?=some (.cells cur 9 (0,0))→w'.heap[k]?=some (.cells cur 9 (0,0))):OS w' base v ls:=
 ⟨h.1,h.2.imp id fun⟨g,cap,cur,hv,hb,hg,rest⟩=>⟨g,cap,cur,hv,hb,ht _ _ hb hg,rest⟩⟩
theorem OS.low{w:World}{base base':Nat}{v:Value}{ls:List (List UInt8)}(h:OS w base v ls)(hb:base'≤base):OS w base' v ls:=
 ⟨h.1,h.2.imp id fun⟨g,cap,cur,hv,hg,rest⟩=>⟨g,cap,cur,hv,ae hb hg,rest⟩⟩
theorem OS.appK{w:World}{base:Nat}{v:Value}{ls:List (List UInt8)}(h:OS w base v ls)(l:List UInt8)(hl:ls.length≤1000000)(hb:base≤w.heap.size) :
  ∃g cap W,(Builtin.append_ #[240,240] 240 #[v,.slice (some ⟨w.heap.size,0,none⟩) 1 1]).run Tryz.prog (w.alloc (.cells #[.string (str l)] 9))=.ok (.slice (some ⟨g,0,none⟩) (ls.length+1) cap) W∧
   OS W base (.slice (some ⟨g,0,none⟩) (ls.length+1) cap) (ls++[l])∧Below base w W∧KeepsOthers w W∧(v.ownBlock=some g∨w.heap.size≤g):=by
 obtain⟨i0,hi,jy,ee,et⟩:=info_parts qy;have ho:=World.ownsRow.alloc h (.cells #[.string (str l)] 9);obtain⟨g,cap,W,h1,h2,h3,h4⟩:=ei 240 Tryz.underlying240 hi jy ee et rfl (by omega) ho ⟨w.heap.size,0,none⟩ 1 1 [.string (str l)] rfl (World.news_of_block (aw.new w #[.string (str l)] 9)) (by intro u hu;simp at hu;subst hu;rfl) (by omega) (by unfold maxLen;omega) (by omega) (by simp;omega);refine⟨g,cap,W,h1,?_,?_,(KeepsOthers.alloc _ _).trans (ru h3 (fun k hk=>by obtain⟨-,cur,hc⟩:=aD ho hk;exact⟨_,_,_,hc⟩)),h4.imp id (fun h=>by rw[h];simp)⟩
 ·unfold OS;rw[List.length_append,List.length_singleton,List.flatMap_append];exact h2
 ·refine(((Below.refl base w).alloc hb _)).trans (h3.below (fun k hk=>(h.lt k hk).1) (by simp;omega))
theorem iZ{F:Fence}{n:Nat}{P:Program}{ops:Array Oper}{rest:List Oper}{o:Oper}{a:Act}{w W:World}{Q:Exit→Act→World→Prop}{s x:Operand}{t:TypeId}{v y r:Value}
  (hgd:o.guard=none) (ho:o.op=.call {callee:=.builtin .append,args:=#[s,x],argTypes:=#[t,t]}) (hs:a.eval s=v) (hx:a.eval x=y)
  (hrun:(Builtin.append_ #[t,t] o.type #[v,y]).run P w=.ok r W) (h:wpListIn F n P ops Q rest (a.put o.dst r) W):wpListIn F n P ops Q (o::rest) a w:=
 wpListIn_plain hgd fun K hK=>by
  unfold Oper.wpIn;refine⟨by simp[Oper.about,ho,resolve,Target.leads,Sem.run_pure],?_⟩;rw[Oper.semAt_plain F _ _ (by rw[ho];intro c hc;cases hc)];simp[execOp,ho,resolve,invoke,builtin,hs,hx,hrun,Result.andThen];exact hK _ _ h
structure CI(T:Nat→Prop)(w:World)(B base:Nat)(pre:List (List UInt8))(W:World):Prop where
 box:∃v,aw W B #[v] 240∧OS W base v pre
 mod:Mod T w W
theorem Fo{T:Nat→Prop}{N:Nat}{w W W':World}(h:Mod T w W)(ht:dN T N eK W W')(hN:w.heap.size≤N):Mod T w W':=by
 refine⟨ht.os.trans h.os,ht.tape.trans h.tape,ht.output.trans h.output,ae h.size ht.size,fun k hk hs=>?_⟩;obtain⟨o,ho⟩:∃o,w.heap[k]?=some o:=⟨w.heap[k]'(by omega),Array.getElem?_eq_getElem _⟩;rw[ht.block k o ((h.block k hk hs).trans ho) hs (fun h=>by omega),ho]
theorem AX{g:Nat}{lb:Array Value}(eg:∀args w,(callFunc g args).run Tryz.prog w=.ok (.enter g args) w){T:Nat→Prop}{S Sp:List (List UInt8)→Prop}{V:List (List UInt8)→List UInt8→Prop}(w:World)
  (hseq:JF T Fence.wide 4 Tryz.prog g lb (fun x:List UInt8=>#[.string (str x)]) S Sp V w) (hT:∀k,T k→k<w.heap.size) (hV:∀pre x,V pre x→pre.length≤1000000) :
  Calls Tryz.prog 190 #[.slice none 0 0,.func (.func g) #[] lb] w fun e w'=>(∃v ss,e=.returned v∧S ss∧OS w' w.heap.size v ss)∧Mod T w w':=by
 refine(callsIn_wide (n:=5)).1 ?_;refine callsIn_of_wp_marks Tryz.func190 rfl trivial ?_ rfl;simp only[Tryz.ntmps190,List.size_toArray,List.length_cons,List.length_nil,Nat.reduceAdd,Nat.reduceSub,Array.replicate_succ,Array.replicate_zero,List.push_toArray,List.append_toArray,List.nil_append,List.cons_append];obtain⟨q0,AF⟩:=Qh w #[.slice none 0 0] 240;have hz:(w.alloc (.cells #[.slice none 0 0] 240)).heap.size=w.heap.size+1:=by simp
 have HSq:=Qf hseq;clear hseq;gi_wp2;generalize w.alloc _=W1 at q0 AF hz⊢;refine' wh (T:=T) rfl (by omega) (gf:=g) (lb:=lb) rfl trivial eg HSq.o (fun k hk=>by have:=hT k hk;omega) (KT.ar AF hT) (fun _=>rfl)
  (fun pre W=>CI T w w.heap.size W1.heap.size pre W)
  (fun _ _ _=>False)
  (fun pre A B h ht=>?own) (fun c pre A B h ht=>h) ⟨⟨_,q0,OS.nil _ _⟩,Mod.ar AF⟩ _ ?assign ?body ?done (fun D c pre W _ _ h _=>h.elim)
 case own=>
  obtain⟨⟨v,h1,h2⟩,h3⟩:=h;exact⟨⟨v,ht.block _ _ h1 (fun e=>by have:=hT _ e;omega) (fun _=>rfl),h2.fH (fun k cur hk hc=>ht.block _ _ hc (fun e=>by have:=hT _ e;omega) (fun _=>rfl))⟩,Fo h3 ht (by omega)⟩
 case assign=>
  intro L x W K hK;gi_wp2;exact hK
 case body=>
  rintro L pre x W hL hLW ⟨⟨v,b1,hO⟩,hM⟩ hv;obtain⟨a,c,rfl,-,-,-⟩:=bC hO;obtain⟨g2,cap2,W2,hrun,kA,cT,hKO,xN⟩:=hO.appK x (hV _ _ hv) (show W1.heap.size≤W.heap.size by omega);have hlp:=hO.1;have HR:=Qf hrun;have k1:=b1.l4 cT (show w.heap.size<W1.heap.size by omega);obtain⟨c1,f1,z1⟩:=b1.facts;obtain⟨d1,e1,y1⟩:=k1.facts;have K1:=Qf k1;have HX:=Qf (ag kA (ag cT (ag hKO (ag hM xN))));clear hrun kA cT k1 b1 hKO hM hO xN hlp
  gi_wp2_with (gi_at_builtin;refine iZ rfl rfl rfl rfl HR.o ?_)
  obtain⟨kA,cT,hKO,hM,xN⟩:=HX.o;have hm:=(Mod.refl (fun k=>k=w.heap.size) W2).setCell (a:=⟨w.heap.size,0,none⟩) (.inl rfl) (.slice (some ⟨g2,0,none⟩) (pre.length+1) cap2);refine⟨(hKO.trans (KeepsOthers.setCell _ _ _)).from _,⟨ae cT.size hm.size,fun k hk=>?_⟩,⟨⟨_,K1.out.set 0 _,kA.fH (fun k cur hk hc=>(hm.block k (Array.getElem?_eq_some_iff.1 hc).1 (by omega)).trans hc)⟩,?_⟩⟩
  ·have:=hT k hk;rw[hm.block k (by have:=cT.size;omega) (by omega)];exact cT.block k (by omega)
  ·refine⟨hm.os.trans (cT.os.trans hM.os),hm.tape.trans (cT.tape.trans hM.tape),hm.output.trans (cT.output.trans hM.output),ae hM.size (ae cT.size hm.size),fun k hk hs=>?_⟩;rw[hm.block k (by have:=cT.size;have:=hM.size;omega) (by omega),cT.block k (by omega)];exact hM.block k hk hs
 case done=>
  rintro D xs W hD hS ⟨⟨v,b1,hO⟩,hM⟩ hK;obtain⟨a,c,rfl,-,-,-⟩:=bC hO;obtain⟨c1,f1,z1⟩:=b1.facts;have HO:=Qf (ag hO hM);clear hO hM b1;gi_wp2;show LeavesInM Fence.wide 5 Tryz.prog Tryz.f190 _ _ _ _ W;refine⟨by simp,.inl ⟨_,_,rfl,run_takeDeferred hK,?_⟩⟩;refine⟨.slice a xs.length c,by simp[results,Tryz.results190,go_sem],⟨_,_,rfl,hS,(HO.o.1.low (show w.heap.size≤W1.heap.size by omega)).fH (fun k cur hk hc=>(World.putObj_heap_other (fun e=>by subst e;rw[hK] at hc;cases hc)).trans hc)⟩,?_⟩;have hm:=HO.o.2;exact⟨hm.os,hm.tape,hm.output,ae hm.size (by simp),fun k hk hs=>(World.putObj_heap_other (fun e=>by omega)).trans (hm.block k hk hs)⟩
theorem yx{g:Nat}{lb:Array Value}(eg:∀args w,(callFunc g args).run Tryz.prog w=.ok (.enter g args) w){T:Nat→Prop}{S Sp:List (List UInt8)→Prop}{V:List (List UInt8)→List UInt8→Prop}(w:World)
  (hseq:JF T Fence.wide 4 Tryz.prog g lb (fun x:List UInt8=>#[.string (str x)]) S Sp V w) (hT:∀k,T k→k<w.heap.size) (hV:∀pre x,V pre x→pre.length≤1000000) :
  Calls Tryz.prog 160 #[.func (.func g) #[] lb] w fun e w'=>(∃v ss,e=.returned v∧S ss∧OS w' w.heap.size v ss)∧Mod T w w':=by
 have HA:=Qf (AX eg w hseq hT hV);clear hseq hT hV eg;go_enter Tryz.func160,Tryz.ntmps160;go_wp2_with fail;refine HA.o.mono ?_;rintro e w1 ⟨⟨v,ss,rfl,hS,hO⟩,hM⟩;have HX:=Qf (ag hS (ag hO hM));clear hS hO hM;go_wp2_with fail;go_ret;exact⟨⟨v,ss,rfl,HX.o.1,HX.o.2.1⟩,HX.o.2.2⟩
theorem qZ(s:ByteArray)(w:World) :
  Calls Tryz.prog 161 #[.string s] w fun e w'=>e=.returned (.func (.func 191) #[] #[.pointer (some ⟨w.heap.size,0,none⟩)])∧w'=w.alloc (.cells #[.string s] 9):=by
 go_enter Tryz.func161,Tryz.ntmps161;go_wp2_with fail;go_ret;exact⟨rfl,rfl⟩
theorem nh(s:ByteArray)(hs:s.size≤100000)(w:World) :
  Calls Tryz.prog 160 #[.func (.func 191) #[] #[.pointer (some ⟨w.heap.size,0,none⟩)]] (w.alloc (.cells #[.string s] 9)) fun e w'=>(∃v,e=.returned v∧OS w' w.heap.size v (bF s.data.toList))∧Qi w w':=by
 have hz:(w.alloc (.cells #[.string s] 9)).heap.size=w.heap.size+1:=by simp
 refine(yx (enters_of Tryz.func191 (by kernel_rfl) rfl) (w.alloc (.cells #[.string s] 9)) (xl 4 (by omega) w.heap.size s hs _ (aw.new w #[.string s] 9)) (fun k hk=>by omega) (fun pre x h=>?_)).mono ?_
 ·have h1:=h.length_le;have h2:=iy s.data.toList;have h3:s.data.toList.length=s.size:=Array.length_toList;rw[List.length_append,List.length_singleton] at h1;omega
 ·rintro e w1 ⟨⟨v,ss,rfl,rfl,hO⟩,hM⟩;exact⟨⟨v,rfl,hO.low (by omega)⟩,(aq (Qj w) _).trans (hM.below (fun k hk=>by omega) (by omega))⟩
end
section
open Go.RowKit
section
variable{w w':World}{pw:Nat}{R:Rp}{S:Fs}
theorem se{P:Program}{fn:Func}{R:Ending→World→Prop}:∀c d v a w,bodyPost P fn R (.panic c) (Act.put a d v) w→bodyPost P fn R (.panic c) a w:=
 fun c d v a w h=>by
  have h':(Act.put a d v).defers=[]∧R (.panicked c) w:=h;exact show a.defers=[]∧R (.panicked c) w from⟨by rw[←h'.1];cases d<;>rfl,h'.2⟩
theorem lg(h:bm w pw R S)(dir now:Int)(d:An)(hg:S.get dir=some d)(l:List En)(a:Option Addr)(n c:Nat)(hl:aA w a n c l) :
  Calls Tryz.prog 109 #[.pointer (some ⟨pw,0,none⟩),.int .i64 dir,.int .i64 now,.slice a n c] w fun e w'=>e=.returned (.tuple #[])∧∃R',bm w' pw R' (S.bE now dir l)∧aR (R.F pw) (R'.F pw) w w':=by
 obtain⟨ea,el,ec,he,hG⟩:=eV h hg;have HG:=Qf (hG w (Below.refl _ _));unfold An.v at HG;have HT:=Qf (show S.bE now dir l=S.set {d with ay:=l,mtime:=now,ctime:=now} by unfold Fs.bE;rw[hg]);have hno:=cj hg;have ed:=Qf (fun w1 (av:Qi w w1)=>(h.ak av).zJ {d with ay:=l,mtime:=now,ctime:=now} (hl.ak av) (b:=d) (by rw[show({d with ay:=l,mtime:=now,ctime:=now}:An).no=d.no from rfl,hno];exact hg));unfold An.v at ed;obtain⟨pc,-,pz⟩:=h.aZ.facts;have mixed:Tryz.prog.follows .mixedOrders=true:=by kernel_rfl
 clear h hg he hG hno hl;go_enter Tryz.func109,Tryz.ntmps109;go_wp2_with fail;refine HG.o.mono ?_;rintro e w1 ⟨rfl,av⟩;have pc0:(w1.alloc (.cells #[.int .i64 d.no,.int .i64 d.dev,.int .i64 d.kind,.int .i64 d.mode,.int .i64 d.uid,.int .i64 d.gid,.int .i64 now,.int .i64 now,.int .i64 d.ao,.int .i64 d.up,.string d.data,.slice a n c] 149)).cell? ⟨pw,0,none⟩=_:=((aq av (.cells #[.int .i64 d.no,.int .i64 d.dev,.int .i64 d.kind,.int .i64 d.mode,.int .i64 d.uid,.int .i64 d.gid,.int .i64 now,.int .i64 now,.int .i64 d.ao,.int .i64 d.up,.string d.data,.slice a n c] 149)).cell (p:=⟨pw,0,none⟩) pz).trans (pc 0);have hB:=aw.new w1 #[.int .i64 d.no,.int .i64 d.dev,.int .i64 d.kind,.int .i64 d.mode,.int .i64 d.uid,.int .i64 d.gid,.int .i64 now,.int .i64 now,.int .i64 d.ao,.int .i64 d.up,.string d.data,.slice a n c] 149;have aI:=aq av (.cells #[.int .i64 d.no,.int .i64 d.dev,.int .i64 d.kind,.int .i64 d.mode,.int .i64 d.uid,.int .i64 d.gid,.int .i64 now,.int .i64 now,.int .i64 d.ao,.int .i64 d.up,.string d.data,.slice a n c] 149);clear pc av;go_wp2_with fail;generalize w1.alloc _=X at pc0 hB aI⊢;obtain⟨bc,-,bz⟩:=hB.facts;have HS:=Qf (ed.o _ aI.drew);have HX:=Qf aI;clear hB aI;refine aG 5 mixed (by kernel_rfl) se ?_;simp only[List.take_succ_cons,List.take_zero,List.drop_succ_cons,List.drop_zero]
 repeat still_step
 refine wpStill_nil ?_;go_wp2_with fail;refine HS.o.mono ?_;rintro e w5 ⟨rfl,R',eh,dq,-,-⟩;have HR:=Qf (ag eh dq);clear eh dq;go_wp2_with fail
 go_end0
 rw[HT.o];exact⟨rfl,R',HR.o.1,(aR.ar HX.o.drew).trans HR.o.2⟩
end
end
section
open Go.RowKit
def oH(a b:ByteArray):Int:=if fZ a b=true then -1 else if fZ b a=true then 1 else 0
theorem JB(a b:ByteArray):(oH a b<0)=(fZ a b=true):=by
 unfold oH
 cases h:fZ a b
 ·simp;split<;>omega
 ·simp
theorem BL(a b:ByteArray):(oH a b=0)=(a=b):=by
 unfold oH
 cases h:fZ a b
 ·cases k:fZ b a
  ·simp[lC h k]
  ·simp[(Aa k).symm]
 ·simp[Aa h]
theorem yw(a b:ByteArray)(w:World) :
  Calls Tryz.prog 147 #[.string a,.string b] w fun e w'=>e=.returned (.int .i64 (oH a b))∧w=w':=by
 unfold oH
 cases h:fZ a b
 ·cases k:fZ b a
  ·obtain rfl:a=b:=lC h k;rw[←rl] at h;clear k;go_enter Tryz.func147,Tryz.ntmps147
   go_wp2
   go_ret;exact⟨rfl,rfl⟩
  ·have hne:¬a.toList=b.toList:=fun e=>by
    rw[ByteArray.toList_eq,ByteArray.toList_eq] at e;rw[sg e,gC] at k
    cases k
   have hq:(a.toList==b.toList)=false:=by simpa using hne
   rw[←rl] at h;clear k;go_enter Tryz.func147,Tryz.ntmps147
   go_wp2
   go_ret;exact⟨rfl,rfl⟩
 ·rw[←rl] at h;go_enter Tryz.func147,Tryz.ntmps147
  go_wp2
  go_ret;exact⟨rfl,rfl⟩
theorem vF(x:En)(n:ByteArray)(w:World) :
  Calls Tryz.prog 106 #[.agg #[.string x.name,.int .i64 x.no],.string n] w fun e w'=>e=.returned (.int .i64 (oH x.name n))∧Qi w w':=by
 go_enter Tryz.func106,Tryz.ntmps106;go_wp2_with (go_at_call 147;refine(yw _ _ _).mono ?_;rintro e w1 ⟨rfl,rfl⟩);go_ret;exact⟨rfl,by go_grown⟩
end
section
open Go.RowKit
def gn(es:List En)(s:ByteArray):Bool:=(es.find? (fun x=>decide (x.name=s))).isSome
theorem mh(es:List En)(a:Option Addr)(n c:Nat)(s:ByteArray)(w:World)(he:aA w a n c es)(hr:gQ es)(hn:n≤1000000) :
  Calls Tryz.prog 105 #[.slice a n c,.string s,.func (.func 106) #[] #[]] w fun e w'=>e=.returned (.tuple #[.int .i64 (cX es s),.bool (gn es s)])∧Qi w w':=by
 have hl:=he.len;have HR:=Qf hr;have HE:=Qf he;have hat:=rQ es s;clear hr he;obtain⟨A,hA⟩:∃A,cX es s=A:=⟨_,rfl⟩;have HA:=Qf hA;rw[hA] at hat⊢;clear hA;go_enter Tryz.func105,Tryz.ntmps105;go_wp2_with fail
 go_loopw [9,10] (fun i j wr=>∃lo hi:Nat,lo≤A∧A≤hi∧hi≤n∧i=.int .i64 lo∧j=.int .i64 hi∧Qi w wr) (fun i j _=>(intOf j-intOf i).toNat)
 case atStart=>exact⟨0,n,by omega,by omega,by omega,rfl,rfl,Below.refl _ _⟩
 case round=>
  obtain⟨lo,hi,h1,h2,h3,rfl,rfl,hB⟩:=hrel;by_cases hlt:lo<hi
  ·obtain⟨b,off,rfl,hb⟩:=HE.o.dL (by omega);obtain⟨k,hk⟩:∃k:Nat,(lo+hi) / 2=k:=⟨_,rfl⟩;have hkl:k<es.length:=by omega
   obtain⟨c1,c2⟩:=(HE.o.ak hB).cell k hkl;obtain⟨x,hx⟩:∃x,es[k]=x:=⟨_,rfl⟩;rw[hx] at c1 c2;have hcv:(oH x.name s<0)=(k<A):=by
    rw[JB,←hx,uK HR.o s k hkl,HA.o];simp
   by_cases hkA:k<A
   ·have hneg:oH x.name s<0:=by rw[hcv];exact hkA
    clear hcv hx;go_wp2_with fail;refine(vF x s _).mono ?_;rintro e w1 ⟨rfl,av⟩;go_wp2_with fail;go_roundw
    case rel=>exact⟨k+1,hi,by omega,by omega,h3,by go_num,rfl,au hB av⟩
    case measure=>simp[intOf];omega
   ·have hneg:¬oH x.name s<0:=by rw[hcv];exact hkA
    clear hcv hx;go_wp2_with fail;refine(vF x s _).mono ?_;rintro e w1 ⟨rfl,av⟩;go_wp2_with fail;go_roundw
    case rel=>exact⟨lo,k,by omega,by omega,by omega,rfl,by rw[show((lo:Int)+(hi:Int)) / 2=(k:Int) by omega],au hB av⟩
    case measure=>simp[intOf];omega
  ·obtain rfl:lo=A:=by omega
   by_cases Pk:lo<n
   ·obtain⟨b,off,rfl,hb⟩:=HE.o.dL (by omega);have hkl:lo<es.length:=by omega
    obtain⟨c1,c2⟩:=(HE.o.ak hB).cell lo hkl;obtain⟨x,hx⟩:∃x,es[lo]=x:=⟨_,rfl⟩;rw[hx] at c1 c2;by_cases hxs:x.name=s
    ·have hz:oH x.name s=0:=by rw[BL];exact hxs
     have HF:=Qf (show gn es s=true by
      unfold gn;rw[lH HR.o s,dif_pos (by rw[HA.o];exact hkl),if_pos (by simp only[HA.o,hx];exact hxs)];rfl)
     have Hz:=Qf hz;clear hx hxs hz;go_wp2_with fail;refine(vF x s _).mono ?_;rw[Hz.o];rintro e w1 ⟨rfl,av⟩;go_wp2_with fail;go_ret2;exact⟨by rw[HF.o];rfl,au hB av⟩
    ·have hz:¬oH x.name s=0:=by rw[BL];exact hxs
     have HF:=Qf (show gn es s=false by
      unfold gn;rw[lH HR.o s,dif_pos (by rw[HA.o];exact hkl),if_neg (by simp only[HA.o,hx];exact hxs)];rfl)
     have et:(oH x.name s==0)=false:=by simpa using hz
     clear hx hxs hz;go_wp2_with fail;refine(vF x s _).mono ?_;rintro e w1 ⟨rfl,av⟩;go_wp2_with fail;go_ret2;exact⟨by rw[HF.o];rfl,au hB av⟩
   ·have HF:=Qf (show gn es s=false by
     unfold gn;rw[lH HR.o s,dif_neg (by rw[HA.o];omega)];rfl)
    go_wp2_with fail;go_ret2;exact⟨by rw[HF.o];rfl,hB⟩
theorem FN{es:List En}{s:ByteArray}(h:gn es s=false):aF es s=0:=by
 unfold gn at h;unfold aF
 cases hf:es.find? (fun x=>decide (x.name=s)) with
 |none=>rfl
 |some x=>rw[hf] at h;cases h
theorem JD{es:List En}{s:ByteArray}(hr:gQ es)(h:gn es s=true):∃hk:cX es s<es.length,aF es s=es[cX es s].no∧es[cX es s].name=s:=by
 unfold gn at h;unfold aF;rw[lH hr s] at h⊢
 split at h
 ·rename_i hk
  split at h
  ·rename_i hx;refine⟨hk,?_,hx⟩;rw[dif_pos hk,if_pos hx]
  ·cases h
 ·cases h
theorem fX(es:List En)(a:Option Addr)(n c:Nat)(s:ByteArray)(w:World)(he:aA w a n c es)(hr:gQ es)(hn:n≤1000000) :
  Calls Tryz.prog 66 #[.slice a n c,.string s] w fun e w'=>e=.returned (.int .i64 (aF es s))∧Qi w w':=by
 have hl:=he.len;have HS:=Qf (mh es a n c s w he hr hn)
 cases hh:gn es s
 ·rw[hh] at HS;rw[FN hh];go_enter Tryz.func66,Tryz.ntmps66;go_wp2_with fail;refine HS.o.mono ?_;rintro e w1 ⟨rfl,av⟩;go_wp2_with fail;go_ret;exact⟨rfl,av⟩
 ·rw[hh] at HS;obtain⟨hk,hf,-⟩:=JD hr hh;rw[hf];obtain⟨b,off,rfl,hb⟩:=he.dL (by omega);obtain⟨A,hA⟩:∃A,cX es s=A:=⟨_,rfl⟩;simp only[hA] at hk HS⊢;obtain⟨x,hx⟩:∃x,es[A]=x:=⟨_,rfl⟩;rw[hx];have HE:=Qf he;clear hf hA he hh;go_enter Tryz.func66,Tryz.ntmps66;go_wp2_with fail;refine HS.o.mono ?_;rintro e w1 ⟨rfl,av⟩;obtain⟨c1,c2⟩:=(HE.o.ak av).cell A hk;rw[hx] at c1 c2;go_wp2_with fail;go_ret;exact⟨rfl,av⟩
end
end Go.Proofs.YtabbjaomlmnnhaaGreat
