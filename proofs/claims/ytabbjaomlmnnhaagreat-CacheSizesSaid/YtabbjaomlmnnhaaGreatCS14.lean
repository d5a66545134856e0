import Derived.Test.YtabbjaomlmnnhaaGreatCS13
import Derived.Test.YtabbjaomlmnnhaaGreatCS5
import Derived.Test.YtabbjaomlmnnhaaGreatCS7
set_option linter.unusedVariables false
set_option linter.unusedSimpArgs false
set_option maxRecDepth 100000
set_option maxHeartbeats 16000000
namespace Go.Proofs.YtabbjaomlmnnhaaGreat
section
open Go.RowKit
def oJ(m:Int)(n:Nat):Bool:=bits .and .i64 (m / 2 ^ n) 1==1
def rJ(cu cg uid gid:Int):Nat:=if cu=uid then 6 else if cg=gid then 3 else 0
def eH(mode want:Int)(f k:Nat):Bool:=(List.range k).all fun i=>!oJ want i||oJ mode (f+i)
def qN(cu cg uid gid mode want:Int):Bool:=if eH mode want (rJ cu cg uid gid) 3 then true else decide (cu=0)
theorem Gs:∀m:Fin 1024,∀k:Fin 8,(eH (m.val:Int) (k.val:Int) 6 3=(bits .and .i64 (bits .and .i64 ((m.val:Int) / 64) (k.val:Int)) 7==bits .and .i64 (k.val:Int) 7))∧(eH (m.val:Int) (k.val:Int) 3 3=(bits .and .i64 (bits .and .i64 ((m.val:Int) / 8) (k.val:Int)) 7==bits .and .i64 (k.val:Int) 7))∧(eH (m.val:Int) (k.val:Int) 0 3=(bits .and .i64 (bits .and .i64 (m.val:Int) (k.val:Int)) 7==bits .and .i64 (k.val:Int) 7)):=by
 decide +kernel
theorem Fq(cu cg uid gid mode want:Int)(hm:0≤mode∧mode≤1023)(hw:0≤want∧want≤7):qN cu cg uid gid mode want=tB cu cg uid gid mode want:=by
 obtain⟨m,rfl⟩:∃m:Nat,mode=m:=⟨mode.toNat,by omega⟩;obtain⟨k,rfl⟩:∃k:Nat,want=k:=⟨want.toNat,by omega⟩;obtain⟨t1,t2,t3⟩:=Gs ⟨m,by omega⟩ ⟨k,by omega⟩;simp only at t1 t2 t3;unfold qN tB rJ;by_cases h0:cu=0
 ·rw[if_pos h0,decide_eq_true h0];simp
 ·rw[if_neg h0,decide_eq_false h0];by_cases h1:cu=uid
  ·rw[if_pos h1,if_pos h1,t1]
   cases (bits .and .i64 (bits .and .i64 ((m:Int) / 64) (k:Int)) 7==bits .and .i64 (k:Int) 7)<;>rfl
  ·rw[if_neg h1,if_neg h1];by_cases h2:cg=gid
   ·rw[if_pos h2,if_pos h2,t2]
    cases (bits .and .i64 (bits .and .i64 ((m:Int) / 8) (k:Int)) 7==bits .and .i64 (k:Int) 7)<;>rfl
   ·rw[if_neg h2,if_neg h2,t3]
    cases (bits .and .i64 (bits .and .i64 (m:Int) (k:Int)) 7==bits .and .i64 (k:Int) 7)<;>rfl
theorem CN(m:Int)(n:Nat)(hn:n≤100)(w:World) :
  Calls Tryz.prog 202 #[.int .i64 m,.int .i64 n] w fun e w'=>e=.returned (.bool (oJ m n))∧w'=w:=by
 go_enter Tryz.func202,Tryz.ntmps202;go_wp2_with fail
 go_loopw [0,5] (fun t0 t5 wr=>∃(k:Nat),k≤n∧t0=.int .i64 (m / 2 ^ k)∧t5=.int .i64 k∧wr=w) (fun _ t5 _=>n-(intOf t5).toNat)
 case atStart=>exact⟨0,Nat.zero_le _,by simp,rfl,rfl⟩
 case round=>
  obtain⟨k,hk,rfl,rfl,rfl⟩:=hrel;by_cases hlt:k<n
  ·go_wp2_with fail;go_roundw
   case measure=>simp[intOf];omega
   case rel=>
    refine⟨k+1,by omega,?_,by go_num,by trivial⟩;rw[Int.pow_succ,Int.ediv_ediv_of_nonneg (Int.pow_nonneg (by decide))]
  ·obtain rfl:k=n:=by omega
   go_wp2_with fail;go_ret;exact⟨rfl,rfl⟩
theorem k7(mode want:Int)(f k:Nat):eH mode want f (k+1)=(eH mode want f k&&(!oJ want k||oJ mode (f+k))):=by
 unfold eH;rw[List.range_succ,List.all_append];simp
theorem k8{mode want:Int}{f k:Nat}(hk:k<3)(h1:oJ want k=true)(h2:oJ mode (f+k)=false):eH mode want f 3=false:=by
 unfold eH;rw[List.all_eq_false];exact⟨k,List.mem_range.2 hk,by rw[h1,h2];simp⟩
theorem CC(cu cg uid gid mode want:Int)(w:World) :
  Calls Tryz.prog 194 #[.agg #[.int .i64 cu,.int .i64 cg],.int .i64 uid,.int .i64 gid,.int .i64 mode,.int .i64 want] w fun e w'=>e=.returned (.bool (qN cu cg uid gid mode want))∧Qi w w':=by
 have mO:=Qf (fun m (n:Nat) hn w=>CN m n hn w);have hB:=aw.new w #[.int .i64 cu,.int .i64 cg] 64;have bP:=Qf (aq (Qj w) (.cells #[.int .i64 cu,.int .i64 cg] 64));obtain⟨qc,qf,qz⟩:=hB.facts;have HR:=Qf (show qN cu cg uid gid mode want=if eH mode want (rJ cu cg uid gid) 3 then true else decide (cu=0) from rfl);have hcase:((cu==uid)=true∧rJ cu cg uid gid=6)∨((cu==uid)=false∧(cg==gid)=true∧rJ cu cg uid gid=3)∨((cu==uid)=false∧(cg==gid)=false∧rJ cu cg uid gid=0):=by
  unfold rJ;by_cases h1:cu=uid
  ·exact .inl ⟨by simpa using h1,if_pos h1⟩
  ·by_cases h2:cg=gid
   ·exact .inr (.inl ⟨by simpa using h1,by simpa using h2,by rw[if_neg h1,if_pos h2]⟩)
   ·exact .inr (.inr ⟨by simpa using h1,by simpa using h2,by rw[if_neg h1,if_neg h2]⟩)
 have hz:(cu==0)=decide (cu=0):=by
  rw[Bool.eq_iff_iff];simp
 have HZ:=Qf hz;clear hB hz;generalize qN cu cg uid gid mode want=RR at HR⊢;go_enter Tryz.func194,Tryz.ntmps194;go_upto_region 2 with fail;generalize w.alloc _=X at bP qc qf qz⊢;rcases hcase with⟨h1,hf⟩|⟨h1,h2,hf⟩|⟨h1,h2,hf⟩
 ·rw[hf] at HR;clear hf;go_wp2_with fail
  go_loopw [12] (fun t12 wr=>∃k:Nat,k≤3∧t12=.int .i64 k∧wr=X∧eH mode want 6 k=true) (fun t12 _=>3-(intOf t12).toNat)
  case atStart=>exact⟨0,Nat.zero_le _,rfl,rfl,rfl⟩
  case round=>
   obtain⟨k,hk,rfl,hwr,hok⟩:=hrel;have hwr:=hwr.symm;subst hwr;have fY:=Qf hok;clear hok;by_cases hlt:k<3
   ·have gm:(k:Int)<3:=by omega
    have jh:=Qf (k7 mode want 6 k);have iQ:=Qf (fun h1 h2=>k8 (mode:=mode) (want:=want) (f:=6) hlt h1 h2);go_wp2_with fail;refine(mO.o want k (by omega) _).mono ?_;rintro e w2 ⟨rfl,rfl⟩;obtain⟨b1,av⟩:∃b,oJ want k=b:=⟨_,rfl⟩;rw[av] at jh iQ;rw[av];clear av
    cases b1 with
    |false=>
     have HN:=Qf (show eH mode want 6 (k+1)=true by rw[jh.o,fY.o];rfl);go_wp2_with fail;go_roundw
     case measure=>simp[intOf];omega
     case rel=>exact⟨k+1,by omega,by go_num,by first|rfl|trivial,HN.o⟩
    |true=>
     have hfk:IntKind.i64.wrap ((6:Int)+(k:Int))=(6:Int)+(k:Int):=by rw[IntKind.wrap_i64];omega
     go_wp2_with fail;have h2:=mO.o mode (6+k) (by omega);rw[show((6+k:Nat):Int)=(6:Int)+(k:Int) from by omega] at h2;refine(h2 _).mono ?_;rintro e w3 ⟨rfl,rfl⟩;obtain⟨b2,aS⟩:∃b,oJ mode (6+k)=b:=⟨_,rfl⟩;rw[aS] at jh iQ;rw[aS];clear aS
     cases b2 with
     |false=>
      have HN:=Qf (show RR=decide (cu=0) by rw[HR.o,iQ.o (by first|rfl|trivial) (by first|rfl|trivial)];simp);have hzz:=HZ.o;go_wp2_with fail;go_ret;exact⟨dk (by rw[HN.o,←HZ.o]),bP.o⟩
     |true=>
      have HN:=Qf (show eH mode want 6 (k+1)=true by rw[jh.o,fY.o];rfl);go_wp2_with fail;go_roundw
      case measure=>simp[intOf];omega
      case rel=>exact⟨k+1,by omega,by go_num,by first|rfl|trivial,HN.o⟩
   ·obtain rfl:k=3:=by omega
    have HN:=Qf (show RR=true by rw[HR.o,fY.o,if_pos rfl]);go_wp2_with fail;go_ret;exact⟨dk HN.o.symm,bP.o⟩
 ·rw[hf] at HR;clear hf;go_wp2_with fail
  go_loopw [12] (fun t12 wr=>∃k:Nat,k≤3∧t12=.int .i64 k∧wr=X∧eH mode want 3 k=true) (fun t12 _=>3-(intOf t12).toNat)
  case atStart=>exact⟨0,Nat.zero_le _,rfl,rfl,rfl⟩
  case round=>
   obtain⟨k,hk,rfl,hwr,hok⟩:=hrel;have hwr:=hwr.symm;subst hwr;have fY:=Qf hok;clear hok;by_cases hlt:k<3
   ·have gm:(k:Int)<3:=by omega
    have jh:=Qf (k7 mode want 3 k);have iQ:=Qf (fun h1 h2=>k8 (mode:=mode) (want:=want) (f:=3) hlt h1 h2);go_wp2_with fail;refine(mO.o want k (by omega) _).mono ?_;rintro e w2 ⟨rfl,rfl⟩;obtain⟨b1,av⟩:∃b,oJ want k=b:=⟨_,rfl⟩;rw[av] at jh iQ;rw[av];clear av
    cases b1 with
    |false=>
     have HN:=Qf (show eH mode want 3 (k+1)=true by rw[jh.o,fY.o];rfl);go_wp2_with fail;go_roundw
     case measure=>simp[intOf];omega
     case rel=>exact⟨k+1,by omega,by go_num,by first|rfl|trivial,HN.o⟩
    |true=>
     have hfk:IntKind.i64.wrap ((3:Int)+(k:Int))=(3:Int)+(k:Int):=by rw[IntKind.wrap_i64];omega
     go_wp2_with fail;have h2:=mO.o mode (3+k) (by omega);rw[show((3+k:Nat):Int)=(3:Int)+(k:Int) from by omega] at h2;refine(h2 _).mono ?_;rintro e w3 ⟨rfl,rfl⟩;obtain⟨b2,aS⟩:∃b,oJ mode (3+k)=b:=⟨_,rfl⟩;rw[aS] at jh iQ;rw[aS];clear aS
     cases b2 with
     |false=>
      have HN:=Qf (show RR=decide (cu=0) by rw[HR.o,iQ.o (by first|rfl|trivial) (by first|rfl|trivial)];simp);have hzz:=HZ.o;go_wp2_with fail;go_ret;exact⟨dk (by rw[HN.o,←HZ.o]),bP.o⟩
     |true=>
      have HN:=Qf (show eH mode want 3 (k+1)=true by rw[jh.o,fY.o];rfl);go_wp2_with fail;go_roundw
      case measure=>simp[intOf];omega
      case rel=>exact⟨k+1,by omega,by go_num,by first|rfl|trivial,HN.o⟩
   ·obtain rfl:k=3:=by omega
    have HN:=Qf (show RR=true by rw[HR.o,fY.o,if_pos rfl]);go_wp2_with fail;go_ret;exact⟨dk HN.o.symm,bP.o⟩
 ·rw[hf] at HR;clear hf;go_wp2_with fail
  go_loopw [12] (fun t12 wr=>∃k:Nat,k≤3∧t12=.int .i64 k∧wr=X∧eH mode want 0 k=true) (fun t12 _=>3-(intOf t12).toNat)
  case atStart=>exact⟨0,Nat.zero_le _,rfl,rfl,rfl⟩
  case round=>
   obtain⟨k,hk,rfl,hwr,hok⟩:=hrel;have hwr:=hwr.symm;subst hwr;have fY:=Qf hok;clear hok;by_cases hlt:k<3
   ·have gm:(k:Int)<3:=by omega
    have jh:=Qf (k7 mode want 0 k);have iQ:=Qf (fun h1 h2=>k8 (mode:=mode) (want:=want) (f:=0) hlt h1 h2);go_wp2_with fail;refine(mO.o want k (by omega) _).mono ?_;rintro e w2 ⟨rfl,rfl⟩;obtain⟨b1,av⟩:∃b,oJ want k=b:=⟨_,rfl⟩;rw[av] at jh iQ;rw[av];clear av
    cases b1 with
    |false=>
     have HN:=Qf (show eH mode want 0 (k+1)=true by rw[jh.o,fY.o];rfl);go_wp2_with fail;go_roundw
     case measure=>simp[intOf];omega
     case rel=>exact⟨k+1,by omega,by go_num,by first|rfl|trivial,HN.o⟩
    |true=>
     have hfk:IntKind.i64.wrap ((0:Int)+(k:Int))=(0:Int)+(k:Int):=by rw[IntKind.wrap_i64];omega
     go_wp2_with fail;have h2:=mO.o mode (0+k) (by omega);rw[show((0+k:Nat):Int)=(0:Int)+(k:Int) from by omega] at h2;refine(mO.o mode k (by omega) _).mono ?_;rintro e w3 ⟨rfl,rfl⟩;obtain⟨b2,aS⟩:∃b,oJ mode (0+k)=b:=⟨_,rfl⟩;rw[aS] at jh iQ;rw[Nat.zero_add] at aS;rw[aS];clear aS
     cases b2 with
     |false=>
      have HN:=Qf (show RR=decide (cu=0) by rw[HR.o,iQ.o (by first|rfl|trivial) (by first|rfl|trivial)];simp);have hzz:=HZ.o;go_wp2_with fail;go_ret;exact⟨dk (by rw[HN.o,←HZ.o]),bP.o⟩
     |true=>
      have HN:=Qf (show eH mode want 0 (k+1)=true by rw[jh.o,fY.o];rfl);go_wp2_with fail;go_roundw
      case measure=>simp[intOf];omega
      case rel=>exact⟨k+1,by omega,by go_num,by first|rfl|trivial,HN.o⟩
   ·obtain rfl:k=3:=by omega
    have HN:=Qf (show RR=true by rw[HR.o,fY.o,if_pos rfl]);go_wp2_with fail;go_ret;exact⟨dk HN.o.symm,bP.o⟩
theorem qJ(c:Cr)(a:An)(ea:Option Addr)(el ec:Nat)(want:Int)(hm:0≤a.mode∧a.mode≤1023)(hw:0≤want∧want≤7)(w:World) :
  Calls Tryz.prog 170 #[.agg #[.int .i64 c.u,.int .i64 c.g],a.v ea el ec,.int .i64 want] w fun e w'=>e=.returned (.bool (a.may c want))∧Qi w w':=by
 have HS:=Qf (Fq c.u c.g a.uid a.gid a.mode want hm hw);have HM:=Qf (fun w=>CC c.u c.g a.uid a.gid a.mode want w);unfold An.may;rw[HS.o] at HM;generalize tB c.u c.g a.uid a.gid a.mode want=b at HM⊢;unfold An.v;go_enter Tryz.func170,Tryz.ntmps170;go_wp2_with fail;refine(HM.o _).mono ?_;rintro e w1 ⟨rfl,av⟩;go_wp2_with fail;go_ret;exact⟨rfl,au (aq (aq (Below.refl _ _) _) _) av⟩
end
section
open Go.RowKit
theorem eY{tmps:Array Value}{W:World}{B:Nat}{a:An}{ea:Option Addr}{el ec:Nat}{e:Int}(hb:aw W B #[.int .i64 a.no,.int .i64 a.dev,.int .i64 a.kind,.int .i64 a.mode,.int .i64 a.uid,.int .i64 a.gid,.int .i64 a.mtime,.int .i64 a.ctime,.int .i64 a.ao,.int .i64 a.up,.string a.data,.slice ea el ec] 149)
  (h8:tmps.getD 8 undef=.pointer (some ⟨B,0,none⟩)) (h9:tmps.getD 9 undef=.int .i64 e):(results Tryz.f178 tmps).run Tryz.prog W=.ok (.tuple #[a.v ea el ec,.int .i64 e]) W:=by
 obtain⟨q0,q1,q2,q3,q4,q5,q6,q7,q8,q9,q10,q11⟩:=hb.fB;rw[Array.getD_eq_getD_getElem?] at h8 h9;simp[results,Tryz.results178,go_sem,An.v,h8,h9,q0,q1,q2,q3,q4,q5,q6,q7,q8,q9,q10,q11]
section
variable{w w':World}{pf:Nat}{R:Rf}{S:Fs}
theorem nb(h:aN w pf R S)(cr:Cr)(dir:Int)(s:ByteArray)(hg:S.get dir=none) :
  Calls Tryz.prog 178 #[.pointer (some ⟨pf,0,none⟩),.agg #[.int .i64 cr.u,.int .i64 cr.g],.int .i64 dir,.string s] w fun e w'=>e=.returned (.tuple #[cS.v none 0 0,.int .i64 5])∧Qi w w':=by
 have HG:=Qf (fun w1 (av:Qi w w1)=>lx (h.ak av) hg);unfold An.v cS at HG;clear h hg;go_enter Tryz.func178,Tryz.ntmps178;go_wp2_with fail;refine(HG.o _ (aq (aq (Below.refl _ _) _) _)).mono ?_;rintro e w1 ⟨rfl,av⟩;have aS:=au (aq (aq (Qj w) _) _) av;have hR:aw w1 (w.heap.size+1) #[.int .i64 0,.int .i64 0,.int .i64 0,.int .i64 0,.int .i64 0,.int .i64 0,.int .i64 0,.int .i64 0,.int .i64 0,.int .i64 0,.string ByteArray.empty,.slice none 0 0] 149:=by
  have:=((aw.new (w.alloc (.cells #[.int .i64 cr.u,.int .i64 cr.g] 64)) #[.int .i64 0,.int .i64 0,.int .i64 0,.int .i64 0,.int .i64 0,.int .i64 0,.int .i64 0,.int .i64 0,.int .i64 0,.int .i64 0,.string ByteArray.empty,.slice none 0 0] 149).ak av)
  rwa [World.size_alloc] at this
 have eu:=hR.old (.cells #[.int .i64 0,.int .i64 0,.int .i64 0,.int .i64 0,.int .i64 0,.int .i64 0,.int .i64 0,.int .i64 0,.int .i64 0,.int .i64 0,.string ByteArray.empty,.slice none 0 0] 149);have aI:=aq aS (.cells #[.int .i64 0,.int .i64 0,.int .i64 0,.int .i64 0,.int .i64 0,.int .i64 0,.int .i64 0,.int .i64 0,.int .i64 0,.int .i64 0,.string ByteArray.empty,.slice none 0 0] 149);have gV:=aw.new w1 #[.int .i64 0,.int .i64 0,.int .i64 0,.int .i64 0,.int .i64 0,.int .i64 0,.int .i64 0,.int .i64 0,.int .i64 0,.int .i64 0,.string ByteArray.empty,.slice none 0 0] 149;clear hR av aS;go_upto_region 2 with fail;generalize w1.alloc _=X at eu aI gV⊢;obtain⟨dc,df,dz⟩:=gV.facts;have gd:=Qf eu;have aW:=Qf aI;obtain⟨rc,rf,rz⟩:=eu.facts;clear eu aI;go_wp2_with fail;exact bodyPost_ret (eY (a:=cS) gd.o.dh rfl rfl) rfl ⟨rfl,aT aW.o (Nat.le_succ _)⟩
theorem wO(h:aN w pf R S)(dir:Int)(s:ByteArray)(hg:S.get dir=none) :
  Calls Tryz.prog 178 #[.pointer (some ⟨pf,0,none⟩),.agg #[.int .i64 0,.int .i64 0],.int .i64 dir,.string s] w fun e w'=>e=.returned (.tuple #[cS.v none 0 0,.int .i64 5])∧Qi w w':=nb h bM dir s hg
theorem m'(h:aN w pf R S)(cr:Cr){N:Nat}(hk:ax S N)(dir:Int)(s:ByteArray)(hs:s.size≤100000)(d:An)(hg:S.get dir=some d) :
  ∃ea el ec,aA w ea el ec d.ay∧Calls Tryz.prog 178 #[.pointer (some ⟨pf,0,none⟩),.agg #[.int .i64 cr.u,.int .i64 cr.g],.int .i64 dir,.string s] w fun e w'=>((S.aP cr dir s≠0∧e=.returned (.tuple #[cS.v none 0 0,.int .i64 (S.aP cr dir s)]))∨(S.aP cr dir s=0∧e=.returned (.tuple #[d.v ea el ec,.int .i64 0])))∧Qi w w':=by
 obtain⟨hao,hno,nR,-⟩:=hk.get hg;have hmd:=hao.mode;have hz:(d.no==0)=false:=by simp only[beq_eq_false_iff_ne,ne_eq];omega
 obtain⟨ea,el,ec,he,hG⟩:=iH h hg;refine⟨ea,el,ec,he,?_⟩;have HG:=Qf hG;unfold An.v at HG;have dM:=Qf (fun w=>zR s w hs);have jz:=Qf (show S.aP cr dir s=if d.kind≠1 then 9 else if cx s≠0 then cx s else if d.may cr 3=false then 6 else 0 by unfold Fs.aP;rw[hg]);have mS:=Qf (fun w=>qJ cr d ea el ec 3 hmd (by decide) w);unfold An.v at mS;generalize cx s=ce at dM jz;generalize S.aP cr dir s=pe at jz⊢;generalize d.may cr 3=m at mS jz;clear h hk hg he hG hno hao hmd;go_enter Tryz.func178,Tryz.ntmps178;go_wp2_with fail;refine(HG.o _ (aq (aq (Below.refl _ _) _) _)).mono ?_;rintro e w1 ⟨rfl,av⟩;have aS:=au (aq (aq (Qj w) _) _) av;have hR:aw w1 (w.heap.size+1) #[.int .i64 0,.int .i64 0,.int .i64 0,.int .i64 0,.int .i64 0,.int .i64 0,.int .i64 0,.int .i64 0,.int .i64 0,.int .i64 0,.string ByteArray.empty,.slice none 0 0] 149:=by
  have:=((aw.new (w.alloc (.cells #[.int .i64 cr.u,.int .i64 cr.g] 64)) #[.int .i64 0,.int .i64 0,.int .i64 0,.int .i64 0,.int .i64 0,.int .i64 0,.int .i64 0,.int .i64 0,.int .i64 0,.int .i64 0,.string ByteArray.empty,.slice none 0 0] 149).ak av)
  rwa [World.size_alloc] at this
 have vW:aw w1 w.heap.size #[.int .i64 cr.u,.int .i64 cr.g] 64:=((aw.new w #[.int .i64 cr.u,.int .i64 cr.g] 64).old (.cells #[.int .i64 0,.int .i64 0,.int .i64 0,.int .i64 0,.int .i64 0,.int .i64 0,.int .i64 0,.int .i64 0,.int .i64 0,.int .i64 0,.string ByteArray.empty,.slice none 0 0] 149)).ak av;have eu:=hR.old (.cells #[.int .i64 d.no,.int .i64 d.dev,.int .i64 d.kind,.int .i64 d.mode,.int .i64 d.uid,.int .i64 d.gid,.int .i64 d.mtime,.int .i64 d.ctime,.int .i64 d.ao,.int .i64 d.up,.string d.data,.slice ea el ec] 149);have gp:=vW.old (.cells #[.int .i64 d.no,.int .i64 d.dev,.int .i64 d.kind,.int .i64 d.mode,.int .i64 d.uid,.int .i64 d.gid,.int .i64 d.mtime,.int .i64 d.ctime,.int .i64 d.ao,.int .i64 d.up,.string d.data,.slice ea el ec] 149);have gV:=aw.new w1 #[.int .i64 d.no,.int .i64 d.dev,.int .i64 d.kind,.int .i64 d.mode,.int .i64 d.uid,.int .i64 d.gid,.int .i64 d.mtime,.int .i64 d.ctime,.int .i64 d.ao,.int .i64 d.up,.string d.data,.slice ea el ec] 149;have aI:=aq aS (.cells #[.int .i64 d.no,.int .i64 d.dev,.int .i64 d.kind,.int .i64 d.mode,.int .i64 d.uid,.int .i64 d.gid,.int .i64 d.mtime,.int .i64 d.ctime,.int .i64 d.ao,.int .i64 d.up,.string d.data,.slice ea el ec] 149);clear hR vW av aS;go_upto_region 2 with fail;generalize w1.alloc _=X at eu gp gV aI⊢;have gd:=Qf eu;have aW:=Qf aI;have yU:=Qf gV;have Ms:=Qf gp;obtain⟨rc,rf,rz⟩:=eu.facts;obtain⟨dc,df,dz⟩:=gV.facts;obtain⟨cc,-,-⟩:=gp.facts;clear eu aI gV gp;by_cases h1:d.kind=1
 ·have q1:(d.kind==1)=true:=by simpa using h1
  have q2:(d.kind != 1)=false:=by simpa using h1
  by_cases h2:ce=0
  ·have q3:(ce != 0)=false:=by simpa using h2
   have lQ:=Qf (show pe=if m=false then 6 else 0 by rw[jz.o];simp[h1,h2]);clear h1 h2;go_wp2_with fail;refine(dM.o _).mono ?_;rintro e w2 ⟨rfl,rfl⟩;go_wp2_with fail;refine(mS.o _).mono ?_;rintro e w5 ⟨rfl,bU⟩;have mH:=gd.o.ak bU;have xY:=yU.o.ak bU;have rG:=aW.o.trans (bU.mono aW.o.size);have vI:=Qf mH;have vP:=Qf rG;clear rc rf rz dc df dz cc;obtain⟨rc,rf,rz⟩:=mH.facts;obtain⟨dc,-,-⟩:=xY.facts;clear mH rG bU xY
   cases m with
   |true=>
    have eS:=Qf (lQ.o.trans (if_neg (by decide)));go_wp2_with fail;exact bodyPost_ret (eY (a:=d) (ea:=ea) (el:=el) (ec:=ec) vI.o.dh rfl rfl) rfl ⟨.inr ⟨eS.o,rfl⟩,aT vP.o (Nat.le_succ _)⟩
   |false=>
    have eS:=Qf (lQ.o.trans (if_pos rfl));go_wp2_with fail;exact bodyPost_ret (eY (a:=cS) vI.o.dh rfl rfl) rfl ⟨.inl ⟨by rw[eS.o];decide,by rw[eS.o]⟩,aT vP.o (Nat.le_succ _)⟩
  ·have q3:(ce != 0)=true:=by simpa using h2
   have Mp:=Qf (show pe=ce∧ce≠0 by refine⟨?_,h2⟩;rw[jz.o];simp[h1,h2]);clear h1 h2;go_wp2_with fail;refine(dM.o _).mono ?_;rintro e w2 ⟨rfl,rfl⟩;go_wp2_with fail;exact bodyPost_ret (eY (a:=cS) gd.o.dh rfl rfl) rfl ⟨.inl ⟨by rw[Mp.o.1];exact Mp.o.2,by rw[Mp.o.1]⟩,aT aW.o (Nat.le_succ _)⟩
 ·have q1:(d.kind==1)=false:=by simpa using h1
  have q2:(d.kind != 1)=true:=by simpa using h1
  have GN:=Qf (show pe=9 by rw[jz.o];simp[h1]);clear h1;go_wp2_with fail;exact bodyPost_ret (eY (a:=cS) gd.o.dh rfl rfl) rfl ⟨.inl ⟨by rw[GN.o];decide,by rw[GN.o]⟩,aT aW.o (Nat.le_succ _)⟩
theorem wN(h:aN w pf R S){N:Nat}(hk:ax S N)(dir:Int)(s:ByteArray)(hs:s.size≤100000)(d:An)(hg:S.get dir=some d) :
  ∃ea el ec,aA w ea el ec d.ay∧Calls Tryz.prog 178 #[.pointer (some ⟨pf,0,none⟩),.agg #[.int .i64 0,.int .i64 0],.int .i64 dir,.string s] w fun e w'=>((S.aP bM dir s≠0∧e=.returned (.tuple #[cS.v none 0 0,.int .i64 (S.aP bM dir s)]))∨(S.aP bM dir s=0∧e=.returned (.tuple #[d.v ea el ec,.int .i64 0])))∧Qi w w':=m' h bM hk dir s hs d hg
end
end
section
open Go.RowKit
theorem vu(x:En)(l:List En)(s:ByteArray):aF (x::l) s=if x.name=s then x.no else aF l s:=by
 unfold aF;rw[List.find?_cons];by_cases h:x.name=s
 ·rw[if_pos h,decide_eq_true h]
 ·rw[if_neg h,decide_eq_false h]
theorem Gu(a b:ByteArray):(a.toList==b.toList)=decide (a=b):=by
 rw[ByteArray.toList_eq,ByteArray.toList_eq];by_cases h:a=b
 ·subst h;simp
 ·rw[decide_eq_false h];simp only[beq_eq_false_iff_ne,ne_eq];exact fun e=>h (sg e)
theorem od(es:List En)(a:Option Addr)(n c:Nat)(s:ByteArray)(w:World)(he:aA w a n c es) :
  Calls Tryz.prog 173 #[.slice a n c,.string s] w fun e w'=>e=.returned (.int .i64 (aF es s))∧Qi w w':=by
 have hl:=he.len;subst hl;have iS:=he.sl.2.1;have eT:=he.sl.2.2.1;have HE:=Qf he;clear he;go_enter Tryz.func173,Tryz.ntmps173;go_wp2_with fail
 go_loopw [5] (fun t3 wr=>∃k:Nat,k≤es.length∧t3=.int .i64 k∧aF es s=aF (es.drop k) s∧Qi w wr) (fun t3 _=>es.length-(intOf t3).toNat)
 case atStart=>exact⟨0,Nat.zero_le _,rfl,by rw[List.drop_zero],Below.refl _ _⟩
 case round=>
  obtain⟨k,hk,rfl,hf,hb⟩:=hrel;by_cases hlt:k<es.length
  ·have mP:=HE.o.ak hb;obtain⟨b,off,rfl,hbl⟩:=mP.dL (by omega);obtain⟨c0,c1⟩:=mP.cell k hlt;rw[List.drop_eq_getElem_cons hlt,vu] at hf;have HF:=Qf hf;have HB:=Qf hb;have hcmp:=Gu es[k].name s;generalize es[k]=x at c0 c1 hcmp HF;clear hf hb mP;by_cases hx:x.name=s
   ·have HR:=Qf (HF.o.trans (if_pos hx));rw[decide_eq_true hx] at hcmp;clear hx;go_wp2_with fail;go_ret;exact⟨by rw[HR.o];rfl,HB.o⟩
   ·have HR:=Qf (HF.o.trans (if_neg hx));rw[decide_eq_false hx] at hcmp;clear hx;go_wp2_with fail;go_roundw
    case measure=>simp[intOf];omega
    case rel=>exact⟨k+1,by omega,by go_num,HR.o,HB.o⟩
  ·obtain rfl:k=es.length:=by omega
   rw[List.drop_length] at hf;have HR:=Qf (show aF es s=0 from hf);have HB:=Qf hb;clear hf hb;go_wp2_with fail;go_ret;exact⟨by rw[HR.o];rfl,HB.o⟩
theorem OE.AY{w:World}{base:Nat}{v:Value}{es:List En}(h:OE w base v es)(x:En)(hl:es.length≤1000000)(hb:base≤w.heap.size) :
  ∃g cap W,(Builtin.append_ #[94,94] 94 #[v,.slice (some ⟨w.heap.size,0,none⟩) 1 1]).run Tryz.prog (w.alloc (.cells #[.string x.name,.int .i64 x.no] 98))=.ok (.slice (some ⟨g,0,none⟩) (es.length+1) cap) W∧
   OE W base (.slice (some ⟨g,0,none⟩) (es.length+1) cap) (es++[x])∧Below base w W:=by
 obtain⟨i0,hi,jy,ee,et⟩:=info_parts gj;have ho:=World.ownsRow.alloc h (.cells #[.string x.name,.int .i64 x.no] 98);obtain⟨g,cap,W,h1,h2,h3,h4⟩:=ei 94 Tryz.underlying94 hi jy ee et rfl (by omega) ho ⟨w.heap.size,0,none⟩ 1 1 [.string x.name,.int .i64 x.no] rfl (World.news_of_block (aw.new w #[.string x.name,.int .i64 x.no] 98)) (by intro u hu;simp at hu;rcases hu with rfl|rfl<;>rfl) (by omega) (by unfold maxLen;omega) (by omega) (by simp;omega);refine⟨g,cap,W,h1,?_,(((Below.refl base w).alloc hb _)).trans (h3.below (fun k hk=>(h.lt k hk).1) (by simp;omega))⟩;unfold OE;rw[List.length_append,List.length_singleton,List.flatMap_append];exact h2
theorem OE.form{w:World}{base:Nat}{v:Value}{es:List En}(h:OE w base v es):∃a c,v=.slice a es.length c∧aA w a es.length c es:=by
 obtain⟨a,c,rfl,-⟩:=bC h;exact⟨a,c,rfl,h.at⟩
theorem F7(a s:ByteArray):(fZ s a=true∧Op.bytesLess a.toList s.toList=false∧(a.toList==s.toList)=false)∨(fZ s a=false∧Op.bytesLess a.toList s.toList=true)∨(fZ s a=false∧Op.bytesLess a.toList s.toList=false∧(a.toList==s.toList)=true):=by
 rw[rl,Gu]
 cases h1:fZ a s with
 |true=>exact .inr (.inl ⟨jG h1,rfl⟩)
 |false=>
  cases h2:fZ s a with
  |true=>exact .inl ⟨rfl,rfl,decide_eq_false (Ne.symm (Aa h2))⟩
  |false=>exact .inr (.inr ⟨rfl,rfl,decide_eq_true (lC h1 h2)⟩)
def mK(n:ByteArray)(x:En):Bool:=fZ x.name n
def ld(n:ByteArray)(x:En):Bool:=fZ n x.name
theorem ph{p:En→Bool}(l:List En)(k:Nat)(hk:k<l.length)(h:p l[k]=true):(l.take (k+1)).filter p=(l.take k).filter p++[l[k]]:=by
 rw[List.take_succ_eq_append_getElem hk,List.filter_append];simp[h]
theorem rL{p:En→Bool}(l:List En)(k:Nat)(hk:k<l.length)(h:p l[k]=false):(l.take (k+1)).filter p=(l.take k).filter p:=by
 rw[List.take_succ_eq_append_getElem hk,List.filter_append];simp[h]
theorem kY(p:En→Bool)(l:List En)(k:Nat):((l.take k).filter p).length≤l.length:=by
 have h1:=List.length_filter_le p (l.take k);have h2:(l.take k).length≤l.length:=by rw[List.length_take];omega
 omega
theorem wM(es:List En)(a:Option Addr)(n c:Nat)(s:ByteArray)(no:Int)(w:World)(he:aA w a n c es)(hn:n≤400000) :
  Calls Tryz.prog 180 #[.slice a n c,.string s,.int .i64 no] w fun e w'=>(∃a' n' c',e=.returned (.slice a' n' c')∧aA w' a' n' c' (ct es s no))∧Qi w w':=by
 have hl:=he.len;subst hl;have iS:=he.sl.2.1;have eT:=he.sl.2.2.1;have HE:=Qf he;have HP:=Qf (show ct es s no=es.filter (mK s)++⟨s,no⟩::es.filter (ld s) from rfl);clear he;generalize ct es s no=R at HP⊢;go_enter Tryz.func180,Tryz.ntmps180;go_wp2_with fail
 go_loopw [7,8] (fun t4 t5 wr=>∃k:Nat,k≤es.length∧t5=.int .i64 k∧OE wr w.heap.size t4 ((es.take k).filter (mK s))∧Qi w wr) (fun _ t5 _=>es.length-(intOf t5).toNat)
 case atStart=>exact⟨0,Nat.zero_le _,rfl,⟨rfl,.inl ⟨rfl,rfl⟩⟩,Below.refl _ _⟩
 case round=>
  obtain⟨k,hk,rfl,hO,hb⟩:=hrel;have HO:=Qf hO;have HB:=Qf hb;by_cases hlt:k<es.length
  ·have mP:=HE.o.ak hb;obtain⟨b,off,rfl,hbl⟩:=mP.dL (by omega);obtain⟨c0,c1⟩:=mP.cell k hlt;have HY:=Qf (ph (p:=mK s) es k hlt);have HN:=Qf (rL (p:=mK s) es k hlt);have hfl:=kY (mK s) es k;have hcmp:=rl es[k].name s;obtain⟨g,cap,W,hrun,kA,cT⟩:=hO.AY es[k] (by omega) hb.size;have HX:=Qf (ag kA cT);generalize es[k]=x at c0 c1 hcmp HY HN hrun HX;clear hO hb mP kA cT hfl
   cases hx:fZ x.name s with
   |true=>
    rw[hx] at hcmp;have Kr:=Qf (HY.o hx);have HR:=Qf hrun;clear hx hrun;go_wp2_with (at_builtin;refine aL rfl rfl rfl rfl HR.o ?_);go_roundw
    case measure=>simp[intOf];omega
    case rel=>exact⟨k+1,by omega,by go_num,by rw[Kr.o];exact HX.o.1,HB.o.trans HX.o.2⟩
   |false=>
    rw[hx] at hcmp;have GG:=Qf (HN.o hx);clear hx hrun;go_wp2_with fail;go_roundw
    case measure=>simp[intOf];omega
    case rel=>exact⟨k+1,by omega,by go_num,by rw[GG.o];exact HO.o,HB.o⟩
  ·obtain rfl:k=es.length:=by omega
   have hfl:=kY (mK s) es es.length;rw[List.take_length] at hO hfl;obtain⟨g,cap,W,hrun,kA,cT⟩:=hO.AY ⟨s,no⟩ (by omega) hb.size;have HX:=Qf (ag kA (hb.trans cT));have HR:=Qf hrun;generalize hlo:es.filter (mK s)=lo at HP HX HR hfl;clear hO hb kA cT hrun HO HB hlo;go_wp2_with (at_builtin;refine aL rfl rfl rfl rfl HR.o ?_)
   go_loopw [7,9] (fun t4 t6 wr=>∃k:Nat,k≤es.length∧t6=.int .i64 k∧OE wr w.heap.size t4 (lo++[⟨s,no⟩]++(es.take k).filter (ld s))∧Qi w wr) (fun _ t6 _=>es.length-(intOf t6).toNat)
   case atStart=>exact⟨0,Nat.zero_le _,rfl,by simpa using HX.o.1,HX.o.2⟩
   case round=>
    obtain⟨k,hk,rfl,hO,hb⟩:=hrel;have HO:=Qf hO;have HB:=Qf hb;have hfl2:=kY (ld s) es k;have hln:(lo++[(⟨s,no⟩:En)]++(es.take k).filter (ld s)).length≤1000000:=by
     rw[List.length_append,List.length_append,List.length_singleton];omega
    by_cases hlt:k<es.length
    ·have mP:=HE.o.ak hb;obtain⟨b,off,rfl,hbl⟩:=mP.dL (by omega);obtain⟨c0,c1⟩:=mP.cell k hlt;have HY:=Qf (ph (p:=ld s) es k hlt);have HN:=Qf (rL (p:=ld s) es k hlt);have hcmp:=F7 es[k].name s;obtain⟨g,cap,W,hrun,kA,cT⟩:=hO.AY es[k] hln hb.size;have A2:=Qf (ag kA cT);generalize es[k]=x at c0 c1 hcmp HY HN hrun A2;clear hO hb mP kA cT hfl2 hln;generalize hcur:lo++[(⟨s,no⟩:En)]++(es.take k).filter (ld s)=cur at hrun A2 HO;have GO:=Qf hcur;clear hcur;rcases hcmp with⟨hx,Ah,xJ⟩|⟨hx,Ah⟩|⟨hx,Ah,xJ⟩
     ·have Kr:=Qf (HY.o hx);have HR:=Qf hrun;clear hx hrun;go_wp2_with (at_builtin;refine aL rfl rfl rfl rfl HR.o ?_);go_roundw
      case measure=>simp[intOf];omega
      case rel=>exact⟨k+1,by omega,by go_num,by rw[Kr.o,←List.append_assoc,GO.o];exact A2.o.1,HB.o.trans A2.o.2⟩
     ·have GG:=Qf (HN.o hx);clear hx hrun;go_wp2_with fail;go_roundw
      case measure=>simp[intOf];omega
      case rel=>exact⟨k+1,by omega,by go_num,by rw[GG.o,GO.o];exact HO.o,HB.o⟩
     ·have GG:=Qf (HN.o hx);clear hx hrun;go_wp2_with fail;go_roundw
      case measure=>simp[intOf];omega
      case rel=>exact⟨k+1,by omega,by go_num,by rw[GG.o,GO.o];exact HO.o,HB.o⟩
    ·obtain rfl:k=es.length:=by omega
     rw[List.take_length] at hO;obtain⟨a2,c2,rfl,l5⟩:=hO.form;have yO:=Qf (show aA wr a2 (lo++[(⟨s,no⟩:En)]++es.filter (ld s)).length c2 R by
      rw[HP.o];simpa using l5)
     clear hO hb l5 HO hln;go_wp2_with fail;go_ret;exact⟨⟨_,_,_,rfl,yO.o⟩,HB.o⟩
end
section
open Go.RowKit
theorem C4{S:Fs}{N:Nat}(hk:ax S N)(a:An):gR (S.make a).1:=by
 unfold Fs.make
 split
 ·exact hk.nums
 ·split
  ·exact hk.nums
  ·rename_i v hv;simp only
   split
   ·have ij:=hk.bp (u:={v with b:=v.b+cR a.kind a.data.size,n:=v.n+1}) hv rfl;exact ij.nums.add ij.l0 a
   ·exact hk.nums
section
variable{w w':World}{pf:Nat}{R:Rf}{S:Fs}
theorem aN.LY(h:aN w pf R S){B:Nat}{vs:Array Value}{T:TypeId}(hB:aw w B vs T)(hF:¬R.F pf B)(hT:T≠98)(hm:Mod (fun k=>k=B) w w'):aN w' pf R S:=by
 refine h.fH (fun k hk=>hm.block k (h.lt hk) (fun e=>hF (e▸hk))) (fun b cur hc=>hm.block b (Array.getElem?_eq_some_iff.1 hc).1 (fun e=>?_)) hm.size;subst e;unfold aw at hB;rw[hB] at hc;injection hc with hc;injection hc with _ hc;exact hT hc
theorem qF(h:aN w pf R S)(hn:gR S)(dir:Int){d:An}(hg:S.get dir=some d){a:Option Addr}{n c:Nat}{l:List En}(hl:aA w a n c l) :
  Calls Tryz.prog 179 #[.pointer (some ⟨pf,0,none⟩),.int .i64 dir,.slice a n c] w fun e w'=>e=.returned (.tuple #[])∧∃R',aN w' pf R' (S.bE R.now dir l)∧aR (R.F pf) (R'.F pf) w w'∧Rf.cy R R':=by
 obtain⟨ea,el,ec,-,hG⟩:=iH h hg;have HT:=Qf (show S.bE R.now dir l=S.set {d with ay:=l,mtime:=R.now,ctime:=R.now} by unfold Fs.bE;rw[hg]);have hno:=cj hg;have ed:=Qf (fun w1 (hb:Qi w w1)=>jE (h.ak hb) hn (a:={d with ay:=l,mtime:=R.now,ctime:=R.now}) (hl.ak hb) (b:=d) (by show S.get d.no=some d;rw[hno];exact hg));have HG:=Qf (hG w (Below.refl _ _));unfold An.v at HG ed;obtain⟨pc,-,pz⟩:=h.aZ.facts;generalize hnow:R.now=now at HT ed pc;clear h hn hg hl hG hno hnow;go_enter Tryz.func179,Tryz.ntmps179;go_wp2_with fail;refine HG.o.mono ?_;rintro e w1 ⟨rfl,av⟩;have pc3:=(av.cell (p:=⟨pf,3,none⟩) pz).trans (pc 3);have Df:pf<w1.heap.size:=Nat.lt_of_lt_of_le pz av.size;have aI:=aq av (.cells #[.int .i64 d.no,.int .i64 d.dev,.int .i64 d.kind,.int .i64 d.mode,.int .i64 d.uid,.int .i64 d.gid,.int .i64 now,.int .i64 now,.int .i64 d.ao,.int .i64 d.up,.string d.data,.slice a n c] 149);have HS:=Qf (ed.o _ aI);have aW:=Qf aI;clear av aI pc;go_wp2_with fail;refine HS.o.mono ?_;rintro e w5 ⟨rfl,R',eh,dq,ga,-⟩;have HR:=Qf (ag eh (ag dq ga));clear eh dq ga;go_wp2_with fail
 go_end0
 rw[HT.o];exact⟨rfl,R',HR.o.1,(aR.ar aW.o).trans HR.o.2.1,HR.o.2.2⟩
end
end
section
open Go.RowKit
theorem Fu{S:Fs}{a:An}(h:(S.make a).2.2≠0):(S.make a).1=S:=by
 revert h;unfold Fs.make
 split
 ·intro _;rfl
 ·split
  ·intro _;rfl
  ·simp only
   split
   ·intro h;exact absurd rfl h
   ·intro _;rfl
section
variable{w w':World}{pf:Nat}{R:Rf}{S:Fs}
theorem mq(h:aN w pf R S)(cr:Cr){N:Nat}(hk:ax S N)(hN:N≤100000)(hgl:S.ns.length≤100000)(dir:Int)(s:ByteArray)(hs:s.size≤100000)(a:An)(he:a.ay=[])(hsz:a.data.size≤1048576) :
  Calls Tryz.prog 174 #[.pointer (some ⟨pf,0,none⟩),.agg #[.int .i64 cr.u,.int .i64 cr.g],.int .i64 dir,.string s,a.v none 0 0] w fun e w'=>e=.returned (.tuple #[.int .i64 (S.cC cr R.now dir s a).2.1,.int .i64 (S.cC cr R.now dir s a).2.2])∧∃R',aN w' pf R' (S.cC cr R.now dir s a).1∧aR (R.F pf) (R'.F pf) w w'∧Rf.cy R R':=by
 have hkeep:∀w2,Qi w w2→∃R',aN w2 pf R' S∧aR (R.F pf) (R'.F pf) w w2∧Rf.cy R R':=fun w2 hb=>⟨R,h.ak hb,aR.ar hb,Rf.cy.refl R⟩;have jS:=Qf hkeep;have cH:=aq (aq (Qj w) (.cells #[.int .i64 cr.u,.int .i64 cr.g] 64)) (.cells #[.int .i64 a.no,.int .i64 a.dev,.int .i64 a.kind,.int .i64 a.mode,.int .i64 a.uid,.int .i64 a.gid,.int .i64 a.mtime,.int .i64 a.ctime,.int .i64 a.ao,.int .i64 a.up,.string a.data,.slice none 0 0] 149);have bP:=Qf cH
 cases hg:S.get dir with
 |none=>
  have HC:=Qf (show S.cC cr R.now dir s a=(S,0,5) by
   have hp:S.aP cr dir s=5:=by unfold Fs.aP;rw[hg]
   unfold Fs.cC;rw[if_pos (by rw[hp];decide),hp])
  have HP:=Qf (nb (h.ak cH) cr dir s hg);unfold An.v cS at HP;unfold An.v;clear h hk hg hkeep cH;go_enter Tryz.func174,Tryz.ntmps174;go_wp2_with fail;refine HP.o.mono ?_;rintro e w1 ⟨rfl,av⟩;have HB:=Qf (aq (au bP.o av) (.cells #[.int .i64 0,.int .i64 0,.int .i64 0,.int .i64 0,.int .i64 0,.int .i64 0,.int .i64 0,.int .i64 0,.int .i64 0,.int .i64 0,.string ByteArray.empty,.slice none 0 0] 149));clear av;go_wp2_with fail;go_ret2;rw[HC.o];exact⟨rfl,jS.o _ HB.o⟩
 |some d=>
  obtain⟨ea,el,ec,hE,hP⟩:=m' (h.ak cH) cr hk dir s hs d hg;obtain⟨hdo,hdn,-,-⟩:=hk.get hg;have HP:=Qf hP;have nR:=aw.new (w.alloc (.cells #[.int .i64 cr.u,.int .i64 cr.g] 64)) #[.int .i64 a.no,.int .i64 a.dev,.int .i64 a.kind,.int .i64 a.mode,.int .i64 a.uid,.int .i64 a.gid,.int .i64 a.mtime,.int .i64 a.ctime,.int .i64 a.ao,.int .i64 a.up,.string a.data,.slice none 0 0] 149;rw[World.size_alloc] at nR;have iS:=(aw.new w #[.int .i64 cr.u,.int .i64 cr.g] 64).old (.cells #[.int .i64 a.no,.int .i64 a.dev,.int .i64 a.kind,.int .i64 a.mode,.int .i64 a.uid,.int .i64 a.gid,.int .i64 a.mtime,.int .i64 a.ctime,.int .i64 a.ao,.int .i64 a.up,.string a.data,.slice none 0 0] 149);have IZ:=h.ak cH;have hF:∀k,w.heap.size≤k→¬R.F pf k:=fun k hk hf=>by have:=h.lt hf;omega
  have HF:=Qf hF;have mL:=Qf (ag nR (ag iS (ag IZ hE)));have HC:=Qf (show S.cC cr R.now dir s a=if S.aP cr dir s≠0 then(S,0,S.aP cr dir s) else if aF d.ay s≠0 then(S,0,7) else if(S.make {a with dev:=d.dev,uid:=cr.u,gid:=cr.g,mtime:=R.now,ctime:=R.now,ao:=1}).2.2≠0 then(S,0,(S.make {a with dev:=d.dev,uid:=cr.u,gid:=cr.g,mtime:=R.now,ctime:=R.now,ao:=1}).2.2) else((S.make {a with dev:=d.dev,uid:=cr.u,gid:=cr.g,mtime:=R.now,ctime:=R.now,ao:=1}).1.bE R.now dir (ct d.ay s (S.make {a with dev:=d.dev,uid:=cr.u,gid:=cr.g,mtime:=R.now,ctime:=R.now,ao:=1}).2.1),(S.make {a with dev:=d.dev,uid:=cr.u,gid:=cr.g,mtime:=R.now,ctime:=R.now,ao:=1}).2.1,0) by
   unfold Fs.cC;rw[hg])
  have HMb:=Qf (Fu (S:=S) (a:={a with dev:=d.dev,uid:=cr.u,gid:=cr.g,mtime:=R.now,ctime:=R.now,ao:=1}));have pP:=Qf (C4 hk {a with dev:=d.dev,uid:=cr.u,gid:=cr.g,mtime:=R.now,ctime:=R.now,ao:=1});have HGm:=Qf (F8 hk {a with dev:=d.dev,uid:=cr.u,gid:=cr.g,mtime:=R.now,ctime:=R.now,ao:=1} hg);have jR:=Qf (fun w1 (h1:aN w1 pf R S)=>CE h1 hk (by omega) (by omega) {a with dev:=d.dev,uid:=cr.u,gid:=cr.g,mtime:=R.now,ctime:=R.now,ao:=1} none 0 0 (by show aA w1 none 0 0 a.ay;rw[he];exact aA.nil w1) hsz);have hel:el≤100000:=by
   have h1:=hE.len;have h2:=hdo.mJ;omega
  obtain⟨pc,-,pz⟩:=h.aZ.facts;have No:=Qf pc;obtain⟨q,hq⟩:∃q,S.make {a with dev:=d.dev,uid:=cr.u,gid:=cr.g,mtime:=R.now,ctime:=R.now,ao:=1}=q:=⟨_,rfl⟩;rw[hq] at HC HMb pP HGm jR;obtain⟨S2,no,er⟩:=q;unfold An.v at HP jR;unfold An.v;generalize S.aP cr dir s=pe at HC HP;generalize hnow:R.now=now at HC jR;have vM:=Qf hnow;clear h hk hg hkeep cH hE hP hdo hdn nR iS IZ hF pc hq hnow;go_enter Tryz.func174,Tryz.ntmps174;go_wp2_with fail;refine HP.o.mono ?_;rintro e w1 ⟨⟨hpe,rfl⟩|⟨rfl,rfl⟩,av⟩
  ·have sU:=Qf (HC.o.trans (if_pos hpe));have hpb:(pe != 0)=true:=by simpa using hpe
   have HB:=Qf (aq (au bP.o av) (.cells #[.int .i64 0,.int .i64 0,.int .i64 0,.int .i64 0,.int .i64 0,.int .i64 0,.int .i64 0,.int .i64 0,.int .i64 0,.int .i64 0,.string ByteArray.empty,.slice none 0 0] 149));clear av hpe;unfold cS;go_wp2_with fail;go_ret2;rw[sU.o];exact⟨rfl,jS.o _ HB.o⟩
  ·have sU:=Qf (HC.o.trans (if_neg (by simp)));obtain⟨nR,iS,IZ,oA⟩:=mL.o;have ox:=(nR.ak av).old (.cells #[.int .i64 d.no,.int .i64 d.dev,.int .i64 d.kind,.int .i64 d.mode,.int .i64 d.uid,.int .i64 d.gid,.int .i64 d.mtime,.int .i64 d.ctime,.int .i64 d.ao,.int .i64 d.up,.string d.data,.slice ea el ec] 149);have eT:=(iS.ak av).old (.cells #[.int .i64 d.no,.int .i64 d.dev,.int .i64 d.kind,.int .i64 d.mode,.int .i64 d.uid,.int .i64 d.gid,.int .i64 d.mtime,.int .i64 d.ctime,.int .i64 d.ao,.int .i64 d.up,.string d.data,.slice ea el ec] 149);have aI:=(Below.refl _ w1).alloc (aa _) (.cells #[.int .i64 d.no,.int .i64 d.dev,.int .i64 d.kind,.int .i64 d.mode,.int .i64 d.uid,.int .i64 d.gid,.int .i64 d.mtime,.int .i64 d.ctime,.int .i64 d.ao,.int .i64 d.up,.string d.data,.slice ea el ec] 149);have MI:=(IZ.ak av).ak aI;have l5:=(oA.ak av).ak aI;have lJ:=aw.new w1 #[.int .i64 d.no,.int .i64 d.dev,.int .i64 d.kind,.int .i64 d.mode,.int .i64 d.uid,.int .i64 d.gid,.int .i64 d.mtime,.int .i64 d.ctime,.int .i64 d.ao,.int .i64 d.up,.string d.data,.slice ea el ec] 149;have hbb:=aq (au bP.o av) (.cells #[.int .i64 d.no,.int .i64 d.dev,.int .i64 d.kind,.int .i64 d.mode,.int .i64 d.uid,.int .i64 d.gid,.int .i64 d.mtime,.int .i64 d.ctime,.int .i64 d.ao,.int .i64 d.up,.string d.data,.slice ea el ec] 149);have hD:w.heap.size+2≤w1.heap.size:=by
    have:=av.size;simpa using this
   go_upto_region 2 with fail;generalize w1.alloc _=X at ox eT aI MI l5 lJ hbb⊢;generalize w1.heap.size=D at lJ hD⊢;have HX:=Qf (ag ox (ag eT (ag MI (ag l5 (ag lJ hbb)))));have Mm:=Qf (od d.ay ea el ec s X l5);obtain⟨dc,df,dz⟩:=lJ.facts;clear av nR iS IZ oA ox eT aI MI l5 lJ hbb;go_wp2_with fail;refine Mm.o.mono ?_;rintro e w2 ⟨rfl,aS⟩;by_cases hf:aF d.ay s=0
   ·have Hi:=Qf (sU.o.trans (if_neg (by simpa using hf)));have hfb:(aF d.ay s != 0)=false:=by simpa using hf
    obtain⟨ox,eT,MI,l5,lJ,hbb⟩:=HX.o;have MD:=ox.ak aS;have Ll:=eT.ak aS;have hh3:=MI.ak aS;have vS:=lJ.ak aS;have hbw:=au hbb aS;have hm:=(((((((Mod.refl (fun k=>k=w.heap.size+1) w2).setCell (a:=⟨w.heap.size+1,1,none⟩) (.inl rfl) (.int .i64 d.dev)).setCell (a:=⟨w.heap.size+1,4,none⟩) (.inl rfl) (.int .i64 cr.u)).setCell (a:=⟨w.heap.size+1,5,none⟩) (.inl rfl) (.int .i64 cr.g)).setCell (a:=⟨w.heap.size+1,6,none⟩) (.inl rfl) (.int .i64 now)).setCell (a:=⟨w.heap.size+1,7,none⟩) (.inl rfl) (.int .i64 now)).setCell (a:=⟨w.heap.size+1,8,none⟩) (.inl rfl) (.int .i64 1));have MH:=hh3.LY MD (HF.o _ (by omega)) (by decide) hm;have BA:=(((((MD.set 1 (.int .i64 d.dev)).set 4 (.int .i64 cr.u)).set 5 (.int .i64 cr.g)).set 6 (.int .i64 now)).set 7 (.int .i64 now)).set 8 (.int .i64 1);have rC:=vS.mod hm (by omega);have AB:=(l5.ak aS).fH (fun b cur hc=>hm.block b (Array.getElem?_eq_some_iff.1 hc).1 (fun e=>by
     subst e;unfold aw at MD;rw[MD] at hc;injection hc with hc;injection hc with _ hc;revert hc;decide)) hm.size
    have u9:=(((((((Mod.ar hbw:Mod (R.F pf) w w2).setCell (a:=⟨w.heap.size+1,1,none⟩) (.inr (Nat.le_succ _)) (.int .i64 d.dev)).setCell (a:=⟨w.heap.size+1,4,none⟩) (.inr (Nat.le_succ _)) (.int .i64 cr.u)).setCell (a:=⟨w.heap.size+1,5,none⟩) (.inr (Nat.le_succ _)) (.int .i64 cr.g)).setCell (a:=⟨w.heap.size+1,6,none⟩) (.inr (Nat.le_succ _)) (.int .i64 now)).setCell (a:=⟨w.heap.size+1,7,none⟩) (.inr (Nat.le_succ _)) (.int .i64 now)).setCell (a:=⟨w.heap.size+1,8,none⟩) (.inr (Nat.le_succ _)) (.int .i64 1));obtain⟨nc,nf,nz⟩:=MD.facts;obtain⟨cc,cf,cz⟩:=Ll.facts;obtain⟨ec3,ef3,ez3⟩:=vS.facts;obtain⟨xc,xf,xz⟩:=hh3.aZ.facts;have hxc3:w2.cell? ⟨pf,3,none⟩=some (.int .i64 now):=by rw[xc 3,vM.o];rfl
    have Df:¬pf=w.heap.size+1:=by omega
    have MC:¬w.heap.size+1=pf:=by omega
    have hp3:¬D=w.heap.size+1:=by omega
    have Kc:¬w.heap.size+1=D:=by omega
    have HY:=Qf (ag MH (ag BA (ag rC (ag AB u9))));clear hf aS ox eT MI l5 lJ hbb MD Ll hh3 vS hbw hm MH BA rC AB u9 xc xf dc df dz;go_upto_region 12 with fail;generalize (((((w2.setCell ⟨w.heap.size+1,1,none⟩ (.int .i64 d.dev)).setCell ⟨w.heap.size+1,4,none⟩ (.int .i64 cr.u)).setCell ⟨w.heap.size+1,5,none⟩ (.int .i64 cr.g)).setCell ⟨w.heap.size+1,6,none⟩ (.int .i64 now)).setCell ⟨w.heap.size+1,7,none⟩ (.int .i64 now)).setCell ⟨w.heap.size+1,8,none⟩ (.int .i64 1)=Y at HY⊢;obtain⟨MH,BA,rC,AB,u9⟩:=HY.o;have HMk2:=Qf (jR.o Y MH);obtain⟨yc,yf,yz⟩:=BA.facts;clear nc nf nz cc cf cz ec3 ef3 ez3 hxc3 xz BA;go_wp2_with fail;refine HMk2.o.mono ?_;rintro e w5 ⟨rfl,R5,gH,eJ,F1⟩;have Ak:=rC.mod eJ.mod (HF.o D (by omega));have D6:=AB.rf MH eJ;obtain⟨ec5,ef5,ez5⟩:=Ak.facts;have pM:=Qf (ag gH (ag ((aR.cQ u9).trans eJ) F1));clear MH rC AB u9 yc yf yz gH eJ F1 Ak;by_cases her:er=0
    ·have HC4:=Qf (Hi.o.trans (if_neg (by simpa using her)));have herb:(er != 0)=false:=by simpa using her
     have Kw:=Qf (wM d.ay ea el ec s no w5 D6 (by omega));clear her D6;go_wp2_with fail;refine Kw.o.mono ?_;rintro e w6 ⟨⟨a6,n6,c6,rfl,F4⟩,fo⟩;have D9:=Qf (qF (pM.o.1.ak fo) pP.o dir HGm.o F4);rw[pM.o.2.2.now,vM.o] at D9;have jx:=Qf fo;clear F4 fo ec5 ef5 ez5;go_wp2_with fail;refine D9.o.mono ?_;rintro e w7 ⟨rfl,R7,Aw,iU,F0⟩;have HR7:=Qf (ag Aw (ag ((pM.o.2.1.trans (aR.ar jx.o)).trans iU) (pM.o.2.2.trans F0)));clear Aw iU F0;go_wp2_with fail;go_ret2;rw[HC4.o];exact⟨rfl,R7,HR7.o⟩
    ·have HC4:=Qf (Hi.o.trans (if_pos (by simpa using her)));have herb:(er != 0)=true:=by simpa using her
     have HM:=Qf (show S2=S from HMb.o her);clear her D6;go_wp2_with fail;go_ret2;rw[HC4.o];refine⟨rfl,R5,?_,pM.o.2⟩;have h9:=pM.o.1;rw[HM.o] at h9;exact h9
   ·have Hi:=Qf (sU.o.trans (if_pos (by simpa using hf)));have hfb:(aF d.ay s != 0)=true:=by simpa using hf
    have HB:=Qf (au HX.o.2.2.2.2.2 aS);clear hf aS;go_wp2_with fail;go_ret2;rw[Hi.o];exact⟨rfl,jS.o _ HB.o⟩
end
end
section
open Go.RowKit
section
variable{w w':World}{pf:Nat}{R:Rf}{S:Fs}
theorem CL(h:aN w pf R S)(cr:Cr){N:Nat}(hk:ax S N)(hN:N≤100000)(hgl:S.ns.length≤100000)(dir:Int)(s:ByteArray)(hs:s.size≤100000)(mode:Int) :
  Calls Tryz.prog 132 #[.pointer (some ⟨pf,0,none⟩),.agg #[.int .i64 cr.u,.int .i64 cr.g],.int .i64 dir,.string s,.int .i64 mode] w fun e w'=>e=.returned (.tuple #[.int .i64 (S.aO cr R.now dir s mode).2.1,.int .i64 (S.aO cr R.now dir s mode).2.2])∧∃R',aN w' pf R' (S.aO cr R.now dir s mode).1∧aR (R.F pf) (R'.F pf) w w'∧Rf.cy R R':=by
 have hkeep:∀w2,Qi w w2→∃R',aN w2 pf R' S∧aR (R.F pf) (R'.F pf) w w2∧Rf.cy R R':=fun w2 hb=>⟨R,h.ak hb,aR.ar hb,Rf.cy.refl R⟩;have jS:=Qf hkeep;have cH:=(Below.refl _ w).alloc (aa _) (.cells #[.int .i64 cr.u,.int .i64 cr.g] 64);have bP:=Qf cH;by_cases h1:mode<0
 ·have HQ:=Qf (show S.aO cr R.now dir s mode=(S,0,1) by unfold Fs.aO;rw[if_pos (.inl h1)]);clear h hk hgl hkeep cH;go_enter Tryz.func132,Tryz.ntmps132;go_wp2_with fail;go_ret2;rw[HQ.o];exact⟨rfl,jS.o _ bP.o⟩
 ·by_cases h2:1023<mode
  ·have HQ:=Qf (show S.aO cr R.now dir s mode=(S,0,1) by unfold Fs.aO;rw[if_pos (.inr h2)]);clear h hk hgl hkeep cH;go_enter Tryz.func132,Tryz.ntmps132;go_wp2_with fail;go_ret2;rw[HQ.o];exact⟨rfl,jS.o _ bP.o⟩
  ·have HQ:=Qf (show S.aO cr R.now dir s mode=S.cC cr R.now dir s {cS with kind:=1,mode:=mode,up:=dir} by unfold Fs.aO;rw[if_neg (by omega)]);have P6:=Qf (show Calls Tryz.prog 174 #[.pointer (some ⟨pf,0,none⟩),.agg #[.int .i64 cr.u,.int .i64 cr.g],.int .i64 dir,.string s,.agg #[.int .i64 0,.int .i64 0,.int .i64 1,.int .i64 mode,.int .i64 0,.int .i64 0,.int .i64 0,.int .i64 0,.int .i64 0,.int .i64 dir,.string ByteArray.empty,.slice none 0 0]] (w.alloc (.cells #[.int .i64 cr.u,.int .i64 cr.g] 64)) fun e w'=>e=.returned (.tuple #[.int .i64 (S.cC cr R.now dir s {cS with kind:=1,mode:=mode,up:=dir}).2.1,.int .i64 (S.cC cr R.now dir s {cS with kind:=1,mode:=mode,up:=dir}).2.2])∧∃R',aN w' pf R' (S.cC cr R.now dir s {cS with kind:=1,mode:=mode,up:=dir}).1∧aR (R.F pf) (R'.F pf) (w.alloc (.cells #[.int .i64 cr.u,.int .i64 cr.g] 64)) w'∧Rf.cy R R' from mq (h.ak cH) cr hk hN hgl dir s hs {cS with kind:=1,mode:=mode,up:=dir} rfl (by show(0:Nat)≤1048576;omega));clear h hk hgl hkeep cH;go_enter Tryz.func132,Tryz.ntmps132;go_wp2_with fail;refine P6.o.mono ?_;rintro e w1 ⟨rfl,R',hR,hS,hL⟩;have HX:=Qf (ag hR (ag ((aR.ar bP.o).trans hS) hL));clear hR hS hL;go_wp2_with fail;go_ret2;rw[HQ.o];exact⟨rfl,R',HX.o⟩
theorem wU(h:aN w pf R S){N:Nat}(hk:ax S N)(hN:N≤100000)(hgl:S.ns.length≤100000)(dir:Int)(s:ByteArray)(hs:s.size≤100000)(mode:Int) :
  Calls Tryz.prog 132 #[.pointer (some ⟨pf,0,none⟩),.agg #[.int .i64 0,.int .i64 0],.int .i64 dir,.string s,.int .i64 mode] w fun e w'=>e=.returned (.tuple #[.int .i64 (S.aO bM R.now dir s mode).2.1,.int .i64 (S.aO bM R.now dir s mode).2.2])∧∃R',aN w' pf R' (S.aO bM R.now dir s mode).1∧aR (R.F pf) (R'.F pf) w w'∧Rf.cy R R':=CL h bM hk hN hgl dir s hs mode
theorem zQ(h:aN w pf R S)(cr:Cr){N:Nat}(hk:ax S N)(hN:N≤100000)(hgl:S.ns.length≤100000)(dir:Int)(s:ByteArray)(hs:s.size≤100000)(mode:Int)(data:ByteArray) :
  Calls Tryz.prog 135 #[.pointer (some ⟨pf,0,none⟩),.agg #[.int .i64 cr.u,.int .i64 cr.g],.int .i64 dir,.string s,.int .i64 mode,.string data] w fun e w'=>e=.returned (.tuple #[.int .i64 (S.file cr R.now dir s mode data).2.1,.int .i64 (S.file cr R.now dir s mode data).2.2])∧∃R',aN w' pf R' (S.file cr R.now dir s mode data).1∧aR (R.F pf) (R'.F pf) w w'∧Rf.cy R R':=by
 have hkeep:∀w2,Qi w w2→∃R',aN w2 pf R' S∧aR (R.F pf) (R'.F pf) w w2∧Rf.cy R R':=fun w2 hb=>⟨R,h.ak hb,aR.ar hb,Rf.cy.refl R⟩;have jS:=Qf hkeep;have cH:=(Below.refl _ w).alloc (aa _) (.cells #[.int .i64 cr.u,.int .i64 cr.g] 64);have bP:=Qf cH;by_cases h1:mode<0
 ·have HQ:=Qf (show S.file cr R.now dir s mode data=(S,0,1) by unfold Fs.file;rw[if_pos (.inl h1)]);clear h hk hgl hkeep cH;go_enter Tryz.func135,Tryz.ntmps135;go_wp2_with fail;go_ret2;rw[HQ.o];exact⟨rfl,jS.o _ bP.o⟩
 ·by_cases h2:1023<mode
  ·have HQ:=Qf (show S.file cr R.now dir s mode data=(S,0,1) by unfold Fs.file;rw[if_pos (.inr h2)]);clear h hk hgl hkeep cH;go_enter Tryz.func135,Tryz.ntmps135;go_wp2_with fail;go_ret2;rw[HQ.o];exact⟨rfl,jS.o _ bP.o⟩
  ·by_cases h3:1048576<data.size
   ·have HQ:=Qf (show S.file cr R.now dir s mode data=(S,0,3) by unfold Fs.file;rw[if_neg (by omega),if_pos h3]);have LO:(1048576:Int)<(data.size:Int):=by omega
    clear h hk hgl hkeep cH;go_enter Tryz.func135,Tryz.ntmps135;go_wp2_with fail;go_ret2;rw[HQ.o];exact⟨rfl,jS.o _ bP.o⟩
   ·have HQ:=Qf (show S.file cr R.now dir s mode data=S.cC cr R.now dir s {cS with kind:=2,mode:=mode,data:=data} by unfold Fs.file;rw[if_neg (by omega),if_neg h3]);have LO:¬(1048576:Int)<(data.size:Int):=by omega
    have P6:=Qf (show Calls Tryz.prog 174 #[.pointer (some ⟨pf,0,none⟩),.agg #[.int .i64 cr.u,.int .i64 cr.g],.int .i64 dir,.string s,.agg #[.int .i64 0,.int .i64 0,.int .i64 2,.int .i64 mode,.int .i64 0,.int .i64 0,.int .i64 0,.int .i64 0,.int .i64 0,.int .i64 0,.string data,.slice none 0 0]] (w.alloc (.cells #[.int .i64 cr.u,.int .i64 cr.g] 64)) fun e w'=>e=.returned (.tuple #[.int .i64 (S.cC cr R.now dir s {cS with kind:=2,mode:=mode,data:=data}).2.1,.int .i64 (S.cC cr R.now dir s {cS with kind:=2,mode:=mode,data:=data}).2.2])∧∃R',aN w' pf R' (S.cC cr R.now dir s {cS with kind:=2,mode:=mode,data:=data}).1∧aR (R.F pf) (R'.F pf) (w.alloc (.cells #[.int .i64 cr.u,.int .i64 cr.g] 64)) w'∧Rf.cy R R' from mq (h.ak cH) cr hk hN hgl dir s hs {cS with kind:=2,mode:=mode,data:=data} rfl (by show data.size≤1048576;omega));clear h hk hgl hkeep cH;go_enter Tryz.func135,Tryz.ntmps135;go_wp2_with fail;refine P6.o.mono ?_;rintro e w1 ⟨rfl,R',hR,hS,hL⟩;have HX:=Qf (ag hR (ag ((aR.ar bP.o).trans hS) hL));clear hR hS hL;go_wp2_with fail;go_ret2;rw[HQ.o];exact⟨rfl,R',HX.o⟩
theorem CK(h:aN w pf R S){N:Nat}(hk:ax S N)(hN:N≤100000)(hgl:S.ns.length≤100000)(dir:Int)(s:ByteArray)(hs:s.size≤100000)(mode:Int)(data:ByteArray) :
  Calls Tryz.prog 135 #[.pointer (some ⟨pf,0,none⟩),.agg #[.int .i64 0,.int .i64 0],.int .i64 dir,.string s,.int .i64 mode,.string data] w fun e w'=>e=.returned (.tuple #[.int .i64 (S.file bM R.now dir s mode data).2.1,.int .i64 (S.file bM R.now dir s mode data).2.2])∧∃R',aN w' pf R' (S.file bM R.now dir s mode data).1∧aR (R.F pf) (R'.F pf) w w'∧Rf.cy R R':=zQ h bM hk hN hgl dir s hs mode data
theorem Cy(h:aN w pf R S)(cr:Cr){N:Nat}(hk:ax S N)(hN:N≤100000)(hgl:S.ns.length≤100000)(dir:Int)(s:ByteArray)(hs:s.size≤100000)(text:ByteArray)(ht:text.size≤100000) :
  Calls Tryz.prog 136 #[.pointer (some ⟨pf,0,none⟩),.agg #[.int .i64 cr.u,.int .i64 cr.g],.int .i64 dir,.string s,.string text] w fun e w'=>e=.returned (.tuple #[.int .i64 (S.sym cr R.now dir s text).2.1,.int .i64 (S.sym cr R.now dir s text).2.2])∧∃R',aN w' pf R' (S.sym cr R.now dir s text).1∧aR (R.F pf) (R'.F pf) w w'∧Rf.cy R R':=by
 have hkeep:∀w2,Qi w w2→∃R',aN w2 pf R' S∧aR (R.F pf) (R'.F pf) w w2∧Rf.cy R R':=fun w2 hb=>⟨R,h.ak hb,aR.ar hb,Rf.cy.refl R⟩;have jS:=Qf hkeep;have cH:=(Below.refl _ w).alloc (aa _) (.cells #[.int .i64 cr.u,.int .i64 cr.g] 64);have bP:=Qf cH;have P2:=Qf (fun w=>pW text 0 w (by omega));have hq:hasB text 0=decide ((0:UInt8)∈text.data.toList):=rfl;have hte:text.toList=text.data.toList:=bG text;by_cases h1:text.data.toList=[]
 ·have HQ:=Qf (show S.sym cr R.now dir s text=(S,0,1) by unfold Fs.sym;rw[if_pos (.inl h1)]);have M4:text.toList=[]:=by rw[hte];exact h1
  clear h hk hgl hkeep cH hq hte h1;go_enter Tryz.func136,Tryz.ntmps136;go_wp2_with fail;go_ret2;rw[HQ.o];exact⟨rfl,jS.o _ bP.o⟩
 ·have M4:text.toList.isEmpty=false:=by rw[hte];simpa using h1
  by_cases h2:(0:UInt8)∈text.data.toList
  ·have HQ:=Qf (show S.sym cr R.now dir s text=(S,0,1) by unfold Fs.sym;rw[if_pos (.inr h2)]);rw[hq,decide_eq_true h2] at P2;clear h hk hgl hkeep cH hq hte h1 h2;go_enter Tryz.func136,Tryz.ntmps136;go_wp2_with fail;refine(P2.o _).mono ?_;rintro e w1 ⟨rfl,rfl⟩;go_wp2_with fail;go_ret2;rw[HQ.o];exact⟨rfl,jS.o _ bP.o⟩
  ·rw[hq,decide_eq_false h2] at P2;by_cases h3:4096<text.size
   ·have HQ:=Qf (show S.sym cr R.now dir s text=(S,0,13) by unfold Fs.sym;rw[if_neg (by rintro(h|h);exact h1 h;exact h2 h),if_pos h3]);have LO:(4096:Int)<(text.size:Int):=by omega
    clear h hk hgl hkeep cH hq hte h1 h2;go_enter Tryz.func136,Tryz.ntmps136;go_wp2_with fail;refine(P2.o _).mono ?_;rintro e w1 ⟨rfl,rfl⟩;go_wp2_with fail;go_ret2;rw[HQ.o];exact⟨rfl,jS.o _ bP.o⟩
   ·have HQ:=Qf (show S.sym cr R.now dir s text=S.cC cr R.now dir s {cS with kind:=3,mode:=511,data:=text} by unfold Fs.sym;rw[if_neg (by rintro(h|h);exact h1 h;exact h2 h),if_neg h3]);have LO:¬(4096:Int)<(text.size:Int):=by omega
    have P6:=Qf (show Calls Tryz.prog 174 #[.pointer (some ⟨pf,0,none⟩),.agg #[.int .i64 cr.u,.int .i64 cr.g],.int .i64 dir,.string s,.agg #[.int .i64 0,.int .i64 0,.int .i64 3,.int .i64 511,.int .i64 0,.int .i64 0,.int .i64 0,.int .i64 0,.int .i64 0,.int .i64 0,.string text,.slice none 0 0]] (w.alloc (.cells #[.int .i64 cr.u,.int .i64 cr.g] 64)) fun e w'=>e=.returned (.tuple #[.int .i64 (S.cC cr R.now dir s {cS with kind:=3,mode:=511,data:=text}).2.1,.int .i64 (S.cC cr R.now dir s {cS with kind:=3,mode:=511,data:=text}).2.2])∧∃R',aN w' pf R' (S.cC cr R.now dir s {cS with kind:=3,mode:=511,data:=text}).1∧aR (R.F pf) (R'.F pf) (w.alloc (.cells #[.int .i64 cr.u,.int .i64 cr.g] 64)) w'∧Rf.cy R R' from mq (h.ak cH) cr hk hN hgl dir s hs {cS with kind:=3,mode:=511,data:=text} rfl (by show text.size≤1048576;omega));clear h hk hgl hkeep cH hq hte h1 h2;go_enter Tryz.func136,Tryz.ntmps136;go_wp2_with fail;refine(P2.o _).mono ?_;rintro e w1 ⟨rfl,rfl⟩;go_wp2_with fail;refine P6.o.mono ?_;rintro e w1 ⟨rfl,R',hR,hS,hL⟩;have HX:=Qf (ag hR (ag ((aR.ar bP.o).trans hS) hL));clear hR hS hL;go_wp2_with fail;go_ret2;rw[HQ.o];exact⟨rfl,R',HX.o⟩
theorem EP(h:aN w pf R S){N:Nat}(hk:ax S N)(hN:N≤100000)(hgl:S.ns.length≤100000)(dir:Int)(s:ByteArray)(hs:s.size≤100000)(text:ByteArray)(ht:text.size≤100000) :
  Calls Tryz.prog 136 #[.pointer (some ⟨pf,0,none⟩),.agg #[.int .i64 0,.int .i64 0],.int .i64 dir,.string s,.string text] w fun e w'=>e=.returned (.tuple #[.int .i64 (S.sym bM R.now dir s text).2.1,.int .i64 (S.sym bM R.now dir s text).2.2])∧∃R',aN w' pf R' (S.sym bM R.now dir s text).1∧aR (R.F pf) (R'.F pf) w w'∧Rf.cy R R':=Cy h bM hk hN hgl dir s hs text ht
end
end
end Go.Proofs.YtabbjaomlmnnhaaGreat
