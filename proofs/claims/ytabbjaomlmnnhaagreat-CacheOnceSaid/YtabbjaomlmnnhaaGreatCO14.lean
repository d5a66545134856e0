import Derived.Test.YtabbjaomlmnnhaaGreatCO13
import Derived.Test.YtabbjaomlmnnhaaGreatCO5
import Derived.Test.YtabbjaomlmnnhaaGreatCO7
set_option linter.unusedVariables false
set_option linter.unusedSimpArgs false
set_option maxRecDepth 100000
set_option maxHeartbeats 16000000
namespace Go.Proofs.YtabbjaomlmnnhaaGreat
open Go.Value renaming int→UE,string→UF,slice→UG,pointer→UH,agg→UJ,tuple→UK
open Go.IntKind renaming i64→UL
section
open Go.RowKit
def qv(m:Int)(n:Nat):Bool:=bits .and .i64 (m / 2 ^ n) 1==1
def tT(cu cg uid gid:Int):Nat:=if cu=uid then 6 else if cg=gid then 3 else 0
def fB(mode want:Int)(f k:Nat):Bool:=(List.range k).all fun i=>!qv want i||qv mode (f+i)
def sM(cu cg uid gid mode want:Int):Bool:=if fB mode want (tT cu cg uid gid) 3 then true else decide (cu=0)
theorem Kk:∀m:Fin 1024,∀k:Fin 8,(fB (m.val:Int) (k.val:Int) 6 3=(bits .and .i64 (bits .and .i64 ((m.val:Int) / 64) (k.val:Int)) 7==bits .and .i64 (k.val:Int) 7))∧(fB (m.val:Int) (k.val:Int) 3 3=(bits .and .i64 (bits .and .i64 ((m.val:Int) / 8) (k.val:Int)) 7==bits .and .i64 (k.val:Int) 7))∧(fB (m.val:Int) (k.val:Int) 0 3=(bits .and .i64 (bits .and .i64 (m.val:Int) (k.val:Int)) 7==bits .and .i64 (k.val:Int) 7)):=by
 decide +kernel
theorem Ji(cu cg uid gid mode want:Int)(hm:0≤mode∧mode≤1023)(hw:0≤want∧want≤7):sM cu cg uid gid mode want=qJ cu cg uid gid mode want:=by
 obtain⟨m,rfl⟩:∃m:Nat,mode=m:=⟨mode.toNat,by omega⟩;obtain⟨k,rfl⟩:∃k:Nat,want=k:=⟨want.toNat,by omega⟩;obtain⟨t1,t2,t3⟩:=Kk ⟨m,by omega⟩ ⟨k,by omega⟩;simp only at t1 t2 t3;unfold sM qJ tT;by_cases h0:cu=0
 ·rw[if_pos h0,decide_eq_true h0];simp
 ·rw[if_neg h0,decide_eq_false h0];by_cases h1:cu=uid
  ·rw[if_pos h1,if_pos h1,t1]
   cases (bits .and .i64 (bits .and .i64 ((m:Int) / 64) (k:Int)) 7==bits .and .i64 (k:Int) 7)<;>rfl
  ·rw[if_neg h1,if_neg h1];by_cases h2:cg=gid
   ·rw[if_pos h2,if_pos h2,t2]
    cases (bits .and .i64 (bits .and .i64 ((m:Int) / 8) (k:Int)) 7==bits .and .i64 (k:Int) 7)<;>rfl
   ·rw[if_neg h2,if_neg h2,t3]
    cases (bits .and .i64 (bits .and .i64 (m:Int) (k:Int)) 7==bits .and .i64 (k:Int) 7)<;>rfl
theorem Fq(m:Int)(n:Nat)(hn:n≤100)(w:World) :
  Calls Tryz.prog 202 #[UE UL m,UE UL n] w fun e w'=>e=.returned (.bool (qv m n))∧w'=w:=by
 go_enter Tryz.func202,Tryz.ntmps202;go_wp2_with fail
 go_loopw [0,5] (fun t0 t5 wr=>∃(k:Nat),k≤n∧t0=UE UL (m / 2 ^ k)∧t5=UE UL k∧wr=w) (fun _ t5 _=>n-(intOf t5).toNat)
 case atStart=>exact⟨0,Nat.zero_le _,by simp,rfl,rfl⟩
 case round=>
  obtain⟨k,hk,rfl,rfl,rfl⟩:=hrel;by_cases hlt:k<n
  ·go_wp2_with fail;go_roundw
   case measure=>simp[intOf];omega
   case rel=>
    refine⟨k+1,by omega,?_,by go_num,by trivial⟩;rw[Int.pow_succ,Int.ediv_ediv_of_nonneg (Int.pow_nonneg (by decide))]
  ·obtain rfl:k=n:=by omega
   go_wp2_with fail;go_ret;exact⟨rfl,rfl⟩
theorem mB(mode want:Int)(f k:Nat):fB mode want f (k+1)=(fB mode want f k&&(!qv want k||qv mode (f+k))):=by
 unfold fB;rw[List.range_succ,List.all_append];simp
theorem mC{mode want:Int}{f k:Nat}(hk:k<3)(h1:qv want k=true)(h2:qv mode (f+k)=false):fB mode want f 3=false:=by
 unfold fB;rw[List.all_eq_false];exact⟨k,List.mem_range.2 hk,by rw[h1,h2];simp⟩
theorem Ff(cu cg uid gid mode want:Int)(w:World) :
  Calls Tryz.prog 194 #[UJ #[UE UL cu,UE UL cg],UE UL uid,UE UL gid,UE UL mode,UE UL want] w fun e w'=>e=.returned (.bool (sM cu cg uid gid mode want))∧UA w w':=by
 have ox:=Ux (fun m (n:Nat) hn w=>Fq m n hn w);have hB:=ax.new w #[UE UL cu,UE UL cg] 64;have cB:=Ux (ao (UB w) (.cells #[UE UL cu,UE UL cg] 64));obtain⟨qc,qf,qz⟩:=hB.facts;have HR:=Ux (show sM cu cg uid gid mode want=if fB mode want (tT cu cg uid gid) 3 then true else decide (cu=0) from rfl);have hcase:((cu==uid)=true∧tT cu cg uid gid=6)∨((cu==uid)=false∧(cg==gid)=true∧tT cu cg uid gid=3)∨((cu==uid)=false∧(cg==gid)=false∧tT cu cg uid gid=0):=by
  unfold tT;by_cases h1:cu=uid
  ·exact .inl ⟨by simpa using h1,if_pos h1⟩
  ·by_cases h2:cg=gid
   ·exact .inr (.inl ⟨by simpa using h1,by simpa using h2,by rw[if_neg h1,if_pos h2]⟩)
   ·exact .inr (.inr ⟨by simpa using h1,by simpa using h2,by rw[if_neg h1,if_neg h2]⟩)
 have hz:(cu==0)=decide (cu=0):=by
  rw[Bool.eq_iff_iff];simp
 have HZ:=Ux hz;clear hB hz;generalize sM cu cg uid gid mode want=RR at HR⊢;go_enter Tryz.func194,Tryz.ntmps194;go_upto_region 2 with fail;generalize w.alloc _=X at cB qc qf qz⊢;rcases hcase with⟨h1,hf⟩|⟨h1,h2,hf⟩|⟨h1,h2,hf⟩
 ·rw[hf] at HR;clear hf;go_wp2_with fail
  go_loopw [12] (fun t12 wr=>∃k:Nat,k≤3∧t12=UE UL k∧wr=X∧fB mode want 6 k=true) (fun t12 _=>3-(intOf t12).toNat)
  case atStart=>exact⟨0,Nat.zero_le _,rfl,rfl,rfl⟩
  case round=>
   obtain⟨k,hk,rfl,hwr,hok⟩:=hrel;have hwr:=hwr.symm;subst hwr;have gQ:=Ux hok;clear hok;by_cases hlt:k<3
   ·have im:(k:Int)<3:=by omega
    have j9:=Ux (mB mode want 6 k);have jW:=Ux (fun h1 h2=>mC (mode:=mode) (want:=want) (f:=6) hlt h1 h2);go_wp2_with fail;refine(ox.o want k (by omega) _).mono ?_;rintro e w2 ⟨rfl,rfl⟩;obtain⟨b1,av⟩:∃b,qv want k=b:=⟨_,rfl⟩;rw[av] at j9 jW;rw[av];clear av
    cases b1 with
    |false=>
     have HN:=Ux (show fB mode want 6 (k+1)=true by rw[j9.o,gQ.o];rfl);go_wp2_with fail;go_roundw
     case measure=>simp[intOf];omega
     case rel=>exact⟨k+1,by omega,by go_num,by first|rfl|trivial,HN.o⟩
    |true=>
     have hfk:IntKind.i64.wrap ((6:Int)+(k:Int))=(6:Int)+(k:Int):=by rw[IntKind.wrap_i64];omega
     go_wp2_with fail;have h2:=ox.o mode (6+k) (by omega);rw[show((6+k:Nat):Int)=(6:Int)+(k:Int) from by omega] at h2;refine(h2 _).mono ?_;rintro e w3 ⟨rfl,rfl⟩;obtain⟨b2,aY⟩:∃b,qv mode (6+k)=b:=⟨_,rfl⟩;rw[aY] at j9 jW;rw[aY];clear aY
     cases b2 with
     |false=>
      have HN:=Ux (show RR=decide (cu=0) by rw[HR.o,jW.o (by first|rfl|trivial) (by first|rfl|trivial)];simp);have hzz:=HZ.o;go_wp2_with fail;go_ret;exact⟨eh (by rw[HN.o,←HZ.o]),cB.o⟩
     |true=>
      have HN:=Ux (show fB mode want 6 (k+1)=true by rw[j9.o,gQ.o];rfl);go_wp2_with fail;go_roundw
      case measure=>simp[intOf];omega
      case rel=>exact⟨k+1,by omega,by go_num,by first|rfl|trivial,HN.o⟩
   ·obtain rfl:k=3:=by omega
    have HN:=Ux (show RR=true by rw[HR.o,gQ.o,if_pos rfl]);go_wp2_with fail;go_ret;exact⟨eh HN.o.symm,cB.o⟩
 ·rw[hf] at HR;clear hf;go_wp2_with fail
  go_loopw [12] (fun t12 wr=>∃k:Nat,k≤3∧t12=UE UL k∧wr=X∧fB mode want 3 k=true) (fun t12 _=>3-(intOf t12).toNat)
  case atStart=>exact⟨0,Nat.zero_le _,rfl,rfl,rfl⟩
  case round=>
   obtain⟨k,hk,rfl,hwr,hok⟩:=hrel;have hwr:=hwr.symm;subst hwr;have gQ:=Ux hok;clear hok;by_cases hlt:k<3
   ·have im:(k:Int)<3:=by omega
    have j9:=Ux (mB mode want 3 k);have jW:=Ux (fun h1 h2=>mC (mode:=mode) (want:=want) (f:=3) hlt h1 h2);go_wp2_with fail;refine(ox.o want k (by omega) _).mono ?_;rintro e w2 ⟨rfl,rfl⟩;obtain⟨b1,av⟩:∃b,qv want k=b:=⟨_,rfl⟩;rw[av] at j9 jW;rw[av];clear av
    cases b1 with
    |false=>
     have HN:=Ux (show fB mode want 3 (k+1)=true by rw[j9.o,gQ.o];rfl);go_wp2_with fail;go_roundw
     case measure=>simp[intOf];omega
     case rel=>exact⟨k+1,by omega,by go_num,by first|rfl|trivial,HN.o⟩
    |true=>
     have hfk:IntKind.i64.wrap ((3:Int)+(k:Int))=(3:Int)+(k:Int):=by rw[IntKind.wrap_i64];omega
     go_wp2_with fail;have h2:=ox.o mode (3+k) (by omega);rw[show((3+k:Nat):Int)=(3:Int)+(k:Int) from by omega] at h2;refine(h2 _).mono ?_;rintro e w3 ⟨rfl,rfl⟩;obtain⟨b2,aY⟩:∃b,qv mode (3+k)=b:=⟨_,rfl⟩;rw[aY] at j9 jW;rw[aY];clear aY
     cases b2 with
     |false=>
      have HN:=Ux (show RR=decide (cu=0) by rw[HR.o,jW.o (by first|rfl|trivial) (by first|rfl|trivial)];simp);have hzz:=HZ.o;go_wp2_with fail;go_ret;exact⟨eh (by rw[HN.o,←HZ.o]),cB.o⟩
     |true=>
      have HN:=Ux (show fB mode want 3 (k+1)=true by rw[j9.o,gQ.o];rfl);go_wp2_with fail;go_roundw
      case measure=>simp[intOf];omega
      case rel=>exact⟨k+1,by omega,by go_num,by first|rfl|trivial,HN.o⟩
   ·obtain rfl:k=3:=by omega
    have HN:=Ux (show RR=true by rw[HR.o,gQ.o,if_pos rfl]);go_wp2_with fail;go_ret;exact⟨eh HN.o.symm,cB.o⟩
 ·rw[hf] at HR;clear hf;go_wp2_with fail
  go_loopw [12] (fun t12 wr=>∃k:Nat,k≤3∧t12=UE UL k∧wr=X∧fB mode want 0 k=true) (fun t12 _=>3-(intOf t12).toNat)
  case atStart=>exact⟨0,Nat.zero_le _,rfl,rfl,rfl⟩
  case round=>
   obtain⟨k,hk,rfl,hwr,hok⟩:=hrel;have hwr:=hwr.symm;subst hwr;have gQ:=Ux hok;clear hok;by_cases hlt:k<3
   ·have im:(k:Int)<3:=by omega
    have j9:=Ux (mB mode want 0 k);have jW:=Ux (fun h1 h2=>mC (mode:=mode) (want:=want) (f:=0) hlt h1 h2);go_wp2_with fail;refine(ox.o want k (by omega) _).mono ?_;rintro e w2 ⟨rfl,rfl⟩;obtain⟨b1,av⟩:∃b,qv want k=b:=⟨_,rfl⟩;rw[av] at j9 jW;rw[av];clear av
    cases b1 with
    |false=>
     have HN:=Ux (show fB mode want 0 (k+1)=true by rw[j9.o,gQ.o];rfl);go_wp2_with fail;go_roundw
     case measure=>simp[intOf];omega
     case rel=>exact⟨k+1,by omega,by go_num,by first|rfl|trivial,HN.o⟩
    |true=>
     have hfk:IntKind.i64.wrap ((0:Int)+(k:Int))=(0:Int)+(k:Int):=by rw[IntKind.wrap_i64];omega
     go_wp2_with fail;have h2:=ox.o mode (0+k) (by omega);rw[show((0+k:Nat):Int)=(0:Int)+(k:Int) from by omega] at h2;refine(ox.o mode k (by omega) _).mono ?_;rintro e w3 ⟨rfl,rfl⟩;obtain⟨b2,aY⟩:∃b,qv mode (0+k)=b:=⟨_,rfl⟩;rw[aY] at j9 jW;rw[Nat.zero_add] at aY;rw[aY];clear aY
     cases b2 with
     |false=>
      have HN:=Ux (show RR=decide (cu=0) by rw[HR.o,jW.o (by first|rfl|trivial) (by first|rfl|trivial)];simp);have hzz:=HZ.o;go_wp2_with fail;go_ret;exact⟨eh (by rw[HN.o,←HZ.o]),cB.o⟩
     |true=>
      have HN:=Ux (show fB mode want 0 (k+1)=true by rw[j9.o,gQ.o];rfl);go_wp2_with fail;go_roundw
      case measure=>simp[intOf];omega
      case rel=>exact⟨k+1,by omega,by go_num,by first|rfl|trivial,HN.o⟩
   ·obtain rfl:k=3:=by omega
    have HN:=Ux (show RR=true by rw[HR.o,gQ.o,if_pos rfl]);go_wp2_with fail;go_ret;exact⟨eh HN.o.symm,cB.o⟩
theorem sJ(c:Cr)(a:An)(ea:Option Addr)(el ec:Nat)(want:Int)(hm:0≤a.mode∧a.mode≤1023)(hw:0≤want∧want≤7)(w:World) :
  Calls Tryz.prog 170 #[UJ #[UE UL c.u,UE UL c.g],a.v ea el ec,UE UL want] w fun e w'=>e=.returned (.bool (a.may c want))∧UA w w':=by
 have HS:=Ux (Ji c.u c.g a.uid a.gid a.mode want hm hw);have HM:=Ux (fun w=>Ff c.u c.g a.uid a.gid a.mode want w);unfold An.may;rw[HS.o] at HM;generalize qJ c.u c.g a.uid a.gid a.mode want=b at HM⊢;unfold An.v;go_enter Tryz.func170,Tryz.ntmps170;go_wp2_with fail;refine(HM.o _).mono ?_;rintro e w1 ⟨rfl,av⟩;go_wp2_with fail;go_ret;exact⟨rfl,ar (ao (ao (Below.refl _ _) _) _) av⟩
end
section
open Go.RowKit
theorem fT{tmps:Array Value}{W:World}{B:Nat}{a:An}{ea:Option Addr}{el ec:Nat}{e:Int}(hb:ax W B #[UE UL a.no,UE UL a.dev,UE UL a.kind,UE UL a.mode,UE UL a.uid,UE UL a.gid,UE UL a.mtime,UE UL a.ctime,UE UL a.ak,UE UL a.up,UF a.data,UG ea el ec] 149)
  (h8:tmps.getD 8 undef=UH (some ⟨B,0,none⟩)) (h9:tmps.getD 9 undef=UE UL e):(results Tryz.f178 tmps).run Tryz.prog W=.ok (UK #[a.v ea el ec,UE UL e]) W:=by
 obtain⟨q0,q1,q2,q3,q4,q5,q6,q7,q8,q9,q10,q11⟩:=hb.fO;rw[Array.getD_eq_getD_getElem?] at h8 h9;simp[results,Tryz.results178,go_sem,An.v,h8,h9,q0,q1,q2,q3,q4,q5,q6,q7,q8,q9,q10,q11]
section
variable{w w':World}{pf:Nat}{R:Rf}{S:Fs}
theorem oL(h:aW w pf R S)(cr:Cr)(dir:Int)(s:ByteArray)(hg:S.get dir=none) :
  Calls Tryz.prog 178 #[UH (some ⟨pf,0,none⟩),UJ #[UE UL cr.u,UE UL cr.g],UE UL dir,UF s] w fun e w'=>e=.returned (UK #[dD.v none 0 0,UE UL 5])∧UA w w':=by
 have HG:=Ux (fun w1 (av:UA w w1)=>mM (h.an av) hg);unfold An.v dD at HG;clear h hg;go_enter Tryz.func178,Tryz.ntmps178;go_wp2_with fail;refine(HG.o _ (ao (ao (Below.refl _ _) _) _)).mono ?_;rintro e w1 ⟨rfl,av⟩;have aY:=ar (ao (ao (UB w) _) _) av;have hR:ax w1 (w.heap.size+1) #[UE UL 0,UE UL 0,UE UL 0,UE UL 0,UE UL 0,UE UL 0,UE UL 0,UE UL 0,UE UL 0,UE UL 0,UF ByteArray.empty,UG none 0 0] 149:=by
  have:=((ax.new (w.alloc (.cells #[UE UL cr.u,UE UL cr.g] 64)) #[UE UL 0,UE UL 0,UE UL 0,UE UL 0,UE UL 0,UE UL 0,UE UL 0,UE UL 0,UE UL 0,UE UL 0,UF ByteArray.empty,UG none 0 0] 149).an av)
  rwa [World.size_alloc] at this
 have fh:=hR.bI (.cells #[UE UL 0,UE UL 0,UE UL 0,UE UL 0,UE UL 0,UE UL 0,UE UL 0,UE UL 0,UE UL 0,UE UL 0,UF ByteArray.empty,UG none 0 0] 149);have aJ:=ao aY (.cells #[UE UL 0,UE UL 0,UE UL 0,UE UL 0,UE UL 0,UE UL 0,UE UL 0,UE UL 0,UE UL 0,UE UL 0,UF ByteArray.empty,UG none 0 0] 149);have jg:=ax.new w1 #[UE UL 0,UE UL 0,UE UL 0,UE UL 0,UE UL 0,UE UL 0,UE UL 0,UE UL 0,UE UL 0,UE UL 0,UF ByteArray.empty,UG none 0 0] 149;clear hR av aY;go_upto_region 2 with fail;generalize w1.alloc _=X at fh aJ jg⊢;obtain⟨dc,df,dz⟩:=jg.facts;have gT:=Ux fh;have bC:=Ux aJ;obtain⟨rc,rf,rz⟩:=fh.facts;clear fh aJ;go_wp2_with fail;exact bodyPost_ret (fT (a:=dD) gT.o.dY rfl rfl) rfl ⟨rfl,bg bC.o (Nat.le_succ _)⟩
theorem zV(h:aW w pf R S)(dir:Int)(s:ByteArray)(hg:S.get dir=none) :
  Calls Tryz.prog 178 #[UH (some ⟨pf,0,none⟩),UJ #[UE UL 0,UE UL 0],UE UL dir,UF s] w fun e w'=>e=.returned (UK #[dD.v none 0 0,UE UL 5])∧UA w w':=oL h cw dir s hg
theorem oK(h:aW w pf R S)(cr:Cr){N:Nat}(hk:ay S N)(dir:Int)(s:ByteArray)(hs:s.size≤100000)(d:An)(hg:S.get dir=some d) :
  ∃ea el ec,aA w ea el ec d.au∧Calls Tryz.prog 178 #[UH (some ⟨pf,0,none⟩),UJ #[UE UL cr.u,UE UL cr.g],UE UL dir,UF s] w fun e w'=>((S.aX cr dir s≠0∧e=.returned (UK #[dD.v none 0 0,UE UL (S.aX cr dir s)]))∨(S.aX cr dir s=0∧e=.returned (UK #[d.v ea el ec,UE UL 0])))∧UA w w':=by
 obtain⟨hao,hno,j6,-⟩:=hk.get hg;have hmd:=hao.mode;have hz:(d.no==0)=false:=by simp only[beq_eq_false_iff_ne,ne_eq];omega
 obtain⟨ea,el,ec,he,hG⟩:=jM h hg;refine⟨ea,el,ec,he,?_⟩;have HG:=Ux hG;unfold An.v at HG;have eK:=Ux (fun w=>Cv s w hs);have ks:=Ux (show S.aX cr dir s=if d.kind≠1 then 9 else if cH s≠0 then cH s else if d.may cr 3=false then 6 else 0 by unfold Fs.aX;rw[hg]);have lX:=Ux (fun w=>sJ cr d ea el ec 3 hmd (by decide) w);unfold An.v at lX;generalize cH s=ce at eK ks;generalize S.aX cr dir s=pe at ks⊢;generalize d.may cr 3=m at lX ks;clear h hk hg he hG hno hao hmd;go_enter Tryz.func178,Tryz.ntmps178;go_wp2_with fail;refine(HG.o _ (ao (ao (Below.refl _ _) _) _)).mono ?_;rintro e w1 ⟨rfl,av⟩;have aY:=ar (ao (ao (UB w) _) _) av;have hR:ax w1 (w.heap.size+1) #[UE UL 0,UE UL 0,UE UL 0,UE UL 0,UE UL 0,UE UL 0,UE UL 0,UE UL 0,UE UL 0,UE UL 0,UF ByteArray.empty,UG none 0 0] 149:=by
  have:=((ax.new (w.alloc (.cells #[UE UL cr.u,UE UL cr.g] 64)) #[UE UL 0,UE UL 0,UE UL 0,UE UL 0,UE UL 0,UE UL 0,UE UL 0,UE UL 0,UE UL 0,UE UL 0,UF ByteArray.empty,UG none 0 0] 149).an av)
  rwa [World.size_alloc] at this
 have yZ:ax w1 w.heap.size #[UE UL cr.u,UE UL cr.g] 64:=((ax.new w #[UE UL cr.u,UE UL cr.g] 64).bI (.cells #[UE UL 0,UE UL 0,UE UL 0,UE UL 0,UE UL 0,UE UL 0,UE UL 0,UE UL 0,UE UL 0,UE UL 0,UF ByteArray.empty,UG none 0 0] 149)).an av;have fh:=hR.bI (.cells #[UE UL d.no,UE UL d.dev,UE UL d.kind,UE UL d.mode,UE UL d.uid,UE UL d.gid,UE UL d.mtime,UE UL d.ctime,UE UL d.ak,UE UL d.up,UF d.data,UG ea el ec] 149);have ir:=yZ.bI (.cells #[UE UL d.no,UE UL d.dev,UE UL d.kind,UE UL d.mode,UE UL d.uid,UE UL d.gid,UE UL d.mtime,UE UL d.ctime,UE UL d.ak,UE UL d.up,UF d.data,UG ea el ec] 149);have jg:=ax.new w1 #[UE UL d.no,UE UL d.dev,UE UL d.kind,UE UL d.mode,UE UL d.uid,UE UL d.gid,UE UL d.mtime,UE UL d.ctime,UE UL d.ak,UE UL d.up,UF d.data,UG ea el ec] 149;have aJ:=ao aY (.cells #[UE UL d.no,UE UL d.dev,UE UL d.kind,UE UL d.mode,UE UL d.uid,UE UL d.gid,UE UL d.mtime,UE UL d.ctime,UE UL d.ak,UE UL d.up,UF d.data,UG ea el ec] 149);clear hR yZ av aY;go_upto_region 2 with fail;generalize w1.alloc _=X at fh ir jg aJ⊢;have gT:=Ux fh;have bC:=Ux aJ;have BJ:=Ux jg;have Qz:=Ux ir;obtain⟨rc,rf,rz⟩:=fh.facts;obtain⟨dc,df,dz⟩:=jg.facts;obtain⟨cc,-,-⟩:=ir.facts;clear fh aJ jg ir;by_cases h1:d.kind=1
 ·have q1:(d.kind==1)=true:=by simpa using h1
  have q2:(d.kind != 1)=false:=by simpa using h1
  by_cases h2:ce=0
  ·have q3:(ce != 0)=false:=by simpa using h2
   have nj:=Ux (show pe=if m=false then 6 else 0 by rw[ks.o];simp[h1,h2]);clear h1 h2;go_wp2_with fail;refine(eK.o _).mono ?_;rintro e w2 ⟨rfl,rfl⟩;go_wp2_with fail;refine(lX.o _).mono ?_;rintro e w5 ⟨rfl,cK⟩;have og:=gT.o.an cK;have AS:=BJ.o.an cK;have tQ:=bC.o.trans (cK.mono bC.o.size);have yJ:=Ux og;have yS:=Ux tQ;clear rc rf rz dc df dz cc;obtain⟨rc,rf,rz⟩:=og.facts;obtain⟨dc,-,-⟩:=AS.facts;clear og tQ cK AS
   cases m with
   |true=>
    have eA:=Ux (nj.o.trans (if_neg (by decide)));go_wp2_with fail;exact bodyPost_ret (fT (a:=d) (ea:=ea) (el:=el) (ec:=ec) yJ.o.dY rfl rfl) rfl ⟨.inr ⟨eA.o,rfl⟩,bg yS.o (Nat.le_succ _)⟩
   |false=>
    have eA:=Ux (nj.o.trans (if_pos rfl));go_wp2_with fail;exact bodyPost_ret (fT (a:=dD) yJ.o.dY rfl rfl) rfl ⟨.inl ⟨by rw[eA.o];decide,by rw[eA.o]⟩,bg yS.o (Nat.le_succ _)⟩
  ·have q3:(ce != 0)=true:=by simpa using h2
   have Qw:=Ux (show pe=ce∧ce≠0 by refine⟨?_,h2⟩;rw[ks.o];simp[h1,h2]);clear h1 h2;go_wp2_with fail;refine(eK.o _).mono ?_;rintro e w2 ⟨rfl,rfl⟩;go_wp2_with fail;exact bodyPost_ret (fT (a:=dD) gT.o.dY rfl rfl) rfl ⟨.inl ⟨by rw[Qw.o.1];exact Qw.o.2,by rw[Qw.o.1]⟩,bg bC.o (Nat.le_succ _)⟩
 ·have q1:(d.kind==1)=false:=by simpa using h1
  have q2:(d.kind != 1)=true:=by simpa using h1
  have KH:=Ux (show pe=9 by rw[ks.o];simp[h1]);clear h1;go_wp2_with fail;exact bodyPost_ret (fT (a:=dD) gT.o.dY rfl rfl) rfl ⟨.inl ⟨by rw[KH.o];decide,by rw[KH.o]⟩,bg bC.o (Nat.le_succ _)⟩
theorem zU(h:aW w pf R S){N:Nat}(hk:ay S N)(dir:Int)(s:ByteArray)(hs:s.size≤100000)(d:An)(hg:S.get dir=some d) :
  ∃ea el ec,aA w ea el ec d.au∧Calls Tryz.prog 178 #[UH (some ⟨pf,0,none⟩),UJ #[UE UL 0,UE UL 0],UE UL dir,UF s] w fun e w'=>((S.aX cw dir s≠0∧e=.returned (UK #[dD.v none 0 0,UE UL (S.aX cw dir s)]))∨(S.aX cw dir s=0∧e=.returned (UK #[d.v ea el ec,UE UL 0])))∧UA w w':=oK h cw hk dir s hs d hg
end
end
section
open Go.RowKit
theorem yu(x:En)(l:List En)(s:ByteArray):aw (x::l) s=if x.name=s then x.no else aw l s:=by
 unfold aw;rw[List.find?_cons];by_cases h:x.name=s
 ·rw[if_pos h,decide_eq_true h]
 ·rw[if_neg h,decide_eq_false h]
theorem Km(a b:ByteArray):(a.toList==b.toList)=decide (a=b):=by
 rw[ByteArray.toList_eq,ByteArray.toList_eq];by_cases h:a=b
 ·subst h;simp
 ·rw[decide_eq_false h];simp only[beq_eq_false_iff_ne,ne_eq];exact fun e=>h (uw e)
theorem pT(es:List En)(a:Option Addr)(n c:Nat)(s:ByteArray)(w:World)(he:aA w a n c es) :
  Calls Tryz.prog 173 #[UG a n c,UF s] w fun e w'=>e=.returned (UE UL (aw es s))∧UA w w':=by
 have hl:=he.len;subst hl;have jH:=he.sl.2.1;have fE:=he.sl.2.2.1;have HE:=Ux he;clear he;go_enter Tryz.func173,Tryz.ntmps173;go_wp2_with fail
 go_loopw [5] (fun t3 wr=>∃k:Nat,k≤es.length∧t3=UE UL k∧aw es s=aw (es.drop k) s∧UA w wr) (fun t3 _=>es.length-(intOf t3).toNat)
 case atStart=>exact⟨0,Nat.zero_le _,rfl,by rw[List.drop_zero],Below.refl _ _⟩
 case round=>
  obtain⟨k,hk,rfl,hf,hb⟩:=hrel;by_cases hlt:k<es.length
  ·have lx:=HE.o.an hb;obtain⟨b,off,rfl,hbl⟩:=lx.ej (by omega);obtain⟨c0,c1⟩:=lx.cell k hlt;rw[List.drop_eq_getElem_cons hlt,yu] at hf;have HF:=Ux hf;have HB:=Ux hb;have hcmp:=Km es[k].name s;generalize es[k]=x at c0 c1 hcmp HF;clear hf hb lx;by_cases hx:x.name=s
   ·have HR:=Ux (HF.o.trans (if_pos hx));rw[decide_eq_true hx] at hcmp;clear hx;go_wp2_with fail;go_ret;exact⟨by rw[HR.o];rfl,HB.o⟩
   ·have HR:=Ux (HF.o.trans (if_neg hx));rw[decide_eq_false hx] at hcmp;clear hx;go_wp2_with fail;go_roundw
    case measure=>simp[intOf];omega
    case rel=>exact⟨k+1,by omega,by go_num,HR.o,HB.o⟩
  ·obtain rfl:k=es.length:=by omega
   rw[List.drop_length] at hf;have HR:=Ux (show aw es s=0 from hf);have HB:=Ux hb;clear hf hb;go_wp2_with fail;go_ret;exact⟨by rw[HR.o];rfl,HB.o⟩
theorem OE.Dz{w:World}{base:Nat}{v:Value}{es:List En}(h:OE w base v es)(x:En)(hl:es.length≤1000000)(hb:base≤w.heap.size) :
  ∃g cap W,(Builtin.append_ #[94,94] 94 #[v,.slice (some ⟨w.heap.size,0,none⟩) 1 1]).run Tryz.prog (w.alloc (.cells #[UF x.name,UE UL x.no] 98))=.ok (.slice (some ⟨g,0,none⟩) (es.length+1) cap) W∧
   OE W base (.slice (some ⟨g,0,none⟩) (es.length+1) cap) (es++[x])∧Below base w W:=by
 obtain⟨i0,hi,kp,fj,fo⟩:=info_parts gY;have ho:=World.ownsRow.alloc h (.cells #[UF x.name,UE UL x.no] 98);obtain⟨g,cap,W,h1,h2,h3,h4⟩:=eX 94 Tryz.underlying94 hi kp fj fo rfl (by omega) ho ⟨w.heap.size,0,none⟩ 1 1 [UF x.name,UE UL x.no] rfl (World.news_of_block (ax.new w #[UF x.name,UE UL x.no] 98)) (by intro u hu;simp at hu;rcases hu with rfl|rfl<;>rfl) (by omega) (by unfold maxLen;omega) (by omega) (by simp;omega);refine⟨g,cap,W,h1,?_,(((Below.refl base w).alloc hb _)).trans (h3.below (fun k hk=>(h.lt k hk).1) (by simp;omega))⟩;unfold OE;rw[List.length_append,List.length_singleton,List.flatMap_append];exact h2
theorem OE.form{w:World}{base:Nat}{v:Value}{es:List En}(h:OE w base v es):∃a c,v=UG a es.length c∧aA w a es.length c es:=by
 obtain⟨a,c,rfl,-⟩:=bQ h;exact⟨a,c,rfl,h.at⟩
theorem JW(a s:ByteArray):(gA s a=true∧Op.bytesLess a.toList s.toList=false∧(a.toList==s.toList)=false)∨(gA s a=false∧Op.bytesLess a.toList s.toList=true)∨(gA s a=false∧Op.bytesLess a.toList s.toList=false∧(a.toList==s.toList)=true):=by
 rw[tu,Km]
 cases h1:gA a s with
 |true=>exact .inr (.inl ⟨kF h1,rfl⟩)
 |false=>
  cases h2:gA s a with
  |true=>exact .inl ⟨rfl,rfl,decide_eq_false (Ne.symm (CG h2))⟩
  |false=>exact .inr (.inr ⟨rfl,rfl,decide_eq_true (jF h1 h2)⟩)
def om(n:ByteArray)(x:En):Bool:=gA x.name n
def mE(n:ByteArray)(x:En):Bool:=gA n x.name
theorem qT{p:En→Bool}(l:List En)(k:Nat)(hk:k<l.length)(h:p l[k]=true):(l.take (k+1)).filter p=(l.take k).filter p++[l[k]]:=by
 rw[List.take_succ_eq_append_getElem hk,List.filter_append];simp[h]
theorem tV{p:En→Bool}(l:List En)(k:Nat)(hk:k<l.length)(h:p l[k]=false):(l.take (k+1)).filter p=(l.take k).filter p:=by
 rw[List.take_succ_eq_append_getElem hk,List.filter_append];simp[h]
theorem mx(p:En→Bool)(l:List En)(k:Nat):((l.take k).filter p).length≤l.length:=by
 have h1:=List.length_filter_le p (l.take k);have h2:(l.take k).length≤l.length:=by rw[List.length_take];omega
 omega
theorem zT(es:List En)(a:Option Addr)(n c:Nat)(s:ByteArray)(no:Int)(w:World)(he:aA w a n c es)(hn:n≤400000) :
  Calls Tryz.prog 180 #[UG a n c,UF s,UE UL no] w fun e w'=>(∃a' n' c',e=.returned (UG a' n' c')∧aA w' a' n' c' (aV es s no))∧UA w w':=by
 have hl:=he.len;subst hl;have jH:=he.sl.2.1;have fE:=he.sl.2.2.1;have HE:=Ux he;have HP:=Ux (show aV es s no=es.filter (om s)++⟨s,no⟩::es.filter (mE s) from rfl);clear he;generalize aV es s no=R at HP⊢;go_enter Tryz.func180,Tryz.ntmps180;go_wp2_with fail
 go_loopw [7,8] (fun t4 t5 wr=>∃k:Nat,k≤es.length∧t5=UE UL k∧OE wr w.heap.size t4 ((es.take k).filter (om s))∧UA w wr) (fun _ t5 _=>es.length-(intOf t5).toNat)
 case atStart=>exact⟨0,Nat.zero_le _,rfl,⟨rfl,.inl ⟨rfl,rfl⟩⟩,Below.refl _ _⟩
 case round=>
  obtain⟨k,hk,rfl,hO,hb⟩:=hrel;have HO:=Ux hO;have HB:=Ux hb;by_cases hlt:k<es.length
  ·have lx:=HE.o.an hb;obtain⟨b,off,rfl,hbl⟩:=lx.ej (by omega);obtain⟨c0,c1⟩:=lx.cell k hlt;have HY:=Ux (qT (p:=om s) es k hlt);have HN:=Ux (tV (p:=om s) es k hlt);have hfl:=mx (om s) es k;have hcmp:=tu es[k].name s;obtain⟨g,cap,W,hrun,lV,dR⟩:=hO.Dz es[k] (by omega) hb.size;have HX:=Ux (ag lV dR);generalize es[k]=x at c0 c1 hcmp HY HN hrun HX;clear hO hb lx lV dR hfl
   cases hx:gA x.name s with
   |true=>
    rw[hx] at hcmp;have Oi:=Ux (HY.o hx);have HR:=Ux hrun;clear hx hrun;go_wp2_with (at_builtin;refine aT rfl rfl rfl rfl HR.o ?_);go_roundw
    case measure=>simp[intOf];omega
    case rel=>exact⟨k+1,by omega,by go_num,by rw[Oi.o];exact HX.o.1,HB.o.trans HX.o.2⟩
   |false=>
    rw[hx] at hcmp;have BQ:=Ux (HN.o hx);clear hx hrun;go_wp2_with fail;go_roundw
    case measure=>simp[intOf];omega
    case rel=>exact⟨k+1,by omega,by go_num,by rw[BQ.o];exact HO.o,HB.o⟩
  ·obtain rfl:k=es.length:=by omega
   have hfl:=mx (om s) es es.length;rw[List.take_length] at hO hfl;obtain⟨g,cap,W,hrun,lV,dR⟩:=hO.Dz ⟨s,no⟩ (by omega) hb.size;have HX:=Ux (ag lV (hb.trans dR));have HR:=Ux hrun;generalize hlo:es.filter (om s)=lo at HP HX HR hfl;clear hO hb lV dR hrun HO HB hlo;go_wp2_with (at_builtin;refine aT rfl rfl rfl rfl HR.o ?_)
   go_loopw [7,9] (fun t4 t6 wr=>∃k:Nat,k≤es.length∧t6=UE UL k∧OE wr w.heap.size t4 (lo++[⟨s,no⟩]++(es.take k).filter (mE s))∧UA w wr) (fun _ t6 _=>es.length-(intOf t6).toNat)
   case atStart=>exact⟨0,Nat.zero_le _,rfl,by simpa using HX.o.1,HX.o.2⟩
   case round=>
    obtain⟨k,hk,rfl,hO,hb⟩:=hrel;have HO:=Ux hO;have HB:=Ux hb;have hfl2:=mx (mE s) es k;have hln:(lo++[(⟨s,no⟩:En)]++(es.take k).filter (mE s)).length≤1000000:=by
     rw[List.length_append,List.length_append,List.length_singleton];omega
    by_cases hlt:k<es.length
    ·have lx:=HE.o.an hb;obtain⟨b,off,rfl,hbl⟩:=lx.ej (by omega);obtain⟨c0,c1⟩:=lx.cell k hlt;have HY:=Ux (qT (p:=mE s) es k hlt);have HN:=Ux (tV (p:=mE s) es k hlt);have hcmp:=JW es[k].name s;obtain⟨g,cap,W,hrun,lV,dR⟩:=hO.Dz es[k] hln hb.size;have DC:=Ux (ag lV dR);generalize es[k]=x at c0 c1 hcmp HY HN hrun DC;clear hO hb lx lV dR hfl2 hln;generalize hcur:lo++[(⟨s,no⟩:En)]++(es.take k).filter (mE s)=cur at hrun DC HO;have KI:=Ux hcur;clear hcur;rcases hcmp with⟨hx,CM,uV⟩|⟨hx,CM⟩|⟨hx,CM,uV⟩
     ·have Oi:=Ux (HY.o hx);have HR:=Ux hrun;clear hx hrun;go_wp2_with (at_builtin;refine aT rfl rfl rfl rfl HR.o ?_);go_roundw
      case measure=>simp[intOf];omega
      case rel=>exact⟨k+1,by omega,by go_num,by rw[Oi.o,←List.append_assoc,KI.o];exact DC.o.1,HB.o.trans DC.o.2⟩
     ·have BQ:=Ux (HN.o hx);clear hx hrun;go_wp2_with fail;go_roundw
      case measure=>simp[intOf];omega
      case rel=>exact⟨k+1,by omega,by go_num,by rw[BQ.o,KI.o];exact HO.o,HB.o⟩
     ·have BQ:=Ux (HN.o hx);clear hx hrun;go_wp2_with fail;go_roundw
      case measure=>simp[intOf];omega
      case rel=>exact⟨k+1,by omega,by go_num,by rw[BQ.o,KI.o];exact HO.o,HB.o⟩
    ·obtain rfl:k=es.length:=by omega
     rw[List.take_length] at hO;obtain⟨a2,c2,rfl,mu⟩:=hO.form;have rh:=Ux (show aA wr a2 (lo++[(⟨s,no⟩:En)]++es.filter (mE s)).length c2 R by
      rw[HP.o];simpa using mu)
     clear hO hb mu HO hln;go_wp2_with fail;go_ret;exact⟨⟨_,_,_,rfl,rh.o⟩,HB.o⟩
end
section
open Go.RowKit
theorem FL{S:Fs}{N:Nat}(hk:ay S N)(a:An):eU (S.make a).1:=by
 unfold Fs.make
 split
 ·exact hk.nums
 ·split
  ·exact hk.nums
  ·rename_i v hv;simp only
   split
   ·have gM:=hk.aP (u:={v with b:=v.b+cF a.kind a.data.size,n:=v.n+1}) hv rfl;exact gM.nums.add gM.l0 a
   ·exact hk.nums
section
variable{w w':World}{pf:Nat}{R:Rf}{S:Fs}
theorem aW.P5(h:aW w pf R S){B:Nat}{vs:Array Value}{T:TypeId}(hB:ax w B vs T)(hF:¬R.F pf B)(hT:T≠98)(hm:Mod (fun k=>k=B) w w'):aW w' pf R S:=by
 refine h.gw (fun k hk=>hm.block k (h.lt hk) (fun e=>hF (e▸hk))) (fun b cur hc=>hm.block b (Array.getElem?_eq_some_iff.1 hc).1 (fun e=>?_)) hm.size;subst e;unfold ax at hB;rw[hB] at hc;injection hc with hc;injection hc with _ hc;exact hT hc
theorem sF(h:aW w pf R S)(hn:eU S)(dir:Int){d:An}(hg:S.get dir=some d){a:Option Addr}{n c:Nat}{l:List En}(hl:aA w a n c l) :
  Calls Tryz.prog 179 #[UH (some ⟨pf,0,none⟩),UE UL dir,UG a n c] w fun e w'=>e=.returned (UK #[])∧∃R',aW w' pf R' (S.aE R.now dir l)∧aS (R.F pf) (R'.F pf) w w'∧Rf.cY R R':=by
 obtain⟨ea,el,ec,-,hG⟩:=jM h hg;have HT:=Ux (show S.aE R.now dir l=S.set {d with au:=l,mtime:=R.now,ctime:=R.now} by unfold Fs.aE;rw[hg]);have hno:=bV hg;have ey:=Ux (fun w1 (hb:UA w w1)=>kA (h.an hb) hn (a:={d with au:=l,mtime:=R.now,ctime:=R.now}) (hl.an hb) (b:=d) (by show S.get d.no=some d;rw[hno];exact hg));have HG:=Ux (hG w (Below.refl _ _));unfold An.v at HG ey;obtain⟨pc,-,pz⟩:=h.bD.facts;generalize hnow:R.now=now at HT ey pc;clear h hn hg hl hG hno hnow;go_enter Tryz.func179,Tryz.ntmps179;go_wp2_with fail;refine HG.o.mono ?_;rintro e w1 ⟨rfl,av⟩;have pc3:=(av.cell (p:=⟨pf,3,none⟩) pz).trans (pc 3);have F1:pf<w1.heap.size:=Nat.lt_of_lt_of_le pz av.size;have aJ:=ao av (.cells #[UE UL d.no,UE UL d.dev,UE UL d.kind,UE UL d.mode,UE UL d.uid,UE UL d.gid,UE UL now,UE UL now,UE UL d.ak,UE UL d.up,UF d.data,UG a n c] 149);have HS:=Ux (ey.o _ aJ);have bC:=Ux aJ;clear av aJ pc;go_wp2_with fail;refine HS.o.mono ?_;rintro e w5 ⟨rfl,R',ez,dw,gN,-⟩;have HR:=Ux (ag ez (ag dw gN));clear ez dw gN;go_wp2_with fail
 go_end0
 rw[HT.o];exact⟨rfl,R',HR.o.1,(aS.aq bC.o).trans HR.o.2.1,HR.o.2.2⟩
end
end
section
open Go.RowKit
theorem Jk{S:Fs}{a:An}(h:(S.make a).2.2≠0):(S.make a).1=S:=by
 revert h;unfold Fs.make
 split
 ·intro _;rfl
 ·split
  ·intro _;rfl
  ·simp only
   split
   ·intro h;exact absurd rfl h
   ·intro _;rfl
section
variable{w w':World}{pf:Nat}{R:Rf}{S:Fs}
theorem nR(h:aW w pf R S)(cr:Cr){N:Nat}(hk:ay S N)(hN:N≤100000)(hgl:S.ns.length≤100000)(dir:Int)(s:ByteArray)(hs:s.size≤100000)(a:An)(he:a.au=[])(hsz:a.data.size≤1048576) :
  Calls Tryz.prog 174 #[UH (some ⟨pf,0,none⟩),UJ #[UE UL cr.u,UE UL cr.g],UE UL dir,UF s,a.v none 0 0] w fun e w'=>e=.returned (UK #[UE UL (S.bT cr R.now dir s a).2.1,UE UL (S.bT cr R.now dir s a).2.2])∧∃R',aW w' pf R' (S.bT cr R.now dir s a).1∧aS (R.F pf) (R'.F pf) w w'∧Rf.cY R R':=by
 have hkeep:∀w2,UA w w2→∃R',aW w2 pf R' S∧aS (R.F pf) (R'.F pf) w w2∧Rf.cY R R':=fun w2 hb=>⟨R,h.an hb,aS.aq hb,Rf.cY.refl R⟩;have kT:=Ux hkeep;have de:=ao (ao (UB w) (.cells #[UE UL cr.u,UE UL cr.g] 64)) (.cells #[UE UL a.no,UE UL a.dev,UE UL a.kind,UE UL a.mode,UE UL a.uid,UE UL a.gid,UE UL a.mtime,UE UL a.ctime,UE UL a.ak,UE UL a.up,UF a.data,UG none 0 0] 149);have cB:=Ux de
 cases hg:S.get dir with
 |none=>
  have HC:=Ux (show S.bT cr R.now dir s a=(S,0,5) by
   have hp:S.aX cr dir s=5:=by unfold Fs.aX;rw[hg]
   unfold Fs.bT;rw[if_pos (by rw[hp];decide),hp])
  have HP:=Ux (oL (h.an de) cr dir s hg);unfold An.v dD at HP;unfold An.v;clear h hk hg hkeep de;go_enter Tryz.func174,Tryz.ntmps174;go_wp2_with fail;refine HP.o.mono ?_;rintro e w1 ⟨rfl,av⟩;have HB:=Ux (ao (ar cB.o av) (.cells #[UE UL 0,UE UL 0,UE UL 0,UE UL 0,UE UL 0,UE UL 0,UE UL 0,UE UL 0,UE UL 0,UE UL 0,UF ByteArray.empty,UG none 0 0] 149));clear av;go_wp2_with fail;go_ret2;rw[HC.o];exact⟨rfl,kT.o _ HB.o⟩
 |some d=>
  obtain⟨ea,el,ec,hE,hP⟩:=oK (h.an de) cr hk dir s hs d hg;obtain⟨hdo,hdn,-,-⟩:=hk.get hg;have HP:=Ux hP;have j6:=ax.new (w.alloc (.cells #[UE UL cr.u,UE UL cr.g] 64)) #[UE UL a.no,UE UL a.dev,UE UL a.kind,UE UL a.mode,UE UL a.uid,UE UL a.gid,UE UL a.mtime,UE UL a.ctime,UE UL a.ak,UE UL a.up,UF a.data,UG none 0 0] 149;rw[World.size_alloc] at j6;have jH:=(ax.new w #[UE UL cr.u,UE UL cr.g] 64).bI (.cells #[UE UL a.no,UE UL a.dev,UE UL a.kind,UE UL a.mode,UE UL a.uid,UE UL a.gid,UE UL a.mtime,UE UL a.ctime,UE UL a.ak,UE UL a.up,UF a.data,UG none 0 0] 149);have N0:=h.an de;have hF:∀k,w.heap.size≤k→¬R.F pf k:=fun k hk hf=>by have:=h.lt hf;omega
  have HF:=Ux hF;have ou:=Ux (ag j6 (ag jH (ag N0 hE)));have HC:=Ux (show S.bT cr R.now dir s a=if S.aX cr dir s≠0 then(S,0,S.aX cr dir s) else if aw d.au s≠0 then(S,0,7) else if(S.make {a with dev:=d.dev,uid:=cr.u,gid:=cr.g,mtime:=R.now,ctime:=R.now,ak:=1}).2.2≠0 then(S,0,(S.make {a with dev:=d.dev,uid:=cr.u,gid:=cr.g,mtime:=R.now,ctime:=R.now,ak:=1}).2.2) else((S.make {a with dev:=d.dev,uid:=cr.u,gid:=cr.g,mtime:=R.now,ctime:=R.now,ak:=1}).1.aE R.now dir (aV d.au s (S.make {a with dev:=d.dev,uid:=cr.u,gid:=cr.g,mtime:=R.now,ctime:=R.now,ak:=1}).2.1),(S.make {a with dev:=d.dev,uid:=cr.u,gid:=cr.g,mtime:=R.now,ctime:=R.now,ak:=1}).2.1,0) by
   unfold Fs.bT;rw[hg])
  have Oq:=Ux (Jk (S:=S) (a:={a with dev:=d.dev,uid:=cr.u,gid:=cr.g,mtime:=R.now,ctime:=R.now,ak:=1}));have vn:=Ux (FL hk {a with dev:=d.dev,uid:=cr.u,gid:=cr.g,mtime:=R.now,ctime:=R.now,ak:=1});have HGm:=Ux (AU hk {a with dev:=d.dev,uid:=cr.u,gid:=cr.g,mtime:=R.now,ctime:=R.now,ak:=1} hg);have kS:=Ux (fun w1 (h1:aW w1 pf R S)=>Fh h1 hk (by omega) (by omega) {a with dev:=d.dev,uid:=cr.u,gid:=cr.g,mtime:=R.now,ctime:=R.now,ak:=1} none 0 0 (by show aA w1 none 0 0 a.au;rw[he];exact aA.nil w1) hsz);have hel:el≤100000:=by
   have h1:=hE.len;have h2:=hdo.lR;omega
  obtain⟨pc,-,pz⟩:=h.bD.facts;have Qf:=Ux pc;obtain⟨q,hq⟩:∃q,S.make {a with dev:=d.dev,uid:=cr.u,gid:=cr.g,mtime:=R.now,ctime:=R.now,ak:=1}=q:=⟨_,rfl⟩;rw[hq] at HC Oq vn HGm kS;obtain⟨S2,no,er⟩:=q;unfold An.v at HP kS;unfold An.v;generalize S.aX cr dir s=pe at HC HP;generalize hnow:R.now=now at HC kS;have yN:=Ux hnow;clear h hk hg hkeep de hE hP hdo hdn j6 jH N0 hF pc hq hnow;go_enter Tryz.func174,Tryz.ntmps174;go_wp2_with fail;refine HP.o.mono ?_;rintro e w1 ⟨⟨hpe,rfl⟩|⟨rfl,rfl⟩,av⟩
  ·have vr:=Ux (HC.o.trans (if_pos hpe));have hpb:(pe != 0)=true:=by simpa using hpe
   have HB:=Ux (ao (ar cB.o av) (.cells #[UE UL 0,UE UL 0,UE UL 0,UE UL 0,UE UL 0,UE UL 0,UE UL 0,UE UL 0,UE UL 0,UE UL 0,UF ByteArray.empty,UG none 0 0] 149));clear av hpe;unfold dD;go_wp2_with fail;go_ret2;rw[vr.o];exact⟨rfl,kT.o _ HB.o⟩
  ·have vr:=Ux (HC.o.trans (if_neg (by simp)));obtain⟨j6,jH,N0,p'⟩:=ou.o;have oV:=(j6.an av).bI (.cells #[UE UL d.no,UE UL d.dev,UE UL d.kind,UE UL d.mode,UE UL d.uid,UE UL d.gid,UE UL d.mtime,UE UL d.ctime,UE UL d.ak,UE UL d.up,UF d.data,UG ea el ec] 149);have fE:=(jH.an av).bI (.cells #[UE UL d.no,UE UL d.dev,UE UL d.kind,UE UL d.mode,UE UL d.uid,UE UL d.gid,UE UL d.mtime,UE UL d.ctime,UE UL d.ak,UE UL d.up,UF d.data,UG ea el ec] 149);have aJ:=(Below.refl _ w1).alloc (aa _) (.cells #[UE UL d.no,UE UL d.dev,UE UL d.kind,UE UL d.mode,UE UL d.uid,UE UL d.gid,UE UL d.mtime,UE UL d.ctime,UE UL d.ak,UE UL d.up,UF d.data,UG ea el ec] 149);have Po:=(N0.an av).an aJ;have mu:=(p'.an av).an aJ;have iG:=ax.new w1 #[UE UL d.no,UE UL d.dev,UE UL d.kind,UE UL d.mode,UE UL d.uid,UE UL d.gid,UE UL d.mtime,UE UL d.ctime,UE UL d.ak,UE UL d.up,UF d.data,UG ea el ec] 149;have hbb:=ao (ar cB.o av) (.cells #[UE UL d.no,UE UL d.dev,UE UL d.kind,UE UL d.mode,UE UL d.uid,UE UL d.gid,UE UL d.mtime,UE UL d.ctime,UE UL d.ak,UE UL d.up,UF d.data,UG ea el ec] 149);have hD:w.heap.size+2≤w1.heap.size:=by
    have:=av.size;simpa using this
   go_upto_region 2 with fail;generalize w1.alloc _=X at oV fE aJ Po mu iG hbb⊢;generalize w1.heap.size=D at iG hD⊢;have HX:=Ux (ag oV (ag fE (ag Po (ag mu (ag iG hbb)))));have Qt:=Ux (pT d.au ea el ec s X mu);obtain⟨dc,df,dz⟩:=iG.facts;clear av j6 jH N0 p' oV fE aJ Po mu iG hbb;go_wp2_with fail;refine Qt.o.mono ?_;rintro e w2 ⟨rfl,aY⟩;by_cases hf:aw d.au s=0
   ·have Lc:=Ux (vr.o.trans (if_neg (by simpa using hf)));have hfb:(aw d.au s != 0)=false:=by simpa using hf
    obtain⟨oV,fE,Po,mu,iG,hbb⟩:=HX.o;have QH:=oV.an aY;have Pu:=fE.an aY;have hh3:=Po.an aY;have uY:=iG.an aY;have hbw:=ar hbb aY;have hm:=(((((((Mod.refl (fun k=>k=w.heap.size+1) w2).setCell (a:=⟨w.heap.size+1,1,none⟩) (.inl rfl) (UE UL d.dev)).setCell (a:=⟨w.heap.size+1,4,none⟩) (.inl rfl) (UE UL cr.u)).setCell (a:=⟨w.heap.size+1,5,none⟩) (.inl rfl) (UE UL cr.g)).setCell (a:=⟨w.heap.size+1,6,none⟩) (.inl rfl) (UE UL now)).setCell (a:=⟨w.heap.size+1,7,none⟩) (.inl rfl) (UE UL now)).setCell (a:=⟨w.heap.size+1,8,none⟩) (.inl rfl) (UE UL 1));have QM:=hh3.P5 QH (HF.o _ (by omega)) (by decide) hm;have D4:=(((((QH.set 1 (UE UL d.dev)).set 4 (UE UL cr.u)).set 5 (UE UL cr.g)).set 6 (UE UL now)).set 7 (UE UL now)).set 8 (UE UL 1);have qR:=uY.mod hm (by omega);have C':=(mu.an aY).gw (fun b cur hc=>hm.block b (Array.getElem?_eq_some_iff.1 hc).1 (fun e=>by
     subst e;unfold ax at QH;rw[QH] at hc;injection hc with hc;injection hc with _ hc;revert hc;decide)) hm.size
    have xR:=(((((((Mod.aq hbw:Mod (R.F pf) w w2).setCell (a:=⟨w.heap.size+1,1,none⟩) (.inr (Nat.le_succ _)) (UE UL d.dev)).setCell (a:=⟨w.heap.size+1,4,none⟩) (.inr (Nat.le_succ _)) (UE UL cr.u)).setCell (a:=⟨w.heap.size+1,5,none⟩) (.inr (Nat.le_succ _)) (UE UL cr.g)).setCell (a:=⟨w.heap.size+1,6,none⟩) (.inr (Nat.le_succ _)) (UE UL now)).setCell (a:=⟨w.heap.size+1,7,none⟩) (.inr (Nat.le_succ _)) (UE UL now)).setCell (a:=⟨w.heap.size+1,8,none⟩) (.inr (Nat.le_succ _)) (UE UL 1));obtain⟨nc,nf,nz⟩:=QH.facts;obtain⟨cc,cf,cz⟩:=Pu.facts;obtain⟨ec3,ef3,ez3⟩:=uY.facts;obtain⟨xc,xf,xz⟩:=hh3.bD.facts;have hxc3:w2.cell? ⟨pf,3,none⟩=some (UE UL now):=by rw[xc 3,yN.o];rfl
    have F1:¬pf=w.heap.size+1:=by omega
    have Me:¬w.heap.size+1=pf:=by omega
    have NY:¬D=w.heap.size+1:=by omega
    have NX:¬w.heap.size+1=D:=by omega
    have HY:=Ux (ag QM (ag D4 (ag qR (ag C' xR))));clear hf aY oV fE Po mu iG hbb QH Pu hh3 uY hbw hm QM D4 qR C' xR xc xf dc df dz;go_upto_region 12 with fail;generalize World.setCell _ _ _=Y at HY⊢;obtain⟨QM,D4,qR,C',xR⟩:=HY.o;have HMk2:=Ux (kS.o Y QM);obtain⟨yc,yf,yz⟩:=D4.facts;clear nc nf nz cc cf cz ec3 ef3 ez3 hxc3 xz D4;go_wp2_with fail;refine HMk2.o.mono ?_;rintro e w5 ⟨rfl,R5,iq,eW,JP⟩;have CQ:=qR.mod eW.mod (HF.o D (by omega));have MM:=C'.rf QM eW;obtain⟨ec5,ef5,ez5⟩:=CQ.facts;have rD:=Ux (ag iq (ag ((aS.dH xR).trans eW) JP));clear QM qR C' xR yc yf yz iq eW JP CQ;by_cases her:er=0
    ·have HC4:=Ux (Lc.o.trans (if_neg (by simpa using her)));have herb:(er != 0)=false:=by simpa using her
     have Kx:=Ux (zT d.au ea el ec s no w5 MM (by omega));clear her MM;go_wp2_with fail;refine Kx.o.mono ?_;rintro e w6 ⟨⟨a6,n6,c6,rfl,Oc⟩,fp⟩;have He:=Ux (sF (rD.o.1.an fp) vn.o dir HGm.o Oc);rw[rD.o.2.2.now,yN.o] at He;have jJ:=Ux fp;clear Oc fp ec5 ef5 ez5;go_wp2_with fail;refine He.o.mono ?_;rintro e w7 ⟨rfl,R7,C3,jf,JO⟩;have HR7:=Ux (ag C3 (ag ((rD.o.2.1.trans (aS.aq jJ.o)).trans jf) (rD.o.2.2.trans JO)));clear C3 jf JO;go_wp2_with fail;go_ret2;rw[HC4.o];exact⟨rfl,R7,HR7.o⟩
    ·have HC4:=Ux (Lc.o.trans (if_pos (by simpa using her)));have herb:(er != 0)=true:=by simpa using her
     have HM:=Ux (show S2=S from Oq.o her);clear her MM;go_wp2_with fail;go_ret2;rw[HC4.o];refine⟨rfl,R5,?_,rD.o.2⟩;have h9:=rD.o.1;rw[HM.o] at h9;exact h9
   ·have Lc:=Ux (vr.o.trans (if_pos (by simpa using hf)));have hfb:(aw d.au s != 0)=true:=by simpa using hf
    have HB:=Ux (ar HX.o.2.2.2.2.2 aY);clear hf aY;go_wp2_with fail;go_ret2;rw[Lc.o];exact⟨rfl,kT.o _ HB.o⟩
end
end
section
open Go.RowKit
section
variable{w w':World}{pf:Nat}{R:Rf}{S:Fs}
theorem Fo(h:aW w pf R S)(cr:Cr){N:Nat}(hk:ay S N)(hN:N≤100000)(hgl:S.ns.length≤100000)(dir:Int)(s:ByteArray)(hs:s.size≤100000)(mode:Int) :
  Calls Tryz.prog 132 #[UH (some ⟨pf,0,none⟩),UJ #[UE UL cr.u,UE UL cr.g],UE UL dir,UF s,UE UL mode] w fun e w'=>e=.returned (UK #[UE UL (S.aN cr R.now dir s mode).2.1,UE UL (S.aN cr R.now dir s mode).2.2])∧∃R',aW w' pf R' (S.aN cr R.now dir s mode).1∧aS (R.F pf) (R'.F pf) w w'∧Rf.cY R R':=by
 have hkeep:∀w2,UA w w2→∃R',aW w2 pf R' S∧aS (R.F pf) (R'.F pf) w w2∧Rf.cY R R':=fun w2 hb=>⟨R,h.an hb,aS.aq hb,Rf.cY.refl R⟩;have kT:=Ux hkeep;have de:=(Below.refl _ w).alloc (aa _) (.cells #[UE UL cr.u,UE UL cr.g] 64);have cB:=Ux de;by_cases h1:mode<0
 ·have HQ:=Ux (show S.aN cr R.now dir s mode=(S,0,1) by unfold Fs.aN;rw[if_pos (.inl h1)]);clear h hk hgl hkeep de;go_enter Tryz.func132,Tryz.ntmps132;go_wp2_with fail;go_ret2;rw[HQ.o];exact⟨rfl,kT.o _ cB.o⟩
 ·by_cases h2:1023<mode
  ·have HQ:=Ux (show S.aN cr R.now dir s mode=(S,0,1) by unfold Fs.aN;rw[if_pos (.inr h2)]);clear h hk hgl hkeep de;go_enter Tryz.func132,Tryz.ntmps132;go_wp2_with fail;go_ret2;rw[HQ.o];exact⟨rfl,kT.o _ cB.o⟩
  ·have HQ:=Ux (show S.aN cr R.now dir s mode=S.bT cr R.now dir s {dD with kind:=1,mode:=mode,up:=dir} by unfold Fs.aN;rw[if_neg (by omega)]);have Ul:=Ux (show Calls Tryz.prog 174 #[UH (some ⟨pf,0,none⟩),UJ #[UE UL cr.u,UE UL cr.g],UE UL dir,UF s,UJ #[UE UL 0,UE UL 0,UE UL 1,UE UL mode,UE UL 0,UE UL 0,UE UL 0,UE UL 0,UE UL 0,UE UL dir,UF ByteArray.empty,UG none 0 0]] (w.alloc (.cells #[UE UL cr.u,UE UL cr.g] 64)) fun e w'=>e=.returned (UK #[UE UL (S.bT cr R.now dir s {dD with kind:=1,mode:=mode,up:=dir}).2.1,UE UL (S.bT cr R.now dir s {dD with kind:=1,mode:=mode,up:=dir}).2.2])∧∃R',aW w' pf R' (S.bT cr R.now dir s {dD with kind:=1,mode:=mode,up:=dir}).1∧aS (R.F pf) (R'.F pf) (w.alloc (.cells #[UE UL cr.u,UE UL cr.g] 64)) w'∧Rf.cY R R' from nR (h.an de) cr hk hN hgl dir s hs {dD with kind:=1,mode:=mode,up:=dir} rfl (by show(0:Nat)≤1048576;omega));clear h hk hgl hkeep de;go_enter Tryz.func132,Tryz.ntmps132;go_wp2_with fail;refine Ul.o.mono ?_;rintro e w1 ⟨rfl,R',hR,hS,hL⟩;have HX:=Ux (ag hR (ag ((aS.aq cB.o).trans hS) hL));clear hR hS hL;go_wp2_with fail;go_ret2;rw[HQ.o];exact⟨rfl,R',HX.o⟩
theorem Aa(h:aW w pf R S){N:Nat}(hk:ay S N)(hN:N≤100000)(hgl:S.ns.length≤100000)(dir:Int)(s:ByteArray)(hs:s.size≤100000)(mode:Int) :
  Calls Tryz.prog 132 #[UH (some ⟨pf,0,none⟩),UJ #[UE UL 0,UE UL 0],UE UL dir,UF s,UE UL mode] w fun e w'=>e=.returned (UK #[UE UL (S.aN cw R.now dir s mode).2.1,UE UL (S.aN cw R.now dir s mode).2.2])∧∃R',aW w' pf R' (S.aN cw R.now dir s mode).1∧aS (R.F pf) (R'.F pf) w w'∧Rf.cY R R':=Fo h cw hk hN hgl dir s hs mode
theorem Cu(h:aW w pf R S)(cr:Cr){N:Nat}(hk:ay S N)(hN:N≤100000)(hgl:S.ns.length≤100000)(dir:Int)(s:ByteArray)(hs:s.size≤100000)(mode:Int)(data:ByteArray) :
  Calls Tryz.prog 135 #[UH (some ⟨pf,0,none⟩),UJ #[UE UL cr.u,UE UL cr.g],UE UL dir,UF s,UE UL mode,UF data] w fun e w'=>e=.returned (UK #[UE UL (S.file cr R.now dir s mode data).2.1,UE UL (S.file cr R.now dir s mode data).2.2])∧∃R',aW w' pf R' (S.file cr R.now dir s mode data).1∧aS (R.F pf) (R'.F pf) w w'∧Rf.cY R R':=by
 have hkeep:∀w2,UA w w2→∃R',aW w2 pf R' S∧aS (R.F pf) (R'.F pf) w w2∧Rf.cY R R':=fun w2 hb=>⟨R,h.an hb,aS.aq hb,Rf.cY.refl R⟩;have kT:=Ux hkeep;have de:=(Below.refl _ w).alloc (aa _) (.cells #[UE UL cr.u,UE UL cr.g] 64);have cB:=Ux de;by_cases h1:mode<0
 ·have HQ:=Ux (show S.file cr R.now dir s mode data=(S,0,1) by unfold Fs.file;rw[if_pos (.inl h1)]);clear h hk hgl hkeep de;go_enter Tryz.func135,Tryz.ntmps135;go_wp2_with fail;go_ret2;rw[HQ.o];exact⟨rfl,kT.o _ cB.o⟩
 ·by_cases h2:1023<mode
  ·have HQ:=Ux (show S.file cr R.now dir s mode data=(S,0,1) by unfold Fs.file;rw[if_pos (.inr h2)]);clear h hk hgl hkeep de;go_enter Tryz.func135,Tryz.ntmps135;go_wp2_with fail;go_ret2;rw[HQ.o];exact⟨rfl,kT.o _ cB.o⟩
  ·by_cases h3:1048576<data.size
   ·have HQ:=Ux (show S.file cr R.now dir s mode data=(S,0,3) by unfold Fs.file;rw[if_neg (by omega),if_pos h3]);have PW:(1048576:Int)<(data.size:Int):=by omega
    clear h hk hgl hkeep de;go_enter Tryz.func135,Tryz.ntmps135;go_wp2_with fail;go_ret2;rw[HQ.o];exact⟨rfl,kT.o _ cB.o⟩
   ·have HQ:=Ux (show S.file cr R.now dir s mode data=S.bT cr R.now dir s {dD with kind:=2,mode:=mode,data:=data} by unfold Fs.file;rw[if_neg (by omega),if_neg h3]);have PW:¬(1048576:Int)<(data.size:Int):=by omega
    have Ul:=Ux (show Calls Tryz.prog 174 #[UH (some ⟨pf,0,none⟩),UJ #[UE UL cr.u,UE UL cr.g],UE UL dir,UF s,UJ #[UE UL 0,UE UL 0,UE UL 2,UE UL mode,UE UL 0,UE UL 0,UE UL 0,UE UL 0,UE UL 0,UE UL 0,UF data,UG none 0 0]] (w.alloc (.cells #[UE UL cr.u,UE UL cr.g] 64)) fun e w'=>e=.returned (UK #[UE UL (S.bT cr R.now dir s {dD with kind:=2,mode:=mode,data:=data}).2.1,UE UL (S.bT cr R.now dir s {dD with kind:=2,mode:=mode,data:=data}).2.2])∧∃R',aW w' pf R' (S.bT cr R.now dir s {dD with kind:=2,mode:=mode,data:=data}).1∧aS (R.F pf) (R'.F pf) (w.alloc (.cells #[UE UL cr.u,UE UL cr.g] 64)) w'∧Rf.cY R R' from nR (h.an de) cr hk hN hgl dir s hs {dD with kind:=2,mode:=mode,data:=data} rfl (by show data.size≤1048576;omega));clear h hk hgl hkeep de;go_enter Tryz.func135,Tryz.ntmps135;go_wp2_with fail;refine Ul.o.mono ?_;rintro e w1 ⟨rfl,R',hR,hS,hL⟩;have HX:=Ux (ag hR (ag ((aS.aq cB.o).trans hS) hL));clear hR hS hL;go_wp2_with fail;go_ret2;rw[HQ.o];exact⟨rfl,R',HX.o⟩
theorem Fm(h:aW w pf R S){N:Nat}(hk:ay S N)(hN:N≤100000)(hgl:S.ns.length≤100000)(dir:Int)(s:ByteArray)(hs:s.size≤100000)(mode:Int)(data:ByteArray) :
  Calls Tryz.prog 135 #[UH (some ⟨pf,0,none⟩),UJ #[UE UL 0,UE UL 0],UE UL dir,UF s,UE UL mode,UF data] w fun e w'=>e=.returned (UK #[UE UL (S.file cw R.now dir s mode data).2.1,UE UL (S.file cw R.now dir s mode data).2.2])∧∃R',aW w' pf R' (S.file cw R.now dir s mode data).1∧aS (R.F pf) (R'.F pf) w w'∧Rf.cY R R':=Cu h cw hk hN hgl dir s hs mode data
theorem Fa(h:aW w pf R S)(cr:Cr){N:Nat}(hk:ay S N)(hN:N≤100000)(hgl:S.ns.length≤100000)(dir:Int)(s:ByteArray)(hs:s.size≤100000)(text:ByteArray)(ht:text.size≤100000) :
  Calls Tryz.prog 136 #[UH (some ⟨pf,0,none⟩),UJ #[UE UL cr.u,UE UL cr.g],UE UL dir,UF s,UF text] w fun e w'=>e=.returned (UK #[UE UL (S.sym cr R.now dir s text).2.1,UE UL (S.sym cr R.now dir s text).2.2])∧∃R',aW w' pf R' (S.sym cr R.now dir s text).1∧aS (R.F pf) (R'.F pf) w w'∧Rf.cY R R':=by
 have hkeep:∀w2,UA w w2→∃R',aW w2 pf R' S∧aS (R.F pf) (R'.F pf) w w2∧Rf.cY R R':=fun w2 hb=>⟨R,h.an hb,aS.aq hb,Rf.cY.refl R⟩;have kT:=Ux hkeep;have de:=(Below.refl _ w).alloc (aa _) (.cells #[UE UL cr.u,UE UL cr.g] 64);have cB:=Ux de;have Ui:=Ux (fun w=>rM text 0 w (by omega));have hq:hasB text 0=decide ((0:UInt8)∈text.data.toList):=rfl;have hte:text.toList=text.data.toList:=cd text;by_cases h1:text.data.toList=[]
 ·have HQ:=Ux (show S.sym cr R.now dir s text=(S,0,1) by unfold Fs.sym;rw[if_pos (.inl h1)]);have Q0:text.toList=[]:=by rw[hte];exact h1
  clear h hk hgl hkeep de hq hte h1;go_enter Tryz.func136,Tryz.ntmps136;go_wp2_with fail;go_ret2;rw[HQ.o];exact⟨rfl,kT.o _ cB.o⟩
 ·have Q0:text.toList.isEmpty=false:=by rw[hte];simpa using h1
  by_cases h2:(0:UInt8)∈text.data.toList
  ·have HQ:=Ux (show S.sym cr R.now dir s text=(S,0,1) by unfold Fs.sym;rw[if_pos (.inr h2)]);rw[hq,decide_eq_true h2] at Ui;clear h hk hgl hkeep de hq hte h1 h2;go_enter Tryz.func136,Tryz.ntmps136;go_wp2_with fail;refine(Ui.o _).mono ?_;rintro e w1 ⟨rfl,rfl⟩;go_wp2_with fail;go_ret2;rw[HQ.o];exact⟨rfl,kT.o _ cB.o⟩
  ·rw[hq,decide_eq_false h2] at Ui;by_cases h3:4096<text.size
   ·have HQ:=Ux (show S.sym cr R.now dir s text=(S,0,13) by unfold Fs.sym;rw[if_neg (by rintro(h|h);exact h1 h;exact h2 h),if_pos h3]);have PW:(4096:Int)<(text.size:Int):=by omega
    clear h hk hgl hkeep de hq hte h1 h2;go_enter Tryz.func136,Tryz.ntmps136;go_wp2_with fail;refine(Ui.o _).mono ?_;rintro e w1 ⟨rfl,rfl⟩;go_wp2_with fail;go_ret2;rw[HQ.o];exact⟨rfl,kT.o _ cB.o⟩
   ·have HQ:=Ux (show S.sym cr R.now dir s text=S.bT cr R.now dir s {dD with kind:=3,mode:=511,data:=text} by unfold Fs.sym;rw[if_neg (by rintro(h|h);exact h1 h;exact h2 h),if_neg h3]);have PW:¬(4096:Int)<(text.size:Int):=by omega
    have Ul:=Ux (show Calls Tryz.prog 174 #[UH (some ⟨pf,0,none⟩),UJ #[UE UL cr.u,UE UL cr.g],UE UL dir,UF s,UJ #[UE UL 0,UE UL 0,UE UL 3,UE UL 511,UE UL 0,UE UL 0,UE UL 0,UE UL 0,UE UL 0,UE UL 0,UF text,UG none 0 0]] (w.alloc (.cells #[UE UL cr.u,UE UL cr.g] 64)) fun e w'=>e=.returned (UK #[UE UL (S.bT cr R.now dir s {dD with kind:=3,mode:=511,data:=text}).2.1,UE UL (S.bT cr R.now dir s {dD with kind:=3,mode:=511,data:=text}).2.2])∧∃R',aW w' pf R' (S.bT cr R.now dir s {dD with kind:=3,mode:=511,data:=text}).1∧aS (R.F pf) (R'.F pf) (w.alloc (.cells #[UE UL cr.u,UE UL cr.g] 64)) w'∧Rf.cY R R' from nR (h.an de) cr hk hN hgl dir s hs {dD with kind:=3,mode:=511,data:=text} rfl (by show text.size≤1048576;omega));clear h hk hgl hkeep de hq hte h1 h2;go_enter Tryz.func136,Tryz.ntmps136;go_wp2_with fail;refine(Ui.o _).mono ?_;rintro e w1 ⟨rfl,rfl⟩;go_wp2_with fail;refine Ul.o.mono ?_;rintro e w1 ⟨rfl,R',hR,hS,hL⟩;have HX:=Ux (ag hR (ag ((aS.aq cB.o).trans hS) hL));clear hR hS hL;go_wp2_with fail;go_ret2;rw[HQ.o];exact⟨rfl,R',HX.o⟩
theorem II(h:aW w pf R S){N:Nat}(hk:ay S N)(hN:N≤100000)(hgl:S.ns.length≤100000)(dir:Int)(s:ByteArray)(hs:s.size≤100000)(text:ByteArray)(ht:text.size≤100000) :
  Calls Tryz.prog 136 #[UH (some ⟨pf,0,none⟩),UJ #[UE UL 0,UE UL 0],UE UL dir,UF s,UF text] w fun e w'=>e=.returned (UK #[UE UL (S.sym cw R.now dir s text).2.1,UE UL (S.sym cw R.now dir s text).2.2])∧∃R',aW w' pf R' (S.sym cw R.now dir s text).1∧aS (R.F pf) (R'.F pf) w w'∧Rf.cY R R':=Fa h cw hk hN hgl dir s hs text ht
end
end
end Go.Proofs.YtabbjaomlmnnhaaGreat
