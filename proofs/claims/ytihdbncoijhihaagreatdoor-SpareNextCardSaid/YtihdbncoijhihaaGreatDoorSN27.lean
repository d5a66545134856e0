import Derived.Test.YtihdbncoijhihaaGreatDoorSN23
set_option linter.unusedVariables false
set_option linter.unusedSimpArgs false
set_option maxRecDepth 100000
set_option maxHeartbeats 16000000
namespace Go.Proofs.YtihdbncoijhihaaGreatDoor
section
open Go.RowKit
def bitB (m:Int) (n:Nat):Bool:=bits .and .i64 (m / 2 ^ n) 1 == 1
def fromK (cu cg uid gid:Int):Nat:=if cu=uid then 6 else if cg=gid then 3 else 0
def bitsOk (mode want:Int) (f k:Nat):Bool:=(List.range k).all fun i=>!bitB want i || bitB mode (f+i)
def refMay (cu cg uid gid mode want:Int):Bool:=if bitsOk mode want (fromK cu cg uid gid) 3 then true else decide (cu=0)
theorem bits_tab:∀ m:Fin 1024,∀ k:Fin 8,(bitsOk (m.val:Int) (k.val:Int) 6 3=(bits .and .i64 (bits .and .i64 ((m.val:Int) / 64) (k.val:Int)) 7 == bits .and .i64 (k.val:Int) 7))∧(bitsOk (m.val:Int) (k.val:Int) 3 3=(bits .and .i64 (bits .and .i64 ((m.val:Int) / 8) (k.val:Int)) 7 == bits .and .i64 (k.val:Int) 7))∧(bitsOk (m.val:Int) (k.val:Int) 0 3=(bits .and .i64 (bits .and .i64 (m.val:Int) (k.val:Int)) 7 == bits .and .i64 (k.val:Int) 7)):=by
 decide +kernel
theorem may_same (cu cg uid gid mode want:Int) (hm:0≤mode∧mode≤1023) (hw:0≤want∧want≤7):refMay cu cg uid gid mode want=permB cu cg uid gid mode want:=by
 obtain⟨m,rfl⟩:∃ m:Nat,mode=m:=⟨mode.toNat,by omega⟩;obtain⟨k,rfl⟩:∃ k:Nat,want=k:=⟨want.toNat,by omega⟩;obtain⟨t1,t2,t3⟩:=bits_tab ⟨m,by omega⟩ ⟨k,by omega⟩;simp only at t1 t2 t3;unfold refMay permB fromK;by_cases h0:cu=0
 ·rw [if_pos h0,decide_eq_true h0];simp
 ·rw [if_neg h0,decide_eq_false h0];by_cases h1:cu=uid
  ·rw [if_pos h1,if_pos h1,t1]
   cases (bits .and .i64 (bits .and .i64 ((m:Int) / 64) (k:Int)) 7 == bits .and .i64 (k:Int) 7) <;> rfl
  ·rw [if_neg h1,if_neg h1];by_cases h2:cg=gid
   ·rw [if_pos h2,if_pos h2,t2]
    cases (bits .and .i64 (bits .and .i64 ((m:Int) / 8) (k:Int)) 7 == bits .and .i64 (k:Int) 7) <;> rfl
   ·rw [if_neg h2,if_neg h2,t3]
    cases (bits .and .i64 (bits .and .i64 (m:Int) (k:Int)) 7 == bits .and .i64 (k:Int) 7) <;> rfl
theorem rbitG_any (m:Int) (n:Nat) (hn:n≤100) (w:World) :
  Calls Tryz.prog 228 #[.int .i64 m,.int .i64 n] w fun e w'=>e=.returned (.bool (bitB m n))∧w'=w:=by
 go_enter Tryz.func228,Tryz.ntmps228;go_wp2_with fail
 go_loopw [0,5] (fun t0 t5 wr=>∃ (k:Nat),k≤n∧t0=.int .i64 (m / 2 ^ k)∧t5=.int .i64 k∧wr=w) (fun _ t5 _=>n - (intOf t5).toNat)
 case atStart=>exact ⟨0,Nat.zero_le _,by simp,rfl,rfl⟩
 case round=>
  obtain⟨k,hk,rfl,rfl,rfl⟩:=hrel;by_cases hlt:k<n
  ·go_wp2_with fail;go_roundw
   case measure=>simp [intOf];omega
   case rel=>
    refine ⟨k+1,by omega,?_,by go_num,by trivial⟩;rw [Int.pow_succ,Int.ediv_ediv_of_nonneg (Int.pow_nonneg (by decide))]
  ·obtain rfl:k=n:=by omega
   go_wp2_with fail;go_ret;exact⟨rfl,rfl⟩
theorem bitsOk_succ (mode want:Int) (f k:Nat):bitsOk mode want f (k+1)=(bitsOk mode want f k && (!bitB want k || bitB mode (f+k))):=by
 unfold bitsOk;rw [List.range_succ,List.all_append];simp
theorem bitsOk_fail {mode want:Int} {f k:Nat} (hk:k<3) (h1:bitB want k=true) (h2:bitB mode (f+k)=false):bitsOk mode want f 3=false:=by
 unfold bitsOk;rw [List.all_eq_false];exact⟨k,List.mem_range.2 hk,by rw [h1,h2];simp⟩
theorem rmayG_any (cu cg uid gid mode want:Int) (w:World) :
  Calls Tryz.prog 167 #[.agg #[.int .i64 cu,.int .i64 cg],.int .i64 uid,.int .i64 gid,.int .i64 mode,.int .i64 want] w fun e w'=>e=.returned (.bool (refMay cu cg uid gid mode want))∧Below w.heap.size w w':=by
 have HBit:=Lib.hid (fun m (n:Nat) hn w=>rbitG_any m n hn w);have hB:=Blk.new w #[.int .i64 cu,.int .i64 cg] 27;have HB0:=Lib.hid (balloc (Below.refl w.heap.size w) (.cells #[.int .i64 cu,.int .i64 cg] 27));obtain⟨qc,qf,qz⟩:=hB.facts;have HR:=Lib.hid (show refMay cu cg uid gid mode want=if bitsOk mode want (fromK cu cg uid gid) 3 then true else decide (cu=0) from rfl);have hcase:((cu == uid)=true∧fromK cu cg uid gid=6)∨((cu == uid)=false∧(cg == gid)=true∧fromK cu cg uid gid=3)∨((cu == uid)=false∧(cg == gid)=false∧fromK cu cg uid gid=0):=by
  unfold fromK;by_cases h1:cu=uid
  ·exact .inl ⟨by simpa using h1,if_pos h1⟩
  ·by_cases h2:cg=gid
   ·exact .inr (.inl ⟨by simpa using h1,by simpa using h2,by rw [if_neg h1,if_pos h2]⟩)
   ·exact .inr (.inr ⟨by simpa using h1,by simpa using h2,by rw [if_neg h1,if_neg h2]⟩)
 have hz:(cu == 0)=decide (cu=0):=by
  rw [Bool.eq_iff_iff];simp
 have HZ:=Lib.hid hz;clear hB hz;generalize refMay cu cg uid gid mode want=RR at HR ⊢;go_enter Tryz.func167,Tryz.ntmps167;go_upto_region 2 with fail;generalize w.alloc (.cells #[.int .i64 cu,.int .i64 cg] 27)=X at HB0 qc qf qz ⊢;rcases hcase with ⟨h1,hf⟩|⟨h1,h2,hf⟩|⟨h1,h2,hf⟩
 ·rw [hf] at HR;clear hf;go_wp2_with fail
  go_loopw [12] (fun t12 wr=>∃ k:Nat,k≤3∧t12=.int .i64 k∧wr=X∧bitsOk mode want 6 k=true) (fun t12 _=>3 - (intOf t12).toNat)
  case atStart=>exact ⟨0,Nat.zero_le _,rfl,rfl,rfl⟩
  case round=>
   obtain⟨k,hk,rfl,hwr,hok⟩:=hrel;have hwr:=hwr.symm;subst hwr;have HOk:=Lib.hid hok;clear hok;by_cases hlt:k<3
   ·have hk3:(k:Int)<3:=by omega
    have HSucc:=Lib.hid (bitsOk_succ mode want 6 k);have HFail:=Lib.hid (fun h1 h2=>bitsOk_fail (mode:=mode) (want:=want) (f:=6) hlt h1 h2);go_wp2_with fail;refine (HBit.out want k (by omega) _).mono ?_;rintro e w2 ⟨rfl,rfl⟩;obtain⟨b1,hb1⟩:∃ b,bitB want k=b:=⟨_,rfl⟩;rw [hb1] at HSucc HFail;rw [hb1];clear hb1
    cases b1 with
    | false=>
     have HN:=Lib.hid (show bitsOk mode want 6 (k+1)=true by rw [HSucc.out,HOk.out];rfl);go_wp2_with fail;go_roundw
     case measure=>simp [intOf];omega
     case rel=>exact ⟨k+1,by omega,by go_num,by first | rfl | trivial,HN.out⟩
    | true=>
     have hfk:IntKind.i64.wrap ((6:Int)+(k:Int))=(6:Int)+(k:Int):=by rw [IntKind.wrap_i64];omega
     go_wp2_with fail;have h2:=HBit.out mode (6+k) (by omega);rw [show ((6+k:Nat):Int)=(6:Int)+(k:Int) from by omega] at h2;refine (h2 _).mono ?_;rintro e w3 ⟨rfl,rfl⟩;obtain⟨b2,hb2⟩:∃ b,bitB mode (6+k)=b:=⟨_,rfl⟩;rw [hb2] at HSucc HFail;rw [hb2];clear hb2
     cases b2 with
     | false=>
      have HN:=Lib.hid (show RR=decide (cu=0) by rw [HR.out,HFail.out (by first | rfl | trivial) (by first | rfl | trivial)];simp);have hzz:=HZ.out;go_wp2_with fail;go_ret;exact⟨ret_bool (by rw [HN.out,←HZ.out]),HB0.out⟩
     | true=>
      have HN:=Lib.hid (show bitsOk mode want 6 (k+1)=true by rw [HSucc.out,HOk.out];rfl);go_wp2_with fail;go_roundw
      case measure=>simp [intOf];omega
      case rel=>exact ⟨k+1,by omega,by go_num,by first | rfl | trivial,HN.out⟩
   ·obtain rfl:k=3:=by omega
    have HN:=Lib.hid (show RR=true by rw [HR.out,HOk.out,if_pos rfl]);go_wp2_with fail;go_ret;exact⟨ret_bool HN.out.symm,HB0.out⟩
 ·rw [hf] at HR;clear hf;go_wp2_with fail
  go_loopw [12] (fun t12 wr=>∃ k:Nat,k≤3∧t12=.int .i64 k∧wr=X∧bitsOk mode want 3 k=true) (fun t12 _=>3 - (intOf t12).toNat)
  case atStart=>exact ⟨0,Nat.zero_le _,rfl,rfl,rfl⟩
  case round=>
   obtain⟨k,hk,rfl,hwr,hok⟩:=hrel;have hwr:=hwr.symm;subst hwr;have HOk:=Lib.hid hok;clear hok;by_cases hlt:k<3
   ·have hk3:(k:Int)<3:=by omega
    have HSucc:=Lib.hid (bitsOk_succ mode want 3 k);have HFail:=Lib.hid (fun h1 h2=>bitsOk_fail (mode:=mode) (want:=want) (f:=3) hlt h1 h2);go_wp2_with fail;refine (HBit.out want k (by omega) _).mono ?_;rintro e w2 ⟨rfl,rfl⟩;obtain⟨b1,hb1⟩:∃ b,bitB want k=b:=⟨_,rfl⟩;rw [hb1] at HSucc HFail;rw [hb1];clear hb1
    cases b1 with
    | false=>
     have HN:=Lib.hid (show bitsOk mode want 3 (k+1)=true by rw [HSucc.out,HOk.out];rfl);go_wp2_with fail;go_roundw
     case measure=>simp [intOf];omega
     case rel=>exact ⟨k+1,by omega,by go_num,by first | rfl | trivial,HN.out⟩
    | true=>
     have hfk:IntKind.i64.wrap ((3:Int)+(k:Int))=(3:Int)+(k:Int):=by rw [IntKind.wrap_i64];omega
     go_wp2_with fail;have h2:=HBit.out mode (3+k) (by omega);rw [show ((3+k:Nat):Int)=(3:Int)+(k:Int) from by omega] at h2;refine (h2 _).mono ?_;rintro e w3 ⟨rfl,rfl⟩;obtain⟨b2,hb2⟩:∃ b,bitB mode (3+k)=b:=⟨_,rfl⟩;rw [hb2] at HSucc HFail;rw [hb2];clear hb2
     cases b2 with
     | false=>
      have HN:=Lib.hid (show RR=decide (cu=0) by rw [HR.out,HFail.out (by first | rfl | trivial) (by first | rfl | trivial)];simp);have hzz:=HZ.out;go_wp2_with fail;go_ret;exact⟨ret_bool (by rw [HN.out,←HZ.out]),HB0.out⟩
     | true=>
      have HN:=Lib.hid (show bitsOk mode want 3 (k+1)=true by rw [HSucc.out,HOk.out];rfl);go_wp2_with fail;go_roundw
      case measure=>simp [intOf];omega
      case rel=>exact ⟨k+1,by omega,by go_num,by first | rfl | trivial,HN.out⟩
   ·obtain rfl:k=3:=by omega
    have HN:=Lib.hid (show RR=true by rw [HR.out,HOk.out,if_pos rfl]);go_wp2_with fail;go_ret;exact⟨ret_bool HN.out.symm,HB0.out⟩
 ·rw [hf] at HR;clear hf;go_wp2_with fail
  go_loopw [12] (fun t12 wr=>∃ k:Nat,k≤3∧t12=.int .i64 k∧wr=X∧bitsOk mode want 0 k=true) (fun t12 _=>3 - (intOf t12).toNat)
  case atStart=>exact ⟨0,Nat.zero_le _,rfl,rfl,rfl⟩
  case round=>
   obtain⟨k,hk,rfl,hwr,hok⟩:=hrel;have hwr:=hwr.symm;subst hwr;have HOk:=Lib.hid hok;clear hok;by_cases hlt:k<3
   ·have hk3:(k:Int)<3:=by omega
    have HSucc:=Lib.hid (bitsOk_succ mode want 0 k);have HFail:=Lib.hid (fun h1 h2=>bitsOk_fail (mode:=mode) (want:=want) (f:=0) hlt h1 h2);go_wp2_with fail;refine (HBit.out want k (by omega) _).mono ?_;rintro e w2 ⟨rfl,rfl⟩;obtain⟨b1,hb1⟩:∃ b,bitB want k=b:=⟨_,rfl⟩;rw [hb1] at HSucc HFail;rw [hb1];clear hb1
    cases b1 with
    | false=>
     have HN:=Lib.hid (show bitsOk mode want 0 (k+1)=true by rw [HSucc.out,HOk.out];rfl);go_wp2_with fail;go_roundw
     case measure=>simp [intOf];omega
     case rel=>exact ⟨k+1,by omega,by go_num,by first | rfl | trivial,HN.out⟩
    | true=>
     have hfk:IntKind.i64.wrap ((0:Int)+(k:Int))=(0:Int)+(k:Int):=by rw [IntKind.wrap_i64];omega
     go_wp2_with fail;have h2:=HBit.out mode (0+k) (by omega);rw [show ((0+k:Nat):Int)=(0:Int)+(k:Int) from by omega] at h2;refine (HBit.out mode k (by omega) _).mono ?_;rintro e w3 ⟨rfl,rfl⟩;obtain⟨b2,hb2⟩:∃ b,bitB mode (0+k)=b:=⟨_,rfl⟩;rw [hb2] at HSucc HFail;rw [Nat.zero_add] at hb2;rw [hb2];clear hb2
     cases b2 with
     | false=>
      have HN:=Lib.hid (show RR=decide (cu=0) by rw [HR.out,HFail.out (by first | rfl | trivial) (by first | rfl | trivial)];simp);have hzz:=HZ.out;go_wp2_with fail;go_ret;exact⟨ret_bool (by rw [HN.out,←HZ.out]),HB0.out⟩
     | true=>
      have HN:=Lib.hid (show bitsOk mode want 0 (k+1)=true by rw [HSucc.out,HOk.out];rfl);go_wp2_with fail;go_roundw
      case measure=>simp [intOf];omega
      case rel=>exact ⟨k+1,by omega,by go_num,by first | rfl | trivial,HN.out⟩
   ·obtain rfl:k=3:=by omega
    have HN:=Lib.hid (show RR=true by rw [HR.out,HOk.out,if_pos rfl]);go_wp2_with fail;go_ret;exact⟨ret_bool HN.out.symm,HB0.out⟩
end
end Go.Proofs.YtihdbncoijhihaaGreatDoor
