import Derived.Laws.RangeAny
import Derived.Lib.OthersKept
import Derived.Test.YtihdbncoijhihaaGreatDoorSN2
import Derived.Test.YtihdbncoijhihaaGreatDoorSN3
import Derived.Test.YtihdbncoijhihaaGreatDoorSN4
import Derived.Test.YtihdbncoijhihaaGreatDoorSN1
import Derived.Test.YtihdbncoijhihaaGreatDoorSN21
import Derived.Test.YtihdbncoijhihaaGreatDoorSN9
import Derived.Test.YtihdbncoijhihaaGreatDoorSN11
set_option linter.unusedVariables false
set_option linter.unusedSimpArgs false
set_option maxRecDepth 100000
set_option maxHeartbeats 16000000
namespace Go.Proofs.YtihdbncoijhihaaGreatDoor
section
open Go.RowKit
theorem str_bne1 {a b:ByteArray} (h:a≠b):¬ a.toList=b.toList:=fun e=>h (ba_ext e)
theorem rnum_any (s:ByteArray) (w:World) (hs:s.size≤100000) :
  Calls Tryz.prog 114 #[.string s] w fun e w'=>(∃ r,e=.returned (numRes r)∧NumOk s r)∧Below w.heap.size w w':=by
 by_cases hsz:s.size<1∨20<s.size
 ·have HN:=Lib.hid (none_size hsz);go_enter Tryz.func114,Tryz.ntmps114;rcases hsz with h1 | h1
  ·have h2:(s.size:Int)<1:=by omega
   go_wp2_with fail
   all_goals (go_ret2;exact ⟨⟨none,rfl,HN.out⟩,Below.refl _ _⟩)
  ·have h2:(20:Int)<s.size:=by omega
   go_wp2_with fail
   all_goals (go_ret2;exact ⟨⟨none,rfl,HN.out⟩,Below.refl _ _⟩)
 ·have h1:(1:Int)≤s.size:=by omega
  have h2:(s.size:Int)≤20:=by omega
  have h3:0<s.size:=by omega
  have HS:=Lib.hid h3;clear hsz;by_cases h45:s[0]=45
  ·have hc:((s[0].toNat:Int) == 45)=true:=by rw [h45];rfl
   have H45:=Lib.hid (show ∃ h:0<s.size,s[0]=45 from ⟨h3,h45⟩);clear h45;go_enter Tryz.func114,Tryz.ntmps114;go_wp2_with fail
   go_loopw [5,6] (fun t5 t6 wr=>∃ (k:Nat) (n:Int),1≤k∧k≤s.size∧t6=.int .i64 k∧t5=.int .i64 n∧NInv ((s.data.toList.take k).drop 1) n∧w=wr) (fun _ t6 _=>s.size - (intOf t6).toNat)
   case atStart=>exact ⟨1,0,by omega,by have:=HS.out;omega,rfl,rfl,by have e:(s.data.toList.take 1).drop 1=[]:=List.eq_nil_of_length_eq_zero (by rw [List.length_drop,List.length_take];omega);rw [e];exact NInv.nil,rfl⟩
   case round=>
    obtain⟨k,n,hk1,hk,rfl,rfl,hv,rfl⟩:=hrel;have HVv:=Lib.hid hv;have hn0:=hv.1;have hn1:=hv.2.1;clear hv;by_cases hlt:k<s.size
    ·have Hst:=Lib.hid (take_step s k hlt);by_cases hlo:s[k].toNat<48
     ·have HN:=Lib.hid (none_bad (a:=1) hlt (by omega) (fun _=>rfl) (.inl hlo));have hlo2:(s[k].toNat:Int)<48:=by omega
      clear hlo;go_wp2_with fail;go_ret2;exact⟨⟨none,rfl,HN.out⟩,Below.refl _ _⟩
     ·by_cases hhi:57<s[k].toNat
      ·have HN:=Lib.hid (none_bad (a:=1) hlt (by omega) (fun _=>rfl) (.inr hhi));have hlo2:¬ (s[k].toNat:Int)<48:=by omega
       have hhi2:(57:Int)<s[k].toNat:=by omega
       clear hlo hhi;go_wp2_with fail;go_ret2;exact⟨⟨none,rfl,HN.out⟩,Below.refl _ _⟩
      ·have hlo2:¬ (s[k].toNat:Int)<48:=by omega
       have hhi2:¬ (57:Int)<s[k].toNat:=by omega
       have hw1:IntKind.u8.wrap ((s[k].toNat:Int) - 48)=(s[k].toNat:Int) - 48:=by simp [IntKind.wrap,IntKind.bits,IntKind.signed];omega
       have hw2:IntKind.i64.wrap ((s[k].toNat:Int) - 48)=(s[k].toNat:Int) - 48:=by simp [IntKind.wrap,IntKind.bits,IntKind.signed];omega
       have HStep:=Lib.hid (HVv.out.step s[k] (by omega));have HD:=Lib.hid (show (s.data.toList.take (k+1)).drop 1=(s.data.toList.take k).drop 1 ++ [s[k]] by rw [Hst.out,List.drop_append_of_le_length (by rw [List.length_take,show s.data.toList.length=s.size from Array.length_toList];omega)]);clear hlo hhi;go_wp2_with fail;go_roundw
       case measure=>simp [intOf];omega
       case rel=>exact ⟨k+1,_,by omega,by omega,by go_num,rfl,by rw [HD.out];have h:=HStep.out;simp only [IntKind.wrap_i64] at h;unfold wrap64;exact h,by first | rfl | trivial⟩
    ·obtain rfl:k=s.size:=by omega
     have hall:=Lib.hid (take_end s);have HDn:=Lib.hid (fun w=>rdec_any n w hn0 hn1);have HV2:=Lib.hid (show NInv (s.data.toList.drop 1) n by have:=HVv.out;rwa [hall.out] at this);by_cases he:str (decL n)=s
     ·have HOK:=Lib.hid (show NumOk s (some n) from ⟨he,hn0,hn1⟩);rw [he] at HDn;clear he;go_wp2_with (go_at_call 104;refine (HDn.out _).mono ?_;rintro e w1 ⟨rfl,hb1⟩)
      all_goals (go_ret2;first | exact ⟨⟨some n,rfl,HOK.out⟩,hb1⟩ | (exfalso;simp_all;done))
     ·have HOK:=Lib.hid (none_neg H45.out HV2.out he);have hb:=str_bne1 he;have hb2:=str_bne he;clear he;generalize str (decL n)=D at HDn hb hb2;go_wp2_with (go_at_call 104;refine (HDn.out _).mono ?_;rintro e w1 ⟨rfl,hb1⟩)
      all_goals (go_ret2;exact ⟨⟨none,rfl,HOK.out⟩,hb1⟩)
  ·have hc:((s[0].toNat:Int) == 45)=false:=by
    simp only [beq_eq_false_iff_ne,ne_eq];intro h;exact h45 (by rw [u8_eq];show s[0].toNat=45;omega)
   have H45:=Lib.hid (show ¬ ∃ h:0<s.size,s[0]=45 from fun ⟨_,h⟩=>h45 h);clear h45;go_enter Tryz.func114,Tryz.ntmps114;go_wp2_with fail
   go_loopw [5,6] (fun t5 t6 wr=>∃ (k:Nat) (n:Int),0≤k∧k≤s.size∧t6=.int .i64 k∧t5=.int .i64 n∧NInv ((s.data.toList.take k).drop 0) n∧w=wr) (fun _ t6 _=>s.size - (intOf t6).toNat)
   case atStart=>exact ⟨0,0,by omega,by have:=HS.out;omega,rfl,rfl,by have e:(s.data.toList.take 0).drop 0=[]:=List.eq_nil_of_length_eq_zero (by rw [List.length_drop,List.length_take];omega);rw [e];exact NInv.nil,rfl⟩
   case round=>
    obtain⟨k,n,hk1,hk,rfl,rfl,hv,rfl⟩:=hrel;have HVv:=Lib.hid hv;have hn0:=hv.1;have hn1:=hv.2.1;clear hv;by_cases hlt:k<s.size
    ·have Hst:=Lib.hid (take_step s k hlt);by_cases hlo:s[k].toNat<48
     ·have HN:=Lib.hid (none_bad (a:=0) hlt (by omega) (fun h=>absurd h H45.out) (.inl hlo));have hlo2:(s[k].toNat:Int)<48:=by omega
      clear hlo;go_wp2_with fail;go_ret2;exact⟨⟨none,rfl,HN.out⟩,Below.refl _ _⟩
     ·by_cases hhi:57<s[k].toNat
      ·have HN:=Lib.hid (none_bad (a:=0) hlt (by omega) (fun h=>absurd h H45.out) (.inr hhi));have hlo2:¬ (s[k].toNat:Int)<48:=by omega
       have hhi2:(57:Int)<s[k].toNat:=by omega
       clear hlo hhi;go_wp2_with fail;go_ret2;exact⟨⟨none,rfl,HN.out⟩,Below.refl _ _⟩
      ·have hlo2:¬ (s[k].toNat:Int)<48:=by omega
       have hhi2:¬ (57:Int)<s[k].toNat:=by omega
       have hw1:IntKind.u8.wrap ((s[k].toNat:Int) - 48)=(s[k].toNat:Int) - 48:=by simp [IntKind.wrap,IntKind.bits,IntKind.signed];omega
       have hw2:IntKind.i64.wrap ((s[k].toNat:Int) - 48)=(s[k].toNat:Int) - 48:=by simp [IntKind.wrap,IntKind.bits,IntKind.signed];omega
       have HStep:=Lib.hid (HVv.out.step s[k] (by omega));have HD:=Lib.hid (show (s.data.toList.take (k+1)).drop 0=(s.data.toList.take k).drop 0 ++ [s[k]] by rw [Hst.out,List.drop_append_of_le_length (by rw [List.length_take,show s.data.toList.length=s.size from Array.length_toList];omega)]);clear hlo hhi;go_wp2_with fail;go_roundw
       case measure=>simp [intOf];omega
       case rel=>exact ⟨k+1,_,by omega,by omega,by go_num,rfl,by rw [HD.out];have h:=HStep.out;simp only [IntKind.wrap_i64] at h;unfold wrap64;exact h,by first | rfl | trivial⟩
    ·obtain rfl:k=s.size:=by omega
     have hall:=Lib.hid (take_end s);have HM:=Lib.hid (show wrap64 (-n)=IntKind.i64.wrap (0 - n) by rw [IntKind.wrap_i64];unfold wrap64;omega);have hm0:-9223372036854775808≤wrap64 (-n):=by unfold wrap64;omega
     have hm1:wrap64 (-n)≤9223372036854775807:=by unfold wrap64;omega
     have HDn:=Lib.hid (fun w=>rdec_any (wrap64 (-n)) w hm0 hm1);have HV2:=Lib.hid (show NInv s.data.toList n by have:=HVv.out;rwa [hall.out] at this);by_cases he:str (decL (wrap64 (-n)))=s
     ·have HOK:=Lib.hid (show NumOk s (some (wrap64 (-n))) from ⟨he,hm0,hm1⟩);rw [he] at HDn;clear he;go_wp2_with (go_at_call 104;refine (HDn.out _).mono ?_;rintro e w1 ⟨rfl,hb1⟩)
      all_goals (go_ret2;first | exact ⟨⟨some _,rfl,HOK.out⟩,hb1⟩ | (exfalso;simp_all;done))
     ·have HOK:=Lib.hid (none_pos H45.out HV2.out (by rw [←HM.out];exact he));have hb:=str_bne1 he;have hb2:=str_bne he;clear he;generalize str (decL (wrap64 (-n)))=D at HDn hb hb2;go_wp2_with (go_at_call 104;refine (HDn.out _).mono ?_;rintro e w1 ⟨rfl,hb1⟩)
      all_goals (go_ret2;exact ⟨⟨none,rfl,HOK.out⟩,hb1⟩)
end
section
open Go.RowKit
def digB (b:Nat) (c:UInt8):Bool:=decide (48≤c.toNat∧c.toNat<48+b)
def readP (b m:Nat) (l:List UInt8):Option Nat:=if l≠[]∧l.all (digB b)=true∧valD b l≤m then some (valD b l) else none
def readRes:Option Nat→Value
 | some n=>.tuple #[.int .u64 n,.bool true]
 | none=>.tuple #[.int .u64 0,.bool false]
theorem valD_mono (b:Nat) (hb:1≤b) (l m:List UInt8):valD b l≤valD b (l ++ m):=by
 unfold valD;rw [List.foldl_append];generalize l.foldl (fun a c=>a*b+(c.toNat - 48)) 0=n
 induction m generalizing n with
 | nil=>simp
 | cons c m ih=>
  rw [List.foldl_cons];refine Nat.le_trans ?_ (ih _);have:=Nat.le_mul_of_pos_right n hb;omega
theorem readP_bad {b m:Nat} {s:ByteArray} {k:Nat} (hk:k<s.size) (h:digB b s[k]=false):readP b m s.data.toList=none:=by
 unfold readP;rw [if_neg];rintro ⟨-,h2,-⟩;rw [List.all_eq_true] at h2;have:=h2 s[k] (by rw [Array.mem_toList_iff];exact Array.getElem_mem _);rw [h] at this
 cases this
theorem readP_great {b m:Nat} {s:ByteArray} {k:Nat} (hb:1≤b) (h:m<valD b (s.data.toList.take k)):readP b m s.data.toList=none:=by
 unfold readP;rw [if_neg];rintro ⟨-,-,h3⟩;have:=valD_mono b hb (s.data.toList.take k) (s.data.toList.drop k);rw [List.take_append_drop] at this;omega
theorem readP_ok {b m:Nat} {s:ByteArray} (h0:s.size≠0) (h1:s.data.toList.all (digB b)=true) (h2:valD b s.data.toList≤m):readP b m s.data.toList=some (valD b s.data.toList):=by
 unfold readP;rw [if_pos ⟨fun e=>h0 (by have:=congrArg List.length e;simpa using this),h1,h2⟩]
theorem readP_empty {b m:Nat} {s:ByteArray} (h0:s.size=0):readP b m s.data.toList=none:=by
 unfold readP;rw [if_neg];rintro ⟨h,-⟩;exact h (List.eq_nil_of_length_eq_zero (by rw [show s.data.toList.length=s.size from Array.length_toList];exact h0))
theorem read_le {n d m b:Nat} (hb:1≤b) (hd:d≤m) (h:¬ ((m:Int) - d) / b<n):n*b+d≤m:=by
 have h1:(n:Int)≤((m:Int) - d) / b:=by omega
 rw [Int.le_ediv_iff_mul_le (by omega)] at h1;have:((n*b:Nat):Int)=(n:Int)*b:=by push_cast;rfl
 omega
theorem read_gt {n d m b:Nat} (hb:1≤b) (hd:d≤m) (h:((m:Int) - d) / b<n):m<n*b+d:=by
 rw [Int.ediv_lt_iff_lt_mul (by omega)] at h;have:((n*b:Nat):Int)=(n:Int)*b:=by push_cast;rfl
 omega
theorem read_any (s:ByteArray) (b m:Nat) (w:World) (hs:s.size≤100000) (hb0:2≤b) (hb1:b≤10) (hm0:10≤m) (hm:m≤9223372036854775808) :
  Calls Tryz.prog 279 #[.string s,.int .u64 b,.int .u64 m] w fun e w'=>e=.returned (readRes (readP b m s.data.toList))∧Below w.heap.size w w':=by
 by_cases h0:s.size=0
 ·have HN:=Lib.hid (readP_empty (b:=b) (m:=m) h0);have he:s=ByteArray.empty:=by
   cases s with | mk d=>exact congrArg ByteArray.mk (Array.eq_empty_of_size_eq_zero h0)
  subst he;clear h0;go_enter Tryz.func279,Tryz.ntmps279;go_wp2_with fail;go_ret2;exact⟨by rw [HN.out];rfl,Below.refl _ _⟩
 ·have H0:=Lib.hid h0;have h1:s.toList.isEmpty=false:=by
   rw [ByteArray.toList_eq]
   cases hh:s.data.toList with
   | nil=>exact absurd (by have:=congrArg List.length hh;simpa using this) h0
   | cons=>rfl
  have h2:s.toList≠[]:=by intro e;rw [e] at h1;cases h1
  clear h0;go_enter Tryz.func279,Tryz.ntmps279;go_wp2_with fail
  go_loopw [8] (fun t8 wr=>∃ k:Nat,k≤s.size∧wr.heap[w.heap.size]? = some (.stringIter s k)∧t8=.int .u64 (valD b (s.data.toList.take k):Nat)∧(s.data.toList.take k).all (digB b)=true∧valD b (s.data.toList.take k)≤m∧Below w.heap.size w wr) (fun _ wr=>s.size - wr.iterPos w.heap.size)
  case atStart=>exact ⟨0,Nat.zero_le _,by have:=World.iter_heap w s 0;simpa using this,by simp [valD],by simp,by simp [valD],(Below.refl _ _).alloc (Nat.le_refl _) _⟩
  case round=>
   obtain⟨k,hk,hit,rfl,hall,hle,hW⟩:=hrel;have HAll:=Lib.hid hall;have HW:=Lib.hid hW;have HP:=Lib.hid (show wr.iterPos w.heap.size=k by simp [World.iterPos,hit]);clear hall hW;by_cases hlt:k<s.size
   ·have hnx:∀ ty,(Instr.next (.pointer (some ⟨w.heap.size,0,none⟩)) true ty).run Tryz.prog wr=_:=fun ty=>Lib.run_next_any_at wr w.heap.size s k ty hit hlt;have Hst:=Lib.hid (take_step s k hlt);have HG:=Lib.hid (readP_great (b:=b) (m:=m) (s:=s) (k:=k+1) (by omega));generalize hn:valD b (s.data.toList.take k)=n at hle;have HNn:=Lib.hid hn;have HVs:=Lib.hid (show valD b (s.data.toList.take (k+1))=n*b+(s[k].toNat - 48) by rw [Hst.out,valD_snoc,hn]);clear hn;have hn1:n≤9223372036854775808:=by omega
    by_cases hhi:128≤s[k].toNat
    ·have HB:=Lib.hid (readP_bad (b:=b) (m:=m) hlt (by unfold digB;exact decide_eq_false (by omega)));obtain⟨hc0,hc1⟩:=decode_high s k hlt hhi;have hc2:=decode_le s k;generalize (Utf8.decode s k).1=c at hnx hc0 hc2;generalize (Utf8.decode s k).2=wd at hnx;have HB2:=Lib.hid (Lib.below_iterAt HW.out (k:=w.heap.size) (Nat.le_refl _) s (k+wd));clear hhi hc1;go_wp2_with fail;go_ret2;exact⟨by rw [HB.out];rfl,HB2.out⟩
    ·have hasc:=decode_ascii s k hlt (by omega);rw [hasc] at hnx;have HB2:=Lib.hid (Lib.below_iterAt HW.out (k:=w.heap.size) (Nat.le_refl _) s (k+1));have HI2:=Lib.hid (Lib.iterAt_heap wr w.heap.size s k (k+1) hit);have HBad:=Lib.hid (fun h=>readP_bad (b:=b) (m:=m) hlt h);have HD:=Lib.hid (show digB b s[k]=decide (48≤s[k].toNat∧s[k].toNat<48+b) from rfl);have hc256:s[k].toNat<256:=UInt8.toNat_lt _;generalize s[k].toNat=c at hnx hhi HVs HD hc256;clear hasc;by_cases hlo:c<48
     ·have HB:=Lib.hid (HBad.out (by rw [HD.out];exact decide_eq_false (by omega)));have hlo2:(c:Int)<48:=by omega
      clear hlo hhi;go_wp2_with fail;go_ret2;exact⟨by rw [HB.out];rfl,HB2.out⟩
     ·by_cases hup:48+b≤c
      ·have HB:=Lib.hid (HBad.out (by rw [HD.out];exact decide_eq_false (by omega)));have hlo2:(48:Int)≤c:=by omega
       have hup2:(b:Int)≤(c:Int) - 48:=by omega
       clear hlo hhi hup;go_wp2_with fail;go_ret2;exact⟨by rw [HB.out];rfl,HB2.out⟩
      ·obtain ⟨d,rfl⟩:∃ d,c=48+d:=⟨c - 48,by omega⟩;have hd:d<b:=by omega
       have hcd:((48+d:Nat):Int) - 48=d:=by omega
       have hlo2:(48:Int)≤((48+d:Nat):Int):=by omega
       have HDT:=Lib.hid (show digB b s[k]=true by rw [HD.out];exact decide_eq_true (by omega));clear hlo hhi hup HD;have HLe:=Lib.hid (fun h=>read_le (n:=n) (d:=d) (m:=m) (b:=b) (by omega) (by omega) h);have HGt:=Lib.hid (fun h=>read_gt (n:=n) (d:=d) (m:=m) (b:=b) (by omega) (by omega) h);have hq:0≤((m:Int) - d) / b:=Int.ediv_nonneg (by omega) (by omega);have hd9:d≤9:=by omega
       have hnb:=Lib.hid (show n*b≤n*10 from Nat.mul_le_mul_left _ (by omega));have HC:=Lib.hid (show ((n*b:Nat):Int)=(n:Int)*b by push_cast;rfl);have HALL2:=Lib.hid (show (s.data.toList.take (k+1)).all (digB b)=true by rw [Hst.out,List.all_append,HAll.out];simp [HDT.out]);go_wp2_with fail
       ·have hg:((m:Int) - d) / b<n:=by
         have:=‹_∨_›;rcases this with h | h
         ·omega
         ·rw [show (48:Int)+(d:Int) - 48=d by omega] at h;exact h
        go_ret2;exact⟨by rw [HG.out (by rw [HVs.out];have:=HGt.out hg;omega)];rfl,HB2.out⟩
       ·have hg:¬ ((m:Int) - d) / b<n:=by
         have:=(‹_∧_› : _∧(n:Int)≤_).2;rw [show (48:Int)+(d:Int) - 48=d by omega] at this;omega
        have hnm:=HLe.out hg;go_roundw
        case rel=>exact ⟨k+1,by omega,HI2.out,by rw [HVs.out];have:=HC.out;congr 1;simp only [IntKind.wrap_u64];omega,HALL2.out,by rw [HVs.out];omega,HB2.out⟩
        case measure=>rw [HP.out];simp [World.iterPos,HI2.out];omega
   ·obtain rfl:k=s.size:=by omega
    have Hst:=Lib.hid (take_end s);have hnx:∀ ty,(Instr.next (.pointer (some ⟨w.heap.size,0,none⟩)) true ty).run Tryz.prog wr=_:=fun ty=>Lib.run_next_end_at wr w.heap.size s s.size ty hit (by omega);go_wp2_with fail;go_ret2;rw [Hst.out] at HAll hle;exact⟨by rw [readP_ok H0.out HAll.out hle,Hst.out];rfl,HW.out⟩
end
section
open Go.RowKit
theorem dig_head:∀ (n:Nat),10≤n→(dig 10 n).head?≠some 48:=by
 intro n
 induction n using Nat.strongRecOn with
 | _ n ih=>
  intro h;rw [dig_step (by omega) h];have hp:=dig_pos 10 (n / 10) (by omega)
  cases hd:dig 10 (n / 10) with
  | nil=>rw [hd] at hp;simp at hp
  | cons c r=>
   by_cases h2:10≤n / 10
   ·have:=ih (n / 10) (by omega) h2;rw [hd] at this;simpa using this
   ·rw [dig_small (by omega)] at hd;injection hd with h3 h4;subst h3;simp only [List.cons_append,List.head?_cons,ne_eq,Option.some.injEq];intro e;have:=congrArg UInt8.toNat e;simp at this;omega
theorem dig_of (l:List UInt8):l≠[]→l.all (digB 10)=true→(1<l.length→l.head?≠some 48)→dig 10 (valD 10 l)=l:=by
 refine snoc_ind (P:=fun l=>l≠[]→l.all (digB 10)=true→(1<l.length→l.head?≠some 48)→dig 10 (valD 10 l)=l) (fun h=>absurd rfl h) (fun l c ih=>?_) l;intro _ hall hz;rw [List.all_append,Bool.and_eq_true] at hall;have hc:48≤c.toNat∧c.toNat<58:=by have:=hall.2;simp [digB] at this;exact this
 have hcc:UInt8.ofNat (48+(c.toNat - 48))=c:=by rw [show 48+(c.toNat - 48)=c.toNat by omega];simp
 rw [valD_snoc]
 cases l with
 | nil=>
  rw [show valD 10 []=0 from rfl,Nat.zero_mul,Nat.zero_add,dig_small (by omega),hcc];rfl
 | cons x r=>
  have hx:49≤x.toNat:=by
   have h1:=hz (by simp);have h2:digB 10 x=true:=by have:=hall.1;simp at this;exact this.1
   simp [digB] at h2;simp at h1;have:x.toNat≠48:=fun e=>h1 (UInt8.toNat_inj.1 e);omega
  have hv:1≤valD 10 (x :: r):=by
   have:=valD_mono 10 (by omega) [x] r;simp [valD] at this ⊢;omega
  have ih:=ih (by simp) hall.1 (fun h=>by have:=hz (by simp);simpa using this);rw [dig_step (by omega) (by omega),show (valD 10 (x :: r)*10+(c.toNat - 48)) / 10=valD 10 (x :: r) by omega,show (valD 10 (x :: r)*10+(c.toNat - 48)) % 10=c.toNat - 48 by omega,ih,hcc]
theorem dig_all (n:Nat):(dig 10 n).all (digB 10)=true:=by
 rw [List.all_eq_true];intro c hc;have:=dig_bytes 10 (by omega) (by omega) n c hc;exact decide_eq_true (by omega)
theorem dig_ne (n:Nat):dig 10 n≠[]:=fun e=>by have:=dig_pos 10 n (by omega);rw [e] at this;simp at this
theorem readP_dig (n m:Nat) (h:n≤m):readP 10 m (dig 10 n)=some n:=by
 unfold readP;rw [valD_dig 10 (by omega) (by omega),if_pos ⟨dig_ne n,dig_all n,h⟩]
theorem dig_lead {n:Nat} (h1:1<(dig 10 n).length) (h2:(dig 10 n).head? = some 48):False:=by
 by_cases h:10≤n
 ·exact dig_head n h h2
 ·rw [dig_small (by omega)] at h1;simp at h1
theorem readP_some {m v:Nat} {l:List UInt8} (h:readP 10 m l=some v):l≠[]∧l.all (digB 10)=true∧v≤m∧valD 10 l=v:=by
 unfold readP at h
 split at h
 ·rename_i hh;injection h with h;exact⟨hh.1,hh.2.1,h ▸ hh.2.2,h⟩
 ·cases h
def lead0 (l:List UInt8):Prop:=1<l.length∧l.head? = some 48
theorem num_pos_none {s:ByteArray} (h45:s.data.toList.head?≠some 45) (h:readP 10 9223372036854775807 s.data.toList=none∨lead0 s.data.toList):NumOk s none:=fun n h0 h1 e=>by
 have hl:=list_of_str e;unfold decL at hl;by_cases hn:n<0
 ·rw [if_pos hn] at hl;rw [hl] at h45;exact h45 rfl
 ·rw [if_neg hn] at hl;rw [hl] at h;rcases h with h | h
  ·rw [readP_dig _ _ (by omega)] at h;cases h
  ·exact dig_lead h.1 h.2
theorem num_pos_some {s:ByteArray} {v:Nat} (h:readP 10 9223372036854775807 s.data.toList=some v) (hl:¬ lead0 s.data.toList):NumOk s (some (v:Int)):=by
 obtain⟨h1,h2,h3,h4⟩:=readP_some h;refine ⟨?_,by omega,by omega⟩;unfold decL;rw [if_neg (by omega),Int.toNat_natCast,←h4,dig_of _ h1 h2 (fun a b=>hl ⟨a,b⟩),str_of]
theorem num_neg_none {s:ByteArray} {l:List UInt8} (hs:s.data.toList=45 :: l) (h:readP 10 9223372036854775808 l=none∨lead0 l∨readP 10 9223372036854775808 l=some 0):NumOk s none:=fun n h0 h1 e=>by
 have hl:=list_of_str e;rw [hs] at hl;unfold decL at hl;by_cases hn:n<0
 ·rw [if_pos hn] at hl;injection hl with _ hl;subst hl;rcases h with h | h | h
  ·rw [readP_dig _ _ (by omega)] at h;cases h
  ·exact dig_lead h.1 h.2
  ·rw [readP_dig _ _ (by omega)] at h;injection h with h;omega
 ·rw [if_neg hn] at hl;have:=dig_bytes 10 (by omega) (by omega) n.toNat 45 (by rw [←hl];simp);exact absurd this.1 (by decide)
theorem num_neg_some {s:ByteArray} {l:List UInt8} {v:Nat} (hs:s.data.toList=45 :: l) (h:readP 10 9223372036854775808 l=some v) (hl:¬ lead0 l) (h0:v≠0):NumOk s (some (-(v:Int))):=by
 obtain⟨h1,h2,h3,h4⟩:=readP_some h;refine ⟨?_,by omega,by omega⟩;unfold decL;rw [if_pos (by omega),show (-(v:Int)).natAbs=v by omega,←h4,dig_of _ h1 h2 (fun a b=>hl ⟨a,b⟩),←hs,str_of]
theorem cut_yes (s:ByteArray) (l:List UInt8) (hs:s.data.toList=45 :: l) (w:World) :
  Calls Tryz.prog 272 #[.string s,.string (ByteArray.mk #[45])] w fun e w'=>e=.returned (.tuple #[.string (str l),.bool true])∧w=w':=by
 refine (Tryz.strings_CutPrefix s (ByteArray.mk #[45]) w).mono ?_;rintro e w' ⟨rfl,rfl⟩;rw [hs];exact⟨by simp [Lib.trimPrefix,Lib.hasPrefix,str],rfl⟩
theorem cut_no (s:ByteArray) (hs:s.data.toList.head?≠some 45) (w:World) :
  Calls Tryz.prog 272 #[.string s,.string (ByteArray.mk #[45])] w fun e w'=>e=.returned (.tuple #[.string s,.bool false])∧w=w':=by
 refine (Tryz.strings_CutPrefix s (ByteArray.mk #[45]) w).mono ?_;rintro e w' ⟨rfl,rfl⟩;have h1:Lib.hasPrefix s.data.toList (ByteArray.mk #[45]).data.toList=false:=by
  cases h:s.data.toList with
  | nil=>rfl
  | cons c r=>
   rw [h] at hs;have hc:(45:UInt8)≠c:=fun e=>hs (by rw [←e];rfl);show ((45:UInt8) == c && _)=false;rw [beq_eq_false_iff_ne.2 hc,Bool.false_and]
 refine ⟨?_,rfl⟩;have h2:Lib.trimPrefix s.data.toList (ByteArray.mk #[45]).data.toList=s.data.toList:=by unfold Lib.trimPrefix;rw [h1];rfl
 rw [h1,h2]
theorem lead_idx {s:ByteArray} (h:1<s.size):lead0 s.data.toList↔s[0]=48:=by
 have hg:s.data.toList[0]? = some s[0]:=by rw [Array.getElem?_toList];exact Array.getElem?_eq_getElem (show 0<s.size by omega)
 unfold lead0;rw [List.head?_eq_getElem?,hg,show s.data.toList.length=s.size from Array.length_toList];simp [h]
theorem lead_cases (t:ByteArray):(t.size≤1∧¬ lead0 t.data.toList)∨(∃ h:1<t.size,t[0]=48∧lead0 t.data.toList)∨(∃ h:1<t.size,t[0]≠48∧¬ lead0 t.data.toList):=by
 by_cases h:1<t.size
 ·by_cases h2:t[0]=48
  ·exact .inr (.inl ⟨h,h2,(lead_idx h).2 h2⟩)
  ·exact .inr (.inr ⟨h,h2,fun e=>h2 ((lead_idx h).1 e)⟩)
 ·refine .inl ⟨by omega,fun e=>?_⟩;have:=e.1;rw [show t.data.toList.length=t.size from Array.length_toList] at this;omega
theorem num_some {a b:Int} (h:a=b):Ending.returned (.tuple #[.int .i64 a,.bool true])=.returned (numRes (some b)):=by rw [h];rfl
theorem num_any (s:ByteArray) (w:World) (hs:s.size≤100000) :
  Calls Tryz.prog 238 #[.string s] w fun e w'=>(∃ r,e=.returned (numRes r)∧NumOk s r)∧Below w.heap.size w w':=by
 by_cases h45:s.data.toList.head? = some 45
 ·obtain ⟨l,hl⟩:∃ l,s.data.toList=45 :: l:=by
   cases h:s.data.toList with
   | nil=>rw [h] at h45;cases h45
   | cons c r=>rw [h] at h45;injection h45 with h45;exact ⟨r,by rw [h45]⟩
  have hls:(str l).size≤100000:=by
   have:=congrArg List.length hl;rw [show s.data.toList.length=s.size from Array.length_toList,List.length_cons] at this;rw [str_size];omega
  have HC:=Lib.hid (cut_yes s l hl);have HR:=Lib.hid (fun w=>read_any (str l) 10 9223372036854775808 w hls (by omega) (by omega) (by omega) (by omega));have HNone:=Lib.hid (num_neg_none hl);have HSome:=Lib.hid (fun v=>num_neg_some (v:=v) hl);have HLead:=Lib.hid (lead_cases (str l));have hstr:(str l).data.toList=l:=by simp [str]
  rw [hstr] at HR HLead;clear hstr h45 hl;generalize str l=t at HC HR HLead hls;generalize hr:readP 10 9223372036854775808 l=r at HR HNone HSome
  cases r with
  | none=>
   have HN:=Lib.hid (HNone.out (.inl rfl));simp only [readRes] at HR;clear hr;go_enter Tryz.func238,Tryz.ntmps238;go_wp2_with (first | (go_at_call 272;refine (HC.out _).mono ?_;rintro e w1 ⟨rfl,rfl⟩) | (go_at_call 279;refine (HR.out _).mono ?_;rintro e w1 ⟨rfl,hb1⟩));go_ret2;exact⟨⟨none,rfl,HN.out⟩,hb1⟩
  | some v=>
   have hv:=(readP_some hr).2.2.1;simp only [readRes] at HR;rcases HLead.out with ⟨h1,h2⟩|⟨h1,h2,h3⟩|⟨h1,h2,h3⟩
   ·by_cases hv0:v=0
    ·have HN:=Lib.hid (HNone.out (.inr (.inr (by rw [hv0]))));subst hv0;have h1':(t.size:Int)≤1:=by omega
     clear hr h1 h2;go_enter Tryz.func238,Tryz.ntmps238;go_wp2_with (first | (go_at_call 272;refine (HC.out _).mono ?_;rintro e w1 ⟨rfl,rfl⟩) | (go_at_call 279;refine (HR.out _).mono ?_;rintro e w1 ⟨rfl,hb1⟩));go_ret2;exact⟨⟨none,rfl,HN.out⟩,hb1⟩
    ·have HN:=Lib.hid (HSome.out v rfl h2 hv0);have h1':(t.size:Int)≤1:=by omega
     clear hr h1 h2;have hv1:((v:Int) == 0)=false:=by simpa using hv0
     have hv2:¬ (v:Int)=0:=by omega
     have HV0:=Lib.hid hv0;clear hv0;go_enter Tryz.func238,Tryz.ntmps238;go_wp2_with (first | (go_at_call 272;refine (HC.out _).mono ?_;rintro e w1 ⟨rfl,rfl⟩) | (go_at_call 279;refine (HR.out _).mono ?_;rintro e w1 ⟨rfl,hb1⟩));go_ret2;exact⟨⟨some _,num_some (by simp only [IntKind.wrap_i64,IntKind.wrap_u64,wrap64];have:=HV0.out;omega),HN.out⟩,hb1⟩
   ·have HN:=Lib.hid (HNone.out (.inr (.inl h3)));have h1':(1:Int)<t.size:=by omega
    have hc:((t[0].toNat:Int) == 48)=true:=by rw [h2];rfl
    have hp:0<t.size:=by omega
    clear hr h2 h3;go_enter Tryz.func238,Tryz.ntmps238;go_wp2_with (first | (go_at_call 272;refine (HC.out _).mono ?_;rintro e w1 ⟨rfl,rfl⟩) | (go_at_call 279;refine (HR.out _).mono ?_;rintro e w1 ⟨rfl,hb1⟩));go_ret2;exact⟨⟨none,rfl,HN.out⟩,hb1⟩
   ·by_cases hv0:v=0
    ·have HN:=Lib.hid (HNone.out (.inr (.inr (by rw [hv0]))));subst hv0;have h1':(1:Int)<t.size:=by omega
     have hc:((t[0].toNat:Int) == 48)=false:=by
      simp only [beq_eq_false_iff_ne,ne_eq];intro e;exact h2 (by rw [u8_eq];show t[0].toNat=48;omega)
     have hp:0<t.size:=by omega
     clear hr h2 h3;go_enter Tryz.func238,Tryz.ntmps238;go_wp2_with (first | (go_at_call 272;refine (HC.out _).mono ?_;rintro e w1 ⟨rfl,rfl⟩) | (go_at_call 279;refine (HR.out _).mono ?_;rintro e w1 ⟨rfl,hb1⟩));go_ret2;exact⟨⟨none,rfl,HN.out⟩,hb1⟩
    ·have HN:=Lib.hid (HSome.out v rfl h3 hv0);have h1':(1:Int)<t.size:=by omega
     have hc:((t[0].toNat:Int) == 48)=false:=by
      simp only [beq_eq_false_iff_ne,ne_eq];intro e;exact h2 (by rw [u8_eq];show t[0].toNat=48;omega)
     have hp:0<t.size:=by omega
     clear hr h2 h3;have hv1:((v:Int) == 0)=false:=by simpa using hv0
     have hv2:¬ (v:Int)=0:=by omega
     have HV0:=Lib.hid hv0;clear hv0;go_enter Tryz.func238,Tryz.ntmps238;go_wp2_with (first | (go_at_call 272;refine (HC.out _).mono ?_;rintro e w1 ⟨rfl,rfl⟩) | (go_at_call 279;refine (HR.out _).mono ?_;rintro e w1 ⟨rfl,hb1⟩));go_ret2;exact⟨⟨some _,num_some (by simp only [IntKind.wrap_i64,IntKind.wrap_u64,wrap64];have:=HV0.out;omega),HN.out⟩,hb1⟩
 ·have HC:=Lib.hid (cut_no s h45);have HR:=Lib.hid (fun w=>read_any s 10 9223372036854775807 w hs (by omega) (by omega) (by omega) (by omega));have HNone:=Lib.hid (num_pos_none h45);have HSome:=Lib.hid (fun v=>num_pos_some (s:=s) (v:=v));have HLead:=Lib.hid (lead_cases s);clear h45;obtain⟨t,ht⟩:∃ t,t=s:=⟨s,rfl⟩;generalize hr:readP 10 9223372036854775807 s.data.toList=r at HR HNone HSome;rw [←ht] at hs HC HR HLead HNone HSome ⊢;clear ht
  cases r with
  | none=>
   have HN:=Lib.hid (HNone.out (.inl rfl));simp only [readRes] at HR;clear hr;go_enter Tryz.func238,Tryz.ntmps238;go_wp2_with (first | (go_at_call 272;refine (HC.out _).mono ?_;rintro e w1 ⟨rfl,rfl⟩) | (go_at_call 279;refine (HR.out _).mono ?_;rintro e w1 ⟨rfl,hb1⟩));go_ret2;exact⟨⟨none,rfl,HN.out⟩,hb1⟩
  | some v=>
   have hv:=(readP_some hr).2.2.1;simp only [readRes] at HR;rcases HLead.out with ⟨h1,h2⟩|⟨h1,h2,h3⟩|⟨h1,h2,h3⟩
   ·have HN:=Lib.hid (HSome.out v rfl h2);have h1':(t.size:Int)≤1:=by omega
    clear hr h1 h2;go_enter Tryz.func238,Tryz.ntmps238;go_wp2_with (first | (go_at_call 272;refine (HC.out _).mono ?_;rintro e w1 ⟨rfl,rfl⟩) | (go_at_call 279;refine (HR.out _).mono ?_;rintro e w1 ⟨rfl,hb1⟩));go_ret2;exact⟨⟨some _,num_some (by first | rfl | (simp only [IntKind.wrap_i64,IntKind.wrap_u64];omega)),HN.out⟩,hb1⟩
   ·have HN:=Lib.hid (HNone.out (.inr h3));have h1':(1:Int)<t.size:=by omega
    have hc:((t[0].toNat:Int) == 48)=true:=by rw [h2];rfl
    have hp:0<t.size:=by omega
    clear hr h2 h3;go_enter Tryz.func238,Tryz.ntmps238;go_wp2_with (first | (go_at_call 272;refine (HC.out _).mono ?_;rintro e w1 ⟨rfl,rfl⟩) | (go_at_call 279;refine (HR.out _).mono ?_;rintro e w1 ⟨rfl,hb1⟩));go_ret2;exact⟨⟨none,rfl,HN.out⟩,hb1⟩
   ·have HN:=Lib.hid (HSome.out v rfl h3);have h1':(1:Int)<t.size:=by omega
    have hc:((t[0].toNat:Int) == 48)=false:=by
     simp only [beq_eq_false_iff_ne,ne_eq];intro e;exact h2 (by rw [u8_eq];show t[0].toNat=48;omega)
    have hp:0<t.size:=by omega
    clear hr h2 h3;go_enter Tryz.func238,Tryz.ntmps238;go_wp2_with (first | (go_at_call 272;refine (HC.out _).mono ?_;rintro e w1 ⟨rfl,rfl⟩) | (go_at_call 279;refine (HR.out _).mono ?_;rintro e w1 ⟨rfl,hb1⟩));go_ret2;exact⟨⟨some _,num_some (by first | rfl | (simp only [IntKind.wrap_i64,IntKind.wrap_u64];omega)),HN.out⟩,hb1⟩
end
section
open Go.RowKit Go.Shelf
theorem strC {w:World} {a:Option Addr} {n c:Nat} {l:List ByteArray} (h:SliceAt w 1 strR a n c l) (k:Nat) (hk:k<l.length):∃ b off,a=some ⟨b,off,none⟩∧b<w.heap.size∧w.cell? ⟨b,off+k,none⟩=some (.string l[k]):=by
 obtain⟨hl,hn,-,h0 | ⟨b,off,he,hbl,hel⟩⟩:=h
 ·omega
 ·obtain ⟨cs,e1,e2,e3⟩:=hel k hk;obtain⟨rfl,-⟩:=e2;exact⟨b,off,he,hbl,by simpa using e3 0 (by show 0<1;omega)⟩
theorem tidx_any (base s:ByteArray) (hb:base.size≤100000) (hs:s.size≤100000) (w:World) :
  Calls Tryz.prog 233 #[.string base,.string s] w fun e w'=>e=.returned (.int .i64 (idxB base s))∧Below w.heap.size w w':=by
 have hz1:¬ 9223372036854775807<base.size+2:=by omega
 have hA:=idxP_a (base:=base) (s:=s);have hB:=idxP_b (base:=base) (s:=s);have hC:=idxP_c (base:=base) (s:=s);have hCp:=fun w=>Tryz.strings_CutPrefix s (tilA base) w;obtain⟨t1,ht1⟩:∃ t,Lib.trimPrefix s.data.toList (tilA base).data.toList=t:=⟨_,rfl⟩;have hz2:t1.length≤100000:=by rw [←ht1];exact Nat.le_trans (Lib.trimPrefix_le _ _) hs
 rw [ht1] at hB hC;simp only [ht1] at hCp;have hCs:=fun w=>Tryz.strings_CutSuffix (str t1) (ByteArray.mk #[126]) w (by rw [str_size];omega);have e1:(str t1).data.toList=t1:=rfl;have e2:(ByteArray.mk #[126]).data.toList=[126]:=rfl;rw [e2] at hCs;simp only [e1] at hCs;obtain⟨t2,ht2⟩:∃ t,Lib.trimSuffix t1 [126]=t:=⟨_,rfl⟩;have hz3:t2.length≤100000:=by rw [←ht2];exact Nat.le_trans (Lib.trimSuffix_le _ _) hz2
 rw [ht2] at hC;simp only [ht2] at hCs;generalize Lib.hasPrefix s.data.toList (tilA base).data.toList=b1 at hA hC hCp;generalize Lib.hasSuffix t1 [126]=b2 at hB hC hCs;have HCp:=Lib.hid hCp;have HCs:=Lib.hid hCs;have HPn:=Lib.hid (fun w=>num_any (str t2) w (by rw [str_size];exact hz3));have HF:=Lib.hid (And.intro hA (And.intro hB hC));have HE:=Lib.hid (fun k (h:IdxOk base s k)=>h.eq);clear hA hB hC hCp hCs ht1 ht2 e1 e2;go_enter Tryz.func233,Tryz.ntmps233;go_wp2_with fail;refine (HCp.out _).mono ?_;rintro e _ ⟨rfl,rfl⟩;go_wp2_with fail;refine (HCs.out _).mono ?_;rintro e _ ⟨rfl,rfl⟩;go_wp2_with fail;refine (HPn.out _).mono ?_;rintro e w3 ⟨⟨r,rfl,hr⟩,hb3⟩;have HB3:=Lib.hid hb3;obtain⟨v,b3,e3,er⟩:=numRes_form2 r;rw [er] at hr;have HR:=Lib.hid hr;rw [e3];clear hb3 hr er e3;by_cases hbe:base=ByteArray.empty
 ·have hbb:(base.toList == [])=true:=by subst hbe;rw [ba_list];rfl
  have HK:=Lib.hid (HE.out 0 (by rw [hbe];exact idx_empty s));clear hbe;go_wp2_with fail;go_ret;exact⟨by rw [←HK.out];rfl,HB3.out⟩
 ·have hbb:(base.toList == [])=false:=by
   rw [ba_list]
   cases hl:base.data.toList with
   | nil=>exact absurd (ba_extD (by rw [hl];rfl)) hbe
   | cons x l=>rfl
  have HBe:=Lib.hid hbe;clear hbe
  cases b1 with
  | false=>
   have HK:=Lib.hid (HE.out 0 (HF.out.1 rfl));go_wp2_with fail;go_ret;exact⟨by rw [←HK.out];rfl,HB3.out⟩
  | true=>
   cases b2 with
   | false=>
    have HK:=Lib.hid (HE.out 0 (HF.out.2.1 rfl));go_wp2_with fail;go_ret;exact⟨by rw [←HK.out];rfl,HB3.out⟩
   | true=>
    have HS:=Lib.hid (HF.out.2.2 rfl rfl)
    cases b3 with
    | false=>
     have HK:=Lib.hid (HE.out 0 (by rw [HS.out];exact idx_mid HBe.out HR.out));go_wp2_with fail;go_ret;exact⟨by rw [←HK.out];rfl,HB3.out⟩
    | true=>
     have HK:=Lib.hid (HE.out (idxR (some v)) (by rw [HS.out];exact idx_mid HBe.out HR.out));by_cases h1:v<1
     ·have HJ:=Lib.hid (show idxR (some v)=0 from if_neg (by omega));go_wp2_with fail;go_ret;exact⟨by rw [←HK.out,HJ.out];rfl,HB3.out⟩
     ·by_cases h2:999999999<v
      ·have HJ:=Lib.hid (show idxR (some v)=0 from if_neg (by omega));go_wp2_with fail;go_ret;exact⟨by rw [←HK.out,HJ.out];rfl,HB3.out⟩
      ·have HJ:=Lib.hid (show idxR (some v)=v from if_pos (by omega));go_wp2_with fail;go_ret;exact⟨by rw [←HK.out,HJ.out];rfl,HB3.out⟩
theorem tmost_any (base:ByteArray) (hb:base.size≤100000) (l:List ByteArray) (hsz:∀ s∈l,s.size≤100000) (w:World) {a:Option Addr} {n c:Nat} (hl:SliceAt w 1 strR a n c l) :
  Calls Tryz.prog 173 #[.string base,.slice a n c] w fun e w'=>e=.returned (.int .i64 (mostB base 0 l))∧Below w.heap.size w w':=by
 have HL:=Lib.hid (fun w1 (hb1:Below w.heap.size w w1)=>hl.below hb1 (Nat.le_refl _));have HI:=Lib.hid (fun s (hs:s∈l) w=>tidx_any base s hb (hsz s hs) w);obtain rfl:l.length=n:=hl.1;have hc1:=hl.2.1;have hc2:=hl.2.2.1;clear hl;go_enter Tryz.func173,Tryz.ntmps173;go_wp2_with fail
 go_loopw [5,10] (fun t5 t10 wr=>∃ (i:Nat) (m:Int),i≤l.length∧t10=.int .i64 i∧t5=.int .i64 m∧mostB base m (l.drop i)=mostB base 0 l∧Below w.heap.size w wr) (fun _ t10 _=>l.length - (intOf t10).toNat)
 case atStart=>exact ⟨0,0,Nat.zero_le _,rfl,rfl,rfl,Below.refl _ _⟩
 case round=>
  obtain⟨i,m,hi,rfl,rfl,hm,hb1⟩:=hrel;have HB:=Lib.hid hb1;by_cases hlt:i<l.length
  ·obtain ⟨b,off,rfl,hbl,hcell⟩:=strC (HL.out _ hb1) i hlt;have HM:=Lib.hid (show mostB base (max m (idxB base l[i])) (l.drop (i+1))=mostB base 0 l by rw [←hm,List.drop_eq_getElem_cons hlt];rfl);have HI1:=Lib.hid (HI.out l[i] (List.getElem_mem hlt));generalize l[i]=s at hcell HM HI1;generalize idxB base s=k at HM HI1;clear hm hb1;go_wp2_with fail;refine (HI1.out _).mono ?_;rintro e w2 ⟨rfl,hb2⟩;have HB2:=Lib.hid (bnext HB.out hb2);clear hb2 hcell;go_wp2_with fail;go_roundw
   case measure=>simp [intOf];omega
   case rel=>exact ⟨i+1,_,by omega,by go_num,rfl,HM.out,HB2.out⟩
  ·obtain rfl:i=l.length:=by omega
   have HM:=Lib.hid (show m=mostB base 0 l by rw [←hm,List.drop_length];rfl);clear hm hb1;go_wp2_with fail;go_ret;exact⟨by rw [HM.out];rfl,HB.out⟩
theorem tname_any (base:ByteArray) (hb:base.size≤100000) (n:Int) (h0:-9223372036854775808≤n) (h1:n≤9223372036854775807) (w:World) :
  Calls Tryz.prog 172 #[.string base,.int .i64 n] w fun e w'=>e=.returned (.tuple #[.string (tilN base n).1,.int .i64 (tilN base n).2])∧Below w.heap.size w w':=by
 have HC:=Lib.hid (fun w=>ncheck_any base w (by omega));have HD:=Lib.hid (fun w=>dec_any n w h0 h1);have hl:=(decL_len20 n h0 h1).1;have hz0:(str (decL n)).size≤20:=by rw [str_size];exact hl
 have hz1:¬ 9223372036854775807<base.size+2:=by omega
 have hz2:¬ 9223372036854775807<base.size+2+(str (decL n)).size:=by omega
 have hz3:¬ 9223372036854775807<base.size+2+(str (decL n)).size+1:=by omega
 have hT:(tilB base n).size=base.size+2+(str (decL n)).size+1:=by
  unfold tilB;rw [ByteArray.size_append,ByteArray.size_append,tilA_size];rfl
 have HT:=Lib.hid (show tilN base n=if checkE base≠0 then (ByteArray.empty,checkE base) else if n<1∨999999999<n then (ByteArray.empty,3) else if 255<(tilB base n).size then (ByteArray.empty,13) else (tilB base n,0) from rfl);have HTB:=Lib.hid (show tilB base n=base ++ ByteArray.mk #[46,126] ++ str (decL n) ++ ByteArray.mk #[126] from rfl);generalize tilN base n=r at HT ⊢;generalize checkE base=ce at HC HT;rw [hT] at HT;generalize str (decL n)=ds at HD HT HTB hz0 hz1 hz2 hz3;clear hl hT;go_enter Tryz.func172,Tryz.ntmps172;go_wp2_with fail;refine (HC.out _).mono ?_;rintro e _ ⟨rfl,rfl⟩;by_cases hc:ce=0
 ·have HT1:=Lib.hid (HT.out.trans (if_neg (by simpa using hc)));subst hc;by_cases hn1:n<1
  ·have HE:=Lib.hid (HT1.out.trans (if_pos (.inl hn1)));go_wp2_with fail;go_ret2;rw [HE.out];exact⟨rfl,Below.refl _ _⟩
  ·by_cases hn2:999999999<n
   ·have HE:=Lib.hid (HT1.out.trans (if_pos (.inr hn2)));go_wp2_with fail;go_ret2;rw [HE.out];exact⟨rfl,Below.refl _ _⟩
   ·have HT2:=Lib.hid (HT1.out.trans (if_neg (by omega)));go_wp2_with fail;refine (HD.out _).mono ?_;rintro e w1 ⟨rfl,hb1⟩;have HB1:=Lib.hid hb1;clear hb1;by_cases h5:255<base.size+2+ds.size+1
    ·have HE:=Lib.hid (HT2.out.trans (if_pos h5));have h5b:(255:Int)<((base.size+2+ds.size+1:Nat):Int):=by omega
     go_wp2_with fail;go_ret2;rw [HE.out];exact⟨rfl,HB1.out⟩
    ·have HE:=Lib.hid (HT2.out.trans (if_neg h5));have h5b:¬ (255:Int)<((base.size+2+ds.size+1:Nat):Int):=by omega
     go_wp2_with fail;go_ret2;rw [HE.out,HTB.out];exact⟨rfl,HB1.out⟩
 ·have hcb:(ce != 0)=true:=by simpa using hc
  have HT1:=Lib.hid (HT.out.trans (if_pos hc));clear hc;go_wp2_with fail;go_ret2;rw [HT1.out];exact⟨rfl,Below.refl _ _⟩
theorem tnext_any (base:ByteArray) (hb:base.size≤100000) (l:List ByteArray) (hsz:∀ s∈l,s.size≤100000) (w:World) {a:Option Addr} {n c:Nat} (hl:SliceAt w 1 strR a n c l) :
  Calls Tryz.prog 112 #[.string base,.slice a n c] w fun e w'=>e=.returned (.tuple #[.string (tilN base (mostB base 0 l+1)).1,.int .i64 (tilN base (mostB base 0 l+1)).2])∧Below w.heap.size w w':=by
 have HM:=Lib.hid (tmost_any base hb l hsz w hl);have hm:=mostB_low base l 0 (Int.le_refl _) (by decide);generalize mostB base 0 l=m at HM hm ⊢;have hw:IntKind.i64.wrap (m+1)=m+1:=by simp [IntKind.wrap,IntKind.bits,IntKind.signed];omega
 have HN:=Lib.hid (fun w=>tname_any base hb (m+1) (by omega) (by omega) w);clear hl;go_enter Tryz.func112,Tryz.ntmps112;go_wp2_with fail;refine HM.out.mono ?_;rintro e w1 ⟨rfl,hb1⟩;have HB1:=Lib.hid hb1;clear hb1;go_wp2_with fail;refine (HN.out _).mono ?_;rintro e w2 ⟨rfl,hb2⟩;have HB2:=Lib.hid (bnext HB1.out hb2);clear hb2;go_wp2_with fail;go_ret2;exact⟨rfl,HB2.out⟩
end
end Go.Proofs.YtihdbncoijhihaaGreatDoor
