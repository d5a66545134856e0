import Derived.RangeFuncNested
import Derived.RangeFuncBound
import Derived.RangeFuncCalls
import Derived.RangeFuncLeaves
import Derived.Test.YtihdbncoijhihaaGreatDoorSN1
set_option linter.unusedVariables false
set_option linter.unusedSimpArgs false
set_option maxRecDepth 100000
set_option maxHeartbeats 16000000
namespace Go.Proofs.YtihdbncoijhihaaGreatDoor
section
open Go.RowKit
theorem info_u8:(Tryz.prog.info? 5).map (fun i=>(i.zero,i.size,i.bytes))=some (some (.int .u8 0),1,1):=by kernel_rfl
theorem dig_idx (r:Nat) (h:r<10) (hb:r<(ByteArray.mk #[48,49,50,51,52,53,54,55,56,57]).size):((ByteArray.mk #[48,49,50,51,52,53,54,55,56,57])[r]'hb).toNat=48+r:=by
 match r,h with
 | 0,_=>rfl
 | 1,_=>rfl
 | 2,_=>rfl
 | 3,_=>rfl
 | 4,_=>rfl
 | 5,_=>rfl
 | 6,_=>rfl
 | 7,_=>rfl
 | 8,_=>rfl
 | 9,_=>rfl
def digZ (b n:Nat):List UInt8:=if n=0 then [] else dig b n
theorem digZ_step {b n:Nat} (hb:2≤b) (hn:0<n):digZ b n=digZ b (n / b) ++ [UInt8.ofNat (48+n % b)]:=by
 unfold digZ;rw [if_neg (by omega)];by_cases h:n<b
 ·rw [dig_small h,if_pos (Nat.div_eq_of_lt h),Nat.mod_eq_of_lt h];rfl
 ·have:0<n / b:=Nat.div_pos (by omega) (by omega);rw [if_neg (by omega),dig_step hb (by omega)]
theorem digits_any (n b:Int) (w:World) (hn0:0≤n) (hn1:n≤18446744073709551615) (hb0:2≤b) (hb1:b≤10) :
  Calls Tryz.prog 168 #[.int .u64 n,.int .u64 b] w fun e w'=>e=.returned (.string (str (dig b.toNat n.toNat)))∧Below w.heap.size w w':=by
 by_cases hz:n=0
 ·subst hz;have Hv:=Lib.hid (show dig b.toNat (0:Int).toNat=[48] by rw [dig_small (by omega)];rfl);go_enter Tryz.func168,Tryz.ntmps168;go_wp2_with fail;go_ret;exact⟨by rw [Hv.out];rfl,Below.refl _ _⟩
 ·have hz0:(n == 0)=false:=by simpa using hz
  obtain⟨i0,hi,hzz,hz1,hz2⟩:=info_parts info_u8;go_enter Tryz.func168,Tryz.ntmps168;go_wp2_with fail
  go_loopg [0,5] n.toNat (fun g t0 t5 wr=>∃ (m:Int) (acc:List Int) (k:Nat),0≤m∧m≤n∧g=m.toNat∧t0=.int .u64 m∧wr.ownsRow w.heap.size 5 1 t5 acc.length (acc.map (Value.int .u8))∧
   (∀ x∈acc,48≤x∧x≤57)∧acc.length+k=64∧m<2 ^ k∧digZ b.toNat n.toNat=digZ b.toNat m.toNat ++ (acc.map fun x=>UInt8.ofNat x.toNat).reverse∧Below w.heap.size w wr)
  case atStart=>exact ⟨n,[],64,hn0,Int.le_refl _,rfl,rfl,World.ownsRow_nil _ _ _ _,by simp,rfl,by omega,by simp,Below.refl _ _⟩
  case round=>
   obtain⟨m,acc,k,hm0,hm1,hg,rfl,hown,hac,hs,hk,hd,hB⟩:=hrel;have Hg:=Lib.hid hg;have Hd:=Lib.hid hd;have Hs:=Lib.hid hs;have Hk:=Lib.hid hk;have Ha:=Lib.hid hac;clear hg hd hs hk hac;by_cases hlt:0<m
   ·obtain ⟨r0,r1⟩:=u8_mod (m:=m) hb0 hb1;have d0:0≤m / b:=Int.ediv_nonneg hm0 (by omega);have d1:m / b≤m:=Int.ediv_le_self _ hm0;have hne:(b == 0)=false:=by simp;omega
    have hidx:∀ h,(((ByteArray.mk #[48,49,50,51,52,53,54,55,56,57])[(m % b).toNat]'h).toNat:Int)=48+m % b:=fun h=>by
     rw [dig_idx _ (by omega)];omega
    have hacc:acc.length+1≤64:=by
     have hk:=Hk.out;have hs:=Hs.out
     cases k with
     | zero=>simp at hk;omega
     | succ k'=>omega
    have hlo:m / b<m:=Int.ediv_lt_self_of_pos_of_ne_one (by omega) (by omega);go_wp2_with (at_builtin;refine wpList_append_own _ rfl _ _ 246 rfl w.heap.size 5 i0 (.int .u8 0) 1 1 Tryz.underlying246 hi hzz hz1 hz2 rfl (by decide) _ _ _ rfl (hown.alloc _) ⟨wr.heap.size,0,none⟩ 1 1 [.int .u8 (48+m % b)] rfl rfl ?c1 ?c2 ?c3 ?c4 ?c5 ?_)
    case c1=>exact cell_one_new _ _ _
    case c2=>intro u hu;simp at hu;subst hu;rfl
    case c3=>unfold maxLen;omega
    case c4=>omega
    case c5=>have:=hB.size;simp;omega
    intro v' w1 hown' hgrow _;have hB1:Below w.heap.size w w1:=(balloc hB _).grown hgrow (by have:=hB.size;simp;omega) (fun k hk=>((hown.alloc (.cells #[.int .u8 (48+m % b)] 5)).lt k hk).1);go_wp2_with fail;go_roundg (m / b).toNat
    case measure=>rw [Hg.out];omega
    case rel=>
     have hk:=Hk.out;have hs:=Hs.out;obtain⟨k',rfl⟩:∃ k',k=k'+1:=by
      cases k with
      | zero=>simp at hk;omega
      | succ k'=>exact ⟨k',rfl⟩
     refine ⟨m / b,acc ++ [48+m % b],k',d0,by omega,rfl,rfl,by simpa using hown',?_,by simp;omega,?_,?_,hB1⟩
     ·intro x hx;rcases List.mem_append.1 hx with hx | hx
      ·exact Ha.out x hx
      ·simp at hx;omega
     ·have h2:m / b≤m / 2:=by
       have h3:=Int.ediv_mul_le m (show b≠0 by omega);have h4:m / b*2≤m / b*b:=Int.mul_le_mul_of_nonneg_left hb0 d0;omega
      have h5:(2:Int) ^ (k'+1)=2 ^ k'*2:=Int.pow_succ ..;omega
     ·rw [Hd.out,digZ_step (b:=b.toNat) (n:=m.toNat) (by omega) (by omega),toNat_div hm0 (by omega),List.append_assoc];congr 1;rw [←toNat_mod hm0 (by omega),List.map_append,List.reverse_append];show _=UInt8.ofNat (48+m % b).toNat :: _;rw [show (48+m % b).toNat=48+(m % b).toNat by omega];rfl
   ·obtain rfl:m=0:=by omega
    have hd0:dig b.toNat n.toNat=(acc.map fun x=>UInt8.ofNat x.toNat).reverse:=by
     have h:=Hd.out;unfold digZ at h;rw [if_neg (by omega)] at h;simpa using h
    have hne:0<acc.length:=by
     have h1:=dig_pos b.toNat n.toNat (by omega);rw [hd0] at h1;simpa using h1
    obtain⟨hl,hf⟩:=hown;rcases hf with ⟨-,h⟩|⟨g,cap,cur,rfl,hg0,hh,hc1,hc2,hc3,hc4⟩
    ·omega
    have hown:wr.ownsRow w.heap.size 5 1 (.slice (some ⟨g,0,none⟩) acc.length cap) acc.length (acc.map (Value.int .u8)):=⟨hl,.inr ⟨g,cap,cur,rfl,hg0,hh,hc1,hc2,hc3,hc4⟩⟩;have Hd0:=Lib.hid hd0;have hL:acc.length≤64:=by have:=Hs.out;omega
    clear hl hh hc1 hc3 hc4 hd0 Hd;go_wp2_with fail
    go_loopg [6,7] (acc.length+1) (fun gg t6 t7 wr=>∃ (k j:Nat) (cr:List Int),gg+k=acc.length+1∧j+k+1=acc.length∧k≤j+2∧t6=.int .i64 k∧t7=.int .i64 j∧
     wr.ownsRow w.heap.size 5 1 (.slice (some ⟨g,0,none⟩) acc.length cap) acc.length (cr.map (Value.int .u8))∧cr.length=acc.length∧
     (∀ x,x<acc.length→cr.getD x 0=if x<k∨j<x then acc.getD (acc.length - 1 - x) 0 else acc.getD x 0)∧Below w.heap.size w wr)
    case atStart=>exact ⟨0,acc.length - 1,acc,by omega,by omega,by omega,rfl,by go_num,hown,rfl,fun x hx=>by rw [if_neg (by omega)],hB⟩
    case round=>
     obtain⟨k,j,cr,hg1,hkj,hk2,rfl,rfl,hown,hcl,hcr,hB⟩:=hrel;have Hcr:=Lib.hid hcr;have Hcl:=Lib.hid hcl;have Hg1:=Lib.hid hg1;have Hkj:=Lib.hid hkj;clear hcr hcl hg1;by_cases hlt:k<j
     ·have hck:wr.cell? ⟨g,k,none⟩=some (.int .u8 (cr.getD k 0)):=by
       rw [hown.cellAt k (by omega),List.getElem?_map,List.getElem?_eq_getElem (by have:=Hcl.out;omega),List.getD_eq_getElem?_getD,List.getElem?_eq_getElem (by have:=Hcl.out;omega)];rfl
      have hcj:wr.cell? ⟨g,j,none⟩=some (.int .u8 (cr.getD j 0)):=by
       rw [hown.cellAt j (by omega),List.getElem?_map,List.getElem?_eq_getElem (by have:=Hcl.out;omega),List.getD_eq_getElem?_getD,List.getElem?_eq_getElem (by have:=Hcl.out;omega)];rfl
      have hf:=hown.frozenAt;have hne:¬ k=j:=by omega
      have hne':¬ j=k:=by omega
      have hkL:(k:Int)<acc.length:=by omega
      have hjL:(j:Int)<acc.length:=by omega
      have hj0:(0:Int)≤j:=by omega
      have hk0:(0:Int)≤k:=by omega
      have Hown:=Lib.hid hown;clear hown hkj;generalize hu:cr.getD k 0=u at hck;generalize hv:cr.getD j 0=v at hcj;have Hu:=Lib.hid hu;have Hv:=Lib.hid hv;clear hu hv;go_wp2_with fail
      go_region
      go_wp2_with fail;go_roundg (gk - 1)
      case measure=>have:=Hg1.out;have:=Hkj.out;omega
      case rel=>
       have hcr:=Hcr.out;have hcl:=Hcl.out;have hkj:=Hkj.out;have s1:=(Hown.out.stored k (.int .u8 v)).1;have s2:=(s1.stored j (.int .u8 u)).1;have hg:=hg0;refine ⟨k+1,j - 1,(cr.set k v).set j u,by have:=Hg1.out;omega,by omega,by omega,by go_num,by go_num,?_,by simp [hcl],?_,?_⟩
       ·rw [List.map_set,List.map_set];exact s2
       ·intro x hx;have hx':=hcr x hx;have hk':=hcr k (by omega);have hj':=hcr j (by omega);rw [if_neg (by omega),Hu.out] at hk';rw [if_neg (by omega),Hv.out] at hj';simp only [List.getD_eq_getElem?_getD] at hx' hk' hj' ⊢;by_cases e1:x=j
        ·subst e1;rw [List.getElem?_set_self (by simp;omega),if_pos (by omega),show acc.length - 1 - x=k by omega];exact hk'
        ·rw [List.getElem?_set_ne (by omega)];by_cases e2:x=k
         ·subst e2;rw [List.getElem?_set_self (by omega),if_pos (by omega),show acc.length - 1 - x=j by omega];exact hj'
         ·rw [List.getElem?_set_ne (by omega),hx'];by_cases e3:x<k∨j<x
          ·rw [if_pos e3,if_pos (by omega)]
          ·rw [if_neg e3,if_neg (by omega)]
       ·exact ((hB.setCell (p:=⟨g,k,none⟩) hg _).setCell (p:=⟨g,j,none⟩) hg _).drew
     ·have hcr:cr=acc.reverse:=by
       have hcl:=Hcl.out;apply List.ext_getElem (by simp [hcl]);intro x h1 h2;have hx:=Hcr.out x (by omega);rw [List.getD_eq_getElem?_getD,List.getElem?_eq_getElem h1] at hx;rw [List.getElem_reverse];by_cases e:x<k∨j<x
       ·rw [if_pos e,List.getD_eq_getElem?_getD,List.getElem?_eq_getElem (by omega)] at hx;exact hx
       ·rw [if_neg e,List.getD_eq_getElem?_getD,List.getElem?_eq_getElem (by omega)] at hx;have e2:x=acc.length - 1 - x:=by omega
        simp only [Option.getD_some] at hx;rw [hx];congr 1
      have kc:=conv_bytes (P:=Tryz.prog) Tryz.underlying246 Tryz.underlying5 Tryz.underlying9 wr g 0 cap cr (by
       intro x hx;have hcl:=Hcl.out;rw [Nat.zero_add,hown.cellAt x (by omega),List.getElem?_map,List.getElem?_eq_getElem hx];rfl)
      rw [Hcl.out] at kc;have Hcr2:=Lib.hid hcr;clear hcr;go_wp2_with fail;go_ret;refine ⟨?_,hB⟩;rw [Hd0.out,Hcr2.out,List.map_reverse];rfl
end
section
open Go.RowKit
theorem dec_any (n:Int) (w:World) (h0:-9223372036854775808≤n) (h1:n≤9223372036854775807) :
  Calls Tryz.prog 103 #[.int .i64 n] w fun e w'=>e=.returned (.string (str (decL n)))∧Below w.heap.size w w':=by
 by_cases hn:n<0
 ·have Hv:=Lib.hid (show decL n=45 :: dig 10 n.natAbs by unfold decL;rw [if_pos hn]);have hsz:=dig_len 10 (by decide) 19 n.natAbs (by
                            have e:(10:Nat) ^ (19+1)=100000000000000000000:=by decide
                            rw [e];omega)
  have hsz':(str (dig 10 n.natAbs)).size≤20:=by rw [str_size];exact hsz
  clear hsz;go_enter Tryz.func103,Tryz.ntmps103;have Hw:=Lib.hid (show IntKind.u64.wrap (-IntKind.u64.wrap n)=-n by rw [IntKind.wrap_u64,IntKind.wrap_u64];omega);go_wp2_with fail;rw [Hw.out];refine (digits_any (-n) 10 _ (by omega) (by omega) (by decide) (by decide)).mono ?_;rw [show dig (10:Int).toNat (-n).toNat=dig 10 n.natAbs by rw [show (-n).toNat=n.natAbs by omega];rfl];rintro e w1 ⟨rfl,hb1⟩;go_wp2_with fail;go_ret;refine ⟨?_,hb1⟩;rw [Hv.out];show Ending.returned (.string (str [45] ++ str _))=_;rw [str_append];rfl
 ·have Hv:=Lib.hid (show decL n=dig 10 n.toNat by unfold decL;rw [if_neg hn]);go_enter Tryz.func103,Tryz.ntmps103;go_wp2_with fail;refine (digits_any n 10 _ (by omega) (by omega) (by decide) (by decide)).mono ?_;rintro e w1 ⟨rfl,hb1⟩;go_wp2_with fail;go_ret;exact⟨by rw [Hv.out];rfl,hb1⟩
end
section
open Go.RowKit
theorem decL_inj {n m:Int} (h:decL n=decL m):n=m:=by
 unfold decL at h;by_cases h1:n<0
 ·rw [if_pos h1] at h;by_cases h2:m<0
  ·rw [if_pos h2] at h;injection h with _ h;have:=dig_inj 10 (by omega) (by omega) h;omega
  ·rw [if_neg h2] at h;have:=dig_bytes 10 (by omega) (by omega) m.toNat 45 (by rw [←h];simp);exact absurd this.1 (by decide)
 ·rw [if_neg h1] at h;by_cases h2:m<0
  ·rw [if_pos h2] at h;have:=dig_bytes 10 (by omega) (by omega) n.toNat 45 (by rw [h];simp);exact absurd this.1 (by decide)
  ·rw [if_neg h2] at h;have:=dig_inj 10 (by omega) (by omega) h;omega
def NumOk (s:ByteArray):Option Int→Prop
 | some n=>str (decL n)=s∧-9223372036854775808≤n∧n≤9223372036854775807
 | none=>∀ n:Int,-9223372036854775808≤n→n≤9223372036854775807→str (decL n)≠s
def numRes:Option Int→Value
 | some n=>.tuple #[.int .i64 n,.bool true]
 | none=>.tuple #[.int .i64 0,.bool false]
theorem wrap_far (x:Int):∃ q:Int,IntKind.i64.wrap x=x+q*18446744073709551616∧-9223372036854775808≤IntKind.i64.wrap x∧IntKind.i64.wrap x≤9223372036854775807:=by
 rw [IntKind.wrap_i64];refine ⟨-((x+9223372036854775808) / 18446744073709551616),?_,?_,?_⟩ <;> omega
def NInv (l:List UInt8) (n:Int):Prop:=-9223372036854775808≤n∧n≤9223372036854775807∧∃ q:Int,n=-(valD 10 l:Int)+q*18446744073709551616
theorem NInv.nil:NInv [] 0:=⟨by omega,by omega,0,by simp [valD]⟩
theorem NInv.step {l:List UInt8} {n:Int} (h:NInv l n) (c:UInt8) (h0:48≤c.toNat):NInv (l ++ [c]) (IntKind.i64.wrap (IntKind.i64.wrap (n*10) - ((c.toNat:Int) - 48))):=by
 obtain⟨-,-,q,hq⟩:=h;obtain⟨q1,e1,-,-⟩:=wrap_far (n*10);obtain⟨q2,e2,b1,b2⟩:=wrap_far (IntKind.i64.wrap (n*10) - ((c.toNat:Int) - 48));refine ⟨b1,b2,10*q+q1+q2,?_⟩;rw [e2,e1,valD_snoc];omega
theorem NInv.is {l:List UInt8} {n m:Int} (h:NInv l n) (hm:m=-(valD 10 l:Int)) (h0:-9223372036854775808≤m) (h1:m≤9223372036854775807):n=m:=by
 obtain⟨b0,b1,q,hq⟩:=h;omega
theorem decL_len20 (n:Int) (h0:-9223372036854775808≤n) (h1:n≤9223372036854775807):(decL n).length≤20∧0<(decL n).length:=by
 have e:(10:Nat) ^ (18+1)=10000000000000000000:=by decide
 unfold decL
 split
 ·have:=dig_len 10 (by decide) 18 n.natAbs (by rw [e];omega);rw [List.length_cons];omega
 ·have:=dig_len 10 (by decide) 18 n.toNat (by rw [e];omega);have:=dig_pos 10 n.toNat (by omega);omega
theorem none_size {s:ByteArray} (h:s.size<1∨20<s.size):NumOk s none:=fun n h0 h1 e=>by
 have:=decL_len20 n h0 h1;rw [←e,str_size] at h;omega
theorem list_of_str {l:List UInt8} {s:ByteArray} (h:str l=s):s.data.toList=l:=by subst h;simp [str]
theorem none_bad {s:ByteArray} {a i:Nat} (hi:i<s.size) (hai:a≤i) (ha:(∃ h:0<s.size,s[0]=45)→a=1) (hb:s[i].toNat<48∨57<s[i].toNat):NumOk s none:=fun n h0 h1 e=>by
 have hl:=list_of_str e;have hg:s.data.toList[i]? = some s[i]:=by
  rw [Array.getElem?_toList];exact Array.getElem?_eq_getElem hi
 rw [hl] at hg;unfold decL at hl hg;by_cases hn:n<0
 ·rw [if_pos hn] at hl hg;have h45:a=1:=ha ⟨by omega,by
   have:s.data.toList[0]? = some s[0]:=by rw [Array.getElem?_toList];exact Array.getElem?_eq_getElem (by show 0<s.size;omega)
   rw [hl] at this;simpa using this.symm⟩
  obtain⟨j,rfl⟩:∃ j,i=j+1:=⟨i - 1,by omega⟩;rw [List.getElem?_cons_succ] at hg;have:=dig_bytes 10 (by omega) (by omega) n.natAbs _ (List.mem_of_getElem? hg);omega
 ·rw [if_neg hn] at hg;have:=dig_bytes 10 (by omega) (by omega) n.toNat _ (List.mem_of_getElem? hg);omega
theorem head_of {s:ByteArray} {c:UInt8} {l:List UInt8} (h:s.data.toList=c :: l):∃ h:0<s.size,s[0]=c:=by
 have hs:0<s.size:=by have h2:s.size=l.length+1:=(by have:=congrArg List.length h;simpa using this);omega
 refine ⟨hs,?_⟩;have:s.data.toList[0]? = some s[0]:=by rw [Array.getElem?_toList];exact Array.getElem?_eq_getElem hs
 rw [h] at this;simpa using this.symm
theorem none_pos {s:ByteArray} {n:Int} (h45:¬ ∃ h:0<s.size,s[0]=45) (hv:NInv s.data.toList n) (hne:str (decL (IntKind.i64.wrap (0 - n)))≠s):NumOk s none:=fun m h0 h1 e=>by
 have hl:=list_of_str e;unfold decL at hl;by_cases hm:m<0
 ·rw [if_pos hm] at hl;exact h45 (head_of hl)
 ·rw [if_neg hm] at hl;rw [hl] at hv;have hk:=hv.is (m:=-m) (by rw [valD_dig 10 (by omega) (by omega)];omega) (by omega) (by omega);refine hne ?_;rw [show IntKind.i64.wrap (0 - n)=m by rw [IntKind.wrap_i64];omega];exact e
theorem none_neg {s:ByteArray} {n:Int} (h45:∃ h:0<s.size,s[0]=45) (hv:NInv (s.data.toList.drop 1) n) (hne:str (decL n)≠s):NumOk s none:=fun m h0 h1 e=>by
 have hl:=list_of_str e;unfold decL at hl;by_cases hm:m<0
 ·rw [if_pos hm] at hl;rw [hl,List.drop_succ_cons,List.drop_zero] at hv;have hk:=hv.is (m:=m) (by rw [valD_dig 10 (by omega) (by omega)];omega) (by omega) (by omega);rw [hk] at hne;exact hne e
 ·rw [if_neg hm] at hl;obtain⟨hs,h45⟩:=h45;have hg:s.data.toList[0]? = some s[0]:=by rw [Array.getElem?_toList];exact Array.getElem?_eq_getElem hs
  rw [hl,h45] at hg;have:=dig_bytes 10 (by omega) (by omega) m.toNat 45 (List.mem_of_getElem? hg);exact absurd this.1 (by decide)
end
section
open Go.RowKit
structure Turn (T:Nat→Prop) (B:Nat) (p:Obj→Bool) (W W':World):Prop where
 os:W'.os=W.os
 tape:W'.tape=W.tape
 output:W'.output=W.output
 size:W.heap.size≤W'.heap.size
 block:∀ k o,W.heap[k]? = some o→¬ T k→(B≤k→p o=false)→W'.heap[k]? = some o
def AbT {β:Type} (T:Nat→Prop) (B:Nat) (p:Obj→Bool) (J:β→World→Prop):Prop:=∀ s W W',J s W→Turn T B p W W'→J s W'
def KT (T:Nat→Prop) (W W':World):Prop:=W.heap.size≤W'.heap.size∧∀ k,T k→W'.heap[k]? = W.heap[k]?
theorem KT.refl (T:Nat→Prop) (W:World):KT T W W:=⟨Nat.le_refl _,fun _ _=>rfl⟩
theorem KT.trans {T:Nat→Prop} {A B C:World} (h:KT T A B) (k:KT T B C):KT T A C:=⟨Nat.le_trans h.1 k.1,fun i hi=>(k.2 i hi).trans (h.2 i hi)⟩
theorem KT.of_below {T:Nat→Prop} {W W':World} (h:Below W.heap.size W W') (hT:∀ k,T k→k<W.heap.size):KT T W W':=⟨h.size,fun k hk=>h.block k (hT k hk)⟩
theorem KT.of_mod {T S:Nat→Prop} {W W':World} (h:Mod S W W') (hT:∀ k,T k→k<W.heap.size) (hS:∀ k,T k→¬ S k):KT T W W':=⟨h.size,fun k hk=>h.block k (hT k hk) (hS k hk)⟩
theorem KT.put {T:Nat→Prop} (W:World) (l:Nat) (o:Obj) (h:¬ T l):KT T W (W.putObj l o):=⟨by simp,fun k hk=>World.putObj_heap_other (fun e=>h (e ▸ hk))⟩
theorem Turn.put {T:Nat→Prop} {B:Nat} {p:Obj→Bool} {W:World} {l:Nat} {o o':Obj} (hB:B≤l) (hl:W.heap[l]? = some o) (hp:p o=true):Turn T B p W (W.putObj l o'):=
 ⟨rfl,rfl,rfl,by simp,fun k o2 hk _ h2=>(World.putObj_heap_other (fun e=>by subst e;rw [hl] at hk;injection hk with hk;subst hk;rw [hp] at h2;exact absurd (h2 hB) (by decide))).trans hk⟩
theorem Turn.alloc {T:Nat→Prop} {B:Nat} {p:Obj→Bool} (W:World) (o:Obj):Turn T B p W (W.alloc o):=
 ⟨rfl,rfl,rfl,by simp,fun k o2 hk _ _=>(Below.heap_alloc W o k (Array.getElem?_eq_some_iff.1 hk).1).trans hk⟩
def SeqT {α:Type} (T:Nat→Prop) (F:Fence) (n:Nat) (P:Program) (g:Nat) (lb:Array Value) (encs:α→Array Value) (S Sp:List α→Prop) (V:List α→α→Prop) (w:World):Prop:=
 ∀ (l:Nat) (J Jx:List α→World→Prop) (W:World),KT T w W→w.heap.size≤W.heap.size→AbT T W.heap.size Obj.isWalk J→AbT T W.heap.size Obj.isWalk Jx→
  (∀ pre x W1,J pre W1→V pre x→YieldAt F (n - 1) P l (encs x) W1 fun e W'=>
   (e=.returned (.bool true)∧J (pre ++ [x]) W'∧KT T W1 W')∨(e=.returned (.bool false)∧Jx (pre ++ [x]) W'))→
  J [] W→
  CallsIn F n P g (#[.func (.yield l) #[] #[]] ++ lb) W fun e W'=>(∃ v,e=.returned v)∧((∃ xs,S xs∧J xs W')∨(∃ pre,Sp pre∧Jx pre W'))
def notCells (o:Obj):Bool:=!o.isCells
theorem walk_notCells {o:Obj} (h:o.isWalk=true):notCells o=true:=by unfold notCells;rw [Obj.not_cells_of_walk h];rfl
theorem wpIn_rangeT {F:Fence} {n:Nat} {P:Program} {w:World} {α:Type} {T:Nat→Prop} {g:Operand} {ps:Array Tmp} {assign body:Code} {Q:Exit→Act→World→Prop} {a:Act}
  (hro:F.round=none) (h1:1≤n) {gf:Nat} {lb:Array Value} (hg:a.eval g=.func (.func gf) #[] lb) (hFg:F.fn gf) (eg:∀ args w,(callFunc gf args).run P w=.ok (.enter gf args) w)
  {encs:α→Array Value} {S Sp:List α→Prop} {V:List α→α→Prop} {w0:World} (hseq:SeqT T F (n - 1) P gf lb encs S Sp V w0)
  (hT:∀ k,T k→k<w.heap.size) (hb0:KT T w0 w) (hps:∀ x,(encs x).size=ps.size)
  (I:List α→World→Prop) (Ix:Code→List α→World→Prop) (hI:AbT T w.heap.size notCells I) (hIx:∀ c,AbT T w.heap.size notCells (Ix c)) (h0:I [] w) (a₁:α→Act)
  (hassign:∀ (l:Nat) (x:α) (W:World) (K:Act→World→Prop),K (a₁ x) W→
   assign.wpIn (F.inRound l) (n - 1 - 1) P (Exit.then K (fun _ _ _=>False)) {tmps:=(ps.zip (encs x)).foldl (fun t (p,v)=>t.setIfInBounds p v) a.tmps,defers:=[]} W)
  (hbody:∀ (l:Nat) (pre:List α) (x:α) (W:World),w.heap.size≤l→l<W.heap.size→I pre W→V pre x→body.wpIn (F.inRound l) (n - 1 - 1) P (ownPostG w.heap.size (KT T) I Ix (pre ++ [x]) W) (a₁ x) W)
  (hdone:∀ (D:Nat) (xs:List α) (W:World),w.heap.size≤D→S xs→I xs W→W.heap[D]? = some (.deferred (some []))→Q .normal {a with defers:={target:=.collected D,args:=#[]} :: a.defers} W)
  (hstop:∀ (D:Nat) (c:Code) (pre:List α) (W:World),w.heap.size≤D→Sp pre→Ix c pre W→W.heap[D]? = some (.deferred (some []))→c.wpIn F n P Q {a with defers:={target:=.collected D,args:=#[]} :: a.defers} W) :
  (Code.rangeFunc g ps assign body).wpIn F n P Q a w:=by
 refine wpIn_rangeFunc fun fn hfn=>?_;rw [hro];obtain⟨rc,hrc⟩:∃ rc:LoopState→Option Code→Loop,rc=fun st pe=>{state:=st,pending:=pe,fn,tmps:=a.tmps,params:=ps,assign,body,defers:=w.heap.size}:=⟨_,rfl⟩;have hTl:¬ T (w.heap.size+1):=fun h=>by have:=hT _ h;omega
 have hTd:¬ T w.heap.size:=fun h=>by have:=hT _ h;omega
 generalize hW1:(w.alloc (.deferred (some []))).alloc (.loop (rc .ready none))=W1;have hs1:W1.heap.size=w.heap.size+2:=by rw [←hW1];simp
 have hL1:W1.heap[w.heap.size+1]? = some (.loop (rc .ready none)):=by
  have:=World.alloc_heap_new (w.alloc (.deferred (some []))) (.loop (rc .ready none));rw [World.size_alloc] at this;rw [←hW1];exact this
 have hD1:W1.heap[w.heap.size]? = some (.deferred (some [])):=by
  rw [←hW1];exact (Below.heap_alloc _ _ _ (by simp)).trans (World.alloc_heap_new w _)
 have hI1:I [] W1:=by rw [←hW1];exact hI _ _ _ (hI _ _ _ h0 (Turn.alloc _ _)) (Turn.alloc _ _)
 have hK1:KT T w W1:=by rw [←hW1];exact KT.of_below ((((Below.refl _ w).alloc (Nat.le_refl _) _).alloc (by simp) _)) hT
 refine ⟨w.heap.size+1,[{target:=.collected w.heap.size,args:=#[]}],W1,{target:=.fn (.func gf) lb,args:=#[.func (.yield (w.heap.size+1)) #[] #[]]},W1,gf,
  #[.func (.yield (w.heap.size+1)) #[] #[]] ++ lb,W1,?_,?_,?_,?_,fun _=>h1,?_⟩
 ·rw [←hW1,hrc];exact run_enterLoop_outer _ _ _ _ _
 ·simp only [resolve,hg];simp [go_sem]
 ·intro f' hf';simp [Target.leads] at hf';subst hf';exact hFg
 ·simp [invoke,go_sem,eg]
 have turnW:∀ {A B:World},Turn T W1.heap.size Obj.isWalk A B→Turn T w.heap.size notCells A B:=fun h=>
  ⟨h.os,h.tape,h.output,h.size,fun k o hk ht hp=>h.block k o hk ht (fun hB=>by
   cases hw:o.isWalk with
   | false=>rfl
   | true=>have:=hp (by omega);rw [walk_notCells hw] at this;cases this)⟩
 have keepL:∀ {A B:World} {k:Nat} {o:Obj},Turn T W1.heap.size Obj.isWalk A B→A.heap[k]? = some o→¬ T k→o.isWalk=false→B.heap[k]? = some o:=fun h hk ht hw=>h.block _ _ hk ht (fun _=>hw);refine (hseq (w.heap.size+1)
  (fun pre W=>I pre W∧W.heap[w.heap.size+1]? = some (.loop (rc .ready none))∧W.heap[w.heap.size]? = some (.deferred (some [])))
  (fun pre W=>∃ c,Ix c pre W∧W.heap[w.heap.size+1]? = some (.loop (rc .done (some c)))∧W.heap[w.heap.size]? = some (.deferred (some [])))
  W1 (hb0.trans hK1) (Nat.le_trans hb0.1 hK1.1)
  (fun s A B hs ht=>⟨hI s A B hs.1 (turnW ht),keepL ht hs.2.1 hTl rfl,keepL ht hs.2.2 hTd rfl⟩)
  (fun s A B hs ht=>by
   obtain⟨c,hc,hl,hk⟩:=hs;exact⟨c,hIx c s A B hc (turnW ht),keepL ht hl hTl rfl,keepL ht hk hTd rfl⟩)
  ?_ ⟨hI1,hL1,hD1⟩).mono ?_
 ·rintro pre x W ⟨hi,hl,hk⟩ hlen;have hlt:w.heap.size+1<W.heap.size:=(Array.getElem?_eq_some_iff.1 hl).1;have hy:=run_yield (P:=P) (args:=encs x) hl (by rw [hrc];exact hps x);rw [hrc] at hy;refine ⟨fn,_,assign,body,hy,roundIn_of_wpIn hfn (hassign _ x W _ ?_)⟩;clear hy;refine ⟨_,run_beginRound hl (by rw [hrc]),?_⟩;generalize hWb:W.putObj (w.heap.size+1) (.loop {rc .ready none with state:=.busy})=Wb;have hl2:Wb.heap[w.heap.size+1]? = some (.loop {rc .ready none with state:=.busy}):=by rw [←hWb];exact World.putObj_heap_same hlt
  have hk2:Wb.heap[w.heap.size]? = some (.deferred (some [])):=by rw [←hWb];exact (World.putObj_heap_other (by omega)).trans hk
  have hw2:KT T W Wb:=by rw [←hWb];exact KT.put _ _ _ hTl
  have hib:I pre Wb:=by rw [←hWb];exact hI _ _ _ hi (Turn.put (by omega) hl rfl)
  refine wpIn_mono (hbody _ pre x Wb (by omega) (by have:=hw2.1;omega) hib hlen) ?_;have fin:∀ (jump:Option Code) (W3:World),KeepsFrom w.heap.size Wb W3→
    (Instr.endRound (w.heap.size+1) jump).run P W3=.ok (.bool jump.isNone) (W3.putObj (w.heap.size+1) (.loop (rc (if jump.isNone then .ready else .done) jump)))∧
    W3.heap[w.heap.size+1]? = some (.loop {rc .ready none with state:=.busy})∧
    (W3.putObj (w.heap.size+1) (.loop (rc (if jump.isNone then .ready else .done) jump))).heap[w.heap.size+1]? = some (.loop (rc (if jump.isNone then .ready else .done) jump))∧
    (W3.putObj (w.heap.size+1) (.loop (rc (if jump.isNone then .ready else .done) jump))).heap[w.heap.size]? = some (.deferred (some [])):=fun jump W3 hk3=>by
   have hl3:=hk3.same _ _ (by omega) hl2 rfl;have:=run_endRound (P:=P) jump hl3;rw [hrc] at this ⊢;exact⟨this,by rw [hrc] at hl3;exact hl3,World.putObj_heap_same (Array.getElem?_eq_some_iff.1 hl3).1,(World.putObj_heap_other (by omega)).trans (hk3.same _ _ (Nat.le_refl _) hk2 rfl)⟩
  have leave:∀ (c:Code) (W3:World),KeepsFrom w.heap.size Wb W3→Ix c (pre ++ [x]) W3→∃ v W4,(Instr.endRound (w.heap.size+1) (some c)).run P W3=.ok (.bool v) W4∧v=false∧∃ c',Ix c' (pre ++ [x]) W4∧W4.heap[w.heap.size+1]? = some (.loop (rc .done (some c')))∧W4.heap[w.heap.size]? = some (.deferred (some [])):=fun c W3 hk3 hi3=>by
   obtain⟨hr,hl3,hl4,hk4⟩:=fin (some c) W3 hk3;exact⟨_,_,hr,rfl,c,hIx _ _ _ _ hi3 (Turn.put (by omega) hl3 rfl),hl4,hk4⟩
  rintro e a3 W3 hp
  cases e with
  | normal=>
   obtain⟨hk3,hkp3,hi3⟩:=hp;obtain⟨hr,hl3,hl4,hk4⟩:=fin none W3 hk3;exact⟨_,_,hr,.inl ⟨rfl,⟨hI _ _ _ hi3 (Turn.put (by omega) hl3 rfl),hl4,hk4⟩,hw2.trans (hkp3.trans (KT.put _ _ _ hTl))⟩⟩
  | ret=>obtain ⟨v,W4,hr,rfl,h⟩:=leave .ret W3 hp.1 hp.2;exact ⟨_,_,hr,.inr ⟨rfl,h⟩⟩
  | exit id=>obtain ⟨v,W4,hr,rfl,h⟩:=leave (.exit id) W3 hp.1 hp.2;exact ⟨_,_,hr,.inr ⟨rfl,h⟩⟩
  | goto t=>obtain ⟨v,W4,hr,rfl,h⟩:=leave (.goto t) W3 hp.1 hp.2;exact ⟨_,_,hr,.inr ⟨rfl,h⟩⟩
  | panic ch=>exact hp.elim
  | outgrown=>exact hp.elim
 ·rintro e W2 ⟨⟨v,rfl⟩,(⟨xs,hS,hi,hl,hk⟩|⟨pre,hSp,c,hi,hl,hk⟩)⟩
  ·exact ⟨none,_,by have:=run_endLoop (P:=P) hl (by rw [hrc];simp);rw [hrc] at this;exact this,hdone _ xs _ (Nat.le_refl _) hS (hI _ _ _ hi (Turn.put (by omega) hl rfl)) ((World.putObj_heap_other (by omega)).trans hk)⟩
  ·exact ⟨some c,_,by have:=run_endLoop (P:=P) hl (by rw [hrc];simp);rw [hrc] at this;exact this,hstop _ c pre _ (Nat.le_refl _) hSp (hIx c _ _ _ hi (Turn.put (by omega) hl rfl)) ((World.putObj_heap_other (by omega)).trans hk)⟩
end
section
open Go.RowKit
def NoT:Nat→Prop:=fun _=>False
def SeqU {α:Type} (T:Nat→Prop) (F:Fence) (n:Nat) (P:Program) (g:Nat) (lb:Array Value) (encs:α→Array Value) (S Sp:List α→Prop) (V:List α→α→Prop) (w:World):Prop:=
 ∀ (l:Nat) (J Jx:List α→World→Prop) (W:World),KT T w W→w.heap.size≤W.heap.size→AbT NoT W.heap.size Obj.isWalk J→AbT NoT W.heap.size Obj.isWalk Jx→
  (∀ pre x W1,J pre W1→V pre x→YieldAt F (n - 1) P l (encs x) W1 fun e W'=>
   (e=.returned (.bool true)∧J (pre ++ [x]) W'∧KT T W1 W')∨(e=.returned (.bool false)∧Jx (pre ++ [x]) W'))→
  J [] W→
  CallsIn F n P g (#[.func (.yield l) #[] #[]] ++ lb) W fun e W'=>(∃ v,e=.returned v)∧((∃ xs,S xs∧J xs W')∨(∃ pre,Sp pre∧Jx pre W'))
theorem wpIn_rangeU {F:Fence} {n:Nat} {P:Program} {w:World} {α:Type} {T:Nat→Prop} {g:Operand} {ps:Array Tmp} {assign body:Code} {Q:Exit→Act→World→Prop} {a:Act}
  (hro:F.round=none) (h1:1≤n) {gf:Nat} {lb:Array Value} (hg:a.eval g=.func (.func gf) #[] lb) (hFg:F.fn gf) (eg:∀ args w,(callFunc gf args).run P w=.ok (.enter gf args) w)
  {encs:α→Array Value} {S Sp:List α→Prop} {V:List α→α→Prop} {w0:World} (hseq:SeqU T F (n - 1) P gf lb encs S Sp V w0)
  (hT:∀ k,T k→k<w.heap.size) (hb0:KT T w0 w) (hps:∀ x,(encs x).size=ps.size)
  (I:List α→World→Prop) (Ix:Code→List α→World→Prop) (hI:AbT NoT w.heap.size notCells I) (hIx:∀ c,AbT NoT w.heap.size notCells (Ix c)) (h0:I [] w) (a₁:α→Act)
  (hassign:∀ (l:Nat) (x:α) (W:World) (K:Act→World→Prop),K (a₁ x) W→
   assign.wpIn (F.inRound l) (n - 1 - 1) P (Exit.then K (fun _ _ _=>False)) {tmps:=(ps.zip (encs x)).foldl (fun t (p,v)=>t.setIfInBounds p v) a.tmps,defers:=[]} W)
  (hbody:∀ (l:Nat) (pre:List α) (x:α) (W:World),w.heap.size≤l→l<W.heap.size→I pre W→V pre x→body.wpIn (F.inRound l) (n - 1 - 1) P (ownPostG w.heap.size (KT T) I Ix (pre ++ [x]) W) (a₁ x) W)
  (hdone:∀ (D:Nat) (xs:List α) (W:World),w.heap.size≤D→S xs→I xs W→W.heap[D]? = some (.deferred (some []))→Q .normal {a with defers:={target:=.collected D,args:=#[]} :: a.defers} W)
  (hstop:∀ (D:Nat) (c:Code) (pre:List α) (W:World),w.heap.size≤D→Sp pre→Ix c pre W→W.heap[D]? = some (.deferred (some []))→c.wpIn F n P Q {a with defers:={target:=.collected D,args:=#[]} :: a.defers} W) :
  (Code.rangeFunc g ps assign body).wpIn F n P Q a w:=by
 refine wpIn_rangeFunc fun fn hfn=>?_;rw [hro];obtain⟨rc,hrc⟩:∃ rc:LoopState→Option Code→Loop,rc=fun st pe=>{state:=st,pending:=pe,fn,tmps:=a.tmps,params:=ps,assign,body,defers:=w.heap.size}:=⟨_,rfl⟩;have hTl:¬ T (w.heap.size+1):=fun h=>by have:=hT _ h;omega
 have hTd:¬ T w.heap.size:=fun h=>by have:=hT _ h;omega
 generalize hW1:(w.alloc (.deferred (some []))).alloc (.loop (rc .ready none))=W1;have hs1:W1.heap.size=w.heap.size+2:=by rw [←hW1];simp
 have hL1:W1.heap[w.heap.size+1]? = some (.loop (rc .ready none)):=by
  have:=World.alloc_heap_new (w.alloc (.deferred (some []))) (.loop (rc .ready none));rw [World.size_alloc] at this;rw [←hW1];exact this
 have hD1:W1.heap[w.heap.size]? = some (.deferred (some [])):=by
  rw [←hW1];exact (Below.heap_alloc _ _ _ (by simp)).trans (World.alloc_heap_new w _)
 have hI1:I [] W1:=by rw [←hW1];exact hI _ _ _ (hI _ _ _ h0 (Turn.alloc _ _)) (Turn.alloc _ _)
 have hK1:KT T w W1:=by rw [←hW1];exact KT.of_below ((((Below.refl _ w).alloc (Nat.le_refl _) _).alloc (by simp) _)) hT
 refine ⟨w.heap.size+1,[{target:=.collected w.heap.size,args:=#[]}],W1,{target:=.fn (.func gf) lb,args:=#[.func (.yield (w.heap.size+1)) #[] #[]]},W1,gf,
  #[.func (.yield (w.heap.size+1)) #[] #[]] ++ lb,W1,?_,?_,?_,?_,fun _=>h1,?_⟩
 ·rw [←hW1,hrc];exact run_enterLoop_outer _ _ _ _ _
 ·simp only [resolve,hg];simp [go_sem]
 ·intro f' hf';simp [Target.leads] at hf';subst hf';exact hFg
 ·simp [invoke,go_sem,eg]
 have turnW:∀ {A B:World},Turn NoT W1.heap.size Obj.isWalk A B→Turn NoT w.heap.size notCells A B:=fun h=>
  ⟨h.os,h.tape,h.output,h.size,fun k o hk ht hp=>h.block k o hk ht (fun hB=>by
   cases hw:o.isWalk with
   | false=>rfl
   | true=>have:=hp (by omega);rw [walk_notCells hw] at this;cases this)⟩
 have keepL:∀ {A B:World} {k:Nat} {o:Obj},Turn NoT W1.heap.size Obj.isWalk A B→A.heap[k]? = some o→¬ T k→o.isWalk=false→B.heap[k]? = some o:=fun h hk _ hw=>h.block _ _ hk (fun h=>h) (fun _=>hw);refine (hseq (w.heap.size+1)
  (fun pre W=>I pre W∧W.heap[w.heap.size+1]? = some (.loop (rc .ready none))∧W.heap[w.heap.size]? = some (.deferred (some [])))
  (fun pre W=>∃ c,Ix c pre W∧W.heap[w.heap.size+1]? = some (.loop (rc .done (some c)))∧W.heap[w.heap.size]? = some (.deferred (some [])))
  W1 (hb0.trans hK1) (Nat.le_trans hb0.1 hK1.1)
  (fun s A B hs ht=>⟨hI s A B hs.1 (turnW ht),keepL ht hs.2.1 hTl rfl,keepL ht hs.2.2 hTd rfl⟩)
  (fun s A B hs ht=>by
   obtain⟨c,hc,hl,hk⟩:=hs;exact⟨c,hIx c s A B hc (turnW ht),keepL ht hl hTl rfl,keepL ht hk hTd rfl⟩)
  ?_ ⟨hI1,hL1,hD1⟩).mono ?_
 ·rintro pre x W ⟨hi,hl,hk⟩ hlen;have hlt:w.heap.size+1<W.heap.size:=(Array.getElem?_eq_some_iff.1 hl).1;have hy:=run_yield (P:=P) (args:=encs x) hl (by rw [hrc];exact hps x);rw [hrc] at hy;refine ⟨fn,_,assign,body,hy,roundIn_of_wpIn hfn (hassign _ x W _ ?_)⟩;clear hy;refine ⟨_,run_beginRound hl (by rw [hrc]),?_⟩;generalize hWb:W.putObj (w.heap.size+1) (.loop {rc .ready none with state:=.busy})=Wb;have hl2:Wb.heap[w.heap.size+1]? = some (.loop {rc .ready none with state:=.busy}):=by rw [←hWb];exact World.putObj_heap_same hlt
  have hk2:Wb.heap[w.heap.size]? = some (.deferred (some [])):=by rw [←hWb];exact (World.putObj_heap_other (by omega)).trans hk
  have hw2:KT T W Wb:=by rw [←hWb];exact KT.put _ _ _ hTl
  have hib:I pre Wb:=by rw [←hWb];exact hI _ _ _ hi (Turn.put (by omega) hl rfl)
  refine wpIn_mono (hbody _ pre x Wb (by omega) (by have:=hw2.1;omega) hib hlen) ?_;have fin:∀ (jump:Option Code) (W3:World),KeepsFrom w.heap.size Wb W3→
    (Instr.endRound (w.heap.size+1) jump).run P W3=.ok (.bool jump.isNone) (W3.putObj (w.heap.size+1) (.loop (rc (if jump.isNone then .ready else .done) jump)))∧
    W3.heap[w.heap.size+1]? = some (.loop {rc .ready none with state:=.busy})∧
    (W3.putObj (w.heap.size+1) (.loop (rc (if jump.isNone then .ready else .done) jump))).heap[w.heap.size+1]? = some (.loop (rc (if jump.isNone then .ready else .done) jump))∧
    (W3.putObj (w.heap.size+1) (.loop (rc (if jump.isNone then .ready else .done) jump))).heap[w.heap.size]? = some (.deferred (some [])):=fun jump W3 hk3=>by
   have hl3:=hk3.same _ _ (by omega) hl2 rfl;have:=run_endRound (P:=P) jump hl3;rw [hrc] at this ⊢;exact⟨this,by rw [hrc] at hl3;exact hl3,World.putObj_heap_same (Array.getElem?_eq_some_iff.1 hl3).1,(World.putObj_heap_other (by omega)).trans (hk3.same _ _ (Nat.le_refl _) hk2 rfl)⟩
  have leave:∀ (c:Code) (W3:World),KeepsFrom w.heap.size Wb W3→Ix c (pre ++ [x]) W3→∃ v W4,(Instr.endRound (w.heap.size+1) (some c)).run P W3=.ok (.bool v) W4∧v=false∧∃ c',Ix c' (pre ++ [x]) W4∧W4.heap[w.heap.size+1]? = some (.loop (rc .done (some c')))∧W4.heap[w.heap.size]? = some (.deferred (some [])):=fun c W3 hk3 hi3=>by
   obtain⟨hr,hl3,hl4,hk4⟩:=fin (some c) W3 hk3;exact⟨_,_,hr,rfl,c,hIx _ _ _ _ hi3 (Turn.put (by omega) hl3 rfl),hl4,hk4⟩
  rintro e a3 W3 hp
  cases e with
  | normal=>
   obtain⟨hk3,hkp3,hi3⟩:=hp;obtain⟨hr,hl3,hl4,hk4⟩:=fin none W3 hk3;exact⟨_,_,hr,.inl ⟨rfl,⟨hI _ _ _ hi3 (Turn.put (by omega) hl3 rfl),hl4,hk4⟩,hw2.trans (hkp3.trans (KT.put _ _ _ hTl))⟩⟩
  | ret=>obtain ⟨v,W4,hr,rfl,h⟩:=leave .ret W3 hp.1 hp.2;exact ⟨_,_,hr,.inr ⟨rfl,h⟩⟩
  | exit id=>obtain ⟨v,W4,hr,rfl,h⟩:=leave (.exit id) W3 hp.1 hp.2;exact ⟨_,_,hr,.inr ⟨rfl,h⟩⟩
  | goto t=>obtain ⟨v,W4,hr,rfl,h⟩:=leave (.goto t) W3 hp.1 hp.2;exact ⟨_,_,hr,.inr ⟨rfl,h⟩⟩
  | panic ch=>exact hp.elim
  | outgrown=>exact hp.elim
 ·rintro e W2 ⟨⟨v,rfl⟩,(⟨xs,hS,hi,hl,hk⟩|⟨pre,hSp,c,hi,hl,hk⟩)⟩
  ·exact ⟨none,_,by have:=run_endLoop (P:=P) hl (by rw [hrc];simp);rw [hrc] at this;exact this,hdone _ xs _ (Nat.le_refl _) hS (hI _ _ _ hi (Turn.put (by omega) hl rfl)) ((World.putObj_heap_other (by omega)).trans hk)⟩
  ·exact ⟨some c,_,by have:=run_endLoop (P:=P) hl (by rw [hrc];simp);rw [hrc] at this;exact this,hstop _ c pre _ (Nat.le_refl _) hSp (hIx c _ _ _ hi (Turn.put (by omega) hl rfl)) ((World.putObj_heap_other (by omega)).trans hk)⟩
end
section
open Go.RowKit
def SeqB {α:Type} (M:Nat) (F:Fence) (n:Nat) (P:Program) (g:Nat) (lb:Array Value) (encs:α→Array Value) (S Sp:List α→Prop) (V:List α→α→Prop) (w:World):Prop:=
 ∀ (l:Nat) (J Jx:List α→World→Prop) (W:World),Below M w W→w.heap.size≤W.heap.size→AbT NoT W.heap.size Obj.isWalk J→AbT NoT W.heap.size Obj.isWalk Jx→
  (∀ pre x W1,J pre W1→V pre x→YieldAt F (n - 1) P l (encs x) W1 fun e W'=>
   (e=.returned (.bool true)∧J (pre ++ [x]) W'∧Below M W1 W')∨(e=.returned (.bool false)∧Jx (pre ++ [x]) W'))→
  J [] W→
  CallsIn F n P g (#[.func (.yield l) #[] #[]] ++ lb) W fun e W'=>(∃ v,e=.returned v)∧((∃ xs,S xs∧J xs W')∨(∃ pre,Sp pre∧Jx pre W'))
end
end Go.Proofs.YtihdbncoijhihaaGreatDoor
