import Derived.Deep.LoopGhost
import Derived.Test.YtihdbncoijhihaaGreatDoorProg
import Derived.Test.YtihdbncoijhihaaGreatDoorCT1
import Derived.Test.YtihdbncoijhihaaGreatDoorCT2
import Derived.Test.YtihdbncoijhihaaGreatDoorCT36
import Derived.Test.YtihdbncoijhihaaGreatDoorCT32
import Derived.Test.YtihdbncoijhihaaGreatDoorCT16
import Derived.Test.YtihdbncoijhihaaGreatDoorCT22
import Derived.Test.YtihdbncoijhihaaGreatDoorCT15
set_option linter.unusedVariables false
set_option linter.unusedSimpArgs false
namespace Go.Proofs.YtihdbncoijhihaaGreatDoor
open Go.RowKit
theorem toNat_div {m b : Int} (hm : 0≤m) (hb : 0≤b) : (m / b).toNat=m.toNat / b.toNat:=by
 obtain⟨m,rfl⟩:=Int.eq_ofNat_of_zero_le hm
 obtain⟨b,rfl⟩:=Int.eq_ofNat_of_zero_le hb
 rfl
theorem toNat_mod {m b : Int} (hm : 0≤m) (hb : 0≤b) : (m % b).toNat=m.toNat % b.toNat:=by
 obtain⟨m,rfl⟩:=Int.eq_ofNat_of_zero_le hm
 obtain⟨b,rfl⟩:=Int.eq_ofNat_of_zero_le hb
 rfl
theorem u8_mod {b m : Int} (hb0 : 2≤b) (hb1 : b≤10) : 0≤m % b∧m % b≤9:=by
 have:=Int.emod_nonneg m (show b≠0 by omega)
 have:=Int.emod_lt_of_pos m (show 0 < b by omega)
 omega
set_option maxRecDepth 100000 in
set_option maxHeartbeats 400000 in
theorem base_any (n b : Int) (w : World) (hn0 : 0≤n) (hn1 : n≤18446744073709551615) (hb0 : 2≤b) (hb1 : b≤10) :
  Calls Tryz.prog 169 #[.int .u64 n,.int .u64 b] w fun e w'=>e=.returned (.string (str (dig b.toNat n.toNat)))∧Below w.heap.size w w':=by
 have kc:=fun (w : World) (v : Int)=>conv_one (P:=Tryz.prog) Tryz.underlying246 Tryz.underlying5 Tryz.underlying9 w v 5
 go_enter Tryz.func169,Tryz.ntmps169
 go_wp2_with fail
 go_loopg [0,5] n.toNat (fun g t0 t5 wr=>∃ (m : Int) (s : List UInt8) (k : Nat),0≤m∧m≤n∧g=m.toNat∧t0=.int .u64 m∧t5=.string (str s)∧s.length + k=64∧m < 2 ^ k∧dig b.toNat n.toNat=dig b.toNat m.toNat ++ s∧Below w.heap.size w wr)
 case atStart=>exact ⟨n,[],64,hn0,Int.le_refl _,rfl,rfl,rfl,rfl,by omega,by simp,Below.refl _ _⟩
 case round=>
  obtain⟨m,s,k,hm0,hm1,hg,rfl,rfl,hs,hk,hd,hB⟩:=hrel
  have Hg:=Lib.hid hg
  have Hd:=Lib.hid hd
  have Hs:=Lib.hid hs
  have Hk:=Lib.hid hk
  have hsz : (str s).size≤64:=by rw [str_size];omega
  clear hg hd hs hk
  by_cases hlt : b≤m
  ·obtain ⟨r0,r1⟩:=u8_mod (m:=m) hb0 hb1
   have d0 : 0≤m / b:=Int.ediv_nonneg hm0 (by omega)
   have d1 : m / b≤m:=Int.ediv_le_self _ hm0
   have hne : (b == 0)=false:=by simp;omega
   have hsz1 : (str [UInt8.ofNat (48 + m % b).toNat]).size≤1:=by rw [str_size];simp
   have hlo : m / b < m:=Int.ediv_lt_self_of_pos_of_ne_one (by omega) (by omega)
   go_wp2_with fail
   go_roundg (m / b).toNat
   case measure=>rw [Hg.out];omega
   case rel=>
    have hk:=Hk.out
    have hs:=Hs.out
    obtain⟨k',rfl⟩ : ∃ k',k=k' + 1:=by
     cases k with
     | zero=>simp at hk;omega
     | succ k'=>exact ⟨k',rfl⟩
    refine ⟨m / b,UInt8.ofNat (48 + m % b).toNat :: s,k',d0,by omega,rfl,rfl,?_,by simp;omega,?_,?_,balloc hB _⟩
    ·rw [str_append];rfl
    ·have h2 : m / b≤m / 2:=by
      have h3:=Int.ediv_mul_le m (show b≠0 by omega)
      have h4 : m / b * 2≤m / b * b:=Int.mul_le_mul_of_nonneg_left hb0 d0
      omega
     have h5 : (2 : Int) ^ (k' + 1)=2 ^ k' * 2:=Int.pow_succ ..
     omega
    ·rw [Hd.out,dig_step (b:=b.toNat) (n:=m.toNat) (by omega) (by omega),toNat_div hm0 (by omega),List.append_assoc]
     congr 2
     rw [← toNat_mod hm0 (by omega)]
     show _=UInt8.ofNat (48 + m % b).toNat :: s
     rw [show (48 + m % b).toNat=48 + (m % b).toNat by omega]
     rfl
  ·have hsz2 : (str [UInt8.ofNat (48 + m).toNat]).size≤1:=by rw [str_size];simp
   go_wp2_with fail
   go_ret
   refine ⟨?_,balloc hB _⟩
   show Ending.returned (.string (str [UInt8.ofNat (48 + m).toNat] ++ str s))=_
   rw [Hd.out,str_append,dig_small (by omega),show (48 + m).toNat=48 + m.toNat by omega]
set_option maxRecDepth 100000 in
set_option maxHeartbeats 400000 in
theorem rdec_any (n : Int) (w : World) (h0 : -9223372036854775808≤n) (h1 : n≤9223372036854775807) :
  Calls Tryz.prog 104 #[.int .i64 n] w fun e w'=>e=.returned (.string (str (decL n)))∧Below w.heap.size w w':=by
 by_cases hn : n < 0
 ·have Hv:=Lib.hid (show decL n=45 :: dig 10 n.natAbs by unfold decL;rw [if_pos hn])
  have hsz:=dig_len 10 (by decide) 19 n.natAbs (by
   have e : (10 : Nat) ^ (19 + 1)=100000000000000000000:=by decide
   rw [e];omega)
  have hsz' : (str (dig 10 n.natAbs)).size≤20:=by rw [str_size];exact hsz
  clear hsz
  go_enter Tryz.func104,Tryz.ntmps104
  have Hw:=Lib.hid (show IntKind.u64.wrap (-IntKind.u64.wrap n)=-n by rw [IntKind.wrap_u64,IntKind.wrap_u64];omega)
  go_wp2_with fail
  rw [Hw.out]
  refine (base_any (-n) 10 _ (by omega) (by omega) (by decide) (by decide)).mono ?_
  rw [show dig (10 : Int).toNat (-n).toNat=dig 10 n.natAbs by rw [show (-n).toNat=n.natAbs by omega];rfl]
  rintro e w1 ⟨rfl,hb1⟩
  go_wp2_with fail
  go_ret
  refine ⟨?_,hb1⟩
  rw [Hv.out]
  show Ending.returned (.string (str [45] ++ str _))=_
  rw [str_append]
  rfl
 ·have Hv:=Lib.hid (show decL n=dig 10 n.toNat by unfold decL;rw [if_neg hn])
  go_enter Tryz.func104,Tryz.ntmps104
  go_wp2_with fail
  refine (base_any n 10 _ (by omega) (by omega) (by decide) (by decide)).mono ?_
  rintro e w1 ⟨rfl,hb1⟩
  go_wp2_with fail
  go_ret
  exact⟨by rw [Hv.out];rfl,hb1⟩
end Go.Proofs.YtihdbncoijhihaaGreatDoor
namespace Go.Proofs.YtihdbncoijhihaaGreatDoor
open Go.RowKit
theorem info_u8 : (Tryz.prog.info? 5).map (fun i=>(i.zero,i.size,i.bytes))=some (some (.int .u8 0),1,1):=by kernel_rfl
theorem dig_idx (r : Nat) (h : r < 10) (hb : r < (ByteArray.mk #[48,49,50,51,52,53,54,55,56,57]).size) : ((ByteArray.mk #[48,49,50,51,52,53,54,55,56,57])[r]'hb).toNat=48 + r:=by
 match r,h with
 | 0,_=>rfl
 | 1,_=>rfl
 | 2,_=>rfl
 | 3,_=>rfl
 | 4,_=>rfl
 | 5,_=>rfl
 | 6,_=>rfl
 | 7,_=>rfl
 | 8,_=>rfl
 | 9,_=>rfl
def digZ (b n : Nat) : List UInt8:=if n=0 then [] else dig b n
theorem digZ_step {b n : Nat} (hb : 2≤b) (hn : 0 < n) : digZ b n=digZ b (n / b) ++ [UInt8.ofNat (48 + n % b)]:=by
 unfold digZ
 rw [if_neg (by omega)]
 by_cases h : n < b
 ·rw [dig_small h,if_pos (Nat.div_eq_of_lt h),Nat.mod_eq_of_lt h];rfl
 ·have : 0 < n / b:=Nat.div_pos (by omega) (by omega)
  rw [if_neg (by omega),dig_step hb (by omega)]
set_option maxRecDepth 100000 in
set_option maxHeartbeats 400000 in
theorem digits_any (n b : Int) (w : World) (hn0 : 0≤n) (hn1 : n≤18446744073709551615) (hb0 : 2≤b) (hb1 : b≤10) :
  Calls Tryz.prog 168 #[.int .u64 n,.int .u64 b] w fun e w'=>e=.returned (.string (str (dig b.toNat n.toNat)))∧Below w.heap.size w w':=by
 by_cases hz : n=0
 ·subst hz
  have Hv:=Lib.hid (show dig b.toNat (0 : Int).toNat=[48] by rw [dig_small (by omega)];rfl)
  go_enter Tryz.func168,Tryz.ntmps168
  go_wp2_with fail
  go_ret
  exact⟨by rw [Hv.out];rfl,Below.refl _ _⟩
 ·have hz0 : (n == 0)=false:=by simpa using hz
  obtain⟨i0,hi,hzz,hz1,hz2⟩:=info_parts info_u8
  go_enter Tryz.func168,Tryz.ntmps168
  go_wp2_with fail
  go_loopg [0,5] n.toNat (fun g t0 t5 wr=>∃ (m : Int) (acc : List Int) (k : Nat),0≤m∧m≤n∧g=m.toNat∧t0=.int .u64 m∧wr.ownsRow w.heap.size 5 1 t5 acc.length (acc.map (Value.int .u8))∧
   (∀ x ∈ acc,48≤x∧x≤57)∧acc.length + k=64∧m < 2 ^ k∧digZ b.toNat n.toNat=digZ b.toNat m.toNat ++ (acc.map fun x=>UInt8.ofNat x.toNat).reverse∧Below w.heap.size w wr)
  case atStart=>exact ⟨n,[],64,hn0,Int.le_refl _,rfl,rfl,World.ownsRow_nil _ _ _ _,by simp,rfl,by omega,by simp,Below.refl _ _⟩
  case round=>
   obtain⟨m,acc,k,hm0,hm1,hg,rfl,hown,hac,hs,hk,hd,hB⟩:=hrel
   have Hg:=Lib.hid hg
   have Hd:=Lib.hid hd
   have Hs:=Lib.hid hs
   have Hk:=Lib.hid hk
   have Ha:=Lib.hid hac
   clear hg hd hs hk hac
   by_cases hlt : 0 < m
   ·obtain ⟨r0,r1⟩:=u8_mod (m:=m) hb0 hb1
    have d0 : 0≤m / b:=Int.ediv_nonneg hm0 (by omega)
    have d1 : m / b≤m:=Int.ediv_le_self _ hm0
    have hne : (b == 0)=false:=by simp;omega
    have hidx : ∀ h,(((ByteArray.mk #[48,49,50,51,52,53,54,55,56,57])[(m % b).toNat]'h).toNat : Int)=48 + m % b:=fun h=>by
     rw [dig_idx _ (by omega)];omega
    have hacc : acc.length + 1≤64:=by
     have hk:=Hk.out
     have hs:=Hs.out
     cases k with
     | zero=>simp at hk;omega
     | succ k'=>omega
    have hlo : m / b < m:=Int.ediv_lt_self_of_pos_of_ne_one (by omega) (by omega)
    go_wp2_with (at_builtin;refine wpList_append_own _ rfl _ _ 246 rfl w.heap.size 5 i0 (.int .u8 0) 1 1 Tryz.underlying246 hi hzz hz1 hz2 rfl (by decide) _ _ _ rfl (hown.alloc _) ⟨wr.heap.size,0,none⟩ 1 1 [.int .u8 (48 + m % b)] rfl rfl ?c1 ?c2 ?c3 ?c4 ?c5 ?_)
    case c1=>exact cell_one_new _ _ _
    case c2=>intro u hu;simp at hu;subst hu;rfl
    case c3=>unfold maxLen;omega
    case c4=>omega
    case c5=>have:=hB.size;simp;omega
    intro v' w1 hown' hgrow _
    have hB1 : Below w.heap.size w w1:=(balloc hB _).grown hgrow (by have:=hB.size;simp;omega) (fun k hk=>((hown.alloc (.cells #[.int .u8 (48 + m % b)] 5)).lt k hk).1)
    go_wp2_with fail
    go_roundg (m / b).toNat
    case measure=>rw [Hg.out];omega
    case rel=>
     have hk:=Hk.out
     have hs:=Hs.out
     obtain⟨k',rfl⟩ : ∃ k',k=k' + 1:=by
      cases k with
      | zero=>simp at hk;omega
      | succ k'=>exact ⟨k',rfl⟩
     refine ⟨m / b,acc ++ [48 + m % b],k',d0,by omega,rfl,rfl,by simpa using hown',?_,by simp;omega,?_,?_,hB1⟩
     ·intro x hx
      rcases List.mem_append.1 hx with hx | hx
      ·exact Ha.out x hx
      ·simp at hx;omega
     ·have h2 : m / b≤m / 2:=by
       have h3:=Int.ediv_mul_le m (show b≠0 by omega)
       have h4 : m / b * 2≤m / b * b:=Int.mul_le_mul_of_nonneg_left hb0 d0
       omega
      have h5 : (2 : Int) ^ (k' + 1)=2 ^ k' * 2:=Int.pow_succ ..
      omega
     ·rw [Hd.out,digZ_step (b:=b.toNat) (n:=m.toNat) (by omega) (by omega),toNat_div hm0 (by omega),List.append_assoc]
      congr 1
      rw [← toNat_mod hm0 (by omega),List.map_append,List.reverse_append]
      show _=UInt8.ofNat (48 + m % b).toNat :: _
      rw [show (48 + m % b).toNat=48 + (m % b).toNat by omega]
      rfl
   ·obtain rfl : m=0:=by omega
    have hd0 : dig b.toNat n.toNat=(acc.map fun x=>UInt8.ofNat x.toNat).reverse:=by
     have h:=Hd.out
     unfold digZ at h
     rw [if_neg (by omega)] at h
     simpa using h
    have hne : 0 < acc.length:=by
     have h1:=dig_pos b.toNat n.toNat (by omega)
     rw [hd0] at h1
     simpa using h1
    obtain⟨hl,hf⟩:=hown
    rcases hf with ⟨-,h⟩ | ⟨g,cap,cur,rfl,hg0,hh,hc1,hc2,hc3,hc4⟩
    ·omega
    have hown : wr.ownsRow w.heap.size 5 1 (.slice (some ⟨g,0,none⟩) acc.length cap) acc.length (acc.map (Value.int .u8)):=⟨hl,.inr ⟨g,cap,cur,rfl,hg0,hh,hc1,hc2,hc3,hc4⟩⟩
    have Hd0:=Lib.hid hd0
    have hL : acc.length≤64:=by have:=Hs.out;omega
    clear hl hh hc1 hc3 hc4 hd0 Hd
    go_wp2_with fail
    go_loopg [6,7] (acc.length + 1) (fun gg t6 t7 wr=>∃ (k j : Nat) (cr : List Int),gg + k=acc.length + 1∧j + k + 1=acc.length∧k≤j + 2∧t6=.int .i64 k∧t7=.int .i64 j∧
     wr.ownsRow w.heap.size 5 1 (.slice (some ⟨g,0,none⟩) acc.length cap) acc.length (cr.map (Value.int .u8))∧cr.length=acc.length∧
     (∀ x,x < acc.length→cr.getD x 0=if x < k∨j < x then acc.getD (acc.length - 1 - x) 0 else acc.getD x 0)∧Below w.heap.size w wr)
    case atStart=>exact ⟨0,acc.length - 1,acc,by omega,by omega,by omega,rfl,by go_num,hown,rfl,fun x hx=>by rw [if_neg (by omega)],hB⟩
    case round=>
     obtain⟨k,j,cr,hg1,hkj,hk2,rfl,rfl,hown,hcl,hcr,hB⟩:=hrel
     have Hcr:=Lib.hid hcr
     have Hcl:=Lib.hid hcl
     have Hg1:=Lib.hid hg1
     have Hkj:=Lib.hid hkj
     clear hcr hcl hg1
     by_cases hlt : k < j
     ·have hck : wr.cell? ⟨g,k,none⟩=some (.int .u8 (cr.getD k 0)):=by
       rw [hown.cellAt k (by omega),List.getElem?_map,List.getElem?_eq_getElem (by have:=Hcl.out;omega),List.getD_eq_getElem?_getD,List.getElem?_eq_getElem (by have:=Hcl.out;omega)]
       rfl
      have hcj : wr.cell? ⟨g,j,none⟩=some (.int .u8 (cr.getD j 0)):=by
       rw [hown.cellAt j (by omega),List.getElem?_map,List.getElem?_eq_getElem (by have:=Hcl.out;omega),List.getD_eq_getElem?_getD,List.getElem?_eq_getElem (by have:=Hcl.out;omega)]
       rfl
      have hf:=hown.frozenAt
      have hne : ¬ k=j:=by omega
      have hne' : ¬ j=k:=by omega
      have hkL : (k : Int) < acc.length:=by omega
      have hjL : (j : Int) < acc.length:=by omega
      have hj0 : (0 : Int)≤j:=by omega
      have hk0 : (0 : Int)≤k:=by omega
      have Hown:=Lib.hid hown
      clear hown hkj
      generalize hu : cr.getD k 0=u at hck
      generalize hv : cr.getD j 0=v at hcj
      have Hu:=Lib.hid hu
      have Hv:=Lib.hid hv
      clear hu hv
      go_wp2_with fail
      go_region
      go_wp2_with fail
      go_roundg (gk - 1)
      case measure=>have:=Hg1.out;have:=Hkj.out;omega
      case rel=>
       have hcr:=Hcr.out
       have hcl:=Hcl.out
       have hkj:=Hkj.out
       have s1:=(Hown.out.stored k (.int .u8 v)).1
       have s2:=(s1.stored j (.int .u8 u)).1
       have hg:=hg0
       refine ⟨k + 1,j - 1,(cr.set k v).set j u,by have:=Hg1.out;omega,by omega,by omega,by go_num,by go_num,?_,by simp [hcl],?_,?_⟩
       ·rw [List.map_set,List.map_set];exact s2
       ·intro x hx
        have hx':=hcr x hx
        have hk':=hcr k (by omega)
        have hj':=hcr j (by omega)
        rw [if_neg (by omega),Hu.out] at hk'
        rw [if_neg (by omega),Hv.out] at hj'
        simp only [List.getD_eq_getElem?_getD] at hx' hk' hj' ⊢
        by_cases e1 : x=j
        ·subst e1
         rw [List.getElem?_set_self (by simp;omega),if_pos (by omega),show acc.length - 1 - x=k by omega]
         exact hk'
        ·rw [List.getElem?_set_ne (by omega)]
         by_cases e2 : x=k
         ·subst e2
          rw [List.getElem?_set_self (by omega),if_pos (by omega),show acc.length - 1 - x=j by omega]
          exact hj'
         ·rw [List.getElem?_set_ne (by omega),hx']
          by_cases e3 : x < k∨j < x
          ·rw [if_pos e3,if_pos (by omega)]
          ·rw [if_neg e3,if_neg (by omega)]
       ·exact ((hB.setCell (p:=⟨g,k,none⟩) hg _).setCell (p:=⟨g,j,none⟩) hg _).drew
     ·have hcr : cr=acc.reverse:=by
       have hcl:=Hcl.out
       apply List.ext_getElem (by simp [hcl])
       intro x h1 h2
       have hx:=Hcr.out x (by omega)
       rw [List.getD_eq_getElem?_getD,List.getElem?_eq_getElem h1] at hx
       rw [List.getElem_reverse]
       by_cases e : x < k∨j < x
       ·rw [if_pos e,List.getD_eq_getElem?_getD,List.getElem?_eq_getElem (by omega)] at hx
        exact hx
       ·rw [if_neg e,List.getD_eq_getElem?_getD,List.getElem?_eq_getElem (by omega)] at hx
        have e2 : x=acc.length - 1 - x:=by omega
        simp only [Option.getD_some] at hx
        rw [hx]
        congr 1
      have kc:=conv_bytes (P:=Tryz.prog) Tryz.underlying246 Tryz.underlying5 Tryz.underlying9 wr g 0 cap cr (by
       intro x hx
       have hcl:=Hcl.out
       rw [Nat.zero_add,hown.cellAt x (by omega),List.getElem?_map,List.getElem?_eq_getElem hx]
       rfl)
      rw [Hcl.out] at kc
      have Hcr2:=Lib.hid hcr
      clear hcr
      go_wp2_with fail
      go_ret
      refine ⟨?_,hB⟩
      rw [Hd0.out,Hcr2.out,List.map_reverse]
      rfl
end Go.Proofs.YtihdbncoijhihaaGreatDoor
namespace Go.Proofs.YtihdbncoijhihaaGreatDoor
open Go.RowKit
set_option maxRecDepth 100000 in
set_option maxHeartbeats 400000 in
theorem dec_any (n : Int) (w : World) (h0 : -9223372036854775808≤n) (h1 : n≤9223372036854775807) :
  Calls Tryz.prog 103 #[.int .i64 n] w fun e w'=>e=.returned (.string (str (decL n)))∧Below w.heap.size w w':=by
 by_cases hn : n < 0
 ·have Hv:=Lib.hid (show decL n=45 :: dig 10 n.natAbs by unfold decL;rw [if_pos hn])
  have hsz:=dig_len 10 (by decide) 19 n.natAbs (by
   have e : (10 : Nat) ^ (19 + 1)=100000000000000000000:=by decide
   rw [e];omega)
  have hsz' : (str (dig 10 n.natAbs)).size≤20:=by rw [str_size];exact hsz
  clear hsz
  go_enter Tryz.func103,Tryz.ntmps103
  have Hw:=Lib.hid (show IntKind.u64.wrap (-IntKind.u64.wrap n)=-n by rw [IntKind.wrap_u64,IntKind.wrap_u64];omega)
  go_wp2_with fail
  rw [Hw.out]
  refine (digits_any (-n) 10 _ (by omega) (by omega) (by decide) (by decide)).mono ?_
  rw [show dig (10 : Int).toNat (-n).toNat=dig 10 n.natAbs by rw [show (-n).toNat=n.natAbs by omega];rfl]
  rintro e w1 ⟨rfl,hb1⟩
  go_wp2_with fail
  go_ret
  refine ⟨?_,hb1⟩
  rw [Hv.out]
  show Ending.returned (.string (str [45] ++ str _))=_
  rw [str_append]
  rfl
 ·have Hv:=Lib.hid (show decL n=dig 10 n.toNat by unfold decL;rw [if_neg hn])
  go_enter Tryz.func103,Tryz.ntmps103
  go_wp2_with fail
  refine (digits_any n 10 _ (by omega) (by omega) (by decide) (by decide)).mono ?_
  rintro e w1 ⟨rfl,hb1⟩
  go_wp2_with fail
  go_ret
  exact⟨by rw [Hv.out];rfl,hb1⟩
end Go.Proofs.YtihdbncoijhihaaGreatDoor
namespace Go.Proofs.YtihdbncoijhihaaGreatDoor
open Go.RowKit
def tailL (n : Int) : List UInt8:=if n < 2 then [] else 46 :: decL n
def nthS (base : ByteArray) (n : Int) : ByteArray:=base.extract 0 (min base.size (245 - (tailL n).length)) ++ str (tailL n)
end Go.Proofs.YtihdbncoijhihaaGreatDoor
namespace Go.Proofs.YtihdbncoijhihaaGreatDoor
open Go.RowKit
structure Us where
 u : Int
 g : Int
 data : ByteArray
def Us.c (x : Us) : Cr:=⟨x.u,x.g⟩
def Us.v (x : Us) : Value:=.agg #[.int .i64 x.u,.int .i64 x.g,.string x.data]
structure Plc where
 dir : Int
 name : ByteArray
 top : ByteArray
structure Cn where
 path : ByteArray
 dir : Int
 info : Int
 files : Int
 out : Int
 way : Int
 top : ByteArray
 deriving DecidableEq
def cn0 : Cn:=⟨ByteArray.empty,0,0,0,0,0,ByteArray.empty⟩
def nHome : ByteArray:=ByteArray.mk #[84,114,97,115,104]
def nShared : ByteArray:=ByteArray.mk #[46,84,114,97,115,104]
def nInfo : ByteArray:=ByteArray.mk #[105,110,102,111]
def nFiles : ByteArray:=ByteArray.mk #[102,105,108,101,115]
def nOut : ByteArray:=ByteArray.mk #[101,120,112,117,110,103,101,100]
def nWay : ByteArray:=ByteArray.mk #[109,111,118,105,110,103]
def nDiary : ByteArray:=ByteArray.mk #[114,97,103,112,105,99,107,101,114,46,117,110,100,111]
def Fs.lookF (S : Fs) (d : Bool) (c : Cr) (dir : Int) (n : ByteArray) : Int × Int:=
 if d=true then (0,20) else if S.openE c dir 1 1≠0 then (0,S.openE c dir 1 1)
 else if entFind (S.entsOf dir) n=0 then (0,5) else (S.over (entFind (S.entsOf dir) n),0)
def ownV (c : Cr) (x y : An) (no : Int) : Int × Int:=
 if x.kind≠1 then (0,9) else if x.dev≠y.dev then (0,16) else if x.uid≠c.u then (0,4) else if x.may c 7=false then (0,6) else (no,0)
def Fs.ownF (S : Fs) (d : Bool) (c : Cr) (dir : Int) (n : ByteArray) : Int × Int:=
 if (S.lookF d c dir n).2=5 then (0,0) else if (S.lookF d c dir n).2≠0 then (0,(S.lookF d c dir n).2)
 else ownV c (S.getZ (S.lookF d c dir n).1) (S.getZ dir) (S.lookF d c dir n).1
def Fs.dataF (S : Fs) (d : Bool) (u : Us) : Int × Int:=
 if d=true then (0,20) else if (S.path u.c u.data true).2≠0 then (0,(S.path u.c u.data true).2)
 else if (S.path u.c u.data true).1.no=0 then (0,5) else if (S.getZ (S.path u.c u.data true).1.no).kind≠1 then (0,9) else ((S.path u.c u.data true).1.no,0)
def comV (x y : An) (no : Int) : Int × Int:=
 if x.kind≠1 then (0,9) else if x.dev≠y.dev then (0,16) else if x.mode < 512 then (0,4) else (no,0)
def Fs.commonF (S : Fs) (d : Bool) (c : Cr) (top : Int) : Int × Int:=
 if (S.lookF d c top nShared).2≠0 then (0,(S.lookF d c top nShared).2)
 else comV (S.getZ (S.lookF d c top nShared).1) (S.getZ top) (S.lookF d c top nShared).1
def decB (n : Int) : ByteArray:=str (decL n)
def nSharedU (u : Int) : ByteArray:=ByteArray.mk #[46,84,114,97,115,104,45] ++ decB u
def Fs.placesF (S : Fs) (d : Bool) (u : Us) (top : Int) (path : ByteArray) : List Plc:=
 (if (S.commonF d u.c top).2=0 then [⟨(S.commonF d u.c top).1,decB u.u,path⟩] else []) ++ [⟨top,nSharedU u.u,path⟩]
def thereV (r : Int × Int) : Int × Int:=if r.2=0∧r.1=0 then (0,5) else r
def Fs.openK0 (S : Fs) (dir : Int) (top : ByteArray) (i f o y : Int) : Cn × Int:=match S.place_ dir with
 | none=>(cn0,5)
 | some s=>(⟨s,dir,i,f,o,y,top⟩,0)
def Fs.openK1 (S : Fs) (d : Bool) (c : Cr) (dir : Int) (top : ByteArray) (i f o : Int) : Cn × Int:=
 if (S.ownF d c dir nWay).2≠0 then (cn0,(S.ownF d c dir nWay).2) else S.openK0 dir top i f o (S.ownF d c dir nWay).1
def Fs.openK2 (S : Fs) (d : Bool) (c : Cr) (dir : Int) (top : ByteArray) (i f : Int) : Cn × Int:=
 if (S.ownF d c dir nOut).2≠0 then (cn0,(S.ownF d c dir nOut).2) else S.openK1 d c dir top i f (S.ownF d c dir nOut).1
def Fs.openK3 (S : Fs) (d : Bool) (c : Cr) (dir : Int) (top : ByteArray) (i : Int) : Cn × Int:=
 if (thereV (S.ownF d c dir nFiles)).2≠0 then (cn0,(thereV (S.ownF d c dir nFiles)).2) else S.openK2 d c dir top i (thereV (S.ownF d c dir nFiles)).1
def Fs.openK4 (S : Fs) (d : Bool) (c : Cr) (dir : Int) (top : ByteArray) : Cn × Int:=
 if (thereV (S.ownF d c dir nInfo)).2≠0 then (cn0,(thereV (S.ownF d c dir nInfo)).2) else S.openK3 d c dir top (thereV (S.ownF d c dir nInfo)).1
def Fs.openF (S : Fs) (d : Bool) (u : Us) (p : Plc) : Cn × Int:=
 if (thereV (S.ownF d u.c p.dir p.name)).2≠0 then (cn0,(thereV (S.ownF d u.c p.dir p.name)).2) else S.openK4 d u.c (thereV (S.ownF d u.c p.dir p.name)).1 p.top
theorem thereV_0 {no : Int} (h : no≠0) : thereV (no,0)=(no,0):=by
 unfold thereV
 rw [if_neg (by simpa using h)]
theorem thereV_z : thereV (0,0)=(0,5):=rfl
theorem thereV_e (no : Int) {e : Int} (h : e≠0) : thereV (no,e)=(no,e):=by
 unfold thereV
 rw [if_neg (fun k=>h k.1)]
def putCn (l : List Cn) (x : Cn) : List Cn:=if l.any (fun y=>y.dir == x.dir)=true then l else l ++ [x]
def Fs.addCn (S : Fs) (d : Bool) (u : Us) (l : List Cn) (p : Plc) : List Cn:=if (S.openF d u p).2=0 then putCn l (S.openF d u p).1 else l
def Fs.homeL (S : Fs) (d : Bool) (u : Us) : List Cn:=
 if (S.dataF d u).2=0 then (if (S.openF d u ⟨(S.dataF d u).1,nHome,ByteArray.empty⟩).2=0 then [(S.openF d u ⟨(S.dataF d u).1,nHome,ByteArray.empty⟩).1] else []) else []
def Fs.topCn (S : Fs) (d : Bool) (u : Us) (l : List Cn) (t : Int × ByteArray) : List Cn:=(S.placesF d u t.1 t.2).foldl (S.addCn d u) l
def Fs.allCn (S : Fs) (d : Bool) (u : Us) : List Cn:=S.topsL.foldl (S.topCn d u) (S.homeL d u)
def Fs.keepsF (S : Fs) (d : Bool) (u : Us) (no dir : Int) (n : ByteArray) : Int:=
 if (S.allCn d u).any (fun x=>S.within x.dir no || S.within dir x.dir)=true then 17
 else if (S.dataF d u).2=0∧(S.within (S.dataF d u).1 no=true∨dir=(S.dataF d u).1∧n=nDiary) then 17 else 0
def Fs.homeP (S : Fs) (d : Bool) (u : Us) : List ByteArray:=
 if (S.dataF d u).2=0 then (match S.place_ (S.dataF d u).1 with | some s=>[belowB s nHome] | none=>[]) else []
def pathP (u : Us) (t : Int × ByteArray) : List ByteArray:=[belowB (belowB t.2 nShared) (decB u.u),belowB t.2 (nSharedU u.u)]
def Fs.pathsF (S : Fs) (d : Bool) (u : Us) : List ByteArray:=S.homeP d u ++ S.topsL.flatMap (pathP u)
structure Fine (S : Fs) (N : Nat) : Prop where
 ok : FsOk S N
 pl : Pl S
 tr : Tr S
 wy : Wy S
 nm : Nm S
theorem Fine.mkdir {S : Fs} {N : Nat} (h : Fine S N) (c : Cr) (now dir : Int) (s : ByteArray) (m : Int) : Fine (S.mkdir c now dir s m).1 (N + 1):=
 ⟨mkdir_ok h.ok c now dir s m,h.pl.mkdir h.ok c now dir s m,h.tr.mkdir h.ok c now dir s m,h.wy.mkdir h.ok h.tr c now dir s m,h.nm.mkdir c now dir s m⟩
theorem Fine.file {S : Fs} {N : Nat} (h : Fine S N) (c : Cr) (now dir : Int) (s : ByteArray) (m : Int) (t : ByteArray) : Fine (S.file c now dir s m t).1 (N + 1):=
 ⟨file_ok h.ok c now dir s m t,h.pl.file h.ok c now dir s m t,h.tr.file h.ok c now dir s m t,h.wy.file h.ok h.tr c now dir s m t,h.nm.file c now dir s m t⟩
theorem Fine.mono {S : Fs} {N M : Nat} (h : Fine S N) (hM : N≤M) : Fine S M:=⟨h.ok.mono hM,h.pl,h.tr,h.wy,h.nm⟩
theorem getZ_cases (S : Fs) (k : Int) : (∃ a,S.get k=some a∧S.getZ k=a)∨(S.get k=none∧S.getZ k=an0):=by
 cases hg : S.get k with
 | none=>exact .inr ⟨rfl,getZ_none hg⟩
 | some a=>exact .inl ⟨a,rfl,getZ_some hg⟩
theorem above_there {S : Fs} {N : Nat} (hk : FsOk S N) (hp : Pl S) (hw : Wy S) {k : Int} {a : An} (hg : S.get k=some a) (hd : a.kind=1) : ∃ b,S.get (S.above k)=some b:=by
 unfold Fs.above
 rw [hg]
 dsimp only
 rw [if_neg (by omega)]
 by_cases hr : S.root a.dev=k∧1 < a.dev
 ·rw [if_pos hr]
  have h8:=(hk.get hg).1.dev
  obtain⟨v,hv,hi⟩:=dev_of h8.1 h8.2
  obtain⟨hlt,he⟩:=List.getElem?_eq_some_iff.1 hi
  obtain⟨b,hb,hbk,-⟩:=hp.over _ hlt (by omega)
  rw [he] at hb
  obtain⟨x,hx,-⟩:=hw.ud b (an_mem hb) hbk
  exact⟨x,by rw [hv];dsimp only;rw [hb];exact hx⟩
 ·rw [if_neg hr]
  obtain⟨x,hx,-⟩:=hw.ud a (an_mem hg) hd
  exact⟨x,hx⟩
def Ends (S : Fs) (x : Fd × Int) : Prop:=x.2=0→x.1.no≠0→∃ a,S.get x.1.no=some a
theorem ends_bad (S : Fs) {e : Int} (x : Fd) (h : e≠0) : Ends S (x,e):=fun h'=>absurd h' h
theorem seekL_ends {S : Fs} {N : Nat} (hk : FsOk S N) (hp : Pl S) (hw : Wy S) (c : Cr) (f : Bool) (k : Option (Int→Bool→List (List UInt8)→Fd × Int))
  (hkk : ∀ g,k=some g→∀ at' must l,(∃ a,S.get at'=some a)→Ends S (g at' must l)) :
  ∀ (l : List (List UInt8)) (at' : Int) (must : Bool),(∃ a,S.get at'=some a)→Ends S (S.seekL c f k l at' must)
 | [],at',must,h=>fun _ _=>h
 | p :: l,at',must,h=>by
  rw [Fs.seekL]
  split
  ·rename_i h2
   exact ends_bad S _ h2
  ·rename_i h2
   have h2' : (S.step c at' p).2=0:=by simpa using h2
   split
   ·rename_i hpp
    refine seekL_ends hk hp hw c f k hkk l _ must ?_
    obtain⟨a,ha⟩:=h
    unfold Fs.step at h2' ⊢
    rw [ha] at h2' ⊢
    dsimp only at h2' ⊢
    by_cases hd : a.kind=1
    ·rw [if_neg (by omega)] at h2' ⊢
     by_cases hm : a.may c 1=false
     ·rw [if_pos hm] at h2'
      cases h2'
     ·rw [if_neg hm,if_pos hpp]
      exact above_there hk hp hw ha hd
    ·rw [if_pos hd] at h2'
     cases h2'
   ·split
    ·split
     ·exact fun _ h0=>absurd rfl h0
     ·exact ends_bad S _ (by decide)
    ·rename_i n hn
     split
     ·split
      ·exact ends_bad S _ (by decide)
      ·rename_i g hgk
       split
       ·exact ends_bad S _ (by decide)
       ·refine hkk _ rfl _ _ _ ?_
        split
        ·obtain ⟨a,ha,-⟩:=hp.one
         exact⟨a,ha⟩
        ·exact h
     ·split
      ·exact ends_bad S _ (by decide)
      ·split
       ·exact fun _ _=>⟨n,hn⟩
       ·exact seekL_ends hk hp hw c f k hkk l _ must ⟨n,hn⟩
theorem seekH_ends {S : Fs} {N : Nat} (hk : FsOk S N) (hp : Pl S) (hw : Wy S) (c : Cr) (f : Bool) : ∀ (h : Nat) (at' : Int) (must : Bool) (l : List (List UInt8)),(∃ a,S.get at'=some a)→Ends S (S.seekH c f h at' must l)
 | 0,at',must,l,ha=>seekL_ends hk hp hw c f none (fun _ h=>by cases h) l at' must ha
 | h + 1,at',must,l,ha=>seekL_ends hk hp hw c f _ (fun g hg at2 must2 l2 h2=>by
  injection hg with hg
  subst hg
  exact seekH_ends hk hp hw c f h at2 must2 l2 h2) l at' must ha
theorem path_ends {S : Fs} {N : Nat} (hk : FsOk S N) (hp : Pl S) (hw : Wy S) (c : Cr) (s : ByteArray) (f : Bool) : Ends S (S.path c s f):=by
 unfold Fs.path
 split
 ·rename_i h
  exact ends_bad S _ h
 ·obtain ⟨a,ha,-⟩:=hp.one
  exact seekH_ends hk hp hw c f 8 1 _ _ ⟨a,ha⟩
end Go.Proofs.YtihdbncoijhihaaGreatDoor
