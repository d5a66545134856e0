import Derived.Deep.CutBlock
import Derived.Deep.DeepCutAuto
import Derived.RegionTactic
import Derived.BigRegion
import Derived.Test.YtihdbncoijhihaaGreatCL40
import Derived.Test.YtihdbncoijhihaaGreatCL6
import Derived.Test.YtihdbncoijhihaaGreatCL21
import Derived.Test.YtihdbncoijhihaaGreatCL35
import Derived.Test.YtihdbncoijhihaaGreatCL33
set_option linter.unusedVariables false
set_option linter.unusedSimpArgs false
set_option maxRecDepth 100000
set_option maxHeartbeats 16000000
namespace Go.Proofs.YtihdbncoijhihaaGreat
section
open Go.RowKit
structure SNr (w':World) (b:Nat) (u:Us) (x:Cn):Prop where
 us:Blk w' b #[.int .i64 u.u,.int .i64 u.g,.string u.data] 27
 cn:Blk w' (b+1) #[.string x.path,.int .i64 x.dir,.int .i64 x.info,.int .i64 x.files,.int .i64 x.out,.int .i64 x.way,.string x.top] 38
theorem SNr.keep {w w':World} {b:Nat} {u:Us} {x:Cn} (h:SNr w b u x) (hb:Below w.heap.size w w'):SNr w' b u x:=⟨h.us.keep hb,h.cn.keep hb⟩
theorem SNr.ry {w w':World} {B pf b:Nat} {R:Rf} {Y:Sy} {u:Us} {x:Cn} (h:SNr w b u x) (hy:RyAt w B pf R Y) {F':Nat→Prop} (hs:Stp (R.F pf) F' w w'):SNr w' b u x:=⟨h.us.ry hy hs (by decide),h.cn.ry hy hs (by decide)⟩
theorem rthree_at {w:World} {g:Nat} {x:Cn} (h:Blk w g #[.int .i64 x.files,.int .i64 x.way,.int .i64 x.out] 3):SliceAt w 1 numR (some ⟨g,0,none⟩) 3 3 x.three:=by
 refine ⟨rfl,by decide,by decide,.inr ⟨g,0,rfl,h.lt,fun i hi=>?_⟩⟩;have hi3:i<3:=hi;rcases (by omega:i=0∨i=1∨i=2) with rfl | rfl | rfl
 ·refine ⟨_,rfl,rfl,fun j hj=>?_⟩;obtain rfl:j=0:=by simpa using hj
  exact h.cell 0
 ·refine ⟨_,rfl,rfl,fun j hj=>?_⟩;obtain rfl:j=0:=by simpa using hj
  exact h.cell 1
 ·refine ⟨_,rfl,rfl,fun j hj=>?_⟩;obtain rfl:j=0:=by simpa using hj
  exact h.cell 2
section
variable {w w':World} {B pf:Nat} {R:Rf} {Y:Sy}
theorem rname_any (h:RyAt w B pf R Y) {N:Nat} (hk:SyOk Y N) (hN:N≤80000) (u:Us) (x:Cn) (base text:ByteArray) (hbs:base.size≤9223372036854775807) :
  Calls Tryz.prog 22 #[.pointer (some ⟨pf,0,none⟩),.agg #[.int .i64 u.u,.int .i64 u.g,.string u.data],.agg #[.string x.path,.int .i64 x.dir,.int .i64 x.info,.int .i64 x.files,.int .i64 x.out,.int .i64 x.way,.string x.top],.string base,.string text] w fun e w'=>
   e=.returned (.tuple #[.string (Y.nameF u.c x base text).2.1,.int .i64 (Y.nameF u.c x base text).2.2])∧GoesR w w' B pf R (Y.nameF u.c x base text).1:=by
 obtain⟨hX,hX2,hbX⟩:=boxes2 w #[.int .i64 u.u,.int .i64 u.g,.string u.data] #[.string x.path,.int .i64 x.dir,.int .i64 x.info,.int .i64 x.files,.int .i64 x.out,.int .i64 x.way,.string x.top] 27 38;have HNt:=Lib.hid (fun k (h0:0≤k) (h1:k≤1000) w1=>rnth30_any base k w1 hbs (by omega) (by omega));have HNa:=Lib.hid (fun k (hk:k<1000)=>names_at base hk);have HNe:=Lib.hid (names_end base);have HLe:=Lib.hid (fun k (hk:0≤k) (h1:k≤1000)=>nthS_le base k (by omega));have HCd:=Lib.hid (rcred_any u.u u.g u.data);unfold Sy.nameF;obtain⟨L0,hL0⟩:∃ l,namesL base=l:=⟨_,rfl⟩;rw [hL0] at HNa HNe ⊢;obtain⟨rd,hrd⟩:∃ r,Y.nameL u.c x text L0=r:=⟨_,rfl⟩;rw [hrd];have H0:=Lib.hid (And.intro hrd (And.intro hk h));have HS0:=Lib.hid (Stp.of_below (F:=R.F pf) hbX);have HY0:=Lib.hid (h.keep hbX);have HSn:=Lib.hid (show SNr _ w.heap.size u x from ⟨hX,hX2⟩);clear h hk hL0 hrd hX hX2 hbX;go_enter Tryz.func22,Tryz.ntmps22;go_upto_region 1 with fail;generalize (w.alloc (.cells #[.int .i64 u.u,.int .i64 u.g,.string u.data] 27)).alloc (.cells #[.string x.path,.int .i64 x.dir,.int .i64 x.info,.int .i64 x.files,.int .i64 x.out,.int .i64 x.way,.string x.top] 38)=W0 at HS0 HY0 HSn ⊢;go_wp2_with fail
 go_loopw [12] (fun t12 wr=>∃ (j:Nat) (R1:Rf) (Z:Sy),j≤1000∧t12=.int .i64 (j+1)∧rd=Z.nameL u.c x text (L0.drop j)∧SyOk Z (N+j)∧RyAt wr B pf R1 Z∧Stp (R.F pf) (R1.F pf) w wr∧SNr wr w.heap.size u x) (fun t12 _=>1001 - (intOf t12).toNat)
 case atStart=>exact ⟨0,R,Y,by omega,rfl,H0.out.1.symm,H0.out.2.1,HY0.out,HS0.out,HSn.out⟩
 case round=>
  obtain⟨j,R1,Z,hj,rfl,hfr,hok,hY,hSt,hSn⟩:=hrel;have HB:=Lib.hid (And.intro hY (And.intro hSt hSn));have HOk:=Lib.hid hok;by_cases hlt:j<1000
  ·have HF:=Lib.hid (show rd=if (Z.fs.takenF Z.dead u.c (nthS base ((j:Nat)+1)) x.three).2≠0 then (Z,ByteArray.empty,(Z.fs.takenF Z.dead u.c (nthS base ((j:Nat)+1)) x.three).2) else if (Z.fs.takenF Z.dead u.c (nthS base ((j:Nat)+1)) x.three).1=true then Z.nameL u.c x text (L0.drop (j+1))
     else if (Z.tryF u.c x.info text (nthS base ((j:Nat)+1))).2.2=7 then (Z.tryF u.c x.info text (nthS base ((j:Nat)+1))).1.nameL u.c x text (L0.drop (j+1)) else if (Z.tryF u.c x.info text (nthS base ((j:Nat)+1))).2.2≠0 then ((Z.tryF u.c x.info text (nthS base ((j:Nat)+1))).1,ByteArray.empty,(Z.tryF u.c x.info text (nthS base ((j:Nat)+1))).2.2)
     else ((Z.tryF u.c x.info text (nthS base ((j:Nat)+1))).1,nthS base ((j:Nat)+1),0) by rw [hfr,HNa.out j hlt];rfl)
   have hN1:=HNt.out ((j:Int)+1) (by omega) (by omega);have hle:=HLe.out ((j:Int)+1) (by omega) (by omega);generalize nthS base ((j:Int)+1)=nm at HF hN1 hle;have HT1:=Lib.hid (fun w1 (hb1:Below wr.heap.size wr w1) {a:Option Addr} {m cp:Nat} (hs:SliceAt w1 1 numR a m cp x.three)=>rtaken_any (hY.r.keep hb1) hok.fine.ok hY.dd u.c nm x.three hs);have HC1:=Lib.hid (fun w1 (hb1:Below wr.heap.size wr w1)=>rcreate21_any (hY.keep hb1) hok.fine.ok (by omega) (Nat.le_trans hok.many (by omega)) ⟨hok.c0,by have:=hok.cN;omega⟩ (by have:=hok.pl;omega) u.c x.info (nm ++ nSfx) (by rw [ByteArray.size_append];have:nSfx.size=10:=rfl;omega) 384 text);have HOk2:=Lib.hid (hok.tryF u.c x.info text nm);have hq:Z.op (fun S now=>S.file u.c now x.info (nm ++ nSfx) 384 text)=Z.tryF u.c x.info text nm:=rfl;rw [hq] at HC1;generalize Z.tryF u.c x.info text nm=q at HF HC1 HOk2;generalize Z.fs.takenF Z.dead u.c nm x.three=r at HF HT1;obtain⟨is,e4⟩:=r;obtain⟨Z2,no2,e2⟩:=q;unfold Us.c at HT1 HC1;dsimp only at HF HT1 HC1 HOk2;have HN1:=Lib.hid hN1;have hsz:¬ 9223372036854775807<nm.size+10:=by omega
   clear hfr hok hY hSt hSn hN1 hle hq;go_wp2_with fail;refine (HN1.out _).mono ?_;rintro e w1 ⟨rfl,hb1⟩;have HB1:=Lib.hid hb1;have HS1:=Lib.hid (HB.out.2.2.keep hb1);clear hb1;go_upto_region 5 with fail
   go_cut [14,15] from 18 to 61 (fun t14 t15 wx=>t14=.bool is∧t15=.int .i64 e4∧Below wr.heap.size wr wx)
   case first=>
    refine wp_region_held_drew (S:=fun w'=>SNr w' w.heap.size u x) (by kernel_rfl) (HS1.out.keep (Below.refl _ _).drew) (fun hHeld=>?_);have hbd:Below wr.heap.size wr w1.drew:=HB1.out.drew;refine reg_takes 9 [(0,26),(1,27),(3,29),(4,30),(5,31),(6,32),(7,33),(8,34),(9,35)] (by kernel_rfl) (by kernel_rfl) rfl (fun _ _ _ _ _ h=>h) hHeld ?_
    iterate 9 (apply takes_cons rfl rfl;(· (intro w9 hSw;obtain ⟨uc,-,-⟩:=hSw.us.facts;obtain ⟨xc,-,-⟩:=hSw.cn.facts;clear hSw;go_simp;(try with_reducible rfl)));simp only [List.setIfInBounds_toArray,List.set_cons_zero,List.set_cons_succ])
    refine takes_nil ?_;refine reg_call_make 2 28 10 36 (vi:=.slice (some ⟨w1.drew.heap.size,0,none⟩) 3 3) (Wi:=w1.drew.alloc (.cells #[.int .i64 x.files,.int .i64 x.way,.int .i64 x.out] 3)) (R:=fun v w'=>v=.agg #[.int .i64 u.u,.int .i64 u.g]∧Below w1.drew.heap.size w1.drew w') (by kernel_rfl) rfl rfl rfl rfl rfl rfl ?ra (hHeld.keep (balloc (Below.refl _ _) _)) ?rb ((HCd.out _).mono (fun e w' ⟨he,hb⟩=>⟨_,he,rfl,hb⟩)) (fun v w' ⟨_,hb⟩=>hHeld.keep hb) ?_ ?_
    case ra=>(go_simp;(try rfl))
    case rb=>(go_simp;(try rfl))
    ·simp only [List.setIfInBounds_toArray,List.set_cons_zero,List.set_cons_succ];have hbA:=balloc (Below.refl w1.drew.heap.size w1.drew) (.cells #[.int .i64 x.files,.int .i64 x.way,.int .i64 x.out] 3);have hThA:=Blk.new w1.drew #[.int .i64 x.files,.int .i64 x.way,.int .i64 x.out] 3;have hSA:=hHeld.keep hbA;refine reg_call 2 28 (R:=fun v w'=>v=.agg #[.int .i64 u.u,.int .i64 u.g]∧Below (w1.drew.alloc (.cells #[.int .i64 x.files,.int .i64 x.way,.int .i64 x.out] 3)).heap.size (w1.drew.alloc (.cells #[.int .i64 x.files,.int .i64 x.way,.int .i64 x.out] 3)) w') (by kernel_rfl) rfl rfl rfl ?xa ((HCd.out _).mono (fun e w' ⟨he,hb⟩=>⟨_,he,rfl,hb⟩)) (fun v w' ⟨_,hb⟩=>hSA.keep hb) ?_
     case xa=>(go_simp;(try rfl))
     rintro _ w4 ⟨rfl,hb4⟩;simp only [List.setIfInBounds_toArray,List.set_cons_zero,List.set_cons_succ];have hS4:=hSA.keep hb4;have hsl:=rthree_at (hThA.keep hb4);have hbw:Below wr.heap.size wr w4:=bnext (bnext hbd hbA) hb4;refine reg_call 11 37 (R:=fun v w'=>v=.tuple #[.bool is,.int .i64 e4]∧Below w4.heap.size w4 w') (by kernel_rfl) rfl rfl rfl ?xta ((HT1.out _ hbw hsl).mono (fun e w' ⟨he,hb⟩=>⟨_,he,rfl,hb⟩)) (fun v w' ⟨_,hb⟩=>hS4.keep hb) ?_
     case xta=>(go_simp;(try rfl))
     rintro _ w5 ⟨rfl,hb5⟩;simp only [List.setIfInBounds_toArray,List.set_cons_zero,List.set_cons_succ];have hS5:=hS4.keep hb5;have HB5:=Lib.hid (bnext hbw hb5);refine reg_takes 5 [(12,25),(13,38),(14,39),(15,14),(16,15)] (by kernel_rfl) (by kernel_rfl) rfl (fun _ _ _ _ _ h=>h) hS5 ?_
     iterate 5 (apply takes_cons rfl rfl;(· (intro w9 hSw;clear hSw;go_simp;(try with_reducible rfl)));simp only [List.setIfInBounds_toArray,List.set_cons_zero,List.set_cons_succ])
     refine takes_nil ?_;refine wpAnyH_done (by kernel_rfl) ?_ _;clear hS5 hb5;go_wp2_with fail;go_meet;exact⟨rfl,rfl,HB5.out⟩
    ·rintro _ w3 ⟨rfl,hb3⟩;simp only [List.setIfInBounds_toArray,List.set_cons_zero,List.set_cons_succ];have hS3:=hHeld.keep hb3;have hbB:=balloc (Below.refl w3.heap.size w3) (.cells #[.int .i64 x.files,.int .i64 x.way,.int .i64 x.out] 3);have hS4:=hS3.keep hbB;refine reg_alone 10 36 (v:=.slice (some ⟨w3.heap.size,0,none⟩) 3 3) (W:=w3.alloc (.cells #[.int .i64 x.files,.int .i64 x.way,.int .i64 x.out] 3)) (by kernel_rfl) rfl rfl rfl ?qb hS4 ?_
     case qb=>(go_simp;(try rfl))
     simp only [List.setIfInBounds_toArray,List.set_cons_zero,List.set_cons_succ];have hsl:=rthree_at (Blk.new w3 #[.int .i64 x.files,.int .i64 x.way,.int .i64 x.out] 3);have hbw:Below wr.heap.size wr (w3.alloc (.cells #[.int .i64 x.files,.int .i64 x.way,.int .i64 x.out] 3)):=bnext (bnext hbd hb3) hbB;refine reg_call 11 37 (R:=fun v w'=>v=.tuple #[.bool is,.int .i64 e4]∧Below (w3.alloc (.cells #[.int .i64 x.files,.int .i64 x.way,.int .i64 x.out] 3)).heap.size (w3.alloc (.cells #[.int .i64 x.files,.int .i64 x.way,.int .i64 x.out] 3)) w') (by kernel_rfl) rfl rfl rfl ?xtb ((HT1.out _ hbw hsl).mono (fun e w' ⟨he,hb⟩=>⟨_,he,rfl,hb⟩)) (fun v w' ⟨_,hb⟩=>hS4.keep hb) ?_
     case xtb=>(go_simp;(try rfl))
     rintro _ w5 ⟨rfl,hb5⟩;simp only [List.setIfInBounds_toArray,List.set_cons_zero,List.set_cons_succ];have hS5:=hS4.keep hb5;have HB5:=Lib.hid (bnext hbw hb5);refine reg_takes 5 [(12,25),(13,38),(14,39),(15,14),(16,15)] (by kernel_rfl) (by kernel_rfl) rfl (fun _ _ _ _ _ h=>h) hS5 ?_
     iterate 5 (apply takes_cons rfl rfl;(· (intro w9 hSw;clear hSw;go_simp;(try with_reducible rfl)));simp only [List.setIfInBounds_toArray,List.set_cons_zero,List.set_cons_succ])
     refine takes_nil ?_;refine wpAnyH_done (by kernel_rfl) ?_ _;clear hS5 hb5;go_wp2_with fail;go_meet;exact⟨rfl,rfl,HB5.out⟩
   case rest=>
    obtain⟨rfl,rfl,hb6⟩:=hcut;generalize wc=w6 at hb6 ⊢;have HB6:=Lib.hid hb6;have HS6:=Lib.hid (HB.out.2.2.keep hb6);clear hb6;by_cases h4:e4=0
    ·have h4b:(e4 != 0)=false:=by simpa using h4
     have HF2:=Lib.hid (HF.out.trans (if_neg (by simpa using h4)));subst h4
     cases is with
     | true=>
      have HF3:=Lib.hid (HF2.out.trans (if_pos rfl));go_wp2_with fail;go_roundw
      case measure=>simp [intOf];omega
      case rel=>exact ⟨j+1,R1,Z,by omega,by go_num,HF3.out,HOk.out.mono (by omega),HB.out.1.keep HB6.out,HB.out.2.1.trans (Stp.of_below HB6.out),HS6.out⟩
     | false=>
      have HF3:=Lib.hid (HF2.out.trans (if_neg (by decide)));go_upto_region 9 with fail;refine wp_region_held_drew (S:=fun w'=>SNr w' w.heap.size u x) (by kernel_rfl) (HS6.out.keep (Below.refl _ _).drew) (fun hHeld=>?_);have hbd:Below wr.heap.size wr w6.drew:=HB6.out.drew;refine reg_takes 7 [(0,45),(1,46),(3,48),(4,49),(5,50),(6,51),(7,52)] (by kernel_rfl) (by kernel_rfl) rfl (fun _ _ _ _ _ h=>h) hHeld ?_
      iterate 7 (apply takes_cons rfl rfl;(· (intro w9 hSw;obtain ⟨uc,-,-⟩:=hSw.us.facts;obtain ⟨xc,-,-⟩:=hSw.cn.facts;clear hSw;go_simp;(try with_reducible rfl)));simp only [List.setIfInBounds_toArray,List.set_cons_zero,List.set_cons_succ])
      refine takes_nil ?_;refine reg_call 2 47 (R:=fun v w'=>v=.agg #[.int .i64 u.u,.int .i64 u.g]∧Below w6.drew.heap.size w6.drew w') (by kernel_rfl) rfl rfl rfl ?xc ((HCd.out _).mono (fun e w' ⟨he,hb⟩=>⟨_,he,rfl,hb⟩)) (fun v w' ⟨_,hb⟩=>hHeld.keep hb) ?_
      case xc=>(go_simp;(try rfl))
      rintro _ w7 ⟨rfl,hb7⟩;simp only [List.setIfInBounds_toArray,List.set_cons_zero,List.set_cons_succ];have hS7:=hHeld.keep hb7;have hbw:=bnext hbd hb7;have hY7:=HB.out.1.keep hbw;refine reg_call 8 53 (R:=fun v w'=>v=.tuple #[.int .i64 no2,.int .i64 e2]∧GoesR w7 w' B pf R1 Z2) (by kernel_rfl) rfl rfl rfl ?xd ((HC1.out _ hbw).mono (fun e w' ⟨he,hg⟩=>⟨_,he,rfl,hg⟩)) (fun v w' ⟨_,R',_,hs'⟩=>hS7.ry hY7 hs') ?_
      case xd=>(go_simp;(try rfl))
      rintro _ w8 ⟨rfl,R8,hY8,hS8⟩;simp only [List.setIfInBounds_toArray,List.set_cons_zero,List.set_cons_succ];have hN8:=hS7.ry hY7 hS8;refine reg_takes 5 [(9,44),(10,54),(11,55),(12,16),(13,17)] (by kernel_rfl) (by kernel_rfl) rfl (fun _ _ _ _ _ h=>h) hN8 ?_
      iterate 5 (apply takes_cons rfl rfl;(· (intro w9 hSw;clear hSw;go_simp;(try with_reducible rfl)));simp only [List.setIfInBounds_toArray,List.set_cons_zero,List.set_cons_succ])
      refine takes_nil ?_;refine wpAnyH_done (by kernel_rfl) ?_ _;have HB8:=Lib.hid (And.intro hY8 (And.intro (HB.out.2.1.trans ((Stp.of_below hbw).trans hS8)) hN8));clear hHeld hS7 hb7 hbw hY7 hY8 hS8 hN8 hbd;by_cases h0:e2=0
      ·have h0b:(e2 == 0)=true:=by simpa using h0
       have HF4:=Lib.hid ((HF3.out.trans (if_neg (by omega))).trans (if_neg (by simpa using h0)));clear h0;go_wp2_with fail;go_ret2;rw [HF4.out];exact⟨rfl,R8,HB8.out.1,HB8.out.2.1⟩
      ·have h0b:(e2 == 0)=false:=by simpa using h0
       by_cases h7:e2=7
       ·have h7b:(e2 != 7)=false:=by simpa using h7
        have HF4:=Lib.hid (HF3.out.trans (if_pos h7));clear h0 h7;go_wp2_with fail;go_roundw
        case measure=>simp [intOf];omega
        case rel=>exact ⟨j+1,R8,Z2,by omega,by go_num,HF4.out,HOk2.out.mono (by omega),HB8.out.1,HB8.out.2.1,HB8.out.2.2⟩
       ·have h7b:(e2 != 7)=true:=by simpa using h7
        have HF4:=Lib.hid ((HF3.out.trans (if_neg h7)).trans (if_pos h0));clear h0 h7;go_wp2_with fail;go_ret2;rw [HF4.out];exact⟨rfl,R8,HB8.out.1,HB8.out.2.1⟩
    ·have h4b:(e4 != 0)=true:=by simpa using h4
     have HF2:=Lib.hid (HF.out.trans (if_pos h4));clear h4;go_wp2_with fail;go_ret2;rw [HF2.out];exact⟨rfl,R1,HB.out.1.keep HB6.out,HB.out.2.1.trans (Stp.of_below HB6.out)⟩
  ·obtain rfl:j=1000:=by omega
   have HE:=Lib.hid (show rd=(Z,ByteArray.empty,7) by rw [hfr,HNe.out];rfl);clear hfr hok hY hSt hSn;go_wp2_with fail;go_ret2;rw [HE.out];exact⟨rfl,R1,HB.out.1,HB.out.2.1⟩
end
end
section
open Go.RowKit
theorem RfAt.sy {w w':World} {pf:Nat} {Q:Rf} {S:Fs} (hr:RfAt w pf Q S) {p q:Nat} {R:Rp} {pv:Value} {Y:Sy} (h:SyAt w p q R pv Y) {F':Nat→Prop} (hs:Stp (R.Y p q) F' w w'):RfAt w' pf Q S:=
 hr.mod hs.mod (fun k o hk ho=>by
  rcases hk with rfl | hk
  ·have hb:=h.blk;unfold Blk at hb;rw [hb] at ho;injection ho with ho;subst ho;exact⟨rfl,fun cur e=>by cases e⟩
  ·obtain ⟨o',ho',hd⟩:=h.wd.kind hk;rw [ho] at ho';injection ho' with ho';subst ho';unfold wdKind at hd
   split at hd
   ·rename_i c t f;simp only [Bool.or_eq_true,beq_iff_eq] at hd;rcases hd with (rfl | rfl) | rfl <;> exact ⟨rfl,fun cur e=>by cases e⟩
   ·exact ⟨rfl,fun cur e=>by cases e⟩
   ·cases hd)
end
section
open Go.RowKit
section
variable {w w':World} {p q:Nat} {R:Rp} {pv:Value} {Y:Sy}
theorem SyAt.ry (h:SyAt w p q R pv Y) {pf:Nat} {Q:Rf} {S:Fs} (hr:RfAt w pf Q S) {F':Nat→Prop} (hs:Stp (Q.F pf) F' w w'):SyAt w' p q R pv Y:=by
 have hk:∀ (k:Nat) (o:Obj),Q.F pf k→w.heap[k]? = some o→wdKind o=false∧(∀ cur,o≠.cells cur 146 (0,0))∧∀ cur,o≠.cells cur 242 (0,0):=fun k o hk ho=>by
  obtain⟨o',ho',hd⟩:=hr.kind hk;rw [ho] at ho';injection ho' with ho';subst ho';unfold rfKind at hd
  split at hd
  ·rename_i c t f;simp only [Bool.or_eq_true,beq_iff_eq] at hd;rcases hd with (rfl | rfl) | rfl <;> exact ⟨rfl,(fun cur e=>by cases e),fun cur e=>by cases e⟩
  ·cases hd
 refine ⟨h.blk.rf hr hs rfl,h.wd.mod hs.mod (fun k o h1 h2=>⟨(hk k o h1 h2).1,(hk k o h1 h2).2.1⟩),own_mod h.plan hs.mod (fun k h1 e=>?_)⟩;obtain⟨-,cur,hc⟩:=own_obj1 h.plan e;exact (hk k _ h1 hc).2.2 cur rfl
end
structure TwoAt (W:World) (N0 p q:Nat) (R:Rp) (pv:Value) (pf:Nat) (Q:Rf) (Y Z:Sy):Prop where
 y:SyAt W p q R pv Y
 r:RyAt W N0 pf Q Z
 f:∀ k,R.Y p q k→N0≤k
section
variable {w w':World} {N0 p q:Nat} {R R':Rp} {pv:Value} {pf:Nat} {Q Q':Rf} {Y Y' Z Z':Sy}
theorem TwoAt.keep (h:TwoAt w N0 p q R pv pf Q Y Z) (hb:Below w.heap.size w w'):TwoAt w' N0 p q R pv pf Q Y Z:=⟨h.y.keep hb,h.r.keep hb,h.f⟩
theorem TwoAt.size (h:TwoAt w N0 p q R pv pf Q Y Z):N0≤w.heap.size:=h.r.size
theorem TwoAt.goP (h:TwoAt w N0 p q R pv pf Q Y Z) (hy:SyAt w' p q R' pv Y') (hs:Stp (R.Y p q) (R'.Y p q) w w'):TwoAt w' N0 p q R' pv pf Q Y' Z∧Below N0 w w':=
 ⟨⟨hy,h.r.to (h.r.r.sy h.y hs) (hs.below h.f h.size) h.r.low rfl rfl h.r.now h.r.cnt h.r.dd rfl,hs.above h.f h.size⟩,hs.below h.f h.size⟩
theorem TwoAt.goR (h:TwoAt w N0 p q R pv pf Q Y Z) (hy:RyAt w' N0 pf Q' Z') (hs:Stp (Q.F pf) (Q'.F pf) w w'):TwoAt w' N0 p q R pv pf Q' Y Z'∧Below N0 w w':=
 ⟨⟨h.y.ry h.r.r hs,hy,h.f⟩,hs.below h.r.low h.size⟩
theorem Blk.twoP {b:Nat} {vs:Array Value} {T:TypeId} (hb:Blk w b vs T) (h:TwoAt w N0 p q R pv pf Q Y Z) {F':Nat→Prop} (hs:Stp (R.Y p q) F' w w') (h1:wdKind (.cells #[] T (0,0))=false) (h2:T≠54):Blk w' b vs T:=hb.sy h.y hs h1 h2
theorem Blk.twoR {b:Nat} {vs:Array Value} {T:TypeId} (hb:Blk w b vs T) (h:TwoAt w N0 p q R pv pf Q Y Z) {F':Nat→Prop} (hs:Stp (Q.F pf) F' w w') (h1:rfKind (.cells #[] T (0,0))=false):Blk w' b vs T:=hb.rf h.r.r hs h1
end
end
section
open Go.RowKit Go.Shelf
attribute [local go_sem] Oper.semAt_some
def noQ (cs:List Value) (d:Int):Prop:=cs=[.int .i64 d]
theorem no_cell {w:World} {a:Option Addr} {n c:Nat} {l:List Int} (h:SliceAt w 1 noQ a n c l) (k:Nat) (hk:k<l.length):∃ b off,a=some ⟨b,off,none⟩∧b<w.heap.size∧w.cell? ⟨b,off+k,none⟩=some (.int .i64 l[k]):=by
 obtain⟨hl,hn,-,h0 | ⟨b,off,he,hbl,hel⟩⟩:=h
 ·omega
 ·obtain ⟨cs,e1,e2,e3⟩:=hel k hk;unfold noQ at e2;subst e2;have c0:=e3 0 (by show 0<1;omega);exact⟨b,off,he,hbl,by simpa using c0⟩
theorem Below.turnV {w A B:World} {N:Nat} (h:Below w.heap.size w A) (ht:Turn NoT N offTree A B) (hN:w.heap.size≤N):Below w.heap.size w B:=
 ⟨ht.os.trans h.os,ht.tape.trans h.tape,ht.output.trans h.output,Nat.le_trans h.size ht.size,fun k hk=>by
  have hlt:k<A.heap.size:=Nat.lt_of_lt_of_le hk h.size;have hA:A.heap[k]? = some A.heap[k]:=Array.getElem?_eq_getElem hlt;rw [ht.block k _ hA (fun h=>h) (fun hB=>by omega),←hA];exact h.block k hk⟩
structure FrI (w:World) (pf:Nat) (c:Cr) (a:Option Addr) (n cap:Nat) (W:World):Prop where
 b:Below w.heap.size w W
 f:Blk W w.heap.size #[.pointer (some ⟨pf,0,none⟩)] 33
 c:Blk W (w.heap.size+1) #[.int .i64 c.u,.int .i64 c.g] 67
 d:Blk W (w.heap.size+1+1) #[.slice a n cap] 78
 o:Blk W (w.heap.size+1+1+1) #[.string ByteArray.empty] 9
 e:Blk W (w.heap.size+1+1+1+1) #[.int .i64 0] 39
theorem FrI.keep {w A B:World} {pf:Nat} {c:Cr} {a:Option Addr} {n cap:Nat} (h:FrI w pf c a n cap A) (hb:Below A.heap.size A B):FrI w pf c a n cap B:=
 ⟨bnext h.b hb,h.f.keep hb,h.c.keep hb,h.d.keep hb,h.o.keep hb,h.e.keep hb⟩
theorem FrI.turn {w A B:World} {N pf:Nat} {c:Cr} {a:Option Addr} {n cap:Nat} (h:FrI w pf c a n cap A) (ht:Turn NoT N offTree A B) (hN:w.heap.size≤N):FrI w pf c a n cap B:=
 ⟨Below.turnV h.b ht hN,ht.blkV h.f,ht.blkV h.c,ht.blkV h.d,ht.blkV h.o,ht.blkV h.e⟩
theorem cfree_leave {N:Nat} {a:Act} {W:World} {D p10 p11:Nat} {s:ByteArray} {e:Int} {R:Ending→World→Prop}
  (hK:W.heap[D]? = some (.deferred (some []))) (b1:Blk W p10 #[.string s] 9) (b2:Blk W p11 #[.int .i64 e] 39)
  (h10:a.tmps[8]? = some (.pointer (some ⟨p10,0,none⟩))) (h11:a.tmps[9]? = some (.pointer (some ⟨p11,0,none⟩))) (hd:a.defers=[{target:=.collected D,args:=#[]}])
  (hR:R (.returned (.tuple #[.string s,.int .i64 e])) (W.putObj D (.deferred none))) :
  Exit.noGoto (bodyPostM Fence.wide N Tryz.prog Tryz.f23 R) .ret a W:=by
 obtain⟨tmps,defers⟩:=a;subst hd;have e1:=(b1.put hK rfl (.deferred none)).cell;have e2:=(b2.put hK rfl (.deferred none)).cell;show LeavesInM Fence.wide N Tryz.prog Tryz.f23 _ _ _ _ W;refine ⟨by simp,.inl ⟨_,_,rfl,run_takeDeferred hK,?_⟩⟩;refine ⟨.tuple #[.string s,.int .i64 e],?_,hR⟩;simp at h10 h11;simp [results,Tryz.results23,go_sem,e1,e2,h10,h11]
section
variable {w w':World} {pf pw:Nat} {R:Rp} {pv:Value} {Y:Sy}
theorem cfree_any (h:SyAt w pf pw R pv Y) {N:Nat} (hk:SyOk Y N) (hN:N≤900000) (cr:Cr) (base:ByteArray) (hs:base.size≤9223372036854775807) (a:Option Addr) (m cap:Nat) (ds:List Int) (hz:SliceAt w 1 noQ a m cap ds) :
  Calls Tryz.prog 23 #[.pointer (some ⟨pf,0,none⟩),.agg #[.int .i64 cr.u,.int .i64 cr.g],.string base,.slice a m cap] w fun e w'=>
   e=.returned (.tuple #[.string (Y.fs.freeL Y.dead cr ds (namesL base)).1,.int .i64 (Y.fs.freeL Y.dead cr ds (namesL base)).2])∧Below w.heap.size w w':=by
 obtain⟨b0,b1,b2,b3,b4,b5,hbX⟩:=boxes6 w #[.pointer (some ⟨pf,0,none⟩)] #[.int .i64 cr.u,.int .i64 cr.g] #[.slice a m cap] #[.string ⟨#[]⟩] #[.int .i64 0] #[.string base] 33 67 78 9 39 9;have HLk:=Lib.hid (fun w1 (hb1:Below w.heap.size w w1) d n=>slook_any (h.keep hb1) hk.fine.ok (by omega) cr d n);have HZ:=Lib.hid (fun w1 (hb1:Below w.heap.size w w1)=>hz.keep hb1);have hml:ds.length=m:=hz.1;have hm63:m≤9223372036854775807:=by obtain ⟨-,h2,h3,-⟩:=hz;omega
 have HNa:=Lib.hid (fun w=>names_any base w);obtain⟨S,hS⟩:∃ S,Y.fs=S:=⟨_,rfl⟩;obtain⟨dd,hdd⟩:∃ d,Y.dead=d:=⟨_,rfl⟩;rw [hS,hdd] at HLk ⊢;obtain⟨rd,hrd⟩:∃ r,S.freeL dd cr ds (namesL base)=r:=⟨_,rfl⟩;rw [hrd];have HRd:=Lib.hid hrd;have hbn:=b5;have hI3:FrI w pf cr a m cap _:=⟨hbX,b0,b1,b2,b3,b4⟩;clear h hk hz hS hdd hrd b0 b1 b2 b3 b4 b5 hbX;refine (callsIn_wide (n:=5)).1 ?_;refine callsIn_of_wp_marks Tryz.func23 rfl trivial ?_ rfl;simp only [Tryz.ntmps23,List.size_toArray,List.length_cons,List.length_nil,Nat.reduceAdd,Nat.reduceSub,Array.replicate_succ,Array.replicate_zero,List.push_toArray,List.append_toArray,List.nil_append,List.cons_append];refine wpIn_wide.2 ?_;go_upto_region 1 with fail;go_step3;go_wp2_with fail;go_step3;go_wp2_with fail;refine (HNa.out _).mono ?_;rintro e w3 ⟨rfl,hw3⟩;simp only [World.size_alloc] at hw3 ⊢;rw [hw3] at hbn hI3;clear hw3;have hz3:w.heap.size+1+1+1+1+1<w3.heap.size:=hbn.lt;go_wp2_with fail;refine (wpIn_wide (n:=5)).1 ?_;refine' wpIn_rangeV (T:=fun k=>k=w.heap.size+1+1+1+1+1) rfl (by omega) (gf:=120) (lb:=#[.pointer (some ⟨w.heap.size+1+1+1+1+1,0,none⟩)]) rfl trivial (enters_of Tryz.func120 (by kernel_rfl) rfl)
   (names_stopsV 4 (by omega) _ base hs w3 hbn) (fun k hk=>by rw [hk];exact hz3) (KT.refl _ _) (fun _=>rfl)
   (fun pre W=>rd=S.freeL dd cr ds ((namesL base).drop pre.length)∧FrI w pf cr a m cap W∧Blk W (w.heap.size+1+1+1+1+1) #[.string base] 9)
   (fun c pre W=>c=.ret∧∃ s e,rd=(s,e)∧Below w.heap.size w W∧Blk W (w.heap.size+1+1+1) #[.string s] 9∧Blk W (w.heap.size+1+1+1+1) #[.int .i64 e] 39)
   (fun pre A B h ht=>by obtain ⟨h1,h2,h3⟩:=h;exact ⟨h1,h2.turn ht (by omega),ht.blkV h3⟩)
   (fun c pre A B h ht=>by obtain ⟨h0,s,e,h1,h2,h3,h4⟩:=h;exact ⟨h0,s,e,h1,Below.turnV h2 ht (by omega),ht.blkV h3,ht.blkV h4⟩) ⟨HRd.out.symm,hI3,hbn⟩ _ ?assign ?body ?done ?stop
 case assign=>
  intro L e W K hK;gi_wp2;exact hK
 case body=>
  intro L pre k W hL hLW hI hv;obtain⟨hpre,hk1⟩:=hv;obtain⟨hnm,hI,hBn⟩:=hI;have HBk:=Lib.hid hBn;have hpl:pre.length=k:=by rw [hpre,List.length_range]
  have hnx2:(pre ++ [k]).length=k+1:=by rw [List.length_append,List.length_singleton,hpl]
  rw [hpl,names_at base hk1] at hnm;generalize nthS base ((k:Nat)+1)=n at hnm ⊢;have HNm2:=Lib.hid hnm;have HI:=Lib.hid hI;obtain⟨dc,df,dz⟩:=hI.d.facts;clear hI hnm hpre hpl hBn;gi_wp2
  gi_loopw [20] (fun t20 wr=>∃ j:Nat,j≤m∧t20=.int .i64 j∧S.takenF dd cr n ds=S.takenF dd cr n (ds.drop j)∧Below W.heap.size W wr) (fun t20 _=>m - (intOf t20).toNat)
  case atStart=>exact ⟨0,by omega,rfl,rfl,Below.refl _ _⟩
  case round=>
   obtain⟨j,hj,rfl,htk,hb⟩:=hrel;have hIr:=HI.out.keep hb;have HIr:=Lib.hid hIr;have HB:=Lib.hid hb;have hzr:=HZ.out _ hIr.b;obtain⟨fc,ff,fz⟩:=hIr.f.facts;obtain⟨cc,cf,cz⟩:=hIr.c.facts;obtain⟨oc,of,oz⟩:=hIr.o.facts;obtain⟨ec,ef,ez⟩:=hIr.e.facts;by_cases hlt:j<m
   ·obtain ⟨ab,ao,rfl,habl,hac⟩:=no_cell hzr j (by omega);have HTk0:=Lib.hid (show S.takenF dd cr n ds=S.takenF dd cr n ((ds[j]'(by omega)) :: ds.drop (j+1)) by rw [htk,List.drop_eq_getElem_cons (by omega)]);generalize ds[j]'(by omega)=d at hac HTk0;have HTk:=Lib.hid (show S.takenF dd cr n ds=if (S.lookF dd cr d n).2=0 then (true,0) else if (S.lookF dd cr d n).2≠5 then (false,(S.lookF dd cr d n).2) else S.takenF dd cr n (ds.drop (j+1)) by rw [HTk0.out];rfl);have HLd:=Lib.hid (HLk.out _ hIr.b d n);generalize S.lookF dd cr d n=r at HTk HLd;obtain⟨no,e1⟩:=r;dsimp only at HLd HTk;clear hIr htk hb hzr;gi_wp2;refine ⟨trivial,callsIn_wide.2 (HLd.out.mono ?_)⟩;rintro e w5 ⟨rfl,hb5⟩;have hI5:=HIr.out.keep hb5;have HB5:=Lib.hid (HB.out.trans (hb5.mono HB.out.size));have HI5:=Lib.hid hI5;clear fc ff fz cc cf cz hac oc of oz ec ef ez;obtain⟨oc,of,oz⟩:=hI5.o.facts;obtain⟨ec,ef,ez⟩:=hI5.e.facts;clear hI5 hb5;by_cases h0:e1=0
    ·subst h0;have HT2:=Lib.hid (HTk.out.trans (if_pos rfl));clear oc of oz ec ef ez;gi_wp2;exact⟨KeepsV.of_below HB5.out,KT.of_below HB5.out (fun k hk=>by rw [hk];exact HBk.out.lt),by
      rw [hnx2,HNm2.out,Fs.freeL,if_neg (by rw [HT2.out];decide),if_pos (by rw [HT2.out])],HI5.out,HBk.out.keep HB5.out⟩
    ·by_cases h5:e1=5
     ·subst h5;have HT2:=Lib.hid (HTk.out.trans ((if_neg (by decide)).trans (if_neg (by decide))));gi_wp2;go_roundw
      case measure=>simp [intOf];omega
      case rel=>exact ⟨j+1,by omega,by go_num,HT2.out,HB5.out⟩
     ·have h0b:(e1 == 0)=false:=by simpa using h0
      have h5b:(e1 == 5)=false:=by simpa using h5
      have HT2:=Lib.hid (HTk.out.trans ((if_neg h0).trans (if_pos h5)));gi_wp2;exact⟨(KeepsV.of_below HB5.out).trans ((KeepsV.setCell _ _ _ _).trans (KeepsV.setCell _ _ _ _)),rfl,ByteArray.empty,e1,by
       rw [HNm2.out,Fs.freeL,if_pos (by rw [HT2.out];exact h0),HT2.out],
       (HI5.out.b.setCell (p:=⟨w.heap.size+1+1+1,0,none⟩) (by simp;omega) _).setCell (p:=⟨w.heap.size+1+1+1+1,0,none⟩) (by simp;omega) _,
       (HI5.out.o.set 0 _).setOther _ _ (by simp),(HI5.out.e.setOther _ _ (by simp)).set 0 _⟩
   ·obtain rfl:j=m:=by omega
    have HT3:=Lib.hid (show S.takenF dd cr n ds=(false,0) by rw [htk,List.drop_eq_nil_of_le (by omega)];rfl);clear hIr htk fc ff fz cc cf cz hzr hb;gi_wp2;exact⟨(KeepsV.of_below HB.out).trans ((KeepsV.setCell _ _ _ _).trans (KeepsV.setCell _ _ _ _)),rfl,n,0,by
     rw [HNm2.out,Fs.freeL,if_neg (by rw [HT3.out];decide),if_neg (by rw [HT3.out];decide)],
     (HIr.out.b.setCell (p:=⟨w.heap.size+1+1+1,0,none⟩) (by simp;omega) _).setCell (p:=⟨w.heap.size+1+1+1+1,0,none⟩) (by simp;omega) _,
     (HIr.out.o.set 0 _).setOther _ _ (by simp),(HIr.out.e.setOther _ _ (by simp)).set 0 _⟩
 case done=>
  intro D xs W hD hxs hI hK;subst hxs;obtain⟨hnm,hI,-⟩:=hI;rw [List.length_range,names_end] at hnm;have HE:=Lib.hid (show rd=(ByteArray.empty,7) from hnm);obtain⟨oc,of,oz⟩:=hI.o.facts;obtain⟨ec,ef,ez⟩:=hI.e.facts;have HI:=Lib.hid hI;clear hI hnm;have HK2:=Lib.hid (((KeepsOthers.setCell W ⟨w.heap.size+1+1+1,0,none⟩ (.string ⟨#[]⟩)).trans (KeepsOthers.setCell _ ⟨w.heap.size+1+1+1+1,0,none⟩ (.int .i64 7))).same D _ hK rfl);have HG:=Lib.hid ((HI.out.b.setCell (p:=⟨w.heap.size+1+1+1,0,none⟩) (by simp;omega) (.string ⟨#[]⟩)).setCell (p:=⟨w.heap.size+1+1+1+1,0,none⟩) (by simp;omega) (.int .i64 7));go_wp2_with fail;refine cfree_leave HK2.out ((HI.out.o.set 0 _).setOther _ _ (by simp)) ((HI.out.e.setOther _ _ (by simp)).set 0 _) rfl rfl rfl ⟨by rw [HE.out];rfl,?_⟩;exact Below.turnV HG.out (Turn.put (B:=D) (Nat.le_refl _) HK2.out rfl) (by omega)
 case stop=>
  intro D c pre W hD hSp hIx hK;obtain⟨rfl,s,e,hrd,hg,ho,he⟩:=hIx;gi_wp2;refine cfree_leave hK ho he rfl rfl rfl ⟨by rw [hrd],?_⟩;exact Below.turnV hg (Turn.put (B:=D) (Nat.le_refl _) hK rfl) (by omega)
end
end
end Go.Proofs.YtihdbncoijhihaaGreat
