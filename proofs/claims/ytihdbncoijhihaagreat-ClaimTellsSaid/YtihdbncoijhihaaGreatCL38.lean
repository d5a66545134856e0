import Derived.Deep.CutBlock
import Derived.Deep.DeepCutAuto
import Derived.RegionTactic
import Derived.BigRegion
import Derived.Deep.QuietTactic
import Derived.BigQuiet
import Derived.WalkSmall
import Derived.WalkMore
import Derived.Deep.LoopGhost
import Derived.Test.YtihdbncoijhihaaGreatCL37
import Derived.Test.YtihdbncoijhihaaGreatCL30
import Derived.Test.YtihdbncoijhihaaGreatCL16
import Derived.Test.YtihdbncoijhihaaGreatCL29
import Derived.Test.YtihdbncoijhihaaGreatCL9
import Derived.Test.YtihdbncoijhihaaGreatCL5
import Derived.Test.YtihdbncoijhihaaGreatCL25
import Derived.Test.YtihdbncoijhihaaGreatCL8
import Derived.Test.YtihdbncoijhihaaGreatCL4
import Derived.Test.YtihdbncoijhihaaGreatCL3
import Derived.Test.YtihdbncoijhihaaGreatCL15
import Derived.Test.YtihdbncoijhihaaGreatCL7
import Derived.Test.YtihdbncoijhihaaGreatCL27
import Derived.Test.YtihdbncoijhihaaGreatCL33
set_option linter.unusedVariables false
set_option linter.unusedSimpArgs false
set_option maxRecDepth 100000
set_option maxHeartbeats 16000000
namespace Go.Proofs.YtihdbncoijhihaaGreat
section
open Go.RowKit
section
variable {w w':World} {B pf:Nat} {R:Rf} {Y:Sy}
theorem stL_fine (u:Us) (hu0:-9223372036854775808≤u.u) (hu1:u.u≤9223372036854775807) (h:Int×Int) (top:Int) (path:ByteArray) (H0:List Plc) (Z:Sy) (k:Nat) (hL:H0.length≤1) (hn:∀ p∈H0,p.name.size≤100000):(stL u h top path H0 Z k).length≤2∧∀ p∈stL u h top path H0 Z k,p.name.size≤100000:=by
 rcases k with _ | _ | k
 ·exact ⟨Nat.le_trans hL (by omega),hn⟩
 ·exact ⟨(places_len _ _ _ _ _).2,plc_names hu0 hu1⟩
 ·exact ⟨Nat.le_trans (homeP_len h) (by omega),homeP_names h⟩
theorem rchoose_any (h:RyAt w B pf R Y) {N:Nat} (hk:SyOk Y N) (hN:N≤70000) (hd:Y.dead=false) (u:Us) (hu0:-9223372036854775808≤u.u) (hu1:u.u≤9223372036854775807) (ht:u.data.size≤100000) (no:Int) :
  Calls Tryz.prog 21 #[.pointer (some ⟨pf,0,none⟩),.agg #[.int .i64 u.u,.int .i64 u.g,.string u.data],.int .i64 no] w fun e w'=>
   e=.returned (.tuple #[(Y.chooseF u no).2.1.v,.int .i64 (Y.chooseF u no).2.2])∧GoesR w w' B pf R (Y.chooseF u no).1:=by
 obtain⟨hUX,hRX,hbX⟩:=boxes2 w #[.int .i64 u.u,.int .i64 u.g,.string u.data] #[.string ⟨#[]⟩,.int .i64 0,.int .i64 0,.int .i64 0,.int .i64 0,.int .i64 0,.string ⟨#[]⟩] 27 38;have hdd:R.dd=.bool false:=by rw [h.dd,hd]
 have HT:=Lib.hid (fun w1 (hb1:Below w.heap.size w w1)=>rtop_any (h.r.keep hb1) hk.fine.ok hk.fine.pl (hk.len (by omega)) hdd no);have HDa:=Lib.hid (fun w1 (hb1:Below w.heap.size w w1)=>rdata_any (h.r.keep hb1) hk.fine.ok hdd u ht);have HGz:=Lib.hid (fun k=>rgetZ_fix h.r k);have HRo:=Lib.hid (fun w1 (hb1:Below w.heap.size w w1) k=>rroot_any (h.r.keep hb1) k);have HCh:=Lib.hid (fun w1 (hb1:Below w.heap.size w w1) (hu:Blk w1 w.heap.size #[.int .i64 u.u,.int .i64 u.g,.string u.data] 27) (ho:Blk w1 (w.heap.size+1) #[.string ⟨#[]⟩,.int .i64 0,.int .i64 0,.int .i64 0,.int .i64 0,.int .i64 0,.string ⟨#[]⟩] 38)=>show ChR w B pf R u Y w1 from ⟨GoesR.of h hb1,hu,ho⟩);have HK:=Lib.hid hk;have HBw:=Lib.hid h.size;have HR:=Lib.hid (choose_st Y u no);have HHo:=Lib.hid (show Y.homeF u (Y.fs.topF no).1=if (Y.fs.dataF false u).2=0∧Y.fs.root (Y.fs.getZ (Y.fs.dataF false u).1).dev=(Y.fs.topF no).1 then [⟨(Y.fs.dataF false u).1,nHome,ByteArray.empty⟩] else [] by unfold Sy.homeF;rw [hd]);rw [hd] at HR;have HD:=Lib.hid hd;have HF0:=Lib.hid (show (Y.homeF u (Y.fs.topF no).1).length≤1∧∀ p∈Y.homeF u (Y.fs.topF no).1,p.name.size≤100000 from ⟨home_len Y u _,fun p hp=>by
  unfold Sy.homeF at hp
  split at hp
  ·rw [List.mem_singleton] at hp;subst hp;show nHome.size≤_;decide
  ·cases hp⟩)
 generalize Y.chooseF u no=rd at HR ⊢;generalize Y.homeF u (Y.fs.topF no).1=H0 at HR HHo HF0;generalize Y.fs.topF no=tp at HT HR HHo;generalize Y.fs.dataF false u=da at HDa HR HHo;obtain⟨top,path,e1⟩:=tp;obtain⟨data,home⟩:=da;dsimp only at HT HR HHo HDa;clear h hk hd hdd;go_enter Tryz.func21,Tryz.ntmps21;go_upto_region 1 with fail;generalize (w.alloc (.cells #[.int .i64 u.u,.int .i64 u.g,.string u.data] 27)).alloc (.cells #[.string ⟨#[]⟩,.int .i64 0,.int .i64 0,.int .i64 0,.int .i64 0,.int .i64 0,.string ⟨#[]⟩] 38)=W0 at hUX hRX hbX ⊢;have HW0:=Lib.hid (And.intro hUX (And.intro hRX hbX));clear hUX hRX hbX;go_wp2_with fail;refine (HT.out _ HW0.out.2.2).mono ?_;rintro e w1 ⟨rfl,hb1⟩;have HW1:=Lib.hid (And.intro (HW0.out.1.keep hb1) (And.intro (HW0.out.2.1.keep hb1) (bnext HW0.out.2.2 hb1)));clear hb1;by_cases h1:e1=0
 ·have h1b:(e1 != 0)=false:=by simpa using h1
  have HE:=Lib.hid (HR.out.trans (if_neg (by simpa using h1)));subst h1;obtain⟨uc,uf,uz⟩:=HW1.out.1.facts;go_wp2_with fail;refine (HDa.out _ HW1.out.2.2).mono ?_;rintro e w2 ⟨rfl,hb2⟩;have HW2:=Lib.hid (And.intro (HW1.out.1.keep hb2) (And.intro (HW1.out.2.1.keep hb2) (bnext HW1.out.2.2 hb2)));clear hb2 uc uf uz;go_upto_region 6 with fail
  go_cut [46] from 35 to 46 (fun t46 wx=>t46=.bool (decide (home=0∧Y.fs.root (Y.fs.getZ data).dev=top))∧ChR w B pf R u Y wx)
  case first=>
   by_cases hh:home=0
   ·subst hh;obtain⟨ea,el,ec,-,hG⟩:=HGz.out data;have HG:=Lib.hid hG;unfold An.v at HG;obtain⟨z,hz⟩:∃ z,Y.fs.getZ data=z:=⟨_,rfl⟩;rw [hz] at HG;have HZ:=Lib.hid hz;have hfd:∀ w,(Instr.field 49 (.agg #[.int .i64 z.no,.int .i64 z.dev,.int .i64 z.kind,.int .i64 z.mode,.int .i64 z.uid,.int .i64 z.gid,.int .i64 z.mtime,.int .i64 z.ctime,.int .i64 z.links,.int .i64 z.up,.string z.data,.slice ea el ec]) 1).run Tryz.prog w=.ok (.int .i64 z.dev) w:=fun _=>by kernel_rfl
    clear hz;clear hG;go_wp2_with fail;refine (HG.out _ HW2.out.2.2).mono ?_;rintro e w3 ⟨rfl,hb3⟩;have HW3:=Lib.hid (And.intro (HW2.out.1.keep hb3) (And.intro (HW2.out.2.1.keep hb3) (bnext HW2.out.2.2 hb3)));clear hb3;go_wp2_with fail;refine (HRo.out _ HW3.out.2.2 z.dev).mono ?_;rintro e w4 ⟨rfl,rfl⟩;go_wp2_with fail;go_meet;exact⟨by rw [HZ.out];simp;first | rfl | exact Bool.eq_iff_iff.2 (by simp),HCh.out _ HW3.out.2.2 HW3.out.1 HW3.out.2.1⟩
   ·have hhb:(home == 0)=false:=by simpa using hh
    have HH:=Lib.hid hh;clear hh;go_wp2_with fail;go_meet;exact⟨by simp [HH.out],HCh.out _ HW2.out.2.2 HW2.out.1 HW2.out.2.1⟩
  case rest=>
   obtain⟨rfl,hI⟩:=hcut;generalize wc=w3 at hI ⊢;have HI:=Lib.hid hI;have hsz:w.heap.size≤w3.heap.size:=hI.size;obtain⟨b,hb⟩:∃ b,decide (home=0∧Y.fs.root (Y.fs.getZ data).dev=top)=b:=⟨_,rfl⟩;have HH0:=Lib.hid (show H0=if b=true then [⟨data,nHome,ByteArray.empty⟩] else [] by rw [HHo.out,←hb];simp);rw [hb];clear hb hI;go_upto_if 46 with fail
   go_cut [13] from 47 to 52 (fun t13 wx=>OPl 153 wx w.heap.size t13 H0∧ChR w B pf R u Y wx)
   case first=>
    cases b with
    | false=>
     go_wp2_with fail;go_meet;exact⟨by rw [show H0=[] from HH0.out];exact OPl.nil _ _ _,HI.out⟩
    | true=>
     obtain⟨g1,c1,W1,r1,o1,b1⟩:=(OPl.nil 153 w3 w3.heap.size).app (SE:=151) Tryz.underlying151 rplace_info ⟨data,nHome,ByteArray.empty⟩ (by simp) (Nat.le_refl _);have HR1:=Lib.hid r1;have HO:=Lib.hid (And.intro o1 b1);clear r1 o1 b1;go_wp2_with (at_builtin;refine wpList_app_run rfl rfl rfl rfl HR1.out ?_);go_meet;exact⟨by rw [show H0=_ from HH0.out];exact own_low HO.out.1 hsz,HI.out.keep HO.out.2⟩
   case rest=>
    obtain⟨hO,hI2⟩:=hcut;generalize wc=w4 at hO hI2 ⊢;rename_i t13 wc0;have HO:=Lib.hid hO;have HI2:=Lib.hid hI2;clear hO hI2 HI hsz;go_wp2_with fail
    go_loopw [10,13,14] (fun t10 t13 t14 wr=>∃ (k:Nat) (Z:Sy) (ek:Int),k≤3∧t10=.int .i64 ek∧t14=.int .i64 k∧rd=stG u (data,home) top path H0 (3 - k) k Z ek∧SyOk Z (N+10*k)∧Z.dead=false∧ChR w B pf R u Z wr∧(k=0→OPl 153 wr w.heap.size t13 H0)) (fun _ _ t14 _=>3 - (intOf t14).toNat)
    case atStart=>exact ⟨0,Y,0,by omega,rfl,rfl,HE.out,HK.out.mono (by omega),HD.out,HI2.out,fun _=>HO.out⟩
    case round=>
     obtain⟨k,Z,ek,hk,rfl,rfl,hrd,hok,hzd,hI,hO⟩:=hrel;have HIr:=Lib.hid hI;have HOr:=Lib.hid hO;have HRd:=Lib.hid hrd;by_cases hlt:k<3
     ·have HOk:=Lib.hid hok;have HZd:=Lib.hid hzd;have hsz:=hI.size;clear hI hO hrd hok hzd;go_upto_if 57 with fail
      go_cut [13] from 52 to 98 (fun t13' wx=>ChR w B pf R u Z wx∧(k=0→OPl 153 wx w.heap.size t13' H0)∧(k=1→OPl 153 wx w.heap.size t13' (Z.fs.placesF Z.dead u top path)))
      case first=>
       by_cases hk1:k=1
       ·subst hk1;obtain⟨R3,hY3,hS3⟩:=HIr.out.g;have HPl:=Lib.hid (rplaces_any hY3.r HOk.out.fine.ok (by rw [hY3.dd,HZd.out]) u hu0 hu1 top path);obtain⟨uc,uf,uz⟩:=HIr.out.us.facts;clear hY3 hS3;go_wp2_with fail;refine HPl.out.mono ?_;rintro e w5 ⟨v,rfl,hP5,hb5⟩;have HP5:=Lib.hid (own_low hP5 hsz);have HI5:=Lib.hid (HIr.out.keep hb5);clear hP5 hb5 uc uf uz;go_wp2_with fail;go_meet;exact⟨HI5.out,fun h=>absurd h (by decide),fun _=>by rw [HZd.out];exact HP5.out⟩
       ·have hkb:((k:Int) == 1)=false:=by simp;omega
        have HK1:=Lib.hid hk1;clear hk1;go_wp2_with fail;go_meet;exact⟨HIr.out,HOr.out,fun h=>absurd h HK1.out⟩
      case rest=>
       obtain⟨hI2,hA0,hA1⟩:=hcut;generalize wc=w5 at hI2 hA0 hA1 ⊢;have HI5:=Lib.hid hI2;have HA:=Lib.hid (And.intro hA0 hA1);have hsz5:=hI2.size;clear hI2 hA0 hA1 HIr HOr;go_upto_if 64 with fail
       go_cut [13] from 63 to 98 (fun t13' wx=>ChR w B pf R u Z wx∧OPl 153 wx w.heap.size t13' (stL u (data,home) top path H0 Z k))
       case first=>
        by_cases hk2:k=2
        ·subst hk2;by_cases hh:home=0
         ·subst hh;obtain⟨g1,c1,W1,r1,o1,b1⟩:=(OPl.nil 153 w5 w5.heap.size).app (SE:=151) Tryz.underlying151 rplace_info ⟨data,nHome,ByteArray.empty⟩ (by simp) (Nat.le_refl _);have HR1:=Lib.hid r1;have HO1:=Lib.hid (And.intro o1 b1);clear r1 o1 b1;go_wp2_with (at_builtin;refine wpList_app_run rfl rfl rfl rfl HR1.out ?_);go_meet;exact⟨HI5.out.keep HO1.out.2,own_low HO1.out.1 hsz5⟩
         ·have hhb:(home == 0)=false:=by simpa using hh
          have HH:=Lib.hid hh;clear hh;go_wp2_with fail;go_meet;exact⟨HI5.out,by rw [show stL u (data,home) top path H0 Z 2=[] from if_neg HH.out];exact OPl.nil _ _ _⟩
        ·have hkb:((k:Int) == 2)=false:=by simp;omega
         have HK2:=Lib.hid hk2;have HKl:=Lib.hid hlt;clear hk2;go_wp2_with fail;go_meet;refine ⟨HI5.out,?_⟩;have h2:=HK2.out;rcases (by omega:k=0∨k=1) with h0 | h0
         ·have:=HA.out.1 h0;subst h0;exact this
         ·have:=HA.out.2 h0;subst h0;exact this
       case rest=>
        obtain⟨hI6,hL6⟩:=hcut;generalize wc=w6 at hI6 hL6 ⊢;obtain⟨hLl,hLn⟩:=stL_fine u hu0 hu1 (data,home) top path H0 Z k HF0.out.1 HF0.out.2;have hrd:=HRd.out;rw [show 3 - k=(2 - k)+1 by omega,stG_succ] at hrd;generalize stL u (data,home) top path H0 Z k=L at hL6 hLl hLn hrd;obtain⟨qa,qc,rfl,hq1,hq2,-⟩:=own_form hL6;have HRd6:=Lib.hid hrd;have HI6:=Lib.hid hI6;have HL6:=Lib.hid hL6;have HLn:=Lib.hid hLn;clear hI6 hL6 hLn hrd HI5 HA;go_wp2_with fail
        go_loopw [10,15] (fun t10 t15 wr=>∃ (i:Nat) (Zi:Sy) (ei:Int),i≤L.length∧t10=.int .i64 ei∧t15=.int .i64 i∧Z.triesF u L ek=Zi.triesF u (L.drop i) ei∧SyOk Zi (N+10*k+5*i)∧Zi.dead=false∧ChR w B pf R u Zi wr∧OPl 153 wr w.heap.size (.slice qa L.length qc) L) (fun _ t15 _=>L.length - (intOf t15).toNat)
        case atStart=>exact ⟨0,Z,ek,by omega,rfl,rfl,rfl,HOk.out,HZd.out,HI6.out,HL6.out⟩
        case round=>
         obtain⟨i,Zi,ei,hi,rfl,rfl,htr,hok,hzd,hI,hP⟩:=hrel;have HIr:=Lib.hid hI;have HPr:=Lib.hid hP;have HOi:=Lib.hid hok;have HZi:=Lib.hid hzd;by_cases hli:i<L.length
         ·obtain ⟨b,off,he,hbl,hc⟩:=slice_row plC_len hP.at i hli;subst he;have c0:wr.cell? ⟨b,off+i*3,none⟩=some (.int .i64 L[i].dir):=hc 0 (by decide);have c1:wr.cell? ⟨b,off+i*3+1,none⟩=some (.string L[i].name):=hc 1 (by decide);have c2:wr.cell? ⟨b,off+i*3+2,none⟩=some (.string L[i].top):=hc 2 (by decide);have hnm:=HLn.out L[i] (List.getElem_mem hli);have HT1:=Lib.hid (show Z.triesF u L ek=if (Zi.readyF u L[i]).2.2=0∨(Zi.readyF u L[i]).1.dead=true then ((Zi.readyF u L[i]).1,true,(Zi.readyF u L[i]).2.1,(Zi.readyF u L[i]).2.2) else (Zi.readyF u L[i]).1.triesF u (L.drop (i+1)) (Zi.readyF u L[i]).2.2 by rw [htr,List.drop_eq_getElem_cons hli,tries_cons]);have HS20:=Lib.hid (fun w' (hu:Blk w' w.heap.size #[.int .i64 u.u,.int .i64 u.g,.string u.data] 27) (ho:OPl 153 w' w.heap.size (.slice (some ⟨b,off,none⟩) L.length qc) L)=>SRd.of hu ho i hli);generalize L[i]=p at c0 c1 c2 hnm HT1 HS20;have HRy:=Lib.hid (fun wx (hb:Below wr.heap.size wr wx)=>(hI.keep hb).ready hok (by omega) p hnm);have HK5:=Lib.hid (hok.readyF u p);generalize Zi.readyF u p=r at HRy HK5 HT1;obtain⟨Z5,x,e5⟩:=r;unfold Cn.v at HRy;dsimp only at HRy HK5 HT1;obtain⟨uc,uf,uz⟩:=hI.us.facts;clear hc hI hP hok htr hnm hzd;go_upto_region 20 with fail
          go_cut [16,17] from 78 to 98 (fun t16 t17 wx=>∃ b6:Nat,t16=.pointer (some ⟨b6,0,none⟩)∧t17=.int .i64 e5∧Blk wx b6 #[.string x.path,.int .i64 x.dir,.int .i64 x.info,.int .i64 x.files,.int .i64 x.out,.int .i64 x.way,.string x.top] 38∧ChR w B pf R u Z5 wx∧OPl 153 wx w.heap.size (.slice (some ⟨b,off,none⟩) L.length qc) L)
          case first=>
           have hbd:Below wr.heap.size wr wr.drew:=(Below.refl _ _).drew;have hsz6:w.heap.size+1<wr.heap.size:=HIr.out.o.lt;refine wp_region_held_drew (S:=fun w'=>SRd w' w.heap.size b (off+i*3) u p) (by kernel_rfl) (HS20.out _ (HIr.out.keep hbd).us (HPr.out.keep hbd)) (fun hHeld=>?_);refine reg_take 0 79 (v:=?va0) rfl rfl (by kernel_rfl) (by kernel_rfl) (by kernel_rfl) (fun _ _ _ h=>h) rfl ?ya0 hHeld ?_
           case ya0=>(intro w9 hSw;obtain ⟨uc,-,-⟩:=hSw.us.facts;have c0:=hSw.c0;have c1:=hSw.c1;have c2:=hSw.c2;clear hSw;go_simp;(try with_reducible rfl))
           simp only [List.setIfInBounds_toArray,List.set_cons_zero,List.set_cons_succ];refine reg_take 1 80 (v:=?va1) rfl rfl (by kernel_rfl) (by kernel_rfl) (by kernel_rfl) (fun _ _ _ h=>h) rfl ?ya1 hHeld ?_
           case ya1=>(intro w9 hSw;obtain ⟨uc,-,-⟩:=hSw.us.facts;have c0:=hSw.c0;have c1:=hSw.c1;have c2:=hSw.c2;clear hSw;go_simp;(try with_reducible rfl))
           simp only [List.setIfInBounds_toArray,List.set_cons_zero,List.set_cons_succ];refine reg_take 2 81 (v:=?va2) rfl rfl (by kernel_rfl) (by kernel_rfl) (by kernel_rfl) (fun _ _ _ h=>h) rfl ?ya2 hHeld ?_
           case ya2=>(intro w9 hSw;obtain ⟨uc,-,-⟩:=hSw.us.facts;have c0:=hSw.c0;have c1:=hSw.c1;have c2:=hSw.c2;clear hSw;go_simp;(try with_reducible rfl))
           simp only [List.setIfInBounds_toArray,List.set_cons_zero,List.set_cons_succ];refine reg_take 3 82 (v:=?va3) rfl rfl (by kernel_rfl) (by kernel_rfl) (by kernel_rfl) (fun _ _ _ h=>h) rfl ?ya3 hHeld ?_
           case ya3=>(intro w9 hSw;obtain ⟨uc,-,-⟩:=hSw.us.facts;have c0:=hSw.c0;have c1:=hSw.c1;have c2:=hSw.c2;clear hSw;go_simp;(try with_reducible rfl))
           simp only [List.setIfInBounds_toArray,List.set_cons_zero,List.set_cons_succ];refine reg_take 4 83 (v:=?va4) rfl rfl (by kernel_rfl) (by kernel_rfl) (by kernel_rfl) (fun _ _ _ h=>h) rfl ?ya4 hHeld ?_
           case ya4=>(intro w9 hSw;obtain ⟨uc,-,-⟩:=hSw.us.facts;have c0:=hSw.c0;have c1:=hSw.c1;have c2:=hSw.c2;clear hSw;go_simp;(try with_reducible rfl))
           simp only [List.setIfInBounds_toArray,List.set_cons_zero,List.set_cons_succ];refine reg_take 5 84 (v:=?va5) rfl rfl (by kernel_rfl) (by kernel_rfl) (by kernel_rfl) (fun _ _ _ h=>h) rfl ?ya5 hHeld ?_
           case ya5=>(intro w9 hSw;obtain ⟨uc,-,-⟩:=hSw.us.facts;have c0:=hSw.c0;have c1:=hSw.c1;have c2:=hSw.c2;clear hSw;go_simp;(try with_reducible rfl))
           simp only [List.setIfInBounds_toArray,List.set_cons_zero,List.set_cons_succ];refine reg_call_make 6 85 10 16 (vi:=.pointer (some ⟨wr.heap.size,0,none⟩)) (Wi:=(wr.drew.alloc (.cells #[.string ⟨#[]⟩,.int .i64 0,.int .i64 0,.int .i64 0,.int .i64 0,.int .i64 0,.string ⟨#[]⟩] 38))) (R:=(fun v w'=>v=.tuple #[.agg #[.string x.path,.int .i64 x.dir,.int .i64 x.info,.int .i64 x.files,.int .i64 x.out,.int .i64 x.way,.string x.top],.int .i64 e5]∧ChR w B pf R u Z5 w'∧(∀ v l,OPl 153 wr.drew w.heap.size v l→OPl 153 w' w.heap.size v l)∧∀ b vs,Blk wr.drew b vs 38→Blk w' b vs 38)) (by kernel_rfl) rfl rfl rfl rfl rfl rfl ?ra7 (HS20.out _ (HIr.out.keep (balloc hbd _)).us (HPr.out.keep (balloc hbd _))) ?rb7 ((HRy.out _ hbd).mono (fun e w' ⟨he,h⟩=>⟨_,he,rfl,h⟩)) (fun v w' ⟨_,h3,ho,_⟩=>HS20.out _ h3.us (ho _ _ (HPr.out.keep hbd))) ?_ ?_
           case ra7=>(go_simp;(try rfl))
           case rb7=>(go_simp;(try rfl))
           ·simp only [List.setIfInBounds_toArray,List.set_cons_zero,List.set_cons_succ];have hBoxA:Blk (wr.drew.alloc (.cells #[.string ⟨#[]⟩,.int .i64 0,.int .i64 0,.int .i64 0,.int .i64 0,.int .i64 0,.string ⟨#[]⟩] 38)) wr.heap.size #[.string ⟨#[]⟩,.int .i64 0,.int .i64 0,.int .i64 0,.int .i64 0,.int .i64 0,.string ⟨#[]⟩] 38:=Blk.new wr.drew #[.string ⟨#[]⟩,.int .i64 0,.int .i64 0,.int .i64 0,.int .i64 0,.int .i64 0,.string ⟨#[]⟩] 38;have hbA:Below wr.heap.size wr (wr.drew.alloc (.cells #[.string ⟨#[]⟩,.int .i64 0,.int .i64 0,.int .i64 0,.int .i64 0,.int .i64 0,.string ⟨#[]⟩] 38)):=balloc hbd _;refine reg_call 6 85 (R:=(fun v w'=>v=.tuple #[.agg #[.string x.path,.int .i64 x.dir,.int .i64 x.info,.int .i64 x.files,.int .i64 x.out,.int .i64 x.way,.string x.top],.int .i64 e5]∧ChR w B pf R u Z5 w'∧(∀ v l,OPl 153 (wr.drew.alloc (.cells #[.string ⟨#[]⟩,.int .i64 0,.int .i64 0,.int .i64 0,.int .i64 0,.int .i64 0,.string ⟨#[]⟩] 38)) w.heap.size v l→OPl 153 w' w.heap.size v l)∧∀ b vs,Blk (wr.drew.alloc (.cells #[.string ⟨#[]⟩,.int .i64 0,.int .i64 0,.int .i64 0,.int .i64 0,.int .i64 0,.string ⟨#[]⟩] 38)) b vs 38→Blk w' b vs 38)) (by kernel_rfl) rfl rfl rfl ?xc7 ((HRy.out _ hbA).mono (fun e w' ⟨he,h⟩=>⟨_,he,rfl,h⟩)) (fun v w' ⟨_,h3,ho,_⟩=>HS20.out _ h3.us (ho _ _ (HPr.out.keep hbA))) ?_
            case xc7=>(go_simp;(try rfl))
            rintro _ w3 ⟨rfl,h3,ho3,hb3⟩;simp only [List.setIfInBounds_toArray,List.set_cons_zero,List.set_cons_succ];have ho3':=ho3 _ _ (HPr.out.keep hbA);have hBx:=hb3 _ _ hBoxA;have hSA:=HS20.out _ h3.us ho3';have hCA:=h3.fill HBw.out hBx hsz6 (.string x.path) (.int .i64 x.dir) (.int .i64 x.info) (.int .i64 x.files) (.int .i64 x.out) (.int .i64 x.way) (.string x.top);have hOA:=ho3'.fill hBx (.string x.path) (.int .i64 x.dir) (.int .i64 x.info) (.int .i64 x.files) (.int .i64 x.out) (.int .i64 x.way) (.string x.top);have hSA2:=HS20.out _ hCA.us hOA;have HFA:=Lib.hid (And.intro hBx (And.intro hCA hOA));obtain⟨xc,xf,xz⟩:=hBx.facts;clear h3 ho3 hb3 ho3' hBx hCA hOA hBoxA;refine reg_take 7 78 (v:=?vb7) rfl rfl (by kernel_rfl) (by kernel_rfl) (by kernel_rfl) (fun _ _ _ h=>h) rfl ?yb7 hSA ?_
            case yb7=>(intro w9 hSw;obtain ⟨uc,-,-⟩:=hSw.us.facts;have c0:=hSw.c0;have c1:=hSw.c1;have c2:=hSw.c2;clear hSw;go_simp;(try with_reducible rfl))
            simp only [List.setIfInBounds_toArray,List.set_cons_zero,List.set_cons_succ];refine reg_take 8 86 (v:=?vb8) rfl rfl (by kernel_rfl) (by kernel_rfl) (by kernel_rfl) (fun _ _ _ h=>h) rfl ?yb8 hSA ?_
            case yb8=>(intro w9 hSw;obtain ⟨uc,-,-⟩:=hSw.us.facts;have c0:=hSw.c0;have c1:=hSw.c1;have c2:=hSw.c2;clear hSw;go_simp;(try with_reducible rfl))
            simp only [List.setIfInBounds_toArray,List.set_cons_zero,List.set_cons_succ];refine reg_take 9 87 (v:=?vb9) rfl rfl (by kernel_rfl) (by kernel_rfl) (by kernel_rfl) (fun _ _ _ h=>h) rfl ?yb9 hSA ?_
            case yb9=>(intro w9 hSw;obtain ⟨uc,-,-⟩:=hSw.us.facts;have c0:=hSw.c0;have c1:=hSw.c1;have c2:=hSw.c2;clear hSw;go_simp;(try with_reducible rfl))
            simp only [List.setIfInBounds_toArray,List.set_cons_zero,List.set_cons_succ];refine reg_store 11 (W:=(((((((w3.setCell ⟨wr.heap.size,0,none⟩ (.string x.path)).setCell ⟨wr.heap.size,1,none⟩ (.int .i64 x.dir)).setCell ⟨wr.heap.size,2,none⟩ (.int .i64 x.info)).setCell ⟨wr.heap.size,3,none⟩ (.int .i64 x.files)).setCell ⟨wr.heap.size,4,none⟩ (.int .i64 x.out)).setCell ⟨wr.heap.size,5,none⟩ (.int .i64 x.way)).setCell ⟨wr.heap.size,6,none⟩ (.string x.top))) (by kernel_rfl) rfl rfl rfl ?stA hSA2 ?_
            case stA=>(go_simp;(try rfl))
            refine reg_take 12 17 (v:=?vc12) rfl rfl (by kernel_rfl) (by kernel_rfl) (by kernel_rfl) (fun _ _ _ h=>h) rfl ?yc12 hSA2 ?_
            case yc12=>(intro w9 hSw;obtain ⟨uc,-,-⟩:=hSw.us.facts;have c0:=hSw.c0;have c1:=hSw.c1;have c2:=hSw.c2;clear hSw;go_simp;(try with_reducible rfl))
            simp only [List.setIfInBounds_toArray,List.set_cons_zero,List.set_cons_succ];refine wpAnyH_done (by kernel_rfl) ?_ _;go_wp2_with fail;go_meet;exact⟨_,rfl,rfl,HFA.out.1.set7,HFA.out.2.1,HFA.out.2.2⟩
           ·rintro _ w3 ⟨rfl,h3,ho3,hb3⟩;simp only [List.setIfInBounds_toArray,List.set_cons_zero,List.set_cons_succ];have ho3':=ho3 _ _ (HPr.out.keep hbd);have hSB:=HS20.out _ h3.us ho3';have hsz7:w.heap.size+1<w3.heap.size:=h3.o.lt;have hbB:=balloc (Below.refl w3.heap.size w3) (.cells #[.string ⟨#[]⟩,.int .i64 0,.int .i64 0,.int .i64 0,.int .i64 0,.int .i64 0,.string ⟨#[]⟩] 38);have hBx:=Blk.new w3 #[.string ⟨#[]⟩,.int .i64 0,.int .i64 0,.int .i64 0,.int .i64 0,.int .i64 0,.string ⟨#[]⟩] 38;have hSB1:=HS20.out _ (h3.keep hbB).us (ho3'.keep hbB);have hCB:=(h3.keep hbB).fill HBw.out hBx hsz7 (.string x.path) (.int .i64 x.dir) (.int .i64 x.info) (.int .i64 x.files) (.int .i64 x.out) (.int .i64 x.way) (.string x.top);have hOB:=(ho3'.keep hbB).fill hBx (.string x.path) (.int .i64 x.dir) (.int .i64 x.info) (.int .i64 x.files) (.int .i64 x.out) (.int .i64 x.way) (.string x.top);have hSB2:=HS20.out _ hCB.us hOB;have HFB:=Lib.hid (And.intro hBx (And.intro hCB hOB));obtain⟨xc,xf,xz⟩:=hBx.facts;clear h3 ho3 hb3 ho3' hBx hCB hOB hbB;refine reg_take 7 78 (v:=?vd7) rfl rfl (by kernel_rfl) (by kernel_rfl) (by kernel_rfl) (fun _ _ _ h=>h) rfl ?yd7 hSB ?_
            case yd7=>(intro w9 hSw;obtain ⟨uc,-,-⟩:=hSw.us.facts;have c0:=hSw.c0;have c1:=hSw.c1;have c2:=hSw.c2;clear hSw;go_simp;(try with_reducible rfl))
            simp only [List.setIfInBounds_toArray,List.set_cons_zero,List.set_cons_succ];refine reg_take 8 86 (v:=?vd8) rfl rfl (by kernel_rfl) (by kernel_rfl) (by kernel_rfl) (fun _ _ _ h=>h) rfl ?yd8 hSB ?_
            case yd8=>(intro w9 hSw;obtain ⟨uc,-,-⟩:=hSw.us.facts;have c0:=hSw.c0;have c1:=hSw.c1;have c2:=hSw.c2;clear hSw;go_simp;(try with_reducible rfl))
            simp only [List.setIfInBounds_toArray,List.set_cons_zero,List.set_cons_succ];refine reg_take 9 87 (v:=?vd9) rfl rfl (by kernel_rfl) (by kernel_rfl) (by kernel_rfl) (fun _ _ _ h=>h) rfl ?yd9 hSB ?_
            case yd9=>(intro w9 hSw;obtain ⟨uc,-,-⟩:=hSw.us.facts;have c0:=hSw.c0;have c1:=hSw.c1;have c2:=hSw.c2;clear hSw;go_simp;(try with_reducible rfl))
            simp only [List.setIfInBounds_toArray,List.set_cons_zero,List.set_cons_succ];refine reg_alone 10 16 (v:=.pointer (some ⟨w3.heap.size,0,none⟩)) (W:=w3.alloc (.cells #[.string ⟨#[]⟩,.int .i64 0,.int .i64 0,.int .i64 0,.int .i64 0,.int .i64 0,.string ⟨#[]⟩] 38)) (by kernel_rfl) rfl rfl rfl ?qaB hSB1 ?_
            case qaB=>(go_simp;(try rfl))
            simp only [List.setIfInBounds_toArray,List.set_cons_zero,List.set_cons_succ];refine reg_store 11 (W:=((((((((w3.alloc (.cells #[.string ⟨#[]⟩,.int .i64 0,.int .i64 0,.int .i64 0,.int .i64 0,.int .i64 0,.string ⟨#[]⟩] 38)).setCell ⟨w3.heap.size,0,none⟩ (.string x.path)).setCell ⟨w3.heap.size,1,none⟩ (.int .i64 x.dir)).setCell ⟨w3.heap.size,2,none⟩ (.int .i64 x.info)).setCell ⟨w3.heap.size,3,none⟩ (.int .i64 x.files)).setCell ⟨w3.heap.size,4,none⟩ (.int .i64 x.out)).setCell ⟨w3.heap.size,5,none⟩ (.int .i64 x.way)).setCell ⟨w3.heap.size,6,none⟩ (.string x.top))) (by kernel_rfl) rfl rfl rfl ?stB hSB2 ?_
            case stB=>(go_simp;(try rfl))
            refine reg_take 12 17 (v:=?ve12) rfl rfl (by kernel_rfl) (by kernel_rfl) (by kernel_rfl) (fun _ _ _ h=>h) rfl ?ye12 hSB2 ?_
            case ye12=>(intro w9 hSw;obtain ⟨uc,-,-⟩:=hSw.us.facts;have c0:=hSw.c0;have c1:=hSw.c1;have c2:=hSw.c2;clear hSw;go_simp;(try with_reducible rfl))
            simp only [List.setIfInBounds_toArray,List.set_cons_zero,List.set_cons_succ];refine wpAnyH_done (by kernel_rfl) ?_ _;go_wp2_with fail;go_meet;exact⟨_,rfl,rfl,HFB.out.1.set7,HFB.out.2.1,HFB.out.2.2⟩
          case rest=>
           obtain⟨b6,rfl,rfl,hB6,hC6,hO6⟩:=hcut;generalize wc=w7 at hB6 hC6 hO6 ⊢;have HC7:=Lib.hid hC6;have HO7:=Lib.hid hO6;obtain⟨R7,hY7,hS7⟩:=hC6.g;have hBk:=hY7.r.blk;rw [hY7.dd] at hBk;obtain⟨cc,cf,cz⟩:=hB6.facts;obtain⟨rc,rf,rz⟩:=hC6.o.facts;clear hB6 hC6 hO6 hS7;by_cases h5:e5=0
           ·have HE5:=Lib.hid (show rd=(Z5,x,0) by rw [HRd6.out,HT1.out,if_pos (.inl h5),h5];rfl);subst h5;clear hBk hY7;go_wp2_with (exact bodyPost_ret (rchoose_results (x:=x) (e:=0) HC7.out.o.set7 rfl rfl) rfl ⟨by rw [HE5.out],by rw [HE5.out];exact HC7.out.g.set7 HBw.out HC7.out.o (by omega) _ _ _ _ _ _ _⟩)
           ·have h5b:(e5 == 0)=false:=by simpa using h5
            obtain⟨dd,hdd⟩:∃ d,Z5.dead=d:=⟨_,rfl⟩;rw [hdd] at hBk;obtain⟨pc,pff,pz⟩:=hBk.facts;clear hBk hY7
            cases dd with
            | true=>
             have HE5:=Lib.hid (show rd=(Z5,x,e5) by rw [HRd6.out,HT1.out,if_pos (.inr hdd)];rfl);clear h5 hdd;go_wp2_with (exact bodyPost_ret (rchoose_results (x:=x) (e:=e5) HC7.out.o.set7 rfl rfl) rfl ⟨by rw [HE5.out],by rw [HE5.out];exact HC7.out.g.set7 HBw.out HC7.out.o (by omega) _ _ _ _ _ _ _⟩)
            | false=>
             have HT2:=Lib.hid (HT1.out.trans (if_neg (by rintro (h | h);exact h5 h;rw [hdd] at h;cases h)));have HZ5:=Lib.hid hdd;clear h5 hdd cc cf cz rc rf rz;go_wp2_with fail;go_roundw
             case measure=>simp [intOf];omega
             case rel=>exact ⟨i+1,Z5,e5,by omega,rfl,by go_num,HT2.out,HK5.out.mono (by omega),HZ5.out,HC7.out,HO7.out⟩
         ·obtain rfl:i=L.length:=by omega
          have HE6:=Lib.hid (show rd=stG u (data,home) top path H0 (2 - k) (k+1) Zi ei by rw [HRd6.out,htr,List.drop_length];rfl);clear hI hP hok hzd htr;go_wp2_with fail;go_roundw
          case measure=>simp [intOf];omega
          case rel=>exact ⟨k+1,Zi,ei,by omega,rfl,by go_num,by rw [HE6.out,show 3 - (k+1)=2 - k by omega],HOi.out.mono (by omega),HZi.out,HIr.out,fun h=>absurd h (by omega)⟩
     ·obtain rfl:k=3:=by omega
      have HE7:=Lib.hid (show rd=(Z,cn0,ek) from hrd);obtain⟨rc,rf,rz⟩:=hI.o.facts;clear hI hO hrd hok hzd;go_wp2_with (exact bodyPost_ret (rchoose_results (x:=cn0) (e:=ek) HIr.out.o.set7 rfl rfl) rfl ⟨by rw [HE7.out],by rw [HE7.out];exact HIr.out.g.set7 HBw.out HIr.out.o (by omega) _ _ _ _ _ _ _⟩)
 ·have h1b:(e1 != 0)=true:=by simpa using h1
  have HE:=Lib.hid (HR.out.trans (if_pos h1));clear h1;obtain⟨rc,rf,rz⟩:=HW1.out.2.1.facts;go_wp2_with (exact bodyPost_ret (rchoose_results (x:=cn0) (e:=e1) HW1.out.2.1.set7 rfl rfl) rfl ⟨by rw [HE.out],by rw [HE.out];exact (HCh.out _ HW1.out.2.2 HW1.out.1 HW1.out.2.1).g.set7 HBw.out HW1.out.2.1 (by omega) _ _ _ _ _ _ _⟩)
end
end
section
open Go.RowKit
theorem rnth30_any (base:ByteArray) (n:Int) (w:World) (hs:base.size≤9223372036854775807) (h0:-9223372036854775808≤n) (h1:n≤9223372036854775807) :
  Calls Tryz.prog 70 #[.string base,.int .i64 n] w fun e w'=>e=.returned (.string (nthS base n))∧Below w.heap.size w w':=by
 by_cases hn:n<2
 ·have hnb:¬ 2≤n:=by omega
  have E1:=Lib.hid (nthS_small1 base n hn);have E2:=Lib.hid (nthS_small2 base n hn);have E3:=Lib.hid (nthS_small3 base n hn);have E4:=Lib.hid (nthS_all1 base n hn);go_enter Tryz.func70,Tryz.ntmps70;go_wp2_with fail
  all_goals (go_ret;refine ⟨?_,Below.refl _ _⟩;first | (refine congrArg (fun s=>Ending.returned (Value.string s)) (E1.out ?_);omega) | (refine congrArg (fun s=>Ending.returned (Value.string s)) (E2.out ?_);omega) | (refine congrArg (fun s=>Ending.returned (Value.string s)) (E3.out ?_);omega) | (refine congrArg (fun s=>Ending.returned (Value.string s)) (E4.out _ ?_);omega) | (exfalso;omega))
 ·have E1:=Lib.hid (nthS_big1 base n (by omega) h1);have E2:=Lib.hid (nthS_big2 base n (by omega) h1);have E3:=Lib.hid (nthS_big3 base n (by omega) h1);have E4:=Lib.hid (nthS_all2 base n (by omega));have hl:=decL_len n (by omega) h1;have hsz:(str (decL n)).size≤21:=by rw [str_size];exact hl.1
  have hsy:(str (decL n)).size=(decL n).length:=str_size _;go_enter Tryz.func70,Tryz.ntmps70;go_wp2_with fail;refine (rdec_any n _ h0 h1).mono ?_;rintro e w1 ⟨rfl,hb1⟩;go_wp2_with fail
  all_goals (go_ret;refine ⟨?_,hb1⟩;first | (refine congrArg (fun s=>Ending.returned (Value.string s)) (E1.out ?_);omega) | (refine congrArg (fun s=>Ending.returned (Value.string s)) (E2.out ?_);omega) | (refine congrArg (fun s=>Ending.returned (Value.string s)) (E3.out ?_);omega) | (refine congrArg (fun s=>Ending.returned (Value.string s)) (E4.out _ ?_);omega) | (exfalso;omega))
end
section
open Go.RowKit
def wtL (l:List (List UInt8)):Nat:=(l.map fun p=>p.length+1).sum
end
section
open Go.RowKit
def rwC (r:Rw):List Value:=[.string r.path,.int .i64 r.kind,.int .i64 r.mode,.int .i64 r.uid,.int .i64 r.gid,.int .i64 r.mtime,.int .i64 r.ctime,.int .i64 r.dev,.int .i64 r.first,.string r.data]
def rwQ (cs:List Value) (r:Rw):Prop:=cs=rwC r
def OR (w:World) (base:Nat) (v:Value) (l:List Rw):Prop:=w.ownsRow base 219 10 v l.length (l.flatMap rwC)
structure RB (B:Nat) (w:World) (vo vn:Value) (ta:Option Addr) (tn tc:Nat) (out:List Rw) (nos:List Int) (todo:List En):Prop where
 o:OR w B vo out
 n:OI w B vn nos
 t:EntsAt w ta tn tc todo
end
section
open Go.RowKit
end
section
open Go.RowKit
structure Sw (pre l:List En) (i:Nat) (Y:List En):Prop where
 len:Y.length=pre.length+l.length
 old:∀ k,k<pre.length→Y[k]? = pre[k]?
 at':∀ k,k<l.length→Y[pre.length+k]? = if k<i∨l.length≤k+i then l[l.length - 1 - k]? else l[k]?
end
section
open Go.RowKit Go.Shelf
attribute [local go_sem] Oper.semAt_some
end
section
open Go.RowKit
def FirstOf (l:List (Int×Value×Nat)) (nos:List Int):Prop:=KeysOnce l∧∀ k,mapFind l k=if k∈nos then some (.int .i64 (nos.idxOf k:Nat)) else none
section
variable {B:Nat} {w w':World} {m Bt g cap:Nat} {vo:Value} {out:List Rw} {nos:List Int} {stk:List En}
end
end
section
open Go.RowKit
def insideB (b s:ByteArray):Bool:=decide (b=s) || Lib.hasPrefix s.data.toList (trimL b.data.toList ++ [47])
def Rw.to (r:Rw) (k:Int):Rw:={r with first:=k}
def anewL (l:List Rw):List Rw:=l.map fun r=>r.to ((l.map Rw.first).idxOf r.first:Nat)
def keepB (ps:List ByteArray) (r:Rw):Bool:=ps.all fun p=>!insideB p r.path
def butL (l:List Rw) (ps:List ByteArray):List Rw:=anewL (l.filter (keepB ps))
structure AB (B:Nat) (w:World) (m:Nat) (vo:Value) (out:List Rw) (nos:List Int):Prop where
 o:OR w B vo out
 m:∃ l clk,MapB w m l clk∧FirstOf l nos
section
variable {B:Nat} {w w':World} {m:Nat} {vo:Value} {out:List Rw} {nos:List Int}
end
def pxR (cs:List Value) (s:ByteArray):Prop:=cs=[.string s]
end
section
open Go.RowKit
def CleanW (l:List UInt8):Prop:=l=[47]∨(l.head? = some 47∧trimL l=l)
def ptB:ByteArray:=ByteArray.mk #[46]
def relB (base s:ByteArray):ByteArray×Bool:=
 if wholeB (cleanB base).data.toList=true∧wholeB (cleanB s).data.toList=true∧insideB (cleanB base) (cleanB s)=true then
  (if cleanB base=cleanB s then ptB else str ((cleanB s).data.toList.drop ((trimL (cleanB base).data.toList).length+1)),true)
 else (ByteArray.empty,false)
def joinB (a b:ByteArray):ByteArray:=if wholeB b.data.toList=true∨a=ByteArray.empty then cleanB b else cleanB (a ++ ByteArray.mk #[47] ++ b)
end
section
open Go.RowKit
def lenV:Value→Nat | .slice _ n _=>n | _=>0
section
variable {w w':World} {pf:Nat} {R:Rf} {S:Fs}
end
end
section
open Go.RowKit
structure GoodN (p:List UInt8):Prop where
 ne:p≠[]
 n1:p≠[46]
 n2:p≠[46,46]
 no:∀ x∈p,x≠47
 chk:checkE (str p)=0
def pthL (ns:List (List UInt8)):List UInt8:=47 :: Lib.join ns [47]
def pth (ns:List (List UInt8)):ByteArray:=str (pthL ns)
def OrdR (a b:List (List UInt8)):Prop:=a≠b∧∀ p x y,a=p ++ [x]→b=p ++ [y]→Op.bytesLess x y=true
structure OrdSt (S:Fs) (vis:List (List (List UInt8)×An)) (td:List (List (List UInt8)×Int)):Prop where
 vgood:∀ y∈vis,∀ p∈y.1,GoodN p
 tgood:∀ y∈td,∀ p∈y.1,GoodN p
 par:∀ (i:Nat) (y:List (List UInt8)×An),vis[i]? = some y→∀ p x,y.1=p ++ [x]→∃ (k:Nat) (z:List (List UInt8)×An),k<i∧vis[k]? = some z∧z.1=p∧z.2.kind=1
 tpar:∀ y∈td,∀ p x,y.1=p ++ [x]→∃ z∈vis,z.1=p∧z.2.kind=1
 ord:(vis.map (·.1) ++ td.map (·.1)).Pairwise OrdR
 get:∀ y∈vis,S.get y.2.no=some y.2
def kidsN (ns:List (List UInt8)) (n:An):List (List (List UInt8)×Int):=n.ents.map fun e=>(ns ++ [e.name.data.toList],e.no)
end
section
open Go.RowKit
inductive Way (S:Fs):List (List UInt8)→Int→Prop
 | top:Way S [] 1
 | down {ns:List (List UInt8)} {d:Int} {a:An} {e:En} (h:Way S ns d) (hg:S.get d=some a) (he:e∈a.ents):Way S (ns ++ [e.name.data.toList]) (S.over e.no)
structure Grown (S:Fs) (N:Nat):Prop where
 ok:FsOk S N
 pl:Pl S
 tr:Tr S
 nm:Nm S
 wy:Wy S
section
variable {S:Fs} {N:Nat}
end
end
section
open Go.RowKit
def nSfx:ByteArray:=ByteArray.mk #[46,116,114,97,115,104,105,110,102,111]
def Fs.takenF (S:Fs) (d:Bool) (c:Cr) (n:ByteArray):List Int→Bool×Int
 | []=>(false,0)
 | x :: l=>if (S.lookF d c x n).2=0 then (true,0) else if (S.lookF d c x n).2≠5 then (false,(S.lookF d c x n).2) else S.takenF d c n l
def Sy.tryF (Y:Sy) (c:Cr) (info:Int) (text n:ByteArray):Sy×Int×Int:=Y.op (fun S now=>S.file c now info (n ++ nSfx) 384 text)
def Cn.three (x:Cn):List Int:=[x.files,x.way,x.out]
def Sy.nameL (Y:Sy) (c:Cr) (x:Cn) (text:ByteArray):List ByteArray→Sy×ByteArray×Int
 | []=>(Y,ByteArray.empty,7)
 | n :: l=>
  if (Y.fs.takenF Y.dead c n x.three).2≠0 then (Y,ByteArray.empty,(Y.fs.takenF Y.dead c n x.three).2)
  else if (Y.fs.takenF Y.dead c n x.three).1=true then Y.nameL c x text l
  else if (Y.tryF c x.info text n).2.2=7 then (Y.tryF c x.info text n).1.nameL c x text l
  else if (Y.tryF c x.info text n).2.2≠0 then ((Y.tryF c x.info text n).1,ByteArray.empty,(Y.tryF c x.info text n).2.2)
  else ((Y.tryF c x.info text n).1,n,0)
def namesL (base:ByteArray):List ByteArray:=(List.range 1000).map fun k=>nthS base ((k:Nat)+1)
def Sy.nameF (Y:Sy) (c:Cr) (x:Cn) (base text:ByteArray):Sy×ByteArray×Int:=Y.nameL c x text (namesL base)
def Fs.freeL (S:Fs) (d:Bool) (c:Cr) (dirs:List Int):List ByteArray→ByteArray×Int
 | []=>(ByteArray.empty,7)
 | n :: l=>if (S.takenF d c n dirs).2≠0 then (ByteArray.empty,(S.takenF d c n dirs).2) else if (S.takenF d c n dirs).1=true then S.freeL d c dirs l else (n,0)
theorem SyOk.tryF {Y:Sy} {N:Nat} (h:SyOk Y N) (c:Cr) (info:Int) (text n:ByteArray):SyOk (Y.tryF c info text n).1 (N+1):=h.op (h.fine.file _ _ _ _ _ _)
theorem SyOk.nameL {c:Cr} {x:Cn} {text:ByteArray}:∀ {l:List ByteArray} {Y:Sy} {N:Nat},SyOk Y N→SyOk (Y.nameL c x text l).1 (N+l.length)
 | [],_,_,h=>h
 | n :: l,Y,N,h=>by
  have h1:=h.tryF c x.info text n;rw [Sy.nameL]
  split
  ·exact h.mono (by simp)
  ·split
   ·exact (h.nameL (l:=l)).mono (by simp)
   ·split
    ·exact (h1.nameL (l:=l)).mono (by simp;omega)
    ·split
     ·exact h1.mono (by simp)
     ·exact h1.mono (by simp)
structure Still (Y:Sy):Prop where
 plan:Y.plan=[]
 dead:Y.dead=false
end
end Go.Proofs.YtihdbncoijhihaaGreat
