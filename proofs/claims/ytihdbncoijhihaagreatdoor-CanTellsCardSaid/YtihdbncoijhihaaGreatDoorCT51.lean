import Derived.BigQuiet
import Derived.Deep.DeepHandedRow
import Derived.Lay
import Derived.Test.YtihdbncoijhihaaGreatDoorCT48
import Derived.Test.YtihdbncoijhihaaGreatDoorCT49
import Derived.Test.YtihdbncoijhihaaGreatDoorCT50
import Derived.Test.YtihdbncoijhihaaGreatDoorCT19
import Derived.Test.YtihdbncoijhihaaGreatDoorCT3
import Derived.Test.YtihdbncoijhihaaGreatDoorCT13
set_option linter.unusedVariables false
set_option linter.unusedSimpArgs false
namespace Go.Proofs.YtihdbncoijhihaaGreatDoor
open Go.RowKit Go.Shelf
attribute [local go_sem] Oper.semAt_some
theorem fs_last {S : Fs} {N : Nat} (h : FsOk S N) (hN : N≤999999) : 1≤S.last∧S.last≤999999:=by
 have h1:=h.d1
 have h2:=h.root S.ds[0] (List.getElem_mem (by omega))
 have h3:=h.lN
 omega
set_option maxRecDepth 100000 in
set_option maxHeartbeats 8000000 in
theorem canTells_any (w : World) {ma : Option Addr} {mn mc : Nat} {ia : Option Addr} {il ic : Nat} {ms : List Mt} {is : List It} (h : SdAt w ma mn mc ia il ic ms is) (u g : Int) (hu0 : -9223372036854775808≤u) (hu1 : u≤9223372036854775807) (dt pt tx : ByteArray) (no now : Int) {pa : Option Addr} {pn pc : Nat} {pl : List (Int × Int)} (hpl : SliceAt w 2 fltR pa pn pc pl) :
  Calls Tryz.prog 5 #[.agg #[.slice ma mn mc,.slice ia il ic,.int .i64 u,.int .i64 g,.string dt,.string pt,.string tx,.int .i64 no,.int .i64 now,.slice pa pn pc]] w fun e w'=>e=.returned (.bool true)∧Below w.heap.size w w':=by
 have hX:=Blk.new w #[.slice ma mn mc,.slice ia il ic,.int .i64 u,.int .i64 g,.string dt,.string pt,.string tx,.int .i64 no,.int .i64 now,.slice pa pn pc] 72
 have hbX:=balloc (Below.refl w.heap.size w) (.cells #[.slice ma mn mc,.slice ia il ic,.int .i64 u,.int .i64 g,.string dt,.string pt,.string tx,.int .i64 no,.int .i64 now,.slice pa pn pc] 72)
 have hbI:=((Below.refl _ w).alloc (Nat.le_refl _) (.cells #[.slice ma mn mc,.slice ia il ic,.int .i64 u,.int .i64 g,.string dt,.string pt,.string tx,.int .i64 no,.int .i64 now,.slice pa pn pc] 72))
 have HFw:=Lib.hid (few30_any _ (h.keep hbI) u g dt pt tx no now (pa:=pa) (pc:=pc) hpl.1)
 have HS:=Lib.hid (And.intro h hpl)
 have HAw:=Lib.hid awake30_any
 clear h hpl hbI
 go_enter Tryz.func5,Tryz.ntmps5
 go_upto_region 1 with fail
 generalize w.alloc (.cells #[.slice ma mn mc,.slice ia il ic,.int .i64 u,.int .i64 g,.string dt,.string pt,.string tx,.int .i64 no,.int .i64 now,.slice pa pn pc] 72)=w0 at hX hbX HFw ⊢
 obtain⟨bc,bf,bz⟩:=hX.facts
 go_wp2_with fail
 refine HFw.out.mono ?_
 rintro e w1 ⟨rfl,hb1⟩
 have HB1:=Lib.hid (hX.keep hb1)
 have HBw:=Lib.hid (bnext hbX hb1)
 clear hX hbX hb1 HFw bc bf bz
 obtain⟨bc,bf,bz⟩:=HB1.out.facts
 cases hf : few30 ms is dt pt tx pl with
 | false=>
  clear hf bc bf bz
  go_wp2_with fail
  refine (HAw.out _).mono ?_
  rintro e w2 ⟨rfl,hb2⟩
  have HB2:=Lib.hid (bnext HBw.out hb2)
  clear hb2
  go_wp2_with fail
  go_ret
  exact⟨rfl,HB2.out⟩
 | true=>
  have HBo:=Lib.hid (both30_any w1 (HS.out.1.keep HBw.out) u g dt pt tx no now (HS.out.2.keep HBw.out) hf)
  obtain⟨hf2,hdt,-,htx,-⟩:=few30_of hf
  obtain⟨hm10,hi30,-,-⟩:=few22_of hf2
  have HOk:=Lib.hid (plant_ok ms is)
  have HPl:=Lib.hid (plant_pl ms is)
  have HWy:=Lib.hid (plant_wy ms is)
  have hsm:=pl_small (plant_ok ms is) (plant_pl ms is)
  obtain⟨N,hN⟩ : ∃ N,1 + 2 * ms.length + is.length=N:=⟨_,rfl⟩
  have hNs : N≤51:=by omega
  rw [hN] at HOk hsm
  have hlast:=fs_last (plant_ok ms is) (by omega)
  generalize plantF ms is=S at HBo HOk HPl HWy hsm hlast
  have HNs:=Lib.hid (show N≤51∧S.ns.length≤51 from ⟨hNs,by omega⟩)
  have HDt:=Lib.hid (show dt.size≤100000 by omega)
  clear hf hf2 hi30 hm10 hsm hNs hN hdt htx
  go_wp2_with fail
  refine HBo.out.mono ?_
  rintro e w2 ⟨p1,q1,R1,v1,pf,R2,rfl,hBo⟩
  have HB2:=Lib.hid (bnext HBw.out hBo.below)
  have HBt:=Lib.hid hBo
  clear bc bf bz
  have HC2:=Lib.hid (HB1.out.keep hBo.below)
  obtain⟨bc,bf,bz⟩:=HC2.out.facts
  obtain⟨rc,rf,rz⟩:=hBo.r.blk.facts
  clear hBo
  go_upto_region 7 with (go_quiet (fail))
  generalize wrap64 (1 + wrap64 ((IntKind.u64.wrap no).tmod S.last))=n2
  have hb3:=below_drewN (Below.refl w2.heap.size w2) nq
  generalize w2.drewN nq=w3 at hb3 ⊢
  have HB3:=Lib.hid hb3
  have hN2:=HNs.out.1
  have HD1:=Lib.hid (fun w4 (hb : Below w2.heap.size w2 w4)=>cdata_any (HBt.out.y.keep hb) HOk.out (by omega) HPl.out HWy.out rfl ⟨u,g,dt⟩ HDt.out)
  have HD2:=Lib.hid (fun w4 (hb : Below w2.heap.size w2 w4)=>rdata_any (HBt.out.r.keep hb) HOk.out HBt.out.dd ⟨u,g,dt⟩ HDt.out)
  have HM1:=Lib.hid (fun w4 (hb : Below w2.heap.size w2 w4)=>ccommon_any (HBt.out.y.keep hb) HOk.out (by omega) rfl u g dt n2)
  have HM2:=Lib.hid (fun w4 (hb : Below w2.heap.size w2 w4)=>rcommon_any (HBt.out.r.keep hb) HOk.out HBt.out.dd u g dt n2)
  have HO1:=Lib.hid (fun w4 (hb : Below w2.heap.size w2 w4)=>cown_any (HBt.out.y.keep hb) HOk.out (by omega) u g dt n2 tx)
  have HO2:=Lib.hid (fun w4 (hb : Below w2.heap.size w2 w4)=>rown_any (HBt.out.r.keep hb) HOk.out HBt.out.dd u g dt n2 tx)
  dsimp only at HD1 HD2 HM1 HM2 HO1 HO2
  obtain⟨⟨a1,a2⟩,ha⟩ : ∃ x,S.dataF false ⟨u,g,dt⟩=x:=⟨_,rfl⟩
  obtain⟨⟨a3,a4⟩,hc⟩ : ∃ x,S.commonF false ⟨u,g⟩ n2=x:=⟨_,rfl⟩
  obtain⟨⟨a5,a6⟩,ho⟩ : ∃ x,S.ownF false ⟨u,g⟩ n2 tx=x:=⟨_,rfl⟩
  rw [ha] at HD1 HD2
  rw [hc] at HM1 HM2
  rw [ho] at HO1 HO2
  dsimp only at HD1 HD2 HM1 HM2 HO1 HO2
  clear ha hc ho hb3 hN2 bc bf bz rc rf rz hlast
  obtain⟨xc,xf,xz⟩:=(HC2.out.keep HB3.out).facts
  go_wp2_with fail
  refine (HD1.out _ HB3.out).mono ?_
  rintro e w4 ⟨rfl,hb4⟩
  have HB4:=Lib.hid (bnext HB3.out hb4)
  clear xc xf xz hb4
  obtain⟨xc,xf,xz⟩:=(HC2.out.keep HB4.out).facts
  go_wp2_with fail
  refine (HD2.out _ HB4.out).mono ?_
  rintro e w5 ⟨rfl,hb5⟩
  have HB5:=Lib.hid (bnext HB4.out hb5)
  clear xc xf xz hb5
  obtain⟨xc,xf,xz⟩:=(HC2.out.keep HB5.out).facts
  go_wp2_with fail
  refine (HM1.out _ HB5.out).mono ?_
  rintro e w6 ⟨rfl,hb6⟩
  have HB6:=Lib.hid (bnext HB5.out hb6)
  clear xc xf xz hb6
  obtain⟨xc,xf,xz⟩:=(HC2.out.keep HB6.out).facts
  go_wp2_with fail
  refine (HM2.out _ HB6.out).mono ?_
  rintro e w7 ⟨rfl,hb7⟩
  have HB7:=Lib.hid (bnext HB6.out hb7)
  clear xc xf xz hb7
  obtain⟨xc,xf,xz⟩:=(HC2.out.keep HB7.out).facts
  go_wp2_with fail
  refine (HO1.out _ HB7.out).mono ?_
  rintro e w8 ⟨rfl,hb8⟩
  have HB8:=Lib.hid (bnext HB7.out hb8)
  clear xc xf xz hb8
  obtain⟨xc,xf,xz⟩:=(HC2.out.keep HB8.out).facts
  go_wp2_with fail
  refine (HO2.out _ HB8.out).mono ?_
  rintro e w9 ⟨rfl,hb9⟩
  have HB9:=Lib.hid (bnext HB8.out hb9)
  clear xc xf xz hb9
  obtain⟨xc,xf,xz⟩:=(HC2.out.keep HB9.out).facts
  clear HD1 HD2 HM1 HM2 HO1 HO2
  have HA1:=Lib.hid (fun w10 (hb : Below w9.heap.size w9 w10)=>cansAll_any (HBt.out.y.keep (bnext HB9.out hb)) HOk.out (by have:=HNs.out.1;omega) HPl.out HWy.out (by have:=HNs.out.2;show S.ns.length≤_;omega) rfl ⟨u,g,dt⟩ HDt.out hu0 hu1)
  have HA2:=Lib.hid (fun w10 (hb : Below w9.heap.size w9 w10)=>rall_any (HBt.out.r.keep (bnext HB9.out hb)) HOk.out HPl.out (by have:=HNs.out.2;omega) HBt.out.dd ⟨u,g,dt⟩ HDt.out hu0 hu1)
  dsimp only at HA1 HA2
  generalize S.allCn false ⟨u,g,dt⟩=al at HA1 HA2
  go_upto_region 13 with fail
  go_region_held3 (fun w'=>(∀ b o,b < w9.heap.size→w'.cell? ⟨b,o,none⟩=w9.cell? ⟨b,o,none⟩)∧Below w9.heap.size w9 w') (first | with_reducible assumption | with_reducible exact keepS_here _ | with_reducible exact keepS_here2 _ | with_reducible exact keepS_call (by assumption) (by assumption) | with_reducible exact keepS_alloc (by assumption) _ | with_reducible exact keepS_allocD (by assumption) _ | with_reducible exact keepS_realloc (by assumption) (by assumption) | with_reducible exact keepS_set4 (by assumption) (by assumption))
   ((first
    | (go_at_call 33;((with_reducible refine (HA1.out _ (And.right (by assumption))).mono ?_);rintro e w10 ⟨va,rfl,hOa,hb10⟩;have HOa:=Lib.hid hOa;clear hOa))
    | (go_at_call 34;((with_reducible refine (HA2.out _ (And.right (by assumption))).mono ?_);rintro e w11 ⟨vb,rfl,hOb,hb11⟩;obtain ⟨qa,qc,rfl,-,-,-⟩:=own_form HOa.out;obtain ⟨ra,rc,rfl,-,-,-⟩:=own_form hOb;have HSm:=Lib.hid (fun w12 (hb : Below w11.heap.size w11 w12)=>same30_any al qa ra al.length qc al.length rc w12 ((HOa.out.keep hb11).keep hb).at (hOb.keep hb).at);clear hOb))
    | (go_at_call 32;((with_reducible refine (HSm.out _ (Below.refl _ _)).mono ?_);rintro e w12 ⟨rfl,hb12⟩))))
  all_goals
   have hbz : Below w9.heap.size w9 w12:=And.right (by assumption)
   have HB12:=Lib.hid (bnext HB9.out hbz)
   clear hbz
   clear xc xf xz HA1 HA2
   obtain⟨xc,xf,xz⟩:=(HC2.out.keep HB12.out).facts
   have HP1:=Lib.hid (fun w13 (hb : Below w12.heap.size w12 w13)=>cplaces_any (HBt.out.y.keep (bnext HB12.out hb)) HOk.out (by have:=HNs.out.1;omega) rfl ⟨u,g,dt⟩ hu0 hu1 n2 pt)
   have HP2:=Lib.hid (fun w13 (hb : Below w12.heap.size w12 w13)=>rplaces_any (HBt.out.r.keep (bnext HB12.out hb)) HOk.out HBt.out.dd ⟨u,g,dt⟩ hu0 hu1 n2 pt)
   dsimp only at HP1 HP2
   have HPL:=Lib.hid (placesF_len S false ⟨u,g,dt⟩ n2 pt)
   generalize S.placesF false ⟨u,g,dt⟩ n2 pt=ps at HP1 HP2 HPL
   clear HOa HSm
   go_upto_region 15 with fail
   go_region_held3 (fun w'=>(∀ b o,b < w12.heap.size→w'.cell? ⟨b,o,none⟩=w12.cell? ⟨b,o,none⟩)∧Below w12.heap.size w12 w') (first | with_reducible assumption | with_reducible exact keepS_here _ | with_reducible exact keepS_here2 _ | with_reducible exact keepS_call (by assumption) (by assumption) | with_reducible exact keepS_alloc (by assumption) _ | with_reducible exact keepS_allocD (by assumption) _ | with_reducible exact keepS_realloc (by assumption) (by assumption) | with_reducible exact keepS_set4 (by assumption) (by assumption))
    ((first
     | (go_at_call 35;((with_reducible refine (HP1.out _ (And.right (by assumption))).mono ?_);rintro e w13 ⟨v13,rfl,hP13,hb13⟩;have HP13:=Lib.hid hP13;clear hP13))
     | (go_at_call 36;((with_reducible refine (HP2.out _ (And.right (by assumption))).mono ?_);rintro e w14 ⟨v14,rfl,hP14,hb14⟩;have HP14:=Lib.hid (And.intro (HP13.out.keep hb14) hP14);clear hP14))))
   all_goals
    have hbz : Below w12.heap.size w12 w14:=And.right (by assumption)
    have HB14:=Lib.hid (bnext HB12.out hbz)
    clear hbz
    obtain⟨pa1,pc1,rfl,-,-,-⟩:=own_form HP14.out.1
    obtain⟨pa2,pc2,rfl,-,-,-⟩:=own_form HP14.out.2
    clear xc xf xz HP1 HP2 HP13
    go_wp2_with fail
    go_loopw [20] (fun t20 wr=>∃ i : Nat,i≤ps.length∧t20=.int .i64 i∧Below w14.heap.size w14 wr) (fun t20 _=>ps.length - (intOf t20).toNat)
    case atStart=>exact ⟨0,Nat.zero_le _,rfl,Below.refl _ _⟩
    case round=>
     obtain⟨i,hi,rfl,hb⟩:=hrel
     have HBr:=Lib.hid hb
     have HBq:=Lib.hid (bnext HB14.out hb)
     have hX:=HC2.out.keep HBq.out
     by_cases hlt : i < ps.length
     ·have HX:=Lib.hid hX
      have HLt:=Lib.hid hlt
      obtain⟨b1,o1,rfl,hbl,hc1⟩:=slice_row plC_len (HP14.out.1.keep hb).at i hlt
      obtain⟨b2,o2,rfl,hbl2,hc2⟩:=slice_row plC_len (HP14.out.2.keep hb).at i hlt
      have c0 : wr.cell? ⟨b1,o1 + i * 3,none⟩=some (.int .i64 ps[i].dir):=hc1 0 (by decide)
      have c1 : wr.cell? ⟨b1,o1 + i * 3 + 1,none⟩=some (.string ps[i].name):=hc1 1 (by decide)
      have c2 : wr.cell? ⟨b1,o1 + i * 3 + 2,none⟩=some (.string ps[i].top):=hc1 2 (by decide)
      have d0 : wr.cell? ⟨b2,o2 + i * 3,none⟩=some (.int .i64 ps[i].dir):=hc2 0 (by decide)
      have d1 : wr.cell? ⟨b2,o2 + i * 3 + 1,none⟩=some (.string ps[i].name):=hc2 1 (by decide)
      have d2 : wr.cell? ⟨b2,o2 + i * 3 + 2,none⟩=some (.string ps[i].top):=hc2 2 (by decide)
      have HOp1:=Lib.hid (fun w15 (hb : Below wr.heap.size wr w15)=>copen_any (HBt.out.y.keep (bnext HBq.out hb)) HOk.out (by have:=HNs.out.1;omega) HPl.out (by have:=HNs.out.2;show S.ns.length≤_;omega) ⟨u,g,dt⟩ ps[i])
      have HOp2:=Lib.hid (fun w15 (hb : Below wr.heap.size wr w15)=>ropen30_any (HBt.out.r.keep (bnext HBq.out hb)) HOk.out HPl.out (by have:=HNs.out.2;omega) HBt.out.dd ⟨u,g,dt⟩ ps[i])
      dsimp only at HOp1 HOp2
      generalize ps[i]=p at c0 c1 c2 d0 d1 d2 HOp1 HOp2
      generalize S.openF false ⟨u,g,dt⟩ p=q at HOp1 HOp2
      obtain⟨x,e2⟩:=q
      unfold Cn.v at HOp1 HOp2
      dsimp only at HOp1 HOp2
      have HCd:=Lib.hid (And.intro c0 (And.intro c1 (And.intro c2 (And.intro d0 (And.intro d1 d2)))))
      have HBl:=Lib.hid (And.intro hbl hbl2)
      have hne:=fun w=>cn_neq x w
      obtain⟨xc,xf,xz⟩:=hX.facts
      clear hc1 hc2 hX hb
      go_upto_region 21 with fail
      go_cut [21,22] (fun t21 t22 wx=>∃ Bd : Nat,t21=.pointer (some ⟨Bd,0,none⟩)∧t22=.int .i64 e2∧Blk wx Bd #[.string x.path,.int .i64 x.dir,.int .i64 x.info,.int .i64 x.files,.int .i64 x.out,.int .i64 x.way,.string x.top] 93∧Below wr.heap.size wr wx)
      case first=>
       go_wp2_with fail
       have hzz : wr.heap.size≤wr.heap.size:=Nat.le_refl _
       go_region_held3 (fun w'=>(∀ b o,b < wr.heap.size→w'.cell? ⟨b,o,none⟩=wr.cell? ⟨b,o,none⟩)∧Below wr.heap.size wr w') (first | with_reducible exact keepS_set7 (by assumption) (by assumption) | (first | with_reducible assumption | with_reducible exact keepS_here _ | with_reducible exact keepS_here2 _ | with_reducible exact keepS_call (by assumption) (by assumption) | with_reducible exact keepS_alloc (by assumption) _ | with_reducible exact keepS_allocD (by assumption) _ | with_reducible exact keepS_realloc (by assumption) (by assumption) | with_reducible exact keepS_set4 (by assumption) (by assumption)))
        ((go_at_call 37;((with_reducible refine (HOp1.out _ (And.right ‹(∀ b o,b < wr.heap.size→_)∧Below wr.heap.size wr _›)).mono ?_);rintro e w9 ⟨rfl,hb9⟩;have hz9:=Nat.le_trans (And.right ‹(∀ b o,b < wr.heap.size→_)∧Below wr.heap.size wr _›).size hb9.size;try (have hbq:=new_drew hb9;obtain ⟨bqc,bqf,bqz⟩:=hbq.facts))))
       all_goals
        obtain⟨-,hS4⟩:=‹_∧Below wr.heap.size wr _›
        have HS4:=Lib.hid hS4
        try (have HQ4:=Lib.hid hbq)
        clear hS4
        go_wp2_with fail
        go_meet
        exact⟨_,rfl,rfl,by first | exact HQ4.out.set7 | exact Blk.new _ _ _,HS4.out⟩
      case rest=>
       obtain⟨Bd,rfl,rfl,hDX,hb9⟩:=hcut
       generalize wc=w15 at hDX hb9 ⊢
       have HDX:=Lib.hid hDX
       have HB15:=Lib.hid hb9
       have hX15:=HX.out.keep hb9
       have e0:=(hb9.cell (p:=⟨b2,o2 + i * 3,none⟩) HBl.out.2).trans HCd.out.2.2.2.1
       have e1:=(hb9.cell (p:=⟨b2,o2 + i * 3 + 1,none⟩) HBl.out.2).trans HCd.out.2.2.2.2.1
       have e2':=(hb9.cell (p:=⟨b2,o2 + i * 3 + 2,none⟩) HBl.out.2).trans HCd.out.2.2.2.2.2
       have hbl15 : b2 < w15.heap.size:=Nat.lt_of_lt_of_le HBl.out.2 hb9.size
       have HOp3:=Lib.hid (fun w16 (hb : Below w15.heap.size w15 w16)=>HOp2.out w16 (bnext hb9 hb))
       clear xc xf xz c0 c1 c2 d0 d1 d2 hDX hb9
       obtain⟨xc,xf,xz⟩:=hX15.facts
       clear hX15
       go_upto_region 22 with fail
       go_cut [23,24] (fun t23 t24 wx=>∃ Be : Nat,t23=.pointer (some ⟨Be,0,none⟩)∧t24=.int .i64 e2∧Blk wx Be #[.string x.path,.int .i64 x.dir,.int .i64 x.info,.int .i64 x.files,.int .i64 x.out,.int .i64 x.way,.string x.top] 93∧Below w15.heap.size w15 wx)
       case first=>
        go_wp2_with fail
        have hzz : w15.heap.size≤w15.heap.size:=Nat.le_refl _
        go_region_held3 (fun w'=>(∀ b o,b < w15.heap.size→w'.cell? ⟨b,o,none⟩=w15.cell? ⟨b,o,none⟩)∧Below w15.heap.size w15 w') (first | with_reducible exact keepS_set7 (by assumption) (by assumption) | (first | with_reducible assumption | with_reducible exact keepS_here _ | with_reducible exact keepS_here2 _ | with_reducible exact keepS_call (by assumption) (by assumption) | with_reducible exact keepS_alloc (by assumption) _ | with_reducible exact keepS_allocD (by assumption) _ | with_reducible exact keepS_realloc (by assumption) (by assumption) | with_reducible exact keepS_set4 (by assumption) (by assumption)))
         ((go_at_call 38;((with_reducible refine (HOp3.out _ (And.right ‹(∀ b o,b < w15.heap.size→_)∧Below w15.heap.size w15 _›)).mono ?_);rintro e w9 ⟨rfl,hb9⟩;have hz9:=Nat.le_trans (And.right ‹(∀ b o,b < w15.heap.size→_)∧Below w15.heap.size w15 _›).size hb9.size;try (have hbq:=new_drew hb9;obtain ⟨bqc,bqf,bqz⟩:=hbq.facts))))
        all_goals
         obtain⟨-,hS4⟩:=‹_∧Below w15.heap.size w15 _›
         have HS4:=Lib.hid hS4
         try (have HQ4:=Lib.hid hbq)
         clear hS4
         go_wp2_with fail
         go_meet
         exact⟨_,rfl,rfl,by first | exact HQ4.out.set7 | exact Blk.new _ _ _,HS4.out⟩
       case rest=>
        obtain⟨Be,rfl,rfl,hEX,hb16⟩:=hcut
        generalize wc=w16 at hEX hb16 ⊢
        have hbb:=bnext HB15.out hb16
        have HB16:=Lib.hid (bnext HBr.out hbb)
        have c0:=(hbb.cell (p:=⟨b1,o1 + i * 3,none⟩) HBl.out.1).trans HCd.out.1
        have c1:=(hbb.cell (p:=⟨b1,o1 + i * 3 + 1,none⟩) HBl.out.1).trans HCd.out.2.1
        have c2:=(hbb.cell (p:=⟨b1,o1 + i * 3 + 2,none⟩) HBl.out.1).trans HCd.out.2.2.1
        have d0:=(hbb.cell (p:=⟨b2,o2 + i * 3,none⟩) HBl.out.2).trans HCd.out.2.2.2.1
        have d1:=(hbb.cell (p:=⟨b2,o2 + i * 3 + 1,none⟩) HBl.out.2).trans HCd.out.2.2.2.2.1
        have d2:=(hbb.cell (p:=⟨b2,o2 + i * 3 + 2,none⟩) HBl.out.2).trans HCd.out.2.2.2.2.2
        obtain⟨yc,yf,yz⟩:=(HDX.out.keep hb16).facts
        obtain⟨zc,zf,zz⟩:=hEX.facts
        clear e0 e1 e2' xc xf xz hbb hb16 hEX
        have hpl9:=HPL.out
        go_wp2_with (go_quiet (fail))
        go_roundw
        case measure=>simp [intOf];omega
        case rel=>exact ⟨i + 1,by omega,by go_num,below_drewN HB16.out _⟩
     ·obtain rfl : i=ps.length:=by omega
      have HP5:=Lib.hid (fun w15 (hb : Below wr.heap.size wr w15)=>cpaths_any (HBt.out.y.keep (bnext HBq.out hb)) HOk.out (by have:=HNs.out.1;omega) HPl.out HWy.out (by have:=HNs.out.2;show S.ns.length≤_;omega) rfl ⟨u,g,dt⟩ HDt.out hu0 hu1)
      have HP6:=Lib.hid (fun w15 (hb : Below wr.heap.size wr w15)=>rpaths_any (HBt.out.r.keep (bnext HBq.out hb)) HOk.out HPl.out (by have:=HNs.out.2;omega) HBt.out.dd ⟨u,g,dt⟩ HDt.out hu0 hu1)
      dsimp only at HP5 HP6
      generalize ((S.pathsF false ⟨u,g,dt⟩).map fun s=>s.data.toList)=ls at HP5 HP6
      obtain⟨xc,xf,xz⟩:=hX.facts
      have hge : ¬ (ps.length : Int) < (ps.length : Int):=by omega
      clear hX hb HP14
      go_upto_region 25 with fail
      go_region_held3 (fun w'=>(∀ b o,b < wr.heap.size→w'.cell? ⟨b,o,none⟩=wr.cell? ⟨b,o,none⟩)∧Below wr.heap.size wr w') (first | with_reducible assumption | with_reducible exact keepS_here _ | with_reducible exact keepS_here2 _ | with_reducible exact keepS_call (by assumption) (by assumption) | with_reducible exact keepS_alloc (by assumption) _ | with_reducible exact keepS_allocD (by assumption) _ | with_reducible exact keepS_realloc (by assumption) (by assumption) | with_reducible exact keepS_set4 (by assumption) (by assumption))
       ((first
        | (go_at_call 39;((with_reducible refine (HP5.out _ (And.right (by assumption))).mono ?_);rintro e w15 ⟨v15,rfl,hP15,hb15⟩;have HP15:=Lib.hid hP15;clear hP15))
        | (go_at_call 40;((with_reducible refine (HP6.out _ (And.right (by assumption))).mono ?_);rintro e w16 ⟨v16,rfl,hP16,hb16⟩;have HP16:=Lib.hid (And.intro (HP15.out.keep2 hb16) hP16);clear hP16))))
      all_goals
       have hbz : Below wr.heap.size wr w16:=And.right (by assumption)
       have HB16:=Lib.hid (bnext HBq.out hbz)
       clear hbz
       obtain⟨la1,lc1,rfl,-,-⟩:=OS.len HP16.out.1
       obtain⟨la2,lc2,rfl,-,-⟩:=OS.len HP16.out.2
       clear xc xf xz HP5 HP6 HP15 hge
       go_wp2_with fail
       go_loopw [27] (fun t27 wq=>∃ k : Nat,k≤ls.length∧t27=.int .i64 k∧Below w16.heap.size w16 wq) (fun t27 _=>ls.length - (intOf t27).toNat)
       case atStart=>exact ⟨0,Nat.zero_le _,rfl,Below.refl _ _⟩
       case round=>
        obtain⟨k,hk,rfl,hb⟩:=hrel
        have HBk:=Lib.hid hb
        by_cases hlt : k < ls.length
        ·obtain ⟨g1,rfl,hg1,c0⟩:=OS.at' (HP16.out.1.keep2 hb) k hlt
         obtain⟨g2,rfl,hg2,d0⟩:=OS.at' (HP16.out.2.keep2 hb) k hlt
         generalize str ls[k]=sk at c0 d0
         have hu9 : ¬ (k : Int) < 0:=by omega
         have hf9 : (0 : Int)≤(k : Int):=by omega
         have hkm : (k : Int) < (ls.length : Int):=by omega
         have hkm2 : ¬ (ls.length : Int)≤(k : Int):=by omega
         have hmk : ¬ ls.length≤k:=by omega
         have hmx9:=OS.max HP16.out.1
         clear hb
         go_wp2_with (go_quiet (fail))
         go_roundw
         case measure=>simp [intOf];omega
         case rel=>exact ⟨k + 1,by omega,by go_num,below_drewN HBk.out _⟩
        ·obtain rfl : k=ls.length:=by omega
         have HBz:=Lib.hid (bnext HB16.out hb)
         have HK1:=Lib.hid (fun w17 (hb' : Below wr.heap.size wr w17)=>ckeeps_any (HBt.out.y.keep (bnext HBz.out hb')) HOk.out (by have:=HNs.out.1;omega) HPl.out HWy.out (by have:=HNs.out.2;show S.ns.length≤_;omega) rfl ⟨u,g,dt⟩ HDt.out hu0 hu1 no n2 tx)
         have HK2:=Lib.hid (fun w17 (hb' : Below wr.heap.size wr w17)=>rkeeps_any (HBt.out.r.keep (bnext HBz.out hb')) HOk.out HPl.out (by have:=HNs.out.2;omega) HBt.out.dd ⟨u,g,dt⟩ HDt.out hu0 hu1 no n2 tx)
         have HAk:=Lib.hid (fun w17 (hb' : Below wr.heap.size wr w17)=>alike24_any (HBt.out.y.keep (bnext HBz.out hb')) (HBt.out.r.keep (bnext HBz.out hb')) HBt.out.cnt HBt.out.dd HOk.out HPl.out (by have:=HNs.out.2;show S.ns.length≤_;omega))
         have HAz:=Lib.hid (fun w17 (hb' : Below wr.heap.size wr w17)=>HAw.out w17)
         dsimp only at HK1 HK2
         generalize S.keepsF false ⟨u,g,dt⟩ no n2 tx=kk at HK1 HK2
         obtain⟨xc,xf,xz⟩:=(HC2.out.keep HBz.out).facts
         have hge : ¬ (ls.length : Int) < (ls.length : Int):=by omega
         clear hb
         go_upto_region 31 with fail
         go_region_held3 (fun w'=>(∀ b o,b < wr.heap.size→w'.cell? ⟨b,o,none⟩=wr.cell? ⟨b,o,none⟩)∧Below wr.heap.size wr w') (first | with_reducible assumption | with_reducible exact keepS_here _ | with_reducible exact keepS_here2 _ | with_reducible exact keepS_call (by assumption) (by assumption) | with_reducible exact keepS_alloc (by assumption) _ | with_reducible exact keepS_allocD (by assumption) _ | with_reducible exact keepS_realloc (by assumption) (by assumption) | with_reducible exact keepS_set4 (by assumption) (by assumption))
          ((first
           | (go_at_call 41;((with_reducible refine (HK1.out _ (And.right (by assumption))).mono ?_);rintro e w17 ⟨rfl,hb17⟩))
           | (go_at_call 42;((with_reducible refine (HK2.out _ (And.right (by assumption))).mono ?_);rintro e w18 ⟨rfl,hb18⟩))
           | (go_at_call 43;((with_reducible refine (HAk.out _ (And.right (by assumption))).mono ?_);rintro e w19 ⟨rfl,hb19⟩))
           | (go_at_call 24;((with_reducible refine (HAz.out _ (And.right (by assumption))).mono ?_);rintro e w20 ⟨rfl,hb20⟩))))
         all_goals
          have hbz : Below wr.heap.size wr w20:=And.right (by assumption)
          have HBE:=Lib.hid (bnext HB2.out (bnext HBz.out hbz))
          clear hbz
          go_wp2_with fail
          go_ret
          exact⟨rfl,HBE.out⟩
end Go.Proofs.YtihdbncoijhihaaGreatDoor
namespace Go.Proofs.YtihdbncoijhihaaGreatDoor
open Go.RowKit Go.ChangeShapes Go.WideShapes Go.ChangeAt
section
variable {H : Type} {enc : TypeId × Value→H} {w : World} {base : Nat} {spare : Nat→Bool} {held : Bool}
theorem trod_fields5 {P : Program} {t : TypeId} {fs : Array Field} {fuel : Nat} {cs : List Value} {x : DataW H × List MemPlace} (ht : P.underlying t=some (.struct fs)) (h : DataW.trod enc P w base spare held fuel t cs=some x) :
  cs.length=P.cellsOf t∧∃ n,∀ (i : Nat) (ty : TypeId) (off k : Nat) (l : List Value),(fs[i]?.map fun f=>(f.type,f.offset))=some (ty,off)→P.cellsOf ty=k→(cs.drop off).take k=l→∃ y,DataW.trod enc P w base spare held n ty l=some y:=by
 obtain⟨xs,n,-,-,h1,h2,h3⟩:=DataW.trod_struct ht h
 refine ⟨h1,n,fun i ty off k l hf hk hl=>?_⟩
 obtain⟨f,hf1,e⟩:=Option.map_eq_some_iff.1 hf
 clear hf
 injection e with e1 e2
 subst e1 e2 hk hl
 have hi : i < xs.length:=by
  rw [h2]
  exact (Array.getElem?_eq_some_iff.1 hf1).1
 exact⟨xs[i],by rw [h3 i f hf1,List.getElem?_eq_getElem hi]⟩
set_option maxRecDepth 100000 in
theorem trod_mt {fuel : Nat} {cs : List Value} {x : DataW H × List MemPlace} (h : DataW.trod enc Tryz.prog w base spare held fuel 159 cs=some x) : ∃ y : Mt,mtR cs y:=by
 obtain⟨h1,n,h2⟩:=trod_fields5 Tryz.underlying159 h
 have hc : Tryz.prog.cellsOf 159=3:=by kernel_rfl
 have c1 : Tryz.prog.cellsOf 9=1:=by kernel_rfl
 have c2 : Tryz.prog.cellsOf 3=1:=by kernel_rfl
 rw [hc] at h1
 match cs,h1 with
 | [a0,a1,a2],_=>
  obtain⟨y0,k0⟩:=h2 0 9 0 1 [a0] rfl c1 rfl
  obtain⟨y1,k1⟩:=h2 1 3 1 1 [a1] rfl c2 rfl
  obtain⟨y2,k2⟩:=h2 2 3 2 1 [a2] rfl c2 rfl
  obtain⟨s,e0,-⟩:=trod_str Tryz.underlying9 k0
  obtain⟨n1,e1,-⟩:=trod_i64 Tryz.underlying3 k1
  obtain⟨n2,e2,-⟩:=trod_i64 Tryz.underlying3 k2
  simp at e0 e1 e2
  subst e0 e1 e2
  exact⟨⟨s,n1,n2⟩,rfl⟩
set_option maxRecDepth 100000 in
theorem trod_it {fuel : Nat} {cs : List Value} {x : DataW H × List MemPlace} (h : DataW.trod enc Tryz.prog w base spare held fuel 161 cs=some x) : ∃ y : It,itR cs y:=by
 obtain⟨h1,n,h2⟩:=trod_fields5 Tryz.underlying161 h
 have hc : Tryz.prog.cellsOf 161=7:=by kernel_rfl
 have c1 : Tryz.prog.cellsOf 9=1:=by kernel_rfl
 have c2 : Tryz.prog.cellsOf 3=1:=by kernel_rfl
 rw [hc] at h1
 match cs,h1 with
 | [a0,a1,a2,a3,a4,a5,a6],_=>
  obtain⟨y0,k0⟩:=h2 0 9 0 1 [a0] rfl c1 rfl
  obtain⟨y1,k1⟩:=h2 1 3 1 1 [a1] rfl c2 rfl
  obtain⟨y2,k2⟩:=h2 2 3 2 1 [a2] rfl c2 rfl
  obtain⟨y3,k3⟩:=h2 3 3 3 1 [a3] rfl c2 rfl
  obtain⟨y4,k4⟩:=h2 4 3 4 1 [a4] rfl c2 rfl
  obtain⟨y5,k5⟩:=h2 5 3 5 1 [a5] rfl c2 rfl
  obtain⟨y6,k6⟩:=h2 6 9 6 1 [a6] rfl c1 rfl
  obtain⟨s,e0,-⟩:=trod_str Tryz.underlying9 k0
  obtain⟨n1,e1,-⟩:=trod_i64 Tryz.underlying3 k1
  obtain⟨n2,e2,-⟩:=trod_i64 Tryz.underlying3 k2
  obtain⟨n3,e3,-⟩:=trod_i64 Tryz.underlying3 k3
  obtain⟨n4,e4,-⟩:=trod_i64 Tryz.underlying3 k4
  obtain⟨n5,e5,-⟩:=trod_i64 Tryz.underlying3 k5
  obtain⟨s6,e6,-⟩:=trod_str Tryz.underlying9 k6
  simp at e0 e1 e2 e3 e4 e5 e6
  subst e0 e1 e2 e3 e4 e5 e6
  exact⟨⟨s,n1,n2,n3,n4,n5,s6⟩,rfl⟩
set_option maxRecDepth 100000 in
theorem trod_seed {fuel : Nat} {cs : List Value} {x : DataW H × List MemPlace} (h : DataW.trod enc Tryz.prog w base spare held fuel 25 cs=some x) :
  ∃ ma mn mc ia il ic ms is,cs=[.slice ma mn mc,.slice ia il ic]∧SdAt w ma mn mc ia il ic ms is:=by
 obtain⟨h1,n,h2⟩:=trod_fields5 Tryz.underlying25 h
 have hc : Tryz.prog.cellsOf 25=2:=by kernel_rfl
 have c1 : Tryz.prog.cellsOf 22=1:=by kernel_rfl
 have c2 : Tryz.prog.cellsOf 23=1:=by kernel_rfl
 rw [hc] at h1
 match cs,h1 with
 | [a0,a1],_=>
  obtain⟨y0,k0⟩:=h2 0 22 0 1 [a0] rfl c1 rfl
  obtain⟨y1,k1⟩:=h2 1 23 1 1 [a1] rfl c2 rfl
  obtain⟨ma,mn,mc,ms,e0,hm⟩:=open_sl (R:=mtR) (sz:=3) Tryz.underlying22 (by kernel_rfl) (by decide) (fun fuel cs x h=>trod_mt h) k0
  obtain⟨ia,il,ic,is,e1,hi⟩:=open_sl (R:=itR) (sz:=7) Tryz.underlying23 (by kernel_rfl) (by decide) (fun fuel cs x h=>trod_it h) k1
  simp at e0 e1
  subst e0 e1
  exact⟨ma,mn,mc,ia,il,ic,ms,is,rfl,⟨hm,hi⟩⟩
end
end Go.Proofs.YtihdbncoijhihaaGreatDoor
namespace Go.Proofs.YtihdbncoijhihaaGreatDoor
open Go.RowKit Go.ChangeShapes Go.WideShapes Go.ChangeAt
section
variable {H : Type} {enc : TypeId × Value→H} {w : World} {base : Nat} {spare : Nat→Bool} {held : Bool}
set_option maxRecDepth 100000 in
theorem trod_flt {fuel : Nat} {cs : List Value} {x : DataW H × List MemPlace} (h : DataW.trod enc Tryz.prog w base spare held fuel 332 cs=some x) : ∃ y : Int × Int,fltR cs y:=by
 obtain⟨h1,n,h2⟩:=trod_fields5 Tryz.underlying332 h
 have hc : Tryz.prog.cellsOf 332=2:=by kernel_rfl
 have c1 : Tryz.prog.cellsOf 3=1:=by kernel_rfl
 have c2 : Tryz.prog.cellsOf 48=1:=by kernel_rfl
 rw [hc] at h1
 match cs,h1 with
 | [a0,a1],_=>
  obtain⟨y0,k0⟩:=h2 0 3 0 1 [a0] rfl c1 rfl
  obtain⟨y1,k1⟩:=h2 1 48 1 1 [a1] rfl c2 rfl
  obtain⟨n0,e0,-⟩:=trod_i64 Tryz.underlying3 k0
  obtain⟨n1,e1,-⟩:=trod_i64 Tryz.underlying48 k1
  simp at e0 e1
  subst e0 e1
  exact⟨(n0,n1),rfl⟩
end
end Go.Proofs.YtihdbncoijhihaaGreatDoor
namespace Go.Proofs.YtihdbncoijhihaaGreatDoor
open Go.RowKit Go.ChangeShapes Go.WideShapes Go.ChangeAt
section
variable {H : Type} {enc : TypeId × Value→H} {w : World} {base : Nat} {spare : Nat→Bool} {held : Bool}
set_option maxRecDepth 100000 in
theorem trod_user {fuel : Nat} {cs : List Value} {x : DataW H × List MemPlace} (h : DataW.trod enc Tryz.prog w base spare held fuel 70 cs=some x) : ∃ u g s,cs=[.int .i64 u,.int .i64 g,.string s]∧(-9223372036854775808≤u∧u≤9223372036854775807)∧s.size≤9223372036854775807:=by
 obtain⟨h1,n,h2⟩:=trod_fields5 Tryz.underlying70 h
 have hc : Tryz.prog.cellsOf 70=3:=by kernel_rfl
 have c1 : Tryz.prog.cellsOf 3=1:=by kernel_rfl
 have c2 : Tryz.prog.cellsOf 9=1:=by kernel_rfl
 rw [hc] at h1
 match cs,h1 with
 | [a0,a1,a2],_=>
  obtain⟨y0,k0⟩:=h2 0 3 0 1 [a0] rfl c1 rfl
  obtain⟨y1,k1⟩:=h2 1 3 1 1 [a1] rfl c1 rfl
  obtain⟨y2,k2⟩:=h2 2 9 2 1 [a2] rfl c2 rfl
  obtain⟨n0,e0,f0⟩:=trod_i64 Tryz.underlying3 k0
  obtain⟨n1,e1,-⟩:=trod_i64 Tryz.underlying3 k1
  obtain⟨s2,e2,h3⟩:=trod_str Tryz.underlying9 k2
  simp at e0 e1 e2
  subst e0 e1 e2
  exact⟨n0,n1,s2,rfl,f0,h3⟩
set_option maxRecDepth 100000 in
theorem trod_case30 {fuel : Nat} {cs : List Value} {x : DataW H × List MemPlace} (h : DataW.trod enc Tryz.prog w base spare held fuel 72 cs=some x) :
  ∃ ma mn mc ia il ic ms is u g dt pt tx no now pa pn pc pl,cs=[.slice ma mn mc,.slice ia il ic,.int .i64 u,.int .i64 g,.string dt,.string pt,.string tx,.int .i64 no,.int .i64 now,.slice pa pn pc]∧SdAt w ma mn mc ia il ic ms is∧SliceAt w 2 fltR pa pn pc pl∧(-9223372036854775808≤u∧u≤9223372036854775807)∧dt.size≤9223372036854775807∧pt.size≤9223372036854775807∧tx.size≤9223372036854775807:=by
 obtain⟨h1,n,h2⟩:=trod_fields5 Tryz.underlying72 h
 have hc : Tryz.prog.cellsOf 72=10:=by kernel_rfl
 have c1 : Tryz.prog.cellsOf 25=2:=by kernel_rfl
 have c2 : Tryz.prog.cellsOf 70=3:=by kernel_rfl
 have c3 : Tryz.prog.cellsOf 3=1:=by kernel_rfl
 have c4 : Tryz.prog.cellsOf 9=1:=by kernel_rfl
 have c5 : Tryz.prog.cellsOf 28=1:=by kernel_rfl
 rw [hc] at h1
 match cs,h1 with
 | [a0,a1,a2,a3,a4,a5,a6,a7,a8,a9],_=>
  obtain⟨y0,k0⟩:=h2 0 25 0 2 [a0,a1] rfl c1 rfl
  obtain⟨y1,k1⟩:=h2 1 70 2 3 [a2,a3,a4] rfl c2 rfl
  obtain⟨y2,k2⟩:=h2 2 9 5 1 [a5] rfl c4 rfl
  obtain⟨y3,k3⟩:=h2 3 9 6 1 [a6] rfl c4 rfl
  obtain⟨y4,k4⟩:=h2 4 3 7 1 [a7] rfl c3 rfl
  obtain⟨y5,k5⟩:=h2 5 3 8 1 [a8] rfl c3 rfl
  obtain⟨y6,k6⟩:=h2 6 28 9 1 [a9] rfl c5 rfl
  obtain⟨ma,mn,mc,ia,il,ic,ms,is,e0,hs⟩:=trod_seed k0
  obtain⟨u,g,dt,e1,hu,hdt⟩:=trod_user k1
  obtain⟨s2,e2,z2⟩:=trod_str Tryz.underlying9 k2
  obtain⟨s3,e3,z3⟩:=trod_str Tryz.underlying9 k3
  obtain⟨n4,e4,-⟩:=trod_i64 Tryz.underlying3 k4
  obtain⟨n5,e5,-⟩:=trod_i64 Tryz.underlying3 k5
  obtain⟨pa,pn,pc,pl,e6,hp⟩:=open_sl (R:=fltR) (sz:=2) Tryz.underlying28 (by kernel_rfl) (by decide) (fun fuel cs x h=>trod_flt h) k6
  simp at e0 e1 e2 e3 e4 e5 e6
  obtain⟨rfl,rfl⟩:=e0
  obtain⟨rfl,rfl,rfl⟩:=e1
  subst e2 e3 e4 e5 e6
  exact⟨ma,mn,mc,ia,il,ic,ms,is,u,g,dt,s2,s3,n4,n5,pa,pn,pc,pl,rfl,hs,hp,hu,hdt,z2,z3⟩
end
end Go.Proofs.YtihdbncoijhihaaGreatDoor
namespace Go.Proofs.YtihdbncoijhihaaGreatDoor
open Go.ChangeShapes Go.WideShapes Go.ChangeAt
theorem and_i {a b : Bool} (h : a=true) (k : b=true) : (a && b)=true:=by
 rw [h,k]
 rfl
theorem joined_of {P : Program} {f : FuncId} {fn : Func} {s : ChangeSpec} {c : OpenClaim}
  (h0 : (c.wf (OpenSpec.ofChange s))=true)
  (h1 : (laidOutB P)=true)
  (h2 : (mapsRowed P)=true)
  (h3 : (fn.params.all (P.readableRec ·))=true)
  (h4 : (namedTie P c.named s.vars)=true)
  (h5 : ((c.stops == []))=true)
  (h6 : ((P.stops == []))=true)
  (h7 : ((c.knobs == []))=true)
  (h8 : ((P.stopKnobs == []))=true)
  (h9 : ((c.inPlace == P.inPlace f))=true)
  (h10 : ((c.unfollowed == P.unfollowed f))=true)
  (h11 : ((c.recurses == P.recurses f))=true)
  (h12 : ((c.named == P.varsNamed f))=true)
  (h13 : ((c.maps == (fn.params.toList ++ s.plain.varTypes P).any (P.mapsRec ·)))=true)
  (h14 : ((c.ifaces == (fn.params.toList ++ s.plain.varTypes P).any (P.ifacesRec ·)))=true)
  (h15 : ((c.mapsOut == P.mapsAmong fn.resultTypes.toList))=true)
  (h16 : ((c.loops == (fn.params.toList ++ s.plain.varTypes P).any (P.loopsFrom ·)))=true)
  (h17 : ((c.wideKeys == (fn.params.toList ++ s.plain.varTypes P ++ fn.resultTypes.toList).any (P.wideKeysFrom ·)))=true)
  (h18 : (s.vars.all (P.varReadable ·))=true)
  (h19 : (fn.resultTypes.all (fun t=>P.readableRec t && decide (t < P.types.size)))=true)
  (h20 : ((c.ifacesOut == fn.resultTypes.toList.any (P.ifacesRec ·)))=true)
  (h21 : ((c.loopsOut == fn.resultTypes.toList.any (P.loopsFrom ·)))=true)
  (h22 : ((c.plainKeys == P.plainKeys))=true)
  (h23 : (c.shortTexts.isNone)=true)
  (h24 : (P.stopsHeard)=true)
  (h25 : (P.mayEnter)=true)
  (h26 : ((c.lifted == P.liftsFinal))=true)
  (h27 : ((P.make == some c.make))=true)
  (h28 : ((c.kinds == (if c.domain.isEmpty then [] else fn.params.toList.map fun t=>match P.underlying t with | some (.int k)=>some k | _=>none)))=true)
  (h29 : ((c.pinned == c.pinnedBy))=true)
  (h30 : ((c.veiled == (fn.params.toList ++ s.plain.varTypes P ++ fn.resultTypes.toList).any (P.veiledRec ·)))=true)
  (h31 : (c.veiledFits P fn.params.toList (fn.params.toList ++ s.plain.varTypes P ++ fn.resultTypes.toList))=true) :
  joinedFacts P f fn s c=true:=by
 unfold joinedFacts
 exact and_i (and_i (and_i (and_i (and_i (and_i (and_i (and_i (and_i (and_i (and_i (and_i (and_i (and_i (and_i (and_i (and_i (and_i (and_i (and_i (and_i (and_i (and_i (and_i (and_i (and_i (and_i (and_i (and_i (and_i (and_i h0 h1) h2) h3) h4) h5) h6) h7) h8) h9) h10) h11) h12) h13) h14) h15) h16) h17) h18) h19) h20) h21) h22) h23) h24) h25) h26) h27) h28) h29) h30) h31
end Go.Proofs.YtihdbncoijhihaaGreatDoor
