import Derived.Test.YtbndfmkgamdgeaaGreatDoorSO1
import Derived.Test.YtbndfmkgamdgeaaGreatDoorSO2
import Derived.Test.YtbndfmkgamdgeaaGreatDoorSO3
import Derived.Test.YtbndfmkgamdgeaaGreatDoorSO5
import Derived.Test.YtbndfmkgamdgeaaGreatDoorSO6
import Derived.Test.YtbndfmkgamdgeaaGreatDoorSO7
import Derived.Test.YtbndfmkgamdgeaaGreatDoorSO8
import Derived.Test.YtbndfmkgamdgeaaGreatDoorSO9
import Derived.Test.YtbndfmkgamdgeaaGreatDoorSO10
import Derived.Test.YtbndfmkgamdgeaaGreatDoorSO13
import Derived.Test.YtbndfmkgamdgeaaGreatDoorSO16
import Derived.Test.YtbndfmkgamdgeaaGreatDoorSO17
set_option linter.unusedVariables false
set_option linter.unusedSimpArgs false
set_option maxRecDepth 100000
set_option maxHeartbeats 16000000
namespace Go.Proofs.YtbndfmkgamdgeaaGreatDoor
section
open Go.RowKit
theorem blenK_any (b:Nat) (l:List UInt8) (w:World) (h:BldK b l w) :
  Calls Tryz.prog 176 #[.pointer (some ⟨b,0,none⟩)] w fun e w'=>e=.returned (.int .i64 l.length)∧w'=w:=by
 refine (Tryz.Builder_Len_f b b (Lib.byteCells l) w h).mono ?_;rintro e w' ⟨rfl,rfl⟩;exact⟨by rw [byteCells_len],rfl⟩
theorem catL_cons (x:List UInt8) (l:List (List UInt8)):catL (x :: l)=catL l ++ (47 :: x):=by simp [catL]
section
variable {w w':World} {pw:Nat} {R:Rp} {S:Fs}
theorem wget_u (h:WdAt w pw R S) (k:Int):∃ a ea el ec b,EntsAt w ea el ec a.ents∧a.ents=S.entsOf k∧(S.get k=some a∧b=true∨(S.get k=none∧a=an0∧b=false))∧
  ∀ w1,Below w.heap.size w w1→Calls Tryz.prog 132 #[.pointer (some ⟨R.pt,0,none⟩),.int .i64 k] w1 fun e w'=>e=.returned (.tuple #[.agg #[.int .i64 a.no,.int .i64 a.dev,.int .i64 a.kind,.int .i64 a.mode,.int .i64 a.uid,.int .i64 a.gid,.int .i64 a.mtime,.int .i64 a.ctime,.int .i64 a.links,.int .i64 a.up,.string a.data,.slice ea el ec],.bool b])∧Below w1.heap.size w1 w':=by
 cases hg:S.get k with
 | none=>exact ⟨an0,none,0,0,false,EntsAt.nil w,by unfold Fs.entsOf;rw [hg];rfl,.inr ⟨rfl,rfl,rfl⟩,fun w1 hb=>wget_no (h.keep hb) hg⟩
 | some a=>
  obtain⟨ea,el,ec,he,hc⟩:=wget_fix h hg;exact⟨a,ea,el,ec,true,he,by unfold Fs.entsOf;rw [hg],.inl ⟨rfl,rfl⟩,hc⟩
theorem child_w {N:Nat} (hk:FsOk S N) (hp:Pl S) {x:Int} (hu:S.above x≠x) {a:An} {b:Bool} (h:S.get x=some a∧b=true∨(S.get x=none∧a=an0∧b=false)) :
  (S.root a.dev≠x→S.child x=x)∧(S.root a.dev=x→∃ (k:Nat) (hkl:k<S.ds.length),a.dev=(k:Int)+1∧S.child x=S.ds[k].over):=by
 rcases h with ⟨h,-⟩|⟨h,rfl,-⟩
 ·refine ⟨fun hr=>child_same h hr,fun hr=>?_⟩;have h1:x≠1:=by
   rintro rfl;exact hu (above_one hk hp)
  obtain⟨hd1,v,hv,hc⟩:=child_over hk hp h hr h1;have hd2:=(hk.get h).1.dev.2;have hkl:(a.dev - 1).toNat<S.ds.length:=by omega
  refine ⟨(a.dev - 1).toNat,hkl,by omega,?_⟩;rw [hc];unfold Fs.dev at hv;rw [if_pos (by omega),List.getElem?_eq_getElem hkl] at hv;injection hv with hv;rw [hv]
 ·refine ⟨fun _=>child_none h,fun hr=>?_⟩;exfalso;have h0:S.root an0.dev=0:=by unfold Fs.root;rw [if_neg (fun h=>absurd h.1 (by decide))]
  rw [h0] at hr;rw [←hr,above_zero hk] at hu;exact hu rfl
theorem ents_some {x:Int} {nm:ByteArray} {c:Int} (h:entName (S.entsOf x) c=some nm) {a:An} {b:Bool} (hg:S.get x=some a∧b=true∨(S.get x=none∧a=an0∧b=false)):b=true:=by
 rcases hg with ⟨-,h⟩|⟨hg,-⟩
 ·exact h
 ·unfold Fs.entsOf at h;rw [hg] at h
  cases h
theorem up_less {N:Nat} (hk:FsOk S N) (hp:Pl S) {x c:Int} {nm:ByteArray} (hu:S.above x≠x) (h:entName (S.entsOf (S.above x)) c=some nm):(S.above x).toNat<x.toNat:=by
 rcases above_step hk hp hu with h0 | ⟨h1,h2,-,-⟩
 ·rw [h0,ents_zero hk] at h
  cases h
 ·omega
theorem wwhere_any (h:WdAt w pw R S) {N:Nat} (hk:FsOk S N) (hp:Pl S) (hl:S.ns.length≤100000) (no:Int) :
  Calls Tryz.prog 116 #[.pointer (some ⟨pw,0,none⟩),.int .i64 no] w fun e w'=>e=.returned (whereV (S.place_ no))∧Below w.heap.size w w':=by
 have HNn:=Lib.hid (wnone_any h hk.d1);obtain⟨g,cap,hv,hle,h63,hgl,hcd,-,-⟩:=h.devF hk.d1;have hd1:=hk.d1;have hd8:=hk.d8;have HA:=Lib.hid (fun w1 (hb1:Below w.heap.size w w1) x=>wabove_any (h.keep hb1) hk x);have HRo:=Lib.hid (fun w1 (hb1:Below w.heap.size w w1) x=>wroot_any (h.keep hb1) hk.d1 x);have HG:=Lib.hid (fun w1 (hb1:Below w.heap.size w w1) x=>wget_u (h.keep hb1) x);have HStart:=Lib.hid (WhSt.start hp no);have hb:=h.blk;rw [hv] at hb;have HB:=Lib.hid hb;have HC:=Lib.hid (fun k (hk:k<S.ds.length)=>(hcd k hk).c1);have HK:=Lib.hid (And.intro hk hp);have HL:=Lib.hid hl;obtain⟨m,hm⟩:∃ m,S.ds.length=m:=⟨_,rfl⟩;have HM:=Lib.hid hm;rw [hm] at HB hle hd1 hd8;have mixed:Tryz.prog.follows .mixedOrders=true:=by kernel_rfl
 have hm0:(0:Int)<(m:Int):=by omega
 clear h hk hp hv hb hcd hm hl;go_enter Tryz.func116,Tryz.ntmps116;go_wp2_with fail;refine HNn.out.mono ?_;rintro e w1 ⟨rfl,rfl⟩;go_wp2_with fail;refine (HA.out w (Below.refl _ _) no).mono ?_;rintro e w1 ⟨rfl,hb1⟩;have HB1:=Lib.hid hb1;clear hb1;go_wp2_with fail
 go_loopw [1,6,7] (fun t1 t6 t7 wr=>∃ (x:Int) (l:List (List UInt8)),t1=.int .i64 x∧t7=.int .i64 (S.above x)∧OS wr w.heap.size t6 l∧WhSt S no x l∧Below w.heap.size w wr) (fun t1 _ _ _=>(intOf t1).toNat)
 case atStart=>exact ⟨no,[],rfl,rfl,OS.nil _ _,HStart.out,HB1.out⟩
 case round=>
  obtain⟨x,l,rfl,rfl,hO,hW,hbw⟩:=hrel;obtain⟨la,lc,rfl,hlc1,hlc2⟩:=hO.len;have HO:=Lib.hid hO;have HW:=Lib.hid hW;have HBw:=Lib.hid hbw;have hlen:l.length≤100000:=Nat.le_trans hW.few HL.out;obtain⟨bc,bf,bz⟩:=(HB.out.keep hbw).facts;clear hO hW;by_cases hx:S.above x=x
  ·have px:(S.above x != x)=false:=by simpa using hx
   have HX:=Lib.hid hx;have HTop:=Lib.hid (fun (h1:x=1)=>(show WhSt S no 1 l from h1 ▸ HW.out).top HK.out.1 HK.out.2);have HOther:=Lib.hid (fun (h1:x≠1)=>HW.out.other HK.out.1 HK.out.2 HX.out h1);have HSm:=Lib.hid HW.out.small;generalize S.above x=ab at px ⊢;obtain⟨w0,hw0⟩:∃ w0,w0=wr:=⟨_,rfl⟩;subst hw0;have hK0:=BldK.of (Bld.new w0);have hbX:=(Below.refl w0.heap.size w0).alloc (Nat.le_refl _) (.cells #[.pointer none,.slice none 0 0] 171);clear hx hbw bc bf bz;go_upto_region 17 with fail;generalize w0.alloc (.cells #[.pointer none,.slice none 0 0] 171)=X at hK0 hbX ⊢;have HK0:=Lib.hid hK0;have HBX:=Lib.hid hbX;clear hK0 hbX;go_wp2_with fail
   go_loopw [15] (fun t15 w3=>∃ i:Int,-1≤i∧i<l.length∧t15=.int .i64 i∧BldK w0.heap.size (catL (l.drop (i+1).toNat)) w3∧Below w0.heap.size w0 w3) (fun t15 _=>(intOf t15+1).toNat)
   case atStart=>exact ⟨(l.length:Int) - 1,by omega,by omega,by go_num,by rw [show ((l.length:Int) - 1+1).toNat=l.length by omega,List.drop_length];exact HK0.out,HBX.out⟩
   case round=>
    obtain⟨i,hi1,hi2,rfl,hB3,hb3⟩:=hrel;have HB3:=Lib.hid hB3;have Hb3:=Lib.hid hb3;clear hB3 hb3;by_cases h0:0≤i
    ·obtain ⟨j,rfl⟩:=Int.eq_ofNat_of_zero_le h0;have hjl:j<l.length:=by omega
     have hge:(0:Int)≤(j:Int):=h0;have hO3:OS wr w.heap.size (.slice la l.length lc) l:=own_below HO.out Hb3.out (Nat.le_refl _);obtain⟨g3,rfl,hg3,hcl⟩:=hO3.at' j hjl;have hsm:=HSm.out l[j] (List.getElem_mem hjl);have HQ:=Lib.hid (show catL (l.drop ((j:Int) - 1+1).toNat)=catL (l.drop ((j:Int)+1).toNat) ++ (47 :: l[j]) by
      rw [show ((j:Int) - 1+1).toNat=j by omega,show ((j:Int)+1).toNat=j+1 by omega,List.drop_eq_getElem_cons hjl,catL_cons])
     have hcl2:(catL (l.drop ((j:Int)+1).toNat)).length≤1000000000:=by
      have h1:=catL_len (l:=l.drop ((j:Int)+1).toNat) (fun x hx=>HSm.out x (List.mem_of_mem_drop hx));have h2:(l.drop ((j:Int)+1).toNat).length≤l.length:=by rw [List.length_drop];omega
      omega
     have hqs:=str_size l[j];have HSt:=Lib.hid (show (ByteArray.mk #[47] ++ str l[j]).data.toList=47 :: l[j] by
      rw [show ByteArray.mk #[47]=str [47] from rfl,str_append,str_list];rfl)
     have hss:(ByteArray.mk #[47] ++ str l[j]).size≤1000000000:=by
      rw [ByteArray.size_append];show 1+(str l[j]).size≤_;omega
     have HWs:=Lib.hid (wsK_any w0.heap.size (catL (l.drop ((j:Int)+1).toNat)) (ByteArray.mk #[47] ++ str l[j]) wr HB3.out hcl2 hss);rw [HSt.out,←HQ.out] at HWs;have hs0:¬ 9223372036854775807<1+(str l[j]).size:=by omega
     generalize str l[j]=q at hcl HWs hs0;clear h0 hO3 hsm HQ hcl2 hqs HSt hss;go_wp2_with fail;refine HWs.out.mono ?_;rintro e w5 ⟨rfl,hB5,hb5,-⟩;have HB5:=Lib.hid hB5;have Hb5:=Lib.hid (Hb3.out.trans hb5);clear hB5 hb5;go_wp2_with fail;go_roundw
     case measure=>simp [intOf]
     case rel=>exact ⟨(j:Int) - 1,by omega,by omega,by go_num,HB5.out,Hb5.out⟩
    ·obtain rfl:i=-1:=by omega
     rw [show ((-1:Int)+1).toNat=0 from rfl,List.drop_zero] at HB3;have Hbb:=Lib.hid (HBw.out.trans (Hb3.out.mono HBw.out.size));clear h0 hi1 hi2;by_cases h1:x=1
     ·have p1:(x != 1)=false:=by simpa using h1
      have HO2:=Lib.hid (HTop.out h1);have HLn:=Lib.hid (blenK_any w0.heap.size (catL l) wr HB3.out);clear h1;by_cases hl0:l=[]
      ·rw [if_pos hl0] at HO2;have hz:(((catL l).length:Int) == 0)=true:=by rw [hl0];rfl
       generalize ((catL l).length:Int)=ln at hz HLn;clear hl0;go_wp2_with fail;refine HLn.out.mono ?_;rintro e w6 ⟨rfl,rfl⟩;go_wp2_with fail;go_ret2;rw [HO2.out];exact⟨rfl,Hbb.out⟩
      ·rw [if_neg hl0] at HO2;have hne:catL l≠[]:=fun h=>hl0 ((catL_nil l).1 h);have hz:(((catL l).length:Int) == 0)=false:=by
        simp only [beq_eq_false_iff_ne,ne_eq];intro h;exact hne (List.eq_nil_of_length_eq_zero (by omega))
       have HSs:=Lib.hid (bsK_any w0.heap.size (catL l) wr HB3.out hne);generalize ((catL l).length:Int)=ln at hz HLn;generalize str (catL l)=z at HSs HO2;clear hl0 hne;go_wp2_with fail;refine HLn.out.mono ?_;rintro e w6 ⟨rfl,rfl⟩;go_wp2_with fail;refine HSs.out.mono ?_;rintro e w7 ⟨rfl,hb7⟩;have Hb7:=Lib.hid (Hbb.out.trans (hb7.mono HBw.out.size));clear hb7;go_wp2_with fail;go_ret2;rw [HO2.out];exact⟨rfl,Hb7.out⟩
     ·have p1:(x != 1)=true:=by simpa using h1
      have HO2:=Lib.hid (HOther.out h1);clear h1;go_wp2_with fail;go_ret2;rw [HO2.out];exact⟨rfl,Hbb.out⟩
  ·have px:(S.above x != x)=true:=by simpa using hx
   have HX:=Lib.hid hx;obtain⟨up,hup⟩:∃ y,S.above x=y:=⟨_,rfl⟩;have HUp:=Lib.hid hup;rw [hup] at px ⊢;obtain⟨a,ea,el,ec,ab,-,-,hga,hcg⟩:=HG.out wr hbw x;have HCg:=Lib.hid (hcg wr (Below.refl _ _));have HCh:=Lib.hid (child_w HK.out.1 HK.out.2 hx hga);clear hcg hga hx hup;go_wp2_with fail;refine HCg.out.mono ?_;rintro e w2 ⟨rfl,hb2⟩;have hbX:=balloc (bnext HBw.out hb2) (.cells #[.int .i64 a.no,.int .i64 a.dev,.int .i64 a.kind,.int .i64 a.mode,.int .i64 a.uid,.int .i64 a.gid,.int .i64 a.mtime,.int .i64 a.ctime,.int .i64 a.links,.int .i64 a.up,.string a.data,.slice ea el ec] 163);have hb3:=balloc hb2 (.cells #[.int .i64 a.no,.int .i64 a.dev,.int .i64 a.kind,.int .i64 a.mode,.int .i64 a.uid,.int .i64 a.gid,.int .i64 a.mtime,.int .i64 a.ctime,.int .i64 a.links,.int .i64 a.up,.string a.data,.slice ea el ec] 163);have hX:=Blk.new w2 #[.int .i64 a.no,.int .i64 a.dev,.int .i64 a.kind,.int .i64 a.mode,.int .i64 a.uid,.int .i64 a.gid,.int .i64 a.mtime,.int .i64 a.ctime,.int .i64 a.links,.int .i64 a.up,.string a.data,.slice ea el ec] 163;clear hb2 HCg bc bf bz hbw;go_upto_region 8 with fail;generalize w2.alloc (.cells #[.int .i64 a.no,.int .i64 a.dev,.int .i64 a.kind,.int .i64 a.mode,.int .i64 a.uid,.int .i64 a.gid,.int .i64 a.mtime,.int .i64 a.ctime,.int .i64 a.links,.int .i64 a.up,.string a.data,.slice ea el ec] 163)=X at hbX hX hb3 ⊢;have HBX:=Lib.hid hbX;have HOX:=Lib.hid (HO.out.keep2 hb3);obtain⟨xc,xf,xz⟩:=hX.facts;obtain⟨bc,bf,bz⟩:=(HB.out.keep hbX).facts;have HRx:=Lib.hid (HRo.out X hbX a.dev);clear hb3 hX hbX HO HBw;obtain⟨ch,hch⟩:∃ y,S.child x=y:=⟨_,rfl⟩;have HChe:=Lib.hid hch;rw [hch] at HCh;clear hch
   go_cut [41] from 21 to 78 (fun t41 wx=>t41=.bool (S.root a.dev == x)∧wx=X)
   case first=>
    have hgoal:∀ z:Bool,(Value.bool z=Value.bool z∧X=X):=fun _=>⟨rfl,rfl⟩;go_wp2_with fail;refine HRx.out.mono ?_;rintro e w3 ⟨rfl,rfl⟩;go_wp2_with fail;go_meet;exact⟨rfl,rfl⟩
   case rest=>
   obtain⟨rfl,rfl⟩:=hcut
   go_step
   go_cut [1] from 21 to 78 (fun t1 wx=>t1=.int .i64 ch∧Below wc.heap.size wc wx)
   case first=>
    by_cases h3:S.root a.dev=x
    ·have q3:(S.root a.dev == x)=true:=by simpa using h3
     obtain⟨j,hjl,hj,hco⟩:=HCh.out.2 h3;have cc:=(HBX.out.cell (p:=⟨g,j*6+1,none⟩) hgl).trans (HC.out j hjl);have hj2:(j:Int)<(m:Int):=by have:=HM.out;omega
     have HO2:=Lib.hid hco;generalize S.ds[j].over=ov at cc HO2;have hgl2:g<wc.heap.size:=Nat.lt_of_lt_of_le hgl HBX.out.size;have hwr1:IntKind.i64.wrap ((j:Int)+1 - 1)=(j:Int):=by simp [IntKind.wrap,IntKind.bits,IntKind.signed];omega
     have hwr2:IntKind.i64.wrap (j:Int)=(j:Int):=by simp [IntKind.wrap,IntKind.bits,IntKind.signed];omega
     have hk0:(0:Int)≤(j:Int)∧((j:Int)).toNat=j:=by omega
     obtain⟨hk1',hk3'⟩:=hk0;generalize (S.root a.dev == x)=dd at q3 ⊢;subst q3;rw [hj] at xc;clear h3 hjl hco hj;go_wp2_with fail
     go_quiet (fail)
     go_wp2_with fail;go_meet;exact⟨by rw [HO2.out],below_drewN (Below.refl _ _) _⟩
    ·have q3:(S.root a.dev == x)=false:=by simpa using h3
     have HO2:=Lib.hid (HCh.out.1 h3);generalize (S.root a.dev == x)=dd at q3 ⊢;subst q3;clear h3;go_wp2_with fail;go_meet;exact⟨by rw [HO2.out],Below.refl _ _⟩
   case rest=>
   obtain⟨rfl,hbc⟩:=hcut;have HBc:=Lib.hid (bnext HBX.out hbc);have HOc:=Lib.hid (HOX.out.keep2 hbc);obtain⟨a2,fa,fl,fc,b2,hents,hee,hga2,hcg⟩:=HG.out wc HBc.out up;have HCg:=Lib.hid (hcg wc (Below.refl _ _));have HFail:=Lib.hid (fun hn=>HW.out.fail HK.out.1 HK.out.2 HX.out hn);have HMore:=Lib.hid (fun s hn=>HW.out.more HK.out.1 HK.out.2 HX.out (s:=s) hn);have HSome:=Lib.hid (fun nm hn=>ents_some (S:=S) (x:=up) (nm:=nm) (c:=ch) hn hga2);have HLess:=Lib.hid (fun s hn=>up_less HK.out.1 HK.out.2 (c:=ch) (nm:=s) HX.out hn);rw [HUp.out,←hee] at HLess;rw [HChe.out,HUp.out,←hee] at HFail HMore;rw [←hee] at HSome;generalize a2.ents=es at hents HFail HMore HSome HLess;have HEn:=Lib.hid hents;clear hbc hcg hents hee hga2 xc xf xz bc bf bz HBX HOX HRx;obtain⟨bc,bf,bz⟩:=(HB.out.keep HBc.out).facts;go_wp2_with fail;refine HCg.out.mono ?_;rintro e w4 ⟨rfl,hb4⟩;have hbY:=balloc (bnext HBc.out hb4) (.cells #[.int .i64 a2.no,.int .i64 a2.dev,.int .i64 a2.kind,.int .i64 a2.mode,.int .i64 a2.uid,.int .i64 a2.gid,.int .i64 a2.mtime,.int .i64 a2.ctime,.int .i64 a2.links,.int .i64 a2.up,.string a2.data,.slice fa fl fc] 163);have hb5:=balloc hb4 (.cells #[.int .i64 a2.no,.int .i64 a2.dev,.int .i64 a2.kind,.int .i64 a2.mode,.int .i64 a2.uid,.int .i64 a2.gid,.int .i64 a2.mtime,.int .i64 a2.ctime,.int .i64 a2.links,.int .i64 a2.up,.string a2.data,.slice fa fl fc] 163);have hY:=Blk.new w4 #[.int .i64 a2.no,.int .i64 a2.dev,.int .i64 a2.kind,.int .i64 a2.mode,.int .i64 a2.uid,.int .i64 a2.gid,.int .i64 a2.mtime,.int .i64 a2.ctime,.int .i64 a2.links,.int .i64 a2.up,.string a2.data,.slice fa fl fc] 163;clear hb4 HCg;go_upto_region 11 with fail;generalize w4.alloc (.cells #[.int .i64 a2.no,.int .i64 a2.dev,.int .i64 a2.kind,.int .i64 a2.mode,.int .i64 a2.uid,.int .i64 a2.gid,.int .i64 a2.mtime,.int .i64 a2.ctime,.int .i64 a2.links,.int .i64 a2.up,.string a2.data,.slice fa fl fc] 163)=Y at hbY hY hb5 ⊢;have HBY:=Lib.hid hbY;have HOY:=Lib.hid (HOc.out.keep2 hb5);obtain⟨yc,yf,yz⟩:=hY.facts;have HNm:=Lib.hid (ename_any es fa fl fc ch Y (HEn.out.keep hb5));unfold whereV at HNm;clear hb5 hY hbY HBc HOc HEn
   cases ho:entName es ch with
   | none=>
    rw [ho] at HNm;have HO2:=Lib.hid (show S.place_ no=none from HFail.out ho);simp only [Option.getD_none,Option.isSome_none] at HNm;clear ho
    cases b2 with
    | false=>
     go_wp2_with fail;refine HNm.out.mono ?_;rintro e w6 ⟨rfl,hb6⟩;have HB6:=Lib.hid (bnext HBY.out hb6);clear hb6 yc yf yz;go_wp2_with fail;go_ret2;rw [HO2.out];exact⟨rfl,HB6.out⟩
    | true=>
     go_wp2_with fail;refine HNm.out.mono ?_;rintro e w6 ⟨rfl,hb6⟩;have HB6:=Lib.hid (bnext HBY.out hb6);clear hb6 yc yf yz;go_wp2_with fail;go_ret2;rw [HO2.out];exact⟨rfl,HB6.out⟩
   | some nm=>
    rw [ho] at HNm;simp only [Option.getD_some,Option.isSome_some] at HNm;obtain rfl:b2=true:=HSome.out nm ho;have HMr:=Lib.hid (HMore.out nm ho);have HLs:=Lib.hid (HLess.out nm ho);clear ho;go_wp2_with fail;refine HNm.out.mono ?_;rintro e w6 ⟨rfl,hb6⟩;have hB6:=bnext HBY.out hb6;obtain⟨g2,cap2,W,hrun,hO7,hB7⟩:=(HOY.out.keep2 hb6).app nm.data.toList (by omega) hB6.size;rw [str_of] at hrun;have HR:=Lib.hid hrun;have HO7:=Lib.hid hO7;have HB7:=Lib.hid (hB6.trans hB7);have HAu:=Lib.hid (HA.out W HB7.out up);clear hb6 yc yf yz hrun hO7 hB7 hB6;go_wp2_with (at_builtin;refine wpList_app_run rfl rfl rfl rfl HR.out ?_);refine HAu.out.mono ?_;rintro e w8 ⟨rfl,hb8⟩;have HB8:=Lib.hid (bnext HB7.out hb8);have HO8:=Lib.hid (HO7.out.keep2 hb8);clear hb8;go_wp2_with fail;go_roundw
    case measure=>exact HLs.out
    case rel=>exact ⟨up,l ++ [nm.data.toList],rfl,rfl,HO8.out,HMr.out.1,HB8.out⟩
end
end
section
open Go.RowKit
theorem own_results {tmps:Array Value} {W:World} {B:Nat} {a:An} {ea:Option Addr} {el ec:Nat} {e:Int} (hb:Blk W B #[.int .i64 a.no,.int .i64 a.dev,.int .i64 a.kind,.int .i64 a.mode,.int .i64 a.uid,.int .i64 a.gid,.int .i64 a.mtime,.int .i64 a.ctime,.int .i64 a.links,.int .i64 a.up,.string a.data,.slice ea el ec] 163)
  (h8:tmps.getD 6 undef=.pointer (some ⟨B,0,none⟩)) (h9:tmps.getD 7 undef=.int .i64 e):(results Tryz.f155 tmps).run Tryz.prog W=.ok (.tuple #[a.v ea el ec,.int .i64 e]) W:=by
 obtain⟨q0,q1,q2,q3,q4,q5,q6,q7,q8,q9,q10,q11⟩:=hb.cells12;rw [Array.getD_eq_getD_getElem?] at h8 h9;simp [results,Tryz.results155,go_sem,An.v,h8,h9,q0,q1,q2,q3,q4,q5,q6,q7,q8,q9,q10,q11]
def Fs.ownE (S:Fs) (c:Cr) (no:Int):Int:=match S.get no with
 | none=>5
 | some n=>if ownsB c n=false then 4 else 0
section
variable {w w':World} {pw:Nat} {R:Rp} {S:Fs}
theorem own_none (h:WdAt w pw R S) {N:Nat} (hk:FsOk S N) (c:Cr) (no:Int) (hg:S.get no=none) :
  Calls Tryz.prog 155 #[.pointer (some ⟨pw,0,none⟩),.agg #[.int .i64 c.u,.int .i64 c.g],.int .i64 no] w fun e w'=>e=.returned (.tuple #[an0.v none 0 0,.int .i64 5])∧Below w.heap.size w w':=by
 have HDv:=Lib.hid (fun w1 (hb1:Below w.heap.size w w1)=>wdevs_any (h.keep hb1) hk.d1);have hnz:=hk.d1;generalize S.ds.length=n at HDv hnz;have hz:((n:Int) == 0)=false:=by simp;omega
 have HG:=Lib.hid (fun w1 (hb1:Below w.heap.size w w1)=>wget_no (h.keep hb1) hg);obtain⟨pc,-,pz⟩:=h.blk.facts;unfold An.v an0 at HG;clear h hk hg;go_enter Tryz.func155,Tryz.ntmps155;go_wp2_with fail;refine (HDv.out _ (balloc (balloc (Below.refl _ _) _) _)).mono ?_;rintro e w1 ⟨rfl,rfl⟩;go_wp2_with fail;refine (HG.out _ (balloc (balloc (Below.refl _ _) _) _)).mono ?_;rintro e w1 ⟨rfl,hb1⟩;have hb2:=bnext (balloc (balloc (Below.refl w.heap.size w) _) _) hb1;have hR:Blk w1 (w.heap.size+1) #[.int .i64 0,.int .i64 0,.int .i64 0,.int .i64 0,.int .i64 0,.int .i64 0,.int .i64 0,.int .i64 0,.int .i64 0,.int .i64 0,.string ⟨#[]⟩,.slice none 0 0] 163:=by
  have:=((Blk.new (w.alloc (.cells #[.int .i64 c.u,.int .i64 c.g] 54)) #[.int .i64 0,.int .i64 0,.int .i64 0,.int .i64 0,.int .i64 0,.int .i64 0,.int .i64 0,.int .i64 0,.int .i64 0,.int .i64 0,.string ⟨#[]⟩,.slice none 0 0] 163).keep hb1)
  rwa [World.size_alloc] at this
 have hRX:=hR.old (.cells #[.int .i64 0,.int .i64 0,.int .i64 0,.int .i64 0,.int .i64 0,.int .i64 0,.int .i64 0,.int .i64 0,.int .i64 0,.int .i64 0,.string ByteArray.empty,.slice none 0 0] 163);have hbX:=balloc hb2 (.cells #[.int .i64 0,.int .i64 0,.int .i64 0,.int .i64 0,.int .i64 0,.int .i64 0,.int .i64 0,.int .i64 0,.int .i64 0,.int .i64 0,.string ByteArray.empty,.slice none 0 0] 163);clear hR hb1 hb2 pc;go_upto_region 4 with fail;generalize w1.alloc (.cells #[.int .i64 0,.int .i64 0,.int .i64 0,.int .i64 0,.int .i64 0,.int .i64 0,.int .i64 0,.int .i64 0,.int .i64 0,.int .i64 0,.string ByteArray.empty,.slice none 0 0] 163)=X at hRX hbX ⊢;have HRX:=Lib.hid hRX;have HBX:=Lib.hid hbX;obtain⟨rc,rf,rz⟩:=hRX.facts;clear hRX hbX;go_wp2_with fail;exact bodyPost_ret (own_results (a:=an0) HRX.out.set12 rfl rfl) rfl ⟨rfl,below_set12 HBX.out (Nat.le_succ _)⟩
theorem own_some (h:WdAt w pw R S) {N:Nat} (hk:FsOk S N) (c:Cr) (no:Int) (d:An) (hg:S.get no=some d) :
  Calls Tryz.prog 155 #[.pointer (some ⟨pw,0,none⟩),.agg #[.int .i64 c.u,.int .i64 c.g],.int .i64 no] w fun e w'=>((ownsB c d=false∧e=.returned (.tuple #[an0.v none 0 0,.int .i64 4]))∨(ownsB c d=true∧∃ ea el ec,e=.returned (.tuple #[d.v ea el ec,.int .i64 0])∧EntsAt w ea el ec d.ents))∧Below w.heap.size w w':=by
 have HDv:=Lib.hid (fun w1 (hb1:Below w.heap.size w w1)=>wdevs_any (h.keep hb1) hk.d1);have hnz:=hk.d1;generalize S.ds.length=n at HDv hnz;have hz:((n:Int) == 0)=false:=by simp;omega
 obtain⟨ea,el,ec,he,hG⟩:=wget_fix h hg;have HE:=Lib.hid he;have HG:=Lib.hid hG;unfold An.v at HG;have HNd:=Lib.hid (fun w=>powns_any c d ea el ec w);unfold Cr.v An.v at HNd;obtain⟨pc,-,pz⟩:=h.blk.facts;generalize ownsB c d=my at HNd ⊢;clear h hk hg he hG;go_enter Tryz.func155,Tryz.ntmps155;go_wp2_with fail;refine (HDv.out _ (balloc (balloc (Below.refl _ _) _) _)).mono ?_;rintro e w1 ⟨rfl,rfl⟩;go_wp2_with fail;refine (HG.out _ (balloc (balloc (Below.refl _ _) _) _)).mono ?_;rintro e w1 ⟨rfl,hb1⟩;have hb2:=bnext (balloc (balloc (Below.refl w.heap.size w) _) _) hb1;have hR:Blk w1 (w.heap.size+1) #[.int .i64 0,.int .i64 0,.int .i64 0,.int .i64 0,.int .i64 0,.int .i64 0,.int .i64 0,.int .i64 0,.int .i64 0,.int .i64 0,.string ⟨#[]⟩,.slice none 0 0] 163:=by
  have:=((Blk.new (w.alloc (.cells #[.int .i64 c.u,.int .i64 c.g] 54)) #[.int .i64 0,.int .i64 0,.int .i64 0,.int .i64 0,.int .i64 0,.int .i64 0,.int .i64 0,.int .i64 0,.int .i64 0,.int .i64 0,.string ⟨#[]⟩,.slice none 0 0] 163).keep hb1)
  rwa [World.size_alloc] at this
 have hCr:Blk w1 w.heap.size #[.int .i64 c.u,.int .i64 c.g] 54:=((Blk.new w #[.int .i64 c.u,.int .i64 c.g] 54).old (.cells #[.int .i64 0,.int .i64 0,.int .i64 0,.int .i64 0,.int .i64 0,.int .i64 0,.int .i64 0,.int .i64 0,.int .i64 0,.int .i64 0,.string ⟨#[]⟩,.slice none 0 0] 163)).keep hb1;have hRX:=hR.old (.cells #[.int .i64 d.no,.int .i64 d.dev,.int .i64 d.kind,.int .i64 d.mode,.int .i64 d.uid,.int .i64 d.gid,.int .i64 d.mtime,.int .i64 d.ctime,.int .i64 d.links,.int .i64 d.up,.string d.data,.slice ea el ec] 163);have hCX:=hCr.old (.cells #[.int .i64 d.no,.int .i64 d.dev,.int .i64 d.kind,.int .i64 d.mode,.int .i64 d.uid,.int .i64 d.gid,.int .i64 d.mtime,.int .i64 d.ctime,.int .i64 d.links,.int .i64 d.up,.string d.data,.slice ea el ec] 163);have hDX:=Blk.new w1 #[.int .i64 d.no,.int .i64 d.dev,.int .i64 d.kind,.int .i64 d.mode,.int .i64 d.uid,.int .i64 d.gid,.int .i64 d.mtime,.int .i64 d.ctime,.int .i64 d.links,.int .i64 d.up,.string d.data,.slice ea el ec] 163;have hbX:=balloc hb2 (.cells #[.int .i64 d.no,.int .i64 d.dev,.int .i64 d.kind,.int .i64 d.mode,.int .i64 d.uid,.int .i64 d.gid,.int .i64 d.mtime,.int .i64 d.ctime,.int .i64 d.links,.int .i64 d.up,.string d.data,.slice ea el ec] 163);clear hR hCr hb1 hb2 pc;go_upto_region 4 with fail;generalize w1.alloc (.cells #[.int .i64 d.no,.int .i64 d.dev,.int .i64 d.kind,.int .i64 d.mode,.int .i64 d.uid,.int .i64 d.gid,.int .i64 d.mtime,.int .i64 d.ctime,.int .i64 d.links,.int .i64 d.up,.string d.data,.slice ea el ec] 163)=X at hRX hCX hDX hbX ⊢;have HRX:=Lib.hid hRX;have HBX:=Lib.hid hbX;have HDX:=Lib.hid hDX;have HCX:=Lib.hid hCX;obtain⟨rc,rf,rz⟩:=hRX.facts;obtain⟨dc,df,dz⟩:=hDX.facts;obtain⟨cc,-,-⟩:=hCX.facts;clear hRX hbX hDX hCX;go_wp2_with fail;refine (HNd.out _).mono ?_;rintro e w5 ⟨rfl,hb5⟩;have hRX5:=HRX.out.keep hb5;have hDX5:=HDX.out.keep hb5;have hBX5:=HBX.out.trans (hb5.mono HBX.out.size);have HRX5:=Lib.hid hRX5;have HBX5:=Lib.hid hBX5;clear rc rf rz dc df dz cc;obtain⟨rc,rf,rz⟩:=hRX5.facts;obtain⟨dc,-,-⟩:=hDX5.facts;clear hRX5 hBX5 hb5 hDX5
 cases my
 ·go_wp2_with fail;exact bodyPost_ret (own_results (a:=an0) HRX5.out.set12 rfl rfl) rfl ⟨rfl,below_set12 HBX5.out (Nat.le_succ _)⟩
 ·go_wp2_with fail;exact bodyPost_ret (own_results (a:=d) (ea:=ea) (el:=el) (ec:=ec) HRX5.out.set12 rfl rfl) rfl ⟨⟨ea,el,ec,rfl,HE.out⟩,below_set12 HBX5.out (Nat.le_succ _)⟩
theorem own_any (h:WdAt w pw R S) {N:Nat} (hk:FsOk S N) (c:Cr) (no:Int) :
  Calls Tryz.prog 155 #[.pointer (some ⟨pw,0,none⟩),.agg #[.int .i64 c.u,.int .i64 c.g],.int .i64 no] w fun e w'=>((S.ownE c no≠0∧e=.returned (.tuple #[an0.v none 0 0,.int .i64 (S.ownE c no)]))∨(S.ownE c no=0∧∃ d ea el ec,S.get no=some d∧e=.returned (.tuple #[d.v ea el ec,.int .i64 0])∧EntsAt w ea el ec d.ents))∧Below w.heap.size w w':=by
 cases hg:S.get no with
 | none=>
  refine (own_none h hk c no hg).mono ?_;rintro e w1 ⟨rfl,hb⟩;have:S.ownE c no=5:=by unfold Fs.ownE;rw [hg]
  rw [this];exact⟨.inl ⟨by decide,rfl⟩,hb⟩
 | some d=>
  refine (own_some h hk c no d hg).mono ?_;rintro e w1 ⟨⟨h1,rfl⟩|⟨h1,ea,el,ec,h2,h3⟩,hb⟩
  ·have:S.ownE c no=4:=by unfold Fs.ownE;rw [hg];simp only;rw [if_pos h1]
   rw [this];exact⟨.inl ⟨by decide,rfl⟩,hb⟩
  ·have:S.ownE c no=0:=by unfold Fs.ownE;rw [hg];simp only;rw [if_neg (by simp [h1])]
   rw [this];exact⟨.inr ⟨rfl,d,ea,el,ec,rfl,h2,h3⟩,hb⟩
end
end
end Go.Proofs.YtbndfmkgamdgeaaGreatDoor
