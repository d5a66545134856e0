import Derived.Test.YtihdbncoijhihaaGreatCL28
import Derived.Test.YtihdbncoijhihaaGreatCL7
import Derived.Test.YtihdbncoijhihaaGreatCL16
import Derived.Test.YtihdbncoijhihaaGreatCL27
import Derived.Test.YtihdbncoijhihaaGreatCL3
import Derived.Test.YtihdbncoijhihaaGreatCL23
import Derived.Test.YtihdbncoijhihaaGreatCL17
import Derived.Test.YtihdbncoijhihaaGreatCL25
import Derived.Test.YtihdbncoijhihaaGreatCL26
import Derived.Test.YtihdbncoijhihaaGreatCL8
import Derived.Test.YtihdbncoijhihaaGreatCL12
set_option linter.unusedVariables false
set_option linter.unusedSimpArgs false
set_option maxRecDepth 100000
set_option maxHeartbeats 16000000
namespace Go.Proofs.YtihdbncoijhihaaGreat
section
open Go.RowKit
theorem blenK_any (b:Nat) (l:List UInt8) (w:World) (h:BldK b l w) :
  Calls Tryz.prog 184 #[.pointer (some ⟨b,0,none⟩)] w fun e w'=>e=.returned (.int .i64 l.length)∧w'=w:=by
 refine (Tryz.Builder_Len_f b b (Lib.byteCells l) w h).mono ?_;rintro e w' ⟨rfl,rfl⟩;exact⟨by rw [byteCells_len],rfl⟩
theorem catL_cons (x:List UInt8) (l:List (List UInt8)):catL (x :: l)=catL l ++ (47 :: x):=by simp [catL]
section
variable {w w':World} {pw:Nat} {R:Rp} {S:Fs}
theorem wget_u (h:WdAt w pw R S) (k:Int):∃ a ea el ec b,EntsAt w ea el ec a.ents∧a.ents=S.entsOf k∧(S.get k=some a∧b=true∨(S.get k=none∧a=an0∧b=false))∧
  ∀ w1,Below w.heap.size w w1→Calls Tryz.prog 13 #[.pointer (some ⟨R.pt,0,none⟩),.int .i64 k] w1 fun e w'=>e=.returned (.tuple #[.agg #[.int .i64 a.no,.int .i64 a.dev,.int .i64 a.kind,.int .i64 a.mode,.int .i64 a.uid,.int .i64 a.gid,.int .i64 a.mtime,.int .i64 a.ctime,.int .i64 a.links,.int .i64 a.up,.string a.data,.slice ea el ec],.bool b])∧Below w1.heap.size w1 w':=by
 cases hg:S.get k with
 | none=>exact ⟨an0,none,0,0,false,EntsAt.nil w,by unfold Fs.entsOf;rw [hg];rfl,.inr ⟨rfl,rfl,rfl⟩,fun w1 hb=>wget_no (h.keep hb) hg⟩
 | some a=>
  obtain⟨ea,el,ec,he,hc⟩:=wget_fix h hg;exact⟨a,ea,el,ec,true,he,by unfold Fs.entsOf;rw [hg],.inl ⟨rfl,rfl⟩,hc⟩
theorem child_w {N:Nat} (hk:FsOk S N) (hp:Pl S) {x:Int} (hu:S.above x≠x) {a:An} {b:Bool} (h:S.get x=some a∧b=true∨(S.get x=none∧a=an0∧b=false)) :
  (S.root a.dev≠x→S.child x=x)∧(S.root a.dev=x→∃ (k:Nat) (hkl:k<S.ds.length),a.dev=(k:Int)+1∧S.child x=S.ds[k].over):=by
 rcases h with ⟨h,-⟩|⟨h,rfl,-⟩
 ·refine ⟨fun hr=>child_same h hr,fun hr=>?_⟩;have h1:x≠1:=by
   rintro rfl;exact hu (above_one hk hp)
  obtain⟨hd1,v,hv,hc⟩:=child_over hk hp h hr h1;have hd2:=(hk.get h).1.dev.2;have hkl:(a.dev - 1).toNat<S.ds.length:=by omega
  refine ⟨(a.dev - 1).toNat,hkl,by omega,?_⟩;rw [hc];unfold Fs.dev at hv;rw [if_pos (by omega),List.getElem?_eq_getElem hkl] at hv;injection hv with hv;rw [hv]
 ·refine ⟨fun _=>child_none h,fun hr=>?_⟩;exfalso;have h0:S.root an0.dev=0:=by unfold Fs.root;rw [if_neg (fun h=>absurd h.1 (by decide))]
  rw [h0] at hr;rw [←hr,above_zero hk] at hu;exact hu rfl
theorem ents_some {x:Int} {nm:ByteArray} {c:Int} (h:entName (S.entsOf x) c=some nm) {a:An} {b:Bool} (hg:S.get x=some a∧b=true∨(S.get x=none∧a=an0∧b=false)):b=true:=by
 rcases hg with ⟨-,h⟩|⟨hg,-⟩
 ·exact h
 ·unfold Fs.entsOf at h;rw [hg] at h
  cases h
theorem up_less {N:Nat} (hk:FsOk S N) (hp:Pl S) {x c:Int} {nm:ByteArray} (hu:S.above x≠x) (h:entName (S.entsOf (S.above x)) c=some nm):(S.above x).toNat<x.toNat:=by
 rcases above_step hk hp hu with h0 | ⟨h1,h2,-,-⟩
 ·rw [h0,ents_zero hk] at h
  cases h
 ·omega
theorem wwhere_any (h:WdAt w pw R S) {N:Nat} (hk:FsOk S N) (hp:Pl S) (hl:S.ns.length≤100000) (no:Int) :
  Calls Tryz.prog 114 #[.pointer (some ⟨pw,0,none⟩),.int .i64 no] w fun e w'=>e=.returned (whereV (S.place_ no))∧Below w.heap.size w w':=by
 have HNn:=Lib.hid (wnone_any h hk.d1);obtain⟨g,cap,hv,hle,h63,hgl,hcd,-,-⟩:=h.devF hk.d1;have hd1:=hk.d1;have hd8:=hk.d8;have HA:=Lib.hid (fun w1 (hb1:Below w.heap.size w w1) x=>wabove_any (h.keep hb1) hk x);have HRo:=Lib.hid (fun w1 (hb1:Below w.heap.size w w1) x=>wroot_any (h.keep hb1) hk.d1 x);have HG:=Lib.hid (fun w1 (hb1:Below w.heap.size w w1) x=>wget_u (h.keep hb1) x);have HStart:=Lib.hid (WhSt.start hp no);have hb:=h.blk;rw [hv] at hb;have HB:=Lib.hid hb;have HC:=Lib.hid (fun k (hk:k<S.ds.length)=>(hcd k hk).c1);have HK:=Lib.hid (And.intro hk hp);have HL:=Lib.hid hl;obtain⟨m,hm⟩:∃ m,S.ds.length=m:=⟨_,rfl⟩;have HM:=Lib.hid hm;rw [hm] at HB hle hd1 hd8;have mixed:Tryz.prog.follows .mixedOrders=true:=by kernel_rfl
 have hm0:(0:Int)<(m:Int):=by omega
 clear h hk hp hv hb hcd hm hl;go_enter Tryz.func114,Tryz.ntmps114;go_wp2_with fail;refine HNn.out.mono ?_;rintro e w1 ⟨rfl,rfl⟩;go_wp2_with fail;refine (HA.out w (Below.refl _ _) no).mono ?_;rintro e w1 ⟨rfl,hb1⟩;have HB1:=Lib.hid hb1;clear hb1;go_wp2_with fail
 go_loopw [1,6,7] (fun t1 t6 t7 wr=>∃ (x:Int) (l:List (List UInt8)),t1=.int .i64 x∧t7=.int .i64 (S.above x)∧OS wr w.heap.size t6 l∧WhSt S no x l∧Below w.heap.size w wr) (fun t1 _ _ _=>(intOf t1).toNat)
 case atStart=>exact ⟨no,[],rfl,rfl,OS.nil _ _,HStart.out,HB1.out⟩
 case round=>
  obtain⟨x,l,rfl,rfl,hO,hW,hbw⟩:=hrel;obtain⟨la,lc,rfl,hlc1,hlc2⟩:=hO.len;have HO:=Lib.hid hO;have HW:=Lib.hid hW;have HBw:=Lib.hid hbw;have hlen:l.length≤100000:=Nat.le_trans hW.few HL.out;obtain⟨bc,bf,bz⟩:=(HB.out.keep hbw).facts;clear hO hW;by_cases hx:S.above x=x
  ·have px:(S.above x != x)=false:=by simpa using hx
   have HX:=Lib.hid hx;have HTop:=Lib.hid (fun (h1:x=1)=>(show WhSt S no 1 l from h1 ▸ HW.out).top HK.out.1 HK.out.2);have HOther:=Lib.hid (fun (h1:x≠1)=>HW.out.other HK.out.1 HK.out.2 HX.out h1);have HSm:=Lib.hid HW.out.small;generalize S.above x=ab at px ⊢;obtain⟨w0,hw0⟩:∃ w0,w0=wr:=⟨_,rfl⟩;subst hw0;have hK0:=BldK.of (Bld.new w0);have hbX:=(Below.refl w0.heap.size w0).alloc (Nat.le_refl _) (.cells #[.pointer none,.slice none 0 0] 179);clear hx hbw bc bf bz;go_upto_region 17 with fail;generalize w0.alloc (.cells #[.pointer none,.slice none 0 0] 179)=X at hK0 hbX ⊢;have HK0:=Lib.hid hK0;have HBX:=Lib.hid hbX;clear hK0 hbX;go_wp2_with fail
   go_loopw [15] (fun t15 w3=>∃ i:Int,-1≤i∧i<l.length∧t15=.int .i64 i∧BldK w0.heap.size (catL (l.drop (i+1).toNat)) w3∧Below w0.heap.size w0 w3) (fun t15 _=>(intOf t15+1).toNat)
   case atStart=>exact ⟨(l.length:Int) - 1,by omega,by omega,by go_num,by rw [show ((l.length:Int) - 1+1).toNat=l.length by omega,List.drop_length];exact HK0.out,HBX.out⟩
   case round=>
    obtain⟨i,hi1,hi2,rfl,hB3,hb3⟩:=hrel;have HB3:=Lib.hid hB3;have Hb3:=Lib.hid hb3;clear hB3 hb3;by_cases h0:0≤i
    ·obtain ⟨j,rfl⟩:=Int.eq_ofNat_of_zero_le h0;have hjl:j<l.length:=by omega
     have hge:(0:Int)≤(j:Int):=h0;have hO3:OS wr w.heap.size (.slice la l.length lc) l:=own_below HO.out Hb3.out (Nat.le_refl _);obtain⟨g3,rfl,hg3,hcl⟩:=hO3.at' j hjl;have hsm:=HSm.out l[j] (List.getElem_mem hjl);have HQ:=Lib.hid (show catL (l.drop ((j:Int) - 1+1).toNat)=catL (l.drop ((j:Int)+1).toNat) ++ (47 :: l[j]) by
      rw [show ((j:Int) - 1+1).toNat=j by omega,show ((j:Int)+1).toNat=j+1 by omega,List.drop_eq_getElem_cons hjl,catL_cons])
     have hcl2:(catL (l.drop ((j:Int)+1).toNat)).length≤1000000000:=by
      have h1:=catL_len (l:=l.drop ((j:Int)+1).toNat) (fun x hx=>HSm.out x (List.mem_of_mem_drop hx));have h2:(l.drop ((j:Int)+1).toNat).length≤l.length:=by rw [List.length_drop];omega
      omega
     have hqs:=str_size l[j];have HSt:=Lib.hid (show (ByteArray.mk #[47] ++ str l[j]).data.toList=47 :: l[j] by
      rw [show ByteArray.mk #[47]=str [47] from rfl,str_append,str_list];rfl)
     have hss:(ByteArray.mk #[47] ++ str l[j]).size≤1000000000:=by
      rw [ByteArray.size_append];show 1+(str l[j]).size≤_;omega
     have HWs:=Lib.hid (wsK_any w0.heap.size (catL (l.drop ((j:Int)+1).toNat)) (ByteArray.mk #[47] ++ str l[j]) wr HB3.out hcl2 hss);rw [HSt.out,←HQ.out] at HWs;have hs0:¬ 9223372036854775807<1+(str l[j]).size:=by omega
     generalize str l[j]=q at hcl HWs hs0;clear h0 hO3 hsm HQ hcl2 hqs HSt hss;go_wp2_with fail;refine HWs.out.mono ?_;rintro e w5 ⟨rfl,hB5,hb5,-⟩;have HB5:=Lib.hid hB5;have Hb5:=Lib.hid (Hb3.out.trans hb5);clear hB5 hb5;go_wp2_with fail;go_roundw
     case measure=>simp [intOf]
     case rel=>exact ⟨(j:Int) - 1,by omega,by omega,by go_num,HB5.out,Hb5.out⟩
    ·obtain rfl:i=-1:=by omega
     rw [show ((-1:Int)+1).toNat=0 from rfl,List.drop_zero] at HB3;have Hbb:=Lib.hid (HBw.out.trans (Hb3.out.mono HBw.out.size));clear h0 hi1 hi2;by_cases h1:x=1
     ·have p1:(x != 1)=false:=by simpa using h1
      have HO2:=Lib.hid (HTop.out h1);have HLn:=Lib.hid (blenK_any w0.heap.size (catL l) wr HB3.out);clear h1;by_cases hl0:l=[]
      ·rw [if_pos hl0] at HO2;have hz:(((catL l).length:Int) == 0)=true:=by rw [hl0];rfl
       generalize ((catL l).length:Int)=ln at hz HLn;clear hl0;go_wp2_with fail;refine HLn.out.mono ?_;rintro e w6 ⟨rfl,rfl⟩;go_wp2_with fail;go_ret2;rw [HO2.out];exact⟨rfl,Hbb.out⟩
      ·rw [if_neg hl0] at HO2;have hne:catL l≠[]:=fun h=>hl0 ((catL_nil l).1 h);have hz:(((catL l).length:Int) == 0)=false:=by
        simp only [beq_eq_false_iff_ne,ne_eq];intro h;exact hne (List.eq_nil_of_length_eq_zero (by omega))
       have HSs:=Lib.hid (bsK_any w0.heap.size (catL l) wr HB3.out hne);generalize ((catL l).length:Int)=ln at hz HLn;generalize str (catL l)=z at HSs HO2;clear hl0 hne;go_wp2_with fail;refine HLn.out.mono ?_;rintro e w6 ⟨rfl,rfl⟩;go_wp2_with fail;refine HSs.out.mono ?_;rintro e w7 ⟨rfl,hb7⟩;have Hb7:=Lib.hid (Hbb.out.trans (hb7.mono HBw.out.size));clear hb7;go_wp2_with fail;go_ret2;rw [HO2.out];exact⟨rfl,Hb7.out⟩
     ·have p1:(x != 1)=true:=by simpa using h1
      have HO2:=Lib.hid (HOther.out h1);clear h1;go_wp2_with fail;go_ret2;rw [HO2.out];exact⟨rfl,Hbb.out⟩
  ·have px:(S.above x != x)=true:=by simpa using hx
   have HX:=Lib.hid hx;obtain⟨up,hup⟩:∃ y,S.above x=y:=⟨_,rfl⟩;have HUp:=Lib.hid hup;rw [hup] at px ⊢;obtain⟨a,ea,el,ec,ab,-,-,hga,hcg⟩:=HG.out wr hbw x;have HCg:=Lib.hid (hcg wr (Below.refl _ _));have HCh:=Lib.hid (child_w HK.out.1 HK.out.2 hx hga);clear hcg hga hx hup;go_wp2_with fail;refine HCg.out.mono ?_;rintro e w2 ⟨rfl,hb2⟩;have hbX:=balloc (bnext HBw.out hb2) (.cells #[.int .i64 a.no,.int .i64 a.dev,.int .i64 a.kind,.int .i64 a.mode,.int .i64 a.uid,.int .i64 a.gid,.int .i64 a.mtime,.int .i64 a.ctime,.int .i64 a.links,.int .i64 a.up,.string a.data,.slice ea el ec] 49);have hb3:=balloc hb2 (.cells #[.int .i64 a.no,.int .i64 a.dev,.int .i64 a.kind,.int .i64 a.mode,.int .i64 a.uid,.int .i64 a.gid,.int .i64 a.mtime,.int .i64 a.ctime,.int .i64 a.links,.int .i64 a.up,.string a.data,.slice ea el ec] 49);have hX:=Blk.new w2 #[.int .i64 a.no,.int .i64 a.dev,.int .i64 a.kind,.int .i64 a.mode,.int .i64 a.uid,.int .i64 a.gid,.int .i64 a.mtime,.int .i64 a.ctime,.int .i64 a.links,.int .i64 a.up,.string a.data,.slice ea el ec] 49;clear hb2 HCg bc bf bz hbw;go_upto_region 8 with fail;generalize w2.alloc (.cells #[.int .i64 a.no,.int .i64 a.dev,.int .i64 a.kind,.int .i64 a.mode,.int .i64 a.uid,.int .i64 a.gid,.int .i64 a.mtime,.int .i64 a.ctime,.int .i64 a.links,.int .i64 a.up,.string a.data,.slice ea el ec] 49)=X at hbX hX hb3 ⊢;have HBX:=Lib.hid hbX;have HOX:=Lib.hid (HO.out.keep2 hb3);obtain⟨xc,xf,xz⟩:=hX.facts;obtain⟨bc,bf,bz⟩:=(HB.out.keep hbX).facts;have HRx:=Lib.hid (HRo.out X hbX a.dev);clear hb3 hX hbX HO HBw;obtain⟨ch,hch⟩:∃ y,S.child x=y:=⟨_,rfl⟩;have HChe:=Lib.hid hch;rw [hch] at HCh;clear hch
   go_cut [41] from 21 to 78 (fun t41 wx=>t41=.bool (S.root a.dev == x)∧wx=X)
   case first=>
    have hgoal:∀ z:Bool,(Value.bool z=Value.bool z∧X=X):=fun _=>⟨rfl,rfl⟩;go_wp2_with fail;refine HRx.out.mono ?_;rintro e w3 ⟨rfl,rfl⟩;go_wp2_with fail;go_meet;exact⟨rfl,rfl⟩
   case rest=>
   obtain⟨rfl,rfl⟩:=hcut
   go_step
   go_cut [1] from 21 to 78 (fun t1 wx=>t1=.int .i64 ch∧Below wc.heap.size wc wx)
   case first=>
    by_cases h3:S.root a.dev=x
    ·have q3:(S.root a.dev == x)=true:=by simpa using h3
     obtain⟨j,hjl,hj,hco⟩:=HCh.out.2 h3;have cc:=(HBX.out.cell (p:=⟨g,j*6+1,none⟩) hgl).trans (HC.out j hjl);have hj2:(j:Int)<(m:Int):=by have:=HM.out;omega
     have HO2:=Lib.hid hco;generalize S.ds[j].over=ov at cc HO2;have hgl2:g<wc.heap.size:=Nat.lt_of_lt_of_le hgl HBX.out.size;have hwr1:IntKind.i64.wrap ((j:Int)+1 - 1)=(j:Int):=by simp [IntKind.wrap,IntKind.bits,IntKind.signed];omega
     have hwr2:IntKind.i64.wrap (j:Int)=(j:Int):=by simp [IntKind.wrap,IntKind.bits,IntKind.signed];omega
     have hk0:(0:Int)≤(j:Int)∧((j:Int)).toNat=j:=by omega
     obtain⟨hk1',hk3'⟩:=hk0;generalize (S.root a.dev == x)=dd at q3 ⊢;subst q3;rw [hj] at xc;clear h3 hjl hco hj;go_wp2_with fail
     go_quiet (fail)
     go_wp2_with fail;go_meet;exact⟨by rw [HO2.out],below_drewN (Below.refl _ _) _⟩
    ·have q3:(S.root a.dev == x)=false:=by simpa using h3
     have HO2:=Lib.hid (HCh.out.1 h3);generalize (S.root a.dev == x)=dd at q3 ⊢;subst q3;clear h3;go_wp2_with fail;go_meet;exact⟨by rw [HO2.out],Below.refl _ _⟩
   case rest=>
   obtain⟨rfl,hbc⟩:=hcut;have HBc:=Lib.hid (bnext HBX.out hbc);have HOc:=Lib.hid (HOX.out.keep2 hbc);obtain⟨a2,fa,fl,fc,b2,hents,hee,hga2,hcg⟩:=HG.out wc HBc.out up;have HCg:=Lib.hid (hcg wc (Below.refl _ _));have HFail:=Lib.hid (fun hn=>HW.out.fail HK.out.1 HK.out.2 HX.out hn);have HMore:=Lib.hid (fun s hn=>HW.out.more HK.out.1 HK.out.2 HX.out (s:=s) hn);have HSome:=Lib.hid (fun nm hn=>ents_some (S:=S) (x:=up) (nm:=nm) (c:=ch) hn hga2);have HLess:=Lib.hid (fun s hn=>up_less HK.out.1 HK.out.2 (c:=ch) (nm:=s) HX.out hn);rw [HUp.out,←hee] at HLess;rw [HChe.out,HUp.out,←hee] at HFail HMore;rw [←hee] at HSome;generalize a2.ents=es at hents HFail HMore HSome HLess;have HEn:=Lib.hid hents;clear hbc hcg hents hee hga2 xc xf xz bc bf bz HBX HOX HRx;obtain⟨bc,bf,bz⟩:=(HB.out.keep HBc.out).facts;go_wp2_with fail;refine HCg.out.mono ?_;rintro e w4 ⟨rfl,hb4⟩;have hbY:=balloc (bnext HBc.out hb4) (.cells #[.int .i64 a2.no,.int .i64 a2.dev,.int .i64 a2.kind,.int .i64 a2.mode,.int .i64 a2.uid,.int .i64 a2.gid,.int .i64 a2.mtime,.int .i64 a2.ctime,.int .i64 a2.links,.int .i64 a2.up,.string a2.data,.slice fa fl fc] 49);have hb5:=balloc hb4 (.cells #[.int .i64 a2.no,.int .i64 a2.dev,.int .i64 a2.kind,.int .i64 a2.mode,.int .i64 a2.uid,.int .i64 a2.gid,.int .i64 a2.mtime,.int .i64 a2.ctime,.int .i64 a2.links,.int .i64 a2.up,.string a2.data,.slice fa fl fc] 49);have hY:=Blk.new w4 #[.int .i64 a2.no,.int .i64 a2.dev,.int .i64 a2.kind,.int .i64 a2.mode,.int .i64 a2.uid,.int .i64 a2.gid,.int .i64 a2.mtime,.int .i64 a2.ctime,.int .i64 a2.links,.int .i64 a2.up,.string a2.data,.slice fa fl fc] 49;clear hb4 HCg;go_upto_region 11 with fail;generalize w4.alloc (.cells #[.int .i64 a2.no,.int .i64 a2.dev,.int .i64 a2.kind,.int .i64 a2.mode,.int .i64 a2.uid,.int .i64 a2.gid,.int .i64 a2.mtime,.int .i64 a2.ctime,.int .i64 a2.links,.int .i64 a2.up,.string a2.data,.slice fa fl fc] 49)=Y at hbY hY hb5 ⊢;have HBY:=Lib.hid hbY;have HOY:=Lib.hid (HOc.out.keep2 hb5);obtain⟨yc,yf,yz⟩:=hY.facts;have HNm:=Lib.hid (ename_any es fa fl fc ch Y (HEn.out.keep hb5));unfold whereV at HNm;clear hb5 hY hbY HBc HOc HEn
   cases ho:entName es ch with
   | none=>
    rw [ho] at HNm;have HO2:=Lib.hid (show S.place_ no=none from HFail.out ho);simp only [Option.getD_none,Option.isSome_none] at HNm;clear ho
    cases b2 with
    | false=>
     go_wp2_with fail;refine HNm.out.mono ?_;rintro e w6 ⟨rfl,hb6⟩;have HB6:=Lib.hid (bnext HBY.out hb6);clear hb6 yc yf yz;go_wp2_with fail;go_ret2;rw [HO2.out];exact⟨rfl,HB6.out⟩
    | true=>
     go_wp2_with fail;refine HNm.out.mono ?_;rintro e w6 ⟨rfl,hb6⟩;have HB6:=Lib.hid (bnext HBY.out hb6);clear hb6 yc yf yz;go_wp2_with fail;go_ret2;rw [HO2.out];exact⟨rfl,HB6.out⟩
   | some nm=>
    rw [ho] at HNm;simp only [Option.getD_some,Option.isSome_some] at HNm;obtain rfl:b2=true:=HSome.out nm ho;have HMr:=Lib.hid (HMore.out nm ho);have HLs:=Lib.hid (HLess.out nm ho);clear ho;go_wp2_with fail;refine HNm.out.mono ?_;rintro e w6 ⟨rfl,hb6⟩;have hB6:=bnext HBY.out hb6;obtain⟨g2,cap2,W,hrun,hO7,hB7⟩:=(HOY.out.keep2 hb6).app nm.data.toList (by omega) hB6.size;rw [str_of] at hrun;have HR:=Lib.hid hrun;have HO7:=Lib.hid hO7;have HB7:=Lib.hid (hB6.trans hB7);have HAu:=Lib.hid (HA.out W HB7.out up);clear hb6 yc yf yz hrun hO7 hB7 hB6;go_wp2_with (at_builtin;refine wpList_app_run rfl rfl rfl rfl HR.out ?_);refine HAu.out.mono ?_;rintro e w8 ⟨rfl,hb8⟩;have HB8:=Lib.hid (bnext HB7.out hb8);have HO8:=Lib.hid (HO7.out.keep2 hb8);clear hb8;go_wp2_with fail;go_roundw
    case measure=>exact HLs.out
    case rel=>exact ⟨up,l ++ [nm.data.toList],rfl,rfl,HO8.out,HMr.out.1,HB8.out⟩
end
end
section
open Go.RowKit
end
section
open Go.RowKit
section
variable {w w':World} {pf pw:Nat} {R:Rp} {pv:Value} {Y:Sy}
theorem ttop_any (h:SyAt w pf pw R pv Y) {N:Nat} (hk:FsOk Y.fs N) (hp:Pl Y.fs) (hl:Y.fs.ns.length≤100000) (hd:Y.dead=false) (no:Int) :
  Calls Tryz.prog 53 #[.pointer (some ⟨pf,0,none⟩),.int .i64 no] w fun e w'=>e=.returned (.tuple #[.int .i64 (Y.fs.topF no).1,.string (Y.fs.topF no).2.1,.int .i64 (Y.fs.topF no).2.2])∧Below w.heap.size w w':=by
 have HS:=Lib.hid (sstat_any h hk hd no);have HRo:=Lib.hid (fun w1 (hb:Below w.heap.size w w1) d=>wroot_any (h.wd.keep hb) hk.d1 d);have HWh:=Lib.hid (fun w1 (hb:Below w.heap.size w w1) d=>wwhere_any (h.wd.keep hb) hk hp hl d);obtain⟨pc,-,pz⟩:=h.blk.facts;have HPC:=Lib.hid (fun w1 (hb1:Below w.heap.size w w1)=>show w1.cell? ⟨pf,0,none⟩=some (.pointer (some ⟨pw,0,none⟩)) from (hb1.cell (p:=⟨pf,0,none⟩) pz).trans (pc 0));have mixed:Tryz.prog.follows .mixedOrders=true:=by kernel_rfl
 obtain⟨S,hS⟩:∃ S,Y.fs=S:=⟨_,rfl⟩;rw [hS] at HS HRo HWh ⊢;have HZ0:=Lib.hid (fun h=>topF_none (S:=S) (no:=no) h);have HZ1:=Lib.hid (fun a h h2=>topF_gone (S:=S) (no:=no) (a:=a) h h2);have HZ2:=Lib.hid (fun a s h h2=>topF_some (S:=S) (no:=no) (a:=a) (s:=s) h h2);generalize S.topF no=Z at HZ0 HZ1 HZ2 ⊢;clear h hk hp hd hS pc pz hl
 cases hg:S.get no with
 | none=>
  rw [hg] at HS;have HZ:=Lib.hid (HZ0.out hg);unfold stV noneE at HS;clear hg;go_enter Tryz.func53,Tryz.ntmps53;go_wp2_with fail;refine HS.out.mono ?_;rintro e w1 ⟨rfl,hb1⟩;have HB1:=Lib.hid (balloc hb1 (.cells #[.int .i64 0,.int .i64 0,.int .i64 0,.int .i64 0,.int .i64 0,.int .i64 0,.int .i64 0,.int .i64 0,.int .i64 0,.int .i64 0] 91));clear hb1;go_wp2_with fail
  go_ret3
  exact⟨by rw [HZ.out];rfl,HB1.out⟩
 | some a=>
  rw [hg] at HS;have HG:=Lib.hid hg;unfold stV noneE at HS;clear hg;go_enter Tryz.func53,Tryz.ntmps53;go_wp2_with fail;refine HS.out.mono ?_;rintro e w1 ⟨rfl,hb1⟩;have hX:=Blk.new w1 #[.int .i64 a.no,.int .i64 a.dev,.int .i64 a.kind,.int .i64 a.mode,.int .i64 a.uid,.int .i64 a.gid,.int .i64 a.links,.int .i64 a.data.size,.int .i64 a.mtime,.int .i64 a.ctime] 91;have hbX:=balloc hb1 (.cells #[.int .i64 a.no,.int .i64 a.dev,.int .i64 a.kind,.int .i64 a.mode,.int .i64 a.uid,.int .i64 a.gid,.int .i64 a.links,.int .i64 a.data.size,.int .i64 a.mtime,.int .i64 a.ctime] 91);go_upto_region 2 with fail;generalize w1.alloc (.cells #[.int .i64 a.no,.int .i64 a.dev,.int .i64 a.kind,.int .i64 a.mode,.int .i64 a.uid,.int .i64 a.gid,.int .i64 a.links,.int .i64 a.data.size,.int .i64 a.mtime,.int .i64 a.ctime] 91)=X at hX hbX ⊢;have HX:=Lib.hid hX;have HBX:=Lib.hid hbX;obtain⟨xc,xf,xz⟩:=hX.facts;have pc0:=HPC.out _ hbX;clear hb1 hX hbX;go_wp2_with fail;refine wp_region_lex 6 mixed (by kernel_rfl) (show PanicOk _ from by repeat (first | exact pk_body | refine pk_then ?_ | refine pk_block ?_ | refine pk_scope ?_)) ?_;simp only [List.take_succ_cons,List.take_zero,List.drop_succ_cons,List.drop_zero]
  repeat still_step
  refine wpStill_nil ?_;go_wp2_with fail;refine (HRo.out _ HBX.out.drew _).mono ?_;rintro e w2 ⟨rfl,rfl⟩;clear xc xf xz pc0;have pc0:=HPC.out _ HBX.out.drew;go_wp2_with fail;refine (HWh.out _ HBX.out.drew _).mono ?_;rintro e w3 ⟨rfl,hb3⟩;have HB3:=Lib.hid (bnext HBX.out.drew hb3);unfold whereV;clear hb3 pc0
  cases hpl:S.place_ (S.root a.dev) with
  | none=>
   have HZ:=Lib.hid (HZ1.out _ HG.out hpl);clear hpl;go_wp2_with fail
   go_ret3
   exact⟨by rw [HZ.out];rfl,HB3.out⟩
  | some s=>
   have HZ:=Lib.hid (HZ2.out _ _ HG.out hpl);clear hpl;go_wp2_with fail
   go_ret3
   exact⟨by rw [HZ.out];rfl,HB3.out⟩
end
end
section
open Go.RowKit Go.Shelf
attribute [local go_sem] Oper.semAt_some
def few24 (ms:List Mt) (is:List It) (nm:ByteArray) (pl:List (Int×Int)):Bool:=decide (few22 ms is 30=true∧nm.size≤300∧pl.length≤4)
theorem few24_of {ms:List Mt} {is:List It} {nm:ByteArray} {pl:List (Int×Int)} (h:few24 ms is nm pl=true):few22 ms is 30=true∧nm.size≤300∧pl.length≤4:=of_decide_eq_true h
section
variable {w w':World} {pf pw:Nat} {R:Rp} {pv:Value} {Y:Sy}
theorem splan2_any (h:SyAt w pf pw R pv Y) {a:Option Addr} {n c:Nat} {l:List (Int×Int)} (hl1:SliceAt (w.setCell ⟨pf,2,none⟩ (.int .i64 0)) 2 fltR a n c l) (hn:l.length≤1000000) :
  Calls Tryz.prog 113 #[.pointer (some ⟨pf,0,none⟩),.slice a n c] w fun e w'=>e=.returned (.tuple #[])∧∃ pv',SyAt w' pf pw R pv' {Y with count:=0,plan:=l}∧Mod (fun k=>k=pf) w w':=by
 have HN:=Lib.hid (snone_any h);have HY:=Lib.hid h;obtain⟨v,W,hrun,hown,hbW⟩:=flt_app hl1 hn;obtain⟨a1,c1,rfl,-,-,-⟩:=own_form hown;have hB1:=h.blk.set 2 (.int .i64 0);have hBW:=hB1.keep hbW;have HR:=Lib.hid hrun;have HX:=Lib.hid (And.intro hown (And.intro hbW hBW));obtain⟨pc,pf',pz⟩:=h.blk.facts;obtain⟨qc,qf,qz⟩:=hBW.facts;clear h hl1 hrun hown hbW hB1 hBW;go_enter Tryz.func113,Tryz.ntmps113;go_wp2_with (first | (go_at_call 84;((with_reducible refine HN.out.mono ?_);rintro e w1 ⟨rfl,rfl⟩)) | (at_builtin;refine wpList_app_run rfl rfl rfl rfl HR.out ?_))
 go_end0
 obtain⟨hown,hbW,hBW⟩:=HX.out;have hm1:=(Mod.refl (fun k=>k=pf) w).setCell (a:=⟨pf,2,none⟩) (.inl rfl) (.int .i64 0);have hm:=(hm1.trans (Mod.of_below hbW)).setCell (a:=⟨pf,3,none⟩) (.inl rfl) (.slice a1 l.length c1);have hlt:pf<(w.setCell ⟨pf,2,none⟩ (.int .i64 0)).heap.size:=by simpa [World.setCell] using HY.out.blk.lt
 refine ⟨rfl,.slice a1 l.length c1,⟨hBW.set 3 _,HY.out.wd.mod hm (fun k o hk ho=>?_),?_⟩,hm⟩
 ·subst hk;have hb:=HY.out.blk;unfold Blk at hb;rw [hb] at ho;injection ho with ho;subst ho;exact⟨rfl,fun cur e=>by cases e⟩
 ·refine own_low (own_mod hown ((Mod.refl (fun k=>k=pf) W).setCell (a:=⟨pf,3,none⟩) (.inl rfl) _) (fun k hk he=>?_)) (Nat.zero_le _);subst hk;have:=(own_obj1 hown he).1;omega
end
theorem RfAt.setPl {w:World} {pf:Nat} {R:Rf} {S:Fs} (h:RfAt w pf R S) (v:Value):RfAt (w.setCell ⟨pf,5,none⟩ v) pf {R with pl:=v} S:=by
 have hm:Mod (fun k=>k=pf) w (w.setCell ⟨pf,5,none⟩ v):=(Mod.refl (fun k=>k=pf) w).setCell (a:=⟨pf,5,none⟩) (.inl rfl) _;have hM:Mod (R.F pf) w (w.setCell ⟨pf,5,none⟩ v):=hm.mono (fun k hk=>.inl hk);refine ⟨h.blk.set 5 _,own_mod h.nds hm (fun k hk e=>?_),own_mod h.devs hm (fun k hk e=>?_),h.ns,fun x hx=>(h.ents x hx).rf h (Stp.of_mod hM)⟩
 ·obtain ⟨-,hc⟩:=own_obj1 h.nds e;exact rf_apart hc h.blk (by decide) hk.symm
 ·obtain ⟨-,hc⟩:=own_obj1 h.devs e;exact rf_apart hc h.blk (by decide) hk.symm
structure Both (w0 w:World) (S:Fs) (pl:List (Int×Int)) (vp:Value) (p1 q1:Nat) (R1:Rp) (v1:Value) (pf:Nat) (R2:Rf):Prop where
 y:SyAt w p1 q1 R1 v1 ⟨S,0,0,pl,false⟩
 r:RfAt w pf R2 S
 now:R2.now=0
 cnt:R2.cnt=.int .i64 0
 plan:R2.pl=vp
 dd:R2.dd=.bool false
 f1:∀ k,R1.Y p1 q1 k→w0.heap.size≤k
 f2:∀ k,R2.F pf k→w0.heap.size≤k
 below:Below w0.heap.size w0 w
theorem both24_any (w:World) {ma:Option Addr} {mn mc:Nat} {ia:Option Addr} {il ic:Nat} {ms:List Mt} {is:List It} (h:SdAt w ma mn mc ia il ic ms is) (u g at' to':Int) (nm:ByteArray) {pa:Option Addr} {pn pc:Nat} {pl:List (Int×Int)} (hpl:SliceAt w 2 fltR pa pn pc pl) (ke:Bool) (hf:few24 ms is nm pl=true) :
  Calls Tryz.prog 51 #[.agg #[.slice ma mn mc,.slice ia il ic,.int .i64 u,.int .i64 g,.int .i64 at',.int .i64 to',.string nm,.slice pa pn pc,.bool ke]] w fun e w'=>∃ p1 q1 R1 v1 pf R2,e=.returned (.tuple #[.pointer (some ⟨p1,0,none⟩),.pointer (some ⟨pf,0,none⟩)])∧Both w w' (plantF ms is) pl (.slice pa pn pc) p1 q1 R1 v1 pf R2:=by
 obtain⟨hf2,-,hp4⟩:=few24_of hf;obtain⟨hm10,hi30,hmp,hip⟩:=few22_of hf2;have hil:is.length≤30:=by omega
 have hM:∀ m∈ms,m.path.size≤100000:=fun m hm=>Nat.le_trans (hmp m hm) (by omega);have hI:∀ x∈is,x.path.size≤100000∧x.data.size≤100000:=fun x hx=>by
  have:=hip x hx;omega
 have hX:=Blk.new w #[.slice ma mn mc,.slice ia il ic,.int .i64 u,.int .i64 g,.int .i64 at',.int .i64 to',.string nm,.slice pa pn pc,.bool ke] 123;have hbX:=balloc (Below.refl w.heap.size w) (.cells #[.slice ma mn mc,.slice ia il ic,.int .i64 u,.int .i64 g,.int .i64 at',.int .i64 to',.string nm,.slice pa pn pc,.bool ke] 123);have HS:=Lib.hid h;have HQ:=Lib.hid hpl;have HL4:=Lib.hid hp4;obtain⟨S,hS⟩:∃ S,plantF ms is=S:=⟨_,rfl⟩;rw [hS];clear h hpl hf hf2 hp4 hmp hip;go_enter Tryz.func51,Tryz.ntmps51;go_upto_region 1 with fail;generalize w.alloc (.cells #[.slice ma mn mc,.slice ia il ic,.int .i64 u,.int .i64 g,.int .i64 at',.int .i64 to',.string nm,.slice pa pn pc,.bool ke] 123)=w1 at hX hbX ⊢;have HBw:=Lib.hid hbX;have HX:=Lib.hid hX;obtain⟨bc,bf,bz⟩:=hX.facts;have HP1:=Lib.hid (fun wr (hb:Below w1.heap.size w1 wr)=>plant_any wr (HS.out.keep (HBw.out.trans (hb.mono HBw.out.size))) (by omega) (by omega) hM hI);have HP2:=Lib.hid (fun wr (hb:Below w1.heap.size w1 wr)=>(rplant22K_any wr (HS.out.keep (HBw.out.trans (hb.mono HBw.out.size))) (by omega) (by omega) hM hI).mono
  (fun e w' ⟨pf,R,h1,h2,h3,h4,h5⟩=>(⟨pf,R,h1,h2,fun k hk=>Nat.le_trans hb.size (h3 k hk),h4,h5⟩:∃ pf R,e=Ending.returned (.pointer (some ⟨pf,0,none⟩))∧RfAt w' pf R (plantF ms is)∧(∀ k,R.F pf k→w1.heap.size≤k)∧Rf.Like rf0 R∧Below wr.heap.size wr w')))
 rw [hS] at HP1 HP2;clear hX hbX hm10 hil hM hI hi30
 go_cut [4,5] (fun t4 t5 wx=>∃ p1 q1 R1 v1 pf R2,t4=.pointer (some ⟨p1,0,none⟩)∧t5=.pointer (some ⟨pf,0,none⟩)∧SyAt wx p1 q1 R1 v1 ⟨S,0,0,[],false⟩∧(∀ k,R1.Y p1 q1 k→w1.heap.size≤k)∧RfAt wx pf R2 S∧(∀ k,R2.F pf k→w1.heap.size≤k)∧Rf.Like rf0 R2∧Below w1.heap.size w1 wx)
 case first=>
  go_region_held3 (fun w'=>(∀ b o,b<w1.heap.size→w'.cell? ⟨b,o,none⟩=w1.cell? ⟨b,o,none⟩)∧Below w1.heap.size w1 w') (first | with_reducible assumption | with_reducible exact keepS_here _ | with_reducible exact keepS_here2 _ | with_reducible exact keepS_call (by assumption) (by assumption) | with_reducible exact keepS_alloc (by assumption) _ | with_reducible exact keepS_allocD (by assumption) _ | with_reducible exact keepS_realloc (by assumption) (by assumption) | with_reducible exact keepS_set4 (by assumption) (by assumption))
   ((first
    | (go_at_call 49;((with_reducible refine (HP1.out _ (And.right (by assumption))).mono ?_);rintro e w4 ⟨p1,q1,R1,v1,Y1,rfl,hY1,rfl,hf1,hb4⟩;have HY1:=Lib.hid (And.intro hY1 hf1);clear hY1 hf1))
    | (go_at_call 112;((with_reducible refine (HP2.out _ (And.right (by assumption))).mono ?_);rintro e w5 ⟨pf,R2,rfl,hR2,hf2,hlk,hb5⟩;have HY2:=Lib.hid (And.intro (HY1.out.1.keep hb5) (And.intro hR2 (And.intro hf2 hlk)));clear hR2 hf2 hlk))))
  all_goals
   have hbz:Below w1.heap.size w1 w5:=And.right (by assumption);have HBZ:=Lib.hid hbz;go_wp2_with fail;go_meet;exact⟨p1,q1,R1,v1,pf,R2,rfl,rfl,HY2.out.1,HY1.out.2,HY2.out.2.1,HY2.out.2.2.1,HY2.out.2.2.2,HBZ.out⟩
 case rest=>
  obtain⟨p1,q1,R1,v1,pf,R2,rfl,rfl,hY1,hf1,hR2,hf2,hlk,hbw⟩:=hcut;generalize wc=wb at hY1 hR2 hbw ⊢;have hbw0:=HBw.out.trans (hbw.mono HBw.out.size);have hp1w:w1.heap.size≤p1:=hf1 p1 (.inl rfl);have hpfw:w1.heap.size≤pf:=hf2 pf (.inl rfl);have hw1:w.heap.size≤w1.heap.size:=HBw.out.size;have hne:p1≠pf:=by
   rintro rfl;have h1:=hY1.blk;have h2:=hR2.blk;unfold Blk at h1 h2;rw [h1] at h2;injection h2 with h2;injection h2 with e1 e2 e3;revert e2;decide
  have HXb:=Lib.hid (HX.out.keep hbw);have HPn:=Lib.hid (splan2_any hY1 (HQ.out.below (hbw0.trans ⟨rfl,rfl,rfl,by simp,fun k hk=>Below.heap_setCell _ _ _ k (by simp only;omega)⟩) (Nat.le_refl _)) (by have:=HL4.out;omega));obtain⟨cc,cf,cz⟩:=(HX.out.keep hbw).facts;have HZ:=Lib.hid (And.intro hf1 (And.intro hf2 (And.intro hlk (And.intro hR2 (And.intro hY1 hbw0)))));clear hY1 hf1 hR2 hf2 hlk hbw hbw0 bc bf bz;go_wp2_with fail;refine HPn.out.mono ?_;rintro e w2 ⟨rfl,pv',hY2,hm2⟩;obtain⟨hf1,hf2,hlk,hR2,hY1,hbw0⟩:=HZ.out;have hR3:RfAt w2 pf R2 S:=hR2.mod hm2 (fun k o hk ho=>by
   subst hk;have h1:=hY1.blk;unfold Blk at h1;rw [h1] at ho;injection ho with ho;subst ho;exact⟨rfl,fun cur e=>by injection e with e1 e2;revert e2;decide⟩)
  have hX3:=HXb.out.mod hm2 (show ¬ w.heap.size=p1 by have:=HX.out.lt;omega);obtain⟨dc,df,dz⟩:=hX3.facts;obtain⟨gc,gf,gz⟩:=hR3.blk.facts;have HT:=Lib.hid (And.intro hY2 (And.intro hR3 hm2));clear hf1 hf2 hlk hR2 hY1 hbw0 hY2 hR3 hm2 hX3 cc cf cz;go_wp2_with fail;go_ret2;obtain⟨hf1,hf2,hlk,-,-,hbw0⟩:=HZ.out;obtain⟨hY2,hR3,hm2⟩:=HT.out;have hm3:Mod (fun k=>k=pf) w2 (w2.setCell ⟨pf,5,none⟩ (.slice pa pn pc)):=(Mod.refl (fun k=>k=pf) w2).setCell (a:=⟨pf,5,none⟩) (.inl rfl) _;have hl2:=hm2.size;have hl3:=hm3.size;have hwb:=hbw0.size;refine ⟨p1,q1,R1,pv',pf,{R2 with pl:=.slice pa pn pc},rfl,⟨hY2.other hR3.blk rfl (by decide) (by decide) (by decide) hm3,hR3.setPl _,hlk.now,hlk.cnt,rfl,hlk.dd,fun k hk=>Nat.le_trans hw1 (hf1 k hk),fun k hk=>Nat.le_trans hw1 (hf2 k hk),?_⟩⟩;exact hbw0.trans ((hm2.below (fun k hk=>by omega) hwb).trans (hm3.below (fun k hk=>by omega) (by omega)))
end
section
open Go.RowKit
def NoT:Nat→Prop:=fun _=>False
def SeqU {α:Type} (T:Nat→Prop) (F:Fence) (n:Nat) (P:Program) (g:Nat) (lb:Array Value) (encs:α→Array Value) (S Sp:List α→Prop) (V:List α→α→Prop) (w:World):Prop:=
 ∀ (l:Nat) (J Jx:List α→World→Prop) (W:World),KT T w W→w.heap.size≤W.heap.size→AbT NoT W.heap.size Obj.isWalk J→AbT NoT W.heap.size Obj.isWalk Jx→
  (∀ pre x W1,J pre W1→V pre x→YieldAt F (n - 1) P l (encs x) W1 fun e W'=>
   (e=.returned (.bool true)∧J (pre ++ [x]) W'∧KT T W1 W')∨(e=.returned (.bool false)∧Jx (pre ++ [x]) W'))→
  J [] W→
  CallsIn F n P g (#[.func (.yield l) #[] #[]] ++ lb) W fun e W'=>(∃ v,e=.returned v)∧((∃ xs,S xs∧J xs W')∨(∃ pre,Sp pre∧Jx pre W'))
end
section
open Go.RowKit
def SeqB {α:Type} (M:Nat) (F:Fence) (n:Nat) (P:Program) (g:Nat) (lb:Array Value) (encs:α→Array Value) (S Sp:List α→Prop) (V:List α→α→Prop) (w:World):Prop:=
 ∀ (l:Nat) (J Jx:List α→World→Prop) (W:World),Below M w W→w.heap.size≤W.heap.size→AbT NoT W.heap.size Obj.isWalk J→AbT NoT W.heap.size Obj.isWalk Jx→
  (∀ pre x W1,J pre W1→V pre x→YieldAt F (n - 1) P l (encs x) W1 fun e W'=>
   (e=.returned (.bool true)∧J (pre ++ [x]) W'∧Below M W1 W')∨(e=.returned (.bool false)∧Jx (pre ++ [x]) W'))→
  J [] W→
  CallsIn F n P g (#[.func (.yield l) #[] #[]] ++ lb) W fun e W'=>(∃ v,e=.returned v)∧((∃ xs,S xs∧J xs W')∨(∃ pre,Sp pre∧Jx pre W'))
end
section
open Go.RowKit Go.Shelf
attribute [local go_sem] Oper.semAt_some
def Fs.topAt (S:Fs) (d:Nat):Option (Int×ByteArray):=(S.place_ (S.root ((d:Int)+1))).map fun s=>(S.root ((d:Int)+1),s)
def Fs.topsK (S:Fs) (k:Nat):List (Int×ByteArray):=(List.range k).filterMap S.topAt
def Fs.topsL (S:Fs):List (Int×ByteArray):=S.topsK S.ds.length
end
section
open Go.RowKit
def Nm (S:Fs):Prop:=∀ a∈S.ns,∀ x∈a.ents,checkE x.name=0
theorem Nm.set {S:Fs} (h:Nm S) {a:An} (hn:∀ x∈a.ents,checkE x.name=0):Nm (S.set a):=by
 intro y hy;unfold Fs.set at hy;simp only [List.mem_map] at hy;obtain⟨z,hz,rfl⟩:=hy
 split
 ·exact hn
 ·exact h z hz
theorem Nm.add {S:Fs} (h:Nm S) {a:An} (hn:a.ents=[]):Nm (S.add a):=by
 intro y hy;unfold Fs.add at hy;rcases List.mem_append.1 hy with hy | hy
 ·exact h y hy
 ·simp at hy;subst hy;intro x hx;rw [show ({a with no:=S.last+1}:An).ents=a.ents from rfl,hn] at hx
  cases hx
theorem Nm.addRoot {S:Fs} (h:Nm S) (o b n:Int):Nm (S.addRoot o b n):=by
 intro y hy;unfold Fs.addRoot at hy;rcases List.mem_append.1 hy with hy | hy
 ·exact h y hy
 ·simp at hy;subst hy;intro x hx
  cases hx
theorem Nm.make {S:Fs} (h:Nm S) {a:An} (hn:a.ents=[]):Nm (S.make a).1:=by
 unfold Fs.make
 split
 ·exact h
 ·split
  ·exact h
  ·simp only
   split
   ·exact Nm.add (S:=S.setDev _ _) (fun y hy=>h y hy) hn
   ·exact h
theorem put_check {l:List En} (h:∀ x∈l,checkE x.name=0) {s:ByteArray} (hs:checkE s=0) (no:Int):∀ x∈entPut l s no,checkE x.name=0:=by
 intro x hx;unfold entPut at hx;rcases List.mem_append.1 hx with hx | hx
 ·exact h x (List.mem_filter.1 hx).1
 ·rcases List.mem_cons.1 hx with rfl | hx
  ·exact hs
  ·exact h x (List.mem_filter.1 hx).1
theorem Nm.touch {S:Fs} (h:Nm S) (now dir:Int) (l:List En) (hl:∀ x∈l,checkE x.name=0):Nm (S.touch now dir l):=by
 unfold Fs.touch
 split
 ·exact h
 ·exact h.set hl
theorem Nm.come {S:Fs} (h:Nm S) {a:An} (c:Cr) (now dir:Int) (s:ByteArray) (he:a.ents=[]):Nm (S.come c now dir s a).1:=by
 unfold Fs.come
 split
 ·exact h
 ·rename_i hpl;obtain⟨d,hd,hdk,hce⟩:=place_check (by simpa using hpl);rw [hd];simp only
  split
  ·exact h
  ·have hm:=h.make (a:={a with dev:=d.dev,uid:=c.u,gid:=c.g,mtime:=now,ctime:=now,links:=1}) he
   split
   ·exact h
   ·exact hm.touch _ _ _ (put_check (h d (an_mem hd)) hce _)
theorem Nm.mkdir {S:Fs} (h:Nm S) (c:Cr) (now dir:Int) (s:ByteArray) (m:Int):Nm (S.mkdir c now dir s m).1:=by
 unfold Fs.mkdir
 split
 ·exact h
 ·exact h.come c now dir s rfl
theorem Nm.file {S:Fs} (h:Nm S) (c:Cr) (now dir:Int) (s:ByteArray) (m:Int) (t:ByteArray):Nm (S.file c now dir s m t).1:=by
 unfold Fs.file
 split
 ·exact h
 ·split
  ·exact h
  ·exact h.come c now dir s rfl
theorem Nm.sym {S:Fs} (h:Nm S) (c:Cr) (now dir:Int) (s t:ByteArray):Nm (S.sym c now dir s t).1:=by
 unfold Fs.sym
 split
 ·exact h
 ·split
  ·exact h
  ·exact h.come c now dir s rfl
theorem Nm.hard {S:Fs} (h:Nm S) (c:Cr) (now no dir:Int) (s:ByteArray):Nm (S.hard c now no dir s).1:=by
 unfold Fs.hard
 split
 ·exact h
 ·rename_i hpl;obtain⟨d0,hd0,hdk,hce⟩:=place_check (by simpa using hpl)
  split
  ·rename_i d n hd hn
   split
   ·exact h
   ·split
    ·exact h
    ·split
     ·exact h
     ·split
      ·exact h
      ·exact Nm.touch (h.set (a:={n with links:=n.links+1,ctime:=now}) (h n (an_mem hn))) _ _ _ (put_check (h d (an_mem hd)) hce _)
  ·exact h
theorem Nm.chmod {S:Fs} (h:Nm S) (c:Cr) (now no m:Int):Nm (S.chmod c now no m).1:=by
 unfold Fs.chmod
 split
 ·exact h
 ·rename_i n hn
  split
  ·exact h
  ·split
   ·exact h
   ·exact h.set (h n (an_mem hn))
theorem Nm.chown {S:Fs} (h:Nm S) (c:Cr) (now no u g:Int):Nm (S.chown c now no u g).1:=by
 unfold Fs.chown
 split
 ·exact h
 ·rename_i n hn
  split
  ·exact h
  ·split
   ·exact h
   ·split
    ·exact h
    ·exact h.set (h n (an_mem hn))
theorem Nm.utime {S:Fs} (h:Nm S) (c:Cr) (now no t:Int):Nm (S.utime c now no t).1:=by
 unfold Fs.utime
 split
 ·exact h
 ·rename_i n hn
  split
  ·exact h
  ·split
   ·exact h
   ·exact h.set (h n (an_mem hn))
theorem Nm.mount {S:Fs} (h:Nm S) (k b n:Int):Nm (S.mount k b n).1:=by
 unfold Fs.mount
 split
 ·exact h
 ·split
  ·exact h
  ·split
   ·exact h
   ·split
    ·exact h
    ·exact h.addRoot _ b n
theorem Nm.mountF {S:Fs} (h:Nm S) (m:Mt):Nm (mountF S m):=by
 unfold Go.Proofs.YtihdbncoijhihaaGreat.mountF
 split
 ·exact h
 ·split
  ·have h1:=h.mkdir c00 0 (S.path c00 m.path false).1.dir (S.path c00 m.path false).1.name 493;simp only
   split
   ·exact h1
   ·exact h1.mount _ _ _
  ·exact h.mount _ _ _
theorem Nm.mountsF {S:Fs} (h:Nm S) (l:List Mt):Nm (mountsF S l):=by
 induction l generalizing S with
 | nil=>exact h
 | cons m l ih=>
  unfold Go.Proofs.YtihdbncoijhihaaGreat.mountsF;by_cases hm:m.path=topB
  ·rw [if_pos hm];exact ih h
  ·rw [if_neg hm];exact ih (h.mountF m)
theorem Nm.nodeF {S:Fs} (h:Nm S) (it:It):Nm (nodeF S it).1:=by
 unfold Go.Proofs.YtihdbncoijhihaaGreat.nodeF;simp only
 split
 ·exact h
 ·split
  ·split <;> exact h
  ·split
   ·exact h.mkdir _ _ _ _ _
   ·split
    ·exact h.file _ _ _ _ _ _
    ·split
     ·exact h.sym _ _ _ _ _
     ·split
      ·split
       ·exact h.hard _ _ _ _ _
       ·exact h
      ·exact h
theorem Nm.itemF {S:Fs} (h:Nm S) (it:It):Nm (itemF S it).1:=by
 unfold Go.Proofs.YtihdbncoijhihaaGreat.itemF;have h1:=h.nodeF it;simp only
 split
 ·exact (h1.chown _ _ _ _ _).chmod _ _ _ _
 ·exact h1
theorem Nm.itemsF {S:Fs} (h:Nm S) (l:List It):Nm (itemsF S l).1:=by
 induction l generalizing S with
 | nil=>exact h
 | cons x l ih=>exact ih (h.itemF x)
theorem Nm.timesF {S:Fs} (h:Nm S) (l:List (It×Int)):Nm (timesF S l):=by
 induction l generalizing S with
 | nil=>exact h
 | cons x l ih=>
  unfold Go.Proofs.YtihdbncoijhihaaGreat.timesF;refine ih ?_
  split
  ·exact h.utime _ _ _ _
  ·exact h
theorem plant_nm (ms:List Mt) (is:List It):Nm (plantF ms is):=by
 unfold plantF;simp only;refine Nm.timesF (Nm.itemsF (Nm.mountsF ?_ ms) is) _;exact Nm.addRoot (S:=fs0) (fun a ha=>by cases ha) _ _ _
end
end Go.Proofs.YtihdbncoijhihaaGreat
