import Derived.Deep.DeepHandedRow
import Derived.Lay
import Derived.Deep.CutBlock
import Derived.Deep.DeepCutAuto
import Derived.RegionTactic
import Derived.BigRegion
import Derived.Test.YtihdbncoijhihaaGreatDoorSN37
import Derived.Test.YtihdbncoijhihaaGreatDoorSN29
import Derived.Test.YtihdbncoijhihaaGreatDoorSN1
import Derived.Test.YtihdbncoijhihaaGreatDoorSN36
import Derived.Test.YtihdbncoijhihaaGreatDoorSN14
import Derived.Test.YtihdbncoijhihaaGreatDoorSN34
set_option linter.unusedVariables false
set_option linter.unusedSimpArgs false
set_option maxRecDepth 100000
set_option maxHeartbeats 16000000
namespace Go.Proofs.YtihdbncoijhihaaGreatDoor
section
open Go.RowKit Go.ChangeShapes Go.WideShapes Go.ChangeAt
section
variable {H:Type} {enc:TypeId×Value→H} {w:World} {base:Nat} {spare:Nat→Bool} {held:Bool}
theorem trod_user {fuel:Nat} {cs:List Value} {x:DataW H×List MemPlace} (h:DataW.trod enc Tryz.prog w base spare held fuel 70 cs=some x):∃ u g s,cs=[.int .i64 u,.int .i64 g,.string s]∧(-9223372036854775808≤u∧u≤9223372036854775807)∧s.size≤9223372036854775807:=by
 obtain⟨h1,n,h2⟩:=trod_fields5 Tryz.underlying70 h;have hc:Tryz.prog.cellsOf 70=3:=by kernel_rfl
 have c1:Tryz.prog.cellsOf 3=1:=by kernel_rfl
 have c2:Tryz.prog.cellsOf 9=1:=by kernel_rfl
 rw [hc] at h1
 match cs,h1 with
 | [a0,a1,a2],_=>
  obtain⟨y0,k0⟩:=h2 0 3 0 1 [a0] rfl c1 rfl;obtain⟨y1,k1⟩:=h2 1 3 1 1 [a1] rfl c1 rfl;obtain⟨y2,k2⟩:=h2 2 9 2 1 [a2] rfl c2 rfl;obtain⟨n0,e0,f0⟩:=trod_i64 Tryz.underlying3 k0;obtain⟨n1,e1,-⟩:=trod_i64 Tryz.underlying3 k1;obtain⟨s2,e2,h3⟩:=trod_str Tryz.underlying9 k2;simp at e0 e1 e2;subst e0 e1 e2;exact⟨n0,n1,s2,rfl,f0,h3⟩
theorem trod_case30 {fuel:Nat} {cs:List Value} {x:DataW H×List MemPlace} (h:DataW.trod enc Tryz.prog w base spare held fuel 72 cs=some x) :
  ∃ ma mn mc ia il ic ms is u g dt pt tx no now pa pn pc pl,cs=[.slice ma mn mc,.slice ia il ic,.int .i64 u,.int .i64 g,.string dt,.string pt,.string tx,.int .i64 no,.int .i64 now,.slice pa pn pc]∧SdAt w ma mn mc ia il ic ms is∧SliceAt w 2 fltR pa pn pc pl∧(-9223372036854775808≤u∧u≤9223372036854775807)∧dt.size≤9223372036854775807∧pt.size≤9223372036854775807∧tx.size≤9223372036854775807:=by
 obtain⟨h1,n,h2⟩:=trod_fields5 Tryz.underlying72 h;have hc:Tryz.prog.cellsOf 72=10:=by kernel_rfl
 have c1:Tryz.prog.cellsOf 25=2:=by kernel_rfl
 have c2:Tryz.prog.cellsOf 70=3:=by kernel_rfl
 have c3:Tryz.prog.cellsOf 3=1:=by kernel_rfl
 have c4:Tryz.prog.cellsOf 9=1:=by kernel_rfl
 have c5:Tryz.prog.cellsOf 28=1:=by kernel_rfl
 rw [hc] at h1
 match cs,h1 with
 | [a0,a1,a2,a3,a4,a5,a6,a7,a8,a9],_=>
  obtain⟨y0,k0⟩:=h2 0 25 0 2 [a0,a1] rfl c1 rfl;obtain⟨y1,k1⟩:=h2 1 70 2 3 [a2,a3,a4] rfl c2 rfl;obtain⟨y2,k2⟩:=h2 2 9 5 1 [a5] rfl c4 rfl;obtain⟨y3,k3⟩:=h2 3 9 6 1 [a6] rfl c4 rfl;obtain⟨y4,k4⟩:=h2 4 3 7 1 [a7] rfl c3 rfl;obtain⟨y5,k5⟩:=h2 5 3 8 1 [a8] rfl c3 rfl;obtain⟨y6,k6⟩:=h2 6 28 9 1 [a9] rfl c5 rfl;obtain⟨ma,mn,mc,ia,il,ic,ms,is,e0,hs⟩:=trod_seed k0;obtain⟨u,g,dt,e1,hu,hdt⟩:=trod_user k1;obtain⟨s2,e2,z2⟩:=trod_str Tryz.underlying9 k2;obtain⟨s3,e3,z3⟩:=trod_str Tryz.underlying9 k3;obtain⟨n4,e4,-⟩:=trod_i64 Tryz.underlying3 k4;obtain⟨n5,e5,-⟩:=trod_i64 Tryz.underlying3 k5;obtain⟨pa,pn,pc,pl,e6,hp⟩:=open_sl (R:=fltR) (sz:=2) Tryz.underlying28 (by kernel_rfl) (by decide) (fun fuel cs x h=>trod_flt h) k6;simp at e0 e1 e2 e3 e4 e5 e6;obtain⟨rfl,rfl⟩:=e0;obtain⟨rfl,rfl,rfl⟩:=e1;subst e2 e3 e4 e5 e6;exact⟨ma,mn,mc,ia,il,ic,ms,is,u,g,dt,s2,s3,n4,n5,pa,pn,pc,pl,rfl,hs,hp,hu,hdt,z2,z3⟩
end
end
section
open Go.ChangeShapes Go.WideShapes Go.ChangeAt
theorem and_i {a b:Bool} (h:a=true) (k:b=true):(a && b)=true:=by
 rw [h,k];rfl
theorem joined_of {P:Program} {f:FuncId} {fn:Func} {s:ChangeSpec} {c:OpenClaim}
  (h0:(c.wf (OpenSpec.ofChange s))=true)
  (h1:(laidOutB P)=true)
  (h2:(mapsRowed P)=true)
  (h3:(fn.params.all (P.readableRec ·))=true)
  (h4:(namedTie P c.named s.vars)=true)
  (h5:((c.stops == []))=true)
  (h6:((P.stops == []))=true)
  (h7:((c.knobs == []))=true)
  (h8:((P.stopKnobs == []))=true)
  (h9:((c.inPlace == P.inPlace f))=true)
  (h10:((c.unfollowed == P.unfollowed f))=true)
  (h11:((c.recurses == P.recurses f))=true)
  (h12:((c.named == P.varsNamed f))=true)
  (h13:((c.maps == (fn.params.toList ++ s.plain.varTypes P).any (P.mapsRec ·)))=true)
  (h14:((c.ifaces == (fn.params.toList ++ s.plain.varTypes P).any (P.ifacesRec ·)))=true)
  (h15:((c.mapsOut == P.mapsAmong fn.resultTypes.toList))=true)
  (h16:((c.loops == (fn.params.toList ++ s.plain.varTypes P).any (P.loopsFrom ·)))=true)
  (h17:((c.wideKeys == (fn.params.toList ++ s.plain.varTypes P ++ fn.resultTypes.toList).any (P.wideKeysFrom ·)))=true)
  (h18:(s.vars.all (P.varReadable ·))=true)
  (h19:(fn.resultTypes.all (fun t=>P.readableRec t && decide (t<P.types.size)))=true)
  (h20:((c.ifacesOut == fn.resultTypes.toList.any (P.ifacesRec ·)))=true)
  (h21:((c.loopsOut == fn.resultTypes.toList.any (P.loopsFrom ·)))=true)
  (h22:((c.plainKeys == P.plainKeys))=true)
  (h23:(c.shortTexts.isNone)=true)
  (h24:(P.stopsHeard)=true)
  (h25:(P.mayEnter)=true)
  (h26:((c.lifted == P.liftsFinal))=true)
  (h27:((P.make == some c.make))=true)
  (h28:((c.kinds == (if c.domain.isEmpty then [] else fn.params.toList.map fun t=>match P.underlying t with | some (.int k)=>some k | _=>none)))=true)
  (h29:((c.pinned == c.pinnedBy))=true)
  (h30:((c.veiled == (fn.params.toList ++ s.plain.varTypes P ++ fn.resultTypes.toList).any (P.veiledRec ·)))=true)
  (h31:(c.veiledFits P fn.params.toList (fn.params.toList ++ s.plain.varTypes P ++ fn.resultTypes.toList))=true) :
  joinedFacts P f fn s c=true:=by
 unfold joinedFacts;exact and_i (and_i (and_i (and_i (and_i (and_i (and_i (and_i (and_i (and_i (and_i (and_i (and_i (and_i (and_i (and_i (and_i (and_i (and_i (and_i (and_i (and_i (and_i (and_i (and_i (and_i (and_i (and_i (and_i (and_i (and_i h0 h1) h2) h3) h4) h5) h6) h7) h8) h9) h10) h11) h12) h13) h14) h15) h16) h17) h18) h19) h20) h21) h22) h23) h24) h25) h26) h27) h28) h29) h30) h31
end
section
open Go.RowKit
section
variable {w w':World} {pf:Nat} {R:Rf} {S:Fs}
end
end
section
open Go.RowKit Go.Shelf
theorem rinto_end {a:Act} {W w0:World} {N B:Nat} {d k e:Int} {m:ByteArray} {rd:Gl×Int} (hb:Blk W B #[.int .i64 d,.string m,.int .i64 k] 122)
  (h8:a.tmps.getD 8 undef=.pointer (some ⟨B,0,none⟩)) (h9:a.tmps.getD 9 undef=.int .i64 e) (hr:rd=((⟨d,m,k⟩:Gl),e)) (hd:a.defers=[]) (hB:Below N w0 W) :
  bodyPost Tryz.prog Tryz.f52 (fun z w'=>z=.returned (.tuple #[rd.1.v,.int .i64 rd.2])∧Below N w0 w') .ret a W:=by
 subst hr;have q0:=hb.cell 0;have q1:=hb.cell 1;have q2:=hb.cell 2;rw [Array.getD_eq_getD_getElem?] at h8 h9;refine bodyPost_ret (v:=.tuple #[(⟨d,m,k⟩:Gl).v,.int .i64 e]) ?_ hd ⟨rfl,hB⟩;simp [results,Tryz.results52,go_sem,Gl.v,h8,h9,q0,q1,q2]
section
variable {w w':World} {pf:Nat} {R:Rf} {S:Fs}
theorem rinto_any (h:RfAt w pf R S) {N:Nat} (hk:FsOk S N) (hd:R.dd=.bool false) (u:Us) (path n:ByteArray) (hp:path.size≤100000) :
  Calls Tryz.prog 52 #[.pointer (some ⟨pf,0,none⟩),.agg #[.int .i64 u.u,.int .i64 u.g,.string u.data],.string path,.string n] w fun e w'=>e=.returned (.tuple #[(S.intoF u.c path n).1.v,.int .i64 (S.intoF u.c path n).2])∧Below w.heap.size w w':=by
 obtain⟨hU,hR,hb2⟩:=boxes2 w #[.int .i64 u.u,.int .i64 u.g,.string u.data] #[.int .i64 0,.string ⟨#[]⟩,.int .i64 0] 70 122;have HC:=Lib.hid (rcred_any u.u u.g u.data);have HF1:=Lib.hid (fun w1 (hb1:Below w.heap.size w w1)=>rfind21_any (h.keep hb1) hk hd u.c path hp true);have HF2:=Lib.hid (fun w1 (hb1:Below w.heap.size w w1)=>rfind21_any (h.keep hb1) hk hd u.c path hp false);have HGt:=Lib.hid (fun w1 (hb1:Below w.heap.size w w1) k=>rgetZ_fix (h.keep hb1) k);have HL:=Lib.hid (fun w1 (hb1:Below w.heap.size w w1) d m=>rlook_any (h.keep hb1) hk hd u.c d m);have hz0:(S.getZ 0).kind=0:=by
  cases hg:S.get 0 with
  | none=>rw [getZ_none hg];rfl
  | some a=>exact absurd (hk.get hg).2.2.1 (by decide)
 have HI:=Lib.hid (show S.intoF u.c path n=if (S.path u.c path true).2=0∧(S.getZ (S.path u.c path true).1.no).kind=1 then S.intoG u.c (S.path u.c path true).1.no n
  else if (S.path u.c path true).2=20 then (gl0,20) else if (S.path u.c path false).2≠0 then (gl0,(S.path u.c path false).2)
  else if (S.path u.c path false).1.slash=true∨(S.path u.c path false).1.name=ByteArray.empty then (gl0,9) else S.intoG u.c (S.path u.c path false).1.dir (S.path u.c path false).1.name from rfl)
 have HG:=Lib.hid (fun d m=>show S.intoG u.c d m=if (S.lookF false u.c d m).2≠0∧(S.lookF false u.c d m).2≠5 then (gl0,(S.lookF false u.c d m).2) else (⟨d,m,(S.lookF false u.c d m).1⟩,0) from rfl);generalize S.intoF u.c path n=rd at HI ⊢;generalize S.path u.c path true=t1 at HI HF1;generalize S.path u.c path false=t2 at HI HF2;obtain⟨x1,g1⟩:=t1;obtain⟨x2,g2⟩:=t2;have ec:(⟨u.u,u.g⟩:Cr)=u.c:=rfl;unfold Fd.v at HF1 HF2;dsimp only at HI HF1 HF2;clear h hk;go_enter Tryz.func52,Tryz.ntmps52;go_upto_region 1 with fail;generalize (w.alloc (.cells #[.int .i64 u.u,.int .i64 u.g,.string u.data] 70)).alloc (.cells #[.int .i64 0,.string ⟨#[]⟩,.int .i64 0] 122)=X at hU hR hb2 ⊢;obtain⟨uc,uf,uz⟩:=hU.facts;have HR:=Lib.hid (And.intro hR hb2);clear hU hR hb2;go_wp2_with fail;refine (HC.out _).mono ?_;rintro e w1 ⟨rfl,hb1⟩;have hR1:=HR.out.1.keep hb1;have hB1:=bnext HR.out.2 hb1;have hC1:=Blk.new w1 #[.int .i64 u.u,.int .i64 u.g] 27;have hbC:=balloc (Below.refl w1.heap.size w1) (.cells #[.int .i64 u.u,.int .i64 u.g] 27);have hlt1:w.heap.size+1<w1.heap.size:=hR1.lt;clear hb1 uc uf uz;go_upto_region 2 with fail;have hR2:=hR1.keep hbC;have hB2:=bnext hB1 hbC;generalize w1.alloc (.cells #[.int .i64 u.u,.int .i64 u.g] 27)=w2 at hC1 hR2 hB2 ⊢;generalize w1.heap.size=bc at hC1 hlt1 ⊢;obtain⟨cc,cf,cz⟩:=hC1.facts;have H2:=Lib.hid (And.intro hR2 (And.intro hC1 hB2));clear hR1 hB1 hbC hC1 hR2 hB2;go_wp2_with fail;refine (HF1.out _ H2.out.2.2).mono ?_;rintro e w3 ⟨rfl,hb3⟩;have hX3:=Blk.new w3 #[.int .i64 x1.dir,.string x1.name,.int .i64 x1.no,.bool x1.slash] 58;have hbF:=balloc (Below.refl w3.heap.size w3) (.cells #[.int .i64 x1.dir,.string x1.name,.int .i64 x1.no,.bool x1.slash] 58);have hc3:=H2.out.2.1.keep hb3;have hlt3:=hc3.lt;have hB3:=bnext H2.out.2.2 hb3;have hbf:w.heap.size≤w3.heap.size:=hB3.size;have hI3:IB 122 (w3.alloc (.cells #[.int .i64 x1.dir,.string x1.name,.int .i64 x1.no,.bool x1.slash] 58)) w.heap.size bc w3.heap.size u x1:=⟨(H2.out.1.keep hb3).keep hbF,hc3.keep hbF,hX3,hlt1,hlt3⟩;have hB4:=bnext hB3 hbF;clear hb3 cc cf cz hX3 hbF hc3 hB3;go_upto_region 3 with fail;generalize w3.alloc (.cells #[.int .i64 x1.dir,.string x1.name,.int .i64 x1.no,.bool x1.slash] 58)=w4 at hI3 hB4 ⊢;generalize w3.heap.size=bf at hI3 hlt3 hbf ⊢;have H4:=Lib.hid (And.intro hI3 hB4);obtain⟨fc,ff,fz⟩:=hI3.f.facts;clear hI3 hB4;by_cases h20:g1=20
 ·have HJ:=Lib.hid (HI.out.trans ((if_neg (fun h=>by omega)).trans (if_pos h20)));subst h20;clear fc ff fz;obtain⟨rc,rf,rz⟩:=H4.out.1.r.facts;go_wp2_with fail;exact rinto_end H4.out.1.r.fill3 rfl rfl HJ.out rfl (below_fill3 H4.out.2 (Nat.le_succ _))
 ·have h20b:(g1 == 20)=false:=by simpa using h20
  go_upto_region 5 with fail
  go_cut [41] (fun t41 wx=>t41=.bool (decide (g1=0∧(S.getZ x1.no).kind=1))∧Below w4.heap.size w4 wx)
  case first=>
   by_cases h1:g1=0
   ·subst h1;by_cases hn1:x1.no=0
    ·have hnb:(x1.no != 0)=false:=by simpa using hn1
     have hq:decide ((0:Int)=0∧(S.getZ x1.no).kind=1)=false:=by rw [hn1,hz0];decide
     clear hn1;go_wp2_with fail;go_meet;exact⟨by rw [hq],Below.refl _ _⟩
    ·have hnb:(x1.no != 0)=true:=by simpa using hn1
     obtain⟨ea,el,ec,-,hG1⟩:=HGt.out _ H4.out.2 x1.no;have HGt1:=Lib.hid hG1;unfold An.v at HGt1;obtain⟨a,ha⟩:∃ a,S.getZ x1.no=a:=⟨_,rfl⟩;rw [ha] at HGt1;have HA:=Lib.hid ha;have hfd:∀ w,(Instr.field 109 (.agg #[.int .i64 a.no,.int .i64 a.dev,.int .i64 a.kind,.int .i64 a.mode,.int .i64 a.uid,.int .i64 a.gid,.int .i64 a.mtime,.int .i64 a.ctime,.int .i64 a.links,.int .i64 a.up,.string a.data,.slice ea el ec]) 2).run Tryz.prog w=.ok (.int .i64 a.kind) w:=fun _=>by kernel_rfl
     clear hn1 hG1 ha;go_wp2_with fail;refine (HGt1.out _ (Below.refl _ _)).mono ?_;rintro e w6 ⟨rfl,hb6⟩;have HB6:=Lib.hid hb6;clear hb6 fc ff fz;by_cases hk1:a.kind=1
     ·have hkb:(a.kind == 1)=true:=by simpa using hk1
      have HK1:=Lib.hid hk1;clear hk1;go_wp2_with fail;go_meet;exact⟨by simp [HA.out,HK1.out],HB6.out⟩
     ·have hkb:(a.kind == 1)=false:=by simpa using hk1
      have HK1:=Lib.hid hk1;clear hk1;go_wp2_with fail;go_meet;exact⟨by simp [HA.out,HK1.out],HB6.out⟩
   ·have h1b:(g1 == 0)=false:=by simpa using h1
    have hq:decide (g1=0∧(S.getZ x1.no).kind=1)=false:=by simp [h1]
    clear h1;go_wp2_with fail;go_meet;exact⟨by rw [hq],Below.refl _ _⟩
  case rest=>
   obtain⟨rfl,hb6⟩:=hcut;generalize wc=w6 at hb6 ⊢;have H6:=Lib.hid (And.intro (H4.out.1.keep hb6) (bnext H4.out.2 hb6));clear hb6 fc ff fz;obtain⟨fc,ff,fz⟩:=H6.out.1.f.facts;by_cases hc:g1=0∧(S.getZ x1.no).kind=1
   ·have hq:decide (g1=0∧(S.getZ x1.no).kind=1)=true:=decide_eq_true hc;have HK:=Lib.hid (HI.out.trans (if_pos hc));rw [hq];clear hc hq;go_upto_region 12 with fail;have HI8:=Lib.hid (And.intro (H6.out.1.fill ⟨x1.no,n,0,false⟩) (((((H6.out.2.setCell (p:=⟨bf,0,none⟩) hbf (.int .i64 x1.no)).setCell (p:=⟨bf,1,none⟩) hbf (.string n)).setCell (p:=⟨bf,2,none⟩) hbf (.int .i64 0)).setCell (p:=⟨bf,3,none⟩) hbf (.bool false))));generalize ((((w6.setCell ⟨bf,0,none⟩ (.int .i64 x1.no)).setCell ⟨bf,1,none⟩ (.string n)).setCell ⟨bf,2,none⟩ (.int .i64 0)).setCell ⟨bf,3,none⟩ (.bool false))=w9 at HI8 ⊢;clear fc ff fz;have hL1:=fun w1 (hb1:Below w.heap.size w w1)=>HL.out w1 hb1 (x1.no) (n);have hG1:=HG.out (x1.no) (n);generalize S.lookF false u.c (x1.no) (n)=lr at hL1 hG1;obtain⟨no,e3⟩:=lr;dsimp only at hL1 hG1;have HL1:=Lib.hid hL1;have HG1:=Lib.hid (HK.out.trans hG1);obtain⟨fc,ff,fz⟩:=HI8.out.1.f.facts;obtain⟨cc,cf,cz⟩:=HI8.out.1.c.facts;clear hL1 hG1;go_wp2_with fail;refine (HL1.out _ HI8.out.2).mono ?_;rintro e wv ⟨rfl,hbv⟩;have HV:=Lib.hid (And.intro (HI8.out.1.keep hbv) (bnext HI8.out.2 hbv));clear hbv fc ff fz cc cf cz;obtain⟨fc,ff,fz⟩:=HV.out.1.f.facts;obtain⟨rc,rf,rz⟩:=HV.out.1.r.facts;by_cases h3:e3=0
    ·have HE:=Lib.hid (HG1.out.trans (if_neg (fun h=>h.1 h3)));subst h3;go_wp2_with fail;exact rinto_end HV.out.1.r.fill3 rfl rfl HE.out rfl (below_fill3 HV.out.2 (Nat.le_succ _))
    ·by_cases h5:e3=5
     ·have HE:=Lib.hid (HG1.out.trans (if_neg (fun h=>h.2 h5)));subst h5;clear h3;go_wp2_with fail;exact rinto_end HV.out.1.r.fill3 rfl rfl HE.out rfl (below_fill3 HV.out.2 (Nat.le_succ _))
     ·have h3b:(e3 != 0)=true:=by simpa using h3
      have h5b:(e3 != 5)=true:=by simpa using h5
      have HE:=Lib.hid (HG1.out.trans (if_pos ⟨h3,h5⟩));clear h3 h5;go_wp2_with fail;exact rinto_end HV.out.1.r.fill3 rfl rfl HE.out rfl (below_fill3 HV.out.2 (Nat.le_succ _))
   ·have hq:decide (g1=0∧(S.getZ x1.no).kind=1)=false:=decide_eq_false hc;have HK:=Lib.hid (HI.out.trans (if_neg hc));have HJ0:=Lib.hid (HK.out.trans (if_neg h20));rw [hq];clear hc hq fc ff fz h20;obtain⟨cc,cf,cz⟩:=H6.out.1.c.facts;obtain⟨fc,ff,fz⟩:=H6.out.1.f.facts;go_wp2_with fail;refine (HF2.out _ H6.out.2).mono ?_;rintro e w8 ⟨rfl,hb8⟩;have H8:=Lib.hid (And.intro (H6.out.1.keep hb8) (bnext H6.out.2 hb8));clear hb8 cc cf cz fc ff fz;obtain⟨fc,ff,fz⟩:=H8.out.1.f.facts;by_cases h2:g2=0
    ·have HJ:=Lib.hid (HJ0.out.trans (if_neg (by simpa using h2)));subst h2;by_cases hs:x2.slash=true
     ·have HZ:=Lib.hid (HJ.out.trans (if_pos (.inl hs)));obtain⟨xd,xn,xo,xs⟩:=x2;dsimp only at hs;subst hs;clear HJ;obtain⟨rc,rf,rz⟩:=H8.out.1.r.facts;go_wp2_with fail;exact rinto_end (H8.out.1.fill ⟨xd,xn,xo,true⟩).r.fill3 rfl rfl HZ.out rfl (below_fill3 ((((H8.out.2.setCell (p:=⟨bf,0,none⟩) hbf _).setCell (p:=⟨bf,1,none⟩) hbf _).setCell (p:=⟨bf,2,none⟩) hbf _).setCell (p:=⟨bf,3,none⟩) hbf _) (Nat.le_succ _))
     ·have hsf:x2.slash=false:=by simpa using hs
      obtain⟨xd,xn,xo,xs⟩:=x2;dsimp only at hsf;subst hsf;by_cases hn0:xn=ByteArray.empty
      ·have HZ:=Lib.hid (HJ.out.trans (if_pos (.inr hn0)));have hnb:(xn.toList == [])=true:=by rw [hn0,ba_list];rfl
       clear HJ hs hn0;obtain⟨rc,rf,rz⟩:=H8.out.1.r.facts;go_wp2_with fail;exact rinto_end (H8.out.1.fill ⟨xd,xn,xo,false⟩).r.fill3 rfl rfl HZ.out rfl (below_fill3 ((((H8.out.2.setCell (p:=⟨bf,0,none⟩) hbf _).setCell (p:=⟨bf,1,none⟩) hbf _).setCell (p:=⟨bf,2,none⟩) hbf _).setCell (p:=⟨bf,3,none⟩) hbf _) (Nat.le_succ _))
      ·have HZ:=Lib.hid (HJ.out.trans (if_neg (by rintro (h | h);exact hs h;exact hn0 h)));have hnb:(xn.toList == [])=false:=by
        rw [ba_list]
        cases hl:xn.data.toList with
        | nil=>exact absurd (ba_extD (by rw [hl];rfl)) hn0
        | cons a l=>rfl
       clear HJ hs hn0;go_upto_region 12 with fail;have HI8:=Lib.hid (And.intro (H8.out.1.fill ⟨xd,xn,xo,false⟩) (((((H8.out.2.setCell (p:=⟨bf,0,none⟩) hbf (.int .i64 xd)).setCell (p:=⟨bf,1,none⟩) hbf (.string xn)).setCell (p:=⟨bf,2,none⟩) hbf (.int .i64 xo)).setCell (p:=⟨bf,3,none⟩) hbf (.bool false))));generalize ((((w8.setCell ⟨bf,0,none⟩ (.int .i64 xd)).setCell ⟨bf,1,none⟩ (.string xn)).setCell ⟨bf,2,none⟩ (.int .i64 xo)).setCell ⟨bf,3,none⟩ (.bool false))=w9 at HI8 ⊢;clear fc ff fz;have hL1:=fun w1 (hb1:Below w.heap.size w w1)=>HL.out w1 hb1 (xd) (xn);have hG1:=HG.out (xd) (xn);generalize S.lookF false u.c (xd) (xn)=lr at hL1 hG1;obtain⟨no,e3⟩:=lr;dsimp only at hL1 hG1;have HL1:=Lib.hid hL1;have HG1:=Lib.hid (HZ.out.trans hG1);obtain⟨fc,ff,fz⟩:=HI8.out.1.f.facts;obtain⟨cc,cf,cz⟩:=HI8.out.1.c.facts;clear hL1 hG1;go_wp2_with fail;refine (HL1.out _ HI8.out.2).mono ?_;rintro e wv ⟨rfl,hbv⟩;have HV:=Lib.hid (And.intro (HI8.out.1.keep hbv) (bnext HI8.out.2 hbv));clear hbv fc ff fz cc cf cz;obtain⟨fc,ff,fz⟩:=HV.out.1.f.facts;obtain⟨rc,rf,rz⟩:=HV.out.1.r.facts;by_cases h3:e3=0
       ·have HE:=Lib.hid (HG1.out.trans (if_neg (fun h=>h.1 h3)));subst h3;go_wp2_with fail;exact rinto_end HV.out.1.r.fill3 rfl rfl HE.out rfl (below_fill3 HV.out.2 (Nat.le_succ _))
       ·by_cases h5:e3=5
        ·have HE:=Lib.hid (HG1.out.trans (if_neg (fun h=>h.2 h5)));subst h5;clear h3;go_wp2_with fail;exact rinto_end HV.out.1.r.fill3 rfl rfl HE.out rfl (below_fill3 HV.out.2 (Nat.le_succ _))
        ·have h3b:(e3 != 0)=true:=by simpa using h3
         have h5b:(e3 != 5)=true:=by simpa using h5
         have HE:=Lib.hid (HG1.out.trans (if_pos ⟨h3,h5⟩));clear h3 h5;go_wp2_with fail;exact rinto_end HV.out.1.r.fill3 rfl rfl HE.out rfl (below_fill3 HV.out.2 (Nat.le_succ _))
    ·have h2b:(g2 != 0)=true:=by simpa using h2
     have HJ:=Lib.hid (HJ0.out.trans (if_pos h2));clear h2;obtain⟨rc,rf,rz⟩:=H8.out.1.r.facts;go_wp2_with fail;exact rinto_end (H8.out.1.fill x2).r.fill3 rfl rfl HJ.out rfl (below_fill3 ((((H8.out.2.setCell (p:=⟨bf,0,none⟩) hbf _).setCell (p:=⟨bf,1,none⟩) hbf _).setCell (p:=⟨bf,2,none⟩) hbf _).setCell (p:=⟨bf,3,none⟩) hbf _) (Nat.le_succ _))
theorem raside_any (h:RfAt w pf R S) {N:Nat} (hk:FsOk S N) (hN:N≤999999) (hm:Nm S) (hl:S.ns.length≤100000) {d:Bool} (hd:R.dd=.bool d) (u:Us) (g:Gl) (hg:g.name.size≤100000) (bk:Bool) :
  Calls Tryz.prog 54 #[.pointer (some ⟨pf,0,none⟩),.agg #[.int .i64 u.u,.int .i64 u.g,.string u.data],.agg #[.int .i64 g.dir,.string g.name,.int .i64 g.no],.bool bk] w fun e w'=>e=.returned (.tuple #[.string (S.asideF d u.c g bk).1,.int .i64 (S.asideF d u.c g bk).2])∧Below w.heap.size w w':=by
 obtain⟨hU,hG,hb2⟩:=boxes2 w #[.int .i64 u.u,.int .i64 u.g,.string u.data] #[.int .i64 g.dir,.string g.name,.int .i64 g.no] 70 122;have HC:=Lib.hid (rcred_any u.u u.g u.data);have HBu:=Lib.hid (fun w1 (hb1:Below w.heap.size w w1)=>rbusy_any (h.keep hb1) hk hl g.no);have HN:=Lib.hid (fun w1 (hb1:Below w.heap.size w w1)=>rspare_any (h.keep hb1) hk hN hm hd u.c g.dir g.name hg);have HI:=Lib.hid (show S.asideF d u.c g bk=if g.no=0 then (ByteArray.empty,0) else if bk=false then (ByteArray.empty,7) else if S.busy g.no=true then (ByteArray.empty,16) else S.spareF d u.c g.dir g.name from rfl);generalize S.asideF d u.c g bk=rd at HI ⊢;generalize S.spareF d u.c g.dir g.name=sp at HI HN;generalize S.busy g.no=bz at HI HBu;unfold Us.c at HN;clear h hk hm;go_enter Tryz.func54,Tryz.ntmps54;go_upto_region 1 with fail;generalize (w.alloc (.cells #[.int .i64 u.u,.int .i64 u.g,.string u.data] 70)).alloc (.cells #[.int .i64 g.dir,.string g.name,.int .i64 g.no] 122)=X at hU hG hb2 ⊢;have HX:=Lib.hid (And.intro hU (And.intro hG hb2));obtain⟨gc,gf,gz⟩:=hG.facts;clear hU hG hb2;by_cases h0:g.no=0
 ·have hnb:(g.no == 0)=true:=by simpa using h0
  have HE:=Lib.hid (HI.out.trans (if_pos h0));clear h0;go_wp2_with fail;go_ret2;rw [HE.out];exact⟨rfl,HX.out.2.2⟩
 ·have hnb:(g.no == 0)=false:=by simpa using h0
  have HE:=Lib.hid (HI.out.trans (if_neg h0));clear h0
  cases bk with
  | false=>
   have HE1:=Lib.hid (HE.out.trans (if_pos rfl));go_wp2_with fail;go_ret2;rw [HE1.out];exact⟨rfl,HX.out.2.2⟩
  | true=>
   have HE1:=Lib.hid (HE.out.trans (if_neg (by decide)));go_wp2_with fail;refine (HBu.out _ HX.out.2.2).mono ?_;rintro e w1 ⟨rfl,hb1⟩;have HX1:=Lib.hid (And.intro (HX.out.1.keep hb1) (And.intro (HX.out.2.1.keep hb1) (bnext HX.out.2.2 hb1)));clear hb1 gc gf gz
   cases bz with
   | true=>
    have HE2:=Lib.hid (HE1.out.trans (if_pos rfl));go_wp2_with fail;go_ret2;rw [HE2.out];exact⟨rfl,HX1.out.2.2⟩
   | false=>
    have HE2:=Lib.hid (HE1.out.trans (if_neg (by decide)));obtain⟨uc,uf,uz⟩:=HX1.out.1.facts;obtain⟨gc,gf,gz⟩:=HX1.out.2.1.facts;have HN1:=Lib.hid (fun w2 (hb:Below w1.heap.size w1 w2)=>HN.out w2 (bnext HX1.out.2.2 hb));go_upto_region 7 with fail
    go_region_held3 (fun w'=>(∀ b o,b<w1.heap.size→w'.cell? ⟨b,o,none⟩=w1.cell? ⟨b,o,none⟩)∧Below w1.heap.size w1 w') (first | with_reducible assumption | with_reducible exact keepS_here _ | with_reducible exact keepS_here2 _ | with_reducible exact keepS_call (by assumption) (by assumption) | with_reducible exact keepS_alloc (by assumption) _ | with_reducible exact keepS_allocD (by assumption) _ | with_reducible exact keepS_realloc (by assumption) (by assumption) | with_reducible exact keepS_set4 (by assumption) (by assumption))
     ((first
      | (go_at_call 49;((with_reducible refine (HC.out _).mono ?_);rintro e w9 ⟨rfl,hb9⟩))
      | (go_at_call 50;((with_reducible refine (HN1.out _ (And.right (by assumption))).mono ?_);rintro e w10 ⟨rfl,hb10⟩))))
    all_goals
     have hbz:Below w1.heap.size w1 w10:=And.right (by assumption);have HBz:=Lib.hid (bnext HX1.out.2.2 hbz);clear hbz;go_wp2_with fail;go_ret2;rw [HE2.out];exact⟨rfl,HBz.out⟩
end
end
section
open Go.RowKit Go.Shelf
attribute [local go_sem] Oper.semAt_some
theorem keepS_set2 {W w:World} {B:Nat} {v0 v1:Value} (h:(∀ b o,b<W.heap.size→w.cell? ⟨b,o,none⟩=W.cell? ⟨b,o,none⟩)∧Below W.heap.size W w) (hB:W.heap.size≤B) :
  (∀ b o,b<W.heap.size→((w.setCell ⟨B,0,none⟩ v0).setCell ⟨B,1,none⟩ v1).cell? ⟨b,o,none⟩=W.cell? ⟨b,o,none⟩)∧Below W.heap.size W ((w.setCell ⟨B,0,none⟩ v0).setCell ⟨B,1,none⟩ v1):=keepS_set (keepS_set h hB v0) hB v1
theorem Blk.fill2 {w:World} {B:Nat} {x0 x1 v0 v1:Value} {T:TypeId} (h:Blk w B #[x0,x1] T):Blk ((w.setCell ⟨B,0,none⟩ v0).setCell ⟨B,1,none⟩ v1) B #[v0,v1] T:=(h.set 0 v0).set 1 v1
theorem fs_u64 {x:Int} (h0:0≤x) (h:x≤999999):IntKind.u64.wrap x=x:=by
 rw [IntKind.wrap_u64];omega
theorem spareTells_any (w:World) {ma:Option Addr} {mn mc:Nat} {ia:Option Addr} {il ic:Nat} {ms:List Mt} {is:List It} (h:SdAt w ma mn mc ia il ic ms is) (u g:Int) (dt pt tx:ByteArray) (no now:Int) {pa:Option Addr} {pn pc:Nat} {pl:List (Int×Int)} (hpl:SliceAt w 2 fltR pa pn pc pl) (n:ByteArray) (hn63:n.size≤9223372036854775807) (bk:Bool) :
  Calls Tryz.prog 7 #[.agg #[.slice ma mn mc,.slice ia il ic,.int .i64 u,.int .i64 g,.string dt,.string pt,.string tx,.int .i64 no,.int .i64 now,.slice pa pn pc],.string n,.bool bk] w fun e w'=>e=.returned (.bool true)∧Below w.heap.size w w':=by
 have hX:=Blk.new w #[.slice ma mn mc,.slice ia il ic,.int .i64 u,.int .i64 g,.string dt,.string pt,.string tx,.int .i64 no,.int .i64 now,.slice pa pn pc] 72;have hbX:=balloc (Below.refl w.heap.size w) (.cells #[.slice ma mn mc,.slice ia il ic,.int .i64 u,.int .i64 g,.string dt,.string pt,.string tx,.int .i64 no,.int .i64 now,.slice pa pn pc] 72);have hbI:=((Below.refl _ w).alloc (Nat.le_refl _) (.cells #[.slice ma mn mc,.slice ia il ic,.int .i64 u,.int .i64 g,.string dt,.string pt,.string tx,.int .i64 no,.int .i64 now,.slice pa pn pc] 72));have HFw:=Lib.hid (few30_any _ (h.keep hbI) u g dt pt tx no now (pa:=pa) (pc:=pc) hpl.1);have HS:=Lib.hid (And.intro h hpl);have HAw:=Lib.hid awake40_any;clear h hpl hbI;go_enter Tryz.func7,Tryz.ntmps7;go_upto_region 1 with fail;generalize w.alloc (.cells #[.slice ma mn mc,.slice ia il ic,.int .i64 u,.int .i64 g,.string dt,.string pt,.string tx,.int .i64 no,.int .i64 now,.slice pa pn pc] 72)=w0 at hX hbX HFw ⊢;obtain⟨bc,bf,bz⟩:=hX.facts;go_wp2_with fail;refine HFw.out.mono ?_;rintro e w1 ⟨rfl,hb1⟩;have HB1:=Lib.hid (hX.keep hb1);have HBw:=Lib.hid (bnext hbX hb1);clear hX hbX hb1 HFw bc bf bz;obtain⟨bc,bf,bz⟩:=HB1.out.facts
 cases hf:few30 ms is dt pt tx pl with
 | false=>
  clear hf bc bf bz;go_wp2_with fail;refine (HAw.out _).mono ?_;rintro e w2 ⟨rfl,hb2⟩;have HB2:=Lib.hid (bnext HBw.out hb2);clear hb2;go_wp2_with fail;go_ret;exact⟨rfl,HB2.out⟩
 | true=>
  by_cases hn:300<n.size
  ·have hni:(300:Int)<(n.size:Int):=by omega
   clear hf bc bf bz;go_wp2_with fail;refine (HAw.out _).mono ?_;rintro e w2 ⟨rfl,hb2⟩;have HB2:=Lib.hid (bnext HBw.out hb2);clear hb2;go_wp2_with fail;go_ret;exact⟨rfl,HB2.out⟩
  ·have hni:¬ (300:Int)<(n.size:Int):=by omega
   have HBo:=Lib.hid (both30_any w1 (HS.out.1.keep HBw.out) u g dt pt tx no now (HS.out.2.keep HBw.out) hf);obtain⟨hf2,-,hpt,-,-⟩:=few30_of hf;obtain⟨hm10,hi30,-,-⟩:=few22_of hf2;have HOk:=Lib.hid (plant_ok ms is);have HNm:=Lib.hid (plant_nm ms is);have HPl:=Lib.hid (plant_pl ms is);have hsm:=pl_small (plant_ok ms is) (plant_pl ms is);obtain⟨N,hN⟩:∃ N,1+2*ms.length+is.length=N:=⟨_,rfl⟩;have hNs:N≤51:=by omega
   rw [hN] at HOk hsm;have hlast:=fs_last40 (plant_ok ms is) (by omega);generalize plantF ms is=S at HBo HOk HNm HPl hsm hlast;have HNs:=Lib.hid (show N≤51∧S.ns.length≤51 from ⟨hNs,by omega⟩);have HPt:=Lib.hid (show pt.size≤100000 by omega);clear hf hf2 hi30 hm10 hNs hN hsm hpt;go_wp2_with fail;refine HBo.out.mono ?_;rintro e w2 ⟨p1,q1,R1,v1,pf,R2,rfl,hBo⟩;have HB2:=Lib.hid (bnext HBw.out hBo.below);have HBt:=Lib.hid hBo;clear bc bf bz;have HC2:=Lib.hid (HB1.out.keep hBo.below);obtain⟨bc,bf,bz⟩:=HC2.out.facts;obtain⟨rc,rf,rz⟩:=hBo.r.blk.facts;clear hBo;have hlw:=fs_u64 (x:=S.last) (by omega) hlast.2;have hlz:¬ S.last=0:=by omega
   have HCr:=Lib.hid (rcred_any u g dt);go_upto_region 6 with fail
   go_cut [9,10] (fun t9 t10 wx=>∃ (n2:Int) (Bd:Nat),t9=.int .i64 n2∧t10=.pointer (some ⟨Bd,0,none⟩)∧Blk wx Bd #[.int .i64 u,.int .i64 g] 27∧Below w2.heap.size w2 wx)
   case first=>
    go_wp2_with fail;have hzz:w2.heap.size≤w2.heap.size:=Nat.le_refl _
    go_region_held3 (fun w'=>(∀ b o,b<w2.heap.size→w'.cell? ⟨b,o,none⟩=w2.cell? ⟨b,o,none⟩)∧Below w2.heap.size w2 w') (first | with_reducible exact keepS_set2 (by assumption) (by assumption) | (first | with_reducible assumption | with_reducible exact keepS_here _ | with_reducible exact keepS_here2 _ | with_reducible exact keepS_call (by assumption) (by assumption) | with_reducible exact keepS_alloc (by assumption) _ | with_reducible exact keepS_allocD (by assumption) _ | with_reducible exact keepS_realloc (by assumption) (by assumption) | with_reducible exact keepS_set4 (by assumption) (by assumption)))
     ((go_at_call 49;((with_reducible refine (HCr.out _).mono ?_);rintro e w9 ⟨rfl,hb9⟩;have hz9:=Nat.le_trans (And.right ‹(∀ b o,b<w2.heap.size→_)∧Below w2.heap.size w2 _›).size hb9.size;try (have hbq:=new_drew hb9;obtain ⟨bqc,bqf,bqz⟩:=hbq.facts))))
    all_goals
     obtain⟨-,hS4⟩:=‹_∧Below w2.heap.size w2 _›;have HS4:=Lib.hid hS4
     try (have HQ4:=Lib.hid hbq)
     clear hS4;go_wp2_with fail;go_meet;exact⟨_,_,rfl,rfl,by first | exact HQ4.out.fill2 | exact Blk.new _ _ _,HS4.out⟩
   case rest=>
    obtain⟨n2,cb,rfl,rfl,hC4,hB5⟩:=hcut;generalize wc=w5 at hC4 hB5 ⊢;have HC5:=Lib.hid (And.intro hC4 hB5);clear hC4 hB5 bc bf bz rc rf rz hlw hlz hlast;have ec:(⟨u,g,dt⟩:Us).c=(⟨u,g⟩:Cr):=rfl;have HN1:=Lib.hid (fun wx (hb:Below w2.heap.size w2 wx)=>sname_any (HBt.out.y.keep hb) HOk.out (by have:=HNs.out.1;omega) HNm.out ⟨u,g⟩ n2 n (by omega));have HN2:=Lib.hid (fun wx (hb:Below w2.heap.size w2 wx)=>rspare_any (HBt.out.r.keep hb) HOk.out (by have:=HNs.out.1;omega) HNm.out HBt.out.dd ⟨u,g⟩ n2 n (by omega));have HI1:=Lib.hid (fun wx (hb:Below w2.heap.size w2 wx)=>sinto_any (HBt.out.y.keep hb) HOk.out (by have:=HNs.out.1;omega) rfl ⟨u,g,dt⟩ pt n HPt.out);have HI2:=Lib.hid (fun wx (hb:Below w2.heap.size w2 wx)=>rinto_any (HBt.out.r.keep hb) HOk.out HBt.out.dd ⟨u,g,dt⟩ pt n HPt.out);have hgl:=intoF_size HOk.out ⟨u,g⟩ pt n HPt.out (by omega);dsimp only at HN1 HN2 HI1 HI2;rw [ec] at HI1 HI2;obtain⟨⟨s1,e1⟩,hs1⟩:∃ x,S.spareF false ⟨u,g⟩ n2 n=x:=⟨_,rfl⟩;obtain⟨⟨⟨d0,m0,k0⟩,e2⟩,hs2⟩:∃ x,S.intoF ⟨u,g⟩ pt n=x:=⟨_,rfl⟩;rw [hs1] at HN1 HN2;rw [hs2] at HI1 HI2 hgl;clear hs1 hs2;dsimp only [Gl.v] at HN1 HN2 HI1 HI2 hgl;have HA1:=Lib.hid (fun wx (hb:Below w2.heap.size w2 wx)=>saside_any (HBt.out.y.keep hb) HOk.out (by have:=HNs.out.1;omega) HNm.out HPl.out ⟨u,g,dt⟩ ⟨d0,m0,k0⟩ hgl bk);have HA2:=Lib.hid (fun wx (hb:Below w2.heap.size w2 wx)=>raside_any (HBt.out.r.keep hb) HOk.out (by have:=HNs.out.1;omega) HNm.out (by have:=HNs.out.2;omega) HBt.out.dd ⟨u,g,dt⟩ ⟨d0,m0,k0⟩ hgl bk);have hpz:∀ k s,S.place_ k=some s→s.size≤100000:=fun k s hs=>by
     have h1:=placeZ_size HPl.out hs;have:=HNs.out.2;omega
    have HY1:=Lib.hid (fun wx (hb:Below w2.heap.size w2 wx)=>snote40_any (HBt.out.y.keep hb) HOk.out HPl.out (by have:=HNs.out.2;show S.ns.length≤_;omega) rfl no n2 n d0 m0 (by omega) hgl hpz);have HY2:=Lib.hid (fun wx (hb:Below w2.heap.size w2 wx)=>rnote40_any (HBt.out.r.keep hb) HOk.out HPl.out (by have:=HNs.out.2;omega) HBt.out.dd no n2 n d0 m0 (by omega) hgl hpz);dsimp only at HA1 HA2 HY1 HY2;rw [ec] at HA1 HA2;obtain⟨⟨s3,e3⟩,hs3⟩:∃ x,S.asideF false ⟨u,g⟩ ⟨d0,m0,k0⟩ bk=x:=⟨_,rfl⟩;obtain⟨⟨⟨kd,nn,fr,tt,xx⟩,e4⟩,hs4⟩:∃ x,S.note40 no n2 n d0 m0=x:=⟨_,rfl⟩;rw [hs3] at HA1 HA2;rw [hs4] at HY1 HY2;dsimp only [Nt.v] at HA1 HA2 HY1 HY2;have HAk:=Lib.hid (fun wx (hb:Below w2.heap.size w2 wx)=>alike24_any (HBt.out.y.keep hb) (HBt.out.r.keep hb) HBt.out.cnt HBt.out.dd HOk.out HPl.out (by have:=HNs.out.2;show S.ns.length≤_;omega));have hne:=fun w=>nt_eq kd.toNat nn fr tt xx w;clear hs3 hs4 ec hpz hgl;obtain⟨cc,cf,cz⟩:=HC5.out.1.facts;go_wp2_with fail;refine (HN1.out _ HC5.out.2).mono ?_;rintro e w6 ⟨rfl,hb6⟩;have HC6:=Lib.hid (And.intro (HC5.out.1.keep hb6) (bnext HC5.out.2 hb6));clear hb6 cc cf cz;obtain⟨cc,cf,cz⟩:=HC6.out.1.facts;go_wp2_with fail;refine (HN2.out _ HC6.out.2).mono ?_;rintro e w7 ⟨rfl,hb7⟩;have HB7:=Lib.hid (bnext HC6.out.2 hb7);clear hb7 cc cf cz;obtain⟨xc,xf,xz⟩:=(HC2.out.keep HB7.out).facts;go_wp2_with fail;refine (HI1.out _ HB7.out).mono ?_;rintro e w8 ⟨rfl,hb8⟩;have hB8:=bnext HB7.out hb8;have hG8:=Blk.new w8 #[.int .i64 d0,.string m0,.int .i64 k0] 119;have hbG:=balloc (Below.refl w8.heap.size w8) (.cells #[.int .i64 d0,.string m0,.int .i64 k0] 119);clear xc xf xz;go_upto_region 10 with fail;have hB9:=bnext hB8 hbG;generalize w8.alloc (.cells #[.int .i64 d0,.string m0,.int .i64 k0] 119)=w9 at hG8 hB9 ⊢;generalize w8.heap.size=gb at hG8 ⊢;have HG9:=Lib.hid (And.intro hG8 hB9);clear hb8 hB8 hG8 hbG hB9;obtain⟨xc,xf,xz⟩:=(HC2.out.keep HG9.out.2).facts;go_wp2_with fail;refine (HI2.out _ HG9.out.2).mono ?_;rintro e w10 ⟨rfl,hb10⟩;have hB10:=bnext HG9.out.2 hb10;have hG10:=HG9.out.1.keep hb10;have hQ10:=Blk.new w10 #[.int .i64 d0,.string m0,.int .i64 k0] 122;have hbQ:=balloc (Below.refl w10.heap.size w10) (.cells #[.int .i64 d0,.string m0,.int .i64 k0] 122);clear xc xf xz;go_upto_region 11 with fail;have hB11:=bnext hB10 hbQ;have hG11:=hG10.keep hbQ;generalize w10.alloc (.cells #[.int .i64 d0,.string m0,.int .i64 k0] 122)=w11 at hQ10 hG11 hB11 ⊢;generalize w10.heap.size=qb at hQ10 ⊢;have HG11:=Lib.hid (And.intro hG11 (And.intro hQ10 hB11));clear hb10 hB10 hG10 hQ10 hbQ hB11 hG11;obtain⟨gc,gf,gz⟩:=HG11.out.1.facts;obtain⟨qc,qf,qz⟩:=HG11.out.2.1.facts;obtain⟨xc,xf,xz⟩:=(HC2.out.keep HG11.out.2.2).facts;go_wp2_with fail;refine (HA1.out _ HG11.out.2.2).mono ?_;rintro e w12 ⟨rfl,hb12⟩;have HG12:=Lib.hid (And.intro (HG11.out.1.keep hb12) (And.intro (HG11.out.2.1.keep hb12) (bnext HG11.out.2.2 hb12)));clear hb12 gc gf gz qc qf qz xc xf xz;obtain⟨qc,qf,qz⟩:=HG12.out.2.1.facts;obtain⟨xc,xf,xz⟩:=(HC2.out.keep HG12.out.2.2).facts;go_wp2_with fail;refine (HA2.out _ HG12.out.2.2).mono ?_;rintro e w13 ⟨rfl,hb13⟩;have HG13:=Lib.hid (And.intro (HG12.out.1.keep hb13) (And.intro (HG12.out.2.1.keep hb13) (bnext HG12.out.2.2 hb13)));clear hb13 qc qf qz xc xf xz;obtain⟨gc,gf,gz⟩:=HG13.out.1.facts;obtain⟨xc,xf,xz⟩:=(HC2.out.keep HG13.out.2.2).facts;go_wp2_with fail;refine (HY1.out _ HG13.out.2.2).mono ?_;rintro e w14 ⟨rfl,hb14⟩;have hB14:=bnext HG13.out.2.2 hb14;have hQ14:=HG13.out.2.1.keep hb14;have hN14:=Blk.new w14 #[.int .u8 kd.toNat,.int .i64 nn,.string fr,.string tt,.string xx] 128;have hbN:=balloc (Below.refl w14.heap.size w14) (.cells #[.int .u8 kd.toNat,.int .i64 nn,.string fr,.string tt,.string xx] 128);clear gc gf gz xc xf xz;go_upto_region 16 with fail;have hB15:=bnext hB14 hbN;have hQ15:=hQ14.keep hbN;generalize w14.alloc (.cells #[.int .u8 kd.toNat,.int .i64 nn,.string fr,.string tt,.string xx] 128)=w15 at hN14 hQ15 hB15 ⊢;generalize w14.heap.size=nb at hN14 ⊢;have HN15:=Lib.hid (And.intro hN14 (And.intro hQ15 hB15));clear hb14 hB14 hQ14 hN14 hbN hB15 hQ15;obtain⟨qc,qf,qz⟩:=HN15.out.2.1.facts;obtain⟨xc,xf,xz⟩:=(HC2.out.keep HN15.out.2.2).facts;go_wp2_with fail;refine (HY2.out _ HN15.out.2.2).mono ?_;rintro e w16 ⟨rfl,hb16⟩;have hB16:=bnext HN15.out.2.2 hb16;have hN16:=HN15.out.1.keep hb16;have hM16:=Blk.new w16 #[.int .u8 kd.toNat,.int .i64 nn,.string fr,.string tt,.string xx] 128;have hbM:=balloc (Below.refl w16.heap.size w16) (.cells #[.int .u8 kd.toNat,.int .i64 nn,.string fr,.string tt,.string xx] 128);clear qc qf qz xc xf xz;go_upto_region 17 with fail;have hB17:=bnext hB16 hbM;have hN17:=hN16.keep hbM;generalize w16.alloc (.cells #[.int .u8 kd.toNat,.int .i64 nn,.string fr,.string tt,.string xx] 128)=w17 at hM16 hN17 hB17 ⊢;generalize w16.heap.size=mb at hM16 ⊢;have HB17:=Lib.hid hB17;obtain⟨nc,nf,nz⟩:=hN17.facts;obtain⟨mc2,mf,mz⟩:=hM16.facts;clear hb16 hB16 hN16 hM16 hbM hB17 hN17;go_wp2_with fail;refine (HAk.out _ HB17.out).mono ?_;rintro e w18 ⟨rfl,hb18⟩;have HB18:=Lib.hid (bnext HB17.out hb18);clear hb18 nc nf nz mc2 mf mz;go_wp2_with fail;refine (HAw.out _).mono ?_;rintro e w19 ⟨rfl,hb19⟩;have HB19:=Lib.hid (bnext HB2.out (bnext HB18.out hb19));clear hb19;go_wp2_with fail;go_ret;exact⟨rfl,HB19.out⟩
end
end Go.Proofs.YtihdbncoijhihaaGreatDoor
