import Derived.Deep.CutBlock
import Derived.Deep.DeepCutAuto
import Derived.RegionTactic
import Derived.BigRegion
import Derived.Test.YtihdbncoijhihaaGreatDoorSN35
import Derived.Test.YtihdbncoijhihaaGreatDoorSN15
import Derived.Test.YtihdbncoijhihaaGreatDoorSN34
import Derived.Test.YtihdbncoijhihaaGreatDoorSN31
import Derived.Test.YtihdbncoijhihaaGreatDoorSN21
import Derived.Test.YtihdbncoijhihaaGreatDoorSN22
set_option linter.unusedVariables false
set_option linter.unusedSimpArgs false
set_option maxRecDepth 100000
set_option maxHeartbeats 16000000
namespace Go.Proofs.YtihdbncoijhihaaGreatDoor
section
open Go.RowKit Go.Shelf
theorem st_form (S:Fs) (k:Int):∃ (b0 b1 kd b3 b4 b5 b6 b7 b8 b9:Int),stV (S.get k)=.agg #[.int .i64 b0,.int .i64 b1,.int .i64 kd,.int .i64 b3,.int .i64 b4,.int .i64 b5,.int .i64 b6,.int .i64 b7,.int .i64 b8,.int .i64 b9]∧((noneE (S.get k)=0∧kd=1)↔(S.getZ k).kind=1):=by
 cases h:S.get k with
 | none=>exact ⟨0,0,0,0,0,0,0,0,0,0,rfl,by rw [getZ_none h];show ((5:Int)=0∧(0:Int)=1)↔(0:Int)=1;decide⟩
 | some a=>exact ⟨_,_,a.kind,_,_,_,_,_,_,_,rfl,by rw [getZ_some h];show ((0:Int)=0∧a.kind=1)↔a.kind=1;simp⟩
structure IB (E:TypeId) (W:World) (b bc bf:Nat) (u:Us) (x:Fd):Prop where
 r:Blk W (b+1) #[.int .i64 0,.string ⟨#[]⟩,.int .i64 0] E
 c:Blk W bc #[.int .i64 u.u,.int .i64 u.g] 27
 f:Blk W bf #[.int .i64 x.dir,.string x.name,.int .i64 x.no,.bool x.slash] 58
 n:b+1<bc∧bc<bf
theorem IB.keep {E:TypeId} {W W':World} {b bc bf:Nat} {u:Us} {x:Fd} (h:IB E W b bc bf u x) (hb:Below W.heap.size W W'):IB E W' b bc bf u x:=⟨h.r.keep hb,h.c.keep hb,h.f.keep hb,h.n⟩
theorem IB.fill {E:TypeId} {W:World} {b bc bf:Nat} {u:Us} {x:Fd} (h:IB E W b bc bf u x) (y:Fd):IB E ((((W.setCell ⟨bf,0,none⟩ (.int .i64 y.dir)).setCell ⟨bf,1,none⟩ (.string y.name)).setCell ⟨bf,2,none⟩ (.int .i64 y.no)).setCell ⟨bf,3,none⟩ (.bool y.slash)) b bc bf u y:=
 ⟨(((h.r.setOther _ _ (by have:=h.n;simp;omega)).setOther _ _ (by have:=h.n;simp;omega)).setOther _ _ (by have:=h.n;simp;omega)).setOther _ _ (by have:=h.n;simp;omega),
  (((h.c.setOther _ _ (by have:=h.n;simp;omega)).setOther _ _ (by have:=h.n;simp;omega)).setOther _ _ (by have:=h.n;simp;omega)).setOther _ _ (by have:=h.n;simp;omega),
  (((h.f.set 0 _).set 1 _).set 2 _).set 3 _,h.n⟩
theorem sinto_end {a:Act} {W w0:World} {N B:Nat} {d k e:Int} {m:ByteArray} {rd:Gl×Int} (hb:Blk W B #[.int .i64 d,.string m,.int .i64 k] 119)
  (h8:a.tmps.getD 8 undef=.pointer (some ⟨B,0,none⟩)) (h9:a.tmps.getD 9 undef=.int .i64 e) (hr:rd=((⟨d,m,k⟩:Gl),e)) (hd:a.defers=[]) (hB:Below N w0 W) :
  bodyPost Tryz.prog Tryz.f51 (fun z w'=>z=.returned (.tuple #[rd.1.v,.int .i64 rd.2])∧Below N w0 w') .ret a W:=by
 subst hr;have q0:=hb.cell 0;have q1:=hb.cell 1;have q2:=hb.cell 2;rw [Array.getD_eq_getD_getElem?] at h8 h9;refine bodyPost_ret (v:=.tuple #[(⟨d,m,k⟩:Gl).v,.int .i64 e]) ?_ hd ⟨rfl,hB⟩;simp [results,Tryz.results51,go_sem,Gl.v,h8,h9,q0,q1,q2]
section
variable {w w':World} {pf pw:Nat} {R:Rp} {pv:Value} {Y:Sy}
theorem sinto_any (h:SyAt w pf pw R pv Y) {N:Nat} (hk:FsOk Y.fs N) (hN:N≤999999) (hd:Y.dead=false) (u:Us) (path n:ByteArray) (hp:path.size≤100000) :
  Calls Tryz.prog 51 #[.pointer (some ⟨pf,0,none⟩),.agg #[.int .i64 u.u,.int .i64 u.g,.string u.data],.string path,.string n] w fun e w'=>e=.returned (.tuple #[(Y.fs.intoF u.c path n).1.v,.int .i64 (Y.fs.intoF u.c path n).2])∧Below w.heap.size w w':=by
 obtain⟨hU,hR,hb2⟩:=boxes2 w #[.int .i64 u.u,.int .i64 u.g,.string u.data] #[.int .i64 0,.string ⟨#[]⟩,.int .i64 0] 70 119;have HC:=Lib.hid (ccred_any u.u u.g u.data);have HF1:=Lib.hid (fun w1 (hb1:Below w.heap.size w w1)=>sfind_any (h.keep hb1) hk hN hd u.c path hp true);have HF2:=Lib.hid (fun w1 (hb1:Below w.heap.size w w1)=>sfind_any (h.keep hb1) hk hN hd u.c path hp false);have HSt:=Lib.hid (fun w1 (hb1:Below w.heap.size w w1) k=>sstat_any (h.keep hb1) hk hd k);have HL:=Lib.hid (fun w1 (hb1:Below w.heap.size w w1) d m=>by
  have:=slook_any (h.keep hb1) hk hN u.c d m;rw [hd] at this;exact this)
 have HI:=Lib.hid (show Y.fs.intoF u.c path n=if (Y.fs.path u.c path true).2=0∧(Y.fs.getZ (Y.fs.path u.c path true).1.no).kind=1 then Y.fs.intoG u.c (Y.fs.path u.c path true).1.no n
  else if (Y.fs.path u.c path true).2=20 then (gl0,20) else if (Y.fs.path u.c path false).2≠0 then (gl0,(Y.fs.path u.c path false).2)
  else if (Y.fs.path u.c path false).1.slash=true∨(Y.fs.path u.c path false).1.name=ByteArray.empty then (gl0,9) else Y.fs.intoG u.c (Y.fs.path u.c path false).1.dir (Y.fs.path u.c path false).1.name from rfl)
 have HG:=Lib.hid (fun d m=>show Y.fs.intoG u.c d m=if (Y.fs.lookF false u.c d m).2≠0∧(Y.fs.lookF false u.c d m).2≠5 then (gl0,(Y.fs.lookF false u.c d m).2) else (⟨d,m,(Y.fs.lookF false u.c d m).1⟩,0) from rfl);generalize Y.fs.intoF u.c path n=rd at HI ⊢;generalize Y.fs.path u.c path true=t1 at HI HF1;generalize Y.fs.path u.c path false=t2 at HI HF2;obtain⟨x1,g1⟩:=t1;obtain⟨x2,g2⟩:=t2;have ec:(⟨u.u,u.g⟩:Cr)=u.c:=rfl;unfold Fd.v at HF1 HF2;dsimp only at HI HF1 HF2;clear h hk;go_enter Tryz.func51,Tryz.ntmps51;go_upto_region 1 with fail;generalize (w.alloc (.cells #[.int .i64 u.u,.int .i64 u.g,.string u.data] 70)).alloc (.cells #[.int .i64 0,.string ⟨#[]⟩,.int .i64 0] 119)=X at hU hR hb2 ⊢;obtain⟨uc,uf,uz⟩:=hU.facts;have HR:=Lib.hid (And.intro hR hb2);clear hU hR hb2;go_wp2_with fail;refine (HC.out _).mono ?_;rintro e w1 ⟨rfl,hb1⟩;have hR1:=HR.out.1.keep hb1;have hB1:=bnext HR.out.2 hb1;have hC1:=Blk.new w1 #[.int .i64 u.u,.int .i64 u.g] 27;have hbC:=balloc (Below.refl w1.heap.size w1) (.cells #[.int .i64 u.u,.int .i64 u.g] 27);have hlt1:w.heap.size+1<w1.heap.size:=hR1.lt;clear hb1 uc uf uz;go_upto_region 2 with fail;have hR2:=hR1.keep hbC;have hB2:=bnext hB1 hbC;generalize w1.alloc (.cells #[.int .i64 u.u,.int .i64 u.g] 27)=w2 at hC1 hR2 hB2 ⊢;generalize w1.heap.size=bc at hC1 hlt1 ⊢;obtain⟨cc,cf,cz⟩:=hC1.facts;have H2:=Lib.hid (And.intro hR2 (And.intro hC1 hB2));clear hR1 hB1 hbC hC1 hR2 hB2;go_wp2_with fail;refine (HF1.out _ H2.out.2.2).mono ?_;rintro e w3 ⟨rfl,hb3⟩;have hX3:=Blk.new w3 #[.int .i64 x1.dir,.string x1.name,.int .i64 x1.no,.bool x1.slash] 58;have hbF:=balloc (Below.refl w3.heap.size w3) (.cells #[.int .i64 x1.dir,.string x1.name,.int .i64 x1.no,.bool x1.slash] 58);have hc3:=H2.out.2.1.keep hb3;have hlt3:=hc3.lt;have hB3:=bnext H2.out.2.2 hb3;have hbf:w.heap.size≤w3.heap.size:=hB3.size;have hI3:IB 119 (w3.alloc (.cells #[.int .i64 x1.dir,.string x1.name,.int .i64 x1.no,.bool x1.slash] 58)) w.heap.size bc w3.heap.size u x1:=⟨(H2.out.1.keep hb3).keep hbF,hc3.keep hbF,hX3,hlt1,hlt3⟩;have hB4:=bnext hB3 hbF;clear hb3 cc cf cz hX3 hbF hc3 hB3;go_upto_region 3 with fail;generalize w3.alloc (.cells #[.int .i64 x1.dir,.string x1.name,.int .i64 x1.no,.bool x1.slash] 58)=w4 at hI3 hB4 ⊢;generalize w3.heap.size=bf at hI3 hlt3 hbf ⊢;have H4:=Lib.hid (And.intro hI3 hB4);obtain⟨fc,ff,fz⟩:=hI3.f.facts;clear hI3 hB4;have HST:=Lib.hid (st_form Y.fs x1.no);obtain⟨b0,b1,kd,b3,b4,b5,b6,b7,b8,b9,hst,hiff⟩:=HST.out;have HSt1:=Lib.hid (HSt.out _ H4.out.2 x1.no);rw [hst] at HSt1;have HIf:=Lib.hid hiff;generalize noneE (Y.fs.get x1.no)=ne at HSt1 HIf;clear hst hiff;go_wp2_with fail;refine HSt1.out.mono ?_;rintro e w5 ⟨rfl,hb5⟩;have hS5:=Blk.new w5 #[.int .i64 b0,.int .i64 b1,.int .i64 kd,.int .i64 b3,.int .i64 b4,.int .i64 b5,.int .i64 b6,.int .i64 b7,.int .i64 b8,.int .i64 b9] 172;have hbS:=balloc (Below.refl w5.heap.size w5) (.cells #[.int .i64 b0,.int .i64 b1,.int .i64 kd,.int .i64 b3,.int .i64 b4,.int .i64 b5,.int .i64 b6,.int .i64 b7,.int .i64 b8,.int .i64 b9] 172);have hI5:=(H4.out.1.keep hb5).keep hbS;have hB5:=bnext (bnext H4.out.2 hb5) hbS;clear hb5 fc ff fz hbS;go_upto_region 9 with fail;generalize w5.alloc (.cells #[.int .i64 b0,.int .i64 b1,.int .i64 kd,.int .i64 b3,.int .i64 b4,.int .i64 b5,.int .i64 b6,.int .i64 b7,.int .i64 b8,.int .i64 b9] 172)=w6 at hS5 hI5 hB5 ⊢;generalize w5.heap.size=bs at hS5 ⊢;have H6:=Lib.hid (And.intro hI5 hB5);obtain⟨sc,sf,sz⟩:=hS5.facts;clear hI5 hB5 hS5
 go_cut [51] (fun t51 wx=>t51=.bool (decide (g1=0∧ne=0∧kd=1))∧w6=wx)
 case first=>
  by_cases h1:g1=0
  ·subst h1;by_cases hn1:ne=0
   ·subst hn1;by_cases hk1:kd=1
    ·subst hk1;go_wp2_with fail;go_meet;exact⟨rfl,rfl⟩
    ·have hkb:(kd == 1)=false:=by simpa using hk1
     have hq:decide ((0:Int)=0∧(0:Int)=0∧kd=1)=false:=by simp [hk1]
     clear hk1;go_wp2_with fail;go_meet;exact⟨by rw [hq],rfl⟩
   ·have hnb:(ne == 0)=false:=by simpa using hn1
    have hq:decide ((0:Int)=0∧ne=0∧kd=1)=false:=by simp [hn1]
    clear hn1;go_wp2_with fail;go_meet;exact⟨by rw [hq],rfl⟩
  ·have h1b:(g1 == 0)=false:=by simpa using h1
   have hq:decide (g1=0∧ne=0∧kd=1)=false:=by simp [h1]
   clear h1;go_wp2_with fail;go_meet;exact⟨by rw [hq],rfl⟩
 case rest=>
  obtain⟨rfl,rfl⟩:=hcut;clear sc sf sz;obtain⟨fc,ff,fz⟩:=H6.out.1.f.facts;by_cases hc:g1=0∧ne=0∧kd=1
  ·have hq:decide (g1=0∧ne=0∧kd=1)=true:=decide_eq_true hc;have HK:=Lib.hid (HI.out.trans (if_pos ⟨hc.1,HIf.out.1 hc.2⟩));rw [hq];clear hc hq;go_upto_region 13 with fail;have HI8:=Lib.hid (And.intro (H6.out.1.fill ⟨x1.no,n,0,false⟩) (((((H6.out.2.setCell (p:=⟨bf,0,none⟩) hbf (.int .i64 x1.no)).setCell (p:=⟨bf,1,none⟩) hbf (.string n)).setCell (p:=⟨bf,2,none⟩) hbf (.int .i64 0)).setCell (p:=⟨bf,3,none⟩) hbf (.bool false))));generalize ((((w6.setCell ⟨bf,0,none⟩ (.int .i64 x1.no)).setCell ⟨bf,1,none⟩ (.string n)).setCell ⟨bf,2,none⟩ (.int .i64 0)).setCell ⟨bf,3,none⟩ (.bool false))=w9 at HI8 ⊢;clear fc ff fz;have hL1:=fun w1 (hb1:Below w.heap.size w w1)=>HL.out w1 hb1 (x1.no) (n);have hG1:=HG.out (x1.no) (n);generalize Y.fs.lookF false u.c (x1.no) (n)=lr at hL1 hG1;obtain⟨no,e3⟩:=lr;dsimp only at hL1 hG1;have HL1:=Lib.hid hL1;have HG1:=Lib.hid (HK.out.trans hG1);obtain⟨fc,ff,fz⟩:=HI8.out.1.f.facts;obtain⟨cc,cf,cz⟩:=HI8.out.1.c.facts;clear hL1 hG1;go_wp2_with fail;refine (HL1.out _ HI8.out.2).mono ?_;rintro e wv ⟨rfl,hbv⟩;have HV:=Lib.hid (And.intro (HI8.out.1.keep hbv) (bnext HI8.out.2 hbv));clear hbv fc ff fz cc cf cz;obtain⟨fc,ff,fz⟩:=HV.out.1.f.facts;obtain⟨rc,rf,rz⟩:=HV.out.1.r.facts;by_cases h3:e3=0
   ·have HE:=Lib.hid (HG1.out.trans (if_neg (fun h=>h.1 h3)));subst h3;go_wp2_with fail;exact sinto_end HV.out.1.r.fill3 rfl rfl HE.out rfl (below_fill3 HV.out.2 (Nat.le_succ _))
   ·by_cases h5:e3=5
    ·have HE:=Lib.hid (HG1.out.trans (if_neg (fun h=>h.2 h5)));subst h5;clear h3;go_wp2_with fail;exact sinto_end HV.out.1.r.fill3 rfl rfl HE.out rfl (below_fill3 HV.out.2 (Nat.le_succ _))
    ·have h3b:(e3 != 0)=true:=by simpa using h3
     have h5b:(e3 != 5)=true:=by simpa using h5
     have HE:=Lib.hid (HG1.out.trans (if_pos ⟨h3,h5⟩));clear h3 h5;go_wp2_with fail;exact sinto_end HV.out.1.r.fill3 rfl rfl HE.out rfl (below_fill3 HV.out.2 (Nat.le_succ _))
  ·have hq:decide (g1=0∧ne=0∧kd=1)=false:=decide_eq_false hc;have HK:=Lib.hid (HI.out.trans (if_neg (fun h=>hc ⟨h.1,HIf.out.2 h.2⟩)));rw [hq];clear hc hq fc ff fz;by_cases h20:g1=20
   ·have HJ:=Lib.hid (HK.out.trans (if_pos h20));subst h20;obtain⟨rc,rf,rz⟩:=H6.out.1.r.facts;go_wp2_with fail;exact sinto_end H6.out.1.r.fill3 rfl rfl HJ.out rfl (below_fill3 H6.out.2 (Nat.le_succ _))
   ·have h20b:(g1 == 20)=false:=by simpa using h20
    have HJ0:=Lib.hid (HK.out.trans (if_neg h20));clear h20;obtain⟨cc,cf,cz⟩:=H6.out.1.c.facts;obtain⟨fc,ff,fz⟩:=H6.out.1.f.facts;go_wp2_with fail;refine (HF2.out _ H6.out.2).mono ?_;rintro e w8 ⟨rfl,hb8⟩;have H8:=Lib.hid (And.intro (H6.out.1.keep hb8) (bnext H6.out.2 hb8));clear hb8 cc cf cz fc ff fz;obtain⟨fc,ff,fz⟩:=H8.out.1.f.facts;by_cases h2:g2=0
    ·have HJ:=Lib.hid (HJ0.out.trans (if_neg (by simpa using h2)));subst h2;by_cases hs:x2.slash=true
     ·have HZ:=Lib.hid (HJ.out.trans (if_pos (.inl hs)));obtain⟨xd,xn,xo,xs⟩:=x2;dsimp only at hs;subst hs;clear HJ;obtain⟨rc,rf,rz⟩:=H8.out.1.r.facts;go_wp2_with fail;exact sinto_end (H8.out.1.fill ⟨xd,xn,xo,true⟩).r.fill3 rfl rfl HZ.out rfl (below_fill3 ((((H8.out.2.setCell (p:=⟨bf,0,none⟩) hbf _).setCell (p:=⟨bf,1,none⟩) hbf _).setCell (p:=⟨bf,2,none⟩) hbf _).setCell (p:=⟨bf,3,none⟩) hbf _) (Nat.le_succ _))
     ·have hsf:x2.slash=false:=by simpa using hs
      obtain⟨xd,xn,xo,xs⟩:=x2;dsimp only at hsf;subst hsf;by_cases hn0:xn=ByteArray.empty
      ·have HZ:=Lib.hid (HJ.out.trans (if_pos (.inr hn0)));have hnb:(xn.toList == [])=true:=by rw [hn0,ba_list];rfl
       clear HJ hs hn0;obtain⟨rc,rf,rz⟩:=H8.out.1.r.facts;go_wp2_with fail;exact sinto_end (H8.out.1.fill ⟨xd,xn,xo,false⟩).r.fill3 rfl rfl HZ.out rfl (below_fill3 ((((H8.out.2.setCell (p:=⟨bf,0,none⟩) hbf _).setCell (p:=⟨bf,1,none⟩) hbf _).setCell (p:=⟨bf,2,none⟩) hbf _).setCell (p:=⟨bf,3,none⟩) hbf _) (Nat.le_succ _))
      ·have HZ:=Lib.hid (HJ.out.trans (if_neg (by rintro (h | h);exact hs h;exact hn0 h)));have hnb:(xn.toList == [])=false:=by
        rw [ba_list]
        cases hl:xn.data.toList with
        | nil=>exact absurd (ba_extD (by rw [hl];rfl)) hn0
        | cons a l=>rfl
       clear HJ hs hn0;go_upto_region 13 with fail;have HI8:=Lib.hid (And.intro (H8.out.1.fill ⟨xd,xn,xo,false⟩) (((((H8.out.2.setCell (p:=⟨bf,0,none⟩) hbf (.int .i64 xd)).setCell (p:=⟨bf,1,none⟩) hbf (.string xn)).setCell (p:=⟨bf,2,none⟩) hbf (.int .i64 xo)).setCell (p:=⟨bf,3,none⟩) hbf (.bool false))));generalize ((((w8.setCell ⟨bf,0,none⟩ (.int .i64 xd)).setCell ⟨bf,1,none⟩ (.string xn)).setCell ⟨bf,2,none⟩ (.int .i64 xo)).setCell ⟨bf,3,none⟩ (.bool false))=w9 at HI8 ⊢;clear fc ff fz;have hL1:=fun w1 (hb1:Below w.heap.size w w1)=>HL.out w1 hb1 (xd) (xn);have hG1:=HG.out (xd) (xn);generalize Y.fs.lookF false u.c (xd) (xn)=lr at hL1 hG1;obtain⟨no,e3⟩:=lr;dsimp only at hL1 hG1;have HL1:=Lib.hid hL1;have HG1:=Lib.hid (HZ.out.trans hG1);obtain⟨fc,ff,fz⟩:=HI8.out.1.f.facts;obtain⟨cc,cf,cz⟩:=HI8.out.1.c.facts;clear hL1 hG1;go_wp2_with fail;refine (HL1.out _ HI8.out.2).mono ?_;rintro e wv ⟨rfl,hbv⟩;have HV:=Lib.hid (And.intro (HI8.out.1.keep hbv) (bnext HI8.out.2 hbv));clear hbv fc ff fz cc cf cz;obtain⟨fc,ff,fz⟩:=HV.out.1.f.facts;obtain⟨rc,rf,rz⟩:=HV.out.1.r.facts;by_cases h3:e3=0
       ·have HE:=Lib.hid (HG1.out.trans (if_neg (fun h=>h.1 h3)));subst h3;go_wp2_with fail;exact sinto_end HV.out.1.r.fill3 rfl rfl HE.out rfl (below_fill3 HV.out.2 (Nat.le_succ _))
       ·by_cases h5:e3=5
        ·have HE:=Lib.hid (HG1.out.trans (if_neg (fun h=>h.2 h5)));subst h5;clear h3;go_wp2_with fail;exact sinto_end HV.out.1.r.fill3 rfl rfl HE.out rfl (below_fill3 HV.out.2 (Nat.le_succ _))
        ·have h3b:(e3 != 0)=true:=by simpa using h3
         have h5b:(e3 != 5)=true:=by simpa using h5
         have HE:=Lib.hid (HG1.out.trans (if_pos ⟨h3,h5⟩));clear h3 h5;go_wp2_with fail;exact sinto_end HV.out.1.r.fill3 rfl rfl HE.out rfl (below_fill3 HV.out.2 (Nat.le_succ _))
    ·have h2b:(g2 != 0)=true:=by simpa using h2
     have HJ:=Lib.hid (HJ0.out.trans (if_pos h2));clear h2;obtain⟨rc,rf,rz⟩:=H8.out.1.r.facts;go_wp2_with fail;exact sinto_end (H8.out.1.fill x2).r.fill3 rfl rfl HJ.out rfl (below_fill3 ((((H8.out.2.setCell (p:=⟨bf,0,none⟩) hbf _).setCell (p:=⟨bf,1,none⟩) hbf _).setCell (p:=⟨bf,2,none⟩) hbf _).setCell (p:=⟨bf,3,none⟩) hbf _) (Nat.le_succ _))
theorem saside_any (h:SyAt w pf pw R pv Y) {N:Nat} (hk:FsOk Y.fs N) (hN:N≤999999) (hm:Nm Y.fs) (hpl:Pl Y.fs) (u:Us) (g:Gl) (hg:g.name.size≤100000) (bk:Bool) :
  Calls Tryz.prog 53 #[.pointer (some ⟨pf,0,none⟩),.agg #[.int .i64 u.u,.int .i64 u.g,.string u.data],.agg #[.int .i64 g.dir,.string g.name,.int .i64 g.no],.bool bk] w fun e w'=>e=.returned (.tuple #[.string (Y.fs.asideF Y.dead u.c g bk).1,.int .i64 (Y.fs.asideF Y.dead u.c g bk).2])∧Below w.heap.size w w':=by
 obtain⟨hU,hG,hb2⟩:=boxes2 w #[.int .i64 u.u,.int .i64 u.g,.string u.data] #[.int .i64 g.dir,.string g.name,.int .i64 g.no] 70 119;have HC:=Lib.hid (ccred_any u.u u.g u.data);have HBu:=Lib.hid (fun w1 (hb1:Below w.heap.size w w1)=>wbusy_any (h.wd.keep hb1) hk hpl g.no);have HN:=Lib.hid (fun w1 (hb1:Below w.heap.size w w1)=>sname_any (h.keep hb1) hk hN hm u.c g.dir g.name hg);obtain⟨pc,-,pz⟩:=h.blk.facts;have HPC:=Lib.hid (fun w1 (hb1:Below w.heap.size w w1)=>show w1.cell? ⟨pf,0,none⟩=some (.pointer (some ⟨pw,0,none⟩)) from (hb1.cell (p:=⟨pf,0,none⟩) pz).trans (pc 0));have HI:=Lib.hid (show Y.fs.asideF Y.dead u.c g bk=if g.no=0 then (ByteArray.empty,0) else if bk=false then (ByteArray.empty,7) else if Y.fs.busy g.no=true then (ByteArray.empty,16) else Y.fs.spareF Y.dead u.c g.dir g.name from rfl);generalize Y.fs.asideF Y.dead u.c g bk=rd at HI ⊢;generalize Y.fs.spareF Y.dead u.c g.dir g.name=sp at HI HN;generalize Y.fs.busy g.no=bz at HI HBu;unfold Us.c at HN;have mixed:Tryz.prog.follows .mixedOrders=true:=by kernel_rfl
 clear h hk hm hpl pc pz;go_enter Tryz.func53,Tryz.ntmps53;go_upto_region 1 with fail;generalize (w.alloc (.cells #[.int .i64 u.u,.int .i64 u.g,.string u.data] 70)).alloc (.cells #[.int .i64 g.dir,.string g.name,.int .i64 g.no] 119)=X at hU hG hb2 ⊢;have HX:=Lib.hid (And.intro hU (And.intro hG hb2));obtain⟨gc,gf,gz⟩:=hG.facts;clear hU hG hb2;by_cases h0:g.no=0
 ·have hnb:(g.no == 0)=true:=by simpa using h0
  have HE:=Lib.hid (HI.out.trans (if_pos h0));clear h0;go_wp2_with fail;go_ret2;rw [HE.out];exact⟨rfl,HX.out.2.2⟩
 ·have hnb:(g.no == 0)=false:=by simpa using h0
  have HE:=Lib.hid (HI.out.trans (if_neg h0));clear h0
  cases bk with
  | false=>
   have HE1:=Lib.hid (HE.out.trans (if_pos rfl));go_wp2_with fail;go_ret2;rw [HE1.out];exact⟨rfl,HX.out.2.2⟩
  | true=>
   have HE1:=Lib.hid (HE.out.trans (if_neg (by decide)));have pc0:=HPC.out _ HX.out.2.2;have hxz:pf<X.heap.size:=(cell_some_lt pc0).2;go_upto_region 5 with fail;refine wp_region_lex 6 mixed (by kernel_rfl) (show PanicOk _ from by repeat (first | exact pk_body | refine pk_then ?_ | refine pk_block ?_ | refine pk_scope ?_)) ?_;simp only [List.take_succ_cons,List.take_zero,List.drop_succ_cons,List.drop_zero]
   repeat still_step
   refine wpStill_nil ?_;go_wp2_with fail;refine (HBu.out _ HX.out.2.2.drew).mono ?_;rintro e w1 ⟨rfl,hb1⟩;have HX1:=Lib.hid (And.intro ((HX.out.1.keep (Below.refl _ X).drew).keep hb1) (And.intro ((HX.out.2.1.keep (Below.refl _ X).drew).keep hb1) (HX.out.2.2.drew.trans (hb1.mono HX.out.2.2.size))));clear hb1 gc gf gz pc0
   cases bz with
   | true=>
    have HE2:=Lib.hid (HE1.out.trans (if_pos rfl));go_wp2_with fail;go_ret2;rw [HE2.out];exact⟨rfl,HX1.out.2.2⟩
   | false=>
    have HE2:=Lib.hid (HE1.out.trans (if_neg (by decide)));obtain⟨uc,uf,uz⟩:=HX1.out.1.facts;obtain⟨gc,gf,gz⟩:=HX1.out.2.1.facts;have HN1:=Lib.hid (fun w2 (hb:Below w1.heap.size w1 w2)=>HN.out w2 (bnext HX1.out.2.2 hb));go_upto_region 7 with fail
    go_region_held3 (fun w'=>(∀ b o,b<w1.heap.size→w'.cell? ⟨b,o,none⟩=w1.cell? ⟨b,o,none⟩)∧Below w1.heap.size w1 w') (first | with_reducible assumption | with_reducible exact keepS_here _ | with_reducible exact keepS_here2 _ | with_reducible exact keepS_call (by assumption) (by assumption) | with_reducible exact keepS_alloc (by assumption) _ | with_reducible exact keepS_allocD (by assumption) _ | with_reducible exact keepS_realloc (by assumption) (by assumption) | with_reducible exact keepS_set4 (by assumption) (by assumption))
     ((first
      | (go_at_call 95;((with_reducible refine (HC.out _).mono ?_);rintro e w9 ⟨rfl,hb9⟩))
      | (go_at_call 45;((with_reducible refine (HN1.out _ (And.right (by assumption))).mono ?_);rintro e w10 ⟨rfl,hb10⟩))))
    all_goals
     have hbz:Below w1.heap.size w1 w10:=And.right (by assumption);have HBz:=Lib.hid (bnext HX1.out.2.2 hbz);clear hbz;go_wp2_with fail;go_ret2;rw [HE2.out];exact⟨rfl,HBz.out⟩
end
end
section
open Go.RowKit
def is40:List It:=[⟨(ByteArray.mk #[47,97]),2,0,0,0,0,(ByteArray.mk #[])⟩,⟨(ByteArray.mk #[47,97,46,126,49,126]),2,0,0,0,0,(ByteArray.mk #[])⟩,⟨(ByteArray.mk #[47,97,46,126,52,126]),2,0,0,0,0,(ByteArray.mk #[])⟩]
def us40:Us:=⟨0,0,(ByteArray.mk #[47])⟩
theorem ns40:(plantF [] is40).ns.length=4:=by kernel_rfl
theorem into40:(plantF [] is40).intoF us40.c (ByteArray.mk #[47,97]) (ByteArray.mk #[113])=(⟨1,(ByteArray.mk #[97]),2⟩,0):=by kernel_rfl
theorem busy40:(plantF [] is40).busy 2=false:=by kernel_rfl
theorem list40:(plantF [] is40).listF false us40.c 1=([⟨(ByteArray.mk #[97]),2⟩,⟨(ByteArray.mk #[97,46,126,49,126]),3⟩,⟨(ByteArray.mk #[97,46,126,52,126]),4⟩],0):=by kernel_rfl
theorem til40:tilN (ByteArray.mk #[97]) 5=((ByteArray.mk #[97,46,126,53,126]),0):=by kernel_rfl
theorem idx40:idxB (ByteArray.mk #[97]) (ByteArray.mk #[97])=0:=(idxR_a (by decide)).eq.symm
theorem idx41:idxB (ByteArray.mk #[97]) (ByteArray.mk #[97,46,126,49,126])=1:=by
 have h:=idxB_til (base:=(ByteArray.mk #[97])) (n:=1) (by decide) (by decide) (by decide)
 rwa [show tilB (ByteArray.mk #[97]) 1=(ByteArray.mk #[97,46,126,49,126]) by kernel_rfl] at h
theorem idx44:idxB (ByteArray.mk #[97]) (ByteArray.mk #[97,46,126,52,126])=4:=by
 have h:=idxB_til (base:=(ByteArray.mk #[97])) (n:=4) (by decide) (by decide) (by decide)
 rwa [show tilB (ByteArray.mk #[97]) 4=(ByteArray.mk #[97,46,126,52,126]) by kernel_rfl] at h
theorem most40:mostB (ByteArray.mk #[97]) 0 [(ByteArray.mk #[97]),(ByteArray.mk #[97,46,126,49,126]),(ByteArray.mk #[97,46,126,52,126])]=4:=by
 unfold mostB mostB mostB mostB;rw [idx40,idx41,idx44];rfl
theorem spare40:(plantF [] is40).spareF false us40.c 1 (ByteArray.mk #[97])=((ByteArray.mk #[97,46,126,53,126]),0):=by
 unfold Fs.spareF;rw [list40];show (if (0:Int)≠0 then _ else tilN (ByteArray.mk #[97]) (mostB (ByteArray.mk #[97]) 0 [(ByteArray.mk #[97]),(ByteArray.mk #[97,46,126,49,126]),(ByteArray.mk #[97,46,126,52,126])]+1))=_;rw [most40];exact til40
theorem aside40:(plantF [] is40).asideF false us40.c ⟨1,(ByteArray.mk #[97]),2⟩ true=((ByteArray.mk #[97,46,126,53,126]),0):=by
 unfold Fs.asideF;rw [if_neg (by decide),if_neg (by decide),busy40,if_neg (by decide)];exact spare40
theorem aside41:(plantF [] is40).asideF false us40.c ⟨1,(ByteArray.mk #[97]),2⟩ false=(ByteArray.empty,7):=by
 unfold Fs.asideF;rw [if_neg (by decide),if_pos rfl]
theorem note41:(plantF [] is40).note40 2 1 (ByteArray.mk #[97]) 1 (ByteArray.mk #[97,46,126,53,126])=(⟨109,2,(ByteArray.mk #[47,97]),(ByteArray.mk #[47,97,46,126,53,126]),ByteArray.empty⟩,0):=by kernel_rfl
def C40:Array Value:=#[.string (ByteArray.mk #[47,97]),.int .i64 2,.int .i64 0,.int .i64 0,.int .i64 0,.int .i64 0,.string (ByteArray.mk #[]),.string (ByteArray.mk #[47,97,46,126,49,126]),.int .i64 2,.int .i64 0,.int .i64 0,.int .i64 0,.int .i64 0,.string (ByteArray.mk #[]),.string (ByteArray.mk #[47,97,46,126,52,126]),.int .i64 2,.int .i64 0,.int .i64 0,.int .i64 0,.int .i64 0,.string (ByteArray.mk #[])]
theorem sd40 {w:World} {b:Nat} (h:Blk w b C40 161):SdAt w none 0 0 (some ⟨b,0,none⟩) 3 3 [] is40:=by
 refine ⟨⟨rfl,Nat.le_refl _,by omega,.inl rfl⟩,⟨rfl,Nat.le_refl _,by omega,.inr ⟨b,0,rfl,h.lt,fun i hi=>⟨itC is40[i],rfl,rfl,fun j hj=>?_⟩⟩⟩⟩;rw [itC_len] at hj;rw [h.cell];have hi3:i<3:=hi
 match i,hi3 with
 | 0,_=>match j,hj with
  | 0,_=>rfl
  | 1,_=>rfl
  | 2,_=>rfl
  | 3,_=>rfl
  | 4,_=>rfl
  | 5,_=>rfl
  | 6,_=>rfl
 | 1,_=>match j,hj with
  | 0,_=>rfl
  | 1,_=>rfl
  | 2,_=>rfl
  | 3,_=>rfl
  | 4,_=>rfl
  | 5,_=>rfl
  | 6,_=>rfl
 | 2,_=>match j,hj with
  | 0,_=>rfl
  | 1,_=>rfl
  | 2,_=>rfl
  | 3,_=>rfl
  | 4,_=>rfl
  | 5,_=>rfl
  | 6,_=>rfl
theorem goal_eq (d:Int) (s:ByteArray) (n:Int) (w:World):(binOp .eql 119 (.agg #[.int .i64 d,.string s,.int .i64 n]) (.agg #[.int .i64 d,.string s,.int .i64 n])).run Tryz.prog w=.ok (.bool true) w:=by
 have u1:=Tryz.underlying9;have u2:=Tryz.underlying3;have a1:=Tryz.isAgg9;have z1:=Tryz.sizeOf9;have a2:=Tryz.isAgg3;have z2:=Tryz.sizeOf3;have hS:Tryz.prog.underlying 119=some (.struct (Tryz.prog.fieldsOf 119)):=by kernel_rfl
 have hp:Tryz.prog.stoodInHeld 119=false:=by kernel_rfl
 rw [run_eql_struct,show (10000:Nat)=9999+1 from rfl,run_equalIn_agg w 9999 119 _ _ hS hp];simp only [Program.fieldsOf,Tryz.underlying119];go_simp
theorem nt_eq (k n:Int) (a b c:ByteArray) (w:World):(binOp .eql 128 (.agg #[.int .u8 k,.int .i64 n,.string a,.string b,.string c]) (.agg #[.int .u8 k,.int .i64 n,.string a,.string b,.string c])).run Tryz.prog w=.ok (.bool true) w:=by
 have u0:=Tryz.underlying5;have u1:=Tryz.underlying9;have u2:=Tryz.underlying3;have a0:=Tryz.isAgg5;have z0:=Tryz.sizeOf5;have a1:=Tryz.isAgg9;have z1:=Tryz.sizeOf9;have a2:=Tryz.isAgg3;have z2:=Tryz.sizeOf3;have hS:Tryz.prog.underlying 128=some (.struct (Tryz.prog.fieldsOf 128)):=by kernel_rfl
 have hp:Tryz.prog.stoodInHeld 128=false:=by kernel_rfl
 rw [run_eql_struct,show (10000:Nat)=9999+1 from rfl,run_equalIn_agg w 9999 128 _ _ hS hp];simp only [Program.fieldsOf,Tryz.underlying128];go_simp
theorem awake40_any (w:World) :
  Calls Tryz.prog 44 #[] w fun e w'=>e=.returned (.bool true)∧Below w.heap.size w w':=by
 have hU:=(Blk.new w #[.int .i64 0,.int .i64 0,.string (ByteArray.mk #[47])] 70).old (.cells C40 161);have hX:=Blk.new (w.alloc (.cells #[.int .i64 0,.int .i64 0,.string (ByteArray.mk #[47])] 70)) C40 161;have hb:=balloc (balloc (Below.refl w.heap.size w) (.cells #[.int .i64 0,.int .i64 0,.string (ByteArray.mk #[47])] 70)) (.cells C40 161);have HPl:=Lib.hid (plant_any _ (sd40 hX) (by show (0:Nat)≤_;omega) (by show (3:Nat)≤_;omega) (fun m hm=>by cases hm) (fun x hx=>by
  have:∀ x∈is40,x.path.size≤100000∧x.data.size≤100000:=by decide
  exact this x hx))
 have hz:(w.alloc (.cells #[.int .i64 0,.int .i64 0,.string (ByteArray.mk #[47])] 70)).heap.size=w.heap.size+1:=by simp
 rw [hz] at HPl;unfold C40 at hU hX hb HPl;have HB:=Lib.hid hb;have HU:=Lib.hid hU;have HOk:=Lib.hid (plant_ok [] is40);have HPp:=Lib.hid (plant_pl [] is40);have HNm:=Lib.hid (plant_nm [] is40);clear hX hb hz hU;go_enter Tryz.func44,Tryz.ntmps44;go_wp2_with fail;refine HPl.out.mono ?_;rintro e w1 ⟨pf,pw,R,pv,Y,rfl,hY,rfl,-,hb1⟩;have hl4:(plantF [] is40).ns.length≤100000:=by rw [ns40];omega
 have HI:=Lib.hid (fun w2 (hb:Below w1.heap.size w1 w2)=>sinto_any (hY.keep hb) HOk.out (by show (4:Nat)≤_;omega) rfl us40 (ByteArray.mk #[47,97]) (ByteArray.mk #[113]) (by decide));have HA1:=Lib.hid (fun w2 (hb:Below w1.heap.size w1 w2)=>saside_any (hY.keep hb) HOk.out (by show (4:Nat)≤_;omega) HNm.out HPp.out us40 ⟨1,(ByteArray.mk #[97]),2⟩ (by decide) true);have HA2:=Lib.hid (fun w2 (hb:Below w1.heap.size w1 w2)=>saside_any (hY.keep hb) HOk.out (by show (4:Nat)≤_;omega) HNm.out HPp.out us40 ⟨1,(ByteArray.mk #[97]),2⟩ (by decide) false);have HN:=Lib.hid (fun w2 (hb:Below w1.heap.size w1 w2)=>snote40_any (hY.keep hb) HOk.out HPp.out hl4 rfl 2 1 (ByteArray.mk #[97]) 1 (ByteArray.mk #[97,46,126,53,126]) (by decide) (by decide) (fun k s hs=>by
  have h1:=placeZ_size HPp.out hs;rw [ns40] at h1;omega))
 dsimp only at HI HA1 HA2 HN;rw [into40] at HI;rw [aside40] at HA1;rw [aside41] at HA2;rw [note41] at HN;unfold us40 at HI HA1 HA2;dsimp only [Gl.v,Nt.v] at HI HA1 HA2 HN;rw [show (((109:UInt8).toNat:Nat):Int)=109 from rfl,show ByteArray.empty=(⟨#[]⟩:ByteArray) from rfl] at HN;have HB1:=Lib.hid (bnext HB.out hb1);have HU1:=Lib.hid (HU.out.keep hb1);have hge:=fun w=>goal_eq 1 (ByteArray.mk #[97]) 2 w;have hne:=fun w=>nt_eq 109 2 (ByteArray.mk #[47,97]) (ByteArray.mk #[47,97,46,126,53,126]) ⟨#[]⟩ w;obtain⟨uc,uf,uz⟩:=HU1.out.facts;clear hY hb1 HOk HPp HNm hl4;go_wp2_with fail;refine (HI.out _ (Below.refl _ _)).mono ?_;rintro e w2 ⟨rfl,hb2⟩;have hG2:=Blk.new w2 #[.int .i64 1,.string (ByteArray.mk #[97]),.int .i64 2] 119;have hbG:=balloc (Below.refl w2.heap.size w2) (.cells #[.int .i64 1,.string (ByteArray.mk #[97]),.int .i64 2] 119);clear uc uf uz;go_upto_region 6 with fail;have hB3:=bnext hb2 hbG;generalize w2.alloc (.cells #[.int .i64 1,.string (ByteArray.mk #[97]),.int .i64 2] 119)=w3 at hG2 hB3 ⊢;generalize w2.heap.size=gb at hG2 ⊢;have HG3:=Lib.hid (And.intro hG2 hB3);clear hb2 hG2 hbG hB3;obtain⟨gc,gf,gz⟩:=HG3.out.1.facts;obtain⟨uc,uf,uz⟩:=(HU1.out.keep HG3.out.2).facts;go_wp2_with fail;refine (HA1.out _ HG3.out.2).mono ?_;rintro e w4 ⟨rfl,hb4⟩;have HG4:=Lib.hid (And.intro (HG3.out.1.keep hb4) (bnext HG3.out.2 hb4));clear hb4 gc gf gz uc uf uz;obtain⟨gc,gf,gz⟩:=HG4.out.1.facts;obtain⟨uc,uf,uz⟩:=(HU1.out.keep HG4.out.2).facts;go_wp2_with fail;refine (HA2.out _ HG4.out.2).mono ?_;rintro e w5 ⟨rfl,hb5⟩;have HG5:=Lib.hid (And.intro (HG4.out.1.keep hb5) (bnext HG4.out.2 hb5));clear hb5 gc gf gz uc uf uz;go_wp2_with fail;refine (HN.out _ HG5.out.2).mono ?_;rintro e w6 ⟨rfl,hb6⟩;have hG6:=HG5.out.1.keep hb6;have hN6:=Blk.new w6 #[.int .u8 109,.int .i64 2,.string (ByteArray.mk #[47,97]),.string (ByteArray.mk #[47,97,46,126,53,126]),.string ⟨#[]⟩] 128;have hbN:=balloc (Below.refl w6.heap.size w6) (.cells #[.int .u8 109,.int .i64 2,.string (ByteArray.mk #[47,97]),.string (ByteArray.mk #[47,97,46,126,53,126]),.string ⟨#[]⟩] 128);go_upto_region 9 with fail;have hB7:=bnext (bnext HG5.out.2 hb6) hbN;have hG7:=hG6.keep hbN;generalize w6.alloc (.cells #[.int .u8 109,.int .i64 2,.string (ByteArray.mk #[47,97]),.string (ByteArray.mk #[47,97,46,126,53,126]),.string ⟨#[]⟩] 128)=w7 at hN6 hG7 hB7 ⊢;generalize w6.heap.size=nb at hN6 ⊢;have HB7:=Lib.hid (bnext HB1.out hB7);obtain⟨gc,gf,gz⟩:=hG7.facts;obtain⟨nc,nf,nz⟩:=hN6.facts;clear hb6 hG6 hN6 hbN hB7 hG7;go_wp2_with fail;go_ret;exact⟨rfl,HB7.out⟩
end
section
open Go.RowKit Go.Shelf
theorem ba_eq2 {a b:ByteArray} (h:a.toList=b.toList):a=b:=ba_extD (by rw [←ba_list,←ba_list,h])
theorem ridx39_any (base s:ByteArray) (hb:base.size≤100000) (hs:s.size≤100000) (w:World) :
  Calls Tryz.prog 47 #[.string base,.string s] w fun e w'=>e=.returned (.int .i64 (idxB base s))∧Below w.heap.size w w':=by
 have hz1:¬ 9223372036854775807<base.size+2:=by omega
 have HE:=Lib.hid (fun k (h:IdxOk base s k)=>h.eq);have hw1:IntKind.i64.wrap ((base.size:Int)+2)=(base.size:Int)+2:=by simp [IntKind.wrap,IntKind.bits,IntKind.signed];omega
 have hw2:IntKind.i64.wrap ((base.size:Int)+2+2)=(base.size:Int)+4:=by simp [IntKind.wrap,IntKind.bits,IntKind.signed];omega
 have hw3:IntKind.i64.wrap ((s.size:Int) - 1)=(s.size:Int) - 1:=by simp [IntKind.wrap,IntKind.bits,IntKind.signed];omega
 by_cases hbe:base=ByteArray.empty
 ·have hbb:(base.toList == [])=true:=by subst hbe;rw [ba_list];rfl
  have HK:=Lib.hid (HE.out 0 (by rw [hbe];exact idx_empty s));clear hbe;go_enter Tryz.func47,Tryz.ntmps47;go_wp2_with fail;go_ret;exact⟨by rw [←HK.out];rfl,Below.refl _ _⟩
 ·have hbb:(base.toList == [])=false:=by
   rw [ba_list]
   cases hl:base.data.toList with
   | nil=>exact absurd (ba_extD (by rw [hl];rfl)) hbe
   | cons x l=>rfl
  have HBe:=Lib.hid hbe;clear hbe;by_cases hsz:s.size<base.size+4
  ·have hszz:(s.size:Int)<(base.size:Int)+4:=by omega
   have HK:=Lib.hid (HE.out 0 (idxR_a hsz));go_enter Tryz.func47,Tryz.ntmps47;go_wp2_with fail;go_ret;exact⟨by rw [←HK.out];rfl,Below.refl _ _⟩
  ·have hszz:¬ (s.size:Int)<(base.size:Int)+4:=by omega
   have hsl1:¬ (s.size:Int)<(base.size:Int)+2:=by omega
   have hsl2:¬ (base.size:Int)+2<0:=by omega
   have hk0:base.size+2≤s.size:=by omega
   have hk1:s.size - 1<s.size:=by omega
   obtain⟨pr,hpr⟩:∃ p,s.extract 0 (base.size+2)=p:=⟨_,rfl⟩;have hc1:(0:Int)≤(base.size:Int)+2∧(base.size:Int)+2≤(s.size:Int):=by omega
   have hc2:(1:Int)≤(s.size:Int)∧(s.size:Int) - 1<(s.size:Int):=by omega
   have hc3:(base.size:Int)+2≤(s.size:Int) - 1:=by omega
   have hc4:(s.size:Int) - 1≤(s.size:Int):=by omega
   have hT:tilA base=base ++ ByteArray.mk #[46,126]:=rfl;by_cases hpe:s.extract 0 (base.size+2)=tilA base
   ·have hpb:pr.toList=(base ++ ByteArray.mk #[46,126]).toList:=by rw [←hpr,hpe,hT]
    by_cases hla:s[s.size - 1]=126
    ·have hlb:((s[s.size - 1].toNat:Int) != 126)=false:=by rw [hla];rfl
     have hS:=idxR_d (by omega) hpe hla;obtain⟨mid,hmid⟩:∃ m,s.extract (base.size+2) (s.size - 1)=m:=⟨_,rfl⟩;rw [hmid] at hS;have hmz:mid.size≤100000:=by
      rw [←hmid,ByteArray.size_extract];omega
     have HPn:=Lib.hid (fun w=>rnum_any mid w hmz);have HS:=Lib.hid hS;clear hS hpe hla hT;go_enter Tryz.func47,Tryz.ntmps47;go_wp2_with fail;refine (HPn.out _).mono ?_;rintro e w3 ⟨⟨r,rfl,hr⟩,hb3⟩;have HB3:=Lib.hid hb3;obtain⟨v,b3,e3,er⟩:=numRes_form2 r;rw [er] at hr;have HR:=Lib.hid hr;rw [e3];clear hb3 hr er e3
     cases b3 with
     | false=>
      have HK:=Lib.hid (HE.out 0 (by rw [HS.out];exact idx_mid HBe.out HR.out));go_wp2_with fail;go_ret;exact⟨by rw [←HK.out];rfl,HB3.out⟩
     | true=>
      have HK:=Lib.hid (HE.out (idxR (some v)) (by rw [HS.out];exact idx_mid HBe.out HR.out));by_cases h1:v<1
      ·have HJ:=Lib.hid (show idxR (some v)=0 from if_neg (by omega));go_wp2_with fail;go_ret;exact⟨by rw [←HK.out,HJ.out];rfl,HB3.out⟩
      ·by_cases h2:999999999<v
       ·have HJ:=Lib.hid (show idxR (some v)=0 from if_neg (by omega));go_wp2_with fail;go_ret;exact⟨by rw [←HK.out,HJ.out];rfl,HB3.out⟩
       ·have HJ:=Lib.hid (show idxR (some v)=v from if_pos (by omega));go_wp2_with fail;go_ret;exact⟨by rw [←HK.out,HJ.out];rfl,HB3.out⟩
    ·have hlb:((s[s.size - 1].toNat:Int) != 126)=true:=by
      rw [bne_iff_ne];intro h;exact hla (UInt8.toNat_inj.1 (by show _=126;omega))
     have HK:=Lib.hid (HE.out 0 (idxR_c hk1 hla));clear hla hpe hT;go_enter Tryz.func47,Tryz.ntmps47;go_wp2_with fail;go_ret;exact⟨by rw [←HK.out];rfl,Below.refl _ _⟩
   ·have hpb:¬ pr.toList=(base ++ ByteArray.mk #[46,126]).toList:=by
     intro h;exact hpe (by rw [hpr,hT];exact ba_eq2 h)
    have HK:=Lib.hid (HE.out 0 (idxR_b hpe));clear hpe hT;go_enter Tryz.func47,Tryz.ntmps47;go_wp2_with fail;go_ret;exact⟨by rw [←HK.out];rfl,Below.refl _ _⟩
end
end Go.Proofs.YtihdbncoijhihaaGreatDoor
