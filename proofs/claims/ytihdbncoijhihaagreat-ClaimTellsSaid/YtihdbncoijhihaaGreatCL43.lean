import Derived.Test.YtihdbncoijhihaaGreatCL41
import Derived.Test.YtihdbncoijhihaaGreatCL38
import Derived.Test.YtihdbncoijhihaaGreatCL42
import Derived.Test.YtihdbncoijhihaaGreatCL36
import Derived.Test.YtihdbncoijhihaaGreatCL24
import Derived.Test.YtihdbncoijhihaaGreatCL1
import Derived.Test.YtihdbncoijhihaaGreatCL21
set_option linter.unusedVariables false
set_option linter.unusedSimpArgs false
set_option maxRecDepth 100000
set_option maxHeartbeats 16000000
namespace Go.Proofs.YtihdbncoijhihaaGreat
section
open Go.RowKit Go.Shelf
attribute [local go_sem] Oper.semAt_some
structure SNt (W:World) (N0 bx by' zb zo:Nat) (cv:Array Value) (x:Cn) (z:ByteArray):Prop where
 c:Blk W N0 cv 30
 cx:Blk W bx #[.string x.path,.int .i64 x.dir,.int .i64 x.info,.int .i64 x.files,.int .i64 x.out,.int .i64 x.way,.string x.top] 38
 cy:Blk W by' #[.string x.path,.int .i64 x.dir,.int .i64 x.info,.int .i64 x.files,.int .i64 x.out,.int .i64 x.way,.string x.top] 38
 cz:W.cell? ⟨zb,zo,none⟩=some (.string z)
 n:zb<N0∧N0≤W.heap.size
section
variable {w w':World} {N0 bx by' zb zo p q:Nat} {cv:Array Value} {x:Cn} {z:ByteArray} {R:Rp} {pv:Value} {pf:Nat} {Q:Rf} {Y Z:Sy}
theorem SNt.keep (h:SNt w N0 bx by' zb zo cv x z) (hb:Below w.heap.size w w'):SNt w' N0 bx by' zb zo cv x z:=
 ⟨h.c.keep hb,h.cx.keep hb,h.cy.keep hb,(hb.cell (p:=⟨zb,zo,none⟩) (Nat.lt_of_lt_of_le h.n.1 h.n.2)).trans h.cz,h.n.1,Nat.le_trans h.n.2 hb.size⟩
theorem SNt.goP (h:SNt w N0 bx by' zb zo cv x z) (hT:TwoAt w N0 p q R pv pf Q Y Z) {F':Nat→Prop} (hs:Stp (R.Y p q) F' w w'):SNt w' N0 bx by' zb zo cv x z:=
 ⟨h.c.twoP hT hs (by decide) (by decide),h.cx.twoP hT hs (by decide) (by decide),h.cy.twoP hT hs (by decide) (by decide),((hs.below hT.f hT.size).cell (p:=⟨zb,zo,none⟩) h.n.1).trans h.cz,h.n.1,Nat.le_trans h.n.2 hs.mod.size⟩
theorem SNt.goR (h:SNt w N0 bx by' zb zo cv x z) (hT:TwoAt w N0 p q R pv pf Q Y Z) {F':Nat→Prop} (hs:Stp (Q.F pf) F' w w'):SNt w' N0 bx by' zb zo cv x z:=
 ⟨h.c.twoR hT hs (by decide),h.cx.twoR hT hs (by decide),h.cy.twoR hT hs (by decide),((hs.below hT.r.low hT.size).cell (p:=⟨zb,zo,none⟩) h.n.1).trans h.cz,h.n.1,Nat.le_trans h.n.2 hs.mod.size⟩
end
theorem two_at {w:World} {g:Nat} {a b:Int} (h:Blk w g #[.int .i64 a,.int .i64 b] 3) {Q:List Value→Int→Prop} (hQ:∀ d,Q [.int .i64 d] d):SliceAt w 1 Q (some ⟨g,0,none⟩) 2 2 [a,b]:=by
 refine ⟨rfl,by decide,by decide,.inr ⟨g,0,rfl,h.lt,fun i hi=>?_⟩⟩;have hi3:i<2:=hi;rcases (by omega:i=0∨i=1) with rfl | rfl
 ·refine ⟨_,rfl,hQ _,fun j hj=>?_⟩;obtain rfl:j=0:=by simpa using hj
  exact h.cell 0
 ·refine ⟨_,rfl,hQ _,fun j hj=>?_⟩;obtain rfl:j=0:=by simpa using hj
  exact h.cell 1
theorem claimTells_any (w:World) {ma:Option Addr} {mn mc:Nat} {ia:Option Addr} {il ic:Nat} {ms:List Mt} {is:List It} (h:SdAt w ma mn mc ia il ic ms is) (u g:Int) (hu0:-9223372036854775808≤u) (hu1:u≤9223372036854775807) (dt pt tx:ByteArray) (no now:Int) {pa:Option Addr} {pn pc:Nat} {pl:List (Int×Int)} (hpl:SliceAt w 2 fltR pa pn pc pl)
  {la:Option Addr} {ln lc:Nat} {zs:List ByteArray} (hz:SliceAt w 1 strR la ln lc zs) :
  Calls Tryz.prog 5 #[.agg #[.slice ma mn mc,.slice ia il ic,.int .i64 u,.int .i64 g,.string dt,.string pt,.string tx,.int .i64 no,.int .i64 now,.slice pa pn pc],.slice la ln lc] w fun e w'=>e=.returned (.bool true)∧Below w.heap.size w w':=by
 have hX:=Blk.new w #[.slice ma mn mc,.slice ia il ic,.int .i64 u,.int .i64 g,.string dt,.string pt,.string tx,.int .i64 no,.int .i64 now,.slice pa pn pc] 30;have hbX:=balloc (Below.refl w.heap.size w) (.cells #[.slice ma mn mc,.slice ia il ic,.int .i64 u,.int .i64 g,.string dt,.string pt,.string tx,.int .i64 no,.int .i64 now,.slice pa pn pc] 30);have hbI:=((Below.refl _ w).alloc (Nat.le_refl _) (.cells #[.slice ma mn mc,.slice ia il ic,.int .i64 u,.int .i64 g,.string dt,.string pt,.string tx,.int .i64 no,.int .i64 now,.slice pa pn pc] 30));have HFw:=Lib.hid (few30_any _ (h.keep hbI) u g dt pt tx no now (pa:=pa) (pc:=pc) hpl.1);have HS:=Lib.hid (And.intro h hpl);have HZ:=Lib.hid (fun w1 (hb1:Below w.heap.size w w1)=>hz.below hb1 (Nat.le_refl _));have hzl:zs.length=ln:=hz.1;have hln:ln≤9223372036854775807:=by obtain ⟨-,h2,h3,-⟩:=hz;omega
 have HAw:=Lib.hid awake32_any;clear h hpl hbI hz;go_enter Tryz.func5,Tryz.ntmps5;go_upto_region 1 with fail;generalize w.alloc (.cells #[.slice ma mn mc,.slice ia il ic,.int .i64 u,.int .i64 g,.string dt,.string pt,.string tx,.int .i64 no,.int .i64 now,.slice pa pn pc] 30)=w0 at hX hbX HFw ⊢;obtain⟨bc,bf,bz⟩:=hX.facts;go_wp2_with fail;refine HFw.out.mono ?_;rintro e w1 ⟨rfl,hb1⟩;have HB1:=Lib.hid (hX.keep hb1);have HBw:=Lib.hid (bnext hbX hb1);clear hX hbX hb1 HFw bc bf bz;obtain⟨bc,bf,bz⟩:=HB1.out.facts
 cases hf:few30 ms is dt pt tx pl with
 | false=>
  clear hf bc bf bz;go_wp2_with fail;refine (HAw.out _).mono ?_;rintro e w2 ⟨rfl,hb2⟩;have HB2:=Lib.hid (bnext HBw.out hb2);clear hb2;go_wp2_with fail;go_ret;exact⟨rfl,HB2.out⟩
 | true=>
  by_cases h8:8<ln
  ·have h8b:decide (8<ln)=true:=by simpa using h8
   have h8c:decide ((8:Int)<(ln:Int))=true:=by
    rw [decide_eq_true_eq];omega
   clear hf bc bf bz;go_wp2_with fail;refine (HAw.out _).mono ?_;rintro e w2 ⟨rfl,hb2⟩;have HB2:=Lib.hid (bnext HBw.out hb2);clear hb2;go_wp2_with fail;go_ret;exact⟨rfl,HB2.out⟩
  ·have h8b:decide (8<ln)=false:=by simpa using h8
   have h8c:decide ((8:Int)<(ln:Int))=false:=by
    rw [decide_eq_false_iff_not];omega
   have HBo:=Lib.hid (both30_any w1 (HS.out.1.keep HBw.out) u g dt pt tx no now (HS.out.2.keep HBw.out) hf);obtain⟨hf2,hdt,hpt,htx,hpl4⟩:=few30_of hf;obtain⟨hm10,hi30,-,-⟩:=few22_of hf2;have HFi:=Lib.hid (plant_fine ms is);obtain⟨N,hN⟩:∃ N,1+2*ms.length+is.length=N:=⟨_,rfl⟩;have hNs:N≤51:=by omega
   rw [hN] at HFi;have hlast:=fs_last32 (plant_ok ms is) (by omega);generalize plantF ms is=S at HBo HFi hlast;have HNs:=Lib.hid hNs;have HDt:=Lib.hid (And.intro (show dt.size≤100000 by omega) (show tx.size≤9223372036854775807 by omega));have HOk:=Lib.hid (show SyOk ⟨S,nowI now,0,pl,false⟩ N from ⟨HFi.out,Int.le_refl _,by show (0:Int)≤_;omega,by show pl.length≤_;omega⟩);have HC1:=Lib.hid (And.intro HB1.out HBw.out);clear hf hf2 hi30 hm10 hN hdt htx hpt hpl4 hNs;go_wp2_with fail;refine HBo.out.mono ?_;rintro e w2 ⟨p1,q1,R1,v1,pf,R2,rfl,hBo⟩;have HB2:=Lib.hid (bnext HC1.out.2 hBo.below);have hC2:=HC1.out.1.keep hBo.below;have hsz1:=HC1.out.2.size;have HT2:=Lib.hid (show TwoAt w2 w.heap.size p1 q1 R1 v1 pf R2 ⟨S,nowI now,0,pl,false⟩ ⟨S,nowI now,0,pl,false⟩ from
    ⟨hBo.y,⟨hBo.r,hBo.now,hBo.cnt,hBo.dd,⟨pa,pn,pc,w,hBo.plan,rfl,HS.out.2,HB2.out⟩,fun k hk=>Nat.le_trans hsz1 (hBo.f2 k hk)⟩,fun k hk=>Nat.le_trans hsz1 (hBo.f1 k hk)⟩)
   have HC2:=Lib.hid hC2;clear bc bf bz;obtain⟨bc,bf,bz⟩:=hC2.facts;obtain⟨rc,rf,rz⟩:=hBo.r.blk.facts;have hlw:=u64_id32 (x:=S.last) (by omega) hlast.2;have hlz:¬ S.last=0:=by omega
   clear hBo hC2 hsz1;go_upto_region 7 with (go_quiet (fail));generalize wrap64 (1+wrap64 ((IntKind.u64.wrap no).tmod S.last))=n2;have hb3:=below_drewN (Below.refl w2.heap.size w2) nq;generalize w2.drewN nq=w3 at hb3 ⊢;have HT3:=Lib.hid (HT2.out.keep hb3);have HC3:=Lib.hid (HC2.out.keep hb3);have HB3:=Lib.hid (bnext HB2.out hb3);clear hb3 bc bf bz rc rf rz hlast hlw hlz;obtain⟨bc,bf,bz⟩:=HC3.out.facts;have HCp:=Lib.hid (lchoose_any HT3.out.y HOk.out (by have:=HNs.out;omega) rfl ⟨u,g,dt⟩ hu0 hu1 HDt.out.1 n2);have HCr:=Lib.hid (fun (w4:World) (R4:Rf) (h4:RyAt w4 w.heap.size pf R4 ⟨S,nowI now,0,pl,false⟩)=>rchoose_any h4 HOk.out (by have:=HNs.out;omega) rfl ⟨u,g,dt⟩ hu0 hu1 HDt.out.1 n2);have HOk2:=Lib.hid (HOk.out.chooseF ⟨u,g,dt⟩ n2);obtain⟨q,hq⟩:∃ q,Sy.chooseF ⟨S,nowI now,0,pl,false⟩ ⟨u,g,dt⟩ n2=q:=⟨_,rfl⟩;rw [hq] at HCp HCr HOk2;obtain⟨Z,x,qe⟩:=q;unfold Cn.v at HCp HCr;dsimp only at HCp HCr HOk2;clear hq;go_wp2_with fail;refine HCp.out.mono ?_;rintro e w4 ⟨rfl,R4,hY4,hS4⟩;obtain⟨hT4,hb4⟩:=HT3.out.goP hY4 hS4;have hC4:=HC3.out.twoP HT3.out hS4 (by decide) (by decide);have hX4:=Blk.new w4 #[.string x.path,.int .i64 x.dir,.int .i64 x.info,.int .i64 x.files,.int .i64 x.out,.int .i64 x.way,.string x.top] 38;have hbX4:=balloc (Below.refl w4.heap.size w4) (.cells #[.string x.path,.int .i64 x.dir,.int .i64 x.info,.int .i64 x.files,.int .i64 x.out,.int .i64 x.way,.string x.top] 38);clear bc bf bz;go_upto_region 8 with fail;have HB4:=Lib.hid ((HB3.out.trans hb4).trans (hbX4.mono hT4.size));have HT4:=Lib.hid (hT4.keep hbX4);have hC4':=hC4.keep hbX4;generalize w4.alloc (.cells #[.string x.path,.int .i64 x.dir,.int .i64 x.info,.int .i64 x.files,.int .i64 x.out,.int .i64 x.way,.string x.top] 38)=w5 at hX4 HB4 HT4 hC4' ⊢;generalize w4.heap.size=bx at hX4 ⊢;have HC5:=Lib.hid (And.intro hC4' hX4);obtain⟨bc,bf,bz⟩:=hC4'.facts;clear hY4 hS4 hT4 hb4 hC4 hX4 hbX4 hC4';have HCr5:=Lib.hid (HCr.out _ _ HT4.out.r);go_wp2_with fail;refine HCr5.out.mono ?_;rintro e w6 ⟨rfl,R6,hY6,hS6⟩;obtain⟨hT6,hb6⟩:=HT4.out.goR hY6 hS6;have hC6:=HC5.out.1.twoR HT4.out hS6 (by decide);have hX6:=HC5.out.2.twoR HT4.out hS6 (by decide);have hY7:=Blk.new w6 #[.string x.path,.int .i64 x.dir,.int .i64 x.info,.int .i64 x.files,.int .i64 x.out,.int .i64 x.way,.string x.top] 38;have hbY7:=balloc (Below.refl w6.heap.size w6) (.cells #[.string x.path,.int .i64 x.dir,.int .i64 x.info,.int .i64 x.files,.int .i64 x.out,.int .i64 x.way,.string x.top] 38);clear bc bf bz;go_upto_region 9 with fail;have HB7:=Lib.hid ((HB4.out.trans hb6).trans (hbY7.mono hT6.size));have HT7:=Lib.hid (hT6.keep hbY7);have hC7:=hC6.keep hbY7;have hX7:=hX6.keep hbY7;generalize w6.alloc (.cells #[.string x.path,.int .i64 x.dir,.int .i64 x.info,.int .i64 x.files,.int .i64 x.out,.int .i64 x.way,.string x.top] 38)=w7 at hY7 HB7 HT7 hC7 hX7 ⊢;generalize w6.heap.size=yb at hY7 ⊢;have HC7:=Lib.hid (And.intro hC7 (And.intro hX7 hY7));obtain⟨xc,xf,xz⟩:=hX7.facts;obtain⟨yc,yf,yz⟩:=hY7.facts;have hcn:=cn_neq x;clear hY6 hS6 hT6 hb6 hC6 hX6 hY7 hbY7 hC7 hX7 HCr5;go_wp2_with (go_quiet (fail));have HT8:=HT7;have HC8:=HC7;have HB8:=HB7;clear xc xf xz yc yf yz hcn;go_wp2_with fail
   go_loopw [12] (fun t12 wr=>∃ (i:Nat) (Ra:Rp) (Qa:Rf) (Z1:Sy),i≤ln∧t12=.int .i64 i∧SyOk Z1 (N+20+1000*i)∧TwoAt wr w.heap.size p1 q1 Ra v1 pf Qa Z1 Z1∧Below w.heap.size w wr∧Blk wr w.heap.size #[.slice ma mn mc,.slice ia il ic,.int .i64 u,.int .i64 g,.string dt,.string pt,.string tx,.int .i64 no,.int .i64 now,.slice pa pn pc] 30∧Blk wr bx #[.string x.path,.int .i64 x.dir,.int .i64 x.info,.int .i64 x.files,.int .i64 x.out,.int .i64 x.way,.string x.top] 38∧Blk wr yb #[.string x.path,.int .i64 x.dir,.int .i64 x.info,.int .i64 x.files,.int .i64 x.out,.int .i64 x.way,.string x.top] 38) (fun t12 _=>ln - (intOf t12).toNat)
   case atStart=>exact ⟨0,R4,R6,Z,Nat.zero_le _,rfl,HOk2.out,HT8.out,HB8.out,HC8.out.1,HC8.out.2.1,HC8.out.2.2⟩
   case round=>
    obtain⟨i,Ra,Qa,Z1,hi,rfl,hok,hT,hb,hC,hX,hY⟩:=hrel;by_cases hlt:i<ln
    ·have hlt2:(i:Int)<(ln:Int):=by omega
     have hi0:¬ (i:Int)<0:=by omega
     obtain⟨zb,zo,rfl,hzb,hzc,hzs⟩:=str_cell (HZ.out _ (Below.refl _ _)) i (by omega);have hzr:=str_cell2 (HZ.out _ hb) i (by omega);have hzbr:zb<wr.heap.size:=Nat.lt_of_lt_of_le hzb hb.size;generalize zs[i]'(by omega)=z at hzc hzs hzr;have HSn:=Lib.hid (show SNt wr w.heap.size bx yb zb (zo+i) #[.slice ma mn mc,.slice ia il ic,.int .i64 u,.int .i64 g,.string dt,.string pt,.string tx,.int .i64 no,.int .i64 now,.slice pa pn pc] x z from ⟨hC,hX,hY,hzr,hzb,hb.size⟩);have HNow:=Lib.hid (And.intro hT hb);have HOk3:=Lib.hid hok;have HCd:=Lib.hid (ccred_any u g dt);have HRd:=Lib.hid (rcred_any u g dt);clear hok hT hb hC hX hY hzc;by_cases hz3:300<z.size
     ·have hz3b:decide (300<z.size)=true:=by simpa using hz3
      have hz3c:decide ((300:Int)<(z.size:Int))=true:=by
       rw [decide_eq_true_eq];omega
      go_wp2_with fail;refine (HAw.out _).mono ?_;rintro e y1 ⟨rfl,hby1⟩;have HBy1:=Lib.hid (bnext HNow.out.2 hby1);clear hby1;go_wp2_with fail;go_ret;exact⟨rfl,HBy1.out⟩
     ·have hz3b:decide (300<z.size)=false:=by simpa using hz3
      have hz3c:decide ((300:Int)<(z.size:Int))=false:=by
       rw [decide_eq_false_iff_not];omega
      have HFl:=Lib.hid (cfile_any z (by omega));have hn8:=HNs.out;have HN1:=Lib.hid (fun (w9:World) (hy:SyAt w9 p1 q1 Ra v1 Z1)=>cname_any hy HOk3.out (by omega) ⟨u,g,dt⟩ x z tx hzs HDt.out.2);have HN2:=Lib.hid (fun (w9:World) (Q9:Rf) (hy:RyAt w9 w.heap.size pf Q9 Z1)=>rname_any hy HOk3.out (by omega) ⟨u,g,dt⟩ x z tx hzs);have hu1:(⟨u,g,dt⟩:Us).c=⟨u,g⟩:=rfl;rw [hu1] at HN1 HN2;have HOk4:=Lib.hid (show SyOk (Z1.nameF ⟨u,g⟩ x z tx).1 (N+20+1000*(i+1)) from by
       have h:=HOk3.out.nameL (c:=⟨u,g⟩) (x:=x) (text:=tx) (l:=namesL z);rw [names_len] at h;exact h.mono (by omega))
      generalize Z1.nameF ⟨u,g⟩ x z tx=r at HN1 HN2 HOk4;obtain⟨Z5,n,e2⟩:=r;dsimp only at HN1 HN2 HOk4;have HF1:=Lib.hid (fun (w9:World) (R9:Rp) (hy:SyAt w9 p1 q1 R9 v1 Z5) {a:Option Addr} {m cap:Nat} (hs:SliceAt w9 1 noQ a m cap [x.info,n2])=>cfree_any hy HOk4.out (by omega) ⟨u,g⟩ z hzs a m cap [x.info,n2] hs);have HF2:=Lib.hid (fun (w9:World) (Q9:Rf) (hy:RyAt w9 w.heap.size pf Q9 Z5) {a:Option Addr} {m cap:Nat} (hs:SliceAt w9 1 numR a m cap [x.info,n2])=>rfree_any hy.r HOk4.out.fine.ok hy.dd ⟨u,g⟩ z hzs [x.info,n2] hs);generalize Z5.fs.freeL Z5.dead ⟨u,g⟩ [x.info,n2] (namesL z)=fr at HF1 HF2;obtain⟨fs1,fe⟩:=fr;dsimp only at HF1 HF2;have hT0:=HNow.out.1.keep (Below.refl _ wr).drew;have hS0:=HSn.out.keep (Below.refl _ wr).drew;go_upto_region 16 with fail;refine wp_region_held_drew (S:=fun w'=>SNt w' w.heap.size bx yb zb (zo+i) #[.slice ma mn mc,.slice ia il ic,.int .i64 u,.int .i64 g,.string dt,.string pt,.string tx,.int .i64 no,.int .i64 now,.slice pa pn pc] x z) (by kernel_rfl) hS0 (fun hHeld=>?_);refine reg_takes 10 [(0,86),(1,87),(2,88),(3,89),(4,90),(5,91),(6,92),(7,93),(8,94),(9,95)] (by kernel_rfl) (by kernel_rfl) rfl (fun _ _ _ _ _ h=>h) hHeld ?_
      iterate 10 (apply takes_cons rfl rfl;(· (intro w9 hSw;obtain ⟨cc,-,-⟩:=hSw.c.facts;obtain ⟨xc,-,-⟩:=hSw.cx.facts;have zc:=hSw.cz;clear hSw;go_simp;(try with_reducible rfl)));simp only [List.setIfInBounds_toArray,List.set_cons_zero,List.set_cons_succ])
      refine takes_nil ?_;refine reg_call 10 96 (R:=fun v w'=>v=.tuple #[.string n,.int .i64 e2]∧Goes wr.drew w' p1 q1 Ra v1 Z5) (by kernel_rfl) rfl rfl rfl ?xa ((HN1.out _ hT0.y).mono (fun e w' ⟨he,hw⟩=>⟨_,he,rfl,hw⟩)) (fun v w' ⟨_,R',_,hs3⟩=>hS0.goP hT0 hs3) ?_
      case xa=>(go_simp;(try rfl))
      rintro _ w9 ⟨rfl,R9,hY9,hS9⟩;simp only [List.setIfInBounds_toArray,List.set_cons_zero,List.set_cons_succ];have hS1:=hS0.goP hT0 hS9;obtain⟨hT1,hb1⟩:=hT0.goP hY9 hS9;refine reg_takes 5 [(11,85),(12,97),(13,98),(14,13),(15,14)] (by kernel_rfl) (by kernel_rfl) rfl (fun _ _ _ _ _ h=>h) hS1 ?_
      iterate 5 (apply takes_cons rfl rfl;(· (intro w9 hSw;clear hSw;go_simp;(try with_reducible rfl)));simp only [List.setIfInBounds_toArray,List.set_cons_zero,List.set_cons_succ])
      refine takes_nil ?_;refine wpAnyH_done (by kernel_rfl) ?_ _;have HNow1:=Lib.hid (And.intro (hT1.keep (Below.refl _ w9).drew) (And.intro ((HNow.out.2.drew.trans hb1).drew) (hS1.keep (Below.refl _ w9).drew)));clear hHeld hT0 hS0 hS1 hT1 hb1 hY9 hS9;go_upto_region 17 with fail;obtain⟨hT0,hb0,hS0⟩:=HNow1.out;refine wp_region_held_drew (S:=fun w'=>SNt w' w.heap.size bx yb zb (zo+i) #[.slice ma mn mc,.slice ia il ic,.int .i64 u,.int .i64 g,.string dt,.string pt,.string tx,.int .i64 no,.int .i64 now,.slice pa pn pc] x z) (by kernel_rfl) hS0 (fun hHeld=>?_);refine reg_takes 10 [(0,100),(1,101),(2,102),(3,103),(4,104),(5,105),(6,106),(7,107),(8,108),(9,109)] (by kernel_rfl) (by kernel_rfl) rfl (fun _ _ _ _ _ h=>h) hHeld ?_
      iterate 10 (apply takes_cons rfl rfl;(· (intro w9 hSw;obtain ⟨cc,-,-⟩:=hSw.c.facts;obtain ⟨yc,-,-⟩:=hSw.cy.facts;have zc:=hSw.cz;clear hSw;go_simp;(try with_reducible rfl)));simp only [List.setIfInBounds_toArray,List.set_cons_zero,List.set_cons_succ])
      refine takes_nil ?_;refine reg_call 10 110 (R:=fun v w'=>v=.tuple #[.string n,.int .i64 e2]∧GoesR w9.drew w' w.heap.size pf Qa Z5) (by kernel_rfl) rfl rfl rfl ?xb ((HN2.out _ _ hT0.r).mono (fun e w' ⟨he,hw⟩=>⟨_,he,rfl,hw⟩)) (fun v w' ⟨_,R',_,hs3⟩=>hS0.goR hT0 hs3) ?_
      case xb=>(go_simp;(try rfl))
      rintro _ wA ⟨rfl,QA,hYA,hSA⟩;simp only [List.setIfInBounds_toArray,List.set_cons_zero,List.set_cons_succ];have hS1:=hS0.goR hT0 hSA;obtain⟨hT1,hb1⟩:=hT0.goR hYA hSA;refine reg_takes 5 [(11,99),(12,111),(13,112),(14,15),(15,16)] (by kernel_rfl) (by kernel_rfl) rfl (fun _ _ _ _ _ h=>h) hS1 ?_
      iterate 5 (apply takes_cons rfl rfl;(· (intro w9 hSw;clear hSw;go_simp;(try with_reducible rfl)));simp only [List.setIfInBounds_toArray,List.set_cons_zero,List.set_cons_succ])
      refine takes_nil ?_;refine wpAnyH_done (by kernel_rfl) ?_ _;have HNow2:=Lib.hid (And.intro hT1 (And.intro (hb0.trans hb1) hS1));clear hHeld hT0 hb0 hS0 hS1 hT1 hb1 hYA hSA;go_upto_region 18 with fail
      go_cut [17,18] from 72 to 181 (fun t17 t18 wx=>t17=.string fs1∧t18=.int .i64 fe∧Below wA.heap.size wA wx)
      case first=>
       obtain⟨hT0,hb0,hS0⟩:=HNow2.out;have hbd:Below wA.heap.size wA wA.drew:=(Below.refl _ _).drew;refine wp_region_held_drew (S:=fun w'=>SNt w' w.heap.size bx yb zb (zo+i) #[.slice ma mn mc,.slice ia il ic,.int .i64 u,.int .i64 g,.string dt,.string pt,.string tx,.int .i64 no,.int .i64 now,.slice pa pn pc] x z) (by kernel_rfl) (hS0.keep hbd) (fun hHeld=>?_);refine reg_takes 10 [(0,114),(1,115),(2,116),(4,118),(5,119),(6,120),(7,121),(8,122),(9,123),(10,124)] (by kernel_rfl) (by kernel_rfl) rfl (fun _ _ _ _ _ h=>h) hHeld ?_
       iterate 10 (apply takes_cons rfl rfl;(· (intro w9 hSw;obtain ⟨cc,-,-⟩:=hSw.c.facts;obtain ⟨xc,-,-⟩:=hSw.cx.facts;have zc:=hSw.cz;clear hSw;go_simp;(try with_reducible rfl)));simp only [List.setIfInBounds_toArray,List.set_cons_zero,List.set_cons_succ])
       refine takes_nil ?_;refine reg_call_make 3 117 11 125 (vi:=.slice (some ⟨wA.drew.heap.size,0,none⟩) 2 2) (Wi:=wA.drew.alloc (.cells #[.int .i64 x.info,.int .i64 n2] 3)) (R:=fun v w'=>v=.agg #[.int .i64 u,.int .i64 g]∧Below wA.drew.heap.size wA.drew w') (by kernel_rfl) rfl rfl rfl rfl rfl rfl ?rap (hHeld.keep (balloc (Below.refl _ _) _)) ?rbp ((HCd.out _).mono (fun e w' ⟨he,hb⟩=>⟨_,he,rfl,hb⟩)) (fun v w' ⟨_,hb⟩=>hHeld.keep hb) ?_ ?_
       case rap=>(go_simp;(try rfl))
       case rbp=>(go_simp;(try rfl))
       ·simp only [List.setIfInBounds_toArray,List.set_cons_zero,List.set_cons_succ];have hbA:=balloc (Below.refl wA.drew.heap.size wA.drew) (.cells #[.int .i64 x.info,.int .i64 n2] 3);have hThA:=Blk.new wA.drew #[.int .i64 x.info,.int .i64 n2] 3;have hSA:=hHeld.keep hbA;refine reg_call 3 117 (R:=fun v w'=>v=.agg #[.int .i64 u,.int .i64 g]∧Below (wA.drew.alloc (.cells #[.int .i64 x.info,.int .i64 n2] 3)).heap.size (wA.drew.alloc (.cells #[.int .i64 x.info,.int .i64 n2] 3)) w') (by kernel_rfl) rfl rfl rfl ?xap ((HCd.out _).mono (fun e w' ⟨he,hb⟩=>⟨_,he,rfl,hb⟩)) (fun v w' ⟨_,hb⟩=>hSA.keep hb) ?_
        case xap=>(go_simp;(try rfl))
        rintro _ wD ⟨rfl,hbD⟩;simp only [List.setIfInBounds_toArray,List.set_cons_zero,List.set_cons_succ];have hSD:=hSA.keep hbD;have hsl:=two_at (hThA.keep hbD) (Q:=noQ) (fun _=>rfl);have hbw:Below wA.heap.size wA wD:=bnext (bnext hbd hbA) hbD;have hTf:=(hT0.keep hbw).y;refine reg_call 12 126 (R:=fun v w'=>v=.tuple #[.string fs1,.int .i64 fe]∧Below wD.heap.size wD w') (by kernel_rfl) rfl rfl rfl ?xfap ((HF1.out _ _ hTf hsl).mono (fun e w' ⟨he,hb⟩=>⟨_,he,rfl,hb⟩)) (fun v w' ⟨_,hb⟩=>hSD.keep hb) ?_
        case xfap=>(go_simp;(try rfl))
        rintro _ wE ⟨rfl,hbE⟩;simp only [List.setIfInBounds_toArray,List.set_cons_zero,List.set_cons_succ];have hSE:=hSD.keep hbE;have HBE:=Lib.hid (bnext hbw hbE);refine reg_takes 5 [(13,113),(14,127),(15,128),(16,17),(17,18)] (by kernel_rfl) (by kernel_rfl) rfl (fun _ _ _ _ _ h=>h) hSE ?_
        iterate 5 (apply takes_cons rfl rfl;(· (intro w9 hSw;clear hSw;go_simp;(try with_reducible rfl)));simp only [List.setIfInBounds_toArray,List.set_cons_zero,List.set_cons_succ])
        refine takes_nil ?_;refine wpAnyH_done (by kernel_rfl) ?_ _;clear hSE hbE;go_wp2_with fail;go_meet;exact⟨rfl,rfl,HBE.out⟩
       ·rintro _ wC ⟨rfl,hbC⟩;simp only [List.setIfInBounds_toArray,List.set_cons_zero,List.set_cons_succ];have hSC:=hHeld.keep hbC;have hbB:=balloc (Below.refl wC.heap.size wC) (.cells #[.int .i64 x.info,.int .i64 n2] 3);have hSD:=hSC.keep hbB;refine reg_alone 11 125 (v:=.slice (some ⟨wC.heap.size,0,none⟩) 2 2) (W:=wC.alloc (.cells #[.int .i64 x.info,.int .i64 n2] 3)) (by kernel_rfl) rfl rfl rfl ?qbp hSD ?_
        case qbp=>(go_simp;(try rfl))
        simp only [List.setIfInBounds_toArray,List.set_cons_zero,List.set_cons_succ];have hsl:=two_at (Blk.new wC #[.int .i64 x.info,.int .i64 n2] 3) (Q:=noQ) (fun _=>rfl);have hbw:Below wA.heap.size wA (wC.alloc (.cells #[.int .i64 x.info,.int .i64 n2] 3)):=bnext (bnext hbd hbC) hbB;have hTf:=(hT0.keep hbw).y;refine reg_call 12 126 (R:=fun v w'=>v=.tuple #[.string fs1,.int .i64 fe]∧Below (wC.alloc (.cells #[.int .i64 x.info,.int .i64 n2] 3)).heap.size (wC.alloc (.cells #[.int .i64 x.info,.int .i64 n2] 3)) w') (by kernel_rfl) rfl rfl rfl ?xfbp ((HF1.out _ _ hTf hsl).mono (fun e w' ⟨he,hb⟩=>⟨_,he,rfl,hb⟩)) (fun v w' ⟨_,hb⟩=>hSD.keep hb) ?_
        case xfbp=>(go_simp;(try rfl))
        rintro _ wE ⟨rfl,hbE⟩;simp only [List.setIfInBounds_toArray,List.set_cons_zero,List.set_cons_succ];have hSE:=hSD.keep hbE;have HBE:=Lib.hid (bnext hbw hbE);refine reg_takes 5 [(13,113),(14,127),(15,128),(16,17),(17,18)] (by kernel_rfl) (by kernel_rfl) rfl (fun _ _ _ _ _ h=>h) hSE ?_
        iterate 5 (apply takes_cons rfl rfl;(· (intro w9 hSw;clear hSw;go_simp;(try with_reducible rfl)));simp only [List.setIfInBounds_toArray,List.set_cons_zero,List.set_cons_succ])
        refine takes_nil ?_;refine wpAnyH_done (by kernel_rfl) ?_ _;clear hSE hbE;go_wp2_with fail;go_meet;exact⟨rfl,rfl,HBE.out⟩
      case rest=>
       obtain⟨rfl,rfl,hbF⟩:=hcut;generalize wc=wF at hbF ⊢;have HNow3:=Lib.hid (And.intro (HNow2.out.1.keep hbF) (And.intro (bnext HNow2.out.2.1 hbF) (HNow2.out.2.2.keep hbF)));clear hbF;go_upto_region 19 with fail
       go_cut [19,20] from 72 to 181 (fun t19 t20 wx=>t19=.string fs1∧t20=.int .i64 fe∧Below wF.heap.size wF wx)
       case first=>
        obtain⟨hT0,hb0,hS0⟩:=HNow3.out;have hbd:Below wF.heap.size wF wF.drew:=(Below.refl _ _).drew;refine wp_region_held_drew (S:=fun w'=>SNt w' w.heap.size bx yb zb (zo+i) #[.slice ma mn mc,.slice ia il ic,.int .i64 u,.int .i64 g,.string dt,.string pt,.string tx,.int .i64 no,.int .i64 now,.slice pa pn pc] x z) (by kernel_rfl) (hS0.keep hbd) (fun hHeld=>?_);refine reg_takes 10 [(0,130),(1,131),(2,132),(4,134),(5,135),(6,136),(7,137),(8,138),(9,139),(10,140)] (by kernel_rfl) (by kernel_rfl) rfl (fun _ _ _ _ _ h=>h) hHeld ?_
        iterate 10 (apply takes_cons rfl rfl;(· (intro w9 hSw;obtain ⟨cc,-,-⟩:=hSw.c.facts;obtain ⟨yc,-,-⟩:=hSw.cy.facts;have zc:=hSw.cz;clear hSw;go_simp;(try with_reducible rfl)));simp only [List.setIfInBounds_toArray,List.set_cons_zero,List.set_cons_succ])
        refine takes_nil ?_;refine reg_call_make 3 133 11 141 (vi:=.slice (some ⟨wF.drew.heap.size,0,none⟩) 2 2) (Wi:=wF.drew.alloc (.cells #[.int .i64 x.info,.int .i64 n2] 3)) (R:=fun v w'=>v=.agg #[.int .i64 u,.int .i64 g]∧Below wF.drew.heap.size wF.drew w') (by kernel_rfl) rfl rfl rfl rfl rfl rfl ?rar (hHeld.keep (balloc (Below.refl _ _) _)) ?rbr ((HRd.out _).mono (fun e w' ⟨he,hb⟩=>⟨_,he,rfl,hb⟩)) (fun v w' ⟨_,hb⟩=>hHeld.keep hb) ?_ ?_
        case rar=>(go_simp;(try rfl))
        case rbr=>(go_simp;(try rfl))
        ·simp only [List.setIfInBounds_toArray,List.set_cons_zero,List.set_cons_succ];have hbA:=balloc (Below.refl wF.drew.heap.size wF.drew) (.cells #[.int .i64 x.info,.int .i64 n2] 3);have hThA:=Blk.new wF.drew #[.int .i64 x.info,.int .i64 n2] 3;have hSA:=hHeld.keep hbA;refine reg_call 3 133 (R:=fun v w'=>v=.agg #[.int .i64 u,.int .i64 g]∧Below (wF.drew.alloc (.cells #[.int .i64 x.info,.int .i64 n2] 3)).heap.size (wF.drew.alloc (.cells #[.int .i64 x.info,.int .i64 n2] 3)) w') (by kernel_rfl) rfl rfl rfl ?xar ((HRd.out _).mono (fun e w' ⟨he,hb⟩=>⟨_,he,rfl,hb⟩)) (fun v w' ⟨_,hb⟩=>hSA.keep hb) ?_
         case xar=>(go_simp;(try rfl))
         rintro _ wD ⟨rfl,hbD⟩;simp only [List.setIfInBounds_toArray,List.set_cons_zero,List.set_cons_succ];have hSD:=hSA.keep hbD;have hsl:=two_at (hThA.keep hbD) (Q:=numR) (fun _=>rfl);have hbw:Below wF.heap.size wF wD:=bnext (bnext hbd hbA) hbD;have hTf:=(hT0.keep hbw).r;refine reg_call 12 142 (R:=fun v w'=>v=.tuple #[.string fs1,.int .i64 fe]∧Below wD.heap.size wD w') (by kernel_rfl) rfl rfl rfl ?xfar ((HF2.out _ _ hTf hsl).mono (fun e w' ⟨he,hb⟩=>⟨_,he,rfl,hb⟩)) (fun v w' ⟨_,hb⟩=>hSD.keep hb) ?_
         case xfar=>(go_simp;(try rfl))
         rintro _ wE ⟨rfl,hbE⟩;simp only [List.setIfInBounds_toArray,List.set_cons_zero,List.set_cons_succ];have hSE:=hSD.keep hbE;have HBE:=Lib.hid (bnext hbw hbE);refine reg_takes 5 [(13,129),(14,143),(15,144),(16,19),(17,20)] (by kernel_rfl) (by kernel_rfl) rfl (fun _ _ _ _ _ h=>h) hSE ?_
         iterate 5 (apply takes_cons rfl rfl;(· (intro w9 hSw;clear hSw;go_simp;(try with_reducible rfl)));simp only [List.setIfInBounds_toArray,List.set_cons_zero,List.set_cons_succ])
         refine takes_nil ?_;refine wpAnyH_done (by kernel_rfl) ?_ _;clear hSE hbE;go_wp2_with fail;go_meet;exact⟨rfl,rfl,HBE.out⟩
        ·rintro _ wC ⟨rfl,hbC⟩;simp only [List.setIfInBounds_toArray,List.set_cons_zero,List.set_cons_succ];have hSC:=hHeld.keep hbC;have hbB:=balloc (Below.refl wC.heap.size wC) (.cells #[.int .i64 x.info,.int .i64 n2] 3);have hSD:=hSC.keep hbB;refine reg_alone 11 141 (v:=.slice (some ⟨wC.heap.size,0,none⟩) 2 2) (W:=wC.alloc (.cells #[.int .i64 x.info,.int .i64 n2] 3)) (by kernel_rfl) rfl rfl rfl ?qbr hSD ?_
         case qbr=>(go_simp;(try rfl))
         simp only [List.setIfInBounds_toArray,List.set_cons_zero,List.set_cons_succ];have hsl:=two_at (Blk.new wC #[.int .i64 x.info,.int .i64 n2] 3) (Q:=numR) (fun _=>rfl);have hbw:Below wF.heap.size wF (wC.alloc (.cells #[.int .i64 x.info,.int .i64 n2] 3)):=bnext (bnext hbd hbC) hbB;have hTf:=(hT0.keep hbw).r;refine reg_call 12 142 (R:=fun v w'=>v=.tuple #[.string fs1,.int .i64 fe]∧Below (wC.alloc (.cells #[.int .i64 x.info,.int .i64 n2] 3)).heap.size (wC.alloc (.cells #[.int .i64 x.info,.int .i64 n2] 3)) w') (by kernel_rfl) rfl rfl rfl ?xfbr ((HF2.out _ _ hTf hsl).mono (fun e w' ⟨he,hb⟩=>⟨_,he,rfl,hb⟩)) (fun v w' ⟨_,hb⟩=>hSD.keep hb) ?_
         case xfbr=>(go_simp;(try rfl))
         rintro _ wE ⟨rfl,hbE⟩;simp only [List.setIfInBounds_toArray,List.set_cons_zero,List.set_cons_succ];have hSE:=hSD.keep hbE;have HBE:=Lib.hid (bnext hbw hbE);refine reg_takes 5 [(13,129),(14,143),(15,144),(16,19),(17,20)] (by kernel_rfl) (by kernel_rfl) rfl (fun _ _ _ _ _ h=>h) hSE ?_
         iterate 5 (apply takes_cons rfl rfl;(· (intro w9 hSw;clear hSw;go_simp;(try with_reducible rfl)));simp only [List.setIfInBounds_toArray,List.set_cons_zero,List.set_cons_succ])
         refine takes_nil ?_;refine wpAnyH_done (by kernel_rfl) ?_ _;clear hSE hbE;go_wp2_with fail;go_meet;exact⟨rfl,rfl,HBE.out⟩
       case rest=>
        obtain⟨rfl,rfl,hbG⟩:=hcut;generalize wc=wG at hbG ⊢;have HNow4:=Lib.hid (And.intro (HNow3.out.1.keep hbG) (And.intro (bnext HNow3.out.2.1 hbG) (HNow3.out.2.2.keep hbG)));clear hbG;have HAl:=Lib.hid (fun w' (hb:Below wG.heap.size wG w')=>alike24_any (HNow4.out.1.y.keep hb) (HNow4.out.1.r.keep hb).r (HNow4.out.1.r.keep hb).cnt (HNow4.out.1.r.keep hb).dd HOk4.out.fine.ok HOk4.out.fine.pl (Nat.le_trans HOk4.out.many (by omega)));have hbd:Below wG.heap.size wG wG.drew:=(Below.refl _ _).drew;have hS0:=HNow4.out.2.2.keep hbd;have hnz:¬ 9223372036854775807<z.size+10:=by omega
        go_upto_region 20 with fail;refine wp_region_held_drew (S:=fun w'=>SNt w' w.heap.size bx yb zb (zo+i) #[.slice ma mn mc,.slice ia il ic,.int .i64 u,.int .i64 g,.string dt,.string pt,.string tx,.int .i64 no,.int .i64 now,.slice pa pn pc] x z) (by kernel_rfl) hS0 (fun hHeld=>?_);refine reg_takes 28 [(0,145),(1,146),(2,147),(3,148),(4,149),(5,150),(6,151),(7,152),(8,153),(9,154),(10,155),(11,156),(12,157),(13,158),(14,159),(15,160),(16,161),(17,162),(18,163),(19,164),(20,165),(21,166),(22,167),(24,169),(25,170),(26,171),(27,172),(28,173)] (by kernel_rfl) (by kernel_rfl) rfl (fun _ _ _ _ _ h=>h) hHeld ?_
        iterate 28 (apply takes_cons rfl rfl;(· (intro w9 hSw;have zc:=hSw.cz;clear hSw;go_simp;(try with_reducible rfl)));simp only [List.setIfInBounds_toArray,List.set_cons_zero,List.set_cons_succ])
        refine takes_nil ?_;refine reg_call 23 168 (R:=fun v w'=>v=.string (z ++ nSfx)∧wG.drew=w') (by kernel_rfl) rfl rfl rfl ?xf ((HFl.out wG.drew).mono (fun e w' ⟨he,hw⟩=>⟨_,he,rfl,hw⟩)) (fun v w' ⟨_,hw⟩=>by rw [←hw];exact hHeld) ?_
        case xf=>(go_simp;(try rfl))
        rintro _ _ ⟨rfl,rfl⟩;unfold nSfx;simp only [List.setIfInBounds_toArray,List.set_cons_zero,List.set_cons_succ];refine reg_takes 5 [(29,174),(30,175),(31,176),(32,177),(33,178)] (by kernel_rfl) (by kernel_rfl) rfl (fun _ _ _ _ _ h=>h) hHeld ?_
        iterate 5 (apply takes_cons rfl rfl;(· (intro w9 hSw;clear hSw;go_simp;(try with_reducible rfl)));simp only [List.setIfInBounds_toArray,List.set_cons_zero,List.set_cons_succ])
        refine takes_nil ?_;refine reg_call 34 179 (R:=fun v w'=>v=.bool true∧Below wG.drew.heap.size wG.drew w') (by kernel_rfl) rfl rfl rfl ?xg ((HAl.out _ hbd).mono (fun e w' ⟨he,hb⟩=>⟨_,he,rfl,hb⟩)) (fun v w' ⟨_,hb⟩=>hHeld.keep hb) ?_
        case xg=>(go_simp;(try rfl))
        rintro _ wH ⟨rfl,hbH⟩;simp only [List.setIfInBounds_toArray,List.set_cons_zero,List.set_cons_succ];have hSH:=hHeld.keep hbH;refine reg_takes 2 [(35,180),(36,181)] (by kernel_rfl) (by kernel_rfl) rfl (fun _ _ _ _ _ h=>h) hSH ?_
        iterate 2 (apply takes_cons rfl rfl;(· (intro w9 hSw;clear hSw;go_simp;(try with_reducible rfl)));simp only [List.setIfInBounds_toArray,List.set_cons_zero,List.set_cons_succ])
        refine takes_nil ?_;refine wpAnyH_done (by kernel_rfl) ?_ _;have hbW:=bnext hbd hbH;have HNow5:=Lib.hid (And.intro (HNow4.out.1.keep hbW) (And.intro (bnext HNow4.out.2.1 hbW) (HNow4.out.2.2.keep hbW)));clear hHeld hSH hbW hbH hbd hS0;go_wp2_with fail;go_roundw
        case measure=>simp [intOf];omega
        case rel=>exact ⟨i+1,R9,QA,Z5,by omega,by go_num,HOk4.out,HNow5.out.1,HNow5.out.2.1,HNow5.out.2.2.c,HNow5.out.2.2.cx,HNow5.out.2.2.cy⟩
    ·have hle:i=ln:=by omega
     subst hle;have HB9:=Lib.hid hb;clear hok hT hb hC hX hY;go_wp2_with fail;refine (HAw.out _).mono ?_;rintro e y2 ⟨rfl,hby2⟩;have HBy2:=Lib.hid (bnext HB9.out hby2);clear hby2;go_wp2_with fail;go_ret;exact⟨rfl,HBy2.out⟩
end
section
open Go.RowKit Go.ChangeShapes Go.WideShapes Go.ChangeAt
section
variable {H:Type} {enc:TypeId×Value→H} {w:World} {base:Nat} {spare:Nat→Bool} {held:Bool}
theorem trod_fields5 {P:Program} {t:TypeId} {fs:Array Field} {fuel:Nat} {cs:List Value} {x:DataW H×List MemPlace} (ht:P.underlying t=some (.struct fs)) (h:DataW.trod enc P w base spare held fuel t cs=some x) :
  cs.length=P.cellsOf t∧∃ n,∀ (i:Nat) (ty:TypeId) (off k:Nat) (l:List Value),(fs[i]?.map fun f=>(f.type,f.offset))=some (ty,off)→P.cellsOf ty=k→(cs.drop off).take k=l→∃ y,DataW.trod enc P w base spare held n ty l=some y:=by
 obtain⟨xs,n,-,-,h1,h2,h3⟩:=DataW.trod_struct ht h;refine ⟨h1,n,fun i ty off k l hf hk hl=>?_⟩;obtain⟨f,hf1,e⟩:=Option.map_eq_some_iff.1 hf;clear hf;injection e with e1 e2;subst e1 e2 hk hl;have hi:i<xs.length:=by
  rw [h2];exact (Array.getElem?_eq_some_iff.1 hf1).1
 exact⟨xs[i],by rw [h3 i f hf1,List.getElem?_eq_getElem hi]⟩
theorem trod_mt {fuel:Nat} {cs:List Value} {x:DataW H×List MemPlace} (h:DataW.trod enc Tryz.prog w base spare held fuel 114 cs=some x):∃ y:Mt,mtR cs y:=by
 obtain⟨h1,n,h2⟩:=trod_fields5 Tryz.underlying114 h;have hc:Tryz.prog.cellsOf 114=3:=by kernel_rfl
 have c1:Tryz.prog.cellsOf 9=1:=by kernel_rfl
 have c2:Tryz.prog.cellsOf 3=1:=by kernel_rfl
 rw [hc] at h1
 match cs,h1 with
 | [a0,a1,a2],_=>
  obtain⟨y0,k0⟩:=h2 0 9 0 1 [a0] rfl c1 rfl;obtain⟨y1,k1⟩:=h2 1 3 1 1 [a1] rfl c2 rfl;obtain⟨y2,k2⟩:=h2 2 3 2 1 [a2] rfl c2 rfl;obtain⟨s,e0,-⟩:=trod_str Tryz.underlying9 k0;obtain⟨n1,e1,-⟩:=trod_i64 Tryz.underlying3 k1;obtain⟨n2,e2,-⟩:=trod_i64 Tryz.underlying3 k2;simp at e0 e1 e2;subst e0 e1 e2;exact⟨⟨s,n1,n2⟩,rfl⟩
theorem trod_it {fuel:Nat} {cs:List Value} {x:DataW H×List MemPlace} (h:DataW.trod enc Tryz.prog w base spare held fuel 116 cs=some x):∃ y:It,itR cs y:=by
 obtain⟨h1,n,h2⟩:=trod_fields5 Tryz.underlying116 h;have hc:Tryz.prog.cellsOf 116=7:=by kernel_rfl
 have c1:Tryz.prog.cellsOf 9=1:=by kernel_rfl
 have c2:Tryz.prog.cellsOf 3=1:=by kernel_rfl
 rw [hc] at h1
 match cs,h1 with
 | [a0,a1,a2,a3,a4,a5,a6],_=>
  obtain⟨y0,k0⟩:=h2 0 9 0 1 [a0] rfl c1 rfl;obtain⟨y1,k1⟩:=h2 1 3 1 1 [a1] rfl c2 rfl;obtain⟨y2,k2⟩:=h2 2 3 2 1 [a2] rfl c2 rfl;obtain⟨y3,k3⟩:=h2 3 3 3 1 [a3] rfl c2 rfl;obtain⟨y4,k4⟩:=h2 4 3 4 1 [a4] rfl c2 rfl;obtain⟨y5,k5⟩:=h2 5 3 5 1 [a5] rfl c2 rfl;obtain⟨y6,k6⟩:=h2 6 9 6 1 [a6] rfl c1 rfl;obtain⟨s,e0,-⟩:=trod_str Tryz.underlying9 k0;obtain⟨n1,e1,-⟩:=trod_i64 Tryz.underlying3 k1;obtain⟨n2,e2,-⟩:=trod_i64 Tryz.underlying3 k2;obtain⟨n3,e3,-⟩:=trod_i64 Tryz.underlying3 k3;obtain⟨n4,e4,-⟩:=trod_i64 Tryz.underlying3 k4;obtain⟨n5,e5,-⟩:=trod_i64 Tryz.underlying3 k5;obtain⟨s6,e6,-⟩:=trod_str Tryz.underlying9 k6;simp at e0 e1 e2 e3 e4 e5 e6;subst e0 e1 e2 e3 e4 e5 e6;exact⟨⟨s,n1,n2,n3,n4,n5,s6⟩,rfl⟩
theorem trod_seed {fuel:Nat} {cs:List Value} {x:DataW H×List MemPlace} (h:DataW.trod enc Tryz.prog w base spare held fuel 25 cs=some x) :
  ∃ ma mn mc ia il ic ms is,cs=[.slice ma mn mc,.slice ia il ic]∧SdAt w ma mn mc ia il ic ms is:=by
 obtain⟨h1,n,h2⟩:=trod_fields5 Tryz.underlying25 h;have hc:Tryz.prog.cellsOf 25=2:=by kernel_rfl
 have c1:Tryz.prog.cellsOf 22=1:=by kernel_rfl
 have c2:Tryz.prog.cellsOf 23=1:=by kernel_rfl
 rw [hc] at h1
 match cs,h1 with
 | [a0,a1],_=>
  obtain⟨y0,k0⟩:=h2 0 22 0 1 [a0] rfl c1 rfl;obtain⟨y1,k1⟩:=h2 1 23 1 1 [a1] rfl c2 rfl;obtain⟨ma,mn,mc,ms,e0,hm⟩:=open_sl (R:=mtR) (sz:=3) Tryz.underlying22 (by kernel_rfl) (by decide) (fun fuel cs x h=>trod_mt h) k0;obtain⟨ia,il,ic,is,e1,hi⟩:=open_sl (R:=itR) (sz:=7) Tryz.underlying23 (by kernel_rfl) (by decide) (fun fuel cs x h=>trod_it h) k1;simp at e0 e1;subst e0 e1;exact⟨ma,mn,mc,ia,il,ic,ms,is,rfl,⟨hm,hi⟩⟩
end
end
section
open Go.RowKit Go.ChangeShapes Go.WideShapes Go.ChangeAt
section
variable {H:Type} {enc:TypeId×Value→H} {w:World} {base:Nat} {spare:Nat→Bool} {held:Bool}
theorem trod_flt {fuel:Nat} {cs:List Value} {x:DataW H×List MemPlace} (h:DataW.trod enc Tryz.prog w base spare held fuel 242 cs=some x):∃ y:Int×Int,fltR cs y:=by
 obtain⟨h1,n,h2⟩:=trod_fields5 Tryz.underlying242 h;have hc:Tryz.prog.cellsOf 242=2:=by kernel_rfl
 have c1:Tryz.prog.cellsOf 3=1:=by kernel_rfl
 have c2:Tryz.prog.cellsOf 39=1:=by kernel_rfl
 rw [hc] at h1
 match cs,h1 with
 | [a0,a1],_=>
  obtain⟨y0,k0⟩:=h2 0 3 0 1 [a0] rfl c1 rfl;obtain⟨y1,k1⟩:=h2 1 39 1 1 [a1] rfl c2 rfl;obtain⟨n0,e0,-⟩:=trod_i64 Tryz.underlying3 k0;obtain⟨n1,e1,-⟩:=trod_i64 Tryz.underlying39 k1;simp at e0 e1;subst e0 e1;exact⟨(n0,n1),rfl⟩
end
end
end Go.Proofs.YtihdbncoijhihaaGreat
