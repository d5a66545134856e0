import Derived.Test.YtihdbncoijhihaaGreatDoorSN31
import Derived.Test.YtihdbncoijhihaaGreatDoorSN32
import Derived.Test.YtihdbncoijhihaaGreatDoorSN19
import Derived.Test.YtihdbncoijhihaaGreatDoorSN21
import Derived.Test.YtihdbncoijhihaaGreatDoorSN15
set_option linter.unusedVariables false
set_option linter.unusedSimpArgs false
set_option maxRecDepth 100000
set_option maxHeartbeats 16000000
namespace Go.Proofs.YtihdbncoijhihaaGreatDoor
section
open Go.RowKit Go.Shelf
attribute [local go_sem] Oper.semAt_some
def few24 (ms:List Mt) (is:List It) (nm:ByteArray) (pl:List (Int×Int)):Bool:=decide (few22 ms is 30=true∧nm.size≤300∧pl.length≤4)
theorem few24_of {ms:List Mt} {is:List It} {nm:ByteArray} {pl:List (Int×Int)} (h:few24 ms is nm pl=true):few22 ms is 30=true∧nm.size≤300∧pl.length≤4:=of_decide_eq_true h
section
variable {w w':World} {pf pw:Nat} {R:Rp} {pv:Value} {Y:Sy}
theorem splan2_any (h:SyAt w pf pw R pv Y) {a:Option Addr} {n c:Nat} {l:List (Int×Int)} (hl1:SliceAt (w.setCell ⟨pf,2,none⟩ (.int .i64 0)) 2 fltR a n c l) (hn:l.length≤1000000) :
  Calls Tryz.prog 73 #[.pointer (some ⟨pf,0,none⟩),.slice a n c] w fun e w'=>e=.returned (.tuple #[])∧∃ pv',SyAt w' pf pw R pv' {Y with count:=0,plan:=l}∧Mod (fun k=>k=pf) w w':=by
 have HN:=Lib.hid (snone_any h);have HY:=Lib.hid h;obtain⟨v,W,hrun,hown,hbW⟩:=flt_app hl1 hn;obtain⟨a1,c1,rfl,-,-,-⟩:=own_form hown;have hB1:=h.blk.set 2 (.int .i64 0);have hBW:=hB1.keep hbW;have HR:=Lib.hid hrun;have HX:=Lib.hid (And.intro hown (And.intro hbW hBW));obtain⟨pc,pf',pz⟩:=h.blk.facts;obtain⟨qc,qf,qz⟩:=hBW.facts;clear h hl1 hrun hown hbW hB1 hBW;go_enter Tryz.func73,Tryz.ntmps73;go_wp2_with (first | (go_at_call 144;((with_reducible refine HN.out.mono ?_);rintro e w1 ⟨rfl,rfl⟩)) | (at_builtin;refine wpList_app_run rfl rfl rfl rfl HR.out ?_))
 go_end0
 obtain⟨hown,hbW,hBW⟩:=HX.out;have hm1:=(Mod.refl (fun k=>k=pf) w).setCell (a:=⟨pf,2,none⟩) (.inl rfl) (.int .i64 0);have hm:=(hm1.trans (Mod.of_below hbW)).setCell (a:=⟨pf,3,none⟩) (.inl rfl) (.slice a1 l.length c1);have hlt:pf<(w.setCell ⟨pf,2,none⟩ (.int .i64 0)).heap.size:=by simpa [World.setCell] using HY.out.blk.lt
 refine ⟨rfl,.slice a1 l.length c1,⟨hBW.set 3 _,HY.out.wd.mod hm (fun k o hk ho=>?_),?_⟩,hm⟩
 ·subst hk;have hb:=HY.out.blk;unfold Blk at hb;rw [hb] at ho;injection ho with ho;subst ho;exact⟨rfl,fun cur e=>by cases e⟩
 ·refine own_low (own_mod hown ((Mod.refl (fun k=>k=pf) W).setCell (a:=⟨pf,3,none⟩) (.inl rfl) _) (fun k hk he=>?_)) (Nat.zero_le _);subst hk;have:=(own_obj1 hown he).1;omega
end
theorem RfAt.setPl {w:World} {pf:Nat} {R:Rf} {S:Fs} (h:RfAt w pf R S) (v:Value):RfAt (w.setCell ⟨pf,5,none⟩ v) pf {R with pl:=v} S:=by
 have hm:Mod (fun k=>k=pf) w (w.setCell ⟨pf,5,none⟩ v):=(Mod.refl (fun k=>k=pf) w).setCell (a:=⟨pf,5,none⟩) (.inl rfl) _;have hM:Mod (R.F pf) w (w.setCell ⟨pf,5,none⟩ v):=hm.mono (fun k hk=>.inl hk);refine ⟨h.blk.set 5 _,own_mod h.nds hm (fun k hk e=>?_),own_mod h.devs hm (fun k hk e=>?_),h.ns,fun x hx=>(h.ents x hx).rf h (Stp.of_mod hM)⟩
 ·obtain ⟨-,hc⟩:=own_obj1 h.nds e;exact rf_apart hc h.blk (by decide) hk.symm
 ·obtain ⟨-,hc⟩:=own_obj1 h.devs e;exact rf_apart hc h.blk (by decide) hk.symm
structure Both (w0 w:World) (S:Fs) (pl:List (Int×Int)) (vp:Value) (p1 q1:Nat) (R1:Rp) (v1:Value) (pf:Nat) (R2:Rf):Prop where
 y:SyAt w p1 q1 R1 v1 ⟨S,0,0,pl,false⟩
 r:RfAt w pf R2 S
 now:R2.now=0
 cnt:R2.cnt=.int .i64 0
 plan:R2.pl=vp
 dd:R2.dd=.bool false
 f1:∀ k,R1.Y p1 q1 k→w0.heap.size≤k
 f2:∀ k,R2.F pf k→w0.heap.size≤k
 below:Below w0.heap.size w0 w
theorem both24_any (w:World) {ma:Option Addr} {mn mc:Nat} {ia:Option Addr} {il ic:Nat} {ms:List Mt} {is:List It} (h:SdAt w ma mn mc ia il ic ms is) (u g at' to':Int) (nm:ByteArray) {pa:Option Addr} {pn pc:Nat} {pl:List (Int×Int)} (hpl:SliceAt w 2 fltR pa pn pc pl) (ke:Bool) (hf:few24 ms is nm pl=true) :
  Calls Tryz.prog 11 #[.agg #[.slice ma mn mc,.slice ia il ic,.int .i64 u,.int .i64 g,.int .i64 at',.int .i64 to',.string nm,.slice pa pn pc,.bool ke]] w fun e w'=>∃ p1 q1 R1 v1 pf R2,e=.returned (.tuple #[.pointer (some ⟨p1,0,none⟩),.pointer (some ⟨pf,0,none⟩)])∧Both w w' (plantF ms is) pl (.slice pa pn pc) p1 q1 R1 v1 pf R2:=by
 obtain⟨hf2,-,hp4⟩:=few24_of hf;obtain⟨hm10,hi30,hmp,hip⟩:=few22_of hf2;have hil:is.length≤30:=by omega
 have hM:∀ m∈ms,m.path.size≤100000:=fun m hm=>Nat.le_trans (hmp m hm) (by omega);have hI:∀ x∈is,x.path.size≤100000∧x.data.size≤100000:=fun x hx=>by
  have:=hip x hx;omega
 have hX:=Blk.new w #[.slice ma mn mc,.slice ia il ic,.int .i64 u,.int .i64 g,.int .i64 at',.int .i64 to',.string nm,.slice pa pn pc,.bool ke] 30;have hbX:=balloc (Below.refl w.heap.size w) (.cells #[.slice ma mn mc,.slice ia il ic,.int .i64 u,.int .i64 g,.int .i64 at',.int .i64 to',.string nm,.slice pa pn pc,.bool ke] 30);have HS:=Lib.hid h;have HQ:=Lib.hid hpl;have HL4:=Lib.hid hp4;obtain⟨S,hS⟩:∃ S,plantF ms is=S:=⟨_,rfl⟩;rw [hS];clear h hpl hf hf2 hp4 hmp hip;go_enter Tryz.func11,Tryz.ntmps11;go_upto_region 1 with fail;generalize w.alloc (.cells #[.slice ma mn mc,.slice ia il ic,.int .i64 u,.int .i64 g,.int .i64 at',.int .i64 to',.string nm,.slice pa pn pc,.bool ke] 30)=w1 at hX hbX ⊢;have HBw:=Lib.hid hbX;have HX:=Lib.hid hX;obtain⟨bc,bf,bz⟩:=hX.facts;have HP1:=Lib.hid (fun wr (hb:Below w1.heap.size w1 wr)=>plant_any wr (HS.out.keep (HBw.out.trans (hb.mono HBw.out.size))) (by omega) (by omega) hM hI);have HP2:=Lib.hid (fun wr (hb:Below w1.heap.size w1 wr)=>(rplant22K_any wr (HS.out.keep (HBw.out.trans (hb.mono HBw.out.size))) (by omega) (by omega) hM hI).mono
  (fun e w' ⟨pf,R,h1,h2,h3,h4,h5⟩=>(⟨pf,R,h1,h2,fun k hk=>Nat.le_trans hb.size (h3 k hk),h4,h5⟩:∃ pf R,e=Ending.returned (.pointer (some ⟨pf,0,none⟩))∧RfAt w' pf R (plantF ms is)∧(∀ k,R.F pf k→w1.heap.size≤k)∧Rf.Like rf0 R∧Below wr.heap.size wr w')))
 rw [hS] at HP1 HP2;clear hX hbX hm10 hil hM hI hi30
 go_cut [4,5] (fun t4 t5 wx=>∃ p1 q1 R1 v1 pf R2,t4=.pointer (some ⟨p1,0,none⟩)∧t5=.pointer (some ⟨pf,0,none⟩)∧SyAt wx p1 q1 R1 v1 ⟨S,0,0,[],false⟩∧(∀ k,R1.Y p1 q1 k→w1.heap.size≤k)∧RfAt wx pf R2 S∧(∀ k,R2.F pf k→w1.heap.size≤k)∧Rf.Like rf0 R2∧Below w1.heap.size w1 wx)
 case first=>
  go_region_held3 (fun w'=>(∀ b o,b<w1.heap.size→w'.cell? ⟨b,o,none⟩=w1.cell? ⟨b,o,none⟩)∧Below w1.heap.size w1 w') (first | with_reducible assumption | with_reducible exact keepS_here _ | with_reducible exact keepS_here2 _ | with_reducible exact keepS_call (by assumption) (by assumption) | with_reducible exact keepS_alloc (by assumption) _ | with_reducible exact keepS_allocD (by assumption) _ | with_reducible exact keepS_realloc (by assumption) (by assumption) | with_reducible exact keepS_set4 (by assumption) (by assumption))
   ((first
    | (go_at_call 71;((with_reducible refine (HP1.out _ (And.right (by assumption))).mono ?_);rintro e w4 ⟨p1,q1,R1,v1,Y1,rfl,hY1,rfl,hf1,hb4⟩;have HY1:=Lib.hid (And.intro hY1 hf1);clear hY1 hf1))
    | (go_at_call 72;((with_reducible refine (HP2.out _ (And.right (by assumption))).mono ?_);rintro e w5 ⟨pf,R2,rfl,hR2,hf2,hlk,hb5⟩;have HY2:=Lib.hid (And.intro (HY1.out.1.keep hb5) (And.intro hR2 (And.intro hf2 hlk)));clear hR2 hf2 hlk))))
  all_goals
   have hbz:Below w1.heap.size w1 w5:=And.right (by assumption);have HBZ:=Lib.hid hbz;go_wp2_with fail;go_meet;exact⟨p1,q1,R1,v1,pf,R2,rfl,rfl,HY2.out.1,HY1.out.2,HY2.out.2.1,HY2.out.2.2.1,HY2.out.2.2.2,HBZ.out⟩
 case rest=>
  obtain⟨p1,q1,R1,v1,pf,R2,rfl,rfl,hY1,hf1,hR2,hf2,hlk,hbw⟩:=hcut;generalize wc=wb at hY1 hR2 hbw ⊢;have hbw0:=HBw.out.trans (hbw.mono HBw.out.size);have hp1w:w1.heap.size≤p1:=hf1 p1 (.inl rfl);have hpfw:w1.heap.size≤pf:=hf2 pf (.inl rfl);have hw1:w.heap.size≤w1.heap.size:=HBw.out.size;have hne:p1≠pf:=by
   rintro rfl;have h1:=hY1.blk;have h2:=hR2.blk;unfold Blk at h1 h2;rw [h1] at h2;injection h2 with h2;injection h2 with e1 e2 e3;revert e2;decide
  have HXb:=Lib.hid (HX.out.keep hbw);have HPn:=Lib.hid (splan2_any hY1 (HQ.out.below (hbw0.trans ⟨rfl,rfl,rfl,by simp,fun k hk=>Below.heap_setCell _ _ _ k (by simp only;omega)⟩) (Nat.le_refl _)) (by have:=HL4.out;omega));obtain⟨cc,cf,cz⟩:=(HX.out.keep hbw).facts;have HZ:=Lib.hid (And.intro hf1 (And.intro hf2 (And.intro hlk (And.intro hR2 (And.intro hY1 hbw0)))));clear hY1 hf1 hR2 hf2 hlk hbw hbw0 bc bf bz;go_wp2_with fail;refine HPn.out.mono ?_;rintro e w2 ⟨rfl,pv',hY2,hm2⟩;obtain⟨hf1,hf2,hlk,hR2,hY1,hbw0⟩:=HZ.out;have hR3:RfAt w2 pf R2 S:=hR2.mod hm2 (fun k o hk ho=>by
   subst hk;have h1:=hY1.blk;unfold Blk at h1;rw [h1] at ho;injection ho with ho;subst ho;exact⟨rfl,fun cur e=>by injection e with e1 e2;revert e2;decide⟩)
  have hX3:=HXb.out.mod hm2 (show ¬ w.heap.size=p1 by have:=HX.out.lt;omega);obtain⟨dc,df,dz⟩:=hX3.facts;obtain⟨gc,gf,gz⟩:=hR3.blk.facts;have HT:=Lib.hid (And.intro hY2 (And.intro hR3 hm2));clear hf1 hf2 hlk hR2 hY1 hbw0 hY2 hR3 hm2 hX3 cc cf cz;go_wp2_with fail;go_ret2;obtain⟨hf1,hf2,hlk,-,-,hbw0⟩:=HZ.out;obtain⟨hY2,hR3,hm2⟩:=HT.out;have hm3:Mod (fun k=>k=pf) w2 (w2.setCell ⟨pf,5,none⟩ (.slice pa pn pc)):=(Mod.refl (fun k=>k=pf) w2).setCell (a:=⟨pf,5,none⟩) (.inl rfl) _;have hl2:=hm2.size;have hl3:=hm3.size;have hwb:=hbw0.size;refine ⟨p1,q1,R1,pv',pf,{R2 with pl:=.slice pa pn pc},rfl,⟨hY2.other hR3.blk rfl (by decide) (by decide) (by decide) hm3,hR3.setPl _,hlk.now,hlk.cnt,rfl,hlk.dd,fun k hk=>Nat.le_trans hw1 (hf1 k hk),fun k hk=>Nat.le_trans hw1 (hf2 k hk),?_⟩⟩;exact hbw0.trans ((hm2.below (fun k hk=>by omega) hwb).trans (hm3.below (fun k hk=>by omega) (by omega)))
end
section
open Go.RowKit Go.Shelf
attribute [local go_sem] Oper.semAt_some
def few30 (ms:List Mt) (is:List It) (dt pt tx:ByteArray) (pl:List (Int×Int)):Bool:=decide (few22 ms is 30=true∧dt.size≤300∧pt.size≤300∧tx.size≤300∧pl.length≤4)
theorem few30_of {ms:List Mt} {is:List It} {dt pt tx:ByteArray} {pl:List (Int×Int)} (h:few30 ms is dt pt tx pl=true):few22 ms is 30=true∧dt.size≤300∧pt.size≤300∧tx.size≤300∧pl.length≤4:=of_decide_eq_true h
theorem few30_any (w:World) {ma:Option Addr} {mn mc:Nat} {ia:Option Addr} {il ic:Nat} {ms:List Mt} {is:List It} (h:SdAt w ma mn mc ia il ic ms is) (u g:Int) (dt pt tx:ByteArray) (no now:Int) {pa:Option Addr} {pn pc:Nat} {pl:List (Int×Int)} (hpl:pl.length=pn) :
  Calls Tryz.prog 23 #[.agg #[.slice ma mn mc,.slice ia il ic,.int .i64 u,.int .i64 g,.string dt,.string pt,.string tx,.int .i64 no,.int .i64 now,.slice pa pn pc]] w fun e w'=>e=.returned (.bool (few30 ms is dt pt tx pl))∧Below w.heap.size w w':=by
 have hB:=Blk.new w #[.slice ma mn mc,.slice ia il ic,.int .i64 u,.int .i64 g,.string dt,.string pt,.string tx,.int .i64 no,.int .i64 now,.slice pa pn pc] 72;have hb:=balloc (Below.refl w.heap.size w) (.cells #[.slice ma mn mc,.slice ia il ic,.int .i64 u,.int .i64 g,.string dt,.string pt,.string tx,.int .i64 no,.int .i64 now,.slice pa pn pc] 72);have HF:=Lib.hid (few22_any _ (h.keep ((Below.refl _ w).alloc (Nat.le_refl _) (.cells #[.slice ma mn mc,.slice ia il ic,.int .i64 u,.int .i64 g,.string dt,.string pt,.string tx,.int .i64 no,.int .i64 now,.slice pa pn pc] 72))) 30);have HE:=Lib.hid (show few30 ms is dt pt tx pl=decide (few22 ms is 30=true∧dt.size≤300∧pt.size≤300∧tx.size≤300∧pl.length≤4) from rfl);rw [hpl] at HE;generalize few30 ms is dt pt tx pl=fb at HE ⊢;clear h hpl;go_enter Tryz.func23,Tryz.ntmps23;go_wp2_with fail;refine HF.out.mono ?_;rintro e w1 ⟨rfl,hb1⟩;have hB1:=hB.keep hb1;have HB:=Lib.hid (bnext hb hb1);obtain⟨bc,bf,bz⟩:=hB1.facts;clear hB hb hb1 hB1
 cases hf:few22 ms is 30 with
 | false=>
  rw [hf] at HE;have HG:=Lib.hid (show fb=false by rw [HE.out];simp);clear hf;go_wp2_with fail;go_ret;exact⟨by rw [HG.out];(try rfl),HB.out⟩
 | true=>
  rw [hf] at HE;clear hf;by_cases h1:dt.size≤300
  ·have h1':(dt.size:Int)≤300:=by omega
   by_cases h2:pt.size≤300
   ·have h2':(pt.size:Int)≤300:=by omega
    by_cases h3:tx.size≤300
    ·have h3':(tx.size:Int)≤300:=by omega
     by_cases hp:pn≤4
     ·have hp1:(pn:Int)≤4:=by omega
      have HG:=Lib.hid (show fb=true by rw [HE.out];simp [h1,h2,h3,hp]);go_wp2_with fail;go_ret;exact⟨by rw [HG.out];(try rfl),HB.out⟩
     ·have hp1:¬ (pn:Int)≤4:=by omega
      have HD:=Lib.hid (decide_eq_false hp1);have HG:=Lib.hid (show fb=false by rw [HE.out];simp [h1,h2,h3,hp]);go_wp2_with fail;go_ret;refine ⟨?_,HB.out⟩;rw [HG.out];show Ending.returned (.bool (decide ((pn:Int)≤4)))=_;rw [HD.out]
    ·have h3':¬ (tx.size:Int)≤300:=by omega
     have HG:=Lib.hid (show fb=false by rw [HE.out];simp [h3]);go_wp2_with fail;go_ret;exact⟨by rw [HG.out];(try rfl),HB.out⟩
   ·have h2':¬ (pt.size:Int)≤300:=by omega
    have HG:=Lib.hid (show fb=false by rw [HE.out];simp [h2]);go_wp2_with fail;go_ret;exact⟨by rw [HG.out];(try rfl),HB.out⟩
  ·have h1':¬ (dt.size:Int)≤300:=by omega
   have HG:=Lib.hid (show fb=false by rw [HE.out];simp [h1]);go_wp2_with fail;go_ret;exact⟨by rw [HG.out];(try rfl),HB.out⟩
section
variable {w w':World} {pf pw:Nat} {R:Rp} {pv:Value} {Y:Sy}
theorem stick_any (h:SyAt w pf pw R pv Y) (hy:0≤Y.now) (n:Int) (h0:0≤n) (h1:n≤253402300799 - Y.now) :
  Calls Tryz.prog 94 #[.pointer (some ⟨pf,0,none⟩),.int .i64 n] w fun e w'=>e=.returned (.int .i64 0)∧SyAt w' pf pw R pv {Y with now:=Y.now+n}∧Mod (fun k=>k=pf) w w':=by
 have HN:=Lib.hid (snone_any h);have HY:=Lib.hid h;obtain⟨pc,pf',pz⟩:=h.blk.facts;have hw:IntKind.i64.wrap (Y.now+n)=Y.now+n:=by simp [IntKind.wrap,IntKind.bits,IntKind.signed];omega
 have hw2:IntKind.i64.wrap (253402300799 - Y.now)=253402300799 - Y.now:=by simp [IntKind.wrap,IntKind.bits,IntKind.signed];omega
 have h2:¬ n<0:=by omega
 have h3:¬ 253402300799 - Y.now<n:=by omega
 clear h;go_enter Tryz.func94,Tryz.ntmps94;go_wp2_with fail;refine HN.out.mono ?_;rintro e w1 ⟨rfl,rfl⟩;go_wp2_with fail;go_ret;exact⟨rfl,HY.out.turnF ((Mod.refl (fun k=>k=pf) w).setCell (a:=⟨pf,1,none⟩) (.inl rfl) _) rfl rfl (HY.out.blk.set 1 _),(Mod.refl (fun k=>k=pf) w).setCell (a:=⟨pf,1,none⟩) (.inl rfl) _⟩
end
theorem RfAt.setNow {w:World} {pf:Nat} {R:Rf} {S:Fs} (h:RfAt w pf R S) (v:Int):RfAt (w.setCell ⟨pf,3,none⟩ (.int .i64 v)) pf {R with now:=v} S:=by
 have hm:Mod (fun k=>k=pf) w (w.setCell ⟨pf,3,none⟩ (.int .i64 v)):=(Mod.refl (fun k=>k=pf) w).setCell (a:=⟨pf,3,none⟩) (.inl rfl) _;have hM:Mod (R.F pf) w (w.setCell ⟨pf,3,none⟩ (.int .i64 v)):=hm.mono (fun k hk=>.inl hk);refine ⟨h.blk.set 3 _,own_mod h.nds hm (fun k hk e=>?_),own_mod h.devs hm (fun k hk e=>?_),h.ns,fun x hx=>(h.ents x hx).rf h (Stp.of_mod hM)⟩
 ·obtain ⟨-,hc⟩:=own_obj1 h.nds e;exact rf_apart hc h.blk (by decide) hk.symm
 ·obtain ⟨-,hc⟩:=own_obj1 h.devs e;exact rf_apart hc h.blk (by decide) hk.symm
def nowI (n:Int):Int:=if 0≤n∧n≤253402300799 then n else 0
structure Both30 (w0 w:World) (S:Fs) (nw:Int) (pl:List (Int×Int)) (vp:Value) (p1 q1:Nat) (R1:Rp) (v1:Value) (pf:Nat) (R2:Rf):Prop where
 y:SyAt w p1 q1 R1 v1 ⟨S,nw,0,pl,false⟩
 r:RfAt w pf R2 S
 now:R2.now=nw
 cnt:R2.cnt=.int .i64 0
 plan:R2.pl=vp
 dd:R2.dd=.bool false
 f1:∀ k,R1.Y p1 q1 k→w0.heap.size≤k
 f2:∀ k,R2.F pf k→w0.heap.size≤k
 below:Below w0.heap.size w0 w
theorem both30_any (w:World) {ma:Option Addr} {mn mc:Nat} {ia:Option Addr} {il ic:Nat} {ms:List Mt} {is:List It} (h:SdAt w ma mn mc ia il ic ms is) (u g:Int) (dt pt tx:ByteArray) (no now:Int) {pa:Option Addr} {pn pc:Nat} {pl:List (Int×Int)} (hpl:SliceAt w 2 fltR pa pn pc pl) (hf:few30 ms is dt pt tx pl=true) :
  Calls Tryz.prog 25 #[.agg #[.slice ma mn mc,.slice ia il ic,.int .i64 u,.int .i64 g,.string dt,.string pt,.string tx,.int .i64 no,.int .i64 now,.slice pa pn pc]] w fun e w'=>∃ p1 q1 R1 v1 pf R2,e=.returned (.tuple #[.pointer (some ⟨p1,0,none⟩),.pointer (some ⟨pf,0,none⟩)])∧Both30 w w' (plantF ms is) (nowI now) pl (.slice pa pn pc) p1 q1 R1 v1 pf R2:=by
 obtain⟨hf2,-,-,-,hp4⟩:=few30_of hf;have hf24:few24 ms is ⟨#[]⟩ pl=true:=decide_eq_true ⟨hf2,by decide,hp4⟩;have hX:=Blk.new w #[.slice ma mn mc,.slice ia il ic,.int .i64 u,.int .i64 g,.string dt,.string pt,.string tx,.int .i64 no,.int .i64 now,.slice pa pn pc] 72;have hbX:=balloc (Below.refl w.heap.size w) (.cells #[.slice ma mn mc,.slice ia il ic,.int .i64 u,.int .i64 g,.string dt,.string pt,.string tx,.int .i64 no,.int .i64 now,.slice pa pn pc] 72);have HBo:=Lib.hid (both24_any _ (h.keep ((Below.refl _ w).alloc (Nat.le_refl _) (.cells #[.slice ma mn mc,.slice ia il ic,.int .i64 u,.int .i64 g,.string dt,.string pt,.string tx,.int .i64 no,.int .i64 now,.slice pa pn pc] 72))) 0 0 0 0 ⟨#[]⟩ (SliceAt.below hpl ((Below.refl _ w).alloc (Nat.le_refl _) (.cells #[.slice ma mn mc,.slice ia il ic,.int .i64 u,.int .i64 g,.string dt,.string pt,.string tx,.int .i64 no,.int .i64 now,.slice pa pn pc] 72)) (Nat.le_refl _)) false hf24);generalize plantF ms is=S at HBo ⊢;clear h hpl hf hf2 hp4 hf24;go_enter Tryz.func25,Tryz.ntmps25;go_upto_region 1 with fail;generalize w.alloc (.cells #[.slice ma mn mc,.slice ia il ic,.int .i64 u,.int .i64 g,.string dt,.string pt,.string tx,.int .i64 no,.int .i64 now,.slice pa pn pc] 72)=w1 at hX hbX HBo ⊢;have HX:=Lib.hid hX;have HB1:=Lib.hid hbX;obtain⟨xc,xf,xz⟩:=hX.facts;clear hX hbX;go_wp2_with fail;refine HBo.out.mono ?_;rintro e w2 ⟨p1,q1,R1,v1,pf,R2,rfl,hBo⟩;have HB:=Lib.hid hBo;have HX2:=Lib.hid (HX.out.keep hBo.below);have hs1:=HB1.out.size;have HW:=Lib.hid (HB1.out.trans (hBo.below.mono hs1));clear hBo xc xf xz;obtain⟨xc,xf,xz⟩:=HX2.out.facts;by_cases hn:0≤now∧now≤253402300799
 ·obtain ⟨h0,h1⟩:=hn;have HE:=Lib.hid (show nowI now=now from if_pos ⟨h0,h1⟩);have HT:=Lib.hid (stick_any HB.out.y (Int.le_refl 0) now h0 (by show now≤253402300799 - 0;omega));dsimp only at HT;have hz:(0:Int)+now=now:=by omega
  rw [hz] at HT;go_wp2_with fail;refine HT.out.mono ?_;rintro e w3 ⟨rfl,hY3,hm3⟩;have hne:p1≠pf:=by
   rintro rfl;have h1:=HB.out.y.blk;have h2:=HB.out.r.blk;unfold Blk at h1 h2;rw [h1] at h2;injection h2 with h2;injection h2 with e1 e2 e3;revert e2;decide
  have hR3:RfAt w3 pf R2 S:=HB.out.r.mod hm3 (fun k o hk ho=>by
   subst hk;have h1:=HB.out.y.blk;unfold Blk at h1;rw [h1] at ho;injection ho with ho;subst ho;exact⟨rfl,fun cur e=>by injection e with e1 e2;revert e2;decide⟩)
  have hX3:=HX2.out.mod hm3 (show ¬ w.heap.size=p1 by have:=HX.out.lt;have:=HB.out.f1 p1 (.inl rfl);omega);have HY:=Lib.hid (And.intro hY3 (And.intro hR3 hm3));obtain⟨gc,gf,gz⟩:=hR3.blk.facts;clear hY3 hm3 hR3 xc xf xz;obtain⟨xc,xf,xz⟩:=hX3.facts;clear hX3;go_wp2_with fail;go_ret2;rw [HE.out];have hm4:Mod (fun k=>k=pf) w3 (w3.setCell ⟨pf,3,none⟩ (.int .i64 now)):=(Mod.refl (fun k=>k=pf) w3).setCell (a:=⟨pf,3,none⟩) (.inl rfl) _;have hp1:=HB.out.f1 p1 (.inl rfl);have hpf:=HB.out.f2 pf (.inl rfl);have hs2:=HB.out.below.size;have hs3:=HY.out.2.2.size;have hsw:=HB1.out.size;refine ⟨p1,q1,R1,v1,pf,{R2 with now:=now},rfl,⟨HY.out.1.other HY.out.2.1.blk rfl (by decide) (by decide) (by decide) hm4,HY.out.2.1.setNow now,rfl,HB.out.cnt,HB.out.plan,HB.out.dd,fun k hk=>Nat.le_trans hsw (HB.out.f1 k hk),fun k hk=>Nat.le_trans hsw (HB.out.f2 k hk),?_⟩⟩;exact HW.out.trans ((HY.out.2.2.below (fun k hk=>by omega) (by omega)).trans (hm4.below (fun k hk=>by omega) (by omega)))
 ·have HE:=Lib.hid (show nowI now=0 from if_neg hn);have hfin:Both30 w w2 S (nowI now) pl (.slice pa pn pc) p1 q1 R1 v1 pf R2:=by
   rw [HE.out];exact⟨HB.out.y,HB.out.r,HB.out.now,HB.out.cnt,HB.out.plan,HB.out.dd,fun k hk=>Nat.le_trans hs1 (HB.out.f1 k hk),fun k hk=>Nat.le_trans hs1 (HB.out.f2 k hk),HW.out⟩
  have HFin:=Lib.hid hfin;clear hfin;by_cases h0:0≤now
  ·have h1:¬ now≤253402300799:=fun h=>hn ⟨h0,h⟩;clear hn;go_wp2_with fail;go_ret2
   first | exact ⟨p1,q1,R1,v1,pf,R2,rfl,HFin.out⟩ | exact ⟨p1,q1,R1,v1,pf,rfl,R2,HFin.out⟩
  ·clear hn;go_wp2_with fail;go_ret2
   first | exact ⟨p1,q1,R1,v1,pf,R2,rfl,HFin.out⟩ | exact ⟨p1,q1,R1,v1,pf,rfl,R2,HFin.out⟩
end
section
open Go.RowKit
theorem en_eq (s:ByteArray) (k:Int) (w:World):(Op.equalIn 10000 113 (.agg #[.string s,.int .i64 k]) (.agg #[.string s,.int .i64 k])).run Tryz.prog w=.ok true w:=by
 have u1:=Tryz.underlying9;have u2:=Tryz.underlying3;have a1:=Tryz.isAgg9;have z1:=Tryz.sizeOf9;have a2:=Tryz.isAgg3;have z2:=Tryz.sizeOf3;have hS:Tryz.prog.underlying 113=some (.struct (Tryz.prog.fieldsOf 113)):=by kernel_rfl
 have hp:Tryz.prog.stoodInHeld 113=false:=by kernel_rfl
 rw [show (10000:Nat)=9999+1 from rfl,run_equalIn_agg w 9999 113 _ _ hS hp];simp only [Program.fieldsOf,Tryz.underlying113];go_simp
theorem en_neq (s:ByteArray) (k:Int) (w:World):(binOp .neq 113 (.agg #[.string s,.int .i64 k]) (.agg #[.string s,.int .i64 k])).run Tryz.prog w=.ok (.bool false) w:=by
 rw [run_neq_struct,en_eq];rfl
theorem sp_eq (b n mb mn:Int) (w:World):(Op.equalIn 10000 168 (.agg #[.int .i64 b,.int .i64 n,.int .i64 mb,.int .i64 mn]) (.agg #[.int .i64 b,.int .i64 n,.int .i64 mb,.int .i64 mn])).run Tryz.prog w=.ok true w:=by
 have u2:=Tryz.underlying3;have a2:=Tryz.isAgg3;have z2:=Tryz.sizeOf3;have hS:Tryz.prog.underlying 168=some (.struct (Tryz.prog.fieldsOf 168)):=by kernel_rfl
 have hp:Tryz.prog.stoodInHeld 168=false:=by kernel_rfl
 rw [show (10000:Nat)=9999+1 from rfl,run_equalIn_agg w 9999 168 _ _ hS hp];simp only [Program.fieldsOf,Tryz.underlying168];go_simp
theorem sp_neq (b n mb mn:Int) (w:World):(binOp .neq 168 (.agg #[.int .i64 b,.int .i64 n,.int .i64 mb,.int .i64 mn]) (.agg #[.int .i64 b,.int .i64 n,.int .i64 mb,.int .i64 mn])).run Tryz.prog w=.ok (.bool false) w:=by
 rw [run_neq_struct,sp_eq];rfl
theorem sameN_any (a:An) {ea fa:Option Addr} {el ec fl fc:Nat} (w:World) (he:EntsAt w ea el ec a.ents) (hf:EntsAt w fa fl fc a.ents) :
  Calls Tryz.prog 231 #[.agg #[.int .i64 a.no,.int .i64 a.dev,.int .i64 a.kind,.int .i64 a.mode,.int .i64 a.uid,.int .i64 a.gid,.int .i64 a.mtime,.int .i64 a.ctime,.int .i64 a.links,.int .i64 a.up,.string a.data,.slice ea el ec],.agg #[.int .i64 a.no,.int .i64 a.dev,.int .i64 a.kind,.int .i64 a.mode,.int .i64 a.uid,.int .i64 a.gid,.int .i64 a.mtime,.int .i64 a.ctime,.int .i64 a.links,.int .i64 a.up,.string a.data,.slice fa fl fc]] w fun e w'=>e=.returned (.bool true)∧Below w.heap.size w w':=by
 have h1:=he.len;have h2:=hf.len;subst h1 h2;have hlen:a.ents.length≤9223372036854775807:=by have:=he.sl.2.1;have:=he.sl.2.2.1;omega
 have q0:=(Blk.new w #[.int .i64 a.no,.int .i64 a.dev,.int .i64 a.kind,.int .i64 a.mode,.int .i64 a.uid,.int .i64 a.gid,.int .i64 a.mtime,.int .i64 a.ctime,.int .i64 a.links,.int .i64 a.up,.string a.data,.slice ea a.ents.length ec] 109).old (.cells #[.int .i64 a.no,.int .i64 a.dev,.int .i64 a.kind,.int .i64 a.mode,.int .i64 a.uid,.int .i64 a.gid,.int .i64 a.mtime,.int .i64 a.ctime,.int .i64 a.links,.int .i64 a.up,.string a.data,.slice fa a.ents.length fc] 109);have q1:=Blk.new (w.alloc (.cells #[.int .i64 a.no,.int .i64 a.dev,.int .i64 a.kind,.int .i64 a.mode,.int .i64 a.uid,.int .i64 a.gid,.int .i64 a.mtime,.int .i64 a.ctime,.int .i64 a.links,.int .i64 a.up,.string a.data,.slice ea a.ents.length ec] 109)) #[.int .i64 a.no,.int .i64 a.dev,.int .i64 a.kind,.int .i64 a.mode,.int .i64 a.uid,.int .i64 a.gid,.int .i64 a.mtime,.int .i64 a.ctime,.int .i64 a.links,.int .i64 a.up,.string a.data,.slice fa a.ents.length fc] 109;have hB:=balloc (balloc (Below.refl w.heap.size w) (.cells #[.int .i64 a.no,.int .i64 a.dev,.int .i64 a.kind,.int .i64 a.mode,.int .i64 a.uid,.int .i64 a.gid,.int .i64 a.mtime,.int .i64 a.ctime,.int .i64 a.links,.int .i64 a.up,.string a.data,.slice ea a.ents.length ec] 109)) (.cells #[.int .i64 a.no,.int .i64 a.dev,.int .i64 a.kind,.int .i64 a.mode,.int .i64 a.uid,.int .i64 a.gid,.int .i64 a.mtime,.int .i64 a.ctime,.int .i64 a.links,.int .i64 a.up,.string a.data,.slice fa a.ents.length fc] 109);have HE:=Lib.hid he;have HF:=Lib.hid hf;rw [World.size_alloc] at q1;clear he hf;obtain⟨es,hes⟩:∃ es,a.ents=es:=⟨_,rfl⟩;rw [hes] at HE HF hlen q0 q1 hB ⊢;clear hes;go_enter Tryz.func231,Tryz.ntmps231;go_wp2_with fail;generalize (w.alloc (.cells #[.int .i64 a.no,.int .i64 a.dev,.int .i64 a.kind,.int .i64 a.mode,.int .i64 a.uid,.int .i64 a.gid,.int .i64 a.mtime,.int .i64 a.ctime,.int .i64 a.links,.int .i64 a.up,.string a.data,.slice ea es.length ec] 109)).alloc (.cells #[.int .i64 a.no,.int .i64 a.dev,.int .i64 a.kind,.int .i64 a.mode,.int .i64 a.uid,.int .i64 a.gid,.int .i64 a.mtime,.int .i64 a.ctime,.int .i64 a.links,.int .i64 a.up,.string a.data,.slice fa es.length fc] 109)=W at q0 q1 hB ⊢;have Q0:=Lib.hid q0;have Q1:=Lib.hid q1;have HB:=Lib.hid hB;clear hB;obtain⟨c0,-,z0⟩:=q0.facts;obtain⟨c1,-,z1⟩:=q1.facts;clear q0 q1
 go_loopw [5] (fun t5 wr=>∃ k:Nat,k≤es.length∧t5=.int .i64 k∧Below W.heap.size W wr) (fun t5 _=>es.length - (intOf t5).toNat)
 case atStart=>exact ⟨0,Nat.zero_le _,rfl,Below.refl _ _⟩
 case round=>
  obtain⟨k,hk,rfl,hb⟩:=hrel;have Hb:=Lib.hid hb;have HBb:=Lib.hid (HB.out.trans (hb.mono HB.out.size));clear c0 z0 c1 z1;obtain⟨c0,-,z0⟩:=(Q0.out.keep hb).facts;obtain⟨c1,-,z1⟩:=(Q1.out.keep hb).facts;clear hb;by_cases hlt:k<es.length
  ·have he:=HE.out.keep HBb.out;have hf:=HF.out.keep HBb.out;obtain⟨b,off,rfl,hbl⟩:=he.some_of (by omega);obtain⟨b2,off2,rfl,hbl2⟩:=hf.some_of (by omega);obtain⟨d0,d1⟩:=he.cell k hlt;obtain⟨d2,d3⟩:=hf.cell k hlt;generalize es[k]=x at d0 d1 d2 d3;have hnq:=en_neq x.name x.no;have hk2:(k:Int)<(es.length:Int):=by omega
   clear he hf;go_wp2_with fail
   go_quiet (fail)
   go_wp2_with fail;go_roundw
   case measure=>simp [intOf];omega
   case rel=>exact ⟨k+1,by omega,by go_num,below_drewN Hb.out _⟩
  ·obtain rfl:k=es.length:=by omega
   go_wp2_with fail;go_ret;exact⟨rfl,HBb.out⟩
end
end Go.Proofs.YtihdbncoijhihaaGreatDoor
