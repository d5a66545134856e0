import Derived.Test.YtbndfmkgamdgeaaGreatDoorSO1
import Derived.Test.YtbndfmkgamdgeaaGreatDoorSO2
import Derived.Test.YtbndfmkgamdgeaaGreatDoorSO5
import Derived.Test.YtbndfmkgamdgeaaGreatDoorSO6
import Derived.Test.YtbndfmkgamdgeaaGreatDoorSO8
import Derived.Test.YtbndfmkgamdgeaaGreatDoorSO18
import Derived.Test.YtbndfmkgamdgeaaGreatDoorSO25
import Derived.Test.YtbndfmkgamdgeaaGreatDoorSO28
import Derived.Test.YtbndfmkgamdgeaaGreatDoorSO30
import Derived.Test.YtbndfmkgamdgeaaGreatDoorSO31
import Derived.Test.YtbndfmkgamdgeaaGreatDoorSO32
import Derived.Test.YtbndfmkgamdgeaaGreatDoorSO33
import Derived.Test.YtbndfmkgamdgeaaGreatDoorSO36
import Derived.Test.YtbndfmkgamdgeaaGreatDoorSO38
set_option linter.unusedVariables false
set_option linter.unusedSimpArgs false
set_option maxRecDepth 100000
set_option maxHeartbeats 16000000
namespace Go.Proofs.YtbndfmkgamdgeaaGreatDoor
section
open Go.RowKit
attribute [local go_sem] Oper.semAt_some
theorem op_now (Y:Sy) (g:Fs→Int→Fs×Int×Int):(Y.op g).1.now=Y.now:=by
 unfold Sy.op;have:=(change_fs Y).2.1
 split
 ·exact this
 ·exact this
def NowOk (Y:Sy):Prop:=0≤Y.now∧Y.now≤253402300799
theorem NowOk.op {Y:Sy} (h:NowOk Y) (g:Fs→Int→Fs×Int×Int):NowOk (Y.op g).1:=by
 unfold NowOk;rw [op_now];exact h
theorem tick_still {Y:Sy} (h:Still Y) (n:Int):Still (Y.tickF n):=by
 unfold Sy.tickF
 split
 ·exact ⟨h.plan,h.dead⟩
 ·exact h
theorem NowOk.tick {Y:Sy} (h:NowOk Y) (n:Int):NowOk (Y.tickF n):=by
 unfold Sy.tickF;obtain⟨h0,h1⟩:=h
 split
 ·rename_i hc;exact⟨show 0≤Y.now+n by omega,show Y.now+n≤253402300799 by omega⟩
 ·exact ⟨h0,h1⟩
theorem dirF_nowOk {Y:Sy} (h:NowOk Y) (u:Us) (dir:Int) (n:ByteArray):NowOk (Y.dirF u dir n).1:=by
 unfold Sy.dirF
 split
 ·exact h.op _
 ·exact h
theorem dirsF_nowOk {u:Us} {dir:Int}:∀ {l:List ByteArray} {Y:Sy},NowOk Y→NowOk (Y.dirsF u dir l).1
 | [],_,h=>h
 | n :: l,Y,h=>by
  rw [Sy.dirsF]
  split
  ·exact dirF_nowOk h u dir n
  ·exact dirsF_nowOk (dirF_nowOk h u dir n)
theorem readyF_nowOk {Y:Sy} (h:NowOk Y) (u:Us) (p:Plc):NowOk (Y.readyF u p).1:=by
 unfold Sy.readyF;dsimp only
 split
 ·exact dirF_nowOk h u _ _
 ·split <;> exact dirsF_nowOk (dirF_nowOk h u _ _)
theorem triesF_nowOk {u:Us}:∀ {l:List Plc} {Y:Sy} (e:Int),NowOk Y→NowOk (Y.triesF u l e).1
 | [],_,_,h=>h
 | p :: l,Y,e,h=>by
  rw [Sy.triesF]
  split
  ·exact readyF_nowOk h u p
  ·exact triesF_nowOk _ (readyF_nowOk h u p)
theorem chooseF_nowOk {Y:Sy} (h:NowOk Y) (u:Us) (no:Int):NowOk (Y.chooseF u no).1:=by
 unfold Sy.chooseF;dsimp only;have h2:=triesF_nowOk (u:=u) (l:=Y.homeF u (Y.fs.topF no).1) 0 h
 split
 ·exact h
 ·split
  ·exact h2
  ·generalize Y.triesF u (Y.homeF u (Y.fs.topF no).1) 0=a at h2 ⊢;have h4:=triesF_nowOk (u:=u) (l:=a.1.fs.placesF a.1.dead u (Y.fs.topF no).1 (Y.fs.topF no).2.1) a.2.2.2 h2
   split
   ·exact h4
   ·split
    ·exact h4
    ·exact readyF_nowOk h4 u _
structure QOk (Q:World→Prop) (L0 pf pw:Nat) (pv:Value):Prop where
 b:∀ A B,Q A→Below A.heap.size A B→Q B
 s:∀ A B R1 R2 Z,Q A→SyAt A pf pw R1 pv Z→Stp (R1.Y pf pw) (Rp.Y R2 pf pw) A B→(∀ k,R1.Y pf pw k→L0≤k)→L0≤A.heap.size→Q B
structure SFl (Q:World→Prop) (L0:Nat) (w' w:World) (bx bc bu:Nat) (c:Cr) (x:Cn):Prop where
 x:Blk w' bx #[.string x.path,.int .i64 x.dir,.int .i64 x.info,.int .i64 x.files,.int .i64 x.out,.int .i64 x.way,.string x.top] 45
 c:Blk w' bc #[.int .i64 c.u,.int .i64 c.g] 54
 r:Blk w' bu #[.string ⟨#[]⟩,.int .i64 0,.int .i64 0,.int .i64 0,.int .i64 0,.int .i64 0,.string ⟨#[]⟩] 45
 q:Q w'
 l:L0≤w'.heap.size
theorem SFl.keep {Q:World→Prop} {L0 pf pw:Nat} {pv:Value} (hQ:QOk Q L0 pf pw pv) {A B w:World} {bx bc bu:Nat} {c:Cr} {x:Cn} (h:SFl Q L0 A w bx bc bu c x) (hb:Below A.heap.size A B):SFl Q L0 B w bx bc bu c x:=⟨h.x.keep hb,h.c.keep hb,h.r.keep hb,hQ.b _ _ h.q hb,Nat.le_trans h.l hb.size⟩
theorem SFl.sy {Q:World→Prop} {L0:Nat} {A B w:World} {bx bc bu:Nat} {c:Cr} {x:Cn} (h:SFl Q L0 A w bx bc bu c x) {pf pw:Nat} {R R2:Rp} {pv:Value} {Z:Sy} (hQ:QOk Q L0 pf pw pv) (hy:SyAt A pf pw R pv Z) (hs:Stp (R.Y pf pw) (R2.Y pf pw) A B) (hl:∀ k,R.Y pf pw k→L0≤k):SFl Q L0 B w bx bc bu c x:=
 ⟨h.x.sy hy hs (by decide) (by decide),h.c.sy hy hs (by decide) (by decide),h.r.sy hy hs (by decide) (by decide),hQ.s _ _ _ _ _ h.q hy hs hl h.l,Nat.le_trans h.l hs.mod.size⟩
structure FlI (Q:World→Prop) (L0:Nat) (w:World) (pf pw:Nat) (R:Rp) (pv:Value) (bx bc bu:Nat) (c:Cr) (x:Cn) (M:Nat) (Z:Sy) (wr:World):Prop where
 y:∃ R',SyAt wr pf pw R' pv Z∧Stp (R.Y pf pw) (R'.Y pf pw) w wr∧∀ k,R'.Y pf pw k→L0≤k
 s:SFl Q L0 wr w bx bc bu c x
 ok:SyOk Z M
 now:NowOk Z
section
variable {Q:World→Prop} {L0:Nat} {w A B:World} {pf pw:Nat} {R:Rp} {pv:Value} {bx bc bu:Nat} {c:Cr} {x:Cn} {M:Nat} {Z Z':Sy}
theorem FlI.keep (h:FlI Q L0 w pf pw R pv bx bc bu c x M Z A) (hQ:QOk Q L0 pf pw pv) (hb:Below A.heap.size A B):FlI Q L0 w pf pw R pv bx bc bu c x M Z B:=by
 obtain⟨R',h1,h2,h3⟩:=h.y;exact⟨⟨R',h1.keep hb,h2.trans (Stp.of_below hb),h3⟩,h.s.keep hQ hb,h.ok,h.now⟩
theorem FlI.call (h:FlI Q L0 w pf pw R pv bx bc bu c x M Z A) (hQ:QOk Q L0 pf pw pv) {M':Nat} (hok:SyOk Z' M') (hnow:NowOk Z') {P:Ending→Prop} {f:FuncId} {args:Array Value}
  (hc:∀ R':Rp,SyAt A pf pw R' pv Z→Calls Tryz.prog f args A fun e B=>P e∧∃ R2,SyAt B pf pw R2 pv Z'∧Stp (R'.Y pf pw) (R2.Y pf pw) A B) :
  Calls Tryz.prog f args A fun e B=>P e∧FlI Q L0 w pf pw R pv bx bc bu c x M' Z' B:=by
 obtain⟨R',h1,h2,h3⟩:=h.y;refine (hc R' h1).mono ?_;rintro e B ⟨hp,R2,h4,h5⟩;exact⟨hp,⟨R2,h4,h2.trans h5,h5.above h3 h.s.l⟩,h.s.sy hQ h1 h5 h3,hok,hnow⟩
end
theorem filled_end {a:Act} {W:World} {B:Nat} {x:Cn} {b:Bool} {P:Ending→World→Prop} (hb:Blk W B #[.string x.path,.int .i64 x.dir,.int .i64 x.info,.int .i64 x.files,.int .i64 x.out,.int .i64 x.way,.string x.top] 45)
  (h8:a.tmps.getD 8 undef=.pointer (some ⟨B,0,none⟩)) (h9:a.tmps.getD 9 undef=.bool b) (hd:a.defers=[]) (hP:P (.returned (.tuple #[.agg #[.string x.path,.int .i64 x.dir,.int .i64 x.info,.int .i64 x.files,.int .i64 x.out,.int .i64 x.way,.string x.top],.bool b])) W):bodyPost Tryz.prog Tryz.f11 P .ret a W:=by
 have q0:=hb.cell 0;have q1:=hb.cell 1;have q2:=hb.cell 2;have q3:=hb.cell 3;have q4:=hb.cell 4;have q5:=hb.cell 5;have q6:=hb.cell 6;rw [Array.getD_eq_getD_getElem?] at h8 h9;refine bodyPost_ret (v:=.tuple #[.agg #[.string x.path,.int .i64 x.dir,.int .i64 x.info,.int .i64 x.files,.int .i64 x.out,.int .i64 x.way,.string x.top],.bool b]) ?_ hd hP;simp [results,Tryz.results11,go_sem,h8,h9,q0,q1,q2,q3,q4,q5,q6]
theorem fill_next (Y:Sy) (c:Cr) (x:Cn) (l:List Ln) (k:Nat) (hk:k<l.length):Y.fillsF c x (l.drop k)=(Y.fill1 c x l[k]).fillsF c x (l.drop (k+1)):=by
 rw [List.drop_eq_getElem_cons hk];rfl
section
variable {w w':World} {pf pw:Nat} {R:Rp} {pv:Value} {Y:Sy}
theorem filled_any {Q:World→Prop} {L0:Nat} (h:SyAt w pf pw R pv Y) (hQ:QOk Q L0 pf pw pv) (hq0:Q w) (hL0:L0≤w.heap.size) (hlow:∀ k,R.Y pf pw k→L0≤k) {N:Nat} (hk:SyOk Y N) (hN:N≤800) (hst:Still Y) (hnow:NowOk Y) (u:Us) (hu0:-9223372036854775808≤u.u) (hu1:u.u≤9223372036854775807) (ht:u.data.size≤100000) (no:Int)
  {za:Option Addr} {zn zc:Nat} {l:List Ln} (hz:∀ A,Q A→SliceAt A 3 lnQ za zn zc l) (hz6:l.length≤6) (hzb:∀ y∈l,y.name.size≤300) :
  Calls Tryz.prog 11 #[.pointer (some ⟨pf,0,none⟩),.agg #[.int .i64 u.u,.int .i64 u.g,.string u.data],.int .i64 no,.slice za zn zc] w fun e w'=>
   e=.returned (.tuple #[(Y.filledF u no l).2.1.v,.bool (Y.filledF u no l).2.2])∧Goes w w' pf pw R pv (Y.filledF u no l).1∧NowOk (Y.filledF u no l).1∧Still (Y.filledF u no l).1:=by
 obtain⟨hU,hR,hb⟩:=boxes2 w #[.int .i64 u.u,.int .i64 u.g,.string u.data] #[.string ⟨#[]⟩,.int .i64 0,.int .i64 0,.int .i64 0,.int .i64 0,.int .i64 0,.string ⟨#[]⟩] 33 45;have HCh:=Lib.hid (fun (w3:World) (hb3:Below w.heap.size w w3)=>lchoose_any (h.keep hb3) hk (by omega) hst.dead u hu0 hu1 ht no);have HOk:=Lib.hid (hk.chooseF u no);have HStl:=Lib.hid (chooseF_still hst u no);have HNow:=Lib.hid (chooseF_nowOk hnow u no);have HFi:=Lib.hid (show Y.filledF u no l=if (Y.chooseF u no).2.2≠0 then ((Y.chooseF u no).1,cn0,false) else ((Y.chooseF u no).1.fillsF u.c (Y.chooseF u no).2.1 l,(Y.chooseF u no).2.1,true) from rfl);have HZ:=Lib.hid hz;have hzl:l.length=zn:=(hz w hq0).1;have HW:=Lib.hid (And.intro h (And.intro hQ (And.intro hq0 (And.intro hL0 hlow))));have HB:=Lib.hid hzb;generalize Y.filledF u no l=fd at HFi ⊢;generalize Y.chooseF u no=q at HCh HOk HStl HNow HFi;obtain⟨Y1,x,qe⟩:=q;unfold Cn.v at HCh;dsimp only at HCh HOk HStl HNow HFi;clear h hk hz hQ hq0 hL0 hlow hzb hst hnow;go_enter Tryz.func11,Tryz.ntmps11;go_upto_region 1 with fail;generalize (w.alloc (.cells #[.int .i64 u.u,.int .i64 u.g,.string u.data] 33)).alloc (.cells #[.string ⟨#[]⟩,.int .i64 0,.int .i64 0,.int .i64 0,.int .i64 0,.int .i64 0,.string ⟨#[]⟩] 45)=X at hU hR hb ⊢;obtain⟨uc,uf,uz⟩:=hU.facts;have H0:=Lib.hid (And.intro hU (And.intro hR hb));clear hU hR hb;go_wp2_with fail;refine (HCh.out _ H0.out.2.2).mono ?_;rintro e w1 ⟨rfl,R1,hY1,hs1⟩;have hX1:=Blk.new w1 #[.string x.path,.int .i64 x.dir,.int .i64 x.info,.int .i64 x.files,.int .i64 x.out,.int .i64 x.way,.string x.top] 45;have hbX:=balloc (Below.refl w1.heap.size w1) (.cells #[.string x.path,.int .i64 x.dir,.int .i64 x.info,.int .i64 x.files,.int .i64 x.out,.int .i64 x.way,.string x.top] 45);have hR1:=H0.out.2.1.sy (HW.out.1.keep H0.out.2.2) hs1 (by decide) (by decide);have hU1:=H0.out.1.sy (HW.out.1.keep H0.out.2.2) hs1 (by decide) (by decide);have hb01:Q w1∧L0≤w1.heap.size:=⟨HW.out.2.1.s _ _ _ _ _ (HW.out.2.1.b _ _ HW.out.2.2.1 H0.out.2.2) (HW.out.1.keep H0.out.2.2) hs1 HW.out.2.2.2.2 (Nat.le_trans HW.out.2.2.2.1 H0.out.2.2.size),Nat.le_trans (Nat.le_trans HW.out.2.2.2.1 H0.out.2.2.size) hs1.mod.size⟩;have hs0:=(Stp.of_below (F:=R.Y pf pw) H0.out.2.2).trans hs1;have hlow1:=hs0.above HW.out.2.2.2.2 HW.out.2.2.2.1;have hlr:=hR1.lt;clear uc uf uz;go_upto_region 2 with fail;generalize w1.alloc (.cells #[.string x.path,.int .i64 x.dir,.int .i64 x.info,.int .i64 x.files,.int .i64 x.out,.int .i64 x.way,.string x.top] 45)=w2 at hX1 hbX ⊢;have hY2:=hY1.keep hbX;have hR2:=hR1.keep hbX;have hU2:=hU1.keep hbX;have hb02:Q w2∧L0≤w2.heap.size:=⟨HW.out.2.1.b _ _ hb01.1 hbX,Nat.le_trans hb01.2 hbX.size⟩;have hs2:=hs0.trans (Stp.of_below (F:=R1.Y pf pw) hbX);generalize w1.heap.size=bx at hX1 hlr ⊢;clear hY1 hs1 hR1 hU1 hb01 hs0 hbX;by_cases hq:qe≠0
 ·have hv:(qe != 0)=true:=by simpa using hq
  have hE:=HFi.out;rw [if_pos hq] at hE;subst hE;obtain⟨rc,rf,rz⟩:=hR2.facts;have HE:=Lib.hid (And.intro hR2 (And.intro hY2 hs2));clear hq hR2 hY2 hs2 hX1 hU2 hb02;go_wp2_with fail;exact filled_end (x:=cn0) HE.out.1.set7 rfl rfl rfl ⟨rfl,Goes.set7 ⟨R1,HE.out.2.1,HE.out.2.2⟩ HE.out.1 (by omega) _ _ _ _ _ _ _,HNow.out,HStl.out⟩
 ·obtain rfl:qe=0:=by simpa using hq
  have hE:=HFi.out;rw [if_neg (by decide)] at hE;subst hE;obtain⟨uc,uf,uz⟩:=hU2.facts;have H2:=Lib.hid (And.intro hR2 (And.intro hY2 (And.intro hs2 (And.intro hX1 (And.intro hb02 hlow1)))));have hbu:=hX1.lt;clear hq hR2 hY2 hs2 hX1 hU2 hb02;go_wp2_with fail;refine (ccred_any u.u u.g u.data _).mono ?_;rintro e w3 ⟨rfl,hb3⟩;have hC3:=Blk.new w3 #[.int .i64 u.u,.int .i64 u.g] 54;have hbC:=balloc hb3 (.cells #[.int .i64 u.u,.int .i64 u.g] 54);have hbz:=hb3.size;clear uc uf uz hb3;go_upto_region 5 with fail;generalize w3.alloc (.cells #[.int .i64 u.u,.int .i64 u.g] 54)=w4 at hC3 hbC ⊢;generalize w3.heap.size=bc at hC3 hbz ⊢;have HI0:=Lib.hid (show FlI Q L0 w pf pw R pv bx bc (w.heap.size+1) u.c x (N+20) Y1 w4 from
   ⟨⟨R1,H2.out.2.1.keep hbC,H2.out.2.2.1.trans (Stp.of_below hbC),H2.out.2.2.2.2.2⟩,⟨H2.out.2.2.2.1.keep hbC,hC3,H2.out.1.keep hbC,HW.out.2.1.b _ _ H2.out.2.2.2.2.1.1 hbC,Nat.le_trans H2.out.2.2.2.2.1.2 hbC.size⟩,HOk.out.mono (by omega),HNow.out⟩)
  clear hC3 hbC;go_wp2_with fail
  go_loopw [13] (fun t13 wr=>∃ (k:Nat) (Z:Sy),k≤l.length∧t13=.int .i64 k∧Y1.fillsF u.c x l=Z.fillsF u.c x (l.drop k)∧FlI Q L0 w pf pw R pv bx bc (w.heap.size+1) u.c x (N+20+3*k) Z wr∧Still Z) (fun t13 _=>l.length - (intOf t13).toNat)
  case atStart=>exact ⟨0,Y1,Nat.zero_le _,rfl,rfl,HI0.out,HStl.out⟩
  case round=>
   obtain⟨k,Z,hkl,rfl,hfl,hI,hst⟩:=hrel;by_cases hk:k<l.length
   ·obtain ⟨zb,zo,rfl,hzl1,-,-,-⟩:=ln_cells (HZ.out _ hI.s.q) k hk;have HFl:=Lib.hid (hfl.trans (fill_next Z u.c x l k hk));generalize hy:l[k]=y at HFl;have hyn:y.name.size≤300:=by have:=HB.out l[k] (List.getElem_mem hk);rw [hy] at this;exact this
    have HF1:=Lib.hid (show Z.fill1 u.c x y=(if 0≤y.time then ((if (Z.op (fun S now=>S.mkdir u.c now x.files y.name 448)).2.2=0∧0≤y.size then ((Z.op (fun S now=>S.mkdir u.c now x.files y.name 448)).1.op (fun S now=>S.file u.c now (Z.op (fun S now=>S.mkdir u.c now x.files y.name 448)).2.1 nOne 384 (bytesF y.size))).1 else (Z.op (fun S now=>S.mkdir u.c now x.files y.name 448)).1).op (fun S now=>S.file u.c now x.info (y.name ++ nSfx) 384 ByteArray.empty)).1
     else (if (Z.op (fun S now=>S.mkdir u.c now x.files y.name 448)).2.2=0∧0≤y.size then ((Z.op (fun S now=>S.mkdir u.c now x.files y.name 448)).1.op (fun S now=>S.file u.c now (Z.op (fun S now=>S.mkdir u.c now x.files y.name 448)).2.1 nOne 384 (bytesF y.size))).1 else (Z.op (fun S now=>S.mkdir u.c now x.files y.name 448)).1)).tickF (y.time % 256) from rfl)
    have hokm:SyOk (Z.op (fun S now=>S.mkdir u.c now x.files y.name 448)).1 (N+20+3*k+1):=hI.ok.op (hI.ok.fine.mkdir u.c Z.now x.files y.name 448);have hnom:=hI.now.op (fun S now=>S.mkdir u.c now x.files y.name 448);have hstm:=op_still hst (fun S now=>S.mkdir u.c now x.files y.name 448);have HMk:=Lib.hid (fun (A:World) (hA:FlI Q L0 w pf pw R pv bx bc (w.heap.size+1) u.c x (N+20+3*k) Z A)=>hA.call HW.out.2.1 (M':=N+20+3*k+1) (Z':=(Z.op (fun S now=>S.mkdir u.c now x.files y.name 448)).1) (P:=fun e=>e=.returned (.tuple #[.int .i64 (Z.op (fun S now=>S.mkdir u.c now x.files y.name 448)).2.1,.int .i64 (Z.op (fun S now=>S.mkdir u.c now x.files y.name 448)).2.2])) (f:=29) (args:=#[.pointer (some ⟨pf,0,none⟩),.agg #[.int .i64 u.u,.int .i64 u.g],.int .i64 x.files,.string y.name,.int .i64 448]) hokm hnom
     (fun R' h1=>smkdir_any h1 hA.ok.fine.ok (by omega) ⟨hA.ok.c0,by have:=hA.ok.cN;omega⟩ (by have:=hA.ok.pl;omega) u.c x.files y.name 448 (by omega)))
    generalize Z.op (fun S now=>S.mkdir u.c now x.files y.name 448)=r at HF1 hokm hnom hstm HMk;obtain⟨Z1,d,g⟩:=r;dsimp only at HF1 hokm hnom hstm HMk;have hbd:Below wr.heap.size wr wr.drew:=(Below.refl _ _).drew;have hId:=hI.keep HW.out.2.1 hbd;have HId:=Lib.hid hId;have HSt1:=Lib.hid hstm;clear hI hfl hst hokm hnom hstm;go_upto_region 8 with fail;refine wp_region_held_drew (S:=fun w'=>SFl Q L0 w' w bx bc (w.heap.size+1) u.c x) (by kernel_rfl) hId.s (fun hHeld=>?_);refine reg_takes 9 [(0,35),(1,36),(2,37),(3,38),(4,39),(5,40),(6,41),(7,42),(8,43)] (by kernel_rfl) (by kernel_rfl) rfl (fun _ _ _ _ _ h=>h) hHeld ?_
    iterate 9 (apply takes_cons rfl rfl;(· (intro w9 hSw;obtain ⟨s1,-,-⟩:=hSw.x.facts;obtain ⟨s2,-,-⟩:=hSw.c.facts;obtain ⟨zb',zo',hz',hzl,s3,s4,s5⟩:=ln_cells (HZ.out _ hSw.q) k hk;injection hz' with hz';injection hz' with hz1 hz2;subst hz1 hz2;rw [hy] at s3 s4 s5;clear hSw;go_simp;(try with_reducible rfl)));simp only [List.setIfInBounds_toArray,List.set_cons_zero,List.set_cons_succ])
    refine takes_nil ?_;refine reg_call 9 44 (R:=fun v w'=>v=.tuple #[.int .i64 d,.int .i64 g]∧FlI Q L0 w pf pw R pv bx bc (w.heap.size+1) u.c x (N+20+3*k+1) Z1 w') (by kernel_rfl) rfl rfl rfl ?xa ((HMk.out _ HId.out).mono (fun e w' ⟨he,hw⟩=>⟨_,he,rfl,hw⟩)) (fun v w' ⟨_,hw⟩=>hw.s) ?_
    case xa=>(go_simp;first | rfl | exact ⟨rfl,rfl⟩)
    rintro _ w5 ⟨rfl,hI5⟩;simp only [List.setIfInBounds_toArray,List.set_cons_zero,List.set_cons_succ];refine reg_takes 5 [(10,34),(11,45),(12,46),(13,14),(14,15)] (by kernel_rfl) (by kernel_rfl) rfl (fun _ _ _ _ _ h=>h) hI5.s ?_
    iterate 5 (apply takes_cons rfl rfl;(· (intro w9 hSw;clear hSw;go_simp;(try with_reducible rfl)));simp only [List.setIfInBounds_toArray,List.set_cons_zero,List.set_cons_succ])
    refine takes_nil ?_;refine wpAnyH_done (by kernel_rfl) ?_ _;have HI5:=Lib.hid hI5;clear hHeld hId hbd hI5;obtain⟨zb',zo',hz',hzl',z0,z1,z2⟩:=ln_cells (HZ.out _ HI5.out.s.q) k hk;injection hz' with hz';injection hz' with hz1 hz2;subst hz1 hz2;rw [hy] at z0;clear z1 z2;by_cases hgs:g=0∧0≤y.size
    ·have HGs:=Lib.hid hgs;obtain⟨hg0,hs0⟩:=hgs;subst hg0;have hok2:SyOk (Z1.op (fun S now=>S.file u.c now d nOne 384 (bytesF y.size))).1 (N+20+3*k+1+1):=HI5.out.ok.op (HI5.out.ok.fine.file _ _ _ _ _ _);have hno2:=HI5.out.now.op (fun S now=>S.file u.c now d nOne 384 (bytesF y.size));have hbs:(bytesF y.size).size≤1000:=by
      unfold bytesF;rw [str_size,List.length_replicate];omega
     have HCr:=Lib.hid (fun (A:World) (hA:FlI Q L0 w pf pw R pv bx bc (w.heap.size+1) u.c x (N+20+3*k+1) Z1 A)=>hA.call HW.out.2.1 (M':=N+20+3*k+1+1) (Z':=(Z1.op (fun S now=>S.file u.c now d nOne 384 (bytesF y.size))).1) (P:=fun e=>e=.returned (.tuple #[.int .i64 (Z1.op (fun S now=>S.file u.c now d nOne 384 (bytesF y.size))).2.1,.int .i64 (Z1.op (fun S now=>S.file u.c now d nOne 384 (bytesF y.size))).2.2])) (f:=15) (args:=#[.pointer (some ⟨pf,0,none⟩),.agg #[.int .i64 u.u,.int .i64 u.g],.int .i64 d,.string nOne,.int .i64 384,.string (bytesF y.size)]) hok2 hno2
      (fun R' h1=>screate_any h1 hA.ok.fine.ok (by omega) ⟨hA.ok.c0,by have:=hA.ok.cN;omega⟩ (by have:=hA.ok.pl;omega) u.c d nOne 384 (bytesF y.size) (by decide) (by omega)))
     have hst2:=op_still HSt1.out (fun S now=>S.file u.c now d nOne 384 (bytesF y.size));have HSt2:=Lib.hid hst2;have HBy:=Lib.hid (fun w=>bytes33_any y.size w);generalize hZ2:Z1.op (fun S now=>S.file u.c now d nOne 384 (bytesF y.size))=r2 at hok2 hno2 HCr hst2 HSt2;have HZ2:=Lib.hid hZ2;obtain⟨Z2,d2,g2⟩:=r2;dsimp only at hok2 hno2 HCr hst2 HSt2;generalize bytesF y.size=bs at HCr HBy hbs HZ2 HF1;clear hst2 hok2 hno2 hZ2;go_upto_region 10 with fail;have hbd:Below w5.heap.size w5 w5.drew:=(Below.refl _ _).drew;have hId:=HI5.out.keep HW.out.2.1 hbd;have HId:=Lib.hid hId;unfold nOne at HCr;refine wp_region_held_drew (S:=fun w'=>SFl Q L0 w' w bx bc (w.heap.size+1) u.c x) (by kernel_rfl) hId.s (fun hHeld=>?_);refine reg_takes 8 [(0,57),(1,58),(2,59),(3,60),(4,61),(5,62),(6,63),(7,64)] (by kernel_rfl) (by kernel_rfl) rfl (fun _ _ _ _ _ h=>h) hHeld ?_
     iterate 8 (apply takes_cons rfl rfl;(· (intro w9 hSw;obtain ⟨s1,-,-⟩:=hSw.x.facts;obtain ⟨s2,-,-⟩:=hSw.c.facts;obtain ⟨zb',zo',hz',hzl,s3,s4,s5⟩:=ln_cells (HZ.out _ hSw.q) k hk;injection hz' with hz';injection hz' with hz1 hz2;subst hz1 hz2;rw [hy] at s3 s4 s5;clear hSw;go_simp;(try with_reducible rfl)));simp only [List.setIfInBounds_toArray,List.set_cons_zero,List.set_cons_succ])
     refine takes_nil ?_;refine reg_call 8 65 (R:=fun v w'=>v=.string bs∧w'=w5.drew) (by kernel_rfl) rfl rfl rfl ?xf ((HBy.out _).mono (fun e w' ⟨he,hw⟩=>⟨_,he,rfl,hw.symm⟩)) (fun v w' ⟨_,hw⟩=>by rw [hw];exact hHeld) ?_
     case xf=>(go_simp;(try rfl))
     rintro _ _ ⟨rfl,rfl⟩;simp only [List.setIfInBounds_toArray,List.set_cons_zero,List.set_cons_succ];refine reg_call 9 66 (R:=fun v w'=>FlI Q L0 w pf pw R pv bx bc (w.heap.size+1) u.c x (N+20+3*k+1+1) Z2 w') (by kernel_rfl) rfl rfl rfl ?xg ((HCr.out _ HId.out).mono (fun e w' ⟨he,hw⟩=>⟨_,he,hw⟩)) (fun v w' hw=>hw.s) ?_
     case xg=>(go_simp;first | rfl | exact ⟨rfl,rfl⟩)
     rintro v6 w6 hI6;simp only [List.setIfInBounds_toArray,List.set_cons_zero,List.set_cons_succ];refine wpAnyH_done (by kernel_rfl) ?_ _;have HI6:=Lib.hid hI6;clear hHeld hId hbd hI6 z0 hs0 hbs;obtain⟨zb',zo',hz',hzl',z0,z1,z2⟩:=ln_cells (HZ.out _ HI6.out.s.q) k hk;injection hz' with hz';injection hz' with hz1 hz2;subst hz1 hz2;rw [hy] at z1;clear z0 z2;by_cases ht0:0≤y.time
     ·have HT0:=Lib.hid ht0;have hok3:SyOk ((Z2).op (fun S now=>S.file u.c now x.info (y.name ++ nSfx) 384 ByteArray.empty)).1 (N+20+3*k+1+1+1):=HI6.out.ok.op (HI6.out.ok.fine.file _ _ _ _ _ _);have hno3:=HI6.out.now.op (fun S now=>S.file u.c now x.info (y.name ++ nSfx) 384 ByteArray.empty);have HIf:=Lib.hid (fun (A:World) (hA:FlI Q L0 w pf pw R pv bx bc (w.heap.size+1) u.c x (N+20+3*k+1+1) (Z2) A)=>hA.call HW.out.2.1 (M':=N+20+3*k+1+1+1) (Z':=((Z2).op (fun S now=>S.file u.c now x.info (y.name ++ nSfx) 384 ByteArray.empty)).1) (P:=fun e=>e=.returned (.tuple #[.int .i64 ((Z2).op (fun S now=>S.file u.c now x.info (y.name ++ nSfx) 384 ByteArray.empty)).2.1,.int .i64 ((Z2).op (fun S now=>S.file u.c now x.info (y.name ++ nSfx) 384 ByteArray.empty)).2.2])) (f:=15) (args:=#[.pointer (some ⟨pf,0,none⟩),.agg #[.int .i64 u.u,.int .i64 u.g],.int .i64 x.info,.string (y.name ++ nSfx),.int .i64 384,.string ByteArray.empty]) hok3 hno3
       (fun R' h1=>screate_any h1 hA.ok.fine.ok (by omega) ⟨hA.ok.c0,by have:=hA.ok.cN;omega⟩ (by have:=hA.ok.pl;omega) u.c x.info (y.name ++ nSfx) 384 ByteArray.empty (by rw [ByteArray.size_append];have:nSfx.size=10:=rfl;omega) (by decide)))
      have hst3:=op_still HSt2.out (fun S now=>S.file u.c now x.info (y.name ++ nSfx) 384 ByteArray.empty);have HSt3:=Lib.hid hst3;have hq10:¬ 9223372036854775807<y.name.size+10:=by omega
      generalize hZ3:(Z2).op (fun S now=>S.file u.c now x.info (y.name ++ nSfx) 384 ByteArray.empty)=r3 at hok3 hno3 HIf hst3 HSt3;have HZ3:=Lib.hid hZ3;obtain⟨Z3,d3,g3⟩:=r3;dsimp only at hok3 hno3 HIf hst3 HSt3;clear hst3 hok3 hno3 hZ3;go_upto_region 12 with fail;have hbd:Below w6.heap.size w6 w6.drew:=(Below.refl _ _).drew;have hId:=HI6.out.keep HW.out.2.1 hbd;have HId:=Lib.hid hId;unfold nSfx at HIf;refine wp_region_held_drew (S:=fun w'=>SFl Q L0 w' w bx bc (w.heap.size+1) u.c x) (by kernel_rfl) hId.s (fun hHeld=>?_);refine reg_takes 10 [(0,73),(1,74),(2,75),(3,76),(4,77),(5,78),(6,79),(7,80),(8,81),(9,82)] (by kernel_rfl) (by kernel_rfl) rfl (fun _ _ _ _ _ h=>h) hHeld ?_
      iterate 10 (apply takes_cons rfl rfl;(· (intro w9 hSw;obtain ⟨s1,-,-⟩:=hSw.x.facts;obtain ⟨s2,-,-⟩:=hSw.c.facts;obtain ⟨zb',zo',hz',hzl,s3,s4,s5⟩:=ln_cells (HZ.out _ hSw.q) k hk;injection hz' with hz';injection hz' with hz1 hz2;subst hz1 hz2;rw [hy] at s3 s4 s5;clear hSw;go_simp;(try with_reducible rfl)));simp only [List.setIfInBounds_toArray,List.set_cons_zero,List.set_cons_succ])
      refine takes_nil ?_;refine reg_call 10 83 (R:=fun v w'=>FlI Q L0 w pf pw R pv bx bc (w.heap.size+1) u.c x (N+20+3*k+1+1+1) Z3 w') (by kernel_rfl) rfl rfl rfl ?xi ((HIf.out _ HId.out).mono (fun e w' ⟨he,hw⟩=>⟨_,he,hw⟩)) (fun v w' hw=>hw.s) ?_
      case xi=>(go_simp;first | rfl | exact ⟨rfl,rfl⟩ | exact ⟨⟨rfl,rfl⟩,rfl⟩)
      rintro v7 w7 hI7;simp only [List.setIfInBounds_toArray,List.set_cons_zero,List.set_cons_succ];refine wpAnyH_done (by kernel_rfl) ?_ _;have HI7:=Lib.hid hI7;clear hHeld hId hbd hI7 z1 ht0 hq10;obtain⟨zb',zo',hz',hzl',z0,z1,z2⟩:=ln_cells (HZ.out _ HI7.out.s.q) k hk;injection hz' with hz';injection hz' with hz1 hz2;subst hz1 hz2;rw [hy] at z1;have hbt:=and255 y.time;have HTc:=Lib.hid (HI7.out.call HW.out.2.1 (M':=N+20+3*(k+1)) (Z':=(Z3).tickF (y.time % 256)) (P:=fun e=>∃ v,e=.returned (.int .i64 v)) (f:=27) (args:=#[.pointer (some ⟨pf,0,none⟩),.int .i64 (y.time % 256)]) ((HI7.out.ok.mono (by omega)).tickF _) (HI7.out.now.tick _) (fun R' h1=>(stickF_any h1 (y.time % 256) (by omega) HI7.out.now).mono (fun e B ⟨hv,h2,h3⟩=>⟨hv,R',h2,Stp.of_mod (h3.mono (fun q hq=>.inl hq))⟩)));have HEq:=Lib.hid (show Y1.fillsF u.c x l=((Z3).tickF (y.time % 256)).fillsF u.c x (l.drop (k+1)) by rw [HFl.out,HF1.out,if_pos HT0.out,if_pos HGs.out,HZ2.out,HZ3.out]);have HLt:=Lib.hid hk;clear z0 z2;go_wp2_with fail;refine HTc.out.mono ?_;rintro e w9 ⟨⟨v9,rfl⟩,hI9⟩;have HI9:=Lib.hid hI9;clear hI9 z1 hbt;go_wp2_with fail;go_roundw
      case rel=>exact ⟨k+1,_,by have:=HLt.out;omega,by go_num,HEq.out,HI9.out,tick_still HSt3.out _⟩
      case measure=>
       have:=HLt.out;simp [intOf];omega
     ·have HT0:=Lib.hid ht0;clear ht0 z1;obtain⟨zb',zo',hz',hzl',z0,z1,z2⟩:=ln_cells (HZ.out _ HI6.out.s.q) k hk;injection hz' with hz';injection hz' with hz1 hz2;subst hz1 hz2;rw [hy] at z1;have hbt:=and255 y.time;have HTc:=Lib.hid (HI6.out.call HW.out.2.1 (M':=N+20+3*(k+1)) (Z':=(Z2).tickF (y.time % 256)) (P:=fun e=>∃ v,e=.returned (.int .i64 v)) (f:=27) (args:=#[.pointer (some ⟨pf,0,none⟩),.int .i64 (y.time % 256)]) ((HI6.out.ok.mono (by omega)).tickF _) (HI6.out.now.tick _) (fun R' h1=>(stickF_any h1 (y.time % 256) (by omega) HI6.out.now).mono (fun e B ⟨hv,h2,h3⟩=>⟨hv,R',h2,Stp.of_mod (h3.mono (fun q hq=>.inl hq))⟩)));have HEq:=Lib.hid (show Y1.fillsF u.c x l=((Z2).tickF (y.time % 256)).fillsF u.c x (l.drop (k+1)) by rw [HFl.out,HF1.out,if_neg HT0.out,if_pos HGs.out,HZ2.out]);have HLt:=Lib.hid hk;clear z0 z2;go_wp2_with fail;refine HTc.out.mono ?_;rintro e w9 ⟨⟨v9,rfl⟩,hI9⟩;have HI9:=Lib.hid hI9;clear hI9 z1 hbt;go_wp2_with fail;go_roundw
      case rel=>exact ⟨k+1,_,by have:=HLt.out;omega,by go_num,HEq.out,HI9.out,tick_still HSt2.out _⟩
      case measure=>
       have:=HLt.out;simp [intOf];omega
    ·have HGs:=Lib.hid hgs;have hv9:(g == 0)=true→¬ 0≤y.size:=fun h h2=>hgs ⟨by simpa using h,h2⟩;by_cases hg0:g=0
     ·have hs0:¬ 0≤y.size:=fun h=>hgs ⟨hg0,h⟩;have hvg:(g == 0)=true:=by simpa using hg0
      have hvs:y.size<0:=by omega
      clear hgs hv9 hg0;go_upto_region 11 with fail;clear z0 hs0 hvg hvs;obtain⟨zb',zo',hz',hzl',z0,z1,z2⟩:=ln_cells (HZ.out _ HI5.out.s.q) k hk;injection hz' with hz';injection hz' with hz1 hz2;subst hz1 hz2;rw [hy] at z1;clear z0 z2;by_cases ht0:0≤y.time
      ·have HT0:=Lib.hid ht0;have hok3:SyOk ((Z1).op (fun S now=>S.file u.c now x.info (y.name ++ nSfx) 384 ByteArray.empty)).1 (N+20+3*k+1+1):=HI5.out.ok.op (HI5.out.ok.fine.file _ _ _ _ _ _);have hno3:=HI5.out.now.op (fun S now=>S.file u.c now x.info (y.name ++ nSfx) 384 ByteArray.empty);have HIf:=Lib.hid (fun (A:World) (hA:FlI Q L0 w pf pw R pv bx bc (w.heap.size+1) u.c x (N+20+3*k+1) (Z1) A)=>hA.call HW.out.2.1 (M':=N+20+3*k+1+1) (Z':=((Z1).op (fun S now=>S.file u.c now x.info (y.name ++ nSfx) 384 ByteArray.empty)).1) (P:=fun e=>e=.returned (.tuple #[.int .i64 ((Z1).op (fun S now=>S.file u.c now x.info (y.name ++ nSfx) 384 ByteArray.empty)).2.1,.int .i64 ((Z1).op (fun S now=>S.file u.c now x.info (y.name ++ nSfx) 384 ByteArray.empty)).2.2])) (f:=15) (args:=#[.pointer (some ⟨pf,0,none⟩),.agg #[.int .i64 u.u,.int .i64 u.g],.int .i64 x.info,.string (y.name ++ nSfx),.int .i64 384,.string ByteArray.empty]) hok3 hno3
        (fun R' h1=>screate_any h1 hA.ok.fine.ok (by omega) ⟨hA.ok.c0,by have:=hA.ok.cN;omega⟩ (by have:=hA.ok.pl;omega) u.c x.info (y.name ++ nSfx) 384 ByteArray.empty (by rw [ByteArray.size_append];have:nSfx.size=10:=rfl;omega) (by decide)))
       have hst3:=op_still HSt1.out (fun S now=>S.file u.c now x.info (y.name ++ nSfx) 384 ByteArray.empty);have HSt3:=Lib.hid hst3;have hq10:¬ 9223372036854775807<y.name.size+10:=by omega
       generalize hZ3:(Z1).op (fun S now=>S.file u.c now x.info (y.name ++ nSfx) 384 ByteArray.empty)=r3 at hok3 hno3 HIf hst3 HSt3;have HZ3:=Lib.hid hZ3;obtain⟨Z3,d3,g3⟩:=r3;dsimp only at hok3 hno3 HIf hst3 HSt3;clear hst3 hok3 hno3 hZ3;go_upto_region 12 with fail;have hbd:Below w5.heap.size w5 w5.drew:=(Below.refl _ _).drew;have hId:=HI5.out.keep HW.out.2.1 hbd;have HId:=Lib.hid hId;unfold nSfx at HIf;refine wp_region_held_drew (S:=fun w'=>SFl Q L0 w' w bx bc (w.heap.size+1) u.c x) (by kernel_rfl) hId.s (fun hHeld=>?_);refine reg_takes 10 [(0,73),(1,74),(2,75),(3,76),(4,77),(5,78),(6,79),(7,80),(8,81),(9,82)] (by kernel_rfl) (by kernel_rfl) rfl (fun _ _ _ _ _ h=>h) hHeld ?_
       iterate 10 (apply takes_cons rfl rfl;(· (intro w9 hSw;obtain ⟨s1,-,-⟩:=hSw.x.facts;obtain ⟨s2,-,-⟩:=hSw.c.facts;obtain ⟨zb',zo',hz',hzl,s3,s4,s5⟩:=ln_cells (HZ.out _ hSw.q) k hk;injection hz' with hz';injection hz' with hz1 hz2;subst hz1 hz2;rw [hy] at s3 s4 s5;clear hSw;go_simp;(try with_reducible rfl)));simp only [List.setIfInBounds_toArray,List.set_cons_zero,List.set_cons_succ])
       refine takes_nil ?_;refine reg_call 10 83 (R:=fun v w'=>FlI Q L0 w pf pw R pv bx bc (w.heap.size+1) u.c x (N+20+3*k+1+1) Z3 w') (by kernel_rfl) rfl rfl rfl ?xi ((HIf.out _ HId.out).mono (fun e w' ⟨he,hw⟩=>⟨_,he,hw⟩)) (fun v w' hw=>hw.s) ?_
       case xi=>(go_simp;first | rfl | exact ⟨rfl,rfl⟩ | exact ⟨⟨rfl,rfl⟩,rfl⟩)
       rintro v7 w7 hI7;simp only [List.setIfInBounds_toArray,List.set_cons_zero,List.set_cons_succ];refine wpAnyH_done (by kernel_rfl) ?_ _;have HI7:=Lib.hid hI7;clear hHeld hId hbd hI7 z1 ht0 hq10;obtain⟨zb',zo',hz',hzl',z0,z1,z2⟩:=ln_cells (HZ.out _ HI7.out.s.q) k hk;injection hz' with hz';injection hz' with hz1 hz2;subst hz1 hz2;rw [hy] at z1;have hbt:=and255 y.time;have HTc:=Lib.hid (HI7.out.call HW.out.2.1 (M':=N+20+3*(k+1)) (Z':=(Z3).tickF (y.time % 256)) (P:=fun e=>∃ v,e=.returned (.int .i64 v)) (f:=27) (args:=#[.pointer (some ⟨pf,0,none⟩),.int .i64 (y.time % 256)]) ((HI7.out.ok.mono (by omega)).tickF _) (HI7.out.now.tick _) (fun R' h1=>(stickF_any h1 (y.time % 256) (by omega) HI7.out.now).mono (fun e B ⟨hv,h2,h3⟩=>⟨hv,R',h2,Stp.of_mod (h3.mono (fun q hq=>.inl hq))⟩)));have HEq:=Lib.hid (show Y1.fillsF u.c x l=((Z3).tickF (y.time % 256)).fillsF u.c x (l.drop (k+1)) by rw [HFl.out,HF1.out,if_pos HT0.out,if_neg HGs.out,HZ3.out]);have HLt:=Lib.hid hk;clear z0 z2;go_wp2_with fail;refine HTc.out.mono ?_;rintro e w9 ⟨⟨v9,rfl⟩,hI9⟩;have HI9:=Lib.hid hI9;clear hI9 z1 hbt;go_wp2_with fail;go_roundw
       case rel=>exact ⟨k+1,_,by have:=HLt.out;omega,by go_num,HEq.out,HI9.out,tick_still HSt3.out _⟩
       case measure=>
        have:=HLt.out;simp [intOf];omega
      ·have HT0:=Lib.hid ht0;clear ht0 z1;obtain⟨zb',zo',hz',hzl',z0,z1,z2⟩:=ln_cells (HZ.out _ HI5.out.s.q) k hk;injection hz' with hz';injection hz' with hz1 hz2;subst hz1 hz2;rw [hy] at z1;have hbt:=and255 y.time;have HTc:=Lib.hid (HI5.out.call HW.out.2.1 (M':=N+20+3*(k+1)) (Z':=(Z1).tickF (y.time % 256)) (P:=fun e=>∃ v,e=.returned (.int .i64 v)) (f:=27) (args:=#[.pointer (some ⟨pf,0,none⟩),.int .i64 (y.time % 256)]) ((HI5.out.ok.mono (by omega)).tickF _) (HI5.out.now.tick _) (fun R' h1=>(stickF_any h1 (y.time % 256) (by omega) HI5.out.now).mono (fun e B ⟨hv,h2,h3⟩=>⟨hv,R',h2,Stp.of_mod (h3.mono (fun q hq=>.inl hq))⟩)));have HEq:=Lib.hid (show Y1.fillsF u.c x l=((Z1).tickF (y.time % 256)).fillsF u.c x (l.drop (k+1)) by rw [HFl.out,HF1.out,if_neg HT0.out,if_neg HGs.out]);have HLt:=Lib.hid hk;clear z0 z2;go_wp2_with fail;refine HTc.out.mono ?_;rintro e w9 ⟨⟨v9,rfl⟩,hI9⟩;have HI9:=Lib.hid hI9;clear hI9 z1 hbt;go_wp2_with fail;go_roundw
       case rel=>exact ⟨k+1,_,by have:=HLt.out;omega,by go_num,HEq.out,HI9.out,tick_still HSt1.out _⟩
       case measure=>
        have:=HLt.out;simp [intOf];omega
     ·have hvg:(g == 0)=false:=by simpa using hg0
      clear hgs hv9 hg0;go_upto_region 11 with fail;clear z0 hvg;obtain⟨zb',zo',hz',hzl',z0,z1,z2⟩:=ln_cells (HZ.out _ HI5.out.s.q) k hk;injection hz' with hz';injection hz' with hz1 hz2;subst hz1 hz2;rw [hy] at z1;clear z0 z2;by_cases ht0:0≤y.time
      ·have HT0:=Lib.hid ht0;have hok3:SyOk ((Z1).op (fun S now=>S.file u.c now x.info (y.name ++ nSfx) 384 ByteArray.empty)).1 (N+20+3*k+1+1):=HI5.out.ok.op (HI5.out.ok.fine.file _ _ _ _ _ _);have hno3:=HI5.out.now.op (fun S now=>S.file u.c now x.info (y.name ++ nSfx) 384 ByteArray.empty);have HIf:=Lib.hid (fun (A:World) (hA:FlI Q L0 w pf pw R pv bx bc (w.heap.size+1) u.c x (N+20+3*k+1) (Z1) A)=>hA.call HW.out.2.1 (M':=N+20+3*k+1+1) (Z':=((Z1).op (fun S now=>S.file u.c now x.info (y.name ++ nSfx) 384 ByteArray.empty)).1) (P:=fun e=>e=.returned (.tuple #[.int .i64 ((Z1).op (fun S now=>S.file u.c now x.info (y.name ++ nSfx) 384 ByteArray.empty)).2.1,.int .i64 ((Z1).op (fun S now=>S.file u.c now x.info (y.name ++ nSfx) 384 ByteArray.empty)).2.2])) (f:=15) (args:=#[.pointer (some ⟨pf,0,none⟩),.agg #[.int .i64 u.u,.int .i64 u.g],.int .i64 x.info,.string (y.name ++ nSfx),.int .i64 384,.string ByteArray.empty]) hok3 hno3
        (fun R' h1=>screate_any h1 hA.ok.fine.ok (by omega) ⟨hA.ok.c0,by have:=hA.ok.cN;omega⟩ (by have:=hA.ok.pl;omega) u.c x.info (y.name ++ nSfx) 384 ByteArray.empty (by rw [ByteArray.size_append];have:nSfx.size=10:=rfl;omega) (by decide)))
       have hst3:=op_still HSt1.out (fun S now=>S.file u.c now x.info (y.name ++ nSfx) 384 ByteArray.empty);have HSt3:=Lib.hid hst3;have hq10:¬ 9223372036854775807<y.name.size+10:=by omega
       generalize hZ3:(Z1).op (fun S now=>S.file u.c now x.info (y.name ++ nSfx) 384 ByteArray.empty)=r3 at hok3 hno3 HIf hst3 HSt3;have HZ3:=Lib.hid hZ3;obtain⟨Z3,d3,g3⟩:=r3;dsimp only at hok3 hno3 HIf hst3 HSt3;clear hst3 hok3 hno3 hZ3;go_upto_region 12 with fail;have hbd:Below w5.heap.size w5 w5.drew:=(Below.refl _ _).drew;have hId:=HI5.out.keep HW.out.2.1 hbd;have HId:=Lib.hid hId;unfold nSfx at HIf;refine wp_region_held_drew (S:=fun w'=>SFl Q L0 w' w bx bc (w.heap.size+1) u.c x) (by kernel_rfl) hId.s (fun hHeld=>?_);refine reg_takes 10 [(0,73),(1,74),(2,75),(3,76),(4,77),(5,78),(6,79),(7,80),(8,81),(9,82)] (by kernel_rfl) (by kernel_rfl) rfl (fun _ _ _ _ _ h=>h) hHeld ?_
       iterate 10 (apply takes_cons rfl rfl;(· (intro w9 hSw;obtain ⟨s1,-,-⟩:=hSw.x.facts;obtain ⟨s2,-,-⟩:=hSw.c.facts;obtain ⟨zb',zo',hz',hzl,s3,s4,s5⟩:=ln_cells (HZ.out _ hSw.q) k hk;injection hz' with hz';injection hz' with hz1 hz2;subst hz1 hz2;rw [hy] at s3 s4 s5;clear hSw;go_simp;(try with_reducible rfl)));simp only [List.setIfInBounds_toArray,List.set_cons_zero,List.set_cons_succ])
       refine takes_nil ?_;refine reg_call 10 83 (R:=fun v w'=>FlI Q L0 w pf pw R pv bx bc (w.heap.size+1) u.c x (N+20+3*k+1+1) Z3 w') (by kernel_rfl) rfl rfl rfl ?xi ((HIf.out _ HId.out).mono (fun e w' ⟨he,hw⟩=>⟨_,he,hw⟩)) (fun v w' hw=>hw.s) ?_
       case xi=>(go_simp;first | rfl | exact ⟨rfl,rfl⟩ | exact ⟨⟨rfl,rfl⟩,rfl⟩)
       rintro v7 w7 hI7;simp only [List.setIfInBounds_toArray,List.set_cons_zero,List.set_cons_succ];refine wpAnyH_done (by kernel_rfl) ?_ _;have HI7:=Lib.hid hI7;clear hHeld hId hbd hI7 z1 ht0 hq10;obtain⟨zb',zo',hz',hzl',z0,z1,z2⟩:=ln_cells (HZ.out _ HI7.out.s.q) k hk;injection hz' with hz';injection hz' with hz1 hz2;subst hz1 hz2;rw [hy] at z1;have hbt:=and255 y.time;have HTc:=Lib.hid (HI7.out.call HW.out.2.1 (M':=N+20+3*(k+1)) (Z':=(Z3).tickF (y.time % 256)) (P:=fun e=>∃ v,e=.returned (.int .i64 v)) (f:=27) (args:=#[.pointer (some ⟨pf,0,none⟩),.int .i64 (y.time % 256)]) ((HI7.out.ok.mono (by omega)).tickF _) (HI7.out.now.tick _) (fun R' h1=>(stickF_any h1 (y.time % 256) (by omega) HI7.out.now).mono (fun e B ⟨hv,h2,h3⟩=>⟨hv,R',h2,Stp.of_mod (h3.mono (fun q hq=>.inl hq))⟩)));have HEq:=Lib.hid (show Y1.fillsF u.c x l=((Z3).tickF (y.time % 256)).fillsF u.c x (l.drop (k+1)) by rw [HFl.out,HF1.out,if_pos HT0.out,if_neg HGs.out,HZ3.out]);have HLt:=Lib.hid hk;clear z0 z2;go_wp2_with fail;refine HTc.out.mono ?_;rintro e w9 ⟨⟨v9,rfl⟩,hI9⟩;have HI9:=Lib.hid hI9;clear hI9 z1 hbt;go_wp2_with fail;go_roundw
       case rel=>exact ⟨k+1,_,by have:=HLt.out;omega,by go_num,HEq.out,HI9.out,tick_still HSt3.out _⟩
       case measure=>
        have:=HLt.out;simp [intOf];omega
      ·have HT0:=Lib.hid ht0;clear ht0 z1;obtain⟨zb',zo',hz',hzl',z0,z1,z2⟩:=ln_cells (HZ.out _ HI5.out.s.q) k hk;injection hz' with hz';injection hz' with hz1 hz2;subst hz1 hz2;rw [hy] at z1;have hbt:=and255 y.time;have HTc:=Lib.hid (HI5.out.call HW.out.2.1 (M':=N+20+3*(k+1)) (Z':=(Z1).tickF (y.time % 256)) (P:=fun e=>∃ v,e=.returned (.int .i64 v)) (f:=27) (args:=#[.pointer (some ⟨pf,0,none⟩),.int .i64 (y.time % 256)]) ((HI5.out.ok.mono (by omega)).tickF _) (HI5.out.now.tick _) (fun R' h1=>(stickF_any h1 (y.time % 256) (by omega) HI5.out.now).mono (fun e B ⟨hv,h2,h3⟩=>⟨hv,R',h2,Stp.of_mod (h3.mono (fun q hq=>.inl hq))⟩)));have HEq:=Lib.hid (show Y1.fillsF u.c x l=((Z1).tickF (y.time % 256)).fillsF u.c x (l.drop (k+1)) by rw [HFl.out,HF1.out,if_neg HT0.out,if_neg HGs.out]);have HLt:=Lib.hid hk;clear z0 z2;go_wp2_with fail;refine HTc.out.mono ?_;rintro e w9 ⟨⟨v9,rfl⟩,hI9⟩;have HI9:=Lib.hid hI9;clear hI9 z1 hbt;go_wp2_with fail;go_roundw
       case rel=>exact ⟨k+1,_,by have:=HLt.out;omega,by go_num,HEq.out,HI9.out,tick_still HSt1.out _⟩
       case measure=>
        have:=HLt.out;simp [intOf];omega
   ·obtain rfl:k=l.length:=by omega
    rw [List.drop_length] at hfl;have HE:=Lib.hid (And.intro hI (And.intro hst hfl));obtain⟨xc,xf,xz⟩:=hI.s.x.facts;obtain⟨rc,rf,rz⟩:=hI.s.r.facts;clear hI hst hfl hk;go_wp2_with fail;obtain⟨R9,hy9,hs9,hl9⟩:=HE.out.1.y;have he:=HE.out.2.2;rw [he];exact filled_end (x:=x) HE.out.1.s.r.set7 rfl rfl rfl ⟨rfl,Goes.set7 ⟨R9,hy9,hs9⟩ HE.out.1.s.r (by omega) _ _ _ _ _ _ _,HE.out.1.now,HE.out.2.1⟩
end
end
end Go.Proofs.YtbndfmkgamdgeaaGreatDoor
