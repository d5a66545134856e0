import Derived.Test.YtihdbncoijhihaaGreatDoorCT30
import Derived.Test.YtihdbncoijhihaaGreatDoorCT24
import Derived.Test.YtihdbncoijhihaaGreatDoorCT21
import Derived.Test.YtihdbncoijhihaaGreatDoorCT4
set_option linter.unusedVariables false
set_option linter.unusedSimpArgs false
namespace Go.Proofs.YtihdbncoijhihaaGreatDoor
open Go.RowKit
section
variable {w w' : World} {pf : Nat} {R R' : Rf} {S : Fs}
theorem OI.rf {base : Nat} {v : Value} {l : List Int} (ho : OI w base v l) (h : RfAt w pf R S) {F' : Nat→Prop} (hs : Stp (R.F pf) F' w w') : OI w' base v l:=
 own_mod ho hs.mod (fun k hk he=>by
  obtain⟨-,cur,hc⟩:=own_obj1 ho he
  obtain⟨o,h1,hd⟩:=h.kind hk
  rw [hc] at h1
  injection h1 with h1
  subst h1
  rw [show rfKind (.cells cur 3 (0,0))=false from rfl] at hd
  cases hd)
theorem RfAt.oi (h : RfAt w pf R S) {base : Nat} {v : Value} {l : List Int} (ho : OI w base v l) (hm : Mod (fun j=>v.ownBlock=some j) w w') : RfAt w' pf R S:=
 h.mod hm (fun k o hk hk2=>by
  obtain⟨-,cur,hc⟩:=own_obj1 ho hk
  rw [hc] at hk2
  injection hk2 with hk2
  subst hk2
  exact⟨rfl,fun cur e=>by cases e⟩)
structure PlRf (w wr : World) (pf : Nat) (S : Fs) : Prop where
 st : ∃ R,RfAt wr pf R S∧Rf.Like rf0 R∧∀ k,R.F pf k→w.heap.size≤k
 below : Below w.heap.size w wr
theorem PlRf.keep {wr : World} (h : PlRf w wr pf S) (hb : Below wr.heap.size wr w') : PlRf w w' pf S:=by
 obtain⟨⟨R,h1,h2,h3⟩,h6⟩:=h
 exact⟨⟨R,h1.keep hb,h2,h3⟩,bnext h6 hb⟩
theorem PlRf.of {wr : World} (hb : Below w.heap.size w wr) (hl : Rf.Like rf0 R) (hF : ∀ k,R.F pf k→w.heap.size≤k) (hR : RfAt w' pf R' S) (hS : Stp (R.F pf) (R'.F pf) wr w') (hL : Rf.Like R R') : PlRf w w' pf S:=
 ⟨⟨R',hR,hl.trans hL,hS.above hF hb.size⟩,hb.trans (hS.below hF hb.size)⟩
theorem PlRf.oi {wr : World} (h : PlRf w wr pf S) {v : Value} {l : List Int} (ho : OI wr w.heap.size v l) (hm : Mod (fun j=>v.ownBlock=some j) wr w') : PlRf w w' pf S:=by
 obtain⟨⟨R,h1,h2,h3⟩,h6⟩:=h
 exact⟨⟨R,h1.oi ho hm,h2,h3⟩,h6.trans (hm.below (fun k hk=>(own_obj1 ho hk).1) h6.size)⟩
theorem pl_small {N : Nat} (h : FsOk S N) (hp : Pl S) : S.ns.length≤N:=by
 have h1:=hp.len
 have h2:=h.lN
 omega
theorem itemF_eq (S : Fs) (it : It) : itemF S it=if (nodeF S it).2≠0 then ((((nodeF S it).1.chown c00 0 (nodeF S it).2 it.uid it.gid).1.chmod c00 0 (nodeF S it).2 it.mode).1,(nodeF S it).2) else nodeF S it:=rfl
end
set_option maxRecDepth 100000 in
set_option maxHeartbeats 8000000 in
theorem rplant22K_any (w : World) {ma : Option Addr} {mn mc : Nat} {ia : Option Addr} {il ic : Nat} {ms : List Mt} {is : List It} (h : SdAt w ma mn mc ia il ic ms is) (hml : ms.length≤10000) (hil : is.length≤10000)
  (hmp : ∀ m ∈ ms,m.path.size≤100000) (hip : ∀ x ∈ is,x.path.size≤100000∧x.data.size≤100000) :
  Calls Tryz.prog 72 #[.agg #[.slice ma mn mc,.slice ia il ic]] w fun e w'=>∃ pf R,e=.returned (.pointer (some ⟨pf,0,none⟩))∧RfAt w' pf R (plantF ms is)∧(∀ k,R.F pf k→w.heap.size≤k)∧Rf.Like rf0 R∧Below w.heap.size w w':=by
 have HS:=Lib.hid h
 have HL:=Lib.hid (rlimits22_any (w.alloc (.cells #[.slice ma mn mc,.slice ia il ic] 25)) (h.keep ((Below.refl _ w).alloc (Nat.le_refl _) _)))
 have HN:=Lib.hid (fun w=>rnew_any (limitsF ms).1 (limitsF ms).2 (limits_ok ms) w)
 have HMp:=Lib.hid hmp
 have HIp:=Lib.hid hip
 have hln:=h.m.1
 have hli:=h.i.1
 subst hln hli
 have hB0:=Blk.new w #[.slice ma ms.length mc,.slice ia is.length ic] 25
 have hb0:=balloc (Below.refl w.heap.size w) (.cells #[.slice ma ms.length mc,.slice ia is.length ic] 25)
 have HPl:=Lib.hid (show plantF ms is=timesF (itemsF (mountsF (fs0.addRoot 0 (limitsF ms).1 (limitsF ms).2) ms) is).1 (is.zip (itemsF (mountsF (fs0.addRoot 0 (limitsF ms).1 (limitsF ms).2) ms) is).2) from rfl)
 have HOk:=Lib.hid (And.intro (FsOk.new (limitsF ms).1 (limitsF ms).2) (Pl.new (limitsF ms).1 (limitsF ms).2))
 generalize fs0.addRoot 0 (limitsF ms).1 (limitsF ms).2=S0 at HN HPl HOk
 generalize (limitsF ms).1=lb at HL HN
 generalize (limitsF ms).2=ln at HL HN
 clear h hmp hip
 go_enter Tryz.func72,Tryz.ntmps72
 go_wp2_with fail
 refine HL.out.mono ?_
 rintro e w1 ⟨rfl,hb1⟩
 have hB1:=hB0.keep hb1
 have hbw1:=bnext hb0 hb1
 clear hB0 hb0 hb1
 go_wp2_with fail
 refine (HN.out _).mono ?_
 rintro e w2 ⟨pf,R0,rfl,hR0,hF0,hL0,hb2⟩
 have hB2:=hB1.keep hb2
 have hP0 : PlRf w w2 pf S0:=⟨⟨R0,hR0,hL0,fun k hk=>Nat.le_trans hbw1.size (hF0 k hk)⟩,bnext hbw1 hb2⟩
 have HP0:=Lib.hid hP0
 have HB2:=Lib.hid hB2
 obtain⟨bc,bf,bz⟩:=hB2.facts
 clear hB1 hbw1 hR0 hL0 hb2 hF0 hB2 hP0
 go_wp2_with fail
 go_loopw [6] (fun t6 wr=>∃ k : Nat,k≤ms.length∧t6=.int .i64 k∧PlRf w wr pf (mountsF S0 (ms.take k))∧Blk wr w.heap.size #[.slice ma ms.length mc,.slice ia is.length ic] 25) (fun t6 _=>ms.length - (intOf t6).toNat)
 case atStart=>exact ⟨0,Nat.zero_le _,rfl,HP0.out,HB2.out⟩
 case round=>
  obtain⟨k,hk,rfl,hP,hB⟩:=hrel
  have HP:=Lib.hid hP
  have HB:=Lib.hid hB
  clear bc bf bz
  obtain⟨bc,bf,bz⟩:=hB.facts
  have hbw:=hP.below
  clear hP hB
  by_cases hlt : k < ms.length
  ·obtain ⟨b,off,rfl,hbl⟩:=slice_some HS.out.m (by omega)
   obtain⟨c0,c1,c2⟩:=mt_cells (HS.out.m.below hbw (Nat.le_refl _)) k hlt
   have HQ:=Lib.hid (show mountsF S0 (ms.take (k + 1))=if ms[k].path=topB then mountsF S0 (ms.take k) else mountF (mountsF S0 (ms.take k)) ms[k] by rw [List.take_succ_eq_append_getElem hlt,mountsF_snoc])
   have HMk:=Lib.hid (HMp.out ms[k] (List.getElem_mem hlt))
   have HOkk:=Lib.hid (show FsOk (mountsF S0 (ms.take k)) (1 + 2 * k)∧Pl (mountsF S0 (ms.take k)) by
    have:=mountsF_ok HOk.out.1 (ms.take k)
    rw [List.length_take,Nat.min_eq_left hk] at this
    exact⟨this,HOk.out.2.mountsF HOk.out.1 _⟩)
   generalize ms[k]=m at c0 c1 c2 HQ HMk
   generalize hS2 : mountsF S0 (ms.take (k + 1))=S2 at HQ
   have HS2:=Lib.hid hS2
   clear hS2
   generalize hSk : mountsF S0 (ms.take k)=Sk at HQ HP HOkk
   have HSk:=Lib.hid hSk
   clear hSk hbw
   by_cases h1 : m.path=topB
   ·have h1b : m.path.toList=[47]:=by rw [h1,ba_list];rfl
    have HE:=Lib.hid (HQ.out.trans (if_pos h1))
    clear h1
    go_wp2_with fail
    go_roundw
    case rel=>exact ⟨k + 1,by omega,by go_num,by rw [show mountsF S0 (ms.take (k + 1))=Sk from by rw [HS2.out];exact HE.out];exact HP.out,HB.out⟩
    case measure=>simp [intOf];omega
   ·have h1b : (m.path.toList == [47])=false:=by
     rw [ba_list]
     simp only [beq_eq_false_iff_ne,ne_eq]
     exact fun e=>h1 (ba_eq e)
    have HE:=Lib.hid (HQ.out.trans (if_neg h1))
    obtain⟨⟨R,hR,hlk,hF⟩,hbw⟩:=HP.out
    have HM:=Lib.hid (rmount22_any hR HOkk.out.1 (by omega) (by have:=pl_small HOkk.out.1 HOkk.out.2;omega) hlk.now m HMk.out)
    have HW:=Lib.hid (And.intro hR (And.intro hlk (And.intro hF hbw)))
    clear h1 hR hlk hF hbw
    go_wp2_with fail
    refine HM.out.mono ?_
    rintro e w5 ⟨rfl,R5,hR5,hS5,hL5⟩
    obtain⟨hR,hlk,hF,hbw⟩:=HW.out
    have HB5:=Lib.hid (HB.out.rf hR hS5 rfl)
    have HP5:=Lib.hid (PlRf.of hbw hlk hF hR5 hS5 hL5)
    clear hR5 hS5 hL5 hR hlk hF hbw
    go_wp2_with fail
    go_roundw
    case rel=>exact ⟨k + 1,by omega,by go_num,by rw [show mountsF S0 (ms.take (k + 1))=mountF Sk m from by rw [HS2.out];exact HE.out];exact HP5.out,HB5.out⟩
    case measure=>simp [intOf];omega
  ·obtain rfl : k=ms.length:=by omega
   rw [List.take_length] at HP
   have HOk1:=Lib.hid (And.intro (mountsF_ok HOk.out.1 ms) (HOk.out.2.mountsF HOk.out.1 ms))
   generalize mountsF S0 ms=S1 at HP HOk1 HPl
   have HO0:=Lib.hid (show OI wr w.heap.size (.slice none 0 0) [] from World.ownsRow_nil _ _ _ _)
   clear hbw
   go_wp2_with fail
   go_loopw [8,7] (fun t8 t7 wr=>∃ (k : Nat) (a : Option Addr) (c : Nat),k≤is.length∧t8=.int .i64 k∧t7=.slice a k c∧OI wr w.heap.size (.slice a k c) (itemsF S1 (is.take k)).2∧PlRf w wr pf (itemsF S1 (is.take k)).1∧Blk wr w.heap.size #[.slice ma ms.length mc,.slice ia is.length ic] 25) (fun t8 _ _=>is.length - (intOf t8).toNat)
   case atStart=>exact ⟨0,_,_,Nat.zero_le _,rfl,rfl,HO0.out,HP.out,HB.out⟩
   case round=>
    obtain⟨k,a,c,hk,rfl,rfl,hO,hP,hB⟩:=hrel
    have HO:=Lib.hid hO
    have HP:=Lib.hid hP
    have HB:=Lib.hid hB
    clear bc bf bz
    obtain⟨bc,bf,bz⟩:=hB.facts
    have hbw:=hP.below
    clear hP hB hO
    by_cases hlt : k < is.length
    ·obtain ⟨b,off,rfl,hbl⟩:=slice_some HS.out.i (by omega)
     obtain⟨c0,c1,c2,c3,c4,c5,c6⟩:=it_cells (HS.out.i.below hbw (Nat.le_refl _)) k hlt
     have HQ:=Lib.hid (show itemsF S1 (is.take (k + 1))=((itemF (itemsF S1 (is.take k)).1 is[k]).1,(itemsF S1 (is.take k)).2 ++ [(itemF (itemsF S1 (is.take k)).1 is[k]).2]) by rw [List.take_succ_eq_append_getElem hlt,itemsF_snoc])
     have HMk:=Lib.hid (HIp.out is[k] (List.getElem_mem hlt))
     have HOkk:=Lib.hid (show FsOk (itemsF S1 (is.take k)).1 (1 + 2 * ms.length + k)∧Pl (itemsF S1 (is.take k)).1 by
      have:=itemsF_ok HOk1.out.1 (is.take k)
      rw [List.length_take,Nat.min_eq_left hk] at this
      exact⟨this,HOk1.out.2.itemsF HOk1.out.1 _⟩)
     have HLk:=Lib.hid (show (itemsF S1 (is.take k)).2.length=k by rw [itemsF_len,List.length_take,Nat.min_eq_left hk])
     generalize is[k]=it at c0 c1 c2 c3 c4 c5 c6 HQ HMk
     generalize itemsF S1 (is.take k)=Sk at HQ HP HOkk HO HLk
     obtain⟨Sk,Lk⟩:=Sk
     have hX:=Blk.new wr #[.string it.path,.int .i64 it.kind,.int .i64 it.mode,.int .i64 it.uid,.int .i64 it.gid,.int .i64 it.mtime,.string it.data] 161
     have hbX:=(Below.refl _ wr).alloc (Nat.le_refl _) (.cells #[.string it.path,.int .i64 it.kind,.int .i64 it.mode,.int .i64 it.uid,.int .i64 it.gid,.int .i64 it.mtime,.string it.data] 161)
     clear hbw
     go_upto_region 13 with fail
     generalize wr.alloc (.cells #[.string it.path,.int .i64 it.kind,.int .i64 it.mode,.int .i64 it.uid,.int .i64 it.gid,.int .i64 it.mtime,.string it.data] 161)=X at hX hbX ⊢
     have HBX:=Lib.hid (HB.out.keep hbX)
     have HPX:=Lib.hid (HP.out.keep hbX)
     have HOX:=Lib.hid (own_below HO.out hbX (Nat.le_refl _))
     have HIX:=Lib.hid hX
     obtain⟨xc,xf,xz⟩:=hX.facts
     obtain⟨⟨R,hR,hlk,hF⟩,hbw⟩:=HPX.out
     have HM:=Lib.hid (rnode22_any hR HOkk.out.1 (by omega) (by have:=pl_small HOkk.out.1 HOkk.out.2;omega) hlk.now it HMk.out.1 HMk.out.2)
     have HW:=Lib.hid (And.intro hR (And.intro hlk (And.intro hF hbw)))
     have HOk5:=Lib.hid (nodeF_ok HOkk.out.1 it)
     have HIt:=Lib.hid (itemF_eq Sk it)
     clear hX hbX c0 c1 c2 c3 c4 c5 c6 hR hlk hF hbw
     go_wp2_with fail
     refine HM.out.mono ?_
     clear HM
     rintro e w5 ⟨rfl,R5,hR5,hS5,hL5⟩
     generalize nodeF Sk it=nd at hR5 HOk5 HIt ⊢
     obtain⟨S5,no⟩:=nd
     dsimp only at hR5 HOk5 HIt ⊢
     obtain⟨hR,hlk,hF,hbw⟩:=HW.out
     have hP5:=PlRf.of hbw hlk hF hR5 hS5 hL5
     have hB5:=HBX.out.rf hR hS5 rfl
     have hI5:=HIX.out.rf hR hS5 rfl
     have hO5 : OI w5 w.heap.size (.slice a Lk.length c) Lk:=by rw [HLk.out];exact OI.rf (l:=Lk) HOX.out hR hS5
     obtain⟨g,cap,W,hrun,hOW,hmW⟩:=hO5.app no (by rw [HLk.out];omega) hP5.below.size
     have hPW:=hP5.oi hO5 hmW
     have hBW:=hB5.oi hO5 hmW (by decide)
     have hIW:=hI5.oi hO5 hmW (by decide)
     rw [HLk.out] at hrun hOW
     have HRun:=Lib.hid hrun
     have HPW:=Lib.hid hPW
     have HBW:=Lib.hid hBW
     have HIW:=Lib.hid hIW
     have HOW:=Lib.hid hOW
     clear xc xf xz hP5 hR5 hS5 hL5 hR hlk hF hbw hB5 hI5 hO5 hrun hOW hmW hPW hBW
     obtain⟨xc,xf,xz⟩:=hIW.facts
     clear hIW
     by_cases hno : no=0
     ·have hnb : (no != 0)=false:=by simpa using hno
      have HE:=Lib.hid (HIt.out.trans (if_neg (by simp [hno])))
      clear hno
      go_wp2_with (at_builtin;refine wpList_app_run rfl rfl rfl rfl HRun.out ?_)
      go_roundw
      case rel=>
       refine ⟨k + 1,_,cap,by omega,by go_num,rfl,?_,?_,HBW.out⟩
       ·rw [HQ.out,HE.out];exact HOW.out
       ·rw [HQ.out,HE.out];exact HPW.out
      case measure=>simp [intOf];omega
     ·have hnb : (no != 0)=true:=by simpa using hno
      have HE:=Lib.hid (HIt.out.trans (if_pos hno))
      clear hno
      obtain⟨⟨R,hR,hlk,hF⟩,hbw⟩:=HPW.out
      have hnow:=hlk.now
      have HM:=Lib.hid (rowner_any hR HOk5.out no it.uid it.gid)
      rw [show R.now=0 from hnow] at HM
      have HW:=Lib.hid (And.intro hR (And.intro hlk (And.intro hF hbw)))
      clear hR hlk hF hbw hnow
      go_wp2_with (at_builtin;refine wpList_app_run rfl rfl rfl rfl HRun.out ?_)
      refine HM.out.mono ?_
      clear HM
      rintro e w6 ⟨rfl,R6,hR6,hS6,hL6⟩
      obtain⟨hR,hlk,hF,hbw⟩:=HW.out
      have hB6:=HBW.out.rf hR hS6 rfl
      have hI6:=HIW.out.rf hR hS6 rfl
      have hO6:=OI.rf HOW.out hR hS6
      have hP6:=PlRf.of hbw hlk hF hR6 hS6 hL6
      have HP6:=Lib.hid hP6
      have HB6:=Lib.hid hB6
      have HI6:=Lib.hid hI6
      have HO6:=Lib.hid hO6
      clear xc xf xz hP6 hB6 hR6 hS6 hL6 hR hlk hF hbw hO6
      obtain⟨xc,xf,xz⟩:=hI6.facts
      clear hI6 HW
      obtain⟨⟨R,hR,hlk,hF⟩,hbw⟩:=HP6.out
      have hnow:=hlk.now
      have HM:=Lib.hid (rmode_any hR (chown_ok HOk5.out c00 0 no it.uid it.gid) no it.mode)
      rw [show R.now=0 from hnow] at HM
      have HW:=Lib.hid (And.intro hR (And.intro hlk (And.intro hF hbw)))
      clear hR hlk hF hbw hnow
      go_wp2_with fail
      refine HM.out.mono ?_
      clear HM
      rintro e w7 ⟨rfl,R7,hR7,hS7,hL7⟩
      obtain⟨hR,hlk,hF,hbw⟩:=HW.out
      have HB7:=Lib.hid (HB6.out.rf hR hS7 rfl)
      have HO7:=Lib.hid (OI.rf HO6.out hR hS7)
      have HP7:=Lib.hid (PlRf.of hbw hlk hF hR7 hS7 hL7)
      clear hR7 hS7 hL7 hR hlk hF hbw
      go_wp2_with fail
      go_roundw
      case rel=>
       refine ⟨k + 1,_,cap,by omega,by go_num,rfl,?_,?_,HB7.out⟩
       ·rw [HQ.out,HE.out];exact HO7.out
       ·rw [HQ.out,HE.out];exact HP7.out
      case measure=>simp [intOf];omega
    ·obtain rfl : k=is.length:=by omega
     rw [List.take_length] at HP HO
     have HOk2:=Lib.hid (itemsF_ok HOk1.out.1 is)
     have HLm:=Lib.hid (itemsF_len S1 is)
     generalize itemsF S1 is=q at HP HO HOk2 HPl HLm
     obtain⟨S2,made⟩:=q
     dsimp only at HPl
     have hml2 : made.length=is.length:=HLm.out
     clear hbw
     go_wp2_with fail
     go_loopw [11] (fun t11 wr=>∃ k : Nat,k≤is.length∧t11=.int .i64 k∧OI wr w.heap.size (.slice a is.length c) made∧PlRf w wr pf (timesF S2 ((is.zip made).take k))∧Blk wr w.heap.size #[.slice ma ms.length mc,.slice ia is.length ic] 25) (fun t11 _=>is.length - (intOf t11).toNat)
     case atStart=>exact ⟨0,Nat.zero_le _,rfl,HO.out,HP.out,HB.out⟩
     case round=>
      obtain⟨k,hk,rfl,hO,hP,hB⟩:=hrel
      have HO3:=Lib.hid hO
      have HP3:=Lib.hid hP
      have HB3:=Lib.hid hB
      clear bc bf bz
      obtain⟨bc,bf,bz⟩:=hB.facts
      have hbw:=hP.below
      clear hP hO hB
      by_cases hlt : k < is.length
      ·obtain ⟨b,off,rfl,hbl⟩:=slice_some HS.out.i (by omega)
       obtain⟨c0,c1,c2,c3,c4,c5,c6⟩:=it_cells (HS.out.i.below hbw (Nat.le_refl _)) k hlt
       have hkm : k < made.length:=by omega
       obtain⟨g,rfl⟩ : ∃ g,a=some ⟨g,0,none⟩:=by
        obtain⟨a1,c1,e1,-,-,hf⟩:=own_form HO3.out
        injection e1 with e1 e2 e3
        rcases hf with ⟨-,h0,-⟩ | ⟨g,hg,-,-⟩
        ·omega
        ·exact ⟨g,e1.trans hg⟩
       have hO4 : OI wr w.heap.size (.slice (some ⟨g,0,none⟩) made.length c) made:=by rw [hml2];exact HO3.out
       have hgl:=(own_frozen hO4).2.2
       have hmc : wr.cell? ⟨g,k,none⟩=some (.int .i64 made[k]):=hO4.cell k hkm
       have HQ:=Lib.hid (show timesF S2 ((is.zip made).take (k + 1))=if made[k]≠0 then ((timesF S2 ((is.zip made).take k)).utime c00 0 made[k] is[k].mtime).1 else timesF S2 ((is.zip made).take k) by
        rw [List.take_succ_eq_append_getElem (by rw [List.length_zip];omega),timesF_snoc,List.getElem_zip])
       have HOkk:=Lib.hid (timesF_ok HOk2.out ((is.zip made).take k))
       generalize is[k]=it at c0 c1 c2 c3 c4 c5 c6 HQ
       generalize made[k]=no at hmc HQ
       generalize timesF S2 ((is.zip made).take k)=Sk at HQ HP3 HOkk
       clear hbw hO4
       have HMl:=Lib.hid hml2
       clear hml2
       by_cases hno : no=0
       ·have hnb : (no != 0)=false:=by simpa using hno
        have HE:=Lib.hid (HQ.out.trans (if_neg (by simp [hno])))
        clear hno
        go_wp2_with fail
        go_roundw
        case rel=>exact ⟨k + 1,by omega,by go_num,HO3.out,by rw [HE.out];exact HP3.out,HB3.out⟩
        case measure=>simp [intOf];omega
       ·have hnb : (no != 0)=true:=by simpa using hno
        have HE:=Lib.hid (HQ.out.trans (if_pos hno))
        have mixed : Tryz.prog.follows .mixedOrders=true:=by kernel_rfl
        obtain⟨⟨R,hR,hlk,hF⟩,hbw⟩:=HP3.out
        have hnow:=hlk.now
        have HM:=Lib.hid (rtime_any (hR.keep (Below.refl _ wr).drew) HOkk.out no it.mtime)
        rw [show R.now=0 from hnow] at HM
        have HW:=Lib.hid (And.intro hR (And.intro hlk (And.intro hF hbw)))
        clear hno hR hlk hF hbw hnow
        go_wp2_with fail
        refine wp_region_lex 12 mixed (by kernel_rfl) (show PanicOk _ from by repeat (first | exact pk_body | refine pk_then ?_ | refine pk_block ?_ | refine pk_scope ?_)) ?_
        simp only [List.take_succ_cons,List.take_zero,List.drop_succ_cons,List.drop_zero]
        repeat still_step
        refine wpStill_nil ?_
        go_wp2_with fail
        refine HM.out.mono ?_
        clear HM
        rintro e w7 ⟨rfl,R7,hR7,hS7,hL7⟩
        obtain⟨hR,hlk,hF,hbw⟩:=HW.out
        have hXd : Below wr.heap.size wr wr.drew:=(Below.refl _ wr).drew
        have HO7:=Lib.hid (OI.rf (own_below HO3.out hXd (Nat.le_refl _)) (hR.keep hXd) hS7)
        have HB7:=Lib.hid ((HB3.out.keep hXd).rf (hR.keep hXd) hS7 rfl)
        have HP7:=Lib.hid (PlRf.of hbw.drew hlk hF hR7 hS7 hL7)
        clear hR7 hS7 hL7 hR hlk hF hbw hXd
        go_wp2_with fail
        go_roundw
        case rel=>exact ⟨k + 1,by omega,by go_num,HO7.out,by rw [HE.out];exact HP7.out,HB7.out⟩
        case measure=>simp [intOf];omega
      ·obtain rfl : k=is.length:=by omega
       rw [List.take_of_length_le (by rw [List.length_zip];omega),← HPl.out] at HP3
       obtain⟨⟨R,hR,hlk,hF⟩,hbw⟩:=HP3.out
       have HX:=Lib.hid (show ∃ R,RfAt wr pf R (plantF ms is)∧(∀ k,R.F pf k→w.heap.size≤k)∧Rf.Like rf0 R∧Below w.heap.size w wr from ⟨R,hR,hF,hlk,hbw⟩)
       clear hR hlk hF hbw
       go_wp2_with fail
       go_ret
       obtain⟨R,h1,h2,h3,h4⟩:=HX.out
       exact⟨pf,R,rfl,h1,h2,h3,h4⟩
end Go.Proofs.YtihdbncoijhihaaGreatDoor
namespace Go.Proofs.YtihdbncoijhihaaGreatDoor
open Go.RowKit
def Fs.withinN (S : Fs) (base : Int) : Nat→Int→Bool
 | 0,_=>false
 | n + 1,no=>if no=0 then false else if no=base then true else S.withinN base n (S.above no)
def Fs.within (S : Fs) (no base : Int) : Bool:=S.withinN base (S.ns.length + 1) no
def Fs.busy (S : Fs) (no : Int) : Bool:=(S.ds.drop 1).any (fun d=>S.within d.over no)
def entName (l : List En) (no : Int) : Option ByteArray:=(l.find? (fun x=>x.no == no)).map (·.name)
def Fs.entsOf (S : Fs) (no : Int) : List En:=match S.get no with | some a=>a.ents | none=>[]
def Fs.child (S : Fs) (no : Int) : Int:=match S.get no with
 | none=>no
 | some a=>if S.root a.dev=no∧1 < a.dev then (match S.dev a.dev with | some v=>v.over | none=>no) else no
def Fs.whereN (S : Fs) : Nat→Int→ByteArray→Option ByteArray
 | 0,_,_=>none
 | n + 1,no,s=>if no=1 then some (if s.size=0 then topB else s) else match entName (S.entsOf (S.above no)) (S.child no) with
  | none=>none
  | some nm=>S.whereN n (S.above no) (topB ++ nm ++ s)
def Fs.place_ (S : Fs) (no : Int) : Option ByteArray:=S.whereN (S.ns.length + 1) no ByteArray.empty
theorem entName_cons (x : En) (l : List En) (no : Int) : entName (x :: l) no=if x.no=no then some x.name else entName l no:=by
 unfold entName
 rw [List.find?_cons]
 by_cases h : x.no=no
 ·rw [if_pos h,show (x.no == no)=true by simpa using h];rfl
 ·rw [if_neg h,show (x.no == no)=false by simpa using h]
theorem entName_mem {l : List En} {no : Int} {s : ByteArray} (h : entName l no=some s) : ∃ x ∈ l,x.name=s:=by
 unfold entName at h
 cases hf : l.find? (fun x=>x.no == no) with
 | none=>rw [hf] at h;cases h
 | some x=>
  rw [hf] at h
  exact⟨x,List.mem_of_find?_eq_some hf,by simpa using h⟩
section
variable {S : Fs} {N : Nat}
theorem get_zero (hk : FsOk S N) : S.get 0=none:=by
 cases h : S.get 0 with
 | none=>rfl
 | some a=>
  have:=(hk.get h).2.2.1
  omega
theorem above_zero (hk : FsOk S N) : S.above 0=0:=above_none (get_zero hk)
theorem ents_zero (hk : FsOk S N) : S.entsOf 0=[]:=by unfold Fs.entsOf;rw [get_zero hk]
theorem above_step (hk : FsOk S N) (h : Pl S) {no : Int} (hne : S.above no≠no) : S.above no=0∨(1≤S.above no∧S.above no < no∧no≤S.last∧no≠1):=by
 cases hg : S.get no with
 | none=>exact .inl (above_none hg)
 | some a=>
  by_cases hd : a.kind=1
  ·by_cases h1 : no=1
   ·subst h1
    exact absurd (above_top hk h hg hd) hne
   ·have:=above_lt hk h hg hd h1
    exact .inr ⟨this.1,this.2,get_low hk.nums hg,h1⟩
  ·exact .inl (above_leaf hg hd)
theorem above_end (hk : FsOk S N) (h : Pl S) {no : Int} (he : S.above no=no) : no=0∨no=1:=by
 cases hg : S.get no with
 | none=>rw [above_none hg] at he;exact .inl he.symm
 | some a=>
  by_cases hd : a.kind=1
  ·by_cases h1 : no=1
   ·exact .inr h1
   ·have:=above_lt hk h hg hd h1
    omega
  ·rw [above_leaf hg hd] at he
   exact .inl he.symm
theorem pl_one (hk : FsOk S N) (h : Pl S) : 1≤S.ns.length:=by
 have h1:=h.top
 have h2:=hk.d1
 have h3:=h.len
 unfold Fs.root at h1
 rw [if_pos (by omega)] at h1
 rw [show ((1 : Int) - 1).toNat=0 from rfl,List.getElem?_eq_getElem (by omega)] at h1
 have h4:=hk.root S.ds[0] (List.getElem_mem _)
 simp only at h1
 omega
theorem above_one (hk : FsOk S N) (h : Pl S) : S.above 1=1:=by
 obtain⟨a,hg,hd⟩:=h.one
 exact above_top hk h hg hd
theorem within_zero (base : Int) (n : Nat) : S.withinN base n 0=false:=by cases n <;> simp [Fs.withinN]
theorem within_fix {base no : Int} (h1 : S.above no=no) (h2 : no≠base) (n : Nat) : S.withinN base n no=false:=by
 induction n with
 | zero=>rfl
 | succ n ih=>
  rw [Fs.withinN,if_neg h2,h1,ih]
  split <;> rfl
def Fs.need (S : Fs) (k : Nat) (no : Int) : Prop:=no=0∨no < k∧1≤k∨(S.above no=0∧2≤k)
theorem need_start (hk : FsOk S N) (h : Pl S) (no : Int) : S.need (S.ns.length + 1) no:=by
 have h1:=pl_one hk h
 by_cases hne : S.above no=no
 ·rcases above_end hk h hne with h0 | h0
  ·exact .inl h0
  ·exact .inr (.inl ⟨by omega,by omega⟩)
 ·rcases above_step hk h hne with h0 | ⟨-,-,h3,-⟩
  ·exact .inr (.inr ⟨h0,by omega⟩)
  ·have:=h.len
   exact .inr (.inl ⟨by omega,by omega⟩)
theorem within_yes {no base : Int} {k : Nat} (hn : S.need k no) (h0 : no≠0) (hb : no=base) : S.withinN base k no=true:=by
 cases k with
 | zero=>rcases hn with h | ⟨-,h⟩ | ⟨-,h⟩ <;> omega
 | succ k=>unfold Fs.withinN;rw [if_neg h0,if_pos hb]
theorem within_step (hk : FsOk S N) (h : Pl S) {no base : Int} {k : Nat} (hn : S.need k no) (h0 : no≠0) (hb : no≠base) (hu : S.above no≠no) : S.withinN base k no=S.withinN base (k - 1) (S.above no)∧S.need (k - 1) (S.above no):=by
 have h1 : 1≤k:=by rcases hn with h | ⟨-,h⟩ | ⟨-,h⟩ <;> omega
 obtain⟨k,rfl⟩ : ∃ j,k=j + 1:=⟨k - 1,by omega⟩
 refine ⟨by rw [Fs.withinN,if_neg h0,if_neg hb];rfl,?_⟩
 rcases above_step hk h hu with h0 | ⟨h1,h2,h3,-⟩
 ·exact .inl h0
 ·rcases hn with h | ⟨h,-⟩ | ⟨h,-⟩
  ·exact absurd h h0
  ·exact .inr (.inl ⟨by omega,by omega⟩)
  ·omega
def catL (l : List (List UInt8)) : List UInt8:=l.reverse.flatMap (fun s=>47 :: s)
theorem catL_snoc (l : List (List UInt8)) (s : List UInt8) : catL (l ++ [s])=47 :: (s ++ catL l):=by simp [catL]
theorem catL_nil (l : List (List UInt8)) : catL l=[] ↔ l=[]:=by
 constructor
 ·intro h
  cases l with
  | nil=>rfl
  | cons x l=>simp [catL] at h
 ·rintro rfl;rfl
theorem catL_len {l : List (List UInt8)} (h : ∀ x ∈ l,x.length≤255) : (catL l).length≤256 * l.length:=by
 unfold catL
 rw [List.length_flatMap]
 have : ∀ m : List (List UInt8),(∀ x ∈ m,x.length≤255)→(m.map (fun s=>(47 :: s).length)).sum≤256 * m.length:=by
  intro m
  induction m with
  | nil=>intro _;simp
  | cons x m ih=>
   intro hx
   have h1:=ih (fun y hy=>hx y (List.mem_cons_of_mem _ hy))
   have h2:=hx x List.mem_cons_self
   simp only [List.map_cons,List.sum_cons,List.length_cons]
   simp only [List.length_cons] at h1
   omega
 have h1:=this l.reverse (fun x hx=>h x (List.mem_reverse.1 hx))
 rw [List.length_reverse] at h1
 exact h1
structure WhSt (S : Fs) (no0 no : Int) (l : List (List UInt8)) : Prop where
 few : l.length≤S.ns.length
 small : ∀ x ∈ l,x.length≤255
 eq : S.place_ no0=S.whereN (S.ns.length + 1 - l.length) no (str (catL l))
 room : 1≤no→no≤S.last→no.toNat + l.length≤S.ns.length + 1
theorem WhSt.start (h : Pl S) (no : Int) : WhSt S no no []:=⟨Nat.zero_le _,(by intro x hx;cases hx),rfl,fun _ h2=>by
 have:=h.len
 show no.toNat + 0≤_
 omega⟩
theorem where_zero (hk : FsOk S N) (k : Nat) (s : ByteArray) : S.whereN k 0 s=none:=by
 cases k with
 | zero=>rfl
 | succ k=>
  unfold Fs.whereN
  rw [if_neg (by decide),above_zero hk,ents_zero hk]
  rfl
theorem WhSt.top (hk : FsOk S N) (h : Pl S) {no0 : Int} {l : List (List UInt8)} (hs : WhSt S no0 1 l) : S.place_ no0=some (if l=[] then topB else str (catL l)):=by
 have h1:=pl_one hk h
 have h2:=h.len
 have h3:=hs.room (Int.le_refl _) (by omega)
 rw [hs.eq]
 obtain⟨k,hkk⟩ : ∃ j,S.ns.length + 1 - l.length=j + 1:=⟨S.ns.length - l.length,by omega⟩
 rw [hkk]
 unfold Fs.whereN
 rw [if_pos rfl]
 by_cases hl : l=[]
 ·subst hl;rfl
 ·rw [if_neg hl,if_neg]
  rw [str_size]
  intro h0
  exact hl ((catL_nil l).1 (List.eq_nil_of_length_eq_zero h0))
theorem WhSt.other (hk : FsOk S N) (h : Pl S) {no0 no : Int} {l : List (List UInt8)} (hs : WhSt S no0 no l) (he : S.above no=no) (h1 : no≠1) : S.place_ no0=none:=by
 obtain rfl : no=0:=(above_end hk h he).resolve_right h1
 rw [hs.eq,where_zero hk]
theorem WhSt.fail (hk : FsOk S N) (h : Pl S) {no0 no : Int} {l : List (List UInt8)} (hs : WhSt S no0 no l) (hu : S.above no≠no) (hn : entName (S.entsOf (S.above no)) (S.child no)=none) : S.place_ no0=none:=by
 rw [hs.eq]
 have h1 : no≠1:=by
  rintro rfl
  exact hu (above_one hk h)
 cases S.ns.length + 1 - l.length with
 | zero=>rfl
 | succ k=>unfold Fs.whereN;rw [if_neg h1,hn]
theorem child_eq (S : Fs) (no : Int) : S.child no=match S.get no with
 | none=>no
 | some a=>if S.root a.dev=no∧1 < a.dev then (match S.dev a.dev with | some v=>v.over | none=>no) else no:=rfl
theorem child_none {no : Int} (hg : S.get no=none) : S.child no=no:=by rw [child_eq,hg]
theorem child_same {no : Int} {a : An} (hg : S.get no=some a) (hr : S.root a.dev≠no) : S.child no=no:=by rw [child_eq,hg];exact if_neg (fun h=>hr h.1)
theorem child_over (hk : FsOk S N) (h : Pl S) {no : Int} {a : An} (hg : S.get no=some a) (hr : S.root a.dev=no) (h1 : no≠1) : 1 < a.dev∧∃ v,S.dev a.dev=some v∧S.child no=v.over:=by
 have hd:=(hk.get hg).1.dev
 have hd1 : 1 < a.dev:=by
  rcases Int.lt_or_le 1 a.dev with h2 | h2
  ·exact h2
  ·exfalso
   have h3 : a.dev=1:=by omega
   rw [h3,h.top] at hr
   exact h1 hr.symm
 obtain⟨v,hv,-,-,-⟩:=root_of hk hd.1 hd.2
 refine ⟨hd1,v,hv,?_⟩
 rw [child_eq,hg]
 show (if _ then _ else _)=_
 rw [if_pos ⟨hr,hd1⟩,hv]
theorem WhSt.more (hk : FsOk S N) (h : Pl S) {no0 no : Int} {l : List (List UInt8)} (hs : WhSt S no0 no l) (hu : S.above no≠no) {s : ByteArray} (hn : entName (S.entsOf (S.above no)) (S.child no)=some s) : WhSt S no0 (S.above no) (l ++ [s.data.toList])∧l.length + 1≤S.ns.length:=by
 have hab : 1≤S.above no∧S.above no < no∧no≤S.last∧no≠1:=by
  rcases above_step hk h hu with h0 | h0
  ·rw [h0,ents_zero hk] at hn
   cases hn
  ·exact h0
 obtain⟨h1,h2,h3,h4⟩:=hab
 have hro:=hs.room (by omega) h3
 have hln : l.length + 1≤S.ns.length:=by omega
 have hnm : NmOk s:=by
  obtain⟨x,hx,rfl⟩:=entName_mem hn
  unfold Fs.entsOf at hx
  cases hg : S.get (S.above no) with
  | none=>rw [hg] at hx;cases hx
  | some a=>
   rw [hg] at hx
   exact h.names a (an_mem hg) x hx
 refine ⟨⟨by simp;omega,fun x hx=>?_,?_,fun _ _=>by simp;omega⟩,hln⟩
 ·rcases List.mem_append.1 hx with hx | hx
  ·exact hs.small x hx
  ·simp at hx
   subst hx
   have:=hnm.2
   have h5 : s.data.toList.length=s.size:=Array.length_toList
   omega
 ·rw [hs.eq,catL_snoc]
  obtain⟨k,hkk⟩ : ∃ j,S.ns.length + 1 - l.length=j + 1:=⟨S.ns.length - l.length,by omega⟩
  rw [hkk,show S.ns.length + 1 - (l ++ [s.data.toList]).length=k by simp;omega,Fs.whereN,if_neg h4,hn]
  show S.whereN k _ _=S.whereN k _ _
  congr 1
end
end Go.Proofs.YtihdbncoijhihaaGreatDoor
