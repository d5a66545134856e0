import Derived.Test.YtihdbncoijhihaaGreatCL24
import Derived.Test.YtihdbncoijhihaaGreatCL23
set_option linter.unusedVariables false
set_option linter.unusedSimpArgs false
set_option maxRecDepth 100000
set_option maxHeartbeats 16000000
namespace Go.Proofs.YtihdbncoijhihaaGreat
section
open Go.RowKit
def encI (k:Int):List Value:=[.int .i64 k]
theorem encI_len (k:Int):(encI k).length=1:=rfl
def OI (w:World) (base:Nat) (v:Value) (l:List Int):Prop:=w.ownsRow base 3 1 v l.length (l.flatMap encI)
theorem int_info:(Tryz.prog.info? 3).map (fun i=>(i.zero,i.size,i.bytes))=some (some (.int .i64 0),1,8):=by kernel_rfl
theorem OI.app {w:World} {base:Nat} {v:Value} {l:List Int} (h:OI w base v l) (k:Int) (hl:l.length≤1000000) (hb:base≤w.heap.size) :
  ∃ g cap W,(Builtin.append_ #[78,78] 78 #[v,.slice (some ⟨w.heap.size,0,none⟩) 1 1]).run Tryz.prog (w.alloc (.cells #[.int .i64 k] 3))=.ok (.slice (some ⟨g,0,none⟩) (l.length+1) cap) W∧
   OI W base (.slice (some ⟨g,0,none⟩) (l.length+1) cap) (l ++ [k])∧Mod (fun j=>v.ownBlock=some j) w W:=by
 obtain⟨i0,hi,hz0,hz1,hz2⟩:=info_parts int_info;have ho:=World.ownsRow.alloc h (.cells #[.int .i64 k] 3);obtain⟨g,cap,W,h1,h2,h3,h4⟩:=step_app 78 Tryz.underlying78 hi hz0 hz1 hz2 rfl (by omega) ho ⟨w.heap.size,0,none⟩ 1 1 [.int .i64 k] rfl (World.news_of_block (Blk.new w #[.int .i64 k] 3)) (by intro u hu;simp at hu;subst hu;rfl) (by omega) (by unfold maxLen;omega) (by omega) (by simp;omega);refine ⟨g,cap,W,h1,?_,((Mod.refl (fun j=>v.ownBlock=some j) w).alloc (.cells #[.int .i64 k] 3)).trans h3⟩;unfold OI;rw [List.length_append,List.length_singleton,List.flatMap_append];exact h2
theorem OI.cell {w:World} {base g cap:Nat} {l:List Int} (h:OI w base (.slice (some ⟨g,0,none⟩) l.length cap) l) (k:Nat) (hk:k<l.length):w.cell? ⟨g,k,none⟩=some (.int .i64 l[k]):=by
 obtain⟨-,-,-,h0 | ⟨b,off,he,hb,hel⟩⟩:=own_slice (R:=fun cs x=>cs=encI x) (by omega) encI_len (fun _=>rfl) h
 ·omega
 ·injection he with he;injection he with e1 e2;subst e1 e2;obtain⟨cs,h1,h2,h3⟩:=hel k hk;subst h2;have:=h3 0 (by simp [encI]);simpa [encI] using this
section
variable {w w':World} {pf pw:Nat} {R:Rp} {pv:Value} {Y:Sy}
theorem OI.sy {base:Nat} {v:Value} {l:List Int} (ho:OI w base v l) (h:SyAt w pf pw R pv Y) {F':Nat→Prop} (hs:Stp (R.Y pf pw) F' w w'):OI w' base v l:=
 own_mod ho hs.mod (fun k hk he=>by
  obtain⟨-,cur,hc⟩:=own_obj1 ho he;have hb:Blk w k cur 3:=hc;rcases hk with rfl | hk
  ·have h1:=h.blk;unfold Blk at hb h1;rw [hb] at h1
   cases h1
  ·obtain ⟨o,ho,hd⟩:=h.wd.kind hk;rw [hc] at ho;injection ho with ho;subst ho
   cases hd)
theorem SyAt.oi (h:SyAt w pf pw R pv Y) {base:Nat} {v:Value} {l:List Int} (ho:OI w base v l) (hm:Mod (fun j=>v.ownBlock=some j) w w'):SyAt w' pf pw R pv Y:=by
 refine ⟨h.blk.mod hm (fun e=>?_),h.wd.mod hm (fun k o hk hk2=>?_),own_mod h.plan hm (fun k hk he=>?_)⟩
 ·obtain ⟨-,cur,hc⟩:=own_obj1 ho e;have hq:=h.blk;unfold Blk at hq;rw [hc] at hq
  cases hq
 ·obtain ⟨-,cur,hc⟩:=own_obj1 ho hk;rw [hc] at hk2;injection hk2 with hk2;subst hk2;exact⟨rfl,fun cur e=>by cases e⟩
 ·obtain ⟨-,cur,hc⟩:=own_obj1 ho hk;obtain⟨-,cur2,hc2⟩:=own_obj1 h.plan he;rw [hc] at hc2
  cases hc2
structure PlSt (w wr:World) (pf pw:Nat) (pv:Value) (S:Fs) (n:Int):Prop where
 st:∃ R Y,SyAt wr pf pw R pv Y∧Y.fs=S∧Calm Y∧Y.count≤n∧∀ k,R.Y pf pw k→w.heap.size≤k
 below:Below w.heap.size w wr
theorem PlSt.keep {wr:World} {S:Fs} {n:Int} (h:PlSt w wr pf pw pv S n) (hb:Below wr.heap.size wr w'):PlSt w w' pf pw pv S n:=by
 obtain⟨⟨R,Y,h1,h2,h3,h4,h5⟩,h6⟩:=h;exact⟨⟨R,Y,h1.keep hb,h2,h3,h4,h5⟩,bnext h6 hb⟩
theorem PlSt.mono {wr:World} {S:Fs} {n n':Int} (h:PlSt w wr pf pw pv S n) (hn:n≤n'):PlSt w wr pf pw pv S n':=by
 obtain⟨⟨R,Y,h1,h2,h3,h4,h5⟩,h6⟩:=h;exact⟨⟨R,Y,h1,h2,h3,by omega,h5⟩,h6⟩
theorem PlSt.of {wr:World} {S:Fs} {n d:Int} (hb:Below w.heap.size w wr) (hc:Y.count≤n) (hF:∀ k,R.Y pf pw k→w.heap.size≤k) (h:Became wr w' pf pw R pv Y S d):PlSt w w' pf pw pv S (n+d):=by
 obtain⟨R',Z,h1,h2,h3,h4,h5⟩:=h;refine ⟨⟨R',Z,h1,h2,h3,by omega,fun k hk=>?_⟩,hb.trans (h5.below hF hb.size)⟩;exact h5.above hF hb.size k hk
end
theorem PlSt.oi {w wr w':World} {pf pw:Nat} {pv:Value} {S:Fs} {n:Int} (h:PlSt w wr pf pw pv S n) {v:Value} {l:List Int} (ho:OI wr w.heap.size v l) (hm:Mod (fun j=>v.ownBlock=some j) wr w'):PlSt w w' pf pw pv S n:=by
 obtain⟨⟨R,Y,h1,h2,h3,h4,h5⟩,h6⟩:=h;exact⟨⟨R,Y,h1.oi ho hm,h2,h3,h4,h5⟩,h6.trans (hm.below (fun k hk=>(own_obj1 ho hk).1) h6.size)⟩
theorem Blk.oi {w w':World} {B base:Nat} {vs:Array Value} {T:TypeId} {v:Value} {l:List Int} (hb:Blk w B vs T) (ho:OI w base v l) (hm:Mod (fun j=>v.ownBlock=some j) w w') (hT:T≠3):Blk w' B vs T:=
 hb.mod hm (fun he=>by
  obtain⟨-,cur,hc⟩:=own_obj1 ho he;unfold Blk at hb;rw [hb] at hc;injection hc with hc;injection hc with hc e;exact hT e)
theorem mountsF_snoc (S:Fs) (l:List Mt) (m:Mt):mountsF S (l ++ [m])=if m.path=topB then mountsF S l else mountF (mountsF S l) m:=by
 rw [mountsF_app];rfl
theorem itemsF_snoc (S:Fs) (l:List It) (x:It):itemsF S (l ++ [x])=((itemF (itemsF S l).1 x).1,(itemsF S l).2 ++ [(itemF (itemsF S l).1 x).2]):=by
 rw [itemsF_app];rfl
theorem timesF_snoc (S:Fs) (l:List (It×Int)) (x:It×Int):timesF S (l ++ [x])=if x.2≠0 then ((timesF S l).utime c00 0 x.2 x.1.mtime).1 else timesF S l:=by
 rw [timesF_app];rfl
theorem plant_any (w:World) {ma:Option Addr} {mn mc:Nat} {ia:Option Addr} {il ic:Nat} {ms:List Mt} {is:List It} (h:SdAt w ma mn mc ia il ic ms is) (hml:ms.length≤100000) (hil:is.length≤100000)
  (hmp:∀ m∈ms,m.path.size≤100000) (hip:∀ x∈is,x.path.size≤100000∧x.data.size≤100000) :
  Calls Tryz.prog 49 #[.agg #[.slice ma mn mc,.slice ia il ic]] w fun e w'=>∃ pf pw R pv Y,e=.returned (.pointer (some ⟨pf,0,none⟩))∧SyAt w' pf pw R pv Y∧Y=⟨plantF ms is,0,0,[],false⟩∧(∀ k,R.Y pf pw k→w.heap.size≤k)∧Below w.heap.size w w':=by
 have HS:=Lib.hid h;have HL:=Lib.hid (slimits_any (w.alloc (.cells #[.slice ma mn mc,.slice ia il ic] 25)) (h.keep ((Below.refl _ w).alloc (Nat.le_refl _) _)));have HN:=Lib.hid (fun w=>snew_any (limitsF ms).1 (limitsF ms).2 (limits_ok ms) w);have HMp:=Lib.hid hmp;have HIp:=Lib.hid hip;have hln:=h.m.1;have hli:=h.i.1;subst hln hli;have hB0:=Blk.new w #[.slice ma ms.length mc,.slice ia is.length ic] 25;have hb0:=balloc (Below.refl w.heap.size w) (.cells #[.slice ma ms.length mc,.slice ia is.length ic] 25);have HPl:=Lib.hid (show plantF ms is=timesF (itemsF (mountsF (fs0.addRoot 0 (limitsF ms).1 (limitsF ms).2) ms) is).1 (is.zip (itemsF (mountsF (fs0.addRoot 0 (limitsF ms).1 (limitsF ms).2) ms) is).2) from rfl);have HOk:=Lib.hid (FsOk.new (limitsF ms).1 (limitsF ms).2);unfold sy0 at HN;generalize fs0.addRoot 0 (limitsF ms).1 (limitsF ms).2=S0 at HN HPl HOk;generalize (limitsF ms).1=lb at HL HN;generalize (limitsF ms).2=ln at HL HN;clear h hmp hip;go_enter Tryz.func49,Tryz.ntmps49;go_wp2_with fail;refine HL.out.mono ?_;rintro e w1 ⟨rfl,hb1⟩;have hB1:=hB0.keep hb1;have hbw1:=bnext hb0 hb1;clear hB0 hb0 hb1;go_wp2_with fail;refine (HN.out _).mono ?_;rintro e w2 ⟨pf,pw,R0,rfl,hY0,hb2,hF0⟩;have hB2:=hB1.keep hb2;have hP0:PlSt w w2 pf pw (.slice none 0 0) S0 0:=⟨⟨R0,_,hY0,rfl,⟨rfl,rfl,rfl,by show (0:Int)≤0;omega⟩,by show (0:Int)≤0;omega,fun k hk=>Nat.le_trans hbw1.size (hF0 k hk)⟩,bnext hbw1 hb2⟩;have HP0:=Lib.hid hP0;have HB2:=Lib.hid hB2;obtain⟨bc,bf,bz⟩:=hB2.facts;clear hB1 hbw1 hY0 hb2 hF0 hB2 hP0;go_wp2_with fail
 go_loopw [26] (fun t26 wr=>∃ k:Nat,k≤ms.length∧t26=.int .i64 k∧PlSt w wr pf pw (.slice none 0 0) (mountsF S0 (ms.take k)) k∧Blk wr w.heap.size #[.slice ma ms.length mc,.slice ia is.length ic] 25) (fun t26 _=>ms.length - (intOf t26).toNat)
 case atStart=>exact ⟨0,Nat.zero_le _,rfl,HP0.out,HB2.out⟩
 case round=>
  obtain⟨k,hk,rfl,hP,hB⟩:=hrel;have HP:=Lib.hid hP;have HB:=Lib.hid hB;clear bc bf bz;obtain⟨bc,bf,bz⟩:=hB.facts;have hbw:=hP.below;clear hP hB;by_cases hlt:k<ms.length
  ·obtain ⟨b,off,rfl,hbl⟩:=slice_some HS.out.m (by omega);obtain⟨c0,c1,c2⟩:=mt_cells (HS.out.m.below hbw (Nat.le_refl _)) k hlt;have HQ:=Lib.hid (show mountsF S0 (ms.take (k+1))=if ms[k].path=topB then mountsF S0 (ms.take k) else mountF (mountsF S0 (ms.take k)) ms[k] by rw [List.take_succ_eq_append_getElem hlt,mountsF_snoc]);have HMk:=Lib.hid (HMp.out ms[k] (List.getElem_mem hlt));have HOkk:=Lib.hid (show FsOk (mountsF S0 (ms.take k)) (1+2*k) by
    have:=mountsF_ok HOk.out (ms.take k)
    rwa [List.length_take,Nat.min_eq_left hk] at this)
   generalize ms[k]=m at c0 c1 c2 HQ HMk;generalize hS2:mountsF S0 (ms.take (k+1))=S2 at HQ;have HS2:=Lib.hid hS2;clear hS2;generalize hSk:mountsF S0 (ms.take k)=Sk at HQ HP HOkk;have HSk:=Lib.hid hSk;have hX:=Blk.new wr #[.string m.path,.int .i64 m.b,.int .i64 m.n] 114;have hbX:=(Below.refl _ wr).alloc (Nat.le_refl _) (.cells #[.string m.path,.int .i64 m.b,.int .i64 m.n] 114);clear hSk hbw;go_upto_region 7 with fail;generalize wr.alloc (.cells #[.string m.path,.int .i64 m.b,.int .i64 m.n] 114)=X at hX hbX ⊢;have HBX:=Lib.hid (HB.out.keep hbX);have HPX:=Lib.hid (HP.out.keep hbX);obtain⟨xc,xf,xz⟩:=hX.facts;clear hX hbX c0 c1 c2;by_cases h1:m.path=topB
   ·have h1b:m.path.toList=[47]:=by rw [h1,ba_list];rfl
    have HE:=Lib.hid (HQ.out.trans (if_pos h1));clear h1;go_wp2_with fail;go_roundw
    case rel=>exact ⟨k+1,by omega,by go_num,by rw [show mountsF S0 (ms.take (k+1))=Sk from by rw [HS2.out];exact HE.out];exact HPX.out.mono (by omega),HBX.out⟩
    case measure=>simp [intOf];omega
   ·have h1b:(m.path.toList == [47])=false:=by
     rw [ba_list];simp only [beq_eq_false_iff_ne,ne_eq];exact fun e=>h1 (ba_eq e)
    have HE:=Lib.hid (HQ.out.trans (if_neg h1));obtain⟨⟨R,Y,hY,hfs,hcl,hcn,hF⟩,hbw⟩:=HPX.out;have HM:=Lib.hid (smount_any hY (N:=1+2*k) (by rw [hfs];exact HOkk.out) (by omega) hcl (by omega) m HMk.out);rw [hfs] at HM;have HW:=Lib.hid (And.intro hY (And.intro hcn (And.intro hF hbw)));clear h1 hY hfs hcl hcn hF hbw;go_wp2_with fail;refine HM.out.mono ?_;rintro e w5 ⟨rfl,hBec⟩;obtain⟨hY,hcn,hF,hbw⟩:=HW.out;have hP5:=PlSt.of hbw hcn hF hBec;obtain⟨R',Z,-,-,-,-,z5⟩:=hBec;have HB5:=Lib.hid (HBX.out.sy hY z5 rfl (by decide));have HP5:=Lib.hid hP5;clear hP5 z5 hY hcn hF hbw;go_wp2_with fail;go_roundw
    case rel=>exact ⟨k+1,by omega,by go_num,by rw [show mountsF S0 (ms.take (k+1))=mountF Sk m from by rw [HS2.out];exact HE.out];exact HP5.out.mono (by omega),HB5.out⟩
    case measure=>simp [intOf];omega
  ·obtain rfl:k=ms.length:=by omega
   rw [List.take_length] at HP;have HOk1:=Lib.hid (mountsF_ok HOk.out ms);generalize mountsF S0 ms=S1 at HP HOk1 HPl;have hO0:OI (wr.alloc (.cells #[] 3)) w.heap.size (.slice (some ⟨wr.heap.size,0,none⟩) 0 0) []:=⟨rfl,.inr ⟨wr.heap.size,0,#[],rfl,HP.out.below.size,Blk.new _ _ _,Nat.le_refl _,by unfold maxLen;omega,rfl,rfl⟩⟩;have hP1:=HP.out.keep ((Below.refl _ wr).alloc (Nat.le_refl _) (.cells #[] 3));have hB1:=HB.out.old (.cells #[] 3);have HO0:=Lib.hid hO0;have HP1:=Lib.hid hP1;have HB1:=Lib.hid hB1;clear hO0 hP1 hB1 hbw;go_wp2_with fail;generalize wr.alloc (.cells #[] 3)=W1 at HO0 HP1 HB1 ⊢;generalize wr.heap.size=hmade at HO0 ⊢
   go_loopw [41,7] (fun t41 t7 wr=>∃ (k:Nat) (a:Option Addr) (c:Nat),k≤is.length∧t41=.int .i64 k∧t7=.slice a k c∧OI wr w.heap.size (.slice a k c) (itemsF S1 (is.take k)).2∧PlSt w wr pf pw (.slice none 0 0) (itemsF S1 (is.take k)).1 (ms.length+3*k)∧Blk wr w.heap.size #[.slice ma ms.length mc,.slice ia is.length ic] 25) (fun t41 _ _=>is.length - (intOf t41).toNat)
   case atStart=>exact ⟨0,_,_,Nat.zero_le _,rfl,rfl,HO0.out,HP1.out.mono (by omega),HB1.out⟩
   case round=>
    obtain⟨k,a,c,hk,rfl,rfl,hO,hP,hB⟩:=hrel;have HO:=Lib.hid hO;have HP:=Lib.hid hP;have HB:=Lib.hid hB;clear bc bf bz;obtain⟨bc,bf,bz⟩:=hB.facts;have hbw:=hP.below;clear hP hB hO;by_cases hlt:k<is.length
    ·obtain ⟨b,off,rfl,hbl⟩:=slice_some HS.out.i (by omega);obtain⟨c0,c1,c2,c3,c4,c5,c6⟩:=it_cells (HS.out.i.below hbw (Nat.le_refl _)) k hlt;have HQ:=Lib.hid (show itemsF S1 (is.take (k+1))=((itemF (itemsF S1 (is.take k)).1 is[k]).1,(itemsF S1 (is.take k)).2 ++ [(itemF (itemsF S1 (is.take k)).1 is[k]).2]) by rw [List.take_succ_eq_append_getElem hlt,itemsF_snoc]);have HMk:=Lib.hid (HIp.out is[k] (List.getElem_mem hlt));have HOkk:=Lib.hid (show FsOk (itemsF S1 (is.take k)).1 (1+2*ms.length+k) by
      have:=itemsF_ok HOk1.out (is.take k)
      rwa [List.length_take,Nat.min_eq_left hk] at this)
     have HLk:=Lib.hid (show (itemsF S1 (is.take k)).2.length=k by rw [itemsF_len,List.length_take,Nat.min_eq_left hk]);generalize is[k]=it at c0 c1 c2 c3 c4 c5 c6 HQ HMk;generalize itemsF S1 (is.take k)=Sk at HQ HP HOkk HO HLk;obtain⟨Sk,Lk⟩:=Sk;have hX:=Blk.new wr #[.string it.path,.int .i64 it.kind,.int .i64 it.mode,.int .i64 it.uid,.int .i64 it.gid,.int .i64 it.mtime,.string it.data] 116;have hbX:=(Below.refl _ wr).alloc (Nat.le_refl _) (.cells #[.string it.path,.int .i64 it.kind,.int .i64 it.mode,.int .i64 it.uid,.int .i64 it.gid,.int .i64 it.mtime,.string it.data] 116);clear hbw;go_upto_region 14 with fail;generalize wr.alloc (.cells #[.string it.path,.int .i64 it.kind,.int .i64 it.mode,.int .i64 it.uid,.int .i64 it.gid,.int .i64 it.mtime,.string it.data] 116)=X at hX hbX ⊢;have HBX:=Lib.hid (HB.out.keep hbX);have HPX:=Lib.hid (HP.out.keep hbX);have HOX:=Lib.hid (own_below HO.out hbX (Nat.le_refl _));have HIX:=Lib.hid hX;obtain⟨xc,xf,xz⟩:=hX.facts;obtain⟨⟨R,Y,hY,hfs,hcl,hcn,hF⟩,hbw⟩:=HPX.out;have HM:=Lib.hid (snode_any hY (N:=1+2*ms.length+k) (by rw [hfs];exact HOkk.out) (by omega) hcl (by omega) it HMk.out.1 HMk.out.2);rw [hfs] at HM;have HW:=Lib.hid (And.intro hY (And.intro hcn (And.intro hF hbw)));have HOk5:=Lib.hid (nodeF_ok HOkk.out it);have HIt:=Lib.hid (show itemF Sk it=if (nodeF Sk it).2≠0 then ((((nodeF Sk it).1.chown c00 0 (nodeF Sk it).2 it.uid it.gid).1.chmod c00 0 (nodeF Sk it).2 it.mode).1,(nodeF Sk it).2) else nodeF Sk it from rfl);clear hX hbX c0 c1 c2 c3 c4 c5 c6 hY hfs hcl hcn hF hbw;go_wp2_with fail;refine HM.out.mono ?_;clear HM;rintro e w5 ⟨rfl,hBec⟩;generalize nodeF Sk it=nd at hBec HOk5 HIt ⊢;obtain⟨S5,no⟩:=nd;dsimp only at hBec HOk5 HIt ⊢;obtain⟨hY,hcn,hF,hbw⟩:=HW.out;have hP5:=PlSt.of hbw hcn hF hBec;obtain⟨R',Z,-,-,-,-,z5⟩:=hBec;have hB5:=HBX.out.sy hY z5 rfl (by decide);have hI5:=HIX.out.sy hY z5 rfl (by decide);have hO5:OI w5 w.heap.size (.slice a Lk.length c) Lk:=by rw [HLk.out];exact OI.sy (l:=Lk) HOX.out hY z5
     obtain⟨g,cap,W,hrun,hOW,hmW⟩:=hO5.app no (by rw [HLk.out];omega) hP5.below.size;have hPW:=hP5.oi hO5 hmW;have hBW:=hB5.oi hO5 hmW (by decide);have hIW:=hI5.oi hO5 hmW (by decide);rw [HLk.out] at hrun hOW;have HRun:=Lib.hid hrun;have HPW:=Lib.hid hPW;have HBW:=Lib.hid hBW;have HIW:=Lib.hid hIW;have HOW:=Lib.hid hOW;clear xc xf xz hP5 z5 hY hcn hF hbw hB5 hI5 hO5 hrun hOW hmW hPW hBW;obtain⟨xc,xf,xz⟩:=hIW.facts;clear hIW;by_cases hno:no=0
     ·have hnb:(no != 0)=false:=by simpa using hno
      have HE:=Lib.hid (HIt.out.trans (if_neg (by simp [hno])));clear hno;go_wp2_with (at_builtin;refine wpList_app_run rfl rfl rfl rfl HRun.out ?_);go_roundw
      case rel=>
       refine ⟨k+1,_,cap,by omega,by go_num,rfl,?_,?_,HBW.out⟩
       ·rw [HQ.out,HE.out];exact HOW.out
       ·rw [HQ.out,HE.out];exact HPW.out.mono (by omega)
      case measure=>simp [intOf];omega
     ·have hnb:(no != 0)=true:=by simpa using hno
      have HE:=Lib.hid (HIt.out.trans (if_pos hno));clear hno;obtain⟨⟨R,Y,hY,hfs,hcl,hcn,hF⟩,hbw⟩:=HPW.out;have HM:=Lib.hid (schown_any hY (N:=1+2*ms.length+k+1) (by rw [hfs];exact HOk5.out) (by omega) ⟨hcl.c0,by omega⟩ (by rw [hcl.plan];exact Nat.zero_le _) c00 no it.uid it.gid);rw [hcl.opE,hfs] at HM;have HW:=Lib.hid (And.intro hY (And.intro hcn (And.intro hF (And.intro hbw hcl))));clear hY hfs hcl hcn hF hbw;go_wp2_with (at_builtin;refine wpList_app_run rfl rfl rfl rfl HRun.out ?_);refine HM.out.mono ?_;clear HM;rintro e w6 ⟨rfl,R6,hY6,hS6⟩;obtain⟨hY,hcn,hF,hbw,hcl⟩:=HW.out;have hB6:=HBW.out.sy hY hS6 rfl (by decide);have hI6:=HIW.out.sy hY hS6 rfl (by decide);have hO6:=OI.sy HOW.out hY hS6;have hP6:=PlSt.of hbw hcn hF (⟨R6,_,hY6,rfl,hcl.next _,(by show Y.count+1≤Y.count+1;omega),hS6⟩:Became W w6 pf pw R (.slice none 0 0) Y _ 1);have HP6:=Lib.hid hP6;have HB6:=Lib.hid hB6;have HI6:=Lib.hid hI6;have HO6:=Lib.hid hO6;clear xc xf xz hP6 hB6 hY6 hS6 hY hcn hF hbw hcl hO6;obtain⟨xc,xf,xz⟩:=hI6.facts;clear hI6 HW;obtain⟨⟨R,Y,hY,hfs,hcl,hcn,hF⟩,hbw⟩:=HP6.out;have HM:=Lib.hid (schmod_any hY (N:=1+2*ms.length+k+1) (by rw [hfs];exact chown_ok HOk5.out _ _ _ _ _) (by omega) ⟨hcl.c0,by omega⟩ (by rw [hcl.plan];exact Nat.zero_le _) c00 no it.mode);rw [hcl.opE,hfs] at HM;have HW:=Lib.hid (And.intro hY (And.intro hcn (And.intro hF (And.intro hbw hcl))));clear hY hfs hcl hcn hF hbw;go_wp2_with fail;refine HM.out.mono ?_;clear HM;rintro e w7 ⟨rfl,R7,hY7,hS7⟩;obtain⟨hY,hcn,hF,hbw,hcl⟩:=HW.out;have HB7:=Lib.hid (HB6.out.sy hY hS7 rfl (by decide));have HO7:=Lib.hid (OI.sy HO6.out hY hS7);have HP7:=Lib.hid (PlSt.of hbw hcn hF (⟨R7,_,hY7,rfl,hcl.next _,(by show Y.count+1≤Y.count+1;omega),hS7⟩:Became w6 w7 pf pw R (.slice none 0 0) Y _ 1));clear hY7 hS7 hY hcn hF hbw hcl;go_wp2_with fail;go_roundw
      case rel=>
       refine ⟨k+1,_,cap,by omega,by go_num,rfl,?_,?_,HB7.out⟩
       ·rw [HQ.out,HE.out];exact HO7.out
       ·rw [HQ.out,HE.out];exact HP7.out.mono (by omega)
      case measure=>simp [intOf];omega
    ·obtain rfl:k=is.length:=by omega
     rw [List.take_length] at HP HO;have HOk2:=Lib.hid (itemsF_ok HOk1.out is);have HLm:=Lib.hid (itemsF_len S1 is);generalize itemsF S1 is=q at HP HO HOk2 HPl HLm;obtain⟨S2,made⟩:=q;dsimp only at HPl;have hml2:made.length=is.length:=HLm.out;clear hbw;go_wp2_with fail
     go_loopw [72] (fun t72 wr=>∃ k:Nat,k≤is.length∧t72=.int .i64 k∧OI wr w.heap.size (.slice a is.length c) made∧PlSt w wr pf pw (.slice none 0 0) (timesF S2 ((is.zip made).take k)) (ms.length+3*is.length+k)) (fun t72 _=>is.length - (intOf t72).toNat)
     case atStart=>exact ⟨0,Nat.zero_le _,rfl,HO.out,HP.out.mono (by omega)⟩
     case round=>
      obtain⟨k,hk,rfl,hO,hP⟩:=hrel;have HO3:=Lib.hid hO;have HP3:=Lib.hid hP;have hbw:=hP.below;clear hP hO bc bf bz;by_cases hlt:k<is.length
      ·obtain ⟨b,off,rfl,hbl⟩:=slice_some HS.out.i (by omega);obtain⟨c0,c1,c2,c3,c4,c5,c6⟩:=it_cells (HS.out.i.below hbw (Nat.le_refl _)) k hlt;have hkm:k<made.length:=by omega
       obtain⟨g,rfl⟩:∃ g,a=some ⟨g,0,none⟩:=by
        obtain⟨a1,c1,e1,-,-,hf⟩:=own_form HO3.out;injection e1 with e1 e2 e3;rcases hf with ⟨-,h0,-⟩|⟨g,hg,-,-⟩
        ·omega
        ·exact ⟨g,e1.trans hg⟩
       have hO4:OI wr w.heap.size (.slice (some ⟨g,0,none⟩) made.length c) made:=by rw [hml2];exact HO3.out
       have hgl:=(own_frozen hO4).2.2;have hmc:wr.cell? ⟨g,k,none⟩=some (.int .i64 made[k]):=hO4.cell k hkm;have HQ:=Lib.hid (show timesF S2 ((is.zip made).take (k+1))=if made[k]≠0 then ((timesF S2 ((is.zip made).take k)).utime c00 0 made[k] is[k].mtime).1 else timesF S2 ((is.zip made).take k) by
        rw [List.take_succ_eq_append_getElem (by rw [List.length_zip];omega),timesF_snoc,List.getElem_zip])
       have HOkk:=Lib.hid (timesF_ok HOk2.out ((is.zip made).take k));generalize is[k]=it at c0 c1 c2 c3 c4 c5 c6 HQ;generalize made[k]=no at hmc HQ;generalize timesF S2 ((is.zip made).take k)=Sk at HQ HP3 HOkk;have hX:=Blk.new wr #[.string it.path,.int .i64 it.kind,.int .i64 it.mode,.int .i64 it.uid,.int .i64 it.gid,.int .i64 it.mtime,.string it.data] 116;have hbX:=(Below.refl _ wr).alloc (Nat.le_refl _) (.cells #[.string it.path,.int .i64 it.kind,.int .i64 it.mode,.int .i64 it.uid,.int .i64 it.gid,.int .i64 it.mtime,.string it.data] 116);clear hbw hO4;have HMl:=Lib.hid hml2;clear hml2;go_upto_region 23 with fail;have hmc2:=(hbX.cell (p:=⟨g,k,none⟩) hgl).trans hmc;have HOX:=Lib.hid (own_below HO3.out hbX (Nat.le_refl _));generalize wr.alloc (.cells #[.string it.path,.int .i64 it.kind,.int .i64 it.mode,.int .i64 it.uid,.int .i64 it.gid,.int .i64 it.mtime,.string it.data] 116)=X at hX hbX hmc2 HOX ⊢;have HPX:=Lib.hid (HP3.out.keep hbX);obtain⟨xc,xf,xz⟩:=hX.facts;clear hX hbX c0 c1 c2 c3 c4 c5 c6 hmc;by_cases hno:no=0
       ·have hnb:(no != 0)=false:=by simpa using hno
        have HE:=Lib.hid (HQ.out.trans (if_neg (by simp [hno])));clear hno;go_wp2_with fail;go_roundw
        case rel=>exact ⟨k+1,by omega,by go_num,HOX.out,by rw [HE.out];exact HPX.out.mono (by omega)⟩
        case measure=>simp [intOf];omega
       ·have hnb:(no != 0)=true:=by simpa using hno
        have HE:=Lib.hid (HQ.out.trans (if_pos hno));have mixed:Tryz.prog.follows .mixedOrders=true:=by kernel_rfl
        obtain⟨⟨R,Y,hY,hfs,hcl,hcn,hF⟩,hbw⟩:=HPX.out;have HM:=Lib.hid (sutime_any (hY.keep (Below.refl _ X).drew) (N:=1+2*ms.length+is.length) (by rw [hfs];exact HOkk.out) (by omega) ⟨hcl.c0,by omega⟩ (by rw [hcl.plan];exact Nat.zero_le _) c00 no it.mtime);rw [hcl.opE,hfs] at HM;have HW:=Lib.hid (And.intro hY (And.intro hcn (And.intro hF (And.intro hbw hcl))));clear hno hY hfs hcl hcn hF hbw;go_wp2_with fail;refine wp_region_lex 8 mixed (by kernel_rfl) (show PanicOk _ from by repeat (first | exact pk_body | refine pk_then ?_ | refine pk_block ?_ | refine pk_scope ?_)) ?_;simp only [List.take_succ_cons,List.take_zero,List.drop_succ_cons,List.drop_zero]
        repeat still_step
        refine wpStill_nil ?_;go_wp2_with fail;refine HM.out.mono ?_;clear HM;rintro e w7 ⟨rfl,R7,hY7,hS7⟩;obtain⟨hY,hcn,hF,hbw,hcl⟩:=HW.out;have hXd:Below X.heap.size X X.drew:=(Below.refl _ X).drew;have HO7:=Lib.hid (OI.sy (own_below HOX.out hXd (Nat.le_refl _)) (hY.keep hXd) hS7);have HP7:=Lib.hid (PlSt.of (hbw.drew) hcn hF (⟨R7,_,hY7,rfl,hcl.next _,(by show Y.count+1≤Y.count+1;omega),hS7⟩:Became X.drew w7 pf pw R (.slice none 0 0) Y _ 1));clear hY7 hS7 hY hcn hF hbw hcl hXd;go_wp2_with fail;go_roundw
        case rel=>exact ⟨k+1,by omega,by go_num,HO7.out,by rw [HE.out];exact HP7.out.mono (by omega)⟩
        case measure=>simp [intOf];omega
      ·obtain rfl:k=is.length:=by omega
       rw [List.take_of_length_le (by rw [List.length_zip];omega),←HPl.out] at HP3;obtain⟨⟨R,Y,hY,hfs,hcl,hcn,hF⟩,hbw⟩:=HP3.out;have HM:=Lib.hid (swake_any hY);have HW:=Lib.hid (And.intro hfs (And.intro hcl (And.intro hF hbw)));have HY:=Lib.hid hY;clear hY hfs hcl hcn hF hbw;go_wp2_with fail;refine HM.out.mono ?_;rintro e w7 ⟨rfl,pv7,hY7,hm7⟩;obtain⟨hfs,hcl,hF,hbw⟩:=HW.out;have HX:=Lib.hid (show ∃ R pv Y,SyAt w7 pf pw R pv Y∧Y=⟨plantF ms is,0,0,[],false⟩∧(∀ k,R.Y pf pw k→w.heap.size≤k)∧Below w.heap.size w w7 from
        ⟨R,pv7,_,hY7,(by unfold Sy.wake;rw [hfs,hcl.now]),hF,hbw.trans (hm7.below (fun k hk=>by rw [hk];exact hF pf (.inl rfl)) hbw.size)⟩)
       clear hfs hcl hF hbw hY7 hm7;go_wp2_with fail;go_ret;obtain⟨R,pv,Y,h1,h2,h3,h4⟩:=HX.out;exact⟨pf,pw,R,pv,Y,rfl,h1,h2,h3,h4⟩
end
section
open Go.RowKit
def bA:ByteArray:=⟨#[47,97]⟩
def bAX:ByteArray:=⟨#[47,97,47,120]⟩
def bBX:ByteArray:=⟨#[47,98,47,120]⟩
def bX:ByteArray:=⟨#[120]⟩
def its22:List It:=[⟨bA,1,448,5,0,9,⟨#[]⟩⟩,⟨bAX,2,0,0,0,0,bX⟩,⟨bBX,2,0,0,0,0,⟨#[]⟩⟩]
theorem wlen_any {w:World} {pw:Nat} {R:Rp} {S:Fs} (h:WdAt w pw R S) :
  Calls Tryz.prog 30 #[.pointer (some ⟨R.pt,0,none⟩)] w fun e w'=>e=.returned (.int .i64 S.ns.length)∧w=w':=by
 have hl:(R.G.map Gn.e).length=S.ns.length:=by rw [h.ns,List.length_map,List.length_map]
 rw [←hl];exact len_table w R.pt R.pm S.last _ R.clk h.tab
def C22:Array Value:=#[.string (ByteArray.mk #[47,97]),.int .i64 1,.int .i64 448,.int .i64 5,.int .i64 0,.int .i64 9,.string (ByteArray.mk #[]),.string (ByteArray.mk #[47,97,47,120]),.int .i64 2,.int .i64 0,.int .i64 0,.int .i64 0,.int .i64 0,.string (ByteArray.mk #[120]),.string (ByteArray.mk #[47,98,47,120]),.int .i64 2,.int .i64 0,.int .i64 0,.int .i64 0,.int .i64 0,.string (ByteArray.mk #[])]
end
section
open Go.RowKit
def few22 (ms:List Mt) (is:List It) (n:Int):Bool:=decide (ms.length≤10∧(is.length:Int)≤n∧(∀ m∈ms,m.path.size≤300)∧∀ x∈is,x.path.size≤300∧x.data.size≤1500)
theorem few22_of {ms:List Mt} {is:List It} {n:Int} (h:few22 ms is n=true):ms.length≤10∧(is.length:Int)≤n∧(∀ m∈ms,m.path.size≤300)∧∀ x∈is,x.path.size≤300∧x.data.size≤1500:=of_decide_eq_true h
theorem few22_any (w:World) {ma:Option Addr} {mn mc:Nat} {ia:Option Addr} {il ic:Nat} {ms:List Mt} {is:List It} (h:SdAt w ma mn mc ia il ic ms is) (n:Int) :
  Calls Tryz.prog 48 #[.agg #[.slice ma mn mc,.slice ia il ic],.int .i64 n] w fun e w'=>e=.returned (.bool (few22 ms is n))∧Below w.heap.size w w':=by
 have hln:=h.m.1;have hli:=h.i.1;subst hln hli;have hB:=Blk.new w #[.slice ma ms.length mc,.slice ia is.length ic] 25;have hb:=balloc (Below.refl w.heap.size w) (.cells #[.slice ma ms.length mc,.slice ia is.length ic] 25);have HS:=Lib.hid (h.keep ((Below.refl _ w).alloc (Nat.le_refl _) (.cells #[.slice ma ms.length mc,.slice ia is.length ic] 25)));have HF:=Lib.hid (show few22 ms is n=decide (ms.length≤10∧(is.length:Int)≤n∧(∀ m∈ms,m.path.size≤300)∧∀ x∈is,x.path.size≤300∧x.data.size≤1500) from rfl);have hmc:=h.m.2.1;have hmx:=h.m.2.2.1;have hic:=h.i.2.1;have hix:=h.i.2.2.1;generalize few22 ms is n=fb at HF ⊢;clear h;go_enter Tryz.func48,Tryz.ntmps48;go_upto_region 1 with fail;generalize w.alloc (.cells #[.slice ma ms.length mc,.slice ia is.length ic] 25)=W at hB hb HS ⊢;have HB:=Lib.hid hb;obtain⟨bc,bf,bz⟩:=hB.facts;clear hB hb;by_cases h1:10<ms.length
 ·have h1a:(10:Int)<(ms.length:Int):=by omega
  have HE:=Lib.hid (show fb=false by rw [HF.out,decide_eq_false_iff_not];rintro ⟨h,-⟩;omega);go_wp2_with fail;go_ret;rw [HE.out];exact⟨rfl,HB.out⟩
 have h1a:¬ (10:Int)<(ms.length:Int):=by omega
 by_cases h2:n<(is.length:Int)
 ·have HE:=Lib.hid (show fb=false by rw [HF.out,decide_eq_false_iff_not];rintro ⟨-,h,-⟩;omega);go_wp2_with fail;go_ret;rw [HE.out];exact⟨rfl,HB.out⟩
 go_wp2_with fail
 go_loop [5] (fun t5=>∃ k:Nat,k≤ms.length∧t5=.int .i64 k∧∀ j (hj:j<ms.length),j<k→ms[j].path.size≤300) (fun t5=>ms.length - (intOf t5).toNat)
 case atStart=>exact ⟨0,Nat.zero_le _,rfl,fun j _ h=>absurd h (Nat.not_lt_zero _)⟩
 case round=>
  obtain⟨k,hk,rfl,hbef⟩:=hrel;have HBe:=Lib.hid hbef;clear hbef;by_cases hlt:k<ms.length
  ·obtain ⟨b,off,rfl,hbl⟩:=slice_some HS.out.m (by omega);obtain⟨c0,-,-⟩:=mt_cells HS.out.m k hlt;have HM:=Lib.hid (List.getElem_mem hlt);have HMk:=Lib.hid (show ∀ j (hj:j<ms.length),j=k→ms[j]=ms[k] from fun j hj e=>by subst e;rfl);generalize ms[k]=m at c0 HM HMk;by_cases h3:300<m.path.size
   ·have h3a:(300:Int)<(m.path.size:Int):=by omega
    have HE:=Lib.hid (show fb=false by rw [HF.out,decide_eq_false_iff_not];rintro ⟨-,-,h,-⟩;have:=h m HM.out;omega);go_wp2_with fail;go_ret;rw [HE.out];exact⟨rfl,HB.out⟩
   ·have h3a:¬ (300:Int)<(m.path.size:Int):=by omega
    go_wp2_with fail
    go_round
    case rel=>exact ⟨k+1,by omega,by go_num,fun j hj hlt2=>by
     by_cases hjk:j=k
     ·rw [HMk.out j hj hjk];omega
     ·exact HBe.out j hj (by omega)⟩
    case measure=>simp [intOf];omega
  ·obtain rfl:k=ms.length:=by omega
   go_wp2_with fail
   go_loop [6] (fun t6=>∃ k:Nat,k≤is.length∧t6=.int .i64 k∧∀ j (hj:j<is.length),j<k→is[j].path.size≤300∧is[j].data.size≤1500) (fun t6=>is.length - (intOf t6).toNat)
   case atStart=>exact ⟨0,Nat.zero_le _,rfl,fun j _ h=>absurd h (Nat.not_lt_zero _)⟩
   case round=>
    obtain⟨k,hk,rfl,hbef⟩:=hrel;have HBi:=Lib.hid hbef;clear hbef;by_cases hlt:k<is.length
    ·obtain ⟨b,off,rfl,hbl⟩:=slice_some HS.out.i (by omega);obtain⟨c0,-,-,-,-,-,c6⟩:=it_cells HS.out.i k hlt;have HM:=Lib.hid (List.getElem_mem hlt);have HMk:=Lib.hid (show ∀ j (hj:j<is.length),j=k→is[j]=is[k] from fun j hj e=>by subst e;rfl);generalize is[k]=it at c0 c6 HM HMk;by_cases h3:300<it.path.size
     ·have h3a:(300:Int)<(it.path.size:Int):=by omega
      have HE:=Lib.hid (show fb=false by rw [HF.out,decide_eq_false_iff_not];rintro ⟨-,-,-,h⟩;have:=(h it HM.out).1;omega);go_wp2_with fail;go_ret;rw [HE.out];exact⟨rfl,HB.out⟩
     ·have h3a:¬ (300:Int)<(it.path.size:Int):=by omega
      by_cases h4:1500<it.data.size
      ·have h4a:(1500:Int)<(it.data.size:Int):=by omega
       have HE:=Lib.hid (show fb=false by rw [HF.out,decide_eq_false_iff_not];rintro ⟨-,-,-,h⟩;have:=(h it HM.out).2;omega);go_wp2_with fail;go_ret;rw [HE.out];exact⟨rfl,HB.out⟩
      ·have h4a:¬ (1500:Int)<(it.data.size:Int):=by omega
       go_wp2_with fail
       go_round
       case rel=>exact ⟨k+1,by omega,by go_num,fun j hj hlt2=>by
        by_cases hjk:j=k
        ·rw [HMk.out j hj hjk];omega
        ·exact HBi.out j hj (by omega)⟩
       case measure=>simp [intOf];omega
    ·obtain rfl:k=is.length:=by omega
     have HE:=Lib.hid (show fb=true by
      rw [HF.out,decide_eq_true_eq];refine ⟨by omega,by omega,fun m hm=>?_,fun x hx=>?_⟩
      ·obtain ⟨j,hj,rfl⟩:=List.mem_iff_getElem.1 hm;exact HBe.out j hj hj
      ·obtain ⟨j,hj,rfl⟩:=List.mem_iff_getElem.1 hx;exact HBi.out j hj hj)
     go_wp2_with fail;go_ret;rw [HE.out];exact⟨rfl,HB.out⟩
end
section
open Go.RowKit
theorem fd0_size2:fd0.name.size≤100000:=by show (0:Nat)≤_;omega
theorem seekL_size2 {S:Fs} (hS:∀ k a,S.get k=some a→a.kind=3→a.data.size≤100000) (c:Cr) (f:Bool) (k:Option (Int→Bool→List (List UInt8)→Fd×Int))
  (hk:∀ g,k=some g→∀ at' must l,(∀ p∈l,p.length≤100000)→(g at' must l).1.name.size≤100000) :
  ∀ (l:List (List UInt8)) (at':Int) (must:Bool),(∀ p∈l,p.length≤100000)→(S.seekL c f k l at' must).1.name.size≤100000
 | [],at',must,_=>by rw [Fs.seekL];show (0:Nat)≤_;omega
 | p :: l,at',must,hl=>by
  have hp:(str p).size≤100000:=by rw [str_size];exact hl p (by simp)
  have hl':∀ q∈l,q.length≤100000:=fun q hq=>hl q (by simp [hq]);have ih:=seekL_size2 hS c f k hk l;rw [Fs.seekL]
  split
  ·exact fd0_size2
  ·split
   ·exact ih _ _ hl'
   ·split
    ·split
     ·exact hp
     ·exact fd0_size2
    ·rename_i n hn
     split
     ·rename_i hc3
      cases hkk:k with
      | none=>exact fd0_size2
      | some g=>
       simp only
       split
       ·exact fd0_size2
       ·refine hk g hkk _ _ _ (fun q hq=>?_);rcases List.mem_append.1 hq with hq | hq
        ·have h1:=parts_size _ q hq;have h2:n.data.data.toList.length=n.data.size:=Array.length_toList;have h3:=hS _ n hn hc3.1;omega
        ·exact hl' q hq
     ·split
      ·exact fd0_size2
      ·split
       ·exact hp
       ·exact ih _ _ hl'
theorem seekH_size2 {S:Fs} (hS:∀ k a,S.get k=some a→a.kind=3→a.data.size≤100000) (c:Cr) (f:Bool):∀ (h:Nat) (at':Int) (must:Bool) (l:List (List UInt8)),(∀ p∈l,p.length≤100000)→(S.seekH c f h at' must l).1.name.size≤100000
 | 0,at',must,l,hl=>seekL_size2 hS c f none (fun g h=>by cases h) l at' must hl
 | h+1,at',must,l,hl=>seekL_size2 hS c f (some (S.seekH c f h)) (fun g hg at' must l hl=>by injection hg with hg;subst hg;exact seekH_size2 hS c f h at' must l hl) l at' must hl
theorem path_size2 {S:Fs} {N:Nat} (hk:FsOk S N) (c:Cr) (s:ByteArray) (hs:s.size≤100000) (f:Bool):(S.path c s f).1.name.size≤100000:=by
 unfold Fs.path
 split
 ·exact fd0_size2
 ·refine seekH_size2 (fun k a h h3=>Nat.le_trans ((hk.get h).1.sy h3) (by omega)) c f 8 1 _ _ (fun p hp=>?_);have h1:=parts_size _ p hp;have h2:s.data.toList.length=s.size:=Array.length_toList;omega
end
end Go.Proofs.YtihdbncoijhihaaGreat
