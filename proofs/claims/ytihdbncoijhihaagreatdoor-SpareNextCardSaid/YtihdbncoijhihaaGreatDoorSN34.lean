import Derived.Test.YtihdbncoijhihaaGreatDoorSN33
import Derived.Test.YtihdbncoijhihaaGreatDoorSN31
import Derived.Test.YtihdbncoijhihaaGreatDoorSN21
set_option linter.unusedVariables false
set_option linter.unusedSimpArgs false
set_option maxRecDepth 100000
set_option maxHeartbeats 16000000
namespace Go.Proofs.YtihdbncoijhihaaGreatDoor
section
open Go.RowKit
section
variable {w w':World} {pw pf:Nat} {R:Rp} {Q:Rf} {S:Fs}
theorem both_get (h:WdAt w pw R S) (hq:RfAt w pf Q S) (k:Int):∃ (a:An) (ea:Option Addr) (el ec:Nat) (fa:Option Addr) (fl fc:Nat) (b:Bool),EntsAt w ea el ec a.ents∧EntsAt w fa fl fc a.ents∧
  (∀ w1,Below w.heap.size w w1→Calls Tryz.prog 98 #[.pointer (some ⟨R.pt,0,none⟩),.int .i64 k] w1 fun e w'=>e=.returned (.tuple #[.agg #[.int .i64 a.no,.int .i64 a.dev,.int .i64 a.kind,.int .i64 a.mode,.int .i64 a.uid,.int .i64 a.gid,.int .i64 a.mtime,.int .i64 a.ctime,.int .i64 a.links,.int .i64 a.up,.string a.data,.slice ea el ec],.bool b])∧Below w1.heap.size w1 w')∧
  ∀ w1,Below w.heap.size w w1→Calls Tryz.prog 46 #[.pointer (some ⟨pf,0,none⟩),.int .i64 k] w1 fun e w'=>e=.returned (.agg #[.int .i64 a.no,.int .i64 a.dev,.int .i64 a.kind,.int .i64 a.mode,.int .i64 a.uid,.int .i64 a.gid,.int .i64 a.mtime,.int .i64 a.ctime,.int .i64 a.links,.int .i64 a.up,.string a.data,.slice fa fl fc])∧Below w1.heap.size w1 w':=by
 cases hg:S.get k with
 | none=>exact ⟨an0,none,0,0,none,0,0,false,EntsAt.nil w,EntsAt.nil w,fun w1 hb=>wget_no (h.keep hb) hg,fun w1 hb=>rget_no (hq.keep hb) hg⟩
 | some a=>
  obtain⟨ea,el,ec,he,hc⟩:=wget_fix h hg;obtain⟨fa,fl,fc,hf,hd⟩:=rget_fix hq hg;exact⟨a,ea,el,ec,fa,fl,fc,true,he,hf,hc,hd⟩
theorem same14_any (h:WdAt w pw R S) (hq:RfAt w pf Q S) {N:Nat} (hk:FsOk S N) (hp:Pl S) (hl:S.ns.length≤100000) :
  Calls Tryz.prog 170 #[.pointer (some ⟨pw,0,none⟩),.pointer (some ⟨pf,0,none⟩)] w fun e w'=>e=.returned (.bool true)∧Below w.heap.size w w':=by
 obtain⟨na,nc,hnv,hn1,hn2⟩:=hq.nform;obtain⟨g,cap,hdv,hle,h63,hgl,hcd,-,-⟩:=hq.devF hk.d1;have hd1:=hk.d1;have hd8:=hk.d8;have hlen:=hq.len;have HLl:=Lib.hid hp.len;have HDv:=Lib.hid (fun w1 (hb1:Below w.heap.size w w1)=>wdevs_any (h.keep hb1) hk.d1);have HLn:=Lib.hid (fun w1 (hb1:Below w.heap.size w w1)=>wlen_any (h.keep hb1));have HRw:=Lib.hid (fun w1 (hb1:Below w.heap.size w w1) x=>wroot_any (h.keep hb1) hk.d1 x);have HRf:=Lib.hid (fun w1 (hb1:Below w.heap.size w w1) x=>rroot_any (hq.keep hb1) x);have HUs:=Lib.hid (fun w1 (hb1:Below w.heap.size w w1) x=>wuse_any (h.keep hb1) hk x);have HG:=Lib.hid (fun x=>both_get h hq x);have HWw:=Lib.hid (fun w1 (hb1:Below w.heap.size w w1) x=>wwhere_any (h.keep hb1) hk hp hl x);have HWf:=Lib.hid (fun w1 (hb1:Below w.heap.size w w1) x=>rwhere_any (hq.keep hb1) hk hp hl x);have HOw:=Lib.hid (fun w1 (hb1:Below w.heap.size w w1) x=>wover_any (h.keep hb1) hk.d1 x);have HOf:=Lib.hid (fun w1 (hb1:Below w.heap.size w w1) x=>rover_any (hq.keep hb1) x);have HAw:=Lib.hid (fun w1 (hb1:Below w.heap.size w w1) x=>wabove_any (h.keep hb1) hk x);have HAf:=Lib.hid (fun w1 (hb1:Below w.heap.size w w1) x=>rabove_any (hq.keep hb1) hk x);have HBw:=Lib.hid (fun w1 (hb1:Below w.heap.size w w1) x=>wbusy_any (h.keep hb1) hk hp x);have HBf:=Lib.hid (fun w1 (hb1:Below w.heap.size w w1) x=>rbusy_any (hq.keep hb1) hk hl x);have hb:=hq.blk;rw [hnv,hdv,←hlen] at hb;have HB:=Lib.hid hb;have HWb:=Lib.hid h.blk;have HC:=Lib.hid hcd;have HK:=Lib.hid hk;obtain⟨pc,-,pz⟩:=h.blk.facts;obtain⟨bc,bf,bz⟩:=hb.facts;obtain⟨m,hm⟩:∃ m,S.ds.length=m:=⟨_,rfl⟩;have HM:=Lib.hid hm;rw [←hlen] at hn1;rw [hm] at HDv HB bc hle hd1 hd8;generalize S.ns.length=n at HLn HB bc hn1 hl HLl;clear h hk hp hq hnv hdv hb hcd hm hlen;go_enter Tryz.func170,Tryz.ntmps170;go_wp2_with fail
 go_region_held3 (fun w'=>(∀ b o,b<w.heap.size→w'.cell? ⟨b,o,none⟩=w.cell? ⟨b,o,none⟩)∧Below w.heap.size w w') (first | with_reducible assumption | with_reducible exact keepS_here _ | with_reducible exact keepS_here2 _ | with_reducible exact keepS_call (by assumption) (by assumption) | with_reducible exact keepS_alloc (by assumption) _ | with_reducible exact keepS_allocD (by assumption) _ | with_reducible exact keepS_realloc (by assumption) (by assumption) | with_reducible exact keepS_set4 (by assumption) (by assumption))
  (first
   | (go_at_call 146;((with_reducible refine (HDv.out _ (And.right (by assumption))).mono ?_);rintro e w5 ⟨rfl,rfl⟩))
   | (go_at_call 229;((with_reducible refine (HLn.out _ (And.right (by assumption))).mono ?_);rintro e w4 ⟨rfl,rfl⟩)))
 have HK0:=Lib.hid (show Below w.heap.size w w.drew from (Below.refl _ _).drew);generalize w.drew=w0 at HK0 ⊢;clear pc pz bc bf bz;go_wp2_with fail
 go_loopw [5] (fun t5 wr=>∃ k:Nat,k≤m+2∧t5=.int .i64 k∧Below w.heap.size w wr) (fun t5 _=>m+2 - (intOf t5).toNat)
 case atStart=>exact ⟨0,Nat.zero_le _,rfl,HK0.out⟩
 case round=>
  obtain⟨k,hk,rfl,hbw⟩:=hrel;have HBk:=Lib.hid hbw;obtain⟨bc,bf,bz⟩:=(HB.out.keep hbw).facts;by_cases hlt:k≤m+1
  ·have hle1:(k:Int)≤(m:Int)+1:=by omega
   have hbX:=balloc hbw (.cells #[.int .i64 0,.int .i64 0,.int .i64 0,.int .i64 0] 168);have hX:=Blk.new wr #[.int .i64 0,.int .i64 0,.int .i64 0,.int .i64 0] 168;clear hbw;go_upto_region 7 with fail;clear bc bf bz;generalize wr.alloc (.cells #[.int .i64 0,.int .i64 0,.int .i64 0,.int .i64 0] 168)=X at hbX hX ⊢;have hRf:=HRf.out X hbX (k:Int);obtain⟨bc,bf,bz⟩:=(HB.out.keep hbX).facts;obtain⟨xc,xf,xz⟩:=hX.facts;have HX:=Lib.hid hX;have HBX:=Lib.hid hbX;by_cases hin:1≤k∧k≤m
   ·obtain ⟨j,rfl⟩:∃ j,k=j+1:=⟨k - 1,by omega⟩;have hjl:j<S.ds.length:=by rw [HM.out];omega
    have hjm:(j:Int)<(m:Int):=by omega
    obtain⟨e1,e2,e3⟩:=dev_in HK.out hjl;have HU:=Lib.hid (show useV S ((j:Int)+1)=.agg #[.int .i64 S.ds[j].b,.int .i64 S.ds[j].n,.int .i64 S.ds[j].mb,.int .i64 S.ds[j].mn] by
     unfold useV;rw [e1])
    obtain⟨c0,c1,c2,c3,c4,c5⟩:=HC.out j hjl;rw [←hbX.cell (p:=⟨g,j*6+2,none⟩) hgl] at c2;rw [←hbX.cell (p:=⟨g,j*6+3,none⟩) hgl] at c3;rw [←hbX.cell (p:=⟨g,j*6+4,none⟩) hgl] at c4;rw [←hbX.cell (p:=⟨g,j*6+5,none⟩) hgl] at c5;rw [show ((j+1:Nat):Int)=(j:Int)+1 by omega] at hRf;have hq0:(S.root ((j:Int)+1) != 0)=true:=by
     rw [e2];simpa using e3
    have HRt:=Lib.hid hRf;generalize S.ds[j]=v at c2 c3 c4 c5 HU;obtain⟨rt,hrt⟩:∃ x,S.root ((j:Int)+1)=x:=⟨_,rfl⟩;rw [hrt] at HRt hq0;have HRtE:=Lib.hid hrt;clear hRf hbX hX e1 e2 e3 c0 c1 hrt hin;go_wp2_with fail;refine HRt.out.mono ?_;rintro e w5 ⟨rfl,rfl⟩;go_upto_region 9 with fail;have hY:=HX.out.set4 (v0:=.int .i64 v.b) (v1:=.int .i64 v.n) (v2:=.int .i64 v.mb) (v3:=.int .i64 v.mn);have hbY:=below_set4 (v0:=.int .i64 v.b) (v1:=.int .i64 v.n) (v2:=.int .i64 v.mb) (v3:=.int .i64 v.mn) HBX.out HBk.out.size;generalize (((w5.setCell ⟨wr.heap.size,0,none⟩ (.int .i64 v.b)).setCell ⟨wr.heap.size,1,none⟩ (.int .i64 v.n)).setCell ⟨wr.heap.size,2,none⟩ (.int .i64 v.mb)).setCell ⟨wr.heap.size,3,none⟩ (.int .i64 v.mn)=Y at hY hbY ⊢;have HY1:=Lib.hid (fun w1 (hb:Below Y.heap.size Y w1)=>HRw.out w1 (bnext hbY hb) ((j:Int)+1));have HY2:=Lib.hid (fun w1 (hb:Below Y.heap.size Y w1)=>HRf.out w1 (bnext hbY hb) ((j:Int)+1));have HY3:=Lib.hid (fun w1 (hb:Below Y.heap.size Y w1)=>HUs.out w1 (bnext hbY hb) ((j:Int)+1));rw [HRtE.out] at HY1 HY2;rw [HU.out] at HY3;have HBY:=Lib.hid hbY;have hnq:=sp_neq v.b v.n v.mb v.mn;clear c2 c3 c4 c5 xc xf xz bc bf bz hbY;obtain⟨xc,xf,xz⟩:=hY.facts;clear hY
    go_region_held3 (fun w'=>(∀ b o,b<Y.heap.size→w'.cell? ⟨b,o,none⟩=Y.cell? ⟨b,o,none⟩)∧Below Y.heap.size Y w') (first | with_reducible assumption | with_reducible exact keepS_here _ | with_reducible exact keepS_here2 _ | with_reducible exact keepS_call (by assumption) (by assumption) | with_reducible exact keepS_alloc (by assumption) _ | with_reducible exact keepS_allocD (by assumption) _ | with_reducible exact keepS_realloc (by assumption) (by assumption) | with_reducible exact keepS_set4 (by assumption) (by assumption))
     (first
      | (go_at_call 77;((with_reducible refine (HY1.out _ (And.right (by assumption))).mono ?_);rintro e w6 ⟨rfl,rfl⟩))
      | (go_at_call 14;((with_reducible refine (HY2.out _ (And.right (by assumption))).mono ?_);rintro e w7 ⟨rfl,rfl⟩))
      | (go_at_call 230;((with_reducible refine (HY3.out _ (And.right (by assumption))).mono ?_);rintro e w8 ⟨rfl,hb8⟩)))
    all_goals
     have hbz:Below Y.heap.size Y w8:=And.right (by assumption);have HBZ:=Lib.hid (bnext HBY.out hbz);go_wp2_with fail;go_roundw
     case measure=>simp [intOf];omega
     case rel=>exact ⟨j+2,by omega,by go_num,HBZ.out⟩
   ·have hout:¬ (1≤(k:Int)∧(k:Int)≤S.ds.length):=by rw [HM.out];omega
    obtain⟨e1,e2⟩:=dev_out hout;have HU:=Lib.hid (show useV S (k:Int)=.agg #[.int .i64 0,.int .i64 0,.int .i64 0,.int .i64 0] by unfold useV;rw [e1]);rw [e2] at hRf;have HRt:=Lib.hid hRf;have HY1:=Lib.hid (fun w1 (hb:Below X.heap.size X w1)=>HRw.out w1 (bnext hbX hb) (k:Int));have HY2:=Lib.hid (fun w1 (hb:Below X.heap.size X w1)=>HRf.out w1 (bnext hbX hb) (k:Int));have HY3:=Lib.hid (fun w1 (hb:Below X.heap.size X w1)=>HUs.out w1 (bnext hbX hb) (k:Int));rw [e2] at HY1 HY2;rw [HU.out] at HY3;have hnq:=sp_neq 0 0 0 0;clear hRf hbX hX e1 e2 hin hout;go_wp2_with fail;refine HRt.out.mono ?_;rintro e w5 ⟨rfl,rfl⟩;go_upto_region 9 with fail
    go_region_held3 (fun w'=>(∀ b o,b<w5.heap.size→w'.cell? ⟨b,o,none⟩=w5.cell? ⟨b,o,none⟩)∧Below w5.heap.size w5 w') (first | with_reducible assumption | with_reducible exact keepS_here _ | with_reducible exact keepS_here2 _ | with_reducible exact keepS_call (by assumption) (by assumption) | with_reducible exact keepS_alloc (by assumption) _ | with_reducible exact keepS_allocD (by assumption) _ | with_reducible exact keepS_realloc (by assumption) (by assumption) | with_reducible exact keepS_set4 (by assumption) (by assumption))
     (first
      | (go_at_call 77;((with_reducible refine (HY1.out _ (And.right (by assumption))).mono ?_);rintro e w6 ⟨rfl,rfl⟩))
      | (go_at_call 14;((with_reducible refine (HY2.out _ (And.right (by assumption))).mono ?_);rintro e w7 ⟨rfl,rfl⟩))
      | (go_at_call 230;((with_reducible refine (HY3.out _ (And.right (by assumption))).mono ?_);rintro e w8 ⟨rfl,hb8⟩)))
    all_goals
     have hbz:Below w5.heap.size w5 w8:=And.right (by assumption);have HBZ:=Lib.hid (bnext HBX.out hbz);go_wp2_with fail;go_roundw
     case measure=>simp [intOf];omega
     case rel=>exact ⟨k+1,by omega,by go_num,HBZ.out⟩
  ·obtain rfl:k=m+2:=by omega
   obtain⟨w1,hw1⟩:∃ w1,w1=wr:=⟨_,rfl⟩;subst hw1;have hge:¬ (m:Int)+2≤(m:Int)+1:=by omega
   have hl0:(0:Int)≤S.last∧S.last≤100000:=by have:=HLl.out;omega
   obtain⟨hl1,hl2⟩:=hl0;clear hlt hk hbw HRw HRf HUs HDv HLn HC;generalize S.last=last at HB bc HLl hl1 hl2;go_wp2_with fail;clear bc bf bz
   go_loopw [7] (fun t7 wr=>∃ no:Int,-1≤no∧no≤last+2∧t7=.int .i64 no∧Below w.heap.size w wr) (fun t7 _=>(last+2 - intOf t7).toNat)
   case atStart=>exact ⟨-1,by omega,by omega,rfl,HBk.out⟩
   case round=>
    obtain⟨no,hno1,hno2,rfl,hbw⟩:=hrel;have HBk:=Lib.hid hbw;obtain⟨bc,bf,bz⟩:=(HB.out.keep hbw).facts;by_cases hlt:no≤last+1
    ·obtain ⟨a,ea,el,ec,fa,fl,fc,b,he,hf,hc,hd⟩:=HG.out no;have HGw:=Lib.hid hc;have HGf:=Lib.hid hd;have HE:=Lib.hid (And.intro he hf);have HWhw:=Lib.hid (fun w1 hb=>HWw.out w1 hb no);have HWhf:=Lib.hid (fun w1 hb=>HWf.out w1 hb no);unfold whereV at HWhw HWhf;have HOvw:=Lib.hid (fun w1 hb=>HOw.out w1 hb no);have HOvf:=Lib.hid (fun w1 hb=>HOf.out w1 hb no);have HAbw:=Lib.hid (fun w1 hb=>HAw.out w1 hb no);have HAbf:=Lib.hid (fun w1 hb=>HAf.out w1 hb no);have HBuw:=Lib.hid (fun w1 hb=>HBw.out w1 hb no);have HBuf:=Lib.hid (fun w1 hb=>HBf.out w1 hb no);generalize (S.place_ no).getD ByteArray.empty=ps at HWhw HWhf;generalize (S.place_ no).isSome=is at HWhw HWhf;generalize S.over no=ov at HOvw HOvf;generalize S.above no=ab at HAbw HAbf;generalize S.busy no=bs at HBuw HBuf;obtain⟨pc,-,pz⟩:=(HWb.out.keep hbw).facts;clear he hf hc hd hbw;go_wp2_with fail;refine (HGw.out _ HBk.out).mono ?_;rintro e w3 ⟨rfl,hb3⟩;have hbX:=balloc (bnext HBk.out hb3) (.cells #[.int .i64 a.no,.int .i64 a.dev,.int .i64 a.kind,.int .i64 a.mode,.int .i64 a.uid,.int .i64 a.gid,.int .i64 a.mtime,.int .i64 a.ctime,.int .i64 a.links,.int .i64 a.up,.string a.data,.slice ea el ec] 109);have hX:=Blk.new w3 #[.int .i64 a.no,.int .i64 a.dev,.int .i64 a.kind,.int .i64 a.mode,.int .i64 a.uid,.int .i64 a.gid,.int .i64 a.mtime,.int .i64 a.ctime,.int .i64 a.links,.int .i64 a.up,.string a.data,.slice ea el ec] 109;go_upto_region 15 with fail;generalize w3.alloc (.cells #[.int .i64 a.no,.int .i64 a.dev,.int .i64 a.kind,.int .i64 a.mode,.int .i64 a.uid,.int .i64 a.gid,.int .i64 a.mtime,.int .i64 a.ctime,.int .i64 a.links,.int .i64 a.up,.string a.data,.slice ea el ec] 109)=X at hbX hX ⊢;have HX:=Lib.hid hX;have HBX:=Lib.hid hbX;clear bc bf bz pc pz hb3 hX hbX;go_wp2_with fail;refine (HWhw.out _ HBX.out).mono ?_;rintro e w4 ⟨rfl,hb4⟩;have HB4:=Lib.hid (bnext HBX.out hb4);have HX4:=Lib.hid (HX.out.keep hb4);clear hb4;go_wp2_with fail;refine (HWhf.out _ HB4.out).mono ?_;rintro e w5 ⟨rfl,hb5⟩;have HB5:=Lib.hid (bnext HB4.out hb5);obtain⟨xc,xf,xz⟩:=(HX4.out.keep hb5).facts;clear hb5;go_upto_region 17 with fail;have HZ0:=Lib.hid (fun w1 (hb:Below w5.heap.size w5 w1)=>HGf.out w1 (bnext HB5.out hb));have HZ1:=Lib.hid (fun w1 (hb:Below w5.heap.size w5 w1)=>sameN_any a w1 (HE.out.1.keepB (bnext HB5.out hb) (Nat.le_refl _)) (HE.out.2.keepB (bnext HB5.out hb) (Nat.le_refl _)));have HZ2:=Lib.hid (fun w1 (hb:Below w5.heap.size w5 w1)=>HOvw.out w1 (bnext HB5.out hb));have HZ3:=Lib.hid (fun w1 (hb:Below w5.heap.size w5 w1)=>HOvf.out w1 (bnext HB5.out hb));have HZ4:=Lib.hid (fun w1 (hb:Below w5.heap.size w5 w1)=>HAbw.out w1 (bnext HB5.out hb));have HZ5:=Lib.hid (fun w1 (hb:Below w5.heap.size w5 w1)=>HAbf.out w1 (bnext HB5.out hb));have HZ6:=Lib.hid (fun w1 (hb:Below w5.heap.size w5 w1)=>HBuw.out w1 (bnext HB5.out hb));have HZ7:=Lib.hid (fun w1 (hb:Below w5.heap.size w5 w1)=>HBuf.out w1 (bnext HB5.out hb))
     go_region_held3 (fun w'=>(∀ b o,b<w5.heap.size→w'.cell? ⟨b,o,none⟩=w5.cell? ⟨b,o,none⟩)∧Below w5.heap.size w5 w') (first | with_reducible assumption | with_reducible exact keepS_here _ | with_reducible exact keepS_here2 _ | with_reducible exact keepS_call (by assumption) (by assumption) | with_reducible exact keepS_alloc (by assumption) _ | with_reducible exact keepS_allocD (by assumption) _ | with_reducible exact keepS_realloc (by assumption) (by assumption) | with_reducible exact keepS_set4 (by assumption) (by assumption))
      (first
       | (go_at_call 46;((with_reducible refine (HZ0.out _ (And.right (by assumption))).mono ?_);rintro e u0 ⟨rfl,hu0⟩))
       | (go_at_call 231;((with_reducible refine (HZ1.out _ (And.right (by assumption))).mono ?_);rintro e u1 ⟨rfl,hu1⟩))
       | (go_at_call 226;((with_reducible refine (HZ2.out _ (And.right (by assumption))).mono ?_);rintro e u2 ⟨rfl,hu2⟩))
       | (go_at_call 163;((with_reducible refine (HZ3.out _ (And.right (by assumption))).mono ?_);rintro e u3 ⟨rfl,rfl⟩))
       | (go_at_call 150;((with_reducible refine (HZ4.out _ (And.right (by assumption))).mono ?_);rintro e u4 ⟨rfl,hu4⟩))
       | (go_at_call 75;((with_reducible refine (HZ5.out _ (And.right (by assumption))).mono ?_);rintro e u5 ⟨rfl,hu5⟩))
       | (go_at_call 87;((with_reducible refine (HZ6.out _ (And.right (by assumption))).mono ?_);rintro e u6 ⟨rfl,hu6⟩))
       | (go_at_call 91;((with_reducible refine (HZ7.out _ (And.right (by assumption))).mono ?_);rintro e u7 ⟨rfl,hu7⟩)))
     all_goals
      have hbz:Below w5.heap.size w5 u7:=And.right (by assumption);have HBZ:=Lib.hid (bnext HB5.out hbz);go_wp2_with fail;go_roundw
      case measure=>simp [intOf];omega
      case rel=>exact ⟨no+1,by omega,by omega,by go_num,HBZ.out⟩
    ·go_wp2_with fail;go_ret;exact⟨rfl,HBk.out⟩
theorem alike_any (h:WdAt w pw R S) (hq:RfAt w pf Q S) {N:Nat} (hk:FsOk S N) (hp:Pl S) (hl:S.ns.length≤100000) :
  Calls Tryz.prog 110 #[.pointer (some ⟨pw,0,none⟩),.pointer (some ⟨pf,0,none⟩)] w fun e w'=>e=.returned (.bool true)∧Below w.heap.size w w':=by
 have HS:=Lib.hid (same14_any h hq hk hp hl);clear h hq hk hp hl;go_enter Tryz.func110,Tryz.ntmps110;go_wp2_with fail;refine HS.out.mono ?_;rintro e w1 ⟨rfl,hb⟩;have HB:=Lib.hid hb;clear hb;go_wp2_with fail;go_ret;exact⟨rfl,HB.out⟩
end
end
section
open Go.RowKit Go.Shelf
section
variable {w w':World} {pf pw:Nat} {R:Rp} {pv:Value} {Y:Sy}
theorem scount_any (h:SyAt w pf pw R pv Y) :
  Calls Tryz.prog 108 #[.pointer (some ⟨pf,0,none⟩)] w fun e w'=>e=.returned (.int .i64 Y.count)∧w=w':=by
 have HN:=Lib.hid (snone_any h);obtain⟨pc,-,pz⟩:=h.blk.facts;clear h;go_enter Tryz.func108,Tryz.ntmps108;go_wp2_with fail;refine HN.out.mono ?_;rintro e w1 ⟨rfl,rfl⟩;go_wp2_with fail;go_ret;exact⟨rfl,rfl⟩
theorem sdead_any (h:SyAt w pf pw R pv Y) :
  Calls Tryz.prog 109 #[.pointer (some ⟨pf,0,none⟩)] w fun e w'=>e=.returned (.bool Y.dead)∧w=w':=by
 have HN:=Lib.hid (snone_any h);obtain⟨pc,-,pz⟩:=h.blk.facts;clear h;go_enter Tryz.func109,Tryz.ntmps109;go_wp2_with fail;refine HN.out.mono ?_;rintro e w1 ⟨rfl,rfl⟩;go_wp2_with fail;go_ret;exact⟨rfl,rfl⟩
theorem alike24_any (h:SyAt w pf pw R pv Y) {pr:Nat} {Q:Rf} (hq:RfAt w pr Q Y.fs) (hc:Q.cnt=.int .i64 Y.count) (hd:Q.dd=.bool Y.dead) {N:Nat} (hk:FsOk Y.fs N) (hp:Pl Y.fs) (hl:Y.fs.ns.length≤100000) :
  Calls Tryz.prog 43 #[.pointer (some ⟨pf,0,none⟩),.pointer (some ⟨pr,0,none⟩)] w fun e w'=>e=.returned (.bool true)∧Below w.heap.size w w':=by
 have HCo:=Lib.hid (fun w1 (hb:Below w.heap.size w w1)=>scount_any (h.keep hb));have HDe:=Lib.hid (fun w1 (hb:Below w.heap.size w w1)=>sdead_any (h.keep hb));have HAl:=Lib.hid (fun w1 (hb:Below w.heap.size w w1)=>alike_any (h.wd.keep hb) (hq.keep hb) hk hp hl);obtain⟨pc,-,pz⟩:=h.blk.facts;have hblk:=hq.blk;rw [hc,hd] at hblk;obtain⟨qc,-,qz⟩:=hblk.facts;clear h hq hc hd hk hp hl hblk;go_enter Tryz.func43,Tryz.ntmps43;go_wp2_with fail
 go_region_held3 (fun w'=>(∀ b o,b<w.heap.size→w'.cell? ⟨b,o,none⟩=w.cell? ⟨b,o,none⟩)∧Below w.heap.size w w') (first | with_reducible assumption | with_reducible exact keepS_here _ | with_reducible exact keepS_here2 _ | with_reducible exact keepS_call (by assumption) (by assumption) | with_reducible exact keepS_alloc (by assumption) _ | with_reducible exact keepS_allocD (by assumption) _ | with_reducible exact keepS_realloc (by assumption) (by assumption) | with_reducible exact keepS_set4 (by assumption) (by assumption))
  ((first
   | (go_at_call 108;((with_reducible refine (HCo.out _ (And.right (by assumption))).mono ?_);rintro e w2 ⟨rfl,rfl⟩))
   | (go_at_call 109;((with_reducible refine (HDe.out _ (And.right (by assumption))).mono ?_);rintro e w3 ⟨rfl,rfl⟩))
   | (go_at_call 110;((with_reducible refine (HAl.out _ (And.right (by assumption))).mono ?_);rintro e w4 ⟨rfl,hb4⟩))))
 all_goals
  have hbz:Below w.heap.size w w4:=And.right (by assumption);have HBZ:=Lib.hid hbz;clear hbz;go_wp2_with fail;go_ret;exact⟨rfl,HBZ.out⟩
end
end
section
open Go.RowKit
def endF (u:Us) (h:Int×Int) (b:Sy×Bool×Cn×Int):Sy×Cn×Int:=
 if b.2.1=true then (b.1,b.2.2) else if h.2≠0 then (b.1,cn0,b.2.2.2) else b.1.readyF u ⟨h.1,nHome,ByteArray.empty⟩
def restF (u:Us) (h:Int×Int) (top:Int) (path:ByteArray) (a:Sy×Bool×Cn×Int):Sy×Cn×Int:=
 if a.2.1=true then (a.1,a.2.2) else endF u h (a.1.triesF u (a.1.fs.placesF a.1.dead u top path) a.2.2.2)
theorem boxes2 (w:World) (a b:Array Value) (A B:TypeId):Blk ((w.alloc (.cells a A)).alloc (.cells b B)) w.heap.size a A∧Blk ((w.alloc (.cells a A)).alloc (.cells b B)) (w.heap.size+1) b B∧Below w.heap.size w ((w.alloc (.cells a A)).alloc (.cells b B)):=by
 refine ⟨(Blk.new w a A).old _,?_,balloc (balloc (Below.refl w.heap.size w) _) _⟩;have:=Blk.new (w.alloc (.cells a A)) b B
 rwa [World.size_alloc] at this
section
variable {w w':World} {pf pw:Nat} {R:Rp} {pv:Value} {Y:Sy}
structure ChI (w:World) (pf pw:Nat) (R:Rp) (pv:Value) (u:Us) (Z:Sy) (wx:World):Prop where
 g:Goes w wx pf pw R pv Z
 us:Blk wx w.heap.size #[.int .i64 u.u,.int .i64 u.g,.string u.data] 70
 o:Blk wx (w.heap.size+1) #[.string ⟨#[]⟩,.int .i64 0,.int .i64 0,.int .i64 0,.int .i64 0,.int .i64 0,.string ⟨#[]⟩] 93
end
end
end Go.Proofs.YtihdbncoijhihaaGreatDoor
