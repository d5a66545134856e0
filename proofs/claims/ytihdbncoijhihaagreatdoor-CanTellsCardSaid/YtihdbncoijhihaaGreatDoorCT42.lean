import Derived.Test.YtihdbncoijhihaaGreatDoorCT41
import Derived.Test.YtihdbncoijhihaaGreatDoorCT21
import Derived.Test.YtihdbncoijhihaaGreatDoorCT25
set_option linter.unusedVariables false
set_option linter.unusedSimpArgs false
namespace Go.Proofs.YtihdbncoijhihaaGreatDoor
open Go.RowKit
section
variable {w w' : World} {pw pf : Nat} {R : Rp} {Q : Rf} {S : Fs}
theorem both_get (h : WdAt w pw R S) (hq : RfAt w pf Q S) (k : Int) : ∃ (a : An) (ea : Option Addr) (el ec : Nat) (fa : Option Addr) (fl fc : Nat) (b : Bool),EntsAt w ea el ec a.ents∧EntsAt w fa fl fc a.ents∧
  (∀ w1,Below w.heap.size w w1→Calls Tryz.prog 98 #[.pointer (some ⟨R.pt,0,none⟩),.int .i64 k] w1 fun e w'=>e=.returned (.tuple #[.agg #[.int .i64 a.no,.int .i64 a.dev,.int .i64 a.kind,.int .i64 a.mode,.int .i64 a.uid,.int .i64 a.gid,.int .i64 a.mtime,.int .i64 a.ctime,.int .i64 a.links,.int .i64 a.up,.string a.data,.slice ea el ec],.bool b])∧Below w1.heap.size w1 w')∧
  ∀ w1,Below w.heap.size w w1→Calls Tryz.prog 46 #[.pointer (some ⟨pf,0,none⟩),.int .i64 k] w1 fun e w'=>e=.returned (.agg #[.int .i64 a.no,.int .i64 a.dev,.int .i64 a.kind,.int .i64 a.mode,.int .i64 a.uid,.int .i64 a.gid,.int .i64 a.mtime,.int .i64 a.ctime,.int .i64 a.links,.int .i64 a.up,.string a.data,.slice fa fl fc])∧Below w1.heap.size w1 w':=by
 cases hg : S.get k with
 | none=>exact ⟨an0,none,0,0,none,0,0,false,EntsAt.nil w,EntsAt.nil w,fun w1 hb=>wget_no (h.keep hb) hg,fun w1 hb=>rget_no (hq.keep hb) hg⟩
 | some a=>
  obtain⟨ea,el,ec,he,hc⟩:=wget_fix h hg
  obtain⟨fa,fl,fc,hf,hd⟩:=rget_fix hq hg
  exact⟨a,ea,el,ec,fa,fl,fc,true,he,hf,hc,hd⟩
set_option maxRecDepth 100000 in
set_option maxHeartbeats 8000000 in
theorem same14_any (h : WdAt w pw R S) (hq : RfAt w pf Q S) {N : Nat} (hk : FsOk S N) (hp : Pl S) (hl : S.ns.length≤100000) :
  Calls Tryz.prog 170 #[.pointer (some ⟨pw,0,none⟩),.pointer (some ⟨pf,0,none⟩)] w fun e w'=>e=.returned (.bool true)∧Below w.heap.size w w':=by
 obtain⟨na,nc,hnv,hn1,hn2⟩:=hq.nform
 obtain⟨g,cap,hdv,hle,h63,hgl,hcd,-,-⟩:=hq.devF hk.d1
 have hd1:=hk.d1
 have hd8:=hk.d8
 have hlen:=hq.len
 have HLl:=Lib.hid hp.len
 have HDv:=Lib.hid (fun w1 (hb1 : Below w.heap.size w w1)=>wdevs_any (h.keep hb1) hk.d1)
 have HLn:=Lib.hid (fun w1 (hb1 : Below w.heap.size w w1)=>wlen_any (h.keep hb1))
 have HRw:=Lib.hid (fun w1 (hb1 : Below w.heap.size w w1) x=>wroot_any (h.keep hb1) hk.d1 x)
 have HRf:=Lib.hid (fun w1 (hb1 : Below w.heap.size w w1) x=>rroot_any (hq.keep hb1) x)
 have HUs:=Lib.hid (fun w1 (hb1 : Below w.heap.size w w1) x=>wuse_any (h.keep hb1) hk x)
 have HG:=Lib.hid (fun x=>both_get h hq x)
 have HWw:=Lib.hid (fun w1 (hb1 : Below w.heap.size w w1) x=>wwhere_any (h.keep hb1) hk hp hl x)
 have HWf:=Lib.hid (fun w1 (hb1 : Below w.heap.size w w1) x=>rwhere_any (hq.keep hb1) hk hp hl x)
 have HOw:=Lib.hid (fun w1 (hb1 : Below w.heap.size w w1) x=>wover_any (h.keep hb1) hk.d1 x)
 have HOf:=Lib.hid (fun w1 (hb1 : Below w.heap.size w w1) x=>rover_any (hq.keep hb1) x)
 have HAw:=Lib.hid (fun w1 (hb1 : Below w.heap.size w w1) x=>wabove_any (h.keep hb1) hk x)
 have HAf:=Lib.hid (fun w1 (hb1 : Below w.heap.size w w1) x=>rabove_any (hq.keep hb1) hk x)
 have HBw:=Lib.hid (fun w1 (hb1 : Below w.heap.size w w1) x=>wbusy_any (h.keep hb1) hk hp x)
 have HBf:=Lib.hid (fun w1 (hb1 : Below w.heap.size w w1) x=>rbusy_any (hq.keep hb1) hk hl x)
 have hb:=hq.blk
 rw [hnv,hdv,← hlen] at hb
 have HB:=Lib.hid hb
 have HWb:=Lib.hid h.blk
 have HC:=Lib.hid hcd
 have HK:=Lib.hid hk
 obtain⟨pc,-,pz⟩:=h.blk.facts
 obtain⟨bc,bf,bz⟩:=hb.facts
 obtain⟨m,hm⟩ : ∃ m,S.ds.length=m:=⟨_,rfl⟩
 have HM:=Lib.hid hm
 rw [← hlen] at hn1
 rw [hm] at HDv HB bc hle hd1 hd8
 generalize S.ns.length=n at HLn HB bc hn1 hl HLl
 clear h hk hp hq hnv hdv hb hcd hm hlen
 go_enter Tryz.func170,Tryz.ntmps170
 go_wp2_with fail
 go_region_held3 (fun w'=>(∀ b o,b < w.heap.size→w'.cell? ⟨b,o,none⟩=w.cell? ⟨b,o,none⟩)∧Below w.heap.size w w') (first | with_reducible assumption | with_reducible exact keepS_here _ | with_reducible exact keepS_here2 _ | with_reducible exact keepS_call (by assumption) (by assumption) | with_reducible exact keepS_alloc (by assumption) _ | with_reducible exact keepS_allocD (by assumption) _ | with_reducible exact keepS_realloc (by assumption) (by assumption) | with_reducible exact keepS_set4 (by assumption) (by assumption))
  (first
   | (go_at_call 146;((with_reducible refine (HDv.out _ (And.right (by assumption))).mono ?_);rintro e w5 ⟨rfl,rfl⟩))
   | (go_at_call 229;((with_reducible refine (HLn.out _ (And.right (by assumption))).mono ?_);rintro e w4 ⟨rfl,rfl⟩)))
 have HK0:=Lib.hid (show Below w.heap.size w w.drew from (Below.refl _ _).drew)
 generalize w.drew=w0 at HK0 ⊢
 clear pc pz bc bf bz
 go_wp2_with fail
 go_loopw [5] (fun t5 wr=>∃ k : Nat,k≤m + 2∧t5=.int .i64 k∧Below w.heap.size w wr) (fun t5 _=>m + 2 - (intOf t5).toNat)
 case atStart=>exact ⟨0,Nat.zero_le _,rfl,HK0.out⟩
 case round=>
  obtain⟨k,hk,rfl,hbw⟩:=hrel
  have HBk:=Lib.hid hbw
  obtain⟨bc,bf,bz⟩:=(HB.out.keep hbw).facts
  by_cases hlt : k≤m + 1
  ·have hle1 : (k : Int)≤(m : Int) + 1:=by omega
   have hbX:=balloc hbw (.cells #[.int .i64 0,.int .i64 0,.int .i64 0,.int .i64 0] 168)
   have hX:=Blk.new wr #[.int .i64 0,.int .i64 0,.int .i64 0,.int .i64 0] 168
   clear hbw
   go_upto_region 7 with fail
   clear bc bf bz
   generalize wr.alloc (.cells #[.int .i64 0,.int .i64 0,.int .i64 0,.int .i64 0] 168)=X at hbX hX ⊢
   have hRf:=HRf.out X hbX (k : Int)
   obtain⟨bc,bf,bz⟩:=(HB.out.keep hbX).facts
   obtain⟨xc,xf,xz⟩:=hX.facts
   have HX:=Lib.hid hX
   have HBX:=Lib.hid hbX
   by_cases hin : 1≤k∧k≤m
   ·obtain ⟨j,rfl⟩ : ∃ j,k=j + 1:=⟨k - 1,by omega⟩
    have hjl : j < S.ds.length:=by rw [HM.out];omega
    have hjm : (j : Int) < (m : Int):=by omega
    obtain⟨e1,e2,e3⟩:=dev_in HK.out hjl
    have HU:=Lib.hid (show useV S ((j : Int) + 1)=.agg #[.int .i64 S.ds[j].b,.int .i64 S.ds[j].n,.int .i64 S.ds[j].mb,.int .i64 S.ds[j].mn] by
     unfold useV
     rw [e1])
    obtain⟨c0,c1,c2,c3,c4,c5⟩:=HC.out j hjl
    rw [← hbX.cell (p:=⟨g,j * 6 + 2,none⟩) hgl] at c2
    rw [← hbX.cell (p:=⟨g,j * 6 + 3,none⟩) hgl] at c3
    rw [← hbX.cell (p:=⟨g,j * 6 + 4,none⟩) hgl] at c4
    rw [← hbX.cell (p:=⟨g,j * 6 + 5,none⟩) hgl] at c5
    rw [show ((j + 1 : Nat) : Int)=(j : Int) + 1 by omega] at hRf
    have hq0 : (S.root ((j : Int) + 1) != 0)=true:=by
     rw [e2]
     simpa using e3
    have HRt:=Lib.hid hRf
    generalize S.ds[j]=v at c2 c3 c4 c5 HU
    obtain⟨rt,hrt⟩ : ∃ x,S.root ((j : Int) + 1)=x:=⟨_,rfl⟩
    rw [hrt] at HRt hq0
    have HRtE:=Lib.hid hrt
    clear hRf hbX hX e1 e2 e3 c0 c1 hrt hin
    go_wp2_with fail
    refine HRt.out.mono ?_
    rintro e w5 ⟨rfl,rfl⟩
    go_upto_region 9 with fail
    have hY:=HX.out.set4 (v0:=.int .i64 v.b) (v1:=.int .i64 v.n) (v2:=.int .i64 v.mb) (v3:=.int .i64 v.mn)
    have hbY:=below_set4 (v0:=.int .i64 v.b) (v1:=.int .i64 v.n) (v2:=.int .i64 v.mb) (v3:=.int .i64 v.mn) HBX.out HBk.out.size
    generalize (((w5.setCell ⟨wr.heap.size,0,none⟩ (.int .i64 v.b)).setCell ⟨wr.heap.size,1,none⟩ (.int .i64 v.n)).setCell ⟨wr.heap.size,2,none⟩ (.int .i64 v.mb)).setCell ⟨wr.heap.size,3,none⟩ (.int .i64 v.mn)=Y at hY hbY ⊢
    have HY1:=Lib.hid (fun w1 (hb : Below Y.heap.size Y w1)=>HRw.out w1 (bnext hbY hb) ((j : Int) + 1))
    have HY2:=Lib.hid (fun w1 (hb : Below Y.heap.size Y w1)=>HRf.out w1 (bnext hbY hb) ((j : Int) + 1))
    have HY3:=Lib.hid (fun w1 (hb : Below Y.heap.size Y w1)=>HUs.out w1 (bnext hbY hb) ((j : Int) + 1))
    rw [HRtE.out] at HY1 HY2
    rw [HU.out] at HY3
    have HBY:=Lib.hid hbY
    have hnq:=sp_neq v.b v.n v.mb v.mn
    clear c2 c3 c4 c5 xc xf xz bc bf bz hbY
    obtain⟨xc,xf,xz⟩:=hY.facts
    clear hY
    go_region_held3 (fun w'=>(∀ b o,b < Y.heap.size→w'.cell? ⟨b,o,none⟩=Y.cell? ⟨b,o,none⟩)∧Below Y.heap.size Y w') (first | with_reducible assumption | with_reducible exact keepS_here _ | with_reducible exact keepS_here2 _ | with_reducible exact keepS_call (by assumption) (by assumption) | with_reducible exact keepS_alloc (by assumption) _ | with_reducible exact keepS_allocD (by assumption) _ | with_reducible exact keepS_realloc (by assumption) (by assumption) | with_reducible exact keepS_set4 (by assumption) (by assumption))
     (first
      | (go_at_call 77;((with_reducible refine (HY1.out _ (And.right (by assumption))).mono ?_);rintro e w6 ⟨rfl,rfl⟩))
      | (go_at_call 14;((with_reducible refine (HY2.out _ (And.right (by assumption))).mono ?_);rintro e w7 ⟨rfl,rfl⟩))
      | (go_at_call 230;((with_reducible refine (HY3.out _ (And.right (by assumption))).mono ?_);rintro e w8 ⟨rfl,hb8⟩)))
    all_goals
     have hbz : Below Y.heap.size Y w8:=And.right (by assumption)
     have HBZ:=Lib.hid (bnext HBY.out hbz)
     go_wp2_with fail
     go_roundw
     case measure=>simp [intOf];omega
     case rel=>exact ⟨j + 2,by omega,by go_num,HBZ.out⟩
   ·have hout : ¬ (1≤(k : Int)∧(k : Int)≤S.ds.length):=by rw [HM.out];omega
    obtain⟨e1,e2⟩:=dev_out hout
    have HU:=Lib.hid (show useV S (k : Int)=.agg #[.int .i64 0,.int .i64 0,.int .i64 0,.int .i64 0] by unfold useV;rw [e1])
    rw [e2] at hRf
    have HRt:=Lib.hid hRf
    have HY1:=Lib.hid (fun w1 (hb : Below X.heap.size X w1)=>HRw.out w1 (bnext hbX hb) (k : Int))
    have HY2:=Lib.hid (fun w1 (hb : Below X.heap.size X w1)=>HRf.out w1 (bnext hbX hb) (k : Int))
    have HY3:=Lib.hid (fun w1 (hb : Below X.heap.size X w1)=>HUs.out w1 (bnext hbX hb) (k : Int))
    rw [e2] at HY1 HY2
    rw [HU.out] at HY3
    have hnq:=sp_neq 0 0 0 0
    clear hRf hbX hX e1 e2 hin hout
    go_wp2_with fail
    refine HRt.out.mono ?_
    rintro e w5 ⟨rfl,rfl⟩
    go_upto_region 9 with fail
    go_region_held3 (fun w'=>(∀ b o,b < w5.heap.size→w'.cell? ⟨b,o,none⟩=w5.cell? ⟨b,o,none⟩)∧Below w5.heap.size w5 w') (first | with_reducible assumption | with_reducible exact keepS_here _ | with_reducible exact keepS_here2 _ | with_reducible exact keepS_call (by assumption) (by assumption) | with_reducible exact keepS_alloc (by assumption) _ | with_reducible exact keepS_allocD (by assumption) _ | with_reducible exact keepS_realloc (by assumption) (by assumption) | with_reducible exact keepS_set4 (by assumption) (by assumption))
     (first
      | (go_at_call 77;((with_reducible refine (HY1.out _ (And.right (by assumption))).mono ?_);rintro e w6 ⟨rfl,rfl⟩))
      | (go_at_call 14;((with_reducible refine (HY2.out _ (And.right (by assumption))).mono ?_);rintro e w7 ⟨rfl,rfl⟩))
      | (go_at_call 230;((with_reducible refine (HY3.out _ (And.right (by assumption))).mono ?_);rintro e w8 ⟨rfl,hb8⟩)))
    all_goals
     have hbz : Below w5.heap.size w5 w8:=And.right (by assumption)
     have HBZ:=Lib.hid (bnext HBX.out hbz)
     go_wp2_with fail
     go_roundw
     case measure=>simp [intOf];omega
     case rel=>exact ⟨k + 1,by omega,by go_num,HBZ.out⟩
  ·obtain rfl : k=m + 2:=by omega
   obtain⟨w1,hw1⟩ : ∃ w1,w1=wr:=⟨_,rfl⟩
   subst hw1
   have hge : ¬ (m : Int) + 2≤(m : Int) + 1:=by omega
   have hl0 : (0 : Int)≤S.last∧S.last≤100000:=by have:=HLl.out;omega
   obtain⟨hl1,hl2⟩:=hl0
   clear hlt hk hbw HRw HRf HUs HDv HLn HC
   generalize S.last=last at HB bc HLl hl1 hl2
   go_wp2_with fail
   clear bc bf bz
   go_loopw [7] (fun t7 wr=>∃ no : Int,-1≤no∧no≤last + 2∧t7=.int .i64 no∧Below w.heap.size w wr) (fun t7 _=>(last + 2 - intOf t7).toNat)
   case atStart=>exact ⟨-1,by omega,by omega,rfl,HBk.out⟩
   case round=>
    obtain⟨no,hno1,hno2,rfl,hbw⟩:=hrel
    have HBk:=Lib.hid hbw
    obtain⟨bc,bf,bz⟩:=(HB.out.keep hbw).facts
    by_cases hlt : no≤last + 1
    ·obtain ⟨a,ea,el,ec,fa,fl,fc,b,he,hf,hc,hd⟩:=HG.out no
     have HGw:=Lib.hid hc
     have HGf:=Lib.hid hd
     have HE:=Lib.hid (And.intro he hf)
     have HWhw:=Lib.hid (fun w1 hb=>HWw.out w1 hb no)
     have HWhf:=Lib.hid (fun w1 hb=>HWf.out w1 hb no)
     unfold whereV at HWhw HWhf
     have HOvw:=Lib.hid (fun w1 hb=>HOw.out w1 hb no)
     have HOvf:=Lib.hid (fun w1 hb=>HOf.out w1 hb no)
     have HAbw:=Lib.hid (fun w1 hb=>HAw.out w1 hb no)
     have HAbf:=Lib.hid (fun w1 hb=>HAf.out w1 hb no)
     have HBuw:=Lib.hid (fun w1 hb=>HBw.out w1 hb no)
     have HBuf:=Lib.hid (fun w1 hb=>HBf.out w1 hb no)
     generalize (S.place_ no).getD ByteArray.empty=ps at HWhw HWhf
     generalize (S.place_ no).isSome=is at HWhw HWhf
     generalize S.over no=ov at HOvw HOvf
     generalize S.above no=ab at HAbw HAbf
     generalize S.busy no=bs at HBuw HBuf
     obtain⟨pc,-,pz⟩:=(HWb.out.keep hbw).facts
     clear he hf hc hd hbw
     go_wp2_with fail
     refine (HGw.out _ HBk.out).mono ?_
     rintro e w3 ⟨rfl,hb3⟩
     have hbX:=balloc (bnext HBk.out hb3) (.cells #[.int .i64 a.no,.int .i64 a.dev,.int .i64 a.kind,.int .i64 a.mode,.int .i64 a.uid,.int .i64 a.gid,.int .i64 a.mtime,.int .i64 a.ctime,.int .i64 a.links,.int .i64 a.up,.string a.data,.slice ea el ec] 109)
     have hX:=Blk.new w3 #[.int .i64 a.no,.int .i64 a.dev,.int .i64 a.kind,.int .i64 a.mode,.int .i64 a.uid,.int .i64 a.gid,.int .i64 a.mtime,.int .i64 a.ctime,.int .i64 a.links,.int .i64 a.up,.string a.data,.slice ea el ec] 109
     go_upto_region 15 with fail
     generalize w3.alloc (.cells #[.int .i64 a.no,.int .i64 a.dev,.int .i64 a.kind,.int .i64 a.mode,.int .i64 a.uid,.int .i64 a.gid,.int .i64 a.mtime,.int .i64 a.ctime,.int .i64 a.links,.int .i64 a.up,.string a.data,.slice ea el ec] 109)=X at hbX hX ⊢
     have HX:=Lib.hid hX
     have HBX:=Lib.hid hbX
     clear bc bf bz pc pz hb3 hX hbX
     go_wp2_with fail
     refine (HWhw.out _ HBX.out).mono ?_
     rintro e w4 ⟨rfl,hb4⟩
     have HB4:=Lib.hid (bnext HBX.out hb4)
     have HX4:=Lib.hid (HX.out.keep hb4)
     clear hb4
     go_wp2_with fail
     refine (HWhf.out _ HB4.out).mono ?_
     rintro e w5 ⟨rfl,hb5⟩
     have HB5:=Lib.hid (bnext HB4.out hb5)
     obtain⟨xc,xf,xz⟩:=(HX4.out.keep hb5).facts
     clear hb5
     go_upto_region 17 with fail
     have HZ0:=Lib.hid (fun w1 (hb : Below w5.heap.size w5 w1)=>HGf.out w1 (bnext HB5.out hb))
     have HZ1:=Lib.hid (fun w1 (hb : Below w5.heap.size w5 w1)=>sameN_any a w1 (HE.out.1.keepB (bnext HB5.out hb) (Nat.le_refl _)) (HE.out.2.keepB (bnext HB5.out hb) (Nat.le_refl _)))
     have HZ2:=Lib.hid (fun w1 (hb : Below w5.heap.size w5 w1)=>HOvw.out w1 (bnext HB5.out hb))
     have HZ3:=Lib.hid (fun w1 (hb : Below w5.heap.size w5 w1)=>HOvf.out w1 (bnext HB5.out hb))
     have HZ4:=Lib.hid (fun w1 (hb : Below w5.heap.size w5 w1)=>HAbw.out w1 (bnext HB5.out hb))
     have HZ5:=Lib.hid (fun w1 (hb : Below w5.heap.size w5 w1)=>HAbf.out w1 (bnext HB5.out hb))
     have HZ6:=Lib.hid (fun w1 (hb : Below w5.heap.size w5 w1)=>HBuw.out w1 (bnext HB5.out hb))
     have HZ7:=Lib.hid (fun w1 (hb : Below w5.heap.size w5 w1)=>HBuf.out w1 (bnext HB5.out hb))
     go_region_held3 (fun w'=>(∀ b o,b < w5.heap.size→w'.cell? ⟨b,o,none⟩=w5.cell? ⟨b,o,none⟩)∧Below w5.heap.size w5 w') (first | with_reducible assumption | with_reducible exact keepS_here _ | with_reducible exact keepS_here2 _ | with_reducible exact keepS_call (by assumption) (by assumption) | with_reducible exact keepS_alloc (by assumption) _ | with_reducible exact keepS_allocD (by assumption) _ | with_reducible exact keepS_realloc (by assumption) (by assumption) | with_reducible exact keepS_set4 (by assumption) (by assumption))
      (first
       | (go_at_call 46;((with_reducible refine (HZ0.out _ (And.right (by assumption))).mono ?_);rintro e u0 ⟨rfl,hu0⟩))
       | (go_at_call 231;((with_reducible refine (HZ1.out _ (And.right (by assumption))).mono ?_);rintro e u1 ⟨rfl,hu1⟩))
       | (go_at_call 226;((with_reducible refine (HZ2.out _ (And.right (by assumption))).mono ?_);rintro e u2 ⟨rfl,hu2⟩))
       | (go_at_call 163;((with_reducible refine (HZ3.out _ (And.right (by assumption))).mono ?_);rintro e u3 ⟨rfl,rfl⟩))
       | (go_at_call 150;((with_reducible refine (HZ4.out _ (And.right (by assumption))).mono ?_);rintro e u4 ⟨rfl,hu4⟩))
       | (go_at_call 75;((with_reducible refine (HZ5.out _ (And.right (by assumption))).mono ?_);rintro e u5 ⟨rfl,hu5⟩))
       | (go_at_call 87;((with_reducible refine (HZ6.out _ (And.right (by assumption))).mono ?_);rintro e u6 ⟨rfl,hu6⟩))
       | (go_at_call 91;((with_reducible refine (HZ7.out _ (And.right (by assumption))).mono ?_);rintro e u7 ⟨rfl,hu7⟩)))
     all_goals
      have hbz : Below w5.heap.size w5 u7:=And.right (by assumption)
      have HBZ:=Lib.hid (bnext HB5.out hbz)
      go_wp2_with fail
      go_roundw
      case measure=>simp [intOf];omega
      case rel=>exact ⟨no + 1,by omega,by omega,by go_num,HBZ.out⟩
    ·go_wp2_with fail
     go_ret
     exact⟨rfl,HBk.out⟩
set_option maxRecDepth 100000 in
theorem alike_any (h : WdAt w pw R S) (hq : RfAt w pf Q S) {N : Nat} (hk : FsOk S N) (hp : Pl S) (hl : S.ns.length≤100000) :
  Calls Tryz.prog 110 #[.pointer (some ⟨pw,0,none⟩),.pointer (some ⟨pf,0,none⟩)] w fun e w'=>e=.returned (.bool true)∧Below w.heap.size w w':=by
 have HS:=Lib.hid (same14_any h hq hk hp hl)
 clear h hq hk hp hl
 go_enter Tryz.func110,Tryz.ntmps110
 go_wp2_with fail
 refine HS.out.mono ?_
 rintro e w1 ⟨rfl,hb⟩
 have HB:=Lib.hid hb
 clear hb
 go_wp2_with fail
 go_ret
 exact⟨rfl,HB.out⟩
end
end Go.Proofs.YtihdbncoijhihaaGreatDoor
namespace Go.Proofs.YtihdbncoijhihaaGreatDoor
open Go.RowKit Go.Shelf
section
variable {w w' : World} {pf pw : Nat} {R : Rp} {pv : Value} {Y : Sy}
set_option maxRecDepth 100000 in
set_option maxHeartbeats 1000000 in
theorem scount_any (h : SyAt w pf pw R pv Y) :
  Calls Tryz.prog 108 #[.pointer (some ⟨pf,0,none⟩)] w fun e w'=>e=.returned (.int .i64 Y.count)∧w=w':=by
 have HN:=Lib.hid (snone_any h)
 obtain⟨pc,-,pz⟩:=h.blk.facts
 clear h
 go_enter Tryz.func108,Tryz.ntmps108
 go_wp2_with fail
 refine HN.out.mono ?_
 rintro e w1 ⟨rfl,rfl⟩
 go_wp2_with fail
 go_ret
 exact⟨rfl,rfl⟩
set_option maxRecDepth 100000 in
set_option maxHeartbeats 1000000 in
theorem sdead_any (h : SyAt w pf pw R pv Y) :
  Calls Tryz.prog 109 #[.pointer (some ⟨pf,0,none⟩)] w fun e w'=>e=.returned (.bool Y.dead)∧w=w':=by
 have HN:=Lib.hid (snone_any h)
 obtain⟨pc,-,pz⟩:=h.blk.facts
 clear h
 go_enter Tryz.func109,Tryz.ntmps109
 go_wp2_with fail
 refine HN.out.mono ?_
 rintro e w1 ⟨rfl,rfl⟩
 go_wp2_with fail
 go_ret
 exact⟨rfl,rfl⟩
set_option maxRecDepth 100000 in
set_option maxHeartbeats 4000000 in
theorem alike24_any (h : SyAt w pf pw R pv Y) {pr : Nat} {Q : Rf} (hq : RfAt w pr Q Y.fs) (hc : Q.cnt=.int .i64 Y.count) (hd : Q.dd=.bool Y.dead) {N : Nat} (hk : FsOk Y.fs N) (hp : Pl Y.fs) (hl : Y.fs.ns.length≤100000) :
  Calls Tryz.prog 43 #[.pointer (some ⟨pf,0,none⟩),.pointer (some ⟨pr,0,none⟩)] w fun e w'=>e=.returned (.bool true)∧Below w.heap.size w w':=by
 have HCo:=Lib.hid (fun w1 (hb : Below w.heap.size w w1)=>scount_any (h.keep hb))
 have HDe:=Lib.hid (fun w1 (hb : Below w.heap.size w w1)=>sdead_any (h.keep hb))
 have HAl:=Lib.hid (fun w1 (hb : Below w.heap.size w w1)=>alike_any (h.wd.keep hb) (hq.keep hb) hk hp hl)
 obtain⟨pc,-,pz⟩:=h.blk.facts
 have hblk:=hq.blk
 rw [hc,hd] at hblk
 obtain⟨qc,-,qz⟩:=hblk.facts
 clear h hq hc hd hk hp hl hblk
 go_enter Tryz.func43,Tryz.ntmps43
 go_wp2_with fail
 go_region_held3 (fun w'=>(∀ b o,b < w.heap.size→w'.cell? ⟨b,o,none⟩=w.cell? ⟨b,o,none⟩)∧Below w.heap.size w w') (first | with_reducible assumption | with_reducible exact keepS_here _ | with_reducible exact keepS_here2 _ | with_reducible exact keepS_call (by assumption) (by assumption) | with_reducible exact keepS_alloc (by assumption) _ | with_reducible exact keepS_allocD (by assumption) _ | with_reducible exact keepS_realloc (by assumption) (by assumption) | with_reducible exact keepS_set4 (by assumption) (by assumption))
  ((first
   | (go_at_call 108;((with_reducible refine (HCo.out _ (And.right (by assumption))).mono ?_);rintro e w2 ⟨rfl,rfl⟩))
   | (go_at_call 109;((with_reducible refine (HDe.out _ (And.right (by assumption))).mono ?_);rintro e w3 ⟨rfl,rfl⟩))
   | (go_at_call 110;((with_reducible refine (HAl.out _ (And.right (by assumption))).mono ?_);rintro e w4 ⟨rfl,hb4⟩))))
 all_goals
  have hbz : Below w.heap.size w w4:=And.right (by assumption)
  have HBZ:=Lib.hid hbz
  clear hbz
  go_wp2_with fail
  go_ret
  exact⟨rfl,HBZ.out⟩
end
set_option maxRecDepth 100000 in
set_option maxHeartbeats 2000000 in
theorem same30_any (l : List Cn) (a b : Option Addr) (n c m d : Nat) (w : World) (h : SliceAt w 7 cnQ a n c l) (k : SliceAt w 7 cnQ b m d l) :
  Calls Tryz.prog 32 #[.slice a n c,.slice b m d] w fun e w'=>e=.returned (.bool true)∧Below w.heap.size w w':=by
 obtain rfl : l.length=n:=h.1
 obtain rfl : l.length=m:=k.1
 have hc1:=h.2.1
 have hc2:=h.2.2.1
 have hd1:=k.2.1
 have hd2:=k.2.2.1
 have HE:=Lib.hid (And.intro h k)
 clear h k
 go_enter Tryz.func32,Tryz.ntmps32
 go_wp2_with fail
 go_loopw [5] (fun t5 wr=>∃ k : Nat,k≤l.length∧t5=.int .i64 k∧Below w.heap.size w wr) (fun t5 _=>l.length - (intOf t5).toNat)
 case atStart=>exact ⟨0,Nat.zero_le _,rfl,Below.refl _ _⟩
 case round=>
  obtain⟨k,hk,rfl,hb⟩:=hrel
  have HB:=Lib.hid hb
  by_cases hlt : k < l.length
  ·obtain ⟨b1,off,rfl,hbl,c0,c1,c2,c3,c4,c5,c6⟩:=cn_cells (SliceAt.below HE.out.1 hb (Nat.le_refl _)) k hlt
   obtain⟨b2,off2,rfl,hbl2,d0,d1,d2,d3,d4,d5,d6⟩:=cn_cells (SliceAt.below HE.out.2 hb (Nat.le_refl _)) k hlt
   have hne:=cn_neq l[k]
   generalize l[k]=x at c0 c1 c2 c3 c4 c5 c6 d0 d1 d2 d3 d4 d5 d6 hne
   clear hb
   go_wp2_with (go_quiet (fail))
   go_roundw
   case measure=>simp [intOf];omega
   case rel=>exact ⟨k + 1,by omega,by go_num,HB.out.trans (below_drewN ((Below.refl _ _).mono HB.out.size) _)⟩
  ·obtain rfl : k=l.length:=by omega
   clear hb
   go_wp2_with fail
   go_ret
   exact⟨rfl,HB.out⟩
end Go.Proofs.YtihdbncoijhihaaGreatDoor
namespace Go.Proofs.YtihdbncoijhihaaGreatDoor
open Go.RowKit
def bitB (m : Int) (n : Nat) : Bool:=bits .and .i64 (m / 2 ^ n) 1 == 1
def fromK (cu cg uid gid : Int) : Nat:=if cu=uid then 6 else if cg=gid then 3 else 0
def bitsOk (mode want : Int) (f k : Nat) : Bool:=(List.range k).all fun i=>!bitB want i || bitB mode (f + i)
def refMay (cu cg uid gid mode want : Int) : Bool:=if bitsOk mode want (fromK cu cg uid gid) 3 then true else decide (cu=0)
theorem bits_tab : ∀ m : Fin 1024,∀ k : Fin 8,(bitsOk (m.val : Int) (k.val : Int) 6 3=(bits .and .i64 (bits .and .i64 ((m.val : Int) / 64) (k.val : Int)) 7 == bits .and .i64 (k.val : Int) 7))∧(bitsOk (m.val : Int) (k.val : Int) 3 3=(bits .and .i64 (bits .and .i64 ((m.val : Int) / 8) (k.val : Int)) 7 == bits .and .i64 (k.val : Int) 7))∧(bitsOk (m.val : Int) (k.val : Int) 0 3=(bits .and .i64 (bits .and .i64 (m.val : Int) (k.val : Int)) 7 == bits .and .i64 (k.val : Int) 7)):=by
 decide +kernel
theorem may_same (cu cg uid gid mode want : Int) (hm : 0≤mode∧mode≤1023) (hw : 0≤want∧want≤7) : refMay cu cg uid gid mode want=permB cu cg uid gid mode want:=by
 obtain⟨m,rfl⟩ : ∃ m : Nat,mode=m:=⟨mode.toNat,by omega⟩
 obtain⟨k,rfl⟩ : ∃ k : Nat,want=k:=⟨want.toNat,by omega⟩
 obtain⟨t1,t2,t3⟩:=bits_tab ⟨m,by omega⟩ ⟨k,by omega⟩
 simp only at t1 t2 t3
 unfold refMay permB fromK
 by_cases h0 : cu=0
 ·rw [if_pos h0,decide_eq_true h0]
  simp
 ·rw [if_neg h0,decide_eq_false h0]
  by_cases h1 : cu=uid
  ·rw [if_pos h1,if_pos h1,t1]
   cases (bits .and .i64 (bits .and .i64 ((m : Int) / 64) (k : Int)) 7 == bits .and .i64 (k : Int) 7) <;> rfl
  ·rw [if_neg h1,if_neg h1]
   by_cases h2 : cg=gid
   ·rw [if_pos h2,if_pos h2,t2]
    cases (bits .and .i64 (bits .and .i64 ((m : Int) / 8) (k : Int)) 7 == bits .and .i64 (k : Int) 7) <;> rfl
   ·rw [if_neg h2,if_neg h2,t3]
    cases (bits .and .i64 (bits .and .i64 (m : Int) (k : Int)) 7 == bits .and .i64 (k : Int) 7) <;> rfl
set_option maxRecDepth 100000 in
set_option maxHeartbeats 1000000 in
theorem rbitG_any (m : Int) (n : Nat) (hn : n≤100) (w : World) :
  Calls Tryz.prog 228 #[.int .i64 m,.int .i64 n] w fun e w'=>e=.returned (.bool (bitB m n))∧w'=w:=by
 go_enter Tryz.func228,Tryz.ntmps228
 go_wp2_with fail
 go_loopw [0,5] (fun t0 t5 wr=>∃ (k : Nat),k≤n∧t0=.int .i64 (m / 2 ^ k)∧t5=.int .i64 k∧wr=w) (fun _ t5 _=>n - (intOf t5).toNat)
 case atStart=>exact ⟨0,Nat.zero_le _,by simp,rfl,rfl⟩
 case round=>
  obtain⟨k,hk,rfl,rfl,rfl⟩:=hrel
  by_cases hlt : k < n
  ·go_wp2_with fail
   go_roundw
   case measure=>simp [intOf];omega
   case rel=>
    refine ⟨k + 1,by omega,?_,by go_num,by trivial⟩
    rw [Int.pow_succ,Int.ediv_ediv_of_nonneg (Int.pow_nonneg (by decide))]
  ·obtain rfl : k=n:=by omega
   go_wp2_with fail
   go_ret
   exact⟨rfl,rfl⟩
theorem bitsOk_succ (mode want : Int) (f k : Nat) : bitsOk mode want f (k + 1)=(bitsOk mode want f k && (!bitB want k || bitB mode (f + k))):=by
 unfold bitsOk
 rw [List.range_succ,List.all_append]
 simp
theorem bitsOk_fail {mode want : Int} {f k : Nat} (hk : k < 3) (h1 : bitB want k=true) (h2 : bitB mode (f + k)=false) : bitsOk mode want f 3=false:=by
 unfold bitsOk
 rw [List.all_eq_false]
 exact⟨k,List.mem_range.2 hk,by rw [h1,h2];simp⟩
set_option maxRecDepth 100000 in
set_option maxHeartbeats 1000000 in
theorem rmayG_any (cu cg uid gid mode want : Int) (w : World) :
  Calls Tryz.prog 167 #[.agg #[.int .i64 cu,.int .i64 cg],.int .i64 uid,.int .i64 gid,.int .i64 mode,.int .i64 want] w fun e w'=>e=.returned (.bool (refMay cu cg uid gid mode want))∧Below w.heap.size w w':=by
 have HBit:=Lib.hid (fun m (n : Nat) hn w=>rbitG_any m n hn w)
 have hB:=Blk.new w #[.int .i64 cu,.int .i64 cg] 27
 have HB0:=Lib.hid (balloc (Below.refl w.heap.size w) (.cells #[.int .i64 cu,.int .i64 cg] 27))
 obtain⟨qc,qf,qz⟩:=hB.facts
 have HR:=Lib.hid (show refMay cu cg uid gid mode want=if bitsOk mode want (fromK cu cg uid gid) 3 then true else decide (cu=0) from rfl)
 have hcase : ((cu == uid)=true∧fromK cu cg uid gid=6)∨((cu == uid)=false∧(cg == gid)=true∧fromK cu cg uid gid=3)∨((cu == uid)=false∧(cg == gid)=false∧fromK cu cg uid gid=0):=by
  unfold fromK
  by_cases h1 : cu=uid
  ·exact .inl ⟨by simpa using h1,if_pos h1⟩
  ·by_cases h2 : cg=gid
   ·exact .inr (.inl ⟨by simpa using h1,by simpa using h2,by rw [if_neg h1,if_pos h2]⟩)
   ·exact .inr (.inr ⟨by simpa using h1,by simpa using h2,by rw [if_neg h1,if_neg h2]⟩)
 have hz : (cu == 0)=decide (cu=0):=by
  rw [Bool.eq_iff_iff];simp
 have HZ:=Lib.hid hz
 clear hB hz
 generalize refMay cu cg uid gid mode want=RR at HR ⊢
 go_enter Tryz.func167,Tryz.ntmps167
 go_upto_region 2 with fail
 generalize w.alloc (.cells #[.int .i64 cu,.int .i64 cg] 27)=X at HB0 qc qf qz ⊢
 rcases hcase with ⟨h1,hf⟩ | ⟨h1,h2,hf⟩ | ⟨h1,h2,hf⟩
 ·rw [hf] at HR
  clear hf
  go_wp2_with fail
  go_loopw [12] (fun t12 wr=>∃ k : Nat,k≤3∧t12=.int .i64 k∧wr=X∧bitsOk mode want 6 k=true) (fun t12 _=>3 - (intOf t12).toNat)
  case atStart=>exact ⟨0,Nat.zero_le _,rfl,rfl,rfl⟩
  case round=>
   obtain⟨k,hk,rfl,hwr,hok⟩:=hrel
   have hwr:=hwr.symm
   subst hwr
   have HOk:=Lib.hid hok
   clear hok
   by_cases hlt : k < 3
   ·have hk3 : (k : Int) < 3:=by omega
    have HSucc:=Lib.hid (bitsOk_succ mode want 6 k)
    have HFail:=Lib.hid (fun h1 h2=>bitsOk_fail (mode:=mode) (want:=want) (f:=6) hlt h1 h2)
    go_wp2_with fail
    refine (HBit.out want k (by omega) _).mono ?_
    rintro e w2 ⟨rfl,rfl⟩
    obtain⟨b1,hb1⟩ : ∃ b,bitB want k=b:=⟨_,rfl⟩
    rw [hb1] at HSucc HFail
    rw [hb1]
    clear hb1
    cases b1 with
    | false=>
     have HN:=Lib.hid (show bitsOk mode want 6 (k + 1)=true by rw [HSucc.out,HOk.out];rfl)
     go_wp2_with fail
     go_roundw
     case measure=>simp [intOf];omega
     case rel=>exact ⟨k + 1,by omega,by go_num,by first | rfl | trivial,HN.out⟩
    | true=>
     have hfk : IntKind.i64.wrap ((6 : Int) + (k : Int))=(6 : Int) + (k : Int):=by rw [IntKind.wrap_i64];omega
     go_wp2_with fail
     have h2:=HBit.out mode (6 + k) (by omega)
     rw [show ((6 + k : Nat) : Int)=(6 : Int) + (k : Int) from by omega] at h2
     refine (h2 _).mono ?_
     rintro e w3 ⟨rfl,rfl⟩
     obtain⟨b2,hb2⟩ : ∃ b,bitB mode (6 + k)=b:=⟨_,rfl⟩
     rw [hb2] at HSucc HFail
     rw [hb2]
     clear hb2
     cases b2 with
     | false=>
      have HN:=Lib.hid (show RR=decide (cu=0) by rw [HR.out,HFail.out (by first | rfl | trivial) (by first | rfl | trivial)];simp)
      have hzz:=HZ.out
      go_wp2_with fail
      go_ret
      exact⟨ret_bool (by rw [HN.out,← HZ.out]),HB0.out⟩
     | true=>
      have HN:=Lib.hid (show bitsOk mode want 6 (k + 1)=true by rw [HSucc.out,HOk.out];rfl)
      go_wp2_with fail
      go_roundw
      case measure=>simp [intOf];omega
      case rel=>exact ⟨k + 1,by omega,by go_num,by first | rfl | trivial,HN.out⟩
   ·obtain rfl : k=3:=by omega
    have HN:=Lib.hid (show RR=true by rw [HR.out,HOk.out,if_pos rfl])
    go_wp2_with fail
    go_ret
    exact⟨ret_bool HN.out.symm,HB0.out⟩
 ·rw [hf] at HR
  clear hf
  go_wp2_with fail
  go_loopw [12] (fun t12 wr=>∃ k : Nat,k≤3∧t12=.int .i64 k∧wr=X∧bitsOk mode want 3 k=true) (fun t12 _=>3 - (intOf t12).toNat)
  case atStart=>exact ⟨0,Nat.zero_le _,rfl,rfl,rfl⟩
  case round=>
   obtain⟨k,hk,rfl,hwr,hok⟩:=hrel
   have hwr:=hwr.symm
   subst hwr
   have HOk:=Lib.hid hok
   clear hok
   by_cases hlt : k < 3
   ·have hk3 : (k : Int) < 3:=by omega
    have HSucc:=Lib.hid (bitsOk_succ mode want 3 k)
    have HFail:=Lib.hid (fun h1 h2=>bitsOk_fail (mode:=mode) (want:=want) (f:=3) hlt h1 h2)
    go_wp2_with fail
    refine (HBit.out want k (by omega) _).mono ?_
    rintro e w2 ⟨rfl,rfl⟩
    obtain⟨b1,hb1⟩ : ∃ b,bitB want k=b:=⟨_,rfl⟩
    rw [hb1] at HSucc HFail
    rw [hb1]
    clear hb1
    cases b1 with
    | false=>
     have HN:=Lib.hid (show bitsOk mode want 3 (k + 1)=true by rw [HSucc.out,HOk.out];rfl)
     go_wp2_with fail
     go_roundw
     case measure=>simp [intOf];omega
     case rel=>exact ⟨k + 1,by omega,by go_num,by first | rfl | trivial,HN.out⟩
    | true=>
     have hfk : IntKind.i64.wrap ((3 : Int) + (k : Int))=(3 : Int) + (k : Int):=by rw [IntKind.wrap_i64];omega
     go_wp2_with fail
     have h2:=HBit.out mode (3 + k) (by omega)
     rw [show ((3 + k : Nat) : Int)=(3 : Int) + (k : Int) from by omega] at h2
     refine (h2 _).mono ?_
     rintro e w3 ⟨rfl,rfl⟩
     obtain⟨b2,hb2⟩ : ∃ b,bitB mode (3 + k)=b:=⟨_,rfl⟩
     rw [hb2] at HSucc HFail
     rw [hb2]
     clear hb2
     cases b2 with
     | false=>
      have HN:=Lib.hid (show RR=decide (cu=0) by rw [HR.out,HFail.out (by first | rfl | trivial) (by first | rfl | trivial)];simp)
      have hzz:=HZ.out
      go_wp2_with fail
      go_ret
      exact⟨ret_bool (by rw [HN.out,← HZ.out]),HB0.out⟩
     | true=>
      have HN:=Lib.hid (show bitsOk mode want 3 (k + 1)=true by rw [HSucc.out,HOk.out];rfl)
      go_wp2_with fail
      go_roundw
      case measure=>simp [intOf];omega
      case rel=>exact ⟨k + 1,by omega,by go_num,by first | rfl | trivial,HN.out⟩
   ·obtain rfl : k=3:=by omega
    have HN:=Lib.hid (show RR=true by rw [HR.out,HOk.out,if_pos rfl])
    go_wp2_with fail
    go_ret
    exact⟨ret_bool HN.out.symm,HB0.out⟩
 ·rw [hf] at HR
  clear hf
  go_wp2_with fail
  go_loopw [12] (fun t12 wr=>∃ k : Nat,k≤3∧t12=.int .i64 k∧wr=X∧bitsOk mode want 0 k=true) (fun t12 _=>3 - (intOf t12).toNat)
  case atStart=>exact ⟨0,Nat.zero_le _,rfl,rfl,rfl⟩
  case round=>
   obtain⟨k,hk,rfl,hwr,hok⟩:=hrel
   have hwr:=hwr.symm
   subst hwr
   have HOk:=Lib.hid hok
   clear hok
   by_cases hlt : k < 3
   ·have hk3 : (k : Int) < 3:=by omega
    have HSucc:=Lib.hid (bitsOk_succ mode want 0 k)
    have HFail:=Lib.hid (fun h1 h2=>bitsOk_fail (mode:=mode) (want:=want) (f:=0) hlt h1 h2)
    go_wp2_with fail
    refine (HBit.out want k (by omega) _).mono ?_
    rintro e w2 ⟨rfl,rfl⟩
    obtain⟨b1,hb1⟩ : ∃ b,bitB want k=b:=⟨_,rfl⟩
    rw [hb1] at HSucc HFail
    rw [hb1]
    clear hb1
    cases b1 with
    | false=>
     have HN:=Lib.hid (show bitsOk mode want 0 (k + 1)=true by rw [HSucc.out,HOk.out];rfl)
     go_wp2_with fail
     go_roundw
     case measure=>simp [intOf];omega
     case rel=>exact ⟨k + 1,by omega,by go_num,by first | rfl | trivial,HN.out⟩
    | true=>
     have hfk : IntKind.i64.wrap ((0 : Int) + (k : Int))=(0 : Int) + (k : Int):=by rw [IntKind.wrap_i64];omega
     go_wp2_with fail
     have h2:=HBit.out mode (0 + k) (by omega)
     rw [show ((0 + k : Nat) : Int)=(0 : Int) + (k : Int) from by omega] at h2
     refine (HBit.out mode k (by omega) _).mono ?_
     rintro e w3 ⟨rfl,rfl⟩
     obtain⟨b2,hb2⟩ : ∃ b,bitB mode (0 + k)=b:=⟨_,rfl⟩
     rw [hb2] at HSucc HFail
     rw [Nat.zero_add] at hb2
     rw [hb2]
     clear hb2
     cases b2 with
     | false=>
      have HN:=Lib.hid (show RR=decide (cu=0) by rw [HR.out,HFail.out (by first | rfl | trivial) (by first | rfl | trivial)];simp)
      have hzz:=HZ.out
      go_wp2_with fail
      go_ret
      exact⟨ret_bool (by rw [HN.out,← HZ.out]),HB0.out⟩
     | true=>
      have HN:=Lib.hid (show bitsOk mode want 0 (k + 1)=true by rw [HSucc.out,HOk.out];rfl)
      go_wp2_with fail
      go_roundw
      case measure=>simp [intOf];omega
      case rel=>exact ⟨k + 1,by omega,by go_num,by first | rfl | trivial,HN.out⟩
   ·obtain rfl : k=3:=by omega
    have HN:=Lib.hid (show RR=true by rw [HR.out,HOk.out,if_pos rfl])
    go_wp2_with fail
    go_ret
    exact⟨ret_bool HN.out.symm,HB0.out⟩
end Go.Proofs.YtihdbncoijhihaaGreatDoor
