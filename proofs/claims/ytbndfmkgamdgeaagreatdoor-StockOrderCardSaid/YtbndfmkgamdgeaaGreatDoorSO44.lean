import Derived.Test.YtbndfmkgamdgeaaGreatDoorSO1
import Derived.Test.YtbndfmkgamdgeaaGreatDoorSO2
import Derived.Test.YtbndfmkgamdgeaaGreatDoorSO5
import Derived.Test.YtbndfmkgamdgeaaGreatDoorSO6
import Derived.Test.YtbndfmkgamdgeaaGreatDoorSO8
import Derived.Test.YtbndfmkgamdgeaaGreatDoorSO11
import Derived.Test.YtbndfmkgamdgeaaGreatDoorSO16
import Derived.Test.YtbndfmkgamdgeaaGreatDoorSO18
import Derived.Test.YtbndfmkgamdgeaaGreatDoorSO21
import Derived.Test.YtbndfmkgamdgeaaGreatDoorSO24
import Derived.Test.YtbndfmkgamdgeaaGreatDoorSO25
import Derived.Test.YtbndfmkgamdgeaaGreatDoorSO28
import Derived.Test.YtbndfmkgamdgeaaGreatDoorSO31
import Derived.Test.YtbndfmkgamdgeaaGreatDoorSO33
import Derived.Test.YtbndfmkgamdgeaaGreatDoorSO34
import Derived.Test.YtbndfmkgamdgeaaGreatDoorSO38
import Derived.Test.YtbndfmkgamdgeaaGreatDoorSO43
set_option linter.unusedVariables false
set_option linter.unusedSimpArgs false
set_option maxRecDepth 100000
set_option maxHeartbeats 16000000
namespace Go.Proofs.YtbndfmkgamdgeaaGreatDoor
section
open Go.RowKit
attribute [local go_sem] Oper.semAt_some
theorem info_len (l:List UInt8):(infoP l).1.size≤l.length:=by
 have h:=(Rd.lines_len (m:=l.length) (ROk.zero _) (fun t ht=>spl_size 10 l t ht)).1;unfold infoP endI;generalize Rd.zero.lines (spl 10 l)=q at h
 split
 ·exact Nat.zero_le _
 ·split
  ·exact Nat.zero_le _
  ·rename_i p hp
   split
   ·exact Nat.zero_le _
   ·show (str p).size≤_;rw [str_size];exact Nat.le_trans (decP_len _ _ _ (Nat.le_refl _) hp) h
def put6 (W:World) (b:Nat) (r:Ey):World:=(((((W.setCell ⟨b,0,none⟩ (.string r.can)).setCell ⟨b,1,none⟩ (.string r.name)).setCell ⟨b,2,none⟩ (.string r.path)).setCell ⟨b,3,none⟩ (.int .i64 r.date)).setCell ⟨b,4,none⟩ (.int .i64 r.size)).setCell ⟨b,5,none⟩ (.bool r.good)
theorem one_end {a:Act} {w W:World} {b8:Nat} {x0 x1 x2 x3 x4 x5:Value} {r:Ey} {e:Int} {rd:Ey×Int} (hb:Blk W b8 #[x0,x1,x2,x3,x4,x5] 23) (h8:a.tmps.getD 8 undef=.pointer (some ⟨b8,0,none⟩)) (h9:a.tmps.getD 9 undef=.int .i64 e) (hd:a.defers=[])
  (hB:Below w.heap.size w W) (hw:w.heap.size≤b8) (hr:rd=(r,e)):bodyPost Tryz.prog Tryz.f32 (fun e w'=>e=.returned (.tuple #[.agg (eyC rd.1).toArray,.int .i64 rd.2])∧Below w.heap.size w w') .ret a (put6 W b8 r):=by
 subst hr;have hs:Blk (put6 W b8 r) b8 #[.string r.can,.string r.name,.string r.path,.int .i64 r.date,.int .i64 r.size,.bool r.good] 23:=(((((hb.set 0 _).set 1 _).set 2 _).set 3 _).set 4 _).set 5 _;have q0:=hs.cell 0;have q1:=hs.cell 1;have q2:=hs.cell 2;have q3:=hs.cell 3;have q4:=hs.cell 4;have q5:=hs.cell 5;rw [Array.getD_eq_getD_getElem?] at h8 h9;refine bodyPost_ret (v:=.tuple #[.agg (eyC r).toArray,.int .i64 e]) ?_ hd ⟨rfl,(((((hB.setCell hw _).setCell hw _).setCell hw _).setCell hw _).setCell hw _).setCell hw _⟩;simp [results,Tryz.results32,go_sem,h8,h9,q0,q1,q2,q3,q4,q5,eyC]
structure ONI (w:World) (bc:Nat) (u:Us) (x:Cn) (W:World):Prop where
 x:Blk W (w.heap.size+1) #[.string x.path,.int .i64 x.dir,.int .i64 x.info,.int .i64 x.files,.int .i64 x.out,.int .i64 x.way,.string x.top] 45
 r:Blk W (w.heap.size+1+1) #[.string ByteArray.empty,.string ByteArray.empty,.string ByteArray.empty,.int .i64 0,.int .i64 0,.bool false] 23
 c:Blk W bc #[.int .i64 u.u,.int .i64 u.g] 54
 hB:Below w.heap.size w W
theorem ONI.keep {w W W':World} {bc:Nat} {u:Us} {x:Cn} (k:ONI w bc u x W) (hb:Below W.heap.size W W'):ONI w bc u x W':=⟨k.x.keep hb,k.r.keep hb,k.c.keep hb,bnext k.hB hb⟩
section
variable {w w':World} {pf pw:Nat} {R:Rp} {pv:Value} {Y:Sy}
theorem sone_any (h:SyAt w pf pw R pv Y) {N:Nat} (hF:Fine Y.fs N) (hN:N≤900) (hd:Y.dead=false) (u:Us) (x:Cn) (n:ByteArray) (hn:n.size≤300) (hx:x.top.size≤20000) (hr:(Y.fs.read u.c (Y.fs.lookF false u.c x.info (n ++ nSfx)).1).1.size≤20000) :
  Calls Tryz.prog 32 #[.pointer (some ⟨pf,0,none⟩),.agg #[.int .i64 u.u,.int .i64 u.g,.string u.data],.agg #[.string x.path,.int .i64 x.dir,.int .i64 x.info,.int .i64 x.files,.int .i64 x.out,.int .i64 x.way,.string x.top],.string n] w fun e w'=>
   e=.returned (.tuple #[.agg (eyC (Y.fs.oneF N Y.dead u.c x n).1).toArray,.int .i64 (Y.fs.oneF N Y.dead u.c x n).2])∧Below w.heap.size w w':=by
 obtain⟨hU,hX,hR,hb⟩:=boxes3 w #[.int .i64 u.u,.int .i64 u.g,.string u.data] #[.string x.path,.int .i64 x.dir,.int .i64 x.info,.int .i64 x.files,.int .i64 x.out,.int .i64 x.way,.string x.top] #[.string ByteArray.empty,.string ByteArray.empty,.string ByteArray.empty,.int .i64 0,.int .i64 0,.bool false] 33 45 23;have HK:=Lib.hid (fun w1 (hb1:Below w.heap.size w w1) dir m=>slook_any (h.keep hb1) hF.ok (by omega) u.c dir m);have HT:=Lib.hid (fun w1 (hb1:Below w.heap.size w w1)=>wtree_any (h.keep hb1) hF hN hd u.c x.files n);have HRd:=Lib.hid (fun w1 (hb1:Below w.heap.size w w1) k=>sreadF_any (h.keep hb1) hF.ok hd u.c k);rw [hd] at HK HT ⊢;have HO:=Lib.hid (show Y.fs.oneF N false u.c x n=if (Y.fs.lookF false u.c x.files n).2≠0 then (ey0,(Y.fs.lookF false u.c x.files n).2)
  else if (Y.fs.lookF false u.c x.info (n ++ nSfx)).2≠0 then (ey0,(Y.fs.lookF false u.c x.info (n ++ nSfx)).2)
  else if (Y.fs.read u.c (Y.fs.lookF false u.c x.info (n ++ nSfx)).1).2≠0 then (⟨x.path,n,ByteArray.empty,-1,Y.fs.sizeF N false u.c x.files n,false⟩,0)
  else (entI x n (Y.fs.sizeF N false u.c x.files n) (Y.fs.read u.c (Y.fs.lookF false u.c x.info (n ++ nSfx)).1).1,0) from rfl)
 have HSz:=Lib.hid (show Y.fs.sizeF N false u.c x.files n=if (Y.fs.treeF N false u.c x.files n).2=0 then (Y.fs.treeF N false u.c x.files n).1 else 0 from rfl);have HK1:=Lib.hid (fun w1 (hb1:Below w.heap.size w w1)=>HK.out w1 hb1 x.files n);have HK2:=Lib.hid (fun w1 (hb1:Below w.heap.size w w1)=>HK.out w1 hb1 x.info (n ++ nSfx));have HR2:=Lib.hid (fun w1 (hb1:Below w.heap.size w w1)=>HRd.out w1 hb1 (Y.fs.lookF false u.c x.info (n ++ nSfx)).1);generalize Y.fs.oneF N false u.c x n=rd at HO ⊢;generalize Y.fs.sizeF N false u.c x.files n=sz at HO HSz;generalize Y.fs.lookF false u.c x.files n=l1 at HK1 HO;generalize Y.fs.lookF false u.c x.info (n ++ nSfx)=l2 at HK2 HR2 HO hr;obtain⟨k1,e1⟩:=l1;obtain⟨k2,e2⟩:=l2;dsimp only at HK1 HK2 HR2 HO hr;generalize Y.fs.read u.c k2=rt at HR2 HO hr;obtain⟨tx,e3⟩:=rt;generalize Y.fs.treeF N false u.c x.files n=tr at HT HSz;obtain⟨ts,te⟩:=tr;dsimp only at HT HSz HR2 HO hr;have HIn:=Lib.hid (fun w=>iparse_any tx w (by omega));have HFu:=Lib.hid (fun w=>sfull_any x (infoP tx.data.toList).1 w (by have:=info_len tx.data.toList;have h2:tx.data.toList.length=tx.size:=Array.length_toList;omega) hx);have HEn:=Lib.hid (show entI x n sz tx=if (infoP tx.data.toList).2.2≠0 then ⟨x.path,n,ByteArray.empty,-1,sz,false⟩
  else if (fullF x.top (infoP tx.data.toList).1).2=true then ⟨x.path,n,(fullF x.top (infoP tx.data.toList).1).1,(infoP tx.data.toList).2.1,sz,true⟩ else ⟨x.path,n,ByteArray.empty,(infoP tx.data.toList).2.1,sz,false⟩ from rfl)
 generalize entI x n sz tx=en at HEn HO;generalize infoP tx.data.toList=ip at HIn HFu HEn;obtain⟨ip,iday,ie⟩:=ip;dsimp only at HIn HFu HEn;generalize fullF x.top ip=fu at HFu HEn;obtain⟨fp,fb⟩:=fu;dsimp only at HFu HEn;have ec:u.c=⟨u.u,u.g⟩:=rfl;have ec1:u.c.u=u.u:=rfl;have ec2:u.c.g=u.g:=rfl;clear h hF hr;go_enter Tryz.func32,Tryz.ntmps32;go_upto_region 1 with fail;rw [show (ByteArray.mk #[]:ByteArray)=ByteArray.empty from rfl];generalize ((w.alloc (.cells #[.int .i64 u.u,.int .i64 u.g,.string u.data] 33)).alloc (.cells #[.string x.path,.int .i64 x.dir,.int .i64 x.info,.int .i64 x.files,.int .i64 x.out,.int .i64 x.way,.string x.top] 45)).alloc (.cells #[.string ByteArray.empty,.string ByteArray.empty,.string ByteArray.empty,.int .i64 0,.int .i64 0,.bool false] 23)=X at hU hX hR hb ⊢;obtain⟨uc,uf,uz⟩:=hU.facts;have H0:=Lib.hid (And.intro hX (And.intro hR hb));clear hU hX hR hb;go_wp2_with fail;refine (ccred_any u.u u.g u.data _).mono ?_;rintro e w1 ⟨rfl,hb1⟩;have hC:=Blk.new w1 #[.int .i64 u.u,.int .i64 u.g] 54;have hbC:=balloc hb1 (.cells #[.int .i64 u.u,.int .i64 u.g] 54);clear uc uf uz hb1;go_upto_region 2 with fail;generalize w1.alloc (.cells #[.int .i64 u.u,.int .i64 u.g] 54)=w2 at hC hbC ⊢;generalize w1.heap.size=bc at hC ⊢;have HI2:=Lib.hid (show ONI w bc u x w2 from ⟨H0.out.1.keep hbC,H0.out.2.1.keep hbC,hC,bnext H0.out.2.2 hbC⟩);obtain⟨cc,cf,cz⟩:=HI2.out.c.facts;obtain⟨xc,xf,xz⟩:=HI2.out.x.facts;clear hC hbC;go_wp2_with fail;refine (HK1.out _ HI2.out.hB).mono ?_;rintro e w3 ⟨rfl,hb3⟩;have HI3:=Lib.hid (HI2.out.keep hb3);clear cc cf cz xc xf xz hb3;obtain⟨rc,rf,rz⟩:=HI3.out.r.facts;by_cases h1:e1=0
 ·obtain rfl:=h1;have HO1:=Lib.hid (HO.out.trans (if_neg (by decide)));clear rc rf rz;go_upto_region 5 with fail;have hH0:=HI3.out.keep (Below.refl _ _).drew;refine wp_region_held_drew (S:=fun w'=>ONI w bc u x w') (by kernel_rfl) hH0 (fun hHeld=>?_);refine reg_takes 5 [(0,40),(1,41),(2,42),(3,43),(4,44)] (by kernel_rfl) (by kernel_rfl) rfl (fun _ _ _ _ _ h=>h) hHeld ?_
  iterate 5 (apply takes_cons rfl rfl;(· (intro w9 hSw;obtain ⟨s1,-,-⟩:=hSw.x.facts;obtain ⟨s2,-,-⟩:=hSw.c.facts;clear hSw;go_simp;(try with_reducible rfl)));simp only [List.setIfInBounds_toArray,List.set_cons_zero,List.set_cons_succ])
  refine takes_nil ?_;refine reg_call 5 45 (R:=fun v w'=>v=.string (n ++ nSfx)∧w'=w3.drew) (by kernel_rfl) rfl rfl rfl ?xa ((cfile_any n (by omega) w3.drew).mono (fun e w' ⟨he,hw⟩=>⟨_,he,rfl,hw.symm⟩)) (fun v w' ⟨_,hw⟩=>by rw [hw];exact hHeld) ?_
  case xa=>(go_simp;(try rfl))
  rintro _ _ ⟨rfl,rfl⟩;simp only [List.setIfInBounds_toArray,List.set_cons_zero,List.set_cons_succ];refine reg_call 6 46 (R:=fun v w'=>v=.tuple #[.int .i64 k2,.int .i64 e2]∧Below w3.drew.heap.size w3.drew w') (by kernel_rfl) rfl rfl rfl ?xb ((HK2.out _ hHeld.hB).mono (fun e w' ⟨he,hw⟩=>⟨_,he,rfl,hw⟩)) (fun v w' ⟨_,hw⟩=>hHeld.keep hw) ?_
  case xb=>(go_simp;(try rfl))
  rintro _ w5 ⟨rfl,hb5⟩;simp only [List.setIfInBounds_toArray,List.set_cons_zero,List.set_cons_succ];have hH5:=hHeld.keep hb5;refine reg_takes 5 [(7,39),(8,47),(9,48),(10,13),(11,14)] (by kernel_rfl) (by kernel_rfl) rfl (fun _ _ _ _ _ h=>h) hH5 ?_
  iterate 5 (apply takes_cons rfl rfl;(· (intro w9 hSw;obtain ⟨s1,-,-⟩:=hSw.x.facts;obtain ⟨s2,-,-⟩:=hSw.c.facts;clear hSw;go_simp;(try with_reducible rfl)));simp only [List.setIfInBounds_toArray,List.set_cons_zero,List.set_cons_succ])
  refine takes_nil ?_;refine wpAnyH_done (by kernel_rfl) ?_ _;have HI5:=Lib.hid hH5;clear hHeld hH0 hH5 hb5;obtain⟨rc,rf,rz⟩:=HI5.out.r.facts;by_cases h2:e2=0
  ·obtain rfl:=h2;have HO2:=Lib.hid (HO1.out.trans (if_neg (by decide)));obtain⟨xc,xf,xz⟩:=HI5.out.x.facts;have hE:=Blk.new w5 #[.string x.path,.string n,.string ⟨#[]⟩,.int .i64 (-1),.int .i64 0,.bool false] 23;have hbE:=(Below.refl w5.heap.size w5).alloc (Nat.le_refl _) (.cells #[.string x.path,.string n,.string ⟨#[]⟩,.int .i64 (-1),.int .i64 0,.bool false] 23);clear rc rf rz;go_upto_region 9 with fail;generalize w5.alloc (.cells #[.string x.path,.string n,.string ⟨#[]⟩,.int .i64 (-1),.int .i64 0,.bool false] 23)=w6 at hE hbE ⊢;have HI6:=Lib.hid (HI5.out.keep hbE);have hw5:=HI5.out.r.lt;have hwc:=HI5.out.c.lt;generalize w5.heap.size=bo at hE hw5 hwc ⊢;have HE6:=Lib.hid hE;clear xc xf xz hE hbE;obtain⟨cc,cf,cz⟩:=HI6.out.c.facts;obtain⟨xc,xf,xz⟩:=HI6.out.x.facts;go_wp2_with fail;refine (HT.out _ HI6.out.hB).mono ?_;rintro e w7 ⟨tm,rfl,hb7⟩;have HI7:=Lib.hid (HI6.out.keep hb7);have HE7:=Lib.hid (HE6.out.keep hb7);clear cc cf cz xc xf xz hb7;go_upto_if 68 with fail
   go_cut [] from 16 to 103 (fun wx=>ONI w bc u x wx∧Blk wx bo #[.string x.path,.string n,.string ByteArray.empty,.int .i64 (-1),.int .i64 sz,.bool false] 23)
   case first=>
    obtain⟨oc,of,oz⟩:=HE7.out.facts;by_cases h3:te=0
    ·obtain rfl:=h3;have HS:=Lib.hid (HSz.out.trans (if_pos rfl));go_wp2_with fail;go_meet;rw [HS.out];have hm:=(Mod.refl (fun k=>k=bo) w7).setCell (a:=⟨bo,4,none⟩) (.inl rfl) (.int .i64 ts);have hB7:=HI7.out;exact⟨⟨hB7.x.mod hm (by omega),hB7.r.mod hm (by omega),hB7.c.mod hm (by omega),hB7.hB.setCell (show w.heap.size≤bo by omega) _⟩,HE7.out.set 4 _⟩
    ·have h3':(te == 0)=false:=by simpa using h3
     have HS:=Lib.hid (HSz.out.trans (if_neg h3));clear h3;go_wp2_with fail;go_meet;rw [HS.out];exact⟨HI7.out,HE7.out⟩
   case rest=>
    obtain⟨hI8,hE8⟩:=hcut;generalize wc=w8 at hI8 hE8 ⊢;have HI8:=Lib.hid hI8;have HE8:=Lib.hid hE8;obtain⟨cc,cf,cz⟩:=hI8.c.facts;clear hI8 hE8;go_wp2_with fail;refine (HR2.out _ HI8.out.hB).mono ?_;rintro e w9 ⟨rfl,hb9⟩;have HI9:=Lib.hid (HI8.out.keep hb9);have HE9:=Lib.hid (HE8.out.keep hb9);clear cc cf cz hb9;by_cases h4:e3=0
    ·obtain rfl:=h4;have HO3:=Lib.hid (HO2.out.trans (if_neg (by decide)));go_wp2_with fail;refine (HIn.out _).mono ?_;rintro e w10 ⟨rfl,hb10⟩;have HI10:=Lib.hid (HI9.out.keep hb10);have HE10:=Lib.hid (HE9.out.keep hb10);clear hb10;obtain⟨oc,of,oz⟩:=HE10.out.facts;obtain⟨rc,rf,rz⟩:=HI10.out.r.facts;by_cases h5:ie=0
     ·obtain rfl:=h5;have HN1:=Lib.hid (HEn.out.trans (if_neg (by decide)));have hne:=HI5.out.x.lt;have hE11:=HE10.out.set 3 (.int .i64 iday);have hI11:ONI w bc u x (w10.setCell ⟨bo,3,none⟩ (.int .i64 iday)):=by
       have hm:=(Mod.refl (fun k=>k=bo) w10).setCell (a:=⟨bo,3,none⟩) (.inl rfl) (.int .i64 iday);exact⟨HI10.out.x.mod hm (by omega),HI10.out.r.mod hm (by omega),HI10.out.c.mod hm (by omega),HI10.out.hB.setCell (show w.heap.size≤bo by omega) _⟩
      have HW:=Lib.hid (And.intro hE11 hI11);obtain⟨xc,xf,xz⟩:=HI10.out.x.facts;clear rc rf rz hE11 hI11;go_upto_region 19 with fail;generalize w10.setCell ⟨bo,3,none⟩ (.int .i64 iday)=w11 at HW ⊢;clear oc of oz xc xf xz;obtain⟨xc,xf,xz⟩:=HW.out.2.x.facts;go_wp2_with fail;refine (HFu.out _).mono ?_;rintro e w12 ⟨rfl,hb12⟩;have HI12:=Lib.hid (HW.out.2.keep hb12);have HE12:=Lib.hid (HW.out.1.keep hb12);clear hb12 xc xf xz;obtain⟨oc,of,oz⟩:=HE12.out.facts;obtain⟨rc,rf,rz⟩:=HI12.out.r.facts
      cases fb with
      | true=>
       have HN2:=Lib.hid (HN1.out.trans (if_pos rfl));have hne2:bo≠w.heap.size+1+1:=by omega
       go_wp2_with fail;have hm:=((Mod.refl (fun k=>k=bo) w12).setCell (a:=⟨bo,2,none⟩) (.inl rfl) (.string fp)).setCell (a:=⟨bo,5,none⟩) (.inl rfl) (.bool true);exact one_end (r:=⟨x.path,n,fp,iday,sz,true⟩) (HI12.out.r.mod hm (by omega)) rfl rfl rfl ((HI12.out.hB.setCell (show w.heap.size≤bo by omega) _).setCell (show w.heap.size≤bo by omega) _) (by omega) (by rw [HO3.out,HN2.out])
      | false=>
       have HN2:=Lib.hid (HN1.out.trans (if_neg (by decide)));go_wp2_with fail;exact one_end (r:=⟨x.path,n,ByteArray.empty,iday,sz,false⟩) HI12.out.r rfl rfl rfl HI12.out.hB (by omega) (by rw [HO3.out,HN2.out])
     ·have h5':(ie != 0)=true:=by simpa using h5
      have HN1:=Lib.hid (HEn.out.trans (if_pos h5));clear h5;go_wp2_with fail;exact one_end (r:=⟨x.path,n,ByteArray.empty,-1,sz,false⟩) HI10.out.r rfl rfl rfl HI10.out.hB (by omega) (by rw [HO3.out,HN1.out])
    ·have h4':(e3 != 0)=true:=by simpa using h4
     have HO3:=Lib.hid (HO2.out.trans (if_pos h4));obtain⟨oc,of,oz⟩:=HE9.out.facts;obtain⟨rc,rf,rz⟩:=HI9.out.r.facts;clear h4;go_wp2_with fail;exact one_end (r:=⟨x.path,n,ByteArray.empty,-1,sz,false⟩) HI9.out.r rfl rfl rfl HI9.out.hB (by omega) HO3.out
  ·have h2':(e2 != 0)=true:=by simpa using h2
   have HO2:=Lib.hid (HO1.out.trans (if_pos h2));clear h2;go_wp2_with fail;exact one_end (r:=ey0) HI5.out.r rfl rfl rfl HI5.out.hB (by omega) HO2.out
 ·have h1':(e1 != 0)=true:=by simpa using h1
  have HO1:=Lib.hid (HO.out.trans (if_pos h1));clear h1;go_wp2_with fail;exact one_end (r:=ey0) HI3.out.r rfl rfl rfl HI3.out.hB (by omega) HO1.out
end
end
end Go.Proofs.YtbndfmkgamdgeaaGreatDoor
