import Derived.Test.YtbndfmkgamdgeaaGreatDoorSO1
import Derived.Test.YtbndfmkgamdgeaaGreatDoorSO2
import Derived.Test.YtbndfmkgamdgeaaGreatDoorSO5
import Derived.Test.YtbndfmkgamdgeaaGreatDoorSO6
import Derived.Test.YtbndfmkgamdgeaaGreatDoorSO8
import Derived.Test.YtbndfmkgamdgeaaGreatDoorSO10
import Derived.Test.YtbndfmkgamdgeaaGreatDoorSO14
import Derived.Test.YtbndfmkgamdgeaaGreatDoorSO21
import Derived.Test.YtbndfmkgamdgeaaGreatDoorSO22
import Derived.Test.YtbndfmkgamdgeaaGreatDoorSO24
import Derived.Test.YtbndfmkgamdgeaaGreatDoorSO25
import Derived.Test.YtbndfmkgamdgeaaGreatDoorSO28
import Derived.Test.YtbndfmkgamdgeaaGreatDoorSO31
import Derived.Test.YtbndfmkgamdgeaaGreatDoorSO32
import Derived.Test.YtbndfmkgamdgeaaGreatDoorSO36
import Derived.Test.YtbndfmkgamdgeaaGreatDoorSO37
import Derived.Test.YtbndfmkgamdgeaaGreatDoorSO38
import Derived.Test.YtbndfmkgamdgeaaGreatDoorSO39
import Derived.Test.YtbndfmkgamdgeaaGreatDoorSO40
import Derived.Test.YtbndfmkgamdgeaaGreatDoorSO43
import Derived.Test.YtbndfmkgamdgeaaGreatDoorSO44
import Derived.Test.YtbndfmkgamdgeaaGreatDoorSO45
set_option linter.unusedVariables false
set_option linter.unusedSimpArgs false
set_option maxRecDepth 100000
set_option maxHeartbeats 16000000
namespace Go.Proofs.YtbndfmkgamdgeaaGreatDoor
section
open Go.RowKit
attribute [local go_sem] Oper.semAt_some
structure INI (w:World) (u:Us) (x:Cn) (W:World):Prop where
 u:Blk W w.heap.size #[.int .i64 u.u,.int .i64 u.g,.string u.data] 33
 x:Blk W (w.heap.size+1) #[.string x.path,.int .i64 x.dir,.int .i64 x.info,.int .i64 x.files,.int .i64 x.out,.int .i64 x.way,.string x.top] 45
 hB:Below w.heap.size w W
theorem INI.keep {w W W':World} {u:Us} {x:Cn} (k:INI w u x W) (hb:Below W.heap.size W W'):INI w u x W':=⟨k.u.keep hb,k.x.keep hb,bnext k.hB hb⟩
section
variable {w w':World} {pf pw:Nat} {R:Rp} {pv:Value} {Y:Sy}
theorem sin_any (h:SyAt w pf pw R pv Y) {N:Nat} (hF:Fine Y.fs N) (hN:N≤900) (hd:Y.dead=false) (u:Us) (x:Cn) (hx:x.top.size≤20000) {M:Nat} (hM:SortsN M) (hl:(Y.fs.listF false u.c x.files).1.length≤M)
  (hr:∀ no,(Y.fs.read u.c no).1.size≤20000) :
  Calls Tryz.prog 13 #[.pointer (some ⟨pf,0,none⟩),.agg #[.int .i64 u.u,.int .i64 u.g,.string u.data],.agg #[.string x.path,.int .i64 x.dir,.int .i64 x.info,.int .i64 x.files,.int .i64 x.out,.int .i64 x.way,.string x.top]] w fun e w'=>
   ∃ a c,e=.returned (.tuple #[.slice a (Y.fs.inF N Y.dead u.c x).1.length c,.int .i64 (Y.fs.inF N Y.dead u.c x).2])∧SliceAt w' 6 eyQ a (Y.fs.inF N Y.dead u.c x).1.length c (Y.fs.inF N Y.dead u.c x).1∧Below w.heap.size w w':=by
 obtain⟨hU,hX,hb⟩:=boxes2 w #[.int .i64 u.u,.int .i64 u.g,.string u.data] #[.string x.path,.int .i64 x.dir,.int .i64 x.info,.int .i64 x.files,.int .i64 x.out,.int .i64 x.way,.string x.top] 33 45;have HL:=Lib.hid (fun w1 (hb1:Below w.heap.size w w1)=>slist_any (h.keep hb1) hF.ok (by omega) u.c x.files);have HNm:=Lib.hid (list_names hF.pl u.c x.files);have HLn:=Lib.hid (list_len hF.ok u.c x.files);have HO:=Lib.hid (fun w1 (hb1:Below w.heap.size w w1) (n:ByteArray) (hn:n.size≤255)=>show Calls Tryz.prog 32 #[.pointer (some ⟨pf,0,none⟩),.agg #[.int .i64 u.u,.int .i64 u.g,.string u.data],.agg #[.string x.path,.int .i64 x.dir,.int .i64 x.info,.int .i64 x.files,.int .i64 x.out,.int .i64 x.way,.string x.top],.string n] w1 fun e w'=>
   e=.returned (.tuple #[.agg #[.string (Y.fs.oneF N false u.c x n).1.can,.string (Y.fs.oneF N false u.c x n).1.name,.string (Y.fs.oneF N false u.c x n).1.path,.int .i64 (Y.fs.oneF N false u.c x n).1.date,.int .i64 (Y.fs.oneF N false u.c x n).1.size,.bool (Y.fs.oneF N false u.c x n).1.good],.int .i64 (Y.fs.oneF N false u.c x n).2])∧Below w1.heap.size w1 w' from by
  have:=sone_any (h.keep hb1) hF hN hd u x n (by omega) hx (hr _);rw [hd] at this;exact this)
 rw [hd] at HL ⊢;have HI:=Lib.hid (show Y.fs.inF N false u.c x=if (Y.fs.listF false u.c x.files).2≠0 then ([],(Y.fs.listF false u.c x.files).2) else (isort ltE ((Y.fs.listF false u.c x.files).1.filterMap (Y.fs.oneO N false u.c x)),0) from rfl);have HOo:=Lib.hid (show ∀ y,Y.fs.oneO N false u.c x y=if (Y.fs.oneF N false u.c x y.name).2=0 then some (Y.fs.oneF N false u.c x y.name).1 else none from fun _=>rfl);generalize Y.fs.inF N false u.c x=rd at HI ⊢;generalize Y.fs.oneO N false u.c x=fo at HI HOo;generalize Y.fs.listF false u.c x.files=L at HL HLn HI HNm hl;obtain⟨L,le⟩:=L;dsimp only at HL HLn HI HNm hl;have HSo:=Lib.hid hM;have ec:u.c=⟨u.u,u.g⟩:=rfl;have ec1:u.c.u=u.u:=rfl;have ec2:u.c.g=u.g:=rfl;clear h hF hM;go_enter Tryz.func13,Tryz.ntmps13;go_upto_region 1 with fail;generalize (w.alloc (.cells #[.int .i64 u.u,.int .i64 u.g,.string u.data] 33)).alloc (.cells #[.string x.path,.int .i64 x.dir,.int .i64 x.info,.int .i64 x.files,.int .i64 x.out,.int .i64 x.way,.string x.top] 45)=X at hU hX hb ⊢;have HI0:=Lib.hid (show INI w u x X from ⟨hU,hX,hb⟩);have hH0:=HI0.out.keep (Below.refl _ _).drew;clear hU hX hb;refine wp_region_held_drew (S:=fun w'=>INI w u x w') (by kernel_rfl) hH0 (fun hHeld=>?_);refine reg_takes 4 [(0,16),(1,17),(3,19),(4,20)] (by kernel_rfl) (by kernel_rfl) rfl (fun _ _ _ _ _ h=>h) hHeld ?_
 iterate 4 (apply takes_cons rfl rfl;(· (intro w9 hSw;obtain ⟨s1,-,-⟩:=hSw.x.facts;obtain ⟨s2,-,-⟩:=hSw.u.facts;clear hSw;go_simp;(try with_reducible rfl)));simp only [List.setIfInBounds_toArray,List.set_cons_zero,List.set_cons_succ])
 refine takes_nil ?_;refine reg_call 2 18 (R:=fun v w'=>v=.agg #[.int .i64 u.u,.int .i64 u.g]∧Below X.drew.heap.size X.drew w') (by kernel_rfl) rfl rfl rfl ?xa ((ccred_any u.u u.g u.data X.drew).mono (fun e w' ⟨he,hw⟩=>⟨_,he,rfl,hw⟩)) (fun v w' ⟨_,hw⟩=>hHeld.keep hw) ?_
 case xa=>(go_simp;(try rfl))
 rintro _ w1 ⟨rfl,hb1⟩;simp only [List.setIfInBounds_toArray,List.set_cons_zero,List.set_cons_succ];have hH1:=hHeld.keep hb1;refine reg_call 5 21 (R:=fun v w'=>∃ lv,v=.tuple #[lv,.int .i64 le]∧OE w' w1.heap.size lv L∧Below w1.heap.size w1 w') (by kernel_rfl) rfl rfl rfl ?xb ((HL.out _ hH1.hB).mono (fun e w' ⟨lv,he,hO,hw⟩=>⟨_,he,lv,rfl,hO,hw⟩)) (fun v w' ⟨_,_,_,hw⟩=>hH1.keep hw) ?_
 case xb=>(go_simp;(try rfl))
 rintro _ w3 ⟨lv,rfl,hO,hb3⟩;simp only [List.setIfInBounds_toArray,List.set_cons_zero,List.set_cons_succ];have hH3:=hH1.keep hb3;refine reg_takes 5 [(6,15),(7,22),(8,23),(9,8),(10,9)] (by kernel_rfl) (by kernel_rfl) rfl (fun _ _ _ _ _ h=>h) hH3 ?_
 iterate 5 (apply takes_cons rfl rfl;(· (intro w9 hSw;obtain ⟨s1,-,-⟩:=hSw.x.facts;obtain ⟨s2,-,-⟩:=hSw.u.facts;clear hSw;go_simp;(try with_reducible rfl)));simp only [List.setIfInBounds_toArray,List.set_cons_zero,List.set_cons_succ])
 refine takes_nil ?_;refine wpAnyH_done (by kernel_rfl) ?_ _;have HI3:=Lib.hid hH3;have HO3:=Lib.hid hO;have HB2:=Lib.hid (And.intro hH1.hB.size (And.intro hH1.x.lt hH1.u.lt));have h13:=hb3.size;clear hHeld hH0 hH1 hH3 hO hb1 hb3;by_cases h5:le≠0
 ·have hv5:(le != 0)=true:=by simpa using h5
  have hE:=HI.out;rw [if_pos h5] at hE;subst hE;clear h5;go_wp2_with fail;go_ret2;exact⟨none,0,rfl,⟨rfl,Nat.le_refl _,by omega,.inl rfl⟩,HI3.out.hB⟩
 ·obtain rfl:le=0:=by simpa using h5
  have hE:=HI.out;rw [if_neg (by decide)] at hE;subst hE;clear h5;obtain⟨a,ca,rfl,-⟩:=own_form HO3.out;go_wp2_with fail
  go_loopw [10,29] (fun t10 t29 wr=>∃ k:Nat,k≤L.length∧t29=.int .i64 k∧OEy wr w1.heap.size t10 ((L.take k).filterMap fo)∧OE wr w1.heap.size (.slice a L.length ca) L∧INI w u x wr∧w3.heap.size≤wr.heap.size) (fun _ t29 _=>L.length - (intOf t29).toNat)
  case atStart=>exact ⟨0,Nat.zero_le _,rfl,OEy.nil _ _,HO3.out,HI3.out,Nat.le_refl _⟩
  case round=>
   obtain⟨k,hkl,rfl,hO1,hE1,hI1,h3r⟩:=hrel;by_cases hlt:k<L.length
   ·obtain ⟨b,off,rfl,hbl⟩:=(OE.at hE1).some_of (by omega);obtain⟨c1,c2⟩:=(OE.at hE1).cell k hlt;have hym:=HNm.out L[k] (List.getElem_mem hlt);have hft:=fm_take fo L k hlt;obtain⟨y,hy⟩:∃ y,L[k]=y:=⟨_,rfl⟩;rw [hy] at c1 c2 hym hft;rw [HOo.out y] at hft;have hYb:=Blk.new wr #[.string y.name,.int .i64 y.no] 92;have hbY:=(Below.refl wr.heap.size wr).alloc (Nat.le_refl _) (.cells #[.string y.name,.int .i64 y.no] 92);go_upto_region 8 with fail;generalize wr.alloc (.cells #[.string y.name,.int .i64 y.no] 92)=V at hYb hbY ⊢;have hI2:=hI1.keep hbY;have hO2:=hO1.keep hbY;have hE2:=OE.keep hE1 hbY;have h3V:w3.heap.size≤V.heap.size:=Nat.le_trans h3r hbY.size;generalize wr.heap.size=yb at hYb ⊢;have HOn:=Lib.hid (HO.out V hI2.hB y.name hym);have hOl:((L.take k).filterMap fo).length≤k:=Nat.le_trans (List.length_filterMap_le _ _) (by rw [List.length_take];omega);generalize hO':(L.take (k+1)).filterMap fo=O' at hft;have HOe:=Lib.hid hO';clear hO';generalize (L.take k).filterMap fo=O at hft hOl hO2;generalize Y.fs.oneF N false u.c x y.name=o1 at HOn hft;obtain⟨r,re⟩:=o1;dsimp only at HOn hft;have HFt:=Lib.hid hft;have HLt:=Lib.hid hlt;have hk9:k≤999999:=by have:=HLn.out;omega
    have H3:=Lib.hid (And.intro hO2 (And.intro hE2 (And.intro hI2 (And.intro h3V hOl))));obtain⟨yc,yf,yz⟩:=hYb.facts;obtain⟨uc,uf,uz⟩:=hI2.u.facts;obtain⟨xc,xf,xz⟩:=hI2.x.facts;clear c1 c2 hO1 hE1 hI1 hbY hYb hO2 hE2 hI2 hft hOl h3V;go_wp2_with fail;refine HOn.out.mono ?_;rintro e V1 ⟨rfl,hbV⟩;have hR:=Blk.new V1 #[.string r.can,.string r.name,.string r.path,.int .i64 r.date,.int .i64 r.size,.bool r.good] 23;have hbR:=balloc hbV (.cells #[.string r.can,.string r.name,.string r.path,.int .i64 r.date,.int .i64 r.size,.bool r.good] 23);clear yc yf yz uc uf uz xc xf xz hbV;go_upto_region 9 with fail;generalize V1.alloc (.cells #[.string r.can,.string r.name,.string r.path,.int .i64 r.date,.int .i64 r.size,.bool r.good] 23)=V2 at hR hbR ⊢;generalize V1.heap.size=rb at hR ⊢;obtain⟨rc,rf,rz⟩:=hR.facts;have HI4:=Lib.hid (H3.out.2.2.1.keep hbR);have HE4:=Lib.hid (OE.keep H3.out.2.1 hbR);have HO4:=Lib.hid (H3.out.1.keep hbR);have h4V:w3.heap.size≤V2.heap.size:=Nat.le_trans H3.out.2.2.2.1 hbR.size;clear hR hbR;by_cases hk1:re=0
    ·subst hk1;have HN:=Lib.hid (show O'=O ++ [r] by rw [HFt.out,if_pos rfl]);obtain⟨g,cap,W,hrr,hO9,hM9,-⟩:=HO4.out.app r (by have:=H3.out.2.2.2.2;omega) (show w1.heap.size≤V2.heap.size by omega);have HA:=Lib.hid hrr;have hx2:=HB2.out;have HW:=Lib.hid (And.intro (show OEy W w1.heap.size _ O' by rw [HN.out];exact hO9) (And.intro (own_mod HE4.out hM9 (fun q hq=>own_apart HO4.out HE4.out (by decide) hq))
      (And.intro (show INI w u x W from ⟨HI4.out.u.mod hM9 (fun hq=>by have:=(own_obj1 HO4.out hq).1;omega),HI4.out.x.mod hM9 (fun hq=>by have:=(own_obj1 HO4.out hq).1;omega),HI4.out.hB.trans (hM9.below (fun q hq=>Nat.le_trans HB2.out.1 (own_obj1 HO4.out hq).1) HI4.out.hB.size)⟩) (Nat.le_trans h4V hM9.size))))
     clear hrr hO9 hM9 hx2;go_wp2_with (at_builtin;refine wpList_app_run rfl rfl rfl rfl HA.out ?_);go_roundw
     case rel=>exact ⟨k+1,by have:=HLt.out;omega,by go_num,by rw [HOe.out];exact HW.out.1,HW.out.2.1,HW.out.2.2.1,HW.out.2.2.2⟩
     case measure=>
      have:=HLt.out;simp [intOf];omega
    ·have HN:=Lib.hid (show O'=O by rw [HFt.out,if_neg hk1];exact List.append_nil _);have hv1:(re == 0)=false:=by simpa using hk1
     clear hk1;go_wp2_with fail;go_roundw
     case rel=>exact ⟨k+1,by have:=HLt.out;omega,by go_num,by rw [HOe.out,HN.out];exact HO4.out,HE4.out,HI4.out,h4V⟩
     case measure=>
      have:=HLt.out;simp [intOf];omega
   ·obtain rfl:k=L.length:=by omega
    rw [List.take_length] at hO1;have hfl:(L.filterMap fo).length≤L.length:=List.length_filterMap_le _ _;obtain⟨oa,oc,rfl,-,hoc2⟩:=own_form hO1;have hsrt:=isort_len (lt:=ltE) (L.filterMap fo);have HSt:=Lib.hid (HSo.out wr w1.heap.size oa oc _ hO1 (by omega) (by omega));have HI9:=Lib.hid hI1;have HB9:=Lib.hid (And.intro HB2.out.1 hsrt);clear hO1 hE1 hI1 hsrt;go_wp2_with fail;refine HSt.out.mono ?_;rintro e w9 ⟨rfl,hS9,hb9⟩;have HS9:=Lib.hid hS9;have HBz:=Lib.hid (HI9.out.hB.trans (hb9.mono HB9.out.1));clear hS9 hb9;go_wp2_with fail;go_ret2;refine ⟨oa,oc,?_,?_,HBz.out⟩
    ·rw [HB9.out.2];rfl
    ·rw [HB9.out.2];exact HS9.out
end
end
section
open Go.RowKit
attribute [local go_sem] Oper.semAt_some
theorem OEy.cat {w:World} {base:Nat} {v:Value} {l:List Ey} (h:OEy w base v l) {a:Option Addr} {n c:Nat} {m:List Ey} (hm:SliceAt w 6 eyQ a n c m) (hl:l.length+n≤1000000) (hb:base≤w.heap.size) :
  ∃ a' c' W,(Builtin.append_ #[56,56] 56 #[v,.slice a n c]).run Tryz.prog w=.ok (.slice a' (l.length+n) c') W∧OEy W base (.slice a' (l.length+n) c') (l ++ m)∧Mod (fun k=>v.ownBlock=some k) w W:=by
 obtain⟨i0,hi,hz0,hz1,hz2⟩:=info_parts ey_info;have hlen:=hm.1;rcases Nat.eq_zero_or_pos n with rfl | hpos
 ·obtain rfl:m=[]:=List.eq_nil_of_length_eq_zero hlen;obtain⟨a2,c3,hv,-⟩:=own_form h;subst hv;refine ⟨a2,c3,w,step_app_nil (base:=base) (sz:=6) (n:=l.length) (xs:=l.flatMap eyC) 56 Tryz.underlying56 hi h _ _,?_,Mod.refl _ _⟩;rw [List.append_nil];exact h
 ·obtain ⟨b,off,rfl,-⟩:=eys_some hm hpos;obtain⟨g2,cap,W,k1,k2,k3,k4⟩:=step_app 56 Tryz.underlying56 hi hz0 hz1 hz2 rfl (by omega) h ⟨b,off,none⟩ n c (m.flatMap eyC) (by rw [flat_len eyC_len,hlen]) (eys_news hm) (eyC_ones _) hpos (by unfold maxLen;omega) (by omega) hb;refine ⟨some ⟨g2,0,none⟩,cap,W,k1,?_,k3⟩;unfold OEy;rw [List.length_append,List.flatMap_append,hlen];exact k2
theorem flat_takeE {α β:Type} (f:α→List β) (l:List α) (k:Nat) (hk:k<l.length):(l.take (k+1)).flatMap f=(l.take k).flatMap f ++ f l[k]:=by
 rw [List.take_succ_eq_append_getElem hk,List.flatMap_append];simp
section
variable {w w':World} {pf pw:Nat} {R:Rp} {pv:Value} {Y:Sy}
theorem sall_any (h:SyAt w pf pw R pv Y) {N:Nat} (hF:Fine Y.fs N) (hN:N≤900) (hd:Y.dead=false) (u:Us) (ht:u.data.size≤100000) (hu0:-9223372036854775808≤u.u) (hu1:u.u≤9223372036854775807) (hns:Y.fs.ns.length≤100000) {M:Nat} (hM:SortsN M) (hM1:M≤1000)
  (hcs:(Y.fs.allCn false u).length≤900) (hc:∀ x∈Y.fs.allCn false u,x.top.size≤20000∧(Y.fs.listF false u.c x.files).1.length≤M) (hr:∀ no,(Y.fs.read u.c no).1.size≤20000) :
  Calls Tryz.prog 23 #[.pointer (some ⟨pf,0,none⟩),.agg #[.int .i64 u.u,.int .i64 u.g,.string u.data]] w fun e w'=>
   ∃ a c,e=.returned (.slice a (Y.fs.stockF N u).length c)∧SliceAt w' 6 eyQ a (Y.fs.stockF N u).length c (Y.fs.stockF N u)∧Below w.heap.size w w':=by
 have hU:=Blk.new w #[.int .i64 u.u,.int .i64 u.g,.string u.data] 33;have hb:=(Below.refl w.heap.size w).alloc (Nat.le_refl _) (.cells #[.int .i64 u.u,.int .i64 u.g,.string u.data] 33);have hsz:(w.alloc (.cells #[.int .i64 u.u,.int .i64 u.g,.string u.data] 33)).heap.size=w.heap.size+1:=by simp
 have HA:=Lib.hid (fun w1 (hb1:Below w.heap.size w w1)=>cansAll_any (h.keep hb1) hF.ok (by omega) hF.pl hF.wy hns hd u ht hu0 hu1);have HIn:=Lib.hid (fun w1 (hb1:Below w.heap.size w w1) (x:Cn) (hx:x∈Y.fs.allCn false u)=>sin_any (h.keep hb1) hF hN hd u x (hc x hx).1 hM (hc x hx).2 hr);rw [hd] at HIn;have hil:∀ x∈Y.fs.allCn false u,(Y.fs.inF N false u.c x).1.length≤1000:=fun x hx=>by
  have h1:=(hc x hx).2;unfold Fs.inF
  split
  ·exact Nat.zero_le _
  ·show (isort ltE _).length≤_;rw [isort_len];exact Nat.le_trans (List.length_filterMap_le _ _) (by omega)
 have HIl:=Lib.hid hil;have HS:=Lib.hid (show Y.fs.stockF N u=(Y.fs.allCn false u).flatMap (fun x=>(Y.fs.inF N false u.c x).1) from rfl);generalize Y.fs.stockF N u=sk at HS ⊢;generalize Y.fs.allCn false u=cs at HA HIn HIl HS hcs hc;have hcl:cs.length≤900:=hcs;clear h hF hM hc hil hr;go_enter Tryz.func23,Tryz.ntmps23;go_upto_region 2 with fail;generalize w.alloc (.cells #[.int .i64 u.u,.int .i64 u.g,.string u.data] 33)=X at hU hb hsz ⊢;have HB0:=Lib.hid (And.intro hU hb);obtain⟨uc,uf,uz⟩:=hU.facts;clear hU hb;go_wp2_with fail;refine (HA.out _ HB0.out.2).mono ?_;rintro e w1 ⟨v,rfl,hO,hb1⟩;have HO1:=Lib.hid hO;have HU1:=Lib.hid (HB0.out.1.keep hb1);have HB1:=Lib.hid (bnext HB0.out.2 hb1);have hX1:=hb1.size;clear uc uf uz hO hb1;obtain⟨a,ca,rfl,-⟩:=own_form HO1.out;go_wp2_with fail
 go_loopw [5,14] (fun t5 t14 wr=>∃ k:Nat,k≤cs.length∧t14=.int .i64 k∧OEy wr X.heap.size t5 ((cs.take k).flatMap (fun x=>(Y.fs.inF N false u.c x).1))∧((cs.take k).flatMap (fun x=>(Y.fs.inF N false u.c x).1)).length≤k*1000∧OCn wr X.heap.size (.slice a cs.length ca) cs∧Blk wr w.heap.size #[.int .i64 u.u,.int .i64 u.g,.string u.data] 33∧Below w.heap.size w wr∧X.heap.size≤wr.heap.size) (fun _ t14 _=>cs.length - (intOf t14).toNat)
 case atStart=>exact ⟨0,Nat.zero_le _,rfl,OEy.nil _ _,Nat.zero_le _,HO1.out,HU1.out,HB1.out,hX1⟩
 case round=>
  obtain⟨k,hkl,rfl,hO2,hl2,hC2,hU2,hB2,hX2⟩:=hrel;by_cases hlt:k<cs.length
  ·obtain ⟨b,off,rfl,hbl,c0,c1,c2,c3,c4,c5,c6⟩:=cn_cells hC2.at k hlt;have hmem:=List.getElem_mem hlt;have HFt:=Lib.hid (flat_takeE (fun x=>(Y.fs.inF N false u.c x).1) cs k hlt);have HIn2:=Lib.hid (fun w1 hb1=>HIn.out w1 hb1 cs[k] hmem);have hil2:=HIl.out cs[k] hmem;generalize cs[k]=x at c0 c1 c2 c3 c4 c5 c6 HFt HIn2 hil2;generalize (cs.take k).flatMap (fun x=>(Y.fs.inF N false u.c x).1)=O at hO2 hl2 HFt;generalize hO':(cs.take (k+1)).flatMap (fun x=>(Y.fs.inF N false u.c x).1)=O' at HFt;have HOe:=Lib.hid hO';generalize Y.fs.inF N false u.c x=ir at HIn2 HFt hil2;obtain⟨il,ie⟩:=ir;dsimp only at HIn2 HFt hil2;have hXb:=Blk.new wr #[.string x.path,.int .i64 x.dir,.int .i64 x.info,.int .i64 x.files,.int .i64 x.out,.int .i64 x.way,.string x.top] 45;have hbX:=(Below.refl wr.heap.size wr).alloc (Nat.le_refl _) (.cells #[.string x.path,.int .i64 x.dir,.int .i64 x.info,.int .i64 x.files,.int .i64 x.out,.int .i64 x.way,.string x.top] 45);have HLt:=Lib.hid hlt;go_upto_region 5 with fail;generalize wr.alloc (.cells #[.string x.path,.int .i64 x.dir,.int .i64 x.info,.int .i64 x.files,.int .i64 x.out,.int .i64 x.way,.string x.top] 45)=V at hXb hbX ⊢;generalize wr.heap.size=xb at hXb ⊢;have hU3:=hU2.keep hbX;obtain⟨uc,uf,uz⟩:=hU3.facts;obtain⟨xc,xf,xz⟩:=hXb.facts;have H3:=Lib.hid (And.intro (hO2.keep hbX) (And.intro (OCn.keep hC2 hbX) (And.intro hU3 (And.intro (bnext hB2 hbX) (Nat.le_trans hX2 hbX.size)))));clear hO' hO2 hC2 hU2 hB2 c0 c1 c2 c3 c4 c5 c6 hXb hbX hU3 hmem;go_wp2_with fail;refine (HIn2.out _ H3.out.2.2.2.1).mono ?_;rintro e V1 ⟨ia,ic,rfl,hS1,hb4⟩;have hO4:=H3.out.1.keep hb4;have hC4:=OCn.keep H3.out.2.1 hb4;have hU4:=H3.out.2.2.1.keep hb4;have hB4:=bnext H3.out.2.2.2.1 hb4;have hX4:=Nat.le_trans H3.out.2.2.2.2 hb4.size;have hkm:k*1000≤900000:=by omega
   obtain⟨a5,c5,W,hrr,hO5,hM5⟩:=hO4.cat hS1 (by omega) hX4;have HA5:=Lib.hid hrr;have HW:=Lib.hid (And.intro (show OEy W X.heap.size _ O' by rw [HFt.out];exact hO5) (And.intro (show O'.length≤(k+1)*1000 by rw [HFt.out,List.length_append];omega) (And.intro (own_mod hC4 hM5 (fun q hq=>own_apart hO4 hC4 (by decide) hq))
    (And.intro (hU4.mod hM5 (fun hq=>by have:=(own_obj1 hO4 hq).1;omega)) (And.intro (hB4.trans (hM5.below (fun q hq=>Nat.le_trans (by omega) (own_obj1 hO4 hq).1) hB4.size)) (Nat.le_trans hX4 hM5.size))))))
   clear uc uf uz xc xf xz hS1 hb4 hO4 hC4 hU4 hB4 hX4 hrr hO5 hM5;go_wp2_with (at_builtin;refine wpList_app_run rfl rfl rfl rfl HA5.out ?_);go_roundw
   case rel=>exact ⟨k+1,by have:=HLt.out;omega,by go_num,by rw [HOe.out];exact HW.out.1,by rw [HOe.out];exact HW.out.2.1,HW.out.2.2.1,HW.out.2.2.2.1,HW.out.2.2.2.2.1,HW.out.2.2.2.2.2⟩
   case measure=>
    have:=HLt.out;simp [intOf];omega
  ·obtain rfl:k=cs.length:=by omega
   rw [List.take_length,←HS.out] at hO2;obtain⟨oa,oc,rfl,-⟩:=own_form hO2;have HZ:=Lib.hid (And.intro hO2 hB2);clear hO2 hC2 hU2 hB2;go_wp2_with fail;go_ret;exact⟨oa,oc,rfl,HZ.out.1.at,HZ.out.2⟩
end
end
end Go.Proofs.YtbndfmkgamdgeaaGreatDoor
