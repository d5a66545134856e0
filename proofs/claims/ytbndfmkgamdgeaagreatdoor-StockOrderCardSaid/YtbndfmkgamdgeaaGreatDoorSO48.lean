import Derived.Test.YtbndfmkgamdgeaaGreatDoorSO1
import Derived.Test.YtbndfmkgamdgeaaGreatDoorSO5
import Derived.Test.YtbndfmkgamdgeaaGreatDoorSO6
import Derived.Test.YtbndfmkgamdgeaaGreatDoorSO8
import Derived.Test.YtbndfmkgamdgeaaGreatDoorSO13
import Derived.Test.YtbndfmkgamdgeaaGreatDoorSO21
import Derived.Test.YtbndfmkgamdgeaaGreatDoorSO22
import Derived.Test.YtbndfmkgamdgeaaGreatDoorSO24
import Derived.Test.YtbndfmkgamdgeaaGreatDoorSO25
import Derived.Test.YtbndfmkgamdgeaaGreatDoorSO28
import Derived.Test.YtbndfmkgamdgeaaGreatDoorSO30
import Derived.Test.YtbndfmkgamdgeaaGreatDoorSO31
import Derived.Test.YtbndfmkgamdgeaaGreatDoorSO32
import Derived.Test.YtbndfmkgamdgeaaGreatDoorSO34
import Derived.Test.YtbndfmkgamdgeaaGreatDoorSO36
import Derived.Test.YtbndfmkgamdgeaaGreatDoorSO38
import Derived.Test.YtbndfmkgamdgeaaGreatDoorSO43
import Derived.Test.YtbndfmkgamdgeaaGreatDoorSO45
import Derived.Test.YtbndfmkgamdgeaaGreatDoorSO46
import Derived.Test.YtbndfmkgamdgeaaGreatDoorSO47
set_option linter.unusedVariables false
set_option linter.unusedSimpArgs false
set_option maxRecDepth 100000
set_option maxHeartbeats 16000000
namespace Go.Proofs.YtbndfmkgamdgeaaGreatDoor
section
open Go.RowKit
attribute [local go_sem] Oper.semAt_some
def C34:Array Value:=#[.string (ByteArray.mk #[47]),.int .i64 1,.int .i64 511,.int .i64 0,.int .i64 0,.int .i64 0,.string (ByteArray.mk #[])]
def L34:Array Value:=#[.int .i64 3,.int .i64 (-1),.string (ByteArray.mk #[100])]
theorem sd34 {w:World} {b:Nat} (h:Blk w b C34 73):SdAt w none 0 0 (some ⟨b,0,none⟩) 1 1 [] is33:=by
 refine ⟨⟨rfl,Nat.le_refl _,by omega,.inl rfl⟩,⟨rfl,Nat.le_refl _,by omega,.inr ⟨b,0,rfl,h.lt,fun i hi=>⟨itC is33[i],rfl,rfl,fun j hj=>?_⟩⟩⟩⟩;rw [itC_len] at hj;rw [h.cell];have hi3:i<1:=hi
 match i,hi3 with
 | 0,_=>match j,hj with
  | 0,_=>rfl
  | 1,_=>rfl
  | 2,_=>rfl
  | 3,_=>rfl
  | 4,_=>rfl
  | 5,_=>rfl
  | 6,_=>rfl
theorem sl34 {w:World} {b:Nat} (h:Blk w b L34 75):SliceAt w 3 lnQ (some ⟨b,0,none⟩) 1 1 ln34:=by
 refine ⟨rfl,Nat.le_refl _,by omega,.inr ⟨b,0,rfl,h.lt,fun i hi=>⟨lnC ln34[i],rfl,rfl,fun j hj=>?_⟩⟩⟩;rw [lnC_len] at hj;rw [h.cell];have hi3:i<1:=hi
 match i,hi3 with
 | 0,_=>match j,hj with
  | 0,_=>rfl
  | 1,_=>rfl
  | 2,_=>rfl
theorem ok34c:SyOk y34c 26:=ok34b.op (ok34b.fine.file _ _ _ _ _ _)
theorem read34:∀ no,(y34c.fs.read ⟨5,5⟩ no).1.size≤20000:=by
 have hall:∀ a∈y34c.fs.ns,a.data.size≤20000:=fun a ha=>of_decide_eq_true (List.all_eq_true.1 (show y34c.fs.ns.all (fun a=>decide (a.data.size≤20000))=true by kernel_rfl) a ha);intro no;unfold Fs.read
 split
 ·cases hg:y34c.fs.get no with
  | none=>exact Nat.zero_le _
  | some a=>exact hall a (an_mem hg)
 ·exact Nat.zero_le _
theorem st34:y34c.fs.stockF 100 us33=[ey34]:=by
 unfold Fs.stockF;rw [al34];show (y34c.fs.inF 100 false ⟨5,5⟩ cn33).1 ++ []=_;rw [in34];rfl
theorem grow_belowE {w w':World} (h:∃ q os,w'=Go.Sort.grow (w.drewN q) os):Below w.heap.size w w':=by
 obtain⟨q,os,rfl⟩:=h;refine ⟨rfl,rfl,rfl,?_,fun k hk=>?_⟩
 ·rw [Go.Sort.size_grow];exact Nat.le_add_right _ _
 ·show (w.heap ++ os)[k]? = _;rw [Array.getElem?_append_left hk]
theorem ear34 (w:World):Calls Tryz.prog 5 #[.agg #[.string (ByteArray.mk #[47,84,114,97,115,104]),.string (ByteArray.mk #[100]),.string (ByteArray.mk #[47,97,47,100]),.int .i64 9,.int .i64 3,.bool true],.agg #[.string (ByteArray.mk #[47,84,114,97,115,104]),.string (ByteArray.mk #[100]),.string (ByteArray.mk #[47,97,47,100]),.int .i64 9,.int .i64 3,.bool true]] w fun e w'=>e=.returned (.int .i64 0)∧Below w.heap.size w w':=
 (earlier_any ey34 ey34 w).mono fun e w' ⟨h1,h2⟩=>⟨by rw [earF_self] at h1;exact h1,grow_belowE h2⟩
theorem ey_eq34 (w:World):(binOp .eql 23 (.agg #[.string (ByteArray.mk #[47,84,114,97,115,104]),.string (ByteArray.mk #[100]),.string (ByteArray.mk #[47,97,47,100]),.int .i64 9,.int .i64 3,.bool true]) (.agg #[.string (ByteArray.mk #[47,84,114,97,115,104]),.string (ByteArray.mk #[100]),.string (ByteArray.mk #[47,97,47,100]),.int .i64 9,.int .i64 3,.bool true])).run Tryz.prog w=.ok (.bool true) w:=by
 have u1:=Tryz.underlying9;have u2:=Tryz.underlying3;have u3:=Tryz.underlying4;have a1:=Tryz.isAgg9;have z1:=Tryz.sizeOf9;have a2:=Tryz.isAgg3;have z2:=Tryz.sizeOf3;have a3:=Tryz.isAgg4;have z3:=Tryz.sizeOf4;have hS:Tryz.prog.underlying 23=some (.struct (Tryz.prog.fieldsOf 23)):=by kernel_rfl
 have hp:Tryz.prog.stoodInHeld 23=false:=by kernel_rfl
 rw [run_eql_struct,show (10000:Nat)=9999+1 from rfl,run_equalIn_agg w 9999 23 _ _ hS hp];simp only [Program.fieldsOf,Tryz.underlying23];go_simp
structure AI (w:World) (xb:Nat) (W:World):Prop where
 u:Blk W w.heap.size #[.int .i64 5,.int .i64 5,.string (ByteArray.mk #[47])] 33
 x:Blk W xb #[.string (ByteArray.mk #[47,84,114,97,115,104]),.int .i64 2,.int .i64 3,.int .i64 4,.int .i64 5,.int .i64 6,.string (ByteArray.mk #[])] 45
theorem AI.keep {w W W':World} {xb:Nat} (h:AI w xb W) (hb:Below W.heap.size W W'):AI w xb W':=⟨h.u.keep hb,h.x.keep hb⟩
def L1 (W:World) (eb off c:Nat) (w':World):Prop:=SliceAt w' 6 eyQ (some ⟨eb,off,none⟩) 1 c [ey34]∧Below W.heap.size W w'
theorem L1.all {W w':World} {eb off c:Nat} (h:L1 W eb off c w'):L1 W eb off c w'∧w'.cell? ⟨eb,off,none⟩=some (.string (ByteArray.mk #[47,84,114,97,115,104]))∧w'.cell? ⟨eb,off+1,none⟩=some (.string (ByteArray.mk #[100]))∧w'.cell? ⟨eb,off+2,none⟩=some (.string (ByteArray.mk #[47,97,47,100]))∧w'.cell? ⟨eb,off+3,none⟩=some (.int .i64 9)∧w'.cell? ⟨eb,off+4,none⟩=some (.int .i64 3)∧w'.cell? ⟨eb,off+5,none⟩=some (.bool true):=by
 obtain⟨y0,y1,y2,y3,y4,y5⟩:=eys_six h.1 0 (by decide);simp only [Nat.zero_mul,Nat.add_zero,List.getElem_cons_zero,ey34] at y0 y1 y2 y3 y4 y5;exact⟨h,y0,y1,y2,y3,y4,y5⟩
theorem L1.call {W p w':World} {eb off c:Nat} (h:L1 W eb off c p) (hb:Below p.heap.size p w'):L1 W eb off c w':=⟨h.1.below hb (Nat.le_refl _),bnext h.2 hb⟩
theorem L1.drew {W:World} {eb off c:Nat} (h:SliceAt W 6 eyQ (some ⟨eb,off,none⟩) 1 c [ey34]):L1 W eb off c W.drew:=⟨h,(Below.refl _ _).drew⟩
theorem awake34_any (w:World):Calls Tryz.prog 7 #[] w fun e w'=>e=.returned (.bool true)∧Below w.heap.size w w':=by
 obtain⟨hU,hI,hb⟩:=boxes2 w #[.int .i64 5,.int .i64 5,.string (ByteArray.mk #[47])] #[.string (ByteArray.mk #[47]),.int .i64 1,.int .i64 511,.int .i64 0,.int .i64 0,.int .i64 0,.string (ByteArray.mk #[])] 33 73;have HPl:=Lib.hid (plant_any _ (sd34 hI) (by show (0:Nat)≤_;omega) (by show (1:Nat)≤_;omega) (fun m hm=>by cases hm) (fun x hx=>by
  have:∀ x∈is33,x.path.size≤100000∧x.data.size≤100000:=by decide
  exact this x hx))
 have HW0:=Lib.hid (And.intro hU hb);clear hU hI hb;go_enter Tryz.func7,Tryz.ntmps7;go_wp2_with fail;refine HPl.out.mono ?_;rintro e w1 ⟨pf,pw,R,pv,Y,rfl,hY,rfl,hlow,hb1⟩;have hB1:=bnext HW0.out.2 hb1;have hU1:=HW0.out.1.keep hb1;have hlo1:∀ k,R.Y pf pw k→w.heap.size≤k:=fun k hk=>Nat.le_trans HW0.out.2.size (hlow k hk);have hY1:SyAt w1 pf pw R pv y34:=hY;have hL:=Blk.new w1 #[.int .i64 3,.int .i64 (-1),.string (ByteArray.mk #[100])] 75;have hbL:=balloc (Below.refl w1.heap.size w1) (.cells #[.int .i64 3,.int .i64 (-1),.string (ByteArray.mk #[100])] 75);obtain⟨uc,uf,uz⟩:=hU1.facts;have H2:=Lib.hid (And.intro hU1 (And.intro hB1 (And.intro hY1 (And.intro hL (And.intro hbL hlo1)))));have HFl:=Lib.hid (filled_any (Q:=fun A=>Blk A w1.heap.size L34 75) (L0:=0) (hY1.keep hbL) ⟨fun A B h hb=>h.keep hb,fun A B R1 R2 Z h hy hs _ _=>h.sy hy hs (by decide) (by decide)⟩ hL (Nat.zero_le _) (fun k _=>Nat.zero_le _) ok34 (by omega) ⟨rfl,rfl⟩ ⟨by show (0:Int)≤0;omega,by show (0:Int)≤253402300799;omega⟩ us33 (by decide) (by decide) (by decide) 1 (fun A h=>sl34 h) (by decide) (by decide));rw [fi34] at HFl;unfold us33 cn33 Cn.v at HFl;dsimp only at HFl;clear hU1 hB1 hY1 hL hbL hlo1 hY hlow hb1;go_wp2_with fail;refine HFl.out.mono ?_;rintro e w3 ⟨rfl,⟨R3,hY3,hs3⟩,-,hst3⟩;have hY3:SyAt w3 pf pw R3 pv y34b:=hY3;have hU3:=(H2.out.1.keep H2.out.2.2.2.2.1).sy (H2.out.2.2.1.keep H2.out.2.2.2.2.1) hs3 (by decide) (by decide);have hB3:=(bnext H2.out.2.1 H2.out.2.2.2.2.1).trans (hs3.below H2.out.2.2.2.2.2 (Nat.le_trans H2.out.2.1.size H2.out.2.2.2.2.1.size));have hlo3:=hs3.above H2.out.2.2.2.2.2 (Nat.le_trans H2.out.2.1.size H2.out.2.2.2.2.1.size);have hX:=Blk.new w3 #[.string (ByteArray.mk #[47,84,114,97,115,104]),.int .i64 2,.int .i64 3,.int .i64 4,.int .i64 5,.int .i64 6,.string (ByteArray.mk #[])] 45;have hbX:=balloc (Below.refl w3.heap.size w3) (.cells #[.string (ByteArray.mk #[47,84,114,97,115,104]),.int .i64 2,.int .i64 3,.int .i64 4,.int .i64 5,.int .i64 6,.string (ByteArray.mk #[])] 45);clear uc uf uz;go_upto_region 6 with fail;generalize w3.alloc (.cells #[.string (ByteArray.mk #[47,84,114,97,115,104]),.int .i64 2,.int .i64 3,.int .i64 4,.int .i64 5,.int .i64 6,.string (ByteArray.mk #[])] 45)=w4 at hX hbX ⊢;generalize w3.heap.size=xb at hX ⊢;have hA4:AI w xb w4:=⟨hU3.keep hbX,hX⟩;have H4:=Lib.hid (And.intro (hY3.keep hbX) (And.intro (bnext hB3 hbX) hlo3));have hH0:=hA4.keep (Below.refl _ _).drew;have HY0:=Lib.hid (H4.out.1.keep (Below.refl _ _).drew);clear hX hbX hY3 hst3 hU3 hB3 hlo3 hs3;refine wp_region_held_drew (S:=fun w'=>AI w xb w') (by kernel_rfl) hH0 (fun hHeld=>?_);refine reg_takes 4 [(0,28),(1,29),(3,31),(4,32)] (by kernel_rfl) (by kernel_rfl) rfl (fun _ _ _ _ _ h=>h) hHeld ?_
 iterate 4 (apply takes_cons rfl rfl;(· (intro w9 hSw;obtain ⟨s1,-,-⟩:=hSw.u.facts;obtain ⟨s2,-,-⟩:=hSw.x.facts;clear hSw;go_simp;(try with_reducible rfl)));simp only [List.setIfInBounds_toArray,List.set_cons_zero,List.set_cons_succ])
 refine takes_nil ?_;refine reg_call 2 30 (R:=fun v w'=>v=.agg #[.int .i64 5,.int .i64 5]∧Below w4.drew.heap.size w4.drew w') (by kernel_rfl) rfl rfl rfl ?xa ((ccred_any 5 5 (ByteArray.mk #[47]) w4.drew).mono (fun e w' ⟨he,hw⟩=>⟨_,he,rfl,hw⟩)) (fun v w' ⟨_,hw⟩=>hHeld.keep hw) ?_
 case xa=>(go_simp;(try rfl))
 rintro _ w5 ⟨rfl,hb5⟩;simp only [List.setIfInBounds_toArray,List.set_cons_zero,List.set_cons_succ];have hA5:=hHeld.keep hb5;have hY5:=HY0.out.keep hb5;have HCr:=screate_any hY5 ok34b.fine.ok (by omega) ⟨ok34b.c0,by have:=ok34b.cN;omega⟩ (by decide) ⟨5,5⟩ 3 (ByteArray.mk #[100,46,116,114,97,115,104,105,110,102,111]) 384 tx34 (by decide) (by decide);rw [cr34] at HCr;have hdf:(y34b.op (fun S now=>S.file ⟨5,5⟩ now 3 (ByteArray.mk #[100,46,116,114,97,115,104,105,110,102,111]) 384 tx34)).1=y34c:=rfl;rw [hdf] at HCr;generalize (y34b.op (fun S now=>S.file ⟨5,5⟩ now 3 (ByteArray.mk #[100,46,116,114,97,115,104,105,110,102,111]) 384 tx34)).2.1=cno at HCr;unfold tx34 at HCr;refine reg_call 5 33 (R:=fun v w'=>v=.tuple #[.int .i64 cno,.int .i64 0]∧∃ R5,SyAt w' pf pw R5 pv y34c∧Stp (R3.Y pf pw) (R5.Y pf pw) w5 w') (by kernel_rfl) rfl rfl rfl ?xb (HCr.mono (fun e w' ⟨he,hw⟩=>⟨_,he,rfl,hw⟩)) (fun v w' ⟨_,R5,h1,h2⟩=>⟨hA5.u.sy hY5 h2 (by decide) (by decide),hA5.x.sy hY5 h2 (by decide) (by decide)⟩) ?_
 case xb=>(go_simp;(try rfl))
 rintro _ w6 ⟨rfl,R5,hY6,hs6⟩;simp only [List.setIfInBounds_toArray,List.set_cons_zero,List.set_cons_succ];have hA6:AI w xb w6:=⟨hA5.u.sy hY5 hs6 (by decide) (by decide),hA5.x.sy hY5 hs6 (by decide) (by decide)⟩;refine reg_takes 5 [(6,27),(7,34),(8,35),(9,5),(10,6)] (by kernel_rfl) (by kernel_rfl) rfl (fun _ _ _ _ _ h=>h) hA6 ?_
 iterate 5 (apply takes_cons rfl rfl;(· (intro w9 hSw;obtain ⟨s1,-,-⟩:=hSw.u.facts;obtain ⟨s2,-,-⟩:=hSw.x.facts;clear hSw;go_simp;(try with_reducible rfl)));simp only [List.setIfInBounds_toArray,List.set_cons_zero,List.set_cons_succ])
 refine takes_nil ?_;refine wpAnyH_done (by kernel_rfl) ?_ _;have hb45:Below w.heap.size w w5:=bnext (bnext H4.out.2.1 (Below.refl _ _).drew) hb5;have hB6:Below w.heap.size w w6:=hb45.trans (hs6.below H4.out.2.2 hb45.size);have HAl:=sall_any hY6 (ok34c.fine.mono (show 26≤100 by omega)) (by omega) dd34 us33 (by decide) (by decide) (by decide) (ok34c.len (by omega)) sorts_one (by omega) (by rw [al34];decide) (fun x hx=>by
  rw [al34] at hx;obtain rfl:x=cn33:=by simpa using hx
  exact⟨by decide,Nat.le_of_eq li34⟩) read34
 rw [st34] at HAl;unfold us33 at HAl;dsimp only [List.length_singleton] at HAl;have HA6:=Lib.hid (And.intro hA6 hB6);have HAl:=Lib.hid HAl;clear hHeld hH0 hA5 hY5 hA6 hb45 hs6 hY6 hb5 hA4 hB6;obtain⟨uc,uf,uz⟩:=HA6.out.1.u.facts;go_wp2_with fail;refine HAl.out.mono ?_;rintro e w7 ⟨a,c,rfl,hS7,hb7⟩;have hsl:=hS7;obtain⟨eb,off,rfl,-⟩:=eys_some hS7 (by decide);have HS7:=Lib.hid hS7;have HB7:=Lib.hid (bnext HA6.out.2 hb7);have HF1:=Lib.hid (fun w=>sfull_any ⟨ByteArray.mk #[],0,0,0,0,0,ByteArray.mk #[47,109]⟩ (ByteArray.mk #[97,47,46,46,47,98]) w (by decide) (by decide));have HF2:=Lib.hid (fun w=>sfull_any ⟨ByteArray.mk #[],0,0,0,0,0,ByteArray.mk #[47,109]⟩ (ByteArray.mk #[97,47,98]) w (by decide) (by decide));rw [full34a] at HF1;rw [full34b] at HF2;dsimp only at HF1 HF2;clear uc uf uz hS7 hsl hb7;go_wp2_with fail;refine (HF1.out _).mono ?_;rintro e w8 ⟨rfl,hb8⟩;have HB8:=Lib.hid (bnext HB7.out hb8);have HS8:=Lib.hid (HS7.out.below hb8 (Nat.le_refl _));clear hb8;go_wp2_with fail;refine (HF2.out _).mono ?_;rintro e w9 ⟨rfl,hb9⟩;have HB9:=Lib.hid (bnext HB8.out hb9);have HS9:=Lib.hid (HS8.out.below hb9 (Nat.le_refl _));have hee:=ey_eq34;have HEr:=Lib.hid ear34;clear hb9;go_upto_region 10 with fail
 go_region_held3 (fun w'=>L1 w9 eb off c w'∧w'.cell? ⟨eb,off,none⟩=some (.string (ByteArray.mk #[47,84,114,97,115,104]))∧w'.cell? ⟨eb,off+1,none⟩=some (.string (ByteArray.mk #[100]))∧w'.cell? ⟨eb,off+2,none⟩=some (.string (ByteArray.mk #[47,97,47,100]))∧w'.cell? ⟨eb,off+3,none⟩=some (.int .i64 9)∧w'.cell? ⟨eb,off+4,none⟩=some (.int .i64 3)∧w'.cell? ⟨eb,off+5,none⟩=some (.bool true))
  (first | with_reducible assumption | with_reducible exact (L1.drew HS9.out).all | with_reducible exact (L1.call (And.left (by assumption)) (by assumption)).all)
  ((first | (go_at_call 5;((with_reducible refine (HEr.out _).mono ?_);rintro e w10 ⟨rfl,hb10⟩))))
 all_goals
  have hbz:L1 w9 eb off c w10:=And.left (by assumption);have HZ:=Lib.hid (bnext HB9.out hbz.2);clear hbz;go_wp2_with fail;go_ret;exact⟨rfl,HZ.out⟩
end
end Go.Proofs.YtbndfmkgamdgeaaGreatDoor
