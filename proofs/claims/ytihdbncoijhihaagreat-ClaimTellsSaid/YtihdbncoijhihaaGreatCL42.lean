import Derived.BigQuiet
import Derived.Test.YtihdbncoijhihaaGreatCL41
import Derived.Test.YtihdbncoijhihaaGreatCL37
import Derived.Test.YtihdbncoijhihaaGreatCL25
import Derived.Test.YtihdbncoijhihaaGreatCL29
import Derived.Test.YtihdbncoijhihaaGreatCL8
import Derived.Test.YtihdbncoijhihaaGreatCL33
import Derived.Test.YtihdbncoijhihaaGreatCL16
import Derived.Test.YtihdbncoijhihaaGreatCL10
set_option linter.unusedVariables false
set_option linter.unusedSimpArgs false
set_option maxRecDepth 100000
set_option maxHeartbeats 16000000
namespace Go.Proofs.YtihdbncoijhihaaGreat
section
open Go.RowKit
def is32:List It:=[⟨(ByteArray.mk #[47]),1,511,0,0,0,(ByteArray.mk #[])⟩]
def sy32:Sy:=⟨plantF [] is32,0,0,[],false⟩
def us32:Us:=⟨5,5,ByteArray.mk #[47]⟩
def cn32:Cn:=⟨ByteArray.mk #[47,84,114,97,115,104],2,3,4,5,6,ByteArray.mk #[]⟩
def b32:ByteArray:=ByteArray.mk #[97]
def y32a:Sy:=(sy32.chooseF us32 1).1
def y32b:Sy:=(y32a.op (fun S now=>S.file ⟨5,5⟩ now 4 (ByteArray.mk #[97]) 0 (ByteArray.mk #[]))).1
def y32c:Sy:=(y32b.op (fun S now=>S.file ⟨5,5⟩ now 3 (ByteArray.mk #[97,46,50,46,116,114,97,115,104,105,110,102,111]) 0 (ByteArray.mk #[]))).1
def y32d:Sy:=(y32c.nameF ⟨5,5⟩ cn32 (ByteArray.mk #[97]) (ByteArray.mk #[116,101,120,116])).1
theorem ch32:(sy32.chooseF us32 1).2=(cn32,0):=by kernel_rfl
theorem ca32:(y32a.op (fun S now=>S.file ⟨5,5⟩ now 4 (ByteArray.mk #[97]) 0 (ByteArray.mk #[]))).2=(7,0):=by kernel_rfl
theorem cb32:(y32b.op (fun S now=>S.file ⟨5,5⟩ now 3 (ByteArray.mk #[97,46,50,46,116,114,97,115,104,105,110,102,111]) 0 (ByteArray.mk #[]))).2=(8,0):=by kernel_rfl
theorem nm32:(y32c.nameF ⟨5,5⟩ cn32 (ByteArray.mk #[97]) (ByteArray.mk #[116,101,120,116])).2=(ByteArray.mk #[97,46,51],0):=by kernel_rfl
theorem fr32:y32d.fs.freeL y32d.dead ⟨5,5⟩ [4] (namesL (ByteArray.mk #[97]))=(ByteArray.mk #[97,46,50],0):=by kernel_rfl
theorem ok32:SyOk sy32 2:=⟨plant_fine [] is32,Int.le_refl _,by show (0:Int)≤_;omega,Nat.zero_le _⟩
theorem ok32a:SyOk y32a 22:=ok32.chooseF us32 1
theorem ok32b:SyOk y32b 23:=ok32a.op (ok32a.fine.file _ _ _ _ _ _)
theorem ok32c:SyOk y32c 24:=ok32b.op (ok32b.fine.file _ _ _ _ _ _)
theorem ok32d:SyOk y32d 1024:=by
 have h:=ok32c.nameL (c:=⟨5,5⟩) (x:=cn32) (text:=ByteArray.mk #[116,101,120,116]) (l:=namesL (ByteArray.mk #[97]));rw [names_len] at h;exact h
theorem sd32 {w:World} {b:Nat} (h:Blk w b #[.string (ByteArray.mk #[47]),.int .i64 1,.int .i64 511,.int .i64 0,.int .i64 0,.int .i64 0,.string (ByteArray.mk #[])] 116):SdAt w none 0 0 (some ⟨b,0,none⟩) 1 1 [] is32:=by
 refine ⟨⟨rfl,Nat.le_refl _,by omega,.inl rfl⟩,⟨rfl,Nat.le_refl _,by omega,.inr ⟨b,0,rfl,h.lt,fun i hi=>⟨itC is32[i],rfl,rfl,fun j hj=>?_⟩⟩⟩⟩;rw [itC_len] at hj;rw [h.cell];have hi3:i<1:=hi
 match i,hi3 with
 | 0,_=>match j,hj with
  | 0,_=>rfl
  | 1,_=>rfl
  | 2,_=>rfl
  | 3,_=>rfl
  | 4,_=>rfl
  | 5,_=>rfl
  | 6,_=>rfl
structure SAw (w':World) (bu bc:Nat):Prop where
 u:Blk w' bu #[.int .i64 5,.int .i64 5,.string (ByteArray.mk #[47])] 27
 x:Blk w' bc #[.string (ByteArray.mk #[47,84,114,97,115,104]),.int .i64 2,.int .i64 3,.int .i64 4,.int .i64 5,.int .i64 6,.string (ByteArray.mk #[])] 38
theorem SAw.keep {w w':World} {bu bc:Nat} (h:SAw w bu bc) (hb:Below w.heap.size w w'):SAw w' bu bc:=⟨h.u.keep hb,h.x.keep hb⟩
theorem SAw.sy {w w':World} {bu bc:Nat} (h:SAw w bu bc) {pf pw:Nat} {R:Rp} {pv:Value} {Y:Sy} (hy:SyAt w pf pw R pv Y) {F':Nat→Prop} (hs:Stp (R.Y pf pw) F' w w'):SAw w' bu bc:=
 ⟨h.u.sy hy hs (by decide) (by decide),h.x.sy hy hs (by decide) (by decide)⟩
theorem awake32_any (w:World) :
  Calls Tryz.prog 15 #[] w fun e w'=>e=.returned (.bool true)∧Below w.heap.size w w':=by
 obtain⟨hU,hI,hb⟩:=boxes2 w #[.int .i64 5,.int .i64 5,.string (ByteArray.mk #[47])] #[.string (ByteArray.mk #[47]),.int .i64 1,.int .i64 511,.int .i64 0,.int .i64 0,.int .i64 0,.string (ByteArray.mk #[])] 27 116;have HPl:=Lib.hid (plant_any _ (sd32 hI) (by show (0:Nat)≤_;omega) (by show (1:Nat)≤_;omega) (fun m hm=>by cases hm) (fun x hx=>by
  have:∀ x∈is32,x.path.size≤100000∧x.data.size≤100000:=by decide
  exact this x hx))
 have HW0:=Lib.hid (And.intro hU hb);have HCr:=Lib.hid (fun w=>ccred_any 5 5 (ByteArray.mk #[47]) w);have HFl:=Lib.hid (fun w=>cfile_any (ByteArray.mk #[97]) (by decide) w);clear hU hI hb;go_enter Tryz.func15,Tryz.ntmps15;go_wp2_with fail;refine HPl.out.mono ?_;rintro e w1 ⟨pf,pw,R,pv,Y,rfl,hY,rfl,hlow,hb1⟩;have hB1:=bnext HW0.out.2 hb1;have hU1:=HW0.out.1.keep hb1;have hsz0:=HW0.out.2.size;have hlow1:∀ k,R.Y pf pw k→w.heap.size≤k:=fun k hk=>Nat.le_trans hsz0 (hlow k hk);have hY1:SyAt w1 pf pw R pv sy32:=hY;have HC1:=Lib.hid (lchoose_any hY1 ok32 (by omega) rfl us32 (by decide) (by decide) (by decide) 1);rw [ch32] at HC1;unfold us32 cn32 Cn.v at HC1;dsimp only at HC1;have H1:=Lib.hid (And.intro hY1 (And.intro hU1 (And.intro hB1 hlow1)));obtain⟨uc,uf,uz⟩:=hU1.facts;clear hY hY1 hB1 hU1 hb1 hlow hlow1 hsz0;go_wp2_with fail;refine HC1.out.mono ?_;rintro e w2 ⟨rfl,R2,hY2,hS2⟩;have hU2:=H1.out.2.1.sy H1.out.1 hS2 (by decide) (by decide);have hB2:=H1.out.2.2.1.trans (hS2.below H1.out.2.2.2 H1.out.2.2.1.size);have hlow2:=hS2.above H1.out.2.2.2 H1.out.2.2.1.size;have hC2:=Blk.new w2 #[.string (ByteArray.mk #[47,84,114,97,115,104]),.int .i64 2,.int .i64 3,.int .i64 4,.int .i64 5,.int .i64 6,.string (ByteArray.mk #[])] 38;have hbC:=balloc (Below.refl w2.heap.size w2) (.cells #[.string (ByteArray.mk #[47,84,114,97,115,104]),.int .i64 2,.int .i64 3,.int .i64 4,.int .i64 5,.int .i64 6,.string (ByteArray.mk #[])] 38);have hY3:SyAt (w2.alloc (.cells #[.string (ByteArray.mk #[47,84,114,97,115,104]),.int .i64 2,.int .i64 3,.int .i64 4,.int .i64 5,.int .i64 6,.string (ByteArray.mk #[])] 38)) pf pw R2 pv y32a:=hY2.keep hbC;have hSa:SAw (w2.alloc (.cells #[.string (ByteArray.mk #[47,84,114,97,115,104]),.int .i64 2,.int .i64 3,.int .i64 4,.int .i64 5,.int .i64 6,.string (ByteArray.mk #[])] 38)) w.heap.size w2.heap.size:=⟨hU2.keep hbC,hC2⟩;have hB3:=bnext hB2 hbC;clear uc uf uz;go_upto_region 6 with fail;generalize w2.alloc (.cells #[.string (ByteArray.mk #[47,84,114,97,115,104]),.int .i64 2,.int .i64 3,.int .i64 4,.int .i64 5,.int .i64 6,.string (ByteArray.mk #[])] 38)=W0 at hY3 hSa hB3 ⊢;generalize w2.heap.size=bc at hSa ⊢;clear hY2 hS2 hU2 hB2 hC2 hbC;have HK0:=Lib.hid (And.intro hY3 (And.intro hlow2 (And.intro hB3 hSa)));refine wp_region_held_drew (S:=fun w'=>SAw w' w.heap.size bc) (by kernel_rfl) (hSa.keep (Below.refl _ _).drew) (fun hHeld=>?_);have hbd0:Below W0.heap.size W0 W0.drew:=(Below.refl _ _).drew;refine reg_take 0 27 (v:=?vz00) rfl rfl (by kernel_rfl) (by kernel_rfl) (by kernel_rfl) (fun _ _ _ h=>h) rfl ?yz00 hHeld ?_
 case yz00=>(intro w9 hSw;go_simp;(try with_reducible rfl))
 simp only [List.setIfInBounds_toArray,List.set_cons_zero,List.set_cons_succ];refine reg_take 1 28 (v:=?vz01) rfl rfl (by kernel_rfl) (by kernel_rfl) (by kernel_rfl) (fun _ _ _ h=>h) rfl ?yz01 hHeld ?_
 case yz01=>(intro w9 hSw;obtain ⟨a1,-,-⟩:=hSw.u.facts;go_simp;(try with_reducible rfl))
 simp only [List.setIfInBounds_toArray,List.set_cons_zero,List.set_cons_succ];refine reg_take 3 30 (v:=?vz02) rfl rfl (by kernel_rfl) (by kernel_rfl) (by kernel_rfl) (fun _ _ _ h=>h) rfl ?yz02 hHeld ?_
 case yz02=>(intro w9 hSw;go_simp;(try with_reducible rfl))
 simp only [List.setIfInBounds_toArray,List.set_cons_zero,List.set_cons_succ];refine reg_take 4 31 (v:=?vz03) rfl rfl (by kernel_rfl) (by kernel_rfl) (by kernel_rfl) (fun _ _ _ h=>h) rfl ?yz03 hHeld ?_
 case yz03=>(intro w9 hSw;obtain ⟨a1,-,-⟩:=hSw.x.facts;go_simp;(try with_reducible rfl))
 simp only [List.setIfInBounds_toArray,List.set_cons_zero,List.set_cons_succ];refine reg_call 2 29 (R:=fun v w'=>v=.agg #[.int .i64 5,.int .i64 5]∧Below W0.drew.heap.size W0.drew w') (by kernel_rfl) rfl rfl rfl ?xc00 ((HCr.out W0.drew).mono (fun e w' ⟨he,hw⟩=>⟨_,he,rfl,hw⟩)) (fun v w' ⟨_,hw⟩=>hHeld.keep hw) ?_
 case xc00=>(go_simp;(try rfl))
 rintro _ v0 ⟨rfl,hbv0⟩;simp only [List.setIfInBounds_toArray,List.set_cons_zero,List.set_cons_succ];have hbw0:Below W0.heap.size W0 v0:=hbd0.trans (hbv0.mono hbd0.size);have hYv0:=hY3.keep hbw0;have HCe0:=Lib.hid (screate_any hYv0 ok32a.fine.ok (by omega) ⟨ok32a.c0,by have:=ok32a.cN;omega⟩ (by have:=ok32a.pl;omega) ⟨5,5⟩ 4 (ByteArray.mk #[97]) 0 (ByteArray.mk #[]) (by decide) (by decide));rw [show (y32a.op (fun S now=>S.file ⟨5,5⟩ now 4 (ByteArray.mk #[97]) 0 (ByteArray.mk #[]))).2=(7,0) from ca32] at HCe0;dsimp only at HCe0;have hSv0:=hSa.keep hbw0;refine reg_call 5 32 (R:=fun v w'=>v=.tuple #[.int .i64 7,.int .i64 0]∧∃ R',SyAt w' pf pw R' pv y32b∧Stp (R2.Y pf pw) (R'.Y pf pw) v0 w') (by kernel_rfl) rfl rfl rfl ?xc01 (HCe0.out.mono (fun e w' ⟨he,hw⟩=>⟨_,he,rfl,hw⟩)) (fun v w' ⟨_,R',h3,hs3⟩=>hSv0.sy hYv0 hs3) ?_
 case xc01=>(go_simp;(try rfl))
 rintro _ W1 ⟨rfl,R3,hY4,hS4⟩;simp only [List.setIfInBounds_toArray,List.set_cons_zero,List.set_cons_succ];have hSb:=hSv0.sy hYv0 hS4;have hlow3:=hS4.above hlow2 (Nat.le_trans hB3.size hbw0.size);have hB4:=(bnext hB3 hbw0).trans (hS4.below hlow2 (Nat.le_trans hB3.size hbw0.size));refine reg_take 6 26 (v:=?vz04) rfl rfl (by kernel_rfl) (by kernel_rfl) (by kernel_rfl) (fun _ _ _ h=>h) rfl ?yz04 hSb ?_
 case yz04=>(intro w9 hSw;go_simp;(try with_reducible rfl))
 simp only [List.setIfInBounds_toArray,List.set_cons_zero,List.set_cons_succ];refine reg_take 7 33 (v:=?vz05) rfl rfl (by kernel_rfl) (by kernel_rfl) (by kernel_rfl) (fun _ _ _ h=>h) rfl ?yz05 hSb ?_
 case yz05=>(intro w9 hSw;go_simp;(try with_reducible rfl))
 simp only [List.setIfInBounds_toArray,List.set_cons_zero,List.set_cons_succ];refine reg_take 8 34 (v:=?vz06) rfl rfl (by kernel_rfl) (by kernel_rfl) (by kernel_rfl) (fun _ _ _ h=>h) rfl ?yz06 hSb ?_
 case yz06=>(intro w9 hSw;go_simp;(try with_reducible rfl))
 simp only [List.setIfInBounds_toArray,List.set_cons_zero,List.set_cons_succ];refine reg_take 9 5 (v:=?vz07) rfl rfl (by kernel_rfl) (by kernel_rfl) (by kernel_rfl) (fun _ _ _ h=>h) rfl ?yz07 hSb ?_
 case yz07=>(intro w9 hSw;go_simp;(try with_reducible rfl))
 simp only [List.setIfInBounds_toArray,List.set_cons_zero,List.set_cons_succ];refine reg_take 10 6 (v:=?vz08) rfl rfl (by kernel_rfl) (by kernel_rfl) (by kernel_rfl) (fun _ _ _ h=>h) rfl ?yz08 hSb ?_
 case yz08=>(intro w9 hSw;go_simp;(try with_reducible rfl))
 simp only [List.setIfInBounds_toArray,List.set_cons_zero,List.set_cons_succ];refine wpAnyH_done (by kernel_rfl) ?_ _;clear hHeld hYv0 hSv0 hbw0 hbv0 hbd0 hS4 hlow2 hB3 hSa hY3;rename SAw _ _ _=>hSa;rename SyAt _ _ _ _ _ _=>hY3;rename Below w.heap.size w _=>hB3;rename ∀ k,Rp.Y _ _ _ k→_=>hlow2;clear HK0 HCe0;go_upto_region 7 with fail;have HK1:=Lib.hid (And.intro hY3 (And.intro hlow2 (And.intro hB3 hSa)));refine wp_region_held_drew (S:=fun w'=>SAw w' w.heap.size bc) (by kernel_rfl) (hSa.keep (Below.refl _ _).drew) (fun hHeld=>?_);have hbd1:Below W1.heap.size W1 W1.drew:=(Below.refl _ _).drew;refine reg_take 0 36 (v:=?vz10) rfl rfl (by kernel_rfl) (by kernel_rfl) (by kernel_rfl) (fun _ _ _ h=>h) rfl ?yz10 hHeld ?_
 case yz10=>(intro w9 hSw;go_simp;(try with_reducible rfl))
 simp only [List.setIfInBounds_toArray,List.set_cons_zero,List.set_cons_succ];refine reg_take 1 37 (v:=?vz11) rfl rfl (by kernel_rfl) (by kernel_rfl) (by kernel_rfl) (fun _ _ _ h=>h) rfl ?yz11 hHeld ?_
 case yz11=>(intro w9 hSw;obtain ⟨a1,-,-⟩:=hSw.u.facts;go_simp;(try with_reducible rfl))
 simp only [List.setIfInBounds_toArray,List.set_cons_zero,List.set_cons_succ];refine reg_take 3 39 (v:=?vz12) rfl rfl (by kernel_rfl) (by kernel_rfl) (by kernel_rfl) (fun _ _ _ h=>h) rfl ?yz12 hHeld ?_
 case yz12=>(intro w9 hSw;go_simp;(try with_reducible rfl))
 simp only [List.setIfInBounds_toArray,List.set_cons_zero,List.set_cons_succ];refine reg_take 4 40 (v:=?vz13) rfl rfl (by kernel_rfl) (by kernel_rfl) (by kernel_rfl) (fun _ _ _ h=>h) rfl ?yz13 hHeld ?_
 case yz13=>(intro w9 hSw;obtain ⟨a1,-,-⟩:=hSw.x.facts;go_simp;(try with_reducible rfl))
 simp only [List.setIfInBounds_toArray,List.set_cons_zero,List.set_cons_succ];refine reg_call 2 38 (R:=fun v w'=>v=.agg #[.int .i64 5,.int .i64 5]∧Below W1.drew.heap.size W1.drew w') (by kernel_rfl) rfl rfl rfl ?xc10 ((HCr.out W1.drew).mono (fun e w' ⟨he,hw⟩=>⟨_,he,rfl,hw⟩)) (fun v w' ⟨_,hw⟩=>hHeld.keep hw) ?_
 case xc10=>(go_simp;(try rfl))
 rintro _ v1 ⟨rfl,hbv1⟩;simp only [List.setIfInBounds_toArray,List.set_cons_zero,List.set_cons_succ];have hbw1:Below W1.heap.size W1 v1:=hbd1.trans (hbv1.mono hbd1.size);have hYv1:=hY3.keep hbw1;have HCe1:=Lib.hid (screate_any hYv1 ok32b.fine.ok (by omega) ⟨ok32b.c0,by have:=ok32b.cN;omega⟩ (by have:=ok32b.pl;omega) ⟨5,5⟩ 3 (ByteArray.mk #[97,46,50,46,116,114,97,115,104,105,110,102,111]) 0 (ByteArray.mk #[]) (by decide) (by decide));rw [show (y32b.op (fun S now=>S.file ⟨5,5⟩ now 3 (ByteArray.mk #[97,46,50,46,116,114,97,115,104,105,110,102,111]) 0 (ByteArray.mk #[]))).2=(8,0) from cb32] at HCe1;dsimp only at HCe1;have hSv1:=hSa.keep hbw1;refine reg_call 5 41 (R:=fun v w'=>v=.tuple #[.int .i64 8,.int .i64 0]∧∃ R',SyAt w' pf pw R' pv y32c∧Stp (R3.Y pf pw) (R'.Y pf pw) v1 w') (by kernel_rfl) rfl rfl rfl ?xc11 (HCe1.out.mono (fun e w' ⟨he,hw⟩=>⟨_,he,rfl,hw⟩)) (fun v w' ⟨_,R',h3,hs3⟩=>hSv1.sy hYv1 hs3) ?_
 case xc11=>(go_simp;(try rfl))
 rintro _ W2 ⟨rfl,R4,hY4,hS4⟩;simp only [List.setIfInBounds_toArray,List.set_cons_zero,List.set_cons_succ];have hSb:=hSv1.sy hYv1 hS4;have hlow3:=hS4.above hlow2 (Nat.le_trans hB3.size hbw1.size);have hB4:=(bnext hB3 hbw1).trans (hS4.below hlow2 (Nat.le_trans hB3.size hbw1.size));refine reg_take 6 35 (v:=?vz14) rfl rfl (by kernel_rfl) (by kernel_rfl) (by kernel_rfl) (fun _ _ _ h=>h) rfl ?yz14 hSb ?_
 case yz14=>(intro w9 hSw;go_simp;(try with_reducible rfl))
 simp only [List.setIfInBounds_toArray,List.set_cons_zero,List.set_cons_succ];refine reg_take 7 42 (v:=?vz15) rfl rfl (by kernel_rfl) (by kernel_rfl) (by kernel_rfl) (fun _ _ _ h=>h) rfl ?yz15 hSb ?_
 case yz15=>(intro w9 hSw;go_simp;(try with_reducible rfl))
 simp only [List.setIfInBounds_toArray,List.set_cons_zero,List.set_cons_succ];refine reg_take 8 43 (v:=?vz16) rfl rfl (by kernel_rfl) (by kernel_rfl) (by kernel_rfl) (fun _ _ _ h=>h) rfl ?yz16 hSb ?_
 case yz16=>(intro w9 hSw;go_simp;(try with_reducible rfl))
 simp only [List.setIfInBounds_toArray,List.set_cons_zero,List.set_cons_succ];refine reg_take 9 7 (v:=?vz17) rfl rfl (by kernel_rfl) (by kernel_rfl) (by kernel_rfl) (fun _ _ _ h=>h) rfl ?yz17 hSb ?_
 case yz17=>(intro w9 hSw;go_simp;(try with_reducible rfl))
 simp only [List.setIfInBounds_toArray,List.set_cons_zero,List.set_cons_succ];refine reg_take 10 8 (v:=?vz18) rfl rfl (by kernel_rfl) (by kernel_rfl) (by kernel_rfl) (fun _ _ _ h=>h) rfl ?yz18 hSb ?_
 case yz18=>(intro w9 hSw;go_simp;(try with_reducible rfl))
 simp only [List.setIfInBounds_toArray,List.set_cons_zero,List.set_cons_succ];refine wpAnyH_done (by kernel_rfl) ?_ _;clear hHeld hYv1 hSv1 hbw1 hbv1 hbd1 hS4 hlow2 hB3 hSa hY3;rename SAw _ _ _=>hSa;rename SyAt _ _ _ _ _ _=>hY3;rename Below w.heap.size w _=>hB3;rename ∀ k,Rp.Y _ _ _ k→_=>hlow2;clear HK1 HCe1;go_upto_region 8 with fail;have HNm:=Lib.hid (cname_any hY3 ok32c (by omega) us32 cn32 (ByteArray.mk #[97]) (ByteArray.mk #[116,101,120,116]) (by decide) (by decide));have hu9:us32.c=⟨5,5⟩:=rfl;rw [hu9,show (y32c.nameF ⟨5,5⟩ cn32 (ByteArray.mk #[97]) (ByteArray.mk #[116,101,120,116])).2=(ByteArray.mk #[97,46,51],0) from nm32] at HNm;unfold us32 cn32 at HNm;dsimp only at HNm;obtain⟨uc,uf,uz⟩:=hSa.u.facts;obtain⟨xc,xf,xz⟩:=hSa.x.facts;have H3:=Lib.hid (And.intro hY3 (And.intro hSa (And.intro hB3 hlow2)));clear hY3 hSa hB3 hlow2 hu9;go_wp2_with fail;refine HNm.out.mono ?_;rintro e W3 ⟨rfl,R6,hY6,hS6⟩;have hS7:=H3.out.2.1.sy H3.out.1 hS6;have hB7:=H3.out.2.2.1.trans (hS6.below H3.out.2.2.2 H3.out.2.2.1.size);have hY7:SyAt W3 pf pw R6 pv y32d:=hY6;clear uc uf uz xc xf xz hY6 hS6;go_upto_region 9 with fail;have HFr:=Lib.hid (fun (w9:World) (hb9:Below W3.heap.size W3 w9) (a:Nat) (hz:Blk w9 a #[.int .i64 4] 3)=>cfree_any (hY7.keep hb9) ok32d (by omega) ⟨5,5⟩ (ByteArray.mk #[97]) (by decide) (some ⟨a,0,none⟩) 1 1 [4] ⟨rfl,Nat.le_refl _,by omega,.inr ⟨a,0,rfl,hz.lt,fun i hi=>⟨[.int .i64 4],rfl,by
  have:i=0:=by simpa using hi
  subst this;rfl,fun j hj=>by
  have hi0:i=0:=by simpa using hi
  have hj0:j=0:=by simpa using hj
  subst hi0 hj0;rw [hz.cell];rfl⟩⟩⟩)
 rw [fr32] at HFr;dsimp only at HFr;have HB7:=Lib.hid hB7
 go_cut [11,12] (fun t11 t12 wx=>t11=.string (ByteArray.mk #[97,46,50])∧t12=.int .i64 0∧Below W3.heap.size W3 wx)
 case first=>
  refine wp_region_held_drew (S:=fun w'=>SAw w' w.heap.size bc) (by kernel_rfl) (hS7.keep (Below.refl _ _).drew) (fun hHeld=>?_);have hbd9:Below W3.heap.size W3 W3.drew:=(Below.refl _ _).drew;refine reg_take 0 52 (v:=?vz90) rfl rfl (by kernel_rfl) (by kernel_rfl) (by kernel_rfl) (fun _ _ _ h=>h) rfl ?yz90 hHeld ?_
  case yz90=>(intro w9 hSw;go_simp;(try with_reducible rfl))
  simp only [List.setIfInBounds_toArray,List.set_cons_zero,List.set_cons_succ];refine reg_take 1 53 (v:=?vz91) rfl rfl (by kernel_rfl) (by kernel_rfl) (by kernel_rfl) (fun _ _ _ h=>h) rfl ?yz91 hHeld ?_
  case yz91=>(intro w9 hSw;obtain ⟨a1,-,-⟩:=hSw.u.facts;go_simp;(try with_reducible rfl))
  simp only [List.setIfInBounds_toArray,List.set_cons_zero,List.set_cons_succ];refine reg_take 3 55 (v:=?vz92) rfl rfl (by kernel_rfl) (by kernel_rfl) (by kernel_rfl) (fun _ _ _ h=>h) rfl ?yz92 hHeld ?_
  case yz92=>(intro w9 hSw;go_simp;(try with_reducible rfl))
  simp only [List.setIfInBounds_toArray,List.set_cons_zero,List.set_cons_succ];refine reg_take 4 56 (v:=?vz93) rfl rfl (by kernel_rfl) (by kernel_rfl) (by kernel_rfl) (fun _ _ _ h=>h) rfl ?yz93 hHeld ?_
  case yz93=>(intro w9 hSw;obtain ⟨a1,-,-⟩:=hSw.x.facts;go_simp;(try with_reducible rfl))
  simp only [List.setIfInBounds_toArray,List.set_cons_zero,List.set_cons_succ];refine reg_call_make 2 54 5 57 (vi:=.slice (some ⟨W3.drew.heap.size,0,none⟩) 1 1) (Wi:=W3.drew.alloc (.cells #[.int .i64 4] 3)) (R:=fun v w'=>v=.agg #[.int .i64 5,.int .i64 5]∧Below W3.drew.heap.size W3.drew w') (by kernel_rfl) rfl rfl rfl rfl rfl rfl ?ra9 (hHeld.keep (balloc (Below.refl _ _) _)) ?rb9 ((HCr.out W3.drew).mono (fun e w' ⟨he,hw⟩=>⟨_,he,rfl,hw⟩)) (fun v w' ⟨_,hw⟩=>hHeld.keep hw) ?_ ?_
  case ra9=>(go_simp;(try rfl))
  case rb9=>(go_simp;(try rfl))
  ·simp only [List.setIfInBounds_toArray,List.set_cons_zero,List.set_cons_succ];have hSm:=hHeld.keep (balloc (Below.refl W3.drew.heap.size W3.drew) (.cells #[.int .i64 4] 3));refine reg_call 2 54 (R:=fun v w'=>v=.agg #[.int .i64 5,.int .i64 5]∧Below (W3.drew.alloc (.cells #[.int .i64 4] 3)).heap.size (W3.drew.alloc (.cells #[.int .i64 4] 3)) w') (by kernel_rfl) rfl rfl rfl ?xe1 ((HCr.out _).mono (fun e w' ⟨he,hw⟩=>⟨_,he,rfl,hw⟩)) (fun v w' ⟨_,hw⟩=>hSm.keep hw) ?_
   case xe1=>(go_simp;(try rfl))
   rintro _ z1 ⟨rfl,hbz0⟩;simp only [List.setIfInBounds_toArray,List.set_cons_zero,List.set_cons_succ];have hSz1:=hSm.keep hbz0;have hsl1:=new_keep hbz0;have hbz1:Below W3.heap.size W3 z1:=hbd9.trans (((balloc (Below.refl W3.drew.heap.size W3.drew) (.cells #[.int .i64 4] 3)).trans (hbz0.mono (by rw [World.size_alloc];omega))).mono hbd9.size);refine reg_call 6 58 (R:=fun v w'=>v=.tuple #[.string (ByteArray.mk #[97,46,50]),.int .i64 0]∧Below z1.heap.size z1 w') (by kernel_rfl) rfl rfl rfl ?xd1 ((HFr.out z1 hbz1 W3.drew.heap.size hsl1).mono (fun e w' ⟨he,hw⟩=>⟨_,he,rfl,hw⟩)) (fun v w' ⟨_,hw⟩=>hSz1.keep hw) ?_
   case xd1=>(go_simp;(try rfl))
   rintro _ y1 ⟨rfl,hby1⟩;simp only [List.setIfInBounds_toArray,List.set_cons_zero,List.set_cons_succ];have hSy1:=hSz1.keep hby1;refine reg_take 7 51 (v:=?vz1a) rfl rfl (by kernel_rfl) (by kernel_rfl) (by kernel_rfl) (fun _ _ _ h=>h) rfl ?yz1a hSy1 ?_
   case yz1a=>(intro w9 hSw;go_simp;(try with_reducible rfl))
   simp only [List.setIfInBounds_toArray,List.set_cons_zero,List.set_cons_succ];refine reg_take 8 59 (v:=?vz1b) rfl rfl (by kernel_rfl) (by kernel_rfl) (by kernel_rfl) (fun _ _ _ h=>h) rfl ?yz1b hSy1 ?_
   case yz1b=>(intro w9 hSw;go_simp;(try with_reducible rfl))
   simp only [List.setIfInBounds_toArray,List.set_cons_zero,List.set_cons_succ];refine reg_take 9 60 (v:=?vz1c) rfl rfl (by kernel_rfl) (by kernel_rfl) (by kernel_rfl) (fun _ _ _ h=>h) rfl ?yz1c hSy1 ?_
   case yz1c=>(intro w9 hSw;go_simp;(try with_reducible rfl))
   simp only [List.setIfInBounds_toArray,List.set_cons_zero,List.set_cons_succ];refine reg_take 10 11 (v:=?vz1d) rfl rfl (by kernel_rfl) (by kernel_rfl) (by kernel_rfl) (fun _ _ _ h=>h) rfl ?yz1d hSy1 ?_
   case yz1d=>(intro w9 hSw;go_simp;(try with_reducible rfl))
   simp only [List.setIfInBounds_toArray,List.set_cons_zero,List.set_cons_succ];refine reg_take 11 12 (v:=?vz1e) rfl rfl (by kernel_rfl) (by kernel_rfl) (by kernel_rfl) (fun _ _ _ h=>h) rfl ?yz1e hSy1 ?_
   case yz1e=>(intro w9 hSw;go_simp;(try with_reducible rfl))
   simp only [List.setIfInBounds_toArray,List.set_cons_zero,List.set_cons_succ];refine wpAnyH_done (by kernel_rfl) ?_ _;have hbq1:=bnext hbz1 hby1;go_wp2_with fail;go_meet;exact⟨rfl,rfl,hbq1⟩
  ·rintro _ z0 ⟨rfl,hbz0⟩;simp only [List.setIfInBounds_toArray,List.set_cons_zero,List.set_cons_succ];have hSa0:=hHeld.keep hbz0;refine reg_alone 5 57 (v:=.slice (some ⟨z0.heap.size,0,none⟩) 1 1) (W:=z0.alloc (.cells #[.int .i64 4] 3)) (by kernel_rfl) rfl rfl rfl ?qa9 (hSa0.keep (balloc (Below.refl _ _) _)) ?_
   case qa9=>(go_simp;(try rfl))
   simp only [List.setIfInBounds_toArray,List.set_cons_zero,List.set_cons_succ];have hSz2:=hSa0.keep (balloc (Below.refl z0.heap.size z0) (.cells #[.int .i64 4] 3));have hsl2:=Blk.new z0 #[.int .i64 4] 3;have hbz2:Below W3.heap.size W3 (z0.alloc (.cells #[.int .i64 4] 3)):=balloc (hbd9.trans (hbz0.mono hbd9.size)) _;refine reg_call 6 58 (R:=fun v w'=>v=.tuple #[.string (ByteArray.mk #[97,46,50]),.int .i64 0]∧Below (z0.alloc (.cells #[.int .i64 4] 3)).heap.size (z0.alloc (.cells #[.int .i64 4] 3)) w') (by kernel_rfl) rfl rfl rfl ?xd2 ((HFr.out (z0.alloc (.cells #[.int .i64 4] 3)) hbz2 z0.heap.size hsl2).mono (fun e w' ⟨he,hw⟩=>⟨_,he,rfl,hw⟩)) (fun v w' ⟨_,hw⟩=>hSz2.keep hw) ?_
   case xd2=>(go_simp;(try rfl))
   rintro _ y2 ⟨rfl,hby2⟩;simp only [List.setIfInBounds_toArray,List.set_cons_zero,List.set_cons_succ];have hSy2:=hSz2.keep hby2;refine reg_take 7 51 (v:=?vz2a) rfl rfl (by kernel_rfl) (by kernel_rfl) (by kernel_rfl) (fun _ _ _ h=>h) rfl ?yz2a hSy2 ?_
   case yz2a=>(intro w9 hSw;go_simp;(try with_reducible rfl))
   simp only [List.setIfInBounds_toArray,List.set_cons_zero,List.set_cons_succ];refine reg_take 8 59 (v:=?vz2b) rfl rfl (by kernel_rfl) (by kernel_rfl) (by kernel_rfl) (fun _ _ _ h=>h) rfl ?yz2b hSy2 ?_
   case yz2b=>(intro w9 hSw;go_simp;(try with_reducible rfl))
   simp only [List.setIfInBounds_toArray,List.set_cons_zero,List.set_cons_succ];refine reg_take 9 60 (v:=?vz2c) rfl rfl (by kernel_rfl) (by kernel_rfl) (by kernel_rfl) (fun _ _ _ h=>h) rfl ?yz2c hSy2 ?_
   case yz2c=>(intro w9 hSw;go_simp;(try with_reducible rfl))
   simp only [List.setIfInBounds_toArray,List.set_cons_zero,List.set_cons_succ];refine reg_take 10 11 (v:=?vz2d) rfl rfl (by kernel_rfl) (by kernel_rfl) (by kernel_rfl) (fun _ _ _ h=>h) rfl ?yz2d hSy2 ?_
   case yz2d=>(intro w9 hSw;go_simp;(try with_reducible rfl))
   simp only [List.setIfInBounds_toArray,List.set_cons_zero,List.set_cons_succ];refine reg_take 11 12 (v:=?vz2e) rfl rfl (by kernel_rfl) (by kernel_rfl) (by kernel_rfl) (fun _ _ _ h=>h) rfl ?yz2e hSy2 ?_
   case yz2e=>(intro w9 hSw;go_simp;(try with_reducible rfl))
   simp only [List.setIfInBounds_toArray,List.set_cons_zero,List.set_cons_succ];refine wpAnyH_done (by kernel_rfl) ?_ _;have hbq2:=bnext hbz2 hby2;go_wp2_with fail;go_meet;exact⟨rfl,rfl,hbq2⟩
 case rest=>
  obtain⟨rfl,rfl,hb9⟩:=hcut;generalize wc=W4 at hb9 ⊢;have HB9:=Lib.hid (HB7.out.trans (hb9.mono HB7.out.size));clear hb9;have hst:=str_beq (rfl:ByteArray.mk #[97,46,51]=ByteArray.mk #[97,46,51]);have hst2:=str_beq (rfl:ByteArray.mk #[97,46,50]=ByteArray.mk #[97,46,50]);have hst3:((ByteArray.mk #[97] ++ nSfx).toList == [97,46,116,114,97,115,104,105,110,102,111])=true:=by decide +kernel
  go_wp2_with fail;refine (HFl.out _).mono ?_;rintro e w5 ⟨rfl,rfl⟩;go_wp2_with fail;go_ret;exact⟨rfl,HB9.out⟩
end
section
open Go.RowKit Go.Shelf
attribute [local go_sem] Oper.semAt_some
def ONo (w:World) (base:Nat) (v:Value) (l:List Int):Prop:=w.ownsRow base 3 1 v l.length (l.map (Value.int .i64))
def Fs.topNo (l:List (Int×ByteArray)):List Int:=l.map (·.1)
def Fs.topTx (l:List (Int×ByteArray)):List (List UInt8):=l.map (fun x=>x.2.data.toList)
structure TI (w:World) (B:Nat) (pre:List (Int×ByteArray)) (W:World):Prop where
 a:∃ va,Blk W w.heap.size #[va] 78∧ONo W B va (Fs.topNo pre)
 b:∃ vb,Blk W (w.heap.size+1) #[vb] 61∧OS W B vb (Fs.topTx pre)
 below:Below w.heap.size w W
end
section
open Go.RowKit Go.Shelf
attribute [local go_sem] Oper.semAt_some
theorem u64_id32 {x:Int} (h0:0≤x) (h1:x≤999999):IntKind.u64.wrap x=x:=by
 unfold IntKind.wrap;simp [IntKind.bits,IntKind.signed];omega
theorem fs_last32 {S:Fs} {N:Nat} (h:FsOk S N) (hN:N≤999999):1≤S.last∧S.last≤999999:=by
 have h1:=h.d1;have h2:=h.root S.ds[0] (List.getElem_mem (by omega));have h3:=h.lN;omega
theorem str_cell {w:World} {a:Option Addr} {n c:Nat} {l:List ByteArray} (h:SliceAt w 1 strR a n c l) (k:Nat) (hk:k<l.length):∃ b off,a=some ⟨b,off,none⟩∧b<w.heap.size∧w.cell? ⟨b,off+k,none⟩=some (.string l[k])∧l[k].size≤9223372036854775807:=by
 obtain⟨hl,hn,-,h0 | ⟨b,off,he,hbl,hel⟩⟩:=h
 ·omega
 ·obtain ⟨cs,e1,e2,e3⟩:=hel k hk;obtain⟨e2,e4⟩:=e2;subst e2;have c0:=e3 0 (by show 0<1;omega);exact⟨b,off,he,hbl,by simpa using c0,e4⟩
theorem str_cell2 {w:World} {b off n c:Nat} {l:List ByteArray} (h:SliceAt w 1 strR (some ⟨b,off,none⟩) n c l) (k:Nat) (hk:k<l.length):w.cell? ⟨b,off+k,none⟩=some (.string l[k]):=by
 obtain⟨b',off',he,-,hc,-⟩:=str_cell h k hk;injection he with he;injection he with h1 h2;subst h1 h2;exact hc
structure SNa (w':World) (B Bd zb zo:Nat) (cv:Array Value) (x:Cn) (z:ByteArray):Prop where
 c:Blk w' B cv 30
 x:Blk w' Bd #[.string x.path,.int .i64 x.dir,.int .i64 x.info,.int .i64 x.files,.int .i64 x.out,.int .i64 x.way,.string x.top] 38
 z:w'.cell? ⟨zb,zo,none⟩=some (.string z)
structure TkI (w:World) (p q:Nat) (pv:Value) (Bd:Nat) (cv:Array Value) (x:Cn) (Z:Sy) (ns:List (List UInt8)) (v:Value) (W:World):Prop where
 y:∃ R,SyAt W p q R pv Z∧∀ k,R.Y p q k→w.heap.size≤k
 b:Below w.heap.size w W
 c:Blk W w.heap.size cv 30
 x:Blk W Bd #[.string x.path,.int .i64 x.dir,.int .i64 x.info,.int .i64 x.files,.int .i64 x.out,.int .i64 x.way,.string x.top] 38
 n:OS W w.heap.size v ns
section
variable {w A B:World} {p q Bd:Nat} {pv v:Value} {cv:Array Value} {x:Cn} {Z Z':Sy} {ns:List (List UInt8)}
end
structure SCs (w':World) (B pf:Nat) (cv rv:Array Value):Prop where
 c:Blk w' B cv 30
 l:Blk w' pf rv 46
def Other (A:World) (k:Nat):Prop:=∃ cur,A.heap[k]? = some (.cells cur 9 (0,0))
end
end Go.Proofs.YtihdbncoijhihaaGreat
