import Derived.Test.YtihdbncoijhihaaGreatDoorCT47
import Derived.Test.YtihdbncoijhihaaGreatDoorCT33
import Derived.Test.YtihdbncoijhihaaGreatDoorCT34
import Derived.Test.YtihdbncoijhihaaGreatDoorCT12
import Derived.Test.YtihdbncoijhihaaGreatDoorCT42
set_option linter.unusedVariables false
set_option linter.unusedSimpArgs false
namespace Go.Proofs.YtihdbncoijhihaaGreatDoor
open Go.RowKit
def keepB (S : Fs) (no dir : Int) (x : Cn) : Bool:=S.within x.dir no || S.within dir x.dir
def keepE (S : Fs) (no dir : Int) (n : ByteArray) (r : Int × Int) : Int:=if r.2=0∧(S.within r.1 no=true∨dir=r.1∧n=nDiary) then 17 else 0
theorem keepE_bad {S : Fs} {no dir : Int} {n : ByteArray} {k e : Int} (h : e≠0) : keepE S no dir n (k,e)=0:=if_neg (fun h'=>h h'.1)
theorem keepE_in {S : Fs} {no dir : Int} {n : ByteArray} {k : Int} (h : S.within k no=true) : keepE S no dir n (k,0)=17:=if_pos ⟨rfl,.inl h⟩
theorem keepE_dir {S : Fs} {no dir : Int} {n : ByteArray} {k : Int} (h : S.within k no=false) (h2 : dir≠k) : keepE S no dir n (k,0)=0:=if_neg (fun h'=>by
 rcases h'.2 with h3 | h3
 ·rw [h] at h3;cases h3
 ·exact h2 h3.1)
theorem keepE_name {S : Fs} {no : Int} {n : ByteArray} {k : Int} (h : S.within k no=false) (h2 : n≠nDiary) : keepE S no k n (k,0)=0:=if_neg (fun h'=>by
 rcases h'.2 with h3 | h3
 ·rw [h] at h3;cases h3
 ·exact h2 h3.2)
theorem keepE_yes {S : Fs} {no : Int} {n : ByteArray} {k : Int} (h2 : n=nDiary) : keepE S no k n (k,0)=17:=if_pos ⟨rfl,.inr ⟨rfl,h2⟩⟩
theorem diary_list : nDiary.toList=[114,97,103,112,105,99,107,101,114,46,117,110,100,111]:=by
 rw [ba_list]
 rfl
theorem keepsF_eq (S : Fs) (d : Bool) (u : Us) (no dir : Int) (n : ByteArray) : S.keepsF d u no dir n=if (S.allCn d u).any (keepB S no dir)=true then 17 else keepE S no dir n (S.dataF d u):=rfl
section
variable {w w' : World} {pf pw : Nat} {R : Rp} {pv : Value} {Y : Sy}
set_option maxRecDepth 100000 in
set_option maxHeartbeats 8000000 in
theorem ckeeps_any (h : SyAt w pf pw R pv Y) {N : Nat} (hk : FsOk Y.fs N) (hN : N≤999999) (hp : Pl Y.fs) (hw : Wy Y.fs) (hl : Y.fs.ns.length≤100000) (hd : Y.dead=false) (u : Us) (ht : u.data.size≤100000) (hu0 : -9223372036854775808≤u.u) (hu1 : u.u≤9223372036854775807) (no dir : Int) (n : ByteArray) :
  Calls Tryz.prog 41 #[.pointer (some ⟨pf,0,none⟩),.agg #[.int .i64 u.u,.int .i64 u.g,.string u.data],.int .i64 no,.int .i64 dir,.string n] w fun e w'=>e=.returned (.int .i64 (Y.fs.keepsF false u no dir n))∧Below w.heap.size w w':=by
 have hX:=Blk.new w #[.int .i64 u.u,.int .i64 u.g,.string u.data] 70
 have hbX:=balloc (Below.refl w.heap.size w) (.cells #[.int .i64 u.u,.int .i64 u.g,.string u.data] 70)
 have HD:=Lib.hid (fun w1 (hb1 : Below w.heap.size w w1)=>cdata_any (h.keep hb1) hk hN hp hw hd u ht)
 have HAl:=Lib.hid (fun w1 (hb1 : Below w.heap.size w w1)=>cansAll_any (h.keep hb1) hk hN hp hw hl hd u ht hu0 hu1)
 have HWi:=Lib.hid (fun w1 (hb1 : Below w.heap.size w w1) a b=>wwithin_any (h.wd.keep hb1) hk hp a b)
 obtain⟨pc,-,pz⟩:=h.blk.facts
 have HPC:=Lib.hid (fun w1 (hb1 : Below w.heap.size w w1)=>show w1.cell? ⟨pf,0,none⟩=some (.pointer (some ⟨pw,0,none⟩))∧pf < w1.heap.size from ⟨(hb1.cell (p:=⟨pf,0,none⟩) pz).trans (pc 0),Nat.lt_of_lt_of_le pz hb1.size⟩)
 obtain⟨S,hS⟩ : ∃ S,Y.fs=S:=⟨_,rfl⟩
 rw [hS] at HD HAl HWi ⊢
 have HR:=Lib.hid (keepsF_eq S false u no dir n)
 generalize S.keepsF false u no dir n=out at HR ⊢
 have HAn:=Lib.hid (Nat.le_trans (topCns_len (S:=S) (d:=false) (u:=u) S.topsL (S.homeL false u)) (show (S.homeL false u).length + 2 * S.topsL.length≤1000 from by
  have h1:=topsL_len S
  have h2 : S.ds.length≤8:=by rw [← hS];exact hk.d8
  have h3 : (S.homeL false u).length≤1:=by
   unfold Fs.homeL
   split
   ·split <;> simp
   ·simp
  omega))
 have HAm:=Lib.hid (show (S.allCn false u).length≤1000 from HAn.out)
 generalize S.allCn false u=l at HR HAl HAm
 generalize S.dataF false u=r at HR HD
 clear h hk hp hw hl hd ht hS pc pz HAn
 go_enter Tryz.func41,Tryz.ntmps41
 go_upto_region 1 with fail
 generalize w.alloc (.cells #[.int .i64 u.u,.int .i64 u.g,.string u.data] 70)=w0 at hX hbX ⊢
 have HX:=Lib.hid hX
 have HB0:=Lib.hid hbX
 obtain⟨xc,xf,xz⟩:=hX.facts
 clear hX hbX
 go_wp2_with fail
 refine (HAl.out _ HB0.out).mono ?_
 rintro e w1 ⟨v,rfl,hO,hb1⟩
 obtain⟨a,c,rfl,hc1,hc2,-⟩:=own_form hO
 have HO:=Lib.hid hO
 have HB1:=Lib.hid (bnext HB0.out hb1)
 have HX1:=Lib.hid (HX.out.keep hb1)
 clear hO hb1 xc xf xz
 go_wp2_with fail
 go_loopw [19] (fun t19 wr=>∃ k : Nat,k≤l.length∧t19=.int .i64 k∧(out=if (l.drop k).any (keepB S no dir)=true then 17 else keepE S no dir n r)∧Below w1.heap.size w1 wr) (fun t19 _=>l.length - (intOf t19).toNat)
 case atStart=>exact ⟨0,Nat.zero_le _,rfl,HR.out,Below.refl _ _⟩
 case round=>
  obtain⟨k,hk,rfl,hf,hb⟩:=hrel
  have HBr:=Lib.hid hb
  have HBw:=Lib.hid (HB1.out.trans (hb.mono HB1.out.size))
  by_cases hlt : k < l.length
  ·obtain ⟨b,off,rfl,hbl,c0,c1,c2,c3,c4,c5,c6⟩:=cn_cells (HO.out.keep hb).at k hlt
   rw [List.drop_eq_getElem_cons hlt,List.any_cons] at hf
   have HF:=Lib.hid hf
   generalize l[k]=x at c0 c1 c2 c3 c4 c5 c6 HF
   have hC:=Blk.new wr #[.string x.path,.int .i64 x.dir,.int .i64 x.info,.int .i64 x.files,.int .i64 x.out,.int .i64 x.way,.string x.top] 93
   have hbC:=balloc (Below.refl wr.heap.size wr) (.cells #[.string x.path,.int .i64 x.dir,.int .i64 x.info,.int .i64 x.files,.int .i64 x.out,.int .i64 x.way,.string x.top] 93)
   clear hf hb
   go_upto_region 4 with fail
   generalize wr.alloc (.cells #[.string x.path,.int .i64 x.dir,.int .i64 x.info,.int .i64 x.files,.int .i64 x.out,.int .i64 x.way,.string x.top] 93)=w2 at hC hbC ⊢
   have HB2:=Lib.hid (bnext HBw.out hbC)
   have HB2r:=Lib.hid (bnext HBr.out hbC)
   obtain⟨cc,cf,cz⟩:=hC.facts
   obtain⟨pc,pz⟩:=HPC.out _ HB2.out
   clear hC hbC c0 c1 c2 c3 c4 c5 c6
   have HW1:=Lib.hid (fun w3 (hb3 : Below w2.heap.size w2 w3)=>HWi.out w3 (HB2.out.trans (hb3.mono HB2.out.size)) x.dir no)
   have HW2:=Lib.hid (fun w3 (hb3 : Below w2.heap.size w2 w3)=>HWi.out w3 (HB2.out.trans (hb3.mono HB2.out.size)) dir x.dir)
   have HKb:=Lib.hid (show keepB S no dir x=(S.within x.dir no || S.within dir x.dir) from rfl)
   generalize S.within x.dir no=b1 at HW1 HKb
   generalize S.within dir x.dir=b2 at HW2 HKb
   go_cut [40] (fun t40 wx=>t40=.bool (b1 || b2)∧Below w2.heap.size w2 wx)
   case first=>
    cases b1 with
    | true=>
     go_wp2_with fail
     refine wp_region_held_drew (S:=(fun w'=>(∀ b o,b < w2.heap.size→w'.cell? ⟨b,o,none⟩=w2.cell? ⟨b,o,none⟩)∧Below w2.heap.size w2 w')) (by kernel_rfl) (keepS_here _) (fun hHeld=>?_)
     refine reg_take 0 23 (v:=?vb0) rfl rfl (by kernel_rfl) (by kernel_rfl) (by kernel_rfl) (fun _ _ _ h=>h) rfl ?yb0 hHeld ?_
     case yb0=>(intro w hSw;(try dsimp only at hSw);go_simp;(try with_reducible rfl))
     simp only [List.setIfInBounds_toArray,List.set_cons_zero,List.set_cons_succ]
     refine reg_take 1 24 (v:=?vb1) rfl rfl (by kernel_rfl) (by kernel_rfl) (by kernel_rfl) (fun _ _ _ h=>h) rfl ?yb1 hHeld ?_
     case yb1=>(intro w hSw;(try dsimp only at hSw);go_simp;(try with_reducible rfl))
     simp only [List.setIfInBounds_toArray,List.set_cons_zero,List.set_cons_succ]
     refine reg_take 2 25 (v:=?vb2) rfl rfl (by kernel_rfl) (by kernel_rfl) (by kernel_rfl) (fun _ _ _ h=>h) rfl ?yb2 hHeld ?_
     case yb2=>(intro w hSw;(try dsimp only at hSw);go_simp;(try with_reducible rfl))
     simp only [List.setIfInBounds_toArray,List.set_cons_zero,List.set_cons_succ]
     refine reg_take 3 26 (v:=?vb3) rfl rfl (by kernel_rfl) (by kernel_rfl) (by kernel_rfl) (fun _ _ _ h=>h) rfl ?yb3 hHeld ?_
     case yb3=>(intro w hSw;(try dsimp only at hSw);go_simp;(try with_reducible rfl))
     simp only [List.setIfInBounds_toArray,List.set_cons_zero,List.set_cons_succ]
     refine reg_take 4 27 (v:=?vb4) rfl rfl (by kernel_rfl) (by kernel_rfl) (by kernel_rfl) (fun _ _ _ h=>h) rfl ?yb4 hHeld ?_
     case yb4=>(intro w hSw;(try dsimp only at hSw);go_simp;(try with_reducible rfl))
     simp only [List.setIfInBounds_toArray,List.set_cons_zero,List.set_cons_succ]
     refine reg_take 5 28 (v:=?vb5) rfl rfl (by kernel_rfl) (by kernel_rfl) (by kernel_rfl) (fun _ _ _ h=>h) rfl ?yb5 hHeld ?_
     case yb5=>(intro w hSw;(try dsimp only at hSw);go_simp;(try with_reducible rfl))
     simp only [List.setIfInBounds_toArray,List.set_cons_zero,List.set_cons_succ]
     refine reg_take 6 29 (v:=?vb6) rfl rfl (by kernel_rfl) (by kernel_rfl) (by kernel_rfl) (fun _ _ _ h=>h) rfl ?yb6 hHeld ?_
     case yb6=>(intro w hSw;(try dsimp only at hSw);go_simp;(try with_reducible rfl))
     simp only [List.setIfInBounds_toArray,List.set_cons_zero,List.set_cons_succ]
     refine reg_call 7 30 (R:=fun v w'=>v=.bool true∧Below w2.drew.heap.size w2.drew w') (by kernel_rfl) rfl rfl rfl ?xb7 ((HW1.out _ (hHeld).2).mono (fun e w' ⟨he,hb⟩=>⟨_,he,rfl,hb⟩)) (fun v w' ⟨_,hb⟩=>keepS_call hHeld hb) ?_
     case xb7=>(go_simp;(try rfl))
     rintro _ w3 ⟨rfl,hbb1⟩
     have hHeld1:=keepS_call hHeld hbb1
     simp only [List.setIfInBounds_toArray,List.set_cons_zero,List.set_cons_succ]
     refine reg_take 8 31 (v:=?vb8) rfl rfl (by kernel_rfl) (by kernel_rfl) (by kernel_rfl) (fun _ _ _ h=>h) rfl ?yb8 hHeld1 ?_
     case yb8=>(intro w hSw;(try dsimp only at hSw);go_simp;(try with_reducible rfl))
     simp only [List.setIfInBounds_toArray,List.set_cons_zero,List.set_cons_succ]
     refine reg_skip 9 32 rfl rfl (by kernel_rfl) (by kernel_rfl) (by kernel_rfl) (fun _ _ _ h=>h) rfl hHeld1 ?_
     simp only [List.setIfInBounds_toArray,List.set_cons_zero,List.set_cons_succ]
     refine reg_skip 10 33 rfl rfl (by kernel_rfl) (by kernel_rfl) (by kernel_rfl) (fun _ _ _ h=>h) rfl hHeld1 ?_
     simp only [List.setIfInBounds_toArray,List.set_cons_zero,List.set_cons_succ]
     refine reg_skip 11 34 rfl rfl (by kernel_rfl) (by kernel_rfl) (by kernel_rfl) (fun _ _ _ h=>h) rfl hHeld1 ?_
     simp only [List.setIfInBounds_toArray,List.set_cons_zero,List.set_cons_succ]
     refine reg_skip 12 35 rfl rfl (by kernel_rfl) (by kernel_rfl) (by kernel_rfl) (fun _ _ _ h=>h) rfl hHeld1 ?_
     simp only [List.setIfInBounds_toArray,List.set_cons_zero,List.set_cons_succ]
     refine reg_skip 13 36 rfl rfl (by kernel_rfl) (by kernel_rfl) (by kernel_rfl) (fun _ _ _ h=>h) rfl hHeld1 ?_
     simp only [List.setIfInBounds_toArray,List.set_cons_zero,List.set_cons_succ]
     refine reg_skip 14 37 rfl rfl (by kernel_rfl) (by kernel_rfl) (by kernel_rfl) (fun _ _ _ h=>h) rfl hHeld1 ?_
     simp only [List.setIfInBounds_toArray,List.set_cons_zero,List.set_cons_succ]
     refine reg_skip 15 38 rfl rfl (by kernel_rfl) (by kernel_rfl) (by kernel_rfl) (fun _ _ _ h=>h) rfl hHeld1 ?_
     simp only [List.setIfInBounds_toArray,List.set_cons_zero,List.set_cons_succ]
     refine reg_skip 16 39 rfl rfl (by kernel_rfl) (by kernel_rfl) (by kernel_rfl) (fun _ _ _ h=>h) rfl hHeld1 ?_
     simp only [List.setIfInBounds_toArray,List.set_cons_zero,List.set_cons_succ]
     refine reg_take 17 40 (v:=?vb17) rfl rfl (by kernel_rfl) (by kernel_rfl) (by kernel_rfl) (fun _ _ _ h=>h) rfl ?yb17 hHeld1 ?_
     case yb17=>(intro w hSw;(try dsimp only at hSw);go_simp;(try with_reducible rfl))
     simp only [List.setIfInBounds_toArray,List.set_cons_zero,List.set_cons_succ]
     refine wpAnyH_done (by kernel_rfl) ?_ _
     have HBZ:=Lib.hid (show Below w2.heap.size w2 w3 from hHeld1.2)
     go_wp2_with fail
     go_meet
     exact⟨rfl,HBZ.out⟩
    | false=>
     go_wp2_with fail
     go_region_held3 (fun w'=>(∀ b o,b < w2.heap.size→w'.cell? ⟨b,o,none⟩=w2.cell? ⟨b,o,none⟩)∧Below w2.heap.size w2 w') (first | with_reducible assumption | with_reducible exact keepS_here _ | with_reducible exact keepS_here2 _ | with_reducible exact keepS_call (by assumption) (by assumption) | with_reducible exact keepS_alloc (by assumption) _ | with_reducible exact keepS_allocD (by assumption) _ | with_reducible exact keepS_realloc (by assumption) (by assumption) | with_reducible exact keepS_set4 (by assumption) (by assumption))
      ((first
       | (go_at_call 106;((with_reducible refine (HW1.out _ (And.right (by assumption))).mono ?_);rintro e w3 ⟨rfl,hb3⟩))
       | (go_at_call 106;((with_reducible refine (HW2.out _ (And.right (by assumption))).mono ?_);rintro e w4 ⟨rfl,hb4⟩))))
     all_goals
      have hbz : Below w2.heap.size w2 w4:=And.right (by assumption)
      have HBZ:=Lib.hid hbz
      clear hbz
      go_wp2_with fail
      go_meet
      exact⟨rfl,HBZ.out⟩
   case rest=>
    obtain⟨rfl,hb5⟩:=hcut
    generalize wc=w5 at hb5 ⊢
    have HB5:=Lib.hid (bnext HB2.out hb5)
    have HB5r:=Lib.hid (HB2r.out.trans (hb5.mono HB2r.out.size))
    clear hb5 cc cf cz pc pz
    rw [← HKb.out]
    cases hkb : keepB S no dir x with
    | true=>
     have HE:=Lib.hid (show out=17 by rw [HF.out,hkb];rfl)
     clear hkb
     go_wp2_with fail
     go_ret
     exact⟨by rw [HE.out];rfl,HB5.out⟩
    | false=>
     have HE:=Lib.hid (show out=if (l.drop (k + 1)).any (keepB S no dir)=true then 17 else keepE S no dir n r by rw [HF.out,hkb];rfl)
     clear hkb
     go_wp2_with fail
     go_roundw
     case measure=>simp [intOf];omega
     case rel=>exact ⟨k + 1,by omega,by go_num,HE.out,HB5r.out⟩
  ·obtain rfl : k=l.length:=by omega
   rw [List.drop_length] at hf
   have HE:=Lib.hid (show out=keepE S no dir n r from hf)
   obtain⟨no2,e2⟩:=r
   dsimp only at HD
   have hX3:=HX1.out.keep hb
   obtain⟨xc,xf,xz⟩:=hX3.facts
   have HD3:=Lib.hid (HD.out _ HBw.out)
   clear hf hb hX3
   go_wp2_with fail
   refine HD3.out.mono ?_
   rintro e w3 ⟨rfl,hb3⟩
   have HB3:=Lib.hid (bnext HBw.out hb3)
   obtain⟨pc,pz⟩:=HPC.out _ HB3.out
   clear hb3 xc xf xz
   by_cases h2 : e2=0
   ·subst h2
    have HW1:=Lib.hid (HWi.out _ HB3.out no2 no)
    cases hb1 : S.within no2 no with
    | true=>
     rw [hb1] at HW1
     have HE2:=Lib.hid (HE.out.trans (keepE_in hb1))
     clear hb1
     go_wp2_with fail
     refine HW1.out.mono ?_
     rintro e w4 ⟨rfl,hb4⟩
     have HB4:=Lib.hid (bnext HB3.out hb4)
     clear hb4 pc pz
     go_wp2_with fail
     go_ret
     exact⟨by rw [HE2.out];rfl,HB4.out⟩
    | false=>
     rw [hb1] at HW1
     have HB1:=Lib.hid hb1
     clear hb1
     go_wp2_with fail
     refine HW1.out.mono ?_
     rintro e w4 ⟨rfl,hb4⟩
     have HB4:=Lib.hid (bnext HB3.out hb4)
     clear hb4 pc pz
     by_cases hdir : dir=no2
     ·subst hdir
      by_cases hn : n=nDiary
      ·have HE2:=Lib.hid (HE.out.trans (keepE_yes hn))
       have hq : (n.toList == [114,97,103,112,105,99,107,101,114,46,117,110,100,111])=true:=by rw [hn,diary_list];rfl
       clear hn
       go_wp2_with fail
       go_ret
       exact⟨by rw [HE2.out];rfl,HB4.out⟩
      ·have HE2:=Lib.hid (HE.out.trans (keepE_name HB1.out hn))
       have hq : (n.toList == [114,97,103,112,105,99,107,101,114,46,117,110,100,111])=false:=by rw [← diary_list];exact str_bne hn
       clear hn
       go_wp2_with fail
       go_ret
       exact⟨by rw [HE2.out];rfl,HB4.out⟩
     ·have HE2:=Lib.hid (HE.out.trans (keepE_dir HB1.out hdir))
      have hq : (dir == no2)=false:=by simpa using hdir
      clear hdir
      go_wp2_with fail
      go_ret
      exact⟨by rw [HE2.out];rfl,HB4.out⟩
   ·have h2' : (e2 == 0)=false:=by simpa using h2
    have HE2:=Lib.hid (HE.out.trans (keepE_bad h2))
    clear h2
    go_wp2_with fail
    go_ret
    exact⟨by rw [HE2.out];rfl,HB3.out⟩
end
section
variable {w w' : World} {pf : Nat} {R : Rf} {S : Fs}
set_option maxRecDepth 100000 in
set_option maxHeartbeats 8000000 in
theorem rkeeps_any (h : RfAt w pf R S) {N : Nat} (hk : FsOk S N) (hp : Pl S) (hl : S.ns.length≤100000) (hd : R.dd=.bool false) (u : Us) (ht : u.data.size≤100000) (hu0 : -9223372036854775808≤u.u) (hu1 : u.u≤9223372036854775807) (no dir : Int) (n : ByteArray) :
  Calls Tryz.prog 42 #[.pointer (some ⟨pf,0,none⟩),.agg #[.int .i64 u.u,.int .i64 u.g,.string u.data],.int .i64 no,.int .i64 dir,.string n] w fun e w'=>e=.returned (.int .i64 (S.keepsF false u no dir n))∧Below w.heap.size w w':=by
 have hX:=Blk.new w #[.int .i64 u.u,.int .i64 u.g,.string u.data] 70
 have hbX:=balloc (Below.refl w.heap.size w) (.cells #[.int .i64 u.u,.int .i64 u.g,.string u.data] 70)
 have HD:=Lib.hid (fun w1 (hb1 : Below w.heap.size w w1)=>rdata_any (h.keep hb1) hk hd u ht)
 have HAl:=Lib.hid (fun w1 (hb1 : Below w.heap.size w w1)=>rall_any (h.keep hb1) hk hp hl hd u ht hu0 hu1)
 have HWi:=Lib.hid (fun w1 (hb1 : Below w.heap.size w w1) a b=>rwithin_any (h.keep hb1) hk hl a b)
 have HR:=Lib.hid (keepsF_eq S false u no dir n)
 generalize S.keepsF false u no dir n=out at HR ⊢
 have HAn:=Lib.hid (Nat.le_trans (topCns_len (S:=S) (d:=false) (u:=u) S.topsL (S.homeL false u)) (show (S.homeL false u).length + 2 * S.topsL.length≤1000 from by
  have h1:=topsL_len S
  have h2 : S.ds.length≤8:=hk.d8
  have h3 : (S.homeL false u).length≤1:=by
   unfold Fs.homeL
   split
   ·split <;> simp
   ·simp
  omega))
 have HAm:=Lib.hid (show (S.allCn false u).length≤1000 from HAn.out)
 generalize S.allCn false u=l at HR HAl HAm
 generalize S.dataF false u=r at HR HD
 clear h hk hp hl hd ht HAn
 go_enter Tryz.func42,Tryz.ntmps42
 go_upto_region 1 with fail
 generalize w.alloc (.cells #[.int .i64 u.u,.int .i64 u.g,.string u.data] 70)=w0 at hX hbX ⊢
 have HX:=Lib.hid hX
 have HB0:=Lib.hid hbX
 obtain⟨xc,xf,xz⟩:=hX.facts
 clear hX hbX
 go_wp2_with fail
 refine (HAl.out _ HB0.out).mono ?_
 rintro e w1 ⟨v,rfl,hO,hb1⟩
 obtain⟨a,c,rfl,hc1,hc2,-⟩:=own_form hO
 have HO:=Lib.hid hO
 have HB1:=Lib.hid (bnext HB0.out hb1)
 have HX1:=Lib.hid (HX.out.keep hb1)
 clear hO hb1 xc xf xz
 go_wp2_with fail
 go_loopw [12] (fun t12 wr=>∃ k : Nat,k≤l.length∧t12=.int .i64 k∧(out=if (l.drop k).any (keepB S no dir)=true then 17 else keepE S no dir n r)∧Below w1.heap.size w1 wr) (fun t12 _=>l.length - (intOf t12).toNat)
 case atStart=>exact ⟨0,Nat.zero_le _,rfl,HR.out,Below.refl _ _⟩
 case round=>
  obtain⟨k,hk,rfl,hf,hb⟩:=hrel
  have HBr:=Lib.hid hb
  have HBw:=Lib.hid (HB1.out.trans (hb.mono HB1.out.size))
  by_cases hlt : k < l.length
  ·obtain ⟨b,off,rfl,hbl,-,c1,-,-,-,-,-⟩:=cn_cells (HO.out.keep hb).at k hlt
   rw [List.drop_eq_getElem_cons hlt,List.any_cons] at hf
   have HF:=Lib.hid hf
   have HC1:=Lib.hid (fun w3 (hb3 : Below wr.heap.size wr w3)=>show w3.cell? ⟨b,off + k * 7 + 1,none⟩=some (.int .i64 l[k].dir) from (hb3.cell (p:=⟨b,off + k * 7 + 1,none⟩) hbl).trans c1)
   generalize l[k]=x at c1 HF HC1
   have HW1:=Lib.hid (HWi.out wr HBw.out x.dir no)
   have HW2:=Lib.hid (fun w3 (hb3 : Below wr.heap.size wr w3)=>HWi.out w3 (HBw.out.trans (hb3.mono HBw.out.size)) dir x.dir)
   have HKb:=Lib.hid (show keepB S no dir x=(S.within x.dir no || S.within dir x.dir) from rfl)
   generalize S.within x.dir no=b1 at HW1 HKb
   generalize S.within dir x.dir=b2 at HW2 HKb
   clear hf hb
   cases b1 with
   | true=>
    have HE:=Lib.hid (show out=17 by rw [HF.out,HKb.out];rfl)
    go_wp2_with fail
    refine HW1.out.mono ?_
    rintro e w3 ⟨rfl,hb3⟩
    have HB3:=Lib.hid (bnext HBw.out hb3)
    clear hb3 c1
    go_wp2_with fail
    go_ret
    exact⟨by rw [HE.out];rfl,HB3.out⟩
   | false=>
    go_wp2_with fail
    refine HW1.out.mono ?_
    rintro e w3 ⟨rfl,hb3⟩
    have HB3:=Lib.hid (bnext HBw.out hb3)
    have HB3r:=Lib.hid (bnext HBr.out hb3)
    have HW3:=Lib.hid (HW2.out _ hb3)
    have c13:=HC1.out _ hb3
    clear hb3 c1
    go_wp2_with fail
    refine HW3.out.mono ?_
    rintro e w4 ⟨rfl,hb4⟩
    have HB4:=Lib.hid (bnext HB3.out hb4)
    have HB4r:=Lib.hid (bnext HB3r.out hb4)
    clear hb4 c13
    cases b2 with
    | true=>
     have HE:=Lib.hid (show out=17 by rw [HF.out,HKb.out];rfl)
     go_wp2_with fail
     go_ret
     exact⟨by rw [HE.out];rfl,HB4.out⟩
    | false=>
     have HE:=Lib.hid (show out=if (l.drop (k + 1)).any (keepB S no dir)=true then 17 else keepE S no dir n r by rw [HF.out,HKb.out];rfl)
     go_wp2_with fail
     go_roundw
     case measure=>simp [intOf];omega
     case rel=>exact ⟨k + 1,by omega,by go_num,HE.out,HB4r.out⟩
  ·obtain rfl : k=l.length:=by omega
   rw [List.drop_length] at hf
   have HE:=Lib.hid (show out=keepE S no dir n r from hf)
   obtain⟨no2,e2⟩:=r
   dsimp only at HD
   have hX3:=HX1.out.keep hb
   obtain⟨xc,xf,xz⟩:=hX3.facts
   have HD3:=Lib.hid (HD.out _ HBw.out)
   clear hf hb hX3
   go_wp2_with fail
   refine HD3.out.mono ?_
   rintro e w3 ⟨rfl,hb3⟩
   have HB3:=Lib.hid (bnext HBw.out hb3)
   clear hb3 xc xf xz
   by_cases h2 : e2=0
   ·subst h2
    have HW1:=Lib.hid (HWi.out _ HB3.out no2 no)
    cases hb1 : S.within no2 no with
    | true=>
     rw [hb1] at HW1
     have HE2:=Lib.hid (HE.out.trans (keepE_in hb1))
     clear hb1
     go_wp2_with fail
     refine HW1.out.mono ?_
     rintro e w4 ⟨rfl,hb4⟩
     have HB4:=Lib.hid (bnext HB3.out hb4)
     clear hb4
     go_wp2_with fail
     go_ret
     exact⟨by rw [HE2.out];rfl,HB4.out⟩
    | false=>
     rw [hb1] at HW1
     have HB1:=Lib.hid hb1
     clear hb1
     go_wp2_with fail
     refine HW1.out.mono ?_
     rintro e w4 ⟨rfl,hb4⟩
     have HB4:=Lib.hid (bnext HB3.out hb4)
     clear hb4
     by_cases hdir : dir=no2
     ·subst hdir
      by_cases hn : n=nDiary
      ·have HE2:=Lib.hid (HE.out.trans (keepE_yes hn))
       have hq : (n.toList == [114,97,103,112,105,99,107,101,114,46,117,110,100,111])=true:=by rw [hn,diary_list];rfl
       clear hn
       go_wp2_with fail
       go_ret
       exact⟨by rw [HE2.out];rfl,HB4.out⟩
      ·have HE2:=Lib.hid (HE.out.trans (keepE_name HB1.out hn))
       have hq : (n.toList == [114,97,103,112,105,99,107,101,114,46,117,110,100,111])=false:=by rw [← diary_list];exact str_bne hn
       clear hn
       go_wp2_with fail
       go_ret
       exact⟨by rw [HE2.out];rfl,HB4.out⟩
     ·have HE2:=Lib.hid (HE.out.trans (keepE_dir HB1.out hdir))
      have hq : (dir == no2)=false:=by simpa using hdir
      clear hdir
      go_wp2_with fail
      go_ret
      exact⟨by rw [HE2.out];rfl,HB4.out⟩
   ·have h2' : (e2 == 0)=false:=by simpa using h2
    have HE2:=Lib.hid (HE.out.trans (keepE_bad h2))
    clear h2
    go_wp2_with fail
    go_ret
    exact⟨by rw [HE2.out];rfl,HB3.out⟩
end
end Go.Proofs.YtihdbncoijhihaaGreatDoor
namespace Go.Proofs.YtihdbncoijhihaaGreatDoor
open Go.RowKit
def is30 : List It:=[⟨(ByteArray.mk #[47,46,84,114,97,115,104]),3,0,0,0,0,(ByteArray.mk #[47,104])⟩,⟨(ByteArray.mk #[47,104]),1,448,5,0,0,(ByteArray.mk #[])⟩,⟨(ByteArray.mk #[47,104,47,84,114,97,115,104]),1,448,5,0,0,(ByteArray.mk #[])⟩,⟨(ByteArray.mk #[47,104,47,84,114,97,115,104,47,105,110,102,111]),1,448,5,0,0,(ByteArray.mk #[])⟩,⟨(ByteArray.mk #[47,104,47,84,114,97,115,104,47,102,105,108,101,115]),1,448,5,0,0,(ByteArray.mk #[])⟩]
def us30 : Us:=⟨5,5,ByteArray.mk #[47,104]⟩
theorem ns30 : (plantF [] is30).ns.length=6:=by kernel_rfl
theorem pl30 : (plantF [] is30).placesF false us30 1 (ByteArray.mk #[47])=[⟨1,ByteArray.mk #[46,84,114,97,115,104,45,53],ByteArray.mk #[47]⟩]:=by kernel_rfl
theorem al30 : (plantF [] is30).allCn false us30=[⟨ByteArray.mk #[47,104,47,84,114,97,115,104],4,5,6,0,0,ByteArray.mk #[]⟩]:=by kernel_rfl
theorem dt30 : (plantF [] is30).dataF false us30=(3,0):=by kernel_rfl
theorem kp30 : (plantF [] is30).keepsF false us30 3 1 (ByteArray.mk #[104])=17:=by kernel_rfl
def C30 : Array Value:=#[.string (ByteArray.mk #[47,46,84,114,97,115,104]),.int .i64 3,.int .i64 0,.int .i64 0,.int .i64 0,.int .i64 0,.string (ByteArray.mk #[47,104]),.string (ByteArray.mk #[47,104]),.int .i64 1,.int .i64 448,.int .i64 5,.int .i64 0,.int .i64 0,.string (ByteArray.mk #[]),.string (ByteArray.mk #[47,104,47,84,114,97,115,104]),.int .i64 1,.int .i64 448,.int .i64 5,.int .i64 0,.int .i64 0,.string (ByteArray.mk #[]),.string (ByteArray.mk #[47,104,47,84,114,97,115,104,47,105,110,102,111]),.int .i64 1,.int .i64 448,.int .i64 5,.int .i64 0,.int .i64 0,.string (ByteArray.mk #[]),.string (ByteArray.mk #[47,104,47,84,114,97,115,104,47,102,105,108,101,115]),.int .i64 1,.int .i64 448,.int .i64 5,.int .i64 0,.int .i64 0,.string (ByteArray.mk #[])]
theorem sd30 {w : World} {b : Nat} (h : Blk w b C30 161) : SdAt w none 0 0 (some ⟨b,0,none⟩) 5 5 [] is30:=by
 refine ⟨⟨rfl,Nat.le_refl _,by omega,.inl rfl⟩,⟨rfl,Nat.le_refl _,by omega,.inr ⟨b,0,rfl,h.lt,fun i hi=>⟨itC is30[i],rfl,rfl,fun j hj=>?_⟩⟩⟩⟩
 rw [itC_len] at hj
 rw [h.cell]
 have hi3 : i < 5:=hi
 match i,hi3 with
 | 0,_=>match j,hj with
  | 0,_=>rfl
  | 1,_=>rfl
  | 2,_=>rfl
  | 3,_=>rfl
  | 4,_=>rfl
  | 5,_=>rfl
  | 6,_=>rfl
 | 1,_=>match j,hj with
  | 0,_=>rfl
  | 1,_=>rfl
  | 2,_=>rfl
  | 3,_=>rfl
  | 4,_=>rfl
  | 5,_=>rfl
  | 6,_=>rfl
 | 2,_=>match j,hj with
  | 0,_=>rfl
  | 1,_=>rfl
  | 2,_=>rfl
  | 3,_=>rfl
  | 4,_=>rfl
  | 5,_=>rfl
  | 6,_=>rfl
 | 3,_=>match j,hj with
  | 0,_=>rfl
  | 1,_=>rfl
  | 2,_=>rfl
  | 3,_=>rfl
  | 4,_=>rfl
  | 5,_=>rfl
  | 6,_=>rfl
 | 4,_=>match j,hj with
  | 0,_=>rfl
  | 1,_=>rfl
  | 2,_=>rfl
  | 3,_=>rfl
  | 4,_=>rfl
  | 5,_=>rfl
  | 6,_=>rfl
set_option maxRecDepth 100000 in
theorem plc_eq (d : Int) (s t : ByteArray) (w : World) : (binOp .eql 97 (.agg #[.int .i64 d,.string s,.string t]) (.agg #[.int .i64 d,.string s,.string t])).run Tryz.prog w=.ok (.bool true) w:=by
 have u1:=Tryz.underlying9
 have u2:=Tryz.underlying3
 have a1:=Tryz.isAgg9
 have z1:=Tryz.sizeOf9
 have a2:=Tryz.isAgg3
 have z2:=Tryz.sizeOf3
 have hS : Tryz.prog.underlying 97=some (.struct (Tryz.prog.fieldsOf 97)):=by kernel_rfl
 have hp : Tryz.prog.stoodInHeld 97=false:=by kernel_rfl
 rw [run_eql_struct,show (10000 : Nat)=9999 + 1 from rfl,run_equalIn_agg w 9999 97 _ _ hS hp]
 simp only [Program.fieldsOf,Tryz.underlying97]
 go_simp
set_option maxRecDepth 100000 in
set_option maxHeartbeats 8000000 in
theorem awake30_any (w : World) :
  Calls Tryz.prog 24 #[] w fun e w'=>e=.returned (.bool true)∧Below w.heap.size w w':=by
 have hU:=(Blk.new w #[.int .i64 5,.int .i64 5,.string (ByteArray.mk #[47,104])] 70).old (.cells C30 161)
 have hX:=Blk.new (w.alloc (.cells #[.int .i64 5,.int .i64 5,.string (ByteArray.mk #[47,104])] 70)) C30 161
 have hb:=balloc (balloc (Below.refl w.heap.size w) (.cells #[.int .i64 5,.int .i64 5,.string (ByteArray.mk #[47,104])] 70)) (.cells C30 161)
 have HPl:=Lib.hid (plant_any _ (sd30 hX) (by show (0 : Nat)≤_;omega) (by show (5 : Nat)≤_;omega) (fun m hm=>by cases hm) (fun x hx=>by
  have : ∀ x ∈ is30,x.path.size≤100000∧x.data.size≤100000:=by decide
  exact this x hx))
 have hz : (w.alloc (.cells #[.int .i64 5,.int .i64 5,.string (ByteArray.mk #[47,104])] 70)).heap.size=w.heap.size + 1:=by simp
 rw [hz] at HPl
 unfold C30 at hU hX hb HPl
 have HB:=Lib.hid hb
 have HU:=Lib.hid hU
 have HOk:=Lib.hid (plant_ok [] is30)
 have HPp:=Lib.hid (plant_pl [] is30)
 have HWy:=Lib.hid (plant_wy [] is30)
 clear hX hb hz hU
 go_enter Tryz.func24,Tryz.ntmps24
 go_wp2_with fail
 refine HPl.out.mono ?_
 rintro e w1 ⟨pf,pw,R,pv,Y,rfl,hY,rfl,-,hb1⟩
 have hl6 : (plantF [] is30).ns.length≤100000:=by rw [ns30];omega
 have HP1:=Lib.hid (fun w2 (hb : Below w1.heap.size w1 w2)=>cplaces_any (hY.keep hb) HOk.out (by show (6 : Nat)≤_;omega) rfl us30 (by decide) (by decide) 1 (ByteArray.mk #[47]))
 have HA1:=Lib.hid (fun w2 (hb : Below w1.heap.size w1 w2)=>cansAll_any (hY.keep hb) HOk.out (by show (6 : Nat)≤_;omega) HPp.out HWy.out hl6 rfl us30 (by decide) (by decide) (by decide))
 have HD1:=Lib.hid (fun w2 (hb : Below w1.heap.size w1 w2)=>cdata_any (hY.keep hb) HOk.out (by show (6 : Nat)≤_;omega) HPp.out HWy.out rfl us30 (by decide))
 have HK1:=Lib.hid (fun w2 (hb : Below w1.heap.size w1 w2)=>ckeeps_any (hY.keep hb) HOk.out (by show (6 : Nat)≤_;omega) HPp.out HWy.out hl6 rfl us30 (by decide) (by decide) (by decide) 3 1 (ByteArray.mk #[104]))
 dsimp only at HP1 HA1 HD1 HK1
 rw [pl30] at HP1
 rw [al30] at HA1
 rw [dt30] at HD1
 rw [kp30] at HK1
 unfold us30 at HP1 HA1 HD1 HK1
 dsimp only at HP1 HA1 HD1 HK1
 have HB1:=Lib.hid (bnext HB.out hb1)
 have HU1:=Lib.hid (HU.out.keep hb1)
 have hpe:=fun w=>plc_eq 1 (ByteArray.mk #[46,84,114,97,115,104,45,53]) (ByteArray.mk #[47]) w
 obtain⟨uc,uf,uz⟩:=HU1.out.facts
 clear hY hb1 HOk HPp HWy hl6
 go_upto_region 5 with fail
 go_cut [3,4] (fun t3 t4 wx=>∃ a c a2 c2,t3=.slice a 1 c∧t4=.slice a2 1 c2∧OPl 97 wx 0 t3 [⟨1,ByteArray.mk #[46,84,114,97,115,104,45,53],ByteArray.mk #[47]⟩]∧OCn wx 0 t4 [⟨ByteArray.mk #[47,104,47,84,114,97,115,104],4,5,6,0,0,ByteArray.mk #[]⟩]∧Below w1.heap.size w1 wx)
 case first=>
  go_wp2_with fail
  go_region_held3 (fun w'=>(∀ b o,b < w1.heap.size→w'.cell? ⟨b,o,none⟩=w1.cell? ⟨b,o,none⟩)∧Below w1.heap.size w1 w') (first | with_reducible assumption | with_reducible exact keepS_here _ | with_reducible exact keepS_here2 _ | with_reducible exact keepS_call (by assumption) (by assumption) | with_reducible exact keepS_alloc (by assumption) _ | with_reducible exact keepS_allocD (by assumption) _ | with_reducible exact keepS_realloc (by assumption) (by assumption) | with_reducible exact keepS_set4 (by assumption) (by assumption))
   ((first
    | (go_at_call 35;((with_reducible refine (HP1.out _ (And.right (by assumption))).mono ?_);rintro e w2 ⟨v2,rfl,hP2,hb2⟩;have HP2:=Lib.hid hP2;clear hP2))
    | (go_at_call 33;((with_reducible refine (HA1.out _ (And.right (by assumption))).mono ?_);rintro e w3 ⟨v3,rfl,hO3,hb3⟩;have HO3:=Lib.hid (And.intro (HP2.out.keep hb3) hO3);clear hO3))))
  all_goals
   have hbz : Below w1.heap.size w1 w3:=And.right (by assumption)
   have HBZ:=Lib.hid hbz
   clear hbz
   obtain⟨a,c,rfl,-,-,-⟩:=own_form HO3.out.1
   obtain⟨a2,c2,rfl,-,-,-⟩:=own_form HO3.out.2
   go_wp2_with fail
   go_meet
   exact⟨a,c,a2,c2,rfl,rfl,own_low HO3.out.1 (Nat.zero_le _),own_low HO3.out.2 (Nat.zero_le _),HBZ.out⟩
 case rest=>
  obtain⟨a,c,a2,c2,rfl,rfl,hP,hO,hb4⟩:=hcut
  generalize wc=w4 at hP hO hb4 ⊢
  have HD4:=Lib.hid (HD1.out w4 hb4)
  have HB4:=Lib.hid hb4
  have HPO:=Lib.hid (And.intro hP hO)
  have hU4:=HU1.out.keep hb4
  clear uc uf uz
  obtain⟨uc,uf,uz⟩:=hU4.facts
  clear hP hO hb4 hU4
  go_wp2_with fail
  refine HD4.out.mono ?_
  rintro e w5 ⟨rfl,hb5⟩
  have HB5:=Lib.hid (bnext HB4.out hb5)
  have HK5:=Lib.hid (HK1.out w5 HB5.out)
  obtain⟨b1,o1,rfl,-,hc1⟩:=slice_row plC_len (HPO.out.1.keep hb5).at 0 (by decide)
  obtain⟨b2,o2,rfl,-,d0,d1,d2,d3,d4,d5,d6⟩:=cn_cells (HPO.out.2.keep hb5).at 0 (by decide)
  have c0 : w5.cell? ⟨b1,o1,none⟩=some (.int .i64 1):=by have h:=hc1 0 (by decide);simp only [Nat.add_zero] at h;exact h
  have c1 : w5.cell? ⟨b1,o1 + 1,none⟩=some (.string (ByteArray.mk #[46,84,114,97,115,104,45,53])):=hc1 1 (by decide)
  have c2' : w5.cell? ⟨b1,o1 + 2,none⟩=some (.string (ByteArray.mk #[47])):=hc1 2 (by decide)
  simp only [Nat.zero_mul,Nat.add_zero,List.getElem_cons_zero] at d0 d1 d2 d3 d4 d5 d6
  have hU5:=HU1.out.keep HB5.out
  clear uc uf uz hb5 hc1
  obtain⟨uc,uf,uz⟩:=hU5.facts
  clear hU5
  go_wp2_with fail
  refine HK5.out.mono ?_
  rintro e w6 ⟨rfl,hb6⟩
  have HB6:=Lib.hid (bnext HB1.out (bnext HB5.out hb6))
  clear hb6 c0 c1 c2' d0 d1 d2 d3 d4 d5 d6 uc uf uz
  go_wp2_with fail
  go_ret
  exact⟨rfl,HB6.out⟩
end Go.Proofs.YtihdbncoijhihaaGreatDoor
