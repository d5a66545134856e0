import Derived.Test.YtihdbncoijhihaaGreatDoorCT49
set_option linter.unusedVariables false
set_option linter.unusedSimpArgs false
namespace Go.Proofs.YtihdbncoijhihaaGreatDoor
open Go.RowKit
attribute [local go_sem] Oper.semAt_some
theorem tops_mem {S : Fs} {x : Int × ByteArray} (h : x ∈ S.topsL) : ∃ k,S.place_ k=some x.2:=by
 unfold Fs.topsL Fs.topsK at h
 obtain⟨d,-,hd⟩:=List.mem_filterMap.1 h
 unfold Fs.topAt at hd
 cases hp : S.place_ (S.root ((d : Int) + 1)) with
 | none=>rw [hp] at hd;cases hd
 | some s=>
  rw [hp] at hd
  injection hd with hd
  subst hd
  exact⟨_,hp⟩
section
variable {w w' : World} {pf pw : Nat} {R : Rp} {pv : Value} {Y : Sy}
set_option maxRecDepth 100000 in
set_option maxHeartbeats 8000000 in
theorem cpaths_any (h : SyAt w pf pw R pv Y) {N : Nat} (hk : FsOk Y.fs N) (hN : N≤999999) (hp : Pl Y.fs) (hw : Wy Y.fs) (hl : Y.fs.ns.length≤200) (hd : Y.dead=false) (u : Us) (ht : u.data.size≤100000) (hu0 : -9223372036854775808≤u.u) (hu1 : u.u≤9223372036854775807) :
  Calls Tryz.prog 39 #[.pointer (some ⟨pf,0,none⟩),.agg #[.int .i64 u.u,.int .i64 u.g,.string u.data]] w fun e w'=>∃ v,e=.returned v∧OS w' w.heap.size v ((Y.fs.pathsF false u).map fun s=>s.data.toList)∧Below w.heap.size w w':=by
 have HD:=Lib.hid (fun w1 (hb1 : Below w.heap.size w w1)=>cdata_any (h.keep hb1) hk hN hp hw hd u ht)
 have HWh:=Lib.hid (fun w1 (hb1 : Below w.heap.size w w1) d=>wwhere_any (h.wd.keep hb1) hk hp (by omega) d)
 have HSt:=Lib.hid (fun w1 (hb1 : Below w.heap.size w w1)=>all_stopsU 4 (by omega) w1.heap.size (w1.alloc (.cells #[.pointer (some ⟨pf,0,none⟩)] 33)) (Blk.new w1 _ _) ((h.keep hb1).keep (balloc (Below.refl _ _) _)) hk hp (by omega))
 have HAl:=Lib.hid (all_any pf)
 have HDc:=Lib.hid (fun w=>dec_any u.u w hu0 hu1)
 obtain⟨pc,-,pz⟩:=h.blk.facts
 have HPC:=Lib.hid (fun w1 (hb1 : Below w.heap.size w w1)=>show w1.cell? ⟨pf,0,none⟩=some (.pointer (some ⟨pw,0,none⟩)) from (hb1.cell (p:=⟨pf,0,none⟩) pz).trans (pc 0))
 have HSz:=Lib.hid (fun k s (hs : Y.fs.place_ k=some s)=>show s.size≤60000 from by
  have h1:=place_size hp hs
  have h3 : 256 * Y.fs.ns.length≤256 * 200:=Nat.mul_le_mul (Nat.le_refl _) hl
  omega)
 obtain⟨S,hS⟩ : ∃ S,Y.fs=S:=⟨_,rfl⟩
 rw [hS] at HD HWh HSt HSz ⊢
 have hd8 : S.ds.length≤8:=by rw [← hS];exact hk.d8
 have HAll:=Lib.hid (show (S.pathsF false u).map (fun s=>s.data.toList)=(S.homeP false u).map (fun s=>s.data.toList) ++ S.topsL.flatMap (fun x=>(pathP u x).map fun s=>s.data.toList) by unfold Fs.pathsF;rw [List.map_append,List.map_flatMap])
 have HTl:=Lib.hid (topsL_len S)
 generalize (S.pathsF false u).map (fun s=>s.data.toList)=out at HAll ⊢
 have HH:=Lib.hid (show (S.homeP false u).map (fun s=>s.data.toList)=if (S.dataF false u).2=0 then (match S.place_ (S.dataF false u).1 with | some s=>[(belowB s nHome).data.toList] | none=>[]) else [] by
  unfold Fs.homeP
  split
  ·cases S.place_ (S.dataF false u).1 <;> rfl
  ·rfl)
 generalize (S.homeP false u).map (fun s=>s.data.toList)=L0 at HAll HH
 generalize S.dataF false u=r at HD HH
 obtain⟨no,e1⟩:=r
 dsimp only at HD HH
 have hid : (str (decL u.u)).size≤21:=by
  rw [str_size]
  exact (decL_len u.u hu0 hu1).1
 have HPP:=Lib.hid (fun (x : Int × ByteArray)=>show (pathP u x).map (fun s=>s.data.toList)=[(belowB (belowB x.2 nShared) (str (decL u.u))).data.toList,(belowB x.2 (ByteArray.mk #[46,84,114,97,115,104,45] ++ str (decL u.u))).data.toList] from rfl)
 generalize str (decL u.u)=id at HDc hid HPP
 clear h hk hp hl hd hw ht hS pc pz
 refine (callsIn_wide (n:=5)).1 ?_
 refine callsIn_of_wp_marks Tryz.func39 rfl trivial ?_ rfl
 simp only [Tryz.ntmps39,List.size_toArray,List.length_cons,List.length_nil,Nat.reduceAdd,Nat.reduceSub,Array.replicate_succ,Array.replicate_zero,List.push_toArray,List.append_toArray,List.nil_append,List.cons_append]
 refine wpIn_wide.2 ?_
 have hz1 : (w.alloc (.cells #[.int .i64 u.u,.int .i64 u.g,.string u.data] 70)).heap.size=w.heap.size + 1:=by simp
 have hz2 : ((w.alloc (.cells #[.int .i64 u.u,.int .i64 u.g,.string u.data] 70)).alloc (.cells #[] 9)).heap.size=w.heap.size + 2:=by simp
 have hI0 : CPI w u [] (((w.alloc (.cells #[.int .i64 u.u,.int .i64 u.g,.string u.data] 70)).alloc (.cells #[] 9)).alloc (.cells #[.slice (some ⟨w.heap.size + 1,0,none⟩) 0 0] 38)):=by
  refine ⟨((Blk.new w _ _).old _).old _,⟨.slice (some ⟨w.heap.size + 1,0,none⟩) 0 0,?_,?_⟩,balloc (balloc (balloc (Below.refl _ _) _) _) _⟩
  ·have:=Blk.new ((w.alloc (.cells #[.int .i64 u.u,.int .i64 u.g,.string u.data] 70)).alloc (.cells #[] 9)) #[.slice (some ⟨w.heap.size + 1,0,none⟩) 0 0] 38
   rwa [hz2] at this
  ·have:=(Blk.new (w.alloc (.cells #[.int .i64 u.u,.int .i64 u.g,.string u.data] 70)) #[] 9).old (.cells #[.slice (some ⟨w.heap.size + 1,0,none⟩) 0 0] 38)
   rw [hz1] at this
   exact⟨rfl,.inr ⟨w.heap.size + 1,0,#[],rfl,Nat.le_refl _,this,Nat.le_refl _,Nat.zero_le _,rfl,rfl⟩⟩
 have hz3 : (((w.alloc (.cells #[.int .i64 u.u,.int .i64 u.g,.string u.data] 70)).alloc (.cells #[] 9)).alloc (.cells #[.slice (some ⟨w.heap.size + 1,0,none⟩) 0 0] 38)).heap.size=w.heap.size + 3:=by simp
 clear hz1 hz2
 go_upto_region 2 with fail
 generalize ((w.alloc (.cells #[.int .i64 u.u,.int .i64 u.g,.string u.data] 70)).alloc (.cells #[] 9)).alloc (.cells #[.slice (some ⟨w.heap.size + 1,0,none⟩) 0 0] 38)=w0 at hI0 hz3 ⊢
 have HI0:=Lib.hid hI0
 obtain⟨uc,uf,uz⟩:=hI0.us.facts
 clear hI0
 go_wp2_with fail
 refine (HD.out _ HI0.out.below).mono ?_
 rintro e w1 ⟨rfl,hb1⟩
 have HI1:=Lib.hid (HI0.out.keep hb1)
 have hs1 : w.heap.size + 3≤w1.heap.size:=by
  have:=hb1.size
  omega
 clear hb1 uc uf uz hz3
 go_upto_if 20 with fail
 go_cut [] from 12 to 56 (fun wx=>CPI w u L0 wx∧L0.length≤1∧w1.heap.size≤wx.heap.size)
 case first=>
  by_cases h0 : e1=0
  ·subst h0
   have HH1:=Lib.hid (HH.out.trans (if_pos rfl))
   have HWk:=Lib.hid (HWh.out _ HI1.out.below no)
   have pc0:=HPC.out _ HI1.out.below
   unfold whereV at HWk
   cases hpl : S.place_ no with
   | none=>
    rw [hpl] at HH1 HWk
    clear hpl
    go_wp2_with fail
    refine HWk.out.mono ?_
    rintro e w2 ⟨rfl,hb2⟩
    have HI2:=Lib.hid (And.intro (HI1.out.keep hb2) hb2.size)
    clear hb2 pc0
    go_wp2_with fail
    go_meet
    rw [HH1.out]
    exact⟨HI2.out.1,by simp,HI2.out.2⟩
   | some s=>
    have hss:=HSz.out _ _ hpl
    rw [hpl] at HH1 HWk
    have HP0:=Lib.hid (show L0=[(belowB s nHome).data.toList] from HH1.out)
    have HBl:=Lib.hid (fun w=>tbelow_any s nHome w (by omega) (by decide))
    clear hpl
    go_wp2_with fail
    refine HWk.out.mono ?_
    rintro e w2 ⟨rfl,hb2⟩
    have HI2:=Lib.hid (HI1.out.keep hb2)
    have hs2 : w1.heap.size≤w2.heap.size:=hb2.size
    clear hb2 pc0
    go_upto_region 6 with fail
    obtain⟨v,hv,-⟩:=HI2.out.o
    have HV2:=Lib.hid hv
    clear hv
    refine wp_region_held_drew (S:=fun _=>True) (by kernel_rfl) trivial (fun hHeld=>?_)
    have HBd:=Lib.hid (show Below w2.heap.size w2 w2.drew from (Below.refl _ _).drew)
    have o00 : w2.drew.cell? ⟨w.heap.size + 2,0,none⟩=some v:=HV2.out.cell 0
    refine reg_two 0 31 1 32 (v:=v) (vj:=.string s) (Wi:=w2.drew) (W:=w2.drew) (by kernel_rfl) rfl rfl rfl rfl rfl rfl ?ka1 ?kb1 hHeld hHeld ?_ ?_
    case ka1=>(go_simp;(try rfl))
    case kb1=>(go_simp;(try rfl))
    ·simp only [List.setIfInBounds_toArray,List.set_cons_zero,List.set_cons_succ]
     refine reg_alone 1 32 (v:=.string s) (W:=w2.drew) (by kernel_rfl) rfl rfl rfl ?kn2 hHeld ?_
     case kn2=>(go_simp;(try rfl))
     simp only [List.setIfInBounds_toArray,List.set_cons_zero,List.set_cons_succ]
     refine reg_call 2 33 (R:=fun v w'=>v=.string (belowB s nHome)∧w2.drew=w') (by kernel_rfl) rfl rfl rfl ?xc3 ((HBl.out w2.drew).mono (fun e w' ⟨he,hw⟩=>⟨_,he,rfl,hw.symm⟩)) (fun _ _ _=>trivial) ?_
     case xc3=>(go_simp;(try rfl))
     rintro _ _ ⟨rfl,rfl⟩
     simp only [List.setIfInBounds_toArray,List.set_cons_zero,List.set_cons_succ]
     obtain⟨g4,c4,W4,k1,k2,k3,k4,k5,k6⟩:=(HI2.out.keep HBd.out).push (HV2.out.keep HBd.out) [(belowB s nHome).data.toList] (by simp) (by simp) (by have:=HBd.out.size;omega) (KT.refl _ _)
     have HR4:=Lib.hid (show (Builtin.append_ #[38,38] 38 #[v,.slice (some ⟨w2.drew.heap.size,0,none⟩) 1 1]).run Tryz.prog (w2.drew.alloc (.cells #[.string (belowB s nHome)] 9))=.ok (.slice (some ⟨g4,0,none⟩) (0 + 1) c4) W4 from k1)
     obtain⟨oc,of,oz⟩:=k2.facts
     obtain⟨vc,vf,vz⟩:=k3.facts
     have HZ4:=Lib.hid (And.intro k4 (And.intro k5 k6))
     have oA : (w2.drew.alloc (.cells #[.string (belowB s nHome)] 9)).cell? ⟨w.heap.size + 2,0,none⟩=some v:=((HV2.out.keep HBd.out).old _).cell 0
     have oA2 : (w2.alloc (.cells #[.string (belowB s nHome)] 9)).drew.cell? ⟨w.heap.size + 2,0,none⟩=some v:=oA
     have uxA : True:=trivial
     have o0 : w2.drew.cell? ⟨w.heap.size + 2,0,none⟩=some v:=(HV2.out.keep HBd.out).cell 0
     clear k1 k2 k3 k4 k5 k6
     refine reg_alone 3 34 (v:=.slice (some ⟨w2.drew.heap.size,0,none⟩) 1 1) (W:=(w2.drew.alloc (.cells #[.string (belowB s nHome)] 9))) (by kernel_rfl) rfl rfl rfl ?qa4 uxA ?_
     case qa4=>(go_simp;(try rfl))
     simp only [List.setIfInBounds_toArray,List.set_cons_zero,List.set_cons_succ]
     refine reg_app 4 35 (by kernel_rfl) rfl rfl rfl rfl rfl rfl HR4.out trivial ?_
     simp only [List.setIfInBounds_toArray,List.set_cons_zero,List.set_cons_succ]
     refine reg_store 5 (W:=W4.setCell ⟨w.heap.size + 2,0,none⟩ (.slice (some ⟨g4,0,none⟩) (0 + 1) c4)) (by kernel_rfl) rfl rfl rfl ?st5 trivial ?_
     case st5=>(go_simp;(try rfl))
     refine wpAnyH_done (by kernel_rfl) ?_ _
     go_wp2_with fail
     go_meet
     rw [HP0.out]
     exact⟨HZ4.out.1,by simp,Nat.le_trans (by have:=HBd.out.size;omega) HZ4.out.2.1.size⟩
    ·simp only [List.setIfInBounds_toArray,List.set_cons_zero,List.set_cons_succ]
     refine reg_make_call 0 31 2 33 (vi:=v) (Wi:=w2.drew) (R:=fun v w'=>v=.string (belowB s nHome)∧w2.drew=w') (by kernel_rfl) rfl rfl rfl rfl rfl rfl ?ra6 hHeld ?rb6 ((HBl.out w2.drew).mono (fun e w' ⟨he,hw⟩=>⟨_,he,rfl,hw.symm⟩)) (fun _ _ _=>trivial) ?_ ?_
     case ra6=>(go_simp;(try rfl))
     case rb6=>(go_simp;(try rfl))
     ·simp only [List.setIfInBounds_toArray,List.set_cons_zero,List.set_cons_succ]
      refine reg_call 2 33 (R:=fun v w'=>v=.string (belowB s nHome)∧w2.drew=w') (by kernel_rfl) rfl rfl rfl ?xc7 ((HBl.out w2.drew).mono (fun e w' ⟨he,hw⟩=>⟨_,he,rfl,hw.symm⟩)) (fun _ _ _=>trivial) ?_
      case xc7=>(go_simp;(try rfl))
      rintro _ _ ⟨rfl,rfl⟩
      simp only [List.setIfInBounds_toArray,List.set_cons_zero,List.set_cons_succ]
      obtain⟨g8,c8,W8,k1,k2,k3,k4,k5,k6⟩:=(HI2.out.keep HBd.out).push (HV2.out.keep HBd.out) [(belowB s nHome).data.toList] (by simp) (by simp) (by have:=HBd.out.size;omega) (KT.refl _ _)
      have HR8:=Lib.hid (show (Builtin.append_ #[38,38] 38 #[v,.slice (some ⟨w2.drew.heap.size,0,none⟩) 1 1]).run Tryz.prog (w2.drew.alloc (.cells #[.string (belowB s nHome)] 9))=.ok (.slice (some ⟨g8,0,none⟩) (0 + 1) c8) W8 from k1)
      obtain⟨oc,of,oz⟩:=k2.facts
      obtain⟨vc,vf,vz⟩:=k3.facts
      have HZ8:=Lib.hid (And.intro k4 (And.intro k5 k6))
      have oA : (w2.drew.alloc (.cells #[.string (belowB s nHome)] 9)).cell? ⟨w.heap.size + 2,0,none⟩=some v:=((HV2.out.keep HBd.out).old _).cell 0
      have oA2 : (w2.alloc (.cells #[.string (belowB s nHome)] 9)).drew.cell? ⟨w.heap.size + 2,0,none⟩=some v:=oA
      have uxA : True:=trivial
      have o0 : w2.drew.cell? ⟨w.heap.size + 2,0,none⟩=some v:=(HV2.out.keep HBd.out).cell 0
      clear k1 k2 k3 k4 k5 k6
      refine reg_alone 3 34 (v:=.slice (some ⟨w2.drew.heap.size,0,none⟩) 1 1) (W:=(w2.drew.alloc (.cells #[.string (belowB s nHome)] 9))) (by kernel_rfl) rfl rfl rfl ?qa8 uxA ?_
      case qa8=>(go_simp;(try rfl))
      simp only [List.setIfInBounds_toArray,List.set_cons_zero,List.set_cons_succ]
      refine reg_app 4 35 (by kernel_rfl) rfl rfl rfl rfl rfl rfl HR8.out trivial ?_
      simp only [List.setIfInBounds_toArray,List.set_cons_zero,List.set_cons_succ]
      refine reg_store 5 (W:=W8.setCell ⟨w.heap.size + 2,0,none⟩ (.slice (some ⟨g8,0,none⟩) (0 + 1) c8)) (by kernel_rfl) rfl rfl rfl ?st9 trivial ?_
      case st9=>(go_simp;(try rfl))
      refine wpAnyH_done (by kernel_rfl) ?_ _
      go_wp2_with fail
      go_meet
      rw [HP0.out]
      exact⟨HZ8.out.1,by simp,Nat.le_trans (by have:=HBd.out.size;omega) HZ8.out.2.1.size⟩
     ·skip
      rintro _ _ ⟨rfl,rfl⟩
      simp only [List.setIfInBounds_toArray,List.set_cons_zero,List.set_cons_succ]
      obtain⟨g10,c10,W10,k1,k2,k3,k4,k5,k6⟩:=(HI2.out.keep HBd.out).push (HV2.out.keep HBd.out) [(belowB s nHome).data.toList] (by simp) (by simp) (by have:=HBd.out.size;omega) (KT.refl _ _)
      have HR10:=Lib.hid (show (Builtin.append_ #[38,38] 38 #[v,.slice (some ⟨w2.drew.heap.size,0,none⟩) 1 1]).run Tryz.prog (w2.drew.alloc (.cells #[.string (belowB s nHome)] 9))=.ok (.slice (some ⟨g10,0,none⟩) (0 + 1) c10) W10 from k1)
      obtain⟨oc,of,oz⟩:=k2.facts
      obtain⟨vc,vf,vz⟩:=k3.facts
      have HZ10:=Lib.hid (And.intro k4 (And.intro k5 k6))
      have oA : (w2.drew.alloc (.cells #[.string (belowB s nHome)] 9)).cell? ⟨w.heap.size + 2,0,none⟩=some v:=((HV2.out.keep HBd.out).old _).cell 0
      have oA2 : (w2.alloc (.cells #[.string (belowB s nHome)] 9)).drew.cell? ⟨w.heap.size + 2,0,none⟩=some v:=oA
      have uxA : True:=trivial
      have o0 : w2.drew.cell? ⟨w.heap.size + 2,0,none⟩=some v:=(HV2.out.keep HBd.out).cell 0
      clear k1 k2 k3 k4 k5 k6
      refine reg_two 0 31 3 34 (v:=v) (vj:=.slice (some ⟨w2.drew.heap.size,0,none⟩) 1 1) (Wi:=w2.drew) (W:=(w2.drew.alloc (.cells #[.string (belowB s nHome)] 9))) (by kernel_rfl) rfl rfl rfl rfl rfl rfl ?sa10 ?sb10 hHeld uxA ?_ ?_
      case sa10=>(go_simp;(try rfl))
      case sb10=>(go_simp;(try rfl))
      ·simp only [List.setIfInBounds_toArray,List.set_cons_zero,List.set_cons_succ]
       refine reg_alone 3 34 (v:=.slice (some ⟨w2.drew.heap.size,0,none⟩) 1 1) (W:=(w2.drew.alloc (.cells #[.string (belowB s nHome)] 9))) (by kernel_rfl) rfl rfl rfl ?qa10 uxA ?_
       case qa10=>(go_simp;(try rfl))
       simp only [List.setIfInBounds_toArray,List.set_cons_zero,List.set_cons_succ]
       refine reg_app 4 35 (by kernel_rfl) rfl rfl rfl rfl rfl rfl HR10.out trivial ?_
       simp only [List.setIfInBounds_toArray,List.set_cons_zero,List.set_cons_succ]
       refine reg_store 5 (W:=W10.setCell ⟨w.heap.size + 2,0,none⟩ (.slice (some ⟨g10,0,none⟩) (0 + 1) c10)) (by kernel_rfl) rfl rfl rfl ?st11 trivial ?_
       case st11=>(go_simp;(try rfl))
       refine wpAnyH_done (by kernel_rfl) ?_ _
       go_wp2_with fail
       go_meet
       rw [HP0.out]
       exact⟨HZ10.out.1,by simp,Nat.le_trans (by have:=HBd.out.size;omega) HZ10.out.2.1.size⟩
      ·simp only [List.setIfInBounds_toArray,List.set_cons_zero,List.set_cons_succ]
       refine reg_alone 0 31 (v:=v) (W:=(w2.drew.alloc (.cells #[.string (belowB s nHome)] 9))) (by kernel_rfl) rfl rfl rfl ?qb10 uxA ?_
       case qb10=>(go_simp;(try rfl))
       simp only [List.setIfInBounds_toArray,List.set_cons_zero,List.set_cons_succ]
       refine reg_app 4 35 (by kernel_rfl) rfl rfl rfl rfl rfl rfl HR10.out trivial ?_
       simp only [List.setIfInBounds_toArray,List.set_cons_zero,List.set_cons_succ]
       refine reg_store 5 (W:=W10.setCell ⟨w.heap.size + 2,0,none⟩ (.slice (some ⟨g10,0,none⟩) (0 + 1) c10)) (by kernel_rfl) rfl rfl rfl ?st12 trivial ?_
       case st12=>(go_simp;(try rfl))
       refine wpAnyH_done (by kernel_rfl) ?_ _
       go_wp2_with fail
       go_meet
       rw [HP0.out]
       exact⟨HZ10.out.1,by simp,Nat.le_trans (by have:=HBd.out.size;omega) HZ10.out.2.1.size⟩
  ·have h0' : (e1 == 0)=false:=by simpa using h0
   have HH1:=Lib.hid (HH.out.trans (if_neg h0))
   clear h0
   go_wp2_with fail
   go_meet
   rw [HH1.out]
   exact⟨HI1.out,by simp,Nat.le_refl _⟩
 case rest=>
  obtain⟨hI2,hL1,hs2⟩:=hcut
  generalize wc=w2 at hI2 hs2 ⊢
  have HI2:=Lib.hid hI2
  have HL1:=Lib.hid hL1
  have hSt:=HSt.out w2 hI2.below
  have HA2:=Lib.hid (HAl.out w2)
  have hI3:=hI2.keep (balloc (Below.refl w2.heap.size w2) (.cells #[.pointer (some ⟨pf,0,none⟩)] 33))
  have hs3 : w.heap.size + 3≤(w2.alloc (.cells #[.pointer (some ⟨pf,0,none⟩)] 33)).heap.size:=by
   rw [World.size_alloc]
   omega
  clear hI2 hL1
  go_wp2_with fail
  refine HA2.out.mono ?_
  rintro e w3 ⟨rfl,hw3⟩
  rw [← hw3] at hSt hI3 hs3
  have HS3:=Lib.hid hSt
  have HI3:=Lib.hid hI3
  clear hSt hI3 hw3
  go_wp2_with fail
  refine (wpIn_wide (n:=5)).1 ?_
  refine' wpIn_rangeU (T:=TK w3) rfl (by omega) (gf:=145) (lb:=#[.pointer (some ⟨w2.heap.size,0,none⟩)]) rfl trivial (enters_of Tryz.func145 (by kernel_rfl) rfl)
   HS3.out (fun k hk=>tk_lt hk) (KT.refl _ _) (fun _=>rfl)
   (fun pre W=>CPI w u (L0 ++ pre.flatMap (fun x=>(pathP u x).map fun s=>s.data.toList)) W∧KT (TK w3) w3 W)
   (fun _ _ _=>False)
   (fun pre A B h ht=>⟨h.1.turn ht (by omega),kt_turn h.2 ht (Nat.le_refl _)⟩) (fun c pre A B h ht=>h) ⟨by simpa using HI3.out,KT.refl _ _⟩ _ ?assign ?body ?done (fun D c pre W _ _ h _=>h.elim)
  case assign=>
   intro L e W K hK
   gi_wp2
   exact hK
  case body=>
   intro lp pre x W hL hLW hI hv
   have hpl : pre.length≤8:=by
    have h1:=hv.length_le
    rw [List.length_append,List.length_singleton] at h1
    have:=HTl.out
    omega
   have hxs : x.2.size≤60000:=by
    obtain⟨t,htt⟩:=hv
    obtain⟨k,hk⟩:=tops_mem (S:=S) (x:=x) (by rw [← htt];simp)
    exact HSz.out _ _ hk
   have hlj : (L0 ++ pre.flatMap (fun x=>(pathP u x).map fun s=>s.data.toList)).length≤17:=by
    rw [List.length_append]
    have h1 : (pre.flatMap (fun x=>(pathP u x).map fun s=>s.data.toList)).length=pre.length * 2:=by
     clear hv hI hpl
     induction pre with
     | nil=>rfl
     | cons y l ih=>rw [List.flatMap_cons,List.length_append,ih,HPP.out];simp;omega
    have:=HL1.out
    omega
   have hFm : L0 ++ (pre ++ [x]).flatMap (fun x=>(pathP u x).map fun s=>s.data.toList)=(L0 ++ pre.flatMap (fun x=>(pathP u x).map fun s=>s.data.toList)) ++ [(belowB (belowB x.2 nShared) id).data.toList,(belowB x.2 (ByteArray.mk #[46,84,114,97,115,104,45] ++ id)).data.toList]:=by
    rw [List.flatMap_append,← List.append_assoc]
    show _ ++ ((pathP u x).map (fun s=>s.data.toList) ++ [])=_
    rw [List.append_nil,HPP.out]
   generalize L0 ++ pre.flatMap (fun x=>(pathP u x).map fun s=>s.data.toList)=l at hI hlj hFm
   have HFm:=Lib.hid hFm
   obtain⟨top,path⟩:=x
   dsimp only at hxs HFm
   have HI:=Lib.hid hI
   have hWs : w.heap.size + 3≤W.heap.size:=Nat.le_trans hs3 hI.2.1
   obtain⟨v,hvb,-⟩:=hI.1.o
   have HV:=Lib.hid hvb
   have z1:=below_size path nShared
   have HB1:=Lib.hid (fun w=>tbelow_any path nShared w (by omega) (by decide))
   have hsh : nShared.size=6:=rfl
   obtain⟨s1,hs1'⟩ : ∃ s,belowB path nShared=s:=⟨_,rfl⟩
   rw [hs1'] at z1 HB1 HFm
   have HB2:=Lib.hid (fun w=>tbelow_any s1 id w (by omega) (by omega))
   obtain⟨s2,hs2'⟩ : ∃ s,belowB s1 id=s:=⟨_,rfl⟩
   rw [hs2'] at HB2 HFm
   have hcat : (ByteArray.mk #[46,84,114,97,115,104,45] ++ id).size≤100:=by
    rw [ByteArray.size_append]
    show 7 + id.size≤100
    omega
   have HB3:=Lib.hid (fun w=>tbelow_any path (ByteArray.mk #[46,84,114,97,115,104,45] ++ id) w (by omega) (by omega))
   obtain⟨s3,hs3'⟩ : ∃ s,belowB path (ByteArray.mk #[46,84,114,97,115,104,45] ++ id)=s:=⟨_,rfl⟩
   rw [hs3'] at HB3 HFm
   unfold nShared at HB1
   have HUx:=Lib.hid (fun w' (hb : Below W.heap.size W w')=>show w'.cell? ⟨w.heap.size,0,none⟩=some (.int .i64 u.u)∧w'.cell? ⟨w.heap.size + 2,0,none⟩=some v from ⟨(HI.out.1.us.keep hb).cell 0,(HV.out.keep hb).cell 0⟩)
   have hno : ¬ 9223372036854775807 < 7 + id.size:=by omega
   clear hI hv hpl hvb hFm hs1' hs2' hs3' z1 hsh
   gi_wp2
   refine wpIn_region_held_round (S:=fun w'=>w'.cell? ⟨w.heap.size,0,none⟩=some (.int .i64 u.u)) (by kernel_rfl) (by kernel_rfl) (fun h=>by obtain ⟨_,_,h⟩:=h;exact h) (HUx.out _ ((Below.refl _ W).drew)).1 (fun hHeld=>?_)
   have HBd:=Lib.hid (show Below W.heap.size W W.drew from (Below.refl _ _).drew)
   have ox0:=(HUx.out _ HBd.out).2
   refine reg_take 1 41 (v:=?vz1) rfl rfl (by kernel_rfl) (by kernel_rfl) (by kernel_rfl) (fun _ _ _ h=>h) rfl ?yz1 hHeld ?_
   case yz1=>(intro w hSw;(try dsimp only at hSw);go_simp;(try rw [if_neg hno]);(try with_reducible rfl))
   simp only [List.setIfInBounds_toArray,List.set_cons_zero,List.set_cons_succ]
   refine reg_take 3 43 (v:=?vz2) rfl rfl (by kernel_rfl) (by kernel_rfl) (by kernel_rfl) (fun _ _ _ h=>h) rfl ?yz2 hHeld ?_
   case yz2=>(intro w hSw;(try dsimp only at hSw);go_simp;(try rw [if_neg hno]);(try with_reducible rfl))
   simp only [List.setIfInBounds_toArray,List.set_cons_zero,List.set_cons_succ]
   refine reg_take 4 44 (v:=?vz3) rfl rfl (by kernel_rfl) (by kernel_rfl) (by kernel_rfl) (fun _ _ _ h=>h) rfl ?yz3 hHeld ?_
   case yz3=>(intro w hSw;(try dsimp only at hSw);go_simp;(try rw [if_neg hno]);(try with_reducible rfl))
   simp only [List.setIfInBounds_toArray,List.set_cons_zero,List.set_cons_succ]
   refine reg_take 7 47 (v:=?vz4) rfl rfl (by kernel_rfl) (by kernel_rfl) (by kernel_rfl) (fun _ _ _ h=>h) rfl ?yz4 hHeld ?_
   case yz4=>(intro w hSw;(try dsimp only at hSw);go_simp;(try rw [if_neg hno]);(try with_reducible rfl))
   simp only [List.setIfInBounds_toArray,List.set_cons_zero,List.set_cons_succ]
   refine reg_take 8 48 (v:=?vz5) rfl rfl (by kernel_rfl) (by kernel_rfl) (by kernel_rfl) (fun _ _ _ h=>h) rfl ?yz5 hHeld ?_
   case yz5=>(intro w hSw;(try dsimp only at hSw);go_simp;(try rw [if_neg hno]);(try with_reducible rfl))
   simp only [List.setIfInBounds_toArray,List.set_cons_zero,List.set_cons_succ]
   refine reg_take 9 49 (v:=?vz6) rfl rfl (by kernel_rfl) (by kernel_rfl) (by kernel_rfl) (fun _ _ _ h=>h) rfl ?yz6 hHeld ?_
   case yz6=>(intro w hSw;(try dsimp only at hSw);go_simp;(try rw [if_neg hno]);(try with_reducible rfl))
   simp only [List.setIfInBounds_toArray,List.set_cons_zero,List.set_cons_succ]
   refine reg_make_call 0 40 2 42 (vi:=v) (Wi:=W.drew) (R:=fun v w'=>v=.string s1∧W.drew=w') (by kernel_rfl) rfl rfl rfl rfl rfl rfl ?ra7 hHeld ?rb7 ((HB1.out W.drew).mono (fun e w' ⟨he,hw⟩=>⟨_,he,rfl,hw.symm⟩)) (fun v w' ⟨_,hw⟩=>by rw [← hw];exact hHeld) ?_ ?_
   case ra7=>(go_simp;(try rfl))
   case rb7=>(go_simp;(try rfl))
   ·simp only [List.setIfInBounds_toArray,List.set_cons_zero,List.set_cons_succ]
    refine reg_call 2 42 (R:=fun v w'=>v=.string s1∧W.drew=w') (by kernel_rfl) rfl rfl rfl ?xc8 ((HB1.out W.drew).mono (fun e w' ⟨he,hw⟩=>⟨_,he,rfl,hw.symm⟩)) (fun v w' ⟨_,hw⟩=>by rw [← hw];exact hHeld) ?_
    case xc8=>(go_simp;(try rfl))
    rintro _ _ ⟨rfl,rfl⟩
    simp only [List.setIfInBounds_toArray,List.set_cons_zero,List.set_cons_succ]
    refine reg_call 5 45 (R:=fun v w'=>v=.string id∧Below W.drew.heap.size W.drew w') (by kernel_rfl) rfl rfl rfl ?xc9 ((HDc.out W.drew).mono (fun e w' ⟨he,hw⟩=>⟨_,he,rfl,hw⟩)) (fun v w' ⟨_,hw⟩=>(HUx.out _ (bnext HBd.out hw)).1) ?_
    case xc9=>(go_simp;(try rfl))
    rintro _ wq10 ⟨rfl,hbq10⟩
    have HBq10:=Lib.hid (bnext HBd.out hbq10)
    have ux10:=(HUx.out _ HBq10.out).1
    have ox10:=(HUx.out _ HBq10.out).2
    clear hbq10
    simp only [List.setIfInBounds_toArray,List.set_cons_zero,List.set_cons_succ]
    refine reg_call 6 46 (R:=fun v w'=>v=.string s2∧wq10=w') (by kernel_rfl) rfl rfl rfl ?xc11 ((HB2.out wq10).mono (fun e w' ⟨he,hw⟩=>⟨_,he,rfl,hw.symm⟩)) (fun v w' ⟨_,hw⟩=>by rw [← hw];exact ux10) ?_
    case xc11=>(go_simp;(try rfl))
    rintro _ _ ⟨rfl,rfl⟩
    simp only [List.setIfInBounds_toArray,List.set_cons_zero,List.set_cons_succ]
    refine reg_call 10 50 (R:=fun v w'=>v=.string id∧Below wq10.heap.size wq10 w') (by kernel_rfl) rfl rfl rfl ?xc12 ((HDc.out wq10).mono (fun e w' ⟨he,hw⟩=>⟨_,he,rfl,hw⟩)) (fun v w' ⟨_,hw⟩=>(HUx.out _ (bnext HBq10.out hw)).1) ?_
    case xc12=>(go_simp;(try rfl))
    rintro _ wq13 ⟨rfl,hbq13⟩
    have HBq13:=Lib.hid (bnext HBq10.out hbq13)
    have ux13:=(HUx.out _ HBq13.out).1
    have ox13:=(HUx.out _ HBq13.out).2
    clear hbq13
    simp only [List.setIfInBounds_toArray,List.set_cons_zero,List.set_cons_succ]
    refine reg_take 11 51 (v:=?vz14) rfl rfl (by kernel_rfl) (by kernel_rfl) (by kernel_rfl) (fun _ _ _ h=>h) rfl ?yz14 ux13 ?_
    case yz14=>(intro w hSw;(try dsimp only at hSw);go_simp;(try rw [if_neg hno]);(try with_reducible rfl))
    simp only [List.setIfInBounds_toArray,List.set_cons_zero,List.set_cons_succ]
    refine reg_call 12 52 (R:=fun v w'=>v=.string s3∧wq13=w') (by kernel_rfl) rfl rfl rfl ?xc15 ((HB3.out wq13).mono (fun e w' ⟨he,hw⟩=>⟨_,he,rfl,hw.symm⟩)) (fun v w' ⟨_,hw⟩=>by rw [← hw];exact ux13) ?_
    case xc15=>(go_simp;(try rfl))
    rintro _ _ ⟨rfl,rfl⟩
    simp only [List.setIfInBounds_toArray,List.set_cons_zero,List.set_cons_succ]
    obtain⟨g16,c16,W16,k1,k2,k3,k4,k5,k6⟩:=(HI.out.1.keep HBq13.out).push (HV.out.keep HBq13.out) [s2.data.toList,s3.data.toList] (by simp) (by simp;omega) (Nat.le_trans hWs HBq13.out.size) (HI.out.2.trans (KT.of_below HBq13.out (fun k h=>Nat.lt_of_lt_of_le (tk_lt h) HI.out.2.1)))
    have HR16:=Lib.hid (show (Builtin.append_ #[38,38] 38 #[v,.slice (some ⟨wq13.heap.size,0,none⟩) 2 2]).run Tryz.prog (wq13.alloc (.cells #[.string s2,.string s3] 9))=.ok (.slice (some ⟨g16,0,none⟩) (l.length + 2) c16) W16 from k1)
    obtain⟨oc,of,oz⟩:=k2.facts
    obtain⟨vc,vf,vz⟩:=k3.facts
    have HZ16:=Lib.hid (And.intro k4 (And.intro k5 k6))
    have oA : (wq13.alloc (.cells #[.string s2,.string s3] 9)).cell? ⟨w.heap.size + 2,0,none⟩=some v:=((HV.out.keep HBq13.out).old _).cell 0
    have uxA : (wq13.alloc (.cells #[.string s2,.string s3] 9)).cell? ⟨w.heap.size,0,none⟩=some (.int .i64 u.u):=((HI.out.1.us.keep HBq13.out).old _).cell 0
    clear k1 k2 k3 k4 k5 k6
    refine reg_alone 13 53 (v:=.slice (some ⟨wq13.heap.size,0,none⟩) 2 2) (W:=(wq13.alloc (.cells #[.string s2,.string s3] 9))) (by kernel_rfl) rfl rfl rfl ?qa16 uxA ?_
    case qa16=>(go_simp;(try rfl))
    simp only [List.setIfInBounds_toArray,List.set_cons_zero,List.set_cons_succ]
    refine reg_app 14 54 (by kernel_rfl) rfl rfl rfl rfl rfl rfl HR16.out (vc 0) ?_
    simp only [List.setIfInBounds_toArray,List.set_cons_zero,List.set_cons_succ]
    refine reg_store 15 (W:=W16.setCell ⟨w.heap.size + 2,0,none⟩ (.slice (some ⟨g16,0,none⟩) (l.length + 2) c16)) (by kernel_rfl) rfl rfl rfl ?st17 (HZ16.out.1.us.cell 0) ?_
    case st17=>(go_simp;(try rfl))
    refine wpAnyH_done (by kernel_rfl) ?_ _
    exact⟨(kf_below HBq13.out).trans (HZ16.out.2.1.from _),kt_between HI.out.2 HZ16.out.2.2 (Nat.le_trans HBq13.out.size HZ16.out.2.1.size),by rw [HFm.out];exact HZ16.out.1,HZ16.out.2.2⟩
   ·skip
    rintro _ _ ⟨rfl,rfl⟩
    simp only [List.setIfInBounds_toArray,List.set_cons_zero,List.set_cons_succ]
    refine reg_make_call 0 40 5 45 (vi:=v) (Wi:=W.drew) (R:=fun v w'=>v=.string id∧Below W.drew.heap.size W.drew w') (by kernel_rfl) rfl rfl rfl rfl rfl rfl ?ra18 hHeld ?rb18 ((HDc.out W.drew).mono (fun e w' ⟨he,hw⟩=>⟨_,he,rfl,hw⟩)) (fun v w' ⟨_,hw⟩=>(HUx.out _ (bnext HBd.out hw)).1) ?_ ?_
    case ra18=>(go_simp;(try rfl))
    case rb18=>(go_simp;(try rfl))
    ·simp only [List.setIfInBounds_toArray,List.set_cons_zero,List.set_cons_succ]
     refine reg_call 5 45 (R:=fun v w'=>v=.string id∧Below W.drew.heap.size W.drew w') (by kernel_rfl) rfl rfl rfl ?xc19 ((HDc.out W.drew).mono (fun e w' ⟨he,hw⟩=>⟨_,he,rfl,hw⟩)) (fun v w' ⟨_,hw⟩=>(HUx.out _ (bnext HBd.out hw)).1) ?_
     case xc19=>(go_simp;(try rfl))
     rintro _ wq20 ⟨rfl,hbq20⟩
     have HBq20:=Lib.hid (bnext HBd.out hbq20)
     have ux20:=(HUx.out _ HBq20.out).1
     have ox20:=(HUx.out _ HBq20.out).2
     clear hbq20
     simp only [List.setIfInBounds_toArray,List.set_cons_zero,List.set_cons_succ]
     refine reg_call 6 46 (R:=fun v w'=>v=.string s2∧wq20=w') (by kernel_rfl) rfl rfl rfl ?xc21 ((HB2.out wq20).mono (fun e w' ⟨he,hw⟩=>⟨_,he,rfl,hw.symm⟩)) (fun v w' ⟨_,hw⟩=>by rw [← hw];exact ux20) ?_
     case xc21=>(go_simp;(try rfl))
     rintro _ _ ⟨rfl,rfl⟩
     simp only [List.setIfInBounds_toArray,List.set_cons_zero,List.set_cons_succ]
     refine reg_call 10 50 (R:=fun v w'=>v=.string id∧Below wq20.heap.size wq20 w') (by kernel_rfl) rfl rfl rfl ?xc22 ((HDc.out wq20).mono (fun e w' ⟨he,hw⟩=>⟨_,he,rfl,hw⟩)) (fun v w' ⟨_,hw⟩=>(HUx.out _ (bnext HBq20.out hw)).1) ?_
     case xc22=>(go_simp;(try rfl))
     rintro _ wq23 ⟨rfl,hbq23⟩
     have HBq23:=Lib.hid (bnext HBq20.out hbq23)
     have ux23:=(HUx.out _ HBq23.out).1
     have ox23:=(HUx.out _ HBq23.out).2
     clear hbq23
     simp only [List.setIfInBounds_toArray,List.set_cons_zero,List.set_cons_succ]
     refine reg_take 11 51 (v:=?vz24) rfl rfl (by kernel_rfl) (by kernel_rfl) (by kernel_rfl) (fun _ _ _ h=>h) rfl ?yz24 ux23 ?_
     case yz24=>(intro w hSw;(try dsimp only at hSw);go_simp;(try rw [if_neg hno]);(try with_reducible rfl))
     simp only [List.setIfInBounds_toArray,List.set_cons_zero,List.set_cons_succ]
     refine reg_call 12 52 (R:=fun v w'=>v=.string s3∧wq23=w') (by kernel_rfl) rfl rfl rfl ?xc25 ((HB3.out wq23).mono (fun e w' ⟨he,hw⟩=>⟨_,he,rfl,hw.symm⟩)) (fun v w' ⟨_,hw⟩=>by rw [← hw];exact ux23) ?_
     case xc25=>(go_simp;(try rfl))
     rintro _ _ ⟨rfl,rfl⟩
     simp only [List.setIfInBounds_toArray,List.set_cons_zero,List.set_cons_succ]
     obtain⟨g26,c26,W26,k1,k2,k3,k4,k5,k6⟩:=(HI.out.1.keep HBq23.out).push (HV.out.keep HBq23.out) [s2.data.toList,s3.data.toList] (by simp) (by simp;omega) (Nat.le_trans hWs HBq23.out.size) (HI.out.2.trans (KT.of_below HBq23.out (fun k h=>Nat.lt_of_lt_of_le (tk_lt h) HI.out.2.1)))
     have HR26:=Lib.hid (show (Builtin.append_ #[38,38] 38 #[v,.slice (some ⟨wq23.heap.size,0,none⟩) 2 2]).run Tryz.prog (wq23.alloc (.cells #[.string s2,.string s3] 9))=.ok (.slice (some ⟨g26,0,none⟩) (l.length + 2) c26) W26 from k1)
     obtain⟨oc,of,oz⟩:=k2.facts
     obtain⟨vc,vf,vz⟩:=k3.facts
     have HZ26:=Lib.hid (And.intro k4 (And.intro k5 k6))
     have oA : (wq23.alloc (.cells #[.string s2,.string s3] 9)).cell? ⟨w.heap.size + 2,0,none⟩=some v:=((HV.out.keep HBq23.out).old _).cell 0
     have uxA : (wq23.alloc (.cells #[.string s2,.string s3] 9)).cell? ⟨w.heap.size,0,none⟩=some (.int .i64 u.u):=((HI.out.1.us.keep HBq23.out).old _).cell 0
     clear k1 k2 k3 k4 k5 k6
     refine reg_alone 13 53 (v:=.slice (some ⟨wq23.heap.size,0,none⟩) 2 2) (W:=(wq23.alloc (.cells #[.string s2,.string s3] 9))) (by kernel_rfl) rfl rfl rfl ?qa26 uxA ?_
     case qa26=>(go_simp;(try rfl))
     simp only [List.setIfInBounds_toArray,List.set_cons_zero,List.set_cons_succ]
     refine reg_app 14 54 (by kernel_rfl) rfl rfl rfl rfl rfl rfl HR26.out (vc 0) ?_
     simp only [List.setIfInBounds_toArray,List.set_cons_zero,List.set_cons_succ]
     refine reg_store 15 (W:=W26.setCell ⟨w.heap.size + 2,0,none⟩ (.slice (some ⟨g26,0,none⟩) (l.length + 2) c26)) (by kernel_rfl) rfl rfl rfl ?st27 (HZ26.out.1.us.cell 0) ?_
     case st27=>(go_simp;(try rfl))
     refine wpAnyH_done (by kernel_rfl) ?_ _
     exact⟨(kf_below HBq23.out).trans (HZ26.out.2.1.from _),kt_between HI.out.2 HZ26.out.2.2 (Nat.le_trans HBq23.out.size HZ26.out.2.1.size),by rw [HFm.out];exact HZ26.out.1,HZ26.out.2.2⟩
    ·skip
     rintro _ wq28 ⟨rfl,hbq28⟩
     have HBq28:=Lib.hid (bnext HBd.out hbq28)
     have ux28:=(HUx.out _ HBq28.out).1
     have ox28:=(HUx.out _ HBq28.out).2
     clear hbq28
     simp only [List.setIfInBounds_toArray,List.set_cons_zero,List.set_cons_succ]
     refine reg_make_call 0 40 6 46 (vi:=v) (Wi:=wq28) (R:=fun v w'=>v=.string s2∧wq28=w') (by kernel_rfl) rfl rfl rfl rfl rfl rfl ?ra29 ux28 ?rb29 ((HB2.out wq28).mono (fun e w' ⟨he,hw⟩=>⟨_,he,rfl,hw.symm⟩)) (fun v w' ⟨_,hw⟩=>by rw [← hw];exact ux28) ?_ ?_
     case ra29=>(go_simp;(try rfl))
     case rb29=>(go_simp;(try rfl))
     ·simp only [List.setIfInBounds_toArray,List.set_cons_zero,List.set_cons_succ]
      refine reg_call 6 46 (R:=fun v w'=>v=.string s2∧wq28=w') (by kernel_rfl) rfl rfl rfl ?xc30 ((HB2.out wq28).mono (fun e w' ⟨he,hw⟩=>⟨_,he,rfl,hw.symm⟩)) (fun v w' ⟨_,hw⟩=>by rw [← hw];exact ux28) ?_
      case xc30=>(go_simp;(try rfl))
      rintro _ _ ⟨rfl,rfl⟩
      simp only [List.setIfInBounds_toArray,List.set_cons_zero,List.set_cons_succ]
      refine reg_call 10 50 (R:=fun v w'=>v=.string id∧Below wq28.heap.size wq28 w') (by kernel_rfl) rfl rfl rfl ?xc31 ((HDc.out wq28).mono (fun e w' ⟨he,hw⟩=>⟨_,he,rfl,hw⟩)) (fun v w' ⟨_,hw⟩=>(HUx.out _ (bnext HBq28.out hw)).1) ?_
      case xc31=>(go_simp;(try rfl))
      rintro _ wq32 ⟨rfl,hbq32⟩
      have HBq32:=Lib.hid (bnext HBq28.out hbq32)
      have ux32:=(HUx.out _ HBq32.out).1
      have ox32:=(HUx.out _ HBq32.out).2
      clear hbq32
      simp only [List.setIfInBounds_toArray,List.set_cons_zero,List.set_cons_succ]
      refine reg_take 11 51 (v:=?vz33) rfl rfl (by kernel_rfl) (by kernel_rfl) (by kernel_rfl) (fun _ _ _ h=>h) rfl ?yz33 ux32 ?_
      case yz33=>(intro w hSw;(try dsimp only at hSw);go_simp;(try rw [if_neg hno]);(try with_reducible rfl))
      simp only [List.setIfInBounds_toArray,List.set_cons_zero,List.set_cons_succ]
      refine reg_call 12 52 (R:=fun v w'=>v=.string s3∧wq32=w') (by kernel_rfl) rfl rfl rfl ?xc34 ((HB3.out wq32).mono (fun e w' ⟨he,hw⟩=>⟨_,he,rfl,hw.symm⟩)) (fun v w' ⟨_,hw⟩=>by rw [← hw];exact ux32) ?_
      case xc34=>(go_simp;(try rfl))
      rintro _ _ ⟨rfl,rfl⟩
      simp only [List.setIfInBounds_toArray,List.set_cons_zero,List.set_cons_succ]
      obtain⟨g35,c35,W35,k1,k2,k3,k4,k5,k6⟩:=(HI.out.1.keep HBq32.out).push (HV.out.keep HBq32.out) [s2.data.toList,s3.data.toList] (by simp) (by simp;omega) (Nat.le_trans hWs HBq32.out.size) (HI.out.2.trans (KT.of_below HBq32.out (fun k h=>Nat.lt_of_lt_of_le (tk_lt h) HI.out.2.1)))
      have HR35:=Lib.hid (show (Builtin.append_ #[38,38] 38 #[v,.slice (some ⟨wq32.heap.size,0,none⟩) 2 2]).run Tryz.prog (wq32.alloc (.cells #[.string s2,.string s3] 9))=.ok (.slice (some ⟨g35,0,none⟩) (l.length + 2) c35) W35 from k1)
      obtain⟨oc,of,oz⟩:=k2.facts
      obtain⟨vc,vf,vz⟩:=k3.facts
      have HZ35:=Lib.hid (And.intro k4 (And.intro k5 k6))
      have oA : (wq32.alloc (.cells #[.string s2,.string s3] 9)).cell? ⟨w.heap.size + 2,0,none⟩=some v:=((HV.out.keep HBq32.out).old _).cell 0
      have uxA : (wq32.alloc (.cells #[.string s2,.string s3] 9)).cell? ⟨w.heap.size,0,none⟩=some (.int .i64 u.u):=((HI.out.1.us.keep HBq32.out).old _).cell 0
      clear k1 k2 k3 k4 k5 k6
      refine reg_alone 13 53 (v:=.slice (some ⟨wq32.heap.size,0,none⟩) 2 2) (W:=(wq32.alloc (.cells #[.string s2,.string s3] 9))) (by kernel_rfl) rfl rfl rfl ?qa35 uxA ?_
      case qa35=>(go_simp;(try rfl))
      simp only [List.setIfInBounds_toArray,List.set_cons_zero,List.set_cons_succ]
      refine reg_app 14 54 (by kernel_rfl) rfl rfl rfl rfl rfl rfl HR35.out (vc 0) ?_
      simp only [List.setIfInBounds_toArray,List.set_cons_zero,List.set_cons_succ]
      refine reg_store 15 (W:=W35.setCell ⟨w.heap.size + 2,0,none⟩ (.slice (some ⟨g35,0,none⟩) (l.length + 2) c35)) (by kernel_rfl) rfl rfl rfl ?st36 (HZ35.out.1.us.cell 0) ?_
      case st36=>(go_simp;(try rfl))
      refine wpAnyH_done (by kernel_rfl) ?_ _
      exact⟨(kf_below HBq32.out).trans (HZ35.out.2.1.from _),kt_between HI.out.2 HZ35.out.2.2 (Nat.le_trans HBq32.out.size HZ35.out.2.1.size),by rw [HFm.out];exact HZ35.out.1,HZ35.out.2.2⟩
     ·skip
      rintro _ _ ⟨rfl,rfl⟩
      simp only [List.setIfInBounds_toArray,List.set_cons_zero,List.set_cons_succ]
      refine reg_make_call 0 40 10 50 (vi:=v) (Wi:=wq28) (R:=fun v w'=>v=.string id∧Below wq28.heap.size wq28 w') (by kernel_rfl) rfl rfl rfl rfl rfl rfl ?ra37 ux28 ?rb37 ((HDc.out wq28).mono (fun e w' ⟨he,hw⟩=>⟨_,he,rfl,hw⟩)) (fun v w' ⟨_,hw⟩=>(HUx.out _ (bnext HBq28.out hw)).1) ?_ ?_
      case ra37=>(go_simp;(try rfl))
      case rb37=>(go_simp;(try rfl))
      ·simp only [List.setIfInBounds_toArray,List.set_cons_zero,List.set_cons_succ]
       refine reg_call 10 50 (R:=fun v w'=>v=.string id∧Below wq28.heap.size wq28 w') (by kernel_rfl) rfl rfl rfl ?xc38 ((HDc.out wq28).mono (fun e w' ⟨he,hw⟩=>⟨_,he,rfl,hw⟩)) (fun v w' ⟨_,hw⟩=>(HUx.out _ (bnext HBq28.out hw)).1) ?_
       case xc38=>(go_simp;(try rfl))
       rintro _ wq39 ⟨rfl,hbq39⟩
       have HBq39:=Lib.hid (bnext HBq28.out hbq39)
       have ux39:=(HUx.out _ HBq39.out).1
       have ox39:=(HUx.out _ HBq39.out).2
       clear hbq39
       simp only [List.setIfInBounds_toArray,List.set_cons_zero,List.set_cons_succ]
       refine reg_take 11 51 (v:=?vz40) rfl rfl (by kernel_rfl) (by kernel_rfl) (by kernel_rfl) (fun _ _ _ h=>h) rfl ?yz40 ux39 ?_
       case yz40=>(intro w hSw;(try dsimp only at hSw);go_simp;(try rw [if_neg hno]);(try with_reducible rfl))
       simp only [List.setIfInBounds_toArray,List.set_cons_zero,List.set_cons_succ]
       refine reg_call 12 52 (R:=fun v w'=>v=.string s3∧wq39=w') (by kernel_rfl) rfl rfl rfl ?xc41 ((HB3.out wq39).mono (fun e w' ⟨he,hw⟩=>⟨_,he,rfl,hw.symm⟩)) (fun v w' ⟨_,hw⟩=>by rw [← hw];exact ux39) ?_
       case xc41=>(go_simp;(try rfl))
       rintro _ _ ⟨rfl,rfl⟩
       simp only [List.setIfInBounds_toArray,List.set_cons_zero,List.set_cons_succ]
       obtain⟨g42,c42,W42,k1,k2,k3,k4,k5,k6⟩:=(HI.out.1.keep HBq39.out).push (HV.out.keep HBq39.out) [s2.data.toList,s3.data.toList] (by simp) (by simp;omega) (Nat.le_trans hWs HBq39.out.size) (HI.out.2.trans (KT.of_below HBq39.out (fun k h=>Nat.lt_of_lt_of_le (tk_lt h) HI.out.2.1)))
       have HR42:=Lib.hid (show (Builtin.append_ #[38,38] 38 #[v,.slice (some ⟨wq39.heap.size,0,none⟩) 2 2]).run Tryz.prog (wq39.alloc (.cells #[.string s2,.string s3] 9))=.ok (.slice (some ⟨g42,0,none⟩) (l.length + 2) c42) W42 from k1)
       obtain⟨oc,of,oz⟩:=k2.facts
       obtain⟨vc,vf,vz⟩:=k3.facts
       have HZ42:=Lib.hid (And.intro k4 (And.intro k5 k6))
       have oA : (wq39.alloc (.cells #[.string s2,.string s3] 9)).cell? ⟨w.heap.size + 2,0,none⟩=some v:=((HV.out.keep HBq39.out).old _).cell 0
       have uxA : (wq39.alloc (.cells #[.string s2,.string s3] 9)).cell? ⟨w.heap.size,0,none⟩=some (.int .i64 u.u):=((HI.out.1.us.keep HBq39.out).old _).cell 0
       clear k1 k2 k3 k4 k5 k6
       refine reg_alone 13 53 (v:=.slice (some ⟨wq39.heap.size,0,none⟩) 2 2) (W:=(wq39.alloc (.cells #[.string s2,.string s3] 9))) (by kernel_rfl) rfl rfl rfl ?qa42 uxA ?_
       case qa42=>(go_simp;(try rfl))
       simp only [List.setIfInBounds_toArray,List.set_cons_zero,List.set_cons_succ]
       refine reg_app 14 54 (by kernel_rfl) rfl rfl rfl rfl rfl rfl HR42.out (vc 0) ?_
       simp only [List.setIfInBounds_toArray,List.set_cons_zero,List.set_cons_succ]
       refine reg_store 15 (W:=W42.setCell ⟨w.heap.size + 2,0,none⟩ (.slice (some ⟨g42,0,none⟩) (l.length + 2) c42)) (by kernel_rfl) rfl rfl rfl ?st43 (HZ42.out.1.us.cell 0) ?_
       case st43=>(go_simp;(try rfl))
       refine wpAnyH_done (by kernel_rfl) ?_ _
       exact⟨(kf_below HBq39.out).trans (HZ42.out.2.1.from _),kt_between HI.out.2 HZ42.out.2.2 (Nat.le_trans HBq39.out.size HZ42.out.2.1.size),by rw [HFm.out];exact HZ42.out.1,HZ42.out.2.2⟩
      ·skip
       rintro _ wq44 ⟨rfl,hbq44⟩
       have HBq44:=Lib.hid (bnext HBq28.out hbq44)
       have ux44:=(HUx.out _ HBq44.out).1
       have ox44:=(HUx.out _ HBq44.out).2
       clear hbq44
       simp only [List.setIfInBounds_toArray,List.set_cons_zero,List.set_cons_succ]
       refine reg_take 11 51 (v:=?vz45) rfl rfl (by kernel_rfl) (by kernel_rfl) (by kernel_rfl) (fun _ _ _ h=>h) rfl ?yz45 ux44 ?_
       case yz45=>(intro w hSw;(try dsimp only at hSw);go_simp;(try rw [if_neg hno]);(try with_reducible rfl))
       simp only [List.setIfInBounds_toArray,List.set_cons_zero,List.set_cons_succ]
       refine reg_make_call 0 40 12 52 (vi:=v) (Wi:=wq44) (R:=fun v w'=>v=.string s3∧wq44=w') (by kernel_rfl) rfl rfl rfl rfl rfl rfl ?ra46 ux44 ?rb46 ((HB3.out wq44).mono (fun e w' ⟨he,hw⟩=>⟨_,he,rfl,hw.symm⟩)) (fun v w' ⟨_,hw⟩=>by rw [← hw];exact ux44) ?_ ?_
       case ra46=>(go_simp;(try rfl))
       case rb46=>(go_simp;(try rfl))
       ·simp only [List.setIfInBounds_toArray,List.set_cons_zero,List.set_cons_succ]
        refine reg_call 12 52 (R:=fun v w'=>v=.string s3∧wq44=w') (by kernel_rfl) rfl rfl rfl ?xc47 ((HB3.out wq44).mono (fun e w' ⟨he,hw⟩=>⟨_,he,rfl,hw.symm⟩)) (fun v w' ⟨_,hw⟩=>by rw [← hw];exact ux44) ?_
        case xc47=>(go_simp;(try rfl))
        rintro _ _ ⟨rfl,rfl⟩
        simp only [List.setIfInBounds_toArray,List.set_cons_zero,List.set_cons_succ]
        obtain⟨g48,c48,W48,k1,k2,k3,k4,k5,k6⟩:=(HI.out.1.keep HBq44.out).push (HV.out.keep HBq44.out) [s2.data.toList,s3.data.toList] (by simp) (by simp;omega) (Nat.le_trans hWs HBq44.out.size) (HI.out.2.trans (KT.of_below HBq44.out (fun k h=>Nat.lt_of_lt_of_le (tk_lt h) HI.out.2.1)))
        have HR48:=Lib.hid (show (Builtin.append_ #[38,38] 38 #[v,.slice (some ⟨wq44.heap.size,0,none⟩) 2 2]).run Tryz.prog (wq44.alloc (.cells #[.string s2,.string s3] 9))=.ok (.slice (some ⟨g48,0,none⟩) (l.length + 2) c48) W48 from k1)
        obtain⟨oc,of,oz⟩:=k2.facts
        obtain⟨vc,vf,vz⟩:=k3.facts
        have HZ48:=Lib.hid (And.intro k4 (And.intro k5 k6))
        have oA : (wq44.alloc (.cells #[.string s2,.string s3] 9)).cell? ⟨w.heap.size + 2,0,none⟩=some v:=((HV.out.keep HBq44.out).old _).cell 0
        have uxA : (wq44.alloc (.cells #[.string s2,.string s3] 9)).cell? ⟨w.heap.size,0,none⟩=some (.int .i64 u.u):=((HI.out.1.us.keep HBq44.out).old _).cell 0
        clear k1 k2 k3 k4 k5 k6
        refine reg_alone 13 53 (v:=.slice (some ⟨wq44.heap.size,0,none⟩) 2 2) (W:=(wq44.alloc (.cells #[.string s2,.string s3] 9))) (by kernel_rfl) rfl rfl rfl ?qa48 uxA ?_
        case qa48=>(go_simp;(try rfl))
        simp only [List.setIfInBounds_toArray,List.set_cons_zero,List.set_cons_succ]
        refine reg_app 14 54 (by kernel_rfl) rfl rfl rfl rfl rfl rfl HR48.out (vc 0) ?_
        simp only [List.setIfInBounds_toArray,List.set_cons_zero,List.set_cons_succ]
        refine reg_store 15 (W:=W48.setCell ⟨w.heap.size + 2,0,none⟩ (.slice (some ⟨g48,0,none⟩) (l.length + 2) c48)) (by kernel_rfl) rfl rfl rfl ?st49 (HZ48.out.1.us.cell 0) ?_
        case st49=>(go_simp;(try rfl))
        refine wpAnyH_done (by kernel_rfl) ?_ _
        exact⟨(kf_below HBq44.out).trans (HZ48.out.2.1.from _),kt_between HI.out.2 HZ48.out.2.2 (Nat.le_trans HBq44.out.size HZ48.out.2.1.size),by rw [HFm.out];exact HZ48.out.1,HZ48.out.2.2⟩
       ·skip
        rintro _ _ ⟨rfl,rfl⟩
        simp only [List.setIfInBounds_toArray,List.set_cons_zero,List.set_cons_succ]
        obtain⟨g50,c50,W50,k1,k2,k3,k4,k5,k6⟩:=(HI.out.1.keep HBq44.out).push (HV.out.keep HBq44.out) [s2.data.toList,s3.data.toList] (by simp) (by simp;omega) (Nat.le_trans hWs HBq44.out.size) (HI.out.2.trans (KT.of_below HBq44.out (fun k h=>Nat.lt_of_lt_of_le (tk_lt h) HI.out.2.1)))
        have HR50:=Lib.hid (show (Builtin.append_ #[38,38] 38 #[v,.slice (some ⟨wq44.heap.size,0,none⟩) 2 2]).run Tryz.prog (wq44.alloc (.cells #[.string s2,.string s3] 9))=.ok (.slice (some ⟨g50,0,none⟩) (l.length + 2) c50) W50 from k1)
        obtain⟨oc,of,oz⟩:=k2.facts
        obtain⟨vc,vf,vz⟩:=k3.facts
        have HZ50:=Lib.hid (And.intro k4 (And.intro k5 k6))
        have oA : (wq44.alloc (.cells #[.string s2,.string s3] 9)).cell? ⟨w.heap.size + 2,0,none⟩=some v:=((HV.out.keep HBq44.out).old _).cell 0
        have uxA : (wq44.alloc (.cells #[.string s2,.string s3] 9)).cell? ⟨w.heap.size,0,none⟩=some (.int .i64 u.u):=((HI.out.1.us.keep HBq44.out).old _).cell 0
        clear k1 k2 k3 k4 k5 k6
        refine reg_two 0 40 13 53 (v:=v) (vj:=.slice (some ⟨wq44.heap.size,0,none⟩) 2 2) (Wi:=wq44) (W:=(wq44.alloc (.cells #[.string s2,.string s3] 9))) (by kernel_rfl) rfl rfl rfl rfl rfl rfl ?sa50 ?sb50 ux44 uxA ?_ ?_
        case sa50=>(go_simp;(try rfl))
        case sb50=>(go_simp;(try rfl))
        ·simp only [List.setIfInBounds_toArray,List.set_cons_zero,List.set_cons_succ]
         refine reg_alone 13 53 (v:=.slice (some ⟨wq44.heap.size,0,none⟩) 2 2) (W:=(wq44.alloc (.cells #[.string s2,.string s3] 9))) (by kernel_rfl) rfl rfl rfl ?qa50 uxA ?_
         case qa50=>(go_simp;(try rfl))
         simp only [List.setIfInBounds_toArray,List.set_cons_zero,List.set_cons_succ]
         refine reg_app 14 54 (by kernel_rfl) rfl rfl rfl rfl rfl rfl HR50.out (vc 0) ?_
         simp only [List.setIfInBounds_toArray,List.set_cons_zero,List.set_cons_succ]
         refine reg_store 15 (W:=W50.setCell ⟨w.heap.size + 2,0,none⟩ (.slice (some ⟨g50,0,none⟩) (l.length + 2) c50)) (by kernel_rfl) rfl rfl rfl ?st51 (HZ50.out.1.us.cell 0) ?_
         case st51=>(go_simp;(try rfl))
         refine wpAnyH_done (by kernel_rfl) ?_ _
         exact⟨(kf_below HBq44.out).trans (HZ50.out.2.1.from _),kt_between HI.out.2 HZ50.out.2.2 (Nat.le_trans HBq44.out.size HZ50.out.2.1.size),by rw [HFm.out];exact HZ50.out.1,HZ50.out.2.2⟩
        ·simp only [List.setIfInBounds_toArray,List.set_cons_zero,List.set_cons_succ]
         refine reg_alone 0 40 (v:=v) (W:=(wq44.alloc (.cells #[.string s2,.string s3] 9))) (by kernel_rfl) rfl rfl rfl ?qb50 uxA ?_
         case qb50=>(go_simp;(try rfl))
         simp only [List.setIfInBounds_toArray,List.set_cons_zero,List.set_cons_succ]
         refine reg_app 14 54 (by kernel_rfl) rfl rfl rfl rfl rfl rfl HR50.out (vc 0) ?_
         simp only [List.setIfInBounds_toArray,List.set_cons_zero,List.set_cons_succ]
         refine reg_store 15 (W:=W50.setCell ⟨w.heap.size + 2,0,none⟩ (.slice (some ⟨g50,0,none⟩) (l.length + 2) c50)) (by kernel_rfl) rfl rfl rfl ?st52 (HZ50.out.1.us.cell 0) ?_
         case st52=>(go_simp;(try rfl))
         refine wpAnyH_done (by kernel_rfl) ?_ _
         exact⟨(kf_below HBq44.out).trans (HZ50.out.2.1.from _),kt_between HI.out.2 HZ50.out.2.2 (Nat.le_trans HBq44.out.size HZ50.out.2.1.size),by rw [HFm.out];exact HZ50.out.1,HZ50.out.2.2⟩
  case done=>
   intro D xs W hD hxs hI hK2
   subst hxs
   rw [← HAll.out] at hI
   obtain⟨v,ho,hO⟩:=hI.1.o
   obtain⟨oc,of,oz⟩:=ho.facts
   have HO:=Lib.hid (And.intro hO hI.1.below)
   clear hI ho hO
   go_wp2_with fail
   show LeavesInM Fence.wide 5 Tryz.prog Tryz.f39 _ _ _ _ W
   refine ⟨by simp,.inl ⟨_,_,rfl,run_takeDeferred hK2,?_⟩⟩
   have hm : Below D W (W.putObj D (.deferred none)):=⟨rfl,rfl,rfl,by simp,fun k hk=>World.putObj_heap_other (by omega)⟩
   refine ⟨v,by simp [results,Tryz.results39,go_sem],v,rfl,?_,HO.out.2.trans (hm.mono (by have:=HI3.out.below.size;omega))⟩
   refine own_low (own_turn HO.out.1 (fun k hk=>?_)) (Nat.le_add_right _ _)
   obtain⟨-,cur,hc⟩:=own_obj1 HO.out.1 hk
   exact World.putObj_heap_other (fun e=>by
    subst e
    rw [hK2] at hc
    cases hc)
end
end Go.Proofs.YtihdbncoijhihaaGreatDoor
