import Derived.Test.YtihdbncoijhihaaGreatDoorCT45
import Derived.Test.YtihdbncoijhihaaGreatDoorCT36
import Derived.Test.YtihdbncoijhihaaGreatDoorCT8
set_option linter.unusedVariables false
set_option linter.unusedSimpArgs false
namespace Go.Proofs.YtihdbncoijhihaaGreatDoor
open Go.RowKit
section
variable {S : Fs} {d : Bool} {u : Us}
theorem addCn_len (l : List Cn) (p : Plc) : (S.addCn d u l p).length≤l.length + 1:=by
 unfold Fs.addCn putCn
 split
 ·split
  ·omega
  ·simp
 ·omega
theorem addCns_len : ∀ (ps : List Plc) (l : List Cn),(ps.foldl (S.addCn d u) l).length≤l.length + ps.length
 | [],l=>Nat.le_refl _
 | p :: ps,l=>by
  rw [List.foldl_cons,List.length_cons]
  have h1:=addCns_len ps (S.addCn d u l p)
  have h2:=addCn_len (S:=S) (d:=d) (u:=u) l p
  omega
theorem placesF_len (S : Fs) (d : Bool) (u : Us) (top : Int) (path : ByteArray) : (S.placesF d u top path).length≤2:=by
 unfold Fs.placesF
 split <;> simp
theorem topCns_len : ∀ (ts : List (Int × ByteArray)) (l : List Cn),(ts.foldl (S.topCn d u) l).length≤l.length + 2 * ts.length
 | [],l=>Nat.le_refl _
 | t :: ts,l=>by
  rw [List.foldl_cons,List.length_cons]
  have h1:=topCns_len ts (S.topCn d u l t)
  have h2 : (S.topCn d u l t).length≤l.length + 2:=Nat.le_trans (addCns_len _ l) (Nat.add_le_add_left (placesF_len S d u t.1 t.2) _)
  omega
theorem topsK_len (S : Fs) (k : Nat) : (S.topsK k).length≤k:=by
 unfold Fs.topsK
 exact Nat.le_trans (List.length_filterMap_le _ _) (by simp)
end
theorem keepS_set7 {W p : World} {B : Nat} {v0 v1 v2 v3 v4 v5 v6 : Value} (h : (∀ b o,b < W.heap.size→p.cell? ⟨b,o,none⟩=W.cell? ⟨b,o,none⟩)∧Below W.heap.size W p) (hB : W.heap.size≤B) :
  (∀ b o,b < W.heap.size→(((((((p.setCell ⟨B,0,none⟩ v0).setCell ⟨B,1,none⟩ v1).setCell ⟨B,2,none⟩ v2).setCell ⟨B,3,none⟩ v3).setCell ⟨B,4,none⟩ v4).setCell ⟨B,5,none⟩ v5).setCell ⟨B,6,none⟩ v6).cell? ⟨b,o,none⟩=W.cell? ⟨b,o,none⟩)∧
   Below W.heap.size W (((((((p.setCell ⟨B,0,none⟩ v0).setCell ⟨B,1,none⟩ v1).setCell ⟨B,2,none⟩ v2).setCell ⟨B,3,none⟩ v3).setCell ⟨B,4,none⟩ v4).setCell ⟨B,5,none⟩ v5).setCell ⟨B,6,none⟩ v6):=keepS_of (below_set7 h.2 hB)
theorem take_snoc {α : Type} (l : List α) (k : Nat) (hk : k < l.length) : l.take (k + 1)=l.take k ++ [l[k]]:=by
 rw [List.take_add_one,List.getElem?_eq_getElem hk]
 rfl
section
variable {w w' : World} {pf : Nat} {R : Rf} {S : Fs}
set_option maxRecDepth 100000 in
set_option maxHeartbeats 8000000 in
theorem rall_any (h : RfAt w pf R S) {N : Nat} (hk : FsOk S N) (hp : Pl S) (hl : S.ns.length≤100000) (hd : R.dd=.bool false) (u : Us) (ht : u.data.size≤100000) (hu0 : -9223372036854775808≤u.u) (hu1 : u.u≤9223372036854775807) :
  Calls Tryz.prog 34 #[.pointer (some ⟨pf,0,none⟩),.agg #[.int .i64 u.u,.int .i64 u.g,.string u.data]] w fun e w'=>∃ v,e=.returned v∧OCn w' w.heap.size v (S.allCn false u)∧Below w.heap.size w w':=by
 have hX:=Blk.new w #[.int .i64 u.u,.int .i64 u.g,.string u.data] 70
 have hbX:=balloc (Below.refl w.heap.size w) (.cells #[.int .i64 u.u,.int .i64 u.g,.string u.data] 70)
 have HD:=Lib.hid (fun w1 (hb1 : Below w.heap.size w w1)=>rdata_any (h.keep hb1) hk hd u ht)
 have HOp:=Lib.hid (fun w1 (hb1 : Below w.heap.size w w1) p=>ropen30_any (h.keep hb1) hk hp hl hd u p)
 have HPl:=Lib.hid (fun w1 (hb1 : Below w.heap.size w w1) top path=>rplaces_any (h.keep hb1) hk hd u hu0 hu1 top path)
 have HRo:=Lib.hid (fun w1 (hb1 : Below w.heap.size w w1) d=>rroot_any (h.keep hb1) d)
 have HWh:=Lib.hid (fun w1 (hb1 : Below w.heap.size w w1) no=>rwhere_any (h.keep hb1) hk hp hl no)
 obtain⟨da,dc,hdv,hdc1,hdc2⟩:=h.dform
 have hblk:=h.blk
 rw [hdv] at hblk
 obtain⟨pc,-,pz⟩:=hblk.facts
 have HPC:=Lib.hid (fun w1 (hb1 : Below w.heap.size w w1)=>show w1.cell? ⟨pf,1,none⟩=some (.slice da S.ds.length dc) from (hb1.cell (p:=⟨pf,1,none⟩) pz).trans (pc 1))
 have HAll:=Lib.hid (show S.allCn false u=(S.topsK S.ds.length).foldl (S.topCn false u) (S.homeL false u) from rfl)
 have hd8:=hk.d8
 generalize S.allCn false u=out at HAll ⊢
 have HH:=Lib.hid (show S.homeL false u=if (S.dataF false u).2=0 then (if (S.openF false u ⟨(S.dataF false u).1,nHome,⟨#[]⟩⟩).2=0 then [(S.openF false u ⟨(S.dataF false u).1,nHome,⟨#[]⟩⟩).1] else []) else [] from rfl)
 generalize S.homeL false u=L0 at HAll HH
 generalize S.dataF false u=r at HD HH
 obtain⟨no,e1⟩:=r
 dsimp only at HD HH
 clear h hk hp hl hd hblk pc pz hdv ht
 go_enter Tryz.func34,Tryz.ntmps34
 go_upto_region 1 with fail
 generalize w.alloc (.cells #[.int .i64 u.u,.int .i64 u.g,.string u.data] 70)=w0 at hX hbX ⊢
 have HX:=Lib.hid hX
 have HB0:=Lib.hid hbX
 obtain⟨xc,xf,xz⟩:=hX.facts
 clear hX hbX
 go_wp2_with fail
 refine (HD.out _ HB0.out).mono ?_
 rintro e w1 ⟨rfl,hb1⟩
 have HB1:=Lib.hid (bnext HB0.out hb1)
 have HX1:=Lib.hid (HX.out.keep hb1)
 clear hb1 xc xf xz
 go_upto_if 24 with fail
 go_cut [5] (fun t5 wx=>OCn wx w.heap.size t5 L0∧L0.length≤1∧Below w1.heap.size w1 wx)
 case first=>
  by_cases h0 : e1=0
  ·subst h0
   have HH1:=Lib.hid (HH.out.trans (if_pos rfl))
   have HOk:=Lib.hid (HOp.out _ HB1.out ⟨no,nHome,⟨#[]⟩⟩)
   generalize S.openF false u ⟨no,nHome,⟨#[]⟩⟩=q at HOk HH1
   obtain⟨x,e2⟩:=q
   unfold Cn.v nHome at HOk
   dsimp only at HOk HH1
   obtain⟨xc,xf,xz⟩:=HX1.out.facts
   go_wp2_with fail
   refine HOk.out.mono ?_
   rintro e w2 ⟨rfl,hb2⟩
   have hC:=Blk.new w2 #[.string x.path,.int .i64 x.dir,.int .i64 x.info,.int .i64 x.files,.int .i64 x.out,.int .i64 x.way,.string x.top] 93
   have hbC:=balloc hb2 (.cells #[.string x.path,.int .i64 x.dir,.int .i64 x.info,.int .i64 x.files,.int .i64 x.out,.int .i64 x.way,.string x.top] 93)
   clear hb2 xc xf xz
   go_upto_if 34 with fail
   generalize w2.alloc (.cells #[.string x.path,.int .i64 x.dir,.int .i64 x.info,.int .i64 x.files,.int .i64 x.out,.int .i64 x.way,.string x.top] 93)=w3 at hC hbC ⊢
   have HBC:=Lib.hid hbC
   obtain⟨cc,cf,cz⟩:=hC.facts
   clear hC hbC
   by_cases h2 : e2=0
   ·subst h2
    have HH2:=Lib.hid (HH1.out.trans (if_pos rfl))
    obtain⟨g,cap,W,k1,k2,k3⟩:=(OCn.nil w3 w.heap.size).app x (by decide) (Nat.le_trans HB1.out.size HBC.out.size)
    have HA:=Lib.hid k1
    have HZ:=Lib.hid (And.intro k2 k3)
    clear k1 k2 k3
    go_wp2_with (at_builtin;refine wpList_app_run rfl rfl rfl rfl HA.out ?_)
    go_meet
    rw [HH2.out]
    exact⟨HZ.out.1,by simp,HBC.out.trans (HZ.out.2.below (fun k hk=>by cases hk) HBC.out.size)⟩
   ·have h2' : (e2 == 0)=false:=by simpa using h2
    have HH2:=Lib.hid (HH1.out.trans (if_neg h2))
    clear h2
    go_wp2_with fail
    go_meet
    rw [HH2.out]
    exact⟨OCn.nil _ _,by simp,HBC.out⟩
  ·have h0' : (e1 == 0)=false:=by simpa using h0
   have HH1:=Lib.hid (HH.out.trans (if_neg h0))
   clear h0
   go_wp2_with fail
   go_meet
   rw [HH1.out]
   exact⟨OCn.nil _ _,by simp,Below.refl _ _⟩
 case rest=>
  obtain⟨hO2,hL1,hb2⟩:=hcut
  generalize wc=w2 at hO2 hb2 ⊢
  have HO2:=Lib.hid hO2
  have HL1:=Lib.hid hL1
  have HB2:=Lib.hid (HB1.out.trans (hb2.mono HB1.out.size))
  have HX2:=Lib.hid (HX1.out.keep hb2)
  clear hO2 hL1 hb2
  go_wp2_with fail
  go_loopw [5,10] (fun t5 t10 wr=>∃ j : Nat,j≤S.ds.length∧t10=.int .i64 ((j : Int) + 1)∧OCn wr w.heap.size t5 ((S.topsK j).foldl (S.topCn false u) L0)∧Blk wr w.heap.size #[.int .i64 u.u,.int .i64 u.g,.string u.data] 70∧Below w.heap.size w wr) (fun _ t10 _=>S.ds.length + 1 - (intOf t10).toNat)
  case atStart=>exact ⟨0,Nat.zero_le _,rfl,HO2.out,HX2.out,HB2.out⟩
  case round=>
   obtain⟨j,hj,rfl,hO,hX,hb⟩:=hrel
   have hOl : ((S.topsK j).foldl (S.topCn false u) L0).length≤17:=by
    have h1:=topCns_len (S:=S) (d:=false) (u:=u) (S.topsK j) L0
    have h2:=topsK_len S j
    have h3:=HL1.out
    omega
   have HK:=Lib.hid (topsK_succ S j)
   obtain⟨lj,hlj⟩ : ∃ l,(S.topsK j).foldl (S.topCn false u) L0=l:=⟨_,rfl⟩
   have HLj:=Lib.hid hlj
   rw [hlj] at hO hOl
   have HO:=Lib.hid hO
   have HXr:=Lib.hid hX
   have HB:=Lib.hid hb
   have pc1:=HPC.out _ hb
   clear hO hX hb hlj
   by_cases hlt : j < S.ds.length
   ·have hlt2 : (j : Int) + 1≤(S.ds.length : Int):=by omega
    have HAt:=Lib.hid (show S.topAt j=(S.place_ (S.root ((j : Int) + 1))).map fun s=>(S.root ((j : Int) + 1),s) from rfl)
    have HRo1:=Lib.hid (HRo.out wr HB.out ((j : Int) + 1))
    go_wp2_with fail
    refine HRo1.out.mono ?_
    rintro e w4 ⟨rfl,rfl⟩
    have HWh1:=Lib.hid (HWh.out _ HB.out (S.root ((j : Int) + 1)))
    unfold whereV at HWh1
    clear pc1
    go_wp2_with fail
    refine HWh1.out.mono ?_
    rintro e w5 ⟨rfl,hb5⟩
    have HB5:=Lib.hid (bnext HB.out hb5)
    have HO5:=Lib.hid (HO.out.keep hb5)
    have hX5:=HXr.out.keep hb5
    have HX5:=Lib.hid hX5
    clear hb5
    cases hpl : S.place_ (S.root ((j : Int) + 1)) with
    | none=>
     rw [hpl] at HAt
     have HLn:=Lib.hid (show (S.topsK (j + 1)).foldl (S.topCn false u) L0=lj by rw [HK.out,HAt.out,List.foldl_append,HLj.out];rfl)
     clear hpl hX5
     go_wp2_with fail
     go_roundw
     case measure=>simp [intOf];omega
     case rel=>exact ⟨j + 1,by omega,by go_num,by rw [HLn.out];exact HO5.out,HX5.out,HB5.out⟩
    | some s=>
     rw [hpl] at HAt
     have HLn:=Lib.hid (show (S.topsK (j + 1)).foldl (S.topCn false u) L0=(S.placesF false u (S.root ((j : Int) + 1)) s).foldl (S.addCn false u) lj by rw [HK.out,HAt.out,List.foldl_append,HLj.out];rfl)
     have HPl5:=Lib.hid (fun w6 (hb : Below w5.heap.size w5 w6)=>HPl.out w6 (HB5.out.trans (hb.mono HB5.out.size)) (S.root ((j : Int) + 1)) s)
     have HRo6:=Lib.hid (fun w6 (hb : Below w5.heap.size w5 w6)=>HRo.out w6 (HB5.out.trans (hb.mono HB5.out.size)) ((j : Int) + 1))
     have hpl2:=placesF_len S false u (S.root ((j : Int) + 1)) s
     generalize S.placesF false u (S.root ((j : Int) + 1)) s=ps at HLn HPl5 hpl2
     clear hpl
     obtain⟨xc,xf,xz⟩:=hX5.facts
     clear hX5
     go_upto_region 12 with fail
     go_cut [13] (fun t13 wx=>∃ a c,t13=.slice a ps.length c∧OPl 100 wx w5.heap.size t13 ps∧Below w5.heap.size w5 wx)
     case first=>
      go_wp2_with fail
      go_region_held3 (fun w'=>(∀ b o,b < w5.heap.size→w'.cell? ⟨b,o,none⟩=w5.cell? ⟨b,o,none⟩)∧Below w5.heap.size w5 w') (first | with_reducible assumption | with_reducible exact keepS_here _ | with_reducible exact keepS_here2 _ | with_reducible exact keepS_call (by assumption) (by assumption) | with_reducible exact keepS_alloc (by assumption) _ | with_reducible exact keepS_allocD (by assumption) _ | with_reducible exact keepS_realloc (by assumption) (by assumption) | with_reducible exact keepS_set4 (by assumption) (by assumption))
       ((first
        | (go_at_call 14;((with_reducible refine (HRo6.out _ (And.right (by assumption))).mono ?_);rintro e w6 ⟨rfl,rfl⟩))
        | (go_at_call 36;((with_reducible refine (HPl5.out _ (And.right (by assumption))).mono ?_);rintro e w7 ⟨v7,rfl,hP7,hb7⟩;have hl7:=And.right ‹(∀ b o,b < w5.heap.size→_)∧Below w5.heap.size w5 _›;have HP7:=Lib.hid (And.intro hP7 hl7);clear hP7))))
      all_goals
       have hbz : Below w5.heap.size w5 w7:=And.right (by assumption)
       have HBZ:=Lib.hid hbz
       clear hbz
       obtain⟨pa,pcp,rfl,-,-,-⟩:=own_form HP7.out.1
       go_wp2_with fail
       go_meet
       exact⟨pa,pcp,rfl,own_low HP7.out.1 HP7.out.2.size,HBZ.out⟩
     case rest=>
      obtain⟨pa,pcp,rfl,hP,hb6⟩:=hcut
      generalize wc=w6 at hP hb6 ⊢
      have HP6:=Lib.hid hP
      have HO6:=Lib.hid (HO5.out.keep hb6)
      have HX6:=Lib.hid (HX5.out.keep hb6)
      have HB6:=Lib.hid (bnext HB5.out hb6)
      clear hP hb6 xc xf xz
      go_wp2_with fail
      go_loopw [5,14] (fun t5 t14 wq=>∃ i : Nat,i≤ps.length∧t14=.int .i64 i∧OCn wq w.heap.size t5 ((ps.take i).foldl (S.addCn false u) lj)∧OPl 100 wq w5.heap.size (.slice pa ps.length pcp) ps∧Blk wq w.heap.size #[.int .i64 u.u,.int .i64 u.g,.string u.data] 70∧Below w.heap.size w wq) (fun _ t14 _=>ps.length - (intOf t14).toNat)
      case atStart=>exact ⟨0,Nat.zero_le _,rfl,HO6.out,HP6.out,HX6.out,HB6.out⟩
      case round=>
       obtain⟨i,hi,rfl,hO,hP,hX,hb⟩:=hrel
       have HXq:=Lib.hid hX
       have HBq:=Lib.hid hb
       have HOq:=Lib.hid hO
       have HPq:=Lib.hid hP
       by_cases hlt3 : i < ps.length
       ·have hOl2 : ((ps.take i).foldl (S.addCn false u) lj).length≤100:=by
         have h1:=addCns_len (S:=S) (d:=false) (u:=u) (ps.take i) lj
         have h2 : (ps.take i).length≤i:=List.length_take_le _ _
         omega
        obtain⟨b,off,rfl,hbl,hc⟩:=slice_row plC_len hP.at i hlt3
        have c0 : wr.cell? ⟨b,off + i * 3,none⟩=some (.int .i64 ps[i].dir):=hc 0 (by decide)
        have c1 : wr.cell? ⟨b,off + i * 3 + 1,none⟩=some (.string ps[i].name):=hc 1 (by decide)
        have c2 : wr.cell? ⟨b,off + i * 3 + 2,none⟩=some (.string ps[i].top):=hc 2 (by decide)
        have HTk:=Lib.hid (show (ps.take (i + 1)).foldl (S.addCn false u) lj=if (S.openF false u ps[i]).2=0 then putCn ((ps.take i).foldl (S.addCn false u) lj) (S.openF false u ps[i]).1 else (ps.take i).foldl (S.addCn false u) lj by rw [take_snoc ps i hlt3,List.foldl_append];rfl)
        have HOk:=Lib.hid (fun w8 (hb8 : Below wr.heap.size wr w8)=>HOp.out w8 (HBq.out.trans (hb8.mono HBq.out.size)) ps[i])
        generalize ps[i]=p at c0 c1 c2 HTk HOk
        generalize S.openF false u p=q at HTk HOk
        generalize (ps.take i).foldl (S.addCn false u) lj=lq at HOq HTk hOl2
        obtain⟨x,e2⟩:=q
        unfold Cn.v at HOk
        dsimp only at HTk HOk
        obtain⟨xc,xf,xz⟩:=hX.facts
        clear hc hX hb hO hP
        go_upto_region 16 with fail
        go_cut [15,16] (fun t15 t16 wx=>∃ Bd : Nat,t15=.pointer (some ⟨Bd,0,none⟩)∧t16=.int .i64 e2∧Blk wx Bd #[.string x.path,.int .i64 x.dir,.int .i64 x.info,.int .i64 x.files,.int .i64 x.out,.int .i64 x.way,.string x.top] 93∧Below wr.heap.size wr wx)
        case first=>
         go_wp2_with fail
         have hzz : wr.heap.size≤wr.heap.size:=Nat.le_refl _
         go_region_held3 (fun w'=>(∀ b o,b < wr.heap.size→w'.cell? ⟨b,o,none⟩=wr.cell? ⟨b,o,none⟩)∧Below wr.heap.size wr w') (first | with_reducible exact keepS_set7 (by assumption) (by assumption) | (first | with_reducible assumption | with_reducible exact keepS_here _ | with_reducible exact keepS_here2 _ | with_reducible exact keepS_call (by assumption) (by assumption) | with_reducible exact keepS_alloc (by assumption) _ | with_reducible exact keepS_allocD (by assumption) _ | with_reducible exact keepS_realloc (by assumption) (by assumption) | with_reducible exact keepS_set4 (by assumption) (by assumption)))
          ((go_at_call 38;((with_reducible refine (HOk.out _ (And.right ‹(∀ b o,b < wr.heap.size→_)∧Below wr.heap.size wr _›)).mono ?_);rintro e w9 ⟨rfl,hb9⟩;have hz9:=Nat.le_trans (And.right ‹(∀ b o,b < wr.heap.size→_)∧Below wr.heap.size wr _›).size hb9.size;try (have hbq:=new_drew hb9;obtain ⟨bqc,bqf,bqz⟩:=hbq.facts))))
         all_goals
          obtain⟨-,hS4⟩:=‹_∧Below wr.heap.size wr _›
          have HS4:=Lib.hid hS4
          try (have HQ4:=Lib.hid hbq)
          clear hS4
          go_wp2_with fail
          go_meet
          exact⟨_,rfl,rfl,by first | exact HQ4.out.set7 | exact Blk.new _ _ _,HS4.out⟩
        case rest=>
         obtain⟨Bd,rfl,rfl,hDX,hb9⟩:=hcut
         generalize wc=w9 at hDX hb9 ⊢
         have HX9:=Lib.hid (HXq.out.keep hb9)
         have HO9:=Lib.hid (HOq.out.keep hb9)
         have HP9:=Lib.hid (HPq.out.keep hb9)
         have HB9:=Lib.hid (bnext HBq.out hb9)
         obtain⟨dc',df',dz'⟩:=hDX.facts
         clear hb9 hDX xc xf xz c0 c1 c2
         by_cases h2 : e2=0
         ·subst h2
          have HT2:=Lib.hid (HTk.out.trans (if_pos rfl))
          have HPu:=Lib.hid (rput_cn w9 w.heap.size _ lq x HO9.out (by omega) HB9.out.size)
          go_wp2_with fail
          refine HPu.out.mono ?_
          rintro e w10 ⟨v',rfl,hO10,hm⟩
          have HX10:=Lib.hid (own_blk HO9.out (by decide) HX9.out hm)
          have HP10:=Lib.hid (own_mod HP9.out hm (fun k hk=>own_apart HO9.out HP9.out (by decide) hk))
          have HB10:=Lib.hid (HB9.out.trans (hm.below (fun k hk=>(own_obj1 HO9.out hk).1) HB9.out.size))
          have HO10:=Lib.hid hO10
          clear hO10 hm
          go_wp2_with fail
          go_roundw
          case measure=>simp [intOf];omega
          case rel=>exact ⟨i + 1,by omega,by go_num,by rw [HT2.out];exact HO10.out,HP10.out,HX10.out,HB10.out⟩
         ·have h2' : (e2 == 0)=false:=by simpa using h2
          have HT2:=Lib.hid (HTk.out.trans (if_neg h2))
          clear h2
          go_wp2_with fail
          go_roundw
          case measure=>simp [intOf];omega
          case rel=>exact ⟨i + 1,by omega,by go_num,by rw [HT2.out];exact HO9.out,HP9.out,HX9.out,HB9.out⟩
       ·obtain rfl : i=ps.length:=by omega
        rw [List.take_length] at hO
        have HOz:=Lib.hid hO
        clear hO hP hX hb
        go_wp2_with fail
        go_roundw
        case measure=>simp [intOf];omega
        case rel=>exact ⟨j + 1,by omega,by go_num,by rw [HLn.out];exact HOz.out,HXq.out,HBq.out⟩
   ·obtain rfl : j=S.ds.length:=by omega
    have hlt2 : ¬ (S.ds.length : Int) + 1≤(S.ds.length : Int):=by omega
    have HE:=Lib.hid (show out=lj by rw [HAll.out,HLj.out])
    go_wp2_with fail
    go_ret
    rw [HE.out]
    exact⟨_,rfl,HO.out,HB.out⟩
end
end Go.Proofs.YtihdbncoijhihaaGreatDoor
namespace Go.Proofs.YtihdbncoijhihaaGreatDoor
open Go.RowKit Go.Shelf
attribute [local go_sem] Oper.semAt_some
theorem int_info2 : (Tryz.prog.info? 3).map (fun i=>(i.zero,i.size,i.bytes))=some (some (.int .i64 0),1,8):=by kernel_rfl
def ONo (w : World) (base : Nat) (v : Value) (l : List Int) : Prop:=w.ownsRow base 3 1 v l.length (l.map (Value.int .i64))
theorem ONo.nil (w : World) (base : Nat) : ONo w base (.slice none 0 0) []:=⟨rfl,.inl ⟨rfl,rfl⟩⟩
theorem ONo.appK {w : World} {base : Nat} {v : Value} {ls : List Int} (h : ONo w base v ls) (l : Int) (hl : ls.length≤1000000) (hb : base≤w.heap.size) :
  ∃ g cap W,(Builtin.append_ #[37,37] 37 #[v,.slice (some ⟨w.heap.size,0,none⟩) 1 1]).run Tryz.prog (w.alloc (.cells #[.int .i64 l] 3))=.ok (.slice (some ⟨g,0,none⟩) (ls.length + 1) cap) W∧
   ONo W base (.slice (some ⟨g,0,none⟩) (ls.length + 1) cap) (ls ++ [l])∧Below base w W∧KeepsOthers w W∧Mod (fun k=>v.ownBlock=some k) w W∧(v.ownBlock=some g∨w.heap.size≤g):=by
 obtain⟨i0,hi,hz0,hz1,hz2⟩:=info_parts int_info2
 have ho:=World.ownsRow.alloc h (.cells #[.int .i64 l] 3)
 obtain⟨g,cap,W,h1,h2,h3,h4⟩:=step_app 37 Tryz.underlying37 hi hz0 hz1 hz2 rfl (by omega) ho ⟨w.heap.size,0,none⟩ 1 1 [.int .i64 l] rfl (World.news_of_block (Blk.new w #[.int .i64 l] 3)) (by intro u hu;simp at hu;subst hu;rfl) (by omega) (by unfold maxLen;omega) (by omega) (by simp;omega)
 refine ⟨g,cap,W,h1,?_,?_,(KeepsOthers.alloc _ _).trans (keeps_mod1 h3 (fun k hk=>by obtain ⟨-,cur,hc⟩:=own_obj1 ho hk;exact ⟨_,_,_,hc⟩)),(Mod.refl _ w).alloc _ |>.trans h3,h4.imp id (fun h=>by rw [h];simp)⟩
 ·unfold ONo
  rw [List.length_append,List.length_singleton,List.map_append]
  exact h2
 ·refine (((Below.refl base w).alloc hb _)).trans (h3.below (fun k hk=>(own_obj1 ho hk).1) (by simp;omega))
theorem OS.appM {w : World} {base : Nat} {v : Value} {ls : List (List UInt8)} (h : OS w base v ls) (l : List UInt8) (hl : ls.length≤1000000) (hb : base≤w.heap.size) :
  ∃ g cap W,(Builtin.append_ #[38,38] 38 #[v,.slice (some ⟨w.heap.size,0,none⟩) 1 1]).run Tryz.prog (w.alloc (.cells #[.string (str l)] 9))=.ok (.slice (some ⟨g,0,none⟩) (ls.length + 1) cap) W∧
   OS W base (.slice (some ⟨g,0,none⟩) (ls.length + 1) cap) (ls ++ [l])∧Below base w W∧KeepsOthers w W∧Mod (fun k=>v.ownBlock=some k) w W∧(v.ownBlock=some g∨w.heap.size≤g):=by
 obtain⟨i0,hi,hz0,hz1,hz2⟩:=info_parts str_info
 have ho:=World.ownsRow.alloc h (.cells #[.string (str l)] 9)
 obtain⟨g,cap,W,h1,h2,h3,h4⟩:=step_app 38 Tryz.underlying38 hi hz0 hz1 hz2 rfl (by omega) ho ⟨w.heap.size,0,none⟩ 1 1 [.string (str l)] rfl (World.news_of_block (Blk.new w #[.string (str l)] 9)) (by intro u hu;simp at hu;subst hu;rfl) (by omega) (by unfold maxLen;omega) (by omega) (by simp;omega)
 refine ⟨g,cap,W,h1,?_,?_,(KeepsOthers.alloc _ _).trans (keeps_mod1 h3 (fun k hk=>by obtain ⟨-,cur,hc⟩:=own_obj1 ho hk;exact ⟨_,_,_,hc⟩)),(Mod.refl _ w).alloc _ |>.trans h3,h4.imp id (fun h=>by rw [h];simp)⟩
 ·unfold OS
  rw [List.length_append,List.length_singleton,List.flatMap_append]
  exact h2
 ·refine (((Below.refl base w).alloc hb _)).trans (h3.below (fun k hk=>(own_obj1 ho hk).1) (by simp;omega))
theorem ONo.turn {w w' : World} {base : Nat} {v : Value} {ls : List Int} (h : ONo w base v ls) (ht : ∀ k cur,base≤k→w.heap[k]? = some (.cells cur 3 (0,0))→w'.heap[k]? = some (.cells cur 3 (0,0))) : ONo w' base v ls:=
 ⟨h.1,h.2.imp id fun ⟨g,cap,cur,hv,hb,hg,rest⟩=>⟨g,cap,cur,hv,hb,ht _ _ hb hg,rest⟩⟩
theorem ONo.low {w : World} {base base' : Nat} {v : Value} {ls : List Int} (h : ONo w base v ls) (hb : base'≤base) : ONo w base' v ls:=
 ⟨h.1,h.2.imp id fun ⟨g,cap,cur,hv,hg,rest⟩=>⟨g,cap,cur,hv,Nat.le_trans hb hg,rest⟩⟩
theorem blk_tN {N : Nat} {A B : World} {b : Nat} {vs : Array Value} {T : TypeId} (h : Blk A b vs T) (ht : Turn NoT N notCells A B) : Blk B b vs T:=ht.block b _ h (fun h=>h) (fun _=>rfl)
theorem below_tN {N M : Nat} {w0 A B : World} (h : Below M w0 A) (ht : Turn NoT N notCells A B) (hN : M≤N) (hM : M≤w0.heap.size) : Below M w0 B:=by
 refine ⟨ht.os.trans h.os,ht.tape.trans h.tape,ht.output.trans h.output,Nat.le_trans h.size ht.size,fun k hk=>?_⟩
 obtain⟨o,ho⟩ : ∃ o,w0.heap[k]? = some o:=⟨w0.heap[k]'(by omega),Array.getElem?_eq_getElem _⟩
 have h1:=(h.block k hk).trans ho
 rw [ht.block k o h1 (fun h=>h) (fun h=>by omega),ho]
theorem is_kids (T T' : TypeId) (h : T≠T') {w : World} {k : Nat} {c c' : Array Value} (h1 : w.heap[k]? = some (.cells c T (0,0))) (h2 : w.heap[k]? = some (.cells c' T' (0,0))) : False:=by
 rw [h1] at h2
 injection h2 with h2
 injection h2 with e1 e2 e3
 exact h e2
def Fs.topNo (l : List (Int × ByteArray)) : List Int:=l.map (·.1)
def Fs.topTx (l : List (Int × ByteArray)) : List (List UInt8):=l.map (fun x=>x.2.data.toList)
structure TI (w : World) (B : Nat) (pre : List (Int × ByteArray)) (W : World) : Prop where
 a : ∃ va,Blk W w.heap.size #[va] 37∧ONo W B va (Fs.topNo pre)
 b : ∃ vb,Blk W (w.heap.size + 1) #[vb] 38∧OS W B vb (Fs.topTx pre)
 below : Below w.heap.size w W
theorem topsL_len (S : Fs) : S.topsL.length≤S.ds.length:=by
 unfold Fs.topsL Fs.topsK
 exact Nat.le_trans (List.length_filterMap_le _ _) (by simp)
theorem TI.turn {w A C : World} {B N : Nat} {pre : List (Int × ByteArray)} (h : TI w B pre A) (ht : Turn NoT N notCells A C) (hN : w.heap.size≤N) : TI w B pre C:=by
 obtain⟨⟨va,a1,a2⟩,⟨vb,b1,b2⟩,hb⟩:=h
 exact⟨⟨va,blk_tN a1 ht,a2.turn (fun k cur _ hc=>blk_tN hc ht)⟩,⟨vb,blk_tN b1 ht,b2.turn (fun k cur _ hc=>blk_tN hc ht)⟩,below_tN hb ht hN (Nat.le_refl _)⟩
theorem TI.push {w W : World} {B : Nat} {pre : List (Int × ByteArray)} (h : TI w B pre W) (x : Int × ByteArray) (hB : w.heap.size + 1 + 1=B) (hl : pre.length≤1000000) (hW : B≤W.heap.size) :
  ∃ va vb g1 c1 W1 g2 c2 W2,Blk W w.heap.size #[va] 37∧
   (Builtin.append_ #[37,37] 37 #[va,.slice (some ⟨W.heap.size,0,none⟩) 1 1]).run Tryz.prog (W.alloc (.cells #[.int .i64 x.1] 3))=.ok (.slice (some ⟨g1,0,none⟩) (pre.length + 1) c1) W1∧
   Blk W1 w.heap.size #[va] 37∧
   Blk (W1.setCell ⟨w.heap.size,0,none⟩ (.slice (some ⟨g1,0,none⟩) (pre.length + 1) c1)) (w.heap.size + 1) #[vb] 38∧
   (Builtin.append_ #[38,38] 38 #[vb,.slice (some ⟨W1.heap.size,0,none⟩) 1 1]).run Tryz.prog ((W1.setCell ⟨w.heap.size,0,none⟩ (.slice (some ⟨g1,0,none⟩) (pre.length + 1) c1)).alloc (.cells #[.string x.2] 9))=.ok (.slice (some ⟨g2,0,none⟩) (pre.length + 1) c2) W2∧
   Blk W2 (w.heap.size + 1) #[vb] 38∧
   TI w B (pre ++ [x]) (W2.setCell ⟨w.heap.size + 1,0,none⟩ (.slice (some ⟨g2,0,none⟩) (pre.length + 1) c2))∧
   KeepsOthers W (W2.setCell ⟨w.heap.size + 1,0,none⟩ (.slice (some ⟨g2,0,none⟩) (pre.length + 1) c2))∧
   Below w.heap.size W (W2.setCell ⟨w.heap.size + 1,0,none⟩ (.slice (some ⟨g2,0,none⟩) (pre.length + 1) c2)):=by
 obtain⟨⟨va,a1,a2⟩,⟨vb,b1,b2⟩,hb⟩:=h
 have hn1 : (Fs.topNo pre).length=pre.length:=List.length_map _
 have hn2 : (Fs.topTx pre).length=pre.length:=List.length_map _
 obtain⟨g1,c1,W1,r1,o1,l1,k1,m1,-⟩:=a2.appK x.1 (by rw [hn1];exact hl) hW
 rw [hn1] at r1 o1
 have A1:=a1.keepB l1 (by omega)
 have B1:=b1.keepB l1 (by omega)
 have s1:=b2.turn (w':=W1) (fun k cur hk hc=>(m1.block k (Array.getElem?_eq_some_iff.1 hc).1 (fun ho=>by
  obtain⟨-,cur',hc'⟩:=own_obj1 a2 ho
  exact is_kids 3 9 (by decide) hc' hc)).trans hc)
 obtain⟨W1',hW1'⟩ : ∃ W1',W1'=W1.setCell ⟨w.heap.size,0,none⟩ (.slice (some ⟨g1,0,none⟩) (pre.length + 1) c1):=⟨_,rfl⟩
 have hm1 : Mod (fun k=>k=w.heap.size) W1 W1':=by rw [hW1'];exact (Mod.refl (fun k=>k=w.heap.size) W1).setCell (a:=⟨w.heap.size,0,none⟩) (.inl rfl) _
 have A1' : Blk W1' w.heap.size #[.slice (some ⟨g1,0,none⟩) (pre.length + 1) c1] 37:=by rw [hW1'];exact A1.set 0 _
 have B1' : Blk W1' (w.heap.size + 1) #[vb] 38:=B1.mod hm1 (by omega)
 have s1' : OS W1' B vb (Fs.topTx pre):=s1.turn (fun k cur hk hc=>(hm1.block k (Array.getElem?_eq_some_iff.1 hc).1 (by omega)).trans hc)
 have o1' : ONo W1' B (.slice (some ⟨g1,0,none⟩) (pre.length + 1) c1) (Fs.topNo pre ++ [x.1]):=o1.turn (fun k cur hk hc=>(hm1.block k (Array.getElem?_eq_some_iff.1 hc).1 (by omega)).trans hc)
 have hW1s : B≤W1'.heap.size:=Nat.le_trans (Nat.le_trans hW l1.size) hm1.size
 have k1' : KeepsOthers W W1':=k1.trans (by rw [hW1'];exact KeepsOthers.setCell _ _ _)
 have l1' : Below w.heap.size W W1':=(l1.mono (by omega)).trans (hm1.below (fun k hk=>by omega) (by have:=l1.size;omega))
 obtain⟨g2,c2,W2,r2,o2,l2,k2,m2,-⟩:=s1'.appM x.2.data.toList (by rw [hn2];exact hl) hW1s
 rw [hn2] at r2 o2
 rw [str_of,show W1'.heap.size=W1.heap.size by rw [hW1'];simp] at r2
 have A2:=A1'.keepB l2 (by omega)
 have B2:=B1'.keepB l2 (by omega)
 have o2' : ONo W2 B (.slice (some ⟨g1,0,none⟩) (pre.length + 1) c1) (Fs.topNo pre ++ [x.1]):=o1'.turn (fun k cur hk hc=>(m2.block k (Array.getElem?_eq_some_iff.1 hc).1 (fun ho=>by
  obtain⟨-,cur',hc'⟩:=own_obj1 s1' ho
  exact is_kids 9 3 (by decide) hc' hc)).trans hc)
 obtain⟨W2',hW2'⟩ : ∃ W2',W2'=W2.setCell ⟨w.heap.size + 1,0,none⟩ (.slice (some ⟨g2,0,none⟩) (pre.length + 1) c2):=⟨_,rfl⟩
 have hm2 : Mod (fun k=>k=w.heap.size + 1) W2 W2':=by rw [hW2'];exact (Mod.refl (fun k=>k=w.heap.size + 1) W2).setCell (a:=⟨w.heap.size + 1,0,none⟩) (.inl rfl) _
 have l2' : Below w.heap.size W W2':=l1'.trans ((l2.mono (by omega)).trans (hm2.below (fun k hk=>by omega) (by have:=l2.size;omega)))
 have B2' : Blk W2' (w.heap.size + 1) #[.slice (some ⟨g2,0,none⟩) (pre.length + 1) c2] 38:=by rw [hW2'];exact B2.set 0 _
 have k2' : KeepsOthers W W2':=k1'.trans (k2.trans (by rw [hW2'];exact KeepsOthers.setCell _ _ _))
 subst hW1'
 refine ⟨va,vb,g1,c1,W1,g2,c2,W2,a1,r1,A1,B1',r2,B2,?_⟩
 rw [← hW2']
 refine ⟨⟨⟨_,A2.mod hm2 (by omega),?_⟩,⟨_,B2',?_⟩,hb.trans l2'⟩,k2',l2'⟩
 ·unfold Fs.topNo
  rw [List.map_append]
  exact o2'.turn (fun k cur hk hc=>(hm2.block k (Array.getElem?_eq_some_iff.1 hc).1 (by omega)).trans hc)
 ·unfold Fs.topTx
  rw [List.map_append]
  exact o2.turn (fun k cur hk hc=>(hm2.block k (Array.getElem?_eq_some_iff.1 hc).1 (by omega)).trans hc)
end Go.Proofs.YtihdbncoijhihaaGreatDoor
