import Derived.OrdersHeld
import Derived.Test.YtihdbncoijhihaaGreatDoorCT46
import Derived.Test.YtihdbncoijhihaaGreatDoorCT36
import Derived.Test.YtihdbncoijhihaaGreatDoorCT1
set_option linter.unusedVariables false
set_option linter.unusedSimpArgs false
namespace Go.Proofs.YtihdbncoijhihaaGreatDoor
open Go.RowKit
def tkKind (o : Obj) : Bool:=match o with
 | .cells _ t _=>t == 196 || t == 263 || t == 243 || t == 113 || t == 33 || t == 177
 | .map _ _=>true
 | _=>false
def TK (w : World) (k : Nat) : Prop:=∃ o,w.heap[k]? = some o∧tkKind o=true
theorem tk_lt {w : World} {k : Nat} (h : TK w k) : k < w.heap.size:=by
 obtain⟨o,h,-⟩:=h
 exact (Array.getElem?_eq_some_iff.1 h).1
theorem tk_blk {w w' : World} {B : Nat} {vs : Array Value} {T : TypeId} (h : Blk w B vs T) (hT : tkKind (.cells vs T (0,0))=true) (hk : KT (TK w) w w') : Blk w' B vs T:=(hk.2 B ⟨_,h,hT⟩).trans h
theorem tk_wd {w w' : World} {pw : Nat} {R : Rp} {S : Fs} (h : WdAt w pw R S) (hk : KT (TK w) w w') : WdAt w' pw R S:=
 h.turn (fun k o ho hor=>hk.2 k ⟨o,ho,by
  rcases hor with h1 | ⟨cur,rfl⟩
  ·cases o <;> simp [wdKind,tkKind] at h1 ⊢
   rcases h1 with (h1 | h1) | h1 <;> simp [h1]
  ·rfl⟩) hk.1
theorem tk_not {w w' : World} (hk : KT (TK w) w w') {k : Nat} {o : Obj} (ho : w'.heap[k]? = some o) (hn : tkKind o=false) : ¬ TK w k:=fun h=>by
 obtain⟨o',h1,h2⟩:=h
 have h3:=hk.2 k ⟨o',h1,h2⟩
 rw [ho,h1] at h3
 injection h3 with h3
 subst h3
 rw [hn] at h2
 cases h2
set_option maxRecDepth 100000 in
set_option maxHeartbeats 2000000 in
theorem all_stopsU {pf pw : Nat} {R : Rp} {pv : Value} {Y : Sy} (n : Nat) (hn : 1≤n) (Bs : Nat) (w : World) (hs : Blk w Bs #[.pointer (some ⟨pf,0,none⟩)] 33) (h : SyAt w pf pw R pv Y) {N : Nat} (hk : FsOk Y.fs N) (hp : Pl Y.fs) (hl : Y.fs.ns.length≤100000) :
  SeqU (TK w) Fence.wide n Tryz.prog 145 #[.pointer (some ⟨Bs,0,none⟩)] (fun x : Int × ByteArray=>#[.int .i64 x.1,.string x.2])
   (fun xs=>xs=Y.fs.topsL) (fun pre=>True) (fun pre x=>(pre ++ [x]) <+: Y.fs.topsL) w:=fun L J Jx W hW hWs hJ hJx hY h0=>by
 have Hs:=Lib.hid (fun w1 (hb : KT (TK w) w w1)=>(tk_blk hs (by rfl) hb).facts)
 have HDv:=Lib.hid (fun w1 (hb : KT (TK w) w w1)=>wdevs_any (tk_wd h.wd hb) hk.d1)
 have HRo:=Lib.hid (fun w1 (hb : KT (TK w) w w1) d=>wroot_any (tk_wd h.wd hb) hk.d1 d)
 have HWh:=Lib.hid (fun w1 (hb : KT (TK w) w w1) d=>wwhere_any (tk_wd h.wd hb) hk hp hl d)
 have HPC:=Lib.hid (fun w1 (hb1 : KT (TK w) w w1)=>show w1.cell? ⟨pf,0,none⟩=some (.pointer (some ⟨pw,0,none⟩)) from (tk_blk h.blk (by rfl) hb1).facts.1 0)
 obtain⟨S,hS⟩ : ∃ S,Y.fs=S:=⟨_,rfl⟩
 have hd8:=hk.d8
 rw [hS] at HDv HRo HWh hY hd8 ⊢
 have HY:=Lib.hid hY
 have HJ:=Lib.hid hJ
 have HW:=Lib.hid hW
 obtain⟨sc,-,sz⟩:=Hs.out _ hW
 have pc0:=HPC.out _ hW
 clear hs hW hWs hY hJ hJx h hk hp hS
 refine callsIn_of_wp Tryz.func145 rfl trivial ?_ rfl
 simp only [Tryz.ntmps145,List.size_toArray,List.length_cons,List.length_nil,Nat.reduceAdd,Nat.reduceSub,Array.replicate_succ,Array.replicate_zero,List.push_toArray,List.append_toArray,List.nil_append,List.cons_append]
 gi_wp2
 refine ⟨trivial,callsIn_wide.2 ((HDv.out _ HW.out).mono ?_)⟩
 rintro e w1 ⟨rfl,rfl⟩
 gi_wp2
 gi_loopw [21] (fun t21 wr=>∃ k : Nat,k≤S.ds.length∧t21=.int .i64 k∧J (S.topsK k) wr∧KT (TK w) w wr∧W.heap.size≤wr.heap.size) (fun t21 _=>S.ds.length - (intOf t21).toNat)
 case atStart=>exact ⟨0,Nat.zero_le _,rfl,h0,HW.out,Nat.le_refl _⟩
 case round=>
  obtain⟨k,hk,rfl,hJp,hb,hsz⟩:=hrel
  clear sc sz pc0 h0
  have HJp:=Lib.hid hJp
  have HB:=Lib.hid hb
  by_cases hkl : k < S.ds.length
  ·obtain ⟨sc,-,sz⟩:=Hs.out _ hb
   have pc0:=HPC.out _ hb
   have HT:=Lib.hid (topsK_succ S k)
   have HPr:=Lib.hid (topsK_prefix S (show k + 1≤S.ds.length by omega))
   have HAt:=Lib.hid (show S.topAt k=(S.place_ (S.root ((k : Int) + 1))).map fun s=>(S.root ((k : Int) + 1),s) from rfl)
   clear hJp hb
   gi_wp2
   refine ⟨trivial,callsIn_wide.2 ((HRo.out _ HB.out _).mono ?_)⟩
   rintro e w2 ⟨rfl,rfl⟩
   gi_wp2
   refine ⟨trivial,callsIn_wide.2 ((HWh.out _ HB.out _).mono ?_)⟩
   rintro e w3 ⟨rfl,hb3⟩
   have HJ3:=Lib.hid (HJ.out _ _ _ HJp.out (Turn.of_below hb3))
   have HB3:=Lib.hid (HB.out.trans (KT.of_below hb3 (fun k hk=>Nat.lt_of_lt_of_le (tk_lt hk) HB.out.1)))
   have hsz3 : W.heap.size≤w3.heap.size:=Nat.le_trans hsz hb3.size
   unfold whereV
   clear hb3 sc sz pc0
   cases hpl : S.place_ (S.root ((k : Int) + 1)) with
   | none=>
    rw [hpl] at HAt
    have HK:=Lib.hid (show S.topsK (k + 1)=S.topsK k by rw [HT.out,HAt.out];simp)
    clear hpl
    gi_wp2
    refine ⟨fun f hf=>(by cases hf),?_⟩
    gi_wp2
    go_roundw
    case rel=>exact ⟨k + 1,by omega,by go_num,by rw [HK.out];exact HJ3.out,HB3.out,hsz3⟩
    case measure=>simp [intOf];omega
   | some s=>
    rw [hpl] at HAt
    have HK:=Lib.hid (show S.topsK (k + 1)=S.topsK k ++ [(S.root ((k : Int) + 1),s)] by rw [HT.out,HAt.out];rfl)
    obtain⟨fn,tmps,assign,body,hy,hR⟩:=HY.out _ (S.root ((k : Int) + 1),s) _ HJ3.out (by rw [← HK.out];exact HPr.out)
    have HR:=Lib.hid hR
    clear hpl hR
    gi_wp2
    refine HR.out.mono ?_
    rintro e W3 (⟨rfl,hJ3,hk3⟩ | ⟨rfl,hJx3⟩)
    ·have HJ4:=Lib.hid hJ3
     have HB4:=Lib.hid (HB3.out.trans hk3)
     have hsz4 : W.heap.size≤W3.heap.size:=Nat.le_trans hsz3 hk3.1
     clear hJ3 hk3 hy
     gi_wp2
     go_roundw
     case rel=>exact ⟨k + 1,by omega,by go_num,by rw [HK.out];exact HJ4.out,HB4.out,hsz4⟩
     case measure=>simp [intOf];omega
    ·have HJx:=Lib.hid hJx3
     clear hJx3 hy
     gi_wp2
     exact bodyPost_ret (results_none rfl _ _ _) rfl ⟨⟨_,rfl⟩,.inr ⟨_,trivial,HJx.out⟩⟩
  ·obtain rfl : k=S.ds.length:=by omega
   clear hJp hb
   gi_wp2
   go_end0
   exact⟨⟨_,rfl⟩,.inl ⟨_,rfl,HJp.out⟩⟩
structure CAI (w : World) (pf : Nat) (u : Us) (l : List Cn) (W : World) : Prop where
 f : Blk W w.heap.size #[.pointer (some ⟨pf,0,none⟩)] 33
 us : Blk W (w.heap.size + 1) #[.int .i64 u.u,.int .i64 u.g,.string u.data] 70
 o : ∃ v,Blk W (w.heap.size + 2) #[v] 85∧OCn W (w.heap.size + 3) v l
 below : Below w.heap.size w W
section
variable {w W W' : World} {pf : Nat} {u : Us} {l : List Cn}
theorem CAI.keep (h : CAI w pf u l W) (hb : Below W.heap.size W W') : CAI w pf u l W':=by
 obtain⟨v,h1,h2⟩:=h.o
 exact⟨h.f.keep hb,h.us.keep hb,⟨v,h1.keep hb,h2.keep hb⟩,bnext h.below hb⟩
theorem CAI.turn {N : Nat} (h : CAI w pf u l W) (ht : Turn NoT N notCells W W') (hN : w.heap.size≤N) : CAI w pf u l W':=by
 obtain⟨v,h1,h2⟩:=h.o
 refine ⟨blk_tN h.f ht,blk_tN h.us ht,⟨v,blk_tN h1 ht,own_turn h2 (fun k hk=>?_)⟩,below_tN h.below ht hN (Nat.le_refl _)⟩
 obtain⟨-,cur,hc⟩:=own_obj1 h2 hk
 exact (ht.block k _ hc (fun h=>h) (fun _=>rfl)).trans hc.symm
theorem CAI.push (h : CAI w pf u l W) (x : Cn) (hl : l.length≤1000) (hW : w.heap.size + 3≤W.heap.size) {w4 : World} (hk : KT (TK w4) w4 W) :
  ∃ v g c W1,Blk W (w.heap.size + 2) #[v] 85∧
   (Builtin.append_ #[85,85] 85 #[v,.slice (some ⟨W.heap.size,0,none⟩) 1 1]).run Tryz.prog (W.alloc (.cells #[.string x.path,.int .i64 x.dir,.int .i64 x.info,.int .i64 x.files,.int .i64 x.out,.int .i64 x.way,.string x.top] 93))=.ok (.slice (some ⟨g,0,none⟩) (l.length + 1) c) W1∧
   Blk W1 (w.heap.size + 2) #[v] 85∧
   CAI w pf u (l ++ [x]) (W1.setCell ⟨w.heap.size + 2,0,none⟩ (.slice (some ⟨g,0,none⟩) (l.length + 1) c))∧
   KeepsOthers W (W1.setCell ⟨w.heap.size + 2,0,none⟩ (.slice (some ⟨g,0,none⟩) (l.length + 1) c))∧KT (TK w4) w4 (W1.setCell ⟨w.heap.size + 2,0,none⟩ (.slice (some ⟨g,0,none⟩) (l.length + 1) c))∧
   (∀ (B n : Nat) (vp : Value) (ps : List Value),W.ownsRow B 97 3 vp n ps→w.heap.size + 3≤B→(W1.setCell ⟨w.heap.size + 2,0,none⟩ (.slice (some ⟨g,0,none⟩) (l.length + 1) c)).ownsRow B 97 3 vp n ps):=by
 obtain⟨v,h1,h2⟩:=h.o
 obtain⟨g,c,W1,k1,k2,k3⟩:=h2.app x (by omega) hW
 have hf:=own_blk h2 (by decide) h.f k3
 have hu:=own_blk h2 (by decide) h.us k3
 have ho:=own_blk h2 (by decide) h1 k3
 have hb : Below w.heap.size w W1:=h.below.trans (k3.below (fun k hk=>by have:=(own_obj1 h2 hk).1;omega) (by omega))
 have hm : Mod (fun k=>k=w.heap.size + 2) W1 (W1.setCell ⟨w.heap.size + 2,0,none⟩ (.slice (some ⟨g,0,none⟩) (l.length + 1) c)):=(Mod.refl (fun k=>k=w.heap.size + 2) W1).setCell (a:=⟨w.heap.size + 2,0,none⟩) (.inl rfl) _
 have hs1:=k3.size
 refine ⟨v,g,c,W1,h1,k1,ho,⟨hf.mod hm (by omega),hu.mod hm (by omega),⟨_,ho.set 0 _,own_mod k2 hm (fun k hk he=>?_)⟩,hb.trans (hm.below (fun k hk=>by omega) (by omega))⟩,?_,?_,fun B n vp ps hP hB=>own_mod (own_mod hP k3 (fun k hk=>own_apart h2 hP (by decide) hk)) hm (fun k hk he=>by have:=(own_obj1 (own_mod hP k3 (fun k hk=>own_apart h2 hP (by decide) hk)) he).1;omega)⟩
 ·have:=(own_obj1 k2 he).1
  omega
 ·exact (keeps_mod1 k3 (fun k hk=>by obtain ⟨-,cur,hc⟩:=own_obj1 h2 hk;exact ⟨_,_,_,hc⟩)).trans (KeepsOthers.setCell _ _ _)
 ·refine (hk.trans (KT.of_mod k3 (fun k h=>Nat.lt_of_lt_of_le (tk_lt h) hk.1) (fun k h hv=>?_))).trans (KT.of_mod hm (fun k h=>Nat.lt_of_lt_of_le (tk_lt h) (Nat.le_trans hk.1 hs1)) (fun k h he=>?_))
  ·obtain ⟨-,cur,hc⟩:=own_obj1 h2 hv
   exact tk_not hk hc (by rfl) h
  ·subst he
   exact tk_not hk h1 (by rfl) h
end
end Go.Proofs.YtihdbncoijhihaaGreatDoor
namespace Go.Proofs.YtihdbncoijhihaaGreatDoor
open Go.RowKit
attribute [local go_sem] Oper.semAt_some
theorem kf_below {B : Nat} {W W' : World} (h : Below W.heap.size W W') : KeepsFrom B W W':=⟨h.size,fun k o _ hk _=>(h.block k (Array.getElem?_eq_some_iff.1 hk).1).trans hk⟩
theorem kt_between {w A B : World} (h : KT (TK w) w A) (k : KT (TK w) w B) (hs : A.heap.size≤B.heap.size) : KT (TK w) A B:=⟨hs,fun i hi=>(k.2 i hi).trans (h.2 i hi).symm⟩
theorem kt_turn {N : Nat} {w A B : World} (h : KT (TK w) w A) (ht : Turn NoT N notCells A B) (hN : w.heap.size≤N) : KT (TK w) w B:=⟨Nat.le_trans h.1 ht.size,fun k hk=>by
 have hk0:=hk
 obtain⟨o,ho,-⟩:=hk
 have hA:=(h.2 k hk0).trans ho
 exact (ht.block k o hA (fun h=>h) (fun hn=>absurd (tk_lt hk0) (by omega))).trans ho.symm⟩
section
variable {w w' : World} {pf pw : Nat} {R : Rp} {pv : Value} {Y : Sy}
set_option maxRecDepth 100000 in
set_option maxHeartbeats 8000000 in
theorem cansAll_any (h : SyAt w pf pw R pv Y) {N : Nat} (hk : FsOk Y.fs N) (hN : N≤999999) (hp : Pl Y.fs) (hw : Wy Y.fs) (hl : Y.fs.ns.length≤100000) (hd : Y.dead=false) (u : Us) (ht : u.data.size≤100000) (hu0 : -9223372036854775808≤u.u) (hu1 : u.u≤9223372036854775807) :
  Calls Tryz.prog 33 #[.pointer (some ⟨pf,0,none⟩),.agg #[.int .i64 u.u,.int .i64 u.g,.string u.data]] w fun e w'=>∃ v,e=.returned v∧OCn w' w.heap.size v (Y.fs.allCn false u)∧Below w.heap.size w w':=by
 have HD:=Lib.hid (fun w1 (hb1 : Below w.heap.size w w1)=>cdata_any (h.keep hb1) hk hN hp hw hd u ht)
 have HOp:=Lib.hid (fun w1 (hb1 : Below w.heap.size w w1) p=>copen_any (h.keep hb1) hk hN hp hl u p)
 have HPl:=Lib.hid (fun w1 (hb1 : Below w.heap.size w w1) top path=>cplaces_any (h.keep hb1) hk hN hd u hu0 hu1 top path)
 have HSt:=Lib.hid (fun w1 (hb1 : Below w.heap.size w w1)=>all_stopsU 4 (by omega) w1.heap.size (w1.alloc (.cells #[.pointer (some ⟨pf,0,none⟩)] 33)) (Blk.new w1 _ _) ((h.keep hb1).keep (balloc (Below.refl _ _) _)) hk hp hl)
 have HAl:=Lib.hid (all_any pf)
 obtain⟨S,hS⟩ : ∃ S,Y.fs=S:=⟨_,rfl⟩
 rw [hS] at HD HOp HPl HSt ⊢
 rw [hd] at HOp
 have hd8 : S.ds.length≤8:=by rw [← hS];exact hk.d8
 have HAll:=Lib.hid (show S.allCn false u=S.topsL.foldl (S.topCn false u) (S.homeL false u) from rfl)
 have HTl:=Lib.hid (topsL_len S)
 generalize S.allCn false u=out at HAll ⊢
 have HH:=Lib.hid (show S.homeL false u=if (S.dataF false u).2=0 then (if (S.openF false u ⟨(S.dataF false u).1,nHome,⟨#[]⟩⟩).2=0 then [(S.openF false u ⟨(S.dataF false u).1,nHome,⟨#[]⟩⟩).1] else []) else [] from rfl)
 generalize S.homeL false u=L0 at HAll HH
 generalize S.dataF false u=r at HD HH
 obtain⟨no,e1⟩:=r
 dsimp only at HD HH
 clear h hk hp hl hd hw ht hS
 refine (callsIn_wide (n:=5)).1 ?_
 refine callsIn_of_wp_marks Tryz.func33 rfl trivial ?_ rfl
 simp only [Tryz.ntmps33,List.size_toArray,List.length_cons,List.length_nil,Nat.reduceAdd,Nat.reduceSub,Array.replicate_succ,Array.replicate_zero,List.push_toArray,List.append_toArray,List.nil_append,List.cons_append]
 refine wpIn_wide.2 ?_
 have hz1 : (w.alloc (.cells #[.pointer (some ⟨pf,0,none⟩)] 33)).heap.size=w.heap.size + 1:=by simp
 have hz2 : ((w.alloc (.cells #[.pointer (some ⟨pf,0,none⟩)] 33)).alloc (.cells #[.int .i64 u.u,.int .i64 u.g,.string u.data] 70)).heap.size=w.heap.size + 2:=by simp
 have hI0 : CAI w pf u [] (((w.alloc (.cells #[.pointer (some ⟨pf,0,none⟩)] 33)).alloc (.cells #[.int .i64 u.u,.int .i64 u.g,.string u.data] 70)).alloc (.cells #[.slice none 0 0] 85)):=by
  refine ⟨((Blk.new w _ _).old _).old _,?_,⟨_,?_,OCn.nil _ _⟩,balloc (balloc (balloc (Below.refl _ _) _) _) _⟩
  ·have:=(Blk.new (w.alloc (.cells #[.pointer (some ⟨pf,0,none⟩)] 33)) #[.int .i64 u.u,.int .i64 u.g,.string u.data] 70).old (.cells #[.slice none 0 0] 85)
   rwa [hz1] at this
  ·have:=Blk.new ((w.alloc (.cells #[.pointer (some ⟨pf,0,none⟩)] 33)).alloc (.cells #[.int .i64 u.u,.int .i64 u.g,.string u.data] 70)) #[.slice none 0 0] 85
   rwa [hz2] at this
 have hz3 : (((w.alloc (.cells #[.pointer (some ⟨pf,0,none⟩)] 33)).alloc (.cells #[.int .i64 u.u,.int .i64 u.g,.string u.data] 70)).alloc (.cells #[.slice none 0 0] 85)).heap.size=w.heap.size + 3:=by simp
 clear hz1 hz2
 go_upto_region 2 with fail
 generalize ((w.alloc (.cells #[.pointer (some ⟨pf,0,none⟩)] 33)).alloc (.cells #[.int .i64 u.u,.int .i64 u.g,.string u.data] 70)).alloc (.cells #[.slice none 0 0] 85)=w0 at hI0 hz3 ⊢
 have HI0:=Lib.hid hI0
 obtain⟨fc,ff,fz⟩:=hI0.f.facts
 obtain⟨uc,uf,uz⟩:=hI0.us.facts
 clear hI0
 go_wp2_with fail
 refine (HD.out _ HI0.out.below).mono ?_
 rintro e w1 ⟨rfl,hb1⟩
 have HI1:=Lib.hid (HI0.out.keep hb1)
 have hs1 : w.heap.size + 3≤w1.heap.size:=by
  have:=hb1.size
  omega
 clear hb1 fc ff fz uc uf uz hz3
 go_upto_if 23 with fail
 go_cut [] from 16 to 74 (fun wx=>CAI w pf u L0 wx∧L0.length≤1∧w1.heap.size≤wx.heap.size)
 case first=>
  obtain⟨fc,ff,fz⟩:=HI1.out.f.facts
  obtain⟨uc,uf,uz⟩:=HI1.out.us.facts
  by_cases h0 : e1=0
  ·subst h0
   have HH1:=Lib.hid (HH.out.trans (if_pos rfl))
   have HOk:=Lib.hid (HOp.out _ HI1.out.below ⟨no,nHome,⟨#[]⟩⟩)
   generalize S.openF false u ⟨no,nHome,⟨#[]⟩⟩=q at HOk HH1
   obtain⟨x,e2⟩:=q
   unfold Cn.v nHome at HOk
   dsimp only at HOk HH1
   go_wp2_with fail
   refine HOk.out.mono ?_
   rintro e w2 ⟨rfl,hb2⟩
   have hC:=Blk.new w2 #[.string x.path,.int .i64 x.dir,.int .i64 x.info,.int .i64 x.files,.int .i64 x.out,.int .i64 x.way,.string x.top] 93
   have hI2:=(HI1.out.keep hb2).keep (balloc (Below.refl w2.heap.size w2) (.cells #[.string x.path,.int .i64 x.dir,.int .i64 x.info,.int .i64 x.files,.int .i64 x.out,.int .i64 x.way,.string x.top] 93))
   have hs2 : w1.heap.size + 1≤(w2.alloc (.cells #[.string x.path,.int .i64 x.dir,.int .i64 x.info,.int .i64 x.files,.int .i64 x.out,.int .i64 x.way,.string x.top] 93)).heap.size:=by
    have:=hb2.size
    rw [World.size_alloc]
    omega
   clear hb2 fc ff fz uc uf uz
   go_upto_if 33 with fail
   generalize w2.alloc (.cells #[.string x.path,.int .i64 x.dir,.int .i64 x.info,.int .i64 x.files,.int .i64 x.out,.int .i64 x.way,.string x.top] 93)=w3 at hC hI2 hs2 ⊢
   have HI2:=Lib.hid hI2
   obtain⟨cc,cf,cz⟩:=hC.facts
   clear hC hI2
   by_cases h2 : e2=0
   ·subst h2
    have HH2:=Lib.hid (HH1.out.trans (if_pos rfl))
    obtain⟨v,g,c,W1,k1,k2,k3,k4,k5,-⟩:=HI2.out.push x (by decide) (by omega) (KT.refl _ _)
    have HA:=Lib.hid k2
    have HZ:=Lib.hid (And.intro k4 k5)
    obtain⟨oc,of,oz⟩:=k1.facts
    obtain⟨rc,rf,rz⟩:=k3.facts
    clear k1 k2 k3 k4 k5
    go_wp2_with (at_builtin;refine wpList_app_run rfl rfl rfl rfl HA.out ?_)
    go_meet
    rw [HH2.out]
    exact⟨HZ.out.1,by simp,Nat.le_trans (by omega) HZ.out.2.size⟩
   ·have h2' : (e2 == 0)=false:=by simpa using h2
    have HH2:=Lib.hid (HH1.out.trans (if_neg h2))
    clear h2
    go_wp2_with fail
    go_meet
    rw [HH2.out]
    exact⟨HI2.out,by simp,by omega⟩
  ·have h0' : (e1 == 0)=false:=by simpa using h0
   have HH1:=Lib.hid (HH.out.trans (if_neg h0))
   clear h0
   go_wp2_with fail
   go_meet
   rw [HH1.out]
   exact⟨HI1.out,by simp,Nat.le_refl _⟩
 case rest=>
  obtain⟨hI2,hL1,hs2⟩:=hcut
  generalize wc=w2 at hI2 hs2 ⊢
  have HI2:=Lib.hid hI2
  have HL1:=Lib.hid hL1
  have hSt:=HSt.out w2 hI2.below
  have HA2:=Lib.hid (HAl.out w2)
  have hI3:=hI2.keep (balloc (Below.refl w2.heap.size w2) (.cells #[.pointer (some ⟨pf,0,none⟩)] 33))
  have hs3 : w.heap.size + 3≤(w2.alloc (.cells #[.pointer (some ⟨pf,0,none⟩)] 33)).heap.size:=by
   rw [World.size_alloc]
   omega
  obtain⟨fc,ff,fz⟩:=hI2.f.facts
  clear hI2 hL1
  go_wp2_with fail
  refine HA2.out.mono ?_
  rintro e w3 ⟨rfl,hw3⟩
  rw [← hw3] at hSt hI3 hs3
  have HS3:=Lib.hid hSt
  have HI3:=Lib.hid hI3
  clear hSt hI3 hw3 fc ff fz
  go_wp2_with fail
  refine (wpIn_wide (n:=5)).1 ?_
  refine' wpIn_rangeU (T:=TK w3) rfl (by omega) (gf:=145) (lb:=#[.pointer (some ⟨w2.heap.size,0,none⟩)]) rfl trivial (enters_of Tryz.func145 (by kernel_rfl) rfl)
   HS3.out (fun k hk=>tk_lt hk) (KT.refl _ _) (fun _=>rfl)
   (fun pre W=>CAI w pf u (pre.foldl (S.topCn false u) L0) W∧KT (TK w3) w3 W)
   (fun _ _ _=>False)
   (fun pre A B h ht=>⟨h.1.turn ht (by omega),kt_turn h.2 ht (Nat.le_refl _)⟩) (fun c pre A B h ht=>h) ⟨HI3.out,KT.refl _ _⟩ _ ?assign ?body ?done (fun D c pre W _ _ h _=>h.elim)
  case assign=>
   intro L e W K hK
   gi_wp2
   exact hK
  case body=>
   intro lp pre x W hL hLW hI hv
   have hpl : pre.length≤8:=by
    have h1:=hv.length_le
    rw [List.length_append,List.length_singleton] at h1
    have:=HTl.out
    omega
   have hlj : (pre.foldl (S.topCn false u) L0).length≤17:=by
    have h1:=topCns_len (S:=S) (d:=false) (u:=u) pre L0
    have:=HL1.out
    omega
   have HLj:=Lib.hid (show (pre ++ [x]).foldl (S.topCn false u) L0=(S.placesF false u x.1 x.2).foldl (S.addCn false u) (pre.foldl (S.topCn false u) L0) by rw [List.foldl_append];rfl)
   generalize pre.foldl (S.topCn false u) L0=lj at hI hlj HLj
   obtain⟨top,path⟩:=x
   have HPk:=Lib.hid (HPl.out W hI.1.below top path)
   have hp2:=placesF_len S false u top path
   dsimp only at HLj
   generalize S.placesF false u top path=ps at HPk hp2 HLj
   have HI:=Lib.hid hI
   have hWs : w.heap.size + 3≤W.heap.size:=Nat.le_trans hs3 hI.2.1
   obtain⟨fc,ff,fz⟩:=hI.1.f.facts
   obtain⟨uc,uf,uz⟩:=hI.1.us.facts
   clear hI hv hpl
   gi_wp2
   refine ⟨trivial,callsIn_wide.2 (HPk.out.mono ?_)⟩
   rintro e w5 ⟨v5,rfl,hP5,hb5⟩
   obtain⟨pa,pcp,rfl,hq1,hq2,-⟩:=own_form hP5
   have HP5:=Lib.hid (own_low (base':=w.heap.size + 3) hP5 hWs)
   have HI5:=Lib.hid (And.intro (HI.out.1.keep hb5) (HI.out.2.trans (KT.of_below hb5 (fun k h=>Nat.lt_of_lt_of_le (tk_lt h) HI.out.2.1))))
   have HK5:=Lib.hid (kf_below (B:=w3.heap.size) hb5)
   clear hP5 hb5 fc ff fz uc uf uz
   gi_wp2
   gi_loopw [48] (fun t48 wr=>∃ i : Nat,i≤ps.length∧t48=.int .i64 i∧CAI w pf u ((ps.take i).foldl (S.addCn false u) lj) wr∧wr.ownsRow (w.heap.size + 3) 97 3 (.slice pa ps.length pcp) ps.length (ps.flatMap plC)∧KT (TK w3) w3 wr∧KeepsFrom w3.heap.size W wr) (fun t48 _=>ps.length - (intOf t48).toNat)
   case atStart=>exact ⟨0,Nat.zero_le _,rfl,HI5.out.1,HP5.out,HI5.out.2,HK5.out⟩
   case round=>
    obtain⟨i,hi,rfl,hI,hP,hkt,hkf⟩:=hrel
    have HIr:=Lib.hid hI
    have HPr:=Lib.hid hP
    have HKr:=Lib.hid (And.intro hkt hkf)
    by_cases hlt : i < ps.length
    ·have hlq : ((ps.take i).foldl (S.addCn false u) lj).length≤100:=by
      have h1:=addCns_len (S:=S) (d:=false) (u:=u) (ps.take i) lj
      have h2 : (ps.take i).length≤i:=List.length_take_le _ _
      omega
     obtain⟨b,off,rfl,hbl,hc⟩:=slice_row plC_len (OPl.at (E:=97) (base:=w.heap.size + 3) hP) i hlt
     have c0 : wr.cell? ⟨b,off + i * 3,none⟩=some (.int .i64 ps[i].dir):=hc 0 (by decide)
     have c1 : wr.cell? ⟨b,off + i * 3 + 1,none⟩=some (.string ps[i].name):=hc 1 (by decide)
     have c2 : wr.cell? ⟨b,off + i * 3 + 2,none⟩=some (.string ps[i].top):=hc 2 (by decide)
     have HTk:=Lib.hid (show (ps.take (i + 1)).foldl (S.addCn false u) lj=if (S.openF false u ps[i]).2=0 then putCn ((ps.take i).foldl (S.addCn false u) lj) (S.openF false u ps[i]).1 else (ps.take i).foldl (S.addCn false u) lj by rw [take_snoc ps i hlt,List.foldl_append];rfl)
     generalize ps[i]=p at c0 c1 c2 HTk
     have hbp:=balloc (Below.refl wr.heap.size wr) (.cells #[.int .i64 p.dir,.string p.name,.string p.top] 97)
     have hI6:=hI.keep hbp
     have HOk:=Lib.hid (HOp.out _ hI6.below p)
     have HI6:=Lib.hid hI6
     generalize S.openF false u p=q at HTk HOk
     generalize (ps.take i).foldl (S.addCn false u) lj=lq at HIr HTk hlq HI6
     obtain⟨x,e2⟩:=q
     unfold Cn.v at HOk
     dsimp only at HTk HOk
     obtain⟨fc,ff,fz⟩:=hI.f.facts
     obtain⟨uc,uf,uz⟩:=hI.us.facts
     clear hc hI hP hkt hkf hI6
     gi_wp2
     refine ⟨trivial,callsIn_wide.2 (HOk.out.mono ?_)⟩
     rintro e w7 ⟨rfl,hb7⟩
     have hC:=Blk.new w7 #[.string x.path,.int .i64 x.dir,.int .i64 x.info,.int .i64 x.files,.int .i64 x.out,.int .i64 x.way,.string x.top] 93
     have hbC:=balloc (Below.refl w7.heap.size w7) (.cells #[.string x.path,.int .i64 x.dir,.int .i64 x.info,.int .i64 x.files,.int .i64 x.out,.int .i64 x.way,.string x.top] 93)
     have hb8:=bnext hbp (bnext hb7 hbC)
     have hI8:=(HI6.out.keep hb7).keep hbC
     obtain⟨v,ho,hO⟩:=hI8.o
     obtain⟨a,c,rfl,hc1,hc2,-⟩:=own_form hO
     have HH8:=Lib.hid (chas_any lq a _ c x.dir _ hO.at)
     have HI8:=Lib.hid hI8
     have HP8:=Lib.hid (own_below HPr.out hb8 (Nat.le_refl _))
     have HK8:=Lib.hid (And.intro (HKr.out.1.trans (KT.of_below hb8 (fun k h=>Nat.lt_of_lt_of_le (tk_lt h) HKr.out.1.1))) (HKr.out.2.trans (kf_below hb8)))
     obtain⟨oc,of,oz⟩:=ho.facts
     obtain⟨cc,cf,cz⟩:=hC.facts
     have HC:=Lib.hid hC
     clear hC hbC hb8 hI8 ho hO hb7 hbp fc ff fz uc uf uz c0 c1 c2
     by_cases h2 : e2=0
     ·subst h2
      have HT2:=Lib.hid (HTk.out.trans (if_pos rfl))
      unfold putCn at HT2
      generalize lq.any (fun y=>y.dir == x.dir)=hs at HH8 HT2
      gi_wp2
      refine ⟨trivial,callsIn_wide.2 (HH8.out.mono ?_)⟩
      rintro e w9 ⟨rfl,hb9⟩
      have HI9:=Lib.hid (HI8.out.keep hb9)
      have HP9:=Lib.hid (own_below HP8.out hb9 (Nat.le_refl _))
      have HK9:=Lib.hid (And.intro (HK8.out.1.trans (KT.of_below hb9 (fun k h=>Nat.lt_of_lt_of_le (tk_lt h) HK8.out.1.1))) (HK8.out.2.trans (kf_below hb9)))
      have hC9:=HC.out.keep hb9
      clear oc of oz cc cf cz hb9
      obtain⟨cc,cf,cz⟩:=hC9.facts
      clear hC9
      cases hs with
      | true=>
       have HT3:=Lib.hid (HT2.out.trans (if_pos rfl))
       gi_wp2
       go_roundw
       case measure=>simp [intOf];omega
       case rel=>exact ⟨i + 1,by omega,by go_num,by rw [HT3.out];exact HI9.out,HP9.out,HK9.out.1,HK9.out.2⟩
      | false=>
       have HT3:=Lib.hid (HT2.out.trans (if_neg (by decide)))
       obtain⟨v,g,c',W1,k1,k2,k3,k4,k5,k6,k7⟩:=HI9.out.push x (by omega) (Nat.le_trans hWs HK9.out.2.size) HK9.out.1
       have HA:=Lib.hid k2
       have HZ:=Lib.hid (And.intro k4 (And.intro (k7 _ _ _ _ HP9.out (Nat.le_refl _)) (And.intro k6 (HK9.out.2.trans (k5.from _)))))
       obtain⟨oc,of,oz⟩:=k1.facts
       obtain⟨rc,rf,rz⟩:=k3.facts
       clear k1 k2 k3 k4 k5 k6 k7
       gi_wp2_with (gi_at_builtin;refine wpListIn_app_run1 rfl rfl rfl rfl HA.out ?_)
       go_roundw
       case measure=>simp [intOf];omega
       case rel=>exact ⟨i + 1,by omega,by go_num,by rw [HT3.out];exact HZ.out.1,HZ.out.2.1,HZ.out.2.2.1,HZ.out.2.2.2⟩
     ·have h2' : (e2 == 0)=false:=by simpa using h2
      have HT2:=Lib.hid (HTk.out.trans (if_neg h2))
      clear h2
      gi_wp2
      refine ⟨trivial,?_⟩
      gi_wp2
      go_roundw
      case measure=>simp [intOf];omega
      case rel=>exact ⟨i + 1,by omega,by go_num,by rw [HT2.out];exact HI8.out,HP8.out,HK8.out.1,HK8.out.2⟩
    ·obtain rfl : i=ps.length:=by omega
     rw [List.take_length] at hI
     have HIz:=Lib.hid hI
     clear hI hP hkt hkf
     gi_wp2
     exact⟨HKr.out.2,kt_between HI.out.2 HKr.out.1 HKr.out.2.size,by rw [HLj.out];exact HIz.out,HKr.out.1⟩
  case done=>
   intro D xs W hD hxs hI hK2
   subst hxs
   rw [← HAll.out] at hI
   obtain⟨v,ho,hO⟩:=hI.1.o
   obtain⟨oc,of,oz⟩:=ho.facts
   have HO:=Lib.hid (And.intro hO hI.1.below)
   clear hI ho hO
   go_wp2_with fail
   show LeavesInM Fence.wide 5 Tryz.prog Tryz.f33 _ _ _ _ W
   refine ⟨by simp,.inl ⟨_,_,rfl,run_takeDeferred hK2,?_⟩⟩
   have hm : Below D W (W.putObj D (.deferred none)):=⟨rfl,rfl,rfl,by simp,fun k hk=>World.putObj_heap_other (by omega)⟩
   refine ⟨v,by simp [results,Tryz.results33,go_sem],v,rfl,?_,HO.out.2.trans (hm.mono (by have:=HI3.out.below.size;omega))⟩
   refine own_low (own_turn HO.out.1 (fun k hk=>?_)) (Nat.le_add_right _ _)
   obtain⟨-,cur,hc⟩:=own_obj1 HO.out.1 hk
   exact World.putObj_heap_other (fun e=>by
    subst e
    rw [hK2] at hc
    cases hc)
end
end Go.Proofs.YtihdbncoijhihaaGreatDoor
namespace Go.Proofs.YtihdbncoijhihaaGreatDoor
open Go
section
variable {P : Program} {ops : Array Oper} {Q : Exit→Act→World→Prop} {md : Region.Mode} {S : World→Prop}
theorem reg_take (i d : Nat) {oi : Oper} {v : Value} {fuel : Nat} {listed : Array Bool} {tmps : Array Value} {defers : List Deferred} {w : World} (hi : ops[i]? = some oi) (hd : oi.dst=some d)
  (hs : Region.noSelect ops=true) (hf : Region.free md ops listed i=true) (hr : (Region.ready md ops listed).contains i=true)
  (hQ : ∀ c a w,Q (.panic c) (a.put oi.dst v) w→Q (.panic c) a w) (hw : Region.wanted oi (yielded ops tmps)=true) (hy : ∀ w,S w→(execOp (Act.eval { tmps,defers }) oi).run P w=.ok (.value v) w) (hS : S w)
  (h : wpAnyH P md ops Q S fuel (listed.setIfInBounds i true) { tmps:=tmps.setIfInBounds d v,defers } w) : wpAnyH P md ops Q S (fuel + 1) listed { tmps,defers } w:=
 wpAnyH_take hi hs hf hr hQ (Or.inl ⟨hw,hy⟩) hS (by rw [hd];exact h)
theorem reg_skip (i d : Nat) {oi : Oper} {fuel : Nat} {listed : Array Bool} {tmps : Array Value} {defers : List Deferred} {w : World} (hi : ops[i]? = some oi) (hd : oi.dst=some d)
  (hs : Region.noSelect ops=true) (hf : Region.free md ops listed i=true) (hr : (Region.ready md ops listed).contains i=true)
  (hQ : ∀ c a w,Q (.panic c) (a.put oi.dst undef) w→Q (.panic c) a w) (hw : Region.wanted oi (yielded ops tmps)=false) (hS : S w)
  (h : wpAnyH P md ops Q S fuel (listed.setIfInBounds i true) { tmps:=tmps.setIfInBounds d undef,defers } w) : wpAnyH P md ops Q S (fuel + 1) listed { tmps,defers } w:=
 wpAnyH_take hi hs hf hr hQ (Or.inr ⟨hw,rfl⟩) hS (by rw [hd];exact h)
theorem reg_call (i d : Nat) {oi : Oper} {fuel : Nat} {listed : Array Bool} {tmps : Array Value} {defers : List Deferred} {w : World} (hr : Region.ready md ops listed=[i]) (hi : ops[i]? = some oi) (hd : oi.dst=some d)
  (hw : Region.wanted oi (yielded ops tmps)=true) {f : FuncId} {args : Array Value} (he : (execOp (Act.eval { tmps,defers }) oi).run P w=.ok (.enter f args) w) {R : Value→World→Prop}
  (hc : Calls P f args w fun e w'=>∃ v,e=.returned v∧R v w') (hS : ∀ v w',R v w'→S w')
  (h : ∀ v w',R v w'→wpAnyH P md ops Q S fuel (listed.setIfInBounds i true) { tmps:=tmps.setIfInBounds d v,defers } w') : wpAnyH P md ops Q S (fuel + 1) listed { tmps,defers } w:=by
 refine wpAnyH_ready hr (by simp) (AllReadyH.cons hi (fun K hK=>?_) AllReadyH.nil)
 rw [if_pos hw]
 unfold Oper.wp
 rw [he]
 refine hc.mono ?_
 rintro e w' ⟨v,rfl,hR⟩
 have:=h v w' hR
 refine hK.out _ _ (hS v w' hR) (fun _=>?_)
 rw [hd]
 exact this
end
end Go.Proofs.YtihdbncoijhihaaGreatDoor
