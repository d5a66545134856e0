import Derived.Deep.CutBlock
import Derived.Deep.DeepCutAuto
import Derived.RegionTactic
import Derived.BigRegion
import Derived.Test.YtihdbncoijhihaaGreatDoorCT7
import Derived.Test.YtihdbncoijhihaaGreatDoorCT5
set_option linter.unusedVariables false
set_option linter.unusedSimpArgs false
namespace Go.Proofs.YtihdbncoijhihaaGreatDoor
open Go.RowKit
section
variable {w w' : World} {pw : Nat} {R : Rp} {S : Fs}
theorem make_none {S : Fs} {a : An} (h : S.root a.dev=0) : S.make a=(S,0,1):=by unfold Fs.make;rw [if_pos h]
theorem make_err {S : Fs} {a : An} {v : Dv} (h : S.root a.dev≠0) (hv : S.dev a.dev=some v) (he : tkE v.b v.n v.mb v.mn (blkI a.kind a.data.size) 1≠0) : S.make a=(S,0,tkE v.b v.n v.mb v.mn (blkI a.kind a.data.size) 1):=by
 unfold Fs.make;rw [if_neg h,hv];simp only;rw [if_neg he]
theorem make_ok {S : Fs} {a : An} {v : Dv} (h : S.root a.dev≠0) (hv : S.dev a.dev=some v) (he : tkE v.b v.n v.mb v.mn (blkI a.kind a.data.size) 1=0) :
  S.make a=((S.setDev a.dev { v with b:=v.b + blkI a.kind a.data.size,n:=v.n + 1 }).add a,S.last + 1,0):=by
 unfold Fs.make;rw [if_neg h,hv];simp only;rw [if_pos he]
set_option maxRecDepth 100000 in
set_option maxHeartbeats 1000000 in
theorem wmake_none (h : WdAt w pw R S) (hd : 0 < S.ds.length) (a : An) (ea : Option Addr) (el ec : Nat) (hr : S.root a.dev=0) :
  Calls Tryz.prog 284 #[.pointer (some ⟨pw,0,none⟩),a.v ea el ec] w fun e w'=>e=.returned (.tuple #[.int .i64 0,.int .i64 1])∧Below w.heap.size w w':=by
 have HR:=Lib.hid (wroot_any (h.keep ((Below.refl _ w).alloc (Nat.le_refl _) (.cells #[.int .i64 a.no,.int .i64 a.dev,.int .i64 a.kind,.int .i64 a.mode,.int .i64 a.uid,.int .i64 a.gid,.int .i64 a.mtime,.int .i64 a.ctime,.int .i64 a.links,.int .i64 a.up,.string a.data,.slice ea el ec] 109))) hd a.dev)
 rw [hr] at HR
 unfold An.v
 clear h hd hr
 go_enter Tryz.func284,Tryz.ntmps284
 go_wp2_with fail
 refine HR.out.mono ?_
 rintro e w1 ⟨rfl,rfl⟩
 go_wp2_with fail
 go_ret2
 exact⟨rfl,balloc (Below.refl _ _) _⟩
set_option maxRecDepth 100000 in
set_option maxHeartbeats 2000000 in
theorem wmake_mid (h : WdAt w pw R S) {k : Nat} (hk : k < S.ds.length) (a : An) (ea : Option Addr) (el ec : Nat) (he : EntsAt w ea el ec a.ents) (hdev : a.dev=(k : Int) + 1) (hr : S.root a.dev≠0) (hs : a.data.size≤9223372036854775807) (hl0 : 0≤S.last) (hl1 : S.last≤1000000) :
  Calls Tryz.prog 284 #[.pointer (some ⟨pw,0,none⟩),a.v ea el ec] w fun e w'=>e=.returned (.tuple #[.int .i64 (S.make a).2.1,.int .i64 (S.make a).2.2])∧∃ R',WdAt w' pw R' (S.make a).1∧Stp (R.F pw) (R'.F pw) w w':=by
 have HR:=Lib.hid (wroot_any (h.keep ((Below.refl _ w).alloc (Nat.le_refl _) (.cells #[.int .i64 a.no,.int .i64 a.dev,.int .i64 a.kind,.int .i64 a.mode,.int .i64 a.uid,.int .i64 a.gid,.int .i64 a.mtime,.int .i64 a.ctime,.int .i64 a.links,.int .i64 a.up,.string a.data,.slice ea el ec] 109))) (by omega) a.dev)
 obtain⟨g,cap,hdv,hle,h63,hgl,hc,hfg,-⟩:=h.devF (by omega)
 obtain⟨c0,c1,c2,c3,c4,c5⟩:=hc k hk
 obtain⟨v,hv⟩ : ∃ v,S.ds[k]=v:=⟨_,rfl⟩
 rw [hv] at c0 c1 c2 c3 c4 c5
 obtain⟨pc,-,pz⟩:=h.blk.facts
 rw [hdv] at pc
 obtain⟨rt,hrt⟩ : ∃ rt,S.root a.dev=rt:=⟨_,rfl⟩
 have hrn:=hr
 rw [hrt] at HR hr
 have hdv2 : S.dev a.dev=some v:=by
  unfold Fs.dev
  rw [if_pos (by omega),hdev,show ((k : Int) + 1 - 1).toNat=k by omega,List.getElem?_eq_getElem hk,hv]
 obtain⟨n,hn⟩ : ∃ n,S.ds.length=n:=⟨_,rfl⟩
 have hkn : k < n:=by omega
 rw [hn] at pc hle
 have hr2 : (rt == 0)=false:=by simpa using hr
 have hT:=fun w=>take_any v.b v.n v.mb v.mn (blkI a.kind a.data.size) 1 w
 unfold tkV at hT
 have HB:=Lib.hid (fun w=>blocks_any a.kind a.data.size (by omega) w)
 have HM1:=Lib.hid (fun (he0 : tkE v.b v.n v.mb v.mn (blkI a.kind a.data.size) 1≠0)=>make_err hrn hdv2 he0)
 have HM2:=Lib.hid (fun (he0 : tkE v.b v.n v.mb v.mn (blkI a.kind a.data.size) 1=0)=>make_ok hrn hdv2 he0)
 have HQ:=Lib.hid (fun (he0 : tkE v.b v.n v.mb v.mn (blkI a.kind a.data.size) 1=0)=>show tkB v.b v.n v.mb v.mn (blkI a.kind a.data.size) 1=v.b + blkI a.kind a.data.size∧tkN v.b v.n v.mb v.mn (blkI a.kind a.data.size) 1=v.n + 1 by unfold tkB tkN;rw [if_pos he0,if_pos he0];exact ⟨rfl,rfl⟩)
 have HW0:=Lib.hid h
 have HE0:=Lib.hid he
 have HDv:=Lib.hid hdv
 have HV:=Lib.hid (show ∃ hk : k < S.ds.length,S.ds[k]=v from ⟨hk,hv⟩)
 have Hdev:=Lib.hid hdev
 unfold An.v
 rw [hdev] at HR ⊢
 have B1:=Blk.new w #[.int .i64 a.no,.int .i64 ((k : Int) + 1),.int .i64 a.kind,.int .i64 a.mode,.int .i64 a.uid,.int .i64 a.gid,.int .i64 a.mtime,.int .i64 a.ctime,.int .i64 a.links,.int .i64 a.up,.string a.data,.slice ea el ec] 109
 have hb1:=(Below.refl w.heap.size w).alloc (Nat.le_refl _) (.cells #[.int .i64 a.no,.int .i64 ((k : Int) + 1),.int .i64 a.kind,.int .i64 a.mode,.int .i64 a.uid,.int .i64 a.gid,.int .i64 a.mtime,.int .i64 a.ctime,.int .i64 a.links,.int .i64 a.up,.string a.data,.slice ea el ec] 109)
 clear h hr hrn hrt hn hv hc hdv hdv2 he hk hdev c0 c1
 generalize blkI a.kind a.data.size=bk at hT HB HM1 HM2 HQ
 generalize tkE v.b v.n v.mb v.mn bk 1=e0 at hT HM1 HM2 HQ
 generalize tkB v.b v.n v.mb v.mn bk 1=qb at hT HQ
 generalize tkN v.b v.n v.mb v.mn bk 1=qn at hT HQ
 have HT:=Lib.hid hT
 clear hT
 go_enter Tryz.func284,Tryz.ntmps284
 go_wp2_with fail
 refine HR.out.mono ?_
 rintro e w1 ⟨rfl,rfl⟩
 generalize w.alloc (.cells #[.int .i64 a.no,.int .i64 ((k : Int) + 1),.int .i64 a.kind,.int .i64 a.mode,.int .i64 a.uid,.int .i64 a.gid,.int .i64 a.mtime,.int .i64 a.ctime,.int .i64 a.links,.int .i64 a.up,.string a.data,.slice ea el ec] 109)=W at B1 hb1 ⊢
 obtain⟨Bn,hBn⟩ : ∃ Bn,w.heap.size=Bn:=⟨_,rfl⟩
 rw [hBn] at B1 ⊢
 obtain⟨bc,bf,bz⟩:=B1.facts
 rw [← hb1.cell (p:=⟨g,k * 6 + 2,none⟩) hgl] at c2
 rw [← hb1.cell (p:=⟨g,k * 6 + 3,none⟩) hgl] at c3
 rw [← hb1.cell (p:=⟨g,k * 6 + 4,none⟩) hgl] at c4
 rw [← hb1.cell (p:=⟨g,k * 6 + 5,none⟩) hgl] at c5
 have pc1 : W.cell? ⟨pw,1,none⟩=_:=(hb1.cell (p:=⟨pw,1,none⟩) pz).trans (pc 1)
 have hgW : g < W.heap.size:=Nat.lt_of_lt_of_le hgl hb1.size
 have hpW : pw < W.heap.size:=Nat.lt_of_lt_of_le pz hb1.size
 have HW:=Lib.hid hb1
 have HB1:=Lib.hid B1
 have HBn:=Lib.hid hBn
 clear pc hb1 B1 hBn
 go_upto_region 3 with (fail)
 go_cut [6,7] (fun t6 t7 wx=>∃ Bq : Nat,t6=.pointer (some ⟨Bq,0,none⟩)∧t7=.int .i64 e0∧Blk wx Bq #[.int .i64 qb,.int .i64 qn,.int .i64 v.mb,.int .i64 v.mn] 168∧Below W.heap.size W wx)
 case first=>
  go_wp2_with fail
  have hw1 : IntKind.i64.wrap ((k : Int) + 1 - 1)=(k : Int):=by rw [IntKind.wrap_i64];omega
  have hw2 : IntKind.i64.wrap (k : Int)=(k : Int):=by rw [IntKind.wrap_i64];omega
  have hb3 : (k : Int) < (n : Int):=by omega
  have hb4 : (0 : Int)≤(k : Int):=by omega
  have hzz : W.heap.size≤W.heap.size:=Nat.le_refl _
  go_region_held3 (fun w'=>(∀ b o,b < W.heap.size→w'.cell? ⟨b,o,none⟩=W.cell? ⟨b,o,none⟩)∧Below W.heap.size W w') (first | with_reducible assumption | with_reducible exact keepS_here _ | with_reducible exact keepS_here2 _ | with_reducible exact keepS_call (by assumption) (by assumption) | with_reducible exact keepS_alloc (by assumption) _ | with_reducible exact keepS_allocD (by assumption) _ | with_reducible exact keepS_realloc (by assumption) (by assumption) | with_reducible exact keepS_set4 (by assumption) (by assumption))
   (first | (go_at_call 282;((with_reducible refine (HB.out _).mono ?_);rintro e w4 ⟨rfl,rfl⟩)) | (go_at_call 281;((with_reducible refine (HT.out _).mono ?_);rintro e w4 ⟨rfl,hb5⟩;have hz5:=Nat.le_trans (And.right ‹(∀ b o,b < W.heap.size→_)∧Below W.heap.size W _›).size hb5.size;try (have hbq:=new_drew hb5;obtain ⟨bqc,bqf,bqz⟩:=hbq.facts))))
  all_goals
   obtain⟨-,hS4⟩:=‹_∧Below W.heap.size W _›
   have HS4:=Lib.hid hS4
   try (have HQ4:=Lib.hid hbq)
   clear hS4
   go_wp2_with fail
   go_meet
   exact⟨_,rfl,rfl,by first | exact HQ4.out.set4 | exact Blk.new _ _ _,HS4.out⟩
 case rest=>
  obtain⟨Bq,rfl,rfl,hQ,hS⟩:=hcut
  have HS:=Lib.hid hS
  have HWc:=Lib.hid (show Below w.heap.size w wc from HW.out.trans (hS.mono HW.out.size))
  by_cases h0 : e0=0
  ·obtain ⟨hk,hv⟩:=HV.out
   obtain⟨rfl,rfl⟩:=HQ.out h0
   have HMk:=Lib.hid (HM2.out h0)
   subst h0
   obtain⟨qc,qf,qz⟩:=hQ.facts
   have pcw : wc.cell? ⟨pw,1,none⟩=_:=(hS.cell (p:=⟨pw,1,none⟩) hpW).trans pc1
   have bcw : wc.cell? ⟨Bn,1,none⟩=_:=(hS.cell (p:=⟨Bn,1,none⟩) bz).trans (bc 1)
   rw [← hS.cell (p:=⟨g,k * 6 + 2,none⟩) hgW] at c2
   rw [← hS.cell (p:=⟨g,k * 6 + 3,none⟩) hgW] at c3
   rw [← hS.cell (p:=⟨g,k * 6 + 4,none⟩) hgW] at c4
   rw [← hS.cell (p:=⟨g,k * 6 + 5,none⟩) hgW] at c5
   have hfw : ∀ i,wc.frozen? ⟨g,i,none⟩=false:=fun i=>(HWc.out.frozen (p:=⟨g,i,none⟩) hgl).trans (hfg i)
   have hWd:=HW0.out.keep HWc.out
   obtain⟨hWq,hMq⟩:=hWd.setQ HDv.out hk v hv (v.b + bk) (v.n + 1)
   have hgF : R.F pw g:=.inr (.inr (.inr (by rw [HDv.out];rfl)))
   have hStq : Stp (R.F pw) (R.F pw) wc _:=Stp.of_mod (hMq.mono (fun x hx=>by rw [hx];exact hgF))
   have HEq:=Lib.hid ((HE0.out.keep HWc.out).wd hWd hStq)
   have hBq:=(HB1.out.keep hS).wd hWd hStq rfl
   have HWq:=Lib.hid hWq
   have HSt:=Lib.hid ((Stp.of_below HWc.out).trans hStq)
   clear hWd hWq hMq hStq pc1 hfg
   go_wp2_with fail
   have mixed : Tryz.prog.follows .mixedOrders=true:=by kernel_rfl
   have hw1 : IntKind.i64.wrap ((k : Int) + 1 - 1)=(k : Int):=by rw [IntKind.wrap_i64];omega
   have hw2 : IntKind.i64.wrap (k : Int)=(k : Int):=by rw [IntKind.wrap_i64];omega
   have hb3 : (k : Int) < (n : Int):=by omega
   have hb4 : (0 : Int)≤(k : Int):=by omega
   refine wp_region_lex 8 mixed (by kernel_rfl) then_panic ?_
   simp only [List.take_succ_cons,List.take_zero,List.drop_succ_cons,List.drop_zero]
   repeat still_step
   refine wpStill_nil ?_
   go_wp2_with fail
   generalize (((wc.setCell ⟨g,k * 6 + 2,none⟩ (.int .i64 (v.b + bk))).setCell ⟨g,k * 6 + 3,none⟩ (.int .i64 (v.n + 1))).setCell ⟨g,k * 6 + 4,none⟩ (.int .i64 v.mb)).setCell ⟨g,k * 6 + 5,none⟩ (.int .i64 v.mn)=X at HEq hBq HWq HSt ⊢
   obtain⟨xc,-,xz⟩:=HWq.out.blk.facts
   obtain⟨bc,bf,bz⟩:=hBq.facts
   clear c2 c3 c4 c5 hfw pcw bcw qc qf qz
   refine wp_region_lex 5 mixed (by kernel_rfl) then_panic ?_
   simp only [List.take_succ_cons,List.take_zero,List.drop_succ_cons,List.drop_zero]
   repeat still_step
   refine wpStill_nil ?_
   have hXd : Below X.heap.size X X.drew.drew:=((Below.refl _ X).drew).drew
   have hAdd:=(HWq.out.keep hXd).addN a (HEq.out.keep hXd) hl0 hl1
   unfold An.v at hAdd
   rw [Hdev.out] at hAdd
   have HAdd:=Lib.hid hAdd
   clear hAdd
   go_wp2_with fail
   refine HAdd.out.mono ?_
   rintro e w5 ⟨rfl,R',hR1,hR2,-,-⟩
   have HR':=Lib.hid (And.intro hR1 hR2)
   clear hR1 hR2
   go_wp2_with fail
   go_ret2
   rw [HMk.out]
   refine ⟨rfl,R',?_,(HSt.out.trans (Stp.of_below hXd)).trans HR'.out.2⟩
   rw [Hdev.out]
   exact HR'.out.1
  ·have HMk:=Lib.hid (HM1.out h0)
   have he2 : (e0 != 0)=true:=by simpa using h0
   clear h0
   go_wp2_with fail
   go_ret2
   rw [HMk.out]
   exact⟨rfl,R,HW0.out.keep HWc.out,Stp.of_below HWc.out⟩
end
end Go.Proofs.YtihdbncoijhihaaGreatDoor
namespace Go.Proofs.YtihdbncoijhihaaGreatDoor
open Go.RowKit
theorem own_obj1 {w : World} {base sz n k : Nat} {e : TypeId} {v : Value} {xs : List Value} (h : w.ownsRow base e sz v n xs) (hk : v.ownBlock=some k) : base≤k∧∃ cur,w.heap[k]? = some (.cells cur e (0,0)):=by
 rcases h.2 with ⟨rfl,-⟩ | ⟨g,cap,cur,rfl,hb,hg,-⟩
 ·cases hk
 ·simp only [Value.ownBlock,Option.some.injEq] at hk
  subst hk
  exact⟨hb,cur,hg⟩
section
variable {w w' : World} {pw : Nat} {R : Rp} {S : Fs}
theorem WdAt.tabStep (h : WdAt w pw R S) (hM : Mod (fun k=>k=R.pt∨k=R.pm) w w') : Stp (R.F pw) (R.F pw) w w'∧Blk w' pw #[.pointer (some ⟨R.pt,0,none⟩),R.dv] 196∧w'.ownsRow 0 243 6 R.dv S.ds.length (S.ds.flatMap Dv.cs):=by
 have hM' : Mod (R.F pw) w w':=hM.mono (fun k hk=>hk.elim (fun e=>.inr (.inl e)) (fun e=>.inr (.inr (.inl e))))
 have hap : ∀ (x : Nat) (vs : Array Value) (T : TypeId),Blk w x vs T→T≠263→¬ (x=R.pt∨x=R.pm):=by
  rintro x vs T hx hT (rfl | rfl)
  ·have h2:=h.tab.blk
   unfold Blk at hx h2
   rw [hx] at h2
   injection h2 with h2
   injection h2 with _ h2
   exact hT h2
  ·have h2:=h.tab.map
   unfold MapB at h2
   unfold Blk at hx
   rw [hx] at h2
   cases h2
 refine ⟨Stp.of_mod hM',h.blk.mod hM (hap _ _ _ h.blk (by decide)),⟨h.devs.1,h.devs.2.imp id fun ⟨g,cap,cur,h1,h2,hg,h3⟩=>⟨g,cap,cur,h1,h2,(hM.block g (Array.getElem?_eq_some_iff.1 hg).1 (hap _ _ _ hg (by decide))).trans hg,h3⟩⟩⟩
def Gn.put (a : An) (ea : Option Addr) (el ec : Nat) (g : Gn) : Gn:=if g.a.no == a.no then ⟨a,ea,el,ec,g.clk⟩ else g
theorem WdAt.setN (h : WdAt w pw R S) (a : An) {ea : Option Addr} {el ec : Nat} (he : EntsAt w ea el ec a.ents) {b : An} (hb : S.get a.no=some b) :
  Calls Tryz.prog 242 #[.pointer (some ⟨R.pt,0,none⟩),a.v ea el ec] w fun e w'=>e=.returned (.bool true)∧∃ R',WdAt w' pw R' (S.set a)∧Stp (R.F pw) (R'.F pw) w w'∧R'.pt=R.pt∧R'.dv=R.dv:=by
 obtain⟨g0,-,-,hf,-⟩:=G_of h hb
 refine (set_yes g0.nd (a.nd ea el ec) w R.pt R.pm S.last _ R.clk h.tab hf).mono ?_
 rintro e w' ⟨rfl,hT,hM⟩
 obtain⟨hst,hblk,hdv⟩:=h.tabStep hM
 refine ⟨rfl,⟨R.pt,R.pm,R.dv,R.G.map (Gn.put a ea el ec),R.clk⟩,⟨hblk,?_,hdv,?_,?_⟩,⟨hst.mod,fun k hk=>.inl hk⟩,rfl,rfl⟩
 ·show Tab w' R.pt R.pm S.last ((R.G.map (Gn.put a ea el ec)).map Gn.e) R.clk
  have e : (R.G.map (Gn.put a ea el ec)).map Gn.e=(R.G.map Gn.e).map fun x=>if x.1.no == (a.nd ea el ec).no then (a.nd ea el ec,x.2) else x:=by
   rw [List.map_map,List.map_map]
   apply List.map_congr_left
   intro g _
   simp only [Function.comp_apply,Gn.put]
   show Gn.e (if (g.a.no == a.no)=true then _ else g)=if (g.a.no == a.no)=true then _ else _
   split
   ·rfl
   ·rfl
  rw [e]
  exact hT
 ·show (S.ns.map _)=(R.G.map (Gn.put a ea el ec)).map (fun g : Gn=>g.a)
  rw [h.ns,List.map_map,List.map_map]
  apply List.map_congr_left
  intro g _
  simp only [Function.comp_apply,Gn.put]
  split <;> rfl
 ·intro g hg
  obtain⟨g1,hg1,rfl⟩:=List.mem_map.1 hg
  unfold Gn.put
  split
  ·exact he.wd h hst
  ·exact (h.ents g1 hg1).wd h hst
theorem dev_info : (Tryz.prog.info? 243).map (fun i=>(i.zero,i.size,i.bytes))=some (some (.agg #[.int .i64 0,.int .i64 0,.int .i64 0,.int .i64 0,.int .i64 0,.int .i64 0]),6,48):=by kernel_rfl
def Fs.addDev (S : Fs) (over b n : Int) : Fs:={ S with ds:=S.ds ++ [⟨0,over,1,1,b,n⟩] }
theorem WdAt.app (h : WdAt w pw R S) (hl : S.ds.length≤100) (ad : Addr) (over b n : Int) (had : ∀ j u,(Dv.cs ⟨0,over,1,1,b,n⟩)[j]? = some u→w.cell? (ad.add j)=some u) :
  ∃ g cap W,(Builtin.append_ #[194,194] 194 #[R.dv,.slice (some ad) 1 1]).run Tryz.prog w=.ok (.slice (some ⟨g,0,none⟩) (S.ds.length + 1) cap) W∧
   WdAt (W.setCell ⟨pw,1,none⟩ (.slice (some ⟨g,0,none⟩) (S.ds.length + 1) cap)) pw { R with dv:=.slice (some ⟨g,0,none⟩) (S.ds.length + 1) cap } (S.addDev over b n)∧
   Stp (R.F pw) (Rp.F { R with dv:=.slice (some ⟨g,0,none⟩) (S.ds.length + 1) cap } pw) w (W.setCell ⟨pw,1,none⟩ (.slice (some ⟨g,0,none⟩) (S.ds.length + 1) cap))∧
   Blk W pw #[.pointer (some ⟨R.pt,0,none⟩),R.dv] 196∧Mod (fun k=>R.dv.ownBlock=some k) w W:=by
 obtain⟨i0,hi,hz0,hz1,hz2⟩:=info_parts dev_info
 obtain⟨g,cap,W,h1,h2,h3,h4⟩:=step_app (194) Tryz.underlying194 hi hz0 hz1 hz2 rfl (by omega) h.devs ad 1 1 (Dv.cs ⟨0,over,1,1,b,n⟩) rfl had (by intro u hu;simp [Dv.cs] at hu;rcases hu with rfl | rfl | rfl | rfl | rfl <;> rfl) (by omega) (by unfold maxLen;omega) (by omega) (Nat.zero_le _)
 have hM : Mod (R.F pw) w W:=h3.mono (fun k hk=>.inr (.inr (.inr hk)))
 have hap : ∀ (x : Nat) (vs : Array Value) (T : TypeId),Blk w x vs T→T≠243→¬ (R.dv.ownBlock=some x):=by
  intro x vs T hx hT hk
  obtain⟨-,cur,hc⟩:=own_obj1 h.devs hk
  unfold Blk at hx
  rw [hx] at hc
  injection hc with hc
  injection hc with _ hc
  exact hT hc
 have hbW : Blk W pw #[.pointer (some ⟨R.pt,0,none⟩),R.dv] 196:=h.blk.mod h3 (hap _ _ _ h.blk (by decide))
 have hpg : pw≠g:=by
  rintro rfl
  rcases h4 with h4 | h4
  ·exact hap _ _ _ h.blk (by decide) h4
  ·have:=h.blk.lt;omega
 have hmap : ¬ (R.dv.ownBlock=some R.pm):=fun hk=>by
  obtain⟨-,cur,hc⟩:=own_obj1 h.devs hk
  have:=h.tab.map
  unfold MapB at this
  rw [hc] at this
  cases this
 have hs2 : Stp (R.F pw) (R.F pw) w (W.setCell ⟨pw,1,none⟩ (.slice (some ⟨g,0,none⟩) (S.ds.length + 1) cap)):=Stp.of_mod (hM.setCell (.inl (.inl rfl)) _)
 have hnt : pw≠R.pt:=fun e=>by
  have h1:=h.blk;have h2:=h.tab.blk
  rw [e] at h1;unfold Blk at h1 h2
  rw [h1] at h2;injection h2 with h2;injection h2 with _ h2
  revert h2;decide
 have hnm : pw≠R.pm:=fun e=>by
  have h1:=h.blk;have h2:=h.tab.map
  rw [e] at h1;unfold Blk at h1;unfold MapB at h2
  rw [h1] at h2;cases h2
 refine ⟨g,cap,W,h1,⟨?_,⟨?_,?_,h.tab.once,h.tab.low⟩,?_,h.ns,fun x hx=>(h.ents x hx).wd h hs2⟩,⟨hs2.mod,fun k hk=>?_⟩,hbW,h3⟩
 ·exact hbW.set 1 _
 ·exact (h.tab.blk.mod h3 (hap _ _ _ h.tab.blk (by decide))).setOther _ _ hnt
 ·exact MapB.setOther ((h3.block _ h.tab.map.lt hmap).trans h.tab.map) _ _ hnm
 ·show World.ownsRow _ 0 243 6 _ (S.ds ++ [_]).length ((S.ds ++ [_]).flatMap Dv.cs)
  rw [List.length_append,List.length_singleton,List.flatMap_append,List.flatMap_singleton]
  refine own_mod h2 ((Mod.refl (fun k=>k=pw) W).setCell (a:=⟨pw,1,none⟩) (.inl rfl) _) (fun k hk e=>?_)
  subst hk
  simp only [Value.ownBlock,Option.some.injEq] at e
  exact hpg e.symm
 ·rcases hk with hk | hk | hk | hk
  ·exact .inl (.inl hk)
  ·exact .inl (.inr (.inl hk))
  ·exact .inl (.inr (.inr (.inl hk)))
  ·simp only [Value.ownBlock,Option.some.injEq] at hk
   subst hk
   rcases h4 with h4 | h4
   ·exact .inl (.inr (.inr (.inr h4)))
   ·exact .inr (by omega)
end
end Go.Proofs.YtihdbncoijhihaaGreatDoor
namespace Go.Proofs.YtihdbncoijhihaaGreatDoor
open Go.RowKit Go.Shelf
attribute [local go_sem] Oper.semAt_some
theorem keeps_mod1 {S : Nat→Prop} {w W : World} (h : Mod S w W) (hS : ∀ k,S k→∃ cur T fz,w.heap[k]? = some (.cells cur T fz)) : KeepsOthers w W:=
 ⟨h.size,fun k o hk ho=>(h.block k (Array.getElem?_eq_some_iff.1 hk).1 (fun hs=>by obtain ⟨cur,T,fz,hc⟩:=hS k hs;rw [hc] at hk;injection hk with hk;subst hk;cases ho)).trans hk⟩
theorem OS.nil (w : World) (base : Nat) : OS w base (.slice none 0 0) []:=⟨rfl,.inl ⟨rfl,rfl⟩⟩
theorem OS.turn {w w' : World} {base : Nat} {v : Value} {ls : List (List UInt8)} (h : OS w base v ls) (ht : ∀ k cur,base≤k→w.heap[k]? = some (.cells cur 9 (0,0))→w'.heap[k]? = some (.cells cur 9 (0,0))) : OS w' base v ls:=
 ⟨h.1,h.2.imp id fun ⟨g,cap,cur,hv,hb,hg,rest⟩=>⟨g,cap,cur,hv,hb,ht _ _ hb hg,rest⟩⟩
theorem OS.low {w : World} {base base' : Nat} {v : Value} {ls : List (List UInt8)} (h : OS w base v ls) (hb : base'≤base) : OS w base' v ls:=
 ⟨h.1,h.2.imp id fun ⟨g,cap,cur,hv,hg,rest⟩=>⟨g,cap,cur,hv,Nat.le_trans hb hg,rest⟩⟩
theorem OS.appK {w : World} {base : Nat} {v : Value} {ls : List (List UInt8)} (h : OS w base v ls) (l : List UInt8) (hl : ls.length≤1000000) (hb : base≤w.heap.size) :
  ∃ g cap W,(Builtin.append_ #[38,38] 38 #[v,.slice (some ⟨w.heap.size,0,none⟩) 1 1]).run Tryz.prog (w.alloc (.cells #[.string (str l)] 9))=.ok (.slice (some ⟨g,0,none⟩) (ls.length + 1) cap) W∧
   OS W base (.slice (some ⟨g,0,none⟩) (ls.length + 1) cap) (ls ++ [l])∧Below base w W∧KeepsOthers w W∧(v.ownBlock=some g∨w.heap.size≤g):=by
 obtain⟨i0,hi,hz0,hz1,hz2⟩:=info_parts str_info
 have ho:=World.ownsRow.alloc h (.cells #[.string (str l)] 9)
 obtain⟨g,cap,W,h1,h2,h3,h4⟩:=step_app 38 Tryz.underlying38 hi hz0 hz1 hz2 rfl (by omega) ho ⟨w.heap.size,0,none⟩ 1 1 [.string (str l)] rfl (World.news_of_block (Blk.new w #[.string (str l)] 9)) (by intro u hu;simp at hu;subst hu;rfl) (by omega) (by unfold maxLen;omega) (by omega) (by simp;omega)
 refine ⟨g,cap,W,h1,?_,?_,(KeepsOthers.alloc _ _).trans (keeps_mod1 h3 (fun k hk=>by obtain ⟨-,cur,hc⟩:=own_obj1 ho hk;exact ⟨_,_,_,hc⟩)),h4.imp id (fun h=>by rw [h];simp)⟩
 ·unfold OS
  rw [List.length_append,List.length_singleton,List.flatMap_append]
  exact h2
 ·refine (((Below.refl base w).alloc hb _)).trans (h3.below (fun k hk=>(h.lt k hk).1) (by simp;omega))
theorem wpListIn_app_run1 {F : Fence} {n : Nat} {P : Program} {ops : Array Oper} {rest : List Oper} {o : Oper} {a : Act} {w W : World} {Q : Exit→Act→World→Prop} {s x : Operand} {t : TypeId} {v y r : Value}
  (hgd : o.guard=none) (ho : o.op=.call { callee:=.builtin .append,args:=#[s,x],argTypes:=#[t,t] }) (hs : a.eval s=v) (hx : a.eval x=y)
  (hrun : (Builtin.append_ #[t,t] o.type #[v,y]).run P w=.ok r W) (h : wpListIn F n P ops Q rest (a.put o.dst r) W) : wpListIn F n P ops Q (o :: rest) a w:=
 wpListIn_plain hgd fun K hK=>by
  unfold Oper.wpIn
  refine ⟨by simp [Oper.about,ho,resolve,Target.leads,Sem.run_pure],?_⟩
  rw [Oper.semAt_plain F _ _ (by rw [ho];intro c hc;cases hc)]
  simp [execOp,ho,resolve,invoke,builtin,hs,hx,hrun,Result.andThen]
  exact hK _ _ h
structure CI (T : Nat→Prop) (w : World) (B base : Nat) (pre : List (List UInt8)) (W : World) : Prop where
 box : ∃ v,Blk W B #[v] 38∧OS W base v pre
 mod : Mod T w W
theorem mod_turn {T : Nat→Prop} {N : Nat} {w W W' : World} (h : Mod T w W) (ht : Turn T N notCells W W') (hN : w.heap.size≤N) : Mod T w W':=by
 refine ⟨ht.os.trans h.os,ht.tape.trans h.tape,ht.output.trans h.output,Nat.le_trans h.size ht.size,fun k hk hs=>?_⟩
 obtain⟨o,ho⟩ : ∃ o,w.heap[k]? = some o:=⟨w.heap[k]'(by omega),Array.getElem?_eq_getElem _⟩
 rw [ht.block k o ((h.block k hk hs).trans ho) hs (fun h=>by omega),ho]
set_option maxRecDepth 100000 in
set_option maxHeartbeats 2000000 in
theorem appseq_any {g : Nat} {lb : Array Value} (eg : ∀ args w,(callFunc g args).run Tryz.prog w=.ok (.enter g args) w) {T : Nat→Prop} {S Sp : List (List UInt8)→Prop} {V : List (List UInt8)→List UInt8→Prop} (w : World)
  (hseq : SeqT T Fence.wide 4 Tryz.prog g lb (fun x : List UInt8=>#[.string (str x)]) S Sp V w) (hT : ∀ k,T k→k < w.heap.size) (hV : ∀ pre x,V pre x→pre.length≤1000000) :
  Calls Tryz.prog 267 #[.slice none 0 0,.func (.func g) #[] lb] w fun e w'=>(∃ v ss,e=.returned v∧S ss∧OS w' w.heap.size v ss)∧Mod T w w':=by
 refine (callsIn_wide (n:=5)).1 ?_
 refine callsIn_of_wp_marks Tryz.func267 rfl trivial ?_ rfl
 simp only [Tryz.ntmps267,List.size_toArray,List.length_cons,List.length_nil,Nat.reduceAdd,Nat.reduceSub,Array.replicate_succ,Array.replicate_zero,List.push_toArray,List.append_toArray,List.nil_append,List.cons_append]
 have q0:=Blk.new w #[.slice none 0 0] 38
 have hB0:=balloc (Below.refl w.heap.size w) (.cells #[.slice none 0 0] 38)
 have hz : (w.alloc (.cells #[.slice none 0 0] 38)).heap.size=w.heap.size + 1:=by simp
 have HSq:=Lib.hid hseq
 clear hseq
 gi_wp2
 generalize w.alloc (.cells #[.slice none 0 0] 38)=W1 at q0 hB0 hz ⊢
 refine' wpIn_rangeT (T:=T) rfl (by omega) (gf:=g) (lb:=lb) rfl trivial eg HSq.out (fun k hk=>by have:=hT k hk;omega) (KT.of_below hB0 hT) (fun _=>rfl)
  (fun pre W=>CI T w w.heap.size W1.heap.size pre W)
  (fun _ _ _=>False)
  (fun pre A B h ht=>?own) (fun c pre A B h ht=>h) ⟨⟨_,q0,OS.nil _ _⟩,Mod.of_below hB0⟩ _ ?assign ?body ?done (fun D c pre W _ _ h _=>h.elim)
 case own=>
  obtain⟨⟨v,h1,h2⟩,h3⟩:=h
  exact⟨⟨v,ht.block _ _ h1 (fun e=>by have:=hT _ e;omega) (fun _=>rfl),h2.turn (fun k cur hk hc=>ht.block _ _ hc (fun e=>by have:=hT _ e;omega) (fun _=>rfl))⟩,mod_turn h3 ht (by omega)⟩
 case assign=>
  intro L x W K hK
  gi_wp2
  exact hK
 case body=>
  rintro L pre x W hL hLW ⟨⟨v,b1,hO⟩,hM⟩ hv
  obtain⟨a,c,rfl,-,-,-⟩:=own_form hO
  obtain⟨g2,cap2,W2,hrun,hO2,hB2,hKO,hg2⟩:=hO.appK x (hV _ _ hv) (show W1.heap.size≤W.heap.size by omega)
  have hlp:=hO.1
  have HR:=Lib.hid hrun
  have k1:=b1.keepB hB2 (show w.heap.size < W1.heap.size by omega)
  obtain⟨c1,f1,z1⟩:=b1.facts
  obtain⟨d1,e1,y1⟩:=k1.facts
  have K1:=Lib.hid k1
  have HX:=Lib.hid (And.intro hO2 (And.intro hB2 (And.intro hKO (And.intro hM hg2))))
  clear hrun hO2 hB2 k1 b1 hKO hM hO hg2 hlp
  gi_wp2_with (gi_at_builtin;refine wpListIn_app_run1 rfl rfl rfl rfl HR.out ?_)
  obtain⟨hO2,hB2,hKO,hM,hg2⟩:=HX.out
  have hm:=(Mod.refl (fun k=>k=w.heap.size) W2).setCell (a:=⟨w.heap.size,0,none⟩) (.inl rfl) (.slice (some ⟨g2,0,none⟩) (pre.length + 1) cap2)
  refine ⟨(hKO.trans (KeepsOthers.setCell _ _ _)).from _,⟨Nat.le_trans hB2.size hm.size,fun k hk=>?_⟩,⟨⟨_,K1.out.set 0 _,hO2.turn (fun k cur hk hc=>(hm.block k (Array.getElem?_eq_some_iff.1 hc).1 (by omega)).trans hc)⟩,?_⟩⟩
  ·have:=hT k hk
   rw [hm.block k (by have:=hB2.size;omega) (by omega)]
   exact hB2.block k (by omega)
  ·refine ⟨hm.os.trans (hB2.os.trans hM.os),hm.tape.trans (hB2.tape.trans hM.tape),hm.output.trans (hB2.output.trans hM.output),Nat.le_trans hM.size (Nat.le_trans hB2.size hm.size),fun k hk hs=>?_⟩
   rw [hm.block k (by have:=hB2.size;have:=hM.size;omega) (by omega),hB2.block k (by omega)]
   exact hM.block k hk hs
 case done=>
  rintro D xs W hD hS ⟨⟨v,b1,hO⟩,hM⟩ hK
  obtain⟨a,c,rfl,-,-,-⟩:=own_form hO
  obtain⟨c1,f1,z1⟩:=b1.facts
  have HO:=Lib.hid (And.intro hO hM)
  clear hO hM b1
  gi_wp2
  show LeavesInM Fence.wide 5 Tryz.prog Tryz.f267 _ _ _ _ W
  refine ⟨by simp,.inl ⟨_,_,rfl,run_takeDeferred hK,?_⟩⟩
  refine ⟨.slice a xs.length c,by simp [results,Tryz.results267,go_sem],⟨_,_,rfl,hS,(HO.out.1.low (show w.heap.size≤W1.heap.size by omega)).turn (fun k cur hk hc=>(World.putObj_heap_other (fun e=>by subst e;rw [hK] at hc;cases hc)).trans hc)⟩,?_⟩
  have hm:=HO.out.2
  exact⟨hm.os,hm.tape,hm.output,Nat.le_trans hm.size (by simp),fun k hk hs=>(World.putObj_heap_other (fun e=>by omega)).trans (hm.block k hk hs)⟩
theorem collect_any {g : Nat} {lb : Array Value} (eg : ∀ args w,(callFunc g args).run Tryz.prog w=.ok (.enter g args) w) {T : Nat→Prop} {S Sp : List (List UInt8)→Prop} {V : List (List UInt8)→List UInt8→Prop} (w : World)
  (hseq : SeqT T Fence.wide 4 Tryz.prog g lb (fun x : List UInt8=>#[.string (str x)]) S Sp V w) (hT : ∀ k,T k→k < w.heap.size) (hV : ∀ pre x,V pre x→pre.length≤1000000) :
  Calls Tryz.prog 217 #[.func (.func g) #[] lb] w fun e w'=>(∃ v ss,e=.returned v∧S ss∧OS w' w.heap.size v ss)∧Mod T w w':=by
 have HA:=Lib.hid (appseq_any eg w hseq hT hV)
 clear hseq hT hV eg
 go_enter Tryz.func217,Tryz.ntmps217
 go_wp2_with fail
 refine HA.out.mono ?_
 rintro e w1 ⟨⟨v,ss,rfl,hS,hO⟩,hM⟩
 have HX:=Lib.hid (And.intro hS (And.intro hO hM))
 clear hS hO hM
 go_wp2_with fail
 go_ret
 exact⟨⟨v,ss,rfl,HX.out.1,HX.out.2.1⟩,HX.out.2.2⟩
theorem nparts_any (s : ByteArray) (w : World) :
  Calls Tryz.prog 218 #[.string s] w fun e w'=>e=.returned (.func (.func 268) #[] #[.pointer (some ⟨w.heap.size,0,none⟩)])∧w'=w.alloc (.cells #[.string s] 9):=by
 go_enter Tryz.func218,Tryz.ntmps218
 go_wp2_with fail
 go_ret
 exact⟨rfl,rfl⟩
theorem pcollect_any (s : ByteArray) (hs : s.size≤100000) (w : World) :
  Calls Tryz.prog 217 #[.func (.func 268) #[] #[.pointer (some ⟨w.heap.size,0,none⟩)]] (w.alloc (.cells #[.string s] 9)) fun e w'=>(∃ v,e=.returned v∧OS w' w.heap.size v (partsL s.data.toList))∧Below w.heap.size w w':=by
 have hz : (w.alloc (.cells #[.string s] 9)).heap.size=w.heap.size + 1:=by simp
 refine (collect_any (enters_of Tryz.func268 (by kernel_rfl) rfl) (w.alloc (.cells #[.string s] 9)) (parts_stops 4 (by omega) w.heap.size s hs _ (Blk.new w #[.string s] 9)) (fun k hk=>by omega) (fun pre x h=>?_)).mono ?_
 ·have h1:=h.length_le
  have h2:=parts_len s.data.toList
  have h3 : s.data.toList.length=s.size:=Array.length_toList
  rw [List.length_append,List.length_singleton] at h1
  omega
 ·rintro e w1 ⟨⟨v,ss,rfl,rfl,hO⟩,hM⟩
  exact⟨⟨v,rfl,hO.low (by omega)⟩,(balloc (Below.refl w.heap.size w) _).trans (hM.below (fun k hk=>by omega) (by omega))⟩
end Go.Proofs.YtihdbncoijhihaaGreatDoor
