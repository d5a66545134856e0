import Derived.Deep.CutBlock
import Derived.Deep.DeepCutAuto
import Derived.RegionTactic
import Derived.BigRegion
import Derived.Test.YtihdbncoijhihaaGreatDoorSN7
set_option linter.unusedVariables false
set_option linter.unusedSimpArgs false
set_option maxRecDepth 100000
set_option maxHeartbeats 16000000
namespace Go.Proofs.YtihdbncoijhihaaGreatDoor
section
open Go.RowKit
theorem own_cell1 {w:World} {base sz n g cap:Nat} {e:TypeId} {xs:List Value} (h:w.ownsRow base e sz (.slice (some ⟨g,0,none⟩) n cap) n xs) (j:Nat) (hj:j<xs.length) (v:Value) :
  (w.setCell ⟨g,j,none⟩ v).ownsRow base e sz (.slice (some ⟨g,0,none⟩) n cap) n (xs.set j v):=by
 rcases h.2 with ⟨hv,-⟩|⟨g',cap',cur,hv,hb,hg,h1,h2,h3,h4⟩
 ·cases hv
 ·injection hv with e1 e2 e3;injection e1 with e1;injection e1 with e1;subst e1 e3;refine ⟨by rw [List.length_set];exact h.1,.inr ⟨g,cap,_,rfl,hb,Blk.set hg j v,h1,h2,by rw [Array.size_setIfInBounds];exact h3,?_⟩⟩;rw [Array.toList_setIfInBounds,List.take_set,h4]
section
variable {w w':World} {pw:Nat} {R:Rp} {S:Fs}
theorem flat_len' (ds:List Dv):(ds.flatMap Dv.cs).length=ds.length*6:=flat_len Dv.cs_len ds
theorem WdAt.setQ (h:WdAt w pw R S) {g cap:Nat} (hdv:R.dv=.slice (some ⟨g,0,none⟩) S.ds.length cap) {k:Nat} (hk:k<S.ds.length) (v:Dv) (hv:S.ds[k]=v) (b n:Int) :
  WdAt ((((w.setCell ⟨g,k*6+2,none⟩ (.int .i64 b)).setCell ⟨g,k*6+3,none⟩ (.int .i64 n)).setCell ⟨g,k*6+4,none⟩ (.int .i64 v.mb)).setCell ⟨g,k*6+5,none⟩ (.int .i64 v.mn)) pw R
   (S.setDev ((k:Int)+1) {v with b:=b,n:=n})∧
  Mod (fun x=>x=g) w ((((w.setCell ⟨g,k*6+2,none⟩ (.int .i64 b)).setCell ⟨g,k*6+3,none⟩ (.int .i64 n)).setCell ⟨g,k*6+4,none⟩ (.int .i64 v.mb)).setCell ⟨g,k*6+5,none⟩ (.int .i64 v.mn)):=by
 have hm:Mod (fun x=>x=g) w ((((w.setCell ⟨g,k*6+2,none⟩ (.int .i64 b)).setCell ⟨g,k*6+3,none⟩ (.int .i64 n)).setCell ⟨g,k*6+4,none⟩ (.int .i64 v.mb)).setCell ⟨g,k*6+5,none⟩ (.int .i64 v.mn)):=
  ((((Mod.refl (fun x=>x=g) w).setCell (a:=⟨g,k*6+2,none⟩) (.inl rfl) _).setCell (a:=⟨g,k*6+3,none⟩) (.inl rfl) _).setCell (a:=⟨g,k*6+4,none⟩) (.inl rfl) _).setCell (a:=⟨g,k*6+5,none⟩) (.inl rfl) _
 refine ⟨?_,hm⟩;obtain⟨g',cap',hdv',-,-,-,-,-,cur,hcur⟩:=h.devF (by omega);have e:=hdv.symm.trans hdv';injection e with e;injection e with e;injection e with e;subst e;have hne:∀ (x:Nat) (vs:Array Value) (T:TypeId),Blk w x vs T→T≠243→x≠g:=by
  rintro x vs T hx hT rfl;unfold Blk at hx hcur;rw [hcur] at hx;injection hx with hx;injection hx with _ hx;exact hT hx.symm
 have h1:=hne _ _ _ h.blk (by decide);have h2:=hne _ _ _ h.tab.blk (by decide);have h3:R.pm≠g:=by
  rintro e;have hm:=h.tab.map;unfold MapB at hm;rw [e] at hm;unfold Blk at hcur;rw [hcur] at hm
  cases hm
 have hl:(S.setDev ((k:Int)+1) {v with b:=b,n:=n}).ds=S.ds.set k {v with b:=b,n:=n}:=by
  unfold Fs.setDev;rw [show ((k:Int)+1 - 1).toNat=k by omega]
 refine ⟨h.blk.mod hm h1,⟨h.tab.blk.mod hm h2,(hm.block _ h.tab.map.lt h3).trans h.tab.map,h.tab.once,h.tab.low⟩,?_,h.ns,fun x hx=>(h.ents x hx).turn (fun bk cr hc=>hm.block bk (Array.getElem?_eq_some_iff.1 hc).1 (hne bk cr _ hc (by decide))) hm.size⟩;rw [hl,List.length_set];have h0:=h.devs;rw [hdv] at h0 ⊢;have hkl:k*6+5<(S.ds.flatMap Dv.cs).length:=by rw [flat_len'];omega
 have p1:=own_cell1 h0 (k*6+2) (by omega) (.int .i64 b);have p2:=own_cell1 p1 (k*6+3) (by rw [List.length_set];omega) (.int .i64 n);have p3:=own_cell1 p2 (k*6+4) (by rw [List.length_set,List.length_set];omega) (.int .i64 v.mb);have p4:=own_cell1 p3 (k*6+5) (by rw [List.length_set,List.length_set,List.length_set];omega) (.int .i64 v.mn);have hs:=setAll_flat Dv.cs_len ({v with b:=b,n:=n}:Dv) S.ds k hk;rw [←hs];have c0:(S.ds.flatMap Dv.cs)[k*6]? = some (.int .i64 v.root):=by
  have:=flat_get Dv.cs_len S.ds k 0 hk (by omega);rw [Nat.add_zero] at this;rw [this,hv];rfl
 have c1:(S.ds.flatMap Dv.cs)[k*6+1]? = some (.int .i64 v.over):=by
  rw [flat_get Dv.cs_len S.ds k 1 hk (by omega),hv];rfl
 have e0:(S.ds.flatMap Dv.cs).set (k*6) (.int .i64 v.root)=S.ds.flatMap Dv.cs:=by
  have hlt:k*6<(S.ds.flatMap Dv.cs).length:=by omega
  rw [List.getElem?_eq_getElem hlt] at c0;injection c0 with c0;rw [←c0,List.set_getElem_self]
 have e1:(S.ds.flatMap Dv.cs).set (k*6+1) (.int .i64 v.over)=S.ds.flatMap Dv.cs:=by
  have hlt:k*6+1<(S.ds.flatMap Dv.cs).length:=by omega
  rw [List.getElem?_eq_getElem hlt] at c1;injection c1 with c1;rw [←c1,List.set_getElem_self]
 show World.ownsRow _ 0 243 6 _ _ ((((((((S.ds.flatMap Dv.cs).set (k*6) (.int .i64 v.root)).set (k*6+1) (.int .i64 v.over)).set (k*6+2) (.int .i64 b)).set (k*6+3) (.int .i64 n)).set (k*6+4) (.int .i64 v.mb)).set (k*6+5) (.int .i64 v.mn)));rw [e0,e1];exact p4
theorem WdAt.addN (h:WdAt w pw R S) (a:An) {ea:Option Addr} {el ec:Nat} (he:EntsAt w ea el ec a.ents) (hl0:0≤S.last) (hl1:S.last≤1000000) :
  Calls Tryz.prog 293 #[.pointer (some ⟨R.pt,0,none⟩),a.v ea el ec] w fun e w'=>e=.returned (.int .i64 (S.last+1))∧∃ R',WdAt w' pw R' (S.add a)∧Stp (R.F pw) (R'.F pw) w w'∧R'.pt=R.pt∧R'.dv=R.dv:=by
 refine (add_any (a.nd ea el ec) w R.pt R.pm S.last _ R.clk h.tab hl0 hl1).mono ?_;rintro e w' ⟨rfl,hT,hM⟩;have hM':Mod (R.F pw) w w':=hM.mono (fun k hk=>hk.elim (fun e=>.inr (.inl e)) (fun e=>.inr (.inr (.inl e))));have hst:Stp (R.F pw) (R.F pw) w w':=Stp.of_mod hM';have hnw:pw≠R.pt:=by
  intro e;have h1:=h.blk;have h2:=h.tab.blk;rw [e] at h1;unfold Blk at h1 h2;rw [h1] at h2;injection h2 with h2;injection h2 with _ h2;revert h2;decide
 have hnm:pw≠R.pm:=by
  intro e;have h1:=h.blk;have h2:=h.tab.map;rw [e] at h1;unfold Blk at h1;unfold MapB at h2;rw [h1] at h2
  cases h2
 refine ⟨rfl,⟨R.pt,R.pm,R.dv,R.G ++ [⟨{a with no:=S.last+1},ea,el,ec,R.clk⟩],R.clk+1⟩,⟨h.blk.mod hM (fun e=>e.elim hnw hnm),?_,?_,?_,?_⟩,⟨hM',fun k hk=>.inl hk⟩,rfl,rfl⟩
 ·show Tab w' R.pt R.pm (S.last+1) ((R.G ++ [_]).map Gn.e) (R.clk+1);rw [List.map_append];exact hT
 ·refine ⟨h.devs.1,h.devs.2.imp id fun ⟨g,cap,cur,h1,h2,hg,h3⟩=>⟨g,cap,cur,h1,h2,(hM.block g (Array.getElem?_eq_some_iff.1 hg).1 ?_).trans hg,h3⟩⟩;rintro (e | e)
  ·subst e;have h2:=h.tab.blk;unfold Blk at h2;rw [hg] at h2;injection h2 with h2;injection h2 with _ h2;revert h2;decide
  ·subst e;have h2:=h.tab.map;unfold MapB at h2;rw [hg] at h2
   cases h2
 ·show S.ns ++ [_]=(R.G ++ [_]).map (fun g:Gn=>g.a);rw [List.map_append,←h.ns];rfl
 ·intro g hg;rcases List.mem_append.1 hg with hg | hg
  ·exact (h.ents g hg).wd h hst
  ·simp only [List.mem_cons,List.not_mem_nil,or_false] at hg;subst hg;exact he.wd h hst
end
end
section
open Go.RowKit
section
variable {w w':World} {pw:Nat} {R:Rp} {S:Fs}
theorem make_none {S:Fs} {a:An} (h:S.root a.dev=0):S.make a=(S,0,1):=by unfold Fs.make;rw [if_pos h]
theorem make_err {S:Fs} {a:An} {v:Dv} (h:S.root a.dev≠0) (hv:S.dev a.dev=some v) (he:tkE v.b v.n v.mb v.mn (blkI a.kind a.data.size) 1≠0):S.make a=(S,0,tkE v.b v.n v.mb v.mn (blkI a.kind a.data.size) 1):=by
 unfold Fs.make;rw [if_neg h,hv];simp only;rw [if_neg he]
theorem make_ok {S:Fs} {a:An} {v:Dv} (h:S.root a.dev≠0) (hv:S.dev a.dev=some v) (he:tkE v.b v.n v.mb v.mn (blkI a.kind a.data.size) 1=0) :
  S.make a=((S.setDev a.dev {v with b:=v.b+blkI a.kind a.data.size,n:=v.n+1}).add a,S.last+1,0):=by
 unfold Fs.make;rw [if_neg h,hv];simp only;rw [if_pos he]
theorem wmake_none (h:WdAt w pw R S) (hd:0<S.ds.length) (a:An) (ea:Option Addr) (el ec:Nat) (hr:S.root a.dev=0) :
  Calls Tryz.prog 284 #[.pointer (some ⟨pw,0,none⟩),a.v ea el ec] w fun e w'=>e=.returned (.tuple #[.int .i64 0,.int .i64 1])∧Below w.heap.size w w':=by
 have HR:=Lib.hid (wroot_any (h.keep ((Below.refl _ w).alloc (Nat.le_refl _) (.cells #[.int .i64 a.no,.int .i64 a.dev,.int .i64 a.kind,.int .i64 a.mode,.int .i64 a.uid,.int .i64 a.gid,.int .i64 a.mtime,.int .i64 a.ctime,.int .i64 a.links,.int .i64 a.up,.string a.data,.slice ea el ec] 109))) hd a.dev);rw [hr] at HR;unfold An.v;clear h hd hr;go_enter Tryz.func284,Tryz.ntmps284;go_wp2_with fail;refine HR.out.mono ?_;rintro e w1 ⟨rfl,rfl⟩;go_wp2_with fail;go_ret2;exact⟨rfl,balloc (Below.refl _ _) _⟩
theorem wmake_mid (h:WdAt w pw R S) {k:Nat} (hk:k<S.ds.length) (a:An) (ea:Option Addr) (el ec:Nat) (he:EntsAt w ea el ec a.ents) (hdev:a.dev=(k:Int)+1) (hr:S.root a.dev≠0) (hs:a.data.size≤9223372036854775807) (hl0:0≤S.last) (hl1:S.last≤1000000) :
  Calls Tryz.prog 284 #[.pointer (some ⟨pw,0,none⟩),a.v ea el ec] w fun e w'=>e=.returned (.tuple #[.int .i64 (S.make a).2.1,.int .i64 (S.make a).2.2])∧∃ R',WdAt w' pw R' (S.make a).1∧Stp (R.F pw) (R'.F pw) w w':=by
 have HR:=Lib.hid (wroot_any (h.keep ((Below.refl _ w).alloc (Nat.le_refl _) (.cells #[.int .i64 a.no,.int .i64 a.dev,.int .i64 a.kind,.int .i64 a.mode,.int .i64 a.uid,.int .i64 a.gid,.int .i64 a.mtime,.int .i64 a.ctime,.int .i64 a.links,.int .i64 a.up,.string a.data,.slice ea el ec] 109))) (by omega) a.dev);obtain⟨g,cap,hdv,hle,h63,hgl,hc,hfg,-⟩:=h.devF (by omega);obtain⟨c0,c1,c2,c3,c4,c5⟩:=hc k hk;obtain⟨v,hv⟩:∃ v,S.ds[k]=v:=⟨_,rfl⟩;rw [hv] at c0 c1 c2 c3 c4 c5;obtain⟨pc,-,pz⟩:=h.blk.facts;rw [hdv] at pc;obtain⟨rt,hrt⟩:∃ rt,S.root a.dev=rt:=⟨_,rfl⟩;have hrn:=hr;rw [hrt] at HR hr;have hdv2:S.dev a.dev=some v:=by
  unfold Fs.dev;rw [if_pos (by omega),hdev,show ((k:Int)+1 - 1).toNat=k by omega,List.getElem?_eq_getElem hk,hv]
 obtain⟨n,hn⟩:∃ n,S.ds.length=n:=⟨_,rfl⟩;have hkn:k<n:=by omega
 rw [hn] at pc hle;have hr2:(rt == 0)=false:=by simpa using hr
 have hT:=fun w=>take_any v.b v.n v.mb v.mn (blkI a.kind a.data.size) 1 w;unfold tkV at hT;have HB:=Lib.hid (fun w=>blocks_any a.kind a.data.size (by omega) w);have HM1:=Lib.hid (fun (he0:tkE v.b v.n v.mb v.mn (blkI a.kind a.data.size) 1≠0)=>make_err hrn hdv2 he0);have HM2:=Lib.hid (fun (he0:tkE v.b v.n v.mb v.mn (blkI a.kind a.data.size) 1=0)=>make_ok hrn hdv2 he0);have HQ:=Lib.hid (fun (he0:tkE v.b v.n v.mb v.mn (blkI a.kind a.data.size) 1=0)=>show tkB v.b v.n v.mb v.mn (blkI a.kind a.data.size) 1=v.b+blkI a.kind a.data.size∧tkN v.b v.n v.mb v.mn (blkI a.kind a.data.size) 1=v.n+1 by unfold tkB tkN;rw [if_pos he0,if_pos he0];exact ⟨rfl,rfl⟩);have HW0:=Lib.hid h;have HE0:=Lib.hid he;have HDv:=Lib.hid hdv;have HV:=Lib.hid (show ∃ hk:k<S.ds.length,S.ds[k]=v from ⟨hk,hv⟩);have Hdev:=Lib.hid hdev;unfold An.v;rw [hdev] at HR ⊢;have B1:=Blk.new w #[.int .i64 a.no,.int .i64 ((k:Int)+1),.int .i64 a.kind,.int .i64 a.mode,.int .i64 a.uid,.int .i64 a.gid,.int .i64 a.mtime,.int .i64 a.ctime,.int .i64 a.links,.int .i64 a.up,.string a.data,.slice ea el ec] 109;have hb1:=(Below.refl w.heap.size w).alloc (Nat.le_refl _) (.cells #[.int .i64 a.no,.int .i64 ((k:Int)+1),.int .i64 a.kind,.int .i64 a.mode,.int .i64 a.uid,.int .i64 a.gid,.int .i64 a.mtime,.int .i64 a.ctime,.int .i64 a.links,.int .i64 a.up,.string a.data,.slice ea el ec] 109);clear h hr hrn hrt hn hv hc hdv hdv2 he hk hdev c0 c1;generalize blkI a.kind a.data.size=bk at hT HB HM1 HM2 HQ;generalize tkE v.b v.n v.mb v.mn bk 1=e0 at hT HM1 HM2 HQ;generalize tkB v.b v.n v.mb v.mn bk 1=qb at hT HQ;generalize tkN v.b v.n v.mb v.mn bk 1=qn at hT HQ;have HT:=Lib.hid hT;clear hT;go_enter Tryz.func284,Tryz.ntmps284;go_wp2_with fail;refine HR.out.mono ?_;rintro e w1 ⟨rfl,rfl⟩;generalize w.alloc (.cells #[.int .i64 a.no,.int .i64 ((k:Int)+1),.int .i64 a.kind,.int .i64 a.mode,.int .i64 a.uid,.int .i64 a.gid,.int .i64 a.mtime,.int .i64 a.ctime,.int .i64 a.links,.int .i64 a.up,.string a.data,.slice ea el ec] 109)=W at B1 hb1 ⊢;obtain⟨Bn,hBn⟩:∃ Bn,w.heap.size=Bn:=⟨_,rfl⟩;rw [hBn] at B1 ⊢;obtain⟨bc,bf,bz⟩:=B1.facts;rw [←hb1.cell (p:=⟨g,k*6+2,none⟩) hgl] at c2;rw [←hb1.cell (p:=⟨g,k*6+3,none⟩) hgl] at c3;rw [←hb1.cell (p:=⟨g,k*6+4,none⟩) hgl] at c4;rw [←hb1.cell (p:=⟨g,k*6+5,none⟩) hgl] at c5;have pc1:W.cell? ⟨pw,1,none⟩=_:=(hb1.cell (p:=⟨pw,1,none⟩) pz).trans (pc 1);have hgW:g<W.heap.size:=Nat.lt_of_lt_of_le hgl hb1.size;have hpW:pw<W.heap.size:=Nat.lt_of_lt_of_le pz hb1.size;have HW:=Lib.hid hb1;have HB1:=Lib.hid B1;have HBn:=Lib.hid hBn;clear pc hb1 B1 hBn;go_upto_region 3 with (fail)
 go_cut [6,7] (fun t6 t7 wx=>∃ Bq:Nat,t6=.pointer (some ⟨Bq,0,none⟩)∧t7=.int .i64 e0∧Blk wx Bq #[.int .i64 qb,.int .i64 qn,.int .i64 v.mb,.int .i64 v.mn] 168∧Below W.heap.size W wx)
 case first=>
  go_wp2_with fail;have hw1:IntKind.i64.wrap ((k:Int)+1 - 1)=(k:Int):=by rw [IntKind.wrap_i64];omega
  have hw2:IntKind.i64.wrap (k:Int)=(k:Int):=by rw [IntKind.wrap_i64];omega
  have hb3:(k:Int)<(n:Int):=by omega
  have hb4:(0:Int)≤(k:Int):=by omega
  have hzz:W.heap.size≤W.heap.size:=Nat.le_refl _
  go_region_held3 (fun w'=>(∀ b o,b<W.heap.size→w'.cell? ⟨b,o,none⟩=W.cell? ⟨b,o,none⟩)∧Below W.heap.size W w') (first | with_reducible assumption | with_reducible exact keepS_here _ | with_reducible exact keepS_here2 _ | with_reducible exact keepS_call (by assumption) (by assumption) | with_reducible exact keepS_alloc (by assumption) _ | with_reducible exact keepS_allocD (by assumption) _ | with_reducible exact keepS_realloc (by assumption) (by assumption) | with_reducible exact keepS_set4 (by assumption) (by assumption))
   (first | (go_at_call 282;((with_reducible refine (HB.out _).mono ?_);rintro e w4 ⟨rfl,rfl⟩)) | (go_at_call 281;((with_reducible refine (HT.out _).mono ?_);rintro e w4 ⟨rfl,hb5⟩;have hz5:=Nat.le_trans (And.right ‹(∀ b o,b<W.heap.size→_)∧Below W.heap.size W _›).size hb5.size;try (have hbq:=new_drew hb5;obtain ⟨bqc,bqf,bqz⟩:=hbq.facts))))
  all_goals
   obtain⟨-,hS4⟩:=‹_∧Below W.heap.size W _›;have HS4:=Lib.hid hS4
   try (have HQ4:=Lib.hid hbq)
   clear hS4;go_wp2_with fail;go_meet;exact⟨_,rfl,rfl,by first | exact HQ4.out.set4 | exact Blk.new _ _ _,HS4.out⟩
 case rest=>
  obtain⟨Bq,rfl,rfl,hQ,hS⟩:=hcut;have HS:=Lib.hid hS;have HWc:=Lib.hid (show Below w.heap.size w wc from HW.out.trans (hS.mono HW.out.size));by_cases h0:e0=0
  ·obtain ⟨hk,hv⟩:=HV.out;obtain⟨rfl,rfl⟩:=HQ.out h0;have HMk:=Lib.hid (HM2.out h0);subst h0;obtain⟨qc,qf,qz⟩:=hQ.facts;have pcw:wc.cell? ⟨pw,1,none⟩=_:=(hS.cell (p:=⟨pw,1,none⟩) hpW).trans pc1;have bcw:wc.cell? ⟨Bn,1,none⟩=_:=(hS.cell (p:=⟨Bn,1,none⟩) bz).trans (bc 1);rw [←hS.cell (p:=⟨g,k*6+2,none⟩) hgW] at c2;rw [←hS.cell (p:=⟨g,k*6+3,none⟩) hgW] at c3;rw [←hS.cell (p:=⟨g,k*6+4,none⟩) hgW] at c4;rw [←hS.cell (p:=⟨g,k*6+5,none⟩) hgW] at c5;have hfw:∀ i,wc.frozen? ⟨g,i,none⟩=false:=fun i=>(HWc.out.frozen (p:=⟨g,i,none⟩) hgl).trans (hfg i);have hWd:=HW0.out.keep HWc.out;obtain⟨hWq,hMq⟩:=hWd.setQ HDv.out hk v hv (v.b+bk) (v.n+1);have hgF:R.F pw g:=.inr (.inr (.inr (by rw [HDv.out];rfl)));have hStq:Stp (R.F pw) (R.F pw) wc _:=Stp.of_mod (hMq.mono (fun x hx=>by rw [hx];exact hgF));have HEq:=Lib.hid ((HE0.out.keep HWc.out).wd hWd hStq);have hBq:=(HB1.out.keep hS).wd hWd hStq rfl;have HWq:=Lib.hid hWq;have HSt:=Lib.hid ((Stp.of_below HWc.out).trans hStq);clear hWd hWq hMq hStq pc1 hfg;go_wp2_with fail;have mixed:Tryz.prog.follows .mixedOrders=true:=by kernel_rfl
   have hw1:IntKind.i64.wrap ((k:Int)+1 - 1)=(k:Int):=by rw [IntKind.wrap_i64];omega
   have hw2:IntKind.i64.wrap (k:Int)=(k:Int):=by rw [IntKind.wrap_i64];omega
   have hb3:(k:Int)<(n:Int):=by omega
   have hb4:(0:Int)≤(k:Int):=by omega
   refine wp_region_lex 8 mixed (by kernel_rfl) then_panic ?_;simp only [List.take_succ_cons,List.take_zero,List.drop_succ_cons,List.drop_zero]
   repeat still_step
   refine wpStill_nil ?_;go_wp2_with fail;generalize (((wc.setCell ⟨g,k*6+2,none⟩ (.int .i64 (v.b+bk))).setCell ⟨g,k*6+3,none⟩ (.int .i64 (v.n+1))).setCell ⟨g,k*6+4,none⟩ (.int .i64 v.mb)).setCell ⟨g,k*6+5,none⟩ (.int .i64 v.mn)=X at HEq hBq HWq HSt ⊢;obtain⟨xc,-,xz⟩:=HWq.out.blk.facts;obtain⟨bc,bf,bz⟩:=hBq.facts;clear c2 c3 c4 c5 hfw pcw bcw qc qf qz;refine wp_region_lex 5 mixed (by kernel_rfl) then_panic ?_;simp only [List.take_succ_cons,List.take_zero,List.drop_succ_cons,List.drop_zero]
   repeat still_step
   refine wpStill_nil ?_;have hXd:Below X.heap.size X X.drew.drew:=((Below.refl _ X).drew).drew;have hAdd:=(HWq.out.keep hXd).addN a (HEq.out.keep hXd) hl0 hl1;unfold An.v at hAdd;rw [Hdev.out] at hAdd;have HAdd:=Lib.hid hAdd;clear hAdd;go_wp2_with fail;refine HAdd.out.mono ?_;rintro e w5 ⟨rfl,R',hR1,hR2,-,-⟩;have HR':=Lib.hid (And.intro hR1 hR2);clear hR1 hR2;go_wp2_with fail;go_ret2;rw [HMk.out];refine ⟨rfl,R',?_,(HSt.out.trans (Stp.of_below hXd)).trans HR'.out.2⟩;rw [Hdev.out];exact HR'.out.1
  ·have HMk:=Lib.hid (HM1.out h0);have he2:(e0 != 0)=true:=by simpa using h0
   clear h0;go_wp2_with fail;go_ret2;rw [HMk.out];exact⟨rfl,R,HW0.out.keep HWc.out,Stp.of_below HWc.out⟩
end
end
section
open Go.RowKit
theorem own_obj1 {w:World} {base sz n k:Nat} {e:TypeId} {v:Value} {xs:List Value} (h:w.ownsRow base e sz v n xs) (hk:v.ownBlock=some k):base≤k∧∃ cur,w.heap[k]? = some (.cells cur e (0,0)):=by
 rcases h.2 with ⟨rfl,-⟩|⟨g,cap,cur,rfl,hb,hg,-⟩
 ·cases hk
 ·simp only [Value.ownBlock,Option.some.injEq] at hk;subst hk;exact⟨hb,cur,hg⟩
section
variable {w w':World} {pw:Nat} {R:Rp} {S:Fs}
theorem WdAt.tabStep (h:WdAt w pw R S) (hM:Mod (fun k=>k=R.pt∨k=R.pm) w w'):Stp (R.F pw) (R.F pw) w w'∧Blk w' pw #[.pointer (some ⟨R.pt,0,none⟩),R.dv] 196∧w'.ownsRow 0 243 6 R.dv S.ds.length (S.ds.flatMap Dv.cs):=by
 have hM':Mod (R.F pw) w w':=hM.mono (fun k hk=>hk.elim (fun e=>.inr (.inl e)) (fun e=>.inr (.inr (.inl e))));have hap:∀ (x:Nat) (vs:Array Value) (T:TypeId),Blk w x vs T→T≠263→¬ (x=R.pt∨x=R.pm):=by
  rintro x vs T hx hT (rfl | rfl)
  ·have h2:=h.tab.blk;unfold Blk at hx h2;rw [hx] at h2;injection h2 with h2;injection h2 with _ h2;exact hT h2
  ·have h2:=h.tab.map;unfold MapB at h2;unfold Blk at hx;rw [hx] at h2
   cases h2
 refine ⟨Stp.of_mod hM',h.blk.mod hM (hap _ _ _ h.blk (by decide)),⟨h.devs.1,h.devs.2.imp id fun ⟨g,cap,cur,h1,h2,hg,h3⟩=>⟨g,cap,cur,h1,h2,(hM.block g (Array.getElem?_eq_some_iff.1 hg).1 (hap _ _ _ hg (by decide))).trans hg,h3⟩⟩⟩
def Gn.put (a:An) (ea:Option Addr) (el ec:Nat) (g:Gn):Gn:=if g.a.no == a.no then ⟨a,ea,el,ec,g.clk⟩ else g
theorem WdAt.setN (h:WdAt w pw R S) (a:An) {ea:Option Addr} {el ec:Nat} (he:EntsAt w ea el ec a.ents) {b:An} (hb:S.get a.no=some b) :
  Calls Tryz.prog 242 #[.pointer (some ⟨R.pt,0,none⟩),a.v ea el ec] w fun e w'=>e=.returned (.bool true)∧∃ R',WdAt w' pw R' (S.set a)∧Stp (R.F pw) (R'.F pw) w w'∧R'.pt=R.pt∧R'.dv=R.dv:=by
 obtain⟨g0,-,-,hf,-⟩:=G_of h hb;refine (set_yes g0.nd (a.nd ea el ec) w R.pt R.pm S.last _ R.clk h.tab hf).mono ?_;rintro e w' ⟨rfl,hT,hM⟩;obtain⟨hst,hblk,hdv⟩:=h.tabStep hM;refine ⟨rfl,⟨R.pt,R.pm,R.dv,R.G.map (Gn.put a ea el ec),R.clk⟩,⟨hblk,?_,hdv,?_,?_⟩,⟨hst.mod,fun k hk=>.inl hk⟩,rfl,rfl⟩
 ·show Tab w' R.pt R.pm S.last ((R.G.map (Gn.put a ea el ec)).map Gn.e) R.clk;have e:(R.G.map (Gn.put a ea el ec)).map Gn.e=(R.G.map Gn.e).map fun x=>if x.1.no == (a.nd ea el ec).no then (a.nd ea el ec,x.2) else x:=by
   rw [List.map_map,List.map_map];apply List.map_congr_left;intro g _;simp only [Function.comp_apply,Gn.put];show Gn.e (if (g.a.no == a.no)=true then _ else g)=if (g.a.no == a.no)=true then _ else _
   split
   ·rfl
   ·rfl
  rw [e];exact hT
 ·show (S.ns.map _)=(R.G.map (Gn.put a ea el ec)).map (fun g:Gn=>g.a);rw [h.ns,List.map_map,List.map_map];apply List.map_congr_left;intro g _;simp only [Function.comp_apply,Gn.put]
  split <;> rfl
 ·intro g hg;obtain⟨g1,hg1,rfl⟩:=List.mem_map.1 hg;unfold Gn.put
  split
  ·exact he.wd h hst
  ·exact (h.ents g1 hg1).wd h hst
theorem dev_info:(Tryz.prog.info? 243).map (fun i=>(i.zero,i.size,i.bytes))=some (some (.agg #[.int .i64 0,.int .i64 0,.int .i64 0,.int .i64 0,.int .i64 0,.int .i64 0]),6,48):=by kernel_rfl
def Fs.addDev (S:Fs) (over b n:Int):Fs:={S with ds:=S.ds ++ [⟨0,over,1,1,b,n⟩]}
theorem WdAt.app (h:WdAt w pw R S) (hl:S.ds.length≤100) (ad:Addr) (over b n:Int) (had:∀ j u,(Dv.cs ⟨0,over,1,1,b,n⟩)[j]? = some u→w.cell? (ad.add j)=some u) :
  ∃ g cap W,(Builtin.append_ #[194,194] 194 #[R.dv,.slice (some ad) 1 1]).run Tryz.prog w=.ok (.slice (some ⟨g,0,none⟩) (S.ds.length+1) cap) W∧
   WdAt (W.setCell ⟨pw,1,none⟩ (.slice (some ⟨g,0,none⟩) (S.ds.length+1) cap)) pw {R with dv:=.slice (some ⟨g,0,none⟩) (S.ds.length+1) cap} (S.addDev over b n)∧
   Stp (R.F pw) (Rp.F {R with dv:=.slice (some ⟨g,0,none⟩) (S.ds.length+1) cap} pw) w (W.setCell ⟨pw,1,none⟩ (.slice (some ⟨g,0,none⟩) (S.ds.length+1) cap))∧
   Blk W pw #[.pointer (some ⟨R.pt,0,none⟩),R.dv] 196∧Mod (fun k=>R.dv.ownBlock=some k) w W:=by
 obtain⟨i0,hi,hz0,hz1,hz2⟩:=info_parts dev_info;obtain⟨g,cap,W,h1,h2,h3,h4⟩:=step_app (194) Tryz.underlying194 hi hz0 hz1 hz2 rfl (by omega) h.devs ad 1 1 (Dv.cs ⟨0,over,1,1,b,n⟩) rfl had (by intro u hu;simp [Dv.cs] at hu;rcases hu with rfl | rfl | rfl | rfl | rfl <;> rfl) (by omega) (by unfold maxLen;omega) (by omega) (Nat.zero_le _);have hM:Mod (R.F pw) w W:=h3.mono (fun k hk=>.inr (.inr (.inr hk)));have hap:∀ (x:Nat) (vs:Array Value) (T:TypeId),Blk w x vs T→T≠243→¬ (R.dv.ownBlock=some x):=by
  intro x vs T hx hT hk;obtain⟨-,cur,hc⟩:=own_obj1 h.devs hk;unfold Blk at hx;rw [hx] at hc;injection hc with hc;injection hc with _ hc;exact hT hc
 have hbW:Blk W pw #[.pointer (some ⟨R.pt,0,none⟩),R.dv] 196:=h.blk.mod h3 (hap _ _ _ h.blk (by decide));have hpg:pw≠g:=by
  rintro rfl;rcases h4 with h4 | h4
  ·exact hap _ _ _ h.blk (by decide) h4
  ·have:=h.blk.lt;omega
 have hmap:¬ (R.dv.ownBlock=some R.pm):=fun hk=>by
  obtain⟨-,cur,hc⟩:=own_obj1 h.devs hk;have:=h.tab.map;unfold MapB at this;rw [hc] at this
  cases this
 have hs2:Stp (R.F pw) (R.F pw) w (W.setCell ⟨pw,1,none⟩ (.slice (some ⟨g,0,none⟩) (S.ds.length+1) cap)):=Stp.of_mod (hM.setCell (.inl (.inl rfl)) _);have hnt:pw≠R.pt:=fun e=>by
  have h1:=h.blk;have h2:=h.tab.blk;rw [e] at h1;unfold Blk at h1 h2;rw [h1] at h2;injection h2 with h2;injection h2 with _ h2;revert h2;decide
 have hnm:pw≠R.pm:=fun e=>by
  have h1:=h.blk;have h2:=h.tab.map;rw [e] at h1;unfold Blk at h1;unfold MapB at h2;rw [h1] at h2;cases h2
 refine ⟨g,cap,W,h1,⟨?_,⟨?_,?_,h.tab.once,h.tab.low⟩,?_,h.ns,fun x hx=>(h.ents x hx).wd h hs2⟩,⟨hs2.mod,fun k hk=>?_⟩,hbW,h3⟩
 ·exact hbW.set 1 _
 ·exact (h.tab.blk.mod h3 (hap _ _ _ h.tab.blk (by decide))).setOther _ _ hnt
 ·exact MapB.setOther ((h3.block _ h.tab.map.lt hmap).trans h.tab.map) _ _ hnm
 ·show World.ownsRow _ 0 243 6 _ (S.ds ++ [_]).length ((S.ds ++ [_]).flatMap Dv.cs);rw [List.length_append,List.length_singleton,List.flatMap_append,List.flatMap_singleton];refine own_mod h2 ((Mod.refl (fun k=>k=pw) W).setCell (a:=⟨pw,1,none⟩) (.inl rfl) _) (fun k hk e=>?_);subst hk;simp only [Value.ownBlock,Option.some.injEq] at e;exact hpg e.symm
 ·rcases hk with hk | hk | hk | hk
  ·exact .inl (.inl hk)
  ·exact .inl (.inr (.inl hk))
  ·exact .inl (.inr (.inr (.inl hk)))
  ·simp only [Value.ownBlock,Option.some.injEq] at hk;subst hk;rcases h4 with h4 | h4
   ·exact .inl (.inr (.inr (.inr h4)))
   ·exact .inr (by omega)
end
end
section
open Go.RowKit
theorem row_cells {α:Type} {enc:α→List Value} {w:World} {base sz n:Nat} {e:TypeId} {v:Value} {ys:List α} (hpos:0<sz) (hl:∀ x,(enc x).length=sz) (h:w.ownsRow base e sz v n (ys.flatMap enc)) (hn:0<n) :
  ∃ g cap,v=.slice (some ⟨g,0,none⟩) n cap∧ys.length=n∧n≤cap∧cap≤9223372036854775807∧base≤g∧g<w.heap.size∧
   (∀ (i:Nat) (hi:i<ys.length) (j:Nat) (hj:j<sz),w.cell? ⟨g,i*sz+j,none⟩=some ((enc ys[i])[j]'(by rw [hl];exact hj)))∧∃ cur,Blk w g cur e:=by
 obtain⟨a,cap,rfl,hle,h63,hf⟩:=own_form h;rcases hf with ⟨-,h1,-⟩|⟨g,rfl,hb,hg⟩
 ·omega
 ·obtain ⟨hy,-,-,h1 | ⟨b,off,he,hb2,hel⟩⟩:=own_slice (R:=fun cs x=>cs=enc x) hpos hl (fun _=>rfl) h
  ·omega
  ·injection he with he;injection he with e1 e2;subst e1 e2;obtain⟨cur,hcur⟩:∃ cur,Blk w g cur e:=by
    rcases h.2 with ⟨h1,-⟩|⟨g',cap',cur,h1,-,hg',-⟩
    ·cases h1
    ·injection h1 with h1;injection h1 with h1;injection h1 with h1;subst h1;exact⟨cur,hg'⟩
   refine ⟨g,cap,rfl,hy,hle,h63,hb,hg,fun i hi j hj=>?_,cur,hcur⟩;obtain⟨cs,h2,h3,h4⟩:=hel i hi;subst h3;have:=h4 j (by rw [hl];exact hj);rw [Nat.zero_add] at this;exact this
def Gn.cs (g:Gn):List Value:=[.int .i64 g.a.no,.int .i64 g.a.dev,.int .i64 g.a.kind,.int .i64 g.a.mode,.int .i64 g.a.uid,.int .i64 g.a.gid,.int .i64 g.a.mtime,.int .i64 g.a.ctime,.int .i64 g.a.links,.int .i64 g.a.up,.string g.a.data,.slice g.ea g.el g.ec]
theorem Gn.cs_len (g:Gn):g.cs.length=12:=rfl
structure Rf where
 nv:Value
 dv:Value
 G:List Gn
 now:Int
 cnt:Value
 pl:Value
 dd:Value
def Rf.F (R:Rf) (pf k:Nat):Prop:=k=pf∨R.nv.ownBlock=some k∨R.dv.ownBlock=some k
structure RfAt (w:World) (pf:Nat) (R:Rf) (S:Fs):Prop where
 blk:Blk w pf #[R.nv,R.dv,.int .i64 S.last,.int .i64 R.now,R.cnt,R.pl,R.dd] 44
 nds:w.ownsRow 0 109 12 R.nv R.G.length (R.G.flatMap Gn.cs)
 devs:w.ownsRow 0 170 6 R.dv S.ds.length (S.ds.flatMap Dv.cs)
 ns:S.ns=R.G.map (·.a)
 ents:∀ g∈R.G,EntsAt w g.ea g.el g.ec g.a.ents
def rfKind (o:Obj):Bool:=match o with
 | .cells _ t _=>t == 44 || t == 109 || t == 170
 | _=>false
section
variable {w w':World} {pf:Nat} {R:Rf} {S:Fs}
theorem RfAt.kind (h:RfAt w pf R S) {k:Nat} (hk:R.F pf k):∃ o,w.heap[k]? = some o∧rfKind o=true:=by
 rcases hk with rfl | hk | hk
 ·exact ⟨_,h.blk,rfl⟩
 ·obtain ⟨-,cur,hc⟩:=own_obj1 h.nds hk;exact⟨_,hc,rfl⟩
 ·obtain ⟨-,cur,hc⟩:=own_obj1 h.devs hk;exact⟨_,hc,rfl⟩
theorem RfAt.lt (h:RfAt w pf R S) {k:Nat} (hk:R.F pf k):k<w.heap.size:=by
 obtain⟨o,ho,-⟩:=h.kind hk;exact (Array.getElem?_eq_some_iff.1 ho).1
theorem EntsAt.rf {a:Option Addr} {n c:Nat} {es:List En} (he:EntsAt w a n c es) (h:RfAt w pf R S) {F':Nat→Prop} (hs:Stp (R.F pf) F' w w'):EntsAt w' a n c es:=
 he.turn (fun b cur hc=>hs.mod.block b (Array.getElem?_eq_some_iff.1 hc).1 (fun hk=>by
  obtain⟨o,ho,hd⟩:=h.kind hk;rw [hc] at ho;injection ho with ho;subst ho;rw [show rfKind (.cells cur 113 (0,0))=false from rfl] at hd
  cases hd)) hs.mod.size
theorem Blk.rf {B:Nat} {vs:Array Value} {T:TypeId} (hb:Blk w B vs T) (h:RfAt w pf R S) {F':Nat→Prop} (hs:Stp (R.F pf) F' w w') (hT:rfKind (.cells #[] T (0,0))=false):Blk w' B vs T:=
 hb.mod hs.mod (fun hk=>by
  obtain⟨o,ho,hd⟩:=h.kind hk;unfold Blk at hb;rw [hb] at ho;injection ho with ho;subst ho;rw [show rfKind (.cells vs T (0,0))=rfKind (.cells #[] T (0,0)) from rfl,hT] at hd
  cases hd)
theorem own_turn {base sz n:Nat} {e:TypeId} {v:Value} {xs:List Value} (h:w.ownsRow base e sz v n xs) (ht:∀ k,v.ownBlock=some k→w'.heap[k]? = w.heap[k]?):w'.ownsRow base e sz v n xs:=
 ⟨h.1,h.2.imp id fun ⟨g,cap,cur,h1,h2,hg,h3⟩=>⟨g,cap,cur,h1,h2,(ht g (by rw [h1];rfl)).trans hg,h3⟩⟩
theorem RfAt.turn (h:RfAt w pf R S) (ht:∀ k,R.F pf k→w'.heap[k]? = w.heap[k]?) (he:∀ (b:Nat) (cur:Array Value),w.heap[b]? = some (.cells cur 113 (0,0))→w'.heap[b]? = w.heap[b]?) (hs:w.heap.size≤w'.heap.size):RfAt w' pf R S where
 blk:=(ht _ (.inl rfl)).trans h.blk
 nds:=own_turn h.nds (fun k hk=>ht k (.inr (.inl hk)))
 devs:=own_turn h.devs (fun k hk=>ht k (.inr (.inr hk)))
 ns:=h.ns
 ents:=fun g hg=>(h.ents g hg).turn he hs
theorem RfAt.keep (h:RfAt w pf R S) (hb:Below w.heap.size w w'):RfAt w' pf R S:=
 h.turn (fun k hk=>hb.block k (h.lt hk)) (fun b cur hc=>hb.block b (Array.getElem?_eq_some_iff.1 hc).1) hb.size
theorem RfAt.mod (h:RfAt w pf R S) {F:Nat→Prop} (hm:Mod F w w') (hF:∀ (k:Nat) (o:Obj),F k→w.heap[k]? = some o→rfKind o=false∧∀ cur,o≠.cells cur 113 (0,0)):RfAt w' pf R S:=
 h.turn (fun k hk=>hm.block k (h.lt hk) (fun hf=>by
  obtain⟨o,ho,hd⟩:=h.kind hk;rw [(hF k o hf ho).1] at hd
  cases hd)) (fun b cur hc=>hm.block b (Array.getElem?_eq_some_iff.1 hc).1 (fun hf=>(hF b _ hf hc).2 cur rfl)) hm.size
theorem RfAt.len (h:RfAt w pf R S):S.ns.length=R.G.length:=by rw [h.ns,List.length_map]
theorem rget_G (h:RfAt w pf R S) (k:Int):S.get k=(R.G.find? (fun g=>g.a.no == k)).map (·.a):=by
 unfold Fs.get;rw [h.ns,List.find?_map];rfl
def placeN (G:List Gn) (no:Int):Int:=match G.findIdx? (fun g=>g.a.no == no) with | some i=>i | none=>-1
theorem placeN_yes {G:List Gn} {no:Int} {i:Nat} (hi:i<G.length) (h1:G[i].a.no=no) (h2:∀ j (hj:j<G.length),j<i→G[j].a.no≠no):placeN G no=i:=by
 unfold placeN;rw [show G.findIdx? (fun g=>g.a.no == no)=some i from List.findIdx?_eq_some_iff_getElem.2 ⟨hi,by simpa using h1,fun j hj=>by simpa using h2 j (by omega) hj⟩]
theorem placeN_no {G:List Gn} {no:Int} (h2:∀ j (hj:j<G.length),G[j].a.no≠no):placeN G no=-1:=by
 unfold placeN;rw [show G.findIdx? (fun g=>g.a.no == no)=none from List.findIdx?_eq_none_iff.2 (fun g hg=>by
  obtain⟨j,hj,rfl⟩:=List.mem_iff_getElem.1 hg;simpa using h2 j hj)]
theorem place_get (h:RfAt w pf R S) (k:Int):(∃ (i:Nat) (hi:i<R.G.length),placeN R.G k=i∧S.get k=some R.G[i].a∧R.G[i].a.no=k)∨(placeN R.G k=-1∧S.get k=none):=by
 rw [rget_G h];unfold placeN
 cases hf:R.G.findIdx? (fun g=>g.a.no == k) with
 | some i=>
  obtain⟨hi,h1,h2⟩:=List.findIdx?_eq_some_iff_getElem.1 hf;left;refine ⟨i,hi,rfl,?_,by simpa using h1⟩;rw [show R.G.find? (fun g=>g.a.no == k)=some R.G[i] from List.find?_eq_some_iff_getElem.2 ⟨h1,i,hi,rfl,fun j hj=>by simpa using h2 j hj⟩];rfl
 | none=>
  right;refine ⟨rfl,?_⟩;rw [List.findIdx?_eq_none_iff] at hf;rw [show R.G.find? (fun g=>g.a.no == k)=none from List.find?_eq_none.2 (fun g hg=>by simpa using hf g hg)];rfl
structure NdC (w:World) (g o:Nat) (a:An) (ea:Option Addr) (el ec:Nat):Prop where
 c0:w.cell? ⟨g,o,none⟩=some (.int .i64 a.no)
 c1:w.cell? ⟨g,o+1,none⟩=some (.int .i64 a.dev)
 c2:w.cell? ⟨g,o+2,none⟩=some (.int .i64 a.kind)
 c3:w.cell? ⟨g,o+3,none⟩=some (.int .i64 a.mode)
 c4:w.cell? ⟨g,o+4,none⟩=some (.int .i64 a.uid)
 c5:w.cell? ⟨g,o+5,none⟩=some (.int .i64 a.gid)
 c6:w.cell? ⟨g,o+6,none⟩=some (.int .i64 a.mtime)
 c7:w.cell? ⟨g,o+7,none⟩=some (.int .i64 a.ctime)
 c8:w.cell? ⟨g,o+8,none⟩=some (.int .i64 a.links)
 c9:w.cell? ⟨g,o+9,none⟩=some (.int .i64 a.up)
 c10:w.cell? ⟨g,o+10,none⟩=some (.string a.data)
 c11:w.cell? ⟨g,o+11,none⟩=some (.slice ea el ec)
theorem RfAt.nodeF (h:RfAt w pf R S) (hn:0<R.G.length):∃ g cap,R.nv=.slice (some ⟨g,0,none⟩) R.G.length cap∧R.G.length≤cap∧cap≤9223372036854775807∧g<w.heap.size∧
  (∀ (i:Nat) (hi:i<R.G.length),NdC w g (i*12) R.G[i].a R.G[i].ea R.G[i].el R.G[i].ec)∧(∀ i,w.frozen? ⟨g,i,none⟩=false)∧∃ cur,Blk w g cur 109:=by
 obtain⟨g,cap,hv,-,h1,h2,-,h3,h4,cur,h5⟩:=row_cells (by omega) Gn.cs_len h.nds hn;exact⟨g,cap,hv,h1,h2,h3,fun i hi=>⟨h4 i hi 0 (by omega),h4 i hi 1 (by omega),h4 i hi 2 (by omega),h4 i hi 3 (by omega),h4 i hi 4 (by omega),h4 i hi 5 (by omega),h4 i hi 6 (by omega),h4 i hi 7 (by omega),h4 i hi 8 (by omega),h4 i hi 9 (by omega),h4 i hi 10 (by omega),h4 i hi 11 (by omega)⟩,h5.frozen,cur,h5⟩
theorem RfAt.devF (h:RfAt w pf R S) (hd:0<S.ds.length):∃ g cap,R.dv=.slice (some ⟨g,0,none⟩) S.ds.length cap∧S.ds.length≤cap∧cap≤9223372036854775807∧g<w.heap.size∧
  (∀ (i:Nat) (hi:i<S.ds.length),DvC w g (i*6) S.ds[i])∧(∀ i,w.frozen? ⟨g,i,none⟩=false)∧∃ cur,Blk w g cur 170:=by
 obtain⟨g,cap,hv,-,h1,h2,-,h3,h4,cur,h5⟩:=row_cells (by omega) Dv.cs_len h.devs hd;exact⟨g,cap,hv,h1,h2,h3,fun i hi=>⟨h4 i hi 0 (by omega),h4 i hi 1 (by omega),h4 i hi 2 (by omega),h4 i hi 3 (by omega),h4 i hi 4 (by omega),h4 i hi 5 (by omega)⟩,h5.frozen,cur,h5⟩
theorem RfAt.nform (h:RfAt w pf R S):∃ a c,R.nv=.slice a R.G.length c∧R.G.length≤c∧c≤9223372036854775807:=by
 obtain⟨a,c,h1,h2,h3,-⟩:=own_form h.nds;exact⟨a,c,h1,h2,h3⟩
theorem RfAt.dform (h:RfAt w pf R S):∃ a c,R.dv=.slice a S.ds.length c∧S.ds.length≤c∧c≤9223372036854775807:=by
 obtain⟨a,c,h1,h2,h3,-⟩:=own_form h.devs;exact⟨a,c,h1,h2,h3⟩
end
def Fs.getZ (S:Fs) (k:Int):An:=(S.get k).getD an0
theorem getZ_some {S:Fs} {k:Int} {a:An} (h:S.get k=some a):S.getZ k=a:=by unfold Fs.getZ;rw [h];rfl
theorem getZ_none {S:Fs} {k:Int} (h:S.get k=none):S.getZ k=an0:=by unfold Fs.getZ;rw [h];rfl
end
end Go.Proofs.YtihdbncoijhihaaGreatDoor
