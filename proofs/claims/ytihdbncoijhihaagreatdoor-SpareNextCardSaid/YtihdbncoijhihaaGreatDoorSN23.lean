import Derived.Test.YtihdbncoijhihaaGreatDoorSN14
import Derived.Test.YtihdbncoijhihaaGreatDoorSN8
import Derived.Test.YtihdbncoijhihaaGreatDoorSN9
set_option linter.unusedVariables false
set_option linter.unusedSimpArgs false
set_option maxRecDepth 100000
set_option maxHeartbeats 16000000
namespace Go.Proofs.YtihdbncoijhihaaGreatDoor
section
open Go.RowKit
section
variable {w w':World} {pf:Nat} {R:Rf} {S:Fs}
theorem RfAt.setQ (h:RfAt w pf R S) {g cap:Nat} (hdv:R.dv=.slice (some ⟨g,0,none⟩) S.ds.length cap) {k:Nat} (hk:k<S.ds.length) (v:Dv) (hv:S.ds[k]=v) (b n:Int) :
  RfAt ((((w.setCell ⟨g,k*6+2,none⟩ (.int .i64 b)).setCell ⟨g,k*6+3,none⟩ (.int .i64 n)).setCell ⟨g,k*6+4,none⟩ (.int .i64 v.mb)).setCell ⟨g,k*6+5,none⟩ (.int .i64 v.mn)) pf R (S.setDev ((k:Int)+1) {v with b:=b,n:=n})∧Mod (R.F pf) w ((((w.setCell ⟨g,k*6+2,none⟩ (.int .i64 b)).setCell ⟨g,k*6+3,none⟩ (.int .i64 n)).setCell ⟨g,k*6+4,none⟩ (.int .i64 v.mb)).setCell ⟨g,k*6+5,none⟩ (.int .i64 v.mn)):=by
 have hm:Mod (fun x=>x=g) w ((((w.setCell ⟨g,k*6+2,none⟩ (.int .i64 b)).setCell ⟨g,k*6+3,none⟩ (.int .i64 n)).setCell ⟨g,k*6+4,none⟩ (.int .i64 v.mb)).setCell ⟨g,k*6+5,none⟩ (.int .i64 v.mn)):=
  ((((Mod.refl (fun x=>x=g) w).setCell (a:=⟨g,k*6+2,none⟩) (.inl rfl) _).setCell (a:=⟨g,k*6+3,none⟩) (.inl rfl) _).setCell (a:=⟨g,k*6+4,none⟩) (.inl rfl) _).setCell (a:=⟨g,k*6+5,none⟩) (.inl rfl) _
 have hgb:R.dv.ownBlock=some g:=by rw [hdv];rfl
 have hM:Mod (R.F pf) w ((((w.setCell ⟨g,k*6+2,none⟩ (.int .i64 b)).setCell ⟨g,k*6+3,none⟩ (.int .i64 n)).setCell ⟨g,k*6+4,none⟩ (.int .i64 v.mb)).setCell ⟨g,k*6+5,none⟩ (.int .i64 v.mn)):=hm.mono (fun x hx=>.inr (.inr (by rw [hx];exact hgb)));obtain⟨-,hcur⟩:=own_obj1 h.devs hgb;have hl:(S.setDev ((k:Int)+1) {v with b:=b,n:=n}).ds=S.ds.set k {v with b:=b,n:=n}:=by
  unfold Fs.setDev;rw [show ((k:Int)+1 - 1).toNat=k by omega]
 refine ⟨⟨h.blk.mod hm (rf_apart hcur h.blk (by decide)),own_mod h.nds hm (fun x hx e=>?_),?_,h.ns,fun x hx=>(h.ents x hx).rf h (Stp.of_mod hM)⟩,hM⟩
 ·obtain ⟨-,cur2,hc2⟩:=own_obj1 h.nds e;rw [hx] at hc2;exact rf_apart hcur (show Blk w g cur2 109 from hc2) (by decide) rfl
 rw [hl,List.length_set];have h0:=h.devs;rw [hdv] at h0 ⊢;have hkl:k*6+5<(S.ds.flatMap Dv.cs).length:=by rw [flat_len'];omega
 have p1:=own_cell1 h0 (k*6+2) (by omega) (.int .i64 b);have p2:=own_cell1 p1 (k*6+3) (by rw [List.length_set];omega) (.int .i64 n);have p3:=own_cell1 p2 (k*6+4) (by rw [List.length_set,List.length_set];omega) (.int .i64 v.mb);have p4:=own_cell1 p3 (k*6+5) (by rw [List.length_set,List.length_set,List.length_set];omega) (.int .i64 v.mn);have hs:=setAll_flat Dv.cs_len ({v with b:=b,n:=n}:Dv) S.ds k hk;rw [←hs];have c0:(S.ds.flatMap Dv.cs)[k*6]? = some (.int .i64 v.root):=by
  have:=flat_get Dv.cs_len S.ds k 0 hk (by omega);rw [Nat.add_zero] at this;rw [this,hv];rfl
 have c1:(S.ds.flatMap Dv.cs)[k*6+1]? = some (.int .i64 v.over):=by
  rw [flat_get Dv.cs_len S.ds k 1 hk (by omega),hv];rfl
 have e0:(S.ds.flatMap Dv.cs).set (k*6) (.int .i64 v.root)=S.ds.flatMap Dv.cs:=by
  have hlt:k*6<(S.ds.flatMap Dv.cs).length:=by omega
  rw [List.getElem?_eq_getElem hlt] at c0;injection c0 with c0;rw [←c0,List.set_getElem_self]
 have e1:(S.ds.flatMap Dv.cs).set (k*6+1) (.int .i64 v.over)=S.ds.flatMap Dv.cs:=by
  have hlt:k*6+1<(S.ds.flatMap Dv.cs).length:=by omega
  rw [List.getElem?_eq_getElem hlt] at c1;injection c1 with c1;rw [←c1,List.set_getElem_self]
 show World.ownsRow _ 0 170 6 _ _ ((((((((S.ds.flatMap Dv.cs).set (k*6) (.int .i64 v.root)).set (k*6+1) (.int .i64 v.over)).set (k*6+2) (.int .i64 b)).set (k*6+3) (.int .i64 n)).set (k*6+4) (.int .i64 v.mb)).set (k*6+5) (.int .i64 v.mn)));rw [e0,e1];exact p4
theorem rmake_none (h:RfAt w pf R S) (a:An) (ea:Option Addr) (el ec:Nat) (hr:S.root a.dev=0) :
  Calls Tryz.prog 290 #[.pointer (some ⟨pf,0,none⟩),a.v ea el ec] w fun e w'=>e=.returned (.tuple #[.int .i64 0,.int .i64 1])∧Below w.heap.size w w':=by
 have hb0:=balloc (Below.refl w.heap.size w) (.cells #[.int .i64 a.no,.int .i64 a.dev,.int .i64 a.kind,.int .i64 a.mode,.int .i64 a.uid,.int .i64 a.gid,.int .i64 a.mtime,.int .i64 a.ctime,.int .i64 a.links,.int .i64 a.up,.string a.data,.slice ea el ec] 109);have HRo:=Lib.hid (rroot_any (h.keep ((Below.refl _ w).alloc (Nat.le_refl _) (.cells #[.int .i64 a.no,.int .i64 a.dev,.int .i64 a.kind,.int .i64 a.mode,.int .i64 a.uid,.int .i64 a.gid,.int .i64 a.mtime,.int .i64 a.ctime,.int .i64 a.links,.int .i64 a.up,.string a.data,.slice ea el ec] 109))) a.dev);rw [hr] at HRo;have HB0:=Lib.hid hb0;have hB1:=Blk.new w #[.int .i64 a.no,.int .i64 a.dev,.int .i64 a.kind,.int .i64 a.mode,.int .i64 a.uid,.int .i64 a.gid,.int .i64 a.mtime,.int .i64 a.ctime,.int .i64 a.links,.int .i64 a.up,.string a.data,.slice ea el ec] 109;obtain⟨qc,-,-⟩:=hB1.facts;unfold An.v;clear h hr hb0 hB1;go_enter Tryz.func290,Tryz.ntmps290;go_wp2_with fail;refine HRo.out.mono ?_;rintro e w1 ⟨rfl,rfl⟩;go_wp2_with fail;go_ret2;exact⟨rfl,HB0.out⟩
theorem rmake_mid (h:RfAt w pf R S) {k:Nat} (hk:k<S.ds.length) (a:An) (ea:Option Addr) (el ec:Nat) (he:EntsAt w ea el ec a.ents) (hdev:a.dev=(k:Int)+1) (hr:S.root a.dev≠0) (hs:a.data.size≤1048576) (hl0:0≤S.last) (hl1:S.last≤1000000) (hgl:S.ns.length≤1000000) :
  Calls Tryz.prog 290 #[.pointer (some ⟨pf,0,none⟩),a.v ea el ec] w fun e w'=>e=.returned (.tuple #[.int .i64 (S.make a).2.1,.int .i64 (S.make a).2.2])∧∃ R',RfAt w' pf R' (S.make a).1∧Stp (R.F pf) (R'.F pf) w w'∧Rf.Like R R':=by
 have hlen:=h.len;have HR:=Lib.hid (rroot_any (h.keep ((Below.refl _ w).alloc (Nat.le_refl _) (.cells #[.int .i64 a.no,.int .i64 a.dev,.int .i64 a.kind,.int .i64 a.mode,.int .i64 a.uid,.int .i64 a.gid,.int .i64 a.mtime,.int .i64 a.ctime,.int .i64 a.links,.int .i64 a.up,.string a.data,.slice ea el ec] 109))) a.dev);obtain⟨g,cap,hdv,hle,h63,hgl,hc,hfg,-⟩:=h.devF (by omega);obtain⟨c0,c1,c2,c3,c4,c5⟩:=hc k hk;obtain⟨v,hv⟩:∃ v,S.ds[k]=v:=⟨_,rfl⟩;rw [hv] at c0 c1 c2 c3 c4 c5;obtain⟨pc,-,pz⟩:=h.blk.facts;rw [hdv] at pc;obtain⟨rt,hrt⟩:∃ rt,S.root a.dev=rt:=⟨_,rfl⟩;have hrn:=hr;rw [hrt] at HR hr;have hdv2:S.dev a.dev=some v:=by
  unfold Fs.dev;rw [if_pos (by omega),hdev,show ((k:Int)+1 - 1).toNat=k by omega,List.getElem?_eq_getElem hk,hv]
 obtain⟨n,hn⟩:∃ n,S.ds.length=n:=⟨_,rfl⟩;have hkn:k<n:=by omega
 rw [hn] at pc hle;have hr2:(rt == 0)=false:=by simpa using hr
 have hT:=fun w=>rtake_any v.b v.n v.mb v.mn (blkI a.kind a.data.size) 1 w;unfold tkV at hT;have HB:=Lib.hid (fun w=>rblocks_any a.kind a.data.size (by omega) w);have HM1:=Lib.hid (fun (he0:tkE v.b v.n v.mb v.mn (blkI a.kind a.data.size) 1≠0)=>make_err hrn hdv2 he0);have HM2:=Lib.hid (fun (he0:tkE v.b v.n v.mb v.mn (blkI a.kind a.data.size) 1=0)=>make_ok hrn hdv2 he0);have HQ:=Lib.hid (fun (he0:tkE v.b v.n v.mb v.mn (blkI a.kind a.data.size) 1=0)=>show tkB v.b v.n v.mb v.mn (blkI a.kind a.data.size) 1=v.b+blkI a.kind a.data.size∧tkN v.b v.n v.mb v.mn (blkI a.kind a.data.size) 1=v.n+1 by unfold tkB tkN;rw [if_pos he0,if_pos he0];exact ⟨rfl,rfl⟩);have HW0:=Lib.hid h;have HE0:=Lib.hid he;have HDv:=Lib.hid hdv;have HV:=Lib.hid (show ∃ hk:k<S.ds.length,S.ds[k]=v from ⟨hk,hv⟩);have Hdev:=Lib.hid hdev;unfold An.v;rw [hdev] at HR ⊢;have B1:=Blk.new w #[.int .i64 a.no,.int .i64 ((k:Int)+1),.int .i64 a.kind,.int .i64 a.mode,.int .i64 a.uid,.int .i64 a.gid,.int .i64 a.mtime,.int .i64 a.ctime,.int .i64 a.links,.int .i64 a.up,.string a.data,.slice ea el ec] 109;have hb1:=(Below.refl w.heap.size w).alloc (Nat.le_refl _) (.cells #[.int .i64 a.no,.int .i64 ((k:Int)+1),.int .i64 a.kind,.int .i64 a.mode,.int .i64 a.uid,.int .i64 a.gid,.int .i64 a.mtime,.int .i64 a.ctime,.int .i64 a.links,.int .i64 a.up,.string a.data,.slice ea el ec] 109);clear h hr hrn hrt hn hv hc hdv hdv2 he hk hdev c0 c1;generalize blkI a.kind a.data.size=bk at hT HB HM1 HM2 HQ;generalize tkE v.b v.n v.mb v.mn bk 1=e0 at hT HM1 HM2 HQ;generalize tkB v.b v.n v.mb v.mn bk 1=qb at hT HQ;generalize tkN v.b v.n v.mb v.mn bk 1=qn at hT HQ;have HT:=Lib.hid hT;clear hT;go_enter Tryz.func290,Tryz.ntmps290;go_wp2_with fail;refine HR.out.mono ?_;rintro e w1 ⟨rfl,rfl⟩;generalize w.alloc (.cells #[.int .i64 a.no,.int .i64 ((k:Int)+1),.int .i64 a.kind,.int .i64 a.mode,.int .i64 a.uid,.int .i64 a.gid,.int .i64 a.mtime,.int .i64 a.ctime,.int .i64 a.links,.int .i64 a.up,.string a.data,.slice ea el ec] 109)=W at B1 hb1 ⊢;obtain⟨Bn,hBn⟩:∃ Bn,w.heap.size=Bn:=⟨_,rfl⟩;rw [hBn] at B1 ⊢;obtain⟨bc,bf,bz⟩:=B1.facts;rw [←hb1.cell (p:=⟨g,k*6+2,none⟩) hgl] at c2;rw [←hb1.cell (p:=⟨g,k*6+3,none⟩) hgl] at c3;rw [←hb1.cell (p:=⟨g,k*6+4,none⟩) hgl] at c4;rw [←hb1.cell (p:=⟨g,k*6+5,none⟩) hgl] at c5;have pc1:W.cell? ⟨pf,1,none⟩=_:=(hb1.cell (p:=⟨pf,1,none⟩) pz).trans (pc 1);have hgW:g<W.heap.size:=Nat.lt_of_lt_of_le hgl hb1.size;have hpW:pf<W.heap.size:=Nat.lt_of_lt_of_le pz hb1.size;have HW:=Lib.hid hb1;have HB1:=Lib.hid B1;have HBn:=Lib.hid hBn;clear pc hb1 B1 hBn;have mixed:Tryz.prog.follows .mixedOrders=true:=by kernel_rfl
 go_upto_region 3 with (fail)
 go_cut [6,7] (fun t6 t7 wx=>∃ Bq:Nat,t6=.pointer (some ⟨Bq,0,none⟩)∧t7=.int .i64 e0∧Blk wx Bq #[.int .i64 qb,.int .i64 qn,.int .i64 v.mb,.int .i64 v.mn] 168∧Below W.heap.size W wx)
 case first=>
  go_wp2_with fail;have hw1:IntKind.i64.wrap ((k:Int)+1 - 1)=(k:Int):=by rw [IntKind.wrap_i64];omega
  have hw2:IntKind.i64.wrap (k:Int)=(k:Int):=by rw [IntKind.wrap_i64];omega
  have hb3:(k:Int)<(n:Int):=by omega
  have hb4:(0:Int)≤(k:Int):=by omega
  have hzz:W.heap.size≤W.heap.size:=Nat.le_refl _
  go_region_held3 (fun w'=>(∀ b o,b<W.heap.size→w'.cell? ⟨b,o,none⟩=W.cell? ⟨b,o,none⟩)∧Below W.heap.size W w') (first | with_reducible assumption | with_reducible exact keepS_here _ | with_reducible exact keepS_here2 _ | with_reducible exact keepS_call (by assumption) (by assumption) | with_reducible exact keepS_alloc (by assumption) _ | with_reducible exact keepS_allocD (by assumption) _ | with_reducible exact keepS_realloc (by assumption) (by assumption) | with_reducible exact keepS_set4 (by assumption) (by assumption))
   (first | (go_at_call 288;((with_reducible refine (HB.out _).mono ?_);rintro e w4 ⟨rfl,rfl⟩)) | (go_at_call 287;((with_reducible refine (HT.out _).mono ?_);rintro e w4 ⟨rfl,hb5⟩;have hz5:=Nat.le_trans (And.right ‹(∀ b o,b<W.heap.size→_)∧Below W.heap.size W _›).size hb5.size;try (have hbq:=new_drew hb5;obtain ⟨bqc,bqf,bqz⟩:=hbq.facts))))
  all_goals
   obtain⟨-,hS4⟩:=‹_∧Below W.heap.size W _›;have HS4:=Lib.hid hS4
   try (have HQ4:=Lib.hid hbq)
   clear hS4;go_wp2_with fail;go_meet;exact⟨_,rfl,rfl,by first | exact HQ4.out.set4 | exact Blk.new _ _ _,HS4.out⟩
 case rest=>
  obtain⟨Bq,rfl,rfl,hQ,hS⟩:=hcut;have HS:=Lib.hid hS;have HWc:=Lib.hid (show Below w.heap.size w wc from HW.out.trans (hS.mono HW.out.size));by_cases h0:e0=0
  ·obtain ⟨hk,hv⟩:=HV.out;obtain⟨rfl,rfl⟩:=HQ.out h0;have HMk:=Lib.hid (HM2.out h0);subst h0;obtain⟨qc,qf,qz⟩:=hQ.facts;have pcw:wc.cell? ⟨pf,1,none⟩=_:=(hS.cell (p:=⟨pf,1,none⟩) hpW).trans pc1;have bcw:wc.cell? ⟨Bn,1,none⟩=_:=(hS.cell (p:=⟨Bn,1,none⟩) bz).trans (bc 1);rw [←hS.cell (p:=⟨g,k*6+2,none⟩) hgW] at c2;rw [←hS.cell (p:=⟨g,k*6+3,none⟩) hgW] at c3;rw [←hS.cell (p:=⟨g,k*6+4,none⟩) hgW] at c4;rw [←hS.cell (p:=⟨g,k*6+5,none⟩) hgW] at c5;have hfw:∀ i,wc.frozen? ⟨g,i,none⟩=false:=fun i=>(HWc.out.frozen (p:=⟨g,i,none⟩) hgl).trans (hfg i);have hWd:=HW0.out.keep HWc.out;obtain⟨hWq,hMq⟩:=hWd.setQ HDv.out hk v hv (v.b+bk) (v.n+1);have hStq:Stp (R.F pf) (R.F pf) wc _:=Stp.of_mod hMq;have HEq:=Lib.hid ((HE0.out.keep HWc.out).rf hWd hStq);have hBq:=(HB1.out.keep hS).mod hMq (fun hk=>absurd (HW0.out.lt hk) (by rw [HBn.out];omega));have HWq:=Lib.hid hWq;have HSt:=Lib.hid ((Stp.of_below HWc.out).trans hStq);clear hWd hWq hMq hStq pc1 hfg;go_wp2_with fail;have mixed:Tryz.prog.follows .mixedOrders=true:=by kernel_rfl
   have hw1:IntKind.i64.wrap ((k:Int)+1 - 1)=(k:Int):=by rw [IntKind.wrap_i64];omega
   have hw2:IntKind.i64.wrap (k:Int)=(k:Int):=by rw [IntKind.wrap_i64];omega
   have hb3:(k:Int)<(n:Int):=by omega
   have hb4:(0:Int)≤(k:Int):=by omega
   refine wp_region_lex 10 mixed (by kernel_rfl) (show PanicOk _ from by repeat (first | exact pk_body | refine pk_then ?_ | refine pk_block ?_ | refine pk_scope ?_)) ?_;simp only [List.take_succ_cons,List.take_zero,List.drop_succ_cons,List.drop_zero]
   repeat still_step
   refine wpStill_nil ?_;go_upto_region 7 with fail;generalize (((wc.setCell ⟨g,k*6+2,none⟩ (.int .i64 (v.b+bk))).setCell ⟨g,k*6+3,none⟩ (.int .i64 (v.n+1))).setCell ⟨g,k*6+4,none⟩ (.int .i64 v.mb)).setCell ⟨g,k*6+5,none⟩ (.int .i64 v.mn)=X at HEq hBq HWq HSt ⊢;obtain⟨xc,-,xz⟩:=HWq.out.blk.facts;obtain⟨bc,bf,bz⟩:=hBq.facts;clear c2 c3 c4 c5 hfw pcw bcw qc qf qz;have hXd:Below X.heap.size X X.drew:=(Below.refl _ X).drew;have hAdd:=radd_any (HWq.out.keep hXd) (HEq.out.keep hXd) hl0 hl1 (by omega);unfold An.v at hAdd;rw [Hdev.out] at hAdd;have HAdd:=Lib.hid hAdd;clear hAdd;go_wp2_with fail;refine HAdd.out.mono ?_;rintro e w5 ⟨rfl,R',hR1,hR2,hR3,-⟩;have HR':=Lib.hid (And.intro hR1 (And.intro hR2 hR3));clear hR1 hR2 hR3;go_wp2_with fail;go_ret2;rw [HMk.out];refine ⟨rfl,R',?_,(HSt.out.trans (Stp.of_below hXd)).trans HR'.out.2.1,HR'.out.2.2⟩;rw [Hdev.out];exact HR'.out.1
  ·have HMk:=Lib.hid (HM1.out h0);have h0b:(e0 != 0)=true:=by simpa using h0
   clear h0;go_wp2_with fail;go_ret2;rw [HMk.out];exact⟨rfl,R,HW0.out.keep HWc.out,Stp.of_below HWc.out,Rf.Like.refl R⟩
theorem rmake_any (h:RfAt w pf R S) {N:Nat} (hk:FsOk S N) (hN:N≤1000000) (hgl:S.ns.length≤1000000) (a:An) (ea:Option Addr) (el ec:Nat) (he:EntsAt w ea el ec a.ents) (hs:a.data.size≤1048576) :
  Calls Tryz.prog 290 #[.pointer (some ⟨pf,0,none⟩),a.v ea el ec] w fun e w'=>e=.returned (.tuple #[.int .i64 (S.make a).2.1,.int .i64 (S.make a).2.2])∧∃ R',RfAt w' pf R' (S.make a).1∧Stp (R.F pf) (R'.F pf) w w'∧Rf.Like R R':=by
 by_cases hr:S.root a.dev=0
 ·refine (rmake_none h a ea el ec hr).mono ?_;rintro e w1 ⟨rfl,hb⟩;rw [make_none hr];exact⟨rfl,R,h.keep hb,Stp.of_below hb,Rf.Like.refl R⟩
 ·have hd:1≤a.dev∧a.dev≤S.ds.length:=by
   by_cases hd:1≤a.dev∧a.dev≤S.ds.length
   ·exact hd
   ·exact absurd (root_no hd) hr
  exact rmake_mid h (k:=(a.dev - 1).toNat) (by omega) a ea el ec he (by omega) hr hs hk.l0 (Int.le_trans hk.lN (by omega)) hgl
end
end
section
open Go.RowKit
theorem rbit_any (m:Int) (n:Nat) (hn:n≤100) (w:World) :
  Calls Tryz.prog 228 #[.int .i64 m,.int .i64 n] w fun e w'=>(∃ b,e=.returned (.bool b))∧w'=w:=by
 go_enter Tryz.func228,Tryz.ntmps228;go_wp2_with fail
 go_loopw [0,5] (fun t0 t5 wr=>∃ (x:Int) (k:Nat),k≤n∧t0=.int .i64 x∧t5=.int .i64 k∧wr=w) (fun _ t5 _=>n - (intOf t5).toNat)
 case atStart=>exact ⟨m,0,Nat.zero_le _,rfl,rfl,rfl⟩
 case round=>
  obtain⟨x,k,hk,rfl,rfl,rfl⟩:=hrel;by_cases hlt:k<n
  ·go_wp2_with fail;go_roundw
   case measure=>simp [intOf];omega
   case rel=>exact ⟨_,k+1,by omega,rfl,by go_num,by trivial⟩
  ·obtain rfl:k=n:=by omega
   go_wp2_with fail;go_ret;exact⟨⟨_,rfl⟩,rfl⟩
theorem rmay00_any (uid gid mode want:Int) (w:World) :
  Calls Tryz.prog 167 #[.agg #[.int .i64 0,.int .i64 0],.int .i64 uid,.int .i64 gid,.int .i64 mode,.int .i64 want] w fun e w'=>e=.returned (.bool true)∧Below w.heap.size w w':=by
 have HBit:=Lib.hid (fun m (n:Nat) hn w=>rbit_any m n hn w);have hB:=Blk.new w #[.int .i64 0,.int .i64 0] 27;have HB0:=Lib.hid (balloc (Below.refl w.heap.size w) (.cells #[.int .i64 0,.int .i64 0] 27));obtain⟨qc,qf,qz⟩:=hB.facts;clear hB;have key:∀ x:Int,(0 == x)=true∨(0 == x)=false:=fun x=>by cases (0 == x) <;> simp
 go_enter Tryz.func167,Tryz.ntmps167;go_upto_region 2 with fail;generalize w.alloc (.cells #[.int .i64 0,.int .i64 0] 27)=X at HB0 qc qf qz ⊢;rcases key uid with h1 | h1
 ·go_wp2_with fail
  go_loopw [12] (fun t12 wr=>∃ k:Nat,k≤3∧t12=.int .i64 k∧wr=X) (fun t12 _=>3 - (intOf t12).toNat)
  case atStart=>exact ⟨0,Nat.zero_le _,rfl,rfl⟩
  case round=>
   obtain⟨k,hk,rfl,rfl⟩:=hrel;by_cases hlt:k<3
   ·have hk3:(k:Int)<3:=by omega
    go_wp2_with fail;refine (HBit.out _ k (by omega) _).mono ?_;rintro e w2 ⟨⟨b,rfl⟩,rfl⟩
    cases b with
    | false=>
     go_wp2_with fail;go_roundw
     case measure=>simp [intOf];omega
     case rel=>exact ⟨k+1,by omega,by go_num,by trivial⟩
    | true=>
     have hfk:IntKind.i64.wrap ((6:Int)+(k:Int))=(6:Int)+(k:Int):=by rw [IntKind.wrap_i64];omega
     go_wp2_with fail;have h2:=HBit.out mode (6+k) (by omega);rw [show ((6+k:Nat):Int)=(6:Int)+(k:Int) from by omega] at h2;refine (h2 _).mono ?_;rintro e w3 ⟨⟨b2,rfl⟩,rfl⟩
     cases b2 with
     | false=>
      go_wp2_with fail;go_ret;exact⟨rfl,HB0.out⟩
     | true=>
      go_wp2_with fail;go_roundw
      case measure=>simp [intOf];omega
      case rel=>exact ⟨k+1,by omega,by go_num,by trivial⟩
   ·obtain rfl:k=3:=by omega
    go_wp2_with fail;go_ret;exact⟨rfl,HB0.out⟩
 ·rcases key gid with h2 | h2
  ·go_wp2_with fail
   go_loopw [12] (fun t12 wr=>∃ k:Nat,k≤3∧t12=.int .i64 k∧wr=X) (fun t12 _=>3 - (intOf t12).toNat)
   case atStart=>exact ⟨0,Nat.zero_le _,rfl,rfl⟩
   case round=>
    obtain⟨k,hk,rfl,rfl⟩:=hrel;by_cases hlt:k<3
    ·have hk3:(k:Int)<3:=by omega
     go_wp2_with fail;refine (HBit.out _ k (by omega) _).mono ?_;rintro e w2 ⟨⟨b,rfl⟩,rfl⟩
     cases b with
     | false=>
      go_wp2_with fail;go_roundw
      case measure=>simp [intOf];omega
      case rel=>exact ⟨k+1,by omega,by go_num,by trivial⟩
     | true=>
      have hfk:IntKind.i64.wrap ((3:Int)+(k:Int))=(3:Int)+(k:Int):=by rw [IntKind.wrap_i64];omega
      go_wp2_with fail;have h2:=HBit.out mode (3+k) (by omega);rw [show ((3+k:Nat):Int)=(3:Int)+(k:Int) from by omega] at h2;refine (h2 _).mono ?_;rintro e w3 ⟨⟨b2,rfl⟩,rfl⟩
      cases b2 with
      | false=>
       go_wp2_with fail;go_ret;exact⟨rfl,HB0.out⟩
      | true=>
       go_wp2_with fail;go_roundw
       case measure=>simp [intOf];omega
       case rel=>exact ⟨k+1,by omega,by go_num,by trivial⟩
    ·obtain rfl:k=3:=by omega
     go_wp2_with fail;go_ret;exact⟨rfl,HB0.out⟩
  ·go_wp2_with fail
   go_loopw [12] (fun t12 wr=>∃ k:Nat,k≤3∧t12=.int .i64 k∧wr=X) (fun t12 _=>3 - (intOf t12).toNat)
   case atStart=>exact ⟨0,Nat.zero_le _,rfl,rfl⟩
   case round=>
    obtain⟨k,hk,rfl,rfl⟩:=hrel;by_cases hlt:k<3
    ·have hk3:(k:Int)<3:=by omega
     go_wp2_with fail;refine (HBit.out _ k (by omega) _).mono ?_;rintro e w2 ⟨⟨b,rfl⟩,rfl⟩
     cases b with
     | false=>
      go_wp2_with fail;go_roundw
      case measure=>simp [intOf];omega
      case rel=>exact ⟨k+1,by omega,by go_num,by trivial⟩
     | true=>
      have hfk:IntKind.i64.wrap ((0:Int)+(k:Int))=(0:Int)+(k:Int):=by rw [IntKind.wrap_i64];omega
      go_wp2_with fail;have h2:=HBit.out mode (0+k) (by omega);rw [show ((0+k:Nat):Int)=(0:Int)+(k:Int) from by omega] at h2;refine (HBit.out mode k (by omega) _).mono ?_;rintro e w3 ⟨⟨b2,rfl⟩,rfl⟩
      cases b2 with
      | false=>
       go_wp2_with fail;go_ret;exact⟨rfl,HB0.out⟩
      | true=>
       go_wp2_with fail;go_roundw
       case measure=>simp [intOf];omega
       case rel=>exact ⟨k+1,by omega,by go_num,by trivial⟩
    ·obtain rfl:k=3:=by omega
     go_wp2_with fail;go_ret;exact⟨rfl,HB0.out⟩
theorem rnode00_any (a:An) (ea:Option Addr) (el ec:Nat) (want:Int) (w:World) :
  Calls Tryz.prog 100 #[.agg #[.int .i64 0,.int .i64 0],a.v ea el ec,.int .i64 want] w fun e w'=>e=.returned (.bool true)∧Below w.heap.size w w':=by
 unfold An.v;go_enter Tryz.func100,Tryz.ntmps100;go_wp2_with fail;refine (rmay00_any _ _ _ _ _).mono ?_;rintro e w1 ⟨rfl,hb1⟩;go_wp2_with fail;go_ret;exact⟨rfl,bnext (balloc (balloc (Below.refl _ _) _) _) hb1⟩
theorem rowns00_any (a:An) (ea:Option Addr) (el ec:Nat) (w:World) :
  Calls Tryz.prog 260 #[.agg #[.int .i64 0,.int .i64 0],a.v ea el ec] w fun e w'=>e=.returned (.bool true)∧Below w.heap.size w w':=by
 unfold An.v;go_enter Tryz.func260,Tryz.ntmps260
 go_wp2
 go_ret;exact⟨rfl,by go_grown⟩
theorem rfineC_any (u g:Int) (w:World) :
  Calls Tryz.prog 208 #[.agg #[.int .i64 u,.int .i64 g]] w fun e w'=>e=.returned (.bool (idB u g))∧Below w.heap.size w w':=by
 have HI:=Lib.hid (show idB u g=decide (0≤u∧u≤2147483648∧0≤g∧g≤2147483648) from rfl);generalize idB u g=r at HI ⊢;by_cases h1:0≤u
 ·by_cases h2:u≤2147483648
  ·by_cases h3:0≤g
   ·by_cases h4:g≤2147483648
    ·go_enter Tryz.func208,Tryz.ntmps208
     go_wp2
     go_ret;exact⟨ret_bool (by rw [HI.out];exact (decide_eq_true (by omega)).symm),by go_grown⟩
    ·go_enter Tryz.func208,Tryz.ntmps208
     go_wp2
     go_ret;exact⟨ret_bool (by rw [HI.out];exact (decide_eq_false (by omega)).symm),by go_grown⟩
   ·go_enter Tryz.func208,Tryz.ntmps208
    go_wp2
    go_ret;exact⟨ret_bool (by rw [HI.out];exact (decide_eq_false (by omega)).symm),by go_grown⟩
  ·go_enter Tryz.func208,Tryz.ntmps208
   go_wp2
   go_ret;exact⟨ret_bool (by rw [HI.out];exact (decide_eq_false (by omega)).symm),by go_grown⟩
 ·go_enter Tryz.func208,Tryz.ntmps208
  go_wp2
  go_ret;exact⟨ret_bool (by rw [HI.out];exact (decide_eq_false (by omega)).symm),by go_grown⟩
theorem rcheck_any (s:ByteArray) (w:World) (hs:s.size≤100000) :
  Calls Tryz.prog 82 #[.string s] w fun e w'=>e=.returned (.int .i64 (checkE s))∧w'=w:=by
 have hl:s.toList=s.data.toList:=ba_list s;have HC:=Lib.hid (show checkE s=if s.toList=[]∨s.toList=[46]∨s.toList=[46,46]∨hasB s 47=true∨hasB s 0=true then 1 else if 255<s.size then 13 else 0 by
  unfold checkE hasB;rw [hl];simp only [decide_eq_true_eq])
 have H47:=Lib.hid (fun w=>has_any s 47 w hs);have H0:=Lib.hid (fun w=>has_any s 0 w hs);generalize hasB s 47=b47 at HC H47;generalize hasB s 0=b0 at HC H0;clear hl;by_cases h1:s.toList=[]
 ·have HE:=Lib.hid (HC.out.trans (if_pos (.inl h1)));go_enter Tryz.func82,Tryz.ntmps82;go_wp2_with fail;go_ret;exact⟨by rw [HE.out];rfl,rfl⟩
 ·have h1':s.toList.isEmpty=false:=by simpa using h1
  by_cases h2:s.toList=[46]
  ·have HE:=Lib.hid (HC.out.trans (if_pos (.inr (.inl h2))));go_enter Tryz.func82,Tryz.ntmps82;go_wp2_with fail;go_ret;exact⟨by rw [HE.out];rfl,rfl⟩
  ·have h2':(s.toList == [46])=false:=by simpa using h2
   by_cases h3:s.toList=[46,46]
   ·have HE:=Lib.hid (HC.out.trans (if_pos (.inr (.inr (.inl h3)))));go_enter Tryz.func82,Tryz.ntmps82;go_wp2_with fail;go_ret;exact⟨by rw [HE.out];rfl,rfl⟩
   ·have h3':(s.toList == [46,46])=false:=by simpa using h3
    cases b47 with
    | true=>
     have HE:=Lib.hid (HC.out.trans (if_pos (.inr (.inr (.inr (.inl rfl))))));clear h1 h2 h3;go_enter Tryz.func82,Tryz.ntmps82;go_wp2_with fail;refine (H47.out _).mono ?_;rintro e w1 ⟨rfl,rfl⟩;go_wp2_with fail;go_ret;exact⟨by rw [HE.out];rfl,rfl⟩
    | false=>
     cases b0 with
     | true=>
      have HE:=Lib.hid (HC.out.trans (if_pos (.inr (.inr (.inr (.inr rfl))))));clear h1 h2 h3;go_enter Tryz.func82,Tryz.ntmps82;go_wp2_with fail;refine (H47.out _).mono ?_;rintro e w1 ⟨rfl,rfl⟩;go_wp2_with fail;refine (H0.out _).mono ?_;rintro e w1 ⟨rfl,rfl⟩;go_wp2_with fail;go_ret;exact⟨by rw [HE.out];rfl,rfl⟩
     | false=>
      have HE:=Lib.hid (HC.out.trans (if_neg (by simp [h1,h2,h3])));clear h1 h2 h3;by_cases h4:255<s.size
      ·have HE2:=Lib.hid (HE.out.trans (if_pos h4));have h4':(255:Int)<(s.size:Int):=by omega
       go_enter Tryz.func82,Tryz.ntmps82;go_wp2_with fail;refine (H47.out _).mono ?_;rintro e w1 ⟨rfl,rfl⟩;go_wp2_with fail;refine (H0.out _).mono ?_;rintro e w1 ⟨rfl,rfl⟩;go_wp2_with fail;go_ret;exact⟨by rw [HE2.out];rfl,rfl⟩
      ·have HE2:=Lib.hid (HE.out.trans (if_neg h4));have h4':¬ (255:Int)<(s.size:Int):=by omega
       go_enter Tryz.func82,Tryz.ntmps82;go_wp2_with fail;refine (H47.out _).mono ?_;rintro e w1 ⟨rfl,rfl⟩;go_wp2_with fail;refine (H0.out _).mono ?_;rintro e w1 ⟨rfl,rfl⟩;go_wp2_with fail;go_ret;exact⟨by rw [HE2.out];rfl,rfl⟩
end
section
open Go.RowKit
theorem rplace_results {tmps:Array Value} {W:World} {B:Nat} {a:An} {ea:Option Addr} {el ec:Nat} {e:Int} (hb:Blk W B #[.int .i64 a.no,.int .i64 a.dev,.int .i64 a.kind,.int .i64 a.mode,.int .i64 a.uid,.int .i64 a.gid,.int .i64 a.mtime,.int .i64 a.ctime,.int .i64 a.links,.int .i64 a.up,.string a.data,.slice ea el ec] 109)
  (h8:tmps.getD 8 undef=.pointer (some ⟨B,0,none⟩)) (h9:tmps.getD 9 undef=.int .i64 e):(results Tryz.f257 tmps).run Tryz.prog W=.ok (.tuple #[a.v ea el ec,.int .i64 e]) W:=by
 obtain⟨q0,q1,q2,q3,q4,q5,q6,q7,q8,q9,q10,q11⟩:=hb.cells12;rw [Array.getD_eq_getD_getElem?] at h8 h9;simp [results,Tryz.results257,go_sem,An.v,h8,h9,q0,q1,q2,q3,q4,q5,q6,q7,q8,q9,q10,q11]
section
variable {w w':World} {pf:Nat} {R:Rf} {S:Fs}
theorem rplace_none (h:RfAt w pf R S) (dir:Int) (s:ByteArray) (hg:S.get dir=none) :
  Calls Tryz.prog 257 #[.pointer (some ⟨pf,0,none⟩),.agg #[.int .i64 0,.int .i64 0],.int .i64 dir,.string s] w fun e w'=>e=.returned (.tuple #[an0.v none 0 0,.int .i64 5])∧Below w.heap.size w w':=by
 have HG:=Lib.hid (fun w1 (hb1:Below w.heap.size w w1)=>rget_no (h.keep hb1) hg);unfold An.v an0 at HG;clear h hg;go_enter Tryz.func257,Tryz.ntmps257;go_wp2_with fail;refine (HG.out _ (balloc (balloc (Below.refl _ _) _) _)).mono ?_;rintro e w1 ⟨rfl,hb1⟩;have hb2:=bnext (balloc (balloc (Below.refl w.heap.size w) _) _) hb1;have hR:Blk w1 (w.heap.size+1) #[.int .i64 0,.int .i64 0,.int .i64 0,.int .i64 0,.int .i64 0,.int .i64 0,.int .i64 0,.int .i64 0,.int .i64 0,.int .i64 0,.string ByteArray.empty,.slice none 0 0] 109:=by
  have:=((Blk.new (w.alloc (.cells #[.int .i64 0,.int .i64 0] 27)) #[.int .i64 0,.int .i64 0,.int .i64 0,.int .i64 0,.int .i64 0,.int .i64 0,.int .i64 0,.int .i64 0,.int .i64 0,.int .i64 0,.string ByteArray.empty,.slice none 0 0] 109).keep hb1)
  rwa [World.size_alloc] at this
 have hRX:=hR.old (.cells #[.int .i64 0,.int .i64 0,.int .i64 0,.int .i64 0,.int .i64 0,.int .i64 0,.int .i64 0,.int .i64 0,.int .i64 0,.int .i64 0,.string ByteArray.empty,.slice none 0 0] 109);have hbX:=balloc hb2 (.cells #[.int .i64 0,.int .i64 0,.int .i64 0,.int .i64 0,.int .i64 0,.int .i64 0,.int .i64 0,.int .i64 0,.int .i64 0,.int .i64 0,.string ByteArray.empty,.slice none 0 0] 109);have hDX:=Blk.new w1 #[.int .i64 0,.int .i64 0,.int .i64 0,.int .i64 0,.int .i64 0,.int .i64 0,.int .i64 0,.int .i64 0,.int .i64 0,.int .i64 0,.string ByteArray.empty,.slice none 0 0] 109;clear hR hb1 hb2;go_upto_region 2 with fail;generalize w1.alloc (.cells #[.int .i64 0,.int .i64 0,.int .i64 0,.int .i64 0,.int .i64 0,.int .i64 0,.int .i64 0,.int .i64 0,.int .i64 0,.int .i64 0,.string ByteArray.empty,.slice none 0 0] 109)=X at hRX hbX hDX ⊢;obtain⟨dc,df,dz⟩:=hDX.facts;have HRX:=Lib.hid hRX;have HBX:=Lib.hid hbX;obtain⟨rc,rf,rz⟩:=hRX.facts;clear hRX hbX;go_wp2_with fail;exact bodyPost_ret (rplace_results (a:=an0) HRX.out.set12 rfl rfl) rfl ⟨rfl,below_set12 HBX.out (Nat.le_succ _)⟩
theorem rplace_some (h:RfAt w pf R S) {N:Nat} (hk:FsOk S N) (dir:Int) (s:ByteArray) (hs:s.size≤100000) (d:An) (hg:S.get dir=some d) :
  ∃ ea el ec,EntsAt w ea el ec d.ents∧Calls Tryz.prog 257 #[.pointer (some ⟨pf,0,none⟩),.agg #[.int .i64 0,.int .i64 0],.int .i64 dir,.string s] w fun e w'=>((S.placeE c00 dir s≠0∧e=.returned (.tuple #[an0.v none 0 0,.int .i64 (S.placeE c00 dir s)]))∨(S.placeE c00 dir s=0∧e=.returned (.tuple #[d.v ea el ec,.int .i64 0])))∧Below w.heap.size w w':=by
 obtain⟨-,hno,hn1,-⟩:=hk.get hg;have hz:(d.no == 0)=false:=by simp only [beq_eq_false_iff_ne,ne_eq];omega
 obtain⟨ea,el,ec,he,hG⟩:=rget_fix h hg;refine ⟨ea,el,ec,he,?_⟩;have HG:=Lib.hid hG;unfold An.v at HG;have HCk:=Lib.hid (fun w=>rcheck_any s w hs);have HPl:=Lib.hid (show S.placeE c00 dir s=if d.kind≠1 then 9 else if checkE s≠0 then checkE s else 0 by unfold Fs.placeE;rw [hg];rfl);have HNd:=Lib.hid (fun w=>rnode00_any d ea el ec 3 w);unfold An.v at HNd;generalize checkE s=ce at HCk HPl;generalize S.placeE c00 dir s=pe at HPl ⊢;clear h hk hg he hG hno;go_enter Tryz.func257,Tryz.ntmps257;go_wp2_with fail;refine (HG.out _ (balloc (balloc (Below.refl _ _) _) _)).mono ?_;rintro e w1 ⟨rfl,hb1⟩;have hb2:=bnext (balloc (balloc (Below.refl w.heap.size w) _) _) hb1;have hR:Blk w1 (w.heap.size+1) #[.int .i64 0,.int .i64 0,.int .i64 0,.int .i64 0,.int .i64 0,.int .i64 0,.int .i64 0,.int .i64 0,.int .i64 0,.int .i64 0,.string ByteArray.empty,.slice none 0 0] 109:=by
  have:=((Blk.new (w.alloc (.cells #[.int .i64 0,.int .i64 0] 27)) #[.int .i64 0,.int .i64 0,.int .i64 0,.int .i64 0,.int .i64 0,.int .i64 0,.int .i64 0,.int .i64 0,.int .i64 0,.int .i64 0,.string ByteArray.empty,.slice none 0 0] 109).keep hb1)
  rwa [World.size_alloc] at this
 have hCr:Blk w1 w.heap.size #[.int .i64 0,.int .i64 0] 27:=((Blk.new w #[.int .i64 0,.int .i64 0] 27).old (.cells #[.int .i64 0,.int .i64 0,.int .i64 0,.int .i64 0,.int .i64 0,.int .i64 0,.int .i64 0,.int .i64 0,.int .i64 0,.int .i64 0,.string ByteArray.empty,.slice none 0 0] 109)).keep hb1;have hRX:=hR.old (.cells #[.int .i64 d.no,.int .i64 d.dev,.int .i64 d.kind,.int .i64 d.mode,.int .i64 d.uid,.int .i64 d.gid,.int .i64 d.mtime,.int .i64 d.ctime,.int .i64 d.links,.int .i64 d.up,.string d.data,.slice ea el ec] 109);have hCX:=hCr.old (.cells #[.int .i64 d.no,.int .i64 d.dev,.int .i64 d.kind,.int .i64 d.mode,.int .i64 d.uid,.int .i64 d.gid,.int .i64 d.mtime,.int .i64 d.ctime,.int .i64 d.links,.int .i64 d.up,.string d.data,.slice ea el ec] 109);have hDX:=Blk.new w1 #[.int .i64 d.no,.int .i64 d.dev,.int .i64 d.kind,.int .i64 d.mode,.int .i64 d.uid,.int .i64 d.gid,.int .i64 d.mtime,.int .i64 d.ctime,.int .i64 d.links,.int .i64 d.up,.string d.data,.slice ea el ec] 109;have hbX:=balloc hb2 (.cells #[.int .i64 d.no,.int .i64 d.dev,.int .i64 d.kind,.int .i64 d.mode,.int .i64 d.uid,.int .i64 d.gid,.int .i64 d.mtime,.int .i64 d.ctime,.int .i64 d.links,.int .i64 d.up,.string d.data,.slice ea el ec] 109);clear hR hCr hb1 hb2;go_upto_region 2 with fail;generalize w1.alloc (.cells #[.int .i64 d.no,.int .i64 d.dev,.int .i64 d.kind,.int .i64 d.mode,.int .i64 d.uid,.int .i64 d.gid,.int .i64 d.mtime,.int .i64 d.ctime,.int .i64 d.links,.int .i64 d.up,.string d.data,.slice ea el ec] 109)=X at hRX hCX hDX hbX ⊢;have HRX:=Lib.hid hRX;have HBX:=Lib.hid hbX;have HDX:=Lib.hid hDX;have HCX:=Lib.hid hCX;obtain⟨rc,rf,rz⟩:=hRX.facts;obtain⟨dc,df,dz⟩:=hDX.facts;obtain⟨cc,-,-⟩:=hCX.facts;clear hRX hbX hDX hCX;by_cases h1:d.kind=1
 ·have q1:(d.kind == 1)=true:=by simpa using h1
  have q2:(d.kind != 1)=false:=by simpa using h1
  by_cases h2:ce=0
  ·have q3:(ce != 0)=false:=by simpa using h2
   have HE0:=Lib.hid (show pe=0 by rw [HPl.out];simp [h1,h2]);clear h1 h2;go_wp2_with fail;refine (HCk.out _).mono ?_;rintro e w2 ⟨rfl,rfl⟩;go_wp2_with fail;refine (HNd.out _).mono ?_;rintro e w5 ⟨rfl,hb5⟩;have hRX5:=HRX.out.keep hb5;have hDX5:=HDX.out.keep hb5;have hBX5:=HBX.out.trans (hb5.mono HBX.out.size);have HRX5:=Lib.hid hRX5;have HBX5:=Lib.hid hBX5;clear rc rf rz dc df dz cc;obtain⟨rc,rf,rz⟩:=hRX5.facts;obtain⟨dc,-,-⟩:=hDX5.facts;clear hRX5 hBX5 hb5 hDX5;go_wp2_with fail;exact bodyPost_ret (rplace_results (a:=d) (ea:=ea) (el:=el) (ec:=ec) HRX5.out.set12 rfl rfl) rfl ⟨.inr ⟨HE0.out,rfl⟩,below_set12 HBX5.out (Nat.le_succ _)⟩
  ·have q3:(ce != 0)=true:=by simpa using h2
   have HEc:=Lib.hid (show pe=ce∧ce≠0 by refine ⟨?_,h2⟩;rw [HPl.out];simp [h1,h2]);clear h1 h2;go_wp2_with fail;refine (HCk.out _).mono ?_;rintro e w2 ⟨rfl,rfl⟩;go_wp2_with fail;exact bodyPost_ret (rplace_results (a:=an0) HRX.out.set12 rfl rfl) rfl ⟨.inl ⟨by rw [HEc.out.1];exact HEc.out.2,by rw [HEc.out.1]⟩,below_set12 HBX.out (Nat.le_succ _)⟩
 ·have q1:(d.kind == 1)=false:=by simpa using h1
  have q2:(d.kind != 1)=true:=by simpa using h1
  have HE9:=Lib.hid (show pe=9 by rw [HPl.out];simp [h1]);clear h1;go_wp2_with fail;exact bodyPost_ret (rplace_results (a:=an0) HRX.out.set12 rfl rfl) rfl ⟨.inl ⟨by rw [HE9.out];decide,by rw [HE9.out]⟩,below_set12 HBX.out (Nat.le_succ _)⟩
end
end
end Go.Proofs.YtihdbncoijhihaaGreatDoor
