import Derived.Test.YtbndfmkgamdgeaaGreatDoorSO1
import Derived.Test.YtbndfmkgamdgeaaGreatDoorSO2
import Derived.Test.YtbndfmkgamdgeaaGreatDoorSO3
import Derived.Test.YtbndfmkgamdgeaaGreatDoorSO4
import Derived.Test.YtbndfmkgamdgeaaGreatDoorSO5
import Derived.Test.YtbndfmkgamdgeaaGreatDoorSO6
import Derived.Test.YtbndfmkgamdgeaaGreatDoorSO8
import Derived.Test.YtbndfmkgamdgeaaGreatDoorSO11
import Derived.Test.YtbndfmkgamdgeaaGreatDoorSO13
set_option linter.unusedVariables false
set_option linter.unusedSimpArgs false
set_option maxRecDepth 100000
set_option maxHeartbeats 16000000
namespace Go.Proofs.YtbndfmkgamdgeaaGreatDoor
section
open Go.RowKit
section
variable {w w':World} {pw:Nat} {R:Rp} {S:Fs}
theorem make_none {S:Fs} {a:An} (h:S.root a.dev=0):S.make a=(S,0,1):=by unfold Fs.make;rw [if_pos h]
theorem make_err {S:Fs} {a:An} {v:Dv} (h:S.root a.dev≠0) (hv:S.dev a.dev=some v) (he:tkE v.b v.n v.mb v.mn (blkI a.kind a.data.size) 1≠0):S.make a=(S,0,tkE v.b v.n v.mb v.mn (blkI a.kind a.data.size) 1):=by
 unfold Fs.make;rw [if_neg h,hv];simp only;rw [if_neg he]
theorem make_ok {S:Fs} {a:An} {v:Dv} (h:S.root a.dev≠0) (hv:S.dev a.dev=some v) (he:tkE v.b v.n v.mb v.mn (blkI a.kind a.data.size) 1=0) :
  S.make a=((S.setDev a.dev {v with b:=v.b+blkI a.kind a.data.size,n:=v.n+1}).add a,S.last+1,0):=by
 unfold Fs.make;rw [if_neg h,hv];simp only;rw [if_pos he]
theorem wmake_none (h:WdAt w pw R S) (hd:0<S.ds.length) (a:An) (ea:Option Addr) (el ec:Nat) (hr:S.root a.dev=0) :
  Calls Tryz.prog 138 #[.pointer (some ⟨pw,0,none⟩),a.v ea el ec] w fun e w'=>e=.returned (.tuple #[.int .i64 0,.int .i64 1])∧Below w.heap.size w w':=by
 have HR:=Lib.hid (wroot_any (h.keep ((Below.refl _ w).alloc (Nat.le_refl _) (.cells #[.int .i64 a.no,.int .i64 a.dev,.int .i64 a.kind,.int .i64 a.mode,.int .i64 a.uid,.int .i64 a.gid,.int .i64 a.mtime,.int .i64 a.ctime,.int .i64 a.links,.int .i64 a.up,.string a.data,.slice ea el ec] 163))) hd a.dev);rw [hr] at HR;unfold An.v;clear h hd hr;go_enter Tryz.func138,Tryz.ntmps138;go_wp2_with fail;refine HR.out.mono ?_;rintro e w1 ⟨rfl,rfl⟩;go_wp2_with fail;go_ret2;exact⟨rfl,balloc (Below.refl _ _) _⟩
theorem wmake_mid (h:WdAt w pw R S) {k:Nat} (hk:k<S.ds.length) (a:An) (ea:Option Addr) (el ec:Nat) (he:EntsAt w ea el ec a.ents) (hdev:a.dev=(k:Int)+1) (hr:S.root a.dev≠0) (hs:a.data.size≤9223372036854775807) (hl0:0≤S.last) (hl1:S.last≤1000000) :
  Calls Tryz.prog 138 #[.pointer (some ⟨pw,0,none⟩),a.v ea el ec] w fun e w'=>e=.returned (.tuple #[.int .i64 (S.make a).2.1,.int .i64 (S.make a).2.2])∧∃ R',WdAt w' pw R' (S.make a).1∧Stp (R.F pw) (R'.F pw) w w':=by
 have HR:=Lib.hid (wroot_any (h.keep ((Below.refl _ w).alloc (Nat.le_refl _) (.cells #[.int .i64 a.no,.int .i64 a.dev,.int .i64 a.kind,.int .i64 a.mode,.int .i64 a.uid,.int .i64 a.gid,.int .i64 a.mtime,.int .i64 a.ctime,.int .i64 a.links,.int .i64 a.up,.string a.data,.slice ea el ec] 163))) (by omega) a.dev);obtain⟨g,cap,hdv,hle,h63,hgl,hc,hfg,-⟩:=h.devF (by omega);obtain⟨c0,c1,c2,c3,c4,c5⟩:=hc k hk;obtain⟨v,hv⟩:∃ v,S.ds[k]=v:=⟨_,rfl⟩;rw [hv] at c0 c1 c2 c3 c4 c5;obtain⟨pc,-,pz⟩:=h.blk.facts;rw [hdv] at pc;obtain⟨rt,hrt⟩:∃ rt,S.root a.dev=rt:=⟨_,rfl⟩;have hrn:=hr;rw [hrt] at HR hr;have hdv2:S.dev a.dev=some v:=by
  unfold Fs.dev;rw [if_pos (by omega),hdev,show ((k:Int)+1 - 1).toNat=k by omega,List.getElem?_eq_getElem hk,hv]
 obtain⟨n,hn⟩:∃ n,S.ds.length=n:=⟨_,rfl⟩;have hkn:k<n:=by omega
 rw [hn] at pc hle;have hr2:(rt == 0)=false:=by simpa using hr
 have hT:=fun w=>take_any v.b v.n v.mb v.mn (blkI a.kind a.data.size) 1 w;unfold tkV at hT;have HB:=Lib.hid (fun w=>blocks_any a.kind a.data.size (by omega) w);have HM1:=Lib.hid (fun (he0:tkE v.b v.n v.mb v.mn (blkI a.kind a.data.size) 1≠0)=>make_err hrn hdv2 he0);have HM2:=Lib.hid (fun (he0:tkE v.b v.n v.mb v.mn (blkI a.kind a.data.size) 1=0)=>make_ok hrn hdv2 he0);have HQ:=Lib.hid (fun (he0:tkE v.b v.n v.mb v.mn (blkI a.kind a.data.size) 1=0)=>show tkB v.b v.n v.mb v.mn (blkI a.kind a.data.size) 1=v.b+blkI a.kind a.data.size∧tkN v.b v.n v.mb v.mn (blkI a.kind a.data.size) 1=v.n+1 by unfold tkB tkN;rw [if_pos he0,if_pos he0];exact ⟨rfl,rfl⟩);have HW0:=Lib.hid h;have HE0:=Lib.hid he;have HDv:=Lib.hid hdv;have HV:=Lib.hid (show ∃ hk:k<S.ds.length,S.ds[k]=v from ⟨hk,hv⟩);have Hdev:=Lib.hid hdev;unfold An.v;rw [hdev] at HR ⊢;have B1:=Blk.new w #[.int .i64 a.no,.int .i64 ((k:Int)+1),.int .i64 a.kind,.int .i64 a.mode,.int .i64 a.uid,.int .i64 a.gid,.int .i64 a.mtime,.int .i64 a.ctime,.int .i64 a.links,.int .i64 a.up,.string a.data,.slice ea el ec] 163;have hb1:=(Below.refl w.heap.size w).alloc (Nat.le_refl _) (.cells #[.int .i64 a.no,.int .i64 ((k:Int)+1),.int .i64 a.kind,.int .i64 a.mode,.int .i64 a.uid,.int .i64 a.gid,.int .i64 a.mtime,.int .i64 a.ctime,.int .i64 a.links,.int .i64 a.up,.string a.data,.slice ea el ec] 163);clear h hr hrn hrt hn hv hc hdv hdv2 he hk hdev c0 c1;generalize blkI a.kind a.data.size=bk at hT HB HM1 HM2 HQ;generalize tkE v.b v.n v.mb v.mn bk 1=e0 at hT HM1 HM2 HQ;generalize tkB v.b v.n v.mb v.mn bk 1=qb at hT HQ;generalize tkN v.b v.n v.mb v.mn bk 1=qn at hT HQ;have HT:=Lib.hid hT;clear hT;go_enter Tryz.func138,Tryz.ntmps138;go_wp2_with fail;refine HR.out.mono ?_;rintro e w1 ⟨rfl,rfl⟩;generalize w.alloc (.cells #[.int .i64 a.no,.int .i64 ((k:Int)+1),.int .i64 a.kind,.int .i64 a.mode,.int .i64 a.uid,.int .i64 a.gid,.int .i64 a.mtime,.int .i64 a.ctime,.int .i64 a.links,.int .i64 a.up,.string a.data,.slice ea el ec] 163)=W at B1 hb1 ⊢;obtain⟨Bn,hBn⟩:∃ Bn,w.heap.size=Bn:=⟨_,rfl⟩;rw [hBn] at B1 ⊢;obtain⟨bc,bf,bz⟩:=B1.facts;rw [←hb1.cell (p:=⟨g,k*6+2,none⟩) hgl] at c2;rw [←hb1.cell (p:=⟨g,k*6+3,none⟩) hgl] at c3;rw [←hb1.cell (p:=⟨g,k*6+4,none⟩) hgl] at c4;rw [←hb1.cell (p:=⟨g,k*6+5,none⟩) hgl] at c5;have pc1:W.cell? ⟨pw,1,none⟩=_:=(hb1.cell (p:=⟨pw,1,none⟩) pz).trans (pc 1);have hgW:g<W.heap.size:=Nat.lt_of_lt_of_le hgl hb1.size;have hpW:pw<W.heap.size:=Nat.lt_of_lt_of_le pz hb1.size;have HW:=Lib.hid hb1;have HB1:=Lib.hid B1;have HBn:=Lib.hid hBn;clear pc hb1 B1 hBn;go_upto_region 3 with (fail)
 go_cut [6,7] (fun t6 t7 wx=>∃ Bq:Nat,t6=.pointer (some ⟨Bq,0,none⟩)∧t7=.int .i64 e0∧Blk wx Bq #[.int .i64 qb,.int .i64 qn,.int .i64 v.mb,.int .i64 v.mn] 215∧Below W.heap.size W wx)
 case first=>
  go_wp2_with fail;have hw1:IntKind.i64.wrap ((k:Int)+1 - 1)=(k:Int):=by rw [IntKind.wrap_i64];omega
  have hw2:IntKind.i64.wrap (k:Int)=(k:Int):=by rw [IntKind.wrap_i64];omega
  have hb3:(k:Int)<(n:Int):=by omega
  have hb4:(0:Int)≤(k:Int):=by omega
  have hzz:W.heap.size≤W.heap.size:=Nat.le_refl _
  go_region_held3 (fun w'=>(∀ b o,b<W.heap.size→w'.cell? ⟨b,o,none⟩=W.cell? ⟨b,o,none⟩)∧Below W.heap.size W w') (first | with_reducible assumption | with_reducible exact keepS_here _ | with_reducible exact keepS_here2 _ | with_reducible exact keepS_call (by assumption) (by assumption) | with_reducible exact keepS_alloc (by assumption) _ | with_reducible exact keepS_allocD (by assumption) _ | with_reducible exact keepS_realloc (by assumption) (by assumption) | with_reducible exact keepS_set4 (by assumption) (by assumption))
   (first | (go_at_call 190;((with_reducible refine (HB.out _).mono ?_);rintro e w4 ⟨rfl,rfl⟩)) | (go_at_call 189;((with_reducible refine (HT.out _).mono ?_);rintro e w4 ⟨rfl,hb5⟩;have hz5:=Nat.le_trans (And.right ‹(∀ b o,b<W.heap.size→_)∧Below W.heap.size W _›).size hb5.size;try (have hbq:=new_drew hb5;obtain ⟨bqc,bqf,bqz⟩:=hbq.facts))))
  all_goals
   obtain⟨-,hS4⟩:=‹_∧Below W.heap.size W _›;have HS4:=Lib.hid hS4
   try (have HQ4:=Lib.hid hbq)
   clear hS4;go_wp2_with fail;go_meet;exact⟨_,rfl,rfl,by first | exact HQ4.out.set4 | exact Blk.new _ _ _,HS4.out⟩
 case rest=>
  obtain⟨Bq,rfl,rfl,hQ,hS⟩:=hcut;have HS:=Lib.hid hS;have HWc:=Lib.hid (show Below w.heap.size w wc from HW.out.trans (hS.mono HW.out.size));by_cases h0:e0=0
  ·obtain ⟨hk,hv⟩:=HV.out;obtain⟨rfl,rfl⟩:=HQ.out h0;have HMk:=Lib.hid (HM2.out h0);subst h0;obtain⟨qc,qf,qz⟩:=hQ.facts;have pcw:wc.cell? ⟨pw,1,none⟩=_:=(hS.cell (p:=⟨pw,1,none⟩) hpW).trans pc1;have bcw:wc.cell? ⟨Bn,1,none⟩=_:=(hS.cell (p:=⟨Bn,1,none⟩) bz).trans (bc 1);rw [←hS.cell (p:=⟨g,k*6+2,none⟩) hgW] at c2;rw [←hS.cell (p:=⟨g,k*6+3,none⟩) hgW] at c3;rw [←hS.cell (p:=⟨g,k*6+4,none⟩) hgW] at c4;rw [←hS.cell (p:=⟨g,k*6+5,none⟩) hgW] at c5;have hfw:∀ i,wc.frozen? ⟨g,i,none⟩=false:=fun i=>(HWc.out.frozen (p:=⟨g,i,none⟩) hgl).trans (hfg i);have hWd:=HW0.out.keep HWc.out;obtain⟨hWq,hMq⟩:=hWd.setQ HDv.out hk v hv (v.b+bk) (v.n+1);have hgF:R.F pw g:=.inr (.inr (.inr (by rw [HDv.out];rfl)));have hStq:Stp (R.F pw) (R.F pw) wc _:=Stp.of_mod (hMq.mono (fun x hx=>by rw [hx];exact hgF));have HEq:=Lib.hid ((HE0.out.keep HWc.out).wd hWd hStq);have hBq:=(HB1.out.keep hS).wd hWd hStq rfl;have HWq:=Lib.hid hWq;have HSt:=Lib.hid ((Stp.of_below HWc.out).trans hStq);clear hWd hWq hMq hStq pc1 hfg;go_wp2_with fail;have mixed:Tryz.prog.follows .mixedOrders=true:=by kernel_rfl
   have hw1:IntKind.i64.wrap ((k:Int)+1 - 1)=(k:Int):=by rw [IntKind.wrap_i64];omega
   have hw2:IntKind.i64.wrap (k:Int)=(k:Int):=by rw [IntKind.wrap_i64];omega
   have hb3:(k:Int)<(n:Int):=by omega
   have hb4:(0:Int)≤(k:Int):=by omega
   refine wp_region_lex 8 mixed (by kernel_rfl) then_panic ?_;simp only [List.take_succ_cons,List.take_zero,List.drop_succ_cons,List.drop_zero]
   repeat still_step
   refine wpStill_nil ?_;go_wp2_with fail;generalize (((wc.setCell ⟨g,k*6+2,none⟩ (.int .i64 (v.b+bk))).setCell ⟨g,k*6+3,none⟩ (.int .i64 (v.n+1))).setCell ⟨g,k*6+4,none⟩ (.int .i64 v.mb)).setCell ⟨g,k*6+5,none⟩ (.int .i64 v.mn)=X at HEq hBq HWq HSt ⊢;obtain⟨xc,-,xz⟩:=HWq.out.blk.facts;obtain⟨bc,bf,bz⟩:=hBq.facts;clear c2 c3 c4 c5 hfw pcw bcw qc qf qz;refine wp_region_lex 5 mixed (by kernel_rfl) then_panic ?_;simp only [List.take_succ_cons,List.take_zero,List.drop_succ_cons,List.drop_zero]
   repeat still_step
   refine wpStill_nil ?_;have hXd:Below X.heap.size X X.drew.drew:=((Below.refl _ X).drew).drew;have hAdd:=(HWq.out.keep hXd).addN a (HEq.out.keep hXd) hl0 hl1;unfold An.v at hAdd;rw [Hdev.out] at hAdd;have HAdd:=Lib.hid hAdd;clear hAdd;go_wp2_with fail;refine HAdd.out.mono ?_;rintro e w5 ⟨rfl,R',hR1,hR2,-,-⟩;have HR':=Lib.hid (And.intro hR1 hR2);clear hR1 hR2;go_wp2_with fail;go_ret2;rw [HMk.out];refine ⟨rfl,R',?_,(HSt.out.trans (Stp.of_below hXd)).trans HR'.out.2⟩;rw [Hdev.out];exact HR'.out.1
  ·have HMk:=Lib.hid (HM1.out h0);have he2:(e0 != 0)=true:=by simpa using h0
   clear h0;go_wp2_with fail;go_ret2;rw [HMk.out];exact⟨rfl,R,HW0.out.keep HWc.out,Stp.of_below HWc.out⟩
end
end
section
open Go.RowKit
section
variable {P:Program}
theorem run_copy_rowK (w:World) (dT sT ty elem:TypeId) (g o dLen dCap:Nat) (a:Addr) (sLen sCap:Nat) (cur:Array Value) (t:TypeId) (cs:List Value) (n sz:Nat)
  (hu:P.underlying dT=some (.slice elem)) (hs:(P.info? elem).map (·.size)=some sz)
  (hg:w.heap[g]? = some (.cells cur t (0,0))) (hm:Nat.min sLen dLen=n) (hn:cs.length=n*sz)
  (hsrc:∀ j v,cs[j]? = some v→w.cell? (a.add j)=some v) (hfit:o+cs.length≤cur.size) (h1:∀ v∈cs,v.oneCell'=true) :
  (Builtin.copy_ #[dT,sT] ty #[.slice (some ⟨g,o,none⟩) dLen dCap,.slice (some a) sLen sCap]).run P w =
   .ok (goInt n) (w.setRow g (cur.toList.take o ++ cs ++ cur.toList.drop (o+cs.length)).toArray):=by
 have hl:=run_loadCells_list (P:=P) w a cs hsrc;have hst:=run_storeCells_at P g o t cs 0 cur w hg (by simpa using hfit) h1
 cases hq:P.info? elem with
 | none=>simp [hq] at hs
 | some i=>
  have hi:i.size=sz:=by simpa [hq] using hs
  simp [Builtin.copy_,run_underlying hu,Builtin.lenOf,Builtin.firstCells,sizeOf,typeInfo,hq,hi,hm,←hn,hl,hst]
theorem wp_copy_run (w:World) {o:Oper} {a:Act} {K:Act→World→Prop} {Q:Exit→Act→World→Prop} (d s:Operand) (t t':TypeId)
  (ho:o.op=.call {callee:=.builtin .copy,args:=#[d,s],argTypes:=#[t,t']}) (v u:Value) (hd:a.eval d=v) (hs:a.eval s=u) {v':Value} {w':World}
  (hr:(Builtin.copy_ #[t,t'] o.type #[v,u]).run P w=.ok v' w') (h:K (a.put o.dst v') w'):o.wp P a w K Q:=by
 unfold Oper.wp execOp;simp only [ho,resolve,invoke,builtin,Sem.run_bind,Sem.run_pure,Result.andThen_ok,List.map_toArray,List.map_cons,List.map_nil,hd,hs,hr];exact h
theorem wpList_copy_run (w:World) {ops:Array Oper} {rest:List Oper} {o:Oper} {a:Act} {Q:Exit→Act→World→Prop} (hgd:o.guard=none) (d s:Operand) (t t':TypeId)
  (ho:o.op=.call {callee:=.builtin .copy,args:=#[d,s],argTypes:=#[t,t']}) (v u:Value) (hd:a.eval d=v) (hs:a.eval s=u) {v':Value} {w':World}
  (hr:(Builtin.copy_ #[t,t'] o.type #[v,u]).run P w=.ok v' w') (h:wpList P ops Q rest (a.put o.dst v') w'):wpList P ops Q (o :: rest) a w:=
 wpList_plain hgd fun _ hK=>wp_copy_run w d s t t' ho v u hd hs hr (hK _ _ h)
theorem step_copy_run {ops:Array Oper} {o:Oper} {a:Act} {w:World} {K:Act→World→Prop} {Q:Exit→Act→World→Prop} {E:Prop}
  (hg:o.guard=none) (d x:Operand) (dT sT:TypeId) (hop:o.op=Op.call {callee:=Callee.builtin Builtin.copy,args:=#[d,x],argTypes:=#[dT,sT]})
  (v u:Value) (hd:a.eval d=v) (hx:a.eval x=u) {v':Value} {w':World} (hr:(Builtin.copy_ #[dT,sT] o.type #[v,u]).run P w=.ok v' w') (hK:K (a.put o.dst v') w') :
  if Region.wanted o (yielded ops a.tmps)=true then Oper.wp P o a w K Q else E:=by
 have hw:Region.wanted o (yielded ops a.tmps)=true:=by simp [Region.wanted,hg]
 rw [if_pos hw];unfold Oper.wp;simp [execOp,hop,resolve,invoke,builtin,hd,hx,hr,Result.andThen];exact hK
end
theorem setRow_blk {w:World} {g:Nat} {cur vs:Array Value} {T:TypeId} (h:Blk w g cur T):Blk (w.setRow g vs) g vs T:=setRow_heap w g cur vs T _ h
theorem setRow_mod (w:World) (g:Nat) (vs:Array Value):Mod (fun k=>k=g) w (w.setRow g vs):=by
 refine ⟨rfl,rfl,rfl,by simp [World.setRow],fun k hk hs=>?_⟩;simp only [World.setRow];rw [Array.getElem?_modify,if_neg (fun e=>hs e.symm)]
end
section
open Go.RowKit
theorem ent_info:(Tryz.prog.info? 92).map (fun i=>(i.zero,i.size,i.bytes))=some (some (.agg #[.string ByteArray.empty,.int .i64 0]),2,24):=by kernel_rfl
theorem entC_one (es:List En):∀ u∈es.flatMap entC,u.oneCell'=true:=by
 intro u hu;obtain⟨x,-,hx⟩:=List.mem_flatMap.1 hu;simp [entC] at hx;rcases hx with rfl | rfl <;> rfl
theorem EntsAt.news {w:World} {b off n c:Nat} {es:List En} (h:EntsAt w (some ⟨b,off,none⟩) n c es):∀ j u,(es.flatMap entC)[j]? = some u→w.cell? ((⟨b,off,none⟩:Addr).add j)=some u:=by
 intro j u hu;have hlt:j<(es.flatMap entC).length:=(List.getElem?_eq_some_iff.1 hu).1;rw [flat_len entC_len] at hlt;have hm:=Nat.mod_lt j (show 0<2 by omega);have hdiv:j=j / 2*2+j % 2:=by omega
 have hq:j / 2<es.length:=by omega
 have h1:=flat_get entC_len es (j / 2) (j % 2) hq hm;rw [←hdiv,hu] at h1;obtain⟨c1,c2⟩:=h.cell (j / 2) hq;rw [addr_add];rcases (show j % 2=0∨j % 2=1 by omega) with hr | hr
 ·rw [hr] at h1;rw [show off+j=off+j / 2*2 by omega,c1];exact h1.symm
 ·rw [hr] at h1;rw [show off+j=off+j / 2*2+1 by omega,c2];exact h1.symm
def OE (w:World) (base:Nat) (v:Value) (es:List En):Prop:=w.ownsRow base 92 2 v es.length (es.flatMap entC)
theorem OE.at {w:World} {base c:Nat} {a:Option Addr} {es:List En} (h:OE w base (.slice a es.length c) es):EntsAt w a es.length c es:=by
 refine ⟨own_slice (R:=entQ) (by omega) entC_len (fun _=>rfl) h,fun p hp=>?_⟩;subst hp;rcases h.2 with ⟨h1,-⟩|⟨g,cap,cur,h1,-,hg,-⟩
 ·cases h1
 ·injection h1 with h1;injection h1 with h1;exact⟨g,0,cur,h1,hg⟩
theorem OE.keep {w w':World} {base:Nat} {v:Value} {es:List En} (h:OE w base v es) (hb:Below w.heap.size w w'):OE w' base v es:=own_below h hb (Nat.le_refl _)
theorem eclone_any (es:List En) (a:Option Addr) (n c:Nat) (w:World) (he:EntsAt w a n c es) (hn:n≤1000000) :
  Calls Tryz.prog 193 #[.slice a n c] w fun e w'=>(∃ a' c',e=.returned (.slice a' n c')∧OE w' w.heap.size (.slice a' n c') es)∧Below w.heap.size w w':=by
 have hl:=he.len;obtain⟨i0,hi,hz0,hz1,hz2⟩:=info_parts ent_info;have hq:∀ (w:World) (r:Option Addr) (n c:Nat),(binOp .eql 88 (.slice r n c) (.slice none 0 0)).run Tryz.prog w=.ok (.bool r.isNone) w:=fun w r n c=>Lib.run_eql_slice_nil w _ _ r n c 0 0 Tryz.underlying88
 cases a with
 | none=>
  have hn0:n=0:=by
   rcases Nat.eq_zero_or_pos n with h | h
   ·exact h
   ·obtain ⟨b,off,h1,-⟩:=he.some_of h
    cases h1
  subst hn0;obtain rfl:es=[]:=List.eq_nil_of_length_eq_zero hl;have H:=Lib.hid (show OE w w.heap.size (.slice none 0 0) [] from World.ownsRow_nil _ _ _ _);clear he hl hi hz0 hz1 hz2;go_enter Tryz.func193,Tryz.ntmps193;go_wp2_with fail;go_ret;exact⟨⟨none,0,rfl,H.out⟩,Below.refl _ _⟩
 | some p=>
  obtain⟨b,off,cur,rfl,hblk⟩:=he.blk p rfl;have he2:=he.keep ((Below.refl _ w).alloc (Nat.le_refl _) (.cells #[] 92));have hrun:∃ a' c' W,(Builtin.append_ #[88,88] 88 #[.slice (some ⟨w.heap.size,0,none⟩) 0 0,.slice (some ⟨b,off,none⟩) n c]).run Tryz.prog (w.alloc (.cells #[] 92))=.ok (.slice a' n c') W∧
    OE W w.heap.size (.slice a' n c') es∧Below w.heap.size w W:=by
   obtain⟨g,cap,W,h1,h2,h3,h4⟩:=step_app_any (88) Tryz.underlying88 hi hz0 hz1 hz2 rfl (by omega) (own_empty (base:=w.heap.size) (sz:=2) (e:=92) w (Nat.le_refl _)) ⟨b,off,none⟩ n c (es.flatMap entC) (by rw [flat_len entC_len,hl]) he2.news (entC_one es) (by unfold maxLen;omega) (by omega) (by simp);refine ⟨some ⟨g,0,none⟩,cap,W,?_,?_,((Below.refl w.heap.size w).alloc (Nat.le_refl _) _).trans (h3.below (fun k hk=>by omega) (by simp))⟩
   ·rw [Nat.zero_add] at h1;exact h1
   ·rw [Nat.zero_add,List.nil_append] at h2;unfold OE;rw [hl];exact h2
  obtain⟨a',c',W,hrun,h2,h3⟩:=hrun;have H:=Lib.hid (And.intro h2 h3);clear he he2 hblk h2 h3 hi hz0 hz1 hz2 hl;go_enter Tryz.func193,Tryz.ntmps193;go_wp2_with (at_builtin;refine wpList_app_run rfl rfl rfl rfl hrun ?_);go_ret;exact⟨⟨a',c',rfl,H.out.1⟩,H.out.2⟩
end
section
open Go.RowKit
theorem OE.mk {w:World} {base g cap:Nat} {cur:Array Value} {es:List En} (hb:base≤g) (hg:Blk w g cur 92) (h1:es.length≤cap) (h2:cap≤maxLen) (h3:cur.size=cap*2) (h4:cur.toList.take (es.length*2)=es.flatMap entC) :
  OE w base (.slice (some ⟨g,0,none⟩) es.length cap) es:=⟨flat_len entC_len es,.inr ⟨g,cap,cur,rfl,hb,hg,h1,h2,h3,h4⟩⟩
theorem flat_take (es:List En) (i:Nat):(es.flatMap entC).take (i*2)=(es.take i).flatMap entC:=by
 induction es generalizing i with
 | nil=>simp
 | cons x es ih=>
  cases i with
  | zero=>simp
  | succ i=>
   rw [List.flatMap_cons,List.take_succ_cons,List.flatMap_cons,show (i+1)*2=(entC x).length+i*2 by rw [entC_len];omega,List.take_append,List.take_of_length_le (by omega),Nat.add_sub_cancel_left,ih]
theorem flat_drop (es:List En) (i:Nat):(es.flatMap entC).drop (i*2)=(es.drop i).flatMap entC:=by
 induction es generalizing i with
 | nil=>simp
 | cons x es ih=>
  cases i with
  | zero=>simp
  | succ i=>
   rw [List.flatMap_cons,List.drop_succ_cons,show (i+1)*2=(entC x).length+i*2 by rw [entC_len];omega,List.drop_append,List.drop_eq_nil_of_le (by omega),Nat.add_sub_cancel_left,ih,List.nil_append]
theorem einsert_end (es:List En) (a:Option Addr) (c base vb:Nat) (x:En) (w:World) (h:OE w base (.slice a es.length c) es) (hb:Blk w vb #[.string x.name,.int .i64 x.no] 92) (hbase:base≤w.heap.size) (hn:es.length≤1000000) :
  Calls Tryz.prog 192 #[.slice a es.length c,.int .i64 es.length,.slice (some ⟨vb,0,none⟩) 1 1] w fun e w'=>(∃ a' c',e=.returned (.slice a' (es.length+1) c')∧OE w' base (.slice a' (es.length+1) c') (es ++ [x]))∧Mod (fun k=>(Value.slice a es.length c).ownBlock=some k) w w':=by
 obtain⟨i0,hi,hz0,hz1,hz2⟩:=info_parts ent_info;obtain⟨g,cap,W,h1,h2,h3,h4⟩:=step_app (88) Tryz.underlying88 hi hz0 hz1 hz2 rfl (by omega) h ⟨vb,0,none⟩ 1 1 (entC x) rfl (World.news_of_block hb) (by intro u hu;simp [entC] at hu;rcases hu with rfl | rfl <;> rfl) (by omega) (by unfold maxLen;omega) (by omega) hbase;have h2':OE W base (.slice (some ⟨g,0,none⟩) (es.length+1) cap) (es ++ [x]):=by
  unfold OE;rw [List.length_append,List.length_singleton,List.flatMap_append,List.flatMap_singleton];exact h2
 obtain⟨b',c',hv,hle,-⟩:=own_form h;injection hv with e1 e2 e3;subst e1 e3;have H:=Lib.hid (And.intro h2' h3);clear h2 h2' h3 h4 hi hz0 hz1 hz2 hb h;obtain⟨n,hnn⟩:∃ n,es.length=n:=⟨_,rfl⟩;rw [hnn] at H h1 hle hn ⊢;clear hnn
 cases a with
 | none=>
  go_enter Tryz.func192,Tryz.ntmps192;go_wp2_with (at_builtin;refine wpList_app_run rfl rfl rfl rfl h1 ?_)
  all_goals (go_ret;exact ⟨⟨_,_,rfl,H.out.1⟩,H.out.2⟩)
 | some p=>
  go_enter Tryz.func192,Tryz.ntmps192;go_wp2_with (at_builtin;refine wpList_app_run rfl rfl rfl rfl h1 ?_)
  all_goals (go_ret;exact ⟨⟨_,_,rfl,H.out.1⟩,H.out.2⟩)
theorem zero_cells (k:Nat):(Builtin.zeroCells (Value.cells (.agg #[.string ByteArray.empty,.int .i64 0])) k).size=k*2:=by
 rw [size_zeroCells];rfl
theorem take_app_len {α:Type} (a b:List α) (n:Nat) (h:a.length=n):(a ++ b).take n=a:=by
 subst h;simp
theorem einsert_grow (es:List En) (g c i base vb:Nat) (x:En) (w:World) (h:OE w base (.slice (some ⟨g,0,none⟩) es.length c) es) (hb:Blk w vb #[.string x.name,.int .i64 x.no] 92) (hbase:base≤w.heap.size) (hn:es.length≤1000000) (hil:i<es.length) (hroom:c<es.length+1) :
  Calls Tryz.prog 192 #[.slice (some ⟨g,0,none⟩) es.length c,.int .i64 i,.slice (some ⟨vb,0,none⟩) 1 1] w fun e w'=>(∃ a' c',e=.returned (.slice a' (es.length+1) c')∧OE w' base (.slice a' (es.length+1) c') (es.take i ++ x :: es.drop i))∧Below w.heap.size w w':=by
 obtain⟨i0,hi,hz0,hz1,hz2⟩:=info_parts ent_info;have hA:=h.at;have hlt:=(hA.some_of (by omega));obtain⟨gg,oo,hgg,hgl⟩:=hlt;injection hgg with hgg;injection hgg with e1 e2;subst e1 e2;obtain⟨b',c',hv,hle,-⟩:=own_form h;injection hv with e1 e2 e3;subst e1 e3;have hsz:(Tryz.prog.info? 92).map (·.size)=some 2:=by rw [hi];simp [hz1]
 obtain⟨n,hnn⟩:∃ n,es.length=n:=⟨_,rfl⟩;have hold:(Builtin.firstCells i0.size i (.slice (some ⟨g,0,none⟩) i c)).run Tryz.prog w.drew=.ok ((es.take i).flatMap entC).toArray w.drew:=by
  rw [hz1];refine run_firstCells_some w.drew 2 i ⟨g,0,none⟩ i c _ (by rw [flat_len entC_len,List.length_take];omega) (fun j v hj=>?_);rw [←flat_take,List.getElem?_take] at hj
  split at hj
  ·exact hA.news j v hj
  ·cases hj
 have hr0:=Lib.run_append_grow_zeros w 88 3 88 92 i0 _ .i64 .i64 Tryz.underlying88 Tryz.underlying3 hi hz0 (some ⟨g,0,none⟩) i c _ hold (n+1 - i) (by omega) (by rw [hz1];omega) (by omega) (by omega) (by rw [hz2];omega) (by rw [hz2];exact growslice_fits (by omega) (by omega));rw [show i+(n+1 - i)=n+1 by omega] at hr0;have hk:((n+1 - i:Nat):Int)=(n:Int)+1 - (i:Int):=by omega
 rw [hk] at hr0;obtain⟨G,hG⟩:∃ G,grownCap w (n+1) c 92=G:=⟨_,rfl⟩;have hG1:n+1≤G:=by rw [←hG];exact grownCap_ge w _ _ _
 have hG2:G≤maxLen:=by rw [←hG];exact grownCap_le_maxLen w _ _ _ (by unfold maxLen;omega)
 rw [hG] at hr0;obtain⟨ROW,hROW⟩:∃ R,((es.take i).flatMap entC).toArray ++ Builtin.zeroCells (Value.cells (.agg #[.string ByteArray.empty,.int .i64 0])) (n+1 - i) ++ Builtin.zeroCells (Value.cells (.agg #[.string ByteArray.empty,.int .i64 0])) (G - (n+1))=R:=⟨_,rfl⟩;rw [hROW] at hr0;have hRs:ROW.size=G*2:=by
  rw [←hROW,Array.size_append,Array.size_append,zero_cells,zero_cells,List.size_toArray,flat_len entC_len,List.length_take];omega
 have hRt:ROW.toList.take (i*2)=(es.take i).flatMap entC:=by
  rw [←hROW,Array.toList_append,Array.toList_append,List.append_assoc];exact take_app_len _ _ _ (by rw [flat_len entC_len,List.length_take];omega)
 have b1:Blk (w.drew.alloc (.cells ROW 92)) w.heap.size ROW 92:=Blk.new w.drew ROW 92;have B1:Below w.heap.size w (w.drew.alloc (.cells ROW 92)):=((Below.refl _ w).drew).alloc (Nat.le_refl _) _;have hA1:=hA.keep B1;have hv1:=hb.keep B1;have hne:vb≠w.heap.size:=by have:=hb.lt;omega
 generalize hW1:w.drew.alloc (.cells ROW 92)=W1 at hr0 b1 B1 hA1 hv1;clear hW1;have hr1:=run_copy_rowK W1 88 88 3 92 w.heap.size (i*2) (n+1 - i) (G - i) ⟨vb,0,none⟩ 1 1 ROW 92 (entC x) 1 2 Tryz.underlying88 hsz b1 (by simp only [Nat.min_def];split <;> omega) rfl (World.news_of_block hv1) (by rw [entC_len,hRs];omega) (by intro u hu;simp [entC] at hu;rcases hu with rfl | rfl <;> rfl);have b2:=setRow_blk (vs:=(ROW.toList.take (i*2) ++ entC x ++ ROW.toList.drop (i*2+(entC x).length)).toArray) b1;have M2:=setRow_mod W1 w.heap.size (ROW.toList.take (i*2) ++ entC x ++ ROW.toList.drop (i*2+(entC x).length)).toArray;have hs2:(ROW.toList.take (i*2) ++ entC x ++ ROW.toList.drop (i*2+(entC x).length)).toArray.size=G*2:=by
  rw [List.size_toArray,List.length_append,List.length_append,List.length_take,List.length_drop,entC_len,Array.length_toList,hRs];omega
 have ht2:(ROW.toList.take (i*2) ++ entC x ++ ROW.toList.drop (i*2+(entC x).length)).take ((i+1)*2)=(es.take i).flatMap entC ++ entC x:=by
  rw [hRt];exact take_app_len _ _ _ (by rw [List.length_append,flat_len entC_len,List.length_take,entC_len];omega)
 obtain⟨R2,hR2⟩:∃ R,(ROW.toList.take (i*2) ++ entC x ++ ROW.toList.drop (i*2+(entC x).length))=R:=⟨_,rfl⟩;rw [hR2] at hr1 b2 M2 hs2 ht2;have B2:Below w.heap.size w (W1.setRow w.heap.size R2.toArray):=B1.trans (M2.below (fun k hk=>by omega) B1.size);have hA2:=hA.keep B2;generalize hW2:W1.setRow w.heap.size R2.toArray=W2 at hr1 b2 B2 hA2;clear hW2 M2;have hdl:((es.drop i).flatMap entC).length=(n - i)*2:=by rw [flat_len entC_len,List.length_drop,hnn]
 have hr2:=run_copy_rowK W2.drew 88 88 3 92 w.heap.size ((i+1)*2) (n+1 - (i+1)) (G - (i+1)) ⟨g,i*2,none⟩ (n - i) (c - i) R2.toArray 92 ((es.drop i).flatMap entC) (n - i) 2 Tryz.underlying88 hsz b2.drew (by simp only [Nat.min_def];split <;> omega) hdl
  (fun j v hj=>by
   rw [←flat_drop,List.getElem?_drop] at hj;have:=hA2.news (i*2+j) v hj;rw [addr_add] at this ⊢;rw [show i*2+j=0+(i*2+j) by omega];exact this) (by rw [hdl,hs2];omega) (entC_one _)
 have b3:=setRow_blk (vs:=(R2.toArray.toList.take ((i+1)*2) ++ (es.drop i).flatMap entC ++ R2.toArray.toList.drop ((i+1)*2+((es.drop i).flatMap entC).length)).toArray) b2.drew;have M3:=setRow_mod W2.drew w.heap.size (R2.toArray.toList.take ((i+1)*2) ++ (es.drop i).flatMap entC ++ R2.toArray.toList.drop ((i+1)*2+((es.drop i).flatMap entC).length)).toArray;obtain⟨R3,hR3⟩:∃ R,(R2.toArray.toList.take ((i+1)*2) ++ (es.drop i).flatMap entC ++ R2.toArray.toList.drop ((i+1)*2+((es.drop i).flatMap entC).length))=R:=⟨_,rfl⟩;have hs3:R3.toArray.size=G*2:=by
  rw [←hR3,List.size_toArray,List.length_append,List.length_append,List.length_take,List.length_drop,hdl,Array.length_toList,hs2];omega
 have ht3:R3.take ((n+1)*2)=(es.take i ++ x :: es.drop i).flatMap entC:=by
  rw [←hR3,List.flatMap_append,List.flatMap_cons,ht2];rw [take_app_len _ _ _ (by rw [List.length_append,List.length_append,hdl,flat_len entC_len,List.length_take,entC_len];omega)];rw [List.append_assoc]
 rw [hR3] at hr2 b3 M3;have B3:Below w.heap.size w (W2.drew.setRow w.heap.size R3.toArray):=(B2.drew).trans (M3.below (fun k hk=>by omega) B2.size);generalize hW3:W2.drew.setRow w.heap.size R3.toArray=W3 at hr2 b3 B3;clear hW3 M3;have hlen:(es.take i ++ x :: es.drop i).length=n+1:=by
  rw [List.length_append,List.length_take,List.length_cons,List.length_drop];omega
 have hfin:OE W3 base (.slice (some ⟨w.heap.size,0,none⟩) (n+1) G) (es.take i ++ x :: es.drop i):=by
  have:=OE.mk (es:=es.take i ++ x :: es.drop i) hbase b3 (by rw [hlen];exact hG1) hG2 hs3 (by rw [hlen];exact ht3);rw [hlen] at this;exact this
 have H:=Lib.hid (And.intro hfin B3);unfold maxLen at hG2;rw [hnn] at hil hroom hn hle ⊢;have q1:¬ (G=i):=by omega
 have q2:¬ (G=i+1):=by omega
 have q3:¬ (c=i):=by omega
 clear hA hA1 hA2 hv1 hb h hold hROW hRs hRt b1 b2 b3 hs2 hs3 ht2 ht3 hR2 hR3 hlen hfin B1 B2 B3 hdl hnn hG hi hz0 hz1 hz2 hsz hk;go_enter Tryz.func192,Tryz.ntmps192;go_wp2_with (first
  | (at_builtin;refine Lib.wpList_append_run _ rfl _ _ _ _ rfl _ _ rfl rfl _ _ hr0 ?_)
  | (refine wpList_copy_run _ rfl _ _ 88 88 rfl _ _ rfl rfl hr1 ?_))
 have mixed:Tryz.prog.follows .mixedOrders=true:=by kernel_rfl
 have hw1:IntKind.i64.wrap ((i:Int)+1)=(i:Int)+1:=by rw [IntKind.wrap_i64];omega
 have hb1:(0:Int)≤(i:Int)+1:=by omega
 have htn:((i:Int)+1).toNat=i+1:=by omega
 have hb3:(i:Int)+1≤(n:Int)+1:=by omega
 have hb4:(i:Int)≤(n:Int):=by omega
 have hb5:(0:Int)≤(i:Int):=by omega
 go_region_law_o (refine step_copy_run rfl _ _ 88 88 rfl (.slice (some ⟨w.heap.size,(i+1)*2,none⟩) (n+1 - (i+1)) (G - (i+1))) (.slice (some ⟨g,i*2,none⟩) (n - i) (c - i)) (by simp [Act.eval,Act.put]) (by simp [Act.eval,Act.put]) hr2 ?_)
 go_wp2
 go_ret;exact⟨⟨_,_,rfl,H.out.1⟩,H.out.2⟩
end
section
open Go.RowKit
theorem Blk.shape {w:World} {B:Nat} {vs:Array Value} {T:TypeId} (h:Blk w B vs T):w.shape? B=some (T,vs.size):=by
 unfold Blk at h;simp [World.shape?,h]
theorem einsert_room (es:List En) (g c i base vb:Nat) (x:En) (w:World) (h:OE w base (.slice (some ⟨g,0,none⟩) es.length c) es) (hb:Blk w vb #[.string x.name,.int .i64 x.no] 92) (hvb:vb≠g) (hn:es.length≤1000000) (hil:i<es.length) (hroom:es.length+1≤c) :
  Calls Tryz.prog 192 #[.slice (some ⟨g,0,none⟩) es.length c,.int .i64 i,.slice (some ⟨vb,0,none⟩) 1 1] w fun e w'=>(∃ a' c',e=.returned (.slice a' (es.length+1) c')∧OE w' base (.slice a' (es.length+1) c') (es.take i ++ x :: es.drop i))∧Mod (fun k=>k=g) w w':=by
 obtain⟨i0,hi,hz0,hz1,hz2⟩:=info_parts ent_info;have hsz:(Tryz.prog.info? 92).map (·.size)=some 2:=by rw [hi];simp [hz1]
 have hA:=h.at;obtain⟨n,hnn⟩:∃ n,es.length=n:=⟨_,rfl⟩;obtain⟨cur,hbg,hg,hcs,hct,hc63⟩:∃ cur,base≤g∧Blk w g cur 92∧cur.size=c*2∧cur.toList.take (n*2)=es.flatMap entC∧c≤maxLen:=by
  rcases h.2 with ⟨h1,-⟩|⟨g',cap',cur,h1,hb1,hg,h2,h3,h4,h5⟩
  ·cases h1
  ·injection h1 with e1 e2 e3;injection e1 with e1;injection e1 with e1;subst e1 e3;exact⟨cur,hb1,hg,h4,by rw [←hnn];exact h5,h3⟩
 have hov:∀ lb cb,(callFunc 235 #[.slice (some ⟨vb,0,none⟩) 1 1,.slice (some ⟨g,(i+1)*2,none⟩) lb cb]).run Tryz.prog w=.ok (.value (.bool false)) w:=fun lb cb=>by
  rw [run_callFunc_extern Tryz.func235 (by kernel_rfl) (by kernel_rfl) (by kernel_rfl) (e:=Extern.SlicesOverlaps.overlaps #[88,88] #[4]) (by kernel_rfl),
   Lib.run_overlaps_apart w 88 4 92 Tryz.underlying88 2 Tryz.sizeOf92 ⟨vb,0,none⟩ ⟨g,(i+1)*2,none⟩ 1 1 lb cb hvb 92 92 2 (c*2) hb.shape (by rw [←hcs];exact hg.shape) (by omega) (hb.frozen 0) (hb.frozen 2)]
  rfl
 have hdl:((es.drop i).flatMap entC).length=(n - i)*2:=by rw [flat_len entC_len,List.length_drop,hnn]
 have hr1:=run_copy_rowK w.drew 88 88 3 92 g ((i+1)*2) (n+1 - (i+1)) (c - (i+1)) ⟨g,i*2,none⟩ (n+1 - i) (c - i) cur 92 ((es.drop i).flatMap entC) (n - i) 2 Tryz.underlying88 hsz hg.drew (by simp only [Nat.min_def];split <;> omega) hdl
  (fun j v hj=>by
   rw [←flat_drop,List.getElem?_drop] at hj;have:=hA.news (i*2+j) v hj;rw [addr_add] at this ⊢;rw [show i*2+j=0+(i*2+j) by omega];exact this) (by rw [hdl,hcs];omega) (entC_one _)
 have b1:=setRow_blk (vs:=(cur.toList.take ((i+1)*2) ++ (es.drop i).flatMap entC ++ cur.toList.drop ((i+1)*2+((es.drop i).flatMap entC).length)).toArray) hg.drew;have M1:=setRow_mod w.drew g (cur.toList.take ((i+1)*2) ++ (es.drop i).flatMap entC ++ cur.toList.drop ((i+1)*2+((es.drop i).flatMap entC).length)).toArray;obtain⟨R1,hR1⟩:∃ R,(cur.toList.take ((i+1)*2) ++ (es.drop i).flatMap entC ++ cur.toList.drop ((i+1)*2+((es.drop i).flatMap entC).length))=R:=⟨_,rfl⟩;have hs1:R1.length=c*2:=by
  rw [←hR1,List.length_append,List.length_append,List.length_take,List.length_drop,hdl,Array.length_toList,hcs];omega
 have ht1:R1.take (i*2)=(es.take i).flatMap entC:=by
  rw [←hR1,List.append_assoc,List.take_append_of_le_length (by rw [List.length_take,Array.length_toList,hcs];omega),List.take_take,←flat_take,←hct,List.take_take];congr 1;omega
 have hm1:(R1.drop ((i+1)*2)).take ((n - i)*2)=(es.drop i).flatMap entC:=by
  have hl1:(cur.toList.take ((i+1)*2)).length=(i+1)*2:=by rw [List.length_take,Array.length_toList,hcs];omega
  rw [←hR1,List.append_assoc,List.drop_append,List.drop_eq_nil_of_le (by omega),hl1,Nat.sub_self,List.drop_zero,List.nil_append];exact take_app_len _ _ _ hdl
 rw [hR1] at hr1 b1 M1;have M1':Mod (fun k=>k=g) w (w.drew.setRow g R1.toArray):=((Mod.refl _ w).drew).trans M1;generalize hW1:w.drew.setRow g R1.toArray=W1 at hr1 b1 M1';clear hW1 M1;have hv1:=hb.mod M1' (fun e=>hvb e);have hr2:=run_copy_rowK W1 88 88 3 92 g (i*2) (n+1 - i) (c - i) ⟨vb,0,none⟩ 1 1 R1.toArray 92 (entC x) 1 2 Tryz.underlying88 hsz b1 (by simp only [Nat.min_def];split <;> omega) rfl (World.news_of_block hv1) (by rw [entC_len,List.size_toArray,hs1];omega) (by intro u hu;simp [entC] at hu;rcases hu with rfl | rfl <;> rfl);have b2:=setRow_blk (vs:=(R1.toArray.toList.take (i*2) ++ entC x ++ R1.toArray.toList.drop (i*2+(entC x).length)).toArray) b1;have M2:=setRow_mod W1 g (R1.toArray.toList.take (i*2) ++ entC x ++ R1.toArray.toList.drop (i*2+(entC x).length)).toArray;obtain⟨R2,hR2⟩:∃ R,(R1.toArray.toList.take (i*2) ++ entC x ++ R1.toArray.toList.drop (i*2+(entC x).length))=R:=⟨_,rfl⟩;have hs2:R2.toArray.size=c*2:=by
  rw [←hR2,List.size_toArray,List.length_append,List.length_append,List.length_take,List.length_drop,entC_len,Array.length_toList,List.size_toArray,hs1];omega
 have ht2:R2.take ((n+1)*2)=(es.take i ++ x :: es.drop i).flatMap entC:=by
  have hl2:((es.take i).flatMap entC).length=i*2:=by rw [flat_len entC_len,List.length_take];omega
  rw [←hR2,List.flatMap_append,List.flatMap_cons,show R1.toArray.toList=R1 from rfl,ht1,entC_len,List.take_append,List.take_of_length_le (by rw [List.length_append,hl2,entC_len];omega),
   show i*2+2=(i+1)*2 by omega,show (n+1)*2 - ((es.take i).flatMap entC ++ entC x).length=(n - i)*2 by rw [List.length_append,hl2,entC_len];omega,hm1,List.append_assoc]
 rw [hR2] at hr2 b2 M2;have MF:=M1'.trans M2;generalize hW2:W1.setRow g R2.toArray=W2 at hr2 b2 MF;clear hW2 M2;have hlen:(es.take i ++ x :: es.drop i).length=n+1:=by
  rw [List.length_append,List.length_take,List.length_cons,List.length_drop];omega
 have hfin:OE W2 base (.slice (some ⟨g,0,none⟩) (n+1) c) (es.take i ++ x :: es.drop i):=by
  have:=OE.mk (es:=es.take i ++ x :: es.drop i) hbg b2 (by rw [hlen];omega) hc63 hs2 (by rw [hlen];exact ht2);rw [hlen] at this;exact this
 have H:=Lib.hid (And.intro hfin MF);unfold maxLen at hc63;rw [hnn] at hil hroom hn ⊢;have q3:¬ (c=i):=by omega
 have q4:¬ (c=i+1):=by omega
 have q5:¬ (c<n+1):=by omega
 clear hA hv1 hb h hR1 hs1 ht1 hm1 hR2 hs2 ht2 b1 b2 hlen hfin hdl hnn hi hz0 hz1 hz2 hsz M1' MF hcs hct hg hbg;go_enter Tryz.func192,Tryz.ntmps192;go_wp2_with (simp only [hov]);have mixed:Tryz.prog.follows .mixedOrders=true:=by kernel_rfl
 have hw1:IntKind.i64.wrap ((i:Int)+1)=(i:Int)+1:=by rw [IntKind.wrap_i64];omega
 have hb1:(0:Int)≤(i:Int)+1:=by omega
 have htn:((i:Int)+1).toNat=i+1:=by omega
 have hb3:(i:Int)+1≤(n:Int)+1:=by omega
 have hb4:(i:Int)≤(n:Int)+1:=by omega
 have hb5:(0:Int)≤(i:Int):=by omega
 go_region_law_o (refine step_copy_run rfl _ _ 88 88 rfl (.slice (some ⟨g,(i+1)*2,none⟩) (n+1 - (i+1)) (c - (i+1))) (.slice (some ⟨g,i*2,none⟩) (n+1 - i) (c - i)) (by simp [Act.eval,Act.put]) (by simp [Act.eval,Act.put]) hr1 ?_)
 go_wp2_with (refine wpList_copy_run _ rfl _ _ 88 88 rfl _ _ rfl rfl hr2 ?_);go_ret;exact⟨⟨_,_,rfl,H.out.1⟩,H.out.2⟩
end
section
open Go.RowKit
theorem einsert_any (es:List En) (a:Option Addr) (c i base vb:Nat) (x:En) (w:World) (h:OE w base (.slice a es.length c) es) (hb:Blk w vb #[.string x.name,.int .i64 x.no] 92) (hvb:∀ g,a=some ⟨g,0,none⟩→vb≠g) (hbase:base≤w.heap.size) (hn:es.length≤1000000) (hil:i≤es.length) :
  Calls Tryz.prog 192 #[.slice a es.length c,.int .i64 i,.slice (some ⟨vb,0,none⟩) 1 1] w fun e w'=>(∃ a' c',e=.returned (.slice a' (es.length+1) c')∧OE w' base (.slice a' (es.length+1) c') (es.take i ++ x :: es.drop i))∧Mod (fun k=>(Value.slice a es.length c).ownBlock=some k) w w':=by
 by_cases hi:i<es.length
 ·obtain ⟨b',c',hv,-,-,hf⟩:=own_form h;injection hv with e1 e2 e3;subst e1 e3;rcases hf with ⟨-,h0,-⟩|⟨g,rfl,-,-⟩
  ·omega
  ·by_cases hr:es.length+1≤c
   ·refine (einsert_room es g c i base vb x w h hb (hvb g rfl) hn hi hr).mono ?_;rintro e w' ⟨h1,h2⟩;exact⟨h1,h2.mono (fun k hk=>by rw [hk];rfl)⟩
   ·refine (einsert_grow es g c i base vb x w h hb hbase hn hi (by omega)).mono ?_;rintro e w' ⟨h1,h2⟩;exact⟨h1,Mod.of_below h2⟩
 ·obtain rfl:i=es.length:=by omega
  rw [List.take_length,List.drop_length];exact einsert_end es a c base vb x w h hb hbase hn
theorem put_new {l:List En} (h:Rise l) (s:ByteArray) (no:Int) (hno:hasE l s=false):entPut l s no=l.take (entAt l s) ++ ⟨s,no⟩ :: l.drop (entAt l s):=by
 rw [put_at h,if_neg,Nat.add_zero];rintro ⟨hk,he⟩;unfold hasE at hno;rw [find_at h,dif_pos hk,if_pos he] at hno
 cases hno
theorem eput_new (es:List En) (a:Option Addr) (n c:Nat) (s:ByteArray) (no:Int) (w:World) (he:EntsAt w a n c es) (hr:Rise es) (hn:n≤1000000) (hno:hasE es s=false) :
  Calls Tryz.prog 139 #[.slice a n c,.string s,.int .i64 no] w fun e w'=>(∃ a' n' c',e=.returned (.slice a' n' c')∧EntsAt w' a' n' c' (entPut es s no))∧Below w.heap.size w w':=by
 have hl:=he.len;have HS:=Lib.hid (search_any es a n c s w he hr hn);rw [hno] at HS;have HP:=Lib.hid (put_new hr s no hno);have hat:=entAt_le es s;generalize entAt es s=A at HS HP hat;have HE:=Lib.hid he;clear he hno;go_enter Tryz.func139,Tryz.ntmps139;go_wp2_with fail;refine HS.out.mono ?_;rintro e w1 ⟨rfl,hb1⟩;have HE1:=Lib.hid (HE.out.keep hb1);go_wp2_with fail;refine (eclone_any es a n c w1 HE1.out hn).mono ?_;rintro e w2 ⟨⟨a2,c2,rfl,hO⟩,hb2⟩;have HO:=Lib.hid hO;have HB2:=Lib.hid (bnext hb1 hb2);clear hO;go_wp2_with fail;have hO2:=HO.out.keep ((Below.refl _ w2).alloc (Nat.le_refl _) (.cells #[.string s,.int .i64 no] 92));subst hl;have hblk:=Blk.new w2 #[.string s,.int .i64 no] 92;refine (einsert_any es a2 c2 A w1.heap.size w2.heap.size ⟨s,no⟩ _ hO2 hblk (fun g hg=>?_) (by have:=hb2.size;simp;omega) hn hat).mono ?_
 ·subst hg;rcases HO.out.2 with ⟨h1,-⟩|⟨g',cap',cur,h1,hb1,hg,-⟩
  ·cases h1
  ·injection h1 with e1;injection e1 with e1;injection e1 with e1;subst e1;have:=Blk.lt (show Blk w2 g cur 92 from hg);omega
 ·rintro e w3 ⟨⟨a3,c3,rfl,hO3⟩,hM3⟩;have HR:=Lib.hid (show EntsAt w3 a3 (es.length+1) c3 (entPut es s no) by
   have hlen:(es.take A ++ ({name:=s,no:=no}:En) :: es.drop A).length=es.length+1:=by
    rw [List.length_append,List.length_take,List.length_cons,List.length_drop];omega
   rw [HP.out];have h3:=hO3;rw [←hlen] at h3 ⊢;exact h3.at)
  have HB3:=Lib.hid (show Below w.heap.size w w3 from (balloc HB2.out _).trans (hM3.below (fun k hk=>by
   rcases HO.out.2 with ⟨h1,-⟩|⟨g',cap',cur,h1,hb3,hg,-⟩
   ·injection h1 with e1;rw [e1] at hk;cases hk
   ·injection h1 with e1;rw [e1] at hk;simp only [Value.ownBlock,Option.some.injEq] at hk;have:=hb1.size;omega) (by have:=HB2.out.size;simp;omega)))
  clear hO3 hM3;go_wp2_with fail;go_ret;exact⟨⟨_,_,_,rfl,HR.out⟩,HB3.out⟩
end
end Go.Proofs.YtbndfmkgamdgeaaGreatDoor
