import Derived.BigQuiet
import Derived.Deep.CutBlock
import Derived.Deep.DeepCutAuto
import Derived.RegionTactic
import Derived.BigRegion
import Derived.Deep.QuietTactic
import Derived.WalkSmall
import Derived.Deep.LoopGhost
import Derived.Test.YtihdbncoijhihaaGreatDoorSN10
import Derived.Test.YtihdbncoijhihaaGreatDoorSN30
import Derived.Test.YtihdbncoijhihaaGreatDoorSN4
import Derived.Test.YtihdbncoijhihaaGreatDoorSN21
import Derived.Test.YtihdbncoijhihaaGreatDoorSN29
import Derived.Test.YtihdbncoijhihaaGreatDoorSN2
import Derived.Test.YtihdbncoijhihaaGreatDoorSN7
import Derived.Test.YtihdbncoijhihaaGreatDoorSN11
import Derived.Test.YtihdbncoijhihaaGreatDoorSN25
import Derived.Test.YtihdbncoijhihaaGreatDoorSN16
import Derived.Test.YtihdbncoijhihaaGreatDoorSN14
import Derived.Test.YtihdbncoijhihaaGreatDoorSN6
import Derived.Test.YtihdbncoijhihaaGreatDoorSN20
set_option linter.unusedVariables false
set_option linter.unusedSimpArgs false
set_option maxRecDepth 100000
set_option maxHeartbeats 16000000
namespace Go.Proofs.YtihdbncoijhihaaGreatDoor
section
open Go
section
variable {P:Program} {ops:Array Oper} {md:Region.Mode} {l:Nat} {n:Nat} {Q:Exit→Act→World→Prop}
theorem rowsIn_of {row:String} {args:Array Value} {w:World} {R:Value→World→Prop} (h:Rows P row args w R):RowsIn Fence.wide n P row args w R:=
 fun c cs _=>let ⟨v,w',r,s⟩:=h c cs;⟨v,w',r,stepsIn_wide.2 s⟩
theorem operIn_of {o:Oper} (hd:∀ c,o.op≠.defer c) {a:Act} {w:World} {K K':Act→World→Prop} (hK:∀ a w,K a w→K' a w) (h:o.wp P a w K Q):o.wpIn (Fence.wide.inRound l) n P a w K' Q:=by
 unfold Oper.wp at h;unfold Oper.wpIn;refine ⟨fun _ _=>trivial,?_⟩;rw [Fence.inRound_round,Oper.semAt_some l _ o hd];generalize (execOp a.eval o).run P w=r at *
 cases r with
 | ok m w'=>
  cases m with
  | value v=>exact hK _ _ h
  | skip=>exact hK _ _ h
  | defer d=>exact hK _ _ h
  | enter f args=>
   refine ⟨fun h=>by simp [Fence.wide] at h,?_⟩;refine CallsIn.inRound l (callsIn_wide.2 (Calls.mono h fun e w'' he=>?_))
   cases e with
   | returned v=>exact hK _ _ he
   | panicked c=>exact he
   | outgrown=>exact he
  | row row args=>
   refine ⟨fun h=>by simp [Fence.wide] at h,?_⟩;exact (rowsIn_of h).mono fun v w'' hv=>hK _ _ hv
  | _=>exact h.elim
 | halt x w'=>
  cases x with
  | panic v=>exact h
  | _=>exact h.elim
theorem anyIn_of (hd:noDefer ops=true) (hno:¬ LetsOut Q):∀ (fuel:Nat) (listed:Array Bool) (a:Act) (w:World),wpAny P md ops Q fuel listed a w→wpAnyIn (Fence.wide.inRound l) n P md ops Q fuel listed a w
 | 0,_,_,_,h=>h
 | fuel+1,listed,a,w,h=>by
  refine ⟨h.1,fun i hi=>?_⟩;have h2:=h.2 i hi;unfold wpOp at h2;unfold wpOpIn
  cases ho:ops[i]? with
  | none=>rw [ho] at h2;exact anyIn_of hd hno fuel _ _ _ h2
  | some o=>
   rw [ho] at h2;simp only at h2 ⊢
   split
   ·rename_i hw;rw [if_pos hw] at h2;rcases h2 with h2 | ⟨-,h2⟩
    ·exact operIn_of (noDefer_spec hd ho) (fun a w h=>anyIn_of hd hno fuel _ a w h) h2
    ·exact absurd h2 hno
   ·rename_i hw;rw [if_neg hw] at h2;exact⟨fun _ _=>trivial,anyIn_of hd hno fuel _ _ _ h2⟩
theorem wpIn_region_held_round {S:World→Prop} {id:Nat} {a:Act} {w:World} (hm:P.follows .mixedOrders=true) (hd:noDefer ops=true) (hno:¬ LetsOut Q) (hS:S w.drew)
  (h:S w.drew→wpAnyH P .any ops Q S ops.size (Array.replicate ops.size false) a w.drew):(Code.region id ops true).wpIn (Fence.wide.inRound l) n P Q a w:=
 wpIn_region_any hm (anyIn_of hd hno _ _ _ _ (wpAny_of_held _ _ _ _ (h hS)))
section
variable {S:World→Prop} {oi:Oper} {fuel:Nat} {listed:Array Bool} {tmps:Array Value} {defers:List Deferred} {w W:World} {v:Value}
theorem reg_alone (i d:Nat) (hr:Region.ready md ops listed=[i]) (hi:ops[i]? = some oi) (hd:oi.dst=some d) (hw:Region.wanted oi (yielded ops tmps)=true)
  (he:(execOp (Act.eval {tmps,defers}) oi).run P w=.ok (.value v) W) (hS:S W) (h:wpAnyH P md ops Q S fuel (listed.setIfInBounds i true) {tmps:=tmps.setIfInBounds d v,defers} W):wpAnyH P md ops Q S (fuel+1) listed {tmps,defers} w:=by
 refine wpAnyH_ready hr (by simp) (AllReadyH.cons hi (fun K hK=>?_) AllReadyH.nil);rw [if_pos hw];unfold Oper.wp;rw [he];refine hK.out _ _ hS (fun _=>?_);rw [hd];exact h
theorem reg_two (i di j dj:Nat) {oj:Oper} {vj:Value} (hr:Region.ready md ops listed=[i,j]) (hi:ops[i]? = some oi) (hj:ops[j]? = some oj) (hdi:oi.dst=some di) (hdj:oj.dst=some dj)
  (hwi:Region.wanted oi (yielded ops tmps)=true) (hwj:Region.wanted oj (yielded ops tmps)=true) {Wi:World}
  (hei:(execOp (Act.eval {tmps,defers}) oi).run P w=.ok (.value v) Wi) (hej:(execOp (Act.eval {tmps,defers}) oj).run P w=.ok (.value vj) W) (hSi:S Wi) (hSj:S W)
  (h1:wpAnyH P md ops Q S fuel (listed.setIfInBounds i true) {tmps:=tmps.setIfInBounds di v,defers} Wi) (h2:wpAnyH P md ops Q S fuel (listed.setIfInBounds j true) {tmps:=tmps.setIfInBounds dj vj,defers} W) :
  wpAnyH P md ops Q S (fuel+1) listed {tmps,defers} w:=by
 refine wpAnyH_ready hr (by simp) (AllReadyH.cons hi (fun K hK=>?_) (AllReadyH.cons hj (fun K hK=>?_) AllReadyH.nil))
 ·rw [if_pos hwi];unfold Oper.wp;rw [hei];refine hK.out _ _ hSi (fun _=>?_);rw [hdi];exact h1
 ·rw [if_pos hwj];unfold Oper.wp;rw [hej];refine hK.out _ _ hSj (fun _=>?_);rw [hdj];exact h2
theorem reg_app (i d:Nat) {y r:Value} {s x:Operand} {t:TypeId} (hr:Region.ready md ops listed=[i]) (hi:ops[i]? = some oi) (hd:oi.dst=some d)
  (hgd:oi.guard=none) (ho:oi.op=.call {callee:=.builtin .append,args:=#[s,x],argTypes:=#[t,t]}) (hs:(Act.eval {tmps,defers}) s=v) (hx:(Act.eval {tmps,defers}) x=y)
  (hrun:(Builtin.append_ #[t,t] oi.type #[v,y]).run P w=.ok r W) (hS:S W)
  (h:wpAnyH P md ops Q S fuel (listed.setIfInBounds i true) {tmps:=tmps.setIfInBounds d r,defers} W):wpAnyH P md ops Q S (fuel+1) listed {tmps,defers} w:=by
 refine reg_alone i d hr hi hd (by simp [Region.wanted,hgd]) ?_ hS h;unfold execOp;simp only [ho,resolve,invoke,builtin,Sem.run_bind,Sem.run_pure,Result.andThen_ok,List.map_toArray,List.map_cons,List.map_nil,hs,hx,hrun]
theorem reg_store (i:Nat) (hr:Region.ready md ops listed=[i]) (hi:ops[i]? = some oi) (hd:oi.dst=none) (hw:Region.wanted oi (yielded ops tmps)=true)
  (he:(execOp (Act.eval {tmps,defers}) oi).run P w=.ok (.skip) W) (hS:S W) (h:wpAnyH P md ops Q S fuel (listed.setIfInBounds i true) {tmps,defers} W):wpAnyH P md ops Q S (fuel+1) listed {tmps,defers} w:=by
 refine wpAnyH_ready hr (by simp) (AllReadyH.cons hi (fun K hK=>?_) AllReadyH.nil);rw [if_pos hw];unfold Oper.wp;rw [he];refine hK.out _ _ hS (fun _=>?_);rw [hd];exact h
end
end
end
section
open Go.RowKit
section
variable {P:Program} {ops:Array Oper} {Q:Exit→Act→World→Prop} {md:Region.Mode} {S:World→Prop}
end
end
section
open Go
section
variable {P:Program} {ops:Array Oper} {Q:Exit→Act→World→Prop} {md:Region.Mode} {S:World→Prop}
def takesB (md:Region.Mode) (ops:Array Oper):List (Nat×Nat)→Array Bool→Bool
 | [],_=>true
 | (i,d) :: l,listed=>(match ops[i]? with | some o=>decide (o.dst=some d) | none=>false) && Region.free md ops listed i && (Region.ready md ops listed).contains i && takesB md ops l (listed.setIfInBounds i true)
def takesL:List (Nat×Nat)→Array Bool→Array Bool
 | [],x=>x
 | (i,_) :: l,x=>takesL l (x.setIfInBounds i true)
def Takes (P:Program) (ops:Array Oper) (S:World→Prop) (defers:List Deferred):List (Nat×Nat)→Array Value→(Array Value→Prop)→Prop
 | [],t,K=>K t
 | (i,d) :: l,t,K=>∃ oi v,ops[i]? = some oi∧((Region.wanted oi (yielded ops t)=true∧∀ w,S w→(execOp (Act.eval {tmps:=t,defers}) oi).run P w=.ok (.value v) w)∨(Region.wanted oi (yielded ops t)=false∧v=undef))∧Takes P ops S defers l (t.setIfInBounds d v) K
theorem takes_cons {defers:List Deferred} {i d:Nat} {l:List (Nat×Nat)} {t:Array Value} {K:Array Value→Prop} {oi:Oper} {v:Value} (h0:ops[i]? = some oi) (hw:Region.wanted oi (yielded ops t)=true)
  (hy:∀ w,S w→(execOp (Act.eval {tmps:=t,defers}) oi).run P w=.ok (.value v) w) (h:Takes P ops S defers l (t.setIfInBounds d v) K):Takes P ops S defers ((i,d) :: l) t K:=⟨oi,v,h0,.inl ⟨hw,hy⟩,h⟩
theorem takes_nil {defers:List Deferred} {t:Array Value} {K:Array Value→Prop} (h:K t):Takes P ops S defers [] t K:=h
theorem reg_takesL (hs:Region.noSelect ops=true) (hQ:∀ c a (d:Nat) v w,Q (.panic c) (Act.put a (some d) v) w→Q (.panic c) a w) {defers:List Deferred} {w:World} (hS:S w) {fuel:Nat} :
  ∀ (l:List (Nat×Nat)) (listed:Array Bool) (t:Array Value),takesB md ops l listed=true→Takes P ops S defers l t (fun t'=>wpAnyH P md ops Q S fuel (takesL l listed) {tmps:=t',defers} w)→wpAnyH P md ops Q S (fuel+l.length) listed {tmps:=t,defers} w
 | [],_,_,_,h=>h
 | (i,d) :: l,listed,t,hB,h=>by
  obtain⟨oi,v,h0,hv,h⟩:=h;simp only [takesB,h0,Bool.and_eq_true,decide_eq_true_eq] at hB;obtain⟨⟨⟨hd,hf⟩,hr⟩,hB⟩:=hB;refine wpAnyH_take h0 hs hf hr (fun c a w=>?_) hv hS ?_
  ·rw [hd];exact hQ c a d v w
  ·rw [hd];exact reg_takesL hs hQ hS l _ _ hB h
theorem reg_takes (n:Nat) (l:List (Nat×Nat)) {listed:Array Bool} {tmps:Array Value} {defers:List Deferred} {w:World} {fuel:Nat} (hB:takesB md ops l listed=true) (hs:Region.noSelect ops=true) (hn:l.length=n)
  (hQ:∀ c a (d:Nat) v w,Q (.panic c) (Act.put a (some d) v) w→Q (.panic c) a w) (hS:S w) (h:Takes P ops S defers l tmps (fun t'=>wpAnyH P md ops Q S fuel (takesL l listed) {tmps:=t',defers} w)) :
  wpAnyH P md ops Q S (fuel+n) listed {tmps,defers} w:=by
 subst hn;exact reg_takesL hs hQ hS l listed tmps hB h
end
end
section
open Go.RowKit Go.Shelf
theorem OE.app2 {w:World} {base:Nat} {v:Value} {es:List En} (h:OE w base v es) (x:En) (hl:es.length≤1000000) (hb:base≤w.heap.size) :
  ∃ g cap W,(Builtin.append_ #[107,107] 107 #[v,.slice (some ⟨w.heap.size,0,none⟩) 1 1]).run Tryz.prog (w.alloc (.cells #[.string x.name,.int .i64 x.no] 113))=.ok (.slice (some ⟨g,0,none⟩) (es.length+1) cap) W∧
   OE W base (.slice (some ⟨g,0,none⟩) (es.length+1) cap) (es ++ [x])∧Mod (fun k=>v.ownBlock=some k) w W∧Below base w W:=by
 obtain⟨g,cap,W,h1,h2,h3,-⟩:=own_app1 Tryz.underlying107 ent_info rfl (by decide) h (entC x) rfl (by intro u hu;simp [entC] at hu;rcases hu with rfl | rfl <;> rfl) hl (by decide) hb;refine ⟨g,cap,W,h1,?_,h3,h3.below (fun k hk=>(own_obj1 h hk).1) hb⟩;unfold OE;rw [List.length_append,List.length_singleton,List.flatMap_append];exact (by simpa using h2)
def Fs.seen (S:Fs) (e:En):En:=⟨e.name,S.over e.no⟩
theorem listF_seen (S:Fs) (c:Cr) (no:Int):S.listF false c no=if S.openE c no 1 4≠0 then ([],S.openE c no 1 4) else ((S.entsOf no).map S.seen,0):=by
 unfold Fs.listF;rw [if_neg (by decide)];rfl
section
variable {w w':World} {pf:Nat} {R:Rf} {S:Fs}
theorem rlist14_any (h:RfAt w pf R S) {N:Nat} (hk:FsOk S N) (hN:N≤999999) (c:Cr) (no:Int) :
  Calls Tryz.prog 174 #[.pointer (some ⟨pf,0,none⟩),.agg #[.int .i64 c.u,.int .i64 c.g],.int .i64 no] w fun e w'=>∃ v,e=.returned (.tuple #[v,.int .i64 (S.listF false c no).2])∧OE w' w.heap.size v (S.listF false c no).1∧Below w.heap.size w w':=by
 have hbc:=balloc (Below.refl w.heap.size w) (.cells #[.int .i64 c.u,.int .i64 c.g] 27);have HO:=Lib.hid (show Calls Tryz.prog 227 #[.pointer (some ⟨pf,0,none⟩),.agg #[.int .i64 c.u,.int .i64 c.g],.int .i64 no,.int .i64 1,.int .i64 4] (w.alloc (.cells #[.int .i64 c.u,.int .i64 c.g] 27)) fun e w'=>∃ (d:An) (ea:Option Addr) (el ec:Nat) (oe:Int),e=.returned (.tuple #[d.v ea el ec,.int .i64 oe])∧EntsAt w' ea el ec d.ents∧S.listF false c no=(d.ents.map S.seen,oe)∧d.ents.length≤999999∧Below w.heap.size w w' from
  (ropen_any (h.keep hbc) hk c no 1 4 (by decide)).mono (by
   rintro e w1 ⟨⟨h0,rfl⟩|⟨h0,d,ea,el,ec,hg,rfl,he⟩,hb1⟩
   ·refine ⟨an0,none,0,0,S.openE c no 1 4,rfl,EntsAt.nil _,?_,by decide,bnext hbc hb1⟩;rw [listF_seen,if_pos h0];rfl
   ·refine ⟨d,ea,el,ec,0,rfl,he.keep hb1,?_,Nat.le_trans (hk.get hg).1.few hN,bnext hbc hb1⟩;rw [listF_seen,if_neg (by simpa using h0)];unfold Fs.entsOf;rw [hg]))
 have HOv:=Lib.hid (fun w1 (hb1:Below w.heap.size w w1) k=>rover_any (h.keep hb1) k);generalize S.listF false c no=rd at HO ⊢;clear h hk;go_enter Tryz.func174,Tryz.ntmps174;go_wp2_with fail;refine HO.out.mono ?_;rintro e w1 ⟨d,ea,el,ec,oe,rfl,he,rfl,hln,hb1⟩;have hX:=Blk.new w1 #[.int .i64 d.no,.int .i64 d.dev,.int .i64 d.kind,.int .i64 d.mode,.int .i64 d.uid,.int .i64 d.gid,.int .i64 d.mtime,.int .i64 d.ctime,.int .i64 d.links,.int .i64 d.up,.string d.data,.slice ea el ec] 109;have hbX:=balloc (Below.refl w1.heap.size w1) (.cells #[.int .i64 d.no,.int .i64 d.dev,.int .i64 d.kind,.int .i64 d.mode,.int .i64 d.uid,.int .i64 d.gid,.int .i64 d.mtime,.int .i64 d.ctime,.int .i64 d.links,.int .i64 d.up,.string d.data,.slice ea el ec] 109);have hE:=he.keep hbX;have hB:=hb1.trans (hbX.mono hb1.size);have hel:=he.len;subst hel;have h63:=he.sl.2.1;have h64:=he.sl.2.2.1;unfold An.v;clear hb1 hbc he;go_upto_region 2 with fail;generalize w1.alloc (.cells #[.int .i64 d.no,.int .i64 d.dev,.int .i64 d.kind,.int .i64 d.mode,.int .i64 d.uid,.int .i64 d.gid,.int .i64 d.mtime,.int .i64 d.ctime,.int .i64 d.links,.int .i64 d.up,.string d.data,.slice ea d.ents.length ec] 109)=X at hX hbX hE hB ⊢;generalize w1.heap.size=Bd at hX;have HX:=Lib.hid hX;have HE:=Lib.hid (fun w' (hb:Below X.heap.size X w')=>hE.keep hb);have HB:=Lib.hid hB;clear hX hbX hE hB;go_wp2_with fail
 go_loopw [10,11] (fun t10 t11 wr=>∃ i:Nat,i≤d.ents.length∧t11=.int .i64 i∧OE wr X.heap.size t10 ((d.ents.take i).map S.seen)∧Below X.heap.size X wr) (fun _ t11 _=>d.ents.length - (intOf t11).toNat)
 case atStart=>exact ⟨0,Nat.zero_le _,rfl,⟨rfl,.inl ⟨rfl,rfl⟩⟩,Below.refl _ _⟩
 case round=>
  obtain⟨i,hi,rfl,ho,hb⟩:=hrel;obtain⟨xc,xf,xz⟩:=(HX.out.keep hb).facts;by_cases hlt:i<d.ents.length
  ·have hlt2:(i:Int)<(d.ents.length:Int):=by omega
   have hi0:¬ (i:Int)<0:=by omega
   obtain⟨b,off,rfl,hbl⟩:=(HE.out _ hb).some_of (by omega);have HC:=Lib.hid (fun w' (hb':Below X.heap.size X w')=>(HE.out _ hb').cell i hlt);have HT:=Lib.hid (List.take_succ_eq_append_getElem hlt);generalize d.ents[i]=x at HC HT;have hbd:=hb.drew;have HOv1:=Lib.hid (HOv.out wr.drew (HB.out.trans (hbd.mono HB.out.size)) x.no);have hll:((d.ents.take i).map S.seen).length≤1000000:=by
    rw [List.length_map,List.length_take];omega
   obtain⟨g,cap,W9,hrun,hO9,-,hb9⟩:=OE.app2 (ho.keep (Below.refl _ wr).drew) ⟨x.name,S.over x.no⟩ hll hbd.size;have HR9:=Lib.hid hrun;have HO9:=Lib.hid (And.intro hO9 (hbd.trans hb9));generalize ((d.ents.take i).map S.seen).length=n0 at HR9 HO9;have hbA:=balloc hbd (.cells #[.string x.name,.int .i64 (S.over x.no)] 113);clear hrun hO9 hb9 ho hll;go_upto_region 6 with fail;clear xc xf xz;refine wp_region_held_drew (S:=fun w'=>Below X.heap.size X w') (by kernel_rfl) hbd (fun hHeld=>?_);refine reg_takes 14 [(0,26),(1,27),(2,28),(3,29),(4,30),(5,31),(6,32),(7,33),(8,34),(9,35),(10,36),(11,37),(12,38),(13,39)] (by kernel_rfl) (by kernel_rfl) rfl (fun _ _ _ _ _ h=>h) hHeld ?_
   iterate 14 (apply takes_cons rfl rfl;(· (intro w9 hSw;obtain ⟨xc,-,-⟩:=(HX.out.keep hSw).facts;obtain ⟨ec1,ec2⟩:=HC.out _ hSw;clear hSw;go_simp;(try with_reducible rfl)));simp only [List.setIfInBounds_toArray,List.set_cons_zero,List.set_cons_succ])
   refine takes_nil ?_;refine reg_call 14 40 (R:=fun v w'=>v=.int .i64 (S.over x.no)∧w'=wr.drew) (by kernel_rfl) rfl rfl rfl ?xa (HOv1.out.mono (fun e w' ⟨he,hw⟩=>⟨_,he,rfl,hw⟩)) (fun v w' ⟨_,hw⟩=>by rw [hw];exact hHeld) ?_
   case xa=>(go_simp;(try rfl))
   rintro _ _ ⟨rfl,rfl⟩;simp only [List.setIfInBounds_toArray,List.set_cons_zero,List.set_cons_succ];refine reg_takes 1 [(15,41)] (by kernel_rfl) (by kernel_rfl) rfl (fun _ _ _ _ _ h=>h) hHeld ?_
   iterate 1 (apply takes_cons rfl rfl;(· (intro w9 hSw;clear hSw;go_simp;(try with_reducible rfl)));simp only [List.setIfInBounds_toArray,List.set_cons_zero,List.set_cons_succ])
   refine takes_nil ?_;refine reg_alone 16 42 (v:=.slice (some ⟨wr.drew.heap.size,0,none⟩) 1 1) (W:=wr.drew.alloc (.cells #[.string x.name,.int .i64 (S.over x.no)] 113)) (by kernel_rfl) rfl rfl rfl ?qa hbA ?_
   case qa=>(go_simp;(try rfl))
   simp only [List.setIfInBounds_toArray,List.set_cons_zero,List.set_cons_succ];refine reg_app 17 43 (by kernel_rfl) rfl rfl rfl rfl rfl rfl HR9.out HO9.out.2 ?_;simp only [List.setIfInBounds_toArray,List.set_cons_zero,List.set_cons_succ];refine reg_takes 1 [(18,10)] (by kernel_rfl) (by kernel_rfl) rfl (fun _ _ _ _ _ h=>h) HO9.out.2 ?_
   iterate 1 (apply takes_cons rfl rfl;(· (intro w9 hSw;clear hSw;go_simp;(try with_reducible rfl)));simp only [List.setIfInBounds_toArray,List.set_cons_zero,List.set_cons_succ])
   refine takes_nil ?_;refine wpAnyH_done (by kernel_rfl) ?_ _;clear hHeld hbd hbA;go_wp2_with fail;go_roundw
   case measure=>simp [intOf];omega
   case rel=>exact ⟨i+1,by omega,by go_num,by rw [HT.out,List.map_append];exact HO9.out.1,HO9.out.2⟩
  ·obtain rfl:i=d.ents.length:=by omega
   rw [List.take_length] at ho;have HO2:=Lib.hid (And.intro ho hb);clear ho hb;go_wp2_with fail;go_ret2;exact⟨_,rfl,⟨HO2.out.1.1,HO2.out.1.2.imp id fun ⟨g,cap,cur,h1,h2,h3⟩=>⟨g,cap,cur,h1,Nat.le_trans HB.out.size h2,h3⟩⟩,HB.out.trans (HO2.out.2.mono HB.out.size)⟩
theorem rlist21_any (h:RfAt w pf R S) {N:Nat} (hk:FsOk S N) (hN:N≤999999) {d:Bool} (hd:R.dd=.bool d) (c:Cr) (no:Int) :
  Calls Tryz.prog 115 #[.pointer (some ⟨pf,0,none⟩),.agg #[.int .i64 c.u,.int .i64 c.g],.int .i64 no] w fun e w'=>∃ v,e=.returned (.tuple #[v,.int .i64 (S.listF d c no).2])∧OE w' w.heap.size v (S.listF d c no).1∧Below w.heap.size w w':=by
 have hX:=Blk.new w #[.int .i64 c.u,.int .i64 c.g] 27;have hbX:=balloc (Below.refl w.heap.size w) (.cells #[.int .i64 c.u,.int .i64 c.g] 27);have HL:=Lib.hid (rlist14_any (h.keep hbX) hk hN c no);have hblk:=h.blk.keep hbX;rw [hd] at hblk;clear h hk hd
 cases d with
 | true=>
  go_enter Tryz.func115,Tryz.ntmps115;go_upto_region 1 with fail;generalize w.alloc (.cells #[.int .i64 c.u,.int .i64 c.g] 27)=X at hX hbX HL hblk ⊢;obtain⟨xc,xf,xz⟩:=hX.facts;obtain⟨rc,rf,rz⟩:=hblk.facts;have HB:=Lib.hid hbX;clear hX hbX hblk;go_wp2_with fail;go_ret2;exact⟨_,rfl,⟨rfl,.inl ⟨rfl,rfl⟩⟩,HB.out⟩
 | false=>
  generalize S.listF false c no=rd at HL ⊢;go_enter Tryz.func115,Tryz.ntmps115;go_upto_region 1 with fail;generalize w.alloc (.cells #[.int .i64 c.u,.int .i64 c.g] 27)=X at hX hbX HL hblk ⊢;obtain⟨xc,xf,xz⟩:=hX.facts;obtain⟨rc,rf,rz⟩:=hblk.facts;have HB:=Lib.hid hbX;clear hX hbX hblk;go_wp2_with fail;refine HL.out.mono ?_;rintro e w2 ⟨v,rfl,hO,hb⟩;have HO:=Lib.hid (And.intro hO (bnext HB.out hb));clear hO hb;go_wp2_with fail;go_ret2;exact⟨_,rfl,⟨HO.out.1.1,HO.out.1.2.imp id fun ⟨g,cap,cur,h1,h2,h3⟩=>⟨g,cap,cur,h1,Nat.le_trans HB.out.size h2,h3⟩⟩,HO.out.2⟩
end
end
section
open Go.RowKit
structure Sw (pre l:List En) (i:Nat) (Y:List En):Prop where
 len:Y.length=pre.length+l.length
 old:∀ k,k<pre.length→Y[k]? = pre[k]?
 at':∀ k,k<l.length→Y[pre.length+k]? = if k<i∨l.length≤k+i then l[l.length - 1 - k]? else l[k]?
end
section
open Go.RowKit Go.Shelf
attribute [local go_sem] Oper.semAt_some
theorem EntsAt.kt {w w':World} {T:Nat→Prop} {a:Option Addr} {n c:Nat} {es:List En} (h:EntsAt w a n c es) (ht:KT T w w') (hT:∀ b off,a=some ⟨b,off,none⟩→T b):EntsAt w' a n c es:=by
 refine ⟨⟨h.sl.1,h.sl.2.1,h.sl.2.2.1,h.sl.2.2.2.imp id ?_⟩,fun p hp=>?_⟩
 ·rintro ⟨b,off,rfl,hb,hel⟩;refine ⟨b,off,rfl,Nat.lt_of_lt_of_le hb ht.1,fun i hi=>?_⟩;obtain⟨cs,h1,h2,h3⟩:=hel i hi;refine ⟨cs,h1,h2,fun j hj=>?_⟩;rw [←h3 j hj];simp only [World.cell?,ht.2 b (hT b off rfl)]
 ·obtain ⟨b,off,cur,rfl,hblk⟩:=h.blk p hp;exact⟨b,off,cur,rfl,(ht.2 b (hT b off hp)).trans hblk⟩
theorem take_prefix (es:List En) (k:Nat) (hk:k<es.length):(es.take k ++ [es[k]]) <+: es:=by
 rw [←List.take_succ_eq_append_getElem hk];exact List.take_prefix _ _
theorem entsall_stops (n:Nat) (hn:1≤n) (Bs:Nat) {ea:Option Addr} {el ec:Nat} {es:List En} (w:World) (hs:Blk w Bs #[.slice ea el ec] 107) (he:EntsAt w ea el ec es) :
  SeqU (fun k=>k=Bs∨∃ off,ea=some ⟨k,off,none⟩) Fence.wide n Tryz.prog 271 #[.pointer (some ⟨Bs,0,none⟩)] (fun x:En=>#[.string x.name,.int .i64 x.no])
   (fun xs=>xs=es) (fun pre=>∃ m,pre=es.take m) (fun pre x=>(pre ++ [x]) <+: es) w:=fun L J Jx W hW hWs hJ hJx hY h0=>by
 have hln:=he.len;subst hln;have hc1:=he.sl.2.1;have hc2:=he.sl.2.2.1;have Hs:=Lib.hid (show Blk W Bs #[.slice ea es.length ec] 107 from (hW.2 Bs (.inl rfl)).trans hs);have HE:=Lib.hid (he.kt hW (fun b off h=>.inr ⟨off,h⟩));have HY:=Lib.hid hY;have HJ:=Lib.hid hJ;clear hs hW hWs hY he hJ hJx;obtain⟨xc,xf,xz⟩:=Hs.out.facts;refine callsIn_of_wp Tryz.func271 rfl trivial ?_ rfl;simp only [Tryz.ntmps271,List.size_toArray,List.length_cons,List.length_nil,Nat.reduceAdd,Nat.reduceSub,Array.replicate_succ,Array.replicate_zero,List.push_toArray,List.append_toArray,List.nil_append,List.cons_append];gi_wp2
 gi_loopw [7] (fun t7 wr=>∃ k:Nat,k≤es.length∧t7=.int .i64 k∧J (es.take k) wr∧Blk wr Bs #[.slice ea es.length ec] 107∧EntsAt wr ea es.length ec es∧W.heap.size≤wr.heap.size) (fun t7 _=>es.length - (intOf t7).toNat)
 case atStart=>exact ⟨0,Nat.zero_le _,rfl,h0,Hs.out,HE.out,Nat.le_refl _⟩
 case round=>
  obtain⟨k,hk,rfl,hJp,hbs,hen,hsz⟩:=hrel;clear xc xf xz h0;by_cases hkl:k<es.length
  ·obtain ⟨b,off,rfl,hbl⟩:=hen.some_of (by omega);obtain⟨c1,c2⟩:=hen.cell k hkl;have hJ1:=HJ.out _ _ _ hJp (Turn.alloc wr (.cells #[.string es[k].name,.int .i64 es[k].no] 113));have hX:=Blk.new wr #[.string es[k].name,.int .i64 es[k].no] 113;obtain⟨fn,tmps,assign,body,hy,hR⟩:=HY.out _ es[k] _ hJ1 (take_prefix es k hkl);have HT:=Lib.hid (List.take_succ_eq_append_getElem hkl);have HP:=Lib.hid (take_prefix es k hkl);have HB1:=Lib.hid (hbs.old (.cells #[.string es[k].name,.int .i64 es[k].no] 113));have HE1:=Lib.hid (hen.keep (((Below.refl _ wr).alloc (Nat.le_refl _) (.cells #[.string es[k].name,.int .i64 es[k].no] 113))));have HR:=Lib.hid hR;have hz1:W.heap.size≤(wr.alloc (.cells #[.string es[k].name,.int .i64 es[k].no] 113)).heap.size:=by rw [World.size_alloc];omega
   obtain⟨xc,xf,xz⟩:=hX.facts;clear hJp hbs hen hR hX hJ1;generalize es[k]=x at c1 c2 hy HR HT HP HB1 HE1 hz1 xc xf xz;gi_wp2;refine HR.out.mono ?_;rintro e W3 (⟨rfl,hJ3,hk3⟩|⟨rfl,hJx3⟩)
   ·have HJ3:=Lib.hid hJ3;have HB3:=Lib.hid (show Blk W3 Bs #[.slice (some ⟨b,off,none⟩) es.length ec] 107 from (hk3.2 Bs (.inl rfl)).trans HB1.out);have HE3:=Lib.hid (HE1.out.kt hk3 (fun b' off' h=>.inr ⟨off',h⟩));have HS3:=Lib.hid (Nat.le_trans hz1 hk3.1);clear hJ3 hk3 hy xc xf xz c1 c2;gi_wp2;go_roundw
    case rel=>exact ⟨k+1,by omega,by go_num,by rw [HT.out];exact HJ3.out,HB3.out,HE3.out,HS3.out⟩
    case measure=>simp [intOf];omega
   ·have HJx:=Lib.hid hJx3;clear hJx3 hy;gi_wp2;exact bodyPost_ret (results_none rfl _ _ _) rfl ⟨⟨_,rfl⟩,.inr ⟨_,prefix_take HP.out,HJx.out⟩⟩
  ·obtain rfl:k=es.length:=by omega
   rw [List.take_length] at hJp;have HJp:=Lib.hid hJp;clear hJp hbs hen;gi_wp2
   go_end0
   exact⟨⟨_,rfl⟩,.inl ⟨_,rfl,HJp.out⟩⟩
end
section
open Go.RowKit
def FirstOf (l:List (Int×Value×Nat)) (nos:List Int):Prop:=KeysOnce l∧∀ k,mapFind l k=if k∈nos then some (.int .i64 (nos.idxOf k:Nat)) else none
theorem own_box {w w':World} {base:Nat} {e:TypeId} {sz n:Nat} {v:Value} {xs:List Value} (h:w.ownsRow base e sz v n xs) {T:TypeId} (he:e≠T) {B:Nat} {vs:Array Value} (hB:Blk w B vs T) (hm:Mod (fun k=>k=B) w w'):w'.ownsRow base e sz v n xs:=
 own_mod h hm (fun k hk hb=>by
  obtain⟨-,cur,hc⟩:=own_obj1 h hb;subst hk;unfold Blk at hB;rw [hB] at hc;injection hc with hc;injection hc with e1 e2 e3;exact he e2.symm)
section
variable {B:Nat} {w w':World} {m Bt g cap:Nat} {vo:Value} {out:List Rw} {nos:List Int} {stk:List En}
end
end
section
open Go.RowKit
theorem blk_turnN {N:Nat} {A B:World} {b:Nat} {vs:Array Value} {T:TypeId} (h:Blk A b vs T) (ht:Turn NoT N notCells A B):Blk B b vs T:=ht.block b _ h (fun h=>h) (fun _=>rfl)
theorem below_turnN {N M:Nat} {w0 A B:World} (h:Below M w0 A) (ht:Turn NoT N notCells A B) (hN:M≤N) (hM:M≤w0.heap.size):Below M w0 B:=by
 refine ⟨ht.os.trans h.os,ht.tape.trans h.tape,ht.output.trans h.output,Nat.le_trans h.size ht.size,fun k hk=>?_⟩;obtain⟨o,ho⟩:∃ o,w0.heap[k]? = some o:=⟨w0.heap[k]'(by omega),Array.getElem?_eq_getElem _⟩;have h1:=(h.block k hk).trans ho;rw [ht.block k o h1 (fun h=>h) (fun h=>by omega),ho]
end
section
open Go.RowKit
def lenV:Value→Nat | .slice _ n _=>n | _=>0
section
variable {w w':World} {pf:Nat} {R:Rf} {S:Fs}
end
end
section
open Go.RowKit Go.Shelf
attribute [local go_sem] Oper.semAt_some
def Coll (B:Nat) (W:World) (ds:List Deferred):Prop:=∃ Ds:List Nat,ds=Ds.map (fun D=>({target:=.collected D,args:=#[]}:Deferred))∧Ds.Nodup∧∀ D∈Ds,B≤D∧W.heap[D]? = some (.deferred (some []))
theorem Coll.nil (B:Nat) (W:World):Coll B W []:=⟨[],rfl,List.Pairwise.nil,fun D h=>by cases h⟩
theorem coll_leave {n:Nat} {fn:Func} {tmps:Array Value} {v:Value} {R:Ending→World→Prop} (hres:∀ W,(results fn tmps).run Tryz.prog W=.ok v W) :
  ∀ (Ds:List Nat) (W:World),Ds.Nodup→(∀ D∈Ds,W.heap[D]? = some (.deferred (some [])))→(∀ W',Mod (fun k=>k∈Ds) W W'→R (.returned v) W')→
   LeavesInM Fence.wide n Tryz.prog fn tmps R (Ds.map (fun D=>({target:=.collected D,args:=#[]}:Deferred))) .returning W
 | [],W,_,_,hR=>⟨v,hres W,hR W (Mod.refl _ _)⟩
 | D :: Ds,W,hn,hD,hR=>by
  rw [List.nodup_cons] at hn;refine ⟨by simp,.inl ⟨_,_,rfl,run_takeDeferred (hD D List.mem_cons_self),?_⟩⟩;refine coll_leave hres Ds _ hn.2 (fun E hE=>?_) (fun W' hm=>hR W' ?_)
  ·have hne:E≠D:=by rintro rfl;exact hn.1 hE
   exact (World.putObj_heap_other hne).trans (hD E (List.mem_cons_of_mem _ hE))
  ·refine ⟨hm.os,hm.tape,hm.output,Nat.le_trans (by simp) hm.size,fun k hk hnk=>?_⟩;have hne:k≠D:=fun e=>hnk (by rw [e];exact List.mem_cons_self);rw [hm.block k (by simpa using hk) (fun h=>hnk (List.mem_cons_of_mem _ h))];exact World.putObj_heap_other hne
section
variable {w w':World} {pf pw:Nat} {R:Rp} {pv:Value} {Y:Sy}
theorem entsall_any (a:Option Addr) (n c:Nat) (w:World) :
  Calls Tryz.prog 232 #[.slice a n c] w fun e w'=>e=.returned (.func (.func 271) #[] #[.pointer (some ⟨w.heap.size,0,none⟩)])∧w'=w.alloc (.cells #[.slice a n c] 107):=by
 go_enter Tryz.func232,Tryz.ntmps232;go_wp2_with fail;go_ret;exact⟨rfl,rfl⟩
end
end
section
open Go.RowKit
def Sy.dirF (Y:Sy) (u:Us) (dir:Int) (n:ByteArray):Sy×Int×Int:=
 if (Y.fs.ownF Y.dead u.c dir n).2=0∧(Y.fs.ownF Y.dead u.c dir n).1=0 then Y.op (fun S now=>S.mkdir u.c now dir n 448) else (Y,Y.fs.ownF Y.dead u.c dir n)
def Sy.dirsF (Y:Sy) (u:Us) (dir:Int):List ByteArray→Sy×Int
 | []=>(Y,0)
 | n :: l=>if (Y.dirF u dir n).2.2≠0 then ((Y.dirF u dir n).1,(Y.dirF u dir n).2.2) else (Y.dirF u dir n).1.dirsF u dir l
def partNs:List ByteArray:=[nInfo,nFiles,nOut,nWay]
def Sy.readyF (Y:Sy) (u:Us) (p:Plc):Sy×Cn×Int:=
 let r:=Y.dirF u p.dir p.name
 if r.2.2≠0 then (r.1,cn0,r.2.2) else
 let q:=r.1.dirsF u r.2.1 partNs
 if q.2≠0 then (q.1,cn0,q.2) else (q.1,q.1.fs.openF q.1.dead u p)
def Sy.triesF (Y:Sy) (u:Us):List Plc→Int→Sy×Bool×Cn×Int
 | [],e=>(Y,false,cn0,e)
 | p :: l,_=>if (Y.readyF u p).2.2=0∨(Y.readyF u p).1.dead=true then ((Y.readyF u p).1,true,(Y.readyF u p).2.1,(Y.readyF u p).2.2) else (Y.readyF u p).1.triesF u l (Y.readyF u p).2.2
def Sy.homeF (Y:Sy) (u:Us) (top:Int):List Plc:=
 if (Y.fs.dataF Y.dead u).2=0∧Y.fs.root (Y.fs.getZ (Y.fs.dataF Y.dead u).1).dev=top then [⟨(Y.fs.dataF Y.dead u).1,nHome,ByteArray.empty⟩] else []
def Sy.chooseF (Y:Sy) (u:Us) (no:Int):Sy×Cn×Int:=
 let t:=Y.fs.topF no
 if t.2.2≠0 then (Y,cn0,t.2.2) else
 let h:=Y.fs.dataF Y.dead u
 let a:=Y.triesF u (Y.homeF u t.1) 0
 if a.2.1=true then (a.1,a.2.2) else
 let b:=a.1.triesF u (a.1.fs.placesF a.1.dead u t.1 t.2.1) a.2.2.2
 if b.2.1=true then (b.1,b.2.2) else
 if h.2≠0 then (b.1,cn0,b.2.2.2) else b.1.readyF u ⟨h.1,nHome,ByteArray.empty⟩
structure SyOk (Y:Sy) (N:Nat):Prop where
 fine:Fine Y.fs N
 c0:0≤Y.count
 cN:Y.count≤N
 pl:Y.plan.length≤1000
structure Keep1 (a b:An):Prop where
 kind:b.kind=a.kind
 mode:b.mode=a.mode
 uid:b.uid=a.uid
 data:b.data=a.data
 links:b.links=a.links
 ents:a.ents.length≤b.ents.length
 ctime:a.kind≠1→b.ctime=a.ctime
def Keep (S S':Fs):Prop:=∀ k a,S.get k=some a→∃ b,S'.get k=some b∧Keep1 a b
end
section
open Go.RowKit
def Goes (w w':World) (pf pw:Nat) (R:Rp) (pv:Value) (Z:Sy):Prop:=∃ R',SyAt w' pf pw R' pv Z∧Stp (R.Y pf pw) (R'.Y pf pw) w w'
section
variable {w w' w'':World} {pf pw:Nat} {R R':Rp} {pv:Value} {Y Z:Sy}
end
end
section
open Go.RowKit
def cnC (x:Cn):List Value:=[.string x.path,.int .i64 x.dir,.int .i64 x.info,.int .i64 x.files,.int .i64 x.out,.int .i64 x.way,.string x.top]
def cnQ (cs:List Value) (x:Cn):Prop:=cs=cnC x
def Cn.v (x:Cn):Value:=.agg #[.string x.path,.int .i64 x.dir,.int .i64 x.info,.int .i64 x.files,.int .i64 x.out,.int .i64 x.way,.string x.top]
def OCn (w:World) (base:Nat) (v:Value) (l:List Cn):Prop:=w.ownsRow base 93 7 v l.length (l.flatMap cnC)
inductive OpSt (S:Fs) (d:Bool) (c:Cr) (dir:Int) (top:ByteArray) (rd:Cn×Int):Value→Value→Value→Value→Value→Prop
 | s0:rd=S.openK4 d c dir top→OpSt S d c dir top rd (.int .i64 0) (.int .i64 0) (.int .i64 0) (.int .i64 0) (.int .i64 0)
 | s1 (i:Int):rd=S.openK3 d c dir top i→OpSt S d c dir top rd (.int .i64 1) (.int .i64 i) (.int .i64 0) (.int .i64 0) (.int .i64 0)
 | s2 (i f:Int):rd=S.openK2 d c dir top i f→OpSt S d c dir top rd (.int .i64 2) (.int .i64 i) (.int .i64 f) (.int .i64 0) (.int .i64 0)
 | s3 (i f o:Int):rd=S.openK1 d c dir top i f o→OpSt S d c dir top rd (.int .i64 3) (.int .i64 i) (.int .i64 f) (.int .i64 o) (.int .i64 0)
 | s4 (i f o y:Int):rd=S.openK0 dir top i f o y→OpSt S d c dir top rd (.int .i64 4) (.int .i64 i) (.int .i64 f) (.int .i64 o) (.int .i64 y)
section
variable {w w':World} {pf pw:Nat} {R:Rp} {pv:Value} {Y:Sy}
end
end
section
open Go.RowKit
section
variable {w w':World} {pf pw:Nat} {R:Rp} {pv:Value} {Y:Sy}
end
end
section
open Go.RowKit
section
variable {w w' w'':World} {pf pw:Nat} {R R':Rp} {pv:Value} {Y Z:Sy}
end
end
section
open Go.RowKit
def bA:ByteArray:=⟨#[47,97]⟩
def bAX:ByteArray:=⟨#[47,97,47,120]⟩
def bBX:ByteArray:=⟨#[47,98,47,120]⟩
def bX:ByteArray:=⟨#[120]⟩
def its22:List It:=[⟨bA,1,448,5,0,9,⟨#[]⟩⟩,⟨bAX,2,0,0,0,0,bX⟩,⟨bBX,2,0,0,0,0,⟨#[]⟩⟩]
theorem wlen_any {w:World} {pw:Nat} {R:Rp} {S:Fs} (h:WdAt w pw R S) :
  Calls Tryz.prog 229 #[.pointer (some ⟨R.pt,0,none⟩)] w fun e w'=>e=.returned (.int .i64 S.ns.length)∧w=w':=by
 have hl:(R.G.map Gn.e).length=S.ns.length:=by rw [h.ns,List.length_map,List.length_map]
 rw [←hl];exact len_table w R.pt R.pm S.last _ R.clk h.tab
def C22:Array Value:=#[.string (ByteArray.mk #[47,97]),.int .i64 1,.int .i64 448,.int .i64 5,.int .i64 0,.int .i64 9,.string (ByteArray.mk #[]),.string (ByteArray.mk #[47,97,47,120]),.int .i64 2,.int .i64 0,.int .i64 0,.int .i64 0,.int .i64 0,.string (ByteArray.mk #[120]),.string (ByteArray.mk #[47,98,47,120]),.int .i64 2,.int .i64 0,.int .i64 0,.int .i64 0,.int .i64 0,.string (ByteArray.mk #[])]
end
section
open Go.RowKit
def few22 (ms:List Mt) (is:List It) (n:Int):Bool:=decide (ms.length≤10∧(is.length:Int)≤n∧(∀ m∈ms,m.path.size≤300)∧∀ x∈is,x.path.size≤300∧x.data.size≤1500)
theorem few22_of {ms:List Mt} {is:List It} {n:Int} (h:few22 ms is n=true):ms.length≤10∧(is.length:Int)≤n∧(∀ m∈ms,m.path.size≤300)∧∀ x∈is,x.path.size≤300∧x.data.size≤1500:=of_decide_eq_true h
theorem few22_any (w:World) {ma:Option Addr} {mn mc:Nat} {ia:Option Addr} {il ic:Nat} {ms:List Mt} {is:List It} (h:SdAt w ma mn mc ia il ic ms is) (n:Int) :
  Calls Tryz.prog 70 #[.agg #[.slice ma mn mc,.slice ia il ic],.int .i64 n] w fun e w'=>e=.returned (.bool (few22 ms is n))∧Below w.heap.size w w':=by
 have hln:=h.m.1;have hli:=h.i.1;subst hln hli;have hB:=Blk.new w #[.slice ma ms.length mc,.slice ia is.length ic] 25;have hb:=balloc (Below.refl w.heap.size w) (.cells #[.slice ma ms.length mc,.slice ia is.length ic] 25);have HS:=Lib.hid (h.keep ((Below.refl _ w).alloc (Nat.le_refl _) (.cells #[.slice ma ms.length mc,.slice ia is.length ic] 25)));have HF:=Lib.hid (show few22 ms is n=decide (ms.length≤10∧(is.length:Int)≤n∧(∀ m∈ms,m.path.size≤300)∧∀ x∈is,x.path.size≤300∧x.data.size≤1500) from rfl);have hmc:=h.m.2.1;have hmx:=h.m.2.2.1;have hic:=h.i.2.1;have hix:=h.i.2.2.1;generalize few22 ms is n=fb at HF ⊢;clear h;go_enter Tryz.func70,Tryz.ntmps70;go_upto_region 1 with fail;generalize w.alloc (.cells #[.slice ma ms.length mc,.slice ia is.length ic] 25)=W at hB hb HS ⊢;have HB:=Lib.hid hb;obtain⟨bc,bf,bz⟩:=hB.facts;clear hB hb;by_cases h1:10<ms.length
 ·have h1a:(10:Int)<(ms.length:Int):=by omega
  have HE:=Lib.hid (show fb=false by rw [HF.out,decide_eq_false_iff_not];rintro ⟨h,-⟩;omega);go_wp2_with fail;go_ret;rw [HE.out];exact⟨rfl,HB.out⟩
 have h1a:¬ (10:Int)<(ms.length:Int):=by omega
 by_cases h2:n<(is.length:Int)
 ·have HE:=Lib.hid (show fb=false by rw [HF.out,decide_eq_false_iff_not];rintro ⟨-,h,-⟩;omega);go_wp2_with fail;go_ret;rw [HE.out];exact⟨rfl,HB.out⟩
 go_wp2_with fail
 go_loop [5] (fun t5=>∃ k:Nat,k≤ms.length∧t5=.int .i64 k∧∀ j (hj:j<ms.length),j<k→ms[j].path.size≤300) (fun t5=>ms.length - (intOf t5).toNat)
 case atStart=>exact ⟨0,Nat.zero_le _,rfl,fun j _ h=>absurd h (Nat.not_lt_zero _)⟩
 case round=>
  obtain⟨k,hk,rfl,hbef⟩:=hrel;have HBe:=Lib.hid hbef;clear hbef;by_cases hlt:k<ms.length
  ·obtain ⟨b,off,rfl,hbl⟩:=slice_some HS.out.m (by omega);obtain⟨c0,-,-⟩:=mt_cells HS.out.m k hlt;have HM:=Lib.hid (List.getElem_mem hlt);have HMk:=Lib.hid (show ∀ j (hj:j<ms.length),j=k→ms[j]=ms[k] from fun j hj e=>by subst e;rfl);generalize ms[k]=m at c0 HM HMk;by_cases h3:300<m.path.size
   ·have h3a:(300:Int)<(m.path.size:Int):=by omega
    have HE:=Lib.hid (show fb=false by rw [HF.out,decide_eq_false_iff_not];rintro ⟨-,-,h,-⟩;have:=h m HM.out;omega);go_wp2_with fail;go_ret;rw [HE.out];exact⟨rfl,HB.out⟩
   ·have h3a:¬ (300:Int)<(m.path.size:Int):=by omega
    go_wp2_with fail
    go_round
    case rel=>exact ⟨k+1,by omega,by go_num,fun j hj hlt2=>by
     by_cases hjk:j=k
     ·rw [HMk.out j hj hjk];omega
     ·exact HBe.out j hj (by omega)⟩
    case measure=>simp [intOf];omega
  ·obtain rfl:k=ms.length:=by omega
   go_wp2_with fail
   go_loop [6] (fun t6=>∃ k:Nat,k≤is.length∧t6=.int .i64 k∧∀ j (hj:j<is.length),j<k→is[j].path.size≤300∧is[j].data.size≤1500) (fun t6=>is.length - (intOf t6).toNat)
   case atStart=>exact ⟨0,Nat.zero_le _,rfl,fun j _ h=>absurd h (Nat.not_lt_zero _)⟩
   case round=>
    obtain⟨k,hk,rfl,hbef⟩:=hrel;have HBi:=Lib.hid hbef;clear hbef;by_cases hlt:k<is.length
    ·obtain ⟨b,off,rfl,hbl⟩:=slice_some HS.out.i (by omega);obtain⟨c0,-,-,-,-,-,c6⟩:=it_cells HS.out.i k hlt;have HM:=Lib.hid (List.getElem_mem hlt);have HMk:=Lib.hid (show ∀ j (hj:j<is.length),j=k→is[j]=is[k] from fun j hj e=>by subst e;rfl);generalize is[k]=it at c0 c6 HM HMk;by_cases h3:300<it.path.size
     ·have h3a:(300:Int)<(it.path.size:Int):=by omega
      have HE:=Lib.hid (show fb=false by rw [HF.out,decide_eq_false_iff_not];rintro ⟨-,-,-,h⟩;have:=(h it HM.out).1;omega);go_wp2_with fail;go_ret;rw [HE.out];exact⟨rfl,HB.out⟩
     ·have h3a:¬ (300:Int)<(it.path.size:Int):=by omega
      by_cases h4:1500<it.data.size
      ·have h4a:(1500:Int)<(it.data.size:Int):=by omega
       have HE:=Lib.hid (show fb=false by rw [HF.out,decide_eq_false_iff_not];rintro ⟨-,-,-,h⟩;have:=(h it HM.out).2;omega);go_wp2_with fail;go_ret;rw [HE.out];exact⟨rfl,HB.out⟩
      ·have h4a:¬ (1500:Int)<(it.data.size:Int):=by omega
       go_wp2_with fail
       go_round
       case rel=>exact ⟨k+1,by omega,by go_num,fun j hj hlt2=>by
        by_cases hjk:j=k
        ·rw [HMk.out j hj hjk];omega
        ·exact HBi.out j hj (by omega)⟩
       case measure=>simp [intOf];omega
    ·obtain rfl:k=is.length:=by omega
     have HE:=Lib.hid (show fb=true by
      rw [HF.out,decide_eq_true_eq];refine ⟨by omega,by omega,fun m hm=>?_,fun x hx=>?_⟩
      ·obtain ⟨j,hj,rfl⟩:=List.mem_iff_getElem.1 hm;exact HBe.out j hj hj
      ·obtain ⟨j,hj,rfl⟩:=List.mem_iff_getElem.1 hx;exact HBi.out j hj hj)
     go_wp2_with fail;go_ret;rw [HE.out];exact⟨rfl,HB.out⟩
end
section
open Go.RowKit
theorem fd0_size2:fd0.name.size≤100000:=by show (0:Nat)≤_;omega
theorem seekL_size2 {S:Fs} (hS:∀ k a,S.get k=some a→a.kind=3→a.data.size≤100000) (c:Cr) (f:Bool) (k:Option (Int→Bool→List (List UInt8)→Fd×Int))
  (hk:∀ g,k=some g→∀ at' must l,(∀ p∈l,p.length≤100000)→(g at' must l).1.name.size≤100000) :
  ∀ (l:List (List UInt8)) (at':Int) (must:Bool),(∀ p∈l,p.length≤100000)→(S.seekL c f k l at' must).1.name.size≤100000
 | [],at',must,_=>by rw [Fs.seekL];show (0:Nat)≤_;omega
 | p :: l,at',must,hl=>by
  have hp:(str p).size≤100000:=by rw [str_size];exact hl p (by simp)
  have hl':∀ q∈l,q.length≤100000:=fun q hq=>hl q (by simp [hq]);have ih:=seekL_size2 hS c f k hk l;rw [Fs.seekL]
  split
  ·exact fd0_size2
  ·split
   ·exact ih _ _ hl'
   ·split
    ·split
     ·exact hp
     ·exact fd0_size2
    ·rename_i n hn
     split
     ·rename_i hc3
      cases hkk:k with
      | none=>exact fd0_size2
      | some g=>
       simp only
       split
       ·exact fd0_size2
       ·refine hk g hkk _ _ _ (fun q hq=>?_);rcases List.mem_append.1 hq with hq | hq
        ·have h1:=parts_size _ q hq;have h2:n.data.data.toList.length=n.data.size:=Array.length_toList;have h3:=hS _ n hn hc3.1;omega
        ·exact hl' q hq
     ·split
      ·exact fd0_size2
      ·split
       ·exact hp
       ·exact ih _ _ hl'
theorem seekH_size2 {S:Fs} (hS:∀ k a,S.get k=some a→a.kind=3→a.data.size≤100000) (c:Cr) (f:Bool):∀ (h:Nat) (at':Int) (must:Bool) (l:List (List UInt8)),(∀ p∈l,p.length≤100000)→(S.seekH c f h at' must l).1.name.size≤100000
 | 0,at',must,l,hl=>seekL_size2 hS c f none (fun g h=>by cases h) l at' must hl
 | h+1,at',must,l,hl=>seekL_size2 hS c f (some (S.seekH c f h)) (fun g hg at' must l hl=>by injection hg with hg;subst hg;exact seekH_size2 hS c f h at' must l hl) l at' must hl
theorem path_size2 {S:Fs} {N:Nat} (hk:FsOk S N) (c:Cr) (s:ByteArray) (hs:s.size≤100000) (f:Bool):(S.path c s f).1.name.size≤100000:=by
 unfold Fs.path
 split
 ·exact fd0_size2
 ·refine seekH_size2 (fun k a h h3=>Nat.le_trans ((hk.get h).1.sy h3) (by omega)) c f 8 1 _ _ (fun p hp=>?_);have h1:=parts_size _ p hp;have h2:s.data.toList.length=s.size:=Array.length_toList;omega
end
end Go.Proofs.YtihdbncoijhihaaGreatDoor
