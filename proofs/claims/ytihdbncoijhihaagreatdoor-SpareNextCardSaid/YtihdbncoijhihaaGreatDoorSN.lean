/- The statement SpareNext, as a tied card: for every input the law answers true, and each argument reads behind the call as before. -/
import Derived.Deep.DeepHandedRow
import Derived.Lay
import Derived.Test.YtihdbncoijhihaaGreatDoorSN37
import Derived.Test.YtihdbncoijhihaaGreatDoorCards
import Derived.Test.YtihdbncoijhihaaGreatDoorTie
import Derived.Test.YtihdbncoijhihaaGreatDoorSN3
set_option linter.unusedVariables false
set_option linter.unusedSimpArgs false
set_option maxRecDepth 100000
set_option maxHeartbeats 16000000
namespace Go.Proofs.YtihdbncoijhihaaGreatDoor
section
open Go.RowKit Go.ChangeShapes Go.WideShapes Go.ChangeAt
section
variable {H:Type} {enc:TypeId×Value→H} {w:World} {base:Nat} {spare:Nat→Bool} {held:Bool}
theorem trod_user {fuel:Nat} {cs:List Value} {x:DataW H×List MemPlace} (h:DataW.trod enc Tryz.prog w base spare held fuel 70 cs=some x):∃ u g s,cs=[.int .i64 u,.int .i64 g,.string s]∧(-9223372036854775808≤u∧u≤9223372036854775807)∧s.size≤9223372036854775807:=by
 obtain⟨h1,n,h2⟩:=trod_fields5 Tryz.underlying70 h;have hc:Tryz.prog.cellsOf 70=3:=by kernel_rfl
 have c1:Tryz.prog.cellsOf 3=1:=by kernel_rfl
 have c2:Tryz.prog.cellsOf 9=1:=by kernel_rfl
 rw [hc] at h1
 match cs,h1 with
 | [a0,a1,a2],_=>
  obtain⟨y0,k0⟩:=h2 0 3 0 1 [a0] rfl c1 rfl;obtain⟨y1,k1⟩:=h2 1 3 1 1 [a1] rfl c1 rfl;obtain⟨y2,k2⟩:=h2 2 9 2 1 [a2] rfl c2 rfl;obtain⟨n0,e0,f0⟩:=trod_i64 Tryz.underlying3 k0;obtain⟨n1,e1,-⟩:=trod_i64 Tryz.underlying3 k1;obtain⟨s2,e2,h3⟩:=trod_str Tryz.underlying9 k2;simp at e0 e1 e2;subst e0 e1 e2;exact⟨n0,n1,s2,rfl,f0,h3⟩
theorem trod_case30 {fuel:Nat} {cs:List Value} {x:DataW H×List MemPlace} (h:DataW.trod enc Tryz.prog w base spare held fuel 72 cs=some x) :
  ∃ ma mn mc ia il ic ms is u g dt pt tx no now pa pn pc pl,cs=[.slice ma mn mc,.slice ia il ic,.int .i64 u,.int .i64 g,.string dt,.string pt,.string tx,.int .i64 no,.int .i64 now,.slice pa pn pc]∧SdAt w ma mn mc ia il ic ms is∧SliceAt w 2 fltR pa pn pc pl∧(-9223372036854775808≤u∧u≤9223372036854775807)∧dt.size≤9223372036854775807∧pt.size≤9223372036854775807∧tx.size≤9223372036854775807:=by
 obtain⟨h1,n,h2⟩:=trod_fields5 Tryz.underlying72 h;have hc:Tryz.prog.cellsOf 72=10:=by kernel_rfl
 have c1:Tryz.prog.cellsOf 25=2:=by kernel_rfl
 have c2:Tryz.prog.cellsOf 70=3:=by kernel_rfl
 have c3:Tryz.prog.cellsOf 3=1:=by kernel_rfl
 have c4:Tryz.prog.cellsOf 9=1:=by kernel_rfl
 have c5:Tryz.prog.cellsOf 28=1:=by kernel_rfl
 rw [hc] at h1
 match cs,h1 with
 | [a0,a1,a2,a3,a4,a5,a6,a7,a8,a9],_=>
  obtain⟨y0,k0⟩:=h2 0 25 0 2 [a0,a1] rfl c1 rfl;obtain⟨y1,k1⟩:=h2 1 70 2 3 [a2,a3,a4] rfl c2 rfl;obtain⟨y2,k2⟩:=h2 2 9 5 1 [a5] rfl c4 rfl;obtain⟨y3,k3⟩:=h2 3 9 6 1 [a6] rfl c4 rfl;obtain⟨y4,k4⟩:=h2 4 3 7 1 [a7] rfl c3 rfl;obtain⟨y5,k5⟩:=h2 5 3 8 1 [a8] rfl c3 rfl;obtain⟨y6,k6⟩:=h2 6 28 9 1 [a9] rfl c5 rfl;obtain⟨ma,mn,mc,ia,il,ic,ms,is,e0,hs⟩:=trod_seed k0;obtain⟨u,g,dt,e1,hu,hdt⟩:=trod_user k1;obtain⟨s2,e2,z2⟩:=trod_str Tryz.underlying9 k2;obtain⟨s3,e3,z3⟩:=trod_str Tryz.underlying9 k3;obtain⟨n4,e4,-⟩:=trod_i64 Tryz.underlying3 k4;obtain⟨n5,e5,-⟩:=trod_i64 Tryz.underlying3 k5;obtain⟨pa,pn,pc,pl,e6,hp⟩:=open_sl (R:=fltR) (sz:=2) Tryz.underlying28 (by kernel_rfl) (by decide) (fun fuel cs x h=>trod_flt h) k6;simp at e0 e1 e2 e3 e4 e5 e6;obtain⟨rfl,rfl⟩:=e0;obtain⟨rfl,rfl,rfl⟩:=e1;subst e2 e3 e4 e5 e6;exact⟨ma,mn,mc,ia,il,ic,ms,is,u,g,dt,s2,s3,n4,n5,pa,pn,pc,pl,rfl,hs,hp,hu,hdt,z2,z3⟩
end
end
section
open Go.ChangeShapes Go.WideShapes Go.ChangeAt
theorem and_i {a b:Bool} (h:a=true) (k:b=true):(a && b)=true:=by
 rw [h,k];rfl
theorem joined_of {P:Program} {f:FuncId} {fn:Func} {s:ChangeSpec} {c:OpenClaim}
  (h0:(c.wf (OpenSpec.ofChange s))=true)
  (h1:(laidOutB P)=true)
  (h2:(mapsRowed P)=true)
  (h3:(fn.params.all (P.readableRec ·))=true)
  (h4:(namedTie P c.named s.vars)=true)
  (h5:((c.stops == []))=true)
  (h6:((P.stops == []))=true)
  (h7:((c.knobs == []))=true)
  (h8:((P.stopKnobs == []))=true)
  (h9:((c.inPlace == P.inPlace f))=true)
  (h10:((c.unfollowed == P.unfollowed f))=true)
  (h11:((c.recurses == P.recurses f))=true)
  (h12:((c.named == P.varsNamed f))=true)
  (h13:((c.maps == (fn.params.toList ++ s.plain.varTypes P).any (P.mapsRec ·)))=true)
  (h14:((c.ifaces == (fn.params.toList ++ s.plain.varTypes P).any (P.ifacesRec ·)))=true)
  (h15:((c.mapsOut == P.mapsAmong fn.resultTypes.toList))=true)
  (h16:((c.loops == (fn.params.toList ++ s.plain.varTypes P).any (P.loopsFrom ·)))=true)
  (h17:((c.wideKeys == (fn.params.toList ++ s.plain.varTypes P ++ fn.resultTypes.toList).any (P.wideKeysFrom ·)))=true)
  (h18:(s.vars.all (P.varReadable ·))=true)
  (h19:(fn.resultTypes.all (fun t=>P.readableRec t && decide (t<P.types.size)))=true)
  (h20:((c.ifacesOut == fn.resultTypes.toList.any (P.ifacesRec ·)))=true)
  (h21:((c.loopsOut == fn.resultTypes.toList.any (P.loopsFrom ·)))=true)
  (h22:((c.plainKeys == P.plainKeys))=true)
  (h23:(c.shortTexts.isNone)=true)
  (h24:(P.stopsHeard)=true)
  (h25:(P.mayEnter)=true)
  (h26:((c.lifted == P.liftsFinal))=true)
  (h27:((P.make == some c.make))=true)
  (h28:((c.kinds == (if c.domain.isEmpty then [] else fn.params.toList.map fun t=>match P.underlying t with | some (.int k)=>some k | _=>none)))=true)
  (h29:((c.pinned == c.pinnedBy))=true)
  (h30:((c.veiled == (fn.params.toList ++ s.plain.varTypes P ++ fn.resultTypes.toList).any (P.veiledRec ·)))=true)
  (h31:(c.veiledFits P fn.params.toList (fn.params.toList ++ s.plain.varTypes P ++ fn.resultTypes.toList))=true) :
  joinedFacts P f fn s c=true:=by
 unfold joinedFacts;exact and_i (and_i (and_i (and_i (and_i (and_i (and_i (and_i (and_i (and_i (and_i (and_i (and_i (and_i (and_i (and_i (and_i (and_i (and_i (and_i (and_i (and_i (and_i (and_i (and_i (and_i (and_i (and_i (and_i (and_i (and_i h0 h1) h2) h3) h4) h5) h6) h7) h8) h9) h10) h11) h12) h13) h14) h15) h16) h17) h18) h19) h20) h21) h22) h23) h24) h25) h26) h27) h28) h29) h30) h31
end
namespace spareNext
open Go.ChangeShapes Go.WideShapes Go.ChangeAt Go.RowKit
theorem own:ownKnob Tryz.prog.godebug=none:=by kernel_rfl
theorem laidOut:laidOutB Tryz.prog=true:=by kernel_rfl
theorem contract (H:Type) (enc:TypeId×Value→H) (W:World) (base:Nat) (args:Array Value) (ds gs:List (DataW H)) (before:List MemPlace)
  (hval0:∀ (j:Nat) t v,Tryz.f6.params[j]? = some t→args[j]? = some v→Value.okWide Tryz.prog W .any base t v)
  (hW:DataW.Whole enc Tryz.prog Tryz.f6.params.toList Rows.spareNextSpec.vars false W args.toList ds gs before) (hsh:W.ShapedOpen Tryz.prog) :
  Calls Tryz.prog 6 args W fun e W'=>∃ v,e=.returned v∧Rows.spareNextSpec.post enc Tryz.prog Tryz.f6 false true false false W args v W':=by
 have hval:∀ (j:Nat) t v,Tryz.f6.params[j]? = some t→args[j]? = some v→Value.okWide Tryz.prog W .any base t v:=hval0;have hW':=hW;obtain⟨p,q,hA0,hV,rfl,hfz,hnd⟩:=hW;have hA:DataW.TrodAll enc Tryz.prog W 0 (fun _=>true) true Tryz.f6.params.toList args.toList ds p:=hA0;rw [Tryz.params6] at hA hval;have hA2:=hA;obtain⟨v0,vs0,d0,ds0,p0,q0,hargs,rfl,rfl,h0,r0⟩:=trodAll_cons hA;obtain⟨v1,vs1,d1,ds1,p1,q1,rfl,rfl,rfl,h1,r1⟩:=trodAll_cons r0;obtain⟨rfl,rfl,rfl⟩:=trodAll_nil r1;obtain rfl:args=#[v0,v1]:=by cases args;simp_all
 obtain⟨rfl,rfl⟩:=trodVars_none hV;obtain⟨cs,rfl,hsz,hok⟩:=struct_ok Tryz.underlying72 (hval 0 72 v0 rfl rfl);obtain⟨ma,mn,mc,ia,il,ic,ms,is,u,g,dt,pt,tx,no,now,pa,pn,pc,pl,e,hsd,hsp,hu,-⟩:∃ ma mn mc ia il ic ms is u g dt pt tx no now pa pn pc pl,cs=#[.slice ma mn mc,.slice ia il ic,.int .i64 u,.int .i64 g,.string dt,.string pt,.string tx,.int .i64 no,.int .i64 now,.slice pa pn pc]∧SdAt W ma mn mc ia il ic ms is∧SliceAt W 2 fltR pa pn pc pl∧(-9223372036854775808≤u∧u≤9223372036854775807)∧dt.size≤9223372036854775807∧pt.size≤9223372036854775807∧tx.size≤9223372036854775807:=by
  obtain⟨fuel,hf⟩:=h0;obtain⟨ma,mn,mc,ia,il,ic,ms,is,u,g,dt,pt,tx,no,now,pa,pn,pc,pl,e,h⟩:=trod_case30 hf;exact⟨ma,mn,mc,ia,il,ic,ms,is,u,g,dt,pt,tx,no,now,pa,pn,pc,pl,Array.ext' e,h⟩
 subst e;obtain⟨s1,rfl,-,-,hs1⟩:=ChangeMaps.open_string Tryz.underlying9 (hval 1 9 v1 rfl rfl) h1;clear hA0 hval0;refine (spareNext_any W hsd u g dt pt tx no now hsp s1 (by unfold maxLen at hs1;exact hs1)).mono fun e W' ⟨he,bel⟩=>?_;subst he;exact⟨_,rfl,_,_,_,[],_,[],hW',trodAll_mk1 (shut_bool Tryz.underlying4 _),trodAll_below laidOut bel _ _ _ _ (by kernel_rfl) hA2,rfl,bel.frame _,fun h=>by cases h⟩
theorem laid_met (os:Os):laidMetH Tryz.prog Rows.spareNextRow.laid ((World.laidAll Tryz.prog os Rows.spareNextRow.laid).forCall (fun _ _=>0) ⟨#[],#[.agg #[.slice none 0 0,.slice none 0 0,.int .i64 0,.int .i64 0,.string ByteArray.empty,.string ByteArray.empty,.string ByteArray.empty,.int .i64 0,.int .i64 0,.slice none 0 0],.string ByteArray.empty],[]⟩).memory:=
 laidMet_laidAll _ (by kernel_rfl) (by kernel_rfl)
theorem reads (os:Os) {H:Type} (enc:TypeId×Value→H):∃ places,DataW.whole enc Tryz.prog ((World.laidAll Tryz.prog os Rows.spareNextRow.laid).forCall (fun _ _=>0) ⟨#[],#[.agg #[.slice none 0 0,.slice none 0 0,.int .i64 0,.int .i64 0,.string ByteArray.empty,.string ByteArray.empty,.string ByteArray.empty,.int .i64 0,.int .i64 0,.slice none 0 0],.string ByteArray.empty],[]⟩).memory Tryz.f6.params.toList Rows.spareNextSpec.vars false #[(.agg #[.slice none 0 0,.slice none 0 0,.int .i64 0,.int .i64 0,.string ByteArray.empty,.string ByteArray.empty,.string ByteArray.empty,.int .i64 0,.int .i64 0,.slice none 0 0]:Value),(.string ByteArray.empty:Value)].toList 8=some ([.agg [.agg [.nil,.nil],.agg [.lit (.int .i64 0),.lit (.int .i64 0),.lit (.string [])],.lit (.string []),.lit (.string []),.lit (.int .i64 0),.lit (.int .i64 0),.nil],.lit (.string [])],[],places):=
 ⟨[],by kernel_rfl⟩
theorem lifted (os:Os) (started:os.Started) (H:Type) (enc:TypeId×Value→H) (F:Stop.Interp) :
  ReturnsInHanded {} Tryz.checked os 6 .any ((OpenSpec.ofChange Rows.spareNextSpec).preRow enc Tryz.prog Tryz.f6 Rows.spareNextRow.domain false Rows.spareNextRow.laid) (((OpenSpec.ofChange Rows.spareNextSpec).at F).post enc Tryz.prog Tryz.f6 false true false false):=by
 obtain⟨places,hx⟩:=reads os enc;refine returnsInHanded_of_row (C:=Tryz.checked) (s:=OpenSpec.ofChange Rows.spareNextSpec) own started (by kernel_rfl) Tryz.func6
  (witness_row_at (enc:=enc) (C:=Tryz.checked) false (World.laidAll Tryz.prog os Rows.spareNextRow.laid) #[.agg #[.slice none 0 0,.slice none 0 0,.int .i64 0,.int .i64 0,.string ByteArray.empty,.string ByteArray.empty,.string ByteArray.empty,.int .i64 0,.int .i64 0,.slice none 0 0],.string ByteArray.empty] rfl (by kernel_rfl) (by kernel_rfl) (by kernel_rfl)
   (OpenSpec.preRow_of_cond 8 hx (by kernel_rfl) (fun k hk=>by cases hk) (by kernel_rfl) (laid_met os))) ?_
 intro W base args ds gs before hval hW _ _ _ _ hsh _;exact contract H enc W base args ds gs before hval hW hsh
theorem said:Rows.SpareNextSaid:=
 OpenClaim.holds_of_cond 6 Tryz.f6 rfl rfl rfl rfl rfl rfl rfl ⟨rfl,rfl,rfl,rfl,rfl⟩ rfl rfl rfl rfl rfl (by as_aux_lemma=>kernel_rfl) Tryz.func6
  (joined_of (by as_aux_lemma=>kernel_rfl) (by as_aux_lemma=>kernel_rfl) (by as_aux_lemma=>kernel_rfl) (by as_aux_lemma=>kernel_rfl) (by as_aux_lemma=>kernel_rfl) (by as_aux_lemma=>kernel_rfl) (by as_aux_lemma=>kernel_rfl) (by as_aux_lemma=>kernel_rfl) (by as_aux_lemma=>kernel_rfl) (by as_aux_lemma=>kernel_rfl) (by as_aux_lemma=>kernel_rfl) (by as_aux_lemma=>kernel_rfl) (by as_aux_lemma=>kernel_rfl) (by as_aux_lemma=>kernel_rfl) (by as_aux_lemma=>kernel_rfl) (by as_aux_lemma=>kernel_rfl) (by as_aux_lemma=>kernel_rfl) (by as_aux_lemma=>kernel_rfl) (by as_aux_lemma=>kernel_rfl) (by as_aux_lemma=>kernel_rfl) (by as_aux_lemma=>kernel_rfl) (by as_aux_lemma=>kernel_rfl) (by as_aux_lemma=>kernel_rfl) (by as_aux_lemma=>kernel_rfl) (by as_aux_lemma=>kernel_rfl) (by as_aux_lemma=>kernel_rfl) (by as_aux_lemma=>kernel_rfl) (by as_aux_lemma=>kernel_rfl) (by as_aux_lemma=>kernel_rfl) (by as_aux_lemma=>kernel_rfl) (by as_aux_lemma=>kernel_rfl) (by as_aux_lemma=>kernel_rfl))
  (of_decide_eq_true (by as_aux_lemma=>kernel_rfl)) (by unfold Func.isWrapper;first | (rw [if_pos (by decide +kernel)];kernel_rfl) | (rw [if_neg (by decide +kernel)];exact ⟨rfl,rfl⟩))
  (fun os started H enc _ F=>by rw [OpenClaim.pre_eq_preRow];exact lifted os started H enc F)
theorem plain (f : FuncId) (fn : Func) (hf : Tryz.pinned.checked.prog.funcNamed "ragpicker/ragpickerlaw40.SpareNext" = some f) (hfn : Tryz.pinned.checked.prog.funcs[f]? = some fn) :
  false=Tryz.pinned.checked.prog.looks []∧∀ (j:Nat) t,fn.params[j]? = some t→Tryz.pinned.checked.prog.wantsStandIn t=false:=by
 obtain rfl : f = 6 := Option.some.inj ((show Tryz.prog.funcNamed "ragpicker/ragpickerlaw40.SpareNext" = some 6 by kernel_rfl).symm.trans hf) |>.symm
 obtain rfl:fn=Tryz.f6:=(Option.some.inj (Tryz.func6.symm.trans hfn)).symm;refine ⟨by kernel_rfl,fun j t ht=>?_⟩;rw [Tryz.params6] at ht;have hm:=Array.mem_of_getElem? ht;simp only [List.mem_toArray,List.mem_cons,List.not_mem_nil,or_false] at hm;rcases hm with rfl | rfl
 ·exact (show Tryz.prog.wantsStandIn 72=false by kernel_rfl)
 ·exact (show Tryz.prog.wantsStandIn 9=false by kernel_rfl)
theorem proved:Rows.SpareNextCardSaid:=
 Claim7.holds_tied_plain_at .later [] _ _ _ _ said (fun _ h=>by cases h) (by kernel_rfl) (fun _ h=>by cases h) spareNext_row_tie rfl ⟨rfl,rfl⟩ (by kernel_rfl) rfl plain (by kernel_rfl)
#print axioms proved
end spareNext
end Go.Proofs.YtihdbncoijhihaaGreatDoor
