import Derived.RangeFuncNested
import Derived.RangeFuncBound
import Derived.RangeFuncCalls
import Derived.RangeFuncLeaves
import Derived.Shelf.Abstract
import Derived.Shelf.RegionOpen
import Derived.OwnWalkIn
import Derived.TacticsInMore
import Derived.LoopNIn
import Derived.LoopIn
import Derived.WalkMore
import Derived.Test.YtihdbncoijhihaaGreatCL38
import Derived.Test.YtihdbncoijhihaaGreatCL29
import Derived.Test.YtihdbncoijhihaaGreatCL30
import Derived.Test.YtihdbncoijhihaaGreatCL1
import Derived.Test.YtihdbncoijhihaaGreatCL21
import Derived.Test.YtihdbncoijhihaaGreatCL6
import Derived.Test.YtihdbncoijhihaaGreatCL23
set_option linter.unusedVariables false
set_option linter.unusedSimpArgs false
set_option maxRecDepth 100000
set_option maxHeartbeats 16000000
namespace Go.Proofs.YtihdbncoijhihaaGreat
section
open Go.RowKit
def numR (cs:List Value) (x:Int):Prop:=cs=[.int .i64 x]
section
variable {w w':World} {pf:Nat} {R:Rf} {S:Fs}
theorem rtaken_any (h:RfAt w pf R S) {N:Nat} (hk:FsOk S N) {d:Bool} (hd:R.dd=.bool d) (c:Cr) (n:ByteArray) {a:Option Addr} {m cp:Nat} (ds:List Int) (hs:SliceAt w 1 numR a m cp ds) :
  Calls Tryz.prog 71 #[.pointer (some ⟨pf,0,none⟩),.agg #[.int .i64 c.u,.int .i64 c.g],.string n,.slice a m cp] w fun e w'=>e=.returned (.tuple #[.bool (S.takenF d c n ds).1,.int .i64 (S.takenF d c n ds).2])∧Below w.heap.size w w':=by
 have hX:=Blk.new w #[.int .i64 c.u,.int .i64 c.g] 67;have hbX:=balloc (Below.refl w.heap.size w) (.cells #[.int .i64 c.u,.int .i64 c.g] 67);have HL:=Lib.hid (fun w1 (hb1:Below w.heap.size w w1) k=>rlook_any (h.keep hb1) hk hd c k n);have HSl:=Lib.hid (fun w1 (hb1:Below w.heap.size w w1)=>hs.below hb1 (Nat.le_refl _));obtain⟨rfl,hle,h63,-⟩:=hs;have mixed:Tryz.prog.follows .mixedOrders=true:=by kernel_rfl
 clear h hk hd;go_enter Tryz.func71,Tryz.ntmps71;go_upto_region 1 with fail;generalize w.alloc (.cells #[.int .i64 c.u,.int .i64 c.g] 67)=W0 at hX hbX ⊢;have HX:=Lib.hid (And.intro hX hbX);clear hX hbX;go_wp2_with fail
 go_loopw [10] (fun t10 wr=>∃ j:Nat,j≤ds.length∧t10=.int .i64 j∧S.takenF d c n ds=S.takenF d c n (ds.drop j)∧Below w.heap.size w wr∧Blk wr w.heap.size #[.int .i64 c.u,.int .i64 c.g] 67) (fun t10 _=>ds.length - (intOf t10).toNat)
 case atStart=>exact ⟨0,by omega,rfl,rfl,HX.out.2,HX.out.1⟩
 case round=>
  obtain⟨j,hj,rfl,htk,hb,hc⟩:=hrel;have HB:=Lib.hid (And.intro hb hc);by_cases hlt:j<ds.length
  ·obtain ⟨-,-,-,h0 | ⟨b,off,he,hbl,hel⟩⟩:=HSl.out _ hb
   ·omega
   ·subst he;obtain⟨cs,e1,e2,e3⟩:=hel j hlt;unfold numR at e2;subst e2;have c0:=e3 0 (by simp);have HT:=Lib.hid (show S.takenF d c n ds=if (S.lookF d c ds[j] n).2=0 then (true,0) else if (S.lookF d c ds[j] n).2≠5 then (false,(S.lookF d c ds[j] n).2) else S.takenF d c n (ds.drop (j+1)) by rw [htk,List.drop_eq_getElem_cons hlt];rfl);generalize ds[j]=k at c0 HT;have c0':wr.cell? ⟨b,off+j,none⟩=some (.int .i64 k):=by simpa using c0
    have HLk:=Lib.hid (HL.out _ (hb.drew) k);generalize S.lookF d c k n=r at HLk HT;obtain⟨no,e4⟩:=r;dsimp only at HLk HT;obtain⟨xc,xf,xz⟩:=hc.facts;clear hel e1 e3 c0 htk hb hc;go_upto_region 4 with fail;refine wp_region_lex 7 mixed (by kernel_rfl) (show PanicOk _ from by repeat (first | exact pk_body | refine pk_then ?_ | refine pk_block ?_ | refine pk_scope ?_)) ?_;simp only [List.take_succ_cons,List.take_zero,List.drop_succ_cons,List.drop_zero]
    repeat still_step
    refine wpStill_nil ?_;go_wp2_with fail;refine HLk.out.mono ?_;rintro e w2 ⟨rfl,hb2⟩;have HB2:=Lib.hid (And.intro (bnext HB.out.1.drew hb2) ((HB.out.2.drew).keep hb2));clear hb2 xc xf xz c0';by_cases h4:e4=0
    ·have HE:=Lib.hid (HT.out.trans (if_pos h4));subst h4;go_wp2_with fail;go_ret2;rw [HE.out];exact⟨rfl,HB2.out.1⟩
    ·have h4b:(e4 == 0)=false:=by simpa using h4
     by_cases h5:e4=5
     ·have HE:=Lib.hid ((HT.out.trans (if_neg h4)).trans (if_neg (by simpa using h5)));subst h5;clear h4;go_wp2_with fail;go_roundw
      case measure=>simp [intOf];omega
      case rel=>exact ⟨j+1,by omega,by go_num,HE.out,HB2.out.1,HB2.out.2⟩
     ·have h5b:(e4 != 5)=true:=by simpa using h5
      have HE:=Lib.hid ((HT.out.trans (if_neg h4)).trans (if_pos h5));clear h4 h5;go_wp2_with fail;go_ret2;rw [HE.out];exact⟨rfl,HB2.out.1⟩
  ·obtain rfl:j=ds.length:=by omega
   have HE:=Lib.hid (show S.takenF d c n ds=(false,0) by rw [htk,List.drop_length];rfl);clear hb hc htk;go_wp2_with fail;go_ret2;rw [HE.out];exact⟨rfl,HB.out.1⟩
end
end
section
open Go.RowKit
def offTree (o:Obj):Bool:=match o with | .cells ..=>false | .map ..=>false | _=>true
def KeepsV (B:Nat) (W W':World):Prop:=∀ (k:Nat) (o:Obj),B≤k→W.heap[k]? = some o→offTree o=true→W'.heap[k]? = some o
theorem KeepsV.trans {B:Nat} {W X Z:World} (h:KeepsV B W X) (k:KeepsV B X Z):KeepsV B W Z:=fun i o hi h1 h2=>k i o hi (h i o hi h1 h2) h2
theorem KeepsV.of_below {B:Nat} {W X:World} (h:Below W.heap.size W X):KeepsV B W X:=fun i o _ h1 _=>(h.block i (Array.getElem?_eq_some_iff.1 h1).1).trans h1
theorem KeepsV.of_mod {B:Nat} {S:Nat→Prop} {W X:World} (h:Mod S W X) (hS:∀ k o,S k→W.heap[k]? = some o→offTree o=false):KeepsV B W X:=fun i o _ h1 h2=>
 (h.block i (Array.getElem?_eq_some_iff.1 h1).1 (fun hs=>by have:=hS i o hs h1;rw [h2] at this;cases this)).trans h1
def ownPostV {α:Type} (B:Nat) (Kp:World→World→Prop) (I:List α→World→Prop) (Ix:Code→List α→World→Prop) (xs:List α) (W:World):Exit→Act→World→Prop
 | .normal,_,W'=>KeepsV B W W'∧Kp W W'∧I xs W'
 | .ret,_,W'=>KeepsV B W W'∧Ix .ret xs W'
 | .exit id,_,W'=>KeepsV B W W'∧Ix (.exit id) xs W'
 | .goto t,_,W'=>KeepsV B W W'∧Ix (.goto t) xs W'
 | .panic _,_,_=>False
 | .outgrown,_,_=>False
def SeqV {α:Type} (T:Nat→Prop) (F:Fence) (n:Nat) (P:Program) (g:Nat) (lb:Array Value) (encs:α→Array Value) (S Sp:List α→Prop) (V:List α→α→Prop) (w:World):Prop:=
 ∀ (l:Nat) (J Jx:List α→World→Prop) (W:World),KT T w W→w.heap.size≤W.heap.size→AbT NoT W.heap.size offTree J→AbT NoT W.heap.size offTree Jx→
  (∀ pre x W1,J pre W1→V pre x→YieldAt F (n - 1) P l (encs x) W1 fun e W'=>
   (e=.returned (.bool true)∧J (pre ++ [x]) W'∧KT T W1 W')∨(e=.returned (.bool false)∧Jx (pre ++ [x]) W'))→
  J [] W→
  CallsIn F n P g (#[.func (.yield l) #[] #[]] ++ lb) W fun e W'=>(∃ v,e=.returned v)∧((∃ xs,S xs∧J xs W')∨(∃ pre,Sp pre∧Jx pre W'))
theorem wpIn_rangeV {F:Fence} {n:Nat} {P:Program} {w:World} {α:Type} {T:Nat→Prop} {g:Operand} {ps:Array Tmp} {assign body:Code} {Q:Exit→Act→World→Prop} {a:Act}
  (hro:F.round=none) (h1:1≤n) {gf:Nat} {lb:Array Value} (hg:a.eval g=.func (.func gf) #[] lb) (hFg:F.fn gf) (eg:∀ args w,(callFunc gf args).run P w=.ok (.enter gf args) w)
  {encs:α→Array Value} {S Sp:List α→Prop} {V:List α→α→Prop} {w0:World} (hseq:SeqV T F (n - 1) P gf lb encs S Sp V w0)
  (hT:∀ k,T k→k<w.heap.size) (hb0:KT T w0 w) (hps:∀ x,(encs x).size=ps.size)
  (I:List α→World→Prop) (Ix:Code→List α→World→Prop) (hI:AbT NoT w.heap.size offTree I) (hIx:∀ c,AbT NoT w.heap.size offTree (Ix c)) (h0:I [] w) (a₁:α→Act)
  (hassign:∀ (l:Nat) (x:α) (W:World) (K:Act→World→Prop),K (a₁ x) W→
   assign.wpIn (F.inRound l) (n - 1 - 1) P (Exit.then K (fun _ _ _=>False)) {tmps:=(ps.zip (encs x)).foldl (fun t (p,v)=>t.setIfInBounds p v) a.tmps,defers:=[]} W)
  (hbody:∀ (l:Nat) (pre:List α) (x:α) (W:World),w.heap.size≤l→l<W.heap.size→I pre W→V pre x→body.wpIn (F.inRound l) (n - 1 - 1) P (ownPostV w.heap.size (KT T) I Ix (pre ++ [x]) W) (a₁ x) W)
  (hdone:∀ (D:Nat) (xs:List α) (W:World),w.heap.size≤D→S xs→I xs W→W.heap[D]? = some (.deferred (some []))→Q .normal {a with defers:={target:=.collected D,args:=#[]} :: a.defers} W)
  (hstop:∀ (D:Nat) (c:Code) (pre:List α) (W:World),w.heap.size≤D→Sp pre→Ix c pre W→W.heap[D]? = some (.deferred (some []))→c.wpIn F n P Q {a with defers:={target:=.collected D,args:=#[]} :: a.defers} W) :
  (Code.rangeFunc g ps assign body).wpIn F n P Q a w:=by
 refine wpIn_rangeFunc fun fn hfn=>?_;rw [hro];obtain⟨rc,hrc⟩:∃ rc:LoopState→Option Code→Loop,rc=fun st pe=>{state:=st,pending:=pe,fn,tmps:=a.tmps,params:=ps,assign,body,defers:=w.heap.size}:=⟨_,rfl⟩;have hTl:¬ T (w.heap.size+1):=fun h=>by have:=hT _ h;omega
 have hTd:¬ T w.heap.size:=fun h=>by have:=hT _ h;omega
 generalize hW1:(w.alloc (.deferred (some []))).alloc (.loop (rc .ready none))=W1;have hs1:W1.heap.size=w.heap.size+2:=by rw [←hW1];simp
 have hL1:W1.heap[w.heap.size+1]? = some (.loop (rc .ready none)):=by
  have:=World.alloc_heap_new (w.alloc (.deferred (some []))) (.loop (rc .ready none));rw [World.size_alloc] at this;rw [←hW1];exact this
 have hD1:W1.heap[w.heap.size]? = some (.deferred (some [])):=by
  rw [←hW1];exact (Below.heap_alloc _ _ _ (by simp)).trans (World.alloc_heap_new w _)
 have hI1:I [] W1:=by rw [←hW1];exact hI _ _ _ (hI _ _ _ h0 (Turn.alloc _ _)) (Turn.alloc _ _)
 have hK1:KT T w W1:=by rw [←hW1];exact KT.of_below ((((Below.refl _ w).alloc (Nat.le_refl _) _).alloc (by simp) _)) hT
 refine ⟨w.heap.size+1,[{target:=.collected w.heap.size,args:=#[]}],W1,{target:=.fn (.func gf) lb,args:=#[.func (.yield (w.heap.size+1)) #[] #[]]},W1,gf,
  #[.func (.yield (w.heap.size+1)) #[] #[]] ++ lb,W1,?_,?_,?_,?_,fun _=>h1,?_⟩
 ·rw [←hW1,hrc];exact run_enterLoop_outer _ _ _ _ _
 ·simp only [resolve,hg];simp [go_sem]
 ·intro f' hf';simp [Target.leads] at hf';subst hf';exact hFg
 ·simp [invoke,go_sem,eg]
 have turnW:∀ {A B:World},Turn NoT W1.heap.size offTree A B→Turn NoT w.heap.size offTree A B:=fun h=>
  ⟨h.os,h.tape,h.output,h.size,fun k o hk ht hp=>h.block k o hk ht (fun hB=>hp (by omega))⟩
 have keepL:∀ {A B:World} {k:Nat} {o:Obj},Turn NoT W1.heap.size offTree A B→A.heap[k]? = some o→k<w.heap.size+2→B.heap[k]? = some o:=fun h hk hw=>h.block _ _ hk (fun h=>h) (fun hB=>by omega);refine (hseq (w.heap.size+1)
  (fun pre W=>I pre W∧W.heap[w.heap.size+1]? = some (.loop (rc .ready none))∧W.heap[w.heap.size]? = some (.deferred (some [])))
  (fun pre W=>∃ c,Ix c pre W∧W.heap[w.heap.size+1]? = some (.loop (rc .done (some c)))∧W.heap[w.heap.size]? = some (.deferred (some [])))
  W1 (hb0.trans hK1) (Nat.le_trans hb0.1 hK1.1)
  (fun s A B hs ht=>⟨hI s A B hs.1 (turnW ht),keepL ht hs.2.1 (by omega),keepL ht hs.2.2 (by omega)⟩)
  (fun s A B hs ht=>by
   obtain⟨c,hc,hl,hk⟩:=hs;exact⟨c,hIx c s A B hc (turnW ht),keepL ht hl (by omega),keepL ht hk (by omega)⟩)
  ?_ ⟨hI1,hL1,hD1⟩).mono ?_
 ·rintro pre x W ⟨hi,hl,hk⟩ hlen;have hlt:w.heap.size+1<W.heap.size:=(Array.getElem?_eq_some_iff.1 hl).1;have hy:=run_yield (P:=P) (args:=encs x) hl (by rw [hrc];exact hps x);rw [hrc] at hy;refine ⟨fn,_,assign,body,hy,roundIn_of_wpIn hfn (hassign _ x W _ ?_)⟩;clear hy;refine ⟨_,run_beginRound hl (by rw [hrc]),?_⟩;generalize hWb:W.putObj (w.heap.size+1) (.loop {rc .ready none with state:=.busy})=Wb;have hl2:Wb.heap[w.heap.size+1]? = some (.loop {rc .ready none with state:=.busy}):=by rw [←hWb];exact World.putObj_heap_same hlt
  have hk2:Wb.heap[w.heap.size]? = some (.deferred (some [])):=by rw [←hWb];exact (World.putObj_heap_other (by omega)).trans hk
  have hw2:KT T W Wb:=by rw [←hWb];exact KT.put _ _ _ hTl
  have hib:I pre Wb:=by rw [←hWb];exact hI _ _ _ hi (Turn.put (by omega) hl rfl)
  refine wpIn_mono (hbody _ pre x Wb (by omega) (by have:=hw2.1;omega) hib hlen) ?_;have fin:∀ (jump:Option Code) (W3:World),KeepsV w.heap.size Wb W3→
    (Instr.endRound (w.heap.size+1) jump).run P W3=.ok (.bool jump.isNone) (W3.putObj (w.heap.size+1) (.loop (rc (if jump.isNone then .ready else .done) jump)))∧
    W3.heap[w.heap.size+1]? = some (.loop {rc .ready none with state:=.busy})∧
    (W3.putObj (w.heap.size+1) (.loop (rc (if jump.isNone then .ready else .done) jump))).heap[w.heap.size+1]? = some (.loop (rc (if jump.isNone then .ready else .done) jump))∧
    (W3.putObj (w.heap.size+1) (.loop (rc (if jump.isNone then .ready else .done) jump))).heap[w.heap.size]? = some (.deferred (some [])):=fun jump W3 hk3=>by
   have hl3:=hk3 _ _ (by omega) hl2 rfl;have:=run_endRound (P:=P) jump hl3;rw [hrc] at this ⊢;exact⟨this,by rw [hrc] at hl3;exact hl3,World.putObj_heap_same (Array.getElem?_eq_some_iff.1 hl3).1,(World.putObj_heap_other (by omega)).trans (hk3 _ _ (Nat.le_refl _) hk2 rfl)⟩
  have leave:∀ (c:Code) (W3:World),KeepsV w.heap.size Wb W3→Ix c (pre ++ [x]) W3→∃ v W4,(Instr.endRound (w.heap.size+1) (some c)).run P W3=.ok (.bool v) W4∧v=false∧∃ c',Ix c' (pre ++ [x]) W4∧W4.heap[w.heap.size+1]? = some (.loop (rc .done (some c')))∧W4.heap[w.heap.size]? = some (.deferred (some [])):=fun c W3 hk3 hi3=>by
   obtain⟨hr,hl3,hl4,hk4⟩:=fin (some c) W3 hk3;exact⟨_,_,hr,rfl,c,hIx _ _ _ _ hi3 (Turn.put (by omega) hl3 rfl),hl4,hk4⟩
  rintro e a3 W3 hp
  cases e with
  | normal=>
   obtain⟨hk3,hkp3,hi3⟩:=hp;obtain⟨hr,hl3,hl4,hk4⟩:=fin none W3 hk3;exact⟨_,_,hr,.inl ⟨rfl,⟨hI _ _ _ hi3 (Turn.put (by omega) hl3 rfl),hl4,hk4⟩,hw2.trans (hkp3.trans (KT.put _ _ _ hTl))⟩⟩
  | ret=>obtain ⟨v,W4,hr,rfl,h⟩:=leave .ret W3 hp.1 hp.2;exact ⟨_,_,hr,.inr ⟨rfl,h⟩⟩
  | exit id=>obtain ⟨v,W4,hr,rfl,h⟩:=leave (.exit id) W3 hp.1 hp.2;exact ⟨_,_,hr,.inr ⟨rfl,h⟩⟩
  | goto t=>obtain ⟨v,W4,hr,rfl,h⟩:=leave (.goto t) W3 hp.1 hp.2;exact ⟨_,_,hr,.inr ⟨rfl,h⟩⟩
  | panic ch=>exact hp.elim
  | outgrown=>exact hp.elim
 ·rintro e W2 ⟨⟨v,rfl⟩,(⟨xs,hS,hi,hl,hk⟩|⟨pre,hSp,c,hi,hl,hk⟩)⟩
  ·exact ⟨none,_,by have:=run_endLoop (P:=P) hl (by rw [hrc];simp);rw [hrc] at this;exact this,hdone _ xs _ (Nat.le_refl _) hS (hI _ _ _ hi (Turn.put (by omega) hl rfl)) ((World.putObj_heap_other (by omega)).trans hk)⟩
  ·exact ⟨some c,_,by have:=run_endLoop (P:=P) hl (by rw [hrc];simp);rw [hrc] at this;exact this,hstop _ c pre _ (Nat.le_refl _) hSp (hIx c _ _ _ hi (Turn.put (by omega) hl rfl)) ((World.putObj_heap_other (by omega)).trans hk)⟩
end
section
open Go.RowKit Go.Shelf
attribute [local go_sem] Oper.semAt_some
theorem Blk.kept {w w':World} {B:Nat} {vs:Array Value} {T:TypeId} {row:Option Nat} (h:Blk w B vs T) (hg:w.grownBy w' row) (hr:∀ r,row=some r→∃ o:Obj,w.heap[r]? = some o∧o.isCells=false):Blk w' B vs T:=by
 refine (hg.block B h.lt ?_).trans h;intro e;obtain⟨o,ho,hc⟩:=hr B e.symm;unfold Blk at h;rw [h] at ho
 cases ho
 cases hc
end
section
open Go.RowKit Go.Shelf
attribute [local go_sem] Oper.semAt_some
theorem names_any (base:ByteArray) (w:World) :
  Calls Tryz.prog 60 #[.string base] w fun e w'=>e=.returned (.func (.func 120) #[] #[.pointer (some ⟨w.heap.size,0,none⟩)])∧w.alloc (.cells #[.string base] 9)=w':=by
 have hmf:∀ (fn:Fn) (first cap:Array Value) (w:World),(Instr.makeFunc fn first cap).run Tryz.prog w=.ok (.func fn first cap) w:=fun _ _ _ _=>rfl;go_enter Tryz.func60,Tryz.ntmps60
 go_wp2
 go_ret;exact⟨rfl,rfl⟩
def strR (cs:List Value) (s:ByteArray):Prop:=cs=[.string s]∧s.size≤9223372036854775807
def FreePost (base:ByteArray) (xs:List ByteArray) (e:Ending):Prop:=
 (∃ m,m<1000∧nthS base ((m:Nat)+1)∉xs∧(∀ j<m,nthS base ((j:Nat)+1)∈xs)∧e=.returned (.tuple #[.string (nthS base (m+1)),.bool true]))∨
 ((∀ j<1000,nthS base ((j:Nat)+1)∈xs)∧e=.returned (.tuple #[.string ByteArray.empty,.bool false]))
theorem Blk.put {w:World} {B:Nat} {vs:Array Value} {T:TypeId} (h:Blk w B vs T) {D:Nat} {o:Obj} (ho:w.heap[D]? = some o) (hc:o.isCells=false) (o':Obj):Blk (w.putObj D o') B vs T:=
 h.kept (grownBy_putObj' w D o') (fun r e=>by cases e;exact ⟨o,ho,hc⟩)
end
section
open Go.RowKit
def tkKind (o:Obj):Bool:=match o with
 | .cells _ t _=>t == 58 || t == 136 || t == 214 || t == 146 || t == 33 || t == 54
 | .map _ _=>true
 | _=>false
def TK (w:World) (k:Nat):Prop:=∃ o,w.heap[k]? = some o∧tkKind o=true
theorem tk_wd {w w':World} {pw:Nat} {R:Rp} {S:Fs} (h:WdAt w pw R S) (hk:KT (TK w) w w'):WdAt w' pw R S:=
 h.turn (fun k o ho hor=>hk.2 k ⟨o,ho,by
  rcases hor with h1 | ⟨cur,rfl⟩
  ·cases o <;> simp [wdKind,tkKind] at h1 ⊢
   rcases h1 with (h1 | h1) | h1 <;> simp [h1]
  ·rfl⟩) hk.1
end
section
open Go.RowKit Go.Shelf
attribute [local go_sem] Oper.semAt_some
theorem names_stopsV (n:Nat) (hn:1≤n) (Bn:Nat) (base:ByteArray) (hs:base.size≤9223372036854775807) (w:World) (hb:Blk w Bn #[.string base] 9) :
  SeqV (fun k=>k=Bn) Fence.wide n Tryz.prog 120 #[.pointer (some ⟨Bn,0,none⟩)] (fun k:Nat=>#[.string (nthS base (k+1))]) (fun xs=>xs=List.range 1000) (fun pre=>∃ m,0<m∧m≤1000∧pre=List.range m) (fun pre x=>pre=List.range x∧x<1000) w:=fun l J Jx W hW hWs hJ hJx hY h0=>by
 have hb1:Blk W Bn #[.string base] 9:=(hW.2 Bn rfl).trans hb;have Hb1:=Lib.hid hb1;clear hb hb1 hW;refine callsIn_of_wp Tryz.func120 rfl trivial ?_ rfl;simp only [Tryz.ntmps120,List.size_toArray,List.length_cons,List.length_nil,Nat.reduceAdd,Nat.reduceSub,Array.replicate_succ,Array.replicate_zero,List.push_toArray,List.append_toArray,List.nil_append,List.cons_append];gi_wp2
 gi_loopw [4] (fun t4 wr=>∃ i:Nat,i≤1000∧t4=.int .i64 i∧J (List.range i) wr∧Blk wr Bn #[.string base] 9) (fun t4 _=>1000 - (intOf t4).toNat)
 case atStart=>exact ⟨0,by omega,rfl,h0,Hb1.out⟩
 case round=>
  obtain⟨i,hi,rfl,hJs,hbk⟩:=hrel;by_cases hlt:i<1000
  ·obtain ⟨hc,-,-⟩:=hbk.facts;gi_wp2;refine ⟨trivial,?_⟩;refine (callsIn_wide.2 (nth_any base ((i:Int)+1) wr hs (by omega) (by omega))).mono ?_;rintro e w1 ⟨rfl,hB1⟩;have hJ1:J (List.range i) w1:=hJ _ _ _ hJs (Turn.of_below hB1);have hbk1:=hbk.keep hB1;obtain⟨fn,tmps,assign,body,hy,hR⟩:=hY (List.range i) i w1 hJ1 ⟨rfl,hlt⟩;clear hc;gi_wp2;refine hR.mono ?_;rintro e W3 (⟨rfl,hJ3,hk3⟩|⟨rfl,hJx3⟩)
   ·gi_wp2;go_roundw
    case rel=>exact ⟨i+1,by omega,by go_num,by rw [List.range_succ];exact hJ3,(hk3.2 Bn rfl).trans hbk1⟩
    case measure=>simp [intOf];omega
   ·gi_wp2;refine bodyPost_ret (results_none rfl _ _ _) rfl ?_;exact⟨⟨_,rfl⟩,.inr ⟨List.range (i+1),⟨i+1,by omega,by omega,rfl⟩,by rw [List.range_succ];exact hJx3⟩⟩
  ·obtain rfl:i=1000:=by omega
   gi_wp2
   go_end0
   exact⟨⟨_,rfl⟩,.inl ⟨_,rfl,hJs⟩⟩
theorem cfile_any (n:ByteArray) (hn:n.size≤1000) (w:World):Calls Tryz.prog 26 #[.string n] w fun e w'=>e=.returned (.string (n ++ nSfx))∧w=w':=by
 have hz:¬ 9223372036854775807<n.size+10:=by omega
 unfold nSfx;go_enter Tryz.func26,Tryz.ntmps26;go_wp2_with fail;go_ret;exact⟨rfl,rfl⟩
section
variable {w w' A B:World} {pf pw:Nat} {R:Rp} {pv:Value} {Y Z:Sy} {N:Nat}
theorem off_tk {o:Obj} (h:tkKind o=true):offTree o=false:=by
 cases o <;> simp [tkKind] at h ⊢ <;> rfl
theorem Turn.tk (ht:Turn NoT N offTree A B):KT (TK A) A B:=⟨ht.size,fun k ⟨o,ho,hk⟩=>(ht.block k o ho (fun h=>h) (fun _=>off_tk hk)).trans ho.symm⟩
theorem Turn.blkV (ht:Turn NoT N offTree A B) {b:Nat} {vs:Array Value} {T:TypeId} (h:Blk A b vs T):Blk B b vs T:=ht.block b _ h (fun h=>h) (fun _=>rfl)
theorem SyAt.turnV (h:SyAt A pf pw R pv Y) (ht:Turn NoT N offTree A B):SyAt B pf pw R pv Y:=
 ⟨ht.blkV h.blk,tk_wd h.wd ht.tk,own_turn h.plan (fun k hk=>by
  obtain⟨-,cur,hc⟩:=own_obj1 h.plan hk;exact (ht.block k _ hc (fun h=>h) (fun _=>rfl)).trans hc.symm)⟩
theorem Mod.turnV {S:Nat→Prop} (h:Mod S w A) (ht:Turn NoT N offTree A B) (hN:w.heap.size≤N):Mod S w B:=
 ⟨ht.os.trans h.os,ht.tape.trans h.tape,ht.output.trans h.output,Nat.le_trans h.size ht.size,fun k hk hs=>by
  have hlt:k<A.heap.size:=Nat.lt_of_lt_of_le hk h.size;have hA:A.heap[k]? = some A.heap[k]:=Array.getElem?_eq_getElem hlt;rw [ht.block k _ hA (fun h=>h) (fun hB=>by omega),←hA];exact h.block k hk hs⟩
theorem Goes.turnV (h:Goes w A pf pw R pv Z) (ht:Turn NoT N offTree A B) (hN:w.heap.size≤N):Goes w B pf pw R pv Z:=by
 obtain⟨R',h1,h2⟩:=h;exact⟨R',h1.turnV ht,⟨h2.mod.turnV ht hN,h2.new⟩⟩
theorem SyAt.offY (h:SyAt A pf pw R pv Y) {k:Nat} (hk:R.Y pf pw k) {o:Obj} (ho:A.heap[k]? = some o):offTree o=false:=by
 rcases hk with rfl | hk
 ·have hb:=h.blk;unfold Blk at hb;rw [hb] at ho;injection ho with ho;subst ho;rfl
 ·obtain ⟨o',ho',hd⟩:=h.wd.kind hk;rw [ho] at ho';injection ho' with ho';subst ho'
  cases o <;> simp [wdKind] at hd <;> rfl
structure NmI (w:World) (pf pw:Nat) (R:Rp) (pv:Value) (u:Us) (x:Cn) (text:ByteArray) (bc:Nat) (Z:Sy) (W:World):Prop where
 g:Goes w W pf pw R pv Z
 f:Blk W w.heap.size #[.pointer (some ⟨pf,0,none⟩)] 33
 x:Blk W (w.heap.size+1+1) #[.string x.path,.int .i64 x.dir,.int .i64 x.info,.int .i64 x.files,.int .i64 x.out,.int .i64 x.way,.string x.top] 38
 t:Blk W (w.heap.size+1+1+1) #[.string text] 9
 c:Blk W bc #[.int .i64 u.u,.int .i64 u.g] 67
 o:Blk W (w.heap.size+1+1+1+1) #[.string ByteArray.empty] 9
 e:Blk W (w.heap.size+1+1+1+1+1) #[.int .i64 0] 39
section
variable {u:Us} {x:Cn} {text:ByteArray} {bc:Nat}
theorem NmI.keep (h:NmI w pf pw R pv u x text bc Z A) (hb:Below A.heap.size A B):NmI w pf pw R pv u x text bc Z B:=
 ⟨h.g.below hb,h.f.keep hb,h.x.keep hb,h.t.keep hb,h.c.keep hb,h.o.keep hb,h.e.keep hb⟩
theorem NmI.turn (h:NmI w pf pw R pv u x text bc Z A) (ht:Turn NoT N offTree A B) (hN:w.heap.size≤N):NmI w pf pw R pv u x text bc Z B:=
 ⟨h.g.turnV ht hN,ht.blkV h.f,ht.blkV h.x,ht.blkV h.t,ht.blkV h.c,ht.blkV h.o,ht.blkV h.e⟩
theorem NmI.step {Z':Sy} {R1 R2:Rp} (h:NmI w pf pw R pv u x text bc Z A) (h1:SyAt A pf pw R1 pv Z) (hs:Stp (R.Y pf pw) (R1.Y pf pw) w A) (h2:SyAt B pf pw R2 pv Z') (hs2:Stp (R1.Y pf pw) (R2.Y pf pw) A B):NmI w pf pw R pv u x text bc Z' B:=
 ⟨⟨R2,h2,hs.trans hs2⟩,h.f.sy h1 hs2 (by decide) (by decide),h.x.sy h1 hs2 (by decide) (by decide),h.t.sy h1 hs2 (by decide) (by decide),h.c.sy h1 hs2 (by decide) (by decide),h.o.sy h1 hs2 (by decide) (by decide),h.e.sy h1 hs2 (by decide) (by decide)⟩
end
end
end
end Go.Proofs.YtihdbncoijhihaaGreat
