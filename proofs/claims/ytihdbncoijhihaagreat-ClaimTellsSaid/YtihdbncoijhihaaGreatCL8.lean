import Derived.RangeFuncNested
import Derived.RangeFuncBound
import Derived.RangeFuncCalls
import Derived.RangeFuncLeaves
import Derived.Shelf.Abstract
import Derived.Shelf.RegionOpen
import Derived.OwnWalkIn
import Derived.TacticsInMore
import Derived.LoopNIn
import Derived.LoopIn
import Derived.StillTail
import Derived.StillTactics
import Derived.WalkKit
import Derived.Deep.LoopGhost
import Derived.Test.YtihdbncoijhihaaGreatCL1
import Derived.Test.YtihdbncoijhihaaGreatCL7
import Derived.Test.YtihdbncoijhihaaGreatCL5
import Derived.Test.YtihdbncoijhihaaGreatCL4
set_option linter.unusedVariables false
set_option linter.unusedSimpArgs false
set_option maxRecDepth 100000
set_option maxHeartbeats 16000000
namespace Go.Proofs.YtihdbncoijhihaaGreat
section
open Go.RowKit
structure Turn (T:Nat→Prop) (B:Nat) (p:Obj→Bool) (W W':World):Prop where
 os:W'.os=W.os
 tape:W'.tape=W.tape
 output:W'.output=W.output
 size:W.heap.size≤W'.heap.size
 block:∀ k o,W.heap[k]? = some o→¬ T k→(B≤k→p o=false)→W'.heap[k]? = some o
def AbT {β:Type} (T:Nat→Prop) (B:Nat) (p:Obj→Bool) (J:β→World→Prop):Prop:=∀ s W W',J s W→Turn T B p W W'→J s W'
def KT (T:Nat→Prop) (W W':World):Prop:=W.heap.size≤W'.heap.size∧∀ k,T k→W'.heap[k]? = W.heap[k]?
theorem KT.refl (T:Nat→Prop) (W:World):KT T W W:=⟨Nat.le_refl _,fun _ _=>rfl⟩
theorem KT.trans {T:Nat→Prop} {A B C:World} (h:KT T A B) (k:KT T B C):KT T A C:=⟨Nat.le_trans h.1 k.1,fun i hi=>(k.2 i hi).trans (h.2 i hi)⟩
theorem KT.of_below {T:Nat→Prop} {W W':World} (h:Below W.heap.size W W') (hT:∀ k,T k→k<W.heap.size):KT T W W':=⟨h.size,fun k hk=>h.block k (hT k hk)⟩
theorem KT.of_mod {T S:Nat→Prop} {W W':World} (h:Mod S W W') (hT:∀ k,T k→k<W.heap.size) (hS:∀ k,T k→¬ S k):KT T W W':=⟨h.size,fun k hk=>h.block k (hT k hk) (hS k hk)⟩
theorem KT.put {T:Nat→Prop} (W:World) (l:Nat) (o:Obj) (h:¬ T l):KT T W (W.putObj l o):=⟨by simp,fun k hk=>World.putObj_heap_other (fun e=>h (e ▸ hk))⟩
theorem Turn.put {T:Nat→Prop} {B:Nat} {p:Obj→Bool} {W:World} {l:Nat} {o o':Obj} (hB:B≤l) (hl:W.heap[l]? = some o) (hp:p o=true):Turn T B p W (W.putObj l o'):=
 ⟨rfl,rfl,rfl,by simp,fun k o2 hk _ h2=>(World.putObj_heap_other (fun e=>by subst e;rw [hl] at hk;injection hk with hk;subst hk;rw [hp] at h2;exact absurd (h2 hB) (by decide))).trans hk⟩
theorem Turn.alloc {T:Nat→Prop} {B:Nat} {p:Obj→Bool} (W:World) (o:Obj):Turn T B p W (W.alloc o):=
 ⟨rfl,rfl,rfl,by simp,fun k o2 hk _ _=>(Below.heap_alloc W o k (Array.getElem?_eq_some_iff.1 hk).1).trans hk⟩
theorem Turn.of_below {T:Nat→Prop} {B:Nat} {p:Obj→Bool} {W W':World} (h:Below W.heap.size W W'):Turn T B p W W':=
 ⟨h.os,h.tape,h.output,h.size,fun k _ hk _ _=>(h.block k (Array.getElem?_eq_some_iff.1 hk).1).trans hk⟩
def SeqT {α:Type} (T:Nat→Prop) (F:Fence) (n:Nat) (P:Program) (g:Nat) (lb:Array Value) (encs:α→Array Value) (S Sp:List α→Prop) (V:List α→α→Prop) (w:World):Prop:=
 ∀ (l:Nat) (J Jx:List α→World→Prop) (W:World),KT T w W→w.heap.size≤W.heap.size→AbT T W.heap.size Obj.isWalk J→AbT T W.heap.size Obj.isWalk Jx→
  (∀ pre x W1,J pre W1→V pre x→YieldAt F (n - 1) P l (encs x) W1 fun e W'=>
   (e=.returned (.bool true)∧J (pre ++ [x]) W'∧KT T W1 W')∨(e=.returned (.bool false)∧Jx (pre ++ [x]) W'))→
  J [] W→
  CallsIn F n P g (#[.func (.yield l) #[] #[]] ++ lb) W fun e W'=>(∃ v,e=.returned v)∧((∃ xs,S xs∧J xs W')∨(∃ pre,Sp pre∧Jx pre W'))
def notCells (o:Obj):Bool:=!o.isCells
theorem walk_notCells {o:Obj} (h:o.isWalk=true):notCells o=true:=by unfold notCells;rw [Obj.not_cells_of_walk h];rfl
theorem wpIn_rangeT {F:Fence} {n:Nat} {P:Program} {w:World} {α:Type} {T:Nat→Prop} {g:Operand} {ps:Array Tmp} {assign body:Code} {Q:Exit→Act→World→Prop} {a:Act}
  (hro:F.round=none) (h1:1≤n) {gf:Nat} {lb:Array Value} (hg:a.eval g=.func (.func gf) #[] lb) (hFg:F.fn gf) (eg:∀ args w,(callFunc gf args).run P w=.ok (.enter gf args) w)
  {encs:α→Array Value} {S Sp:List α→Prop} {V:List α→α→Prop} {w0:World} (hseq:SeqT T F (n - 1) P gf lb encs S Sp V w0)
  (hT:∀ k,T k→k<w.heap.size) (hb0:KT T w0 w) (hps:∀ x,(encs x).size=ps.size)
  (I:List α→World→Prop) (Ix:Code→List α→World→Prop) (hI:AbT T w.heap.size notCells I) (hIx:∀ c,AbT T w.heap.size notCells (Ix c)) (h0:I [] w) (a₁:α→Act)
  (hassign:∀ (l:Nat) (x:α) (W:World) (K:Act→World→Prop),K (a₁ x) W→
   assign.wpIn (F.inRound l) (n - 1 - 1) P (Exit.then K (fun _ _ _=>False)) {tmps:=(ps.zip (encs x)).foldl (fun t (p,v)=>t.setIfInBounds p v) a.tmps,defers:=[]} W)
  (hbody:∀ (l:Nat) (pre:List α) (x:α) (W:World),w.heap.size≤l→l<W.heap.size→I pre W→V pre x→body.wpIn (F.inRound l) (n - 1 - 1) P (ownPostG w.heap.size (KT T) I Ix (pre ++ [x]) W) (a₁ x) W)
  (hdone:∀ (D:Nat) (xs:List α) (W:World),w.heap.size≤D→S xs→I xs W→W.heap[D]? = some (.deferred (some []))→Q .normal {a with defers:={target:=.collected D,args:=#[]} :: a.defers} W)
  (hstop:∀ (D:Nat) (c:Code) (pre:List α) (W:World),w.heap.size≤D→Sp pre→Ix c pre W→W.heap[D]? = some (.deferred (some []))→c.wpIn F n P Q {a with defers:={target:=.collected D,args:=#[]} :: a.defers} W) :
  (Code.rangeFunc g ps assign body).wpIn F n P Q a w:=by
 refine wpIn_rangeFunc fun fn hfn=>?_;rw [hro];obtain⟨rc,hrc⟩:∃ rc:LoopState→Option Code→Loop,rc=fun st pe=>{state:=st,pending:=pe,fn,tmps:=a.tmps,params:=ps,assign,body,defers:=w.heap.size}:=⟨_,rfl⟩;have hTl:¬ T (w.heap.size+1):=fun h=>by have:=hT _ h;omega
 have hTd:¬ T w.heap.size:=fun h=>by have:=hT _ h;omega
 generalize hW1:(w.alloc (.deferred (some []))).alloc (.loop (rc .ready none))=W1;have hs1:W1.heap.size=w.heap.size+2:=by rw [←hW1];simp
 have hL1:W1.heap[w.heap.size+1]? = some (.loop (rc .ready none)):=by
  have:=World.alloc_heap_new (w.alloc (.deferred (some []))) (.loop (rc .ready none));rw [World.size_alloc] at this;rw [←hW1];exact this
 have hD1:W1.heap[w.heap.size]? = some (.deferred (some [])):=by
  rw [←hW1];exact (Below.heap_alloc _ _ _ (by simp)).trans (World.alloc_heap_new w _)
 have hI1:I [] W1:=by rw [←hW1];exact hI _ _ _ (hI _ _ _ h0 (Turn.alloc _ _)) (Turn.alloc _ _)
 have hK1:KT T w W1:=by rw [←hW1];exact KT.of_below ((((Below.refl _ w).alloc (Nat.le_refl _) _).alloc (by simp) _)) hT
 refine ⟨w.heap.size+1,[{target:=.collected w.heap.size,args:=#[]}],W1,{target:=.fn (.func gf) lb,args:=#[.func (.yield (w.heap.size+1)) #[] #[]]},W1,gf,
  #[.func (.yield (w.heap.size+1)) #[] #[]] ++ lb,W1,?_,?_,?_,?_,fun _=>h1,?_⟩
 ·rw [←hW1,hrc];exact run_enterLoop_outer _ _ _ _ _
 ·simp only [resolve,hg];simp [go_sem]
 ·intro f' hf';simp [Target.leads] at hf';subst hf';exact hFg
 ·simp [invoke,go_sem,eg]
 have turnW:∀ {A B:World},Turn T W1.heap.size Obj.isWalk A B→Turn T w.heap.size notCells A B:=fun h=>
  ⟨h.os,h.tape,h.output,h.size,fun k o hk ht hp=>h.block k o hk ht (fun hB=>by
   cases hw:o.isWalk with
   | false=>rfl
   | true=>have:=hp (by omega);rw [walk_notCells hw] at this;cases this)⟩
 have keepL:∀ {A B:World} {k:Nat} {o:Obj},Turn T W1.heap.size Obj.isWalk A B→A.heap[k]? = some o→¬ T k→o.isWalk=false→B.heap[k]? = some o:=fun h hk ht hw=>h.block _ _ hk ht (fun _=>hw);refine (hseq (w.heap.size+1)
  (fun pre W=>I pre W∧W.heap[w.heap.size+1]? = some (.loop (rc .ready none))∧W.heap[w.heap.size]? = some (.deferred (some [])))
  (fun pre W=>∃ c,Ix c pre W∧W.heap[w.heap.size+1]? = some (.loop (rc .done (some c)))∧W.heap[w.heap.size]? = some (.deferred (some [])))
  W1 (hb0.trans hK1) (Nat.le_trans hb0.1 hK1.1)
  (fun s A B hs ht=>⟨hI s A B hs.1 (turnW ht),keepL ht hs.2.1 hTl rfl,keepL ht hs.2.2 hTd rfl⟩)
  (fun s A B hs ht=>by
   obtain⟨c,hc,hl,hk⟩:=hs;exact⟨c,hIx c s A B hc (turnW ht),keepL ht hl hTl rfl,keepL ht hk hTd rfl⟩)
  ?_ ⟨hI1,hL1,hD1⟩).mono ?_
 ·rintro pre x W ⟨hi,hl,hk⟩ hlen;have hlt:w.heap.size+1<W.heap.size:=(Array.getElem?_eq_some_iff.1 hl).1;have hy:=run_yield (P:=P) (args:=encs x) hl (by rw [hrc];exact hps x);rw [hrc] at hy;refine ⟨fn,_,assign,body,hy,roundIn_of_wpIn hfn (hassign _ x W _ ?_)⟩;clear hy;refine ⟨_,run_beginRound hl (by rw [hrc]),?_⟩;generalize hWb:W.putObj (w.heap.size+1) (.loop {rc .ready none with state:=.busy})=Wb;have hl2:Wb.heap[w.heap.size+1]? = some (.loop {rc .ready none with state:=.busy}):=by rw [←hWb];exact World.putObj_heap_same hlt
  have hk2:Wb.heap[w.heap.size]? = some (.deferred (some [])):=by rw [←hWb];exact (World.putObj_heap_other (by omega)).trans hk
  have hw2:KT T W Wb:=by rw [←hWb];exact KT.put _ _ _ hTl
  have hib:I pre Wb:=by rw [←hWb];exact hI _ _ _ hi (Turn.put (by omega) hl rfl)
  refine wpIn_mono (hbody _ pre x Wb (by omega) (by have:=hw2.1;omega) hib hlen) ?_;have fin:∀ (jump:Option Code) (W3:World),KeepsFrom w.heap.size Wb W3→
    (Instr.endRound (w.heap.size+1) jump).run P W3=.ok (.bool jump.isNone) (W3.putObj (w.heap.size+1) (.loop (rc (if jump.isNone then .ready else .done) jump)))∧
    W3.heap[w.heap.size+1]? = some (.loop {rc .ready none with state:=.busy})∧
    (W3.putObj (w.heap.size+1) (.loop (rc (if jump.isNone then .ready else .done) jump))).heap[w.heap.size+1]? = some (.loop (rc (if jump.isNone then .ready else .done) jump))∧
    (W3.putObj (w.heap.size+1) (.loop (rc (if jump.isNone then .ready else .done) jump))).heap[w.heap.size]? = some (.deferred (some [])):=fun jump W3 hk3=>by
   have hl3:=hk3.same _ _ (by omega) hl2 rfl;have:=run_endRound (P:=P) jump hl3;rw [hrc] at this ⊢;exact⟨this,by rw [hrc] at hl3;exact hl3,World.putObj_heap_same (Array.getElem?_eq_some_iff.1 hl3).1,(World.putObj_heap_other (by omega)).trans (hk3.same _ _ (Nat.le_refl _) hk2 rfl)⟩
  have leave:∀ (c:Code) (W3:World),KeepsFrom w.heap.size Wb W3→Ix c (pre ++ [x]) W3→∃ v W4,(Instr.endRound (w.heap.size+1) (some c)).run P W3=.ok (.bool v) W4∧v=false∧∃ c',Ix c' (pre ++ [x]) W4∧W4.heap[w.heap.size+1]? = some (.loop (rc .done (some c')))∧W4.heap[w.heap.size]? = some (.deferred (some [])):=fun c W3 hk3 hi3=>by
   obtain⟨hr,hl3,hl4,hk4⟩:=fin (some c) W3 hk3;exact⟨_,_,hr,rfl,c,hIx _ _ _ _ hi3 (Turn.put (by omega) hl3 rfl),hl4,hk4⟩
  rintro e a3 W3 hp
  cases e with
  | normal=>
   obtain⟨hk3,hkp3,hi3⟩:=hp;obtain⟨hr,hl3,hl4,hk4⟩:=fin none W3 hk3;exact⟨_,_,hr,.inl ⟨rfl,⟨hI _ _ _ hi3 (Turn.put (by omega) hl3 rfl),hl4,hk4⟩,hw2.trans (hkp3.trans (KT.put _ _ _ hTl))⟩⟩
  | ret=>obtain ⟨v,W4,hr,rfl,h⟩:=leave .ret W3 hp.1 hp.2;exact ⟨_,_,hr,.inr ⟨rfl,h⟩⟩
  | exit id=>obtain ⟨v,W4,hr,rfl,h⟩:=leave (.exit id) W3 hp.1 hp.2;exact ⟨_,_,hr,.inr ⟨rfl,h⟩⟩
  | goto t=>obtain ⟨v,W4,hr,rfl,h⟩:=leave (.goto t) W3 hp.1 hp.2;exact ⟨_,_,hr,.inr ⟨rfl,h⟩⟩
  | panic ch=>exact hp.elim
  | outgrown=>exact hp.elim
 ·rintro e W2 ⟨⟨v,rfl⟩,(⟨xs,hS,hi,hl,hk⟩|⟨pre,hSp,c,hi,hl,hk⟩)⟩
  ·exact ⟨none,_,by have:=run_endLoop (P:=P) hl (by rw [hrc];simp);rw [hrc] at this;exact this,hdone _ xs _ (Nat.le_refl _) hS (hI _ _ _ hi (Turn.put (by omega) hl rfl)) ((World.putObj_heap_other (by omega)).trans hk)⟩
  ·exact ⟨some c,_,by have:=run_endLoop (P:=P) hl (by rw [hrc];simp);rw [hrc] at this;exact this,hstop _ c pre _ (Nat.le_refl _) hSp (hIx c _ _ _ hi (Turn.put (by omega) hl rfl)) ((World.putObj_heap_other (by omega)).trans hk)⟩
end
section
open Go.RowKit Go.Shelf
attribute [local go_sem] Oper.semAt_some
def PSt (l:List UInt8) (pre:List (List UInt8)) (fr k:Nat):Prop:=
 fr≤l.length+1∧((k≤l.length∧fr≤k∧partsL l=pre ++ partsL (l.drop fr)∧∀ x∈(l.take k).drop fr,x≠47)∨(k=l.length+1∧partsL l=pre))
theorem pst_start (l:List UInt8):PSt l [] 0 0:=⟨by omega,.inl ⟨by omega,Nat.le_refl _,by simp,by simp⟩⟩
theorem pst_skip {l:List UInt8} {pre:List (List UInt8)} {fr k:Nat} (h:PSt l pre fr k) (hk:k<l.length) (hx:l[k]≠47):PSt l pre fr (k+1):=by
 obtain⟨h1,⟨h2,h3,h4,h5⟩|⟨h2,-⟩⟩:=h
 ·refine ⟨h1,.inl ⟨hk,by omega,h4,fun x hxm=>?_⟩⟩;rw [List.take_succ_eq_append_getElem hk,List.drop_append_of_le_length (by rw [List.length_take];omega)] at hxm;rcases List.mem_append.1 hxm with hxm | hxm
  ·exact h5 x hxm
  ·rw [List.mem_singleton] at hxm;subst hxm;exact hx
 ·omega
theorem pst_end {l:List UInt8} {pre:List (List UInt8)} {fr k:Nat} (h:PSt l pre fr k) (hk:l.length<k):partsL l=pre:=by
 obtain⟨-,⟨h2,-⟩|⟨-,h3⟩⟩:=h
 ·omega
 ·exact h3
def segP (l:List UInt8) (fr k:Nat):List UInt8:=(l.take k).drop fr
theorem pst_split {l:List UInt8} {fr k:Nat} (hk:k<l.length) (hf:fr≤k) (hx:l[k]=47):l.drop fr=segP l fr k ++ 47 :: l.drop (k+1):=by
 unfold segP
 conv=>lhs;rw [←List.take_append_drop k l]
 rw [List.drop_append_of_le_length (by rw [List.length_take];omega),List.drop_eq_getElem_cons hk,hx]
theorem pst_cut {l:List UInt8} {pre:List (List UInt8)} {fr k:Nat} (h:PSt l pre fr k) (hk:k≤l.length) (hx:∀ (h:k<l.length),l[k]=47) :
  fr≤k∧partsL l=pre ++ ((if segP l fr k=[]∨segP l fr k=[46] then [] else [segP l fr k]) ++ (if k<l.length then partsL (l.drop (k+1)) else []))∧
   ∀ pre',(partsL l=pre' ++ (if k<l.length then partsL (l.drop (k+1)) else []))→PSt l pre' (k+1) (k+1):=by
 obtain⟨h1,⟨h2,h3,h4,h5⟩|⟨h2,-⟩⟩:=h
 ·by_cases hlt:k<l.length
  ·refine ⟨h3,?_,fun pre' hp=>⟨by omega,.inl ⟨by omega,Nat.le_refl _,?_,?_⟩⟩⟩
   ·rw [h4,pst_split hlt h3 (hx hlt),parts_app (segP l fr k) _ h5,if_pos hlt]
   ·rw [if_pos hlt] at hp;exact hp
   ·rw [List.drop_eq_nil_of_le (by rw [List.length_take];omega)];simp
  ·refine ⟨h3,?_,fun pre' hp=>⟨by omega,.inr ⟨by omega,?_⟩⟩⟩
   ·obtain rfl:k=l.length:=by omega
    rw [h4,if_neg hlt,List.append_nil];have:l.drop fr=segP l fr l.length:=by unfold segP;rw [List.take_length]
    rw [this,parts_one (segP l fr l.length) h5]
   ·rw [if_neg hlt,List.append_nil] at hp;exact hp
 ·omega
theorem pst_none {l:List UInt8} {pre:List (List UInt8)} {fr k:Nat} (h:PSt l pre fr k) (hk:k≤l.length) (hx:∀ (h:k<l.length),l[k]=47) (hs:segP l fr k=[]∨segP l fr k=[46]):PSt l pre (k+1) (k+1):=by
 obtain⟨-,h2,h3⟩:=pst_cut h hk hx;refine h3 pre ?_;rw [h2,if_pos hs,List.nil_append]
theorem pst_some {l:List UInt8} {pre:List (List UInt8)} {fr k:Nat} (h:PSt l pre fr k) (hk:k≤l.length) (hx:∀ (h:k<l.length),l[k]=47) (hs:¬ (segP l fr k=[]∨segP l fr k=[46])) :
  PSt l (pre ++ [segP l fr k]) (k+1) (k+1)∧(pre ++ [segP l fr k]) <+: partsL l:=by
 obtain⟨-,h2,h3⟩:=pst_cut h hk hx;rw [if_neg hs,←List.append_assoc] at h2;exact⟨h3 _ h2,⟨_,h2.symm⟩⟩
theorem pst_le {l:List UInt8} {pre:List (List UInt8)} {fr k:Nat} (h:PSt l pre fr k) (hk:k≤l.length):fr≤k:=by
 obtain⟨h1,⟨h2,h3,h4,h5⟩|⟨h2,-⟩⟩:=h
 ·exact h3
 ·omega
theorem pst_size {l:List UInt8} {pre:List (List UInt8)} {fr k:Nat} (h:PSt l pre fr k):k≤l.length+1:=by
 obtain⟨h1,⟨h2,h3,h4,h5⟩|⟨h2,-⟩⟩:=h
 ·omega
 ·omega
theorem str_extr (l:List UInt8) (a b:Nat):(str l).extract a b=str ((l.take b).drop a):=by
 have:((str l).extract a b).data.toList=(str ((l.take b).drop a)).data.toList:=by rw [extract_list,str_list,str_list]
 rw [←str_of ((str l).extract a b),this,str_list]
theorem prefix_take {α:Type} {a b:List α} (h:a <+: b):∃ m,a=b.take m:=⟨a.length,(List.prefix_iff_eq_take.1 h)⟩
theorem scope_end {P:Program} {fn:Func} {R:Ending→World→Prop} {tmps:Array Value} {W:World} {v:Value} (h:(results fn tmps).run P W=.ok v W) (hR:R (.returned v) W):Exit.noGoto (bodyPost P fn R) .ret {tmps,defers:=[]} W:=
 bodyPost_ret h rfl hR
theorem seg_str (s:ByteArray) (a b:Nat):s.extract a b=str (segP s.data.toList a b):=by
 show s.extract a b=str ((s.data.toList.take b).drop a);rw [←str_extr,str_of]
theorem parts_stops (n:Nat) (hn:1≤n) (Bs:Nat) (s:ByteArray) (hl:s.size≤100000) (w:World) (hs:Blk w Bs #[.string s] 9) :
  SeqT (fun k=>k=Bs) Fence.wide n Tryz.prog 235 #[.pointer (some ⟨Bs,0,none⟩)] (fun x:List UInt8=>#[.string (str x)])
   (fun xs=>xs=partsL s.data.toList) (fun pre=>∃ m,pre=(partsL s.data.toList).take m) (fun pre x=>(pre ++ [x]) <+: partsL s.data.toList) w:=fun L J Jx W hW hWs hJ hJx hY h0=>by
 have Hs:=Lib.hid (show Blk W Bs #[.string s] 9 from (hW.2 Bs rfl).trans hs);have HSz:=Lib.hid (show s.data.toList.length=s.size from Array.length_toList);have HCh:=Lib.hid (fun (k:Nat) (hk:k<s.data.toList.length) (hk2:k<s.size)=>show s.data.toList[k]=s[k] from rfl);have HY:=Lib.hid hY;clear hs hW hWs hY;refine callsIn_of_wp Tryz.func235 rfl trivial ?_ rfl;simp only [Tryz.ntmps235,List.size_toArray,List.length_cons,List.length_nil,Nat.reduceAdd,Nat.reduceSub,Array.replicate_succ,Array.replicate_zero,List.push_toArray,List.append_toArray,List.nil_append,List.cons_append];refine (wpIn_wide (n:=n)).2 (wp_scope_straight ((wpIn_wide (n:=n)).1 ?_));refine wpIn_seq ?_;gi_wp2;refine wpIn_label ?_;gi_wp2
 gi_loopw [3,4] (fun f a wr=>∃ (pre:List (List UInt8)) (fr k:Nat),f=.int .i64 fr∧a=.int .i64 k∧PSt s.data.toList pre fr k∧J pre wr∧Blk wr Bs #[.string s] 9) (fun _ a _=>s.size+1 - (intOf a).toNat)
 case atStart=>exact ⟨[],0,0,rfl,rfl,pst_start _,h0,Hs.out⟩
 case round=>
  obtain⟨pre,fr,k,rfl,rfl,hp,hJp,hbs⟩:=hrel;have HP:=Lib.hid hp;have HJ0:=Lib.hid hJp;have HBs:=Lib.hid hbs;have hks:k≤s.size+1:=by have:=pst_size hp;rw [HSz.out] at this;exact this
  obtain⟨cs,fs,ls⟩:=hbs.facts;clear hp hJp hbs;by_cases hk:k≤s.size
  ·have hfr:fr≤k:=pst_le HP.out (by rw [HSz.out];exact hk);by_cases hc:∃ h:k<s.size,s[k]≠47
   ·obtain ⟨hkl,hc⟩:=hc;have HN:=Lib.hid (pst_skip HP.out (by rw [HSz.out];exact hkl) hc);have hc1:((s[k].toNat:Int) != 47)=true:=by
     simp only [bne_iff_ne,ne_eq];intro h;exact hc (by rw [u8_eq];show s[k].toNat=47;omega)
    clear hc;gi_wp2;go_roundw
    case rel=>exact ⟨pre,fr,k+1,rfl,by go_num,HN.out,HJ0.out,HBs.out⟩
    case measure=>simp [intOf];omega
   ·have HX:=Lib.hid (show ∀ (h:k<s.data.toList.length),s.data.toList[k]=47 from fun h=>Decidable.not_not.1 (fun h2=>hc ⟨by rw [←HSz.out];exact h,h2⟩));have HK:=Lib.hid (show k≤s.data.toList.length by rw [HSz.out];exact hk);obtain⟨p,hp⟩:∃ p,s.extract fr k=p:=⟨_,rfl⟩;have HPe:=Lib.hid (show p=str (segP s.data.toList fr k) by rw [←hp,seg_str]);have hpl:p.toList=segP s.data.toList fr k:=by rw [HPe.out,ba_list,str_list]
    have HPl:=Lib.hid hpl;clear hpl;have htest:((k:Int)<(s.size:Int)→∀ h:k<s.size,((s[k].toNat:Int) != 47)=false):=fun _ h=>by
     have:=HX.out (by rw [HSz.out];exact h);have h2:s[k]=47:=this;rw [h2];rfl
    by_cases he:segP s.data.toList fr k=[]
    ·have HN:=Lib.hid (pst_none HP.out HK.out HX.out (.inl he));have hp1:p.toList=[]:=by rw [HPl.out];exact he
     clear he;by_cases hkl:k<s.size
     ·have hc1:=htest (by omega) hkl;clear htest;gi_wp2;go_roundw
      case rel=>exact ⟨pre,k+1,k+1,by go_num,by go_num,HN.out,HJ0.out,HBs.out⟩
      case measure=>simp [intOf];omega
     ·obtain rfl:k=s.size:=by omega
      clear htest;gi_wp2;go_roundw
      case rel=>exact ⟨pre,_,_,by go_num,by go_num,HN.out,HJ0.out,HBs.out⟩
      case measure=>simp [intOf]
    ·by_cases hd:segP s.data.toList fr k=[46]
     ·have HN:=Lib.hid (pst_none HP.out HK.out HX.out (.inr hd));have hp1:p.toList=[46]:=by rw [HPl.out];exact hd
      clear he hd;by_cases hkl:k<s.size
      ·have hc1:=htest (by omega) hkl;clear htest;gi_wp2;go_roundw
       case rel=>exact ⟨pre,k+1,k+1,by go_num,by go_num,HN.out,HJ0.out,HBs.out⟩
       case measure=>simp [intOf];omega
      ·obtain rfl:k=s.size:=by omega
       clear htest;gi_wp2;go_roundw
       case rel=>exact ⟨pre,_,_,by go_num,by go_num,HN.out,HJ0.out,HBs.out⟩
       case measure=>simp [intOf]
     ·have hN:=pst_some HP.out HK.out HX.out (by rintro (h | h);exact he h;exact hd h);have HN:=Lib.hid hN.1;have HV:=Lib.hid hN.2;have hp1:p.toList.isEmpty=false:=by rw [HPl.out];simpa using he
      have hp2:(p.toList == [46])=false:=by rw [HPl.out];simpa using hd
      clear he hd hN;by_cases hkl:k<s.size
      ·have hc1:=htest (by omega) hkl;clear htest;obtain⟨fn,tmps,assign,body,hy,hR⟩:=HY.out pre _ wr HJ0.out HV.out;have hy2:(Instr.yield L #[.string p]).run Tryz.prog wr=.ok (.round L fn tmps assign body) wr:=by rw [HPe.out];exact hy
       have HR:=Lib.hid hR;clear hy hR;gi_wp2;refine HR.out.mono ?_;rintro e W3 (⟨rfl,hJ3,hk3⟩|⟨rfl,hJx3⟩)
       ·have HJ3:=Lib.hid hJ3;have HB3:=Lib.hid (show Blk W3 Bs #[.string s] 9 from (hk3.2 Bs rfl).trans HBs.out);clear hJ3 hk3 hy2;gi_wp2;go_roundw
        case rel=>exact ⟨_,k+1,k+1,by go_num,by go_num,HN.out,HJ3.out,HB3.out⟩
        case measure=>simp [intOf];omega
       ·have HJx:=Lib.hid hJx3;clear hJx3 hy2;gi_wp2;exact scope_end (results_none rfl _ _ _) ⟨⟨_,rfl⟩,.inr ⟨_,prefix_take HV.out,HJx.out⟩⟩
      ·obtain rfl:k=s.size:=by omega
       clear htest;obtain⟨fn,tmps,assign,body,hy,hR⟩:=HY.out pre _ wr HJ0.out HV.out;have hy2:(Instr.yield L #[.string p]).run Tryz.prog wr=.ok (.round L fn tmps assign body) wr:=by rw [HPe.out];exact hy
       have HR:=Lib.hid hR;clear hy hR;gi_wp2;refine HR.out.mono ?_;rintro e W3 (⟨rfl,hJ3,hk3⟩|⟨rfl,hJx3⟩)
       ·have HJ3:=Lib.hid hJ3;have HB3:=Lib.hid (show Blk W3 Bs #[.string s] 9 from (hk3.2 Bs rfl).trans HBs.out);clear hJ3 hk3 hy2;gi_wp2;go_roundw
        case rel=>exact ⟨_,_,_,by go_num,by go_num,HN.out,HJ3.out,HB3.out⟩
        case measure=>simp [intOf]
       ·have HJx:=Lib.hid hJx3;clear hJx3 hy2;gi_wp2;exact scope_end (results_none rfl _ _ _) ⟨⟨_,rfl⟩,.inr ⟨_,prefix_take HV.out,HJx.out⟩⟩
  ·have HE:=Lib.hid (pst_end HP.out (by rw [HSz.out];omega));have hk':¬ (k:Int)≤(s.size:Int):=by omega
   gi_wp2
   go_end0
   exact⟨⟨_,rfl⟩,.inl (by rw [HE.out];exact HJ0.out)⟩
end
section
open Go
def noDefer (ops:Array Oper):Bool:=ops.all fun o=>match o.op with | .defer _=>false | _=>true
theorem noDefer_spec {ops:Array Oper} (h:noDefer ops=true) {i:Nat} {o:Oper} (hi:ops[i]? = some o):∀ c,o.op≠.defer c:=by
 intro c hc;unfold noDefer at h;rw [Array.all_eq_true] at h;obtain⟨hlt,rfl⟩:=Array.getElem?_eq_some_iff.1 hi;have:=h i hlt;rw [hc] at this
 cases this
section
variable {P:Program} {ops:Array Oper} {md:Region.Mode} {w:World} {l:Nat} {n:Nat}
end
end
section
open Go.RowKit Go.Shelf
attribute [local go_sem] Oper.semAt_some
theorem keeps_mod1 {S:Nat→Prop} {w W:World} (h:Mod S w W) (hS:∀ k,S k→∃ cur T fz,w.heap[k]? = some (.cells cur T fz)):KeepsOthers w W:=
 ⟨h.size,fun k o hk ho=>(h.block k (Array.getElem?_eq_some_iff.1 hk).1 (fun hs=>by obtain ⟨cur,T,fz,hc⟩:=hS k hs;rw [hc] at hk;injection hk with hk;subst hk;cases ho)).trans hk⟩
theorem OS.nil (w:World) (base:Nat):OS w base (.slice none 0 0) []:=⟨rfl,.inl ⟨rfl,rfl⟩⟩
theorem OS.turn {w w':World} {base:Nat} {v:Value} {ls:List (List UInt8)} (h:OS w base v ls) (ht:∀ k cur,base≤k→w.heap[k]? = some (.cells cur 9 (0,0))→w'.heap[k]? = some (.cells cur 9 (0,0))):OS w' base v ls:=
 ⟨h.1,h.2.imp id fun ⟨g,cap,cur,hv,hb,hg,rest⟩=>⟨g,cap,cur,hv,hb,ht _ _ hb hg,rest⟩⟩
theorem OS.low {w:World} {base base':Nat} {v:Value} {ls:List (List UInt8)} (h:OS w base v ls) (hb:base'≤base):OS w base' v ls:=
 ⟨h.1,h.2.imp id fun ⟨g,cap,cur,hv,hg,rest⟩=>⟨g,cap,cur,hv,Nat.le_trans hb hg,rest⟩⟩
theorem OS.appK {w:World} {base:Nat} {v:Value} {ls:List (List UInt8)} (h:OS w base v ls) (l:List UInt8) (hl:ls.length≤1000000) (hb:base≤w.heap.size) :
  ∃ g cap W,(Builtin.append_ #[61,61] 61 #[v,.slice (some ⟨w.heap.size,0,none⟩) 1 1]).run Tryz.prog (w.alloc (.cells #[.string (str l)] 9))=.ok (.slice (some ⟨g,0,none⟩) (ls.length+1) cap) W∧
   OS W base (.slice (some ⟨g,0,none⟩) (ls.length+1) cap) (ls ++ [l])∧Below base w W∧KeepsOthers w W∧(v.ownBlock=some g∨w.heap.size≤g):=by
 obtain⟨i0,hi,hz0,hz1,hz2⟩:=info_parts str_info;have ho:=World.ownsRow.alloc h (.cells #[.string (str l)] 9);obtain⟨g,cap,W,h1,h2,h3,h4⟩:=step_app 61 Tryz.underlying61 hi hz0 hz1 hz2 rfl (by omega) ho ⟨w.heap.size,0,none⟩ 1 1 [.string (str l)] rfl (World.news_of_block (Blk.new w #[.string (str l)] 9)) (by intro u hu;simp at hu;subst hu;rfl) (by omega) (by unfold maxLen;omega) (by omega) (by simp;omega);refine ⟨g,cap,W,h1,?_,?_,(KeepsOthers.alloc _ _).trans (keeps_mod1 h3 (fun k hk=>by obtain ⟨-,cur,hc⟩:=own_obj1 ho hk;exact ⟨_,_,_,hc⟩)),h4.imp id (fun h=>by rw [h];simp)⟩
 ·unfold OS;rw [List.length_append,List.length_singleton,List.flatMap_append];exact h2
 ·refine (((Below.refl base w).alloc hb _)).trans (h3.below (fun k hk=>(h.lt k hk).1) (by simp;omega))
theorem wpListIn_app_run1 {F:Fence} {n:Nat} {P:Program} {ops:Array Oper} {rest:List Oper} {o:Oper} {a:Act} {w W:World} {Q:Exit→Act→World→Prop} {s x:Operand} {t:TypeId} {v y r:Value}
  (hgd:o.guard=none) (ho:o.op=.call {callee:=.builtin .append,args:=#[s,x],argTypes:=#[t,t]}) (hs:a.eval s=v) (hx:a.eval x=y)
  (hrun:(Builtin.append_ #[t,t] o.type #[v,y]).run P w=.ok r W) (h:wpListIn F n P ops Q rest (a.put o.dst r) W):wpListIn F n P ops Q (o :: rest) a w:=
 wpListIn_plain hgd fun K hK=>by
  unfold Oper.wpIn;refine ⟨by simp [Oper.about,ho,resolve,Target.leads,Sem.run_pure],?_⟩;rw [Oper.semAt_plain F _ _ (by rw [ho];intro c hc;cases hc)];simp [execOp,ho,resolve,invoke,builtin,hs,hx,hrun,Result.andThen];exact hK _ _ h
structure CI (T:Nat→Prop) (w:World) (B base:Nat) (pre:List (List UInt8)) (W:World):Prop where
 box:∃ v,Blk W B #[v] 61∧OS W base v pre
 mod:Mod T w W
theorem mod_turn {T:Nat→Prop} {N:Nat} {w W W':World} (h:Mod T w W) (ht:Turn T N notCells W W') (hN:w.heap.size≤N):Mod T w W':=by
 refine ⟨ht.os.trans h.os,ht.tape.trans h.tape,ht.output.trans h.output,Nat.le_trans h.size ht.size,fun k hk hs=>?_⟩;obtain⟨o,ho⟩:∃ o,w.heap[k]? = some o:=⟨w.heap[k]'(by omega),Array.getElem?_eq_getElem _⟩;rw [ht.block k o ((h.block k hk hs).trans ho) hs (fun h=>by omega),ho]
theorem appseq_any {g:Nat} {lb:Array Value} (eg:∀ args w,(callFunc g args).run Tryz.prog w=.ok (.enter g args) w) {T:Nat→Prop} {S Sp:List (List UInt8)→Prop} {V:List (List UInt8)→List UInt8→Prop} (w:World)
  (hseq:SeqT T Fence.wide 4 Tryz.prog g lb (fun x:List UInt8=>#[.string (str x)]) S Sp V w) (hT:∀ k,T k→k<w.heap.size) (hV:∀ pre x,V pre x→pre.length≤1000000) :
  Calls Tryz.prog 234 #[.slice none 0 0,.func (.func g) #[] lb] w fun e w'=>(∃ v ss,e=.returned v∧S ss∧OS w' w.heap.size v ss)∧Mod T w w':=by
 refine (callsIn_wide (n:=5)).1 ?_;refine callsIn_of_wp_marks Tryz.func234 rfl trivial ?_ rfl;simp only [Tryz.ntmps234,List.size_toArray,List.length_cons,List.length_nil,Nat.reduceAdd,Nat.reduceSub,Array.replicate_succ,Array.replicate_zero,List.push_toArray,List.append_toArray,List.nil_append,List.cons_append];have q0:=Blk.new w #[.slice none 0 0] 61;have hB0:=balloc (Below.refl w.heap.size w) (.cells #[.slice none 0 0] 61);have hz:(w.alloc (.cells #[.slice none 0 0] 61)).heap.size=w.heap.size+1:=by simp
 have HSq:=Lib.hid hseq;clear hseq;gi_wp2;generalize w.alloc (.cells #[.slice none 0 0] 61)=W1 at q0 hB0 hz ⊢;refine' wpIn_rangeT (T:=T) rfl (by omega) (gf:=g) (lb:=lb) rfl trivial eg HSq.out (fun k hk=>by have:=hT k hk;omega) (KT.of_below hB0 hT) (fun _=>rfl)
  (fun pre W=>CI T w w.heap.size W1.heap.size pre W)
  (fun _ _ _=>False)
  (fun pre A B h ht=>?own) (fun c pre A B h ht=>h) ⟨⟨_,q0,OS.nil _ _⟩,Mod.of_below hB0⟩ _ ?assign ?body ?done (fun D c pre W _ _ h _=>h.elim)
 case own=>
  obtain⟨⟨v,h1,h2⟩,h3⟩:=h;exact⟨⟨v,ht.block _ _ h1 (fun e=>by have:=hT _ e;omega) (fun _=>rfl),h2.turn (fun k cur hk hc=>ht.block _ _ hc (fun e=>by have:=hT _ e;omega) (fun _=>rfl))⟩,mod_turn h3 ht (by omega)⟩
 case assign=>
  intro L x W K hK;gi_wp2;exact hK
 case body=>
  rintro L pre x W hL hLW ⟨⟨v,b1,hO⟩,hM⟩ hv;obtain⟨a,c,rfl,-,-,-⟩:=own_form hO;obtain⟨g2,cap2,W2,hrun,hO2,hB2,hKO,hg2⟩:=hO.appK x (hV _ _ hv) (show W1.heap.size≤W.heap.size by omega);have hlp:=hO.1;have HR:=Lib.hid hrun;have k1:=b1.keepB hB2 (show w.heap.size<W1.heap.size by omega);obtain⟨c1,f1,z1⟩:=b1.facts;obtain⟨d1,e1,y1⟩:=k1.facts;have K1:=Lib.hid k1;have HX:=Lib.hid (And.intro hO2 (And.intro hB2 (And.intro hKO (And.intro hM hg2))));clear hrun hO2 hB2 k1 b1 hKO hM hO hg2 hlp
  gi_wp2_with (gi_at_builtin;refine wpListIn_app_run1 rfl rfl rfl rfl HR.out ?_)
  obtain⟨hO2,hB2,hKO,hM,hg2⟩:=HX.out;have hm:=(Mod.refl (fun k=>k=w.heap.size) W2).setCell (a:=⟨w.heap.size,0,none⟩) (.inl rfl) (.slice (some ⟨g2,0,none⟩) (pre.length+1) cap2);refine ⟨(hKO.trans (KeepsOthers.setCell _ _ _)).from _,⟨Nat.le_trans hB2.size hm.size,fun k hk=>?_⟩,⟨⟨_,K1.out.set 0 _,hO2.turn (fun k cur hk hc=>(hm.block k (Array.getElem?_eq_some_iff.1 hc).1 (by omega)).trans hc)⟩,?_⟩⟩
  ·have:=hT k hk;rw [hm.block k (by have:=hB2.size;omega) (by omega)];exact hB2.block k (by omega)
  ·refine ⟨hm.os.trans (hB2.os.trans hM.os),hm.tape.trans (hB2.tape.trans hM.tape),hm.output.trans (hB2.output.trans hM.output),Nat.le_trans hM.size (Nat.le_trans hB2.size hm.size),fun k hk hs=>?_⟩;rw [hm.block k (by have:=hB2.size;have:=hM.size;omega) (by omega),hB2.block k (by omega)];exact hM.block k hk hs
 case done=>
  rintro D xs W hD hS ⟨⟨v,b1,hO⟩,hM⟩ hK;obtain⟨a,c,rfl,-,-,-⟩:=own_form hO;obtain⟨c1,f1,z1⟩:=b1.facts;have HO:=Lib.hid (And.intro hO hM);clear hO hM b1;gi_wp2;show LeavesInM Fence.wide 5 Tryz.prog Tryz.f234 _ _ _ _ W;refine ⟨by simp,.inl ⟨_,_,rfl,run_takeDeferred hK,?_⟩⟩;refine ⟨.slice a xs.length c,by simp [results,Tryz.results234,go_sem],⟨_,_,rfl,hS,(HO.out.1.low (show w.heap.size≤W1.heap.size by omega)).turn (fun k cur hk hc=>(World.putObj_heap_other (fun e=>by subst e;rw [hK] at hc;cases hc)).trans hc)⟩,?_⟩;have hm:=HO.out.2;exact⟨hm.os,hm.tape,hm.output,Nat.le_trans hm.size (by simp),fun k hk hs=>(World.putObj_heap_other (fun e=>by omega)).trans (hm.block k hk hs)⟩
theorem collect_any {g:Nat} {lb:Array Value} (eg:∀ args w,(callFunc g args).run Tryz.prog w=.ok (.enter g args) w) {T:Nat→Prop} {S Sp:List (List UInt8)→Prop} {V:List (List UInt8)→List UInt8→Prop} (w:World)
  (hseq:SeqT T Fence.wide 4 Tryz.prog g lb (fun x:List UInt8=>#[.string (str x)]) S Sp V w) (hT:∀ k,T k→k<w.heap.size) (hV:∀ pre x,V pre x→pre.length≤1000000) :
  Calls Tryz.prog 170 #[.func (.func g) #[] lb] w fun e w'=>(∃ v ss,e=.returned v∧S ss∧OS w' w.heap.size v ss)∧Mod T w w':=by
 have HA:=Lib.hid (appseq_any eg w hseq hT hV);clear hseq hT hV eg;go_enter Tryz.func170,Tryz.ntmps170;go_wp2_with fail;refine HA.out.mono ?_;rintro e w1 ⟨⟨v,ss,rfl,hS,hO⟩,hM⟩;have HX:=Lib.hid (And.intro hS (And.intro hO hM));clear hS hO hM;go_wp2_with fail;go_ret;exact⟨⟨v,ss,rfl,HX.out.1,HX.out.2.1⟩,HX.out.2.2⟩
theorem nparts_any (s:ByteArray) (w:World) :
  Calls Tryz.prog 171 #[.string s] w fun e w'=>e=.returned (.func (.func 235) #[] #[.pointer (some ⟨w.heap.size,0,none⟩)])∧w'=w.alloc (.cells #[.string s] 9):=by
 go_enter Tryz.func171,Tryz.ntmps171;go_wp2_with fail;go_ret;exact⟨rfl,rfl⟩
theorem pcollect_any (s:ByteArray) (hs:s.size≤100000) (w:World) :
  Calls Tryz.prog 170 #[.func (.func 235) #[] #[.pointer (some ⟨w.heap.size,0,none⟩)]] (w.alloc (.cells #[.string s] 9)) fun e w'=>(∃ v,e=.returned v∧OS w' w.heap.size v (partsL s.data.toList))∧Below w.heap.size w w':=by
 have hz:(w.alloc (.cells #[.string s] 9)).heap.size=w.heap.size+1:=by simp
 refine (collect_any (enters_of Tryz.func235 (by kernel_rfl) rfl) (w.alloc (.cells #[.string s] 9)) (parts_stops 4 (by omega) w.heap.size s hs _ (Blk.new w #[.string s] 9)) (fun k hk=>by omega) (fun pre x h=>?_)).mono ?_
 ·have h1:=h.length_le;have h2:=parts_len s.data.toList;have h3:s.data.toList.length=s.size:=Array.length_toList;rw [List.length_append,List.length_singleton] at h1;omega
 ·rintro e w1 ⟨⟨v,ss,rfl,rfl,hO⟩,hM⟩;exact⟨⟨v,rfl,hO.low (by omega)⟩,(balloc (Below.refl w.heap.size w) _).trans (hM.below (fun k hk=>by omega) (by omega))⟩
end
section
open Go.RowKit
section
variable {w w':World} {pw:Nat} {R:Rp} {S:Fs}
theorem body_panic {P:Program} {fn:Func} {R:Ending→World→Prop}:∀ c d v a w,bodyPost P fn R (.panic c) (Act.put a d v) w→bodyPost P fn R (.panic c) a w:=
 fun c d v a w h=>by
  have h':(Act.put a d v).defers=[]∧R (.panicked c) w:=h;exact show a.defers=[]∧R (.panicked c) w from ⟨by rw [←h'.1];cases d <;> rfl,h'.2⟩
theorem touch_any (h:WdAt w pw R S) (dir now:Int) (d:An) (hg:S.get dir=some d) (l:List En) (a:Option Addr) (n c:Nat) (hl:EntsAt w a n c l) :
  Calls Tryz.prog 201 #[.pointer (some ⟨pw,0,none⟩),.int .i64 dir,.int .i64 now,.slice a n c] w fun e w'=>e=.returned (.tuple #[])∧∃ R',WdAt w' pw R' (S.touch now dir l)∧Stp (R.F pw) (R'.F pw) w w':=by
 obtain⟨ea,el,ec,he,hG⟩:=wget_fix h hg;have HG:=Lib.hid (hG w (Below.refl _ _));unfold An.v at HG;have HT:=Lib.hid (show S.touch now dir l=S.set {d with ents:=l,mtime:=now,ctime:=now} by unfold Fs.touch;rw [hg]);have hno:=an_no hg;have HSet:=Lib.hid (fun w1 (hb1:Below w.heap.size w w1)=>(h.keep hb1).setN {d with ents:=l,mtime:=now,ctime:=now} (hl.keep hb1) (b:=d) (by rw [show ({d with ents:=l,mtime:=now,ctime:=now}:An).no=d.no from rfl,hno];exact hg));unfold An.v at HSet;obtain⟨pc,-,pz⟩:=h.blk.facts;have mixed:Tryz.prog.follows .mixedOrders=true:=by kernel_rfl
 clear h hg he hG hno hl;go_enter Tryz.func201,Tryz.ntmps201;go_wp2_with fail;refine HG.out.mono ?_;rintro e w1 ⟨rfl,hb1⟩;have pc0:(w1.alloc (.cells #[.int .i64 d.no,.int .i64 d.dev,.int .i64 d.kind,.int .i64 d.mode,.int .i64 d.uid,.int .i64 d.gid,.int .i64 now,.int .i64 now,.int .i64 d.links,.int .i64 d.up,.string d.data,.slice a n c] 49)).cell? ⟨pw,0,none⟩=_:=((balloc hb1 (.cells #[.int .i64 d.no,.int .i64 d.dev,.int .i64 d.kind,.int .i64 d.mode,.int .i64 d.uid,.int .i64 d.gid,.int .i64 now,.int .i64 now,.int .i64 d.links,.int .i64 d.up,.string d.data,.slice a n c] 49)).cell (p:=⟨pw,0,none⟩) pz).trans (pc 0);have hB:=Blk.new w1 #[.int .i64 d.no,.int .i64 d.dev,.int .i64 d.kind,.int .i64 d.mode,.int .i64 d.uid,.int .i64 d.gid,.int .i64 now,.int .i64 now,.int .i64 d.links,.int .i64 d.up,.string d.data,.slice a n c] 49;have hbX:=balloc hb1 (.cells #[.int .i64 d.no,.int .i64 d.dev,.int .i64 d.kind,.int .i64 d.mode,.int .i64 d.uid,.int .i64 d.gid,.int .i64 now,.int .i64 now,.int .i64 d.links,.int .i64 d.up,.string d.data,.slice a n c] 49);clear pc hb1;go_wp2_with fail;generalize w1.alloc (.cells #[.int .i64 d.no,.int .i64 d.dev,.int .i64 d.kind,.int .i64 d.mode,.int .i64 d.uid,.int .i64 d.gid,.int .i64 now,.int .i64 now,.int .i64 d.links,.int .i64 d.up,.string d.data,.slice a n c] 49)=X at pc0 hB hbX ⊢;obtain⟨bc,-,bz⟩:=hB.facts;have HS:=Lib.hid (HSet.out _ hbX.drew);have HX:=Lib.hid hbX;clear hB hbX;refine wp_region_lex 5 mixed (by kernel_rfl) body_panic ?_;simp only [List.take_succ_cons,List.take_zero,List.drop_succ_cons,List.drop_zero]
 repeat still_step
 refine wpStill_nil ?_;go_wp2_with fail;refine HS.out.mono ?_;rintro e w5 ⟨rfl,R',hR1,hR2,-,-⟩;have HR:=Lib.hid (And.intro hR1 hR2);clear hR1 hR2;go_wp2_with fail
 go_end0
 rw [HT.out];exact⟨rfl,R',HR.out.1,(Stp.of_below HX.out.drew).trans HR.out.2⟩
end
end
section
open Go.RowKit
def cmpB (a b:ByteArray):Int:=if ltB a b=true then -1 else if ltB b a=true then 1 else 0
theorem cmpB_lt (a b:ByteArray):(cmpB a b<0)=(ltB a b=true):=by
 unfold cmpB
 cases h:ltB a b
 ·simp;split <;> omega
 ·simp
theorem cmpB_eq (a b:ByteArray):(cmpB a b=0)=(a=b):=by
 unfold cmpB
 cases h:ltB a b
 ·cases k:ltB b a
  ·simp [ltB_total h k]
  ·simp [(ltB_ne k).symm]
 ·simp [ltB_ne h]
theorem compare_any (a b:ByteArray) (w:World) :
  Calls Tryz.prog 246 #[.string a,.string b] w fun e w'=>e=.returned (.int .i64 (cmpB a b))∧w=w':=by
 unfold cmpB
 cases h:ltB a b
 ·cases k:ltB b a
  ·obtain rfl:a=b:=ltB_total h k;rw [←ltB_mk] at h;clear k;go_enter Tryz.func246,Tryz.ntmps246
   go_wp2
   go_ret;exact⟨rfl,rfl⟩
  ·have hne:¬ a.toList=b.toList:=fun e=>by
    rw [ByteArray.toList_eq,ByteArray.toList_eq] at e;rw [ba_eq e,ltB_irrefl] at k
    cases k
   have hq:(a.toList == b.toList)=false:=by simpa using hne
   rw [←ltB_mk] at h;clear k;go_enter Tryz.func246,Tryz.ntmps246
   go_wp2
   go_ret;exact⟨rfl,rfl⟩
 ·rw [←ltB_mk] at h;go_enter Tryz.func246,Tryz.ntmps246
  go_wp2
  go_ret;exact⟨rfl,rfl⟩
theorem by_any (x:En) (n:ByteArray) (w:World) :
  Calls Tryz.prog 188 #[.agg #[.string x.name,.int .i64 x.no],.string n] w fun e w'=>e=.returned (.int .i64 (cmpB x.name n))∧Below w.heap.size w w':=by
 go_enter Tryz.func188,Tryz.ntmps188;go_wp2_with (go_at_call 246;refine (compare_any _ _ _).mono ?_;rintro e w1 ⟨rfl,rfl⟩);go_ret;exact⟨rfl,by go_grown⟩
end
end Go.Proofs.YtihdbncoijhihaaGreat
