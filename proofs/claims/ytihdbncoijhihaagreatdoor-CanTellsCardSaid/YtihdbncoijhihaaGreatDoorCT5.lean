import Derived.RangeFuncNested
import Derived.RangeFuncBound
import Derived.RangeFuncCalls
import Derived.RangeFuncLeaves
import Derived.Shelf.Abstract
import Derived.Shelf.RegionOpen
import Derived.OwnWalkIn
import Derived.TacticsInMore
import Derived.LoopNIn
import Derived.LoopIn
import Derived.StillTail
import Derived.StillTactics
import Derived.WalkKit
import Derived.Test.YtihdbncoijhihaaGreatDoorCT1
import Derived.Test.YtihdbncoijhihaaGreatDoorCT4
set_option linter.unusedVariables false
set_option linter.unusedSimpArgs false
namespace Go.Proofs.YtihdbncoijhihaaGreatDoor
open Go.RowKit
structure Turn (T : Nat→Prop) (B : Nat) (p : Obj→Bool) (W W' : World) : Prop where
 os : W'.os=W.os
 tape : W'.tape=W.tape
 output : W'.output=W.output
 size : W.heap.size≤W'.heap.size
 block : ∀ k o,W.heap[k]? = some o→¬ T k→(B≤k→p o=false)→W'.heap[k]? = some o
def AbT {β : Type} (T : Nat→Prop) (B : Nat) (p : Obj→Bool) (J : β→World→Prop) : Prop:=∀ s W W',J s W→Turn T B p W W'→J s W'
def KT (T : Nat→Prop) (W W' : World) : Prop:=W.heap.size≤W'.heap.size∧∀ k,T k→W'.heap[k]? = W.heap[k]?
theorem KT.refl (T : Nat→Prop) (W : World) : KT T W W:=⟨Nat.le_refl _,fun _ _=>rfl⟩
theorem KT.trans {T : Nat→Prop} {A B C : World} (h : KT T A B) (k : KT T B C) : KT T A C:=⟨Nat.le_trans h.1 k.1,fun i hi=>(k.2 i hi).trans (h.2 i hi)⟩
theorem KT.of_below {T : Nat→Prop} {W W' : World} (h : Below W.heap.size W W') (hT : ∀ k,T k→k < W.heap.size) : KT T W W':=⟨h.size,fun k hk=>h.block k (hT k hk)⟩
theorem KT.of_mod {T S : Nat→Prop} {W W' : World} (h : Mod S W W') (hT : ∀ k,T k→k < W.heap.size) (hS : ∀ k,T k→¬ S k) : KT T W W':=⟨h.size,fun k hk=>h.block k (hT k hk) (hS k hk)⟩
theorem KT.put {T : Nat→Prop} (W : World) (l : Nat) (o : Obj) (h : ¬ T l) : KT T W (W.putObj l o):=⟨by simp,fun k hk=>World.putObj_heap_other (fun e=>h (e ▸ hk))⟩
theorem Turn.put {T : Nat→Prop} {B : Nat} {p : Obj→Bool} {W : World} {l : Nat} {o o' : Obj} (hB : B≤l) (hl : W.heap[l]? = some o) (hp : p o=true) : Turn T B p W (W.putObj l o'):=
 ⟨rfl,rfl,rfl,by simp,fun k o2 hk _ h2=>(World.putObj_heap_other (fun e=>by subst e;rw [hl] at hk;injection hk with hk;subst hk;rw [hp] at h2;exact absurd (h2 hB) (by decide))).trans hk⟩
theorem Turn.alloc {T : Nat→Prop} {B : Nat} {p : Obj→Bool} (W : World) (o : Obj) : Turn T B p W (W.alloc o):=
 ⟨rfl,rfl,rfl,by simp,fun k o2 hk _ _=>(Below.heap_alloc W o k (Array.getElem?_eq_some_iff.1 hk).1).trans hk⟩
theorem Turn.of_below {T : Nat→Prop} {B : Nat} {p : Obj→Bool} {W W' : World} (h : Below W.heap.size W W') : Turn T B p W W':=
 ⟨h.os,h.tape,h.output,h.size,fun k _ hk _ _=>(h.block k (Array.getElem?_eq_some_iff.1 hk).1).trans hk⟩
theorem Turn.of_mod {T S : Nat→Prop} {B : Nat} {p : Obj→Bool} {W W' : World} (h : Mod S W W') (hS : ∀ k,S k→T k) : Turn T B p W W':=
 ⟨h.os,h.tape,h.output,h.size,fun k _ hk hT _=>(h.block k (Array.getElem?_eq_some_iff.1 hk).1 (fun hs=>hT (hS k hs))).trans hk⟩
def SeqT {α : Type} (T : Nat→Prop) (F : Fence) (n : Nat) (P : Program) (g : Nat) (lb : Array Value) (encs : α→Array Value) (S Sp : List α→Prop) (V : List α→α→Prop) (w : World) : Prop:=
 ∀ (l : Nat) (J Jx : List α→World→Prop) (W : World),KT T w W→w.heap.size≤W.heap.size→AbT T W.heap.size Obj.isWalk J→AbT T W.heap.size Obj.isWalk Jx→
  (∀ pre x W1,J pre W1→V pre x→YieldAt F (n - 1) P l (encs x) W1 fun e W'=>
   (e=.returned (.bool true)∧J (pre ++ [x]) W'∧KT T W1 W')∨(e=.returned (.bool false)∧Jx (pre ++ [x]) W'))→
  J [] W→
  CallsIn F n P g (#[.func (.yield l) #[] #[]] ++ lb) W fun e W'=>(∃ v,e=.returned v)∧((∃ xs,S xs∧J xs W')∨(∃ pre,Sp pre∧Jx pre W'))
def notCells (o : Obj) : Bool:=!o.isCells
theorem walk_notCells {o : Obj} (h : o.isWalk=true) : notCells o=true:=by unfold notCells;rw [Obj.not_cells_of_walk h];rfl
theorem wpIn_rangeT {F : Fence} {n : Nat} {P : Program} {w : World} {α : Type} {T : Nat→Prop} {g : Operand} {ps : Array Tmp} {assign body : Code} {Q : Exit→Act→World→Prop} {a : Act}
  (hro : F.round=none) (h1 : 1≤n) {gf : Nat} {lb : Array Value} (hg : a.eval g=.func (.func gf) #[] lb) (hFg : F.fn gf) (eg : ∀ args w,(callFunc gf args).run P w=.ok (.enter gf args) w)
  {encs : α→Array Value} {S Sp : List α→Prop} {V : List α→α→Prop} {w0 : World} (hseq : SeqT T F (n - 1) P gf lb encs S Sp V w0)
  (hT : ∀ k,T k→k < w.heap.size) (hb0 : KT T w0 w) (hps : ∀ x,(encs x).size=ps.size)
  (I : List α→World→Prop) (Ix : Code→List α→World→Prop) (hI : AbT T w.heap.size notCells I) (hIx : ∀ c,AbT T w.heap.size notCells (Ix c)) (h0 : I [] w) (a₁ : α→Act)
  (hassign : ∀ (l : Nat) (x : α) (W : World) (K : Act→World→Prop),K (a₁ x) W→
   assign.wpIn (F.inRound l) (n - 1 - 1) P (Exit.then K (fun _ _ _=>False)) { tmps:=(ps.zip (encs x)).foldl (fun t (p,v)=>t.setIfInBounds p v) a.tmps,defers:=[] } W)
  (hbody : ∀ (l : Nat) (pre : List α) (x : α) (W : World),w.heap.size≤l→l < W.heap.size→I pre W→V pre x→body.wpIn (F.inRound l) (n - 1 - 1) P (ownPostG w.heap.size (KT T) I Ix (pre ++ [x]) W) (a₁ x) W)
  (hdone : ∀ (D : Nat) (xs : List α) (W : World),w.heap.size≤D→S xs→I xs W→W.heap[D]? = some (.deferred (some []))→Q .normal { a with defers:={ target:=.collected D,args:=#[] } :: a.defers } W)
  (hstop : ∀ (D : Nat) (c : Code) (pre : List α) (W : World),w.heap.size≤D→Sp pre→Ix c pre W→W.heap[D]? = some (.deferred (some []))→c.wpIn F n P Q { a with defers:={ target:=.collected D,args:=#[] } :: a.defers } W) :
  (Code.rangeFunc g ps assign body).wpIn F n P Q a w:=by
 refine wpIn_rangeFunc fun fn hfn=>?_
 rw [hro]
 obtain⟨rc,hrc⟩ : ∃ rc : LoopState→Option Code→Loop,rc=fun st pe=>{ state:=st,pending:=pe,fn,tmps:=a.tmps,params:=ps,assign,body,defers:=w.heap.size }:=⟨_,rfl⟩
 have hTl : ¬ T (w.heap.size + 1):=fun h=>by have:=hT _ h;omega
 have hTd : ¬ T w.heap.size:=fun h=>by have:=hT _ h;omega
 generalize hW1 : (w.alloc (.deferred (some []))).alloc (.loop (rc .ready none))=W1
 have hs1 : W1.heap.size=w.heap.size + 2:=by rw [← hW1];simp
 have hL1 : W1.heap[w.heap.size + 1]? = some (.loop (rc .ready none)):=by
  have:=World.alloc_heap_new (w.alloc (.deferred (some []))) (.loop (rc .ready none))
  rw [World.size_alloc] at this
  rw [← hW1];exact this
 have hD1 : W1.heap[w.heap.size]? = some (.deferred (some [])):=by
  rw [← hW1];exact (Below.heap_alloc _ _ _ (by simp)).trans (World.alloc_heap_new w _)
 have hI1 : I [] W1:=by rw [← hW1];exact hI _ _ _ (hI _ _ _ h0 (Turn.alloc _ _)) (Turn.alloc _ _)
 have hK1 : KT T w W1:=by rw [← hW1];exact KT.of_below ((((Below.refl _ w).alloc (Nat.le_refl _) _).alloc (by simp) _)) hT
 refine ⟨w.heap.size + 1,[{ target:=.collected w.heap.size,args:=#[] }],W1,{ target:=.fn (.func gf) lb,args:=#[.func (.yield (w.heap.size + 1)) #[] #[]] },W1,gf,
  #[.func (.yield (w.heap.size + 1)) #[] #[]] ++ lb,W1,?_,?_,?_,?_,fun _=>h1,?_⟩
 ·rw [← hW1,hrc];exact run_enterLoop_outer _ _ _ _ _
 ·simp only [resolve,hg];simp [go_sem]
 ·intro f' hf';simp [Target.leads] at hf';subst hf';exact hFg
 ·simp [invoke,go_sem,eg]
 have turnW : ∀ {A B : World},Turn T W1.heap.size Obj.isWalk A B→Turn T w.heap.size notCells A B:=fun h=>
  ⟨h.os,h.tape,h.output,h.size,fun k o hk ht hp=>h.block k o hk ht (fun hB=>by
   cases hw : o.isWalk with
   | false=>rfl
   | true=>have:=hp (by omega);rw [walk_notCells hw] at this;cases this)⟩
 have keepL : ∀ {A B : World} {k : Nat} {o : Obj},Turn T W1.heap.size Obj.isWalk A B→A.heap[k]? = some o→¬ T k→o.isWalk=false→B.heap[k]? = some o:=fun h hk ht hw=>h.block _ _ hk ht (fun _=>hw)
 refine (hseq (w.heap.size + 1)
  (fun pre W=>I pre W∧W.heap[w.heap.size + 1]? = some (.loop (rc .ready none))∧W.heap[w.heap.size]? = some (.deferred (some [])))
  (fun pre W=>∃ c,Ix c pre W∧W.heap[w.heap.size + 1]? = some (.loop (rc .done (some c)))∧W.heap[w.heap.size]? = some (.deferred (some [])))
  W1 (hb0.trans hK1) (Nat.le_trans hb0.1 hK1.1)
  (fun s A B hs ht=>⟨hI s A B hs.1 (turnW ht),keepL ht hs.2.1 hTl rfl,keepL ht hs.2.2 hTd rfl⟩)
  (fun s A B hs ht=>by
   obtain⟨c,hc,hl,hk⟩:=hs
   exact⟨c,hIx c s A B hc (turnW ht),keepL ht hl hTl rfl,keepL ht hk hTd rfl⟩)
  ?_ ⟨hI1,hL1,hD1⟩).mono ?_
 ·rintro pre x W ⟨hi,hl,hk⟩ hlen
  have hlt : w.heap.size + 1 < W.heap.size:=(Array.getElem?_eq_some_iff.1 hl).1
  have hy:=run_yield (P:=P) (args:=encs x) hl (by rw [hrc];exact hps x)
  rw [hrc] at hy
  refine ⟨fn,_,assign,body,hy,roundIn_of_wpIn hfn (hassign _ x W _ ?_)⟩
  clear hy
  refine ⟨_,run_beginRound hl (by rw [hrc]),?_⟩
  generalize hWb : W.putObj (w.heap.size + 1) (.loop { rc .ready none with state:=.busy })=Wb
  have hl2 : Wb.heap[w.heap.size + 1]? = some (.loop { rc .ready none with state:=.busy }):=by rw [← hWb];exact World.putObj_heap_same hlt
  have hk2 : Wb.heap[w.heap.size]? = some (.deferred (some [])):=by rw [← hWb];exact (World.putObj_heap_other (by omega)).trans hk
  have hw2 : KT T W Wb:=by rw [← hWb];exact KT.put _ _ _ hTl
  have hib : I pre Wb:=by rw [← hWb];exact hI _ _ _ hi (Turn.put (by omega) hl rfl)
  refine wpIn_mono (hbody _ pre x Wb (by omega) (by have:=hw2.1;omega) hib hlen) ?_
  have fin : ∀ (jump : Option Code) (W3 : World),KeepsFrom w.heap.size Wb W3→
    (Instr.endRound (w.heap.size + 1) jump).run P W3=.ok (.bool jump.isNone) (W3.putObj (w.heap.size + 1) (.loop (rc (if jump.isNone then .ready else .done) jump)))∧
    W3.heap[w.heap.size + 1]? = some (.loop { rc .ready none with state:=.busy })∧
    (W3.putObj (w.heap.size + 1) (.loop (rc (if jump.isNone then .ready else .done) jump))).heap[w.heap.size + 1]? = some (.loop (rc (if jump.isNone then .ready else .done) jump))∧
    (W3.putObj (w.heap.size + 1) (.loop (rc (if jump.isNone then .ready else .done) jump))).heap[w.heap.size]? = some (.deferred (some [])):=fun jump W3 hk3=>by
   have hl3:=hk3.same _ _ (by omega) hl2 rfl
   have:=run_endRound (P:=P) jump hl3
   rw [hrc] at this ⊢
   exact⟨this,by rw [hrc] at hl3;exact hl3,World.putObj_heap_same (Array.getElem?_eq_some_iff.1 hl3).1,(World.putObj_heap_other (by omega)).trans (hk3.same _ _ (Nat.le_refl _) hk2 rfl)⟩
  have leave : ∀ (c : Code) (W3 : World),KeepsFrom w.heap.size Wb W3→Ix c (pre ++ [x]) W3→∃ v W4,(Instr.endRound (w.heap.size + 1) (some c)).run P W3=.ok (.bool v) W4∧v=false∧∃ c',Ix c' (pre ++ [x]) W4∧W4.heap[w.heap.size + 1]? = some (.loop (rc .done (some c')))∧W4.heap[w.heap.size]? = some (.deferred (some [])):=fun c W3 hk3 hi3=>by
   obtain⟨hr,hl3,hl4,hk4⟩:=fin (some c) W3 hk3
   exact⟨_,_,hr,rfl,c,hIx _ _ _ _ hi3 (Turn.put (by omega) hl3 rfl),hl4,hk4⟩
  rintro e a3 W3 hp
  cases e with
  | normal=>
   obtain⟨hk3,hkp3,hi3⟩:=hp
   obtain⟨hr,hl3,hl4,hk4⟩:=fin none W3 hk3
   exact⟨_,_,hr,.inl ⟨rfl,⟨hI _ _ _ hi3 (Turn.put (by omega) hl3 rfl),hl4,hk4⟩,hw2.trans (hkp3.trans (KT.put _ _ _ hTl))⟩⟩
  | ret=>obtain ⟨v,W4,hr,rfl,h⟩:=leave .ret W3 hp.1 hp.2;exact ⟨_,_,hr,.inr ⟨rfl,h⟩⟩
  | exit id=>obtain ⟨v,W4,hr,rfl,h⟩:=leave (.exit id) W3 hp.1 hp.2;exact ⟨_,_,hr,.inr ⟨rfl,h⟩⟩
  | goto t=>obtain ⟨v,W4,hr,rfl,h⟩:=leave (.goto t) W3 hp.1 hp.2;exact ⟨_,_,hr,.inr ⟨rfl,h⟩⟩
  | panic ch=>exact hp.elim
  | outgrown=>exact hp.elim
 ·rintro e W2 ⟨⟨v,rfl⟩,(⟨xs,hS,hi,hl,hk⟩ | ⟨pre,hSp,c,hi,hl,hk⟩)⟩
  ·exact ⟨none,_,by have:=run_endLoop (P:=P) hl (by rw [hrc];simp);rw [hrc] at this;exact this,hdone _ xs _ (Nat.le_refl _) hS (hI _ _ _ hi (Turn.put (by omega) hl rfl)) ((World.putObj_heap_other (by omega)).trans hk)⟩
  ·exact ⟨some c,_,by have:=run_endLoop (P:=P) hl (by rw [hrc];simp);rw [hrc] at this;exact this,hstop _ c pre _ (Nat.le_refl _) hSp (hIx c _ _ _ hi (Turn.put (by omega) hl rfl)) ((World.putObj_heap_other (by omega)).trans hk)⟩
end Go.Proofs.YtihdbncoijhihaaGreatDoor
namespace Go.Proofs.YtihdbncoijhihaaGreatDoor
open Go.RowKit Go.Shelf
attribute [local go_sem] Oper.semAt_some
def PSt (l : List UInt8) (pre : List (List UInt8)) (fr k : Nat) : Prop:=
 fr≤l.length + 1∧((k≤l.length∧fr≤k∧partsL l=pre ++ partsL (l.drop fr)∧∀ x ∈ (l.take k).drop fr,x≠47)∨(k=l.length + 1∧partsL l=pre))
theorem pst_start (l : List UInt8) : PSt l [] 0 0:=⟨by omega,.inl ⟨by omega,Nat.le_refl _,by simp,by simp⟩⟩
theorem pst_skip {l : List UInt8} {pre : List (List UInt8)} {fr k : Nat} (h : PSt l pre fr k) (hk : k < l.length) (hx : l[k]≠47) : PSt l pre fr (k + 1):=by
 obtain⟨h1,⟨h2,h3,h4,h5⟩ | ⟨h2,-⟩⟩:=h
 ·refine ⟨h1,.inl ⟨hk,by omega,h4,fun x hxm=>?_⟩⟩
  rw [List.take_succ_eq_append_getElem hk,List.drop_append_of_le_length (by rw [List.length_take];omega)] at hxm
  rcases List.mem_append.1 hxm with hxm | hxm
  ·exact h5 x hxm
  ·rw [List.mem_singleton] at hxm;subst hxm;exact hx
 ·omega
theorem pst_end {l : List UInt8} {pre : List (List UInt8)} {fr k : Nat} (h : PSt l pre fr k) (hk : l.length < k) : partsL l=pre:=by
 obtain⟨-,⟨h2,-⟩ | ⟨-,h3⟩⟩:=h
 ·omega
 ·exact h3
def segP (l : List UInt8) (fr k : Nat) : List UInt8:=(l.take k).drop fr
theorem pst_split {l : List UInt8} {fr k : Nat} (hk : k < l.length) (hf : fr≤k) (hx : l[k]=47) : l.drop fr=segP l fr k ++ 47 :: l.drop (k + 1):=by
 unfold segP
 conv=>lhs;rw [← List.take_append_drop k l]
 rw [List.drop_append_of_le_length (by rw [List.length_take];omega),List.drop_eq_getElem_cons hk,hx]
theorem pst_cut {l : List UInt8} {pre : List (List UInt8)} {fr k : Nat} (h : PSt l pre fr k) (hk : k≤l.length) (hx : ∀ (h : k < l.length),l[k]=47) :
  fr≤k∧partsL l=pre ++ ((if segP l fr k=[]∨segP l fr k=[46] then [] else [segP l fr k]) ++ (if k < l.length then partsL (l.drop (k + 1)) else []))∧
   ∀ pre',(partsL l=pre' ++ (if k < l.length then partsL (l.drop (k + 1)) else []))→PSt l pre' (k + 1) (k + 1):=by
 obtain⟨h1,⟨h2,h3,h4,h5⟩ | ⟨h2,-⟩⟩:=h
 ·by_cases hlt : k < l.length
  ·refine ⟨h3,?_,fun pre' hp=>⟨by omega,.inl ⟨by omega,Nat.le_refl _,?_,?_⟩⟩⟩
   ·rw [h4,pst_split hlt h3 (hx hlt),parts_app (segP l fr k) _ h5,if_pos hlt]
   ·rw [if_pos hlt] at hp;exact hp
   ·rw [List.drop_eq_nil_of_le (by rw [List.length_take];omega)];simp
  ·refine ⟨h3,?_,fun pre' hp=>⟨by omega,.inr ⟨by omega,?_⟩⟩⟩
   ·obtain rfl : k=l.length:=by omega
    rw [h4,if_neg hlt,List.append_nil]
    have : l.drop fr=segP l fr l.length:=by unfold segP;rw [List.take_length]
    rw [this,parts_one (segP l fr l.length) h5]
   ·rw [if_neg hlt,List.append_nil] at hp;exact hp
 ·omega
theorem pst_none {l : List UInt8} {pre : List (List UInt8)} {fr k : Nat} (h : PSt l pre fr k) (hk : k≤l.length) (hx : ∀ (h : k < l.length),l[k]=47) (hs : segP l fr k=[]∨segP l fr k=[46]) : PSt l pre (k + 1) (k + 1):=by
 obtain⟨-,h2,h3⟩:=pst_cut h hk hx
 refine h3 pre ?_
 rw [h2,if_pos hs,List.nil_append]
theorem pst_some {l : List UInt8} {pre : List (List UInt8)} {fr k : Nat} (h : PSt l pre fr k) (hk : k≤l.length) (hx : ∀ (h : k < l.length),l[k]=47) (hs : ¬ (segP l fr k=[]∨segP l fr k=[46])) :
  PSt l (pre ++ [segP l fr k]) (k + 1) (k + 1)∧(pre ++ [segP l fr k]) <+: partsL l:=by
 obtain⟨-,h2,h3⟩:=pst_cut h hk hx
 rw [if_neg hs,← List.append_assoc] at h2
 exact⟨h3 _ h2,⟨_,h2.symm⟩⟩
theorem pst_le {l : List UInt8} {pre : List (List UInt8)} {fr k : Nat} (h : PSt l pre fr k) (hk : k≤l.length) : fr≤k:=by
 obtain⟨h1,⟨h2,h3,h4,h5⟩ | ⟨h2,-⟩⟩:=h
 ·exact h3
 ·omega
theorem pst_size {l : List UInt8} {pre : List (List UInt8)} {fr k : Nat} (h : PSt l pre fr k) : k≤l.length + 1:=by
 obtain⟨h1,⟨h2,h3,h4,h5⟩ | ⟨h2,-⟩⟩:=h
 ·omega
 ·omega
theorem str_extr (l : List UInt8) (a b : Nat) : (str l).extract a b=str ((l.take b).drop a):=by
 have : ((str l).extract a b).data.toList=(str ((l.take b).drop a)).data.toList:=by rw [extract_list,str_list,str_list]
 rw [← str_of ((str l).extract a b),this,str_list]
theorem prefix_take {α : Type} {a b : List α} (h : a <+: b) : ∃ m,a=b.take m:=⟨a.length,(List.prefix_iff_eq_take.1 h)⟩
theorem scope_end {P : Program} {fn : Func} {R : Ending→World→Prop} {tmps : Array Value} {W : World} {v : Value} (h : (results fn tmps).run P W=.ok v W) (hR : R (.returned v) W) : Exit.noGoto (bodyPost P fn R) .ret { tmps,defers:=[] } W:=
 bodyPost_ret h rfl hR
theorem seg_str (s : ByteArray) (a b : Nat) : s.extract a b=str (segP s.data.toList a b):=by
 show s.extract a b=str ((s.data.toList.take b).drop a)
 rw [← str_extr,str_of]
set_option maxRecDepth 100000 in
set_option maxHeartbeats 2000000 in
theorem parts_stops (n : Nat) (hn : 1≤n) (Bs : Nat) (s : ByteArray) (hl : s.size≤100000) (w : World) (hs : Blk w Bs #[.string s] 9) :
  SeqT (fun k=>k=Bs) Fence.wide n Tryz.prog 268 #[.pointer (some ⟨Bs,0,none⟩)] (fun x : List UInt8=>#[.string (str x)])
   (fun xs=>xs=partsL s.data.toList) (fun pre=>∃ m,pre=(partsL s.data.toList).take m) (fun pre x=>(pre ++ [x]) <+: partsL s.data.toList) w:=fun L J Jx W hW hWs hJ hJx hY h0=>by
 have Hs:=Lib.hid (show Blk W Bs #[.string s] 9 from (hW.2 Bs rfl).trans hs)
 have HSz:=Lib.hid (show s.data.toList.length=s.size from Array.length_toList)
 have HCh:=Lib.hid (fun (k : Nat) (hk : k < s.data.toList.length) (hk2 : k < s.size)=>show s.data.toList[k]=s[k] from rfl)
 have HY:=Lib.hid hY
 clear hs hW hWs hY
 refine callsIn_of_wp Tryz.func268 rfl trivial ?_ rfl
 simp only [Tryz.ntmps268,List.size_toArray,List.length_cons,List.length_nil,Nat.reduceAdd,Nat.reduceSub,Array.replicate_succ,Array.replicate_zero,List.push_toArray,List.append_toArray,List.nil_append,List.cons_append]
 refine (wpIn_wide (n:=n)).2 (wp_scope_straight ((wpIn_wide (n:=n)).1 ?_))
 refine wpIn_seq ?_
 gi_wp2
 refine wpIn_label ?_
 gi_wp2
 gi_loopw [3,4] (fun f a wr=>∃ (pre : List (List UInt8)) (fr k : Nat),f=.int .i64 fr∧a=.int .i64 k∧PSt s.data.toList pre fr k∧J pre wr∧Blk wr Bs #[.string s] 9) (fun _ a _=>s.size + 1 - (intOf a).toNat)
 case atStart=>exact ⟨[],0,0,rfl,rfl,pst_start _,h0,Hs.out⟩
 case round=>
  obtain⟨pre,fr,k,rfl,rfl,hp,hJp,hbs⟩:=hrel
  have HP:=Lib.hid hp
  have HJ0:=Lib.hid hJp
  have HBs:=Lib.hid hbs
  have hks : k≤s.size + 1:=by have:=pst_size hp;rw [HSz.out] at this;exact this
  obtain⟨cs,fs,ls⟩:=hbs.facts
  clear hp hJp hbs
  by_cases hk : k≤s.size
  ·have hfr : fr≤k:=pst_le HP.out (by rw [HSz.out];exact hk)
   by_cases hc : ∃ h : k < s.size,s[k]≠47
   ·obtain ⟨hkl,hc⟩:=hc
    have HN:=Lib.hid (pst_skip HP.out (by rw [HSz.out];exact hkl) hc)
    have hc1 : ((s[k].toNat : Int) != 47)=true:=by
     simp only [bne_iff_ne,ne_eq]
     intro h
     exact hc (by rw [u8_eq];show s[k].toNat=47;omega)
    clear hc
    gi_wp2
    go_roundw
    case rel=>exact ⟨pre,fr,k + 1,rfl,by go_num,HN.out,HJ0.out,HBs.out⟩
    case measure=>simp [intOf];omega
   ·have HX:=Lib.hid (show ∀ (h : k < s.data.toList.length),s.data.toList[k]=47 from fun h=>Decidable.not_not.1 (fun h2=>hc ⟨by rw [← HSz.out];exact h,h2⟩))
    have HK:=Lib.hid (show k≤s.data.toList.length by rw [HSz.out];exact hk)
    obtain⟨p,hp⟩ : ∃ p,s.extract fr k=p:=⟨_,rfl⟩
    have HPe:=Lib.hid (show p=str (segP s.data.toList fr k) by rw [← hp,seg_str])
    have hpl : p.toList=segP s.data.toList fr k:=by rw [HPe.out,ba_list,str_list]
    have HPl:=Lib.hid hpl
    clear hpl
    have htest : ((k : Int) < (s.size : Int)→∀ h : k < s.size,((s[k].toNat : Int) != 47)=false):=fun _ h=>by
     have:=HX.out (by rw [HSz.out];exact h)
     have h2 : s[k]=47:=this
     rw [h2];rfl
    by_cases he : segP s.data.toList fr k=[]
    ·have HN:=Lib.hid (pst_none HP.out HK.out HX.out (.inl he))
     have hp1 : p.toList=[]:=by rw [HPl.out];exact he
     clear he
     by_cases hkl : k < s.size
     ·have hc1:=htest (by omega) hkl
      clear htest
      gi_wp2
      go_roundw
      case rel=>exact ⟨pre,k + 1,k + 1,by go_num,by go_num,HN.out,HJ0.out,HBs.out⟩
      case measure=>simp [intOf];omega
     ·obtain rfl : k=s.size:=by omega
      clear htest
      gi_wp2
      go_roundw
      case rel=>exact ⟨pre,_,_,by go_num,by go_num,HN.out,HJ0.out,HBs.out⟩
      case measure=>simp [intOf]
    ·by_cases hd : segP s.data.toList fr k=[46]
     ·have HN:=Lib.hid (pst_none HP.out HK.out HX.out (.inr hd))
      have hp1 : p.toList=[46]:=by rw [HPl.out];exact hd
      clear he hd
      by_cases hkl : k < s.size
      ·have hc1:=htest (by omega) hkl
       clear htest
       gi_wp2
       go_roundw
       case rel=>exact ⟨pre,k + 1,k + 1,by go_num,by go_num,HN.out,HJ0.out,HBs.out⟩
       case measure=>simp [intOf];omega
      ·obtain rfl : k=s.size:=by omega
       clear htest
       gi_wp2
       go_roundw
       case rel=>exact ⟨pre,_,_,by go_num,by go_num,HN.out,HJ0.out,HBs.out⟩
       case measure=>simp [intOf]
     ·have hN:=pst_some HP.out HK.out HX.out (by rintro (h | h);exact he h;exact hd h)
      have HN:=Lib.hid hN.1
      have HV:=Lib.hid hN.2
      have hp1 : p.toList.isEmpty=false:=by rw [HPl.out];simpa using he
      have hp2 : (p.toList == [46])=false:=by rw [HPl.out];simpa using hd
      clear he hd hN
      by_cases hkl : k < s.size
      ·have hc1:=htest (by omega) hkl
       clear htest
       obtain⟨fn,tmps,assign,body,hy,hR⟩:=HY.out pre _ wr HJ0.out HV.out
       have hy2 : (Instr.yield L #[.string p]).run Tryz.prog wr=.ok (.round L fn tmps assign body) wr:=by rw [HPe.out];exact hy
       have HR:=Lib.hid hR
       clear hy hR
       gi_wp2
       refine HR.out.mono ?_
       rintro e W3 (⟨rfl,hJ3,hk3⟩ | ⟨rfl,hJx3⟩)
       ·have HJ3:=Lib.hid hJ3
        have HB3:=Lib.hid (show Blk W3 Bs #[.string s] 9 from (hk3.2 Bs rfl).trans HBs.out)
        clear hJ3 hk3 hy2
        gi_wp2
        go_roundw
        case rel=>exact ⟨_,k + 1,k + 1,by go_num,by go_num,HN.out,HJ3.out,HB3.out⟩
        case measure=>simp [intOf];omega
       ·have HJx:=Lib.hid hJx3
        clear hJx3 hy2
        gi_wp2
        exact scope_end (results_none rfl _ _ _) ⟨⟨_,rfl⟩,.inr ⟨_,prefix_take HV.out,HJx.out⟩⟩
      ·obtain rfl : k=s.size:=by omega
       clear htest
       obtain⟨fn,tmps,assign,body,hy,hR⟩:=HY.out pre _ wr HJ0.out HV.out
       have hy2 : (Instr.yield L #[.string p]).run Tryz.prog wr=.ok (.round L fn tmps assign body) wr:=by rw [HPe.out];exact hy
       have HR:=Lib.hid hR
       clear hy hR
       gi_wp2
       refine HR.out.mono ?_
       rintro e W3 (⟨rfl,hJ3,hk3⟩ | ⟨rfl,hJx3⟩)
       ·have HJ3:=Lib.hid hJ3
        have HB3:=Lib.hid (show Blk W3 Bs #[.string s] 9 from (hk3.2 Bs rfl).trans HBs.out)
        clear hJ3 hk3 hy2
        gi_wp2
        go_roundw
        case rel=>exact ⟨_,_,_,by go_num,by go_num,HN.out,HJ3.out,HB3.out⟩
        case measure=>simp [intOf]
       ·have HJx:=Lib.hid hJx3
        clear hJx3 hy2
        gi_wp2
        exact scope_end (results_none rfl _ _ _) ⟨⟨_,rfl⟩,.inr ⟨_,prefix_take HV.out,HJx.out⟩⟩
  ·have HE:=Lib.hid (pst_end HP.out (by rw [HSz.out];omega))
   have hk' : ¬ (k : Int)≤(s.size : Int):=by omega
   gi_wp2
   go_end0
   exact⟨⟨_,rfl⟩,.inl (by rw [HE.out];exact HJ0.out)⟩
end Go.Proofs.YtihdbncoijhihaaGreatDoor
namespace Go.Proofs.YtihdbncoijhihaaGreatDoor
open Go
def noDefer (ops : Array Oper) : Bool:=ops.all fun o=>match o.op with | .defer _=>false | _=>true
theorem noDefer_spec {ops : Array Oper} (h : noDefer ops=true) {i : Nat} {o : Oper} (hi : ops[i]? = some o) : ∀ c,o.op≠.defer c:=by
 intro c hc
 unfold noDefer at h
 rw [Array.all_eq_true] at h
 obtain⟨hlt,rfl⟩:=Array.getElem?_eq_some_iff.1 hi
 have:=h i hlt
 rw [hc] at this
 cases this
section
variable {P : Program} {ops : Array Oper} {md : Region.Mode} {w : World} {l : Nat} {n : Nat}
end
end Go.Proofs.YtihdbncoijhihaaGreatDoor
namespace Go.Proofs.YtihdbncoijhihaaGreatDoor
open Go.RowKit
def ent (x : Int × Value × Nat) : MapEntry:={ key:=.int .i64 x.1,val:=x.2.1,born:=x.2.2 }
def MapB (w : World) (m : Nat) (l : List (Int × Value × Nat)) (clk : Nat) : Prop:=w.heap[m]? = some (.map (l.map ent).toArray clk)
def KeysOnce (l : List (Int × Value × Nat)) : Prop:=(l.map (·.1)).Nodup
def mapFind (l : List (Int × Value × Nat)) (k : Int) : Option Value:=(l.find? (fun x=>x.1 == k)).map (·.2.1)
def mapPut (l : List (Int × Value × Nat)) (k : Int) (v : Value) : List (Int × Value × Nat):=l.map fun x=>if x.1 == k then (k,v,x.2.2) else x
def mapDel (l : List (Int × Value × Nat)) (k : Int) : List (Int × Value × Nat):=l.filter fun x=>!(x.1 == k)
theorem MapB.lt {w : World} {m : Nat} {l : List (Int × Value × Nat)} {clk : Nat} (h : MapB w m l clk) : m < w.heap.size:=by
 unfold MapB at h
 exact (Array.getElem?_eq_some_iff.1 h).1
theorem MapB.old {w : World} {m : Nat} {l : List (Int × Value × Nat)} {clk : Nat} (h : MapB w m l clk) (o : Obj) : MapB (w.alloc o) m l clk:=
 (Below.heap_alloc w o m h.lt).trans h
theorem MapB.keep {w w' : World} {m : Nat} {l : List (Int × Value × Nat)} {clk : Nat} (h : MapB w m l clk) (hb : Below w.heap.size w w') : MapB w' m l clk:=
 (hb.block m h.lt).trans h
theorem MapB.setOther {w : World} {m : Nat} {l : List (Int × Value × Nat)} {clk : Nat} (h : MapB w m l clk) (a : Addr) (v : Value) (hne : a.block≠m) : MapB (w.setCell a v) m l clk:=
 (Below.heap_setCell w a v m (fun e=>hne e.symm)).trans h
theorem findNow_list (k : Int) : ∀ (l : List (Int × Value × Nat)) (i : Nat),
  Instr.findNow (.int .i64) (.int .i64 k) (l.map ent) i=some ((l.findIdx? (fun x=>x.1 == k)).bind fun j=>(l[j]?).map fun x=>(i + j,x.2.1))
 | [],i=>by simp [Instr.findNow]
 | x :: l,i=>by
  have ih:=findNow_list k l (i + 1)
  rw [List.map_cons]
  unfold Instr.findNow
  have hs : Instr.sameNow (.int .i64) (.int .i64 k) (ent x).key=some (k == x.1):=by simp [Instr.sameNow,ent]
  rw [hs]
  by_cases e : x.1=k
  ·subst e;simp [List.findIdx?_cons,ent]
  ·have e1 : (k == x.1)=false:=by simpa using fun h=>e h.symm
   have e2 : (x.1 == k)=false:=by simpa using e
   rw [e1]
   show Instr.findNow _ _ _ _=_
   rw [ih]
   simp only [List.findIdx?_cons,e2,Bool.false_eq_true,if_false]
   congr 1
   cases List.findIdx? (fun x=>x.1 == k) l with
   | none=>rfl
   | some j=>simp;congr 1;funext y;simp;omega
theorem mapFind_idx (k : Int) : ∀ (l : List (Int × Value × Nat)),mapFind l k=(l.findIdx? (fun x=>x.1 == k)).bind fun j=>(l[j]?).map fun x=>x.2.1
 | []=>rfl
 | x :: l=>by
  have ih:=mapFind_idx k l
  unfold mapFind at ih ⊢
  by_cases e : (x.1 == k)=true
  ·simp [List.findIdx?_cons,e]
  ·simp only [Bool.not_eq_true] at e
   simp only [List.find?_cons,List.findIdx?_cons,e,Bool.false_eq_true,if_false,ih]
   cases List.findIdx? (fun x=>x.1 == k) l <;> simp
theorem mapPut_idx (k : Int) (v : Value) : ∀ (l : List (Int × Value × Nat)) (j : Nat),KeysOnce l→l.findIdx? (fun x=>x.1 == k)=some j→
  ((l.map ent).modify j fun e=>{ e with key:=.int .i64 k,val:=v })=(mapPut l k v).map ent
 | [],j,_,h=>by simp at h
 | x :: l,j,hn,h=>by
  unfold KeysOnce at hn
  simp only [List.map_cons,List.nodup_cons] at hn
  obtain⟨hx,hl⟩:=hn
  by_cases e : (x.1 == k)=true
  ·simp only [List.findIdx?_cons,e,if_true,Option.some.injEq] at h
   subst h
   have e' : x.1=k:=by simpa using e
   have hrest : mapPut l k v=l:=by
    unfold mapPut
    rw [List.map_congr_left (g:=id)]
    ·simp
    ·intro y hy
     have : ¬ y.1=k:=fun h'=>hx (by rw [e',← h'];exact List.mem_map.2 ⟨y,hy,rfl⟩)
     simp [this]
   have hput : mapPut (x :: l) k v=(k,v,x.2.2) :: l:=by
    unfold mapPut at hrest ⊢
    rw [List.map_cons,hrest,e,if_pos rfl]
   rw [hput]
   rfl
  ·simp only [Bool.not_eq_true] at e
   simp only [List.findIdx?_cons,e,Bool.false_eq_true,if_false,Option.map_eq_some_iff] at h
   obtain⟨j',hj,rfl⟩:=h
   have ih:=mapPut_idx k v l j' hl hj
   unfold mapPut at ih ⊢
   simp only [List.map_cons,List.modify_succ_cons,e,Bool.false_eq_true,if_false]
   rw [ih]
theorem mapFind_none {l : List (Int × Value × Nat)} {k : Int} : mapFind l k=none ↔ l.findIdx? (fun x=>x.1 == k)=none:=by
 rw [List.findIdx?_eq_none_iff]
 unfold mapFind
 simp
section
variable {P : Program} {K E T : TypeId} {w : World} {m : Nat} {l : List (Int × Value × Nat)} {clk : Nat}
theorem checkKey_int (b : Bool) (hk : P.underlying K=some (.int .i64)) (v : Value) (w : World) : (Instr.checkKey b 10000 K v).run P w=.ok () w:=by
 unfold Instr.checkKey
 simp [run_underlying hk]
theorem run_findKey (hk : P.underlying K=some (.int .i64)) (k : Int) (w : World) : (Instr.findKey K (.int .i64 k) (l.map ent)).run P w=.ok ((l.findIdx? (fun x=>x.1 == k)).bind fun j=>(l[j]?).map fun x=>(j,x.2.1)) w:=by
 unfold Instr.findKey
 simp [run_underlying hk,findNow_list]
theorem run_lookup_yes (ht : P.underlying T=some (.map K E)) (hk : P.underlying K=some (.int .i64)) (h : MapB w m l clk) {k : Int} {v : Value} (hf : mapFind l k=some v) :
  (Instr.lookup T (.map (some m)) (.int .i64 k) true).run P w=.ok (.tuple #[v,.bool true]) w:=by
 rw [mapFind_idx] at hf
 unfold MapB at h
 simp only [Option.bind_eq_some_iff,Option.map_eq_some_iff] at hf
 obtain⟨j,hj,x,hx,rfl⟩:=hf
 unfold Instr.lookup
 simp [run_underlying ht,getObj,Sem.run,h,checkKey_int _ hk,run_findKey hk,hj,hx]
theorem run_lookup_no (ht : P.underlying T=some (.map K E)) (hk : P.underlying K=some (.int .i64)) (h : MapB w m l clk) {k : Int} (hf : mapFind l k=none) {z : Value} (hz : (zeroValue E).run P w=.ok z w) :
  (Instr.lookup T (.map (some m)) (.int .i64 k) true).run P w=.ok (.tuple #[z,.bool false]) w:=by
 rw [mapFind_none] at hf
 unfold MapB at h
 unfold Instr.lookup
 simp [run_underlying ht,getObj,Sem.run,h,checkKey_int _ hk,run_findKey hk,hf,hz]
theorem run_put (ht : P.underlying T=some (.map K E)) (hk : P.underlying K=some (.int .i64)) (h : MapB w m l clk) (hn : KeysOnce l) {k : Int} {v0 v : Value} (hf : mapFind l k=some v0) :
  (Instr.mapUpdate T (.map (some m)) (.int .i64 k) v).run P w=.ok () (ChangeMaps.setBlock w m (.map ((mapPut l k v).map ent).toArray clk)):=by
 rw [mapFind_idx] at hf
 unfold MapB at h
 simp only [Option.bind_eq_some_iff,Option.map_eq_some_iff] at hf
 obtain⟨j,hj,x,hx,rfl⟩:=hf
 have hp:=mapPut_idx k v l j hn hj
 have hxk : x.1=k:=by
  obtain⟨hlt,h1,-⟩:=List.findIdx?_eq_some_iff_getElem.1 hj
  rw [List.getElem?_eq_getElem hlt] at hx
  obtain rfl:=Option.some.inj hx
  simpa using h1
 have hst : (Instr.keyThatStays (ent x).key (.int .i64 k)).run P w=.ok (.int .i64 k) w:=by
  subst hxk
  simp [Instr.keyThatStays,Instr.sameBits,ent]
 unfold Instr.mapUpdate
 simp [run_underlying ht,getObj,setObj,Sem.run,h,checkKey_int _ hk,run_findKey hk,hj,hx,hst,hp,ChangeMaps.setBlock]
theorem run_add (ht : P.underlying T=some (.map K E)) (hk : P.underlying K=some (.int .i64)) (h : MapB w m l clk) {k : Int} {v : Value} (hf : mapFind l k=none) :
  (Instr.mapUpdate T (.map (some m)) (.int .i64 k) v).run P w=.ok () (ChangeMaps.setBlock w m (.map ((l ++ [(k,v,clk)]).map ent).toArray (clk + 1))):=by
 rw [mapFind_none] at hf
 unfold MapB at h
 unfold Instr.mapUpdate
 simp [run_underlying ht,getObj,setObj,Sem.run,h,checkKey_int _ hk,run_findKey hk,hf,ChangeMaps.setBlock,ent]
theorem run_len (ht : P.underlying T=some (.map K E)) (h : MapB w m l clk) (ty : TypeId) :
  (Builtin.len_ #[T] ty #[.map (some m)]).run P w=.ok (.int .i64 l.length) w:=by
 unfold MapB at h
 unfold Builtin.len_
 simp [run_underlying ht,getObj,Sem.run,h,goInt]
theorem MapB.set (h : MapB w m l clk) (l' : List (Int × Value × Nat)) (clk' : Nat) :
  MapB (ChangeMaps.setBlock w m (.map (l'.map ent).toArray clk')) m l' clk'∧(∀ B vs T,Blk w B vs T→Blk (ChangeMaps.setBlock w m (.map (l'.map ent).toArray clk')) B vs T)∧
   Mod (fun k=>k=m) w (ChangeMaps.setBlock w m (.map (l'.map ent).toArray clk')):=by
 have hlt:=h.lt
 refine ⟨?_,?_,(Mod.refl (fun k=>k=m) w).setBlock (b:=m) (.inl rfl) _⟩
 ·unfold MapB
  simp [ChangeMaps.setBlock,hlt]
 ·intro B vs T hB
  refine hB.setBlock ?_ _
  rintro rfl
  unfold Blk at hB
  unfold MapB at h
  rw [h] at hB
  cases hB
theorem step_put (ht : P.underlying T=some (.map K E)) (hk : P.underlying K=some (.int .i64)) (h : MapB w m l clk) (hn : KeysOnce l) {k : Int} {v0 : Value} (v : Value) (hf : mapFind l k=some v0) :
  ∃ W,(Instr.mapUpdate T (.map (some m)) (.int .i64 k) v).run P w=.ok () W∧MapB W m (mapPut l k v) clk∧(∀ B vs T,Blk w B vs T→Blk W B vs T)∧Mod (fun k=>k=m) w W:=
 ⟨_,run_put ht hk h hn hf,h.set _ _⟩
theorem step_add (ht : P.underlying T=some (.map K E)) (hk : P.underlying K=some (.int .i64)) (h : MapB w m l clk) {k : Int} (v : Value) (hf : mapFind l k=none) :
  ∃ W,(Instr.mapUpdate T (.map (some m)) (.int .i64 k) v).run P w=.ok () W∧MapB W m (l ++ [(k,v,clk)]) (clk + 1)∧(∀ B vs T,Blk w B vs T→Blk W B vs T)∧Mod (fun k=>k=m) w W:=
 ⟨_,run_add ht hk h hf,h.set _ _⟩
end
end Go.Proofs.YtihdbncoijhihaaGreatDoor
