import Derived.Test.YtbndfmkgamdgeaaGreatDoorSO1
import Derived.Test.YtbndfmkgamdgeaaGreatDoorSO2
import Derived.Test.YtbndfmkgamdgeaaGreatDoorSO3
import Derived.Test.YtbndfmkgamdgeaaGreatDoorSO5
import Derived.Test.YtbndfmkgamdgeaaGreatDoorSO6
set_option linter.unusedVariables false
set_option linter.unusedSimpArgs false
set_option maxRecDepth 100000
set_option maxHeartbeats 16000000
namespace Go.Proofs.YtbndfmkgamdgeaaGreatDoor
section
open Go.RowKit
structure Turn (T:Nat→Prop) (B:Nat) (p:Obj→Bool) (W W':World):Prop where
 os:W'.os=W.os
 tape:W'.tape=W.tape
 output:W'.output=W.output
 size:W.heap.size≤W'.heap.size
 block:∀ k o,W.heap[k]? = some o→¬ T k→(B≤k→p o=false)→W'.heap[k]? = some o
def AbT {β:Type} (T:Nat→Prop) (B:Nat) (p:Obj→Bool) (J:β→World→Prop):Prop:=∀ s W W',J s W→Turn T B p W W'→J s W'
def KT (T:Nat→Prop) (W W':World):Prop:=W.heap.size≤W'.heap.size∧∀ k,T k→W'.heap[k]? = W.heap[k]?
theorem KT.refl (T:Nat→Prop) (W:World):KT T W W:=⟨Nat.le_refl _,fun _ _=>rfl⟩
theorem KT.trans {T:Nat→Prop} {A B C:World} (h:KT T A B) (k:KT T B C):KT T A C:=⟨Nat.le_trans h.1 k.1,fun i hi=>(k.2 i hi).trans (h.2 i hi)⟩
theorem KT.of_below {T:Nat→Prop} {W W':World} (h:Below W.heap.size W W') (hT:∀ k,T k→k<W.heap.size):KT T W W':=⟨h.size,fun k hk=>h.block k (hT k hk)⟩
theorem KT.of_mod {T S:Nat→Prop} {W W':World} (h:Mod S W W') (hT:∀ k,T k→k<W.heap.size) (hS:∀ k,T k→¬ S k):KT T W W':=⟨h.size,fun k hk=>h.block k (hT k hk) (hS k hk)⟩
theorem KT.put {T:Nat→Prop} (W:World) (l:Nat) (o:Obj) (h:¬ T l):KT T W (W.putObj l o):=⟨by simp,fun k hk=>World.putObj_heap_other (fun e=>h (e ▸ hk))⟩
theorem Turn.put {T:Nat→Prop} {B:Nat} {p:Obj→Bool} {W:World} {l:Nat} {o o':Obj} (hB:B≤l) (hl:W.heap[l]? = some o) (hp:p o=true):Turn T B p W (W.putObj l o'):=
 ⟨rfl,rfl,rfl,by simp,fun k o2 hk _ h2=>(World.putObj_heap_other (fun e=>by subst e;rw [hl] at hk;injection hk with hk;subst hk;rw [hp] at h2;exact absurd (h2 hB) (by decide))).trans hk⟩
theorem Turn.alloc {T:Nat→Prop} {B:Nat} {p:Obj→Bool} (W:World) (o:Obj):Turn T B p W (W.alloc o):=
 ⟨rfl,rfl,rfl,by simp,fun k o2 hk _ _=>(Below.heap_alloc W o k (Array.getElem?_eq_some_iff.1 hk).1).trans hk⟩
theorem Turn.of_below {T:Nat→Prop} {B:Nat} {p:Obj→Bool} {W W':World} (h:Below W.heap.size W W'):Turn T B p W W':=
 ⟨h.os,h.tape,h.output,h.size,fun k _ hk _ _=>(h.block k (Array.getElem?_eq_some_iff.1 hk).1).trans hk⟩
theorem Turn.of_mod {T S:Nat→Prop} {B:Nat} {p:Obj→Bool} {W W':World} (h:Mod S W W') (hS:∀ k,S k→T k):Turn T B p W W':=
 ⟨h.os,h.tape,h.output,h.size,fun k _ hk hT _=>(h.block k (Array.getElem?_eq_some_iff.1 hk).1 (fun hs=>hT (hS k hs))).trans hk⟩
def SeqT {α:Type} (T:Nat→Prop) (F:Fence) (n:Nat) (P:Program) (g:Nat) (lb:Array Value) (encs:α→Array Value) (S Sp:List α→Prop) (V:List α→α→Prop) (w:World):Prop:=
 ∀ (l:Nat) (J Jx:List α→World→Prop) (W:World),KT T w W→w.heap.size≤W.heap.size→AbT T W.heap.size Obj.isWalk J→AbT T W.heap.size Obj.isWalk Jx→
  (∀ pre x W1,J pre W1→V pre x→YieldAt F (n - 1) P l (encs x) W1 fun e W'=>
   (e=.returned (.bool true)∧J (pre ++ [x]) W'∧KT T W1 W')∨(e=.returned (.bool false)∧Jx (pre ++ [x]) W'))→
  J [] W→
  CallsIn F n P g (#[.func (.yield l) #[] #[]] ++ lb) W fun e W'=>(∃ v,e=.returned v)∧((∃ xs,S xs∧J xs W')∨(∃ pre,Sp pre∧Jx pre W'))
def notCells (o:Obj):Bool:=!o.isCells
theorem walk_notCells {o:Obj} (h:o.isWalk=true):notCells o=true:=by unfold notCells;rw [Obj.not_cells_of_walk h];rfl
theorem wpIn_rangeT {F:Fence} {n:Nat} {P:Program} {w:World} {α:Type} {T:Nat→Prop} {g:Operand} {ps:Array Tmp} {assign body:Code} {Q:Exit→Act→World→Prop} {a:Act}
  (hro:F.round=none) (h1:1≤n) {gf:Nat} {lb:Array Value} (hg:a.eval g=.func (.func gf) #[] lb) (hFg:F.fn gf) (eg:∀ args w,(callFunc gf args).run P w=.ok (.enter gf args) w)
  {encs:α→Array Value} {S Sp:List α→Prop} {V:List α→α→Prop} {w0:World} (hseq:SeqT T F (n - 1) P gf lb encs S Sp V w0)
  (hT:∀ k,T k→k<w.heap.size) (hb0:KT T w0 w) (hps:∀ x,(encs x).size=ps.size)
  (I:List α→World→Prop) (Ix:Code→List α→World→Prop) (hI:AbT T w.heap.size notCells I) (hIx:∀ c,AbT T w.heap.size notCells (Ix c)) (h0:I [] w) (a₁:α→Act)
  (hassign:∀ (l:Nat) (x:α) (W:World) (K:Act→World→Prop),K (a₁ x) W→
   assign.wpIn (F.inRound l) (n - 1 - 1) P (Exit.then K (fun _ _ _=>False)) {tmps:=(ps.zip (encs x)).foldl (fun t (p,v)=>t.setIfInBounds p v) a.tmps,defers:=[]} W)
  (hbody:∀ (l:Nat) (pre:List α) (x:α) (W:World),w.heap.size≤l→l<W.heap.size→I pre W→V pre x→body.wpIn (F.inRound l) (n - 1 - 1) P (ownPostG w.heap.size (KT T) I Ix (pre ++ [x]) W) (a₁ x) W)
  (hdone:∀ (D:Nat) (xs:List α) (W:World),w.heap.size≤D→S xs→I xs W→W.heap[D]? = some (.deferred (some []))→Q .normal {a with defers:={target:=.collected D,args:=#[]} :: a.defers} W)
  (hstop:∀ (D:Nat) (c:Code) (pre:List α) (W:World),w.heap.size≤D→Sp pre→Ix c pre W→W.heap[D]? = some (.deferred (some []))→c.wpIn F n P Q {a with defers:={target:=.collected D,args:=#[]} :: a.defers} W) :
  (Code.rangeFunc g ps assign body).wpIn F n P Q a w:=by
 refine wpIn_rangeFunc fun fn hfn=>?_;rw [hro];obtain⟨rc,hrc⟩:∃ rc:LoopState→Option Code→Loop,rc=fun st pe=>{state:=st,pending:=pe,fn,tmps:=a.tmps,params:=ps,assign,body,defers:=w.heap.size}:=⟨_,rfl⟩;have hTl:¬ T (w.heap.size+1):=fun h=>by have:=hT _ h;omega
 have hTd:¬ T w.heap.size:=fun h=>by have:=hT _ h;omega
 generalize hW1:(w.alloc (.deferred (some []))).alloc (.loop (rc .ready none))=W1;have hs1:W1.heap.size=w.heap.size+2:=by rw [←hW1];simp
 have hL1:W1.heap[w.heap.size+1]? = some (.loop (rc .ready none)):=by
  have:=World.alloc_heap_new (w.alloc (.deferred (some []))) (.loop (rc .ready none));rw [World.size_alloc] at this;rw [←hW1];exact this
 have hD1:W1.heap[w.heap.size]? = some (.deferred (some [])):=by
  rw [←hW1];exact (Below.heap_alloc _ _ _ (by simp)).trans (World.alloc_heap_new w _)
 have hI1:I [] W1:=by rw [←hW1];exact hI _ _ _ (hI _ _ _ h0 (Turn.alloc _ _)) (Turn.alloc _ _)
 have hK1:KT T w W1:=by rw [←hW1];exact KT.of_below ((((Below.refl _ w).alloc (Nat.le_refl _) _).alloc (by simp) _)) hT
 refine ⟨w.heap.size+1,[{target:=.collected w.heap.size,args:=#[]}],W1,{target:=.fn (.func gf) lb,args:=#[.func (.yield (w.heap.size+1)) #[] #[]]},W1,gf,
  #[.func (.yield (w.heap.size+1)) #[] #[]] ++ lb,W1,?_,?_,?_,?_,fun _=>h1,?_⟩
 ·rw [←hW1,hrc];exact run_enterLoop_outer _ _ _ _ _
 ·simp only [resolve,hg];simp [go_sem]
 ·intro f' hf';simp [Target.leads] at hf';subst hf';exact hFg
 ·simp [invoke,go_sem,eg]
 have turnW:∀ {A B:World},Turn T W1.heap.size Obj.isWalk A B→Turn T w.heap.size notCells A B:=fun h=>
  ⟨h.os,h.tape,h.output,h.size,fun k o hk ht hp=>h.block k o hk ht (fun hB=>by
   cases hw:o.isWalk with
   | false=>rfl
   | true=>have:=hp (by omega);rw [walk_notCells hw] at this;cases this)⟩
 have keepL:∀ {A B:World} {k:Nat} {o:Obj},Turn T W1.heap.size Obj.isWalk A B→A.heap[k]? = some o→¬ T k→o.isWalk=false→B.heap[k]? = some o:=fun h hk ht hw=>h.block _ _ hk ht (fun _=>hw);refine (hseq (w.heap.size+1)
  (fun pre W=>I pre W∧W.heap[w.heap.size+1]? = some (.loop (rc .ready none))∧W.heap[w.heap.size]? = some (.deferred (some [])))
  (fun pre W=>∃ c,Ix c pre W∧W.heap[w.heap.size+1]? = some (.loop (rc .done (some c)))∧W.heap[w.heap.size]? = some (.deferred (some [])))
  W1 (hb0.trans hK1) (Nat.le_trans hb0.1 hK1.1)
  (fun s A B hs ht=>⟨hI s A B hs.1 (turnW ht),keepL ht hs.2.1 hTl rfl,keepL ht hs.2.2 hTd rfl⟩)
  (fun s A B hs ht=>by
   obtain⟨c,hc,hl,hk⟩:=hs;exact⟨c,hIx c s A B hc (turnW ht),keepL ht hl hTl rfl,keepL ht hk hTd rfl⟩)
  ?_ ⟨hI1,hL1,hD1⟩).mono ?_
 ·rintro pre x W ⟨hi,hl,hk⟩ hlen;have hlt:w.heap.size+1<W.heap.size:=(Array.getElem?_eq_some_iff.1 hl).1;have hy:=run_yield (P:=P) (args:=encs x) hl (by rw [hrc];exact hps x);rw [hrc] at hy;refine ⟨fn,_,assign,body,hy,roundIn_of_wpIn hfn (hassign _ x W _ ?_)⟩;clear hy;refine ⟨_,run_beginRound hl (by rw [hrc]),?_⟩;generalize hWb:W.putObj (w.heap.size+1) (.loop {rc .ready none with state:=.busy})=Wb;have hl2:Wb.heap[w.heap.size+1]? = some (.loop {rc .ready none with state:=.busy}):=by rw [←hWb];exact World.putObj_heap_same hlt
  have hk2:Wb.heap[w.heap.size]? = some (.deferred (some [])):=by rw [←hWb];exact (World.putObj_heap_other (by omega)).trans hk
  have hw2:KT T W Wb:=by rw [←hWb];exact KT.put _ _ _ hTl
  have hib:I pre Wb:=by rw [←hWb];exact hI _ _ _ hi (Turn.put (by omega) hl rfl)
  refine wpIn_mono (hbody _ pre x Wb (by omega) (by have:=hw2.1;omega) hib hlen) ?_;have fin:∀ (jump:Option Code) (W3:World),KeepsFrom w.heap.size Wb W3→
    (Instr.endRound (w.heap.size+1) jump).run P W3=.ok (.bool jump.isNone) (W3.putObj (w.heap.size+1) (.loop (rc (if jump.isNone then .ready else .done) jump)))∧
    W3.heap[w.heap.size+1]? = some (.loop {rc .ready none with state:=.busy})∧
    (W3.putObj (w.heap.size+1) (.loop (rc (if jump.isNone then .ready else .done) jump))).heap[w.heap.size+1]? = some (.loop (rc (if jump.isNone then .ready else .done) jump))∧
    (W3.putObj (w.heap.size+1) (.loop (rc (if jump.isNone then .ready else .done) jump))).heap[w.heap.size]? = some (.deferred (some [])):=fun jump W3 hk3=>by
   have hl3:=hk3.same _ _ (by omega) hl2 rfl;have:=run_endRound (P:=P) jump hl3;rw [hrc] at this ⊢;exact⟨this,by rw [hrc] at hl3;exact hl3,World.putObj_heap_same (Array.getElem?_eq_some_iff.1 hl3).1,(World.putObj_heap_other (by omega)).trans (hk3.same _ _ (Nat.le_refl _) hk2 rfl)⟩
  have leave:∀ (c:Code) (W3:World),KeepsFrom w.heap.size Wb W3→Ix c (pre ++ [x]) W3→∃ v W4,(Instr.endRound (w.heap.size+1) (some c)).run P W3=.ok (.bool v) W4∧v=false∧∃ c',Ix c' (pre ++ [x]) W4∧W4.heap[w.heap.size+1]? = some (.loop (rc .done (some c')))∧W4.heap[w.heap.size]? = some (.deferred (some [])):=fun c W3 hk3 hi3=>by
   obtain⟨hr,hl3,hl4,hk4⟩:=fin (some c) W3 hk3;exact⟨_,_,hr,rfl,c,hIx _ _ _ _ hi3 (Turn.put (by omega) hl3 rfl),hl4,hk4⟩
  rintro e a3 W3 hp
  cases e with
  | normal=>
   obtain⟨hk3,hkp3,hi3⟩:=hp;obtain⟨hr,hl3,hl4,hk4⟩:=fin none W3 hk3;exact⟨_,_,hr,.inl ⟨rfl,⟨hI _ _ _ hi3 (Turn.put (by omega) hl3 rfl),hl4,hk4⟩,hw2.trans (hkp3.trans (KT.put _ _ _ hTl))⟩⟩
  | ret=>obtain ⟨v,W4,hr,rfl,h⟩:=leave .ret W3 hp.1 hp.2;exact ⟨_,_,hr,.inr ⟨rfl,h⟩⟩
  | exit id=>obtain ⟨v,W4,hr,rfl,h⟩:=leave (.exit id) W3 hp.1 hp.2;exact ⟨_,_,hr,.inr ⟨rfl,h⟩⟩
  | goto t=>obtain ⟨v,W4,hr,rfl,h⟩:=leave (.goto t) W3 hp.1 hp.2;exact ⟨_,_,hr,.inr ⟨rfl,h⟩⟩
  | panic ch=>exact hp.elim
  | outgrown=>exact hp.elim
 ·rintro e W2 ⟨⟨v,rfl⟩,(⟨xs,hS,hi,hl,hk⟩|⟨pre,hSp,c,hi,hl,hk⟩)⟩
  ·exact ⟨none,_,by have:=run_endLoop (P:=P) hl (by rw [hrc];simp);rw [hrc] at this;exact this,hdone _ xs _ (Nat.le_refl _) hS (hI _ _ _ hi (Turn.put (by omega) hl rfl)) ((World.putObj_heap_other (by omega)).trans hk)⟩
  ·exact ⟨some c,_,by have:=run_endLoop (P:=P) hl (by rw [hrc];simp);rw [hrc] at this;exact this,hstop _ c pre _ (Nat.le_refl _) hSp (hIx c _ _ _ hi (Turn.put (by omega) hl rfl)) ((World.putObj_heap_other (by omega)).trans hk)⟩
end
section
open Go.RowKit
theorem str_list (l:List UInt8):(str l).data.toList=l:=by simp [str]
theorem ba_list (t:ByteArray):t.toList=t.data.toList:=ByteArray.toList_eq t
theorem trimL_len (l:List UInt8):(trimL l).length≤l.length:=by
 unfold trimL;rw [List.length_reverse];have:=(List.dropWhile_sublist (l:=l.reverse) (fun x=>x == 47)).length_le
 rwa [List.length_reverse] at this
end
section
open Go.RowKit
theorem Tab.keep {w w':World} {p m:Nat} {last:Int} {L:List (Nd×Nat)} {clk:Nat} (h:Tab w p m last L clk) (hb:Below w.heap.size w w'):Tab w' p m last L clk:=
 ⟨h.blk.keep hb,h.map.keep hb,h.once,h.low⟩
theorem Tab.ne {w:World} {p m:Nat} {last:Int} {L:List (Nd×Nat)} {clk:Nat} (hT:Tab w p m last L clk):p≠m:=by
 rintro rfl;have h1:=hT.blk;have h2:=hT.map;unfold Blk at h1;unfold MapB at h2;rw [h1] at h2
 cases h2
theorem mapPut_tab (L:List (Nd×Nat)) (n:Nd):mapPut (L.map tabEnt) n.no n.v=(L.map fun x=>if x.1.no == n.no then (n,x.2) else x).map tabEnt:=by
 unfold mapPut;rw [List.map_map,List.map_map];apply List.map_congr_left;intro x _;by_cases h:x.1.no=n.no <;> simp [tabEnt,h]
theorem set_yes (n0 n:Nd) (w:World) (p m:Nat) (last:Int) (L:List (Nd×Nat)) (clk:Nat) (hT:Tab w p m last L clk) (hf:findNd L n.no=some n0) :
  Calls Tryz.prog 148 #[.pointer (some ⟨p,0,none⟩),n.v] w fun e w'=>e=.returned (.bool true)∧Tab w' p m last (L.map fun x=>if x.1.no == n.no then (n,x.2) else x) clk∧Mod (fun k=>k=p∨k=m) w w':=by
 have Hg:=Lib.hid (fun w' hT'=>get_yes n0 n.no w' p m last L clk hT' hf);have Hf:=Lib.hid (show mapFind (L.map tabEnt) n.no=some n0.v by rw [mapFind_tab,hf];rfl);clear hf;have hpm:=hT.ne;have pw:p≠w.heap.size:=by have:=hT.blk.lt;omega
 unfold Nd.v;go_enter Tryz.func148,Tryz.ntmps148;go_wp2_with fail;refine (Hg.out _ (hT.keep ((Below.refl _ _).alloc (Nat.le_refl _) _))).mono ?_;unfold Nd.v;rintro e w1 ⟨rfl,hb1⟩;go_wp2_with fail;have b1:=(((hT.blk.old (.cells #[.int .i64 n.no,.int .i64 n.dev,.int .i64 n.kind,.int .i64 n.mode,.int .i64 n.uid,.int .i64 n.gid,.int .i64 n.mtime,.int .i64 n.ctime,.int .i64 n.links,.int .i64 n.up,.string n.data,.slice n.ea n.el n.ec] 163)).keep hb1).old (.cells #[.int .i64 n0.no,.int .i64 n0.dev,.int .i64 n0.kind,.int .i64 n0.mode,.int .i64 n0.uid,.int .i64 n0.gid,.int .i64 n0.mtime,.int .i64 n0.ctime,.int .i64 n0.links,.int .i64 n0.up,.string n0.data,.slice n0.ea n0.el n0.ec] 163)).drew;have b2:=(((Blk.new w #[.int .i64 n.no,.int .i64 n.dev,.int .i64 n.kind,.int .i64 n.mode,.int .i64 n.uid,.int .i64 n.gid,.int .i64 n.mtime,.int .i64 n.ctime,.int .i64 n.links,.int .i64 n.up,.string n.data,.slice n.ea n.el n.ec] 163).keep hb1).old (.cells #[.int .i64 n0.no,.int .i64 n0.dev,.int .i64 n0.kind,.int .i64 n0.mode,.int .i64 n0.uid,.int .i64 n0.gid,.int .i64 n0.mtime,.int .i64 n0.ctime,.int .i64 n0.links,.int .i64 n0.up,.string n0.data,.slice n0.ea n0.el n0.ec] 163)).drew;have hT1:=((hT.keep ((Below.refl _ _).alloc (Nat.le_refl _) _)).keep hb1).keep ((Below.refl w1.heap.size w1).alloc (Nat.le_refl _) (.cells #[.int .i64 n0.no,.int .i64 n0.dev,.int .i64 n0.kind,.int .i64 n0.mode,.int .i64 n0.uid,.int .i64 n0.gid,.int .i64 n0.mtime,.int .i64 n0.ctime,.int .i64 n0.links,.int .i64 n0.up,.string n0.data,.slice n0.ea n0.el n0.ec] 163));have b4:Mod (fun k=>k=p∨k=m) w (w1.alloc (.cells #[.int .i64 n0.no,.int .i64 n0.dev,.int .i64 n0.kind,.int .i64 n0.mode,.int .i64 n0.uid,.int .i64 n0.gid,.int .i64 n0.mtime,.int .i64 n0.ctime,.int .i64 n0.links,.int .i64 n0.up,.string n0.data,.slice n0.ea n0.el n0.ec] 163)):=(((Mod.refl _ w).alloc _).trans (.of_below hb1)).alloc _;clear hb1;generalize w1.alloc (.cells #[.int .i64 n0.no,.int .i64 n0.dev,.int .i64 n0.kind,.int .i64 n0.mode,.int .i64 n0.uid,.int .i64 n0.gid,.int .i64 n0.mtime,.int .i64 n0.ctime,.int .i64 n0.links,.int .i64 n0.up,.string n0.data,.slice n0.ea n0.el n0.ec] 163)=W at b1 b2 hT1 b4 ⊢;obtain⟨pc',-,-⟩:=b1.facts;obtain⟨nc,-,-⟩:=b2.facts;obtain⟨W2,hrun,b5,b6,b7⟩:=step_put (w:=W.drew) Tryz.underlying288 Tryz.underlying3 hT1.map hT1.once (.agg #[.int .i64 n.no,.int .i64 n.dev,.int .i64 n.kind,.int .i64 n.mode,.int .i64 n.uid,.int .i64 n.gid,.int .i64 n.mtime,.int .i64 n.ctime,.int .i64 n.links,.int .i64 n.up,.string n.data,.slice n.ea n.el n.ec]) Hf.out
 go_region
 go_wp2_with fail;go_ret;refine ⟨rfl,⟨b6 _ _ _ hT1.blk,by rw [←mapPut_tab];exact b5,?_,?_⟩,(b4.drew).trans (b7.mono fun k hk=>.inr hk)⟩
 ·have:=hT.once;rw [←mapPut_tab];unfold KeysOnce at this ⊢;unfold mapPut;rw [List.map_map,List.map_congr_left (g:=fun x=>x.1)]
  ·exact this
  ·intro x _;simp only [Function.comp]
   split
   ·rename_i h;simpa using (beq_iff_eq.1 h).symm
   ·rfl
 ·intro x hx;obtain⟨y,hy,rfl⟩:=List.mem_map.1 hx;have:=hT.low y hy
  split
  ·rename_i h;have:=beq_iff_eq.1 h;simp only;omega
  ·exact this
end
section
open Go.RowKit
theorem pathE_nil {s:ByteArray} (h:s.size=0):pathE s=5:=by
 unfold pathE;rw [if_pos (List.eq_nil_of_length_eq_zero (by rw [Array.length_toList];exact h))]
theorem pathE_head {s:ByteArray} (h:0<s.size) (h2:s[0]≠47):pathE s=1:=by
 have hd:s.data.toList.head? = some s[0]:=by
  have hl:0<s.data.toList.length:=by simpa using h
  rw [List.head?_eq_getElem?,List.getElem?_eq_getElem hl];rfl
 unfold pathE;rw [if_neg (by intro e;rw [e] at hd;cases hd),if_pos (.inl (by rw [hd];intro e;exact h2 (Option.some.inj e)))]
theorem pathE_rest {s:ByteArray} (h:0<s.size) (h2:s[0]=47):pathE s=if hasB s 0=true then 1 else if 4096<s.size then 13 else 0:=by
 have hd:s.data.toList.head? = some s[0]:=by
  have hl:0<s.data.toList.length:=by simpa using h
  rw [List.head?_eq_getElem?,List.getElem?_eq_getElem hl];rfl
 unfold pathE hasB;rw [if_neg (by intro e;rw [e] at hd;cases hd),hd,h2];simp
theorem contains_any (s:ByteArray) (w:World) :
  Calls Tryz.prog 108 #[.string s,.string (ByteArray.mk #[0])] w fun e w'=>e=.returned (.bool (hasB s 0))∧w=w':=by
 refine (Tryz.strings_Contains_one s 0 w).mono ?_;rintro e w' ⟨rfl,rfl⟩;refine ⟨ret_bool ?_,rfl⟩;unfold hasB;rw [decide_eq_decide];exact idx_pos 0 _
theorem npath_any (s:ByteArray) (w:World) (hs:s.size≤2000000) :
  Calls Tryz.prog 60 #[.string s] w fun e w'=>e=.returned (.int .i64 (pathE s))∧w=w':=by
 rcases Nat.eq_zero_or_pos s.size with h0 | hpos
 ·have HE:=Lib.hid (pathE_nil h0);have hn:s.toList=[]:=by rw [ba_list];exact List.eq_nil_of_length_eq_zero (by rw [Array.length_toList];exact h0)
  clear h0;go_enter Tryz.func60,Tryz.ntmps60;go_wp2_with fail;go_ret;exact⟨by rw [HE.out];rfl,rfl⟩
 ·have hn:¬ s.toList=[]:=by
   rw [ba_list];intro e;have:s.data.toList.length=s.size:=Array.length_toList;rw [e] at this;simp at this;omega
  have hn2:s.toList.isEmpty=false:=by simpa using hn
  by_cases h47:s[0]=47
  ·have hr:=Lib.hid (pathE_rest hpos h47);have hc1:((s[0].toNat:Int) == 47)=true:=by rw [h47];rfl
   have hc2:((s[0].toNat:Int) != 47)=false:=by rw [bne,hc1];rfl
   clear h47;have hc:=Lib.hid (contains_any s);generalize hasB s 0=b at hr hc
   cases b
   ·by_cases hlen:4096<s.size
    ·have hE:=Lib.hid (show pathE s=13 by rw [hr.out];simp [hlen]);go_enter Tryz.func60,Tryz.ntmps60;go_wp2_with (go_at_call 108;refine (hc.out _).mono ?_;rintro e w1 ⟨rfl,rfl⟩);go_ret;exact⟨by rw [hE.out];rfl,rfl⟩
    ·have hE:=Lib.hid (show pathE s=0 by rw [hr.out];simp [hlen]);go_enter Tryz.func60,Tryz.ntmps60;go_wp2_with (go_at_call 108;refine (hc.out _).mono ?_;rintro e w1 ⟨rfl,rfl⟩);go_ret;exact⟨by rw [hE.out];rfl,rfl⟩
   ·have hE:=Lib.hid (show pathE s=1 by rw [hr.out];rfl);go_enter Tryz.func60,Tryz.ntmps60;go_wp2_with (go_at_call 108;refine (hc.out _).mono ?_;rintro e w1 ⟨rfl,rfl⟩);go_ret;exact⟨by rw [hE.out];rfl,rfl⟩
  ·have hE:=Lib.hid (pathE_head hpos h47);have hc1:((s[0].toNat:Int) == 47)=false:=by
    simp only [beq_eq_false_iff_ne,ne_eq];intro h;exact h47 (by rw [u8_eq];show s[0].toNat=47;omega)
   have hc2:((s[0].toNat:Int) != 47)=true:=by rw [bne,hc1];rfl
   clear h47;go_enter Tryz.func60,Tryz.ntmps60;go_wp2_with fail;go_ret;exact⟨by rw [hE.out];rfl,rfl⟩
end
section
open Go.RowKit
theorem spl_app (c:UInt8) (a m:List UInt8):spl c (a ++ c :: m)=spl c a ++ spl c m:=by
 refine snoc_ind (P:=fun m=>spl c (a ++ c :: m)=spl c a ++ spl c m) ?_ (fun m x ih=>?_) m
 ·rw [spl_snoc,splStep,if_pos rfl];rfl
 ·rw [show a ++ c :: (m ++ [x])=(a ++ c :: m) ++ [x] by simp,spl_snoc,ih,spl_snoc];have h0:=(spl_len c m).1;unfold splStep
  split
  ·simp
  ·rw [List.length_append,List.getD_eq_getElem?_getD,List.getD_eq_getElem?_getD,List.getElem?_append_right (by omega),List.set_append_right _ _ (by omega),show (spl c a).length+(spl c m).length - 1 - (spl c a).length=(spl c m).length - 1 by omega]
theorem spl_none (c:UInt8) (l:List UInt8):c∉l→spl c l=[l]:=by
 refine snoc_ind (P:=fun l=>c∉l→spl c l=[l]) (fun _=>rfl) (fun l x ih h=>?_) l;rw [List.mem_append,List.mem_singleton,not_or] at h;rw [spl_snoc,ih h.1,splStep,if_neg (fun e=>h.2 e.symm)];rfl
theorem indexByte_no:∀ (l:List UInt8) (c:UInt8),Lib.indexByte l c=-1→c∉l
 | [],c,_=>by simp
 | b :: l,c,h=>by
  unfold Lib.indexByte at h;have hge:=Lib.indexByte_ge l c
  split at h
  ·omega
  ·rename_i hb
   split at h
   ·rename_i h2;have:=indexByte_no l c (beq_iff_eq.1 h2);rw [List.mem_cons,not_or];exact⟨fun e=>hb (beq_iff_eq.2 e.symm),this⟩
   ·omega
theorem indexByte_yes:∀ (l:List UInt8) (c:UInt8) (i:Nat),Lib.indexByte l c=i→i<l.length∧l=l.take i ++ c :: l.drop (i+1)∧c∉l.take i
 | [],c,i,h=>by unfold Lib.indexByte at h;omega
 | b :: l,c,i,h=>by
  unfold Lib.indexByte at h;have hge:=Lib.indexByte_ge l c
  split at h
  ·rename_i hb;obtain rfl:i=0:=by omega
   refine ⟨by simp,?_,by simp⟩;rw [←beq_iff_eq.1 hb];simp
  ·rename_i hb
   split at h
   ·omega
   ·rename_i h2;obtain⟨j,rfl⟩:∃ j,i=j+1:=⟨i - 1,by have:Lib.indexByte l c≠-1:=fun e=>h2 (beq_iff_eq.2 e);omega⟩;obtain⟨h3,h4,h5⟩:=indexByte_yes l c j (by omega);refine ⟨by simp;omega,?_,?_⟩
    ·rw [List.take_succ_cons,List.drop_succ_cons,List.cons_append,←h4]
    ·rw [List.take_succ_cons,List.mem_cons,not_or];exact⟨fun e=>hb (beq_iff_eq.2 e.symm),h5⟩
theorem extract_list (s:ByteArray) (a b:Nat):(s.extract a b).data.toList=(s.data.toList.take b).drop a:=by
 rw [Lib.extract_data,List.drop_take]
end
section
open Go.RowKit
def cmpB (a b:ByteArray):Int:=if ltB a b=true then -1 else if ltB b a=true then 1 else 0
theorem cmpB_lt (a b:ByteArray):(cmpB a b<0)=(ltB a b=true):=by
 unfold cmpB
 cases h:ltB a b
 ·simp;split <;> omega
 ·simp
theorem cmpB_eq (a b:ByteArray):(cmpB a b=0)=(a=b):=by
 unfold cmpB
 cases h:ltB a b
 ·cases k:ltB b a
  ·simp [ltB_total h k]
  ·simp [(ltB_ne k).symm]
 ·simp [ltB_ne h]
theorem compare_any (a b:ByteArray) (w:World) :
  Calls Tryz.prog 21 #[.string a,.string b] w fun e w'=>e=.returned (.int .i64 (cmpB a b))∧w=w':=by
 unfold cmpB
 cases h:ltB a b
 ·cases k:ltB b a
  ·obtain rfl:a=b:=ltB_total h k;rw [←ltB_mk] at h;clear k;go_enter Tryz.func21,Tryz.ntmps21
   go_wp2
   go_ret;exact⟨rfl,rfl⟩
  ·have hne:¬ a.toList=b.toList:=fun e=>by
    rw [ByteArray.toList_eq,ByteArray.toList_eq] at e;rw [ba_eq e,ltB_irrefl] at k
    cases k
   have hq:(a.toList == b.toList)=false:=by simpa using hne
   rw [←ltB_mk] at h;clear k;go_enter Tryz.func21,Tryz.ntmps21
   go_wp2
   go_ret;exact⟨rfl,rfl⟩
 ·rw [←ltB_mk] at h;go_enter Tryz.func21,Tryz.ntmps21
  go_wp2
  go_ret;exact⟨rfl,rfl⟩
theorem by_any (x:En) (n:ByteArray) (w:World) :
  Calls Tryz.prog 185 #[.agg #[.string x.name,.int .i64 x.no],.string n] w fun e w'=>e=.returned (.int .i64 (cmpB x.name n))∧Below w.heap.size w w':=by
 go_enter Tryz.func185,Tryz.ntmps185;go_wp2_with (go_at_call 21;refine (compare_any _ _ _).mono ?_;rintro e w1 ⟨rfl,rfl⟩);go_ret;exact⟨rfl,by go_grown⟩
end
end Go.Proofs.YtbndfmkgamdgeaaGreatDoor
