import Derived.Test.YtihdbncoijhihaaGreatDoorCT5
import Derived.Test.YtihdbncoijhihaaGreatDoorCT35
import Derived.Test.YtihdbncoijhihaaGreatDoorCT24
import Derived.Test.YtihdbncoijhihaaGreatDoorCT32
set_option linter.unusedVariables false
set_option linter.unusedSimpArgs false
namespace Go.Proofs.YtihdbncoijhihaaGreatDoor
open Go.RowKit
def NoT : Nat→Prop:=fun _=>False
def SeqU {α : Type} (T : Nat→Prop) (F : Fence) (n : Nat) (P : Program) (g : Nat) (lb : Array Value) (encs : α→Array Value) (S Sp : List α→Prop) (V : List α→α→Prop) (w : World) : Prop:=
 ∀ (l : Nat) (J Jx : List α→World→Prop) (W : World),KT T w W→w.heap.size≤W.heap.size→AbT NoT W.heap.size Obj.isWalk J→AbT NoT W.heap.size Obj.isWalk Jx→
  (∀ pre x W1,J pre W1→V pre x→YieldAt F (n - 1) P l (encs x) W1 fun e W'=>
   (e=.returned (.bool true)∧J (pre ++ [x]) W'∧KT T W1 W')∨(e=.returned (.bool false)∧Jx (pre ++ [x]) W'))→
  J [] W→
  CallsIn F n P g (#[.func (.yield l) #[] #[]] ++ lb) W fun e W'=>(∃ v,e=.returned v)∧((∃ xs,S xs∧J xs W')∨(∃ pre,Sp pre∧Jx pre W'))
theorem wpIn_rangeU {F : Fence} {n : Nat} {P : Program} {w : World} {α : Type} {T : Nat→Prop} {g : Operand} {ps : Array Tmp} {assign body : Code} {Q : Exit→Act→World→Prop} {a : Act}
  (hro : F.round=none) (h1 : 1≤n) {gf : Nat} {lb : Array Value} (hg : a.eval g=.func (.func gf) #[] lb) (hFg : F.fn gf) (eg : ∀ args w,(callFunc gf args).run P w=.ok (.enter gf args) w)
  {encs : α→Array Value} {S Sp : List α→Prop} {V : List α→α→Prop} {w0 : World} (hseq : SeqU T F (n - 1) P gf lb encs S Sp V w0)
  (hT : ∀ k,T k→k < w.heap.size) (hb0 : KT T w0 w) (hps : ∀ x,(encs x).size=ps.size)
  (I : List α→World→Prop) (Ix : Code→List α→World→Prop) (hI : AbT NoT w.heap.size notCells I) (hIx : ∀ c,AbT NoT w.heap.size notCells (Ix c)) (h0 : I [] w) (a₁ : α→Act)
  (hassign : ∀ (l : Nat) (x : α) (W : World) (K : Act→World→Prop),K (a₁ x) W→
   assign.wpIn (F.inRound l) (n - 1 - 1) P (Exit.then K (fun _ _ _=>False)) { tmps:=(ps.zip (encs x)).foldl (fun t (p,v)=>t.setIfInBounds p v) a.tmps,defers:=[] } W)
  (hbody : ∀ (l : Nat) (pre : List α) (x : α) (W : World),w.heap.size≤l→l < W.heap.size→I pre W→V pre x→body.wpIn (F.inRound l) (n - 1 - 1) P (ownPostG w.heap.size (KT T) I Ix (pre ++ [x]) W) (a₁ x) W)
  (hdone : ∀ (D : Nat) (xs : List α) (W : World),w.heap.size≤D→S xs→I xs W→W.heap[D]? = some (.deferred (some []))→Q .normal { a with defers:={ target:=.collected D,args:=#[] } :: a.defers } W)
  (hstop : ∀ (D : Nat) (c : Code) (pre : List α) (W : World),w.heap.size≤D→Sp pre→Ix c pre W→W.heap[D]? = some (.deferred (some []))→c.wpIn F n P Q { a with defers:={ target:=.collected D,args:=#[] } :: a.defers } W) :
  (Code.rangeFunc g ps assign body).wpIn F n P Q a w:=by
 refine wpIn_rangeFunc fun fn hfn=>?_
 rw [hro]
 obtain⟨rc,hrc⟩ : ∃ rc : LoopState→Option Code→Loop,rc=fun st pe=>{ state:=st,pending:=pe,fn,tmps:=a.tmps,params:=ps,assign,body,defers:=w.heap.size }:=⟨_,rfl⟩
 have hTl : ¬ T (w.heap.size + 1):=fun h=>by have:=hT _ h;omega
 have hTd : ¬ T w.heap.size:=fun h=>by have:=hT _ h;omega
 generalize hW1 : (w.alloc (.deferred (some []))).alloc (.loop (rc .ready none))=W1
 have hs1 : W1.heap.size=w.heap.size + 2:=by rw [← hW1];simp
 have hL1 : W1.heap[w.heap.size + 1]? = some (.loop (rc .ready none)):=by
  have:=World.alloc_heap_new (w.alloc (.deferred (some []))) (.loop (rc .ready none))
  rw [World.size_alloc] at this
  rw [← hW1];exact this
 have hD1 : W1.heap[w.heap.size]? = some (.deferred (some [])):=by
  rw [← hW1];exact (Below.heap_alloc _ _ _ (by simp)).trans (World.alloc_heap_new w _)
 have hI1 : I [] W1:=by rw [← hW1];exact hI _ _ _ (hI _ _ _ h0 (Turn.alloc _ _)) (Turn.alloc _ _)
 have hK1 : KT T w W1:=by rw [← hW1];exact KT.of_below ((((Below.refl _ w).alloc (Nat.le_refl _) _).alloc (by simp) _)) hT
 refine ⟨w.heap.size + 1,[{ target:=.collected w.heap.size,args:=#[] }],W1,{ target:=.fn (.func gf) lb,args:=#[.func (.yield (w.heap.size + 1)) #[] #[]] },W1,gf,
  #[.func (.yield (w.heap.size + 1)) #[] #[]] ++ lb,W1,?_,?_,?_,?_,fun _=>h1,?_⟩
 ·rw [← hW1,hrc];exact run_enterLoop_outer _ _ _ _ _
 ·simp only [resolve,hg];simp [go_sem]
 ·intro f' hf';simp [Target.leads] at hf';subst hf';exact hFg
 ·simp [invoke,go_sem,eg]
 have turnW : ∀ {A B : World},Turn NoT W1.heap.size Obj.isWalk A B→Turn NoT w.heap.size notCells A B:=fun h=>
  ⟨h.os,h.tape,h.output,h.size,fun k o hk ht hp=>h.block k o hk ht (fun hB=>by
   cases hw : o.isWalk with
   | false=>rfl
   | true=>have:=hp (by omega);rw [walk_notCells hw] at this;cases this)⟩
 have keepL : ∀ {A B : World} {k : Nat} {o : Obj},Turn NoT W1.heap.size Obj.isWalk A B→A.heap[k]? = some o→¬ T k→o.isWalk=false→B.heap[k]? = some o:=fun h hk _ hw=>h.block _ _ hk (fun h=>h) (fun _=>hw)
 refine (hseq (w.heap.size + 1)
  (fun pre W=>I pre W∧W.heap[w.heap.size + 1]? = some (.loop (rc .ready none))∧W.heap[w.heap.size]? = some (.deferred (some [])))
  (fun pre W=>∃ c,Ix c pre W∧W.heap[w.heap.size + 1]? = some (.loop (rc .done (some c)))∧W.heap[w.heap.size]? = some (.deferred (some [])))
  W1 (hb0.trans hK1) (Nat.le_trans hb0.1 hK1.1)
  (fun s A B hs ht=>⟨hI s A B hs.1 (turnW ht),keepL ht hs.2.1 hTl rfl,keepL ht hs.2.2 hTd rfl⟩)
  (fun s A B hs ht=>by
   obtain⟨c,hc,hl,hk⟩:=hs
   exact⟨c,hIx c s A B hc (turnW ht),keepL ht hl hTl rfl,keepL ht hk hTd rfl⟩)
  ?_ ⟨hI1,hL1,hD1⟩).mono ?_
 ·rintro pre x W ⟨hi,hl,hk⟩ hlen
  have hlt : w.heap.size + 1 < W.heap.size:=(Array.getElem?_eq_some_iff.1 hl).1
  have hy:=run_yield (P:=P) (args:=encs x) hl (by rw [hrc];exact hps x)
  rw [hrc] at hy
  refine ⟨fn,_,assign,body,hy,roundIn_of_wpIn hfn (hassign _ x W _ ?_)⟩
  clear hy
  refine ⟨_,run_beginRound hl (by rw [hrc]),?_⟩
  generalize hWb : W.putObj (w.heap.size + 1) (.loop { rc .ready none with state:=.busy })=Wb
  have hl2 : Wb.heap[w.heap.size + 1]? = some (.loop { rc .ready none with state:=.busy }):=by rw [← hWb];exact World.putObj_heap_same hlt
  have hk2 : Wb.heap[w.heap.size]? = some (.deferred (some [])):=by rw [← hWb];exact (World.putObj_heap_other (by omega)).trans hk
  have hw2 : KT T W Wb:=by rw [← hWb];exact KT.put _ _ _ hTl
  have hib : I pre Wb:=by rw [← hWb];exact hI _ _ _ hi (Turn.put (by omega) hl rfl)
  refine wpIn_mono (hbody _ pre x Wb (by omega) (by have:=hw2.1;omega) hib hlen) ?_
  have fin : ∀ (jump : Option Code) (W3 : World),KeepsFrom w.heap.size Wb W3→
    (Instr.endRound (w.heap.size + 1) jump).run P W3=.ok (.bool jump.isNone) (W3.putObj (w.heap.size + 1) (.loop (rc (if jump.isNone then .ready else .done) jump)))∧
    W3.heap[w.heap.size + 1]? = some (.loop { rc .ready none with state:=.busy })∧
    (W3.putObj (w.heap.size + 1) (.loop (rc (if jump.isNone then .ready else .done) jump))).heap[w.heap.size + 1]? = some (.loop (rc (if jump.isNone then .ready else .done) jump))∧
    (W3.putObj (w.heap.size + 1) (.loop (rc (if jump.isNone then .ready else .done) jump))).heap[w.heap.size]? = some (.deferred (some [])):=fun jump W3 hk3=>by
   have hl3:=hk3.same _ _ (by omega) hl2 rfl
   have:=run_endRound (P:=P) jump hl3
   rw [hrc] at this ⊢
   exact⟨this,by rw [hrc] at hl3;exact hl3,World.putObj_heap_same (Array.getElem?_eq_some_iff.1 hl3).1,(World.putObj_heap_other (by omega)).trans (hk3.same _ _ (Nat.le_refl _) hk2 rfl)⟩
  have leave : ∀ (c : Code) (W3 : World),KeepsFrom w.heap.size Wb W3→Ix c (pre ++ [x]) W3→∃ v W4,(Instr.endRound (w.heap.size + 1) (some c)).run P W3=.ok (.bool v) W4∧v=false∧∃ c',Ix c' (pre ++ [x]) W4∧W4.heap[w.heap.size + 1]? = some (.loop (rc .done (some c')))∧W4.heap[w.heap.size]? = some (.deferred (some [])):=fun c W3 hk3 hi3=>by
   obtain⟨hr,hl3,hl4,hk4⟩:=fin (some c) W3 hk3
   exact⟨_,_,hr,rfl,c,hIx _ _ _ _ hi3 (Turn.put (by omega) hl3 rfl),hl4,hk4⟩
  rintro e a3 W3 hp
  cases e with
  | normal=>
   obtain⟨hk3,hkp3,hi3⟩:=hp
   obtain⟨hr,hl3,hl4,hk4⟩:=fin none W3 hk3
   exact⟨_,_,hr,.inl ⟨rfl,⟨hI _ _ _ hi3 (Turn.put (by omega) hl3 rfl),hl4,hk4⟩,hw2.trans (hkp3.trans (KT.put _ _ _ hTl))⟩⟩
  | ret=>obtain ⟨v,W4,hr,rfl,h⟩:=leave .ret W3 hp.1 hp.2;exact ⟨_,_,hr,.inr ⟨rfl,h⟩⟩
  | exit id=>obtain ⟨v,W4,hr,rfl,h⟩:=leave (.exit id) W3 hp.1 hp.2;exact ⟨_,_,hr,.inr ⟨rfl,h⟩⟩
  | goto t=>obtain ⟨v,W4,hr,rfl,h⟩:=leave (.goto t) W3 hp.1 hp.2;exact ⟨_,_,hr,.inr ⟨rfl,h⟩⟩
  | panic ch=>exact hp.elim
  | outgrown=>exact hp.elim
 ·rintro e W2 ⟨⟨v,rfl⟩,(⟨xs,hS,hi,hl,hk⟩ | ⟨pre,hSp,c,hi,hl,hk⟩)⟩
  ·exact ⟨none,_,by have:=run_endLoop (P:=P) hl (by rw [hrc];simp);rw [hrc] at this;exact this,hdone _ xs _ (Nat.le_refl _) hS (hI _ _ _ hi (Turn.put (by omega) hl rfl)) ((World.putObj_heap_other (by omega)).trans hk)⟩
  ·exact ⟨some c,_,by have:=run_endLoop (P:=P) hl (by rw [hrc];simp);rw [hrc] at this;exact this,hstop _ c pre _ (Nat.le_refl _) hSp (hIx c _ _ _ hi (Turn.put (by omega) hl rfl)) ((World.putObj_heap_other (by omega)).trans hk)⟩
end Go.Proofs.YtihdbncoijhihaaGreatDoor
namespace Go.Proofs.YtihdbncoijhihaaGreatDoor
open Go.RowKit
def SeqB {α : Type} (M : Nat) (F : Fence) (n : Nat) (P : Program) (g : Nat) (lb : Array Value) (encs : α→Array Value) (S Sp : List α→Prop) (V : List α→α→Prop) (w : World) : Prop:=
 ∀ (l : Nat) (J Jx : List α→World→Prop) (W : World),Below M w W→w.heap.size≤W.heap.size→AbT NoT W.heap.size Obj.isWalk J→AbT NoT W.heap.size Obj.isWalk Jx→
  (∀ pre x W1,J pre W1→V pre x→YieldAt F (n - 1) P l (encs x) W1 fun e W'=>
   (e=.returned (.bool true)∧J (pre ++ [x]) W'∧Below M W1 W')∨(e=.returned (.bool false)∧Jx (pre ++ [x]) W'))→
  J [] W→
  CallsIn F n P g (#[.func (.yield l) #[] #[]] ++ lb) W fun e W'=>(∃ v,e=.returned v)∧((∃ xs,S xs∧J xs W')∨(∃ pre,Sp pre∧Jx pre W'))
end Go.Proofs.YtihdbncoijhihaaGreatDoor
namespace Go.Proofs.YtihdbncoijhihaaGreatDoor
open Go.RowKit Go.Shelf
attribute [local go_sem] Oper.semAt_some
def Fs.topAt (S : Fs) (d : Nat) : Option (Int × ByteArray):=(S.place_ (S.root ((d : Int) + 1))).map fun s=>(S.root ((d : Int) + 1),s)
def Fs.topsK (S : Fs) (k : Nat) : List (Int × ByteArray):=(List.range k).filterMap S.topAt
def Fs.topsL (S : Fs) : List (Int × ByteArray):=S.topsK S.ds.length
theorem topsK_succ (S : Fs) (k : Nat) : S.topsK (k + 1)=S.topsK k ++ (S.topAt k).toList:=by
 unfold Fs.topsK
 rw [List.range_succ,List.filterMap_append]
 cases h : S.topAt k <;> simp [h]
theorem topsK_prefix (S : Fs) {k n : Nat} (h : k≤n) : S.topsK k <+: S.topsK n:=by
 induction n with
 | zero=>
  have : k=0:=by omega
  subst this;exact List.prefix_refl _
 | succ n ih=>
  by_cases hk : k=n + 1
  ·subst hk;exact List.prefix_refl _
  ·refine (ih (by omega)).trans ?_
   rw [topsK_succ]
   exact List.prefix_append _ _
theorem all_any (pf : Nat) (w : World) :
  Calls Tryz.prog 74 #[.pointer (some ⟨pf,0,none⟩)] w fun e w'=>e=.returned (.func (.func 145) #[] #[.pointer (some ⟨w.heap.size,0,none⟩)])∧w'=w.alloc (.cells #[.pointer (some ⟨pf,0,none⟩)] 33):=by
 go_enter Tryz.func74,Tryz.ntmps74
 go_wp2_with fail
 go_ret
 exact⟨rfl,rfl⟩
end Go.Proofs.YtihdbncoijhihaaGreatDoor
namespace Go.Proofs.YtihdbncoijhihaaGreatDoor
open Go.RowKit
def Nm (S : Fs) : Prop:=∀ a ∈ S.ns,∀ x ∈ a.ents,checkE x.name=0
theorem Nm.set {S : Fs} (h : Nm S) {a : An} (hn : ∀ x ∈ a.ents,checkE x.name=0) : Nm (S.set a):=by
 intro y hy
 unfold Fs.set at hy
 simp only [List.mem_map] at hy
 obtain⟨z,hz,rfl⟩:=hy
 split
 ·exact hn
 ·exact h z hz
theorem Nm.add {S : Fs} (h : Nm S) {a : An} (hn : a.ents=[]) : Nm (S.add a):=by
 intro y hy
 unfold Fs.add at hy
 rcases List.mem_append.1 hy with hy | hy
 ·exact h y hy
 ·simp at hy
  subst hy
  intro x hx
  rw [show ({ a with no:=S.last + 1 } : An).ents=a.ents from rfl,hn] at hx
  cases hx
theorem Nm.addRoot {S : Fs} (h : Nm S) (o b n : Int) : Nm (S.addRoot o b n):=by
 intro y hy
 unfold Fs.addRoot at hy
 rcases List.mem_append.1 hy with hy | hy
 ·exact h y hy
 ·simp at hy
  subst hy
  intro x hx
  cases hx
theorem Nm.make {S : Fs} (h : Nm S) {a : An} (hn : a.ents=[]) : Nm (S.make a).1:=by
 unfold Fs.make
 split
 ·exact h
 ·split
  ·exact h
  ·simp only
   split
   ·exact Nm.add (S:=S.setDev _ _) (fun y hy=>h y hy) hn
   ·exact h
theorem put_check {l : List En} (h : ∀ x ∈ l,checkE x.name=0) {s : ByteArray} (hs : checkE s=0) (no : Int) : ∀ x ∈ entPut l s no,checkE x.name=0:=by
 intro x hx
 unfold entPut at hx
 rcases List.mem_append.1 hx with hx | hx
 ·exact h x (List.mem_filter.1 hx).1
 ·rcases List.mem_cons.1 hx with rfl | hx
  ·exact hs
  ·exact h x (List.mem_filter.1 hx).1
theorem Nm.touch {S : Fs} (h : Nm S) (now dir : Int) (l : List En) (hl : ∀ x ∈ l,checkE x.name=0) : Nm (S.touch now dir l):=by
 unfold Fs.touch
 split
 ·exact h
 ·exact h.set hl
theorem Nm.come {S : Fs} (h : Nm S) {a : An} (c : Cr) (now dir : Int) (s : ByteArray) (he : a.ents=[]) : Nm (S.come c now dir s a).1:=by
 unfold Fs.come
 split
 ·exact h
 ·rename_i hpl
  obtain⟨d,hd,hdk,hce⟩:=place_check (by simpa using hpl)
  rw [hd]
  simp only
  split
  ·exact h
  ·have hm:=h.make (a:={ a with dev:=d.dev,uid:=c.u,gid:=c.g,mtime:=now,ctime:=now,links:=1 }) he
   split
   ·exact h
   ·exact hm.touch _ _ _ (put_check (h d (an_mem hd)) hce _)
theorem Nm.mkdir {S : Fs} (h : Nm S) (c : Cr) (now dir : Int) (s : ByteArray) (m : Int) : Nm (S.mkdir c now dir s m).1:=by
 unfold Fs.mkdir
 split
 ·exact h
 ·exact h.come c now dir s rfl
theorem Nm.file {S : Fs} (h : Nm S) (c : Cr) (now dir : Int) (s : ByteArray) (m : Int) (t : ByteArray) : Nm (S.file c now dir s m t).1:=by
 unfold Fs.file
 split
 ·exact h
 ·split
  ·exact h
  ·exact h.come c now dir s rfl
theorem Nm.sym {S : Fs} (h : Nm S) (c : Cr) (now dir : Int) (s t : ByteArray) : Nm (S.sym c now dir s t).1:=by
 unfold Fs.sym
 split
 ·exact h
 ·split
  ·exact h
  ·exact h.come c now dir s rfl
theorem Nm.hard {S : Fs} (h : Nm S) (c : Cr) (now no dir : Int) (s : ByteArray) : Nm (S.hard c now no dir s).1:=by
 unfold Fs.hard
 split
 ·exact h
 ·rename_i hpl
  obtain⟨d0,hd0,hdk,hce⟩:=place_check (by simpa using hpl)
  split
  ·rename_i d n hd hn
   split
   ·exact h
   ·split
    ·exact h
    ·split
     ·exact h
     ·split
      ·exact h
      ·exact Nm.touch (h.set (a:={ n with links:=n.links + 1,ctime:=now }) (h n (an_mem hn))) _ _ _ (put_check (h d (an_mem hd)) hce _)
  ·exact h
theorem Nm.chmod {S : Fs} (h : Nm S) (c : Cr) (now no m : Int) : Nm (S.chmod c now no m).1:=by
 unfold Fs.chmod
 split
 ·exact h
 ·rename_i n hn
  split
  ·exact h
  ·split
   ·exact h
   ·exact h.set (h n (an_mem hn))
theorem Nm.chown {S : Fs} (h : Nm S) (c : Cr) (now no u g : Int) : Nm (S.chown c now no u g).1:=by
 unfold Fs.chown
 split
 ·exact h
 ·rename_i n hn
  split
  ·exact h
  ·split
   ·exact h
   ·split
    ·exact h
    ·exact h.set (h n (an_mem hn))
theorem Nm.utime {S : Fs} (h : Nm S) (c : Cr) (now no t : Int) : Nm (S.utime c now no t).1:=by
 unfold Fs.utime
 split
 ·exact h
 ·rename_i n hn
  split
  ·exact h
  ·split
   ·exact h
   ·exact h.set (h n (an_mem hn))
theorem Nm.mount {S : Fs} (h : Nm S) (k b n : Int) : Nm (S.mount k b n).1:=by
 unfold Fs.mount
 split
 ·exact h
 ·split
  ·exact h
  ·split
   ·exact h
   ·split
    ·exact h
    ·exact h.addRoot _ b n
theorem Nm.mountF {S : Fs} (h : Nm S) (m : Mt) : Nm (mountF S m):=by
 unfold Go.Proofs.YtihdbncoijhihaaGreatDoor.mountF
 split
 ·exact h
 ·split
  ·have h1:=h.mkdir c00 0 (S.path c00 m.path false).1.dir (S.path c00 m.path false).1.name 493
   simp only
   split
   ·exact h1
   ·exact h1.mount _ _ _
  ·exact h.mount _ _ _
theorem Nm.mountsF {S : Fs} (h : Nm S) (l : List Mt) : Nm (mountsF S l):=by
 induction l generalizing S with
 | nil=>exact h
 | cons m l ih=>
  unfold Go.Proofs.YtihdbncoijhihaaGreatDoor.mountsF
  by_cases hm : m.path=topB
  ·rw [if_pos hm];exact ih h
  ·rw [if_neg hm];exact ih (h.mountF m)
theorem Nm.nodeF {S : Fs} (h : Nm S) (it : It) : Nm (nodeF S it).1:=by
 unfold Go.Proofs.YtihdbncoijhihaaGreatDoor.nodeF
 simp only
 split
 ·exact h
 ·split
  ·split <;> exact h
  ·split
   ·exact h.mkdir _ _ _ _ _
   ·split
    ·exact h.file _ _ _ _ _ _
    ·split
     ·exact h.sym _ _ _ _ _
     ·split
      ·split
       ·exact h.hard _ _ _ _ _
       ·exact h
      ·exact h
theorem Nm.itemF {S : Fs} (h : Nm S) (it : It) : Nm (itemF S it).1:=by
 unfold Go.Proofs.YtihdbncoijhihaaGreatDoor.itemF
 have h1:=h.nodeF it
 simp only
 split
 ·exact (h1.chown _ _ _ _ _).chmod _ _ _ _
 ·exact h1
theorem Nm.itemsF {S : Fs} (h : Nm S) (l : List It) : Nm (itemsF S l).1:=by
 induction l generalizing S with
 | nil=>exact h
 | cons x l ih=>exact ih (h.itemF x)
theorem Nm.timesF {S : Fs} (h : Nm S) (l : List (It × Int)) : Nm (timesF S l):=by
 induction l generalizing S with
 | nil=>exact h
 | cons x l ih=>
  unfold Go.Proofs.YtihdbncoijhihaaGreatDoor.timesF
  refine ih ?_
  split
  ·exact h.utime _ _ _ _
  ·exact h
end Go.Proofs.YtihdbncoijhihaaGreatDoor
namespace Go.Proofs.YtihdbncoijhihaaGreatDoor
open Go.RowKit
structure Wy (S : Fs) : Prop where
 ud : ∀ a ∈ S.ns,a.kind=1→∃ b,S.get a.up=some b∧b.kind=1
 sd : ∀ a ∈ S.ns,∀ x ∈ a.ents,∃ b,S.get x.no=some b∧b.dev=a.dev
 mp : ∀ d ∈ S.ds,d.over≠0→∃ b,S.get d.over=some b∧S.root b.dev≠b.no
theorem Sub.up {S S' : Fs} (h : Sub S S') {k : Int} (hk : ∃ b,S.get k=some b∧b.kind=1) : ∃ b,S'.get k=some b∧b.kind=1:=by
 obtain⟨b,hb,h1⟩:=hk
 obtain⟨c,hc,e1,-⟩:=h _ _ hb
 exact⟨c,hc,by rw [e1];exact h1⟩
theorem Sub.dev {S S' : Fs} (h : Sub S S') {k d : Int} (hk : ∃ b,S.get k=some b∧b.dev=d) : ∃ b,S'.get k=some b∧b.dev=d:=by
 obtain⟨b,hb,h1⟩:=hk
 obtain⟨c,hc,-,-,e3,-⟩:=h _ _ hb
 exact⟨c,hc,by rw [e3];exact h1⟩
theorem Sub.mp {S S' : Fs} (h : Sub S S') {k : Int} (hk : ∃ b,S.get k=some b∧S.root b.dev≠b.no) : ∃ b,S'.get k=some b∧S'.root b.dev≠b.no:=by
 obtain⟨b,hb,h1⟩:=hk
 obtain⟨c,hc,-,-,e3,e4⟩:=h _ _ hb
 refine ⟨c,hc,?_⟩
 rw [e3,e4,an_no hc,← an_no hb]
 exact h1
theorem Wy.set {S : Fs} (h : Wy S) {a b : An} (hb : S.get a.no=some b) (hk : a.kind=b.kind) (hd : a.dev=b.dev) (hu : a.up=b.up) (hr : ∀ x ∈ a.ents,∃ c,S.get x.no=some c∧c.dev=a.dev) : Wy (S.set a):=by
 have hsub : Sub S (S.set a):=fun k c hc=>by
  rw [an_set hb]
  by_cases hka : k=a.no
  ·rw [if_pos hka]
   rw [hka,hb] at hc
   injection hc with hc
   subst hc
   exact⟨a,rfl,hk,hu,hd,rfl⟩
  ·rw [if_neg hka]
   exact⟨c,hc,rfl,rfl,rfl,rfl⟩
 refine ⟨fun y hy hyk=>?_,fun y hy x hx=>?_,fun d hd0 ho=>hsub.mp (h.mp d hd0 ho)⟩
 ·unfold Fs.set at hy
  simp only [List.mem_map] at hy
  obtain⟨z,hz,rfl⟩:=hy
  split at hyk
  ·rename_i he
   rw [if_pos he]
   have:=h.ud b (an_mem hb) (by rw [← hk];exact hyk)
   rw [← hu] at this
   exact hsub.up this
  ·rename_i he
   rw [if_neg he]
   exact hsub.up (h.ud z hz hyk)
 ·unfold Fs.set at hy
  simp only [List.mem_map] at hy
  obtain⟨z,hz,rfl⟩:=hy
  split at hx
  ·rename_i he
   rw [if_pos he]
   exact hsub.dev (hr x hx)
  ·rename_i he
   rw [if_neg he]
   exact hsub.dev (h.sd z hz x hx)
theorem Wy.setDev {S : Fs} (h : Wy S) {d : Int} {v u : Dv} (hv : S.dev d=some v) (hr : u.root=v.root) (ho : u.over=v.over) : Wy (S.setDev d u):=by
 have hsub : Sub S (S.setDev d u):=fun k c hc=>⟨c,hc,rfl,rfl,rfl,setDev_root hv hr _⟩
 refine ⟨h.ud,h.sd,fun e he h0=>?_⟩
 have hvm : v ∈ S.ds:=by
  unfold Fs.dev at hv
  split at hv
  ·exact List.mem_of_getElem? hv
  ·cases hv
 unfold Fs.setDev at he
 rcases List.mem_or_eq_of_mem_set he with he | rfl
 ·exact hsub.mp (h.mp e he h0)
 ·rw [ho] at h0 ⊢
  exact hsub.mp (h.mp v hvm h0)
theorem Wy.add {S : Fs} {N : Nat} (hk : FsOk S N) (h : Wy S) {a : An} (he : a.ents=[]) (hu : a.kind=1→∃ b,S.get a.up=some b∧b.kind=1) : Wy (S.add a):=by
 have hsub:=sub_add hk a
 refine ⟨fun y hy hyk=>?_,fun y hy x hx=>?_,fun d hd0 ho=>hsub.mp (h.mp d hd0 ho)⟩
 ·rcases List.mem_append.1 hy with hy | hy
  ·exact hsub.up (h.ud y hy hyk)
  ·simp at hy;subst hy
   exact hsub.up (hu hyk)
 ·rcases List.mem_append.1 hy with hy | hy
  ·exact hsub.dev (h.sd y hy x hx)
  ·simp at hy;subst hy
   rw [show ({ a with no:=S.last + 1 } : An).ents=a.ents from rfl,he] at hx
   cases hx
theorem Wy.addRoot {S : Fs} (hn : Nums S) (hdev : ∀ a ∈ S.ns,a.dev≤S.ds.length) (h : Wy S) (k b n : Int) (h0 : k≠0→∃ b,S.get k=some b∧S.root b.dev≠b.no) : Wy (S.addRoot k b n):=by
 have hsub : Sub S (S.addRoot k b n):=fun q c hq=>by
  refine ⟨c,?_,rfl,rfl,rfl,addRoot_root S k b n (hdev c (an_mem hq))⟩
  unfold Fs.get Fs.addRoot at *
  simp only [List.find?_append,hq,Option.some_or]
 refine ⟨fun y hy hyk=>?_,fun y hy x hx=>?_,fun d hd0 ho=>?_⟩
 ·rcases List.mem_append.1 hy with hy | hy
  ·exact hsub.up (h.ud y hy hyk)
  ·simp at hy;subst hy
   exact⟨_,addRoot_get hn k b n,rfl⟩
 ·rcases List.mem_append.1 hy with hy | hy
  ·exact hsub.dev (h.sd y hy x hx)
  ·simp at hy;subst hy
   simp [an0] at hx
 ·unfold Fs.addRoot at hd0
  rcases List.mem_append.1 hd0 with hd0 | hd0
  ·exact hsub.mp (h.mp d hd0 ho)
  ·simp at hd0
   subst hd0
   exact hsub.mp (h0 ho)
theorem Wy.new (b n : Int) : Wy (fs0.addRoot 0 b n):=
 Wy.addRoot ⟨List.Pairwise.nil,fun x hx=>by cases hx⟩ (fun x hx=>by cases hx) ⟨fun x hx=>(by cases hx),fun x hx=>(by cases hx),fun d hd=>(by cases hd)⟩ 0 b n (fun h=>absurd rfl h)
theorem Wy.make {S : Fs} {N : Nat} (hk : FsOk S N) (h : Wy S) {a : An} (he : a.ents=[]) (hu : a.kind=1→∃ b,S.get a.up=some b∧b.kind=1) : Wy (S.make a).1:=by
 unfold Fs.make
 split
 ·exact h
 ·split
  ·exact h
  ·rename_i v hv
   simp only
   split
   ·have h2:=h.setDev (u:={ v with b:=v.b + blkI a.kind a.data.size,n:=v.n + 1 }) hv rfl rfl
    have hk2:=hk.setDev (u:={ v with b:=v.b + blkI a.kind a.data.size,n:=v.n + 1 }) hv rfl
    exact h2.add hk2 he hu
   ·exact h
theorem Wy.touch {S : Fs} (h : Wy S) (now dir : Int) (l : List En) (hl : ∀ d,S.get dir=some d→∀ x ∈ l,∃ c,S.get x.no=some c∧c.dev=d.dev) : Wy (S.touch now dir l):=by
 unfold Fs.touch
 split
 ·exact h
 ·rename_i d hd
  exact h.set (b:=d) (by show S.get d.no=_;rw [an_no hd];exact hd) rfl rfl rfl (hl d hd)
theorem put_dev {S : Fs} {l : List En} {q : Int} (h : ∀ x ∈ l,∃ c,S.get x.no=some c∧c.dev=q) {s : ByteArray} {k : Int} (hk : ∃ c,S.get k=some c∧c.dev=q) : ∀ x ∈ entPut l s k,∃ c,S.get x.no=some c∧c.dev=q:=by
 intro x hx
 unfold entPut at hx
 rcases List.mem_append.1 hx with hx | hx
 ·exact h x (List.mem_filter.1 hx).1
 ·rcases List.mem_cons.1 hx with rfl | hx
  ·exact hk
  ·exact h x (List.mem_filter.1 hx).1
theorem Wy.come {S : Fs} {N : Nat} (hk : FsOk S N) (ht : Tr S) (h : Wy S) {a : An} (c : Cr) (now dir : Int) (s : ByteArray) (he : a.ents=[]) (hu : a.kind=1→a.up=dir) : Wy (S.come c now dir s a).1:=by
 unfold Fs.come
 split
 ·exact h
 ·rename_i hpl
  obtain⟨d,hd,hdk,hce⟩:=place_check (by simpa using hpl)
  rw [hd]
  simp only
  split
  ·exact h
  ·obtain ⟨m1,m2,m3⟩:=ht.make hk (a:={ a with dev:=d.dev,uid:=c.u,gid:=c.g,mtime:=now,ctime:=now,links:=1 }) he
   have hm:=h.make hk (a:={ a with dev:=d.dev,uid:=c.u,gid:=c.g,mtime:=now,ctime:=now,links:=1 }) he (fun hq=>⟨d,by rw [show ({ a with dev:=d.dev,uid:=c.u,gid:=c.g,mtime:=now,ctime:=now,links:=1 } : An).up=dir from hu hq];exact hd,hdk⟩)
   split
   ·exact h
   ·rename_i h0
    obtain⟨e1,e2,e3⟩:=m3 (by simpa using h0)
    refine hm.touch _ _ _ fun d2 hd2=>?_
    obtain⟨d3,hd3,-,-,hv3,-⟩:=m2 _ _ hd
    rw [hd2] at hd3
    injection hd3 with hd3
    subst hd3
    rw [e1,hv3]
    exact put_dev (fun x hx=>m2.dev (h.sd d (an_mem hd) x hx)) ⟨_,e2,rfl⟩
theorem Wy.mkdir {S : Fs} {N : Nat} (hk : FsOk S N) (ht : Tr S) (h : Wy S) (c : Cr) (now dir : Int) (s : ByteArray) (m : Int) : Wy (S.mkdir c now dir s m).1:=by
 unfold Fs.mkdir
 split
 ·exact h
 ·exact h.come hk ht c now dir s rfl (fun _=>rfl)
theorem Wy.file {S : Fs} {N : Nat} (hk : FsOk S N) (ht : Tr S) (h : Wy S) (c : Cr) (now dir : Int) (s : ByteArray) (m : Int) (t : ByteArray) : Wy (S.file c now dir s m t).1:=by
 unfold Fs.file
 split
 ·exact h
 ·split
  ·exact h
  ·exact h.come hk ht c now dir s rfl (fun hq=>absurd hq (by dsimp only;decide))
theorem Wy.sym {S : Fs} {N : Nat} (hk : FsOk S N) (ht : Tr S) (h : Wy S) (c : Cr) (now dir : Int) (s t : ByteArray) : Wy (S.sym c now dir s t).1:=by
 unfold Fs.sym
 split
 ·exact h
 ·split
  ·exact h
  ·exact h.come hk ht c now dir s rfl (fun hq=>absurd hq (by dsimp only;decide))
theorem Wy.same {S : Fs} (h : Wy S) {n m : An} (hn : S.get n.no=some n) (h0 : m.no=n.no) (h1 : m.kind=n.kind) (h2 : m.dev=n.dev) (h3 : m.up=n.up) (h4 : m.ents=n.ents) : Wy (S.set m):=
 h.set (b:=n) (by rw [h0];exact hn) h1 h2 h3 (by rw [h2,h4];exact h.sd n (an_mem hn))
theorem Wy.hard {S : Fs} (h : Wy S) (c : Cr) (now no dir : Int) (s : ByteArray) : Wy (S.hard c now no dir s).1:=by
 unfold Fs.hard
 split
 ·exact h
 ·rename_i hpl
  obtain⟨d0,hd0,hdk,hce⟩:=place_check (by simpa using hpl)
  split
  ·rename_i d n hd hn
   rw [hd] at hd0
   injection hd0 with hd0
   subst hd0
   split
   ·exact h
   ·rename_i hnk
    split
    ·exact h
    ·split
     ·exact h
     ·rename_i hdv
      split
      ·exact h
      ·have hs:=h.same (m:={ n with links:=n.links + 1,ctime:=now }) (get_self hn) rfl rfl rfl rfl rfl
       have hset : S.get ({ n with links:=n.links + 1,ctime:=now } : An).no=some n:=get_self hn
       have hno:=an_no hn
       have hsub : Sub S (S.set { n with links:=n.links + 1,ctime:=now }):=fun k c hc=>by
        rw [an_set hset]
        split
        ·rename_i hkn
         rw [hkn,hset] at hc
         injection hc with hc
         subst hc
         exact⟨_,rfl,rfl,rfl,rfl,rfl⟩
        ·exact ⟨c,hc,rfl,rfl,rfl,rfl⟩
       refine hs.touch _ _ _ fun d2 hd2=>?_
       obtain⟨d3,hd3,-,-,hv3,-⟩:=hsub _ _ hd
       rw [hd2] at hd3
       injection hd3 with hd3
       subst hd3
       rw [hv3]
       exact put_dev (fun x hx=>hsub.dev (h.sd d (an_mem hd) x hx)) (hsub.dev ⟨n,hn,by simpa using hdv⟩)
  ·exact h
theorem Wy.mount {S : Fs} {N : Nat} (hk : FsOk S N) (h : Wy S) (k b n : Int) : Wy (S.mount k b n).1:=by
 unfold Fs.mount
 split
 ·exact h
 ·rename_i a ha
  split
  ·exact h
  ·split
   ·exact h
   ·rename_i hr
    split
    ·exact h
    ·exact h.addRoot hk.nums (fun a ha=>(hk.all a ha).dev.2) k b n (fun _=>⟨a,ha,by rw [an_no ha];exact fun e=>hr (.inr e)⟩)
theorem Wy.chmod {S : Fs} (h : Wy S) (c : Cr) (now no m : Int) : Wy (S.chmod c now no m).1:=by
 unfold Fs.chmod
 split
 ·exact h
 ·rename_i n hn
  split
  ·exact h
  ·split
   ·exact h
   ·exact h.same (get_self hn) rfl rfl rfl rfl rfl
theorem Wy.chown {S : Fs} (h : Wy S) (c : Cr) (now no u g : Int) : Wy (S.chown c now no u g).1:=by
 unfold Fs.chown
 split
 ·exact h
 ·rename_i n hn
  split
  ·exact h
  ·split
   ·exact h
   ·split
    ·exact h
    ·exact h.same (get_self hn) rfl rfl rfl rfl rfl
theorem Wy.utime {S : Fs} (h : Wy S) (c : Cr) (now no t : Int) : Wy (S.utime c now no t).1:=by
 unfold Fs.utime
 split
 ·exact h
 ·rename_i n hn
  split
  ·exact h
  ·split
   ·exact h
   ·exact h.same (get_self hn) rfl rfl rfl rfl rfl
theorem Wy.mountF {S : Fs} {N : Nat} (hk : FsOk S N) (ht : Tr S) (h : Wy S) (m : Mt) : Wy (mountF S m):=by
 unfold Go.Proofs.YtihdbncoijhihaaGreatDoor.mountF
 split
 ·exact h
 ·split
  ·have h1:=h.mkdir hk ht c00 0 (S.path c00 m.path false).1.dir (S.path c00 m.path false).1.name 493
   have hk1:=mkdir_ok hk c00 0 (S.path c00 m.path false).1.dir (S.path c00 m.path false).1.name 493
   simp only
   split
   ·exact h1
   ·exact h1.mount hk1 _ _ _
  ·exact h.mount hk _ _ _
theorem Wy.mountsF {S : Fs} {N : Nat} (hk : FsOk S N) (ht : Tr S) (h : Wy S) (l : List Mt) : Wy (mountsF S l):=by
 induction l generalizing S N with
 | nil=>exact h
 | cons m l ih=>
  unfold Go.Proofs.YtihdbncoijhihaaGreatDoor.mountsF
  by_cases hm : m.path=topB
  ·rw [if_pos hm];exact ih hk ht h
  ·rw [if_neg hm];exact ih (mountF_ok hk m) (ht.mountF hk m) (h.mountF hk ht m)
theorem Wy.nodeF {S : Fs} {N : Nat} (hk : FsOk S N) (ht : Tr S) (h : Wy S) (it : It) : Wy (nodeF S it).1:=by
 unfold Go.Proofs.YtihdbncoijhihaaGreatDoor.nodeF
 simp only
 split
 ·exact h
 ·split
  ·split <;> exact h
  ·split
   ·exact h.mkdir hk ht _ _ _ _ _
   ·split
    ·exact h.file hk ht _ _ _ _ _ _
    ·split
     ·exact h.sym hk ht _ _ _ _ _
     ·split
      ·split
       ·exact h.hard _ _ _ _ _
       ·exact h
      ·exact h
theorem Wy.itemF {S : Fs} {N : Nat} (hk : FsOk S N) (ht : Tr S) (h : Wy S) (it : It) : Wy (itemF S it).1:=by
 unfold Go.Proofs.YtihdbncoijhihaaGreatDoor.itemF
 have h1:=h.nodeF hk ht it
 simp only
 split
 ·exact (h1.chown _ _ _ _ _).chmod _ _ _ _
 ·exact h1
theorem Wy.itemsF {S : Fs} {N : Nat} (hk : FsOk S N) (ht : Tr S) (h : Wy S) (l : List It) : Wy (itemsF S l).1:=by
 induction l generalizing S N with
 | nil=>exact h
 | cons x l ih=>exact ih (itemF_ok2 hk x) (ht.itemF hk x) (h.itemF hk ht x)
theorem Wy.timesF {S : Fs} (h : Wy S) (l : List (It × Int)) : Wy (timesF S l):=by
 induction l generalizing S with
 | nil=>exact h
 | cons x l ih=>
  unfold Go.Proofs.YtihdbncoijhihaaGreatDoor.timesF
  refine ih ?_
  split
  ·exact h.utime _ _ _ _
  ·exact h
theorem plant_wy (ms : List Mt) (is : List It) : Wy (plantF ms is):=by
 unfold plantF
 simp only
 have hk:=FsOk.new (limitsF ms).1 (limitsF ms).2
 exact Wy.timesF (Wy.itemsF (mountsF_ok hk ms) (Tr.mountsF hk (Tr.new _ _) ms) (Wy.mountsF hk (Tr.new _ _) (Wy.new _ _) ms) is) _
end Go.Proofs.YtihdbncoijhihaaGreatDoor
