import Derived.Test.YtbndfmkgamdgeaaGreatDoorSO1
import Derived.Test.YtbndfmkgamdgeaaGreatDoorSO5
import Derived.Test.YtbndfmkgamdgeaaGreatDoorSO6
import Derived.Test.YtbndfmkgamdgeaaGreatDoorSO7
import Derived.Test.YtbndfmkgamdgeaaGreatDoorSO8
import Derived.Test.YtbndfmkgamdgeaaGreatDoorSO11
import Derived.Test.YtbndfmkgamdgeaaGreatDoorSO13
import Derived.Test.YtbndfmkgamdgeaaGreatDoorSO17
import Derived.Test.YtbndfmkgamdgeaaGreatDoorSO18
import Derived.Test.YtbndfmkgamdgeaaGreatDoorSO21
import Derived.Test.YtbndfmkgamdgeaaGreatDoorSO22
import Derived.Test.YtbndfmkgamdgeaaGreatDoorSO24
import Derived.Test.YtbndfmkgamdgeaaGreatDoorSO25
import Derived.Test.YtbndfmkgamdgeaaGreatDoorSO28
import Derived.Test.YtbndfmkgamdgeaaGreatDoorSO31
import Derived.Test.YtbndfmkgamdgeaaGreatDoorSO32
set_option linter.unusedVariables false
set_option linter.unusedSimpArgs false
set_option maxRecDepth 100000
set_option maxHeartbeats 16000000
namespace Go.Proofs.YtbndfmkgamdgeaaGreatDoor
section
open Go.RowKit
section
variable {w w':World} {pf:Nat} {R:Rf} {S:Fs}
end
end
section
open Go.RowKit
def rf0:Rf:=⟨.slice none 0 0,.slice none 0 0,[],0,.int .i64 0,.slice none 0 0,.bool false⟩
section
variable {w w':World} {pf:Nat} {R:Rf} {S:Fs}
end
end
section
open Go.RowKit
section
variable {w w':World} {pf:Nat} {R:Rf} {S:Fs}
end
end
section
open Go.RowKit
instance lawfulBA:LawfulBEq ByteArray where
 eq_of_beq {a b} h:=by
  obtain⟨a⟩:=a;obtain⟨b⟩:=b;have h2:(a == b)=true:=h;rw [eq_of_beq h2]
 rfl {a}:=by
  obtain⟨a⟩:=a;show (a == a)=true;simp
def entS (x:ByteArray×Value×Nat):MapEntry:={key:=.string x.1,val:=x.2.1,born:=x.2.2}
def MapBS (w:World) (m:Nat) (l:List (ByteArray×Value×Nat)) (clk:Nat):Prop:=w.heap[m]? = some (.map (l.map entS).toArray clk)
def KeysOnceS (l:List (ByteArray×Value×Nat)):Prop:=(l.map (·.1)).Nodup
def mapFindS (l:List (ByteArray×Value×Nat)) (k:ByteArray):Option Value:=(l.find? (fun x=>x.1 == k)).map (·.2.1)
def mapPutS (l:List (ByteArray×Value×Nat)) (k:ByteArray) (v:Value):List (ByteArray×Value×Nat):=l.map fun x=>if x.1 == k then (k,v,x.2.2) else x
def mapDelS (l:List (ByteArray×Value×Nat)) (k:ByteArray):List (ByteArray×Value×Nat):=l.filter fun x=>!(x.1 == k)
section
variable {P:Program} {K E T:TypeId} {w:World} {m:Nat} {l:List (ByteArray×Value×Nat)} {clk:Nat}
end
end
section
open Go.RowKit
def lenV:Value→Nat | .slice _ n _=>n | _=>0
section
variable {w w':World} {pf:Nat} {R:Rf} {S:Fs}
end
end
section
open Go.RowKit
theorem tjoin_any (a b:ByteArray) (w:World) (ha:a.size≤40000) (hb:b.size≤40000) :
  Calls Tryz.prog 58 #[.string a,.string b] w fun e w'=>e=.returned (.string (joinB a b))∧Below w.heap.size w w':=by
 have HP:=Lib.hid (Tryz.strings_HasPrefix b (ByteArray.mk #[47]) w);rw [show (ByteArray.mk #[47]).data.toList=[47] from rfl,prefix_whole] at HP;have HC:=Lib.hid (fun w=>clean_any b w (by omega));have HC2:=Lib.hid (fun w=>clean_any (a ++ ByteArray.mk #[47] ++ b) w (by
  rw [ByteArray.size_append,ByteArray.size_append];show a.size+1+b.size≤_;omega))
 have h1:¬ 9223372036854775807<a.size+1:=by omega
 have h2:¬ 9223372036854775807<(a ++ ByteArray.mk #[47]).size+b.size:=by
  rw [ByteArray.size_append];show ¬ 9223372036854775807<a.size+1+b.size;omega
 cases hw:wholeB b.data.toList with
 | true=>
  have HJ:=Lib.hid (show joinB a b=cleanB b by unfold joinB;rw [if_pos (.inl hw)]);generalize joinB a b=z at HJ ⊢;rw [hw] at HP;clear hw;go_enter Tryz.func58,Tryz.ntmps58;go_wp2_with fail;refine HP.out.mono ?_;rintro e w1 ⟨rfl,rfl⟩;go_wp2_with fail;refine (HC.out _).mono ?_;rintro e w2 ⟨rfl,hb2⟩;go_wp2_with fail;go_ret;exact⟨by rw [HJ.out];rfl,hb2⟩
 | false=>
  rw [hw] at HP;by_cases hae:a=ByteArray.empty
  ·have HJ:=Lib.hid (show joinB a b=cleanB b by unfold joinB;rw [if_pos (.inr hae)]);generalize joinB a b=z at HJ ⊢;subst hae;clear hw;go_enter Tryz.func58,Tryz.ntmps58;go_wp2_with fail;refine HP.out.mono ?_;rintro e w1 ⟨rfl,rfl⟩;go_wp2_with fail;refine (HC.out _).mono ?_;rintro e w2 ⟨rfl,hb2⟩;go_wp2_with fail;go_ret;exact⟨by rw [HJ.out];rfl,hb2⟩
  ·have HJ:=Lib.hid (show joinB a b=cleanB (a ++ ByteArray.mk #[47] ++ b) by
    unfold joinB;rw [if_neg];rintro (h | h)
    ·rw [hw] at h;cases h
    ·exact hae h)
   generalize joinB a b=z at HJ ⊢;have g1:¬ a.toList=[]:=fun e=>tl_ne hae (e.trans (by rw [ba_list];rfl));have g2:(a.toList == [])=false:=by simpa using g1
   clear hw hae;go_enter Tryz.func58,Tryz.ntmps58;go_wp2_with fail;refine HP.out.mono ?_;rintro e w1 ⟨rfl,rfl⟩;go_wp2_with fail;refine (HC2.out _).mono ?_;rintro e w2 ⟨rfl,hb2⟩;go_wp2_with fail;go_ret;exact⟨by rw [HJ.out];rfl,hb2⟩
end
section
open Go.RowKit
end
section
open Go.RowKit Go.Shelf
section
variable {w w':World} {pf pw:Nat} {R:Rp} {pv:Value} {Y:Sy}
end
end
section
open Go.RowKit
theorem wpIn_rangeA {F:Fence} {n:Nat} {P:Program} {w:World} {α:Type} {M T:Nat→Prop} {g:Operand} {ps:Array Tmp} {assign body:Code} {Q:Exit→Act→World→Prop} {a:Act}
  (hro:F.round=none) (h1:1≤n) {gf:Nat} {lb:Array Value} (hg:a.eval g=.func (.func gf) #[] lb) (hFg:F.fn gf) (eg:∀ args w,(callFunc gf args).run P w=.ok (.enter gf args) w)
  {encs:α→Array Value} {S Sp:List α→Prop} {V:List α→α→Prop} {w0:World} (hseq:SeqW M T F (n - 1) P gf lb encs S Sp V w0)
  (hM:∀ k,M k→k<w.heap.size) (hT:∀ k,T k→k<w.heap.size) (hTM:∀ k,T k→¬ M k) (hb0:KT T w0 w) (hps:∀ x,(encs x).size=ps.size)
  (I:List α→World→Prop) (Ix:Code→List α→World→Prop) (hI:AbT NoT w.heap.size anyO I) (hIx:∀ c,AbT NoT w.heap.size anyO (Ix c)) (h0:I [] w) (a₁:α→Nat→Act) (o₁:α→Obj)
  (hassign:∀ (l:Nat) (x:α) (b:Nat) (W:World) (K:Act→World→Prop),W.heap.size=b→K (a₁ x b) (W.alloc (o₁ x))→
   assign.wpIn (F.inRound l) (n - 1 - 1) P (Exit.then K (fun _ _ _=>False)) {tmps:=(ps.zip (encs x)).foldl (fun t (p,v)=>t.setIfInBounds p v) a.tmps,defers:=[]} W)
  (hbody:∀ (l:Nat) (pre:List α) (x:α) (b:Nat) (W:World),w.heap.size≤l→l<b→b<W.heap.size→W.heap[b]? = some (o₁ x)→I pre W→V pre x→body.wpIn (F.inRound l) (n - 1 - 1) P (ownPostG w.heap.size (Mod M) I Ix (pre ++ [x]) W) (a₁ x b) W)
  (hdone:∀ (D:Nat) (xs:List α) (W:World),w.heap.size≤D→S xs→I xs W→W.heap[D]? = some (.deferred (some []))→Q .normal {a with defers:={target:=.collected D,args:=#[]} :: a.defers} W)
  (hstop:∀ (D:Nat) (c:Code) (pre:List α) (W:World),w.heap.size≤D→Sp pre→Ix c pre W→W.heap[D]? = some (.deferred (some []))→c.wpIn F n P Q {a with defers:={target:=.collected D,args:=#[]} :: a.defers} W) :
  (Code.rangeFunc g ps assign body).wpIn F n P Q a w:=by
 refine wpIn_rangeFunc fun fn hfn=>?_;rw [hro];obtain⟨rc,hrc⟩:∃ rc:LoopState→Option Code→Loop,rc=fun st pe=>{state:=st,pending:=pe,fn,tmps:=a.tmps,params:=ps,assign,body,defers:=w.heap.size}:=⟨_,rfl⟩;have hTl:¬ T (w.heap.size+1):=fun h=>by have:=hT _ h;omega
 have hTd:¬ T w.heap.size:=fun h=>by have:=hT _ h;omega
 generalize hW1:(w.alloc (.deferred (some []))).alloc (.loop (rc .ready none))=W1;have hs1:W1.heap.size=w.heap.size+2:=by rw [←hW1];simp
 have hL1:W1.heap[w.heap.size+1]? = some (.loop (rc .ready none)):=by
  have:=World.alloc_heap_new (w.alloc (.deferred (some []))) (.loop (rc .ready none));rw [World.size_alloc] at this;rw [←hW1];exact this
 have hD1:W1.heap[w.heap.size]? = some (.deferred (some [])):=by
  rw [←hW1];exact (Below.heap_alloc _ _ _ (by simp)).trans (World.alloc_heap_new w _)
 have hI1:I [] W1:=by rw [←hW1];exact hI _ _ _ (hI _ _ _ h0 (Turn.alloc _ _)) (Turn.alloc _ _)
 have hK1:KT T w W1:=by rw [←hW1];exact KT.of_below ((((Below.refl _ w).alloc (Nat.le_refl _) _).alloc (by simp) _)) hT
 refine ⟨w.heap.size+1,[{target:=.collected w.heap.size,args:=#[]}],W1,{target:=.fn (.func gf) lb,args:=#[.func (.yield (w.heap.size+1)) #[] #[]]},W1,gf,
  #[.func (.yield (w.heap.size+1)) #[] #[]] ++ lb,W1,?_,?_,?_,?_,fun _=>h1,?_⟩
 ·rw [←hW1,hrc];exact run_enterLoop_outer _ _ _ _ _
 ·simp only [resolve,hg];simp [go_sem]
 ·intro f' hf';simp [Target.leads] at hf';subst hf';exact hFg
 ·simp [invoke,go_sem,eg]
 have turnW:∀ {A B:World},Turn NoT W1.heap.size anyO A B→Turn NoT w.heap.size anyO A B:=fun h=>
  ⟨h.os,h.tape,h.output,h.size,fun k o hk ht hp=>h.block k o hk ht (fun hB=>(by have:=hp (by omega);cases this))⟩
 have keepL:∀ {A B:World} {k:Nat} {o:Obj},Turn NoT W1.heap.size anyO A B→A.heap[k]? = some o→k<W1.heap.size→B.heap[k]? = some o:=fun h hk hlt=>h.block _ _ hk (fun h=>h) (fun hB=>by omega);have hML:∀ k,M k→k<W1.heap.size:=fun k hk=>by have:=hM k hk;omega
 refine (hseq (w.heap.size+1)
  (fun pre W=>I pre W∧W.heap[w.heap.size+1]? = some (.loop (rc .ready none))∧W.heap[w.heap.size]? = some (.deferred (some [])))
  (fun pre W=>∃ c,Ix c pre W∧W.heap[w.heap.size+1]? = some (.loop (rc .done (some c)))∧W.heap[w.heap.size]? = some (.deferred (some [])))
  W1 (hb0.trans hK1) (Nat.le_trans hb0.1 hK1.1) hML (by omega)
  (fun s A B hs ht=>⟨hI s A B hs.1 (turnW ht),keepL ht hs.2.1 (by omega),keepL ht hs.2.2 (by omega)⟩)
  (fun s A B hs ht=>by
   obtain⟨c,hc,hl,hk⟩:=hs;exact⟨c,hIx c s A B hc (turnW ht),keepL ht hl (by omega),keepL ht hk (by omega)⟩)
  ?_ ⟨hI1,hL1,hD1⟩).mono ?_
 ·rintro pre x W ⟨hi,hl,hk⟩ hlen;have hlt:w.heap.size+1<W.heap.size:=(Array.getElem?_eq_some_iff.1 hl).1;have hy:=run_yield (P:=P) (args:=encs x) hl (by rw [hrc];exact hps x);rw [hrc] at hy;refine ⟨fn,_,assign,body,hy,roundIn_of_wpIn hfn (hassign _ x _ W _ rfl ?_)⟩;clear hy;have hlA:(W.alloc (o₁ x)).heap[w.heap.size+1]? = some (.loop (rc .ready none)):=(Below.heap_alloc _ _ _ hlt).trans hl;have hkA:(W.alloc (o₁ x)).heap[w.heap.size]? = some (.deferred (some [])):=(Below.heap_alloc _ _ _ (by omega)).trans hk;refine ⟨_,run_beginRound hlA (by rw [hrc]),?_⟩;generalize hWb:(W.alloc (o₁ x)).putObj (w.heap.size+1) (.loop {rc .ready none with state:=.busy})=Wb;have hl2:Wb.heap[w.heap.size+1]? = some (.loop {rc .ready none with state:=.busy}):=by rw [←hWb];exact World.putObj_heap_same (by simp;omega)
  have hk2:Wb.heap[w.heap.size]? = some (.deferred (some [])):=by rw [←hWb];exact (World.putObj_heap_other (by omega)).trans hkA
  have ho2:Wb.heap[W.heap.size]? = some (o₁ x):=by rw [←hWb];exact (World.putObj_heap_other (by omega)).trans (World.alloc_heap_new W _)
  have hs2:Wb.heap.size=W.heap.size+1:=by rw [←hWb];simp
  have hwA:KT T W (W.alloc (o₁ x)):=⟨by simp,fun k hk=>Below.heap_alloc _ _ _ (by have:=hT k hk;omega)⟩;have hw2:KT T W Wb:=by rw [←hWb];exact hwA.trans (KT.put _ _ _ hTl)
  have hm2:Mod (fun k=>M k∨k=w.heap.size+1) W Wb:=by rw [←hWb];exact ⟨rfl,rfl,rfl,by simp,fun k hk hn=>(World.putObj_heap_other (fun e=>hn (.inr e))).trans (Below.heap_alloc _ _ _ hk)⟩
  have hib:I pre Wb:=by rw [←hWb];exact hI _ _ _ (hI _ _ _ hi (Turn.alloc _ _)) (Turn.put (by omega) hlA rfl)
  refine wpIn_mono (hbody _ pre x W.heap.size Wb (by omega) hlt (by omega) ho2 hib hlen) ?_;have fin:∀ (jump:Option Code) (W3:World),KeepsFrom w.heap.size Wb W3→
    (Instr.endRound (w.heap.size+1) jump).run P W3=.ok (.bool jump.isNone) (W3.putObj (w.heap.size+1) (.loop (rc (if jump.isNone then .ready else .done) jump)))∧
    W3.heap[w.heap.size+1]? = some (.loop {rc .ready none with state:=.busy})∧
    (W3.putObj (w.heap.size+1) (.loop (rc (if jump.isNone then .ready else .done) jump))).heap[w.heap.size+1]? = some (.loop (rc (if jump.isNone then .ready else .done) jump))∧
    (W3.putObj (w.heap.size+1) (.loop (rc (if jump.isNone then .ready else .done) jump))).heap[w.heap.size]? = some (.deferred (some [])):=fun jump W3 hk3=>by
   have hl3:=hk3.same _ _ (by omega) hl2 rfl;have:=run_endRound (P:=P) jump hl3;rw [hrc] at this ⊢;exact⟨this,by rw [hrc] at hl3;exact hl3,World.putObj_heap_same (Array.getElem?_eq_some_iff.1 hl3).1,(World.putObj_heap_other (by omega)).trans (hk3.same _ _ (Nat.le_refl _) hk2 rfl)⟩
  have leave:∀ (c:Code) (W3:World),KeepsFrom w.heap.size Wb W3→Ix c (pre ++ [x]) W3→∃ v W4,(Instr.endRound (w.heap.size+1) (some c)).run P W3=.ok (.bool v) W4∧v=false∧∃ c',Ix c' (pre ++ [x]) W4∧W4.heap[w.heap.size+1]? = some (.loop (rc .done (some c')))∧W4.heap[w.heap.size]? = some (.deferred (some [])):=fun c W3 hk3 hi3=>by
   obtain⟨hr,hl3,hl4,hk4⟩:=fin (some c) W3 hk3;exact⟨_,_,hr,rfl,c,hIx _ _ _ _ hi3 (Turn.put (by omega) hl3 rfl),hl4,hk4⟩
  rintro e a3 W3 hp
  cases e with
  | normal=>
   obtain⟨hk3,hkp3,hi3⟩:=hp;obtain⟨hr,hl3,hl4,hk4⟩:=fin none W3 hk3;exact⟨_,_,hr,.inl ⟨rfl,⟨hI _ _ _ hi3 (Turn.put (by omega) hl3 rfl),hl4,hk4⟩,hw2.trans ((KT.of_mod hkp3 (fun k hk=>by have:=hT k hk;have:=hw2.1;omega) hTM).trans (KT.put _ _ _ hTl)),(hm2.trans (hkp3.mono (fun k hk=>.inl hk))).trans ⟨rfl,rfl,rfl,by simp,fun k hk hn=>World.putObj_heap_other (fun e=>hn (.inr e))⟩⟩⟩
  | ret=>obtain ⟨v,W4,hr,rfl,h⟩:=leave .ret W3 hp.1 hp.2;exact ⟨_,_,hr,.inr ⟨rfl,h⟩⟩
  | exit id=>obtain ⟨v,W4,hr,rfl,h⟩:=leave (.exit id) W3 hp.1 hp.2;exact ⟨_,_,hr,.inr ⟨rfl,h⟩⟩
  | goto t=>obtain ⟨v,W4,hr,rfl,h⟩:=leave (.goto t) W3 hp.1 hp.2;exact ⟨_,_,hr,.inr ⟨rfl,h⟩⟩
  | panic ch=>exact hp.elim
  | outgrown=>exact hp.elim
 ·rintro e W2 ⟨⟨v,rfl⟩,(⟨xs,hS,hi,hl,hk⟩|⟨pre,hSp,c,hi,hl,hk⟩)⟩
  ·exact ⟨none,_,by have:=run_endLoop (P:=P) hl (by rw [hrc];simp);rw [hrc] at this;exact this,hdone _ xs _ (Nat.le_refl _) hS (hI _ _ _ hi (Turn.put (by omega) hl rfl)) ((World.putObj_heap_other (by omega)).trans hk)⟩
  ·exact ⟨some c,_,by have:=run_endLoop (P:=P) hl (by rw [hrc];simp);rw [hrc] at this;exact this,hstop _ c pre _ (Nat.le_refl _) hSp (hIx c _ _ _ hi (Turn.put (by omega) hl rfl)) ((World.putObj_heap_other (by omega)).trans hk)⟩
end
section
open Go.RowKit Go.Shelf
attribute [local go_sem] Oper.semAt_some
end
section
open Go.RowKit
attribute [local go_sem] Oper.semAt_some
theorem list_names {S:Fs} (hp:Pl S) (c:Cr) (no:Int):∀ y∈(S.listF false c no).1,y.name.size≤255:=by
 intro y hy;unfold Fs.listF at hy;rw [if_neg (by decide)] at hy
 split at hy
 ·cases hy
 ·obtain ⟨e,he,rfl⟩:=List.mem_map.1 hy;unfold Fs.entsOf at he
  cases hg:S.get no with
  | none=>rw [hg] at he;cases he
  | some a=>rw [hg] at he;exact (hp.names a (an_mem hg) e he).2
theorem fm_take {α β:Type} (f:α→Option β) (l:List α) (k:Nat) (hk:k<l.length):(l.take (k+1)).filterMap f=(l.take k).filterMap f ++ (match f l[k] with | some b=>[b] | none=>[]):=by
 rw [List.take_succ_eq_append_getElem hk,List.filterMap_append];congr 1
 cases h:f l[k] with
 | none=>simp [h]
 | some b=>simp [h]
structure SLi (w':World) (bc bx yb:Nat) (c:Cr) (x:Cn) (y:En):Prop where
 c:Blk w' bc #[.int .i64 c.u,.int .i64 c.g] 54
 x:Blk w' bx #[.string x.path,.int .i64 x.dir,.int .i64 x.info,.int .i64 x.files,.int .i64 x.out,.int .i64 x.way,.string x.top] 45
 y:Blk w' yb #[.string y.name,.int .i64 y.no] 92
section
variable {w w':World} {pf pw:Nat} {R:Rp} {pv:Value} {Y:Sy}
end
end
section
open Go.RowKit
section
variable {w w':World} {pf:Nat} {R:Rf} {S:Fs}
end
end
section
open Go.RowKit
section
variable {w w':World} {pf:Nat} {R:Rf} {S:Fs}
end
end
section
open Go.RowKit
section
variable {w w':World} {pf pw:Nat} {R:Rp} {pv:Value} {Y:Sy}
end
end
section
open Go.RowKit Go.ChangeShapes Go.WideShapes Go.ChangeAt
section
variable {H:Type} {enc:TypeId×Value→H} {w:World} {base:Nat} {spare:Nat→Bool} {held:Bool}
theorem trod_ey {fuel:Nat} {cs:List Value} {x:DataW H×List MemPlace} (h:DataW.trod enc Tryz.prog w base spare held fuel 23 cs=some x):∃ y:Ey,eyQ cs y∧y.date≤9223372036854775807:=by
 obtain⟨h1,n,h2⟩:=trod_fields5 Tryz.underlying23 h;have hc:Tryz.prog.cellsOf 23=6:=by kernel_rfl
 have c1:Tryz.prog.cellsOf 9=1:=by kernel_rfl
 have c2:Tryz.prog.cellsOf 3=1:=by kernel_rfl
 have c3:Tryz.prog.cellsOf 4=1:=by kernel_rfl
 rw [hc] at h1
 match cs,h1 with
 | [a0,a1,a2,a3,a4,a5],_=>
  obtain⟨y0,k0⟩:=h2 0 9 0 1 [a0] rfl c1 rfl;obtain⟨y1,k1⟩:=h2 1 9 1 1 [a1] rfl c1 rfl;obtain⟨y2,k2⟩:=h2 2 9 2 1 [a2] rfl c1 rfl;obtain⟨y3,k3⟩:=h2 3 3 3 1 [a3] rfl c2 rfl;obtain⟨y4,k4⟩:=h2 4 3 4 1 [a4] rfl c2 rfl;obtain⟨y5,k5⟩:=h2 5 4 5 1 [a5] rfl c3 rfl;obtain⟨n0,e0,-⟩:=trod_str Tryz.underlying9 k0;obtain⟨n1,e1,-⟩:=trod_str Tryz.underlying9 k1;obtain⟨n2,e2,-⟩:=trod_str Tryz.underlying9 k2;obtain⟨n3,e3,hz⟩:=trod_i64 Tryz.underlying3 k3;obtain⟨n4,e4,-⟩:=trod_i64 Tryz.underlying3 k4;obtain⟨n5,e5,-⟩:=DataW.trod_bool Tryz.underlying4 k5;simp at e0 e1 e2 e3 e4 e5;subst e0 e1 e2 e3 e4 e5;exact⟨⟨n0,n1,n2,n3,n4,n5⟩,rfl,hz.2⟩
end
end
end Go.Proofs.YtbndfmkgamdgeaaGreatDoor
