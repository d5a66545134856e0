import Derived.Test.YtbndfmkgamdgeaaGreatDoorSO1
import Derived.Test.YtbndfmkgamdgeaaGreatDoorSO2
import Derived.Test.YtbndfmkgamdgeaaGreatDoorSO3
import Derived.Test.YtbndfmkgamdgeaaGreatDoorSO5
import Derived.Test.YtbndfmkgamdgeaaGreatDoorSO6
import Derived.Test.YtbndfmkgamdgeaaGreatDoorSO7
import Derived.Test.YtbndfmkgamdgeaaGreatDoorSO8
set_option linter.unusedVariables false
set_option linter.unusedSimpArgs false
set_option maxRecDepth 100000
set_option maxHeartbeats 16000000
namespace Go.Proofs.YtbndfmkgamdgeaaGreatDoor
section
open Go.RowKit
def decP:List UInt8→Option (List UInt8)
 | []=>some []
 | c :: l=>if c≠37 then (decP l).map (c :: ·) else match l with
  | a :: b :: r=>if hexV a=-1∨hexV b=-1 then none else (decP r).map (UInt8.ofNat (16*hexV a+hexV b).toNat :: ·)
  | _=>none
theorem decP_plain {c:UInt8} (h:c≠37) (l:List UInt8):decP (c :: l)=(decP l).map (c :: ·):=by
 rcases l with _ | ⟨a,_ | ⟨b,r⟩⟩ <;> simp [decP,h]
theorem decP_two (a b:UInt8) (r:List UInt8):decP (37 :: a :: b :: r)=if hexV a=-1∨hexV b=-1 then none else (decP r).map (UInt8.ofNat (16*hexV a+hexV b).toNat :: ·):=by simp [decP]
theorem decP_one (a:UInt8):decP [37,a]=none:=by simp [decP]
theorem decP_zero:decP [37]=none:=by simp [decP]
def decAt (s:ByteArray) (i:Nat) (o:List UInt8):Prop:=decP s.data.toList=(decP (s.data.toList.drop i)).map (o ++ ·)
theorem decAt_start (s:ByteArray):decAt s 0 []:=by unfold decAt;simp
theorem drop_step (s:ByteArray) (i:Nat) (h:i<s.size):s.data.toList.drop i=s[i] :: s.data.toList.drop (i+1):=by
 rw [List.drop_eq_getElem_cons (by simpa using h)];rfl
theorem decAt_end {s:ByteArray} {o:List UInt8} (h:decAt s s.size o):decP s.data.toList=some o:=by
 unfold decAt at h;rw [h,List.drop_of_length_le (show s.data.toList.length≤s.size from Nat.le_of_eq Array.length_toList)];simp [decP]
theorem decAt_plain {s:ByteArray} {i:Nat} {o:List UInt8} (h:decAt s i o) (hi:i<s.size) (hc:s[i]≠37):decAt s (i+1) (o ++ [s[i]]):=by
 unfold decAt at h ⊢;rw [h,drop_step s i hi,decP_plain hc]
 cases decP (s.data.toList.drop (i+1)) <;> simp
theorem decAt_short {s:ByteArray} {i:Nat} {o:List UInt8} (h:decAt s i o) (hi:i<s.size) (hc:s[i]=37) (hs:s.size<i+3):decP s.data.toList=none:=by
 unfold decAt at h;rw [h,drop_step s i hi,hc];rcases hd:s.data.toList.drop (i+1) with _ | ⟨a,_ | ⟨b,r⟩⟩
 ·rw [decP_zero];rfl
 ·rw [decP_one];rfl
 ·exfalso;have:=congrArg List.length hd;rw [List.length_drop,show s.data.toList.length=s.size from Array.length_toList] at this;simp at this;omega
theorem decAt_bad {s:ByteArray} {i:Nat} {o:List UInt8} (h:decAt s i o) (hi:i+2<s.size) (hc:s[i]=37) (hs:hexV s[i+1]=-1∨hexV s[i+2]=-1):decP s.data.toList=none:=by
 unfold decAt at h;rw [h,drop_step s i (by omega),drop_step s (i+1) (by omega),drop_step s (i+2) hi,hc,decP_two,if_pos hs];rfl
theorem decAt_two {s:ByteArray} {i:Nat} {o:List UInt8} (h:decAt s i o) (hi:i+2<s.size) (hc:s[i]=37) (h1:hexV s[i+1]≠-1) (h2:hexV s[i+2]≠-1) :
  decAt s (i+3) (o ++ [UInt8.ofNat (16*hexV s[i+1]+hexV s[i+2]).toNat]):=by
 unfold decAt at h ⊢;rw [h,drop_step s i (by omega),drop_step s (i+1) (by omega),drop_step s (i+2) hi,hc,decP_two,if_neg (by rintro (e | e);exact h1 e;exact h2 e)]
 cases decP (s.data.toList.drop (i+2+1)) <;> simp
def OB (w:World) (base:Nat) (v:Value) (l:List UInt8):Prop:=w.ownsRow base 5 1 v l.length (Lib.byteCells l)
theorem info_u8d:(Tryz.prog.info? 5).map (fun i=>(i.zero,i.size,i.bytes))=some (some (.int .u8 0),1,1):=by kernel_rfl
theorem OB.app {w:World} {base:Nat} {v:Value} {l:List UInt8} (h:OB w base v l) (c:UInt8) (hl:l.length≤1000000000) (hb:base≤w.heap.size) :
  ∃ g cap W,(Builtin.append_ #[169,169] 169 #[v,.slice (some ⟨w.heap.size,0,none⟩) 1 1]).run Tryz.prog (w.alloc (.cells #[.int .u8 c.toNat] 5))=.ok (.slice (some ⟨g,0,none⟩) (l.length+1) cap) W∧
   OB W base (.slice (some ⟨g,0,none⟩) (l.length+1) cap) (l ++ [c])∧Below base w W:=by
 obtain⟨i0,hi,hz0,hz1,hz2⟩:=info_parts info_u8d;have ho:=World.ownsRow.alloc h (.cells #[.int .u8 c.toNat] 5);obtain⟨g,cap,W,h1,h2,h3,h4⟩:=step_app 169 Tryz.underlying169 hi hz0 hz1 hz2 rfl (by omega) ho ⟨w.heap.size,0,none⟩ 1 1 [.int .u8 c.toNat] rfl (World.news_of_block (Blk.new w #[.int .u8 c.toNat] 5)) (by intro u hu;simp at hu;subst hu;rfl) (by omega) (by unfold maxLen;omega) (by omega) (by simp;omega);refine ⟨g,cap,W,h1,?_,?_⟩
 ·unfold OB;rw [List.length_append,List.length_singleton];simpa [Lib.byteCells] using h2
 ·refine (((Below.refl base w).alloc hb _)).trans (h3.below (fun k hk=>(h.lt k hk).1) (by simp;omega))
theorem OB.nil (w:World) (base:Nat):OB w base (.slice none 0 0) []:=World.ownsRow_nil _ _ _ _
theorem OB.conv {w:World} {base:Nat} {v:Value} {l:List UInt8} (h:OB w base v l):(convert 169 9 v).run Tryz.prog w=.ok (.string (str l)) w:=by
 rcases h.2 with ⟨rfl,h0⟩|⟨g,cap,cur,rfl,hb,hg,h1,h2,h3,h4⟩
 ·have:l=[]:=List.eq_nil_of_length_eq_zero h0;subst this;exact run_convert_bytes_nil w 169 5 Tryz.underlying169 Tryz.underlying5 0 0 9 Tryz.underlying9
 ·have hcell:=h.cells (g:=g) rfl;have:=conv_bytes (P:=Tryz.prog) (src:=169) (dst:=9) Tryz.underlying169 Tryz.underlying5 Tryz.underlying9 w g 0 cap (l.map fun c=>(c.toNat:Int)) (by
   intro j hj;have:=hcell j (.int .u8 (l.map fun c=>(c.toNat:Int))[j]) (by
    unfold Lib.byteCells;rw [List.length_map] at hj;simp [hj])
   rwa [addr_add] at this)
  rw [List.length_map,List.map_map] at this;rw [this];congr 2;congr 1;rw [List.map_congr_left (g:=id)]
  ·simp
  ·intro c _;simp
theorem OB.appZ {w:World} {base:Nat} {v:Value} {l:List UInt8} (h:OB w base v l) (z:Int) (c:UInt8) (hz:z=c.toNat) (hl:l.length≤1000000000) (hb:base≤w.heap.size) :
  ∃ g cap W,(Builtin.append_ #[169,169] 169 #[v,.slice (some ⟨w.heap.size,0,none⟩) 1 1]).run Tryz.prog (w.alloc (.cells #[.int .u8 z] 5))=.ok (.slice (some ⟨g,0,none⟩) (l.length+1) cap) W∧
   OB W base (.slice (some ⟨g,0,none⟩) (l.length+1) cap) (l ++ [c])∧Below base w W:=by
 subst hz;exact h.app c hl hb
theorem ofInt_i64n (a:Nat) (ha:a<9223372036854775808):(BitVec.ofInt 64 (a:Int)).toNat=a:=by
 rw [BitVec.ofInt_natCast,BitVec.toNat_ofNat];exact Nat.mod_eq_of_lt (by omega)
theorem or_i64n (a b:Nat) (ha:a<9223372036854775808) (hb:b<9223372036854775808):bits .or .i64 (a:Int) (b:Int)=((a ||| b:Nat):Int):=by
 have hx:a ||| b<2 ^ 63:=Nat.or_lt_two_pow (by omega) (by omega);show IntKind.i64.wrap ((BitVec.ofInt 64 (a:Int) ||| BitVec.ofInt 64 (b:Int)).toNat:Int)=_;rw [BitVec.toNat_or,ofInt_i64n a ha,ofInt_i64n b hb,IntKind.wrap_i64];omega
theorem or16 (A B:Int) (hA0:0≤A) (hA1:A≤15) (hB0:0≤B) (hB1:B≤15):bits .or .i64 (A*16) B=16*A+B:=by
 obtain⟨a,rfl⟩:∃ a:Nat,A=a:=⟨A.toNat,by omega⟩;obtain⟨b,rfl⟩:∃ b:Nat,B=b:=⟨B.toNat,by omega⟩;have key:∀ a,a<16→∀ b,b<16→(a*16 ||| b)=16*a+b:=by decide
 have h:=or_i64n (a*16) b (by omega) (by omega);rw [key a (by omega) b (by omega)] at h;rw [show ((a:Int)*16)=((a*16:Nat):Int) by omega,h];omega
end
section
open Go.RowKit
def NoT:Nat→Prop:=fun _=>False
def SeqU {α:Type} (T:Nat→Prop) (F:Fence) (n:Nat) (P:Program) (g:Nat) (lb:Array Value) (encs:α→Array Value) (S Sp:List α→Prop) (V:List α→α→Prop) (w:World):Prop:=
 ∀ (l:Nat) (J Jx:List α→World→Prop) (W:World),KT T w W→w.heap.size≤W.heap.size→AbT NoT W.heap.size Obj.isWalk J→AbT NoT W.heap.size Obj.isWalk Jx→
  (∀ pre x W1,J pre W1→V pre x→YieldAt F (n - 1) P l (encs x) W1 fun e W'=>
   (e=.returned (.bool true)∧J (pre ++ [x]) W'∧KT T W1 W')∨(e=.returned (.bool false)∧Jx (pre ++ [x]) W'))→
  J [] W→
  CallsIn F n P g (#[.func (.yield l) #[] #[]] ++ lb) W fun e W'=>(∃ v,e=.returned v)∧((∃ xs,S xs∧J xs W')∨(∃ pre,Sp pre∧Jx pre W'))
theorem wpIn_rangeU {F:Fence} {n:Nat} {P:Program} {w:World} {α:Type} {T:Nat→Prop} {g:Operand} {ps:Array Tmp} {assign body:Code} {Q:Exit→Act→World→Prop} {a:Act}
  (hro:F.round=none) (h1:1≤n) {gf:Nat} {lb:Array Value} (hg:a.eval g=.func (.func gf) #[] lb) (hFg:F.fn gf) (eg:∀ args w,(callFunc gf args).run P w=.ok (.enter gf args) w)
  {encs:α→Array Value} {S Sp:List α→Prop} {V:List α→α→Prop} {w0:World} (hseq:SeqU T F (n - 1) P gf lb encs S Sp V w0)
  (hT:∀ k,T k→k<w.heap.size) (hb0:KT T w0 w) (hps:∀ x,(encs x).size=ps.size)
  (I:List α→World→Prop) (Ix:Code→List α→World→Prop) (hI:AbT NoT w.heap.size notCells I) (hIx:∀ c,AbT NoT w.heap.size notCells (Ix c)) (h0:I [] w) (a₁:α→Act)
  (hassign:∀ (l:Nat) (x:α) (W:World) (K:Act→World→Prop),K (a₁ x) W→
   assign.wpIn (F.inRound l) (n - 1 - 1) P (Exit.then K (fun _ _ _=>False)) {tmps:=(ps.zip (encs x)).foldl (fun t (p,v)=>t.setIfInBounds p v) a.tmps,defers:=[]} W)
  (hbody:∀ (l:Nat) (pre:List α) (x:α) (W:World),w.heap.size≤l→l<W.heap.size→I pre W→V pre x→body.wpIn (F.inRound l) (n - 1 - 1) P (ownPostG w.heap.size (KT T) I Ix (pre ++ [x]) W) (a₁ x) W)
  (hdone:∀ (D:Nat) (xs:List α) (W:World),w.heap.size≤D→S xs→I xs W→W.heap[D]? = some (.deferred (some []))→Q .normal {a with defers:={target:=.collected D,args:=#[]} :: a.defers} W)
  (hstop:∀ (D:Nat) (c:Code) (pre:List α) (W:World),w.heap.size≤D→Sp pre→Ix c pre W→W.heap[D]? = some (.deferred (some []))→c.wpIn F n P Q {a with defers:={target:=.collected D,args:=#[]} :: a.defers} W) :
  (Code.rangeFunc g ps assign body).wpIn F n P Q a w:=by
 refine wpIn_rangeFunc fun fn hfn=>?_;rw [hro];obtain⟨rc,hrc⟩:∃ rc:LoopState→Option Code→Loop,rc=fun st pe=>{state:=st,pending:=pe,fn,tmps:=a.tmps,params:=ps,assign,body,defers:=w.heap.size}:=⟨_,rfl⟩;have hTl:¬ T (w.heap.size+1):=fun h=>by have:=hT _ h;omega
 have hTd:¬ T w.heap.size:=fun h=>by have:=hT _ h;omega
 generalize hW1:(w.alloc (.deferred (some []))).alloc (.loop (rc .ready none))=W1;have hs1:W1.heap.size=w.heap.size+2:=by rw [←hW1];simp
 have hL1:W1.heap[w.heap.size+1]? = some (.loop (rc .ready none)):=by
  have:=World.alloc_heap_new (w.alloc (.deferred (some []))) (.loop (rc .ready none));rw [World.size_alloc] at this;rw [←hW1];exact this
 have hD1:W1.heap[w.heap.size]? = some (.deferred (some [])):=by
  rw [←hW1];exact (Below.heap_alloc _ _ _ (by simp)).trans (World.alloc_heap_new w _)
 have hI1:I [] W1:=by rw [←hW1];exact hI _ _ _ (hI _ _ _ h0 (Turn.alloc _ _)) (Turn.alloc _ _)
 have hK1:KT T w W1:=by rw [←hW1];exact KT.of_below ((((Below.refl _ w).alloc (Nat.le_refl _) _).alloc (by simp) _)) hT
 refine ⟨w.heap.size+1,[{target:=.collected w.heap.size,args:=#[]}],W1,{target:=.fn (.func gf) lb,args:=#[.func (.yield (w.heap.size+1)) #[] #[]]},W1,gf,
  #[.func (.yield (w.heap.size+1)) #[] #[]] ++ lb,W1,?_,?_,?_,?_,fun _=>h1,?_⟩
 ·rw [←hW1,hrc];exact run_enterLoop_outer _ _ _ _ _
 ·simp only [resolve,hg];simp [go_sem]
 ·intro f' hf';simp [Target.leads] at hf';subst hf';exact hFg
 ·simp [invoke,go_sem,eg]
 have turnW:∀ {A B:World},Turn NoT W1.heap.size Obj.isWalk A B→Turn NoT w.heap.size notCells A B:=fun h=>
  ⟨h.os,h.tape,h.output,h.size,fun k o hk ht hp=>h.block k o hk ht (fun hB=>by
   cases hw:o.isWalk with
   | false=>rfl
   | true=>have:=hp (by omega);rw [walk_notCells hw] at this;cases this)⟩
 have keepL:∀ {A B:World} {k:Nat} {o:Obj},Turn NoT W1.heap.size Obj.isWalk A B→A.heap[k]? = some o→¬ T k→o.isWalk=false→B.heap[k]? = some o:=fun h hk _ hw=>h.block _ _ hk (fun h=>h) (fun _=>hw);refine (hseq (w.heap.size+1)
  (fun pre W=>I pre W∧W.heap[w.heap.size+1]? = some (.loop (rc .ready none))∧W.heap[w.heap.size]? = some (.deferred (some [])))
  (fun pre W=>∃ c,Ix c pre W∧W.heap[w.heap.size+1]? = some (.loop (rc .done (some c)))∧W.heap[w.heap.size]? = some (.deferred (some [])))
  W1 (hb0.trans hK1) (Nat.le_trans hb0.1 hK1.1)
  (fun s A B hs ht=>⟨hI s A B hs.1 (turnW ht),keepL ht hs.2.1 hTl rfl,keepL ht hs.2.2 hTd rfl⟩)
  (fun s A B hs ht=>by
   obtain⟨c,hc,hl,hk⟩:=hs;exact⟨c,hIx c s A B hc (turnW ht),keepL ht hl hTl rfl,keepL ht hk hTd rfl⟩)
  ?_ ⟨hI1,hL1,hD1⟩).mono ?_
 ·rintro pre x W ⟨hi,hl,hk⟩ hlen;have hlt:w.heap.size+1<W.heap.size:=(Array.getElem?_eq_some_iff.1 hl).1;have hy:=run_yield (P:=P) (args:=encs x) hl (by rw [hrc];exact hps x);rw [hrc] at hy;refine ⟨fn,_,assign,body,hy,roundIn_of_wpIn hfn (hassign _ x W _ ?_)⟩;clear hy;refine ⟨_,run_beginRound hl (by rw [hrc]),?_⟩;generalize hWb:W.putObj (w.heap.size+1) (.loop {rc .ready none with state:=.busy})=Wb;have hl2:Wb.heap[w.heap.size+1]? = some (.loop {rc .ready none with state:=.busy}):=by rw [←hWb];exact World.putObj_heap_same hlt
  have hk2:Wb.heap[w.heap.size]? = some (.deferred (some [])):=by rw [←hWb];exact (World.putObj_heap_other (by omega)).trans hk
  have hw2:KT T W Wb:=by rw [←hWb];exact KT.put _ _ _ hTl
  have hib:I pre Wb:=by rw [←hWb];exact hI _ _ _ hi (Turn.put (by omega) hl rfl)
  refine wpIn_mono (hbody _ pre x Wb (by omega) (by have:=hw2.1;omega) hib hlen) ?_;have fin:∀ (jump:Option Code) (W3:World),KeepsFrom w.heap.size Wb W3→
    (Instr.endRound (w.heap.size+1) jump).run P W3=.ok (.bool jump.isNone) (W3.putObj (w.heap.size+1) (.loop (rc (if jump.isNone then .ready else .done) jump)))∧
    W3.heap[w.heap.size+1]? = some (.loop {rc .ready none with state:=.busy})∧
    (W3.putObj (w.heap.size+1) (.loop (rc (if jump.isNone then .ready else .done) jump))).heap[w.heap.size+1]? = some (.loop (rc (if jump.isNone then .ready else .done) jump))∧
    (W3.putObj (w.heap.size+1) (.loop (rc (if jump.isNone then .ready else .done) jump))).heap[w.heap.size]? = some (.deferred (some [])):=fun jump W3 hk3=>by
   have hl3:=hk3.same _ _ (by omega) hl2 rfl;have:=run_endRound (P:=P) jump hl3;rw [hrc] at this ⊢;exact⟨this,by rw [hrc] at hl3;exact hl3,World.putObj_heap_same (Array.getElem?_eq_some_iff.1 hl3).1,(World.putObj_heap_other (by omega)).trans (hk3.same _ _ (Nat.le_refl _) hk2 rfl)⟩
  have leave:∀ (c:Code) (W3:World),KeepsFrom w.heap.size Wb W3→Ix c (pre ++ [x]) W3→∃ v W4,(Instr.endRound (w.heap.size+1) (some c)).run P W3=.ok (.bool v) W4∧v=false∧∃ c',Ix c' (pre ++ [x]) W4∧W4.heap[w.heap.size+1]? = some (.loop (rc .done (some c')))∧W4.heap[w.heap.size]? = some (.deferred (some [])):=fun c W3 hk3 hi3=>by
   obtain⟨hr,hl3,hl4,hk4⟩:=fin (some c) W3 hk3;exact⟨_,_,hr,rfl,c,hIx _ _ _ _ hi3 (Turn.put (by omega) hl3 rfl),hl4,hk4⟩
  rintro e a3 W3 hp
  cases e with
  | normal=>
   obtain⟨hk3,hkp3,hi3⟩:=hp;obtain⟨hr,hl3,hl4,hk4⟩:=fin none W3 hk3;exact⟨_,_,hr,.inl ⟨rfl,⟨hI _ _ _ hi3 (Turn.put (by omega) hl3 rfl),hl4,hk4⟩,hw2.trans (hkp3.trans (KT.put _ _ _ hTl))⟩⟩
  | ret=>obtain ⟨v,W4,hr,rfl,h⟩:=leave .ret W3 hp.1 hp.2;exact ⟨_,_,hr,.inr ⟨rfl,h⟩⟩
  | exit id=>obtain ⟨v,W4,hr,rfl,h⟩:=leave (.exit id) W3 hp.1 hp.2;exact ⟨_,_,hr,.inr ⟨rfl,h⟩⟩
  | goto t=>obtain ⟨v,W4,hr,rfl,h⟩:=leave (.goto t) W3 hp.1 hp.2;exact ⟨_,_,hr,.inr ⟨rfl,h⟩⟩
  | panic ch=>exact hp.elim
  | outgrown=>exact hp.elim
 ·rintro e W2 ⟨⟨v,rfl⟩,(⟨xs,hS,hi,hl,hk⟩|⟨pre,hSp,c,hi,hl,hk⟩)⟩
  ·exact ⟨none,_,by have:=run_endLoop (P:=P) hl (by rw [hrc];simp);rw [hrc] at this;exact this,hdone _ xs _ (Nat.le_refl _) hS (hI _ _ _ hi (Turn.put (by omega) hl rfl)) ((World.putObj_heap_other (by omega)).trans hk)⟩
  ·exact ⟨some c,_,by have:=run_endLoop (P:=P) hl (by rw [hrc];simp);rw [hrc] at this;exact this,hstop _ c pre _ (Nat.le_refl _) hSp (hIx c _ _ _ hi (Turn.put (by omega) hl rfl)) ((World.putObj_heap_other (by omega)).trans hk)⟩
end
section
open Go.RowKit
section
variable {S:Fs} {c:Cr} {f must:Bool} {h:Nat} {at':Int} {p:List UInt8} {l:List (List UInt8)} {n:An}
theorem seek_nil:S.seekH c f h at' must []=(⟨0,ByteArray.empty,at',true⟩,0):=by cases h <;> rfl
theorem seek_err (he:(S.step c at' p).2≠0):S.seekH c f h at' must (p :: l)=(fd0,(S.step c at' p).2):=by
 cases h
 ·show S.seekL c f none (p :: l) at' must=_;rw [Fs.seekL];simp only;rw [if_pos he]
 ·show S.seekL c f (some _) (p :: l) at' must=_;rw [Fs.seekL];simp only;rw [if_pos he]
theorem seek_up (he:(S.step c at' p).2=0) (hp:p=[46,46]):S.seekH c f h at' must (p :: l)=S.seekH c f h (S.step c at' p).1 must l:=by
 cases h
 ·show S.seekL c f none (p :: l) at' must=_;rw [Fs.seekL];simp only;rw [if_neg (by simp [he]),if_pos hp];rfl
 ·show S.seekL c f (some _) (p :: l) at' must=_;rw [Fs.seekL];simp only;rw [if_neg (by simp [he]),if_pos hp];rfl
theorem seek_new (he:(S.step c at' p).2=0) (hp:p≠[46,46]) (hg:S.get (S.step c at' p).1=none) (hl:l=[]):S.seekH c f h at' must (p :: l)=(⟨at',str p,0,must⟩,0):=by
 cases h
 ·show S.seekL c f none (p :: l) at' must=_;rw [Fs.seekL];simp only;rw [if_neg (by simp [he]),if_neg hp,hg];simp only;rw [if_pos hl]
 ·show S.seekL c f (some _) (p :: l) at' must=_;rw [Fs.seekL];simp only;rw [if_neg (by simp [he]),if_neg hp,hg];simp only;rw [if_pos hl]
theorem seek_gone (he:(S.step c at' p).2=0) (hp:p≠[46,46]) (hg:S.get (S.step c at' p).1=none) (hl:l≠[]):S.seekH c f h at' must (p :: l)=(fd0,5):=by
 cases h
 ·show S.seekL c f none (p :: l) at' must=_;rw [Fs.seekL];simp only;rw [if_neg (by simp [he]),if_neg hp,hg];simp only;rw [if_neg hl]
 ·show S.seekL c f (some _) (p :: l) at' must=_;rw [Fs.seekL];simp only;rw [if_neg (by simp [he]),if_neg hp,hg];simp only;rw [if_neg hl]
theorem seek_loop (he:(S.step c at' p).2=0) (hp:p≠[46,46]) (hg:S.get (S.step c at' p).1=some n) (hk:n.kind=3∧(l≠[]∨must=true∨f=true)):S.seekH c f 0 at' must (p :: l)=(fd0,12):=by
 show S.seekL c f none (p :: l) at' must=_;rw [Fs.seekL];simp only;rw [if_neg (by simp [he]),if_neg hp,hg];simp only;rw [if_pos hk]
theorem seek_void (he:(S.step c at' p).2=0) (hp:p≠[46,46]) (hg:S.get (S.step c at' p).1=some n) (hk:n.kind=3∧(l≠[]∨must=true∨f=true)) (hd:n.data.data.toList=[]):S.seekH c f (h+1) at' must (p :: l)=(fd0,5):=by
 show S.seekL c f (some _) (p :: l) at' must=_;rw [Fs.seekL];simp only;rw [if_neg (by simp [he]),if_neg hp,hg];simp only;rw [if_pos hk,if_pos hd]
theorem seek_link (he:(S.step c at' p).2=0) (hp:p≠[46,46]) (hg:S.get (S.step c at' p).1=some n) (hk:n.kind=3∧(l≠[]∨must=true∨f=true)) (hd:n.data.data.toList≠[]) :
  S.seekH c f (h+1) at' must (p :: l)=S.seekH c f h (if n.data.data.toList.head? = some 47 then 1 else at') (if l=[] then must || slashB n.data.data.toList else must) (partsL n.data.data.toList ++ l):=by
 show S.seekL c f (some _) (p :: l) at' must=_;rw [Fs.seekL];simp only;rw [if_neg (by simp [he]),if_neg hp,hg];simp only;rw [if_pos hk,if_neg hd]
theorem seek_file (he:(S.step c at' p).2=0) (hp:p≠[46,46]) (hg:S.get (S.step c at' p).1=some n) (hk:¬ (n.kind=3∧(l≠[]∨must=true∨f=true))) (hd:n.kind≠1∧(l≠[]∨must=true)):S.seekH c f h at' must (p :: l)=(fd0,9):=by
 cases h
 ·show S.seekL c f none (p :: l) at' must=_;rw [Fs.seekL];simp only;rw [if_neg (by simp [he]),if_neg hp,hg];simp only;rw [if_neg hk,if_pos hd]
 ·show S.seekL c f (some _) (p :: l) at' must=_;rw [Fs.seekL];simp only;rw [if_neg (by simp [he]),if_neg hp,hg];simp only;rw [if_neg hk,if_pos hd]
theorem seek_last (he:(S.step c at' p).2=0) (hp:p≠[46,46]) (hg:S.get (S.step c at' p).1=some n) (hk:¬ (n.kind=3∧(l≠[]∨must=true∨f=true))) (hd:¬ (n.kind≠1∧(l≠[]∨must=true))) (hl:l=[]):S.seekH c f h at' must (p :: l)=(⟨at',str p,(S.step c at' p).1,must⟩,0):=by
 cases h
 ·show S.seekL c f none (p :: l) at' must=_;rw [Fs.seekL];simp only;rw [if_neg (by simp [he]),if_neg hp,hg];simp only;rw [if_neg hk,if_neg hd,if_pos hl]
 ·show S.seekL c f (some _) (p :: l) at' must=_;rw [Fs.seekL];simp only;rw [if_neg (by simp [he]),if_neg hp,hg];simp only;rw [if_neg hk,if_neg hd,if_pos hl]
theorem seek_on (he:(S.step c at' p).2=0) (hp:p≠[46,46]) (hg:S.get (S.step c at' p).1=some n) (hk:¬ (n.kind=3∧(l≠[]∨must=true∨f=true))) (hd:¬ (n.kind≠1∧(l≠[]∨must=true))) (hl:l≠[]):S.seekH c f h at' must (p :: l)=S.seekH c f h (S.step c at' p).1 must l:=by
 cases h
 ·show S.seekL c f none (p :: l) at' must=_;rw [Fs.seekL];simp only;rw [if_neg (by simp [he]),if_neg hp,hg];simp only;rw [if_neg hk,if_neg hd,if_neg hl];rfl
 ·show S.seekL c f (some _) (p :: l) at' must=_;rw [Fs.seekL];simp only;rw [if_neg (by simp [he]),if_neg hp,hg];simp only;rw [if_neg hk,if_neg hd,if_neg hl];rfl
end
theorem parts_len (l:List UInt8):(partsL l).length≤l.length+1:=Nat.le_trans (List.length_filter_le _ _) (spl_len 47 l).2
theorem parts_app (a b:List UInt8) (ha:∀ x∈a,x≠47):partsL (a ++ 47 :: b)=(if a=[]∨a=[46] then [] else [a]) ++ partsL b:=by
 unfold partsL;rw [spl_app,spl_none 47 a (fun h=>ha 47 h rfl),List.filter_append];congr 1;by_cases h1:a=[]
 ·subst h1;rfl
 ·by_cases h2:a=[46]
  ·subst h2;rfl
  ·rw [if_neg (by rintro (h | h);exact h1 h;exact h2 h)];have e1:(a == [])=false:=by simpa using h1
   have e2:(a == [46])=false:=by simpa using h2
   simp [h1,h2]
theorem parts_one (a:List UInt8) (ha:∀ x∈a,x≠47):partsL a=if a=[]∨a=[46] then [] else [a]:=by
 unfold partsL;rw [spl_none 47 a (fun h=>ha 47 h rfl)];by_cases h1:a=[]
 ·subst h1;rfl
 ·by_cases h2:a=[46]
  ·subst h2;rfl
  ·rw [if_neg (by rintro (h | h);exact h1 h;exact h2 h)];have e1:(a == [])=false:=by simpa using h1
   have e2:(a == [46])=false:=by simpa using h2
   simp [h1,h2]
end
section
open Go.RowKit
def hasE (es:List En) (s:ByteArray):Bool:=(es.find? (fun x=>decide (x.name=s))).isSome
theorem search_any (es:List En) (a:Option Addr) (n c:Nat) (s:ByteArray) (w:World) (he:EntsAt w a n c es) (hr:Rise es) (hn:n≤1000000) :
  Calls Tryz.prog 184 #[.slice a n c,.string s,.func (.func 185) #[] #[]] w fun e w'=>e=.returned (.tuple #[.int .i64 (entAt es s),.bool (hasE es s)])∧Below w.heap.size w w':=by
 have hl:=he.len;have HR:=Lib.hid hr;have HE:=Lib.hid he;have hat:=entAt_le es s;clear hr he;obtain⟨A,hA⟩:∃ A,entAt es s=A:=⟨_,rfl⟩;have HA:=Lib.hid hA;rw [hA] at hat ⊢;clear hA;go_enter Tryz.func184,Tryz.ntmps184;go_wp2_with fail
 go_loopw [9,10] (fun i j wr=>∃ lo hi:Nat,lo≤A∧A≤hi∧hi≤n∧i=.int .i64 lo∧j=.int .i64 hi∧Below w.heap.size w wr) (fun i j _=>(intOf j - intOf i).toNat)
 case atStart=>exact ⟨0,n,by omega,by omega,by omega,rfl,rfl,Below.refl _ _⟩
 case round=>
  obtain⟨lo,hi,h1,h2,h3,rfl,rfl,hB⟩:=hrel;by_cases hlt:lo<hi
  ·obtain ⟨b,off,rfl,hb⟩:=HE.out.some_of (by omega);obtain⟨k,hk⟩:∃ k:Nat,(lo+hi) / 2=k:=⟨_,rfl⟩;have hkl:k<es.length:=by omega
   obtain⟨c1,c2⟩:=(HE.out.keep hB).cell k hkl;obtain⟨x,hx⟩:∃ x,es[k]=x:=⟨_,rfl⟩;rw [hx] at c1 c2;have hcv:(cmpB x.name s<0)=(k<A):=by
    rw [cmpB_lt,←hx,rise_lt HR.out s k hkl,HA.out];simp
   by_cases hkA:k<A
   ·have hneg:cmpB x.name s<0:=by rw [hcv];exact hkA
    clear hcv hx;go_wp2_with fail;refine (by_any x s _).mono ?_;rintro e w1 ⟨rfl,hb1⟩;go_wp2_with fail;go_roundw
    case rel=>exact ⟨k+1,hi,by omega,by omega,h3,by go_num,rfl,bnext hB hb1⟩
    case measure=>simp [intOf];omega
   ·have hneg:¬ cmpB x.name s<0:=by rw [hcv];exact hkA
    clear hcv hx;go_wp2_with fail;refine (by_any x s _).mono ?_;rintro e w1 ⟨rfl,hb1⟩;go_wp2_with fail;go_roundw
    case rel=>exact ⟨lo,k,by omega,by omega,by omega,rfl,by rw [show ((lo:Int)+(hi:Int)) / 2=(k:Int) by omega],bnext hB hb1⟩
    case measure=>simp [intOf];omega
  ·obtain rfl:lo=A:=by omega
   by_cases hAn:lo<n
   ·obtain ⟨b,off,rfl,hb⟩:=HE.out.some_of (by omega);have hkl:lo<es.length:=by omega
    obtain⟨c1,c2⟩:=(HE.out.keep hB).cell lo hkl;obtain⟨x,hx⟩:∃ x,es[lo]=x:=⟨_,rfl⟩;rw [hx] at c1 c2;by_cases hxs:x.name=s
    ·have hz:cmpB x.name s=0:=by rw [cmpB_eq];exact hxs
     have HF:=Lib.hid (show hasE es s=true by
      unfold hasE;rw [find_at HR.out s,dif_pos (by rw [HA.out];exact hkl),if_pos (by simp only [HA.out,hx];exact hxs)];rfl)
     have Hz:=Lib.hid hz;clear hx hxs hz;go_wp2_with fail;refine (by_any x s _).mono ?_;rw [Hz.out];rintro e w1 ⟨rfl,hb1⟩;go_wp2_with fail;go_ret2;exact⟨by rw [HF.out];rfl,bnext hB hb1⟩
    ·have hz:¬ cmpB x.name s=0:=by rw [cmpB_eq];exact hxs
     have HF:=Lib.hid (show hasE es s=false by
      unfold hasE;rw [find_at HR.out s,dif_pos (by rw [HA.out];exact hkl),if_neg (by simp only [HA.out,hx];exact hxs)];rfl)
     have hz2:(cmpB x.name s == 0)=false:=by simpa using hz
     clear hx hxs hz;go_wp2_with fail;refine (by_any x s _).mono ?_;rintro e w1 ⟨rfl,hb1⟩;go_wp2_with fail;go_ret2;exact⟨by rw [HF.out];rfl,bnext hB hb1⟩
   ·have HF:=Lib.hid (show hasE es s=false by
     unfold hasE;rw [find_at HR.out s,dif_neg (by rw [HA.out];omega)];rfl)
    go_wp2_with fail;go_ret2;exact⟨by rw [HF.out];rfl,hB⟩
theorem has_find {es:List En} {s:ByteArray} (h:hasE es s=false):entFind es s=0:=by
 unfold hasE at h;unfold entFind
 cases hf:es.find? (fun x=>decide (x.name=s)) with
 | none=>rfl
 | some x=>rw [hf] at h;cases h
theorem at_find {es:List En} {s:ByteArray} (hr:Rise es) (h:hasE es s=true):∃ hk:entAt es s<es.length,entFind es s=es[entAt es s].no∧es[entAt es s].name=s:=by
 unfold hasE at h;unfold entFind;rw [find_at hr s] at h ⊢
 split at h
 ·rename_i hk
  split at h
  ·rename_i hx;refine ⟨hk,?_,hx⟩;rw [dif_pos hk,if_pos hx]
  ·cases h
 ·cases h
theorem efind_any (es:List En) (a:Option Addr) (n c:Nat) (s:ByteArray) (w:World) (he:EntsAt w a n c es) (hr:Rise es) (hn:n≤1000000) :
  Calls Tryz.prog 133 #[.slice a n c,.string s] w fun e w'=>e=.returned (.int .i64 (entFind es s))∧Below w.heap.size w w':=by
 have hl:=he.len;have HS:=Lib.hid (search_any es a n c s w he hr hn)
 cases hh:hasE es s
 ·rw [hh] at HS;rw [has_find hh];go_enter Tryz.func133,Tryz.ntmps133;go_wp2_with fail;refine HS.out.mono ?_;rintro e w1 ⟨rfl,hb1⟩;go_wp2_with fail;go_ret;exact⟨rfl,hb1⟩
 ·rw [hh] at HS;obtain⟨hk,hf,-⟩:=at_find hr hh;rw [hf];obtain⟨b,off,rfl,hb⟩:=he.some_of (by omega);obtain⟨A,hA⟩:∃ A,entAt es s=A:=⟨_,rfl⟩;simp only [hA] at hk HS ⊢;obtain⟨x,hx⟩:∃ x,es[A]=x:=⟨_,rfl⟩;rw [hx];have HE:=Lib.hid he;clear hf hA he hh;go_enter Tryz.func133,Tryz.ntmps133;go_wp2_with fail;refine HS.out.mono ?_;rintro e w1 ⟨rfl,hb1⟩;obtain⟨c1,c2⟩:=(HE.out.keep hb1).cell A hk;rw [hx] at c1 c2;go_wp2_with fail;go_ret;exact⟨rfl,hb1⟩
end
section
open Go.RowKit
end
end Go.Proofs.YtbndfmkgamdgeaaGreatDoor
namespace Go.Proofs
open Go.Shelf
def Tryz.lays156_ren:Go.Shelf.Ren:=⟨fun | 156=>106 | 165=>159 | 166=>83 | 169=>86 | 240=>140 | 241=>202 | 276=>194 | 277=>240 | n=>n,fun | 0=>0 | 3=>3 | 4=>4 | 5=>5 | 9=>9 | 20=>20 | 31=>201 | 37=>169 | 70=>168 | 72=>171 | 75=>174 | 76=>175 | 80=>177 | 127=>250 | 164=>301 | n=>n,fun n=>n⟩
theorem Tryz.lays156:Go.Proofs.Lays.n156 Tryz.prog Tryz.lays156_ren:={
 mixed:=by kernel_rfl
 f156:=Tryz.func106.trans (congrArg some (by kernel_rfl))
 f165:=Tryz.func159.trans (congrArg some (by kernel_rfl))
 f166:=Tryz.func83.trans (congrArg some (by kernel_rfl))
 f169:=Tryz.func86.trans (congrArg some (by kernel_rfl))
 f240:=Tryz.func140.trans (congrArg some (by kernel_rfl))
 f241:=Tryz.func202.trans (congrArg some (by kernel_rfl))
 f276:=Tryz.func194.trans (congrArg some (by kernel_rfl))
 f277:=Tryz.func240.trans (congrArg some (by kernel_rfl))
 t0:=Tryz.underlying0
 a0:=Tryz.isAgg0
 z0:=Tryz.sizeOf0
 v0:=Tryz.zeroValue0
 t3:=Tryz.underlying3
 a3:=Tryz.isAgg3
 z3:=Tryz.sizeOf3
 v3:=Tryz.zeroValue3
 t4:=Tryz.underlying4
 a4:=Tryz.isAgg4
 z4:=Tryz.sizeOf4
 v4:=Tryz.zeroValue4
 t9:=Tryz.underlying9
 a9:=Tryz.isAgg9
 z9:=Tryz.sizeOf9
 v9:=Tryz.zeroValue9
 t20:=Tryz.underlying20
 a20:=Tryz.isAgg20
 z20:=Tryz.sizeOf20
 v20:=Tryz.zeroValue20
 t31:=Tryz.underlying201
 a31:=Tryz.isAgg201
 z31:=Tryz.sizeOf201
 v31:=Tryz.zeroValue201
 t37:=Tryz.underlying169
 a37:=Tryz.isAgg169
 z37:=Tryz.sizeOf169
 v37:=Tryz.zeroValue169
 t70:=Tryz.underlying168
 a70:=Tryz.isAgg168
 z70:=Tryz.sizeOf168
 v70:=Tryz.zeroValue168
 t72:=Tryz.underlying171
 a72:=Tryz.isAgg171
 z72:=Tryz.sizeOf171
 v72:=Tryz.zeroValue171
 t75:=Tryz.underlying174
 a75:=Tryz.isAgg174
 z75:=Tryz.sizeOf174
 v75:=Tryz.zeroValue174
 t76:=Tryz.underlying175
 a76:=Tryz.isAgg175
 z76:=Tryz.sizeOf175
 v76:=Tryz.zeroValue175
 t127:=Tryz.underlying250
 a127:=Tryz.isAgg250
 z127:=Tryz.sizeOf250
 v127:=Tryz.zeroValue250
 t164:=Tryz.underlying301
 a164:=Tryz.isAgg301
 z164:=Tryz.sizeOf301
 v164:=Tryz.zeroValue301}
def Tryz.lays99_ren:Go.Shelf.Ren:=⟨fun | 99=>56 | 206=>105 | n=>n,fun | 3=>3 | 4=>4 | 9=>9 | n=>n,fun n=>n⟩
theorem Tryz.lays99:Go.Proofs.Lays.n99 Tryz.prog Tryz.lays99_ren:={
 mixed:=by kernel_rfl
 f99:=Tryz.func56.trans (congrArg some (by kernel_rfl))
 f206:=Tryz.func105.trans (congrArg some (by kernel_rfl))
 t3:=Tryz.underlying3
 a3:=Tryz.isAgg3
 z3:=Tryz.sizeOf3
 v3:=Tryz.zeroValue3
 t4:=Tryz.underlying4
 a4:=Tryz.isAgg4
 z4:=Tryz.sizeOf4
 v4:=Tryz.zeroValue4
 t9:=Tryz.underlying9
 a9:=Tryz.isAgg9
 z9:=Tryz.sizeOf9
 v9:=Tryz.zeroValue9}
theorem Tryz.Builder_Extra_156:Builder.Extra Tryz.prog Tryz.lays156_ren:={
 sizeBuilder:=by kernel_rfl
 liesBuilder:=by kernel_rfl
 t5:=Tryz.underlying5
 a5:=Tryz.isAgg5
 z5:=Tryz.sizeOf5
 v5:=Tryz.zeroValue5
 infoByte:=by kernel_rfl
 cellsByte:=by kernel_rfl
 sizeByte:=by kernel_rfl
 neB5:=by decide}
theorem Tryz.strings_Join_none (a:Option Addr) (c:Nat) (sep:ByteArray) (w:World) :
  Calls Tryz.prog 106 #[.slice a 0 c,.string sep] w fun e w'=>e=.returned (.string ⟨#[]⟩)∧w'=w:=Any.strings_Join_none Tryz.lays156 Tryz.Builder_Extra_156 a c sep w
theorem Tryz.strings_Join (bk o c:Nat) (xs:List ByteArray) (sep:ByteArray) (w:World) (hcells:∀ (j:Nat) x,xs[j]? = some x→w.cell? ⟨bk,o+j,none⟩=some (.string x)) (hbk:bk<w.heap.size) (hN:xs.length≤140737488355328) (hcap:xs.length≤c) (hlen:(Lib.join (xs.map (·.data.toList)) sep.data.toList).length≤140737488355328) :
  Calls Tryz.prog 106 #[.slice (some ⟨bk,o,none⟩) xs.length c,.string sep] w fun e w'=>e=.returned (.string ⟨(Lib.join (xs.map (·.data.toList)) sep.data.toList).toArray⟩)∧RowKit.Below w.heap.size w w':=Any.strings_Join Tryz.lays156 Tryz.Builder_Extra_156 bk o c xs sep w hcells hbk hN hcap hlen
theorem Tryz.strings_HasPrefix (s p:ByteArray) (w:World) :
  Calls Tryz.prog 56 #[.string s,.string p] w fun e w'=>e=.returned (.bool (Lib.hasPrefix s.data.toList p.data.toList))∧w'=w:=Any.strings_HasPrefix Tryz.lays99 s p w
end Go.Proofs
namespace Go.Proofs.YtbndfmkgamdgeaaGreatDoor
section
open Go.RowKit
def seqV (h:Nat):Value:=.func (.func 228) #[] #[.pointer (some ⟨h+1,0,none⟩),.pointer (some ⟨h,0,none⟩),.pointer (some ⟨h+2,0,none⟩)]
theorem seqv_any (s p:ByteArray) (w:World) :
  Calls Tryz.prog 180 #[.string s,.string p,.int .i64 0] w fun e w'=>e=.returned (seqV w.heap.size)∧w'=((w.alloc (.cells #[.string s] 9)).alloc (.cells #[.string p] 9)).alloc (.cells #[.int .i64 0] 3):=by
 go_enter Tryz.func180,Tryz.ntmps180;go_wp2_with fail;go_ret;exact⟨rfl,rfl⟩
theorem seq_any (s p:ByteArray) (w:World) :
  Calls Tryz.prog 126 #[.string s,.string p] w fun e w'=>e=.returned (seqV w.heap.size)∧Blk w' w.heap.size #[.string s] 9∧Blk w' (w.heap.size+1) #[.string p] 9∧Blk w' (w.heap.size+2) #[.int .i64 0] 3∧Below w.heap.size w w'∧w'.heap.size=w.heap.size+3:=by
 have h0:=(((Blk.new w #[.string s] 9).old (.cells #[.string p] 9)).old (.cells #[.int .i64 0] 3));have h1:=((Blk.new (w.alloc (.cells #[.string s] 9)) #[.string p] 9).old (.cells #[.int .i64 0] 3));have h2:=Blk.new ((w.alloc (.cells #[.string s] 9)).alloc (.cells #[.string p] 9)) #[.int .i64 0] 3;have hz:(w.alloc (.cells #[.string s] 9)).heap.size=w.heap.size+1:=by simp
 have hz2:((w.alloc (.cells #[.string s] 9)).alloc (.cells #[.string p] 9)).heap.size=w.heap.size+2:=by simp
 have hz3:(((w.alloc (.cells #[.string s] 9)).alloc (.cells #[.string p] 9)).alloc (.cells #[.int .i64 0] 3)).heap.size=w.heap.size+3:=by simp
 have hB:=balloc (balloc (balloc (Below.refl w.heap.size w) (.cells #[.string s] 9)) (.cells #[.string p] 9)) (.cells #[.int .i64 0] 3);rw [hz] at h1;rw [hz2] at h2;have H:=Lib.hid (And.intro h0 (And.intro h1 (And.intro h2 (And.intro hB hz3))));clear h0 h1 h2 hz hz2 hz3 hB;go_enter Tryz.func126,Tryz.ntmps126;go_wp2_with (go_at_call 180;refine (seqv_any _ _ _).mono ?_;rintro e w1 ⟨rfl,rfl⟩);go_ret;exact⟨rfl,H.out⟩
end
section
open Go.RowKit
structure Met (l:List (Int×Value×Nat)) (pre:List Int):Prop where
 once:KeysOnce l
 cnt:∀ k,mapFind l k=if k∈pre then some (.int .i64 (pre.count k:Nat)) else none
theorem Met.nil:Met [] []:=⟨List.Pairwise.nil,fun k=>by simp [mapFind]⟩
theorem put_once {l:List (Int×Value×Nat)} (h:KeysOnce l) (k:Int) (v:Value):KeysOnce (mapPut l k v):=by
 unfold KeysOnce mapPut at *;rw [List.map_map];have:((fun x:Int×Value×Nat=>x.1) ∘ fun x:Int×Value×Nat=>if x.1 == k then (k,v,x.2.2) else x)=fun x=>x.1:=by
  funext x;show (if x.1 == k then (k,v,x.2.2) else x).1=x.1
  split
  ·rename_i h;exact (by simpa using h:x.1=k).symm
  ·rfl
 rw [this];exact h
theorem put_find (l:List (Int×Value×Nat)) (k:Int) (v:Value) (x:Int):mapFind (mapPut l k v) x=if x=k then (mapFind l k).map (fun _=>v) else mapFind l x:=by
 unfold mapFind mapPut
 induction l with
 | nil=>simp
 | cons y l ih=>
  rw [List.map_cons,List.find?_cons];by_cases hy:y.1=k
  ·rw [if_pos (by simpa using hy)];by_cases hx:x=k
   ·rw [if_pos hx] at ih ⊢;rw [List.find?_cons];simp [hx,hy]
   ·rw [if_neg hx] at ih ⊢;have h1:(k == x)=false:=by simpa using fun e=>hx e.symm
    have h2:(y.1 == x)=false:=by rw [hy];exact h1
    rw [List.find?_cons];simp only [h1,h2];exact ih
  ·rw [if_neg (by simpa using hy)];by_cases hyx:y.1=x
   ·have h1:(y.1 == x)=true:=by simpa using hyx
    have hx:¬ x=k:=fun e=>hy (hyx.trans e);rw [if_neg hx];rw [List.find?_cons];simp only [h1]
   ·have h1:(y.1 == x)=false:=by simpa using hyx
    simp only [h1];rw [ih];by_cases hx:x=k
    ·rw [if_pos hx,if_pos hx,List.find?_cons];have h2:(y.1 == k)=false:=by simpa using hy
     simp only [h2]
    ·rw [if_neg hx,if_neg hx,List.find?_cons];simp only [h1]
theorem Met.yes {l:List (Int×Value×Nat)} {pre:List Int} (h:Met l pre) {k:Int} (hk:k∈pre):mapFind l k=some (.int .i64 (pre.count k:Nat)):=by rw [h.cnt,if_pos hk]
theorem Met.no {l:List (Int×Value×Nat)} {pre:List Int} (h:Met l pre) {k:Int} (hk:k∉pre):mapFind l k=none:=by rw [h.cnt,if_neg hk]
theorem Met.more {l:List (Int×Value×Nat)} {pre:List Int} (h:Met l pre) {k:Int} (hk:k∈pre):Met (mapPut l k (.int .i64 ((pre.count k:Nat)+1))) (pre ++ [k]):=by
 refine ⟨put_once h.once _ _,fun x=>?_⟩;rw [put_find];by_cases hx:x=k
 ·subst hx;rw [if_pos rfl,h.yes hk,if_pos (List.mem_append_left _ hk),List.count_append];simp
 ·rw [if_neg hx,h.cnt,List.count_append];have:List.count x [k]=0:=by
   rw [List.count_eq_zero];simpa using hx
  rw [this,Nat.add_zero];by_cases hm:x∈pre
  ·rw [if_pos hm,if_pos (List.mem_append_left _ hm)]
  ·rw [if_neg hm,if_neg];intro h2;rcases List.mem_append.1 h2 with h2 | h2
   ·exact hm h2
   ·exact hx (List.mem_singleton.1 h2)
theorem Met.new {l:List (Int×Value×Nat)} {pre:List Int} (h:Met l pre) {k:Int} (hk:k∉pre) (clk:Nat):Met (l ++ [(k,.int .i64 1,clk)]) (pre ++ [k]):=by
 have hnone:=h.no hk;have hkey:∀ y∈l,y.1≠k:=fun y hy he=>by
  unfold mapFind at hnone;rw [Option.map_eq_none_iff,List.find?_eq_none] at hnone;exact hnone y hy (by simpa using he)
 refine ⟨?_,fun x=>?_⟩
 ·unfold KeysOnce;rw [List.map_append,List.nodup_append];refine ⟨h.once,by simp,fun a ha b hb=>?_⟩;simp at hb;subst hb;obtain⟨y,hy,rfl⟩:=List.mem_map.1 ha;exact hkey y hy
 ·have h1:=h.cnt x;unfold mapFind at h1 ⊢;rw [List.find?_append,List.count_append];by_cases hx:x=k
  ·subst hx;rw [if_neg hk] at h1;rw [Option.map_eq_none_iff.1 h1,Option.none_or,if_pos (List.mem_append_right _ (List.mem_singleton.2 rfl)),List.count_eq_zero_of_not_mem hk];simp
  ·have h2:List.find? (fun y:Int×Value×Nat=>y.1 == x) [(k,Value.int .i64 1,clk)]=none:=by
    rw [List.find?_eq_none];intro y hy;rw [List.mem_singleton] at hy;subst hy;simpa using fun e=>hx e.symm
   rw [h2,Option.or_none,h1];have:List.count x [k]=0:=by
    rw [List.count_eq_zero];simpa using hx
   rw [this,Nat.add_zero];by_cases hm:x∈pre
   ·rw [if_pos hm,if_pos (List.mem_append_left _ hm)]
   ·rw [if_neg hm,if_neg];intro h2;rcases List.mem_append.1 h2 with h2 | h2
    ·exact hm h2
    ·exact hx (List.mem_singleton.1 h2)
end
end Go.Proofs.YtbndfmkgamdgeaaGreatDoor
