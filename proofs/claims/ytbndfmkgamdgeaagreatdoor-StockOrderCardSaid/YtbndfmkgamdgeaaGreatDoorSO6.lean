import Derived.Test.YtbndfmkgamdgeaaGreatDoorSO1
import Derived.Test.YtbndfmkgamdgeaaGreatDoorSO2
import Derived.Test.YtbndfmkgamdgeaaGreatDoorSO3
import Derived.Test.YtbndfmkgamdgeaaGreatDoorSO5
set_option linter.unusedVariables false
set_option linter.unusedSimpArgs false
set_option maxRecDepth 100000
set_option maxHeartbeats 16000000
namespace Go.Proofs.YtbndfmkgamdgeaaGreatDoor
section
open Go.RowKit
def segL (l:List UInt8):List UInt8:=(l.reverse.takeWhile (· != 47)).reverse
def trimL (l:List UInt8):List UInt8:=(l.reverse.dropWhile (· == 47)).reverse
def lastL (l:List UInt8):List UInt8:=if segL (trimL l)=[46]∨segL (trimL l)=[46,46] then [] else segL (trimL l)
def pathE (s:ByteArray):Int:=if s.data.toList=[] then 5 else if s.data.toList.head?≠some 47∨(0:UInt8)∈s.data.toList then 1 else if 4096<s.size then 13 else 0
def pathB (s:ByteArray):Bool:=pathE s == 0 && lastL s.data.toList != []
theorem segL_snoc (l:List UInt8) (x:UInt8):segL (l ++ [x])=if x=47 then [] else segL l ++ [x]:=by
 unfold segL;rw [List.reverse_append,List.reverse_singleton,List.singleton_append,List.takeWhile_cons];by_cases h:x=47
 ·subst h;simp
 ·have:(x != 47)=true:=by simpa using h
  rw [this,if_neg h];simp
def hasB (s:ByteArray) (c:UInt8):Bool:=decide (c∈s.data.toList)
theorem segL_app (a b:List UInt8) (hb:∀ x∈b,x≠47):segL (a ++ b)=segL a ++ b:=by
 revert hb;refine snoc_ind (P:=fun b=>(∀ x∈b,x≠47)→segL (a ++ b)=segL a ++ b) (by simp) (fun b x ih hb=>?_) b;rw [←List.append_assoc,segL_snoc,if_neg (hb x (by simp)),ih (fun y hy=>hb y (List.mem_append_left _ hy)),List.append_assoc]
theorem seg_idx (s:ByteArray):∃ i:Nat,Lib.lastIndexByte s 47=(i:Int) - 1∧i≤s.size∧s.data.toList.drop i=segL s.data.toList:=by
 have hg:∀ j (h:j<s.size),s.data[j]! = s.data.toList[j]'(by simpa using h):=fun j h=>by
  rw [getElem!_pos s.data j h];rfl
 rcases Lib.lastIdx_spec s 47 s.size with ⟨h1,h2⟩|⟨i,hi,h1,h2,h3⟩
 ·refine ⟨0,by unfold Lib.lastIndexByte;rw [h1];rfl,Nat.zero_le _,?_⟩;have hb:∀ x∈s.data.toList,x≠47:=by
   intro x hx;obtain⟨j,hj,rfl⟩:=List.getElem_of_mem hx;have hj':j<s.size:=by simpa using hj
   have:=h2 j hj';rw [hg j hj'] at this;intro e;rw [e] at this;exact this rfl
  have:=segL_app [] s.data.toList hb;rw [List.nil_append] at this;rw [this];rfl
 ·refine ⟨i+1,by unfold Lib.lastIndexByte;rw [h1];omega,hi,?_⟩;have hi':i<s.data.toList.length:=by simpa using hi
  have hb:∀ x∈s.data.toList.drop (i+1),x≠47:=by
   intro x hx;obtain⟨j,hj,rfl⟩:=List.getElem_of_mem hx;rw [List.length_drop] at hj;have hj':i+1+j<s.size:=by
    have:s.data.toList.length=s.size:=Array.length_toList;omega
   have:=h3 (i+1+j) (by omega) hj';rw [hg _ hj'] at this;intro e;rw [List.getElem_drop] at e;rw [e] at this;exact this rfl
  have h47:s.data.toList[i]=47:=by
   rw [hg i hi] at h2;rw [u8_eq];show (s.data.toList[i]).toNat=47;omega
  have hsp:s.data.toList=(s.data.toList.take i ++ [47]) ++ s.data.toList.drop (i+1):=by
   rw [←h47,←List.take_succ_eq_append_getElem,List.take_append_drop]
  have h5:=segL_app (s.data.toList.take i ++ [47]) (s.data.toList.drop (i+1)) hb;rw [←hsp,segL_snoc,if_pos rfl,List.nil_append] at h5;exact h5.symm
theorem tail_any (s:ByteArray) (w:World) (hs:s.size≤2000000) :
  Calls Tryz.prog 239 #[.string s] w fun e w'=>e=.returned (.string (str (segL s.data.toList)))∧w=w':=by
 obtain⟨i,h1,h2,h3⟩:=seg_idx s;have hc:=Lib.hid (show ∀ w,Calls Tryz.prog 107 #[.string s,.int .u8 47] w fun e w'=>e=.returned (.int .i64 ((i:Int) - 1))∧w=w' from fun w=>by
  refine (Tryz.strings_LastIndexByte s 47 (by omega) w).mono ?_;rintro e w' ⟨rfl,rfl⟩;exact⟨by rw [h1],rfl⟩)
 have hx:=Lib.hid (show s.extract i s.size=str (segL s.data.toList) by
  rw [←h3];apply ba_ext;rw [ByteArray.toList_eq,ByteArray.toList_eq,ByteArray.data_extract];show (s.data.extract i s.data.size).toList=_;rw [Array.toList_extract,List.extract_eq_take_drop];show List.take (s.data.size - i) (List.drop i s.data.toList)=List.drop i s.data.toList;exact List.take_of_length_le (by rw [List.length_drop,Array.length_toList];omega))
 clear h1 h3;go_enter Tryz.func239,Tryz.ntmps239;go_wp2_with (go_at_call 107;refine (hc.out _).mono ?_;rintro e w1 ⟨rfl,rfl⟩);go_ret;exact⟨by rw [←hx.out];rfl,rfl⟩
end
section
open Go.RowKit
def entC (x:En):List Value:=[.string x.name,.int .i64 x.no]
theorem entC_len (x:En):(entC x).length=2:=rfl
def entQ (cs:List Value) (x:En):Prop:=cs=entC x
structure EntsAt (w:World) (a:Option Addr) (n c:Nat) (es:List En):Prop where
 sl:SliceAt w 2 entQ a n c es
 blk:∀ p,a=some p→∃ b off cur,p=⟨b,off,none⟩∧w.heap[b]? = some (.cells cur 92 (0,0))
theorem EntsAt.nil (w:World):EntsAt w none 0 0 []:=⟨⟨rfl,Nat.le_refl _,by omega,.inl rfl⟩,fun p h=>by cases h⟩
theorem EntsAt.len {w:World} {a:Option Addr} {n c:Nat} {es:List En} (h:EntsAt w a n c es):es.length=n:=h.sl.1
theorem EntsAt.turn {w w':World} {a:Option Addr} {n c:Nat} {es:List En} (h:EntsAt w a n c es) (ht:∀ (b:Nat) (cur:Array Value),w.heap[b]? = some (.cells cur 92 (0,0))→w'.heap[b]? = w.heap[b]?) (hs:w.heap.size≤w'.heap.size):EntsAt w' a n c es:=by
 refine ⟨⟨h.sl.1,h.sl.2.1,h.sl.2.2.1,h.sl.2.2.2.imp id ?_⟩,fun p hp=>?_⟩
 ·rintro ⟨b,off,rfl,hb,hel⟩;obtain⟨b',off',cur,e,hblk⟩:=h.blk _ rfl;injection e with e1 e2;subst e1 e2;refine ⟨b,off,rfl,Nat.lt_of_lt_of_le hb hs,fun i hi=>?_⟩;obtain⟨cs,h1,h2,h3⟩:=hel i hi;refine ⟨cs,h1,h2,fun j hj=>?_⟩;rw [←h3 j hj];simp only [World.cell?,ht _ _ hblk]
 ·obtain ⟨b,off,cur,e,hblk⟩:=h.blk p hp;exact⟨b,off,cur,e,(ht _ _ hblk).trans hblk⟩
theorem EntsAt.keep {w w':World} {a:Option Addr} {n c:Nat} {es:List En} (h:EntsAt w a n c es) (hb:Below w.heap.size w w'):EntsAt w' a n c es:=
 h.turn (fun b cur hc=>hb.block b (Array.getElem?_eq_some_iff.1 hc).1) hb.size
theorem EntsAt.cell {w:World} {b off n c:Nat} {es:List En} (h:EntsAt w (some ⟨b,off,none⟩) n c es) (k:Nat) (hk:k<es.length) :
  w.cell? ⟨b,off+k*2,none⟩=some (.string es[k].name)∧w.cell? ⟨b,off+k*2+1,none⟩=some (.int .i64 es[k].no):=by
 obtain⟨hl,-,-,h0 | ⟨b',off',he,hb,hel⟩⟩:=h.sl
 ·omega
 ·injection he with he;injection he with e1 e2;subst e1 e2;obtain⟨cs,h1,h2,h3⟩:=hel k hk;subst h2;exact⟨h3 0 (by rw [entC_len];omega),h3 1 (by rw [entC_len];omega)⟩
theorem EntsAt.some_of {w:World} {a:Option Addr} {n c:Nat} {es:List En} (h:EntsAt w a n c es) (hn:0<n):∃ b off,a=some ⟨b,off,none⟩∧b<w.heap.size:=by
 obtain⟨-,-,-,h0 | ⟨b',off',he,hb,-⟩⟩:=h.sl
 ·omega
 ·exact ⟨b',off',he,hb⟩
def An.v (a:An) (ea:Option Addr) (el ec:Nat):Value:=.agg #[.int .i64 a.no,.int .i64 a.dev,.int .i64 a.kind,.int .i64 a.mode,.int .i64 a.uid,.int .i64 a.gid,.int .i64 a.mtime,.int .i64 a.ctime,.int .i64 a.links,.int .i64 a.up,.string a.data,.slice ea el ec]
def An.nd (a:An) (ea:Option Addr) (el ec:Nat):Nd:=⟨a.no,a.dev,a.kind,a.mode,a.uid,a.gid,a.mtime,a.ctime,a.links,a.up,a.data,ea,el,ec⟩
structure Gn where
 a:An
 ea:Option Addr
 el:Nat
 ec:Nat
 clk:Nat
def Gn.nd (g:Gn):Nd:=g.a.nd g.ea g.el g.ec
def Gn.e (g:Gn):Nd×Nat:=(g.nd,g.clk)
def Dv.cs (d:Dv):List Value:=[.int .i64 d.root,.int .i64 d.over,.int .i64 d.b,.int .i64 d.n,.int .i64 d.mb,.int .i64 d.mn]
theorem Dv.cs_len (d:Dv):d.cs.length=6:=rfl
structure Rp where
 pt:Nat
 pm:Nat
 dv:Value
 G:List Gn
 clk:Nat
def Rp.F (R:Rp) (pw:Nat) (k:Nat):Prop:=k=pw∨k=R.pt∨k=R.pm∨R.dv.ownBlock=some k
structure WdAt (w:World) (pw:Nat) (R:Rp) (S:Fs):Prop where
 blk:Blk w pw #[.pointer (some ⟨R.pt,0,none⟩),R.dv] 213
 tab:Tab w R.pt R.pm S.last (R.G.map Gn.e) R.clk
 devs:w.ownsRow 0 217 6 R.dv S.ds.length (S.ds.flatMap Dv.cs)
 ns:S.ns=R.G.map (·.a)
 ents:∀ g∈R.G,EntsAt w g.ea g.el g.ec g.a.ents
structure Stp (F F':Nat→Prop) (w w':World):Prop where
 mod:Mod F w w'
 new:∀ k,F' k→F k∨w.heap.size≤k
theorem Stp.of_below {F:Nat→Prop} {w w':World} (h:Below w.heap.size w w'):Stp F F w w':=⟨Mod.of_below h,fun _ h=>.inl h⟩
theorem Stp.of_mod {F:Nat→Prop} {w w':World} (h:Mod F w w'):Stp F F w w':=⟨h,fun _ h=>.inl h⟩
theorem Stp.trans {F F' F'':Nat→Prop} {w w' w'':World} (h:Stp F F' w w') (k:Stp F' F'' w' w''):Stp F F'' w w'':=
 ⟨⟨k.mod.os.trans h.mod.os,k.mod.tape.trans h.mod.tape,k.mod.output.trans h.mod.output,Nat.le_trans h.mod.size k.mod.size,fun i hi hs=>
   (k.mod.block i (Nat.lt_of_lt_of_le hi h.mod.size) (fun h'=>(h.new i h').elim hs (fun hlt=>by omega))).trans (h.mod.block i hi hs)⟩,
  fun i hi=>(k.new i hi).elim (fun h'=>h.new i h') (fun hlt=>.inr (Nat.le_trans h.mod.size hlt))⟩
theorem Stp.below {F F':Nat→Prop} {w w':World} {N:Nat} (h:Stp F F' w w') (hF:∀ k,F k→N≤k) (hN:N≤w.heap.size):Below N w w':=h.mod.below hF hN
theorem Stp.above {F F':Nat→Prop} {w w':World} {N:Nat} (h:Stp F F' w w') (hF:∀ k,F k→N≤k) (hN:N≤w.heap.size):∀ k,F' k→N≤k:=
 fun k hk=>(h.new k hk).elim (hF k) (fun h'=>Nat.le_trans hN h')
def wdKind (o:Obj):Bool:=match o with
 | .cells _ t _=>t == 213 || t == 290 || t == 217
 | .map _ _=>true
 | _=>false
section
variable {w w':World} {pw:Nat} {R:Rp} {S:Fs}
theorem WdAt.kind (h:WdAt w pw R S) {k:Nat} (hk:R.F pw k):∃ o,w.heap[k]? = some o∧wdKind o=true:=by
 rcases hk with rfl | rfl | rfl | hk
 ·exact ⟨_,h.blk,rfl⟩
 ·exact ⟨_,h.tab.blk,rfl⟩
 ·exact ⟨_,h.tab.map,rfl⟩
 ·rcases h.devs.2 with ⟨h1,-⟩|⟨g,cap,cur,h1,-,hg,-⟩
  ·rw [h1] at hk;cases hk
  ·rw [h1] at hk;simp only [Value.ownBlock,Option.some.injEq] at hk;subst hk;exact⟨_,hg,rfl⟩
theorem EntsAt.wd {a:Option Addr} {n c:Nat} {es:List En} (he:EntsAt w a n c es) (h:WdAt w pw R S) {F':Nat→Prop} (hs:Stp (R.F pw) F' w w'):EntsAt w' a n c es:=
 he.turn (fun b cur hc=>hs.mod.block b (Array.getElem?_eq_some_iff.1 hc).1 (fun hk=>by
  obtain⟨o,ho,hd⟩:=h.kind hk;rw [hc] at ho;injection ho with ho;subst ho;rw [show wdKind (.cells cur 92 (0,0))=false from rfl] at hd
  cases hd)) hs.mod.size
theorem Blk.wd {B:Nat} {vs:Array Value} {T:TypeId} (hb:Blk w B vs T) (h:WdAt w pw R S) {F':Nat→Prop} (hs:Stp (R.F pw) F' w w') (hT:wdKind (.cells #[] T (0,0))=false):Blk w' B vs T:=
 hb.mod hs.mod (fun hk=>by
  obtain⟨o,ho,hd⟩:=h.kind hk;unfold Blk at hb;rw [hb] at ho;injection ho with ho;subst ho;rw [show wdKind (.cells vs T (0,0))=wdKind (.cells #[] T (0,0)) from rfl,hT] at hd
  cases hd)
theorem WdAt.turn (h:WdAt w pw R S) (ht:∀ (k:Nat) (o:Obj),w.heap[k]? = some o→(wdKind o=true∨∃ cur,o=.cells cur 92 (0,0))→w'.heap[k]? = w.heap[k]?) (hs:w.heap.size≤w'.heap.size):WdAt w' pw R S where
 blk:=(ht _ _ h.blk (.inl rfl)).trans h.blk
 tab:=⟨(ht _ _ h.tab.blk (.inl rfl)).trans h.tab.blk,(ht _ _ h.tab.map (.inl rfl)).trans h.tab.map,h.tab.once,h.tab.low⟩
 devs:=⟨h.devs.1,h.devs.2.imp id fun ⟨g,cap,cur,h1,h2,hg,h3⟩=>⟨g,cap,cur,h1,h2,(ht _ _ hg (.inl rfl)).trans hg,h3⟩⟩
 ns:=h.ns
 ents:=fun g hg=>(h.ents g hg).turn (fun b cur hc=>ht _ _ hc (.inr ⟨cur,rfl⟩)) hs
theorem WdAt.keep (h:WdAt w pw R S) (hb:Below w.heap.size w w'):WdAt w' pw R S:=
 h.turn (fun k o ho _=>hb.block k (Array.getElem?_eq_some_iff.1 ho).1) hb.size
theorem WdAt.mod (h:WdAt w pw R S) {F:Nat→Prop} (hm:Mod F w w') (hF:∀ (k:Nat) (o:Obj),F k→w.heap[k]? = some o→wdKind o=false∧∀ cur,o≠.cells cur 92 (0,0)):WdAt w' pw R S:=
 h.turn (fun k o ho hk=>hm.block k (Array.getElem?_eq_some_iff.1 ho).1 (fun hf=>by
  obtain⟨h1,h2⟩:=hF k o hf ho;rcases hk with hk | ⟨cur,hk⟩
  ·rw [h1] at hk;cases hk
  ·exact h2 cur hk)) hm.size
theorem findNd_G (G:List Gn) (k:Int):findNd (G.map Gn.e) k=(G.find? (fun g=>g.a.no == k)).map Gn.nd:=by
 unfold findNd;rw [List.find?_map];have:(fun x:Nd×Nat=>x.1.no == k) ∘ Gn.e=fun g:Gn=>g.a.no == k:=rfl;rw [this,Option.map_map];rfl
theorem get_G (h:WdAt w pw R S) (k:Int):S.get k=(R.G.find? (fun g=>g.a.no == k)).map (·.a):=by
 unfold Fs.get;rw [h.ns,List.find?_map];rfl
end
end
end Go.Proofs.YtbndfmkgamdgeaaGreatDoor
