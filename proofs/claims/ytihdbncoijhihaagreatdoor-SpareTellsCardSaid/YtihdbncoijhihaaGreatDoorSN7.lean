import Derived.Lib.SliceRun
import Derived.StillTail
import Derived.StillTactics
import Derived.OrdersHeld
import Derived.WalkKit
import Derived.Test.YtihdbncoijhihaaGreatDoorSN6
import Derived.Test.YtihdbncoijhihaaGreatDoorSN4
import Derived.Test.YtihdbncoijhihaaGreatDoorSN5
set_option linter.unusedVariables false
set_option linter.unusedSimpArgs false
set_option maxRecDepth 100000
set_option maxHeartbeats 16000000
namespace Go.Proofs.YtihdbncoijhihaaGreatDoor
section
open Go.RowKit
def entC (x:En):List Value:=[.string x.name,.int .i64 x.no]
theorem entC_len (x:En):(entC x).length=2:=rfl
def entQ (cs:List Value) (x:En):Prop:=cs=entC x
structure EntsAt (w:World) (a:Option Addr) (n c:Nat) (es:List En):Prop where
 sl:SliceAt w 2 entQ a n c es
 blk:∀ p,a=some p→∃ b off cur,p=⟨b,off,none⟩∧w.heap[b]? = some (.cells cur 113 (0,0))
theorem EntsAt.nil (w:World):EntsAt w none 0 0 []:=⟨⟨rfl,Nat.le_refl _,by omega,.inl rfl⟩,fun p h=>by cases h⟩
theorem EntsAt.len {w:World} {a:Option Addr} {n c:Nat} {es:List En} (h:EntsAt w a n c es):es.length=n:=h.sl.1
theorem EntsAt.turn {w w':World} {a:Option Addr} {n c:Nat} {es:List En} (h:EntsAt w a n c es) (ht:∀ (b:Nat) (cur:Array Value),w.heap[b]? = some (.cells cur 113 (0,0))→w'.heap[b]? = w.heap[b]?) (hs:w.heap.size≤w'.heap.size):EntsAt w' a n c es:=by
 refine ⟨⟨h.sl.1,h.sl.2.1,h.sl.2.2.1,h.sl.2.2.2.imp id ?_⟩,fun p hp=>?_⟩
 ·rintro ⟨b,off,rfl,hb,hel⟩;obtain⟨b',off',cur,e,hblk⟩:=h.blk _ rfl;injection e with e1 e2;subst e1 e2;refine ⟨b,off,rfl,Nat.lt_of_lt_of_le hb hs,fun i hi=>?_⟩;obtain⟨cs,h1,h2,h3⟩:=hel i hi;refine ⟨cs,h1,h2,fun j hj=>?_⟩;rw [←h3 j hj];simp only [World.cell?,ht _ _ hblk]
 ·obtain ⟨b,off,cur,e,hblk⟩:=h.blk p hp;exact⟨b,off,cur,e,(ht _ _ hblk).trans hblk⟩
theorem EntsAt.keep {w w':World} {a:Option Addr} {n c:Nat} {es:List En} (h:EntsAt w a n c es) (hb:Below w.heap.size w w'):EntsAt w' a n c es:=
 h.turn (fun b cur hc=>hb.block b (Array.getElem?_eq_some_iff.1 hc).1) hb.size
theorem EntsAt.keepB {w w':World} {a:Option Addr} {n c N:Nat} {es:List En} (h:EntsAt w a n c es) (hb:Below N w w') (hN:w.heap.size≤N):EntsAt w' a n c es:=
 h.turn (fun b cur hc=>hb.block b (Nat.lt_of_lt_of_le (Array.getElem?_eq_some_iff.1 hc).1 hN)) hb.size
theorem EntsAt.cell {w:World} {b off n c:Nat} {es:List En} (h:EntsAt w (some ⟨b,off,none⟩) n c es) (k:Nat) (hk:k<es.length) :
  w.cell? ⟨b,off+k*2,none⟩=some (.string es[k].name)∧w.cell? ⟨b,off+k*2+1,none⟩=some (.int .i64 es[k].no):=by
 obtain⟨hl,-,-,h0 | ⟨b',off',he,hb,hel⟩⟩:=h.sl
 ·omega
 ·injection he with he;injection he with e1 e2;subst e1 e2;obtain⟨cs,h1,h2,h3⟩:=hel k hk;subst h2;exact⟨h3 0 (by rw [entC_len];omega),h3 1 (by rw [entC_len];omega)⟩
theorem EntsAt.some_of {w:World} {a:Option Addr} {n c:Nat} {es:List En} (h:EntsAt w a n c es) (hn:0<n):∃ b off,a=some ⟨b,off,none⟩∧b<w.heap.size:=by
 obtain⟨-,-,-,h0 | ⟨b',off',he,hb,-⟩⟩:=h.sl
 ·omega
 ·exact ⟨b',off',he,hb⟩
def An.v (a:An) (ea:Option Addr) (el ec:Nat):Value:=.agg #[.int .i64 a.no,.int .i64 a.dev,.int .i64 a.kind,.int .i64 a.mode,.int .i64 a.uid,.int .i64 a.gid,.int .i64 a.mtime,.int .i64 a.ctime,.int .i64 a.links,.int .i64 a.up,.string a.data,.slice ea el ec]
def An.nd (a:An) (ea:Option Addr) (el ec:Nat):Nd:=⟨a.no,a.dev,a.kind,a.mode,a.uid,a.gid,a.mtime,a.ctime,a.links,a.up,a.data,ea,el,ec⟩
structure Gn where
 a:An
 ea:Option Addr
 el:Nat
 ec:Nat
 clk:Nat
def Gn.nd (g:Gn):Nd:=g.a.nd g.ea g.el g.ec
def Gn.e (g:Gn):Nd×Nat:=(g.nd,g.clk)
def Dv.cs (d:Dv):List Value:=[.int .i64 d.root,.int .i64 d.over,.int .i64 d.b,.int .i64 d.n,.int .i64 d.mb,.int .i64 d.mn]
theorem Dv.cs_len (d:Dv):d.cs.length=6:=rfl
structure Rp where
 pt:Nat
 pm:Nat
 dv:Value
 G:List Gn
 clk:Nat
def Rp.F (R:Rp) (pw:Nat) (k:Nat):Prop:=k=pw∨k=R.pt∨k=R.pm∨R.dv.ownBlock=some k
structure WdAt (w:World) (pw:Nat) (R:Rp) (S:Fs):Prop where
 blk:Blk w pw #[.pointer (some ⟨R.pt,0,none⟩),R.dv] 196
 tab:Tab w R.pt R.pm S.last (R.G.map Gn.e) R.clk
 devs:w.ownsRow 0 243 6 R.dv S.ds.length (S.ds.flatMap Dv.cs)
 ns:S.ns=R.G.map (·.a)
 ents:∀ g∈R.G,EntsAt w g.ea g.el g.ec g.a.ents
structure Stp (F F':Nat→Prop) (w w':World):Prop where
 mod:Mod F w w'
 new:∀ k,F' k→F k∨w.heap.size≤k
theorem Stp.of_below {F:Nat→Prop} {w w':World} (h:Below w.heap.size w w'):Stp F F w w':=⟨Mod.of_below h,fun _ h=>.inl h⟩
theorem Stp.of_mod {F:Nat→Prop} {w w':World} (h:Mod F w w'):Stp F F w w':=⟨h,fun _ h=>.inl h⟩
theorem Stp.trans {F F' F'':Nat→Prop} {w w' w'':World} (h:Stp F F' w w') (k:Stp F' F'' w' w''):Stp F F'' w w'':=
 ⟨⟨k.mod.os.trans h.mod.os,k.mod.tape.trans h.mod.tape,k.mod.output.trans h.mod.output,Nat.le_trans h.mod.size k.mod.size,fun i hi hs=>
   (k.mod.block i (Nat.lt_of_lt_of_le hi h.mod.size) (fun h'=>(h.new i h').elim hs (fun hlt=>by omega))).trans (h.mod.block i hi hs)⟩,
  fun i hi=>(k.new i hi).elim (fun h'=>h.new i h') (fun hlt=>.inr (Nat.le_trans h.mod.size hlt))⟩
theorem Stp.below {F F':Nat→Prop} {w w':World} {N:Nat} (h:Stp F F' w w') (hF:∀ k,F k→N≤k) (hN:N≤w.heap.size):Below N w w':=h.mod.below hF hN
theorem Stp.above {F F':Nat→Prop} {w w':World} {N:Nat} (h:Stp F F' w w') (hF:∀ k,F k→N≤k) (hN:N≤w.heap.size):∀ k,F' k→N≤k:=
 fun k hk=>(h.new k hk).elim (hF k) (fun h'=>Nat.le_trans hN h')
def wdKind (o:Obj):Bool:=match o with
 | .cells _ t _=>t == 196 || t == 263 || t == 243
 | .map _ _=>true
 | _=>false
section
variable {w w':World} {pw:Nat} {R:Rp} {S:Fs}
theorem WdAt.kind (h:WdAt w pw R S) {k:Nat} (hk:R.F pw k):∃ o,w.heap[k]? = some o∧wdKind o=true:=by
 rcases hk with rfl | rfl | rfl | hk
 ·exact ⟨_,h.blk,rfl⟩
 ·exact ⟨_,h.tab.blk,rfl⟩
 ·exact ⟨_,h.tab.map,rfl⟩
 ·rcases h.devs.2 with ⟨h1,-⟩|⟨g,cap,cur,h1,-,hg,-⟩
  ·rw [h1] at hk;cases hk
  ·rw [h1] at hk;simp only [Value.ownBlock,Option.some.injEq] at hk;subst hk;exact⟨_,hg,rfl⟩
theorem EntsAt.wd {a:Option Addr} {n c:Nat} {es:List En} (he:EntsAt w a n c es) (h:WdAt w pw R S) {F':Nat→Prop} (hs:Stp (R.F pw) F' w w'):EntsAt w' a n c es:=
 he.turn (fun b cur hc=>hs.mod.block b (Array.getElem?_eq_some_iff.1 hc).1 (fun hk=>by
  obtain⟨o,ho,hd⟩:=h.kind hk;rw [hc] at ho;injection ho with ho;subst ho;rw [show wdKind (.cells cur 113 (0,0))=false from rfl] at hd
  cases hd)) hs.mod.size
theorem Blk.wd {B:Nat} {vs:Array Value} {T:TypeId} (hb:Blk w B vs T) (h:WdAt w pw R S) {F':Nat→Prop} (hs:Stp (R.F pw) F' w w') (hT:wdKind (.cells #[] T (0,0))=false):Blk w' B vs T:=
 hb.mod hs.mod (fun hk=>by
  obtain⟨o,ho,hd⟩:=h.kind hk;unfold Blk at hb;rw [hb] at ho;injection ho with ho;subst ho;rw [show wdKind (.cells vs T (0,0))=wdKind (.cells #[] T (0,0)) from rfl,hT] at hd
  cases hd)
theorem WdAt.turn (h:WdAt w pw R S) (ht:∀ (k:Nat) (o:Obj),w.heap[k]? = some o→(wdKind o=true∨∃ cur,o=.cells cur 113 (0,0))→w'.heap[k]? = w.heap[k]?) (hs:w.heap.size≤w'.heap.size):WdAt w' pw R S where
 blk:=(ht _ _ h.blk (.inl rfl)).trans h.blk
 tab:=⟨(ht _ _ h.tab.blk (.inl rfl)).trans h.tab.blk,(ht _ _ h.tab.map (.inl rfl)).trans h.tab.map,h.tab.once,h.tab.low⟩
 devs:=⟨h.devs.1,h.devs.2.imp id fun ⟨g,cap,cur,h1,h2,hg,h3⟩=>⟨g,cap,cur,h1,h2,(ht _ _ hg (.inl rfl)).trans hg,h3⟩⟩
 ns:=h.ns
 ents:=fun g hg=>(h.ents g hg).turn (fun b cur hc=>ht _ _ hc (.inr ⟨cur,rfl⟩)) hs
theorem WdAt.keep (h:WdAt w pw R S) (hb:Below w.heap.size w w'):WdAt w' pw R S:=
 h.turn (fun k o ho _=>hb.block k (Array.getElem?_eq_some_iff.1 ho).1) hb.size
theorem WdAt.mod (h:WdAt w pw R S) {F:Nat→Prop} (hm:Mod F w w') (hF:∀ (k:Nat) (o:Obj),F k→w.heap[k]? = some o→wdKind o=false∧∀ cur,o≠.cells cur 113 (0,0)):WdAt w' pw R S:=
 h.turn (fun k o ho hk=>hm.block k (Array.getElem?_eq_some_iff.1 ho).1 (fun hf=>by
  obtain⟨h1,h2⟩:=hF k o hf ho;rcases hk with hk | ⟨cur,hk⟩
  ·rw [h1] at hk;cases hk
  ·exact h2 cur hk)) hm.size
theorem findNd_G (G:List Gn) (k:Int):findNd (G.map Gn.e) k=(G.find? (fun g=>g.a.no == k)).map Gn.nd:=by
 unfold findNd;rw [List.find?_map];have:(fun x:Nd×Nat=>x.1.no == k) ∘ Gn.e=fun g:Gn=>g.a.no == k:=rfl;rw [this,Option.map_map];rfl
theorem get_G (h:WdAt w pw R S) (k:Int):S.get k=(R.G.find? (fun g=>g.a.no == k)).map (·.a):=by
 unfold Fs.get;rw [h.ns,List.find?_map];rfl
end
end
section
open Go.RowKit
structure DvC (w:World) (g o:Nat) (d:Dv):Prop where
 c0:w.cell? ⟨g,o,none⟩=some (.int .i64 d.root)
 c1:w.cell? ⟨g,o+1,none⟩=some (.int .i64 d.over)
 c2:w.cell? ⟨g,o+2,none⟩=some (.int .i64 d.b)
 c3:w.cell? ⟨g,o+3,none⟩=some (.int .i64 d.n)
 c4:w.cell? ⟨g,o+4,none⟩=some (.int .i64 d.mb)
 c5:w.cell? ⟨g,o+5,none⟩=some (.int .i64 d.mn)
def dvQ (cs:List Value) (d:Dv):Prop:=cs=d.cs
section
variable {w w':World} {pw:Nat} {R:Rp} {S:Fs}
theorem WdAt.devF (h:WdAt w pw R S) (hd:0<S.ds.length):∃ g cap,R.dv=.slice (some ⟨g,0,none⟩) S.ds.length cap∧S.ds.length≤cap∧cap≤9223372036854775807∧g<w.heap.size∧
  (∀ (i:Nat) (hi:i<S.ds.length),DvC w g (i*6) S.ds[i])∧(∀ i,w.frozen? ⟨g,i,none⟩=false)∧∃ cur,Blk w g cur 243:=by
 have h0:=h.devs;obtain⟨a,cap,hv,hle,h63,hf⟩:=own_form h0;rcases hf with ⟨-,h1,-⟩|⟨g,rfl,-,hg⟩
 ·omega
 ·rw [hv] at h0;obtain⟨-,-,-,h1 | ⟨b,off,he,hb,hel⟩⟩:=own_slice (R:=dvQ) (by omega) Dv.cs_len (fun _=>rfl) h0
  ·omega
  ·injection he with he;injection he with e1 e2;subst e1 e2;obtain⟨cur,hcur⟩:∃ cur,Blk w g cur 243:=by
    rcases h0.2 with ⟨h1,-⟩|⟨g',cap',cur,h1,-,hg',-⟩
    ·cases h1
    ·injection h1 with h1;injection h1 with h1;injection h1 with h1;subst h1;exact⟨cur,hg'⟩
   refine ⟨g,cap,hv,hle,h63,hg,fun i hi=>?_,hcur.frozen,cur,hcur⟩;obtain⟨cs,h2,h3,h4⟩:=hel i hi;subst h3;have e:∀ j (hj:j<6),w.cell? ⟨g,i*6+j,none⟩=some (S.ds[i].cs[j]'(by rw [Dv.cs_len];exact hj)):=fun j hj=>by
    have:=h4 j (by rw [Dv.cs_len];exact hj);rw [Nat.zero_add] at this;exact this
   exact⟨e 0 (by omega),e 1 (by omega),e 2 (by omega),e 3 (by omega),e 4 (by omega),e 5 (by omega)⟩
theorem wnone_any (h:WdAt w pw R S) (hd:0<S.ds.length) :
  Calls Tryz.prog 149 #[.pointer (some ⟨pw,0,none⟩)] w fun e w'=>e=.returned (.bool false)∧w=w':=by
 obtain⟨g,cap,hv,-,-,-,-,-,-⟩:=h.devF hd;obtain⟨pc,-,-⟩:=h.blk.facts;rw [hv] at pc;have hz:¬ ((S.ds.length:Int)=0):=by omega
 have hz2:((S.ds.length:Int) == 0)=false:=by simpa using hz
 generalize S.ds.length=n at pc hz hz2;clear h hv hd;go_enter Tryz.func149,Tryz.ntmps149
 go_wp2
 go_ret;exact⟨rfl,rfl⟩
theorem wdevs_any (h:WdAt w pw R S) (hd:0<S.ds.length) :
  Calls Tryz.prog 146 #[.pointer (some ⟨pw,0,none⟩)] w fun e w'=>e=.returned (.int .i64 S.ds.length)∧w=w':=by
 have HN:=Lib.hid (wnone_any h hd);obtain⟨g,cap,hv,-,-,-,-,-,-⟩:=h.devF hd;obtain⟨pc,-,-⟩:=h.blk.facts;rw [hv] at pc;generalize S.ds.length=n at pc ⊢;clear h hv hd;go_enter Tryz.func146,Tryz.ntmps146;go_wp2_with fail;refine HN.out.mono ?_;rintro e w1 ⟨rfl,rfl⟩
 go_wp2
 go_ret;exact⟨rfl,rfl⟩
theorem wroot_any (h:WdAt w pw R S) (hd:0<S.ds.length) (d:Int) :
  Calls Tryz.prog 77 #[.pointer (some ⟨pw,0,none⟩),.int .i64 d] w fun e w'=>e=.returned (.int .i64 (S.root d))∧w=w':=by
 have HN:=Lib.hid (wnone_any h hd);obtain⟨g,cap,hv,hle,h63,hg,hc,-,-⟩:=h.devF hd;obtain⟨pc,-,-⟩:=h.blk.facts;rw [hv] at pc;clear h hv;by_cases h1:1≤d
 ·by_cases h2:d≤S.ds.length
  ·obtain ⟨k,rfl⟩:∃ k:Nat,d=(k:Int)+1:=⟨(d - 1).toNat,by omega⟩;have hk:k<S.ds.length:=by omega
   have hr:S.root ((k:Int)+1)=S.ds[k].root:=by
    unfold Fs.root;rw [if_pos ⟨h1,h2⟩,show ((k:Int)+1 - 1).toNat=k by omega,List.getElem?_eq_getElem hk]
   rw [hr];have hcc:=(hc _ hk).c0;clear hc hr;generalize S.ds[k]=v at hcc ⊢;generalize S.ds.length=n at pc hle h2 hk hd;go_enter Tryz.func77,Tryz.ntmps77;go_wp2_with fail;refine HN.out.mono ?_;rintro e w1 ⟨rfl,rfl⟩
   go_wp2
   go_ret;exact⟨rfl,rfl⟩
  ·rw [root_no (by omega)];have h2':(S.ds.length:Int)<d:=by omega
   clear hc;generalize S.ds.length=n at pc hle h2 h2' hd;go_enter Tryz.func77,Tryz.ntmps77;go_wp2_with fail;refine HN.out.mono ?_;rintro e w1 ⟨rfl,rfl⟩
   go_wp2
   go_ret;exact⟨rfl,rfl⟩
 ·rw [root_no (by omega)];have h1':d<1:=by omega
  clear hc;generalize S.ds.length=n at pc hle hd;go_enter Tryz.func77,Tryz.ntmps77;go_wp2_with fail;refine HN.out.mono ?_;rintro e w1 ⟨rfl,rfl⟩
  go_wp2
  go_ret;exact⟨rfl,rfl⟩
end
end
section
open Go
theorem then_panic {P:Program} {fn:Func} {R:Ending→World→Prop} {K:Act→World→Prop}:∀ c d v a w,Exit.then K (bodyPost P fn R) (.panic c) (Act.put a d v) w→Exit.then K (bodyPost P fn R) (.panic c) a w:=
 fun c d v a w h=>by
  have h':(Act.put a d v).defers=[]∧R (.panicked c) w:=h;exact show a.defers=[]∧R (.panicked c) w from ⟨by rw [←h'.1];cases d <;> rfl,h'.2⟩
def pureOp:Op→Bool
 | .move _=>true
 | .assign _=>true
 | .extract _ _=>true
 | _=>false
section
variable {P:Program} {ops:Array Oper} {md:Region.Mode} {Q:Exit→Act→World→Prop}
theorem pure_yields {o:Oper} (hp:pureOp o.op=true) {w:World} {K:Act→World→Prop} {a:Act} (h:o.wp P a w K Q∨(o.asks P a w∧LetsOut Q)) :
  ∃ v,(∀ w',(execOp a.eval o).run P w'=.ok (.value v) w')∧K (a.put o.dst v) w:=by
 have key:∀ v,(∀ w',(execOp a.eval o).run P w'=.ok (.value v) w')→((execOp a.eval o).runT P w #[]).2=#[]→∃ v,(∀ w',(execOp a.eval o).run P w'=.ok (.value v) w')∧K (a.put o.dst v) w:=by
  intro v hr ht;refine ⟨v,hr,?_⟩;rcases h with h | h
  ·unfold Oper.wp at h;rw [hr] at h;exact h
  ·have:=h.1.1;rw [ht] at this;simp at this
 have bad:(∀ w',∃ m,(execOp a.eval o).run P w'=.halt (.stuck m) w')→((execOp a.eval o).runT P w #[]).2=#[]→∃ v,(∀ w',(execOp a.eval o).run P w'=.ok (.value v) w')∧K (a.put o.dst v) w:=by
  intro hr ht;rcases h with h | h
  ·obtain ⟨m,hm⟩:=hr w;unfold Oper.wp at h;rw [hm] at h;exact h.elim
  ·have:=h.1.1;rw [ht] at this;simp at this
 unfold pureOp at hp
 split at hp
 ·rename_i x hx;exact key (a.eval x) (fun w'=>by simp [execOp,hx]) (by simp only [execOp,hx];rfl)
 ·rename_i x hx;exact key (a.eval x) (fun w'=>by simp [execOp,hx]) (by simp only [execOp,hx];rfl)
 ·rename_i t ix hx
  cases ht:a.eval t with
  | tuple vs=>
   cases hv:vs[ix]? with
   | some v=>exact key v (fun w'=>by simp [execOp,hx,Instr.extract,ht,hv]) (by simp only [execOp,hx,Instr.extract,ht,hv];rfl)
   | none=>exact bad (fun w'=>⟨_,by simp only [execOp,hx,Instr.extract,ht,hv];rfl⟩) (by simp only [execOp,hx,Instr.extract,ht,hv];rfl)
  | _=>exact bad (fun w'=>⟨_,by simp only [execOp,hx,Instr.extract,ht];rfl⟩) (by simp only [execOp,hx,Instr.extract,ht];rfl)
 ·cases hp
def lexB2 (md:Region.Mode) (ops:Array Oper):Nat→Nat→Array Bool→Bool
 | 0,_,listed=>(Region.ready md ops listed).isEmpty
 | g+1,k,listed=>
  (decide (Region.ready md ops listed=[k]) || (match ops[k]? with
   | some o=>pureOp o.op && o.guard.isNone && (Region.ready md ops listed).contains k && Region.free md ops listed k
   | none=>false)) && lexB2 md ops g (k+1) (listed.setIfInBounds k true)
theorem wanted_of {o:Oper} {T:Nat→Option Bool} (h:o.guard.isNone=true):Region.wanted o T=true:=by
 simp [Region.wanted,Option.isNone_iff_eq_none.1 h]
theorem anyH_lex2 (hsel:Region.noSelect ops=true) (hQ:∀ c d v a w,Q (.panic c) (Act.put a d v) w→Q (.panic c) a w):∀ (l:List Oper) (k:Nat) (listed:Array Bool) (a:Act) (w:World),(∀ j,l[j]? = ops[k+j]?)→
  lexB2 md ops l.length k listed=true→wpList P ops Q l a w→wpAnyH P md ops Q (fun _=>True) l.length listed a w
 | [],_,_,_,_,_,hB,h=>⟨by simpa [lexB2] using hB,h⟩
 | o :: l,k,listed,a,w,hl,hB,h=>by
  have h0:ops[k]? = some o:=by simpa using (hl 0).symm
  have hl':∀ j,l[j]? = ops[k+1+j]?:=fun j=>by have:=hl (j+1);simpa [Nat.add_assoc,Nat.add_comm 1 j] using this
  simp only [List.length_cons,lexB2,Bool.and_eq_true,Bool.or_eq_true,decide_eq_true_eq,h0] at hB;rcases hB.1 with h1 | ⟨⟨⟨hp,hg⟩,hr⟩,hf⟩
  ·refine ⟨fun h2=>(by rw [h2] at h1;cases h1),fun i hi=>?_⟩;rw [h1] at hi;have hik:i=k:=by simpa using hi
   subst hik;have hw:wpOp P ops Q i (wpList P ops Q l) a w:=by unfold wpOp;simp only [h0];exact h
   exact wpOp_mono (fun a' w' h'=>⟨trivial,anyH_lex2 hsel hQ l (i+1) _ a' w' hl' hB.2 h'⟩) hw
  ·have hw:Region.wanted o (yielded ops a.tmps)=true:=wanted_of hg;unfold wpList at h;rw [if_pos hw] at h;obtain⟨v,hy,hK⟩:=pure_yields hp h;exact wpAnyH_take h0 hsel hf hr (fun c a w hq=>hQ c _ _ a w hq) (.inl ⟨hw,fun w' _=>hy w'⟩) trivial (anyH_lex2 hsel hQ l (k+1) _ _ w hl' hB.2 hK)
def chainB2 (md:Region.Mode) (ops:Array Oper) (n:Nat):Bool:=
 (List.range ops.size).all fun t=>decide (t≤n) || (List.range t).any fun j=>decide (n≤j) && Region.waitsFor md ops t j
theorem tail_waits2 {n:Nat} {listed:Array Bool} (hs:Region.sinkB md ops n=true) (hc:chainB2 md ops n=true) (hn:n<ops.size) (inv:HeadInv md ops n listed) {i:Nat} (hi:i<n) (hun:listed.getD i true=false) :
  ∀ t,n≤t→t∉Region.ready md ops listed:=by
 have low:∀ (d i:Nat),n - i=d→i<n→listed.getD i true=false→n∉Region.ready md ops listed:=by
  intro d
  induction d using Nat.strongRecOn with
  | _ d ih=>
   intro i hd hi hun hr;obtain⟨-,on,hon,hall⟩:=mem_ready.1 hr;obtain⟨j,hj,hj2⟩:=List.any_eq_true.1 (List.all_eq_true.1 hs i (List.mem_range.2 hi));simp only [Bool.and_eq_true,decide_eq_true_eq] at hj2;obtain⟨oj,hoj,e,he,hb,hei⟩:=Region.waitsFor_spec hj2.2;have hjn:j≤n:=by have:=List.mem_range.1 hj;omega
   have hno:listed.getD i false=false:=getD_both hun;rcases Nat.lt_or_ge j n with hlt | hge
   ·cases hl:listed.getD j false with
    | true=>
     have:=inv.closed j oj hoj hl e he hb;rw [hei,hno] at this
     cases this
    | false=>exact ih (n - j) (by omega) j rfl hlt (getD_in (by rw [inv.size];omega) hl) hr
   ·obtain rfl:j=n:=by omega
    obtain rfl:oj=on:=Option.some.inj (hoj.symm.trans hon);have:=hall e he hb;rw [hei,hno] at this
    cases this
 intro t ht hr;rcases Nat.eq_or_lt_of_le ht with rfl | hlt
 ·exact low _ i rfl hi hun hr
 ·obtain ⟨-,ot,hot,hall⟩:=mem_ready.1 hr;have htl:t<ops.size:=(Array.getElem?_eq_some_iff.1 hot).1;have h1:=List.all_eq_true.1 hc t (List.mem_range.2 htl);simp only [Bool.or_eq_true,decide_eq_true_eq] at h1;rcases h1 with h1 | h1
  ·omega
  ·obtain ⟨j,hj,hj2⟩:=List.any_eq_true.1 h1;simp only [Bool.and_eq_true,decide_eq_true_eq] at hj2;obtain⟨o',ho',e,he,hb,hej⟩:=Region.waitsFor_spec hj2.2;obtain rfl:o'=ot:=Option.some.inj (ho'.symm.trans hot);have:=hall e he hb;rw [hej,getD_both (inv.tail j hj2.1 (by have:=List.mem_range.1 hj;omega))] at this
   cases this
variable {w:World}
theorem anyL_first2 {n i:Nat} {oi:Oper} {v:Value} {L:Array Bool→Act→Prop} (hi:ops[i]? = some oi) (hsel:Region.noSelect ops=true)
  (hs:Region.sinkB md ops n=true) (hc:chainB2 md ops n=true) (hn:n<ops.size) (hin:i<n) (hdone:∀ listed a,L listed a→∀ j∈Region.ready md ops listed,n≤j) :
  ∀ (f:Nat) (listed:Array Bool) (a:Act),HeadInv md ops n listed→
   (∀ j oj,ops[j]? = some oj→j≠i→listed.getD j true=false→(∀ e∈oj.after,Region.binds md e=true→e.on≠i)→oi.apart ops oj=true)→
   i∈Region.ready md ops listed→YieldsAt P ops w oi v a→wpAnyL P md ops w n L f (listed.setIfInBounds i true) (a.put oi.dst v)→wpAnyL P md ops w n L (f+1) listed a
 | f,listed,a,inv,hfree,hr,hy,H=>by
  have hun:=(mem_ready.1 hr).1;have hlow:∀ j∈Region.ready md ops listed,j<n:=fun j hj=>Nat.lt_of_not_le fun h=>tail_waits2 hs hc hn inv hin hun j h hj;refine ⟨List.ne_nil_of_mem hr,fun j hj=>⟨hlow j hj,?_⟩⟩;by_cases hji:j=i
  ·subst hji;exact hy.stOp hi H
  ·cases f with
   | zero=>exact absurd (hdone _ _ H j (ready_mono hj hji)) (Nat.not_le_of_lt (hlow j hj))
   | succ f=>
    have h1:=(H.2 j (ready_mono hj hji)).2;obtain⟨hjun,oj,hoj,hall⟩:=mem_ready.1 hj;have hnot:∀ e∈oj.after,Region.binds md e=true→e.on≠i:=fun e he hb heq=>by
     have h2:=hall e he hb;rw [heq,getD_both hun] at h2
     cases h2
    refine stOp_mono (fun a' h3=>?_) (stOp_put hoj (hfree j oj hoj hji hjun hnot) (fun cs b=>Region.noSelect_spec hsel i oi cs b hi) (fun cs b=>Region.noSelect_spec hsel j oj cs b hoj) hy h1);refine anyL_first2 hi hsel hs hc hn hin hdone f (listed.setIfInBounds j true) a' (inv.set hj (hlow j hj)) (fun k ok hk hki hku hno=>hfree k ok hk hki ?_ hno) (ready_mono hr (Ne.symm hji)) h3.1 ?_
    ·by_cases hjk:j=k
     ·subst hjk;exact hjun
     ·rw [getD_set_ne true hjk] at hku;exact hku
    ·rw [Array.setIfInBounds_comm _ _ hji];exact h3.2
def headB2 (md:Region.Mode) (ops:Array Oper) (g:Nat):Nat→Nat→Array Bool→Bool
 | 0,k,listed=>lexB2 md ops g k listed && (Region.ready md ops listed).all fun j=>decide (k≤j)
 | f+1,k,listed=>(Region.ready md ops listed).contains k && Region.free md ops listed k && headB2 md ops g f (k+1) (listed.setIfInBounds k true)
theorem anyL_lex2 {n g:Nat} {Lq:Act→Prop} (hsel:Region.noSelect ops=true) (hs:Region.sinkB md ops n=true) (hc:chainB2 md ops n=true) (hn:n<ops.size) :
  ∀ (l:List Oper) (k:Nat) (listed:Array Bool) (a:Act),(∀ j,j<l.length→l[j]? = ops[k+j]?)→k+l.length=n→HeadInv md ops n listed→headB2 md ops g l.length k listed=true→wpStill P ops w Lq l a→
  wpAnyL P md ops w n (fun listed' a'=>(lexB2 md ops g n listed'=true∧∀ j∈Region.ready md ops listed',n≤j)∧Lq a') l.length listed a
 | [],k,listed,a,_,hk,_,hB,h=>by
  obtain rfl:k=n:=by simpa using hk
  simp only [List.length_nil,headB2,Bool.and_eq_true,List.all_eq_true,decide_eq_true_eq] at hB;exact⟨hB,h⟩
 | o :: l,k,listed,a,hl,hk,inv,hB,h=>by
  have h0:ops[k]? = some o:=by simpa using (hl 0 (by simp)).symm
  simp only [List.length_cons,headB2,Bool.and_eq_true] at hB;obtain⟨⟨hr,hf⟩,hB'⟩:=hB;have hkn:k<n:=by simp only [List.length_cons] at hk;omega
  have hr':k∈Region.ready md ops listed:=by simpa using hr
  have hst:stOp P ops w k (wpStill P ops w Lq l) a:=by unfold stOp;simp only [h0];exact h
  obtain⟨v,hy,hK⟩:=yieldsAt_of_stOp h0 hst;exact anyL_first2 h0 hsel hs hc hn hkn (fun _ _ hL=>hL.1.2) l.length listed a inv (Region.free_spec h0 hf) hr' hy
   (anyL_lex2 hsel hs hc hn l (k+1) _ _ (fun j hj=>by have:=hl (j+1) (by simp;omega);simpa [Nat.add_assoc,Nat.add_comm 1 j] using this) (by simp only [List.length_cons] at hk;omega) (inv.set hr' hkn) hB' hK)
def lexRegionB (ops:Array Oper) (n:Nat):Bool:=
 Region.noSelect ops && decide (n<ops.size) && Region.sinkB .any ops n && chainB2 .any ops n && headB2 .any ops (ops.size - n) n 0 (Array.replicate ops.size false)
theorem wp_region_lex {id:Nat} {a:Act} {l:List Oper} (n:Nat) (hm:P.follows .mixedOrders=true) (hB:lexRegionB l.toArray n=true) (hQ:∀ c d v a w,Q (.panic c) (Act.put a d v) w→Q (.panic c) a w)
  (h:wpStill P l.toArray w.drew (fun a'=>wpList P l.toArray Q (l.drop n) a' w.drew) (l.take n) a):(Code.region id l.toArray true).wp P Q a w:=by
 simp only [lexRegionB,Bool.and_eq_true,decide_eq_true_eq] at hB;obtain⟨⟨⟨⟨hsel,hn⟩,hs⟩,hc⟩,hlex⟩:=hB;have hn':n<l.length:=by simpa using hn
 have htl:(l.take n).length=n:=by simp;omega
 have hdl:(l.drop n).length=l.toArray.size - n:=by simp
 have inv0:HeadInv .any l.toArray n (Array.replicate l.toArray.size false):=
  ⟨by simp,fun j oj _ hl=>(by rw [getD_replicate_false] at hl;cases hl),fun t _ ht=>getD_in (by simpa using ht) (getD_replicate_false _ _)⟩
 have H:=anyL_lex2 (md:=.any) (g:=l.toArray.size - n) hsel hs hc hn (l.take n) 0 _ a (fun j hj=>by
  have hj':j<n:=by rw [htl] at hj;exact hj
  simp [hj']) (by simpa using htl) inv0 (by rw [htl];exact hlex) h
 refine wp_region_any hm ?_;have:=wpAny_of_head (Q':=Q) (g:=l.toArray.size - n) (fun listed a' hL=>by
  have:=wpAny_of_held _ _ _ _ (anyH_lex2 (md:=.any) hsel hQ (l.drop n) n listed a' w.drew (fun j=>by simp [List.getElem?_drop]) (by rw [hdl];exact hL.1.1) hL.2)
  rwa [hdl] at this) _ _ _ H
 rw [htl,show n+(l.toArray.size - n)=l.toArray.size by omega] at this;exact this
end
end
section
open Go.RowKit
section
variable {w w':World} {pw:Nat} {R:Rp} {S:Fs}
theorem G_of (h:WdAt w pw R S) {k:Int} {a:An} (hg:S.get k=some a):∃ g∈R.G,g.a=a∧findNd (R.G.map Gn.e) k=some g.nd∧EntsAt w g.ea g.el g.ec a.ents:=by
 rw [get_G h] at hg
 cases hf:R.G.find? (fun g=>g.a.no == k) with
 | none=>rw [hf] at hg;cases hg
 | some g=>
  rw [hf] at hg;simp only [Option.map_some,Option.some.injEq] at hg;have hm:=List.mem_of_find?_eq_some hf;refine ⟨g,hm,hg,?_,?_⟩
  ·rw [findNd_G,hf];rfl
  ·rw [←hg];exact h.ents g hm
theorem G_no (h:WdAt w pw R S) {k:Int} (hg:S.get k=none):findNd (R.G.map Gn.e) k=none:=by
 rw [get_G h] at hg;rw [findNd_G]
 cases hf:R.G.find? (fun g=>g.a.no == k) with
 | none=>rfl
 | some g=>rw [hf] at hg;cases hg
theorem wget_yes (h:WdAt w pw R S) {k:Int} {a:An} (hg:S.get k=some a):∃ ea el ec,EntsAt w ea el ec a.ents∧
  Calls Tryz.prog 98 #[.pointer (some ⟨R.pt,0,none⟩),.int .i64 k] w fun e w'=>e=.returned (.tuple #[a.v ea el ec,.bool true])∧Below w.heap.size w w':=by
 obtain⟨g,-,rfl,hf,he⟩:=G_of h hg;exact⟨g.ea,g.el,g.ec,he,get_yes g.nd k w R.pt R.pm S.last _ R.clk h.tab hf⟩
theorem wget_no (h:WdAt w pw R S) {k:Int} (hg:S.get k=none) :
  Calls Tryz.prog 98 #[.pointer (some ⟨R.pt,0,none⟩),.int .i64 k] w fun e w'=>e=.returned (.tuple #[an0.v none 0 0,.bool false])∧Below w.heap.size w w':=
 get_no k w R.pt R.pm S.last _ R.clk h.tab (G_no h hg)
theorem over_at (S:Fs) (k:Int) (hk:0<k) (i:Nat) (hi:i<S.ds.length) (h1:∀ j (hj:j<S.ds.length),j<i→S.ds[j].over≠k) (h2:S.ds[i].over=k):S.over k=S.ds[i].root:=by
 unfold Fs.over;rw [if_pos hk];have:S.ds.find? (fun d=>d.over == k)=some S.ds[i]:=by
  rw [List.find?_eq_some_iff_getElem];exact⟨by simpa using h2,i,hi,rfl,fun j hj=>by simpa using h1 j (by omega) hj⟩
 rw [this]
theorem over_none (S:Fs) (k:Int) (h1:∀ j (hj:j<S.ds.length),S.ds[j].over≠k):S.over k=k:=by
 unfold Fs.over
 split
 ·have:S.ds.find? (fun d=>d.over == k)=none:=by
   rw [List.find?_eq_none];intro d hd;obtain⟨j,hj,rfl⟩:=List.mem_iff_getElem.1 hd;simpa using h1 j hj
  rw [this]
 ·rfl
theorem wover_any (h:WdAt w pw R S) (hd:0<S.ds.length) (no:Int) :
  Calls Tryz.prog 226 #[.pointer (some ⟨pw,0,none⟩),.int .i64 no] w fun e w'=>e=.returned (.int .i64 (S.over no))∧Below w.heap.size w w':=by
 have HN:=Lib.hid (wnone_any h hd);obtain⟨g,cap,hv,hle,h63,hg,hc,-,-⟩:=h.devF hd;obtain⟨pc,-,-⟩:=h.blk.facts;rw [hv] at pc;have HC:=Lib.hid hc;clear h hv hc;by_cases h0:0<no
 ·have HO1:=Lib.hid (over_at S no h0);have HO2:=Lib.hid (over_none S no);obtain⟨n,hn⟩:∃ n,S.ds.length=n:=⟨_,rfl⟩;have HNn:=Lib.hid hn;rw [hn] at pc hle hd;generalize S.over no=out at HO1 HO2 ⊢;clear hn;go_enter Tryz.func226,Tryz.ntmps226;go_wp2_with fail;refine HN.out.mono ?_;rintro e w1 ⟨rfl,rfl⟩;go_wp2_with fail
  go_loopw [19] (fun i wr=>∃ k:Nat,k≤n∧i=.int .i64 k∧(∀ j (hj:j<S.ds.length),j<k→S.ds[j].over≠no)∧Below w.heap.size w wr) (fun i _=>n - (intOf i).toNat)
  case atStart=>exact ⟨0,Nat.zero_le _,rfl,fun j _ h=>absurd h (Nat.not_lt_zero _),Below.refl _ _⟩
  case round=>
   obtain⟨k,hk,rfl,hno,hB⟩:=hrel;have HNo:=Lib.hid hno;have HB:=Lib.hid hB;clear hno hB;by_cases hlt:k<n
   ·have hkl:k<S.ds.length:=by rw [HNn.out];exact hlt
    obtain⟨c0,c1,c2,c3,c4,c5⟩:=HC.out k hkl;rw [←HB.out.cell (p:=⟨g,k*6,none⟩) hg] at c0;rw [←HB.out.cell (p:=⟨g,k*6+1,none⟩) hg] at c1;rw [←HB.out.cell (p:=⟨g,k*6+2,none⟩) hg] at c2;rw [←HB.out.cell (p:=⟨g,k*6+3,none⟩) hg] at c3;rw [←HB.out.cell (p:=⟨g,k*6+4,none⟩) hg] at c4;rw [←HB.out.cell (p:=⟨g,k*6+5,none⟩) hg] at c5;by_cases hov:S.ds[k].over=no
    ·have HE:=Lib.hid (HO1.out k hkl HNo.out hov);have hq:(S.ds[k].over == no)=true:=by simpa using hov
     clear hov;generalize S.ds[k]=v at c0 c1 c2 c3 c4 c5 hq HE;go_wp2_with fail;go_ret;exact⟨by rw [HE.out];rfl,balloc HB.out _⟩
    ·have hq:(S.ds[k].over == no)=false:=by simpa using hov
     have HNo2:=Lib.hid (show ∀ j (hj:j<S.ds.length),j<k+1→S.ds[j].over≠no from fun j hj hjk=>by
      by_cases e:j=k
      ·subst e;exact hov
      ·exact HNo.out j hj (by omega))
     clear hov;generalize S.ds[k]=v at c0 c1 c2 c3 c4 c5 hq;go_wp2_with fail;go_roundw
     case rel=>exact ⟨k+1,by omega,by go_num,HNo2.out,balloc HB.out _⟩
     case measure=>simp [intOf];omega
   ·obtain rfl:k=n:=by omega
    have HE:=Lib.hid (HO2.out (fun j hj=>HNo.out j hj (by rw [←HNn.out];exact hj)));go_wp2_with fail;go_ret;exact⟨by rw [HE.out];rfl,HB.out⟩
 ·have hO:S.over no=no:=by unfold Fs.over;rw [if_neg h0]
  rw [hO];generalize S.ds.length=n at pc hle hd;go_enter Tryz.func226,Tryz.ntmps226;go_wp2_with fail;refine HN.out.mono ?_;rintro e w1 ⟨rfl,rfl⟩;go_wp2_with fail;go_ret;exact⟨rfl,Below.refl _ _⟩
theorem wabove_any (h:WdAt w pw R S) {N:Nat} (hk:FsOk S N) (no:Int) :
  Calls Tryz.prog 150 #[.pointer (some ⟨pw,0,none⟩),.int .i64 no] w fun e w'=>e=.returned (.int .i64 (S.above no))∧Below w.heap.size w w':=by
 have HW:=Lib.hid h;have HK:=Lib.hid hk;have HN:=Lib.hid (wnone_any h hk.d1);obtain⟨pc,-,-⟩:=h.blk.facts;have mixed:Tryz.prog.follows .mixedOrders=true:=by kernel_rfl
 cases hg:S.get no with
 | none=>
  have HA:=Lib.hid (show S.above no=0 by unfold Fs.above;rw [hg]);have HG:=Lib.hid (wget_no h hg);unfold An.v an0 at HG;clear h hk hg;go_enter Tryz.func150,Tryz.ntmps150;go_wp2_with fail;refine HN.out.mono ?_;rintro e w1 ⟨rfl,rfl⟩;go_wp2_with fail;refine HG.out.mono ?_;rintro e w1 ⟨rfl,hb1⟩;go_wp2_with fail;go_ret;exact⟨by rw [HA.out];rfl,balloc hb1 _⟩
 | some a=>
  obtain⟨hao,-,h1,-⟩:=hk.get hg;obtain⟨ea,el,ec,-,hgc⟩:=wget_yes h hg;have HG:=Lib.hid hgc;unfold An.v at HG;by_cases hkd:a.kind=1
  ·by_cases hr:S.root a.dev=no∧1<a.dev
   ·obtain ⟨v,hv,hrv,-,-⟩:=root_of hk hao.dev.1 hao.dev.2;obtain⟨g,cap,hdv,hle,h63,hgl,hc,-,-⟩:=h.devF hk.d1;rw [hdv] at pc;obtain⟨k,hkd2⟩:∃ k:Nat,a.dev=(k:Int)+1:=⟨(a.dev - 1).toNat,by have:=hao.dev.1;omega⟩;have hkl:k<S.ds.length:=by have:=hao.dev.2;omega
    have hvk:S.ds[k]=v:=by
     unfold Fs.dev at hv;rw [if_pos (by omega),hkd2,show ((k:Int)+1 - 1).toNat=k by omega,List.getElem?_eq_getElem hkl] at hv;simpa using hv
    have cc:=(hc k hkl).c1;rw [hvk] at cc;have hrt:S.root a.dev=no:=hr.1;have HR:=Lib.hid (fun w1 (hb1:Below w.heap.size w w1)=>wroot_any (h.keep hb1) hk.d1 a.dev);rw [hrt] at HR;have HA:=Lib.hid (show S.above no=(match S.get v.over with | none=>0 | some b=>b.up) by
     unfold Fs.above;rw [hg];simp only;rw [if_neg (by simpa using hkd),if_pos hr,hv];rfl)
    have h3:1<a.dev:=hr.2;have hgd:=hao.dev.1;have hpz:=h.blk.lt;rw [hkd2] at h3 HG HR;obtain⟨n,hn⟩:∃ n,S.ds.length=n:=⟨_,rfl⟩;rw [hn] at pc hle;have hkn:k<n:=by omega
    have hk1:(a.kind == 1)=true:=by simpa using hkd
    have hk2:(a.kind != 1)=false:=by simpa using hkd
    have HD:=Lib.hid (fun w1 (hb1:Below w.heap.size w w1)=>And.intro (fun (hgv:S.get v.over=none)=>wget_no (h.keep hb1) hgv) (fun b (hgv:S.get v.over=some b)=>wget_yes (h.keep hb1) hgv));clear h hk hg hao hgc hc hv hrv hr hrt hdv hvk hn hkd2 hgd hkl hkd;go_enter Tryz.func150,Tryz.ntmps150;go_wp2_with fail;refine HN.out.mono ?_;rintro e w1 ⟨rfl,rfl⟩;go_wp2_with fail;refine HG.out.mono ?_;rintro e w1 ⟨rfl,hb1⟩;have B1:=Blk.new w1 #[.int .i64 a.no,.int .i64 ((k:Int)+1),.int .i64 a.kind,.int .i64 a.mode,.int .i64 a.uid,.int .i64 a.gid,.int .i64 a.mtime,.int .i64 a.ctime,.int .i64 a.links,.int .i64 a.up,.string a.data,.slice ea el ec] 109;have hb2:=balloc hb1 (.cells #[.int .i64 a.no,.int .i64 ((k:Int)+1),.int .i64 a.kind,.int .i64 a.mode,.int .i64 a.uid,.int .i64 a.gid,.int .i64 a.mtime,.int .i64 a.ctime,.int .i64 a.links,.int .i64 a.up,.string a.data,.slice ea el ec] 109);have hr1:=HR.out _ hb2;go_wp2_with fail;refine hr1.mono ?_;rintro e w2 ⟨rfl,rfl⟩;generalize w1.alloc (.cells #[.int .i64 a.no,.int .i64 ((k:Int)+1),.int .i64 a.kind,.int .i64 a.mode,.int .i64 a.uid,.int .i64 a.gid,.int .i64 a.mtime,.int .i64 a.ctime,.int .i64 a.links,.int .i64 a.up,.string a.data,.slice ea el ec] 109)=W at B1 hb2 hr1 ⊢;have hBn:=hb1.size;generalize w1.heap.size=Bn at B1 hBn ⊢;obtain⟨bc,bf,bz⟩:=B1.facts;rw [←hb2.cell (p:=⟨g,k*6+1,none⟩) hgl] at cc;have HP1:=Lib.hid (hb2.cell (p:=⟨pw,0,none⟩) hpz);have pc0:W.cell? ⟨pw,0,none⟩=_:=(hb2.cell (p:=⟨pw,0,none⟩) hpz).trans (pc 0);have pc1:W.cell? ⟨pw,1,none⟩=_:=(hb2.cell (p:=⟨pw,1,none⟩) hpz).trans (pc 1);go_wp2_with fail;have hw1:IntKind.i64.wrap ((k:Int)+1 - 1)=(k:Int):=by rw [IntKind.wrap_i64];omega
    have hw2:IntKind.i64.wrap (k:Int)=(k:Int):=by rw [IntKind.wrap_i64];omega
    have hb3:(k:Int)<(n:Int):=by omega
    have hb4:(0:Int)≤(k:Int):=by omega
    refine wp_region_lex 14 mixed (by kernel_rfl) then_panic ?_;simp only [List.take_succ_cons,List.take_zero,List.drop_succ_cons,List.drop_zero]
    repeat still_step
    refine wpStill_nil ?_
    cases hgv:S.get v.over with
    | none=>
     rw [hgv] at HA;have HC:=Lib.hid (((HD.out W.drew hb2.drew).1 hgv));unfold An.v an0 at HC;clear hgv HD;go_wp2_with fail;refine HC.out.mono ?_;rintro e w2 ⟨rfl,hb3⟩;obtain⟨bc3,bf3,bz3⟩:=(B1.drew.keep hb3).facts;have hb4:=bnext hb2.drew hb3;go_wp2_with fail;go_ret;exact⟨by rw [HA.out];rfl,by (repeat (refine Below.setCell ?_ hBn _));exact hb4⟩
    | some b=>
     rw [hgv] at HA;obtain⟨ea2,el2,ec2,-,hgc2⟩:=(HD.out W.drew hb2.drew).2 b hgv;have HC:=Lib.hid hgc2;unfold An.v at HC;clear hgv HD hgc2;go_wp2_with fail;refine HC.out.mono ?_;rintro e w2 ⟨rfl,hb3⟩;obtain⟨bc3,bf3,bz3⟩:=(B1.drew.keep hb3).facts;have hb4:=bnext hb2.drew hb3;go_wp2_with fail;go_ret;exact⟨by rw [HA.out];rfl,by (repeat (refine Below.setCell ?_ hBn _));exact hb4⟩
   ·have HA:=Lib.hid (show S.above no=a.up by unfold Fs.above;rw [hg];simp only;rw [if_neg (by simpa using hkd),if_neg hr]);have HR:=Lib.hid (fun w1 (hb1:Below w.heap.size w w1)=>wroot_any (h.keep hb1) hk.d1 a.dev);have hk1:(a.kind == 1)=true:=by simpa using hkd
    have hk2:(a.kind != 1)=false:=by simpa using hkd
    clear h hk hg hao hgc hkd;obtain⟨rt,hrt⟩:∃ rt,S.root a.dev=rt:=⟨_,rfl⟩;rw [hrt] at HR hr;by_cases h2:rt=no
    ·have h3:¬ 1<a.dev:=fun h3=>hr ⟨h2,h3⟩;have h4:(rt == no)=true:=by simpa using h2
     clear hr h2 hrt;go_enter Tryz.func150,Tryz.ntmps150;go_wp2_with fail;refine HN.out.mono ?_;rintro e w1 ⟨rfl,rfl⟩;go_wp2_with fail;refine HG.out.mono ?_;rintro e w1 ⟨rfl,hb1⟩;have hr1:=HR.out _ (balloc hb1 (.cells #[.int .i64 a.no,.int .i64 a.dev,.int .i64 a.kind,.int .i64 a.mode,.int .i64 a.uid,.int .i64 a.gid,.int .i64 a.mtime,.int .i64 a.ctime,.int .i64 a.links,.int .i64 a.up,.string a.data,.slice ea el ec] 109));go_wp2_with fail;refine hr1.mono ?_;rintro e w2 ⟨rfl,rfl⟩;go_wp2_with fail;go_ret;exact⟨by rw [HA.out];rfl,balloc hb1 _⟩
    ·have h4:(rt == no)=false:=by simpa using h2
     clear hr h2 hrt;go_enter Tryz.func150,Tryz.ntmps150;go_wp2_with fail;refine HN.out.mono ?_;rintro e w1 ⟨rfl,rfl⟩;go_wp2_with fail;refine HG.out.mono ?_;rintro e w1 ⟨rfl,hb1⟩;have hr1:=HR.out _ (balloc hb1 (.cells #[.int .i64 a.no,.int .i64 a.dev,.int .i64 a.kind,.int .i64 a.mode,.int .i64 a.uid,.int .i64 a.gid,.int .i64 a.mtime,.int .i64 a.ctime,.int .i64 a.links,.int .i64 a.up,.string a.data,.slice ea el ec] 109));go_wp2_with fail;refine hr1.mono ?_;rintro e w2 ⟨rfl,rfl⟩;go_wp2_with fail;go_ret;exact⟨by rw [HA.out];rfl,balloc hb1 _⟩
  ·have HA:=Lib.hid (show S.above no=0 by unfold Fs.above;rw [hg];simp only;rw [if_pos hkd]);clear h hk hg hao hgc;go_enter Tryz.func150,Tryz.ntmps150;go_wp2_with fail;refine HN.out.mono ?_;rintro e w1 ⟨rfl,rfl⟩;go_wp2_with fail;refine HG.out.mono ?_;rintro e w1 ⟨rfl,hb1⟩;go_wp2_with fail;go_ret;exact⟨by rw [HA.out];rfl,balloc hb1 _⟩
end
end
end Go.Proofs.YtihdbncoijhihaaGreatDoor
