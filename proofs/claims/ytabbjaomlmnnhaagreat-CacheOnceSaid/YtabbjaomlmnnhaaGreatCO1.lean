import Derived.WalkKit
import Derived.WalkSpells
import Derived.WalkLawsBesides
import Derived.Outline
import Derived.Deep.QuietTactic
import Derived.BigQuiet
import Derived.Handy
import Derived.Lib.Hide
import Derived.Deep.RegionHeld3
import Derived.StillTactics
import Derived.Deep.LoopGhost
import Derived.RangeFuncNested
import Derived.RangeFuncBound
import Derived.RangeFuncCalls
import Derived.RangeFuncLeaves
import Derived.Test.YtabbjaomlmnnhaaGreatProg
set_option linter.unusedVariables false
set_option linter.unusedSimpArgs false
set_option maxRecDepth 100000
set_option maxHeartbeats 16000000
namespace Go.Proofs.YtabbjaomlmnnhaaGreat
open Go.RowKit
def Uy(p:Prop):Prop:=p
theorem Ux{p:Prop}(h:p):Uy p:=h
theorem Uy.out{p:Prop}(h:Uy p):p:=h
theorem Uy.o{p:Prop}(h:Uy p):p:=h
abbrev UA(w w':World):Prop:=Below w.heap.size w w'
theorem UB(w:World):Below w.heap.size w w:=Below.refl _ w
theorem aa(n:Nat):n≤n:=Nat.le_refl n
theorem ae{a b c:Nat}(h:a≤b)(k:b≤c):a≤c:=Nat.le_trans h k
theorem ag{a b:Prop}(h:a)(k:b):a∧b:=⟨h,k⟩
theorem ah{α:Type}(l:List α)(i:Nat)(a:α):l.toArray.setIfInBounds i a=(l.set i a).toArray:=List.setIfInBounds_toArray l i a
theorem ai{α:Type}{x:α}{l:List α}{a:α}:(x::l).set 0 a=a::l:=rfl
theorem aj{α:Type}{x:α}{l:List α}{n:Nat}{a:α}:(x::l).set (n+1) a=x::l.set n a:=rfl
open Go.Value renaming int→UE,string→UF,slice→UG,pointer→UH,agg→UJ,tuple→UK
open Go.IntKind renaming i64→UL
section
def ax(w:World)(B:Nat)(vs:Array Value)(T:TypeId):Prop:=w.heap[B]?=some (.cells vs T (0,0))
theorem ax.lt{w:World}{B:Nat}{vs:Array Value}{T:TypeId}(h:ax w B vs T):B<w.heap.size:=by
 unfold ax at h;exact(Array.getElem?_eq_some_iff.1 h).1
theorem ax.new(w:World)(vs:Array Value)(T:TypeId):ax (w.alloc (.cells vs T)) w.heap.size vs T:=by
 show(w.heap.push _)[w.heap.size]?=_;simp
theorem ax.bI{w:World}{B:Nat}{vs:Array Value}{T:TypeId}(h:ax w B vs T)(o:Obj):ax (w.alloc o) B vs T:=
 (Below.heap_alloc w o B h.lt).trans h
theorem ax.an{w w':World}{B:Nat}{vs:Array Value}{T:TypeId}(h:ax w B vs T)(hb:UA w w'):ax w' B vs T:=
 (hb.block B h.lt).trans h
theorem ax.nC{w w':World}{B N:Nat}{vs:Array Value}{T:TypeId}(h:ax w B vs T)(hb:Below N w w')(hN:B<N):ax w' B vs T:=
 (hb.block B hN).trans h
theorem ax.drew{w:World}{B:Nat}{vs:Array Value}{T:TypeId}(h:ax w B vs T):ax w.drew B vs T:=h
theorem ax.cell{w:World}{B:Nat}{vs:Array Value}{T:TypeId}(h:ax w B vs T)(i:Nat):w.cell? ⟨B,i,none⟩=vs[i]?:=by
 unfold ax at h;simp[World.cell?,h]
theorem ax.frozen{w:World}{B:Nat}{vs:Array Value}{T:TypeId}(h:ax w B vs T)(i:Nat):w.frozen? ⟨B,i,none⟩=false:=by
 unfold ax at h;simp[World.frozen?,h]
theorem ax.facts{w:World}{B:Nat}{vs:Array Value}{T:TypeId}(h:ax w B vs T) :
  (∀i,w.cell? ⟨B,i,none⟩=vs[i]?)∧(∀i,w.frozen? ⟨B,i,none⟩=false)∧B<w.heap.size:=⟨h.cell,h.frozen,h.lt⟩
theorem ax.set{w:World}{B:Nat}{vs:Array Value}{T:TypeId}(h:ax w B vs T)(i:Nat)(v:Value):ax (w.setCell ⟨B,i,none⟩ v) B (vs.setIfInBounds i v) T:=by
 unfold ax at h⊢;simp only[World.setCell,Array.getElem?_modify,if_true,h];simp
theorem ax.setOther{w:World}{B:Nat}{vs:Array Value}{T:TypeId}(h:ax w B vs T)(a:Addr)(v:Value)(hne:a.block≠B):ax (w.setCell a v) B vs T:=
 (Below.heap_setCell w a v B (fun e=>hne e.symm)).trans h
theorem ar{w W w2:World}(h:UA w W)(h2:UA W w2):UA w w2:=h.trans (h2.mono h.size)
theorem ao{w W:World}(h:UA w W)(o:Obj):UA w (W.alloc o):=h.alloc h.size o
theorem Uz(w:World)(v:Array Value)(T:TypeId):ax (w.alloc (.cells v T)) w.heap.size v T∧Below w.heap.size w (w.alloc (.cells v T)):=⟨ax.new w v T,ao (Below.refl _ w) _⟩
theorem eH(W:World):(∀b o,b<W.heap.size→W.drew.cell? ⟨b,o,none⟩=W.cell? ⟨b,o,none⟩)∧UA W W.drew:=
 ⟨fun _ _ _=>rfl,(Below.refl _ _).drew⟩
theorem eb{W p w4:World}(h:(∀b o,b<W.heap.size→p.cell? ⟨b,o,none⟩=W.cell? ⟨b,o,none⟩)∧UA W p)(h2:UA p w4) :
  (∀b o,b<W.heap.size→w4.cell? ⟨b,o,none⟩=W.cell? ⟨b,o,none⟩)∧UA W w4:=
 ⟨fun b o hb=>(h2.cell (p:=⟨b,o,none⟩) (Nat.lt_of_lt_of_le hb h.2.size)).trans (h.1 b o hb),ar h.2 h2⟩
theorem dF{W p:World}(h:(∀b o,b<W.heap.size→p.cell? ⟨b,o,none⟩=W.cell? ⟨b,o,none⟩)∧UA W p)(o:Obj) :
  (∀b i,b<W.heap.size→(p.alloc o).cell? ⟨b,i,none⟩=W.cell? ⟨b,i,none⟩)∧UA W (p.alloc o):=
 eb h ((Below.refl _ _).alloc (aa _) _)
end
section
structure Mod(S:Nat→Prop)(w w':World):Prop where
 os:w'.os=w.os
 tape:w'.tape=w.tape
 output:w'.output=w.output
 size:w.heap.size≤w'.heap.size
 block:∀k,k<w.heap.size→¬S k→w'.heap[k]?=w.heap[k]?
section
variable{S:Nat→Prop}{w w' w'':World}
theorem Mod.refl(S:Nat→Prop)(w:World):Mod S w w:=⟨rfl,rfl,rfl,aa _,fun _ _ _=>rfl⟩
theorem Mod.trans(h:Mod S w w')(k:Mod S w' w''):Mod S w w'':=
 ⟨k.os.trans h.os,k.tape.trans h.tape,k.output.trans h.output,ae h.size k.size,fun i hi hs=>(k.block i (Nat.lt_of_lt_of_le hi h.size) hs).trans (h.block i hi hs)⟩
theorem Mod.aq(h:UA w w'):Mod S w w':=⟨h.os,h.tape,h.output,h.size,fun k hk _=>h.block k hk⟩
theorem Mod.below(h:Mod S w w'){B:Nat}(hS:∀k,S k→B≤k)(hB:B≤w.heap.size):Below B w w':=
 ⟨h.os,h.tape,h.output,h.size,fun k hk=>h.block k (Nat.lt_of_lt_of_le hk hB) (fun hs=>by have:=hS k hs;omega)⟩
theorem Mod.mono{S':Nat→Prop}(h:Mod S w w')(hS:∀k,S k→S' k):Mod S' w w':=⟨h.os,h.tape,h.output,h.size,fun k hk hs=>h.block k hk (fun h'=>hs (hS k h'))⟩
theorem Mod.alloc(h:Mod S w w')(o:Obj):Mod S w (w'.alloc o):=h.trans (.aq ((Below.refl _ _).alloc (aa _) o))
theorem Mod.drew(h:Mod S w w'):Mod S w w'.drew:=⟨h.os,h.tape,h.output,h.size,h.block⟩
theorem Mod.setCell(h:Mod S w w'){a:Addr}(ha:S a.block∨w.heap.size≤a.block)(v:Value):Mod S w (w'.setCell a v):=
 ⟨h.os,h.tape,h.output,by simpa [World.setCell] using h.size,fun k hk hs=>by
  rw[Below.heap_setCell _ _ _ _ (by rintro rfl;rcases ha with ha|ha;exact hs ha;omega)];exact h.block k hk hs⟩
theorem Mod.setBlock(h:Mod S w w'){b:Nat}(hb:S b∨w.heap.size≤b)(o:Obj):Mod S w (ChangeMaps.setBlock w' b o):=
 ⟨h.os,h.tape,h.output,by simpa [ChangeMaps.setBlock] using h.size,fun k hk hs=>by
  have:b≠k:=by rintro rfl;rcases hb with hb|hb;exact hs hb;omega
  simp only[ChangeMaps.setBlock,Array.getElem?_setIfInBounds,if_neg this];exact h.block k hk hs⟩
theorem ax.mod{B:Nat}{vs:Array Value}{T:TypeId}(h:ax w B vs T)(hm:Mod S w w')(hs:¬S B):ax w' B vs T:=(hm.block B h.lt hs).trans h
theorem ax.setBlock{B b:Nat}{vs:Array Value}{T:TypeId}(h:ax w B vs T)(hb:b≠B)(o:Obj):ax (ChangeMaps.setBlock w b o) B vs T:=by
 unfold ax at h⊢;simp only[ChangeMaps.setBlock,Array.getElem?_setIfInBounds,if_neg hb];exact h
end
theorem mi{W p:World}(h:UA W p):(∀b o,b<W.heap.size→p.cell? ⟨b,o,none⟩=W.cell? ⟨b,o,none⟩)∧UA W p:=
 ⟨fun b o hb=>h.cell (p:=⟨b,o,none⟩) hb,h⟩
theorem cX{W p:World}{O X:Obj}(h:(∀b o,b<W.heap.size→(p.alloc O).cell? ⟨b,o,none⟩=W.cell? ⟨b,o,none⟩)∧UA W (p.alloc O))(hs:W.heap.size≤p.heap.size) :
  (∀b o,b<W.heap.size→(p.alloc X).cell? ⟨b,o,none⟩=W.cell? ⟨b,o,none⟩)∧UA W (p.alloc X):=by
 obtain⟨-,h⟩:=h;refine mi ⟨h.os,h.tape,h.output,by rw[World.size_alloc];omega,fun k hk=>?_⟩;have:=h.block k hk;rw[Below.heap_alloc _ _ _ (by omega)] at this⊢;exact this
theorem mS{W p:World}(h:(∀b o,b<W.heap.size→p.cell? ⟨b,o,none⟩=W.cell? ⟨b,o,none⟩)∧UA W p){a:Addr}(ha:W.heap.size≤a.block)(v:Value) :
  (∀b o,b<W.heap.size→(p.setCell a v).cell? ⟨b,o,none⟩=W.cell? ⟨b,o,none⟩)∧UA W (p.setCell a v):=
 mi (h.2.setCell ha v)
theorem eG{W p:World}{B:Nat}{v0 v1 v2 v3:Value}(h:(∀b o,b<W.heap.size→p.cell? ⟨b,o,none⟩=W.cell? ⟨b,o,none⟩)∧UA W p)(hB:W.heap.size≤B) :
  (∀b o,b<W.heap.size→((((p.setCell ⟨B,0,none⟩ v0).setCell ⟨B,1,none⟩ v1).setCell ⟨B,2,none⟩ v2).setCell ⟨B,3,none⟩ v3).cell? ⟨b,o,none⟩=W.cell? ⟨b,o,none⟩)∧
   UA W ((((p.setCell ⟨B,0,none⟩ v0).setCell ⟨B,1,none⟩ v1).setCell ⟨B,2,none⟩ v2).setCell ⟨B,3,none⟩ v3):=
 mS (mS (mS (mS h hB v0) hB v1) hB v2) hB v3
theorem dU(W:World):(∀b o,b<W.heap.size→W.drew.drew.cell? ⟨b,o,none⟩=W.cell? ⟨b,o,none⟩)∧UA W W.drew.drew:=mi ((Below.refl _ _).drew).drew
theorem kD{w w4:World}{vs:Array Value}{T:TypeId}(h:Below (w.alloc (.cells vs T)).drew.heap.size (w.alloc (.cells vs T)).drew w4):ax w4 w.heap.size vs T:=((ax.new w vs T).drew).an h
theorem Ar{w w4:World}{vs:Array Value}{T:TypeId}(h:Below (w.alloc (.cells vs T)).heap.size (w.alloc (.cells vs T)) w4):ax w4 w.heap.size vs T:=(ax.new w vs T).an h
theorem du{W p:World}(h:(∀b o,b<W.heap.size→p.drew.cell? ⟨b,o,none⟩=W.cell? ⟨b,o,none⟩)∧UA W p.drew)(o:Obj) :
  (∀b i,b<W.heap.size→(p.alloc o).drew.cell? ⟨b,i,none⟩=W.cell? ⟨b,i,none⟩)∧UA W (p.alloc o).drew:=dF (p:=p.drew) h o
theorem ax.dA{w:World}{B:Nat}{x0 x1 x2 x3 v0 v1 v2 v3:Value}{T:TypeId}(h:ax w B #[x0,x1,x2,x3] T) :
  ax ((((w.setCell ⟨B,0,none⟩ v0).setCell ⟨B,1,none⟩ v1).setCell ⟨B,2,none⟩ v2).setCell ⟨B,3,none⟩ v3) B #[v0,v1,v2,v3] T:=(((h.set 0 v0).set 1 v1).set 2 v2).set 3 v3
theorem aC{N:Nat}{w0 w:World}{B:Nat}{v0 v1 v2 v3:Value}(h:Below N w0 w)(hB:N≤B) :
  Below N w0 ((((w.setCell ⟨B,0,none⟩ v0).setCell ⟨B,1,none⟩ v1).setCell ⟨B,2,none⟩ v2).setCell ⟨B,3,none⟩ v3):=(((h.setCell hB v0).setCell hB v1).setCell hB v2).setCell hB v3
end
section
def str(l:List UInt8):ByteArray:=⟨l.toArray⟩
theorem dn(l:List UInt8):(str l).size=l.length:=by simp[str,ByteArray.size]
theorem kY(a b:List UInt8):str a++str b=str (a++b):=ByteArray.mk_append_mk a b
theorem so(s:ByteArray):str s.data.toList=s:=by
 unfold str
 cases s
 simp
def Dk:Nat→Nat→Nat→List UInt8
 |0,_,_=>[]
 |f+1,b,n=>if n<b then[UInt8.ofNat (48+n)] else Dk f b (n / b)++[UInt8.ofNat (48+n % b)]
def ze(b n:Nat):List UInt8:=Dk (n+1) b n
theorem qp(b:Nat)(hb:2≤b):∀(f n:Nat),n<f→Dk f b n=Dk (n+1) b n
 |0,n,h=>by omega
 |f+1,n,h=>by
  unfold Dk;by_cases hn:n<b
  ·rw[if_pos hn,if_pos hn]
  ·rw[if_neg hn,if_neg hn];have h0:0<n:=by omega
   have h1:n / b<n:=Nat.div_lt_self h0 (by omega);rw[qp b hb f (n / b) (by omega)]
   cases n with
   |zero=>omega
   |succ m=>rw[qp b hb (m+1) ((m+1) / b) h1]
theorem kK{b n:Nat}(h:n<b):ze b n=[UInt8.ofNat (48+n)]:=by
 unfold ze Dk;rw[if_pos h]
theorem uh{b n:Nat}(hb:2≤b)(h:b≤n):ze b n=ze b (n / b)++[UInt8.ofNat (48+n % b)]:=by
 have h1:n / b<n:=Nat.div_lt_self (by omega) (by omega);unfold ze
 conv=>lhs;unfold Dk
 rw[if_neg (by omega),qp b hb n (n / b) h1]
theorem rS(b:Nat)(hb:2≤b):∀(k n:Nat),n<b ^ (k+1)→(ze b n).length≤k+1
 |0,n,h=>by rw[kK (by simpa using h)];simp
 |k+1,n,h=>by
  by_cases hn:n<b
  ·rw[kK hn];simp
  ·rw[uh hb (by omega)];have:n / b<b ^ (k+1):=by rw[Nat.div_lt_iff_lt_mul (by omega)];rwa [Nat.pow_succ] at h
   have:=rS b hb k (n / b) this;simp;omega
theorem Ee(b n:Nat)(hb:2≤b):0<(ze b n).length:=by
 by_cases hn:n<b
 ·rw[kK hn];simp
 ·rw[uh hb (by omega)];simp
def valD(b:Nat)(l:List UInt8):Nat:=l.foldl (fun a c=>a*b+(c.toNat-48)) 0
def kl(n:Int):List UInt8:=if n<0 then 45::ze 10 n.natAbs else ze 10 n.toNat
theorem kL(n:Int)(h0:-9223372036854775808≤n)(h1:n≤9223372036854775807):(kl n).length≤21∧0<(kl n).length:=by
 unfold kl;have e:(10:Nat) ^ (19+1)=100000000000000000000:=by decide
 split
 ·have:=rS 10 (by decide) 19 n.natAbs (by rw[e];omega);simp;omega
 ·have:=rS 10 (by decide) 19 n.toNat (by rw[e];omega);have:=Ee 10 n.toNat (by decide);omega
theorem foldl_push(ns:List Int):∀(s:List UInt8),ns.foldl (fun(r:ByteArray) n=>r.push (UInt8.ofNat n.toNat)) (str s)=str (s++ns.map fun n=>UInt8.ofNat n.toNat):=by
 induction ns with
 |nil=>intro s;simp
 |cons n ns ih=>
  intro s;rw[List.foldl_cons];have:(str s).push (UInt8.ofNat n.toNat)=str (s++[UInt8.ofNat n.toNat]):=by
   unfold str;show ByteArray.mk (s.toArray.push _)=_;simp
  rw[this,ih];simp
theorem Dm{P:Program}{src dst e:TypeId}(hs:P.underlying src=some (.slice e))(he:P.underlying e=some (.int .u8))(hd:P.underlying dst=some .string)
  (w:World) (B o c:Nat) (ns:List Int) (h:∀j,(hj:j<ns.length)→w.cell? ⟨B,o+j,none⟩=some (UE .u8 ns[j])) :
  (convert src dst (.slice (some ⟨B,o,none⟩) ns.length c)).run P w=.ok (UF (str (ns.map fun n=>UInt8.ofNat n.toNat))) w:=by
 rw[run_convert_bytes_string w src dst e _ _ _ hs he hd];have hl:(loadCells ⟨B,o,none⟩ ns.length).run P w=.ok (ns.map (Value.int .u8)).toArray w:=by
  have:=run_loadCells_list (P:=P) w ⟨B,o,none⟩ (ns.map (Value.int .u8)) (by
   intro j v hv;have hj:j<ns.length:=by
    have:=(List.getElem?_eq_some_iff.1 hv).1;simpa using this
   have ha:(⟨B,o,none⟩:Addr).add j=⟨B,o+j,none⟩:=by
    unfold Addr.add
    split
    ·rename_i h0;subst h0;rfl
    ·rfl
   rw[ha,h j hj];simpa [List.getElem?_eq_getElem hj] using hv)
  rwa [List.length_map] at this
 rw[run_bytesToString w _ _ _ ns hl];have:=foldl_push ns [];rw[show str []=ByteArray.empty from rfl] at this;rw[this,List.nil_append]
theorem Kl{a b:ByteArray}(h:a.toList=b.toList):a=b:=by
 rw[ByteArray.toList_eq,ByteArray.toList_eq] at h
 cases a;cases b
 simp at h;subst h;rfl
end
section
theorem toNat_div{m b:Int}(hm:0≤m)(hb:0≤b):(m / b).toNat=m.toNat / b.toNat:=by
 obtain⟨m,rfl⟩:=Int.eq_ofNat_of_zero_le hm;obtain⟨b,rfl⟩:=Int.eq_ofNat_of_zero_le hb;rfl
theorem toNat_mod{m b:Int}(hm:0≤m)(hb:0≤b):(m % b).toNat=m.toNat % b.toNat:=by
 obtain⟨m,rfl⟩:=Int.eq_ofNat_of_zero_le hm;obtain⟨b,rfl⟩:=Int.eq_ofNat_of_zero_le hb;rfl
theorem OP{b m:Int}(de:2≤b)(av:b≤10):0≤m % b∧m % b≤9:=by
 have:=Int.emod_nonneg m (show b≠0 by omega);have:=Int.emod_lt_of_pos m (show 0<b by omega);omega
end
section
theorem L':(Tryz.prog.info? 5).map (fun i=>(i.zero,i.size,i.bytes))=some (some (UE .u8 0),1,1):=by kernel_rfl
theorem M5(r:Nat)(h:r<10)(hb:r<(ByteArray.mk #[48,49,50,51,52,53,54,55,56,57]).size):((ByteArray.mk #[48,49,50,51,52,53,54,55,56,57])[r]'hb).toNat=48+r:=by
 match r,h with
 |0,_=>rfl
 |1,_=>rfl
 |2,_=>rfl
 |3,_=>rfl
 |4,_=>rfl
 |5,_=>rfl
 |6,_=>rfl
 |7,_=>rfl
 |8,_=>rfl
 |9,_=>rfl
def Gv(b n:Nat):List UInt8:=if n=0 then[] else ze b n
theorem Gu{b n:Nat}(hb:2≤b)(hn:0<n):Gv b n=Gv b (n / b)++[UInt8.ofNat (48+n % b)]:=by
 unfold Gv;rw[if_neg (by omega)];by_cases h:n<b
 ·rw[kK h,if_pos (Nat.div_eq_of_lt h),Nat.mod_eq_of_lt h];rfl
 ·have:0<n / b:=Nat.div_pos (by omega) (by omega);rw[if_neg (by omega),uh hb (by omega)]
theorem ug(n b:Int)(w:World)(QI:0≤n)(j6:n≤18446744073709551615)(de:2≤b)(av:b≤10) :
  Calls Tryz.prog 80 #[UE .u64 n,UE .u64 b] w fun e w'=>e=.returned (UF (str (ze b.toNat n.toNat)))∧UA w w':=by
 by_cases hz:n=0
 ·subst hz;have Hv:=Ux (show ze b.toNat (0:Int).toNat=[48] by rw[kK (by omega)];rfl);go_enter Tryz.func80,Tryz.ntmps80;go_wp2_with fail;go_ret;exact⟨by rw[Hv.o];rfl,Below.refl _ _⟩
 ·have kp:(n==0)=false:=by simpa using hz
  obtain⟨i0,hi,hzz,fj,fo⟩:=info_parts L';go_enter Tryz.func80,Tryz.ntmps80;go_wp2_with fail
  go_loopg [0,5] n.toNat (fun g t0 t5 wr=>∃(m:Int) (acc:List Int) (k:Nat),0≤m∧m≤n∧g=m.toNat∧t0=UE .u64 m∧wr.ownsRow w.heap.size 5 1 t5 acc.length (acc.map (Value.int .u8))∧
   (∀x∈acc,48≤x∧x≤57)∧acc.length+k=64∧m<2 ^ k∧Gv b.toNat n.toNat=Gv b.toNat m.toNat++(acc.map fun x=>UInt8.ofNat x.toNat).reverse∧UA w wr)
  case atStart=>exact⟨n,[],64,QI,Int.le_refl _,rfl,rfl,World.ownsRow_nil _ _ _ _,by simp,rfl,by omega,by simp,Below.refl _ _⟩
  case round=>
   obtain⟨m,acc,k,D5,fQ,hg,rfl,hown,hac,hs,hk,hd,hB⟩:=hrel;have Hg:=Ux hg;have Hd:=Ux hd;have Hs:=Ux hs;have Hk:=Ux hk;have Ha:=Ux hac;clear hg hd hs hk hac;by_cases hlt:0<m
   ·obtain⟨r0,r1⟩:=OP (m:=m) de av;have d0:0≤m / b:=Int.ediv_nonneg D5 (by omega);have d1:m / b≤m:=Int.ediv_le_self _ D5;have hne:(b==0)=false:=by simp;omega
    have hidx:∀h,(((ByteArray.mk #[48,49,50,51,52,53,54,55,56,57])[(m % b).toNat]'h).toNat:Int)=48+m % b:=fun h=>by
     rw[M5 _ (by omega)];omega
    have hacc:acc.length+1≤64:=by
     have hk:=Hk.o;have hs:=Hs.o
     cases k with
     |zero=>simp at hk;omega
     |succ k'=>omega
    have hlo:m / b<m:=Int.ediv_lt_self_of_pos_of_ne_one (by omega) (by omega);go_wp2_with (at_builtin;refine wpList_append_own _ rfl _ _ 115 rfl w.heap.size 5 i0 (UE .u8 0) 1 1 Tryz.underlying115 hi hzz fj fo rfl (by decide) _ _ _ rfl (hown.alloc _) ⟨wr.heap.size,0,none⟩ 1 1 [UE .u8 (48+m % b)] rfl rfl ?c1 ?c2 ?c3 ?c4 ?c5 ?_)
    case c1=>exact cell_one_new _ _ _
    case c2=>intro u hu;simp at hu;subst hu;rfl
    case c3=>unfold maxLen;omega
    case c4=>omega
    case c5=>have:=hB.size;simp;omega
    intro v' w1 hown' hgrow _;have fR:UA w w1:=(ao hB _).grown hgrow (by have:=hB.size;simp;omega) (fun k hk=>((hown.alloc (.cells #[UE .u8 (48+m % b)] 5)).lt k hk).1);go_wp2_with fail;go_roundg (m / b).toNat
    case measure=>rw[Hg.o];omega
    case rel=>
     have hk:=Hk.o;have hs:=Hs.o;obtain⟨k',rfl⟩:∃k',k=k'+1:=by
      cases k with
      |zero=>simp at hk;omega
      |succ k'=>exact⟨k',rfl⟩
     refine⟨m / b,acc++[48+m % b],k',d0,by omega,rfl,rfl,by simpa using hown',?_,by simp;omega,?_,?_,fR⟩
     ·intro x hx;rcases List.mem_append.1 hx with hx|hx
      ·exact Ha.o x hx
      ·simp at hx;omega
     ·have h2:m / b≤m / 2:=by
       have h3:=Int.ediv_mul_le m (show b≠0 by omega);have h4:m / b*2≤m / b*b:=Int.mul_le_mul_of_nonneg_left de d0;omega
      have h5:(2:Int) ^ (k'+1)=2 ^ k'*2:=Int.pow_succ ..;omega
     ·rw[Hd.o,Gu (b:=b.toNat) (n:=m.toNat) (by omega) (by omega),toNat_div D5 (by omega),List.append_assoc];congr 1;rw[←toNat_mod D5 (by omega),List.map_append,List.reverse_append];show _=UInt8.ofNat (48+m % b).toNat::_;rw[show(48+m % b).toNat=48+(m % b).toNat by omega];rfl
   ·obtain rfl:m=0:=by omega
    have mY:ze b.toNat n.toNat=(acc.map fun x=>UInt8.ofNat x.toNat).reverse:=by
     have h:=Hd.o;unfold Gv at h;rw[if_neg (by omega)] at h;simpa using h
    have hne:0<acc.length:=by
     have h1:=Ee b.toNat n.toNat (by omega);rw[mY] at h1;simpa using h1
    obtain⟨hl,hf⟩:=hown;rcases hf with⟨-,h⟩|⟨g,cap,cur,rfl,KS,hh,jH,fE,Pu,hc4⟩
    ·omega
    have hown:wr.ownsRow w.heap.size 5 1 (.slice (some ⟨g,0,none⟩) acc.length cap) acc.length (acc.map (Value.int .u8)):=⟨hl,.inr ⟨g,cap,cur,rfl,KS,hh,jH,fE,Pu,hc4⟩⟩;have Hd0:=Ux mY;have hL:acc.length≤64:=by have:=Hs.o;omega
    clear hl hh jH Pu hc4 mY Hd;go_wp2_with fail
    go_loopg [6,7] (acc.length+1) (fun gg t6 t7 wr=>∃(k j:Nat) (cr:List Int),gg+k=acc.length+1∧j+k+1=acc.length∧k≤j+2∧t6=UE UL k∧t7=UE UL j∧
     wr.ownsRow w.heap.size 5 1 (.slice (some ⟨g,0,none⟩) acc.length cap) acc.length (cr.map (Value.int .u8))∧cr.length=acc.length∧
     (∀x,x<acc.length→cr.getD x 0=if x<k∨j<x then acc.getD (acc.length-1-x) 0 else acc.getD x 0)∧UA w wr)
    case atStart=>exact⟨0,acc.length-1,acc,by omega,by omega,by omega,rfl,by go_num,hown,rfl,fun x hx=>by rw[if_neg (by omega)],hB⟩
    case round=>
     obtain⟨k,j,cr,iL,hkj,gM,rfl,rfl,hown,hcl,hcr,hB⟩:=hrel;have Hcr:=Ux hcr;have Oh:=Ux hcl;have Hg1:=Ux iL;have Hkj:=Ux hkj;clear hcr hcl iL;by_cases hlt:k<j
     ·have hck:wr.cell? ⟨g,k,none⟩=some (UE .u8 (cr.getD k 0)):=by
       rw[hown.cellAt k (by omega),List.getElem?_map,List.getElem?_eq_getElem (by have:=Oh.o;omega),List.getD_eq_getElem?_getD,List.getElem?_eq_getElem (by have:=Oh.o;omega)];rfl
      have hcj:wr.cell? ⟨g,j,none⟩=some (UE .u8 (cr.getD j 0)):=by
       rw[hown.cellAt j (by omega),List.getElem?_map,List.getElem?_eq_getElem (by have:=Oh.o;omega),List.getD_eq_getElem?_getD,List.getElem?_eq_getElem (by have:=Oh.o;omega)];rfl
      have hf:=hown.frozenAt;have hne:¬k=j:=by omega
      have hne':¬j=k:=by omega
      have hkL:(k:Int)<acc.length:=by omega
      have hjL:(j:Int)<acc.length:=by omega
      have hj0:(0:Int)≤j:=by omega
      have QL:(0:Int)≤k:=by omega
      have Hown:=Ux hown;clear hown hkj;generalize hu:cr.getD k 0=u at hck;generalize hv:cr.getD j 0=v at hcj;have Hu:=Ux hu;have Hv:=Ux hv;clear hu hv;go_wp2_with fail
      go_region
      go_wp2_with fail;go_roundg (gk-1)
      case measure=>have:=Hg1.o;have:=Hkj.o;omega
      case rel=>
       have hcr:=Hcr.o;have hcl:=Oh.o;have hkj:=Hkj.o;have s1:=(Hown.o.stored k (UE .u8 v)).1;have s2:=(s1.stored j (UE .u8 u)).1;have hg:=KS;refine⟨k+1,j-1,(cr.set k v).set j u,by have:=Hg1.o;omega,by omega,by omega,by go_num,by go_num,?_,by simp[hcl],?_,?_⟩
       ·rw[List.map_set,List.map_set];exact s2
       ·intro x hx;have hx':=hcr x hx;have hk':=hcr k (by omega);have hj':=hcr j (by omega);rw[if_neg (by omega),Hu.o] at hk';rw[if_neg (by omega),Hv.o] at hj';simp only[List.getD_eq_getElem?_getD] at hx' hk' hj'⊢;by_cases e1:x=j
        ·subst e1;rw[List.getElem?_set_self (by simp;omega),if_pos (by omega),show acc.length-1-x=k by omega];exact hk'
        ·rw[List.getElem?_set_ne (by omega)];by_cases e2:x=k
         ·subst e2;rw[List.getElem?_set_self (by omega),if_pos (by omega),show acc.length-1-x=j by omega];exact hj'
         ·rw[List.getElem?_set_ne (by omega),hx'];by_cases e3:x<k∨j<x
          ·rw[if_pos e3,if_pos (by omega)]
          ·rw[if_neg e3,if_neg (by omega)]
       ·exact((hB.setCell (p:=⟨g,k,none⟩) hg _).setCell (p:=⟨g,j,none⟩) hg _).drew
     ·have hcr:cr=acc.reverse:=by
       have hcl:=Oh.o;apply List.ext_getElem (by simp[hcl]);intro x h1 h2;have hx:=Hcr.o x (by omega);rw[List.getD_eq_getElem?_getD,List.getElem?_eq_getElem h1] at hx;rw[List.getElem_reverse];by_cases e:x<k∨j<x
       ·rw[if_pos e,List.getD_eq_getElem?_getD,List.getElem?_eq_getElem (by omega)] at hx;exact hx
       ·rw[if_neg e,List.getD_eq_getElem?_getD,List.getElem?_eq_getElem (by omega)] at hx;have e2:x=acc.length-1-x:=by omega
        simp only[Option.getD_some] at hx;rw[hx];congr 1
      have kc:=Dm (P:=Tryz.prog) Tryz.underlying115 Tryz.underlying5 Tryz.underlying9 wr g 0 cap cr (by
       intro x hx;have hcl:=Oh.o;rw[Nat.zero_add,hown.cellAt x (by omega),List.getElem?_map,List.getElem?_eq_getElem hx];rfl)
      rw[Oh.o] at kc;have Hcr2:=Ux hcr;clear hcr;go_wp2_with fail;go_ret;refine⟨?_,hB⟩;rw[Hd0.o,Hcr2.o,List.map_reverse];rfl
end
section
theorem yB(n:Int)(w:World)(h0:-9223372036854775808≤n)(h1:n≤9223372036854775807) :
  Calls Tryz.prog 44 #[UE UL n] w fun e w'=>e=.returned (UF (str (kl n)))∧UA w w':=by
 by_cases hn:n<0
 ·have Hv:=Ux (show kl n=45::ze 10 n.natAbs by unfold kl;rw[if_pos hn]);have hsz:=rS 10 (by decide) 19 n.natAbs (by
                            have e:(10:Nat) ^ (19+1)=100000000000000000000:=by decide
                            rw[e];omega)
  have hsz':(str (ze 10 n.natAbs)).size≤20:=by rw[dn];exact hsz
  clear hsz;go_enter Tryz.func44,Tryz.ntmps44;have Hw:=Ux (show IntKind.u64.wrap (-IntKind.u64.wrap n)=-n by rw[IntKind.wrap_u64,IntKind.wrap_u64];omega);go_wp2_with fail;rw[Hw.o];refine(ug (-n) 10 _ (by omega) (by omega) (by decide) (by decide)).mono ?_;rw[show ze (10:Int).toNat (-n).toNat=ze 10 n.natAbs by rw[show(-n).toNat=n.natAbs by omega];rfl];rintro e w1 ⟨rfl,av⟩;go_wp2_with fail;go_ret;refine⟨?_,av⟩;rw[Hv.o];show Ending.returned (UF (str [45]++str _))=_;rw[kY];rfl
 ·have Hv:=Ux (show kl n=ze 10 n.toNat by unfold kl;rw[if_neg hn]);go_enter Tryz.func44,Tryz.ntmps44;go_wp2_with fail;refine(ug n 10 _ (by omega) (by omega) (by decide) (by decide)).mono ?_;rintro e w1 ⟨rfl,av⟩;go_wp2_with fail;go_ret;exact⟨by rw[Hv.o];rfl,av⟩
end
section
def NumOk(s:ByteArray):Option Int→Prop
 |some n=>str (kl n)=s∧-9223372036854775808≤n∧n≤9223372036854775807
 |none=>∀n:Int,-9223372036854775808≤n→n≤9223372036854775807→str (kl n)≠s
def numRes:Option Int→Value
 |some n=>UK #[UE UL n,.bool true]
 |none=>UK #[UE UL 0,.bool false]
def NInv(l:List UInt8)(n:Int):Prop:=-9223372036854775808≤n∧n≤9223372036854775807∧∃q:Int,n=-(valD 10 l:Int)+q*18446744073709551616
end
section
structure eL(T:Nat→Prop)(B:Nat)(p:Obj→Bool)(W W':World):Prop where
 os:W'.os=W.os
 tape:W'.tape=W.tape
 output:W'.output=W.output
 size:W.heap.size≤W'.heap.size
 block:∀k o,W.heap[k]?=some o→¬T k→(B≤k→p o=false)→W'.heap[k]?=some o
def BK{β:Type}(T:Nat→Prop)(B:Nat)(p:Obj→Bool)(J:β→World→Prop):Prop:=∀s W W',J s W→eL T B p W W'→J s W'
def KT(T:Nat→Prop)(W W':World):Prop:=W.heap.size≤W'.heap.size∧∀k,T k→W'.heap[k]?=W.heap[k]?
theorem KT.refl(T:Nat→Prop)(W:World):KT T W W:=⟨aa _,fun _ _=>rfl⟩
theorem KT.trans{T:Nat→Prop}{A B C:World}(h:KT T A B)(k:KT T B C):KT T A C:=⟨ae h.1 k.1,fun i hi=>(k.2 i hi).trans (h.2 i hi)⟩
theorem KT.aq{T:Nat→Prop}{W W':World}(h:UA W W')(hT:∀k,T k→k<W.heap.size):KT T W W':=⟨h.size,fun k hk=>h.block k (hT k hk)⟩
theorem KT.dH{T S:Nat→Prop}{W W':World}(h:Mod S W W')(hT:∀k,T k→k<W.heap.size)(hS:∀k,T k→¬S k):KT T W W':=⟨h.size,fun k hk=>h.block k (hT k hk) (hS k hk)⟩
theorem KT.put{T:Nat→Prop}(W:World)(l:Nat)(o:Obj)(h:¬T l):KT T W (W.putObj l o):=⟨by simp,fun k hk=>World.putObj_heap_other (fun e=>h (e▸hk))⟩
theorem eL.put{T:Nat→Prop}{B:Nat}{p:Obj→Bool}{W:World}{l:Nat}{o o':Obj}(hB:B≤l)(hl:W.heap[l]?=some o)(hp:p o=true):eL T B p W (W.putObj l o'):=
 ⟨rfl,rfl,rfl,by simp,fun k o2 hk _ h2=>(World.putObj_heap_other (fun e=>by subst e;rw[hl] at hk;injection hk with hk;subst hk;rw[hp] at h2;exact absurd (h2 hB) (by decide))).trans hk⟩
theorem eL.alloc{T:Nat→Prop}{B:Nat}{p:Obj→Bool}(W:World)(o:Obj):eL T B p W (W.alloc o):=
 ⟨rfl,rfl,rfl,by simp,fun k o2 hk _ _=>(Below.heap_alloc W o k (Array.getElem?_eq_some_iff.1 hk).1).trans hk⟩
def Nl{α:Type}(T:Nat→Prop)(F:Fence)(n:Nat)(P:Program)(g:Nat)(lb:Array Value)(encs:α→Array Value)(S Sp:List α→Prop)(V:List α→α→Prop)(w:World):Prop:=
 ∀(l:Nat) (J Jx:List α→World→Prop) (W:World),KT T w W→w.heap.size≤W.heap.size→BK T W.heap.size Obj.isWalk J→BK T W.heap.size Obj.isWalk Jx→
  (∀pre x W1,J pre W1→V pre x→YieldAt F (n-1) P l (encs x) W1 fun e W'=>
   (e=.returned (.bool true)∧J (pre++[x]) W'∧KT T W1 W')∨(e=.returned (.bool false)∧Jx (pre++[x]) W'))→
  J [] W→
  CallsIn F n P g (#[.func (.yield l) #[] #[]]++lb) W fun e W'=>(∃v,e=.returned v)∧((∃xs,S xs∧J xs W')∨(∃pre,Sp pre∧Jx pre W'))
def fG(o:Obj):Bool:=!o.isCells
theorem np{o:Obj}(h:o.isWalk=true):fG o=true:=by unfold fG;rw[Obj.not_cells_of_walk h];rfl
theorem zq{F:Fence}{n:Nat}{P:Program}{w:World}{α:Type}{T:Nat→Prop}{g:Operand}{ps:Array Tmp}{assign body:Code}{Q:Exit→Act→World→Prop}{a:Act}
  (hro:F.round=none) (h1:1≤n) {gf:Nat} {lb:Array Value} (hg:a.eval g=.func (.func gf) #[] lb) (Tl:F.fn gf) (eg:∀args w,(callFunc gf args).run P w=.ok (.enter gf args) w)
  {encs:α→Array Value} {S Sp:List α→Prop} {V:List α→α→Prop} {w0:World} (hseq:Nl T F (n-1) P gf lb encs S Sp V w0)
  (hT:∀k,T k→k<w.heap.size) (de:KT T w0 w) (hps:∀x,(encs x).size=ps.size)
  (I:List α→World→Prop) (Ix:Code→List α→World→Prop) (hI:BK T w.heap.size fG I) (JQ:∀c,BK T w.heap.size fG (Ix c)) (h0:I [] w) (a₁:α→Act)
  (hassign:∀(l:Nat) (x:α) (W:World) (K:Act→World→Prop),K (a₁ x) W→
   assign.wpIn (F.inRound l) (n-1-1) P (Exit.then K (fun _ _ _=>False)) {tmps:=(ps.zip (encs x)).foldl (fun t (p,v)=>t.setIfInBounds p v) a.tmps,defers:=[]} W)
  (hbody:∀(l:Nat) (pre:List α) (x:α) (W:World),w.heap.size≤l→l<W.heap.size→I pre W→V pre x→body.wpIn (F.inRound l) (n-1-1) P (ownPostG w.heap.size (KT T) I Ix (pre++[x]) W) (a₁ x) W)
  (hdone:∀(D:Nat) (xs:List α) (W:World),w.heap.size≤D→S xs→I xs W→W.heap[D]?=some (.deferred (some []))→Q .normal {a with defers:={target:=.collected D,args:=#[]}::a.defers} W)
  (hstop:∀(D:Nat) (c:Code) (pre:List α) (W:World),w.heap.size≤D→Sp pre→Ix c pre W→W.heap[D]?=some (.deferred (some []))→c.wpIn F n P Q {a with defers:={target:=.collected D,args:=#[]}::a.defers} W) :
  (Code.rangeFunc g ps assign body).wpIn F n P Q a w:=by
 refine wpIn_rangeFunc fun fn hfn=>?_;rw[hro];obtain⟨rc,hrc⟩:∃rc:LoopState→Option Code→Loop,rc=fun st pe=>{state:=st,pending:=pe,fn,tmps:=a.tmps,params:=ps,assign,body,defers:=w.heap.size}:=⟨_,rfl⟩;have yW:¬T (w.heap.size+1):=fun h=>by have:=hT _ h;omega
 have QO:¬T w.heap.size:=fun h=>by have:=hT _ h;omega
 generalize rO:(w.alloc (.deferred (some []))).alloc (.loop (rc .ready none))=W1;have ij:W1.heap.size=w.heap.size+2:=by rw[←rO];simp
 have MD:W1.heap[w.heap.size+1]?=some (.loop (rc .ready none)):=by
  have:=World.alloc_heap_new (w.alloc (.deferred (some []))) (.loop (rc .ready none));rw[World.size_alloc] at this;rw[←rO];exact this
 have QX:W1.heap[w.heap.size]?=some (.deferred (some [])):=by
  rw[←rO];exact(Below.heap_alloc _ _ _ (by simp)).trans (World.alloc_heap_new w _)
 have JR:I [] W1:=by rw[←rO];exact hI _ _ _ (hI _ _ _ h0 (eL.alloc _ _)) (eL.alloc _ _)
 have BO:KT T w W1:=by rw[←rO];exact KT.aq ((((Below.refl _ w).alloc (aa _) _).alloc (by simp) _)) hT
 refine⟨w.heap.size+1,[{target:=.collected w.heap.size,args:=#[]}],W1,{target:=.fn (.func gf) lb,args:=#[.func (.yield (w.heap.size+1)) #[] #[]]},W1,gf,
  #[.func (.yield (w.heap.size+1)) #[] #[]]++lb,W1,?_,?_,?_,?_,fun _=>h1,?_⟩
 ·rw[←rO,hrc];exact run_enterLoop_outer _ _ _ _ _
 ·simp only[resolve,hg];simp[go_sem]
 ·intro f' hf';simp[Target.leads] at hf';subst hf';exact Tl
 ·simp[invoke,go_sem,eg]
 have turnW:∀{A B:World},eL T W1.heap.size Obj.isWalk A B→eL T w.heap.size fG A B:=fun h=>
  ⟨h.os,h.tape,h.output,h.size,fun k o hk ht hp=>h.block k o hk ht (fun hB=>by
   cases hw:o.isWalk with
   |false=>rfl
   |true=>have:=hp (by omega);rw[np hw] at this;cases this)⟩
 have keepL:∀{A B:World} {k:Nat} {o:Obj},eL T W1.heap.size Obj.isWalk A B→A.heap[k]?=some o→¬T k→o.isWalk=false→B.heap[k]?=some o:=fun h hk ht hw=>h.block _ _ hk ht (fun _=>hw);refine(hseq (w.heap.size+1)
  (fun pre W=>I pre W∧W.heap[w.heap.size+1]?=some (.loop (rc .ready none))∧W.heap[w.heap.size]?=some (.deferred (some [])))
  (fun pre W=>∃c,Ix c pre W∧W.heap[w.heap.size+1]?=some (.loop (rc .done (some c)))∧W.heap[w.heap.size]?=some (.deferred (some [])))
  W1 (de.trans BO) (ae de.1 BO.1)
  (fun s A B hs ht=>⟨hI s A B hs.1 (turnW ht),keepL ht hs.2.1 yW rfl,keepL ht hs.2.2 QO rfl⟩)
  (fun s A B hs ht=>by
   obtain⟨c,hc,hl,hk⟩:=hs;exact⟨c,JQ c s A B hc (turnW ht),keepL ht hl yW rfl,keepL ht hk QO rfl⟩)
  ?_ ⟨JR,MD,QX⟩).mono ?_
 ·rintro pre x W ⟨hi,hl,hk⟩ hlen;have hlt:w.heap.size+1<W.heap.size:=(Array.getElem?_eq_some_iff.1 hl).1;have hy:=run_yield (P:=P) (args:=encs x) hl (by rw[hrc];exact hps x);rw[hrc] at hy;refine⟨fn,_,assign,body,hy,roundIn_of_wpIn hfn (hassign _ x W _ ?_)⟩;clear hy;refine⟨_,run_beginRound hl (by rw[hrc]),?_⟩;generalize AN:W.putObj (w.heap.size+1) (.loop {rc .ready none with state:=.busy})=Wb;have yU:Wb.heap[w.heap.size+1]?=some (.loop {rc .ready none with state:=.busy}):=by rw[←AN];exact World.putObj_heap_same hlt
  have gM:Wb.heap[w.heap.size]?=some (.deferred (some [])):=by rw[←AN];exact(World.putObj_heap_other (by omega)).trans hk
  have xQ:KT T W Wb:=by rw[←AN];exact KT.put _ _ _ yW
  have hib:I pre Wb:=by rw[←AN];exact hI _ _ _ hi (eL.put (by omega) hl rfl)
  refine wpIn_mono (hbody _ pre x Wb (by omega) (by have:=xQ.1;omega) hib hlen) ?_;have fin:∀(jump:Option Code) (W3:World),KeepsFrom w.heap.size Wb W3→
    (Instr.endRound (w.heap.size+1) jump).run P W3=.ok (.bool jump.isNone) (W3.putObj (w.heap.size+1) (.loop (rc (if jump.isNone then .ready else .done) jump)))∧
    W3.heap[w.heap.size+1]?=some (.loop {rc .ready none with state:=.busy})∧
    (W3.putObj (w.heap.size+1) (.loop (rc (if jump.isNone then .ready else .done) jump))).heap[w.heap.size+1]?=some (.loop (rc (if jump.isNone then .ready else .done) jump))∧
    (W3.putObj (w.heap.size+1) (.loop (rc (if jump.isNone then .ready else .done) jump))).heap[w.heap.size]?=some (.deferred (some [])):=fun jump W3 im=>by
   have p8:=im.same _ _ (by omega) yU rfl;have:=run_endRound (P:=P) jump p8;rw[hrc] at this⊢;exact⟨this,by rw[hrc] at p8;exact p8,World.putObj_heap_same (Array.getElem?_eq_some_iff.1 p8).1,(World.putObj_heap_other (by omega)).trans (im.same _ _ (aa _) gM rfl)⟩
  have leave:∀(c:Code) (W3:World),KeepsFrom w.heap.size Wb W3→Ix c (pre++[x]) W3→∃v W4,(Instr.endRound (w.heap.size+1) (some c)).run P W3=.ok (.bool v) W4∧v=false∧∃c',Ix c' (pre++[x]) W4∧W4.heap[w.heap.size+1]?=some (.loop (rc .done (some c')))∧W4.heap[w.heap.size]?=some (.deferred (some [])):=fun c W3 im rj=>by
   obtain⟨hr,p8,Jt,Ju⟩:=fin (some c) W3 im;exact⟨_,_,hr,rfl,c,JQ _ _ _ _ rj (eL.put (by omega) p8 rfl),Jt,Ju⟩
  rintro e a3 W3 hp
  cases e with
  |normal=>
   obtain⟨im,F3,rj⟩:=hp;obtain⟨hr,p8,Jt,Ju⟩:=fin none W3 im;exact⟨_,_,hr,.inl ⟨rfl,⟨hI _ _ _ rj (eL.put (by omega) p8 rfl),Jt,Ju⟩,xQ.trans (F3.trans (KT.put _ _ _ yW))⟩⟩
  |ret=>obtain⟨v,W4,hr,rfl,h⟩:=leave .ret W3 hp.1 hp.2;exact⟨_,_,hr,.inr ⟨rfl,h⟩⟩
  |exit id=>obtain⟨v,W4,hr,rfl,h⟩:=leave (.exit id) W3 hp.1 hp.2;exact⟨_,_,hr,.inr ⟨rfl,h⟩⟩
  |goto t=>obtain⟨v,W4,hr,rfl,h⟩:=leave (.goto t) W3 hp.1 hp.2;exact⟨_,_,hr,.inr ⟨rfl,h⟩⟩
  |panic ch=>exact hp.elim
  |outgrown=>exact hp.elim
 ·rintro e W2 ⟨⟨v,rfl⟩,(⟨xs,hS,hi,hl,hk⟩|⟨pre,S6,c,hi,hl,hk⟩)⟩
  ·exact⟨none,_,by have:=run_endLoop (P:=P) hl (by rw[hrc];simp);rw[hrc] at this;exact this,hdone _ xs _ (aa _) hS (hI _ _ _ hi (eL.put (by omega) hl rfl)) ((World.putObj_heap_other (by omega)).trans hk)⟩
  ·exact⟨some c,_,by have:=run_endLoop (P:=P) hl (by rw[hrc];simp);rw[hrc] at this;exact this,hstop _ c pre _ (aa _) S6 (JQ c _ _ _ hi (eL.put (by omega) hl rfl)) ((World.putObj_heap_other (by omega)).trans hk)⟩
end
section
def qB:Nat→Prop:=fun _=>False
def TE{α:Type}(T:Nat→Prop)(F:Fence)(n:Nat)(P:Program)(g:Nat)(lb:Array Value)(encs:α→Array Value)(S Sp:List α→Prop)(V:List α→α→Prop)(w:World):Prop:=
 ∀(l:Nat) (J Jx:List α→World→Prop) (W:World),KT T w W→w.heap.size≤W.heap.size→BK qB W.heap.size Obj.isWalk J→BK qB W.heap.size Obj.isWalk Jx→
  (∀pre x W1,J pre W1→V pre x→YieldAt F (n-1) P l (encs x) W1 fun e W'=>
   (e=.returned (.bool true)∧J (pre++[x]) W'∧KT T W1 W')∨(e=.returned (.bool false)∧Jx (pre++[x]) W'))→
  J [] W→
  CallsIn F n P g (#[.func (.yield l) #[] #[]]++lb) W fun e W'=>(∃v,e=.returned v)∧((∃xs,S xs∧J xs W')∨(∃pre,Sp pre∧Jx pre W'))
theorem zp{F:Fence}{n:Nat}{P:Program}{w:World}{α:Type}{T:Nat→Prop}{g:Operand}{ps:Array Tmp}{assign body:Code}{Q:Exit→Act→World→Prop}{a:Act}
  (hro:F.round=none) (h1:1≤n) {gf:Nat} {lb:Array Value} (hg:a.eval g=.func (.func gf) #[] lb) (Tl:F.fn gf) (eg:∀args w,(callFunc gf args).run P w=.ok (.enter gf args) w)
  {encs:α→Array Value} {S Sp:List α→Prop} {V:List α→α→Prop} {w0:World} (hseq:TE T F (n-1) P gf lb encs S Sp V w0)
  (hT:∀k,T k→k<w.heap.size) (de:KT T w0 w) (hps:∀x,(encs x).size=ps.size)
  (I:List α→World→Prop) (Ix:Code→List α→World→Prop) (hI:BK qB w.heap.size fG I) (JQ:∀c,BK qB w.heap.size fG (Ix c)) (h0:I [] w) (a₁:α→Act)
  (hassign:∀(l:Nat) (x:α) (W:World) (K:Act→World→Prop),K (a₁ x) W→
   assign.wpIn (F.inRound l) (n-1-1) P (Exit.then K (fun _ _ _=>False)) {tmps:=(ps.zip (encs x)).foldl (fun t (p,v)=>t.setIfInBounds p v) a.tmps,defers:=[]} W)
  (hbody:∀(l:Nat) (pre:List α) (x:α) (W:World),w.heap.size≤l→l<W.heap.size→I pre W→V pre x→body.wpIn (F.inRound l) (n-1-1) P (ownPostG w.heap.size (KT T) I Ix (pre++[x]) W) (a₁ x) W)
  (hdone:∀(D:Nat) (xs:List α) (W:World),w.heap.size≤D→S xs→I xs W→W.heap[D]?=some (.deferred (some []))→Q .normal {a with defers:={target:=.collected D,args:=#[]}::a.defers} W)
  (hstop:∀(D:Nat) (c:Code) (pre:List α) (W:World),w.heap.size≤D→Sp pre→Ix c pre W→W.heap[D]?=some (.deferred (some []))→c.wpIn F n P Q {a with defers:={target:=.collected D,args:=#[]}::a.defers} W) :
  (Code.rangeFunc g ps assign body).wpIn F n P Q a w:=by
 refine wpIn_rangeFunc fun fn hfn=>?_;rw[hro];obtain⟨rc,hrc⟩:∃rc:LoopState→Option Code→Loop,rc=fun st pe=>{state:=st,pending:=pe,fn,tmps:=a.tmps,params:=ps,assign,body,defers:=w.heap.size}:=⟨_,rfl⟩;have yW:¬T (w.heap.size+1):=fun h=>by have:=hT _ h;omega
 have QO:¬T w.heap.size:=fun h=>by have:=hT _ h;omega
 generalize rO:(w.alloc (.deferred (some []))).alloc (.loop (rc .ready none))=W1;have ij:W1.heap.size=w.heap.size+2:=by rw[←rO];simp
 have MD:W1.heap[w.heap.size+1]?=some (.loop (rc .ready none)):=by
  have:=World.alloc_heap_new (w.alloc (.deferred (some []))) (.loop (rc .ready none));rw[World.size_alloc] at this;rw[←rO];exact this
 have QX:W1.heap[w.heap.size]?=some (.deferred (some [])):=by
  rw[←rO];exact(Below.heap_alloc _ _ _ (by simp)).trans (World.alloc_heap_new w _)
 have JR:I [] W1:=by rw[←rO];exact hI _ _ _ (hI _ _ _ h0 (eL.alloc _ _)) (eL.alloc _ _)
 have BO:KT T w W1:=by rw[←rO];exact KT.aq ((((Below.refl _ w).alloc (aa _) _).alloc (by simp) _)) hT
 refine⟨w.heap.size+1,[{target:=.collected w.heap.size,args:=#[]}],W1,{target:=.fn (.func gf) lb,args:=#[.func (.yield (w.heap.size+1)) #[] #[]]},W1,gf,
  #[.func (.yield (w.heap.size+1)) #[] #[]]++lb,W1,?_,?_,?_,?_,fun _=>h1,?_⟩
 ·rw[←rO,hrc];exact run_enterLoop_outer _ _ _ _ _
 ·simp only[resolve,hg];simp[go_sem]
 ·intro f' hf';simp[Target.leads] at hf';subst hf';exact Tl
 ·simp[invoke,go_sem,eg]
 have turnW:∀{A B:World},eL qB W1.heap.size Obj.isWalk A B→eL qB w.heap.size fG A B:=fun h=>
  ⟨h.os,h.tape,h.output,h.size,fun k o hk ht hp=>h.block k o hk ht (fun hB=>by
   cases hw:o.isWalk with
   |false=>rfl
   |true=>have:=hp (by omega);rw[np hw] at this;cases this)⟩
 have keepL:∀{A B:World} {k:Nat} {o:Obj},eL qB W1.heap.size Obj.isWalk A B→A.heap[k]?=some o→¬T k→o.isWalk=false→B.heap[k]?=some o:=fun h hk _ hw=>h.block _ _ hk (fun h=>h) (fun _=>hw);refine(hseq (w.heap.size+1)
  (fun pre W=>I pre W∧W.heap[w.heap.size+1]?=some (.loop (rc .ready none))∧W.heap[w.heap.size]?=some (.deferred (some [])))
  (fun pre W=>∃c,Ix c pre W∧W.heap[w.heap.size+1]?=some (.loop (rc .done (some c)))∧W.heap[w.heap.size]?=some (.deferred (some [])))
  W1 (de.trans BO) (ae de.1 BO.1)
  (fun s A B hs ht=>⟨hI s A B hs.1 (turnW ht),keepL ht hs.2.1 yW rfl,keepL ht hs.2.2 QO rfl⟩)
  (fun s A B hs ht=>by
   obtain⟨c,hc,hl,hk⟩:=hs;exact⟨c,JQ c s A B hc (turnW ht),keepL ht hl yW rfl,keepL ht hk QO rfl⟩)
  ?_ ⟨JR,MD,QX⟩).mono ?_
 ·rintro pre x W ⟨hi,hl,hk⟩ hlen;have hlt:w.heap.size+1<W.heap.size:=(Array.getElem?_eq_some_iff.1 hl).1;have hy:=run_yield (P:=P) (args:=encs x) hl (by rw[hrc];exact hps x);rw[hrc] at hy;refine⟨fn,_,assign,body,hy,roundIn_of_wpIn hfn (hassign _ x W _ ?_)⟩;clear hy;refine⟨_,run_beginRound hl (by rw[hrc]),?_⟩;generalize AN:W.putObj (w.heap.size+1) (.loop {rc .ready none with state:=.busy})=Wb;have yU:Wb.heap[w.heap.size+1]?=some (.loop {rc .ready none with state:=.busy}):=by rw[←AN];exact World.putObj_heap_same hlt
  have gM:Wb.heap[w.heap.size]?=some (.deferred (some [])):=by rw[←AN];exact(World.putObj_heap_other (by omega)).trans hk
  have xQ:KT T W Wb:=by rw[←AN];exact KT.put _ _ _ yW
  have hib:I pre Wb:=by rw[←AN];exact hI _ _ _ hi (eL.put (by omega) hl rfl)
  refine wpIn_mono (hbody _ pre x Wb (by omega) (by have:=xQ.1;omega) hib hlen) ?_;have fin:∀(jump:Option Code) (W3:World),KeepsFrom w.heap.size Wb W3→
    (Instr.endRound (w.heap.size+1) jump).run P W3=.ok (.bool jump.isNone) (W3.putObj (w.heap.size+1) (.loop (rc (if jump.isNone then .ready else .done) jump)))∧
    W3.heap[w.heap.size+1]?=some (.loop {rc .ready none with state:=.busy})∧
    (W3.putObj (w.heap.size+1) (.loop (rc (if jump.isNone then .ready else .done) jump))).heap[w.heap.size+1]?=some (.loop (rc (if jump.isNone then .ready else .done) jump))∧
    (W3.putObj (w.heap.size+1) (.loop (rc (if jump.isNone then .ready else .done) jump))).heap[w.heap.size]?=some (.deferred (some [])):=fun jump W3 im=>by
   have p8:=im.same _ _ (by omega) yU rfl;have:=run_endRound (P:=P) jump p8;rw[hrc] at this⊢;exact⟨this,by rw[hrc] at p8;exact p8,World.putObj_heap_same (Array.getElem?_eq_some_iff.1 p8).1,(World.putObj_heap_other (by omega)).trans (im.same _ _ (aa _) gM rfl)⟩
  have leave:∀(c:Code) (W3:World),KeepsFrom w.heap.size Wb W3→Ix c (pre++[x]) W3→∃v W4,(Instr.endRound (w.heap.size+1) (some c)).run P W3=.ok (.bool v) W4∧v=false∧∃c',Ix c' (pre++[x]) W4∧W4.heap[w.heap.size+1]?=some (.loop (rc .done (some c')))∧W4.heap[w.heap.size]?=some (.deferred (some [])):=fun c W3 im rj=>by
   obtain⟨hr,p8,Jt,Ju⟩:=fin (some c) W3 im;exact⟨_,_,hr,rfl,c,JQ _ _ _ _ rj (eL.put (by omega) p8 rfl),Jt,Ju⟩
  rintro e a3 W3 hp
  cases e with
  |normal=>
   obtain⟨im,F3,rj⟩:=hp;obtain⟨hr,p8,Jt,Ju⟩:=fin none W3 im;exact⟨_,_,hr,.inl ⟨rfl,⟨hI _ _ _ rj (eL.put (by omega) p8 rfl),Jt,Ju⟩,xQ.trans (F3.trans (KT.put _ _ _ yW))⟩⟩
  |ret=>obtain⟨v,W4,hr,rfl,h⟩:=leave .ret W3 hp.1 hp.2;exact⟨_,_,hr,.inr ⟨rfl,h⟩⟩
  |exit id=>obtain⟨v,W4,hr,rfl,h⟩:=leave (.exit id) W3 hp.1 hp.2;exact⟨_,_,hr,.inr ⟨rfl,h⟩⟩
  |goto t=>obtain⟨v,W4,hr,rfl,h⟩:=leave (.goto t) W3 hp.1 hp.2;exact⟨_,_,hr,.inr ⟨rfl,h⟩⟩
  |panic ch=>exact hp.elim
  |outgrown=>exact hp.elim
 ·rintro e W2 ⟨⟨v,rfl⟩,(⟨xs,hS,hi,hl,hk⟩|⟨pre,S6,c,hi,hl,hk⟩)⟩
  ·exact⟨none,_,by have:=run_endLoop (P:=P) hl (by rw[hrc];simp);rw[hrc] at this;exact this,hdone _ xs _ (aa _) hS (hI _ _ _ hi (eL.put (by omega) hl rfl)) ((World.putObj_heap_other (by omega)).trans hk)⟩
  ·exact⟨some c,_,by have:=run_endLoop (P:=P) hl (by rw[hrc];simp);rw[hrc] at this;exact this,hstop _ c pre _ (aa _) S6 (JQ c _ _ _ hi (eL.put (by omega) hl rfl)) ((World.putObj_heap_other (by omega)).trans hk)⟩
end
section
def SeqB{α:Type}(M:Nat)(F:Fence)(n:Nat)(P:Program)(g:Nat)(lb:Array Value)(encs:α→Array Value)(S Sp:List α→Prop)(V:List α→α→Prop)(w:World):Prop:=
 ∀(l:Nat) (J Jx:List α→World→Prop) (W:World),Below M w W→w.heap.size≤W.heap.size→BK qB W.heap.size Obj.isWalk J→BK qB W.heap.size Obj.isWalk Jx→
  (∀pre x W1,J pre W1→V pre x→YieldAt F (n-1) P l (encs x) W1 fun e W'=>
   (e=.returned (.bool true)∧J (pre++[x]) W'∧Below M W1 W')∨(e=.returned (.bool false)∧Jx (pre++[x]) W'))→
  J [] W→
  CallsIn F n P g (#[.func (.yield l) #[] #[]]++lb) W fun e W'=>(∃v,e=.returned v)∧((∃xs,S xs∧J xs W')∨(∃pre,Sp pre∧Jx pre W'))
end
section
structure En where
 name:ByteArray
 no:Int
 deriving DecidableEq
structure An where
 no:Int
 dev:Int
 kind:Int
 mode:Int
 uid:Int
 gid:Int
 mtime:Int
 ctime:Int
 ak:Int
 up:Int
 data:ByteArray
 au:List En
 deriving DecidableEq
def dD:An:=⟨0,0,0,0,0,0,0,0,0,0,ByteArray.empty,[]⟩
structure Dv where
 root:Int
 aB:Int
 b:Int
 n:Int
 mb:Int
 mn:Int
 deriving DecidableEq
structure Fs where
 ns:List An
 ds:List Dv
 last:Int
 deriving DecidableEq
def gA(a b:ByteArray):Bool:=Op.bytesLess a.data.toList b.data.toList
theorem tu(a b:ByteArray):Op.bytesLess a.toList b.toList=gA a b:=by unfold gA;rw[ByteArray.toList_eq,ByteArray.toList_eq]
theorem qK:∀l:List UInt8,Op.bytesLess l l=false
 | []=>rfl
 |a::l=>by simp[Op.bytesLess,qK l]
theorem tB:∀a b c:List UInt8,Op.bytesLess a b=true→Op.bytesLess b c=true→Op.bytesLess a c=true
 | [],[],_,h,_=>by simp[Op.bytesLess] at h
 | [],_::_,[],_,h=>by simp[Op.bytesLess] at h
 | [],_::_,_::_,_,_=>rfl
 |_::_,[],_,h,_=>by simp[Op.bytesLess] at h
 |_::_,_::_,[],_,h=>by simp[Op.bytesLess] at h
 |x::a,y::b,z::c,h,k=>by
  simp only[Op.bytesLess,Bool.or_eq_true,Bool.and_eq_true,decide_eq_true_eq,beq_iff_eq] at h k⊢;rcases h with h|⟨rfl,h⟩
  ·rcases k with k|⟨rfl,k⟩
   ·exact .inl (UInt8.lt_trans h k)
   ·exact .inl h
  ·rcases k with k|⟨rfl,k⟩
   ·exact .inl k
   ·exact .inr ⟨rfl,tB a b c h k⟩
theorem tC:∀a b:List UInt8,Op.bytesLess a b=false→Op.bytesLess b a=false→a=b
 | [],[],_,_=>rfl
 | [],_::_,h,_=>by simp[Op.bytesLess] at h
 |_::_,[],_,h=>by simp[Op.bytesLess] at h
 |x::a,y::b,h,k=>by
  simp only[Op.bytesLess,Bool.or_eq_false_iff,Bool.and_eq_false_iff,decide_eq_false_iff_not,beq_eq_false_iff_ne] at h k;have hxy:x=y:=by
   have h1:=h.1;have h2:=k.1;rw[UInt8.not_lt] at h1 h2;exact UInt8.le_antisymm h2 h1
  subst hxy;have h1:=h.2.resolve_left (by simp);have h2:=k.2.resolve_left (by simp);rw[tC a b h1 h2]
theorem uw{a b:ByteArray}(h:a.data.toList=b.data.toList):a=b:=by
 cases a;cases b
 simp at h⊢;exact h
theorem eE(a:ByteArray):gA a a=false:=qK _
theorem iF{a b c:ByteArray}(h:gA a b=true)(k:gA b c=true):gA a c=true:=tB _ _ _ h k
theorem jF{a b:ByteArray}(h:gA a b=false)(k:gA b a=false):a=b:=uw (tC _ _ h k)
theorem kF{a b:ByteArray}(h:gA a b=true):gA b a=false:=by
 cases k:gA b a with
 |false=>rfl
 |true=>have:=iF h k;rw[eE] at this;cases this
theorem CG{a b:ByteArray}(h:gA a b=true):a≠b:=by
 rintro rfl;rw[eE] at h
 cases h
def aw(l:List En)(n:ByteArray):Int:=match l.find? (fun x=>decide (x.name=n)) with|some x=>x.no|none=>0
def aV(l:List En)(n:ByteArray)(no:Int):List En:=l.filter (fun x=>gA x.name n)++⟨n,no⟩::l.filter (fun x=>gA n x.name)
def aM(l:List En)(n:ByteArray):List En:=l.filter (fun x=>!decide (x.name=n))
def fL(l:List En):Prop:=l.Pairwise (fun a b=>gA a.name b.name=true)
def dG(l:List En)(n:ByteArray):Nat:=(l.filter (fun x=>gA x.name n)).length
theorem ua(l:List En)(n:ByteArray):dG l n≤l.length:=List.length_filter_le _ _
theorem Fi{l:List En}(h:fL l)(n:ByteArray):l.filter (fun x=>gA x.name n)=l.take (dG l n):=by
 unfold dG
 induction l with
 |nil=>rfl
 |cons x l ih=>
  have hx:=List.pairwise_cons.1 h;by_cases hc:gA x.name n=true
  ·rw[List.filter_cons_of_pos (by simpa using hc),List.length_cons,List.take_succ_cons,←ih hx.2]
  ·rw[List.filter_cons_of_neg (by simpa using hc)];have:l.filter (fun x=>gA x.name n)=[]:=by
    rw[List.filter_eq_nil_iff];intro y hy hyn;exact hc (iF (hx.1 y hy) hyn)
   rw[this];rfl
theorem xw{l:List En}(h:fL l)(n:ByteArray)(k:Nat)(hk:k<l.length):gA l[k].name n=decide (k<dG l n):=by
 unfold dG
 induction l generalizing k with
 |nil=>simp at hk
 |cons x l ih=>
  have hx:=List.pairwise_cons.1 h;by_cases hc:gA x.name n=true
  ·rw[List.filter_cons_of_pos (by simpa using hc),List.length_cons]
   cases k with
   |zero=>simp[hc]
   |succ k=>simpa using ih hx.2 k (by simpa using hk)
  ·rw[List.filter_cons_of_neg (by simpa using hc)];have:l.filter (fun x=>gA x.name n)=[]:=by
    rw[List.filter_eq_nil_iff];intro y hy hyn;exact hc (iF (hx.1 y hy) hyn)
   rw[this]
   cases k with
   |zero=>simpa using hc
   |succ k=>
    have hm:l[k]'(by simpa using hk)∈l:=List.getElem_mem _;simp only[List.getElem_cons_succ,List.length_nil,Nat.not_lt_zero,decide_false]
    cases hq:gA (l[k]'(by simpa using hk)).name n with
    |false=>rfl
    |true=>exact absurd (iF (hx.1 _ hm) hq) hc
theorem mV{l:List En}(h:fL l)(n:ByteArray):l.find? (fun x=>decide (x.name=n))=if hk:dG l n<l.length then(if l[dG l n].name=n then some l[dG l n] else none) else none:=by
 have key:∀(k:Nat) (hk:k<l.length),l[k].name=n→k=dG l n:=by
  intro k hk he;have h1:=xw h n k hk;rw[he,eE] at h1;have h2:¬k<dG l n:=by simpa using h1.symm
  by_cases h3:k=dG l n
  ·exact h3
  ·exfalso;have hlt:dG l n<k:=by omega
   have h4:=List.pairwise_iff_getElem.1 h (dG l n) k (by omega) hk hlt;rw[he] at h4;have h5:=xw h n (dG l n) (by omega);rw[h4] at h5;simp at h5
 split
 ·rename_i hk
  split
  ·rename_i he;rw[List.find?_eq_some_iff_getElem];refine⟨by simpa using he,dG l n,hk,rfl,fun j hj=>?_⟩;simp only[Bool.not_eq_eq_eq_not,Bool.not_true,decide_eq_false_iff_not];intro Ml;have:=key j (by omega) Ml;omega
  ·rename_i he;rw[List.find?_eq_none];intro x hx;simp only[decide_eq_true_eq];intro hxn;obtain⟨j,hj,rfl⟩:=List.mem_iff_getElem.1 hx;have:=key j hj hxn;subst this;exact he hxn
 ·rename_i hk;rw[List.find?_eq_none];intro x hx;simp only[decide_eq_true_eq];intro hxn;obtain⟨j,hj,rfl⟩:=List.mem_iff_getElem.1 hx;have:=key j hj hxn;subst this;exact hk hj
theorem Fj{l:List En}(h:fL l)(n:ByteArray):l.filter (fun x=>gA n x.name)=l.drop (dG l n+(if(∃hk:dG l n<l.length,l[dG l n].name=n) then 1 else 0)):=by
 unfold dG
 induction l with
 |nil=>simp
 |cons x l ih=>
  have hx:=List.pairwise_cons.1 h;by_cases hc:gA x.name n=true
  ·have h1:gA n x.name=false:=kF hc;rw[List.filter_cons_of_neg (by simp[h1])];simp only[List.filter_cons_of_pos (p:=fun x:En=>gA x.name n) (a:=x) (l:=l) (by simpa using hc),List.length_cons];rw[ih hx.2];have:(∃hk:(l.filter fun x=>gA x.name n).length+1<l.length+1,((x::l)[(l.filter fun x=>gA x.name n).length+1]'hk).name=n)↔(∃hk:(l.filter fun x=>gA x.name n).length<l.length,(l[(l.filter fun x=>gA x.name n).length]'hk).name=n):=by
    constructor
    ·rintro⟨hk,he⟩;exact⟨by omega,by simpa using he⟩
    ·rintro⟨hk,he⟩;exact⟨by omega,by simpa using he⟩
   simp only[this];rw[Nat.add_right_comm,List.drop_succ_cons]
  ·have he:l.filter (fun x=>gA x.name n)=[]:=by
    rw[List.filter_eq_nil_iff];intro y hy hyn;exact hc (iF (hx.1 y hy) hyn)
   have hall:∀y∈l,gA n x.name=true∨x.name=n→gA n y.name=true:=by
    rintro y hy (h1|rfl)
    ·exact iF h1 (hx.1 y hy)
    ·exact hx.1 y hy
   have hor:gA n x.name=true∨x.name=n:=by
    cases hq:gA n x.name with
    |true=>exact .inl rfl
    |false=>exact .inr (jF (by simpa using hc) hq)
   have hrest:l.filter (fun x=>gA n x.name)=l:=by
    rw[List.filter_eq_self];intro y hy;exact hall y hy hor
   rw[List.filter_cons_of_neg (p:=fun x:En=>gA x.name n) (by simpa using hc),he];rcases hor with h1|h1
   ·rw[List.filter_cons_of_pos (by simpa using h1),hrest,if_neg]
    ·rfl
    ·rintro⟨hk,he⟩;simp only[List.length_nil,List.getElem_cons_zero] at he;rw[he,eE] at h1
     cases h1
   ·rw[List.filter_cons_of_neg (by rw[h1];simp[eE]),hrest,if_pos ⟨by simp,by simpa using h1⟩];rfl
theorem Cy{l:List En}(h:fL l)(n:ByteArray)(no:Int):aV l n no=l.take (dG l n)++⟨n,no⟩::l.drop (dG l n+(if(∃hk:dG l n<l.length,l[dG l n].name=n) then 1 else 0)):=by
 unfold aV;rw[Fi h,Fj h]
theorem l5{l:List En}(h:fL l)(n:ByteArray)(no:Int):fL (aV l n no):=by
 unfold aV fL;rw[List.pairwise_append];refine⟨List.Pairwise.filter _ h,?_,?_⟩
 ·rw[List.pairwise_cons];refine⟨fun y hy=>?_,List.Pairwise.filter _ h⟩;simpa using (List.mem_filter.1 hy).2
 ·intro a ha b hb;have h1:gA a.name n=true:=by simpa using (List.mem_filter.1 ha).2
  rcases List.mem_cons.1 hb with rfl|hb
  ·exact h1
  ·have h2:gA n b.name=true:=by simpa using (List.mem_filter.1 hb).2
   exact iF h1 h2
def Fs.get(S:Fs)(k:Int):Option An:=S.ns.find? (fun x=>x.no==k)
def Fs.set(S:Fs)(a:An):Fs:={S with ns:=S.ns.map fun x=>if x.no==a.no then a else x}
def Fs.add(S:Fs)(a:An):Fs:={S with ns:=S.ns++[{a with no:=S.last+1}],last:=S.last+1}
def Fs.del(S:Fs)(k:Int):Fs:={S with ns:=S.ns.filter fun x=>!(x.no==k)}
def Fs.root(S:Fs)(d:Int):Int:=if 1≤d∧d≤S.ds.length then(match S.ds[(d-1).toNat]? with|some v=>v.root|none=>0) else 0
def Fs.aB(S:Fs)(k:Int):Int:=if 0<k then(match S.ds.find? (fun d=>d.aB==k) with|some d=>d.root|none=>k) else k
theorem bV{S:Fs}{k:Int}{a:An}(h:S.get k=some a):a.no=k:=by
 have:=List.find?_some h;simpa using this
theorem aO{S:Fs}{k:Int}{a:An}(h:S.get k=some a):a∈S.ns:=List.mem_of_find?_eq_some h
structure eU(S:Fs):Prop where
 dB:(S.ns.map (·.no)).Pairwise (· < ·)
 low:∀x∈S.ns,1≤x.no∧x.no≤S.last
theorem GL{S:Fs}(h:eU S){a:An}(ha:a∈S.ns):S.get a.no=some a:=by
 unfold Fs.get;obtain⟨i,hi,rfl⟩:=List.mem_iff_getElem.1 ha;rw[List.find?_eq_some_iff_getElem];refine⟨by simp,i,hi,rfl,fun j hj=>?_⟩;have:=List.pairwise_iff_getElem.1 h.dB j i (by simp;omega) (by simpa using hi) hj;simp only[List.getElem_map] at this;simp only[Bool.not_eq_eq_eq_not,Bool.not_true,beq_eq_false_iff_ne];omega
theorem fC{S:Fs}{a b:An}(h:S.get a.no=some b)(k:Int):(S.set a).get k=if k=a.no then some a else S.get k:=by
 unfold Fs.get Fs.set at *;simp only;rw[List.find?_map];by_cases hk:k=a.no
 ·subst hk;rw[if_pos rfl];have:((fun x:An=>x.no==a.no) ∘ fun x:An=>if x.no==a.no then a else x)=fun x:An=>x.no==a.no:=by
   funext x;simp only[Function.comp_apply]
   split
   ·rename_i he;rw[he];simp
   ·rfl
  rw[this,h];have hb:b.no=a.no:=by simpa using List.find?_some h
  simp[hb]
 ·rw[if_neg hk];have:((fun x:An=>x.no==k) ∘ fun x:An=>if x.no==a.no then a else x)=fun x:An=>x.no==k:=by
   funext x;simp only[Function.comp_apply]
   split
   ·rename_i he;have:x.no=a.no:=by simpa using he
    rw[this]
   ·rfl
  rw[this]
  cases hf:List.find? (fun x:An=>x.no==k) S.ns with
  |none=>rfl
  |some x=>
   have hx:x.no=k:=by simpa using List.find?_some hf
   simp[hx,hk]
theorem gZ{S:Fs}(h:eU S)(a:An)(k:Int):(S.add a).get k=if k=S.last+1 then some {a with no:=S.last+1} else S.get k:=by
 unfold Fs.get Fs.add;simp only[List.find?_append];by_cases hk:k=S.last+1
 ·subst hk;have:S.ns.find? (fun x=>x.no==S.last+1)=none:=by
   rw[List.find?_eq_none];intro x hx;have:=h.low x hx;simp;omega
  rw[if_pos rfl,this];simp
 ·rw[if_neg hk];have hne:¬S.last+1=k:=fun e=>hk e.symm;simp[hne]
theorem Kn{S:Fs}(a:An):(S.set a).ns.map (·.no)=S.ns.map (·.no):=by
 unfold Fs.set;simp only[List.map_map];apply List.map_congr_left;intro x _;simp only[Function.comp_apply]
 split
 ·rename_i he;simpa using (beq_iff_eq.1 he).symm
 ·rfl
theorem eU.set{S:Fs}(h:eU S)(a:An):eU (S.set a):=by
 refine⟨by rw[Kn];exact h.dB,fun x hx=>?_⟩;have hm:x.no∈(S.set a).ns.map (·.no):=List.mem_map_of_mem hx;rw[Kn] at hm;obtain⟨y,hy,he⟩:=List.mem_map.1 hm;have:=h.low y hy;show 1≤x.no∧x.no≤S.last;omega
theorem eU.add{S:Fs}(h:eU S)(h0:0≤S.last)(a:An):eU (S.add a):=by
 refine⟨?_,fun x hx=>?_⟩
 ·show((S.ns++[_]).map _).Pairwise _;rw[List.map_append,List.pairwise_append];refine⟨h.dB,by simp,fun x hx y hy=>?_⟩;obtain⟨z,hz,rfl⟩:=List.mem_map.1 hx;have:=h.low z hz;simp at hy;omega
 ·show 1≤x.no∧x.no≤S.last+1;rcases List.mem_append.1 hx with hx|hx
  ·have:=h.low x hx;omega
  ·simp at hx;subst hx;simp;omega
end
section
def jl(b n mb mn:Int):Bool:=decide (0≤b∧0≤n∧b≤mb∧n≤mn∧mb≤1073741824∧mn≤65536)
theorem kG(b n mb mn:Int)(w:World) :
  Calls Tryz.prog 183 #[UJ #[UE UL b,UE UL n,UE UL mb,UE UL mn]] w fun e w'=>e=.returned (.bool (jl b n mb mn))∧w.alloc (.cells #[UE UL b,UE UL n,UE UL mb,UE UL mn] 192)=w':=by
 unfold jl;go_enter Tryz.func183,Tryz.ntmps183
 go_wp2
 all_goals (go_ret;simp[*];try omega)
theorem iE(b n mb mn:Int)(w:World) :
  Calls Tryz.prog 208 #[UJ #[UE UL b,UE UL n,UE UL mb,UE UL mn]] w fun e w'=>e=.returned (.bool (jl b n mb mn))∧w.alloc (.cells #[UE UL b,UE UL n,UE UL mb,UE UL mn] 192)=w':=by
 unfold jl;go_enter Tryz.func208,Tryz.ntmps208
 go_wp2
 all_goals (go_ret;simp[*];try omega)
def qE(b n mb mn x y:Int):Bool:=!jl b n mb mn||decide (x < -1073741824)||decide (1073741824<x)||decide (y < -1073741824)||decide (1073741824<y)
def lT(b n mb mn x y:Int):Int:=if qE b n mb mn x y then 1 else if mn<n+y then 15 else if mb<b+x then 14 else if jl (b+x) (n+y) mb mn then 0 else 1
def BM(b n mb mn x y:Int):Int:=if lT b n mb mn x y=0 then b+x else b
def BL(b n mb mn x y:Int):Int:=if lT b n mb mn x y=0 then n+y else n
def KM(b n mb mn x y:Int):Value:=UK #[UJ #[UE UL (BM b n mb mn x y),UE UL (BL b n mb mn x y),UE UL mb,UE UL mn],UE UL (lT b n mb mn x y)]
theorem zC(b n mb mn x y:Int)(hf:jl b n mb mn=true)(h1:-1073741824≤x)(h2:x≤1073741824)(h3:-1073741824≤y)(h4:y≤1073741824):qE b n mb mn x y=false:=by
 unfold qE;simp[hf];omega
theorem kh(b n mb mn x y e:Int)(h:lT b n mb mn x y=e)(he:e≠0):KM b n mb mn x y=UK #[UJ #[UE UL b,UE UL n,UE UL mb,UE UL mn],UE UL e]:=by
 unfold KM BM BL;rw[h];simp[he]
theorem B8(b n mb mn x y:Int)(h:lT b n mb mn x y=0):KM b n mb mn x y=UK #[UJ #[UE UL (b+x),UE UL (n+y),UE UL mb,UE UL mn],UE UL 0]:=by
 unfold KM BM BL;rw[h];simp
theorem sm(b n mb mn x y:Int)(w:World) :
  Calls Tryz.prog 148 #[UJ #[UE UL b,UE UL n,UE UL mb,UE UL mn],UE UL x,UE UL y] w fun e w'=>e=.returned (KM b n mb mn x y)∧UA w w':=by
 by_cases hf:jl b n mb mn=true
 ·have hf':=hf;unfold jl at hf';simp only[decide_eq_true_eq] at hf';obtain⟨f1,f2,f3,f4,f5,f6⟩:=hf';by_cases hx:x < -1073741824∨1073741824<x∨y < -1073741824∨1073741824<y
  ·have hv:=kh b n mb mn x y 1 (by unfold lT qE;rw[if_pos];simp;omega) (by decide);have Hv:=Ux hv;clear hv;have hd:(decide (x < -1073741824)||decide (1073741824<x)||decide (y < -1073741824)||decide (1073741824<y))=true:=by simp;omega
   go_enter Tryz.func148,Tryz.ntmps148;go_wp2_with (go_at_call 183;refine(kG _ _ _ _ _).mono ?_;rintro e w' ⟨rfl,rfl⟩)
   all_goals (first|(exfalso;omega)|(go_returns;exact⟨by rw[Hv.o],by go_grown⟩))
  ·obtain⟨x1,x2,y1,y2⟩:-1073741824≤x∧x≤1073741824∧-1073741824≤y∧y≤1073741824:=by omega
   clear hx;have Hb:=Ux (zC b n mb mn x y hf x1 x2 y1 y2);by_cases g1:mn<n+y
   ·have Hv:=Ux (kh b n mb mn x y 15 (by unfold lT;rw[Hb.o];simp[g1]) (by decide));go_enter Tryz.func148,Tryz.ntmps148;go_wp2_with (go_at_call 183;refine(kG _ _ _ _ _).mono ?_;rintro e w' ⟨rfl,rfl⟩)
    go_returns;exact⟨by rw[Hv.o],by go_grown⟩
   ·by_cases g2:mb<b+x
    ·have Hv:=Ux (kh b n mb mn x y 14 (by unfold lT;rw[Hb.o];simp[g1,g2]) (by decide));go_enter Tryz.func148,Tryz.ntmps148;go_wp2_with (go_at_call 183;refine(kG _ _ _ _ _).mono ?_;rintro e w' ⟨rfl,rfl⟩)
     go_returns;exact⟨by rw[Hv.o],by go_grown⟩
    ·by_cases g3:jl (b+x) (n+y) mb mn=true
     ·have Hv:=Ux (B8 b n mb mn x y (by unfold lT;rw[Hb.o];simp[g1,g2,g3]));go_enter Tryz.func148,Tryz.ntmps148;go_wp2_with (go_at_call 183;refine(kG _ _ _ _ _).mono ?_;rintro e w' ⟨rfl,rfl⟩)
      go_returns;exact⟨by rw[Hv.o],by go_grown⟩
     ·have Hv:=Ux (kh b n mb mn x y 1 (by unfold lT;rw[Hb.o];simp[g1,g2,g3]) (by decide));simp only[Bool.not_eq_true] at g3;go_enter Tryz.func148,Tryz.ntmps148;go_wp2_with (go_at_call 183;refine(kG _ _ _ _ _).mono ?_;rintro e w' ⟨rfl,rfl⟩)
      go_returns;exact⟨by rw[Hv.o],by go_grown⟩
 ·simp only[Bool.not_eq_true] at hf;have Hv:=Ux (kh b n mb mn x y 1 (by unfold lT qE;simp[hf]) (by decide));go_enter Tryz.func148,Tryz.ntmps148;go_wp2_with (go_at_call 183;refine(kG _ _ _ _ _).mono ?_;rintro e w' ⟨rfl,rfl⟩)
  go_returns;exact⟨by rw[Hv.o],by go_grown⟩
end
end Go.Proofs.YtabbjaomlmnnhaaGreat
