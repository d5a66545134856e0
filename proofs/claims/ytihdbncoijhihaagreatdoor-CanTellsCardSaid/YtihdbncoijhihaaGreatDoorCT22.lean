import Derived.Test.YtihdbncoijhihaaGreatDoorCT8
import Derived.Test.YtihdbncoijhihaaGreatDoorCT10
import Derived.Test.YtihdbncoijhihaaGreatDoorCT12
set_option linter.unusedVariables false
set_option linter.unusedSimpArgs false
namespace Go.Proofs.YtihdbncoijhihaaGreatDoor
open Go.RowKit
theorem row_cells {α : Type} {enc : α→List Value} {w : World} {base sz n : Nat} {e : TypeId} {v : Value} {ys : List α} (hpos : 0 < sz) (hl : ∀ x,(enc x).length=sz) (h : w.ownsRow base e sz v n (ys.flatMap enc)) (hn : 0 < n) :
  ∃ g cap,v=.slice (some ⟨g,0,none⟩) n cap∧ys.length=n∧n≤cap∧cap≤9223372036854775807∧base≤g∧g < w.heap.size∧
   (∀ (i : Nat) (hi : i < ys.length) (j : Nat) (hj : j < sz),w.cell? ⟨g,i * sz + j,none⟩=some ((enc ys[i])[j]'(by rw [hl];exact hj)))∧∃ cur,Blk w g cur e:=by
 obtain⟨a,cap,rfl,hle,h63,hf⟩:=own_form h
 rcases hf with ⟨-,h1,-⟩ | ⟨g,rfl,hb,hg⟩
 ·omega
 ·obtain ⟨hy,-,-,h1 | ⟨b,off,he,hb2,hel⟩⟩:=own_slice (R:=fun cs x=>cs=enc x) hpos hl (fun _=>rfl) h
  ·omega
  ·injection he with he
   injection he with e1 e2
   subst e1 e2
   obtain⟨cur,hcur⟩ : ∃ cur,Blk w g cur e:=by
    rcases h.2 with ⟨h1,-⟩ | ⟨g',cap',cur,h1,-,hg',-⟩
    ·cases h1
    ·injection h1 with h1
     injection h1 with h1
     injection h1 with h1
     subst h1
     exact⟨cur,hg'⟩
   refine ⟨g,cap,rfl,hy,hle,h63,hb,hg,fun i hi j hj=>?_,cur,hcur⟩
   obtain⟨cs,h2,h3,h4⟩:=hel i hi
   subst h3
   have:=h4 j (by rw [hl];exact hj)
   rw [Nat.zero_add] at this
   exact this
def Gn.cs (g : Gn) : List Value:=[.int .i64 g.a.no,.int .i64 g.a.dev,.int .i64 g.a.kind,.int .i64 g.a.mode,.int .i64 g.a.uid,.int .i64 g.a.gid,.int .i64 g.a.mtime,.int .i64 g.a.ctime,.int .i64 g.a.links,.int .i64 g.a.up,.string g.a.data,.slice g.ea g.el g.ec]
theorem Gn.cs_len (g : Gn) : g.cs.length=12:=rfl
structure Rf where
 nv : Value
 dv : Value
 G : List Gn
 now : Int
 cnt : Value
 pl : Value
 dd : Value
def Rf.F (R : Rf) (pf k : Nat) : Prop:=k=pf∨R.nv.ownBlock=some k∨R.dv.ownBlock=some k
structure RfAt (w : World) (pf : Nat) (R : Rf) (S : Fs) : Prop where
 blk : Blk w pf #[R.nv,R.dv,.int .i64 S.last,.int .i64 R.now,R.cnt,R.pl,R.dd] 44
 nds : w.ownsRow 0 109 12 R.nv R.G.length (R.G.flatMap Gn.cs)
 devs : w.ownsRow 0 170 6 R.dv S.ds.length (S.ds.flatMap Dv.cs)
 ns : S.ns=R.G.map (·.a)
 ents : ∀ g ∈ R.G,EntsAt w g.ea g.el g.ec g.a.ents
def rfKind (o : Obj) : Bool:=match o with
 | .cells _ t _=>t == 44 || t == 109 || t == 170
 | _=>false
section
variable {w w' : World} {pf : Nat} {R : Rf} {S : Fs}
theorem RfAt.kind (h : RfAt w pf R S) {k : Nat} (hk : R.F pf k) : ∃ o,w.heap[k]? = some o∧rfKind o=true:=by
 rcases hk with rfl | hk | hk
 ·exact ⟨_,h.blk,rfl⟩
 ·obtain ⟨-,cur,hc⟩:=own_obj1 h.nds hk
  exact⟨_,hc,rfl⟩
 ·obtain ⟨-,cur,hc⟩:=own_obj1 h.devs hk
  exact⟨_,hc,rfl⟩
theorem RfAt.lt (h : RfAt w pf R S) {k : Nat} (hk : R.F pf k) : k < w.heap.size:=by
 obtain⟨o,ho,-⟩:=h.kind hk
 exact (Array.getElem?_eq_some_iff.1 ho).1
theorem EntsAt.rf {a : Option Addr} {n c : Nat} {es : List En} (he : EntsAt w a n c es) (h : RfAt w pf R S) {F' : Nat→Prop} (hs : Stp (R.F pf) F' w w') : EntsAt w' a n c es:=
 he.turn (fun b cur hc=>hs.mod.block b (Array.getElem?_eq_some_iff.1 hc).1 (fun hk=>by
  obtain⟨o,ho,hd⟩:=h.kind hk
  rw [hc] at ho
  injection ho with ho
  subst ho
  rw [show rfKind (.cells cur 113 (0,0))=false from rfl] at hd
  cases hd)) hs.mod.size
theorem Blk.rf {B : Nat} {vs : Array Value} {T : TypeId} (hb : Blk w B vs T) (h : RfAt w pf R S) {F' : Nat→Prop} (hs : Stp (R.F pf) F' w w') (hT : rfKind (.cells #[] T (0,0))=false) : Blk w' B vs T:=
 hb.mod hs.mod (fun hk=>by
  obtain⟨o,ho,hd⟩:=h.kind hk
  unfold Blk at hb
  rw [hb] at ho
  injection ho with ho
  subst ho
  rw [show rfKind (.cells vs T (0,0))=rfKind (.cells #[] T (0,0)) from rfl,hT] at hd
  cases hd)
theorem own_turn {base sz n : Nat} {e : TypeId} {v : Value} {xs : List Value} (h : w.ownsRow base e sz v n xs) (ht : ∀ k,v.ownBlock=some k→w'.heap[k]? = w.heap[k]?) : w'.ownsRow base e sz v n xs:=
 ⟨h.1,h.2.imp id fun ⟨g,cap,cur,h1,h2,hg,h3⟩=>⟨g,cap,cur,h1,h2,(ht g (by rw [h1];rfl)).trans hg,h3⟩⟩
theorem RfAt.turn (h : RfAt w pf R S) (ht : ∀ k,R.F pf k→w'.heap[k]? = w.heap[k]?) (he : ∀ (b : Nat) (cur : Array Value),w.heap[b]? = some (.cells cur 113 (0,0))→w'.heap[b]? = w.heap[b]?) (hs : w.heap.size≤w'.heap.size) : RfAt w' pf R S where
 blk:=(ht _ (.inl rfl)).trans h.blk
 nds:=own_turn h.nds (fun k hk=>ht k (.inr (.inl hk)))
 devs:=own_turn h.devs (fun k hk=>ht k (.inr (.inr hk)))
 ns:=h.ns
 ents:=fun g hg=>(h.ents g hg).turn he hs
theorem RfAt.keep (h : RfAt w pf R S) (hb : Below w.heap.size w w') : RfAt w' pf R S:=
 h.turn (fun k hk=>hb.block k (h.lt hk)) (fun b cur hc=>hb.block b (Array.getElem?_eq_some_iff.1 hc).1) hb.size
theorem RfAt.mod (h : RfAt w pf R S) {F : Nat→Prop} (hm : Mod F w w') (hF : ∀ (k : Nat) (o : Obj),F k→w.heap[k]? = some o→rfKind o=false∧∀ cur,o≠.cells cur 113 (0,0)) : RfAt w' pf R S:=
 h.turn (fun k hk=>hm.block k (h.lt hk) (fun hf=>by
  obtain⟨o,ho,hd⟩:=h.kind hk
  rw [(hF k o hf ho).1] at hd
  cases hd)) (fun b cur hc=>hm.block b (Array.getElem?_eq_some_iff.1 hc).1 (fun hf=>(hF b _ hf hc).2 cur rfl)) hm.size
theorem RfAt.len (h : RfAt w pf R S) : S.ns.length=R.G.length:=by rw [h.ns,List.length_map]
theorem rget_G (h : RfAt w pf R S) (k : Int) : S.get k=(R.G.find? (fun g=>g.a.no == k)).map (·.a):=by
 unfold Fs.get
 rw [h.ns,List.find?_map]
 rfl
def placeN (G : List Gn) (no : Int) : Int:=match G.findIdx? (fun g=>g.a.no == no) with | some i=>i | none=>-1
theorem placeN_yes {G : List Gn} {no : Int} {i : Nat} (hi : i < G.length) (h1 : G[i].a.no=no) (h2 : ∀ j (hj : j < G.length),j < i→G[j].a.no≠no) : placeN G no=i:=by
 unfold placeN
 rw [show G.findIdx? (fun g=>g.a.no == no)=some i from List.findIdx?_eq_some_iff_getElem.2 ⟨hi,by simpa using h1,fun j hj=>by simpa using h2 j (by omega) hj⟩]
theorem placeN_no {G : List Gn} {no : Int} (h2 : ∀ j (hj : j < G.length),G[j].a.no≠no) : placeN G no=-1:=by
 unfold placeN
 rw [show G.findIdx? (fun g=>g.a.no == no)=none from List.findIdx?_eq_none_iff.2 (fun g hg=>by
  obtain⟨j,hj,rfl⟩:=List.mem_iff_getElem.1 hg
  simpa using h2 j hj)]
theorem place_get (h : RfAt w pf R S) (k : Int) : (∃ (i : Nat) (hi : i < R.G.length),placeN R.G k=i∧S.get k=some R.G[i].a∧R.G[i].a.no=k)∨(placeN R.G k=-1∧S.get k=none):=by
 rw [rget_G h]
 unfold placeN
 cases hf : R.G.findIdx? (fun g=>g.a.no == k) with
 | some i=>
  obtain⟨hi,h1,h2⟩:=List.findIdx?_eq_some_iff_getElem.1 hf
  left
  refine ⟨i,hi,rfl,?_,by simpa using h1⟩
  rw [show R.G.find? (fun g=>g.a.no == k)=some R.G[i] from List.find?_eq_some_iff_getElem.2 ⟨h1,i,hi,rfl,fun j hj=>by simpa using h2 j hj⟩]
  rfl
 | none=>
  right
  refine ⟨rfl,?_⟩
  rw [List.findIdx?_eq_none_iff] at hf
  rw [show R.G.find? (fun g=>g.a.no == k)=none from List.find?_eq_none.2 (fun g hg=>by simpa using hf g hg)]
  rfl
structure NdC (w : World) (g o : Nat) (a : An) (ea : Option Addr) (el ec : Nat) : Prop where
 c0 : w.cell? ⟨g,o,none⟩=some (.int .i64 a.no)
 c1 : w.cell? ⟨g,o + 1,none⟩=some (.int .i64 a.dev)
 c2 : w.cell? ⟨g,o + 2,none⟩=some (.int .i64 a.kind)
 c3 : w.cell? ⟨g,o + 3,none⟩=some (.int .i64 a.mode)
 c4 : w.cell? ⟨g,o + 4,none⟩=some (.int .i64 a.uid)
 c5 : w.cell? ⟨g,o + 5,none⟩=some (.int .i64 a.gid)
 c6 : w.cell? ⟨g,o + 6,none⟩=some (.int .i64 a.mtime)
 c7 : w.cell? ⟨g,o + 7,none⟩=some (.int .i64 a.ctime)
 c8 : w.cell? ⟨g,o + 8,none⟩=some (.int .i64 a.links)
 c9 : w.cell? ⟨g,o + 9,none⟩=some (.int .i64 a.up)
 c10 : w.cell? ⟨g,o + 10,none⟩=some (.string a.data)
 c11 : w.cell? ⟨g,o + 11,none⟩=some (.slice ea el ec)
theorem RfAt.nodeF (h : RfAt w pf R S) (hn : 0 < R.G.length) : ∃ g cap,R.nv=.slice (some ⟨g,0,none⟩) R.G.length cap∧R.G.length≤cap∧cap≤9223372036854775807∧g < w.heap.size∧
  (∀ (i : Nat) (hi : i < R.G.length),NdC w g (i * 12) R.G[i].a R.G[i].ea R.G[i].el R.G[i].ec)∧(∀ i,w.frozen? ⟨g,i,none⟩=false)∧∃ cur,Blk w g cur 109:=by
 obtain⟨g,cap,hv,-,h1,h2,-,h3,h4,cur,h5⟩:=row_cells (by omega) Gn.cs_len h.nds hn
 exact⟨g,cap,hv,h1,h2,h3,fun i hi=>⟨h4 i hi 0 (by omega),h4 i hi 1 (by omega),h4 i hi 2 (by omega),h4 i hi 3 (by omega),h4 i hi 4 (by omega),h4 i hi 5 (by omega),h4 i hi 6 (by omega),h4 i hi 7 (by omega),h4 i hi 8 (by omega),h4 i hi 9 (by omega),h4 i hi 10 (by omega),h4 i hi 11 (by omega)⟩,h5.frozen,cur,h5⟩
theorem RfAt.devF (h : RfAt w pf R S) (hd : 0 < S.ds.length) : ∃ g cap,R.dv=.slice (some ⟨g,0,none⟩) S.ds.length cap∧S.ds.length≤cap∧cap≤9223372036854775807∧g < w.heap.size∧
  (∀ (i : Nat) (hi : i < S.ds.length),DvC w g (i * 6) S.ds[i])∧(∀ i,w.frozen? ⟨g,i,none⟩=false)∧∃ cur,Blk w g cur 170:=by
 obtain⟨g,cap,hv,-,h1,h2,-,h3,h4,cur,h5⟩:=row_cells (by omega) Dv.cs_len h.devs hd
 exact⟨g,cap,hv,h1,h2,h3,fun i hi=>⟨h4 i hi 0 (by omega),h4 i hi 1 (by omega),h4 i hi 2 (by omega),h4 i hi 3 (by omega),h4 i hi 4 (by omega),h4 i hi 5 (by omega)⟩,h5.frozen,cur,h5⟩
theorem RfAt.nform (h : RfAt w pf R S) : ∃ a c,R.nv=.slice a R.G.length c∧R.G.length≤c∧c≤9223372036854775807:=by
 obtain⟨a,c,h1,h2,h3,-⟩:=own_form h.nds
 exact⟨a,c,h1,h2,h3⟩
theorem RfAt.dform (h : RfAt w pf R S) : ∃ a c,R.dv=.slice a S.ds.length c∧S.ds.length≤c∧c≤9223372036854775807:=by
 obtain⟨a,c,h1,h2,h3,-⟩:=own_form h.devs
 exact⟨a,c,h1,h2,h3⟩
end
def Fs.getZ (S : Fs) (k : Int) : An:=(S.get k).getD an0
theorem getZ_some {S : Fs} {k : Int} {a : An} (h : S.get k=some a) : S.getZ k=a:=by unfold Fs.getZ;rw [h];rfl
theorem getZ_none {S : Fs} {k : Int} (h : S.get k=none) : S.getZ k=an0:=by unfold Fs.getZ;rw [h];rfl
end Go.Proofs.YtihdbncoijhihaaGreatDoor
namespace Go.Proofs.YtihdbncoijhihaaGreatDoor
open Go.RowKit
section
variable {w w' : World} {pf : Nat} {R : Rf} {S : Fs}
set_option maxRecDepth 100000 in
set_option maxHeartbeats 1000000 in
theorem rat_any (h : RfAt w pf R S) (no : Int) :
  Calls Tryz.prog 113 #[.pointer (some ⟨pf,0,none⟩),.int .i64 no] w fun e w'=>e=.returned (.int .i64 (placeN R.G no))∧Below w.heap.size w w':=by
 have HW:=Lib.hid h
 obtain⟨na,nc,hnv,hn1,hn2⟩:=h.nform
 have HNv:=Lib.hid hnv
 have HY:=Lib.hid (fun i (hi : i < R.G.length)=>placeN_yes (G:=R.G) (no:=no) hi)
 have HN:=Lib.hid (placeN_no (G:=R.G) (no:=no))
 generalize placeN R.G no=out at HY HN ⊢
 obtain⟨n,hn⟩ : ∃ n,R.G.length=n:=⟨_,rfl⟩
 have HNn:=Lib.hid hn
 rw [hn] at hnv hn1
 obtain⟨pc,-,pz⟩:=h.blk.facts
 rw [hnv] at pc
 clear h hnv hn
 go_enter Tryz.func113,Tryz.ntmps113
 go_wp2_with fail
 go_loopw [5] (fun t5 wr=>∃ k : Nat,k≤n∧t5=.int .i64 k∧(∀ j (hj : j < R.G.length),j < k→R.G[j].a.no≠no)∧Below w.heap.size w wr) (fun t5 _=>n - (intOf t5).toNat)
 case atStart=>exact ⟨0,Nat.zero_le _,rfl,fun j _ h=>absurd h (Nat.not_lt_zero _),Below.refl _ _⟩
 case round=>
  obtain⟨k,hk,rfl,hno,hb⟩:=hrel
  have HNo:=Lib.hid hno
  have HB:=Lib.hid hb
  have pc2:=fun i=>(hb.cell (p:=⟨pf,i,none⟩) pz).trans (pc i)
  clear hno
  by_cases hlt : k < n
  ·have hkl : k < R.G.length:=by rw [HNn.out];exact hlt
   obtain⟨g,cap,hnv,-,-,hg,hc,-,-⟩:=(HW.out.keep hb).nodeF (by omega)
   have he:=HNv.out.symm.trans hnv
   injection he with he1 he2 he3
   subst he1
   have c0:=(hc k hkl).c0
   have HYk:=Lib.hid (HY.out k hkl)
   clear hc hnv hb he2 he3
   by_cases hq : R.G[k].a.no=no
   ·have HR:=Lib.hid (HYk.out hq (fun j hj hjk=>HNo.out j hj hjk))
    have hqb : (R.G[k].a.no == no)=true:=by simpa using hq
    generalize R.G[k].a.no=x at c0 hqb
    clear hq
    go_wp2_with fail
    go_ret
    exact⟨by rw [HR.out];rfl,HB.out⟩
   ·have hqb : (R.G[k].a.no == no)=false:=by simpa using hq
    have HNo2:=Lib.hid (show ∀ j (hj : j < R.G.length),j < k + 1→R.G[j].a.no≠no from fun j hj hjk=>by
     by_cases e : j=k
     ·subst e;exact hq
     ·exact HNo.out j hj (by omega))
    generalize R.G[k].a.no=x at c0 hqb
    clear hq
    go_wp2_with fail
    go_roundw
    case rel=>exact ⟨k + 1,by omega,by go_num,HNo2.out,HB.out⟩
    case measure=>simp [intOf];omega
  ·obtain rfl : k=n:=by omega
   have HR:=Lib.hid (HN.out (fun j hj=>HNo.out j hj (by rw [← HNn.out];exact hj)))
   clear hb
   go_wp2_with fail
   go_ret
   exact⟨by rw [HR.out];rfl,HB.out⟩
theorem rget_results {tmps : Array Value} {W : World} {B : Nat} {a : An} {ea : Option Addr} {el ec : Nat} (hb : Blk W B #[.int .i64 a.no,.int .i64 a.dev,.int .i64 a.kind,.int .i64 a.mode,.int .i64 a.uid,.int .i64 a.gid,.int .i64 a.mtime,.int .i64 a.ctime,.int .i64 a.links,.int .i64 a.up,.string a.data,.slice ea el ec] 109) (h4 : tmps.getD 4 undef=.pointer (some ⟨B,0,none⟩)) :
  (results Tryz.f46 tmps).run Tryz.prog W=.ok (a.v ea el ec) W:=by
 obtain⟨q0,q1,q2,q3,q4,q5,q6,q7,q8,q9,q10,q11⟩:=hb.cells12
 rw [Array.getD_eq_getD_getElem?] at h4
 simp [results,Tryz.results46,go_sem,h4,q0,q1,q2,q3,q4,q5,q6,q7,q8,q9,q10,q11,An.v]
set_option maxRecDepth 100000 in
set_option maxHeartbeats 1000000 in
theorem rget_at (h : RfAt w pf R S) {k : Int} {i : Nat} (hi : i < R.G.length) (hp : placeN R.G k=i) :
  Calls Tryz.prog 46 #[.pointer (some ⟨pf,0,none⟩),.int .i64 k] w fun e w'=>e=.returned (R.G[i].a.v R.G[i].ea R.G[i].el R.G[i].ec)∧Below w.heap.size w w':=by
 have HAt:=Lib.hid (rat_any (h.keep ((Below.refl _ w).alloc (Nat.le_refl _) (.cells #[.int .i64 0,.int .i64 0,.int .i64 0,.int .i64 0,.int .i64 0,.int .i64 0,.int .i64 0,.int .i64 0,.int .i64 0,.int .i64 0,.string ByteArray.empty,.slice none 0 0] 109))) k)
 rw [hp] at HAt
 obtain⟨na,nc,hnv,hn1,hn2⟩:=h.nform
 obtain⟨g,cap,hnv,-,-,hgl,hc,-,-⟩:=h.nodeF (by omega)
 obtain⟨c0,c1,c2,c3,c4,c5,c6,c7,c8,c9,c10,c11⟩:=hc i hi
 obtain⟨pc,-,pz⟩:=h.blk.facts
 rw [hnv] at pc
 obtain⟨n,hn⟩ : ∃ n,R.G.length=n:=⟨_,rfl⟩
 rw [hn] at pc hn1
 have hin : i < n:=by omega
 have hb0:=balloc (Below.refl w.heap.size w) (.cells #[.int .i64 0,.int .i64 0,.int .i64 0,.int .i64 0,.int .i64 0,.int .i64 0,.int .i64 0,.int .i64 0,.int .i64 0,.int .i64 0,.string ByteArray.empty,.slice none 0 0] 109)
 have hq0:=Blk.new w #[.int .i64 0,.int .i64 0,.int .i64 0,.int .i64 0,.int .i64 0,.int .i64 0,.int .i64 0,.int .i64 0,.int .i64 0,.int .i64 0,.string ByteArray.empty,.slice none 0 0] 109
 unfold An.v
 generalize R.G[i].a=a at *
 generalize R.G[i].ea=ea at *
 generalize R.G[i].el=el at *
 generalize R.G[i].ec=ec at *
 have HC:=Lib.hid (fun w1 (hb : Below w.heap.size w w1)=>And.intro (hb.cell (p:=⟨g,i * 12,none⟩) hgl) (fun j=>hb.cell (p:=⟨g,i * 12 + j,none⟩) hgl))
 have HQ0:=Lib.hid hq0
 have HB0:=Lib.hid hb0
 clear h hnv hc hi hn hp hq0 hb0
 go_enter Tryz.func46,Tryz.ntmps46
 go_wp2_with fail
 refine HAt.out.mono ?_
 rintro e w1 ⟨rfl,hb1⟩
 have hq1:=HQ0.out.keep hb1
 have hb2:=bnext HB0.out hb1
 have HQ1:=Lib.hid hq1
 have HB2:=Lib.hid hb2
 obtain⟨q0,qf,qz⟩:=hq1.facts
 have pc2:=fun i=>(hb2.cell (p:=⟨pf,i,none⟩) pz).trans (pc i)
 obtain⟨d0,dd⟩:=HC.out w1 hb2
 rw [← d0] at c0
 rw [← dd 1] at c1
 rw [← dd 2] at c2
 rw [← dd 3] at c3
 rw [← dd 4] at c4
 rw [← dd 5] at c5
 rw [← dd 6] at c6
 rw [← dd 7] at c7
 rw [← dd 8] at c8
 rw [← dd 9] at c9
 rw [← dd 10] at c10
 rw [← dd 11] at c11
 clear hq1 hb1 hb2 d0 dd pc
 go_wp2_with fail
 exact bodyPost_ret (rget_results (a:=a) (ea:=ea) (el:=el) (ec:=ec) HQ1.out.set12 rfl) rfl ⟨rfl,below_set12 HB2.out (Nat.le_refl _)⟩
theorem rget_fix (h : RfAt w pf R S) {k : Int} {a : An} (hg : S.get k=some a) : ∃ ea el ec,EntsAt w ea el ec a.ents∧∀ w1,Below w.heap.size w w1→
  Calls Tryz.prog 46 #[.pointer (some ⟨pf,0,none⟩),.int .i64 k] w1 fun e w'=>e=.returned (a.v ea el ec)∧Below w1.heap.size w1 w':=by
 rcases place_get h k with ⟨i,hi,hp,hg2,-⟩ | ⟨-,hg2⟩
 ·rw [hg] at hg2
  injection hg2 with hg2
  subst hg2
  exact⟨R.G[i].ea,R.G[i].el,R.G[i].ec,h.ents _ (List.getElem_mem hi),fun w1 hb=>rget_at (h.keep hb) hi hp⟩
 ·rw [hg] at hg2;cases hg2
theorem rget_yes (h : RfAt w pf R S) {k : Int} {a : An} (hg : S.get k=some a) : ∃ ea el ec,EntsAt w ea el ec a.ents∧
  Calls Tryz.prog 46 #[.pointer (some ⟨pf,0,none⟩),.int .i64 k] w fun e w'=>e=.returned (a.v ea el ec)∧Below w.heap.size w w':=by
 obtain⟨ea,el,ec,he,hG⟩:=rget_fix h hg
 exact⟨ea,el,ec,he,hG w (Below.refl _ _)⟩
set_option maxRecDepth 100000 in
set_option maxHeartbeats 1000000 in
theorem rget_no (h : RfAt w pf R S) {k : Int} (hg : S.get k=none) :
  Calls Tryz.prog 46 #[.pointer (some ⟨pf,0,none⟩),.int .i64 k] w fun e w'=>e=.returned (an0.v none 0 0)∧Below w.heap.size w w':=by
 rcases place_get h k with ⟨i,hi,hp,hg2,hno⟩ | ⟨hp,-⟩
 ·rw [hg] at hg2;cases hg2
 ·have HAt:=Lib.hid (rat_any (h.keep ((Below.refl _ w).alloc (Nat.le_refl _) (.cells #[.int .i64 0,.int .i64 0,.int .i64 0,.int .i64 0,.int .i64 0,.int .i64 0,.int .i64 0,.int .i64 0,.int .i64 0,.int .i64 0,.string ByteArray.empty,.slice none 0 0] 109))) k)
  rw [hp] at HAt
  have HB0:=Lib.hid (balloc (Below.refl w.heap.size w) (.cells #[.int .i64 0,.int .i64 0,.int .i64 0,.int .i64 0,.int .i64 0,.int .i64 0,.int .i64 0,.int .i64 0,.int .i64 0,.int .i64 0,.string ByteArray.empty,.slice none 0 0] 109))
  have HQ0:=Lib.hid (Blk.new w #[.int .i64 0,.int .i64 0,.int .i64 0,.int .i64 0,.int .i64 0,.int .i64 0,.int .i64 0,.int .i64 0,.int .i64 0,.int .i64 0,.string ByteArray.empty,.slice none 0 0] 109)
  clear h hg hp
  go_enter Tryz.func46,Tryz.ntmps46
  go_wp2_with fail
  refine HAt.out.mono ?_
  rintro e w1 ⟨rfl,hb1⟩
  have hq1:=HQ0.out.keep hb1
  have HQ1:=Lib.hid hq1
  have HB2:=Lib.hid (bnext HB0.out hb1)
  obtain⟨q0,qf,qz⟩:=hq1.facts
  clear hq1 hb1
  go_wp2_with fail
  exact bodyPost_ret (rget_results (a:=an0) (ea:=none) (el:=0) (ec:=0) HQ1.out.set12 rfl) rfl ⟨rfl,below_set12 HB2.out (Nat.le_refl _)⟩
end
end Go.Proofs.YtihdbncoijhihaaGreatDoor
namespace Go.Proofs.YtihdbncoijhihaaGreatDoor
open Go.RowKit
structure Rf.Like (R R' : Rf) : Prop where
 now : R'.now=R.now
 cnt : R'.cnt=R.cnt
 pl : R'.pl=R.pl
 dd : R'.dd=R.dd
theorem Rf.Like.refl (R : Rf) : Rf.Like R R:=⟨rfl,rfl,rfl,rfl⟩
theorem Rf.Like.trans {A B C : Rf} (h : Rf.Like A B) (k : Rf.Like B C) : Rf.Like A C:=⟨k.now.trans h.now,k.cnt.trans h.cnt,k.pl.trans h.pl,k.dd.trans h.dd⟩
theorem map_put {S : Fs} (hn : Nums S) {G : List Gn} (hG : S.ns=G.map (·.a)) {i : Nat} (hi : i < G.length) {a : An} (hno : G[i].a.no=a.no) {y : Gn} (hy : y.a=a) : (S.set a).ns=(G.set i y).map (·.a):=by
 have hr:=hn.rise
 rw [hG] at hr
 show (S.ns.map _)=_
 rw [hG]
 apply List.ext_getElem
 ·simp
 ·intro j h1 h2
  have hj : j < G.length:=by simpa using h1
  simp only [List.getElem_map,List.getElem_set]
  by_cases hij : i=j
  ·subst hij
   rw [if_pos rfl,hno]
   simp [hy]
  ·rw [if_neg hij,if_neg]
   have key:=List.pairwise_iff_getElem.1 hr
   simp only [List.length_map,List.getElem_map] at key
   simp only [beq_iff_eq]
   rcases Nat.lt_or_gt_of_ne hij with h | h
   ·have:=key i j (by simpa using hi) (by simpa using hj) h
    omega
   ·have:=key j i (by simpa using hj) (by simpa using hi) h
    omega
theorem putRow12 (w : World) (g o : Nat) (v0 v1 v2 v3 v4 v5 v6 v7 v8 v9 v10 v11 : Value) : putRow w g o [v0,v1,v2,v3,v4,v5,v6,v7,v8,v9,v10,v11]=(((((((((((w.setCell ⟨g,o,none⟩ v0).setCell ⟨g,o + 1,none⟩ v1).setCell ⟨g,o + 2,none⟩ v2).setCell ⟨g,o + 3,none⟩ v3).setCell ⟨g,o + 4,none⟩ v4).setCell ⟨g,o + 5,none⟩ v5).setCell ⟨g,o + 6,none⟩ v6).setCell ⟨g,o + 7,none⟩ v7).setCell ⟨g,o + 8,none⟩ v8).setCell ⟨g,o + 9,none⟩ v9).setCell ⟨g,o + 10,none⟩ v10).setCell ⟨g,o + 11,none⟩ v11:=rfl
section
variable {w w' : World} {pf : Nat} {R : Rf} {S : Fs}
theorem rf_apart {g : Nat} {e : TypeId} (hk : ∃ cur,w.heap[g]? = some (.cells cur e (0,0))) {x : Nat} {vs : Array Value} {T : TypeId} (hx : Blk w x vs T) (hT : T≠e) : x≠g:=by
 rintro rfl
 obtain⟨cur,hc⟩:=hk
 unfold Blk at hx
 rw [hx] at hc
 injection hc with hc
 injection hc with _ hc
 exact hT hc
theorem RfAt.put (h : RfAt w pf R S) (hn : Nums S) {g cap : Nat} (hv : R.nv=.slice (some ⟨g,0,none⟩) R.G.length cap) {i : Nat} (hi : i < R.G.length) {a : An} {ea : Option Addr} {el ec : Nat} (hno : R.G[i].a.no=a.no) (he : EntsAt w ea el ec a.ents) :
  RfAt (putRow w g (i * 12) [.int .i64 a.no,.int .i64 a.dev,.int .i64 a.kind,.int .i64 a.mode,.int .i64 a.uid,.int .i64 a.gid,.int .i64 a.mtime,.int .i64 a.ctime,.int .i64 a.links,.int .i64 a.up,.string a.data,.slice ea el ec]) pf { R with G:=R.G.set i ⟨a,ea,el,ec,0⟩ } (S.set a)∧Mod (R.F pf) w (putRow w g (i * 12) [.int .i64 a.no,.int .i64 a.dev,.int .i64 a.kind,.int .i64 a.mode,.int .i64 a.uid,.int .i64 a.gid,.int .i64 a.mtime,.int .i64 a.ctime,.int .i64 a.links,.int .i64 a.up,.string a.data,.slice ea el ec]):=by
 have hgb : R.nv.ownBlock=some g:=by rw [hv];rfl
 have hm:=putRow_mod (g:=g) [.int .i64 a.no,.int .i64 a.dev,.int .i64 a.kind,.int .i64 a.mode,.int .i64 a.uid,.int .i64 a.gid,.int .i64 a.mtime,.int .i64 a.ctime,.int .i64 a.links,.int .i64 a.up,.string a.data,.slice ea el ec] w (i * 12)
 have hM : Mod (R.F pf) w (putRow w g (i * 12) [.int .i64 a.no,.int .i64 a.dev,.int .i64 a.kind,.int .i64 a.mode,.int .i64 a.uid,.int .i64 a.gid,.int .i64 a.mtime,.int .i64 a.ctime,.int .i64 a.links,.int .i64 a.up,.string a.data,.slice ea el ec]):=hm.mono (fun k hk=>.inr (.inl (by rw [hk];exact hgb)))
 obtain⟨-,hcur⟩:=own_obj1 h.nds hgb
 have hst : Stp (R.F pf) (R.F pf) w (putRow w g (i * 12) [.int .i64 a.no,.int .i64 a.dev,.int .i64 a.kind,.int .i64 a.mode,.int .i64 a.uid,.int .i64 a.gid,.int .i64 a.mtime,.int .i64 a.ctime,.int .i64 a.links,.int .i64 a.up,.string a.data,.slice ea el ec]):=Stp.of_mod hM
 refine ⟨⟨h.blk.mod hm (rf_apart hcur h.blk (by decide)),?_,own_mod h.devs hm (fun k hk e=>?_),map_put hn h.ns hi hno rfl,fun x hx=>?_⟩,hM⟩
 ·show World.ownsRow _ 0 109 12 R.nv (R.G.set i _).length ((R.G.set i _).flatMap Gn.cs)
  rw [List.length_set]
  have h0:=h.nds
  rw [hv] at h0 ⊢
  exact own_put (enc:=Gn.cs) (by omega) Gn.cs_len h0 i hi ⟨a,ea,el,ec,0⟩
 ·obtain ⟨-,cur2,hc2⟩:=own_obj1 h.devs e
  rw [hk] at hc2
  exact rf_apart hcur (show Blk w g cur2 170 from hc2) (by decide) rfl
 ·rcases List.mem_or_eq_of_mem_set hx with hx | rfl
  ·exact (h.ents x hx).rf h hst
  ·exact he.rf h hst
set_option maxRecDepth 100000 in
set_option maxHeartbeats 2000000 in
theorem rset_any (h : RfAt w pf R S) (hn : Nums S) {a : An} {ea : Option Addr} {el ec : Nat} (he : EntsAt w ea el ec a.ents) {b : An} (hb : S.get a.no=some b) :
  Calls Tryz.prog 209 #[.pointer (some ⟨pf,0,none⟩),a.v ea el ec] w fun e w'=>e=.returned (.tuple #[])∧∃ R',RfAt w' pf R' (S.set a)∧Stp (R.F pf) (R'.F pf) w w'∧Rf.Like R R'∧R'.dv=R.dv:=by
 rcases place_get h a.no with ⟨i,hi,hp,-,hno⟩ | ⟨-,hg2⟩
 ·have hb0:=balloc (Below.refl w.heap.size w) (.cells #[.int .i64 a.no,.int .i64 a.dev,.int .i64 a.kind,.int .i64 a.mode,.int .i64 a.uid,.int .i64 a.gid,.int .i64 a.mtime,.int .i64 a.ctime,.int .i64 a.links,.int .i64 a.up,.string a.data,.slice ea el ec] 109)
  have hq0:=Blk.new w #[.int .i64 a.no,.int .i64 a.dev,.int .i64 a.kind,.int .i64 a.mode,.int .i64 a.uid,.int .i64 a.gid,.int .i64 a.mtime,.int .i64 a.ctime,.int .i64 a.links,.int .i64 a.up,.string a.data,.slice ea el ec] 109
  have HAt:=Lib.hid (rat_any (h.keep ((Below.refl _ w).alloc (Nat.le_refl _) (.cells #[.int .i64 a.no,.int .i64 a.dev,.int .i64 a.kind,.int .i64 a.mode,.int .i64 a.uid,.int .i64 a.gid,.int .i64 a.mtime,.int .i64 a.ctime,.int .i64 a.links,.int .i64 a.up,.string a.data,.slice ea el ec] 109))) a.no)
  rw [hp] at HAt
  obtain⟨g,cap,hnv,hcap,hcap2,hgl,hc,hfz,cur,hcur⟩:=h.nodeF (by omega)
  have HP:=Lib.hid (fun w1 (hb : Below w.heap.size w w1)=>(h.keep hb).put hn hnv hi hno (he.keep hb))
  obtain⟨pc,-,pz⟩:=h.blk.facts
  rw [hnv] at pc
  have HCur:=Lib.hid hcur
  obtain⟨n,hn2⟩ : ∃ n,R.G.length=n:=⟨_,rfl⟩
  rw [hn2] at pc hcap
  have hin : i < n:=by omega
  have HQ0:=Lib.hid hq0
  have HB0:=Lib.hid hb0
  have mixed : Tryz.prog.follows .mixedOrders=true:=by kernel_rfl
  obtain⟨y,y1,y2,y3,c0,c1,c2,c3,c4,c5,c6,c7,c8,c9,c10,c11⟩ : ∃ (y : An) (y1 : Option Addr) (y2 y3 : Nat),NdC w g (i * 12) y y1 y2 y3:=⟨_,_,_,_,hc i hi⟩
  have HC:=Lib.hid (fun w1 (hb : Below w.heap.size w w1)=>And.intro (hb.cell (p:=⟨g,i * 12,none⟩) hgl) (fun j=>hb.cell (p:=⟨g,i * 12 + j,none⟩) hgl))
  unfold An.v
  clear h hn he hb hp hnv hc hi hno hn2 hq0 hb0 hcur hfz
  go_enter Tryz.func209,Tryz.ntmps209
  have hq0:=HQ0.out
  obtain⟨qc,qf,qz⟩:=hq0.facts
  clear hq0
  go_wp2_with fail
  refine HAt.out.mono ?_
  rintro e w1 ⟨rfl,hb1⟩
  have hq1:=HQ0.out.keep hb1
  have hb2:=bnext HB0.out hb1
  obtain⟨d0,dd⟩:=HC.out w1 hb2
  rw [← d0] at c0
  rw [← dd 1] at c1
  rw [← dd 2] at c2
  rw [← dd 3] at c3
  rw [← dd 4] at c4
  rw [← dd 5] at c5
  rw [← dd 6] at c6
  rw [← dd 7] at c7
  rw [← dd 8] at c8
  rw [← dd 9] at c9
  rw [← dd 10] at c10
  rw [← dd 11] at c11
  have hg1 : g < w1.heap.size:=Nat.lt_of_lt_of_le hgl hb2.size
  have hfz1:=(HCur.out.keep hb2).frozen
  have pc2:=fun i=>(hb2.cell (p:=⟨pf,i,none⟩) pz).trans (pc i)
  have HB2:=Lib.hid hb2
  clear qc qf qz
  obtain⟨qc,qf,qz⟩:=hq1.facts
  clear hq1 hb1 hb2 d0 dd pc
  go_wp2_with fail
  refine wp_region_lex 7 mixed (by kernel_rfl) (show PanicOk _ from by repeat (first | exact pk_body | refine pk_then ?_ | refine pk_block ?_ | refine pk_scope ?_)) ?_
  simp only [List.take_succ_cons,List.take_zero,List.drop_succ_cons,List.drop_zero]
  repeat still_step
  refine wpStill_nil ?_
  go_wp2_with fail
  go_end0
  obtain⟨hR,hM⟩:=HP.out _ HB2.out
  rw [putRow12] at hR hM
  exact⟨rfl,_,hR.keep ((Below.refl _ _).drew),(Stp.of_below HB2.out).trans (Stp.of_mod hM.drew),⟨rfl,rfl,rfl,rfl⟩,rfl⟩
 ·rw [hb] at hg2;cases hg2
end
end Go.Proofs.YtihdbncoijhihaaGreatDoor
