import Derived.Test.YtbndfmkgamdgeaaGreatDoorSO1
import Derived.Test.YtbndfmkgamdgeaaGreatDoorSO2
import Derived.Test.YtbndfmkgamdgeaaGreatDoorSO3
import Derived.Test.YtbndfmkgamdgeaaGreatDoorSO4
import Derived.Test.YtbndfmkgamdgeaaGreatDoorSO5
import Derived.Test.YtbndfmkgamdgeaaGreatDoorSO6
import Derived.Test.YtbndfmkgamdgeaaGreatDoorSO7
import Derived.Test.YtbndfmkgamdgeaaGreatDoorSO8
import Derived.Test.YtbndfmkgamdgeaaGreatDoorSO10
import Derived.Test.YtbndfmkgamdgeaaGreatDoorSO13
import Derived.Test.YtbndfmkgamdgeaaGreatDoorSO14
import Derived.Test.YtbndfmkgamdgeaaGreatDoorSO16
set_option linter.unusedVariables false
set_option linter.unusedSimpArgs false
set_option maxRecDepth 100000
set_option maxHeartbeats 16000000
namespace Go.Proofs.YtbndfmkgamdgeaaGreatDoor
section
open Go.RowKit
structure Rw where
 path:ByteArray
 kind:Int
 mode:Int
 uid:Int
 gid:Int
 mtime:Int
 ctime:Int
 dev:Int
 first:Int
 data:ByteArray
 deriving DecidableEq
def belowB (s n:ByteArray):ByteArray:=str (trimL s.data.toList ++ 47 :: n.data.toList)
def An.rw (n:An) (p:ByteArray) (first:Int):Rw:=⟨p,n.kind,n.mode,n.uid,n.gid,n.mtime,n.ctime,n.dev,first,n.data⟩
def kidsL (p:ByteArray) (n:An):List En:=n.ents.map fun e=>⟨belowB p e.name,e.no⟩
def Fs.rowsN (S:Fs):Nat→List En→List Int→List Rw→List Rw
 | 0,_,_,out=>out
 | _+1,[],_,out=>out
 | f+1,x :: todo,nos,out=>
  match S.get (S.over x.no) with
  | none=>S.rowsN f todo nos out
  | some n=>S.rowsN f (kidsL x.name n ++ todo) (nos ++ [n.no]) (out ++ [n.rw x.name (nos.idxOf n.no)])
def Fs.rowsF (S:Fs) (N:Nat):Nat:=1+(N+1)*S.ns.length
def Fs.rows (S:Fs) (N:Nat) (no:Int) (p:ByteArray):List Rw:=S.rowsN (S.rowsF N) [⟨p,no⟩] [] []
theorem below_size (s n:ByteArray):(belowB s n).size≤s.size+n.size+1:=by
 unfold belowB;rw [str_size,List.length_append,List.length_cons];have h1:=trimL_len s.data.toList;have h2:s.data.toList.length=s.size:=Array.length_toList;have h3:n.data.toList.length=n.size:=Array.length_toList;omega
def Fs.isDir (S:Fs) (k:Int):Bool:=match S.get k with | some n=>n.kind == 1 | none=>false
theorem isDir_some {S:Fs} {k:Int} (h:S.isDir k=true):∃ n,S.get k=some n∧n.kind=1:=by
 unfold Fs.isDir at h
 split at h
 ·rename_i n hn;exact⟨n,hn,by simpa using h⟩
 ·cases h
theorem isDir_of {S:Fs} {k:Int} {n:An} (h:S.get k=some n) (hk:n.kind=1):S.isDir k=true:=by
 unfold Fs.isDir;rw [h];simpa using hk
theorem isDir_not {S:Fs} {k:Int} {n:An} (h:S.get k=some n) (hk:n.kind≠1):S.isDir k=false:=by
 unfold Fs.isDir;rw [h];simpa using hk
theorem dev_at {S:Fs} {i:Nat} (hi:i<S.ds.length):S.dev ((i:Int)+1)=some S.ds[i]∧S.root ((i:Int)+1)=S.ds[i].root:=by
 refine ⟨?_,?_⟩
 ·unfold Fs.dev;rw [if_pos (by omega),show ((i:Int)+1 - 1).toNat=i by omega,List.getElem?_eq_getElem hi]
 ·unfold Fs.root;rw [if_pos ⟨by omega,by omega⟩,show ((i:Int)+1 - 1).toNat=i by omega,List.getElem?_eq_getElem hi]
theorem kid_of {S:Fs} {N:Nat} (hk:FsOk S N) (hp:Pl S) (ht:Tr S) {n:An} (hn:n∈S.ns) {e:En} (he:e∈n.ents) (hd:S.isDir (S.over e.no)=true) :
  S.above (S.over e.no)=n.no∧n.no<S.over e.no∧S.child (S.over e.no)=e.no∧S.isDir e.no=true:=by
 have hnz:1≤e.no:=(hk.all n hn).nz e he;obtain⟨b,hb,hb1⟩:=(ht.row n hn).down e he;obtain⟨r,hr,hr1⟩:=isDir_some hd;have ho:S.over e.no=match S.ds.find? (fun d=>d.over == e.no) with | some d=>d.root | none=>e.no:=by
  unfold Fs.over;rw [if_pos (by omega)];rfl
 cases hf:S.ds.find? (fun d=>d.over == e.no) with
 | none=>
  rw [hf] at ho;simp only at ho;rw [ho] at hr ⊢;rw [hb] at hr;injection hr with hr;subst hr;obtain⟨h1,h2⟩:=hb1 hr1;have hbn:=an_no hb;have hup:=hp.up b (an_mem hb) hr1;refine ⟨?_,?_,?_,isDir_of hb hr1⟩
  ·unfold Fs.above;rw [hb];simp only;rw [if_neg (by simpa using hr1),if_neg (fun h=>h2 (by rw [hbn];exact h.1))];exact h1
  ·rcases hup with h | h
   ·exact absurd h.1 h2
   ·omega
  ·unfold Fs.child;rw [hb];simp only;rw [if_neg (fun h=>h2 (by rw [hbn];exact h.1))]
 | some d=>
  rw [hf] at ho;simp only at ho;have hdo:d.over=e.no:=by simpa using List.find?_some hf
  obtain⟨i,hi,hid⟩:=List.mem_iff_getElem.1 (List.mem_of_find?_eq_some hf);subst hid;have hi1:1≤i:=by
   rcases Nat.eq_zero_or_pos i with h0 | h0
   ·subst h0;have:=ht.zero S.ds[0] (List.getElem?_eq_getElem hi);omega
   ·exact h0
  obtain⟨b2,hb2,hbk,hlt⟩:=hp.over i hi hi1;rw [hdo,hb] at hb2;injection hb2 with hb2;subst hb2;obtain⟨h1,h2⟩:=hb1 hbk;obtain⟨r2,hr2,hr2k,hr2d⟩:=ht.rts i hi;obtain⟨d1,d2⟩:=dev_at hi;have hbn:=an_no hb;have hup:=hp.up b (an_mem hb) hbk;rw [ho];refine ⟨?_,?_,?_,isDir_of hb hbk⟩
  ·unfold Fs.above;rw [hr2];simp only;rw [if_neg (by simpa using hr2k),hr2d,if_pos ⟨d2,by omega⟩,d1];simp only;rw [hdo,hb];exact h1
  ·rcases hup with h | h
   ·exact absurd h.1 h2
   ·omega
  ·unfold Fs.child;rw [hr2];simp only;rw [hr2d,if_pos ⟨d2,by omega⟩,d1];exact hdo
def Fs.dirsT (S:Fs) (l:List En):List Int:=(l.map fun x=>S.over x.no).filter S.isDir
theorem dirsT_append (S:Fs) (a b:List En):S.dirsT (a ++ b)=S.dirsT a ++ S.dirsT b:=by
 unfold Fs.dirsT;rw [List.map_append,List.filter_append]
theorem mem_kids {S:Fs} {p:ByteArray} {n:An} {c:Int} (h:c∈S.dirsT (kidsL p n)):∃ e∈n.ents,S.over e.no=c∧S.isDir c=true:=by
 unfold Fs.dirsT kidsL at h;rw [List.map_map] at h;obtain⟨h1,h2⟩:=List.mem_filter.1 h;obtain⟨e,he,rfl⟩:=List.mem_map.1 h1;exact⟨e,he,rfl,h2⟩
theorem kids_nodup {S:Fs} {N:Nat} (hk:FsOk S N) (hp:Pl S) (ht:Tr S) {n:An} (hn:n∈S.ns) (p:ByteArray):(S.dirsT (kidsL p n)).Nodup:=by
 unfold Fs.dirsT kidsL;rw [List.map_map,List.Nodup,List.pairwise_filter,List.pairwise_map];have h1:∀ (l:List En),(∀ x∈l,x∈n.ents)→l.Pairwise (fun x y=>x.no=y.no→∀ b,S.get x.no=some b→b.kind≠1)→l.Pairwise (fun x y=>S.isDir (S.over x.no)=true→S.isDir (S.over y.no)=true→S.over x.no≠S.over y.no):=by
  intro l
  induction l with
  | nil=>intro _ _;exact List.Pairwise.nil
  | cons x l ih=>
   intro hm hl;rw [List.pairwise_cons] at hl ⊢;refine ⟨fun y hy hx1 hy1 he=>?_,ih (fun z hz=>hm z (List.mem_cons_of_mem _ hz)) hl.2⟩;obtain⟨-,-,c1,i1⟩:=kid_of hk hp ht hn (hm x List.mem_cons_self) hx1;obtain⟨-,-,c2,-⟩:=kid_of hk hp ht hn (hm y (List.mem_cons_of_mem _ hy)) hy1;rw [he,c2] at c1;obtain⟨b,hb,hb1⟩:=isDir_some i1;exact hl.1 y hy c1.symm b hb hb1
 exact h1 n.ents (fun x hx=>hx) (ht.row n hn).once
theorem nodup_len:∀ (l m:List Int),l.Nodup→(∀ c∈l,c∈m)→l.length≤m.length:=by
 intro l
 induction l with
 | nil=>intro m _ _;exact Nat.zero_le _
 | cons c l ih=>
  intro m hl hm;rw [List.nodup_cons] at hl;have h1:=ih (m.erase c) hl.2 (fun d hd=>by
   have hdc:d≠c:=by rintro rfl;exact hl.1 hd
   exact (List.mem_erase_of_ne hdc).2 (hm d (List.mem_cons_of_mem _ hd)))
  have h2:=hm c List.mem_cons_self;rw [List.length_erase_of_mem h2] at h1;have h3:=List.length_pos_of_mem h2;rw [List.length_cons];omega
structure TrSt (S:Fs) (N:Nat) (s0:Int) (B:Nat) (todo:List En) (nos:List Int) (f:Nat):Prop where
 nodup:(S.dirsT todo ++ nos.filter S.isDir).Nodup
 src:∀ c∈S.dirsT todo ++ nos.filter S.isDir,c=s0∨S.above c∈nos.filter S.isDir
 low:∀ c∈S.dirsT todo ++ nos.filter S.isDir,s0≤c
 fuel:todo.length+(N+1)*(S.ns.length - (nos.filter S.isDir).length)≤f
 size:∀ x∈todo,x.name.size≤B+256*(if S.isDir (S.over x.no) then (S.over x.no).toNat else S.last.toNat+1)
theorem TrSt.start (S:Fs) (N:Nat) (no:Int) (p:ByteArray):TrSt S N (S.over no) p.size [⟨p,no⟩] [] (S.rowsF N):=by
 have h1:∀ c∈S.dirsT [⟨p,no⟩] ++ ([]:List Int).filter S.isDir,c=S.over no:=fun c hc=>by
  simp only [List.filter_nil,List.append_nil] at hc;unfold Fs.dirsT at hc;simpa using (List.mem_filter.1 hc).1
 refine ⟨?_,fun c hc=>.inl (h1 c hc),fun c hc=>by rw [h1 c hc];exact Int.le_refl _,?_,fun x hx=>?_⟩
 ·simp only [List.filter_nil,List.append_nil];unfold Fs.dirsT;refine List.Pairwise.filter _ ?_;simp
 ·unfold Fs.rowsF;simp
 ·simp at hx;subst hx;exact Nat.le_add_right _ _
theorem TrSt.pos {S:Fs} {N:Nat} {s0:Int} {B:Nat} {x:En} {todo:List En} {nos:List Int} {f:Nat} (h:TrSt S N s0 B (x :: todo) nos f):∃ f',f=f'+1:=by
 have h4:=h.fuel;rw [List.length_cons] at h4;exact⟨f - 1,by omega⟩
theorem TrSt.some {S:Fs} {N:Nat} {s0:Int} {B:Nat} (hk:FsOk S N) (hp:Pl S) (ht:Tr S) {x:En} {todo:List En} {nos:List Int} {f:Nat} (h:TrSt S N s0 B (x :: todo) nos (f+1)) {n:An} (hg:S.get (S.over x.no)=some n):TrSt S N s0 B (kidsL x.name n ++ todo) (nos ++ [n.no]) f:=by
 have hm:=an_mem hg;have hno:=an_no hg;have h4:=h.fuel;have hnl:=h.size x List.mem_cons_self;rw [List.length_cons] at h4;by_cases hd:n.kind=1
 ·have hdir:S.isDir (S.over x.no)=true:=isDir_of hg hd;have hd1:S.dirsT (x :: todo)=S.over x.no :: S.dirsT todo:=by
   unfold Fs.dirsT;rw [List.map_cons,List.filter_cons_of_pos hdir]
  have hv1:(nos ++ [n.no]).filter S.isDir=nos.filter S.isDir ++ [S.over x.no]:=by
   rw [List.filter_append,hno,List.filter_cons_of_pos hdir];rfl
  have h1:=h.nodup;have h2:=h.src;have h3:=h.low;rw [hd1] at h1 h2 h3;rw [if_pos hdir] at hnl;have hlow:s0≤S.over x.no:=h3 _ (by simp);have hkid:∀ c∈S.dirsT (kidsL x.name n),S.above c=S.over x.no∧S.over x.no<c:=fun c hc=>by
   obtain⟨e,he,rfl,hdc⟩:=mem_kids hc;obtain⟨k1,k2,-,-⟩:=kid_of hk hp ht hm he hdc;rw [hno] at k1 k2;exact⟨k1,k2⟩
  have h1':=h1;rw [List.cons_append,List.nodup_cons] at h1';obtain⟨hx1,hx2⟩:=h1';generalize S.over x.no=k at *;have hnew:∀ c∈S.dirsT (kidsL x.name n),c∉S.dirsT todo ++ nos.filter S.isDir:=fun c hc hin=>by
   obtain⟨k1,k2⟩:=hkid c hc;rcases h2 c (by rw [List.cons_append];exact List.mem_cons_of_mem _ hin) with h5 | h5
   ·omega
   ·rw [k1] at h5;exact hx1 (List.mem_append_right _ h5)
  have hcnt:(k :: nos.filter S.isDir).length≤S.ns.length:=by
   have:=nodup_len (k :: nos.filter S.isDir) (S.ns.map (·.no)) (by
    rw [List.nodup_cons];exact⟨fun h=>hx1 (List.mem_append_right _ h),(List.nodup_append.1 hx2).2.1⟩) (fun c hc=>by
    have hc1:S.isDir c=true:=by
     rcases List.mem_cons.1 hc with rfl | hc
     ·exact hdir
     ·exact (List.mem_filter.1 hc).2
    obtain⟨b,hb,-⟩:=isDir_some hc1;exact List.mem_map.2 ⟨b,an_mem hb,an_no hb⟩)
   rwa [List.length_map] at this
  rw [List.length_cons] at hcnt;refine ⟨?_,fun c hc=>?_,fun c hc=>?_,?_,fun y hy=>?_⟩
  ·rw [hv1,dirsT_append];have hperm:(S.dirsT (kidsL x.name n) ++ (S.dirsT todo ++ nos.filter S.isDir ++ [k])).Nodup:=by
    rw [List.nodup_append];refine ⟨kids_nodup hk hp ht hm x.name,?_,fun c hc d hcd=>?_⟩
    ·rw [List.nodup_append];refine ⟨hx2,by simp,fun c hc d hcd=>?_⟩;simp at hcd;subst hcd;rintro rfl;exact hx1 hc
    ·rintro rfl;rcases List.mem_append.1 hcd with h5 | h5
     ·exact hnew c hc h5
     ·simp at h5;have:=(hkid c hc).2;omega
   simpa only [List.append_assoc] using hperm
  ·rw [hv1,dirsT_append] at hc;rw [hv1];simp only [List.append_assoc] at hc;rcases List.mem_append.1 hc with hc | hc
   ·exact .inr (by rw [(hkid c hc).1];simp)
   ·rw [←List.append_assoc] at hc;rcases List.mem_append.1 hc with hc | hc
    ·rcases h2 c (by rw [List.cons_append];exact List.mem_cons_of_mem _ hc) with h5 | h5
     ·exact .inl h5
     ·exact .inr (List.mem_append_left _ h5)
    ·simp at hc;subst hc;rcases h2 c (by simp) with h5 | h5
     ·exact .inl h5
     ·exact .inr (List.mem_append_left _ h5)
  ·rw [hv1,dirsT_append] at hc;simp only [List.append_assoc] at hc;rcases List.mem_append.1 hc with hc | hc
   ·have:=(hkid c hc).2;omega
   ·rw [←List.append_assoc] at hc;rcases List.mem_append.1 hc with hc | hc
    ·exact h3 c (by rw [List.cons_append];exact List.mem_cons_of_mem _ hc)
    ·simp at hc;subst hc;exact hlow
  ·rw [hv1,List.length_append,List.length_append,List.length_singleton];have hkl:(kidsL x.name n).length≤N:=by
    unfold kidsL;rw [List.length_map];exact (hk.all n hm).few
   obtain⟨u,hu⟩:∃ u,S.ns.length - (nos.filter S.isDir).length=u+1:=⟨S.ns.length - (nos.filter S.isDir).length - 1,by omega⟩;rw [hu,Nat.mul_succ] at h4;rw [show S.ns.length - ((nos.filter S.isDir).length+1)=u by omega];omega
  ·rcases List.mem_append.1 hy with hy | hy
   ·unfold kidsL at hy;obtain⟨e,he,rfl⟩:=List.mem_map.1 hy;have h5:=below_size x.name e.name;have h6:=(hp.names n hm e he).2;have h7:=hk.get hg;have h8:k.toNat+1≤(if S.isDir (S.over e.no) then (S.over e.no).toNat else S.last.toNat+1):=by
     split
     ·rename_i hdc;obtain⟨-,k2,-,-⟩:=kid_of hk hp ht hm he hdc;rw [hno] at k2;omega
     ·omega
    simp only;have h9:256*(k.toNat+1)≤256*(if S.isDir (S.over e.no) then (S.over e.no).toNat else S.last.toNat+1):=Nat.mul_le_mul_left _ h8;omega
   ·exact h.size y (List.mem_cons_of_mem _ hy)
 ·have hdir:S.isDir (S.over x.no)=false:=isDir_not hg hd;have hd1:S.dirsT (x :: todo)=S.dirsT todo:=by
   unfold Fs.dirsT;rw [List.map_cons,List.filter_cons_of_neg (by rw [hdir];simp)]
  have hv1:(nos ++ [n.no]).filter S.isDir=nos.filter S.isDir:=by
   rw [List.filter_append,hno,List.filter_cons_of_neg (by rw [hdir];simp)];simp
  have hkl:kidsL x.name n=[]:=by unfold kidsL;rw [ht.leaf n hm hd];rfl
  have h1:=h.nodup;have h2:=h.src;have h3:=h.low;rw [hd1] at h1 h2 h3;rw [hkl];refine ⟨?_,?_,?_,?_,fun y hy=>h.size y (List.mem_cons_of_mem _ hy)⟩
  ·rw [hv1];exact h1
  ·rw [hv1];exact h2
  ·rw [hv1];exact h3
  ·rw [hv1,List.nil_append];omega
end
section
open Go.RowKit
def Gn.cs (g:Gn):List Value:=[.int .i64 g.a.no,.int .i64 g.a.dev,.int .i64 g.a.kind,.int .i64 g.a.mode,.int .i64 g.a.uid,.int .i64 g.a.gid,.int .i64 g.a.mtime,.int .i64 g.a.ctime,.int .i64 g.a.links,.int .i64 g.a.up,.string g.a.data,.slice g.ea g.el g.ec]
structure Rf where
 nv:Value
 dv:Value
 G:List Gn
 now:Int
 cnt:Value
 pl:Value
 dd:Value
def Rf.F (R:Rf) (pf k:Nat):Prop:=k=pf∨R.nv.ownBlock=some k∨R.dv.ownBlock=some k
structure RfAt (w:World) (pf:Nat) (R:Rf) (S:Fs):Prop where
 blk:Blk w pf #[R.nv,R.dv,.int .i64 S.last,.int .i64 R.now,R.cnt,R.pl,R.dd] 52
 nds:w.ownsRow 0 163 12 R.nv R.G.length (R.G.flatMap Gn.cs)
 devs:w.ownsRow 0 310 6 R.dv S.ds.length (S.ds.flatMap Dv.cs)
 ns:S.ns=R.G.map (·.a)
 ents:∀ g∈R.G,EntsAt w g.ea g.el g.ec g.a.ents
def rfKind (o:Obj):Bool:=match o with
 | .cells _ t _=>t == 52 || t == 163 || t == 310
 | _=>false
section
variable {w w':World} {pf:Nat} {R:Rf} {S:Fs}
theorem own_turn {base sz n:Nat} {e:TypeId} {v:Value} {xs:List Value} (h:w.ownsRow base e sz v n xs) (ht:∀ k,v.ownBlock=some k→w'.heap[k]? = w.heap[k]?):w'.ownsRow base e sz v n xs:=
 ⟨h.1,h.2.imp id fun ⟨g,cap,cur,h1,h2,hg,h3⟩=>⟨g,cap,cur,h1,h2,(ht g (by rw [h1];rfl)).trans hg,h3⟩⟩
def placeN (G:List Gn) (no:Int):Int:=match G.findIdx? (fun g=>g.a.no == no) with | some i=>i | none=>-1
structure NdC (w:World) (g o:Nat) (a:An) (ea:Option Addr) (el ec:Nat):Prop where
 c0:w.cell? ⟨g,o,none⟩=some (.int .i64 a.no)
 c1:w.cell? ⟨g,o+1,none⟩=some (.int .i64 a.dev)
 c2:w.cell? ⟨g,o+2,none⟩=some (.int .i64 a.kind)
 c3:w.cell? ⟨g,o+3,none⟩=some (.int .i64 a.mode)
 c4:w.cell? ⟨g,o+4,none⟩=some (.int .i64 a.uid)
 c5:w.cell? ⟨g,o+5,none⟩=some (.int .i64 a.gid)
 c6:w.cell? ⟨g,o+6,none⟩=some (.int .i64 a.mtime)
 c7:w.cell? ⟨g,o+7,none⟩=some (.int .i64 a.ctime)
 c8:w.cell? ⟨g,o+8,none⟩=some (.int .i64 a.links)
 c9:w.cell? ⟨g,o+9,none⟩=some (.int .i64 a.up)
 c10:w.cell? ⟨g,o+10,none⟩=some (.string a.data)
 c11:w.cell? ⟨g,o+11,none⟩=some (.slice ea el ec)
end
def Fs.getZ (S:Fs) (k:Int):An:=(S.get k).getD an0
theorem getZ_some {S:Fs} {k:Int} {a:An} (h:S.get k=some a):S.getZ k=a:=by unfold Fs.getZ;rw [h];rfl
theorem getZ_none {S:Fs} {k:Int} (h:S.get k=none):S.getZ k=an0:=by unfold Fs.getZ;rw [h];rfl
end
section
open Go.RowKit
section
variable {w w':World} {pw:Nat} {R:Rp} {S:Fs}
theorem place_any (h:WdAt w pw R S) {N:Nat} (hk:FsOk S N) (c:Cr) (dir:Int) (s:ByteArray) (hs:s.size≤9223372036854775807) :
  Calls Tryz.prog 131 #[.pointer (some ⟨pw,0,none⟩),.agg #[.int .i64 c.u,.int .i64 c.g],.int .i64 dir,.string s] w fun e w'=>((S.placeE c dir s≠0∧e=.returned (.tuple #[an0.v none 0 0,.int .i64 (S.placeE c dir s)]))∨(S.placeE c dir s=0∧∃ d ea el ec,S.get dir=some d∧e=.returned (.tuple #[d.v ea el ec,.int .i64 0])∧EntsAt w ea el ec d.ents))∧Below w.heap.size w w':=by
 cases hg:S.get dir with
 | none=>
  refine (place_none h hk c dir s hs hg).mono ?_;rintro e w1 ⟨rfl,hb⟩;have:S.placeE c dir s=5:=by unfold Fs.placeE;rw [hg]
  rw [this];exact⟨.inl ⟨by decide,rfl⟩,hb⟩
 | some d=>
  refine (place_some h hk c dir s hs d hg).mono ?_;rintro e w1 ⟨h1 | ⟨h1,ea,el,ec,h2,h3⟩,hb⟩
  ·exact ⟨.inl h1,hb⟩
  ·exact ⟨.inr ⟨h1,d,ea,el,ec,rfl,h2,h3⟩,hb⟩
theorem wmake_any (h:WdAt w pw R S) {N:Nat} (hk:FsOk S N) (hN:N≤1000000) (a:An) (ea:Option Addr) (el ec:Nat) (he:EntsAt w ea el ec a.ents) (hs:a.data.size≤9223372036854775807) :
  Calls Tryz.prog 138 #[.pointer (some ⟨pw,0,none⟩),a.v ea el ec] w fun e w'=>e=.returned (.tuple #[.int .i64 (S.make a).2.1,.int .i64 (S.make a).2.2])∧∃ R',WdAt w' pw R' (S.make a).1∧Stp (R.F pw) (R'.F pw) w w':=by
 by_cases hr:S.root a.dev=0
 ·refine (wmake_none h hk.d1 a ea el ec hr).mono ?_;rintro e w1 ⟨rfl,hb⟩;rw [make_none hr];exact⟨rfl,R,h.keep hb,Stp.of_below hb⟩
 ·have hd:1≤a.dev∧a.dev≤S.ds.length:=by
   by_cases hd:1≤a.dev∧a.dev≤S.ds.length
   ·exact hd
   ·exact absurd (root_no hd) hr
  exact wmake_mid h (k:=(a.dev - 1).toNat) (by omega) a ea el ec he (by omega) hr hs hk.l0 (Int.le_trans hk.lN (by omega))
end
end
section
open Go.RowKit
def whereV (o:Option ByteArray):Value:=.tuple #[.string (o.getD ByteArray.empty),.bool o.isSome]
def nmOf (l:List En) (no:Int):ByteArray:=(entName l no).getD ByteArray.empty
section
variable {w w':World} {pf:Nat} {R:Rf} {S:Fs}
end
end
section
open Go.RowKit
theorem entName_drop {es:List En} {no:Int} {k:Nat} (hk:k<es.length):entName (es.drop k) no=if es[k].no=no then some es[k].name else entName (es.drop (k+1)) no:=by
 rw [List.drop_eq_getElem_cons hk,entName_cons]
theorem ename_any (es:List En) (a:Option Addr) (n c:Nat) (no:Int) (w:World) (he:EntsAt w a n c es) :
  Calls Tryz.prog 175 #[.slice a n c,.int .i64 no] w fun e w'=>e=.returned (whereV (entName es no))∧Below w.heap.size w w':=by
 have hl:=he.len;subst hl;have hc1:=he.sl.2.1;have hc2:=he.sl.2.2.1;have HE:=Lib.hid he;have HS:=Lib.hid (show entName es no=entName (es.drop 0) no from rfl);generalize entName es no=out at HS ⊢;clear he;go_enter Tryz.func175,Tryz.ntmps175;go_wp2_with fail
 go_loopw [10] (fun t10 wr=>∃ k:Nat,k≤es.length∧t10=.int .i64 k∧out=entName (es.drop k) no∧Below w.heap.size w wr) (fun t10 _=>es.length - (intOf t10).toNat)
 case atStart=>exact ⟨0,Nat.zero_le _,rfl,HS.out,Below.refl _ _⟩
 case round=>
  obtain⟨k,hk,rfl,hf,hb⟩:=hrel;by_cases hlt:k<es.length
  ·have he2:=HE.out.keep hb;obtain⟨b,off,rfl,hbl⟩:=he2.some_of (by omega);obtain⟨c0,c1⟩:=he2.cell k hlt;rw [entName_drop hlt] at hf;have HF:=Lib.hid hf;have HB:=Lib.hid hb;generalize es[k]=x at c0 c1 HF;clear hf hb he2;by_cases hx:x.no=no
   ·have HR:=Lib.hid (HF.out.trans (if_pos hx));have hq:(x.no == no)=true:=by simpa using hx
    clear hx;go_wp2_with fail;go_ret2;exact⟨by rw [HR.out];rfl,balloc HB.out _⟩
   ·have HR:=Lib.hid (HF.out.trans (if_neg hx));have hq:(x.no == no)=false:=by simpa using hx
    clear hx;go_wp2_with fail;go_roundw
    case measure=>simp [intOf];omega
    case rel=>exact ⟨k+1,by omega,by go_num,HR.out,balloc HB.out _⟩
  ·obtain rfl:k=es.length:=by omega
   rw [List.drop_length] at hf;have HR:=Lib.hid (show out=none from hf);have HB:=Lib.hid hb;clear hf hb;go_wp2_with fail;go_ret2;exact⟨by rw [HR.out];rfl,HB.out⟩
section
variable {w w':World} {pw:Nat} {R:Rp} {S:Fs}
def useV (S:Fs) (d:Int):Value:=match S.dev d with
 | some v=>.agg #[.int .i64 v.b,.int .i64 v.n,.int .i64 v.mb,.int .i64 v.mn]
 | none=>.agg #[.int .i64 0,.int .i64 0,.int .i64 0,.int .i64 0]
end
end
section
open Go.RowKit Go.Shelf
attribute [local go_sem] Oper.semAt_some
def Fs.topAt (S:Fs) (d:Nat):Option (Int×ByteArray):=(S.place_ (S.root ((d:Int)+1))).map fun s=>(S.root ((d:Int)+1),s)
def Fs.topsK (S:Fs) (k:Nat):List (Int×ByteArray):=(List.range k).filterMap S.topAt
def Fs.topsL (S:Fs):List (Int×ByteArray):=S.topsK S.ds.length
theorem topsK_succ (S:Fs) (k:Nat):S.topsK (k+1)=S.topsK k ++ (S.topAt k).toList:=by
 unfold Fs.topsK;rw [List.range_succ,List.filterMap_append]
 cases h:S.topAt k <;> simp [h]
theorem topsK_prefix (S:Fs) {k n:Nat} (h:k≤n):S.topsK k <+: S.topsK n:=by
 induction n with
 | zero=>
  have:k=0:=by omega
  subst this;exact List.prefix_refl _
 | succ n ih=>
  by_cases hk:k=n+1
  ·subst hk;exact List.prefix_refl _
  ·refine (ih (by omega)).trans ?_;rw [topsK_succ];exact List.prefix_append _ _
theorem all_any (pf:Nat) (w:World) :
  Calls Tryz.prog 102 #[.pointer (some ⟨pf,0,none⟩)] w fun e w'=>e=.returned (.func (.func 158) #[] #[.pointer (some ⟨w.heap.size,0,none⟩)])∧w'=w.alloc (.cells #[.pointer (some ⟨pf,0,none⟩)] 40):=by
 go_enter Tryz.func102,Tryz.ntmps102;go_wp2_with fail;go_ret;exact⟨rfl,rfl⟩
end
section
open Go.RowKit
def Nm (S:Fs):Prop:=∀ a∈S.ns,∀ x∈a.ents,checkE x.name=0
theorem Nm.set {S:Fs} (h:Nm S) {a:An} (hn:∀ x∈a.ents,checkE x.name=0):Nm (S.set a):=by
 intro y hy;unfold Fs.set at hy;simp only [List.mem_map] at hy;obtain⟨z,hz,rfl⟩:=hy
 split
 ·exact hn
 ·exact h z hz
theorem Nm.add {S:Fs} (h:Nm S) {a:An} (hn:a.ents=[]):Nm (S.add a):=by
 intro y hy;unfold Fs.add at hy;rcases List.mem_append.1 hy with hy | hy
 ·exact h y hy
 ·simp at hy;subst hy;intro x hx;rw [show ({a with no:=S.last+1}:An).ents=a.ents from rfl,hn] at hx
  cases hx
theorem Nm.addRoot {S:Fs} (h:Nm S) (o b n:Int):Nm (S.addRoot o b n):=by
 intro y hy;unfold Fs.addRoot at hy;rcases List.mem_append.1 hy with hy | hy
 ·exact h y hy
 ·simp at hy;subst hy;intro x hx
  cases hx
theorem Nm.make {S:Fs} (h:Nm S) {a:An} (hn:a.ents=[]):Nm (S.make a).1:=by
 unfold Fs.make
 split
 ·exact h
 ·split
  ·exact h
  ·simp only
   split
   ·exact Nm.add (S:=S.setDev _ _) (fun y hy=>h y hy) hn
   ·exact h
theorem put_check {l:List En} (h:∀ x∈l,checkE x.name=0) {s:ByteArray} (hs:checkE s=0) (no:Int):∀ x∈entPut l s no,checkE x.name=0:=by
 intro x hx;unfold entPut at hx;rcases List.mem_append.1 hx with hx | hx
 ·exact h x (List.mem_filter.1 hx).1
 ·rcases List.mem_cons.1 hx with rfl | hx
  ·exact hs
  ·exact h x (List.mem_filter.1 hx).1
theorem Nm.touch {S:Fs} (h:Nm S) (now dir:Int) (l:List En) (hl:∀ x∈l,checkE x.name=0):Nm (S.touch now dir l):=by
 unfold Fs.touch
 split
 ·exact h
 ·exact h.set hl
theorem Nm.come {S:Fs} (h:Nm S) {a:An} (c:Cr) (now dir:Int) (s:ByteArray) (he:a.ents=[]):Nm (S.come c now dir s a).1:=by
 unfold Fs.come
 split
 ·exact h
 ·rename_i hpl;obtain⟨d,hd,hdk,hce⟩:=place_check (by simpa using hpl);rw [hd];simp only
  split
  ·exact h
  ·have hm:=h.make (a:={a with dev:=d.dev,uid:=c.u,gid:=c.g,mtime:=now,ctime:=now,links:=1}) he
   split
   ·exact h
   ·exact hm.touch _ _ _ (put_check (h d (an_mem hd)) hce _)
theorem Nm.mkdir {S:Fs} (h:Nm S) (c:Cr) (now dir:Int) (s:ByteArray) (m:Int):Nm (S.mkdir c now dir s m).1:=by
 unfold Fs.mkdir
 split
 ·exact h
 ·exact h.come c now dir s rfl
theorem Nm.file {S:Fs} (h:Nm S) (c:Cr) (now dir:Int) (s:ByteArray) (m:Int) (t:ByteArray):Nm (S.file c now dir s m t).1:=by
 unfold Fs.file
 split
 ·exact h
 ·split
  ·exact h
  ·exact h.come c now dir s rfl
theorem Nm.sym {S:Fs} (h:Nm S) (c:Cr) (now dir:Int) (s t:ByteArray):Nm (S.sym c now dir s t).1:=by
 unfold Fs.sym
 split
 ·exact h
 ·split
  ·exact h
  ·exact h.come c now dir s rfl
theorem Nm.hard {S:Fs} (h:Nm S) (c:Cr) (now no dir:Int) (s:ByteArray):Nm (S.hard c now no dir s).1:=by
 unfold Fs.hard
 split
 ·exact h
 ·rename_i hpl;obtain⟨d0,hd0,hdk,hce⟩:=place_check (by simpa using hpl)
  split
  ·rename_i d n hd hn
   split
   ·exact h
   ·split
    ·exact h
    ·split
     ·exact h
     ·split
      ·exact h
      ·exact Nm.touch (h.set (a:={n with links:=n.links+1,ctime:=now}) (h n (an_mem hn))) _ _ _ (put_check (h d (an_mem hd)) hce _)
  ·exact h
theorem Nm.chmod {S:Fs} (h:Nm S) (c:Cr) (now no m:Int):Nm (S.chmod c now no m).1:=by
 unfold Fs.chmod
 split
 ·exact h
 ·rename_i n hn
  split
  ·exact h
  ·split
   ·exact h
   ·exact h.set (h n (an_mem hn))
theorem Nm.chown {S:Fs} (h:Nm S) (c:Cr) (now no u g:Int):Nm (S.chown c now no u g).1:=by
 unfold Fs.chown
 split
 ·exact h
 ·rename_i n hn
  split
  ·exact h
  ·split
   ·exact h
   ·split
    ·exact h
    ·exact h.set (h n (an_mem hn))
theorem Nm.utime {S:Fs} (h:Nm S) (c:Cr) (now no t:Int):Nm (S.utime c now no t).1:=by
 unfold Fs.utime
 split
 ·exact h
 ·rename_i n hn
  split
  ·exact h
  ·split
   ·exact h
   ·exact h.set (h n (an_mem hn))
theorem Nm.mount {S:Fs} (h:Nm S) (k b n:Int):Nm (S.mount k b n).1:=by
 unfold Fs.mount
 split
 ·exact h
 ·split
  ·exact h
  ·split
   ·exact h
   ·split
    ·exact h
    ·exact h.addRoot _ b n
theorem Nm.mountF {S:Fs} (h:Nm S) (m:Mt):Nm (mountF S m):=by
 unfold Go.Proofs.YtbndfmkgamdgeaaGreatDoor.mountF
 split
 ·exact h
 ·split
  ·have h1:=h.mkdir c00 0 (S.path c00 m.path false).1.dir (S.path c00 m.path false).1.name 493;simp only
   split
   ·exact h1
   ·exact h1.mount _ _ _
  ·exact h.mount _ _ _
theorem Nm.mountsF {S:Fs} (h:Nm S) (l:List Mt):Nm (mountsF S l):=by
 induction l generalizing S with
 | nil=>exact h
 | cons m l ih=>
  unfold Go.Proofs.YtbndfmkgamdgeaaGreatDoor.mountsF;by_cases hm:m.path=topB
  ·rw [if_pos hm];exact ih h
  ·rw [if_neg hm];exact ih (h.mountF m)
theorem Nm.nodeF {S:Fs} (h:Nm S) (it:It):Nm (nodeF S it).1:=by
 unfold Go.Proofs.YtbndfmkgamdgeaaGreatDoor.nodeF;simp only
 split
 ·exact h
 ·split
  ·split <;> exact h
  ·split
   ·exact h.mkdir _ _ _ _ _
   ·split
    ·exact h.file _ _ _ _ _ _
    ·split
     ·exact h.sym _ _ _ _ _
     ·split
      ·split
       ·exact h.hard _ _ _ _ _
       ·exact h
      ·exact h
theorem Nm.itemF {S:Fs} (h:Nm S) (it:It):Nm (itemF S it).1:=by
 unfold Go.Proofs.YtbndfmkgamdgeaaGreatDoor.itemF;have h1:=h.nodeF it;simp only
 split
 ·exact (h1.chown _ _ _ _ _).chmod _ _ _ _
 ·exact h1
theorem Nm.itemsF {S:Fs} (h:Nm S) (l:List It):Nm (itemsF S l).1:=by
 induction l generalizing S with
 | nil=>exact h
 | cons x l ih=>exact ih (h.itemF x)
theorem Nm.timesF {S:Fs} (h:Nm S) (l:List (It×Int)):Nm (timesF S l):=by
 induction l generalizing S with
 | nil=>exact h
 | cons x l ih=>
  unfold Go.Proofs.YtbndfmkgamdgeaaGreatDoor.timesF;refine ih ?_
  split
  ·exact h.utime _ _ _ _
  ·exact h
theorem plant_nm (ms:List Mt) (is:List It):Nm (plantF ms is):=by
 unfold plantF;simp only;refine Nm.timesF (Nm.itemsF (Nm.mountsF ?_ ms) is) _;exact Nm.addRoot (S:=fs0) (fun a ha=>by cases ha) _ _ _
end
section
open Go.RowKit
structure Wy (S:Fs):Prop where
 ud:∀ a∈S.ns,a.kind=1→∃ b,S.get a.up=some b∧b.kind=1
 sd:∀ a∈S.ns,∀ x∈a.ents,∃ b,S.get x.no=some b∧b.dev=a.dev
 mp:∀ d∈S.ds,d.over≠0→∃ b,S.get d.over=some b∧S.root b.dev≠b.no
theorem Sub.up {S S':Fs} (h:Sub S S') {k:Int} (hk:∃ b,S.get k=some b∧b.kind=1):∃ b,S'.get k=some b∧b.kind=1:=by
 obtain⟨b,hb,h1⟩:=hk;obtain⟨c,hc,e1,-⟩:=h _ _ hb;exact⟨c,hc,by rw [e1];exact h1⟩
theorem Sub.dev {S S':Fs} (h:Sub S S') {k d:Int} (hk:∃ b,S.get k=some b∧b.dev=d):∃ b,S'.get k=some b∧b.dev=d:=by
 obtain⟨b,hb,h1⟩:=hk;obtain⟨c,hc,-,-,e3,-⟩:=h _ _ hb;exact⟨c,hc,by rw [e3];exact h1⟩
theorem Sub.mp {S S':Fs} (h:Sub S S') {k:Int} (hk:∃ b,S.get k=some b∧S.root b.dev≠b.no):∃ b,S'.get k=some b∧S'.root b.dev≠b.no:=by
 obtain⟨b,hb,h1⟩:=hk;obtain⟨c,hc,-,-,e3,e4⟩:=h _ _ hb;refine ⟨c,hc,?_⟩;rw [e3,e4,an_no hc,←an_no hb];exact h1
theorem Wy.set {S:Fs} (h:Wy S) {a b:An} (hb:S.get a.no=some b) (hk:a.kind=b.kind) (hd:a.dev=b.dev) (hu:a.up=b.up) (hr:∀ x∈a.ents,∃ c,S.get x.no=some c∧c.dev=a.dev):Wy (S.set a):=by
 have hsub:Sub S (S.set a):=fun k c hc=>by
  rw [an_set hb];by_cases hka:k=a.no
  ·rw [if_pos hka];rw [hka,hb] at hc;injection hc with hc;subst hc;exact⟨a,rfl,hk,hu,hd,rfl⟩
  ·rw [if_neg hka];exact⟨c,hc,rfl,rfl,rfl,rfl⟩
 refine ⟨fun y hy hyk=>?_,fun y hy x hx=>?_,fun d hd0 ho=>hsub.mp (h.mp d hd0 ho)⟩
 ·unfold Fs.set at hy;simp only [List.mem_map] at hy;obtain⟨z,hz,rfl⟩:=hy
  split at hyk
  ·rename_i he;rw [if_pos he];have:=h.ud b (an_mem hb) (by rw [←hk];exact hyk);rw [←hu] at this;exact hsub.up this
  ·rename_i he;rw [if_neg he];exact hsub.up (h.ud z hz hyk)
 ·unfold Fs.set at hy;simp only [List.mem_map] at hy;obtain⟨z,hz,rfl⟩:=hy
  split at hx
  ·rename_i he;rw [if_pos he];exact hsub.dev (hr x hx)
  ·rename_i he;rw [if_neg he];exact hsub.dev (h.sd z hz x hx)
theorem Wy.setDev {S:Fs} (h:Wy S) {d:Int} {v u:Dv} (hv:S.dev d=some v) (hr:u.root=v.root) (ho:u.over=v.over):Wy (S.setDev d u):=by
 have hsub:Sub S (S.setDev d u):=fun k c hc=>⟨c,hc,rfl,rfl,rfl,setDev_root hv hr _⟩;refine ⟨h.ud,h.sd,fun e he h0=>?_⟩;have hvm:v∈S.ds:=by
  unfold Fs.dev at hv
  split at hv
  ·exact List.mem_of_getElem? hv
  ·cases hv
 unfold Fs.setDev at he;rcases List.mem_or_eq_of_mem_set he with he | rfl
 ·exact hsub.mp (h.mp e he h0)
 ·rw [ho] at h0 ⊢;exact hsub.mp (h.mp v hvm h0)
theorem Wy.add {S:Fs} {N:Nat} (hk:FsOk S N) (h:Wy S) {a:An} (he:a.ents=[]) (hu:a.kind=1→∃ b,S.get a.up=some b∧b.kind=1):Wy (S.add a):=by
 have hsub:=sub_add hk a;refine ⟨fun y hy hyk=>?_,fun y hy x hx=>?_,fun d hd0 ho=>hsub.mp (h.mp d hd0 ho)⟩
 ·rcases List.mem_append.1 hy with hy | hy
  ·exact hsub.up (h.ud y hy hyk)
  ·simp at hy;subst hy;exact hsub.up (hu hyk)
 ·rcases List.mem_append.1 hy with hy | hy
  ·exact hsub.dev (h.sd y hy x hx)
  ·simp at hy;subst hy;rw [show ({a with no:=S.last+1}:An).ents=a.ents from rfl,he] at hx
   cases hx
theorem Wy.addRoot {S:Fs} (hn:Nums S) (hdev:∀ a∈S.ns,a.dev≤S.ds.length) (h:Wy S) (k b n:Int) (h0:k≠0→∃ b,S.get k=some b∧S.root b.dev≠b.no):Wy (S.addRoot k b n):=by
 have hsub:Sub S (S.addRoot k b n):=fun q c hq=>by
  refine ⟨c,?_,rfl,rfl,rfl,addRoot_root S k b n (hdev c (an_mem hq))⟩;unfold Fs.get Fs.addRoot at *;simp only [List.find?_append,hq,Option.some_or]
 refine ⟨fun y hy hyk=>?_,fun y hy x hx=>?_,fun d hd0 ho=>?_⟩
 ·rcases List.mem_append.1 hy with hy | hy
  ·exact hsub.up (h.ud y hy hyk)
  ·simp at hy;subst hy;exact⟨_,addRoot_get hn k b n,rfl⟩
 ·rcases List.mem_append.1 hy with hy | hy
  ·exact hsub.dev (h.sd y hy x hx)
  ·simp at hy;subst hy;simp [an0] at hx
 ·unfold Fs.addRoot at hd0;rcases List.mem_append.1 hd0 with hd0 | hd0
  ·exact hsub.mp (h.mp d hd0 ho)
  ·simp at hd0;subst hd0;exact hsub.mp (h0 ho)
theorem Wy.new (b n:Int):Wy (fs0.addRoot 0 b n):=
 Wy.addRoot ⟨List.Pairwise.nil,fun x hx=>by cases hx⟩ (fun x hx=>by cases hx) ⟨fun x hx=>(by cases hx),fun x hx=>(by cases hx),fun d hd=>(by cases hd)⟩ 0 b n (fun h=>absurd rfl h)
theorem Wy.make {S:Fs} {N:Nat} (hk:FsOk S N) (h:Wy S) {a:An} (he:a.ents=[]) (hu:a.kind=1→∃ b,S.get a.up=some b∧b.kind=1):Wy (S.make a).1:=by
 unfold Fs.make
 split
 ·exact h
 ·split
  ·exact h
  ·rename_i v hv;simp only
   split
   ·have h2:=h.setDev (u:={v with b:=v.b+blkI a.kind a.data.size,n:=v.n+1}) hv rfl rfl;have hk2:=hk.setDev (u:={v with b:=v.b+blkI a.kind a.data.size,n:=v.n+1}) hv rfl;exact h2.add hk2 he hu
   ·exact h
theorem Wy.touch {S:Fs} (h:Wy S) (now dir:Int) (l:List En) (hl:∀ d,S.get dir=some d→∀ x∈l,∃ c,S.get x.no=some c∧c.dev=d.dev):Wy (S.touch now dir l):=by
 unfold Fs.touch
 split
 ·exact h
 ·rename_i d hd;exact h.set (b:=d) (by show S.get d.no=_;rw [an_no hd];exact hd) rfl rfl rfl (hl d hd)
theorem put_dev {S:Fs} {l:List En} {q:Int} (h:∀ x∈l,∃ c,S.get x.no=some c∧c.dev=q) {s:ByteArray} {k:Int} (hk:∃ c,S.get k=some c∧c.dev=q):∀ x∈entPut l s k,∃ c,S.get x.no=some c∧c.dev=q:=by
 intro x hx;unfold entPut at hx;rcases List.mem_append.1 hx with hx | hx
 ·exact h x (List.mem_filter.1 hx).1
 ·rcases List.mem_cons.1 hx with rfl | hx
  ·exact hk
  ·exact h x (List.mem_filter.1 hx).1
theorem Wy.come {S:Fs} {N:Nat} (hk:FsOk S N) (ht:Tr S) (h:Wy S) {a:An} (c:Cr) (now dir:Int) (s:ByteArray) (he:a.ents=[]) (hu:a.kind=1→a.up=dir):Wy (S.come c now dir s a).1:=by
 unfold Fs.come
 split
 ·exact h
 ·rename_i hpl;obtain⟨d,hd,hdk,hce⟩:=place_check (by simpa using hpl);rw [hd];simp only
  split
  ·exact h
  ·obtain ⟨m1,m2,m3⟩:=ht.make hk (a:={a with dev:=d.dev,uid:=c.u,gid:=c.g,mtime:=now,ctime:=now,links:=1}) he;have hm:=h.make hk (a:={a with dev:=d.dev,uid:=c.u,gid:=c.g,mtime:=now,ctime:=now,links:=1}) he (fun hq=>⟨d,by rw [show ({a with dev:=d.dev,uid:=c.u,gid:=c.g,mtime:=now,ctime:=now,links:=1}:An).up=dir from hu hq];exact hd,hdk⟩)
   split
   ·exact h
   ·rename_i h0;obtain⟨e1,e2,e3⟩:=m3 (by simpa using h0);refine hm.touch _ _ _ fun d2 hd2=>?_;obtain⟨d3,hd3,-,-,hv3,-⟩:=m2 _ _ hd;rw [hd2] at hd3;injection hd3 with hd3;subst hd3;rw [e1,hv3];exact put_dev (fun x hx=>m2.dev (h.sd d (an_mem hd) x hx)) ⟨_,e2,rfl⟩
theorem Wy.mkdir {S:Fs} {N:Nat} (hk:FsOk S N) (ht:Tr S) (h:Wy S) (c:Cr) (now dir:Int) (s:ByteArray) (m:Int):Wy (S.mkdir c now dir s m).1:=by
 unfold Fs.mkdir
 split
 ·exact h
 ·exact h.come hk ht c now dir s rfl (fun _=>rfl)
theorem Wy.file {S:Fs} {N:Nat} (hk:FsOk S N) (ht:Tr S) (h:Wy S) (c:Cr) (now dir:Int) (s:ByteArray) (m:Int) (t:ByteArray):Wy (S.file c now dir s m t).1:=by
 unfold Fs.file
 split
 ·exact h
 ·split
  ·exact h
  ·exact h.come hk ht c now dir s rfl (fun hq=>absurd hq (by dsimp only;decide))
theorem Wy.sym {S:Fs} {N:Nat} (hk:FsOk S N) (ht:Tr S) (h:Wy S) (c:Cr) (now dir:Int) (s t:ByteArray):Wy (S.sym c now dir s t).1:=by
 unfold Fs.sym
 split
 ·exact h
 ·split
  ·exact h
  ·exact h.come hk ht c now dir s rfl (fun hq=>absurd hq (by dsimp only;decide))
theorem Wy.same {S:Fs} (h:Wy S) {n m:An} (hn:S.get n.no=some n) (h0:m.no=n.no) (h1:m.kind=n.kind) (h2:m.dev=n.dev) (h3:m.up=n.up) (h4:m.ents=n.ents):Wy (S.set m):=
 h.set (b:=n) (by rw [h0];exact hn) h1 h2 h3 (by rw [h2,h4];exact h.sd n (an_mem hn))
theorem Wy.hard {S:Fs} (h:Wy S) (c:Cr) (now no dir:Int) (s:ByteArray):Wy (S.hard c now no dir s).1:=by
 unfold Fs.hard
 split
 ·exact h
 ·rename_i hpl;obtain⟨d0,hd0,hdk,hce⟩:=place_check (by simpa using hpl)
  split
  ·rename_i d n hd hn;rw [hd] at hd0;injection hd0 with hd0;subst hd0
   split
   ·exact h
   ·rename_i hnk
    split
    ·exact h
    ·split
     ·exact h
     ·rename_i hdv
      split
      ·exact h
      ·have hs:=h.same (m:={n with links:=n.links+1,ctime:=now}) (get_self hn) rfl rfl rfl rfl rfl;have hset:S.get ({n with links:=n.links+1,ctime:=now}:An).no=some n:=get_self hn;have hno:=an_no hn;have hsub:Sub S (S.set {n with links:=n.links+1,ctime:=now}):=fun k c hc=>by
        rw [an_set hset]
        split
        ·rename_i hkn;rw [hkn,hset] at hc;injection hc with hc;subst hc;exact⟨_,rfl,rfl,rfl,rfl,rfl⟩
        ·exact ⟨c,hc,rfl,rfl,rfl,rfl⟩
       refine hs.touch _ _ _ fun d2 hd2=>?_;obtain⟨d3,hd3,-,-,hv3,-⟩:=hsub _ _ hd;rw [hd2] at hd3;injection hd3 with hd3;subst hd3;rw [hv3];exact put_dev (fun x hx=>hsub.dev (h.sd d (an_mem hd) x hx)) (hsub.dev ⟨n,hn,by simpa using hdv⟩)
  ·exact h
theorem Wy.mount {S:Fs} {N:Nat} (hk:FsOk S N) (h:Wy S) (k b n:Int):Wy (S.mount k b n).1:=by
 unfold Fs.mount
 split
 ·exact h
 ·rename_i a ha
  split
  ·exact h
  ·split
   ·exact h
   ·rename_i hr
    split
    ·exact h
    ·exact h.addRoot hk.nums (fun a ha=>(hk.all a ha).dev.2) k b n (fun _=>⟨a,ha,by rw [an_no ha];exact fun e=>hr (.inr e)⟩)
theorem Wy.chmod {S:Fs} (h:Wy S) (c:Cr) (now no m:Int):Wy (S.chmod c now no m).1:=by
 unfold Fs.chmod
 split
 ·exact h
 ·rename_i n hn
  split
  ·exact h
  ·split
   ·exact h
   ·exact h.same (get_self hn) rfl rfl rfl rfl rfl
theorem Wy.chown {S:Fs} (h:Wy S) (c:Cr) (now no u g:Int):Wy (S.chown c now no u g).1:=by
 unfold Fs.chown
 split
 ·exact h
 ·rename_i n hn
  split
  ·exact h
  ·split
   ·exact h
   ·split
    ·exact h
    ·exact h.same (get_self hn) rfl rfl rfl rfl rfl
theorem Wy.utime {S:Fs} (h:Wy S) (c:Cr) (now no t:Int):Wy (S.utime c now no t).1:=by
 unfold Fs.utime
 split
 ·exact h
 ·rename_i n hn
  split
  ·exact h
  ·split
   ·exact h
   ·exact h.same (get_self hn) rfl rfl rfl rfl rfl
theorem Wy.mountF {S:Fs} {N:Nat} (hk:FsOk S N) (ht:Tr S) (h:Wy S) (m:Mt):Wy (mountF S m):=by
 unfold Go.Proofs.YtbndfmkgamdgeaaGreatDoor.mountF
 split
 ·exact h
 ·split
  ·have h1:=h.mkdir hk ht c00 0 (S.path c00 m.path false).1.dir (S.path c00 m.path false).1.name 493;have hk1:=mkdir_ok hk c00 0 (S.path c00 m.path false).1.dir (S.path c00 m.path false).1.name 493;simp only
   split
   ·exact h1
   ·exact h1.mount hk1 _ _ _
  ·exact h.mount hk _ _ _
theorem Wy.mountsF {S:Fs} {N:Nat} (hk:FsOk S N) (ht:Tr S) (h:Wy S) (l:List Mt):Wy (mountsF S l):=by
 induction l generalizing S N with
 | nil=>exact h
 | cons m l ih=>
  unfold Go.Proofs.YtbndfmkgamdgeaaGreatDoor.mountsF;by_cases hm:m.path=topB
  ·rw [if_pos hm];exact ih hk ht h
  ·rw [if_neg hm];exact ih (mountF_ok hk m) (ht.mountF hk m) (h.mountF hk ht m)
theorem Wy.nodeF {S:Fs} {N:Nat} (hk:FsOk S N) (ht:Tr S) (h:Wy S) (it:It):Wy (nodeF S it).1:=by
 unfold Go.Proofs.YtbndfmkgamdgeaaGreatDoor.nodeF;simp only
 split
 ·exact h
 ·split
  ·split <;> exact h
  ·split
   ·exact h.mkdir hk ht _ _ _ _ _
   ·split
    ·exact h.file hk ht _ _ _ _ _ _
    ·split
     ·exact h.sym hk ht _ _ _ _ _
     ·split
      ·split
       ·exact h.hard _ _ _ _ _
       ·exact h
      ·exact h
theorem Wy.itemF {S:Fs} {N:Nat} (hk:FsOk S N) (ht:Tr S) (h:Wy S) (it:It):Wy (itemF S it).1:=by
 unfold Go.Proofs.YtbndfmkgamdgeaaGreatDoor.itemF;have h1:=h.nodeF hk ht it;simp only
 split
 ·exact (h1.chown _ _ _ _ _).chmod _ _ _ _
 ·exact h1
theorem Wy.itemsF {S:Fs} {N:Nat} (hk:FsOk S N) (ht:Tr S) (h:Wy S) (l:List It):Wy (itemsF S l).1:=by
 induction l generalizing S N with
 | nil=>exact h
 | cons x l ih=>exact ih (itemF_ok2 hk x) (ht.itemF hk x) (h.itemF hk ht x)
theorem Wy.timesF {S:Fs} (h:Wy S) (l:List (It×Int)):Wy (timesF S l):=by
 induction l generalizing S with
 | nil=>exact h
 | cons x l ih=>
  unfold Go.Proofs.YtbndfmkgamdgeaaGreatDoor.timesF;refine ih ?_
  split
  ·exact h.utime _ _ _ _
  ·exact h
theorem plant_wy (ms:List Mt) (is:List It):Wy (plantF ms is):=by
 unfold plantF;simp only;have hk:=FsOk.new (limitsF ms).1 (limitsF ms).2;exact Wy.timesF (Wy.itemsF (mountsF_ok hk ms) (Tr.mountsF hk (Tr.new _ _) ms) (Wy.mountsF hk (Tr.new _ _) (Wy.new _ _) ms) is) _
end
section
open Go.RowKit
attribute [local go_sem] Oper.semAt_some
theorem leap_any (y:Int) (w:World):Calls Tryz.prog 252 #[.int .i64 y] w fun e w'=>e=.returned (.bool (leapF y))∧w=w':=by
 have HL:=Lib.hid (show leapF y=(decide (y.tmod 4=0) && (decide (y.tmod 100≠0) || decide (y.tmod 400=0))) from rfl);generalize leapF y=r at HL ⊢;go_enter Tryz.func252,Tryz.ntmps252;go_wp2_with fail
 all_goals
  go_ret;refine ⟨?_,rfl⟩;rw [HL.out]
  simp_all <;> rfl
theorem days_any (y m:Int) (w:World):Calls Tryz.prog 230 #[.int .i64 y,.int .i64 m] w fun e w'=>e=.returned (.int .i64 (daysF y m))∧w=w':=by
 have HL:=Lib.hid (leap_any y);have HD:=Lib.hid (show daysF y m=if m=1∨m=3∨m=5∨m=7∨m=8∨m=10∨m=12 then 31 else if m=4∨m=6∨m=9∨m=11 then 30 else if m=2 then (if leapF y=true then 29 else 28) else 0 from rfl);generalize daysF y m=d at HD ⊢;generalize leapF y=b at HL HD;go_enter Tryz.func230,Tryz.ntmps230;go_wp2_with (go_at_call 252;refine (HL.out _).mono ?_;rintro e w1 ⟨rfl,rfl⟩)
 all_goals
  go_ret;refine ⟨?_,rfl⟩;rw [HD.out]
  simp_all
theorem days_le (y m:Int):0≤daysF y m∧daysF y m≤31:=by
 unfold daysF
 split
 ·omega
 ·split
  ·omega
  ·split
   ·split <;> omega
   ·omega
theorem seconds_any (c:Cv) (h0:0≤c.y∧0≤c.m∧0≤c.d∧0≤c.h∧0≤c.n∧0≤c.s) (h9:c.y≤9999∧c.m≤9999∧c.d≤9999∧c.h≤9999∧c.n≤9999∧c.s≤9999) (w:World) :
  Calls Tryz.prog 182 #[.agg #[.int .i64 c.y,.int .i64 c.m,.int .i64 c.d,.int .i64 c.h,.int .i64 c.n,.int .i64 c.s]] w fun e w'=>e=.returned (.tuple #[.int .i64 (secondsF c).1,.int .i64 (secondsF c).2])∧Below w.heap.size w w':=by
 obtain⟨y,m,d,h,n,s⟩:=c;dsimp only at h0 h9 ⊢;have HS:=Lib.hid (show secondsF ⟨y,m,d,h,n,s⟩=if y<0∨9999<y∨d<1∨daysF y m<d then (0,2) else if h<0∨23<h∨n<0∨59<n∨s<0∨59<s then (0,2) else if y<1970 then (0,3) else (secsOf ⟨y,m,d,h,n,s⟩,0) from rfl);generalize secondsF ⟨y,m,d,h,n,s⟩=r at HS ⊢;have HC:=Lib.hid (show secsOf ⟨y,m,d,h,n,s⟩=(if m - 3<0 then dayNo (y - 1) (m - 3+12) d else dayNo y (m - 3) d)*86400+h*3600+n*60+s from rfl);generalize secsOf ⟨y,m,d,h,n,s⟩=q at HC HS;have HD:=Lib.hid (days_any y m);have hdl:=days_le y m;generalize daysF y m=dm at HD HS hdl;have hB:=Blk.new w #[.int .i64 y,.int .i64 m,.int .i64 d,.int .i64 h,.int .i64 n,.int .i64 s] 287;have hb:=balloc (Below.refl w.heap.size w) (.cells #[.int .i64 y,.int .i64 m,.int .i64 d,.int .i64 h,.int .i64 n,.int .i64 s] 287);obtain⟨y0,m0,d0,g0,n0,s0⟩:=h0;obtain⟨y9,m9,d9,g9,n9,s9⟩:=h9;have i1:decide (y<0)=false:=decide_eq_false (by omega);have i2:decide (9999<y)=false:=decide_eq_false (by omega);have i3:decide (h<0)=false:=decide_eq_false (by omega);have i4:decide (n<0)=false:=decide_eq_false (by omega);have i5:decide (s<0)=false:=decide_eq_false (by omega);go_enter Tryz.func182,Tryz.ntmps182;go_upto_region 1 with fail;generalize w.alloc (.cells #[.int .i64 y,.int .i64 m,.int .i64 d,.int .i64 h,.int .i64 n,.int .i64 s] 287)=W at hB hb ⊢;have HB:=Lib.hid (And.intro hB hb);have q0:=hB.cell 0;have q1:=hB.cell 1;have q2:=hB.cell 2;have q3:=hB.cell 3;have q4:=hB.cell 4;have q5:=hB.cell 5;simp only [List.getElem?_toArray,List.getElem?_cons_zero,List.getElem?_cons_succ] at q0 q1 q2 q3 q4 q5;have bz:=hB.lt;clear hB hb;by_cases c1:d<1
 ·have HR:=Lib.hid (HS.out.trans (if_pos (.inr (.inr (.inl c1)))));have k1:decide (d<1)=true:=decide_eq_true c1;clear c1
  go_quiet (fail)
  go_wp2_with fail;go_ret2;exact⟨by rw [HR.out];rfl,below_drewN HB.out.2 _⟩
 ·have k1:decide (d<1)=false:=decide_eq_false c1;by_cases c2:dm<d
  ·have HR:=Lib.hid (HS.out.trans (if_pos (.inr (.inr (.inr c2)))));have k2:decide (dm<d)=true:=decide_eq_true c2;clear c1 c2
   go_quiet ((go_at_call 230;exact Calls.quiet_of_same ((HD.out _).mono fun _ _ ⟨h1,h2⟩=>⟨h1,h2.symm⟩)))
   go_wp2_with fail;go_ret2;exact⟨by rw [HR.out];rfl,below_drewN HB.out.2 _⟩
  ·have k2:decide (dm<d)=false:=decide_eq_false c2;have HS1:=Lib.hid (HS.out.trans (if_neg (by omega)));have hd31:d≤31:=by omega
   have hd1:1≤d:=by omega
   clear c1 c2
   go_quiet ((go_at_call 230;exact Calls.quiet_of_same ((HD.out _).mono fun _ _ ⟨h1,h2⟩=>⟨h1,h2.symm⟩)))
   by_cases c3:23<h∨59<n∨59<s
   ·have HR:=Lib.hid (HS1.out.trans (if_pos (by omega)));go_wp2_with fail
    all_goals first
     | (go_ret2;exact ⟨by rw [HR.out];rfl,below_drewN HB.out.2 _⟩)
     | (exfalso;simp_all;omega)
   ·have HS2:=Lib.hid (HS1.out.trans (if_neg (by omega)));have k3:decide (23<h)=false:=decide_eq_false (by omega);have k4:decide (59<n)=false:=decide_eq_false (by omega);have k5:decide (59<s)=false:=decide_eq_false (by omega);clear c3;by_cases c4:y<1970
    ·have HR:=Lib.hid (HS2.out.trans (if_pos c4));go_wp2_with fail;go_ret2;exact⟨by rw [HR.out];rfl,below_drewN HB.out.2 _⟩
    ·have HR:=Lib.hid (HS2.out.trans (if_neg c4));go_upto_region 7 with fail
     go_quiet (fail)
     go_wp2_with fail
     ·have HQ:=HC.out;rw [if_pos (by assumption)] at HQ;go_ret2;exact⟨by rw [HR.out,HQ];rfl,below_drewN HB.out.2 _⟩
     ·have HQ:=HC.out;rw [if_neg (by omega)] at HQ;go_ret2;exact⟨by rw [HR.out,HQ];rfl,below_drewN HB.out.2 _⟩
end
end Go.Proofs.YtbndfmkgamdgeaaGreatDoor
