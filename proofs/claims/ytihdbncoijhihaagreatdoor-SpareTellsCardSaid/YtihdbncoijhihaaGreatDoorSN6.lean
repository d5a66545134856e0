import Derived.Test.YtihdbncoijhihaaGreatDoorSN5
import Derived.Test.YtihdbncoijhihaaGreatDoorSN4
import Derived.Test.YtihdbncoijhihaaGreatDoorSN1
import Derived.Test.YtihdbncoijhihaaGreatDoorProg
set_option linter.unusedVariables false
set_option linter.unusedSimpArgs false
set_option maxRecDepth 100000
set_option maxHeartbeats 16000000
namespace Go.Proofs.YtihdbncoijhihaaGreatDoor
section
open Go.RowKit
def Fs.withinN (S:Fs) (base:Int):Nat→Int→Bool
 | 0,_=>false
 | n+1,no=>if no=0 then false else if no=base then true else S.withinN base n (S.above no)
def Fs.within (S:Fs) (no base:Int):Bool:=S.withinN base (S.ns.length+1) no
def Fs.busy (S:Fs) (no:Int):Bool:=(S.ds.drop 1).any (fun d=>S.within d.over no)
def entName (l:List En) (no:Int):Option ByteArray:=(l.find? (fun x=>x.no == no)).map (·.name)
def Fs.entsOf (S:Fs) (no:Int):List En:=match S.get no with | some a=>a.ents | none=>[]
def Fs.child (S:Fs) (no:Int):Int:=match S.get no with
 | none=>no
 | some a=>if S.root a.dev=no∧1<a.dev then (match S.dev a.dev with | some v=>v.over | none=>no) else no
def Fs.whereN (S:Fs):Nat→Int→ByteArray→Option ByteArray
 | 0,_,_=>none
 | n+1,no,s=>if no=1 then some (if s.size=0 then topB else s) else match entName (S.entsOf (S.above no)) (S.child no) with
  | none=>none
  | some nm=>S.whereN n (S.above no) (topB ++ nm ++ s)
def Fs.place_ (S:Fs) (no:Int):Option ByteArray:=S.whereN (S.ns.length+1) no ByteArray.empty
theorem entName_cons (x:En) (l:List En) (no:Int):entName (x :: l) no=if x.no=no then some x.name else entName l no:=by
 unfold entName;rw [List.find?_cons];by_cases h:x.no=no
 ·rw [if_pos h,show (x.no == no)=true by simpa using h];rfl
 ·rw [if_neg h,show (x.no == no)=false by simpa using h]
theorem entName_mem {l:List En} {no:Int} {s:ByteArray} (h:entName l no=some s):∃ x∈l,x.name=s:=by
 unfold entName at h
 cases hf:l.find? (fun x=>x.no == no) with
 | none=>rw [hf] at h;cases h
 | some x=>
  rw [hf] at h;exact⟨x,List.mem_of_find?_eq_some hf,by simpa using h⟩
section
variable {S:Fs} {N:Nat}
theorem get_zero (hk:FsOk S N):S.get 0=none:=by
 cases h:S.get 0 with
 | none=>rfl
 | some a=>
  have:=(hk.get h).2.2.1;omega
theorem above_zero (hk:FsOk S N):S.above 0=0:=above_none (get_zero hk)
theorem ents_zero (hk:FsOk S N):S.entsOf 0=[]:=by unfold Fs.entsOf;rw [get_zero hk]
theorem above_step (hk:FsOk S N) (h:Pl S) {no:Int} (hne:S.above no≠no):S.above no=0∨(1≤S.above no∧S.above no<no∧no≤S.last∧no≠1):=by
 cases hg:S.get no with
 | none=>exact .inl (above_none hg)
 | some a=>
  by_cases hd:a.kind=1
  ·by_cases h1:no=1
   ·subst h1;exact absurd (above_top hk h hg hd) hne
   ·have:=above_lt hk h hg hd h1;exact .inr ⟨this.1,this.2,get_low hk.nums hg,h1⟩
  ·exact .inl (above_leaf hg hd)
theorem above_end (hk:FsOk S N) (h:Pl S) {no:Int} (he:S.above no=no):no=0∨no=1:=by
 cases hg:S.get no with
 | none=>rw [above_none hg] at he;exact .inl he.symm
 | some a=>
  by_cases hd:a.kind=1
  ·by_cases h1:no=1
   ·exact .inr h1
   ·have:=above_lt hk h hg hd h1;omega
  ·rw [above_leaf hg hd] at he;exact .inl he.symm
theorem pl_one (hk:FsOk S N) (h:Pl S):1≤S.ns.length:=by
 have h1:=h.top;have h2:=hk.d1;have h3:=h.len;unfold Fs.root at h1;rw [if_pos (by omega)] at h1;rw [show ((1:Int) - 1).toNat=0 from rfl,List.getElem?_eq_getElem (by omega)] at h1;have h4:=hk.root S.ds[0] (List.getElem_mem _);simp only at h1;omega
theorem above_one (hk:FsOk S N) (h:Pl S):S.above 1=1:=by
 obtain⟨a,hg,hd⟩:=h.one;exact above_top hk h hg hd
theorem within_zero (base:Int) (n:Nat):S.withinN base n 0=false:=by cases n <;> simp [Fs.withinN]
theorem within_fix {base no:Int} (h1:S.above no=no) (h2:no≠base) (n:Nat):S.withinN base n no=false:=by
 induction n with
 | zero=>rfl
 | succ n ih=>
  rw [Fs.withinN,if_neg h2,h1,ih]
  split <;> rfl
def Fs.need (S:Fs) (k:Nat) (no:Int):Prop:=no=0∨no<k∧1≤k∨(S.above no=0∧2≤k)
theorem need_start (hk:FsOk S N) (h:Pl S) (no:Int):S.need (S.ns.length+1) no:=by
 have h1:=pl_one hk h;by_cases hne:S.above no=no
 ·rcases above_end hk h hne with h0 | h0
  ·exact .inl h0
  ·exact .inr (.inl ⟨by omega,by omega⟩)
 ·rcases above_step hk h hne with h0 | ⟨-,-,h3,-⟩
  ·exact .inr (.inr ⟨h0,by omega⟩)
  ·have:=h.len;exact .inr (.inl ⟨by omega,by omega⟩)
theorem within_yes {no base:Int} {k:Nat} (hn:S.need k no) (h0:no≠0) (hb:no=base):S.withinN base k no=true:=by
 cases k with
 | zero=>rcases hn with h | ⟨-,h⟩|⟨-,h⟩ <;> omega
 | succ k=>unfold Fs.withinN;rw [if_neg h0,if_pos hb]
theorem within_step (hk:FsOk S N) (h:Pl S) {no base:Int} {k:Nat} (hn:S.need k no) (h0:no≠0) (hb:no≠base) (hu:S.above no≠no):S.withinN base k no=S.withinN base (k - 1) (S.above no)∧S.need (k - 1) (S.above no):=by
 have h1:1≤k:=by rcases hn with h | ⟨-,h⟩|⟨-,h⟩ <;> omega
 obtain⟨k,rfl⟩:∃ j,k=j+1:=⟨k - 1,by omega⟩;refine ⟨by rw [Fs.withinN,if_neg h0,if_neg hb];rfl,?_⟩;rcases above_step hk h hu with h0 | ⟨h1,h2,h3,-⟩
 ·exact .inl h0
 ·rcases hn with h | ⟨h,-⟩|⟨h,-⟩
  ·exact absurd h h0
  ·exact .inr (.inl ⟨by omega,by omega⟩)
  ·omega
def catL (l:List (List UInt8)):List UInt8:=l.reverse.flatMap (fun s=>47 :: s)
theorem catL_snoc (l:List (List UInt8)) (s:List UInt8):catL (l ++ [s])=47 :: (s ++ catL l):=by simp [catL]
theorem catL_nil (l:List (List UInt8)):catL l=[]↔l=[]:=by
 constructor
 ·intro h
  cases l with
  | nil=>rfl
  | cons x l=>simp [catL] at h
 ·rintro rfl;rfl
theorem catL_len {l:List (List UInt8)} (h:∀ x∈l,x.length≤255):(catL l).length≤256*l.length:=by
 unfold catL;rw [List.length_flatMap];have:∀ m:List (List UInt8),(∀ x∈m,x.length≤255)→(m.map (fun s=>(47 :: s).length)).sum≤256*m.length:=by
  intro m
  induction m with
  | nil=>intro _;simp
  | cons x m ih=>
   intro hx;have h1:=ih (fun y hy=>hx y (List.mem_cons_of_mem _ hy));have h2:=hx x List.mem_cons_self;simp only [List.map_cons,List.sum_cons,List.length_cons];simp only [List.length_cons] at h1;omega
 have h1:=this l.reverse (fun x hx=>h x (List.mem_reverse.1 hx));rw [List.length_reverse] at h1;exact h1
structure WhSt (S:Fs) (no0 no:Int) (l:List (List UInt8)):Prop where
 few:l.length≤S.ns.length
 small:∀ x∈l,x.length≤255
 eq:S.place_ no0=S.whereN (S.ns.length+1 - l.length) no (str (catL l))
 room:1≤no→no≤S.last→no.toNat+l.length≤S.ns.length+1
theorem WhSt.start (h:Pl S) (no:Int):WhSt S no no []:=⟨Nat.zero_le _,(by intro x hx;cases hx),rfl,fun _ h2=>by
 have:=h.len;show no.toNat+0≤_;omega⟩
theorem where_zero (hk:FsOk S N) (k:Nat) (s:ByteArray):S.whereN k 0 s=none:=by
 cases k with
 | zero=>rfl
 | succ k=>
  unfold Fs.whereN;rw [if_neg (by decide),above_zero hk,ents_zero hk];rfl
theorem WhSt.top (hk:FsOk S N) (h:Pl S) {no0:Int} {l:List (List UInt8)} (hs:WhSt S no0 1 l):S.place_ no0=some (if l=[] then topB else str (catL l)):=by
 have h1:=pl_one hk h;have h2:=h.len;have h3:=hs.room (Int.le_refl _) (by omega);rw [hs.eq];obtain⟨k,hkk⟩:∃ j,S.ns.length+1 - l.length=j+1:=⟨S.ns.length - l.length,by omega⟩;rw [hkk];unfold Fs.whereN;rw [if_pos rfl];by_cases hl:l=[]
 ·subst hl;rfl
 ·rw [if_neg hl,if_neg];rw [str_size];intro h0;exact hl ((catL_nil l).1 (List.eq_nil_of_length_eq_zero h0))
theorem WhSt.other (hk:FsOk S N) (h:Pl S) {no0 no:Int} {l:List (List UInt8)} (hs:WhSt S no0 no l) (he:S.above no=no) (h1:no≠1):S.place_ no0=none:=by
 obtain rfl:no=0:=(above_end hk h he).resolve_right h1;rw [hs.eq,where_zero hk]
theorem WhSt.fail (hk:FsOk S N) (h:Pl S) {no0 no:Int} {l:List (List UInt8)} (hs:WhSt S no0 no l) (hu:S.above no≠no) (hn:entName (S.entsOf (S.above no)) (S.child no)=none):S.place_ no0=none:=by
 rw [hs.eq];have h1:no≠1:=by
  rintro rfl;exact hu (above_one hk h)
 cases S.ns.length+1 - l.length with
 | zero=>rfl
 | succ k=>unfold Fs.whereN;rw [if_neg h1,hn]
theorem child_eq (S:Fs) (no:Int):S.child no=match S.get no with
 | none=>no
 | some a=>if S.root a.dev=no∧1<a.dev then (match S.dev a.dev with | some v=>v.over | none=>no) else no:=rfl
theorem child_none {no:Int} (hg:S.get no=none):S.child no=no:=by rw [child_eq,hg]
theorem child_same {no:Int} {a:An} (hg:S.get no=some a) (hr:S.root a.dev≠no):S.child no=no:=by rw [child_eq,hg];exact if_neg (fun h=>hr h.1)
theorem child_over (hk:FsOk S N) (h:Pl S) {no:Int} {a:An} (hg:S.get no=some a) (hr:S.root a.dev=no) (h1:no≠1):1<a.dev∧∃ v,S.dev a.dev=some v∧S.child no=v.over:=by
 have hd:=(hk.get hg).1.dev;have hd1:1<a.dev:=by
  rcases Int.lt_or_le 1 a.dev with h2 | h2
  ·exact h2
  ·exfalso;have h3:a.dev=1:=by omega
   rw [h3,h.top] at hr;exact h1 hr.symm
 obtain⟨v,hv,-,-,-⟩:=root_of hk hd.1 hd.2;refine ⟨hd1,v,hv,?_⟩;rw [child_eq,hg];show (if _ then _ else _)=_;rw [if_pos ⟨hr,hd1⟩,hv]
theorem WhSt.more (hk:FsOk S N) (h:Pl S) {no0 no:Int} {l:List (List UInt8)} (hs:WhSt S no0 no l) (hu:S.above no≠no) {s:ByteArray} (hn:entName (S.entsOf (S.above no)) (S.child no)=some s):WhSt S no0 (S.above no) (l ++ [s.data.toList])∧l.length+1≤S.ns.length:=by
 have hab:1≤S.above no∧S.above no<no∧no≤S.last∧no≠1:=by
  rcases above_step hk h hu with h0 | h0
  ·rw [h0,ents_zero hk] at hn
   cases hn
  ·exact h0
 obtain⟨h1,h2,h3,h4⟩:=hab;have hro:=hs.room (by omega) h3;have hln:l.length+1≤S.ns.length:=by omega
 have hnm:NmOk s:=by
  obtain⟨x,hx,rfl⟩:=entName_mem hn;unfold Fs.entsOf at hx
  cases hg:S.get (S.above no) with
  | none=>rw [hg] at hx;cases hx
  | some a=>
   rw [hg] at hx;exact h.names a (an_mem hg) x hx
 refine ⟨⟨by simp;omega,fun x hx=>?_,?_,fun _ _=>by simp;omega⟩,hln⟩
 ·rcases List.mem_append.1 hx with hx | hx
  ·exact hs.small x hx
  ·simp at hx;subst hx;have:=hnm.2;have h5:s.data.toList.length=s.size:=Array.length_toList;omega
 ·rw [hs.eq,catL_snoc];obtain⟨k,hkk⟩:∃ j,S.ns.length+1 - l.length=j+1:=⟨S.ns.length - l.length,by omega⟩;rw [hkk,show S.ns.length+1 - (l ++ [s.data.toList]).length=k by simp;omega,Fs.whereN,if_neg h4,hn];show S.whereN k _ _=S.whereN k _ _;congr 1
end
end
section
open Go.RowKit
structure RowOk (S:Fs) (no:Int) (l:List En):Prop where
 down:∀ x∈l,∃ b,S.get x.no=some b∧(b.kind=1→b.up=no∧S.root b.dev≠b.no)
 once:l.Pairwise (fun x y=>x.no=y.no→∀ b,S.get x.no=some b→b.kind≠1)
structure Tr (S:Fs):Prop where
 leaf:∀ a∈S.ns,a.kind≠1→a.ents=[]
 row:∀ a∈S.ns,RowOk S a.no a.ents
 zero:∀ d,S.ds[0]? = some d→d.over=0
 rts:∀ (i:Nat) (hi:i<S.ds.length),∃ r,S.get S.ds[i].root=some r∧r.kind=1∧r.dev=(i:Int)+1
def Sub (S S':Fs):Prop:=∀ k c,S.get k=some c→∃ c',S'.get k=some c'∧c'.kind=c.kind∧c'.up=c.up∧c'.dev=c.dev∧S'.root c.dev=S.root c.dev
end
section
open Go.RowKit
structure Rw where
 path:ByteArray
 kind:Int
 mode:Int
 uid:Int
 gid:Int
 mtime:Int
 ctime:Int
 dev:Int
 first:Int
 data:ByteArray
 deriving DecidableEq
def belowB (s n:ByteArray):ByteArray:=str (trimL s.data.toList ++ 47 :: n.data.toList)
def An.rw (n:An) (p:ByteArray) (first:Int):Rw:=⟨p,n.kind,n.mode,n.uid,n.gid,n.mtime,n.ctime,n.dev,first,n.data⟩
def kidsL (p:ByteArray) (n:An):List En:=n.ents.map fun e=>⟨belowB p e.name,e.no⟩
def Fs.rowsN (S:Fs):Nat→List En→List Int→List Rw→List Rw
 | 0,_,_,out=>out
 | _+1,[],_,out=>out
 | f+1,x :: todo,nos,out=>
  match S.get (S.over x.no) with
  | none=>S.rowsN f todo nos out
  | some n=>S.rowsN f (kidsL x.name n ++ todo) (nos ++ [n.no]) (out ++ [n.rw x.name (nos.idxOf n.no)])
def Fs.rowsF (S:Fs) (N:Nat):Nat:=1+(N+1)*S.ns.length
def Fs.rows (S:Fs) (N:Nat) (no:Int) (p:ByteArray):List Rw:=S.rowsN (S.rowsF N) [⟨p,no⟩] [] []
def Fs.isDir (S:Fs) (k:Int):Bool:=match S.get k with | some n=>n.kind == 1 | none=>false
def Fs.dirsT (S:Fs) (l:List En):List Int:=(l.map fun x=>S.over x.no).filter S.isDir
structure TrSt (S:Fs) (N:Nat) (s0:Int) (B:Nat) (todo:List En) (nos:List Int) (f:Nat):Prop where
 nodup:(S.dirsT todo ++ nos.filter S.isDir).Nodup
 src:∀ c∈S.dirsT todo ++ nos.filter S.isDir,c=s0∨S.above c∈nos.filter S.isDir
 low:∀ c∈S.dirsT todo ++ nos.filter S.isDir,s0≤c
 fuel:todo.length+(N+1)*(S.ns.length - (nos.filter S.isDir).length)≤f
 size:∀ x∈todo,x.name.size≤B+256*(if S.isDir (S.over x.no) then (S.over x.no).toNat else S.last.toNat+1)
end
section
open Go.RowKit
def Fs.topF (S:Fs) (no:Int):Int×ByteArray×Int:=
 match S.get no with
 | none=>(0,ByteArray.empty,5)
 | some a=>match S.place_ (S.root a.dev) with
  | none=>(0,ByteArray.empty,5)
  | some s=>(S.root a.dev,s,0)
def Fs.pathF (S:Fs) (dir:Int) (n:ByteArray):ByteArray×Int:=
 if checkE n≠0 then (ByteArray.empty,checkE n) else
 match S.get dir with
 | none=>(ByteArray.empty,5)
 | some a=>if a.kind≠1 then (ByteArray.empty,9) else
  match S.place_ dir with
  | none=>(ByteArray.empty,5)
  | some s=>if 4096<(belowB s n).size then (ByteArray.empty,13) else (belowB s n,0)
def Fs.isRoot (S:Fs) (no:Int):Bool:=match S.get no with | none=>false | some a=>S.root a.dev == no
def Fs.operandF (S:Fs) (c:Cr) (p:ByteArray):Fd×Int:=
 if pathE p≠0 then (fd0,pathE p)
 else if lastL p.data.toList=[] then (fd0,1)
 else if (S.path c p false).2≠0 then (fd0,(S.path c p false).2)
 else if (S.path c p false).1.no=0 then (fd0,5)
 else if (S.path c p false).1.name=ByteArray.empty then (fd0,1)
 else if S.busy (S.path c p false).1.no=true∨S.isRoot (S.path c p false).1.no=true then (fd0,16)
 else ((S.path c p false).1,0)
def There (S:Fs) (x:Fd×Int):Prop:=x.1.name=ByteArray.empty∨x.1.no=0∨∃ a,S.get x.1.no=some a
section
variable {S:Fs} {no dir:Int} {n s:ByteArray} {a:An}
theorem pathF_chk (h:checkE n≠0):S.pathF dir n=(ByteArray.empty,checkE n):=by unfold Fs.pathF;rw [if_pos h]
theorem pathF_none (hc:checkE n=0) (h:S.get dir=none):S.pathF dir n=(ByteArray.empty,5):=by unfold Fs.pathF;rw [if_neg (by simpa using hc),h]
theorem pathF_kind (hc:checkE n=0) (h:S.get dir=some a) (hk:a.kind≠1):S.pathF dir n=(ByteArray.empty,9):=by unfold Fs.pathF;rw [if_neg (by simpa using hc),h];simp only;rw [if_pos hk]
theorem pathF_gone (hc:checkE n=0) (h:S.get dir=some a) (hk:a.kind=1) (hp:S.place_ dir=none):S.pathF dir n=(ByteArray.empty,5):=by unfold Fs.pathF;rw [if_neg (by simpa using hc),h];simp only;rw [if_neg (by simpa using hk),hp]
theorem pathF_some (hc:checkE n=0) (h:S.get dir=some a) (hk:a.kind=1) (hp:S.place_ dir=some s):S.pathF dir n=if 4096<(belowB s n).size then (ByteArray.empty,13) else (belowB s n,0):=by unfold Fs.pathF;rw [if_neg (by simpa using hc),h];simp only;rw [if_neg (by simpa using hk),hp]
end
end
section
open Go.RowKit
def ent (x:Int×Value×Nat):MapEntry:={key:=.int .i64 x.1,val:=x.2.1,born:=x.2.2}
def MapB (w:World) (m:Nat) (l:List (Int×Value×Nat)) (clk:Nat):Prop:=w.heap[m]? = some (.map (l.map ent).toArray clk)
def KeysOnce (l:List (Int×Value×Nat)):Prop:=(l.map (·.1)).Nodup
def mapFind (l:List (Int×Value×Nat)) (k:Int):Option Value:=(l.find? (fun x=>x.1 == k)).map (·.2.1)
def mapPut (l:List (Int×Value×Nat)) (k:Int) (v:Value):List (Int×Value×Nat):=l.map fun x=>if x.1 == k then (k,v,x.2.2) else x
def mapDel (l:List (Int×Value×Nat)) (k:Int):List (Int×Value×Nat):=l.filter fun x=>!(x.1 == k)
theorem MapB.lt {w:World} {m:Nat} {l:List (Int×Value×Nat)} {clk:Nat} (h:MapB w m l clk):m<w.heap.size:=by
 unfold MapB at h;exact (Array.getElem?_eq_some_iff.1 h).1
theorem MapB.old {w:World} {m:Nat} {l:List (Int×Value×Nat)} {clk:Nat} (h:MapB w m l clk) (o:Obj):MapB (w.alloc o) m l clk:=
 (Below.heap_alloc w o m h.lt).trans h
theorem MapB.keep {w w':World} {m:Nat} {l:List (Int×Value×Nat)} {clk:Nat} (h:MapB w m l clk) (hb:Below w.heap.size w w'):MapB w' m l clk:=
 (hb.block m h.lt).trans h
theorem MapB.setOther {w:World} {m:Nat} {l:List (Int×Value×Nat)} {clk:Nat} (h:MapB w m l clk) (a:Addr) (v:Value) (hne:a.block≠m):MapB (w.setCell a v) m l clk:=
 (Below.heap_setCell w a v m (fun e=>hne e.symm)).trans h
theorem findNow_list (k:Int):∀ (l:List (Int×Value×Nat)) (i:Nat),
  Instr.findNow (.int .i64) (.int .i64 k) (l.map ent) i=some ((l.findIdx? (fun x=>x.1 == k)).bind fun j=>(l[j]?).map fun x=>(i+j,x.2.1))
 | [],i=>by simp [Instr.findNow]
 | x :: l,i=>by
  have ih:=findNow_list k l (i+1);rw [List.map_cons];unfold Instr.findNow;have hs:Instr.sameNow (.int .i64) (.int .i64 k) (ent x).key=some (k == x.1):=by simp [Instr.sameNow,ent]
  rw [hs];by_cases e:x.1=k
  ·subst e;simp [List.findIdx?_cons,ent]
  ·have e1:(k == x.1)=false:=by simpa using fun h=>e h.symm
   have e2:(x.1 == k)=false:=by simpa using e
   rw [e1];show Instr.findNow _ _ _ _=_;rw [ih];simp only [List.findIdx?_cons,e2,Bool.false_eq_true,if_false];congr 1
   cases List.findIdx? (fun x=>x.1 == k) l with
   | none=>rfl
   | some j=>simp;congr 1;funext y;simp;omega
theorem mapFind_idx (k:Int):∀ (l:List (Int×Value×Nat)),mapFind l k=(l.findIdx? (fun x=>x.1 == k)).bind fun j=>(l[j]?).map fun x=>x.2.1
 | []=>rfl
 | x :: l=>by
  have ih:=mapFind_idx k l;unfold mapFind at ih ⊢;by_cases e:(x.1 == k)=true
  ·simp [List.findIdx?_cons,e]
  ·simp only [Bool.not_eq_true] at e;simp only [List.find?_cons,List.findIdx?_cons,e,Bool.false_eq_true,if_false,ih]
   cases List.findIdx? (fun x=>x.1 == k) l <;> simp
theorem mapPut_idx (k:Int) (v:Value):∀ (l:List (Int×Value×Nat)) (j:Nat),KeysOnce l→l.findIdx? (fun x=>x.1 == k)=some j→
  ((l.map ent).modify j fun e=>{e with key:=.int .i64 k,val:=v})=(mapPut l k v).map ent
 | [],j,_,h=>by simp at h
 | x :: l,j,hn,h=>by
  unfold KeysOnce at hn;simp only [List.map_cons,List.nodup_cons] at hn;obtain⟨hx,hl⟩:=hn;by_cases e:(x.1 == k)=true
  ·simp only [List.findIdx?_cons,e,if_true,Option.some.injEq] at h;subst h;have e':x.1=k:=by simpa using e
   have hrest:mapPut l k v=l:=by
    unfold mapPut;rw [List.map_congr_left (g:=id)]
    ·simp
    ·intro y hy;have:¬ y.1=k:=fun h'=>hx (by rw [e',←h'];exact List.mem_map.2 ⟨y,hy,rfl⟩);simp [this]
   have hput:mapPut (x :: l) k v=(k,v,x.2.2) :: l:=by
    unfold mapPut at hrest ⊢;rw [List.map_cons,hrest,e,if_pos rfl]
   rw [hput];rfl
  ·simp only [Bool.not_eq_true] at e;simp only [List.findIdx?_cons,e,Bool.false_eq_true,if_false,Option.map_eq_some_iff] at h;obtain⟨j',hj,rfl⟩:=h;have ih:=mapPut_idx k v l j' hl hj;unfold mapPut at ih ⊢;simp only [List.map_cons,List.modify_succ_cons,e,Bool.false_eq_true,if_false];rw [ih]
theorem mapFind_none {l:List (Int×Value×Nat)} {k:Int}:mapFind l k=none↔l.findIdx? (fun x=>x.1 == k)=none:=by
 rw [List.findIdx?_eq_none_iff];unfold mapFind;simp
section
variable {P:Program} {K E T:TypeId} {w:World} {m:Nat} {l:List (Int×Value×Nat)} {clk:Nat}
theorem checkKey_int (b:Bool) (hk:P.underlying K=some (.int .i64)) (v:Value) (w:World):(Instr.checkKey b 10000 K v).run P w=.ok () w:=by
 unfold Instr.checkKey;simp [run_underlying hk]
theorem run_findKey (hk:P.underlying K=some (.int .i64)) (k:Int) (w:World):(Instr.findKey K (.int .i64 k) (l.map ent)).run P w=.ok ((l.findIdx? (fun x=>x.1 == k)).bind fun j=>(l[j]?).map fun x=>(j,x.2.1)) w:=by
 unfold Instr.findKey;simp [run_underlying hk,findNow_list]
theorem run_lookup_yes (ht:P.underlying T=some (.map K E)) (hk:P.underlying K=some (.int .i64)) (h:MapB w m l clk) {k:Int} {v:Value} (hf:mapFind l k=some v) :
  (Instr.lookup T (.map (some m)) (.int .i64 k) true).run P w=.ok (.tuple #[v,.bool true]) w:=by
 rw [mapFind_idx] at hf;unfold MapB at h;simp only [Option.bind_eq_some_iff,Option.map_eq_some_iff] at hf;obtain⟨j,hj,x,hx,rfl⟩:=hf;unfold Instr.lookup;simp [run_underlying ht,getObj,Sem.run,h,checkKey_int _ hk,run_findKey hk,hj,hx]
theorem run_lookup_no (ht:P.underlying T=some (.map K E)) (hk:P.underlying K=some (.int .i64)) (h:MapB w m l clk) {k:Int} (hf:mapFind l k=none) {z:Value} (hz:(zeroValue E).run P w=.ok z w) :
  (Instr.lookup T (.map (some m)) (.int .i64 k) true).run P w=.ok (.tuple #[z,.bool false]) w:=by
 rw [mapFind_none] at hf;unfold MapB at h;unfold Instr.lookup;simp [run_underlying ht,getObj,Sem.run,h,checkKey_int _ hk,run_findKey hk,hf,hz]
theorem run_put (ht:P.underlying T=some (.map K E)) (hk:P.underlying K=some (.int .i64)) (h:MapB w m l clk) (hn:KeysOnce l) {k:Int} {v0 v:Value} (hf:mapFind l k=some v0) :
  (Instr.mapUpdate T (.map (some m)) (.int .i64 k) v).run P w=.ok () (ChangeMaps.setBlock w m (.map ((mapPut l k v).map ent).toArray clk)):=by
 rw [mapFind_idx] at hf;unfold MapB at h;simp only [Option.bind_eq_some_iff,Option.map_eq_some_iff] at hf;obtain⟨j,hj,x,hx,rfl⟩:=hf;have hp:=mapPut_idx k v l j hn hj;have hxk:x.1=k:=by
  obtain⟨hlt,h1,-⟩:=List.findIdx?_eq_some_iff_getElem.1 hj;rw [List.getElem?_eq_getElem hlt] at hx;obtain rfl:=Option.some.inj hx;simpa using h1
 have hst:(Instr.keyThatStays (ent x).key (.int .i64 k)).run P w=.ok (.int .i64 k) w:=by
  subst hxk;simp [Instr.keyThatStays,Instr.sameBits,ent]
 unfold Instr.mapUpdate;simp [run_underlying ht,getObj,setObj,Sem.run,h,checkKey_int _ hk,run_findKey hk,hj,hx,hst,hp,ChangeMaps.setBlock]
theorem run_add (ht:P.underlying T=some (.map K E)) (hk:P.underlying K=some (.int .i64)) (h:MapB w m l clk) {k:Int} {v:Value} (hf:mapFind l k=none) :
  (Instr.mapUpdate T (.map (some m)) (.int .i64 k) v).run P w=.ok () (ChangeMaps.setBlock w m (.map ((l ++ [(k,v,clk)]).map ent).toArray (clk+1))):=by
 rw [mapFind_none] at hf;unfold MapB at h;unfold Instr.mapUpdate;simp [run_underlying ht,getObj,setObj,Sem.run,h,checkKey_int _ hk,run_findKey hk,hf,ChangeMaps.setBlock,ent]
theorem run_len (ht:P.underlying T=some (.map K E)) (h:MapB w m l clk) (ty:TypeId) :
  (Builtin.len_ #[T] ty #[.map (some m)]).run P w=.ok (.int .i64 l.length) w:=by
 unfold MapB at h;unfold Builtin.len_;simp [run_underlying ht,getObj,Sem.run,h,goInt]
theorem MapB.set (h:MapB w m l clk) (l':List (Int×Value×Nat)) (clk':Nat) :
  MapB (ChangeMaps.setBlock w m (.map (l'.map ent).toArray clk')) m l' clk'∧(∀ B vs T,Blk w B vs T→Blk (ChangeMaps.setBlock w m (.map (l'.map ent).toArray clk')) B vs T)∧
   Mod (fun k=>k=m) w (ChangeMaps.setBlock w m (.map (l'.map ent).toArray clk')):=by
 have hlt:=h.lt;refine ⟨?_,?_,(Mod.refl (fun k=>k=m) w).setBlock (b:=m) (.inl rfl) _⟩
 ·unfold MapB;simp [ChangeMaps.setBlock,hlt]
 ·intro B vs T hB;refine hB.setBlock ?_ _;rintro rfl;unfold Blk at hB;unfold MapB at h;rw [h] at hB
  cases hB
theorem step_put (ht:P.underlying T=some (.map K E)) (hk:P.underlying K=some (.int .i64)) (h:MapB w m l clk) (hn:KeysOnce l) {k:Int} {v0:Value} (v:Value) (hf:mapFind l k=some v0) :
  ∃ W,(Instr.mapUpdate T (.map (some m)) (.int .i64 k) v).run P w=.ok () W∧MapB W m (mapPut l k v) clk∧(∀ B vs T,Blk w B vs T→Blk W B vs T)∧Mod (fun k=>k=m) w W:=
 ⟨_,run_put ht hk h hn hf,h.set _ _⟩
theorem step_add (ht:P.underlying T=some (.map K E)) (hk:P.underlying K=some (.int .i64)) (h:MapB w m l clk) {k:Int} (v:Value) (hf:mapFind l k=none) :
  ∃ W,(Instr.mapUpdate T (.map (some m)) (.int .i64 k) v).run P w=.ok () W∧MapB W m (l ++ [(k,v,clk)]) (clk+1)∧(∀ B vs T,Blk w B vs T→Blk W B vs T)∧Mod (fun k=>k=m) w W:=
 ⟨_,run_add ht hk h hf,h.set _ _⟩
end
end
section
open Go.RowKit
structure Nd where
 no:Int
 dev:Int
 kind:Int
 mode:Int
 uid:Int
 gid:Int
 mtime:Int
 ctime:Int
 links:Int
 up:Int
 data:ByteArray
 ea:Option Addr
 el:Nat
 ec:Nat
def Nd.v (n:Nd):Value:=.agg #[.int .i64 n.no,.int .i64 n.dev,.int .i64 n.kind,.int .i64 n.mode,.int .i64 n.uid,.int .i64 n.gid,.int .i64 n.mtime,.int .i64 n.ctime,.int .i64 n.links,.int .i64 n.up,.string n.data,.slice n.ea n.el n.ec]
def nd0:Nd:=⟨0,0,0,0,0,0,0,0,0,0,ByteArray.empty,none,0,0⟩
def tabEnt (x:Nd×Nat):Int×Value×Nat:=(x.1.no,x.1.v,x.2)
def findNd (L:List (Nd×Nat)) (k:Int):Option Nd:=(L.find? (fun x=>x.1.no == k)).map (·.1)
structure Tab (w:World) (p m:Nat) (last:Int) (L:List (Nd×Nat)) (clk:Nat):Prop where
 blk:Blk w p #[.map (some m),.int .i64 last] 263
 map:MapB w m (L.map tabEnt) clk
 once:KeysOnce (L.map tabEnt)
 low:∀ x∈L,x.1.no≤last
theorem find_none_of_low {L:List (Nd×Nat)} {last:Int} (h:∀ x∈L,x.1.no≤last):mapFind (L.map tabEnt) (last+1)=none:=by
 rw [mapFind_none,List.findIdx?_eq_none_iff];simp only [List.mem_map,forall_exists_index,and_imp];rintro _ x hx rfl;have:=h x hx;simp [tabEnt];omega
theorem add_any (n:Nd) (w:World) (p m:Nat) (last:Int) (L:List (Nd×Nat)) (clk:Nat) (hT:Tab w p m last L clk) (hl0:0≤last) (hl1:last≤1000000) :
  Calls Tryz.prog 293 #[.pointer (some ⟨p,0,none⟩),n.v] w fun e w'=>e=.returned (.int .i64 (last+1))∧Tab w' p m (last+1) (L ++ [({n with no:=last+1},clk)]) (clk+1)∧Mod (fun k=>k=p∨k=m) w w':=by
 obtain⟨pc,pf,pz⟩:=hT.blk.facts;have mz:=hT.map.lt;have hpm:p≠m:=by
  rintro rfl;have h1:=hT.blk;have h2:=hT.map;unfold Blk at h1;unfold MapB at h2;rw [h1] at h2
  cases h2
 have hfn:=find_none_of_low hT.low;have pw:p≠w.heap.size:=by omega
 have wp':w.heap.size≠p:=by omega
 have hq:∀ (w:World) (r:Option Nat),(binOp .eql 261 (.map r) (.map none)).run Tryz.prog w=.ok (.bool r.isNone) w:=fun w r=>run_eql_map_nil w _ _ _ r Tryz.underlying261;unfold Nd.v;go_enter Tryz.func293,Tryz.ntmps293;go_wp2_with fail;have b1:=(hT.blk.set 1 (.int .i64 (last+1))).old (.cells #[.int .i64 (last+1),.int .i64 n.dev,.int .i64 n.kind,.int .i64 n.mode,.int .i64 n.uid,.int .i64 n.gid,.int .i64 n.mtime,.int .i64 n.ctime,.int .i64 n.links,.int .i64 n.up,.string n.data,.slice n.ea n.el n.ec] 109);have b2:=Blk.new (w.setCell ⟨p,1,none⟩ (.int .i64 (last+1))) #[.int .i64 (last+1),.int .i64 n.dev,.int .i64 n.kind,.int .i64 n.mode,.int .i64 n.uid,.int .i64 n.gid,.int .i64 n.mtime,.int .i64 n.ctime,.int .i64 n.links,.int .i64 n.up,.string n.data,.slice n.ea n.el n.ec] 109;have b3:=(hT.map.setOther ⟨p,1,none⟩ (.int .i64 (last+1)) hpm).old (.cells #[.int .i64 (last+1),.int .i64 n.dev,.int .i64 n.kind,.int .i64 n.mode,.int .i64 n.uid,.int .i64 n.gid,.int .i64 n.mtime,.int .i64 n.ctime,.int .i64 n.links,.int .i64 n.up,.string n.data,.slice n.ea n.el n.ec] 109);have b4:=((Mod.refl (fun k=>k=p∨k=m) w).setCell (a:=⟨p,1,none⟩) (.inl (.inl rfl)) (.int .i64 (last+1))).alloc (.cells #[.int .i64 (last+1),.int .i64 n.dev,.int .i64 n.kind,.int .i64 n.mode,.int .i64 n.uid,.int .i64 n.gid,.int .i64 n.mtime,.int .i64 n.ctime,.int .i64 n.links,.int .i64 n.up,.string n.data,.slice n.ea n.el n.ec] 109);rw [World.size_setCell] at b2;generalize (w.setCell ⟨p,1,none⟩ (.int .i64 (last+1))).alloc (.cells #[.int .i64 (last+1),.int .i64 n.dev,.int .i64 n.kind,.int .i64 n.mode,.int .i64 n.uid,.int .i64 n.gid,.int .i64 n.mtime,.int .i64 n.ctime,.int .i64 n.links,.int .i64 n.up,.string n.data,.slice n.ea n.el n.ec] 109)=W at b1 b2 b3 b4 ⊢;obtain⟨pc',-,-⟩:=b1.facts;obtain⟨nc,-,-⟩:=b2.facts;obtain⟨W2,hrun,b5,b6,b7⟩:=step_add (w:=W.drew) Tryz.underlying261 Tryz.underlying3 b3 (.agg #[.int .i64 (last+1),.int .i64 n.dev,.int .i64 n.kind,.int .i64 n.mode,.int .i64 n.uid,.int .i64 n.gid,.int .i64 n.mtime,.int .i64 n.ctime,.int .i64 n.links,.int .i64 n.up,.string n.data,.slice n.ea n.el n.ec]) hfn;obtain⟨nc2,-,-⟩:=(b6 _ _ _ b2).facts;clear pc pf
 go_region
 go_wp2_with fail;go_ret;refine ⟨rfl,⟨b6 _ _ _ b1,by rw [List.map_append];exact b5,?_,?_⟩,(b4.drew).trans (b7.mono fun k hk=>.inr hk)⟩
 ·have:=hT.once;unfold KeysOnce at this ⊢;rw [List.map_append,List.map_append,List.nodup_append];refine ⟨this,by simp,?_⟩;simp only [List.mem_map,List.mem_cons,List.not_mem_nil,or_false,forall_exists_index,and_imp];rintro a y x hx rfl rfl b y' x' rfl rfl rfl;have:=hT.low x hx;simp only [tabEnt];omega
 ·intro x hx;rcases List.mem_append.1 hx with hx | hx
  ·have:=hT.low x hx;omega
  ·simp only [List.mem_cons,List.not_mem_nil,or_false] at hx;subst hx;exact Int.le_refl _
theorem mapFind_tab (L:List (Nd×Nat)) (k:Int):mapFind (L.map tabEnt) k=(findNd L k).map Nd.v:=by
 unfold mapFind findNd;rw [List.find?_map];have:(fun x:Int×Value×Nat=>x.1 == k) ∘ tabEnt=fun x:Nd×Nat=>x.1.no == k:=rfl;rw [this]
 cases List.find? (fun x:Nd×Nat=>x.1.no == k) L <;> rfl
theorem new_table (w:World) :
  Calls Tryz.prog 249 #[] w fun e w'=>e=.returned (.pointer (some ⟨w.heap.size+1,0,none⟩))∧Tab w' (w.heap.size+1) w.heap.size 0 [] 0∧Below w.heap.size w w':=by
 have hmm:=@run_makeMap Tryz.prog;go_enter Tryz.func249,Tryz.ntmps249
 go_wp2
 go_ret;refine ⟨rfl,⟨?_,?_,List.nodup_nil,by simp⟩,by go_grown⟩
 ·have:=Blk.new (w.alloc (.map #[] 0)) #[.map (some w.heap.size),.int .i64 0] 263
  rwa [World.size_alloc] at this
 ·unfold MapB;rw [Below.heap_alloc _ _ _ (by simp)];show (w.heap.push _)[w.heap.size]? = _;simp
theorem get_yes (n:Nd) (k:Int) (w:World) (p m:Nat) (last:Int) (L:List (Nd×Nat)) (clk:Nat) (hT:Tab w p m last L clk) (hf:findNd L k=some n) :
  Calls Tryz.prog 98 #[.pointer (some ⟨p,0,none⟩),.int .i64 k] w fun e w'=>e=.returned (.tuple #[n.v,.bool true])∧Below w.heap.size w w':=by
 obtain⟨pc,pf,pz⟩:=hT.blk.facts;have hr:∀ o,(Instr.lookup 261 (.map (some m)) (.int .i64 k) true).run Tryz.prog (w.alloc o)=.ok (.tuple #[.agg #[.int .i64 n.no,.int .i64 n.dev,.int .i64 n.kind,.int .i64 n.mode,.int .i64 n.uid,.int .i64 n.gid,.int .i64 n.mtime,.int .i64 n.ctime,.int .i64 n.links,.int .i64 n.up,.string n.data,.slice n.ea n.el n.ec],.bool true]) (w.alloc o):=fun o=>
  run_lookup_yes Tryz.underlying261 Tryz.underlying3 (hT.map.old o) (by rw [mapFind_tab,hf];rfl)
 clear hf;unfold Nd.v;go_enter Tryz.func98,Tryz.ntmps98
 go_wp2
 go_returns
 exact⟨rfl,by go_grown⟩
theorem zero_node (w:World):(zeroValue 109).run Tryz.prog w=.ok nd0.v w:=by kernel_rfl
theorem get_no (k:Int) (w:World) (p m:Nat) (last:Int) (L:List (Nd×Nat)) (clk:Nat) (hT:Tab w p m last L clk) (hf:findNd L k=none) :
  Calls Tryz.prog 98 #[.pointer (some ⟨p,0,none⟩),.int .i64 k] w fun e w'=>e=.returned (.tuple #[nd0.v,.bool false])∧Below w.heap.size w w':=by
 obtain⟨pc,pf,pz⟩:=hT.blk.facts;have hr:∀ o,(Instr.lookup 261 (.map (some m)) (.int .i64 k) true).run Tryz.prog (w.alloc o)=.ok (.tuple #[.agg #[.int .i64 0,.int .i64 0,.int .i64 0,.int .i64 0,.int .i64 0,.int .i64 0,.int .i64 0,.int .i64 0,.int .i64 0,.int .i64 0,.string ByteArray.empty,.slice none 0 0],.bool false]) (w.alloc o):=fun o=>
  run_lookup_no Tryz.underlying261 Tryz.underlying3 (hT.map.old o) (by rw [mapFind_tab,hf];rfl) (zero_node _)
 clear hf;unfold Nd.v nd0;go_enter Tryz.func98,Tryz.ntmps98
 go_wp2
 go_returns
 exact⟨rfl,by go_grown⟩
end
section
open Go.RowKit
theorem Tab.keep {w w':World} {p m:Nat} {last:Int} {L:List (Nd×Nat)} {clk:Nat} (h:Tab w p m last L clk) (hb:Below w.heap.size w w'):Tab w' p m last L clk:=
 ⟨h.blk.keep hb,h.map.keep hb,h.once,h.low⟩
theorem Tab.ne {w:World} {p m:Nat} {last:Int} {L:List (Nd×Nat)} {clk:Nat} (hT:Tab w p m last L clk):p≠m:=by
 rintro rfl;have h1:=hT.blk;have h2:=hT.map;unfold Blk at h1;unfold MapB at h2;rw [h1] at h2
 cases h2
theorem mapPut_tab (L:List (Nd×Nat)) (n:Nd):mapPut (L.map tabEnt) n.no n.v=(L.map fun x=>if x.1.no == n.no then (n,x.2) else x).map tabEnt:=by
 unfold mapPut;rw [List.map_map,List.map_map];apply List.map_congr_left;intro x _;by_cases h:x.1.no=n.no <;> simp [tabEnt,h]
theorem set_yes (n0 n:Nd) (w:World) (p m:Nat) (last:Int) (L:List (Nd×Nat)) (clk:Nat) (hT:Tab w p m last L clk) (hf:findNd L n.no=some n0) :
  Calls Tryz.prog 242 #[.pointer (some ⟨p,0,none⟩),n.v] w fun e w'=>e=.returned (.bool true)∧Tab w' p m last (L.map fun x=>if x.1.no == n.no then (n,x.2) else x) clk∧Mod (fun k=>k=p∨k=m) w w':=by
 have Hg:=Lib.hid (fun w' hT'=>get_yes n0 n.no w' p m last L clk hT' hf);have Hf:=Lib.hid (show mapFind (L.map tabEnt) n.no=some n0.v by rw [mapFind_tab,hf];rfl);clear hf;have hpm:=hT.ne;have pw:p≠w.heap.size:=by have:=hT.blk.lt;omega
 unfold Nd.v;go_enter Tryz.func242,Tryz.ntmps242;go_wp2_with fail;refine (Hg.out _ (hT.keep ((Below.refl _ _).alloc (Nat.le_refl _) _))).mono ?_;unfold Nd.v;rintro e w1 ⟨rfl,hb1⟩;go_wp2_with fail;have b1:=(((hT.blk.old (.cells #[.int .i64 n.no,.int .i64 n.dev,.int .i64 n.kind,.int .i64 n.mode,.int .i64 n.uid,.int .i64 n.gid,.int .i64 n.mtime,.int .i64 n.ctime,.int .i64 n.links,.int .i64 n.up,.string n.data,.slice n.ea n.el n.ec] 109)).keep hb1).old (.cells #[.int .i64 n0.no,.int .i64 n0.dev,.int .i64 n0.kind,.int .i64 n0.mode,.int .i64 n0.uid,.int .i64 n0.gid,.int .i64 n0.mtime,.int .i64 n0.ctime,.int .i64 n0.links,.int .i64 n0.up,.string n0.data,.slice n0.ea n0.el n0.ec] 109)).drew;have b2:=(((Blk.new w #[.int .i64 n.no,.int .i64 n.dev,.int .i64 n.kind,.int .i64 n.mode,.int .i64 n.uid,.int .i64 n.gid,.int .i64 n.mtime,.int .i64 n.ctime,.int .i64 n.links,.int .i64 n.up,.string n.data,.slice n.ea n.el n.ec] 109).keep hb1).old (.cells #[.int .i64 n0.no,.int .i64 n0.dev,.int .i64 n0.kind,.int .i64 n0.mode,.int .i64 n0.uid,.int .i64 n0.gid,.int .i64 n0.mtime,.int .i64 n0.ctime,.int .i64 n0.links,.int .i64 n0.up,.string n0.data,.slice n0.ea n0.el n0.ec] 109)).drew;have hT1:=((hT.keep ((Below.refl _ _).alloc (Nat.le_refl _) _)).keep hb1).keep ((Below.refl w1.heap.size w1).alloc (Nat.le_refl _) (.cells #[.int .i64 n0.no,.int .i64 n0.dev,.int .i64 n0.kind,.int .i64 n0.mode,.int .i64 n0.uid,.int .i64 n0.gid,.int .i64 n0.mtime,.int .i64 n0.ctime,.int .i64 n0.links,.int .i64 n0.up,.string n0.data,.slice n0.ea n0.el n0.ec] 109));have b4:Mod (fun k=>k=p∨k=m) w (w1.alloc (.cells #[.int .i64 n0.no,.int .i64 n0.dev,.int .i64 n0.kind,.int .i64 n0.mode,.int .i64 n0.uid,.int .i64 n0.gid,.int .i64 n0.mtime,.int .i64 n0.ctime,.int .i64 n0.links,.int .i64 n0.up,.string n0.data,.slice n0.ea n0.el n0.ec] 109)):=(((Mod.refl _ w).alloc _).trans (.of_below hb1)).alloc _;clear hb1;generalize w1.alloc (.cells #[.int .i64 n0.no,.int .i64 n0.dev,.int .i64 n0.kind,.int .i64 n0.mode,.int .i64 n0.uid,.int .i64 n0.gid,.int .i64 n0.mtime,.int .i64 n0.ctime,.int .i64 n0.links,.int .i64 n0.up,.string n0.data,.slice n0.ea n0.el n0.ec] 109)=W at b1 b2 hT1 b4 ⊢;obtain⟨pc',-,-⟩:=b1.facts;obtain⟨nc,-,-⟩:=b2.facts;obtain⟨W2,hrun,b5,b6,b7⟩:=step_put (w:=W.drew) Tryz.underlying261 Tryz.underlying3 hT1.map hT1.once (.agg #[.int .i64 n.no,.int .i64 n.dev,.int .i64 n.kind,.int .i64 n.mode,.int .i64 n.uid,.int .i64 n.gid,.int .i64 n.mtime,.int .i64 n.ctime,.int .i64 n.links,.int .i64 n.up,.string n.data,.slice n.ea n.el n.ec]) Hf.out
 go_region
 go_wp2_with fail;go_ret;refine ⟨rfl,⟨b6 _ _ _ hT1.blk,by rw [←mapPut_tab];exact b5,?_,?_⟩,(b4.drew).trans (b7.mono fun k hk=>.inr hk)⟩
 ·have:=hT.once;rw [←mapPut_tab];unfold KeysOnce at this ⊢;unfold mapPut;rw [List.map_map,List.map_congr_left (g:=fun x=>x.1)]
  ·exact this
  ·intro x _;simp only [Function.comp]
   split
   ·rename_i h;simpa using (beq_iff_eq.1 h).symm
   ·rfl
 ·intro x hx;obtain⟨y,hy,rfl⟩:=List.mem_map.1 hx;have:=hT.low y hy
  split
  ·rename_i h;have:=beq_iff_eq.1 h;simp only;omega
  ·exact this
theorem len_table (w:World) (p m:Nat) (last:Int) (L:List (Nd×Nat)) (clk:Nat) (hT:Tab w p m last L clk) :
  Calls Tryz.prog 229 #[.pointer (some ⟨p,0,none⟩)] w fun e w'=>e=.returned (.int .i64 L.length)∧w=w':=by
 obtain⟨pc,-,pz⟩:=hT.blk.facts;have hr:=run_len Tryz.underlying261 hT.map 3;rw [List.length_map] at hr;go_enter Tryz.func229,Tryz.ntmps229
 go_wp2
 go_ret;exact⟨rfl,rfl⟩
end
section
open Go.RowKit
def BytesAt (w:World) (a:Option Addr) (len cap:Nat) (zs:List Int):Prop:=
 (a=none∧len=0∧cap=0∧zs=[])∨(∃ b off:Nat,a=some ⟨b,off,none⟩∧len≤cap∧cap≤9223372036854775807∧zs.length=cap∧∀ j,j<cap→b<w.heap.size∧w.cell? ⟨b,off+j,none⟩=some (.int .u8 (zs.getD j 0))∧0≤zs.getD j 0∧zs.getD j 0≤255)
end
end Go.Proofs.YtihdbncoijhihaaGreatDoor
