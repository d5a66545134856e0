import Derived.Test.YtihdbncoijhihaaGreatCL12
import Derived.Test.YtihdbncoijhihaaGreatCL3
set_option linter.unusedVariables false
set_option linter.unusedSimpArgs false
set_option maxRecDepth 100000
set_option maxHeartbeats 16000000
namespace Go.Proofs.YtihdbncoijhihaaGreat
section
open Go.RowKit
def Fs.withinN (S:Fs) (base:Int):Nat→Int→Bool
 | 0,_=>false
 | n+1,no=>if no=0 then false else if no=base then true else S.withinN base n (S.above no)
def Fs.within (S:Fs) (no base:Int):Bool:=S.withinN base (S.ns.length+1) no
def Fs.busy (S:Fs) (no:Int):Bool:=(S.ds.drop 1).any (fun d=>S.within d.over no)
def entName (l:List En) (no:Int):Option ByteArray:=(l.find? (fun x=>x.no == no)).map (·.name)
def Fs.entsOf (S:Fs) (no:Int):List En:=match S.get no with | some a=>a.ents | none=>[]
def Fs.child (S:Fs) (no:Int):Int:=match S.get no with
 | none=>no
 | some a=>if S.root a.dev=no∧1<a.dev then (match S.dev a.dev with | some v=>v.over | none=>no) else no
def Fs.whereN (S:Fs):Nat→Int→ByteArray→Option ByteArray
 | 0,_,_=>none
 | n+1,no,s=>if no=1 then some (if s.size=0 then topB else s) else match entName (S.entsOf (S.above no)) (S.child no) with
  | none=>none
  | some nm=>S.whereN n (S.above no) (topB ++ nm ++ s)
def Fs.place_ (S:Fs) (no:Int):Option ByteArray:=S.whereN (S.ns.length+1) no ByteArray.empty
theorem entName_cons (x:En) (l:List En) (no:Int):entName (x :: l) no=if x.no=no then some x.name else entName l no:=by
 unfold entName;rw [List.find?_cons];by_cases h:x.no=no
 ·rw [if_pos h,show (x.no == no)=true by simpa using h];rfl
 ·rw [if_neg h,show (x.no == no)=false by simpa using h]
theorem entName_mem {l:List En} {no:Int} {s:ByteArray} (h:entName l no=some s):∃ x∈l,x.name=s:=by
 unfold entName at h
 cases hf:l.find? (fun x=>x.no == no) with
 | none=>rw [hf] at h;cases h
 | some x=>
  rw [hf] at h;exact⟨x,List.mem_of_find?_eq_some hf,by simpa using h⟩
section
variable {S:Fs} {N:Nat}
theorem get_zero (hk:FsOk S N):S.get 0=none:=by
 cases h:S.get 0 with
 | none=>rfl
 | some a=>
  have:=(hk.get h).2.2.1;omega
theorem above_zero (hk:FsOk S N):S.above 0=0:=above_none (get_zero hk)
theorem ents_zero (hk:FsOk S N):S.entsOf 0=[]:=by unfold Fs.entsOf;rw [get_zero hk]
theorem above_step (hk:FsOk S N) (h:Pl S) {no:Int} (hne:S.above no≠no):S.above no=0∨(1≤S.above no∧S.above no<no∧no≤S.last∧no≠1):=by
 cases hg:S.get no with
 | none=>exact .inl (above_none hg)
 | some a=>
  by_cases hd:a.kind=1
  ·by_cases h1:no=1
   ·subst h1;exact absurd (above_top hk h hg hd) hne
   ·have:=above_lt hk h hg hd h1;exact .inr ⟨this.1,this.2,get_low hk.nums hg,h1⟩
  ·exact .inl (above_leaf hg hd)
theorem above_end (hk:FsOk S N) (h:Pl S) {no:Int} (he:S.above no=no):no=0∨no=1:=by
 cases hg:S.get no with
 | none=>rw [above_none hg] at he;exact .inl he.symm
 | some a=>
  by_cases hd:a.kind=1
  ·by_cases h1:no=1
   ·exact .inr h1
   ·have:=above_lt hk h hg hd h1;omega
  ·rw [above_leaf hg hd] at he;exact .inl he.symm
theorem pl_one (hk:FsOk S N) (h:Pl S):1≤S.ns.length:=by
 have h1:=h.top;have h2:=hk.d1;have h3:=h.len;unfold Fs.root at h1;rw [if_pos (by omega)] at h1;rw [show ((1:Int) - 1).toNat=0 from rfl,List.getElem?_eq_getElem (by omega)] at h1;have h4:=hk.root S.ds[0] (List.getElem_mem _);simp only at h1;omega
theorem above_one (hk:FsOk S N) (h:Pl S):S.above 1=1:=by
 obtain⟨a,hg,hd⟩:=h.one;exact above_top hk h hg hd
theorem within_zero (base:Int) (n:Nat):S.withinN base n 0=false:=by cases n <;> simp [Fs.withinN]
theorem within_fix {base no:Int} (h1:S.above no=no) (h2:no≠base) (n:Nat):S.withinN base n no=false:=by
 induction n with
 | zero=>rfl
 | succ n ih=>
  rw [Fs.withinN,if_neg h2,h1,ih]
  split <;> rfl
def Fs.need (S:Fs) (k:Nat) (no:Int):Prop:=no=0∨no<k∧1≤k∨(S.above no=0∧2≤k)
theorem need_start (hk:FsOk S N) (h:Pl S) (no:Int):S.need (S.ns.length+1) no:=by
 have h1:=pl_one hk h;by_cases hne:S.above no=no
 ·rcases above_end hk h hne with h0 | h0
  ·exact .inl h0
  ·exact .inr (.inl ⟨by omega,by omega⟩)
 ·rcases above_step hk h hne with h0 | ⟨-,-,h3,-⟩
  ·exact .inr (.inr ⟨h0,by omega⟩)
  ·have:=h.len;exact .inr (.inl ⟨by omega,by omega⟩)
theorem within_yes {no base:Int} {k:Nat} (hn:S.need k no) (h0:no≠0) (hb:no=base):S.withinN base k no=true:=by
 cases k with
 | zero=>rcases hn with h | ⟨-,h⟩|⟨-,h⟩ <;> omega
 | succ k=>unfold Fs.withinN;rw [if_neg h0,if_pos hb]
theorem within_step (hk:FsOk S N) (h:Pl S) {no base:Int} {k:Nat} (hn:S.need k no) (h0:no≠0) (hb:no≠base) (hu:S.above no≠no):S.withinN base k no=S.withinN base (k - 1) (S.above no)∧S.need (k - 1) (S.above no):=by
 have h1:1≤k:=by rcases hn with h | ⟨-,h⟩|⟨-,h⟩ <;> omega
 obtain⟨k,rfl⟩:∃ j,k=j+1:=⟨k - 1,by omega⟩;refine ⟨by rw [Fs.withinN,if_neg h0,if_neg hb];rfl,?_⟩;rcases above_step hk h hu with h0 | ⟨h1,h2,h3,-⟩
 ·exact .inl h0
 ·rcases hn with h | ⟨h,-⟩|⟨h,-⟩
  ·exact absurd h h0
  ·exact .inr (.inl ⟨by omega,by omega⟩)
  ·omega
def catL (l:List (List UInt8)):List UInt8:=l.reverse.flatMap (fun s=>47 :: s)
theorem catL_snoc (l:List (List UInt8)) (s:List UInt8):catL (l ++ [s])=47 :: (s ++ catL l):=by simp [catL]
theorem catL_nil (l:List (List UInt8)):catL l=[]↔l=[]:=by
 constructor
 ·intro h
  cases l with
  | nil=>rfl
  | cons x l=>simp [catL] at h
 ·rintro rfl;rfl
theorem catL_len {l:List (List UInt8)} (h:∀ x∈l,x.length≤255):(catL l).length≤256*l.length:=by
 unfold catL;rw [List.length_flatMap];have:∀ m:List (List UInt8),(∀ x∈m,x.length≤255)→(m.map (fun s=>(47 :: s).length)).sum≤256*m.length:=by
  intro m
  induction m with
  | nil=>intro _;simp
  | cons x m ih=>
   intro hx;have h1:=ih (fun y hy=>hx y (List.mem_cons_of_mem _ hy));have h2:=hx x List.mem_cons_self;simp only [List.map_cons,List.sum_cons,List.length_cons];simp only [List.length_cons] at h1;omega
 have h1:=this l.reverse (fun x hx=>h x (List.mem_reverse.1 hx));rw [List.length_reverse] at h1;exact h1
structure WhSt (S:Fs) (no0 no:Int) (l:List (List UInt8)):Prop where
 few:l.length≤S.ns.length
 small:∀ x∈l,x.length≤255
 eq:S.place_ no0=S.whereN (S.ns.length+1 - l.length) no (str (catL l))
 room:1≤no→no≤S.last→no.toNat+l.length≤S.ns.length+1
theorem WhSt.start (h:Pl S) (no:Int):WhSt S no no []:=⟨Nat.zero_le _,(by intro x hx;cases hx),rfl,fun _ h2=>by
 have:=h.len;show no.toNat+0≤_;omega⟩
theorem where_zero (hk:FsOk S N) (k:Nat) (s:ByteArray):S.whereN k 0 s=none:=by
 cases k with
 | zero=>rfl
 | succ k=>
  unfold Fs.whereN;rw [if_neg (by decide),above_zero hk,ents_zero hk];rfl
theorem WhSt.top (hk:FsOk S N) (h:Pl S) {no0:Int} {l:List (List UInt8)} (hs:WhSt S no0 1 l):S.place_ no0=some (if l=[] then topB else str (catL l)):=by
 have h1:=pl_one hk h;have h2:=h.len;have h3:=hs.room (Int.le_refl _) (by omega);rw [hs.eq];obtain⟨k,hkk⟩:∃ j,S.ns.length+1 - l.length=j+1:=⟨S.ns.length - l.length,by omega⟩;rw [hkk];unfold Fs.whereN;rw [if_pos rfl];by_cases hl:l=[]
 ·subst hl;rfl
 ·rw [if_neg hl,if_neg];rw [str_size];intro h0;exact hl ((catL_nil l).1 (List.eq_nil_of_length_eq_zero h0))
theorem WhSt.other (hk:FsOk S N) (h:Pl S) {no0 no:Int} {l:List (List UInt8)} (hs:WhSt S no0 no l) (he:S.above no=no) (h1:no≠1):S.place_ no0=none:=by
 obtain rfl:no=0:=(above_end hk h he).resolve_right h1;rw [hs.eq,where_zero hk]
theorem WhSt.fail (hk:FsOk S N) (h:Pl S) {no0 no:Int} {l:List (List UInt8)} (hs:WhSt S no0 no l) (hu:S.above no≠no) (hn:entName (S.entsOf (S.above no)) (S.child no)=none):S.place_ no0=none:=by
 rw [hs.eq];have h1:no≠1:=by
  rintro rfl;exact hu (above_one hk h)
 cases S.ns.length+1 - l.length with
 | zero=>rfl
 | succ k=>unfold Fs.whereN;rw [if_neg h1,hn]
theorem child_eq (S:Fs) (no:Int):S.child no=match S.get no with
 | none=>no
 | some a=>if S.root a.dev=no∧1<a.dev then (match S.dev a.dev with | some v=>v.over | none=>no) else no:=rfl
theorem child_none {no:Int} (hg:S.get no=none):S.child no=no:=by rw [child_eq,hg]
theorem child_same {no:Int} {a:An} (hg:S.get no=some a) (hr:S.root a.dev≠no):S.child no=no:=by rw [child_eq,hg];exact if_neg (fun h=>hr h.1)
theorem child_over (hk:FsOk S N) (h:Pl S) {no:Int} {a:An} (hg:S.get no=some a) (hr:S.root a.dev=no) (h1:no≠1):1<a.dev∧∃ v,S.dev a.dev=some v∧S.child no=v.over:=by
 have hd:=(hk.get hg).1.dev;have hd1:1<a.dev:=by
  rcases Int.lt_or_le 1 a.dev with h2 | h2
  ·exact h2
  ·exfalso;have h3:a.dev=1:=by omega
   rw [h3,h.top] at hr;exact h1 hr.symm
 obtain⟨v,hv,-,-,-⟩:=root_of hk hd.1 hd.2;refine ⟨hd1,v,hv,?_⟩;rw [child_eq,hg];show (if _ then _ else _)=_;rw [if_pos ⟨hr,hd1⟩,hv]
theorem WhSt.more (hk:FsOk S N) (h:Pl S) {no0 no:Int} {l:List (List UInt8)} (hs:WhSt S no0 no l) (hu:S.above no≠no) {s:ByteArray} (hn:entName (S.entsOf (S.above no)) (S.child no)=some s):WhSt S no0 (S.above no) (l ++ [s.data.toList])∧l.length+1≤S.ns.length:=by
 have hab:1≤S.above no∧S.above no<no∧no≤S.last∧no≠1:=by
  rcases above_step hk h hu with h0 | h0
  ·rw [h0,ents_zero hk] at hn
   cases hn
  ·exact h0
 obtain⟨h1,h2,h3,h4⟩:=hab;have hro:=hs.room (by omega) h3;have hln:l.length+1≤S.ns.length:=by omega
 have hnm:NmOk s:=by
  obtain⟨x,hx,rfl⟩:=entName_mem hn;unfold Fs.entsOf at hx
  cases hg:S.get (S.above no) with
  | none=>rw [hg] at hx;cases hx
  | some a=>
   rw [hg] at hx;exact h.names a (an_mem hg) x hx
 refine ⟨⟨by simp;omega,fun x hx=>?_,?_,fun _ _=>by simp;omega⟩,hln⟩
 ·rcases List.mem_append.1 hx with hx | hx
  ·exact hs.small x hx
  ·simp at hx;subst hx;have:=hnm.2;have h5:s.data.toList.length=s.size:=Array.length_toList;omega
 ·rw [hs.eq,catL_snoc];obtain⟨k,hkk⟩:∃ j,S.ns.length+1 - l.length=j+1:=⟨S.ns.length - l.length,by omega⟩;rw [hkk,show S.ns.length+1 - (l ++ [s.data.toList]).length=k by simp;omega,Fs.whereN,if_neg h4,hn];show S.whereN k _ _=S.whereN k _ _;congr 1
end
end
section
open Go.RowKit
structure RowOk (S:Fs) (no:Int) (l:List En):Prop where
 down:∀ x∈l,∃ b,S.get x.no=some b∧(b.kind=1→b.up=no∧S.root b.dev≠b.no)
 once:l.Pairwise (fun x y=>x.no=y.no→∀ b,S.get x.no=some b→b.kind≠1)
structure Tr (S:Fs):Prop where
 leaf:∀ a∈S.ns,a.kind≠1→a.ents=[]
 row:∀ a∈S.ns,RowOk S a.no a.ents
 zero:∀ d,S.ds[0]? = some d→d.over=0
 rts:∀ (i:Nat) (hi:i<S.ds.length),∃ r,S.get S.ds[i].root=some r∧r.kind=1∧r.dev=(i:Int)+1
def Sub (S S':Fs):Prop:=∀ k c,S.get k=some c→∃ c',S'.get k=some c'∧c'.kind=c.kind∧c'.up=c.up∧c'.dev=c.dev∧S'.root c.dev=S.root c.dev
theorem Sub.row {S S':Fs} (h:Sub S S') {no:Int} {l:List En} (hr:RowOk S no l):RowOk S' no l:=by
 refine ⟨fun x hx=>?_,?_⟩
 ·obtain ⟨b,hb,h1⟩:=hr.down x hx;obtain⟨c,hc,e1,e2,e3,e4⟩:=h _ _ hb;refine ⟨c,hc,fun hk=>?_⟩;obtain⟨h2,h3⟩:=h1 (e1 ▸ hk);rw [e2,e3,e4,an_no hc,←an_no hb];exact⟨h2,h3⟩
 ·have hd:=hr.down;have ho:=hr.once;clear hr
  induction l with
  | nil=>exact List.Pairwise.nil
  | cons y l ih=>
   rw [List.pairwise_cons] at ho ⊢;refine ⟨fun z hz he b hb=>?_,ih (fun x hx=>hd x (List.mem_cons_of_mem _ hx)) ho.2⟩;obtain⟨c,hc,-⟩:=hd y List.mem_cons_self;obtain⟨c',hc',e1,-⟩:=h _ _ hc;rw [hb] at hc';injection hc' with hc';subst hc';rw [e1];exact ho.1 z hz he c hc
theorem RowOk.put {S:Fs} {no:Int} {l:List En} (h:RowOk S no l) (s:ByteArray) {k:Int} {b:An} (hb:S.get k=some b) (h1:b.kind=1→b.up=no∧S.root b.dev≠b.no) (h2:b.kind=1→∀ x∈l,x.no≠k):RowOk S no (entPut l s k):=by
 unfold entPut;refine ⟨fun x hx=>?_,?_⟩
 ·rcases List.mem_append.1 hx with hx | hx
  ·exact h.down x (List.mem_filter.1 hx).1
  ·rcases List.mem_cons.1 hx with rfl | hx
   ·exact ⟨b,hb,h1⟩
   ·exact h.down x (List.mem_filter.1 hx).1
 ·have hk:∀ x∈l,x.no=k→∀ c,S.get x.no=some c→c.kind≠1:=fun x hx he c hc hc1=>by
   rw [he,hb] at hc;injection hc with hc;subst hc;exact h2 hc1 x hx he
  rw [List.pairwise_append];refine ⟨h.once.sublist List.filter_sublist,?_,fun x hx y hy=>?_⟩
  ·rw [List.pairwise_cons];refine ⟨fun y hy he c hc=>?_,h.once.sublist List.filter_sublist⟩;refine hk y (List.mem_filter.1 hy).1 he.symm c ?_;rw [←he];exact hc
  ·rcases List.mem_cons.1 hy with rfl | hy
   ·intro he c hc;exact hk x (List.mem_filter.1 hx).1 he c hc
   ·intro he c hc;have hx':=(List.mem_filter.1 hx);have hy':=(List.mem_filter.1 hy);obtain⟨i,hi,rfl⟩:=List.mem_iff_getElem.1 hx'.1;obtain⟨j,hj,rfl⟩:=List.mem_iff_getElem.1 hy'.1;rcases Nat.lt_trichotomy i j with hij | hij | hij
    ·exact List.pairwise_iff_getElem.1 h.once i j hi hj hij he c hc
    ·subst hij;have e1:=hx'.2;have e2:=hy'.2;rw [ltB_asymm (by simpa using e1)] at e2
     cases e2
    ·exact List.pairwise_iff_getElem.1 h.once j i hj hi hij he.symm c (by rw [←he];exact hc)
theorem Tr.set {S:Fs} (h:Tr S) {a b:An} (hb:S.get a.no=some b) (hk:a.kind=b.kind) (hd:a.dev=b.dev) (hu:a.up=b.up) (hl:a.kind≠1→a.ents=[]) (hr:RowOk S a.no a.ents):Tr (S.set a):=by
 have hsub:Sub S (S.set a):=fun k c hc=>by
  rw [an_set hb];by_cases hka:k=a.no
  ·rw [if_pos hka];rw [hka,hb] at hc;injection hc with hc;subst hc;exact⟨a,rfl,hk,hu,hd,rfl⟩
  ·rw [if_neg hka];exact⟨c,hc,rfl,rfl,rfl,rfl⟩
 refine ⟨fun y hy=>?_,fun y hy=>hsub.row ?_,h.zero,fun i hi=>?_⟩
 ·unfold Fs.set at hy;simp only [List.mem_map] at hy;obtain⟨z,hz,rfl⟩:=hy
  split
  ·exact hl
  ·exact h.leaf z hz
 ·unfold Fs.set at hy;simp only [List.mem_map] at hy;obtain⟨z,hz,rfl⟩:=hy
  split
  ·exact hr
  ·exact h.row z hz
 ·obtain ⟨r,h1,h2,h3⟩:=h.rts i hi;obtain⟨c,hc,e1,-,e3,-⟩:=hsub _ _ h1;exact⟨c,hc,by rw [e1];exact h2,by rw [e3];exact h3⟩
theorem setDev_root {S:Fs} {d:Int} {v u:Dv} (hv:S.dev d=some v) (hr:u.root=v.root) (e:Int):(S.setDev d u).root e=S.root e:=by
 unfold Fs.dev at hv
 split at hv
 ·have hi:=(List.getElem?_eq_some_iff.1 hv).1;unfold Fs.root Fs.setDev;simp only [List.length_set,List.getElem?_set]
  split
  ·by_cases hq:(d - 1).toNat=(e - 1).toNat
   ·rw [if_pos hq,←hq,hv]
    first | exact hr | (rw [if_pos hi];exact hr)
   ·rw [if_neg hq]
  ·rfl
 ·cases hv
theorem Tr.setDev {S:Fs} (h:Tr S) {d:Int} {v u:Dv} (hv:S.dev d=some v) (hr:u.root=v.root) (ho:u.over=v.over):Tr (S.setDev d u):=by
 have hsub:Sub S (S.setDev d u):=fun k c hc=>⟨c,hc,rfl,rfl,rfl,setDev_root hv hr _⟩;have hv0:=hv;unfold Fs.dev at hv
 split at hv
 ·have hi:=(List.getElem?_eq_some_iff.1 hv).1;have hvi:=(List.getElem?_eq_some_iff.1 hv).2;refine ⟨h.leaf,fun y hy=>hsub.row (h.row y hy),fun e he=>?_,fun i hi2=>?_⟩
  ·unfold Fs.setDev at he;simp only [List.getElem?_set] at he;by_cases hq:(d - 1).toNat=0
   ·rw [if_pos hq] at he;rw [hq] at hv
    split at he
    ·injection he with he;rw [←he,ho];exact h.zero v hv
    ·rename_i hq2;exact absurd hi hq2
   ·rw [if_neg hq] at he;exact h.zero e he
  ·have hi3:i<S.ds.length:=by
    have:=hi2;unfold Fs.setDev at this;simpa using this
   obtain⟨r,h1,h2,h3⟩:=h.rts i hi3;have he:(S.setDev d u).ds[i]=if (d - 1).toNat=i then u else S.ds[i]:=
    List.getElem_set (l:=S.ds) (i:=(d - 1).toNat) (a:=u) (j:=i) (by rw [List.length_set];exact hi3)
   rw [he];by_cases hq:(d - 1).toNat=i
   ·subst hq;rw [if_pos rfl,hr,←hvi];exact⟨r,h1,h2,h3⟩
   ·rw [if_neg hq];exact⟨r,h1,h2,h3⟩
 ·cases hv
theorem sub_add {S:Fs} {N:Nat} (hk:FsOk S N) (a:An):Sub S (S.add a):=fun k c hc=>by
 refine ⟨c,?_,rfl,rfl,rfl,rfl⟩;rw [an_add hk.nums,if_neg]
 ·exact hc
 ·have:=get_low hk.nums hc;omega
theorem Tr.add {S:Fs} {N:Nat} (hk:FsOk S N) (h:Tr S) {a:An} (he:a.ents=[]):Tr (S.add a):=by
 have hsub:=sub_add hk a;refine ⟨fun y hy hyk=>?_,fun y hy=>?_,h.zero,fun i hi=>?_⟩
 ·rcases List.mem_append.1 hy with hy | hy
  ·exact h.leaf y hy hyk
  ·simp at hy;subst hy;exact he
 ·rcases List.mem_append.1 hy with hy | hy
  ·exact hsub.row (h.row y hy)
  ·simp at hy;subst hy;rw [show ({a with no:=S.last+1}:An).ents=a.ents from rfl,he];exact⟨fun x hx=>(by cases hx),List.Pairwise.nil⟩
 ·obtain ⟨r,h1,h2,h3⟩:=h.rts i hi;obtain⟨c,hc,e1,-,e3,-⟩:=hsub _ _ h1;exact⟨c,hc,by rw [e1];exact h2,by rw [e3];exact h3⟩
theorem addRoot_root (S:Fs) (k b n:Int) {e:Int} (he:e≤S.ds.length):(S.addRoot k b n).root e=S.root e:=by
 unfold Fs.root Fs.addRoot;simp only [List.length_append,List.length_singleton];by_cases h1:(1:Int)≤e
 ·rw [if_pos ⟨h1,by omega⟩,if_pos ⟨h1,he⟩,List.getElem?_append_left (by omega)]
 ·rw [if_neg (fun h=>h1 h.1),if_neg (fun h=>h1 h.1)]
theorem addRoot_get {S:Fs} (hn:Nums S) (k b n:Int):(S.addRoot k b n).get (S.last+1)=some {an0 with no:=S.last+1,dev:=S.ds.length+1,kind:=1,mode:=493,links:=1,up:=S.last+1}:=by
 have:=an_add hn {an0 with dev:=S.ds.length+1,kind:=1,mode:=493,links:=1,up:=S.last+1} (S.last+1);rw [if_pos rfl] at this;exact this
theorem Tr.addRoot {S:Fs} (hn:Nums S) (hdev:∀ a∈S.ns,a.dev≤S.ds.length) (h:Tr S) (k b n:Int) (h0:S.ds=[]→k=0):Tr (S.addRoot k b n):=by
 have hsub:Sub S (S.addRoot k b n):=fun q c hq=>by
  refine ⟨c,?_,rfl,rfl,rfl,addRoot_root S k b n (hdev c (an_mem hq))⟩;unfold Fs.get Fs.addRoot at *;simp only [List.find?_append,hq,Option.some_or]
 refine ⟨fun y hy hyk=>?_,fun y hy=>?_,fun d hd=>?_,fun i hi=>?_⟩
 ·rcases List.mem_append.1 hy with hy | hy
  ·exact h.leaf y hy hyk
  ·simp at hy;subst hy;rfl
 ·rcases List.mem_append.1 hy with hy | hy
  ·exact hsub.row (h.row y hy)
  ·simp at hy;subst hy;exact⟨fun x hx=>by simp [an0] at hx,List.Pairwise.nil⟩
 ·unfold Fs.addRoot at hd
  cases hds:S.ds with
  | nil=>
   rw [hds] at hd;simp at hd;rw [←hd];exact h0 hds
  | cons x l=>
   rw [hds] at hd;simp at hd;subst hd;exact h.zero x (by rw [hds];rfl)
 ·by_cases hi2:i<S.ds.length
  ·obtain ⟨r,h1,h2,h3⟩:=h.rts i hi2;have he:(S.addRoot k b n).ds[i]=S.ds[i]:=List.getElem_append_left hi2;rw [he];obtain⟨c,hc,e1,-,e3,-⟩:=hsub _ _ h1;exact⟨c,hc,by rw [e1];exact h2,by rw [e3];exact h3⟩
  ·have hi3:i=S.ds.length:=by
    have h4:i<(S.ds ++ [(⟨S.last+1,k,1,1,b,n⟩:Dv)]).length:=hi;rw [List.length_append,List.length_singleton] at h4;omega
   subst hi3;have he:(S.addRoot k b n).ds[S.ds.length]=⟨S.last+1,k,1,1,b,n⟩:=by
    have h5:(S.ds ++ [(⟨S.last+1,k,1,1,b,n⟩:Dv)])[S.ds.length]? = some ⟨S.last+1,k,1,1,b,n⟩:=by
     rw [List.getElem?_append_right (Nat.le_refl _)];simp
    exact (List.getElem?_eq_some_iff.1 h5).2
   rw [he];exact⟨_,addRoot_get hn k b n,rfl,rfl⟩
theorem Tr.new (b n:Int):Tr (fs0.addRoot 0 b n):=
 Tr.addRoot ⟨List.Pairwise.nil,fun x hx=>by cases hx⟩ (fun x hx=>by cases hx) ⟨fun x hx=>(by cases hx),fun x hx=>(by cases hx),fun d hd=>(by cases hd),fun i hi=>(by cases hi)⟩ 0 b n (fun _=>rfl)
theorem Tr.make {S:Fs} {N:Nat} (hk:FsOk S N) (h:Tr S) {a:An} (he:a.ents=[]):Tr (S.make a).1∧Sub S (S.make a).1∧((S.make a).2.2=0→(S.make a).2.1=S.last+1∧(S.make a).1.get (S.last+1)=some {a with no:=S.last+1}∧(S.make a).1.root a.dev=S.root a.dev):=by
 have hrefl:Sub S S:=fun k c hc=>⟨c,hc,rfl,rfl,rfl,rfl⟩;unfold Fs.make
 split
 ·exact ⟨h,hrefl,fun h=>by cases h⟩
 ·split
  ·exact ⟨h,hrefl,fun h=>by cases h⟩
  ·rename_i v hv;simp only
   split
   ·have h2:=h.setDev (u:={v with b:=v.b+blkI a.kind a.data.size,n:=v.n+1}) hv rfl rfl;have hk2:=hk.setDev (u:={v with b:=v.b+blkI a.kind a.data.size,n:=v.n+1}) hv rfl;have hrt:=setDev_root (u:={v with b:=v.b+blkI a.kind a.data.size,n:=v.n+1}) hv rfl;refine ⟨h2.add hk2 he,fun k c hc=>?_,fun _=>⟨rfl,?_,hrt _⟩⟩
    ·obtain ⟨c',h3,h4,h5,h6,-⟩:=sub_add hk2 a k c hc;exact⟨c',h3,h4,h5,h6,hrt _⟩
    ·show Fs.get (Fs.add _ a) (S.last+1)=_;rw [an_add hk2.nums];exact if_pos rfl
   ·rename_i he2;exact⟨h,hrefl,fun h=>absurd h he2⟩
theorem Tr.touch {S:Fs} (h:Tr S) (now dir:Int) (l:List En) (hl:∀ d,S.get dir=some d→d.kind=1∧RowOk S dir l):Tr (S.touch now dir l):=by
 unfold Fs.touch
 split
 ·exact h
 ·rename_i d hd;obtain⟨h1,h2⟩:=hl d hd;exact h.set (b:=d) (by show S.get d.no=_;rw [an_no hd];exact hd) rfl rfl rfl (fun hq=>absurd h1 hq) (by show RowOk S d.no l;rw [an_no hd];exact h2)
theorem Tr.come {S:Fs} {N:Nat} (hk:FsOk S N) (h:Tr S) {a:An} (c:Cr) (now dir:Int) (s:ByteArray) (he:a.ents=[]) (hu:a.kind=1→a.up=dir):Tr (S.come c now dir s a).1:=by
 unfold Fs.come
 split
 ·exact h
 ·rename_i hpl;obtain⟨d,hd,hdk,hce⟩:=place_check (by simpa using hpl);rw [hd];simp only
  split
  ·exact h
  ·obtain ⟨hdo,hdn,h1,h2⟩:=hk.get hd;obtain⟨m1,m2,m3⟩:=h.make hk (a:={a with dev:=d.dev,uid:=c.u,gid:=c.g,mtime:=now,ctime:=now,links:=1}) he
   split
   ·exact h
   ·rename_i h0;obtain⟨e1,e2,e3⟩:=m3 (by simpa using h0);refine m1.touch _ _ _ fun d2 hd2=>?_;obtain⟨d3,hd3,hk3,-⟩:=m2 _ _ hd;rw [hd2] at hd3;injection hd3 with hd3;subst hd3;refine ⟨by rw [hk3];exact hdk,?_⟩;have hrow:=m2.row (h.row d (an_mem hd));rw [an_no hd] at hrow;rw [e1];refine hrow.put s e2 (fun hq=>⟨hu hq,?_⟩) (fun _ x hx=>?_)
    ·show Fs.root _ d.dev≠S.last+1;rw [e3];show S.root d.dev≠S.last+1;obtain⟨v,-,hrt,-,hm⟩:=root_of hk hdo.dev.1 hdo.dev.2;have h4:=(hk.root v hm).2;omega
    ·obtain ⟨y,hy,-⟩:=(h.row d (an_mem hd)).down x hx;have:=get_low hk.nums hy;omega
theorem Tr.mkdir {S:Fs} {N:Nat} (hk:FsOk S N) (h:Tr S) (c:Cr) (now dir:Int) (s:ByteArray) (m:Int):Tr (S.mkdir c now dir s m).1:=by
 unfold Fs.mkdir
 split
 ·exact h
 ·exact h.come hk c now dir s rfl (fun _=>rfl)
theorem Tr.file {S:Fs} {N:Nat} (hk:FsOk S N) (h:Tr S) (c:Cr) (now dir:Int) (s:ByteArray) (m:Int) (t:ByteArray):Tr (S.file c now dir s m t).1:=by
 unfold Fs.file
 split
 ·exact h
 ·split
  ·exact h
  ·exact h.come hk c now dir s rfl (fun hq=>absurd hq (by dsimp only;decide))
theorem Tr.sym {S:Fs} {N:Nat} (hk:FsOk S N) (h:Tr S) (c:Cr) (now dir:Int) (s t:ByteArray):Tr (S.sym c now dir s t).1:=by
 unfold Fs.sym
 split
 ·exact h
 ·split
  ·exact h
  ·exact h.come hk c now dir s rfl (fun hq=>absurd hq (by dsimp only;decide))
theorem Tr.same {S:Fs} (h:Tr S) {n m:An} (hn:S.get n.no=some n) (h0:m.no=n.no) (h1:m.kind=n.kind) (h2:m.dev=n.dev) (h3:m.up=n.up) (h4:m.ents=n.ents):Tr (S.set m):=
 h.set (b:=n) (by rw [h0];exact hn) h1 h2 h3 (by rw [h1,h4];exact h.leaf n (an_mem hn)) (by rw [h0,h4];exact h.row n (an_mem hn))
theorem get_self {S:Fs} {k:Int} {n:An} (h:S.get k=some n):S.get n.no=some n:=by rw [an_no h];exact h
theorem Tr.hard {S:Fs} (h:Tr S) (c:Cr) (now no dir:Int) (s:ByteArray):Tr (S.hard c now no dir s).1:=by
 unfold Fs.hard
 split
 ·exact h
 ·rename_i hpl;obtain⟨d0,hd0,hdk,hce⟩:=place_check (by simpa using hpl)
  split
  ·rename_i d n hd hn;rw [hd] at hd0;injection hd0 with hd0;subst hd0
   split
   ·exact h
   ·rename_i hnk
    split
    ·exact h
    ·split
     ·exact h
     ·split
      ·exact h
      ·have hs:=h.same (m:={n with links:=n.links+1,ctime:=now}) (get_self hn) rfl rfl rfl rfl rfl;have hset:S.get ({n with links:=n.links+1,ctime:=now}:An).no=some n:=get_self hn;have hno:=an_no hn;refine hs.touch _ _ _ fun d2 hd2=>?_;rw [an_set hset] at hd2;have hdn:dir≠n.no:=by
        rintro rfl;rw [hset] at hd;injection hd with hd;subst hd;exact hnk hdk
       rw [if_neg hdn,hd] at hd2;injection hd2 with hd2;subst hd2;refine ⟨hdk,?_⟩;have hsub:Sub S (S.set {n with links:=n.links+1,ctime:=now}):=fun k c hc=>by
        rw [an_set hset]
        split
        ·rename_i hkn;rw [hkn,hset] at hc;injection hc with hc;subst hc;exact⟨_,rfl,rfl,rfl,rfl,rfl⟩
        ·exact ⟨c,hc,rfl,rfl,rfl,rfl⟩
       have hrow:=hsub.row (h.row d (an_mem hd));rw [an_no hd] at hrow;refine hrow.put s (b:={n with links:=n.links+1,ctime:=now}) ?_ (fun hq=>absurd hq hnk) (fun hq=>absurd hq hnk);rw [an_set hset,if_pos hno.symm]
  ·exact h
theorem Tr.chmod {S:Fs} (h:Tr S) (c:Cr) (now no m:Int):Tr (S.chmod c now no m).1:=by
 unfold Fs.chmod
 split
 ·exact h
 ·rename_i n hn
  split
  ·exact h
  ·split
   ·exact h
   ·exact h.same (get_self hn) rfl rfl rfl rfl rfl
theorem Tr.chown {S:Fs} (h:Tr S) (c:Cr) (now no u g:Int):Tr (S.chown c now no u g).1:=by
 unfold Fs.chown
 split
 ·exact h
 ·rename_i n hn
  split
  ·exact h
  ·split
   ·exact h
   ·split
    ·exact h
    ·exact h.same (get_self hn) rfl rfl rfl rfl rfl
theorem Tr.utime {S:Fs} (h:Tr S) (c:Cr) (now no t:Int):Tr (S.utime c now no t).1:=by
 unfold Fs.utime
 split
 ·exact h
 ·rename_i n hn
  split
  ·exact h
  ·split
   ·exact h
   ·exact h.same (get_self hn) rfl rfl rfl rfl rfl
theorem Tr.mount {S:Fs} {N:Nat} (hk:FsOk S N) (h:Tr S) (k b n:Int):Tr (S.mount k b n).1:=by
 unfold Fs.mount
 split
 ·exact h
 ·split
  ·exact h
  ·split
   ·exact h
   ·split
    ·exact h
    ·exact h.addRoot hk.nums (fun a ha=>(hk.all a ha).dev.2) k b n (fun h0=>by
      have:=hk.d1;rw [h0] at this
      cases this)
theorem Tr.mountF {S:Fs} {N:Nat} (hk:FsOk S N) (h:Tr S) (m:Mt):Tr (mountF S m):=by
 unfold Go.Proofs.YtihdbncoijhihaaGreat.mountF
 split
 ·exact h
 ·split
  ·have h1:=h.mkdir hk c00 0 (S.path c00 m.path false).1.dir (S.path c00 m.path false).1.name 493;have hk1:=mkdir_ok hk c00 0 (S.path c00 m.path false).1.dir (S.path c00 m.path false).1.name 493;simp only
   split
   ·exact h1
   ·exact h1.mount hk1 _ _ _
  ·exact h.mount hk _ _ _
theorem Tr.mountsF {S:Fs} {N:Nat} (hk:FsOk S N) (h:Tr S) (l:List Mt):Tr (mountsF S l):=by
 induction l generalizing S N with
 | nil=>exact h
 | cons m l ih=>
  unfold Go.Proofs.YtihdbncoijhihaaGreat.mountsF;by_cases hm:m.path=topB
  ·rw [if_pos hm];exact ih hk h
  ·rw [if_neg hm];exact ih (mountF_ok hk m) (h.mountF hk m)
theorem Tr.nodeF {S:Fs} {N:Nat} (hk:FsOk S N) (h:Tr S) (it:It):Tr (nodeF S it).1:=by
 unfold Go.Proofs.YtihdbncoijhihaaGreat.nodeF;simp only
 split
 ·exact h
 ·split
  ·split <;> exact h
  ·split
   ·exact h.mkdir hk _ _ _ _ _
   ·split
    ·exact h.file hk _ _ _ _ _ _
    ·split
     ·exact h.sym hk _ _ _ _ _
     ·split
      ·split
       ·exact h.hard _ _ _ _ _
       ·exact h
      ·exact h
theorem Tr.itemF {S:Fs} {N:Nat} (hk:FsOk S N) (h:Tr S) (it:It):Tr (itemF S it).1:=by
 unfold Go.Proofs.YtihdbncoijhihaaGreat.itemF;have h1:=h.nodeF hk it;simp only
 split
 ·exact (h1.chown _ _ _ _ _).chmod _ _ _ _
 ·exact h1
theorem Tr.itemsF {S:Fs} {N:Nat} (hk:FsOk S N) (h:Tr S) (l:List It):Tr (itemsF S l).1:=by
 induction l generalizing S N with
 | nil=>exact h
 | cons x l ih=>exact ih (itemF_ok2 hk x) (h.itemF hk x)
theorem Tr.timesF {S:Fs} (h:Tr S) (l:List (It×Int)):Tr (timesF S l):=by
 induction l generalizing S with
 | nil=>exact h
 | cons x l ih=>
  unfold Go.Proofs.YtihdbncoijhihaaGreat.timesF;refine ih ?_
  split
  ·exact h.utime _ _ _ _
  ·exact h
theorem plant_tr (ms:List Mt) (is:List It):Tr (plantF ms is):=by
 unfold plantF;simp only;have hk:=FsOk.new (limitsF ms).1 (limitsF ms).2;exact Tr.timesF (Tr.itemsF (mountsF_ok hk ms) (Tr.mountsF hk (Tr.new _ _) ms) is) _
end
section
open Go.RowKit
structure Rw where
 path:ByteArray
 kind:Int
 mode:Int
 uid:Int
 gid:Int
 mtime:Int
 ctime:Int
 dev:Int
 first:Int
 data:ByteArray
 deriving DecidableEq
def belowB (s n:ByteArray):ByteArray:=str (trimL s.data.toList ++ 47 :: n.data.toList)
def An.rw (n:An) (p:ByteArray) (first:Int):Rw:=⟨p,n.kind,n.mode,n.uid,n.gid,n.mtime,n.ctime,n.dev,first,n.data⟩
def kidsL (p:ByteArray) (n:An):List En:=n.ents.map fun e=>⟨belowB p e.name,e.no⟩
def Fs.rowsN (S:Fs):Nat→List En→List Int→List Rw→List Rw
 | 0,_,_,out=>out
 | _+1,[],_,out=>out
 | f+1,x :: todo,nos,out=>
  match S.get (S.over x.no) with
  | none=>S.rowsN f todo nos out
  | some n=>S.rowsN f (kidsL x.name n ++ todo) (nos ++ [n.no]) (out ++ [n.rw x.name (nos.idxOf n.no)])
def Fs.rowsF (S:Fs) (N:Nat):Nat:=1+(N+1)*S.ns.length
def Fs.rows (S:Fs) (N:Nat) (no:Int) (p:ByteArray):List Rw:=S.rowsN (S.rowsF N) [⟨p,no⟩] [] []
def Fs.isDir (S:Fs) (k:Int):Bool:=match S.get k with | some n=>n.kind == 1 | none=>false
def Fs.dirsT (S:Fs) (l:List En):List Int:=(l.map fun x=>S.over x.no).filter S.isDir
structure TrSt (S:Fs) (N:Nat) (s0:Int) (B:Nat) (todo:List En) (nos:List Int) (f:Nat):Prop where
 nodup:(S.dirsT todo ++ nos.filter S.isDir).Nodup
 src:∀ c∈S.dirsT todo ++ nos.filter S.isDir,c=s0∨S.above c∈nos.filter S.isDir
 low:∀ c∈S.dirsT todo ++ nos.filter S.isDir,s0≤c
 fuel:todo.length+(N+1)*(S.ns.length - (nos.filter S.isDir).length)≤f
 size:∀ x∈todo,x.name.size≤B+256*(if S.isDir (S.over x.no) then (S.over x.no).toNat else S.last.toNat+1)
end
section
open Go.RowKit
def Fs.topF (S:Fs) (no:Int):Int×ByteArray×Int:=
 match S.get no with
 | none=>(0,ByteArray.empty,5)
 | some a=>match S.place_ (S.root a.dev) with
  | none=>(0,ByteArray.empty,5)
  | some s=>(S.root a.dev,s,0)
def Fs.pathF (S:Fs) (dir:Int) (n:ByteArray):ByteArray×Int:=
 if checkE n≠0 then (ByteArray.empty,checkE n) else
 match S.get dir with
 | none=>(ByteArray.empty,5)
 | some a=>if a.kind≠1 then (ByteArray.empty,9) else
  match S.place_ dir with
  | none=>(ByteArray.empty,5)
  | some s=>if 4096<(belowB s n).size then (ByteArray.empty,13) else (belowB s n,0)
def Fs.isRoot (S:Fs) (no:Int):Bool:=match S.get no with | none=>false | some a=>S.root a.dev == no
def Fs.operandF (S:Fs) (c:Cr) (p:ByteArray):Fd×Int:=
 if pathE p≠0 then (fd0,pathE p)
 else if lastL p.data.toList=[] then (fd0,1)
 else if (S.path c p false).2≠0 then (fd0,(S.path c p false).2)
 else if (S.path c p false).1.no=0 then (fd0,5)
 else if (S.path c p false).1.name=ByteArray.empty then (fd0,1)
 else if S.busy (S.path c p false).1.no=true∨S.isRoot (S.path c p false).1.no=true then (fd0,16)
 else ((S.path c p false).1,0)
def There (S:Fs) (x:Fd×Int):Prop:=x.1.name=ByteArray.empty∨x.1.no=0∨∃ a,S.get x.1.no=some a
section
variable {S:Fs} {no dir:Int} {n s:ByteArray} {a:An}
theorem topF_none (h:S.get no=none):S.topF no=(0,ByteArray.empty,5):=by unfold Fs.topF;rw [h]
theorem topF_gone (h:S.get no=some a) (hp:S.place_ (S.root a.dev)=none):S.topF no=(0,ByteArray.empty,5):=by unfold Fs.topF;rw [h];simp only;rw [hp]
theorem topF_some (h:S.get no=some a) (hp:S.place_ (S.root a.dev)=some s):S.topF no=(S.root a.dev,s,0):=by unfold Fs.topF;rw [h];simp only;rw [hp]
end
end
section
open Go.RowKit
section
variable {w w':World} {pf:Nat} {R:Rf} {S:Fs}
theorem rwithin_any (h:RfAt w pf R S) {N:Nat} (hk:FsOk S N) (hl:S.ns.length≤100000) (no base:Int) :
  Calls Tryz.prog 221 #[.pointer (some ⟨pf,0,none⟩),.int .i64 no,.int .i64 base] w fun e w'=>e=.returned (.bool (S.within no base))∧Below w.heap.size w w':=by
 obtain⟨na,nc,hnv,hn1,hn2⟩:=h.nform;have hlen:=h.len;have HW:=Lib.hid h;have HS:=Lib.hid (show S.within no base=S.withinN base (S.ns.length+1) no from rfl);have HA:=Lib.hid (fun w1 (hb1:Below w.heap.size w w1) x=>rabove_any (h.keep hb1) hk x);have hb:=h.blk;rw [hnv] at hb;have HB:=Lib.hid hb;rw [←hlen] at HB hn1;generalize S.ns.length=n at HB hn1 HS hl;generalize S.within no base=out at HS ⊢;clear h hk hnv hlen hb;go_enter Tryz.func221,Tryz.ntmps221;go_wp2_with fail
 go_loopw [1,7] (fun t1 t7 wr=>∃ (k:Nat) (x:Int),k≤n+1∧t1=.int .i64 x∧t7=.int .i64 k∧out=S.withinN base (n+1 - k) x∧Below w.heap.size w wr) (fun _ t7 _=>n+1 - (intOf t7).toNat)
 case atStart=>exact ⟨0,no,Nat.zero_le _,rfl,rfl,HS.out,Below.refl _ _⟩
 case round=>
  obtain⟨k,x,hk1,rfl,rfl,hE,hbw⟩:=hrel;have HE:=Lib.hid hE;have HBw:=Lib.hid hbw;obtain⟨bc,-,-⟩:=(HB.out.keep hbw).facts;clear hE hbw;by_cases hlt:k≤n
  ·have hlt2:(k:Int)≤(n:Int):=by omega
   have HE2:=Lib.hid (show out=if x=0 then false else if x=base then true else S.withinN base (n+1 - (k+1)) (S.above x) by
    rw [HE.out,show n+1 - k=(n+1 - (k+1))+1 by omega];rfl)
   by_cases h0:x=0
   ·have p0:(x != 0)=false:=by simpa using h0
    have HO:=Lib.hid (HE2.out.trans (if_pos h0));clear h0;go_wp2_with fail;go_ret;rw [HO.out];exact⟨rfl,HBw.out⟩
   ·have p0:(x != 0)=true:=by simpa using h0
    have HO0:=Lib.hid (HE2.out.trans (if_neg h0));clear h0;by_cases h1:x=base
    ·have p1:(x == base)=true:=by simpa using h1
     have HO:=Lib.hid (HO0.out.trans (if_pos h1));clear h1;go_wp2_with fail;go_ret;rw [HO.out];exact⟨rfl,HBw.out⟩
    ·have p1:(x == base)=false:=by simpa using h1
     have HO:=Lib.hid (HO0.out.trans (if_neg h1));have HAx:=Lib.hid (HA.out wr HBw.out x);clear h1;go_wp2_with fail;refine HAx.out.mono ?_;rintro e w1 ⟨rfl,hb1⟩;have HB1:=Lib.hid (bnext HBw.out hb1);clear hb1;go_wp2_with fail;go_roundw
     case rel=>exact ⟨k+1,S.above x,by omega,rfl,by go_num,HO.out,HB1.out⟩
     case measure=>simp [intOf];omega
  ·have hkn:k=n+1:=by omega
   subst hkn;have hgt:¬ ((n:Int)+1≤(n:Int)):=by omega
   have HO:=Lib.hid (show out=false by rw [HE.out,Nat.sub_self];rfl);go_wp2_with fail;go_ret;rw [HO.out];exact⟨rfl,HBw.out⟩
theorem busy_drop {S:Fs} {no:Int} {k:Nat} (hk:k<S.ds.length):(S.ds.drop k).any (fun d=>S.within d.over no)=(S.within S.ds[k].over no || (S.ds.drop (k+1)).any (fun d=>S.within d.over no)):=by
 rw [List.drop_eq_getElem_cons hk,List.any_cons]
theorem rbusy_any (h:RfAt w pf R S) {N:Nat} (hk:FsOk S N) (hl:S.ns.length≤100000) (no:Int) :
  Calls Tryz.prog 197 #[.pointer (some ⟨pf,0,none⟩),.int .i64 no] w fun e w'=>e=.returned (.bool (S.busy no))∧Below w.heap.size w w':=by
 obtain⟨g,cap,hdv,hle,h63,hgl,hc,-,-⟩:=h.devF hk.d1;have hd1:=hk.d1;have hd8:=hk.d8;have HS:=Lib.hid (show S.busy no=(S.ds.drop 1).any (fun d=>S.within d.over no) from rfl);have HA:=Lib.hid (fun w1 (hb1:Below w.heap.size w w1) x=>rwithin_any (h.keep hb1) hk hl x no);have hb:=h.blk;rw [hdv] at hb;have HB:=Lib.hid hb;have HC:=Lib.hid (fun k (hk:k<S.ds.length)=>(hc k hk).c1);have HD:=Lib.hid (fun k (hk:k<S.ds.length)=>busy_drop (S:=S) (no:=no) hk);obtain⟨m,hm⟩:∃ m,S.ds.length=m:=⟨_,rfl⟩;have HM:=Lib.hid hm;rw [hm] at HB hle hd1 hd8;generalize S.busy no=out at HS ⊢;clear h hk hdv hb hc hm;go_enter Tryz.func197,Tryz.ntmps197;go_wp2_with fail
 go_loopw [5] (fun t5 wr=>∃ (k:Nat),1≤k∧k≤m∧t5=.int .i64 k∧out=(S.ds.drop k).any (fun d=>S.within d.over no)∧Below w.heap.size w wr) (fun t5 _=>m - (intOf t5).toNat)
 case atStart=>exact ⟨1,Nat.le_refl _,hd1,rfl,HS.out,Below.refl _ _⟩
 case round=>
  obtain⟨k,hk1,hk2,rfl,hE,hbw⟩:=hrel;have HE:=Lib.hid hE;have HBw:=Lib.hid hbw;obtain⟨bc,-,-⟩:=(HB.out.keep hbw).facts;clear hE;by_cases hlt:k<m
  ·have hkl:k<S.ds.length:=by rw [HM.out];exact hlt
   have cc:=(hbw.cell (p:=⟨g,k*6+1,none⟩) hgl).trans (HC.out k hkl);have HE2:=Lib.hid (HE.out.trans (HD.out k hkl));have HAx:=Lib.hid (HA.out wr HBw.out S.ds[k].over);generalize S.ds[k].over=ov at cc HE2 HAx;clear hbw hkl
   cases hwn:S.within ov no with
   | true=>
    rw [hwn] at HE2 HAx;have HO:=Lib.hid (show out=true from HE2.out);go_wp2_with fail;refine HAx.out.mono ?_;rintro e w1 ⟨rfl,hb1⟩;have HB1:=Lib.hid (bnext HBw.out hb1);clear hb1;go_wp2_with fail;go_ret;rw [HO.out];exact⟨rfl,HB1.out⟩
   | false=>
    rw [hwn] at HE2 HAx;have HO:=Lib.hid (show out=(S.ds.drop (k+1)).any (fun d=>S.within d.over no) by rw [HE2.out];rfl);go_wp2_with fail;refine HAx.out.mono ?_;rintro e w1 ⟨rfl,hb1⟩;have HB1:=Lib.hid (bnext HBw.out hb1);clear hb1;go_wp2_with fail;go_roundw
    case rel=>exact ⟨k+1,by omega,by omega,by go_num,HO.out,HB1.out⟩
    case measure=>simp [intOf];omega
  ·obtain rfl:k=m:=by omega
   have HO:=Lib.hid (show out=false by rw [HE.out,←HM.out,List.drop_length];rfl);clear hbw;go_wp2_with fail;go_ret;rw [HO.out];exact⟨rfl,HBw.out⟩
end
end
end Go.Proofs.YtihdbncoijhihaaGreat
