import Derived.Lib.SliceRun
import Derived.StillTail
import Derived.StillTactics
import Derived.OrdersHeld
import Derived.WalkKit
import Derived.Test.YtabbjaomlmnnhaaGreatCS3
import Derived.Test.YtabbjaomlmnnhaaGreatCS2
import Derived.Test.YtabbjaomlmnnhaaGreatCS1
import Derived.Test.YtabbjaomlmnnhaaGreatProg
set_option linter.unusedVariables false
set_option linter.unusedSimpArgs false
set_option maxRecDepth 100000
set_option maxHeartbeats 16000000
namespace Go.Proofs.YtabbjaomlmnnhaaGreat
section
open Go.RowKit
structure Rw where
 path:ByteArray
 kind:Int
 mode:Int
 uid:Int
 gid:Int
 mtime:Int
 ctime:Int
 dev:Int
 first:Int
 data:ByteArray
 deriving DecidableEq
def kl(s n:ByteArray):ByteArray:=str (mW s.data.toList++47::n.data.toList)
def An.rw(n:An)(p:ByteArray)(first:Int):Rw:=⟨p,n.kind,n.mode,n.uid,n.gid,n.mtime,n.ctime,n.dev,first,n.data⟩
def gO(p:ByteArray)(n:An):List En:=n.ay.map fun e=>⟨kl p e.name,e.no⟩
def Fs.ER(S:Fs):Nat→List En→List Int→List Rw→List Rw
 |0,_,_,out=>out
 |_+1,[],_,out=>out
 |f+1,x::todo,nos,out=>
  match S.get (S.aC x.no) with
  |none=>S.ER f todo nos out
  |some n=>S.ER f (gO x.name n++todo) (nos++[n.no]) (out++[n.rw x.name (nos.idxOf n.no)])
def Fs.wP(S:Fs)(N:Nat):Nat:=1+(N+1)*S.ns.length
def Fs.rows(S:Fs)(N:Nat)(no:Int)(p:ByteArray):List Rw:=S.ER (S.wP N) [⟨p,no⟩] [] []
theorem AW(s n:ByteArray):(kl s n).size≤s.size+n.size+1:=by
 unfold kl;rw[cJ,List.length_append,List.length_cons];have h1:=Cb s.data.toList;have h2:s.data.toList.length=s.size:=Array.length_toList;have h3:n.data.toList.length=n.size:=Array.length_toList;omega
def Fs.isDir(S:Fs)(k:Int):Bool:=match S.get k with|some n=>n.kind==1|none=>false
theorem mD{S:Fs}{k:Int}(h:S.isDir k=true):∃n,S.get k=some n∧n.kind=1:=by
 unfold Fs.isDir at h
 split at h
 ·rename_i n hn;exact⟨n,hn,by simpa using h⟩
 ·cases h
theorem rA{S:Fs}{k:Int}{n:An}(h:S.get k=some n)(hk:n.kind=1):S.isDir k=true:=by
 unfold Fs.isDir;rw[h];simpa using hk
theorem Da{S:Fs}{k:Int}{n:An}(h:S.get k=some n)(hk:n.kind≠1):S.isDir k=false:=by
 unfold Fs.isDir;rw[h];simpa using hk
theorem LS{S:Fs}{i:Nat}(hi:i<S.ds.length):S.dev ((i:Int)+1)=some S.ds[i]∧S.root ((i:Int)+1)=S.ds[i].root:=by
 refine⟨?_,?_⟩
 ·unfold Fs.dev;rw[if_pos (by omega),show((i:Int)+1-1).toNat=i by omega,List.getElem?_eq_getElem hi]
 ·unfold Fs.root;rw[if_pos ⟨by omega,by omega⟩,show((i:Int)+1-1).toNat=i by omega,List.getElem?_eq_getElem hi]
theorem u7{S:Fs}{N:Nat}(hk:ax S N)(hp:Pl S)(ht:Tr S){n:An}(hn:n∈S.ns){e:En}(he:e∈n.ay)(hd:S.isDir (S.aC e.no)=true) :
  S.aX (S.aC e.no)=n.no∧n.no<S.aC e.no∧S.child (S.aC e.no)=e.no∧S.isDir e.no=true:=by
 have hnz:1≤e.no:=(hk.all n hn).nz e he;obtain⟨b,hb,av⟩:=(ht.row n hn).down e he;obtain⟨r,hr,sE⟩:=mD hd;have ho:S.aC e.no=match S.ds.find? (fun d=>d.aC==e.no) with|some d=>d.root|none=>e.no:=by
  unfold Fs.aC;rw[if_pos (by omega)];rfl
 cases hf:S.ds.find? (fun d=>d.aC==e.no) with
 |none=>
  rw[hf] at ho;simp only at ho;rw[ho] at hr⊢;rw[hb] at hr;injection hr with hr;subst hr;obtain⟨h1,h2⟩:=av sE;have hbn:=cj hb;have hup:=hp.up b (bD hb) sE;refine⟨?_,?_,?_,rA hb sE⟩
  ·unfold Fs.aX;rw[hb];simp only;rw[if_neg (by simpa using sE),if_neg (fun h=>h2 (by rw[hbn];exact h.1))];exact h1
  ·rcases hup with h|h
   ·exact absurd h.1 h2
   ·omega
  ·unfold Fs.child;rw[hb];simp only;rw[if_neg (fun h=>h2 (by rw[hbn];exact h.1))]
 |some d=>
  rw[hf] at ho;simp only at ho;have hdo:d.aC=e.no:=by simpa using List.find?_some hf
  obtain⟨i,hi,hid⟩:=List.mem_iff_getElem.1 (List.mem_of_find?_eq_some hf);subst hid;have IY:1≤i:=by
   rcases Nat.eq_zero_or_pos i with h0|h0
   ·subst h0;have:=ht.zero S.ds[0] (List.getElem?_eq_getElem hi);omega
   ·exact h0
  obtain⟨b2,aS,hbk,hlt⟩:=hp.aC i hi IY;rw[hdo,hb] at aS;injection aS with aS;subst aS;obtain⟨h1,h2⟩:=av hbk;obtain⟨r2,pB,hr2k,Og⟩:=ht.NU i hi;obtain⟨d1,d2⟩:=LS hi;have hbn:=cj hb;have hup:=hp.up b (bD hb) hbk;rw[ho];refine⟨?_,?_,?_,rA hb hbk⟩
  ·unfold Fs.aX;rw[pB];simp only;rw[if_neg (by simpa using hr2k),Og,if_pos ⟨d2,by omega⟩,d1];simp only;rw[hdo,hb];exact h1
  ·rcases hup with h|h
   ·exact absurd h.1 h2
   ·omega
  ·unfold Fs.child;rw[pB];simp only;rw[Og,if_pos ⟨d2,by omega⟩,d1];exact hdo
def Fs.eM(S:Fs)(l:List En):List Int:=(l.map fun x=>S.aC x.no).filter S.isDir
theorem im(S:Fs)(a b:List En):S.eM (a++b)=S.eM a++S.eM b:=by
 unfold Fs.eM;rw[List.map_append,List.filter_append]
theorem Fp{S:Fs}{p:ByteArray}{n:An}{c:Int}(h:c∈S.eM (gO p n)):∃e∈n.ay,S.aC e.no=c∧S.isDir c=true:=by
 unfold Fs.eM gO at h;rw[List.map_map] at h;obtain⟨h1,h2⟩:=List.mem_filter.1 h;obtain⟨e,he,rfl⟩:=List.mem_map.1 h1;exact⟨e,he,rfl,h2⟩
theorem Af{S:Fs}{N:Nat}(hk:ax S N)(hp:Pl S)(ht:Tr S){n:An}(hn:n∈S.ns)(p:ByteArray):(S.eM (gO p n)).Nodup:=by
 unfold Fs.eM gO;rw[List.map_map,List.Nodup,List.pairwise_filter,List.pairwise_map];have h1:∀(l:List En),(∀x∈l,x∈n.ay)→l.Pairwise (fun x y=>x.no=y.no→∀b,S.get x.no=some b→b.kind≠1)→l.Pairwise (fun x y=>S.isDir (S.aC x.no)=true→S.isDir (S.aC y.no)=true→S.aC x.no≠S.aC y.no):=by
  intro l
  induction l with
  |nil=>intro _ _;exact List.Pairwise.nil
  |cons x l ih=>
   intro hm hl;rw[List.pairwise_cons] at hl⊢;refine⟨fun y hy Oc hy1 he=>?_,ih (fun z hz=>hm z (List.mem_cons_of_mem _ hz)) hl.2⟩;obtain⟨-,-,c1,i1⟩:=u7 hk hp ht hn (hm x List.mem_cons_self) Oc;obtain⟨-,-,c2,-⟩:=u7 hk hp ht hn (hm y (List.mem_cons_of_mem _ hy)) hy1;rw[he,c2] at c1;obtain⟨b,hb,av⟩:=mD i1;exact hl.1 y hy c1.symm b hb av
 exact h1 n.ay (fun x hx=>hx) (ht.row n hn).once
theorem tG:∀(l m:List Int),l.Nodup→(∀c∈l,c∈m)→l.length≤m.length:=by
 intro l
 induction l with
 |nil=>intro m _ _;exact Nat.zero_le _
 |cons c l ih=>
  intro m hl hm;rw[List.nodup_cons] at hl;have h1:=ih (m.erase c) hl.2 (fun d hd=>by
   have hdc:d≠c:=by rintro rfl;exact hl.1 hd
   exact(List.mem_erase_of_ne hdc).2 (hm d (List.mem_cons_of_mem _ hd)))
  have h2:=hm c List.mem_cons_self;rw[List.length_erase_of_mem h2] at h1;have h3:=List.length_pos_of_mem h2;rw[List.length_cons];omega
structure pL(S:Fs)(N:Nat)(s0:Int)(B:Nat)(todo:List En)(nos:List Int)(f:Nat):Prop where
 nodup:(S.eM todo++nos.filter S.isDir).Nodup
 src:∀c∈S.eM todo++nos.filter S.isDir,c=s0∨S.aX c∈nos.filter S.isDir
 low:∀c∈S.eM todo++nos.filter S.isDir,s0≤c
 fuel:todo.length+(N+1)*(S.ns.length-(nos.filter S.isDir).length)≤f
 size:∀x∈todo,x.name.size≤B+256*(if S.isDir (S.aC x.no) then(S.aC x.no).toNat else S.last.toNat+1)
theorem pL.start(S:Fs)(N:Nat)(no:Int)(p:ByteArray):pL S N (S.aC no) p.size [⟨p,no⟩] [] (S.wP N):=by
 have h1:∀c∈S.eM [⟨p,no⟩]++([]:List Int).filter S.isDir,c=S.aC no:=fun c hc=>by
  simp only[List.filter_nil,List.append_nil] at hc;unfold Fs.eM at hc;simpa using (List.mem_filter.1 hc).1
 refine⟨?_,fun c hc=>.inl (h1 c hc),fun c hc=>by rw[h1 c hc];exact Int.le_refl _,?_,fun x hx=>?_⟩
 ·simp only[List.filter_nil,List.append_nil];unfold Fs.eM;refine List.Pairwise.filter _ ?_;simp
 ·unfold Fs.wP;simp
 ·simp at hx;subst hx;exact Nat.le_add_right _ _
theorem pL.pos{S:Fs}{N:Nat}{s0:Int}{B:Nat}{x:En}{todo:List En}{nos:List Int}{f:Nat}(h:pL S N s0 B (x::todo) nos f):∃f',f=f'+1:=by
 have h4:=h.fuel;rw[List.length_cons] at h4;exact⟨f-1,by omega⟩
theorem pL.some{S:Fs}{N:Nat}{s0:Int}{B:Nat}(hk:ax S N)(hp:Pl S)(ht:Tr S){x:En}{todo:List En}{nos:List Int}{f:Nat}(h:pL S N s0 B (x::todo) nos (f+1)){n:An}(hg:S.get (S.aC x.no)=some n):pL S N s0 B (gO x.name n++todo) (nos++[n.no]) f:=by
 have hm:=bD hg;have hno:=cj hg;have h4:=h.fuel;have hnl:=h.size x List.mem_cons_self;rw[List.length_cons] at h4;by_cases hd:n.kind=1
 ·have hdir:S.isDir (S.aC x.no)=true:=rA hg hd;have BC:S.eM (x::todo)=S.aC x.no::S.eM todo:=by
   unfold Fs.eM;rw[List.map_cons,List.filter_cons_of_pos hdir]
  have tN:(nos++[n.no]).filter S.isDir=nos.filter S.isDir++[S.aC x.no]:=by
   rw[List.filter_append,hno,List.filter_cons_of_pos hdir];rfl
  have h1:=h.nodup;have h2:=h.src;have h3:=h.low;rw[BC] at h1 h2 h3;rw[if_pos hdir] at hnl;have hlow:s0≤S.aC x.no:=h3 _ (by simp);have hkid:∀c∈S.eM (gO x.name n),S.aX c=S.aC x.no∧S.aC x.no<c:=fun c hc=>by
   obtain⟨e,he,rfl,hdc⟩:=Fp hc;obtain⟨k1,k2,-,-⟩:=u7 hk hp ht hm he hdc;rw[hno] at k1 k2;exact⟨k1,k2⟩
  have oC:=h1;rw[List.cons_append,List.nodup_cons] at oC;obtain⟨Oc,hx2⟩:=oC;generalize S.aC x.no=k at *;have hnew:∀c∈S.eM (gO x.name n),c∉S.eM todo++nos.filter S.isDir:=fun c hc hin=>by
   obtain⟨k1,k2⟩:=hkid c hc;rcases h2 c (by rw[List.cons_append];exact List.mem_cons_of_mem _ hin) with h5|h5
   ·omega
   ·rw[k1] at h5;exact Oc (List.mem_append_right _ h5)
  have hcnt:(k::nos.filter S.isDir).length≤S.ns.length:=by
   have:=tG (k::nos.filter S.isDir) (S.ns.map (·.no)) (by
    rw[List.nodup_cons];exact⟨fun h=>Oc (List.mem_append_right _ h),(List.nodup_append.1 hx2).2.1⟩) (fun c hc=>by
    have iS:S.isDir c=true:=by
     rcases List.mem_cons.1 hc with rfl|hc
     ·exact hdir
     ·exact(List.mem_filter.1 hc).2
    obtain⟨b,hb,-⟩:=mD iS;exact List.mem_map.2 ⟨b,bD hb,cj hb⟩)
   rwa [List.length_map] at this
  rw[List.length_cons] at hcnt;refine⟨?_,fun c hc=>?_,fun c hc=>?_,?_,fun y hy=>?_⟩
  ·rw[tN,im];have hperm:(S.eM (gO x.name n)++(S.eM todo++nos.filter S.isDir++[k])).Nodup:=by
    rw[List.nodup_append];refine⟨Af hk hp ht hm x.name,?_,fun c hc d hcd=>?_⟩
    ·rw[List.nodup_append];refine⟨hx2,by simp,fun c hc d hcd=>?_⟩;simp at hcd;subst hcd;rintro rfl;exact Oc hc
    ·rintro rfl;rcases List.mem_append.1 hcd with h5|h5
     ·exact hnew c hc h5
     ·simp at h5;have:=(hkid c hc).2;omega
   simpa only[List.append_assoc] using hperm
  ·rw[tN,im] at hc;rw[tN];simp only[List.append_assoc] at hc;rcases List.mem_append.1 hc with hc|hc
   ·exact .inr (by rw[(hkid c hc).1];simp)
   ·rw[←List.append_assoc] at hc;rcases List.mem_append.1 hc with hc|hc
    ·rcases h2 c (by rw[List.cons_append];exact List.mem_cons_of_mem _ hc) with h5|h5
     ·exact .inl h5
     ·exact .inr (List.mem_append_left _ h5)
    ·simp at hc;subst hc;rcases h2 c (by simp) with h5|h5
     ·exact .inl h5
     ·exact .inr (List.mem_append_left _ h5)
  ·rw[tN,im] at hc;simp only[List.append_assoc] at hc;rcases List.mem_append.1 hc with hc|hc
   ·have:=(hkid c hc).2;omega
   ·rw[←List.append_assoc] at hc;rcases List.mem_append.1 hc with hc|hc
    ·exact h3 c (by rw[List.cons_append];exact List.mem_cons_of_mem _ hc)
    ·simp at hc;subst hc;exact hlow
  ·rw[tN,List.length_append,List.length_append,List.length_singleton];have hkl:(gO x.name n).length≤N:=by
    unfold gO;rw[List.length_map];exact(hk.all n hm).mJ
   obtain⟨u,hu⟩:∃u,S.ns.length-(nos.filter S.isDir).length=u+1:=⟨S.ns.length-(nos.filter S.isDir).length-1,by omega⟩;rw[hu,Nat.mul_succ] at h4;rw[show S.ns.length-((nos.filter S.isDir).length+1)=u by omega];omega
  ·rcases List.mem_append.1 hy with hy|hy
   ·unfold gO at hy;obtain⟨e,he,rfl⟩:=List.mem_map.1 hy;have h5:=AW x.name e.name;have h6:=(hp.names n hm e he).2;have h7:=hk.get hg;have h8:k.toNat+1≤(if S.isDir (S.aC e.no) then(S.aC e.no).toNat else S.last.toNat+1):=by
     split
     ·rename_i hdc;obtain⟨-,k2,-,-⟩:=u7 hk hp ht hm he hdc;rw[hno] at k2;omega
     ·omega
    simp only;have h9:256*(k.toNat+1)≤256*(if S.isDir (S.aC e.no) then(S.aC e.no).toNat else S.last.toNat+1):=Nat.mul_le_mul_left _ h8;omega
   ·exact h.size y (List.mem_cons_of_mem _ hy)
 ·have hdir:S.isDir (S.aC x.no)=false:=Da hg hd;have BC:S.eM (x::todo)=S.eM todo:=by
   unfold Fs.eM;rw[List.map_cons,List.filter_cons_of_neg (by rw[hdir];simp)]
  have tN:(nos++[n.no]).filter S.isDir=nos.filter S.isDir:=by
   rw[List.filter_append,hno,List.filter_cons_of_neg (by rw[hdir];simp)];simp
  have hkl:gO x.name n=[]:=by unfold gO;rw[ht.leaf n hm hd];rfl
  have h1:=h.nodup;have h2:=h.src;have h3:=h.low;rw[BC] at h1 h2 h3;rw[hkl];refine⟨?_,?_,?_,?_,fun y hy=>h.size y (List.mem_cons_of_mem _ hy)⟩
  ·rw[tN];exact h1
  ·rw[tN];exact h2
  ·rw[tN];exact h3
  ·rw[tN,List.nil_append];omega
end
section
open Go.RowKit
def Fs.fq(S:Fs)(no:Int):Int×ByteArray×Int:=
 match S.get no with
 |none=>(0,ByteArray.empty,5)
 |some a=>match S.fP (S.root a.dev) with
  |none=>(0,ByteArray.empty,5)
  |some s=>(S.root a.dev,s,0)
def Fs.pathF(S:Fs)(dir:Int)(n:ByteArray):ByteArray×Int:=
 if cx n≠0 then(ByteArray.empty,cx n) else
 match S.get dir with
 |none=>(ByteArray.empty,5)
 |some a=>if a.kind≠1 then(ByteArray.empty,9) else
  match S.fP dir with
  |none=>(ByteArray.empty,5)
  |some s=>if 4096<(kl s n).size then(ByteArray.empty,13) else(kl s n,0)
def Fs.isRoot(S:Fs)(no:Int):Bool:=match S.get no with|none=>false|some a=>S.root a.dev==no
def Fs.N0(S:Fs)(c:Cr)(p:ByteArray):Fd×Int:=
 if ej p≠0 then(gb,ej p)
 else if J9 p.data.toList=[] then(gb,1)
 else if(S.path c p false).2≠0 then(gb,(S.path c p false).2)
 else if(S.path c p false).1.no=0 then(gb,5)
 else if(S.path c p false).1.name=ByteArray.empty then(gb,1)
 else if S.busy (S.path c p false).1.no=true∨S.isRoot (S.path c p false).1.no=true then(gb,16)
 else((S.path c p false).1,0)
def There(S:Fs)(x:Fd×Int):Prop:=x.1.name=ByteArray.empty∨x.1.no=0∨∃a,S.get x.1.no=some a
section
variable{S:Fs}{no dir:Int}{n s:ByteArray}{a:An}
theorem Cd(h:S.get no=none):S.fq no=(0,ByteArray.empty,5):=by unfold Fs.fq;rw[h]
theorem Ce(h:S.get no=some a)(hp:S.fP (S.root a.dev)=none):S.fq no=(0,ByteArray.empty,5):=by unfold Fs.fq;rw[h];simp only;rw[hp]
theorem Cc(h:S.get no=some a)(hp:S.fP (S.root a.dev)=some s):S.fq no=(S.root a.dev,s,0):=by unfold Fs.fq;rw[h];simp only;rw[hp]
end
end
section
open Go.RowKit
def zh(x:Int×Value×Nat):MapEntry:={key:=.int .i64 x.1,val:=x.2.1,born:=x.2.2}
def dF(w:World)(m:Nat)(l:List (Int×Value×Nat))(ey:Nat):Prop:=w.heap[m]?=some (.map (l.map zh).toArray ey)
def ew(l:List (Int×Value×Nat)):Prop:=(l.map (·.1)).Nodup
def bZ(l:List (Int×Value×Nat))(k:Int):Option Value:=(l.find? (fun x=>x.1==k)).map (·.2.1)
def fE(l:List (Int×Value×Nat))(k:Int)(v:Value):List (Int×Value×Nat):=l.map fun x=>if x.1==k then(k,v,x.2.2) else x
def mapDel(l:List (Int×Value×Nat))(k:Int):List (Int×Value×Nat):=l.filter fun x=>!(x.1==k)
theorem dF.lt{w:World}{m:Nat}{l:List (Int×Value×Nat)}{ey:Nat}(h:dF w m l ey):m<w.heap.size:=by
 unfold dF at h;exact(Array.getElem?_eq_some_iff.1 h).1
theorem dF.old{w:World}{m:Nat}{l:List (Int×Value×Nat)}{ey:Nat}(h:dF w m l ey)(o:Obj):dF (w.alloc o) m l ey:=
 (Below.heap_alloc w o m h.lt).trans h
theorem dF.ak{w w':World}{m:Nat}{l:List (Int×Value×Nat)}{ey:Nat}(h:dF w m l ey)(hb:Qi w w'):dF w' m l ey:=
 (hb.block m h.lt).trans h
theorem dF.setOther{w:World}{m:Nat}{l:List (Int×Value×Nat)}{ey:Nat}(h:dF w m l ey)(a:Addr)(v:Value)(hne:a.block≠m):dF (w.setCell a v) m l ey:=
 (Below.heap_setCell w a v m (fun e=>hne e.symm)).trans h
theorem ny(k:Int):∀(l:List (Int×Value×Nat)) (i:Nat),
  Instr.findNow (.int .i64) (.int .i64 k) (l.map zh) i=some ((l.findIdx? (fun x=>x.1==k)).bind fun j=>(l[j]?).map fun x=>(i+j,x.2.1))
 | [],i=>by simp[Instr.findNow]
 |x::l,i=>by
  have ih:=ny k l (i+1);rw[List.map_cons];unfold Instr.findNow;have hs:Instr.sameNow (.int .i64) (.int .i64 k) (zh x).key=some (k==x.1):=by simp[Instr.sameNow,zh]
  rw[hs];by_cases e:x.1=k
  ·subst e;simp[List.findIdx?_cons,zh]
  ·have e1:(k==x.1)=false:=by simpa using fun h=>e h.symm
   have e2:(x.1==k)=false:=by simpa using e
   rw[e1];show Instr.findNow _ _ _ _=_;rw[ih];simp only[List.findIdx?_cons,e2,Bool.false_eq_true,if_false];congr 1
   cases List.findIdx? (fun x=>x.1==k) l with
   |none=>rfl
   |some j=>simp;congr 1;funext y;simp;omega
theorem jc(k:Int):∀(l:List (Int×Value×Nat)),bZ l k=(l.findIdx? (fun x=>x.1==k)).bind fun j=>(l[j]?).map fun x=>x.2.1
 | []=>rfl
 |x::l=>by
  have ih:=jc k l;unfold bZ at ih⊢;by_cases e:(x.1==k)=true
  ·simp[List.findIdx?_cons,e]
  ·simp only[Bool.not_eq_true] at e;simp only[List.find?_cons,List.findIdx?_cons,e,Bool.false_eq_true,if_false,ih]
   cases List.findIdx? (fun x=>x.1==k) l<;>simp
theorem rk(k:Int)(v:Value):∀(l:List (Int×Value×Nat)) (j:Nat),ew l→l.findIdx? (fun x=>x.1==k)=some j→
  ((l.map zh).modify j fun e=>{e with key:=.int .i64 k,val:=v})=(fE l k v).map zh
 | [],j,_,h=>by simp at h
 |x::l,j,hn,h=>by
  unfold ew at hn;simp only[List.map_cons,List.nodup_cons] at hn;obtain⟨hx,hl⟩:=hn;by_cases e:(x.1==k)=true
  ·simp only[List.findIdx?_cons,e,if_true,Option.some.injEq] at h;subst h;have e':x.1=k:=by simpa using e
   have hrest:fE l k v=l:=by
    unfold fE;rw[List.map_congr_left (g:=id)]
    ·simp
    ·intro y hy;have:¬y.1=k:=fun h'=>hx (by rw[e',←h'];exact List.mem_map.2 ⟨y,hy,rfl⟩);simp[this]
   have hput:fE (x::l) k v=(k,v,x.2.2)::l:=by
    unfold fE at hrest⊢;rw[List.map_cons,hrest,e,if_pos rfl]
   rw[hput];rfl
  ·simp only[Bool.not_eq_true] at e;simp only[List.findIdx?_cons,e,Bool.false_eq_true,if_false,Option.map_eq_some_iff] at h;obtain⟨j',hj,rfl⟩:=h;have ih:=rk k v l j' hl hj;unfold fE at ih⊢;simp only[List.map_cons,List.modify_succ_cons,e,Bool.false_eq_true,if_false];rw[ih]
theorem ig{l:List (Int×Value×Nat)}{k:Int}:bZ l k=none↔l.findIdx? (fun x=>x.1==k)=none:=by
 rw[List.findIdx?_eq_none_iff];unfold bZ;simp
section
variable{P:Program}{K E T:TypeId}{w:World}{m:Nat}{l:List (Int×Value×Nat)}{ey:Nat}
theorem fA(b:Bool)(hk:P.underlying K=some (.int .i64))(v:Value)(w:World):(Instr.checkKey b 10000 K v).run P w=.ok () w:=by
 unfold Instr.checkKey;simp[run_underlying hk]
theorem run_findKey(hk:P.underlying K=some (.int .i64))(k:Int)(w:World):(Instr.findKey K (.int .i64 k) (l.map zh)).run P w=.ok ((l.findIdx? (fun x=>x.1==k)).bind fun j=>(l[j]?).map fun x=>(j,x.2.1)) w:=by
 unfold Instr.findKey;simp[run_underlying hk,ny]
theorem qE(ht:P.underlying T=some (.map K E))(hk:P.underlying K=some (.int .i64))(h:dF w m l ey){k:Int}{v:Value}(hf:bZ l k=some v) :
  (Instr.lookup T (.map (some m)) (.int .i64 k) true).run P w=.ok (.tuple #[v,.bool true]) w:=by
 rw[jc] at hf;unfold dF at h;simp only[Option.bind_eq_some_iff,Option.map_eq_some_iff] at hf;obtain⟨j,hj,x,hx,rfl⟩:=hf;unfold Instr.lookup;simp[run_underlying ht,getObj,Sem.run,h,fA _ hk,run_findKey hk,hj,hx]
theorem sr(ht:P.underlying T=some (.map K E))(hk:P.underlying K=some (.int .i64))(h:dF w m l ey){k:Int}(hf:bZ l k=none){z:Value}(hz:(zeroValue E).run P w=.ok z w) :
  (Instr.lookup T (.map (some m)) (.int .i64 k) true).run P w=.ok (.tuple #[z,.bool false]) w:=by
 rw[ig] at hf;unfold dF at h;unfold Instr.lookup;simp[run_underlying ht,getObj,Sem.run,h,fA _ hk,run_findKey hk,hf,hz]
theorem Il(ht:P.underlying T=some (.map K E))(hk:P.underlying K=some (.int .i64))(h:dF w m l ey)(hn:ew l){k:Int}{v0 v:Value}(hf:bZ l k=some v0) :
  (Instr.mapUpdate T (.map (some m)) (.int .i64 k) v).run P w=.ok () (ChangeMaps.setBlock w m (.map ((fE l k v).map zh).toArray ey)):=by
 rw[jc] at hf;unfold dF at h;simp only[Option.bind_eq_some_iff,Option.map_eq_some_iff] at hf;obtain⟨j,hj,x,hx,rfl⟩:=hf;have hp:=rk k v l j hn hj;have hxk:x.1=k:=by
  obtain⟨hlt,h1,-⟩:=List.findIdx?_eq_some_iff_getElem.1 hj;rw[List.getElem?_eq_getElem hlt] at hx;obtain rfl:=Option.some.inj hx;simpa using h1
 have hst:(Instr.keyThatStays (zh x).key (.int .i64 k)).run P w=.ok (.int .i64 k) w:=by
  subst hxk;simp[Instr.keyThatStays,Instr.sameBits,zh]
 unfold Instr.mapUpdate;simp[run_underlying ht,getObj,setObj,Sem.run,h,fA _ hk,run_findKey hk,hj,hx,hst,hp,ChangeMaps.setBlock]
theorem Im(ht:P.underlying T=some (.map K E))(hk:P.underlying K=some (.int .i64))(h:dF w m l ey){k:Int}{v:Value}(hf:bZ l k=none) :
  (Instr.mapUpdate T (.map (some m)) (.int .i64 k) v).run P w=.ok () (ChangeMaps.setBlock w m (.map ((l++[(k,v,ey)]).map zh).toArray (ey+1))):=by
 rw[ig] at hf;unfold dF at h;unfold Instr.mapUpdate;simp[run_underlying ht,getObj,setObj,Sem.run,h,fA _ hk,run_findKey hk,hf,ChangeMaps.setBlock,zh]
theorem Bh(ht:P.underlying T=some (.map K E))(h:dF w m l ey)(ty:TypeId) :
  (Builtin.len_ #[T] ty #[.map (some m)]).run P w=.ok (.int .i64 l.length) w:=by
 unfold dF at h;unfold Builtin.len_;simp[run_underlying ht,getObj,Sem.run,h,goInt]
theorem dF.set(h:dF w m l ey)(l':List (Int×Value×Nat))(clk':Nat) :
  dF (ChangeMaps.setBlock w m (.map (l'.map zh).toArray clk')) m l' clk'∧(∀B vs T,aw w B vs T→aw (ChangeMaps.setBlock w m (.map (l'.map zh).toArray clk')) B vs T)∧
   Mod (fun k=>k=m) w (ChangeMaps.setBlock w m (.map (l'.map zh).toArray clk')):=by
 have hlt:=h.lt;refine⟨?_,?_,(Mod.refl (fun k=>k=m) w).setBlock (b:=m) (.inl rfl) _⟩
 ·unfold dF;simp[ChangeMaps.setBlock,hlt]
 ·intro B vs T hB;refine hB.setBlock ?_ _;rintro rfl;unfold aw at hB;unfold dF at h;rw[h] at hB
  cases hB
theorem wB(ht:P.underlying T=some (.map K E))(hk:P.underlying K=some (.int .i64))(h:dF w m l ey)(hn:ew l){k:Int}{v0:Value}(v:Value)(hf:bZ l k=some v0) :
  ∃W,(Instr.mapUpdate T (.map (some m)) (.int .i64 k) v).run P w=.ok () W∧dF W m (fE l k v) ey∧(∀B vs T,aw w B vs T→aw W B vs T)∧Mod (fun k=>k=m) w W:=
 ⟨_,Il ht hk h hn hf,h.set _ _⟩
theorem wC(ht:P.underlying T=some (.map K E))(hk:P.underlying K=some (.int .i64))(h:dF w m l ey){k:Int}(v:Value)(hf:bZ l k=none) :
  ∃W,(Instr.mapUpdate T (.map (some m)) (.int .i64 k) v).run P w=.ok () W∧dF W m (l++[(k,v,ey)]) (ey+1)∧(∀B vs T,aw w B vs T→aw W B vs T)∧Mod (fun k=>k=m) w W:=
 ⟨_,Im ht hk h hf,h.set _ _⟩
end
end
section
open Go.RowKit
structure Nd where
 no:Int
 dev:Int
 kind:Int
 mode:Int
 uid:Int
 gid:Int
 mtime:Int
 ctime:Int
 ao:Int
 up:Int
 data:ByteArray
 ea:Option Addr
 el:Nat
 ec:Nat
def Nd.v(n:Nd):Value:=.agg #[.int .i64 n.no,.int .i64 n.dev,.int .i64 n.kind,.int .i64 n.mode,.int .i64 n.uid,.int .i64 n.gid,.int .i64 n.mtime,.int .i64 n.ctime,.int .i64 n.ao,.int .i64 n.up,.string n.data,.slice n.ea n.el n.ec]
def nd0:Nd:=⟨0,0,0,0,0,0,0,0,0,0,ByteArray.empty,none,0,0⟩
def iF(x:Nd×Nat):Int×Value×Nat:=(x.1.no,x.1.v,x.2)
def kg(L:List (Nd×Nat))(k:Int):Option Nd:=(L.find? (fun x=>x.1.no==k)).map (·.1)
structure zi(w:World)(p m:Nat)(last:Int)(L:List (Nd×Nat))(ey:Nat):Prop where
 aZ:aw w p #[.map (some m),.int .i64 last] 89
 map:dF w m (L.map iF) ey
 once:ew (L.map iF)
 low:∀x∈L,x.1.no≤last
theorem oE{L:List (Nd×Nat)}{last:Int}(h:∀x∈L,x.1.no≤last):bZ (L.map iF) (last+1)=none:=by
 rw[ig,List.findIdx?_eq_none_iff];simp only[List.mem_map,forall_exists_index,and_imp];rintro _ x hx rfl;have:=h x hx;simp[iF];omega
theorem JE(n:Nd)(w:World)(p m:Nat)(last:Int)(L:List (Nd×Nat))(ey:Nat)(hT:zi w p m last L ey)(eR:0≤last)(pV:last≤1000000) :
  Calls Tryz.prog 150 #[.pointer (some ⟨p,0,none⟩),n.v] w fun e w'=>e=.returned (.int .i64 (last+1))∧zi w' p m (last+1) (L++[({n with no:=last+1},ey)]) (ey+1)∧Mod (fun k=>k=p∨k=m) w w':=by
 obtain⟨pc,pf,pz⟩:=hT.aZ.facts;have mz:=hT.map.lt;have hpm:p≠m:=by
  rintro rfl;have h1:=hT.aZ;have h2:=hT.map;unfold aw at h1;unfold dF at h2;rw[h1] at h2
  cases h2
 have hfn:=oE hT.low;have pw:p≠w.heap.size:=by omega
 have wp':w.heap.size≠p:=by omega
 have hq:∀(w:World) (r:Option Nat),(binOp .eql 87 (.map r) (.map none)).run Tryz.prog w=.ok (.bool r.isNone) w:=fun w r=>run_eql_map_nil w _ _ _ r Tryz.underlying87;unfold Nd.v;go_enter Tryz.func150,Tryz.ntmps150;go_wp2_with fail;have b1:=(hT.aZ.set 1 (.int .i64 (last+1))).old (.cells #[.int .i64 (last+1),.int .i64 n.dev,.int .i64 n.kind,.int .i64 n.mode,.int .i64 n.uid,.int .i64 n.gid,.int .i64 n.mtime,.int .i64 n.ctime,.int .i64 n.ao,.int .i64 n.up,.string n.data,.slice n.ea n.el n.ec] 149);have b2:=aw.new (w.setCell ⟨p,1,none⟩ (.int .i64 (last+1))) #[.int .i64 (last+1),.int .i64 n.dev,.int .i64 n.kind,.int .i64 n.mode,.int .i64 n.uid,.int .i64 n.gid,.int .i64 n.mtime,.int .i64 n.ctime,.int .i64 n.ao,.int .i64 n.up,.string n.data,.slice n.ea n.el n.ec] 149;have b3:=(hT.map.setOther ⟨p,1,none⟩ (.int .i64 (last+1)) hpm).old (.cells #[.int .i64 (last+1),.int .i64 n.dev,.int .i64 n.kind,.int .i64 n.mode,.int .i64 n.uid,.int .i64 n.gid,.int .i64 n.mtime,.int .i64 n.ctime,.int .i64 n.ao,.int .i64 n.up,.string n.data,.slice n.ea n.el n.ec] 149);have b4:=((Mod.refl (fun k=>k=p∨k=m) w).setCell (a:=⟨p,1,none⟩) (.inl (.inl rfl)) (.int .i64 (last+1))).alloc (.cells #[.int .i64 (last+1),.int .i64 n.dev,.int .i64 n.kind,.int .i64 n.mode,.int .i64 n.uid,.int .i64 n.gid,.int .i64 n.mtime,.int .i64 n.ctime,.int .i64 n.ao,.int .i64 n.up,.string n.data,.slice n.ea n.el n.ec] 149);rw[World.size_setCell] at b2;generalize (w.setCell ⟨p,1,none⟩ (.int .i64 (last+1))).alloc (.cells #[.int .i64 (last+1),.int .i64 n.dev,.int .i64 n.kind,.int .i64 n.mode,.int .i64 n.uid,.int .i64 n.gid,.int .i64 n.mtime,.int .i64 n.ctime,.int .i64 n.ao,.int .i64 n.up,.string n.data,.slice n.ea n.el n.ec] 149)=W at b1 b2 b3 b4⊢;obtain⟨pc',-,-⟩:=b1.facts;obtain⟨nc,-,-⟩:=b2.facts;obtain⟨W2,hrun,b5,b6,b7⟩:=wC (w:=W.drew) Tryz.underlying87 Tryz.underlying3 b3 (.agg #[.int .i64 (last+1),.int .i64 n.dev,.int .i64 n.kind,.int .i64 n.mode,.int .i64 n.uid,.int .i64 n.gid,.int .i64 n.mtime,.int .i64 n.ctime,.int .i64 n.ao,.int .i64 n.up,.string n.data,.slice n.ea n.el n.ec]) hfn;obtain⟨nc2,-,-⟩:=(b6 _ _ _ b2).facts;clear pc pf
 go_region
 go_wp2_with fail;go_ret;refine⟨rfl,⟨b6 _ _ _ b1,by rw[List.map_append];exact b5,?_,?_⟩,(b4.drew).trans (b7.mono fun k hk=>.inr hk)⟩
 ·have:=hT.once;unfold ew at this⊢;rw[List.map_append,List.map_append,List.nodup_append];refine⟨this,by simp,?_⟩;simp only[List.mem_map,List.mem_cons,List.not_mem_nil,or_false,forall_exists_index,and_imp];rintro a y x hx rfl rfl b y' x' rfl rfl rfl;have:=hT.low x hx;simp only[iF];omega
 ·intro x hx;rcases List.mem_append.1 hx with hx|hx
  ·have:=hT.low x hx;omega
  ·simp only[List.mem_cons,List.not_mem_nil,or_false] at hx;subst hx;exact Int.le_refl _
theorem kM(L:List (Nd×Nat))(k:Int):bZ (L.map iF) k=(kg L k).map Nd.v:=by
 unfold bZ kg;rw[List.find?_map];have:(fun x:Int×Value×Nat=>x.1==k) ∘ iF=fun x:Nd×Nat=>x.1.no==k:=rfl;rw[this]
 cases List.find? (fun x:Nd×Nat=>x.1.no==k) L<;>rfl
theorem C7(w:World) :
  Calls Tryz.prog 122 #[] w fun e w'=>e=.returned (.pointer (some ⟨w.heap.size+1,0,none⟩))∧zi w' (w.heap.size+1) w.heap.size 0 [] 0∧Qi w w':=by
 have hmm:=@run_makeMap Tryz.prog;go_enter Tryz.func122,Tryz.ntmps122
 go_wp2
 go_ret;refine⟨rfl,⟨?_,?_,List.nodup_nil,by simp⟩,by go_grown⟩
 ·have:=aw.new (w.alloc (.map #[] 0)) #[.map (some w.heap.size),.int .i64 0] 89
  rwa [World.size_alloc] at this
 ·unfold dF;rw[Below.heap_alloc _ _ _ (by simp)];show(w.heap.push _)[w.heap.size]?=_;simp
theorem vl(n:Nd)(k:Int)(w:World)(p m:Nat)(last:Int)(L:List (Nd×Nat))(ey:Nat)(hT:zi w p m last L ey)(hf:kg L k=some n) :
  Calls Tryz.prog 69 #[.pointer (some ⟨p,0,none⟩),.int .i64 k] w fun e w'=>e=.returned (.tuple #[n.v,.bool true])∧Qi w w':=by
 obtain⟨pc,pf,pz⟩:=hT.aZ.facts;have hr:∀o,(Instr.lookup 87 (.map (some m)) (.int .i64 k) true).run Tryz.prog (w.alloc o)=.ok (.tuple #[.agg #[.int .i64 n.no,.int .i64 n.dev,.int .i64 n.kind,.int .i64 n.mode,.int .i64 n.uid,.int .i64 n.gid,.int .i64 n.mtime,.int .i64 n.ctime,.int .i64 n.ao,.int .i64 n.up,.string n.data,.slice n.ea n.el n.ec],.bool true]) (w.alloc o):=fun o=>
  qE Tryz.underlying87 Tryz.underlying3 (hT.map.old o) (by rw[kM,hf];rfl)
 clear hf;unfold Nd.v;go_enter Tryz.func69,Tryz.ntmps69
 go_wp2
 go_returns
 exact⟨rfl,by go_grown⟩
theorem BS(w:World):(zeroValue 149).run Tryz.prog w=.ok nd0.v w:=by kernel_rfl
theorem LR(k:Int)(w:World)(p m:Nat)(last:Int)(L:List (Nd×Nat))(ey:Nat)(hT:zi w p m last L ey)(hf:kg L k=none) :
  Calls Tryz.prog 69 #[.pointer (some ⟨p,0,none⟩),.int .i64 k] w fun e w'=>e=.returned (.tuple #[nd0.v,.bool false])∧Qi w w':=by
 obtain⟨pc,pf,pz⟩:=hT.aZ.facts;have hr:∀o,(Instr.lookup 87 (.map (some m)) (.int .i64 k) true).run Tryz.prog (w.alloc o)=.ok (.tuple #[.agg #[.int .i64 0,.int .i64 0,.int .i64 0,.int .i64 0,.int .i64 0,.int .i64 0,.int .i64 0,.int .i64 0,.int .i64 0,.int .i64 0,.string ByteArray.empty,.slice none 0 0],.bool false]) (w.alloc o):=fun o=>
  sr Tryz.underlying87 Tryz.underlying3 (hT.map.old o) (by rw[kM,hf];rfl) (BS _)
 clear hf;unfold Nd.v nd0;go_enter Tryz.func69,Tryz.ntmps69
 go_wp2
 go_returns
 exact⟨rfl,by go_grown⟩
end
section
open Go.RowKit
theorem zi.ak{w w':World}{p m:Nat}{last:Int}{L:List (Nd×Nat)}{ey:Nat}(h:zi w p m last L ey)(hb:Qi w w'):zi w' p m last L ey:=
 ⟨h.aZ.ak hb,h.map.ak hb,h.once,h.low⟩
theorem zi.ne{w:World}{p m:Nat}{last:Int}{L:List (Nd×Nat)}{ey:Nat}(hT:zi w p m last L ey):p≠m:=by
 rintro rfl;have h1:=hT.aZ;have h2:=hT.map;unfold aw at h1;unfold dF at h2;rw[h1] at h2
 cases h2
theorem rj(L:List (Nd×Nat))(n:Nd):fE (L.map iF) n.no n.v=(L.map fun x=>if x.1.no==n.no then(n,x.2) else x).map iF:=by
 unfold fE;rw[List.map_map,List.map_map];apply List.map_congr_left;intro x _;by_cases h:x.1.no=n.no<;>simp[iF,h]
theorem Ig(n0 n:Nd)(w:World)(p m:Nat)(last:Int)(L:List (Nd×Nat))(ey:Nat)(hT:zi w p m last L ey)(hf:kg L n.no=some n0) :
  Calls Tryz.prog 117 #[.pointer (some ⟨p,0,none⟩),n.v] w fun e w'=>e=.returned (.bool true)∧zi w' p m last (L.map fun x=>if x.1.no==n.no then(n,x.2) else x) ey∧Mod (fun k=>k=p∨k=m) w w':=by
 have Hg:=Qf (fun w' hT'=>vl n0 n.no w' p m last L ey hT' hf);have Hf:=Qf (show bZ (L.map iF) n.no=some n0.v by rw[kM,hf];rfl);clear hf;have hpm:=hT.ne;have pw:p≠w.heap.size:=by have:=hT.aZ.lt;omega
 unfold Nd.v;go_enter Tryz.func117,Tryz.ntmps117;go_wp2_with fail;refine(Hg.o _ (hT.ak ((Below.refl _ _).alloc (aa _) _))).mono ?_;unfold Nd.v;rintro e w1 ⟨rfl,av⟩;go_wp2_with fail;have b1:=(((hT.aZ.old (.cells #[.int .i64 n.no,.int .i64 n.dev,.int .i64 n.kind,.int .i64 n.mode,.int .i64 n.uid,.int .i64 n.gid,.int .i64 n.mtime,.int .i64 n.ctime,.int .i64 n.ao,.int .i64 n.up,.string n.data,.slice n.ea n.el n.ec] 149)).ak av).old (.cells #[.int .i64 n0.no,.int .i64 n0.dev,.int .i64 n0.kind,.int .i64 n0.mode,.int .i64 n0.uid,.int .i64 n0.gid,.int .i64 n0.mtime,.int .i64 n0.ctime,.int .i64 n0.ao,.int .i64 n0.up,.string n0.data,.slice n0.ea n0.el n0.ec] 149)).drew;have b2:=(((aw.new w #[.int .i64 n.no,.int .i64 n.dev,.int .i64 n.kind,.int .i64 n.mode,.int .i64 n.uid,.int .i64 n.gid,.int .i64 n.mtime,.int .i64 n.ctime,.int .i64 n.ao,.int .i64 n.up,.string n.data,.slice n.ea n.el n.ec] 149).ak av).old (.cells #[.int .i64 n0.no,.int .i64 n0.dev,.int .i64 n0.kind,.int .i64 n0.mode,.int .i64 n0.uid,.int .i64 n0.gid,.int .i64 n0.mtime,.int .i64 n0.ctime,.int .i64 n0.ao,.int .i64 n0.up,.string n0.data,.slice n0.ea n0.el n0.ec] 149)).drew;have hT1:=((hT.ak ((Below.refl _ _).alloc (aa _) _)).ak av).ak ((Qj w1).alloc (aa _) (.cells #[.int .i64 n0.no,.int .i64 n0.dev,.int .i64 n0.kind,.int .i64 n0.mode,.int .i64 n0.uid,.int .i64 n0.gid,.int .i64 n0.mtime,.int .i64 n0.ctime,.int .i64 n0.ao,.int .i64 n0.up,.string n0.data,.slice n0.ea n0.el n0.ec] 149));have b4:Mod (fun k=>k=p∨k=m) w (w1.alloc (.cells #[.int .i64 n0.no,.int .i64 n0.dev,.int .i64 n0.kind,.int .i64 n0.mode,.int .i64 n0.uid,.int .i64 n0.gid,.int .i64 n0.mtime,.int .i64 n0.ctime,.int .i64 n0.ao,.int .i64 n0.up,.string n0.data,.slice n0.ea n0.el n0.ec] 149)):=(((Mod.refl _ w).alloc _).trans (.ar av)).alloc _;clear av;generalize w1.alloc _=W at b1 b2 hT1 b4⊢;obtain⟨pc',-,-⟩:=b1.facts;obtain⟨nc,-,-⟩:=b2.facts;obtain⟨W2,hrun,b5,b6,b7⟩:=wB (w:=W.drew) Tryz.underlying87 Tryz.underlying3 hT1.map hT1.once (.agg #[.int .i64 n.no,.int .i64 n.dev,.int .i64 n.kind,.int .i64 n.mode,.int .i64 n.uid,.int .i64 n.gid,.int .i64 n.mtime,.int .i64 n.ctime,.int .i64 n.ao,.int .i64 n.up,.string n.data,.slice n.ea n.el n.ec]) Hf.o
 go_region
 go_wp2_with fail;go_ret;refine⟨rfl,⟨b6 _ _ _ hT1.aZ,by rw[←rj];exact b5,?_,?_⟩,(b4.drew).trans (b7.mono fun k hk=>.inr hk)⟩
 ·have:=hT.once;rw[←rj];unfold ew at this⊢;unfold fE;rw[List.map_map,List.map_congr_left (g:=fun x=>x.1)]
  ·exact this
  ·intro x _;simp only[Function.comp]
   split
   ·rename_i h;simpa using (beq_iff_eq.1 h).symm
   ·rfl
 ·intro x hx;obtain⟨y,hy,rfl⟩:=List.mem_map.1 hx;have:=hT.low y hy
  split
  ·rename_i h;have:=beq_iff_eq.1 h;simp only;omega
  ·exact this
theorem C'(w:World)(p m:Nat)(last:Int)(L:List (Nd×Nat))(ey:Nat)(hT:zi w p m last L ey) :
  Calls Tryz.prog 9 #[.pointer (some ⟨p,0,none⟩)] w fun e w'=>e=.returned (.int .i64 L.length)∧w=w':=by
 obtain⟨pc,-,pz⟩:=hT.aZ.facts;have hr:=Bh Tryz.underlying87 hT.map 3;rw[List.length_map] at hr;go_enter Tryz.func9,Tryz.ntmps9
 go_wp2
 go_ret;exact⟨rfl,rfl⟩
end
section
open Go.RowKit
def BytesAt(w:World)(a:Option Addr)(len cap:Nat)(zs:List Int):Prop:=
 (a=none∧len=0∧cap=0∧zs=[])∨(∃b off:Nat,a=some ⟨b,off,none⟩∧len≤cap∧cap≤9223372036854775807∧zs.length=cap∧∀j,j<cap→b<w.heap.size∧w.cell? ⟨b,off+j,none⟩=some (.int .u8 (zs.getD j 0))∧0≤zs.getD j 0∧zs.getD j 0≤255)
end
section
open Go.RowKit
def b9(x:En):List Value:=[.string x.name,.int .i64 x.no]
theorem bJ(x:En):(b9 x).length=2:=rfl
def Pq(cs:List Value)(x:En):Prop:=cs=b9 x
structure aA(w:World)(a:Option Addr)(n c:Nat)(es:List En):Prop where
 sl:bj w 2 Pq a n c es
 aZ:∀p,a=some p→∃b off cur,p=⟨b,off,none⟩∧w.heap[b]?=some (.cells cur 98 (0,0))
theorem aA.nil(w:World):aA w none 0 0 []:=⟨⟨rfl,aa _,by omega,.inl rfl⟩,fun p h=>by cases h⟩
theorem aA.len{w:World}{a:Option Addr}{n c:Nat}{es:List En}(h:aA w a n c es):es.length=n:=h.sl.1
theorem aA.fH{w w':World}{a:Option Addr}{n c:Nat}{es:List En}(h:aA w a n c es)(ht:∀(b:Nat) (cur:Array Value),w.heap[b]?=some (.cells cur 98 (0,0))→w'.heap[b]?=w.heap[b]?)(hs:w.heap.size≤w'.heap.size):aA w' a n c es:=by
 refine⟨⟨h.sl.1,h.sl.2.1,h.sl.2.2.1,h.sl.2.2.2.imp id ?_⟩,fun p hp=>?_⟩
 ·rintro⟨b,off,rfl,hb,hel⟩;obtain⟨b',off',cur,e,hblk⟩:=h.aZ _ rfl;injection e with e1 e2;subst e1 e2;refine⟨b,off,rfl,Nat.lt_of_lt_of_le hb hs,fun i hi=>?_⟩;obtain⟨cs,h1,h2,h3⟩:=hel i hi;refine⟨cs,h1,h2,fun j hj=>?_⟩;rw[←h3 j hj];simp only[World.cell?,ht _ _ hblk]
 ·obtain⟨b,off,cur,e,hblk⟩:=h.aZ p hp;exact⟨b,off,cur,e,(ht _ _ hblk).trans hblk⟩
theorem aA.ak{w w':World}{a:Option Addr}{n c:Nat}{es:List En}(h:aA w a n c es)(hb:Qi w w'):aA w' a n c es:=
 h.fH (fun b cur hc=>hb.block b (Array.getElem?_eq_some_iff.1 hc).1) hb.size
theorem aA.l4{w w':World}{a:Option Addr}{n c N:Nat}{es:List En}(h:aA w a n c es)(hb:Below N w w')(hN:w.heap.size≤N):aA w' a n c es:=
 h.fH (fun b cur hc=>hb.block b (Nat.lt_of_lt_of_le (Array.getElem?_eq_some_iff.1 hc).1 hN)) hb.size
theorem aA.cell{w:World}{b off n c:Nat}{es:List En}(h:aA w (some ⟨b,off,none⟩) n c es)(k:Nat)(hk:k<es.length) :
  w.cell? ⟨b,off+k*2,none⟩=some (.string es[k].name)∧w.cell? ⟨b,off+k*2+1,none⟩=some (.int .i64 es[k].no):=by
 obtain⟨hl,-,-,h0|⟨b',off',he,hb,hel⟩⟩:=h.sl
 ·omega
 ·injection he with he;injection he with e1 e2;subst e1 e2;obtain⟨cs,h1,h2,h3⟩:=hel k hk;subst h2;exact⟨h3 0 (by rw[bJ];omega),h3 1 (by rw[bJ];omega)⟩
theorem aA.dL{w:World}{a:Option Addr}{n c:Nat}{es:List En}(h:aA w a n c es)(hn:0<n):∃b off,a=some ⟨b,off,none⟩∧b<w.heap.size:=by
 obtain⟨-,-,-,h0|⟨b',off',he,hb,-⟩⟩:=h.sl
 ·omega
 ·exact⟨b',off',he,hb⟩
def An.v(a:An)(ea:Option Addr)(el ec:Nat):Value:=.agg #[.int .i64 a.no,.int .i64 a.dev,.int .i64 a.kind,.int .i64 a.mode,.int .i64 a.uid,.int .i64 a.gid,.int .i64 a.mtime,.int .i64 a.ctime,.int .i64 a.ao,.int .i64 a.up,.string a.data,.slice ea el ec]
def An.nd(a:An)(ea:Option Addr)(el ec:Nat):Nd:=⟨a.no,a.dev,a.kind,a.mode,a.uid,a.gid,a.mtime,a.ctime,a.ao,a.up,a.data,ea,el,ec⟩
structure Gn where
 a:An
 ea:Option Addr
 el:Nat
 ec:Nat
 ey:Nat
def Gn.nd(g:Gn):Nd:=g.a.nd g.ea g.el g.ec
def Gn.e(g:Gn):Nd×Nat:=(g.nd,g.ey)
def Dv.cs(d:Dv):List Value:=[.int .i64 d.root,.int .i64 d.aC,.int .i64 d.b,.int .i64 d.n,.int .i64 d.mb,.int .i64 d.mn]
theorem Dv.fF(d:Dv):d.cs.length=6:=rfl
structure Rp where
 pt:Nat
 pm:Nat
 dv:Value
 G:List Gn
 ey:Nat
def Rp.F(R:Rp)(pw:Nat)(k:Nat):Prop:=k=pw∨k=R.pt∨k=R.pm∨R.dv.ownBlock=some k
structure bm(w:World)(pw:Nat)(R:Rp)(S:Fs):Prop where
 aZ:aw w pw #[.pointer (some ⟨R.pt,0,none⟩),R.dv] 46
 tab:zi w R.pt R.pm S.last (R.G.map Gn.e) R.ey
 eN:w.ownsRow 0 194 6 R.dv S.ds.length (S.ds.flatMap Dv.cs)
 ns:S.ns=R.G.map (·.a)
 ay:∀g∈R.G,aA w g.ea g.el g.ec g.a.ay
structure aR(F F':Nat→Prop)(w w':World):Prop where
 mod:Mod F w w'
 new:∀k,F' k→F k∨w.heap.size≤k
theorem aR.ar{F:Nat→Prop}{w w':World}(h:Qi w w'):aR F F w w':=⟨Mod.ar h,fun _ h=>.inl h⟩
theorem aR.cQ{F:Nat→Prop}{w w':World}(h:Mod F w w'):aR F F w w':=⟨h,fun _ h=>.inl h⟩
theorem aR.trans{F F' F'':Nat→Prop}{w w' w'':World}(h:aR F F' w w')(k:aR F' F'' w' w''):aR F F'' w w'':=
 ⟨⟨k.mod.os.trans h.mod.os,k.mod.tape.trans h.mod.tape,k.mod.output.trans h.mod.output,ae h.mod.size k.mod.size,fun i hi hs=>
   (k.mod.block i (Nat.lt_of_lt_of_le hi h.mod.size) (fun h'=>(h.new i h').elim hs (fun hlt=>by omega))).trans (h.mod.block i hi hs)⟩,
  fun i hi=>(k.new i hi).elim (fun h'=>h.new i h') (fun hlt=>.inr (ae h.mod.size hlt))⟩
theorem aR.below{F F':Nat→Prop}{w w':World}{N:Nat}(h:aR F F' w w')(hF:∀k,F k→N≤k)(hN:N≤w.heap.size):Below N w w':=h.mod.below hF hN
theorem aR.aX{F F':Nat→Prop}{w w':World}{N:Nat}(h:aR F F' w w')(hF:∀k,F k→N≤k)(hN:N≤w.heap.size):∀k,F' k→N≤k:=
 fun k hk=>(h.new k hk).elim (hF k) (fun h'=>ae hN h')
def gT(o:Obj):Bool:=match o with
 | .cells _ t _=>t==46||t==89||t==194
 | .map _ _=>true
 |_=>false
section
variable{w w':World}{pw:Nat}{R:Rp}{S:Fs}
theorem bm.kind(h:bm w pw R S){k:Nat}(hk:R.F pw k):∃o,w.heap[k]?=some o∧gT o=true:=by
 rcases hk with rfl|rfl|rfl|hk
 ·exact⟨_,h.aZ,rfl⟩
 ·exact⟨_,h.tab.aZ,rfl⟩
 ·exact⟨_,h.tab.map,rfl⟩
 ·rcases h.eN.2 with⟨h1,-⟩|⟨g,cap,cur,h1,-,hg,-⟩
  ·rw[h1] at hk;cases hk
  ·rw[h1] at hk;simp only[Value.ownBlock,Option.some.injEq] at hk;subst hk;exact⟨_,hg,rfl⟩
theorem aA.wd{a:Option Addr}{n c:Nat}{es:List En}(he:aA w a n c es)(h:bm w pw R S){F':Nat→Prop}(hs:aR (R.F pw) F' w w'):aA w' a n c es:=
 he.fH (fun b cur hc=>hs.mod.block b (Array.getElem?_eq_some_iff.1 hc).1 (fun hk=>by
  obtain⟨o,ho,hd⟩:=h.kind hk;rw[hc] at ho;injection ho with ho;subst ho;rw[show gT (.cells cur 98 (0,0))=false from rfl] at hd
  cases hd)) hs.mod.size
theorem aw.wd{B:Nat}{vs:Array Value}{T:TypeId}(hb:aw w B vs T)(h:bm w pw R S){F':Nat→Prop}(hs:aR (R.F pw) F' w w')(hT:gT (.cells #[] T (0,0))=false):aw w' B vs T:=
 hb.mod hs.mod (fun hk=>by
  obtain⟨o,ho,hd⟩:=h.kind hk;unfold aw at hb;rw[hb] at ho;injection ho with ho;subst ho;rw[show gT (.cells vs T (0,0))=gT (.cells #[] T (0,0)) from rfl,hT] at hd
  cases hd)
theorem bm.fH(h:bm w pw R S)(ht:∀(k:Nat) (o:Obj),w.heap[k]?=some o→(gT o=true∨∃cur,o=.cells cur 98 (0,0))→w'.heap[k]?=w.heap[k]?)(hs:w.heap.size≤w'.heap.size):bm w' pw R S where
 aZ:=(ht _ _ h.aZ (.inl rfl)).trans h.aZ
 tab:=⟨(ht _ _ h.tab.aZ (.inl rfl)).trans h.tab.aZ,(ht _ _ h.tab.map (.inl rfl)).trans h.tab.map,h.tab.once,h.tab.low⟩
 eN:=⟨h.eN.1,h.eN.2.imp id fun⟨g,cap,cur,h1,h2,hg,h3⟩=>⟨g,cap,cur,h1,h2,(ht _ _ hg (.inl rfl)).trans hg,h3⟩⟩
 ns:=h.ns
 ay:=fun g hg=>(h.ay g hg).fH (fun b cur hc=>ht _ _ hc (.inr ⟨cur,rfl⟩)) hs
theorem bm.ak(h:bm w pw R S)(hb:Qi w w'):bm w' pw R S:=
 h.fH (fun k o ho _=>hb.block k (Array.getElem?_eq_some_iff.1 ho).1) hb.size
theorem bm.mod(h:bm w pw R S){F:Nat→Prop}(hm:Mod F w w')(hF:∀(k:Nat) (o:Obj),F k→w.heap[k]?=some o→gT o=false∧∀cur,o≠.cells cur 98 (0,0)):bm w' pw R S:=
 h.fH (fun k o ho hk=>hm.block k (Array.getElem?_eq_some_iff.1 ho).1 (fun hf=>by
  obtain⟨h1,h2⟩:=hF k o hf ho;rcases hk with hk|⟨cur,hk⟩
  ·rw[h1] at hk;cases hk
  ·exact h2 cur hk)) hm.size
theorem yh(G:List Gn)(k:Int):kg (G.map Gn.e) k=(G.find? (fun g=>g.a.no==k)).map Gn.nd:=by
 unfold kg;rw[List.find?_map];have:(fun x:Nd×Nat=>x.1.no==k) ∘ Gn.e=fun g:Gn=>g.a.no==k:=rfl;rw[this,Option.map_map];rfl
theorem Kn(h:bm w pw R S)(k:Int):S.get k=(R.G.find? (fun g=>g.a.no==k)).map (·.a):=by
 unfold Fs.get;rw[h.ns,List.find?_map];rfl
end
end
section
open Go.RowKit
structure DvC(w:World)(g o:Nat)(d:Dv):Prop where
 c0:w.cell? ⟨g,o,none⟩=some (.int .i64 d.root)
 c1:w.cell? ⟨g,o+1,none⟩=some (.int .i64 d.aC)
 c2:w.cell? ⟨g,o+2,none⟩=some (.int .i64 d.b)
 c3:w.cell? ⟨g,o+3,none⟩=some (.int .i64 d.n)
 c4:w.cell? ⟨g,o+4,none⟩=some (.int .i64 d.mb)
 c5:w.cell? ⟨g,o+5,none⟩=some (.int .i64 d.mn)
def dvQ(cs:List Value)(d:Dv):Prop:=cs=d.cs
section
variable{w w':World}{pw:Nat}{R:Rp}{S:Fs}
theorem bm.kZ(h:bm w pw R S)(hd:0<S.ds.length):∃g cap,R.dv=.slice (some ⟨g,0,none⟩) S.ds.length cap∧S.ds.length≤cap∧cap≤9223372036854775807∧g<w.heap.size∧
  (∀(i:Nat) (hi:i<S.ds.length),DvC w g (i*6) S.ds[i])∧(∀i,w.frozen? ⟨g,i,none⟩=false)∧∃cur,aw w g cur 194:=by
 have h0:=h.eN;obtain⟨a,cap,hv,hle,xZ,hf⟩:=bC h0;rcases hf with⟨-,h1,-⟩|⟨g,rfl,-,hg⟩
 ·omega
 ·rw[hv] at h0;obtain⟨-,-,-,h1|⟨b,off,he,hb,hel⟩⟩:=eo (R:=dvQ) (by omega) Dv.fF (fun _=>rfl) h0
  ·omega
  ·injection he with he;injection he with e1 e2;subst e1 e2;obtain⟨cur,hcur⟩:∃cur,aw w g cur 194:=by
    rcases h0.2 with⟨h1,-⟩|⟨g',cap',cur,h1,-,hg',-⟩
    ·cases h1
    ·injection h1 with h1;injection h1 with h1;injection h1 with h1;subst h1;exact⟨cur,hg'⟩
   refine⟨g,cap,hv,hle,xZ,hg,fun i hi=>?_,hcur.frozen,cur,hcur⟩;obtain⟨cs,h2,h3,h4⟩:=hel i hi;subst h3;have e:∀j (hj:j<6),w.cell? ⟨g,i*6+j,none⟩=some (S.ds[i].cs[j]'(by rw[Dv.fF];exact hj)):=fun j hj=>by
    have:=h4 j (by rw[Dv.fF];exact hj);rw[Nat.zero_add] at this;exact this
   exact⟨e 0 (by omega),e 1 (by omega),e 2 (by omega),e 3 (by omega),e 4 (by omega),e 5 (by omega)⟩
theorem iu(h:bm w pw R S)(hd:0<S.ds.length) :
  Calls Tryz.prog 99 #[.pointer (some ⟨pw,0,none⟩)] w fun e w'=>e=.returned (.bool false)∧w=w':=by
 obtain⟨g,cap,hv,-,-,-,-,-,-⟩:=h.kZ hd;obtain⟨pc,-,-⟩:=h.aZ.facts;rw[hv] at pc;have hz:¬((S.ds.length:Int)=0):=by omega
 have et:((S.ds.length:Int)==0)=false:=by simpa using hz
 generalize S.ds.length=n at pc hz et;clear h hv hd;go_enter Tryz.func99,Tryz.ntmps99
 go_wp2
 go_ret;exact⟨rfl,rfl⟩
theorem gv(h:bm w pw R S)(hd:0<S.ds.length) :
  Calls Tryz.prog 68 #[.pointer (some ⟨pw,0,none⟩)] w fun e w'=>e=.returned (.int .i64 S.ds.length)∧w=w':=by
 have HN:=Qf (iu h hd);obtain⟨g,cap,hv,-,-,-,-,-,-⟩:=h.kZ hd;obtain⟨pc,-,-⟩:=h.aZ.facts;rw[hv] at pc;generalize S.ds.length=n at pc⊢;clear h hv hd;go_enter Tryz.func68,Tryz.ntmps68;go_wp2_with fail;refine HN.o.mono ?_;rintro e w1 ⟨rfl,rfl⟩
 go_wp2
 go_ret;exact⟨rfl,rfl⟩
theorem fp(h:bm w pw R S)(hd:0<S.ds.length)(d:Int) :
  Calls Tryz.prog 59 #[.pointer (some ⟨pw,0,none⟩),.int .i64 d] w fun e w'=>e=.returned (.int .i64 (S.root d))∧w=w':=by
 have HN:=Qf (iu h hd);obtain⟨g,cap,hv,hle,xZ,hg,hc,-,-⟩:=h.kZ hd;obtain⟨pc,-,-⟩:=h.aZ.facts;rw[hv] at pc;clear h hv;by_cases h1:1≤d
 ·by_cases h2:d≤S.ds.length
  ·obtain⟨k,rfl⟩:∃k:Nat,d=(k:Int)+1:=⟨(d-1).toNat,by omega⟩;have hk:k<S.ds.length:=by omega
   have hr:S.root ((k:Int)+1)=S.ds[k].root:=by
    unfold Fs.root;rw[if_pos ⟨h1,h2⟩,show((k:Int)+1-1).toNat=k by omega,List.getElem?_eq_getElem hk]
   rw[hr];have hcc:=(hc _ hk).c0;clear hc hr;generalize S.ds[k]=v at hcc⊢;generalize S.ds.length=n at pc hle h2 hk hd;go_enter Tryz.func59,Tryz.ntmps59;go_wp2_with fail;refine HN.o.mono ?_;rintro e w1 ⟨rfl,rfl⟩
   go_wp2
   go_ret;exact⟨rfl,rfl⟩
  ·rw[lu (by omega)];have kq:(S.ds.length:Int)<d:=by omega
   clear hc;generalize S.ds.length=n at pc hle h2 kq hd;go_enter Tryz.func59,Tryz.ntmps59;go_wp2_with fail;refine HN.o.mono ?_;rintro e w1 ⟨rfl,rfl⟩
   go_wp2
   go_ret;exact⟨rfl,rfl⟩
 ·rw[lu (by omega)];have oC:d<1:=by omega
  clear hc;generalize S.ds.length=n at pc hle hd;go_enter Tryz.func59,Tryz.ntmps59;go_wp2_with fail;refine HN.o.mono ?_;rintro e w1 ⟨rfl,rfl⟩
  go_wp2
  go_ret;exact⟨rfl,rfl⟩
end
end
section
open Go
theorem eX{P:Program}{fn:Func}{R:Ending→World→Prop}{K:Act→World→Prop}:∀c d v a w,Exit.then K (bodyPost P fn R) (.panic c) (Act.put a d v) w→Exit.then K (bodyPost P fn R) (.panic c) a w:=
 fun c d v a w h=>by
  have h':(Act.put a d v).defers=[]∧R (.panicked c) w:=h;exact show a.defers=[]∧R (.panicked c) w from⟨by rw[←h'.1];cases d<;>rfl,h'.2⟩
def zU:Op→Bool
 | .move _=>true
 | .assign _=>true
 | .extract _ _=>true
 |_=>false
section
variable{P:Program}{ops:Array Oper}{md:Region.Mode}{Q:Exit→Act→World→Prop}
theorem wX{o:Oper}(hp:zU o.op=true){w:World}{K:Act→World→Prop}{a:Act}(h:o.wp P a w K Q∨(o.asks P a w∧LetsOut Q)) :
  ∃v,(∀w',(execOp a.eval o).run P w'=.ok (.value v) w')∧K (a.put o.dst v) w:=by
 have key:∀v,(∀w',(execOp a.eval o).run P w'=.ok (.value v) w')→((execOp a.eval o).runT P w #[]).2=#[]→∃v,(∀w',(execOp a.eval o).run P w'=.ok (.value v) w')∧K (a.put o.dst v) w:=by
  intro v hr ht;refine⟨v,hr,?_⟩;rcases h with h|h
  ·unfold Oper.wp at h;rw[hr] at h;exact h
  ·have:=h.1.1;rw[ht] at this;simp at this
 have bad:(∀w',∃m,(execOp a.eval o).run P w'=.halt (.stuck m) w')→((execOp a.eval o).runT P w #[]).2=#[]→∃v,(∀w',(execOp a.eval o).run P w'=.ok (.value v) w')∧K (a.put o.dst v) w:=by
  intro hr ht;rcases h with h|h
  ·obtain⟨m,hm⟩:=hr w;unfold Oper.wp at h;rw[hm] at h;exact h.elim
  ·have:=h.1.1;rw[ht] at this;simp at this
 unfold zU at hp
 split at hp
 ·rename_i x hx;exact key (a.eval x) (fun w'=>by simp[execOp,hx]) (by simp only[execOp,hx];rfl)
 ·rename_i x hx;exact key (a.eval x) (fun w'=>by simp[execOp,hx]) (by simp only[execOp,hx];rfl)
 ·rename_i t ix hx
  cases ht:a.eval t with
  |tuple vs=>
   cases hv:vs[ix]? with
   |some v=>exact key v (fun w'=>by simp[execOp,hx,Instr.extract,ht,hv]) (by simp only[execOp,hx,Instr.extract,ht,hv];rfl)
   |none=>exact bad (fun w'=>⟨_,by simp only[execOp,hx,Instr.extract,ht,hv];rfl⟩) (by simp only[execOp,hx,Instr.extract,ht,hv];rfl)
  |_=>exact bad (fun w'=>⟨_,by simp only[execOp,hx,Instr.extract,ht];rfl⟩) (by simp only[execOp,hx,Instr.extract,ht];rfl)
 ·cases hp
def tL(md:Region.Mode)(ops:Array Oper):Nat→Nat→Array Bool→Bool
 |0,_,listed=>(Region.ready md ops listed).isEmpty
 |g+1,k,listed=>
  (decide (Region.ready md ops listed=[k])||(match ops[k]? with
   |some o=>zU o.op&&o.guard.isNone&&(Region.ready md ops listed).contains k&&Region.free md ops listed k
   |none=>false))&&tL md ops g (k+1) (listed.setIfInBounds k true)
theorem B4{o:Oper}{T:Nat→Option Bool}(h:o.guard.isNone=true):Region.wanted o T=true:=by
 simp[Region.wanted,Option.isNone_iff_eq_none.1 h]
theorem oL(hsel:Region.noSelect ops=true)(hQ:∀c d v a w,Q (.panic c) (Act.put a d v) w→Q (.panic c) a w):∀(l:List Oper) (k:Nat) (listed:Array Bool) (a:Act) (w:World),(∀j,l[j]?=ops[k+j]?)→
  tL md ops l.length k listed=true→wpList P ops Q l a w→wpAnyH P md ops Q (fun _=>True) l.length listed a w
 | [],_,_,_,_,_,hB,h=>⟨by simpa [tL] using hB,h⟩
 |o::l,k,listed,a,w,hl,hB,h=>by
  have h0:ops[k]?=some o:=by simpa using (hl 0).symm
  have hl':∀j,l[j]?=ops[k+1+j]?:=fun j=>by have:=hl (j+1);simpa [Nat.add_assoc,Nat.add_comm 1 j] using this
  simp only[List.length_cons,tL,Bool.and_eq_true,Bool.or_eq_true,decide_eq_true_eq,h0] at hB;rcases hB.1 with h1|⟨⟨⟨hp,hg⟩,hr⟩,hf⟩
  ·refine⟨fun h2=>(by rw[h2] at h1;cases h1),fun i hi=>?_⟩;rw[h1] at hi;have hik:i=k:=by simpa using hi
   subst hik;have hw:wpOp P ops Q i (wpList P ops Q l) a w:=by unfold wpOp;simp only[h0];exact h
   exact wpOp_mono (fun a' w' h'=>⟨trivial,oL hsel hQ l (i+1) _ a' w' hl' hB.2 h'⟩) hw
  ·have hw:Region.wanted o (yielded ops a.tmps)=true:=B4 hg;unfold wpList at h;rw[if_pos hw] at h;obtain⟨v,hy,hK⟩:=wX hp h;exact wpAnyH_take h0 hsel hf hr (fun c a w hq=>hQ c _ _ a w hq) (.inl ⟨hw,fun w' _=>hy w'⟩) trivial (oL hsel hQ l (k+1) _ _ w hl' hB.2 hK)
def p9(md:Region.Mode)(ops:Array Oper)(n:Nat):Bool:=
 (List.range ops.size).all fun t=>decide (t≤n)||(List.range t).any fun j=>decide (n≤j)&&Region.waitsFor md ops t j
theorem wA{n:Nat}{listed:Array Bool}(hs:Region.sinkB md ops n=true)(hc:p9 md ops n=true)(hn:n<ops.size)(inv:HeadInv md ops n listed){i:Nat}(hi:i<n)(hun:listed.getD i true=false) :
  ∀t,n≤t→t∉Region.ready md ops listed:=by
 have low:∀(d i:Nat),n-i=d→i<n→listed.getD i true=false→n∉Region.ready md ops listed:=by
  intro d
  induction d using Nat.strongRecOn with
  |_ d ih=>
   intro i hd hi hun hr;obtain⟨-,on,hon,hall⟩:=mem_ready.1 hr;obtain⟨j,hj,IX⟩:=List.any_eq_true.1 (List.all_eq_true.1 hs i (List.mem_range.2 hi));simp only[Bool.and_eq_true,decide_eq_true_eq] at IX;obtain⟨oj,hoj,e,he,hb,hei⟩:=Region.waitsFor_spec IX.2;have hjn:j≤n:=by have:=List.mem_range.1 hj;omega
   have hno:listed.getD i false=false:=getD_both hun;rcases Nat.lt_or_ge j n with hlt|hge
   ·cases hl:listed.getD j false with
    |true=>
     have:=inv.closed j oj hoj hl e he hb;rw[hei,hno] at this
     cases this
    |false=>exact ih (n-j) (by omega) j rfl hlt (getD_in (by rw[inv.size];omega) hl) hr
   ·obtain rfl:j=n:=by omega
    obtain rfl:oj=on:=Option.some.inj (hoj.symm.trans hon);have:=hall e he hb;rw[hei,hno] at this
    cases this
 intro t ht hr;rcases Nat.eq_or_lt_of_le ht with rfl|hlt
 ·exact low _ i rfl hi hun hr
 ·obtain⟨-,ot,hot,hall⟩:=mem_ready.1 hr;have htl:t<ops.size:=(Array.getElem?_eq_some_iff.1 hot).1;have h1:=List.all_eq_true.1 hc t (List.mem_range.2 htl);simp only[Bool.or_eq_true,decide_eq_true_eq] at h1;rcases h1 with h1|h1
  ·omega
  ·obtain⟨j,hj,IX⟩:=List.any_eq_true.1 h1;simp only[Bool.and_eq_true,decide_eq_true_eq] at IX;obtain⟨o',ho',e,he,hb,hej⟩:=Region.waitsFor_spec IX.2;obtain rfl:o'=ot:=Option.some.inj (ho'.symm.trans hot);have:=hall e he hb;rw[hej,getD_both (inv.tail j IX.1 (by have:=List.mem_range.1 hj;omega))] at this
   cases this
variable{w:World}
theorem pr{n i:Nat}{oi:Oper}{v:Value}{L:Array Bool→Act→Prop}(hi:ops[i]?=some oi)(hsel:Region.noSelect ops=true)
  (hs:Region.sinkB md ops n=true) (hc:p9 md ops n=true) (hn:n<ops.size) (hin:i<n) (hdone:∀listed a,L listed a→∀j∈Region.ready md ops listed,n≤j) :
  ∀(f:Nat) (listed:Array Bool) (a:Act),HeadInv md ops n listed→
   (∀j oj,ops[j]?=some oj→j≠i→listed.getD j true=false→(∀e∈oj.after,Region.binds md e=true→e.on≠i)→oi.apart ops oj=true)→
   i∈Region.ready md ops listed→YieldsAt P ops w oi v a→wpAnyL P md ops w n L f (listed.setIfInBounds i true) (a.put oi.dst v)→wpAnyL P md ops w n L (f+1) listed a
 |f,listed,a,inv,hfree,hr,hy,H=>by
  have hun:=(mem_ready.1 hr).1;have hlow:∀j∈Region.ready md ops listed,j<n:=fun j hj=>Nat.lt_of_not_le fun h=>wA hs hc hn inv hin hun j h hj;refine⟨List.ne_nil_of_mem hr,fun j hj=>⟨hlow j hj,?_⟩⟩;by_cases hji:j=i
  ·subst hji;exact hy.stOp hi H
  ·cases f with
   |zero=>exact absurd (hdone _ _ H j (ready_mono hj hji)) (Nat.not_le_of_lt (hlow j hj))
   |succ f=>
    have h1:=(H.2 j (ready_mono hj hji)).2;obtain⟨hjun,oj,hoj,hall⟩:=mem_ready.1 hj;have hnot:∀e∈oj.after,Region.binds md e=true→e.on≠i:=fun e he hb heq=>by
     have h2:=hall e he hb;rw[heq,getD_both hun] at h2
     cases h2
    refine stOp_mono (fun a' h3=>?_) (stOp_put hoj (hfree j oj hoj hji hjun hnot) (fun cs b=>Region.noSelect_spec hsel i oi cs b hi) (fun cs b=>Region.noSelect_spec hsel j oj cs b hoj) hy h1);refine pr hi hsel hs hc hn hin hdone f (listed.setIfInBounds j true) a' (inv.set hj (hlow j hj)) (fun k ok hk hki hku hno=>hfree k ok hk hki ?_ hno) (ready_mono hr (Ne.symm hji)) h3.1 ?_
    ·by_cases hjk:j=k
     ·subst hjk;exact hjun
     ·rw[getD_set_ne true hjk] at hku;exact hku
    ·rw[Array.setIfInBounds_comm _ _ hji];exact h3.2
def rB(md:Region.Mode)(ops:Array Oper)(g:Nat):Nat→Nat→Array Bool→Bool
 |0,k,listed=>tL md ops g k listed&&(Region.ready md ops listed).all fun j=>decide (k≤j)
 |f+1,k,listed=>(Region.ready md ops listed).contains k&&Region.free md ops listed k&&rB md ops g f (k+1) (listed.setIfInBounds k true)
theorem ug{n g:Nat}{Lq:Act→Prop}(hsel:Region.noSelect ops=true)(hs:Region.sinkB md ops n=true)(hc:p9 md ops n=true)(hn:n<ops.size) :
  ∀(l:List Oper) (k:Nat) (listed:Array Bool) (a:Act),(∀j,j<l.length→l[j]?=ops[k+j]?)→k+l.length=n→HeadInv md ops n listed→rB md ops g l.length k listed=true→wpStill P ops w Lq l a→
  wpAnyL P md ops w n (fun listed' a'=>(tL md ops g n listed'=true∧∀j∈Region.ready md ops listed',n≤j)∧Lq a') l.length listed a
 | [],k,listed,a,_,hk,_,hB,h=>by
  obtain rfl:k=n:=by simpa using hk
  simp only[List.length_nil,rB,Bool.and_eq_true,List.all_eq_true,decide_eq_true_eq] at hB;exact⟨hB,h⟩
 |o::l,k,listed,a,hl,hk,inv,hB,h=>by
  have h0:ops[k]?=some o:=by simpa using (hl 0 (by simp)).symm
  simp only[List.length_cons,rB,Bool.and_eq_true] at hB;obtain⟨⟨hr,hf⟩,hB'⟩:=hB;have hkn:k<n:=by simp only[List.length_cons] at hk;omega
  have hr':k∈Region.ready md ops listed:=by simpa using hr
  have hst:stOp P ops w k (wpStill P ops w Lq l) a:=by unfold stOp;simp only[h0];exact h
  obtain⟨v,hy,hK⟩:=yieldsAt_of_stOp h0 hst;exact pr h0 hsel hs hc hn hkn (fun _ _ hL=>hL.1.2) l.length listed a inv (Region.free_spec h0 hf) hr' hy
   (ug hsel hs hc hn l (k+1) _ _ (fun j hj=>by have:=hl (j+1) (by simp;omega);simpa [Nat.add_assoc,Nat.add_comm 1 j] using this) (by simp only[List.length_cons] at hk;omega) (inv.set hr' hkn) hB' hK)
def rp(ops:Array Oper)(n:Nat):Bool:=
 Region.noSelect ops&&decide (n<ops.size)&&Region.sinkB .any ops n&&p9 .any ops n&&rB .any ops (ops.size-n) n 0 (Array.replicate ops.size false)
theorem aG{id:Nat}{a:Act}{l:List Oper}(n:Nat)(hm:P.follows .mixedOrders=true)(hB:rp l.toArray n=true)(hQ:∀c d v a w,Q (.panic c) (Act.put a d v) w→Q (.panic c) a w)
  (h:wpStill P l.toArray w.drew (fun a'=>wpList P l.toArray Q (l.drop n) a' w.drew) (l.take n) a):(Code.region id l.toArray true).wp P Q a w:=by
 simp only[rp,Bool.and_eq_true,decide_eq_true_eq] at hB;obtain⟨⟨⟨⟨hsel,hn⟩,hs⟩,hc⟩,hlex⟩:=hB;have hn':n<l.length:=by simpa using hn
 have htl:(l.take n).length=n:=by simp;omega
 have hdl:(l.drop n).length=l.toArray.size-n:=by simp
 have inv0:HeadInv .any l.toArray n (Array.replicate l.toArray.size false):=
  ⟨by simp,fun j oj _ hl=>(by rw[getD_replicate_false] at hl;cases hl),fun t _ ht=>getD_in (by simpa using ht) (getD_replicate_false _ _)⟩
 have H:=ug (md:=.any) (g:=l.toArray.size-n) hsel hs hc hn (l.take n) 0 _ a (fun j hj=>by
  have hj':j<n:=by rw[htl] at hj;exact hj
  simp[hj']) (by simpa using htl) inv0 (by rw[htl];exact hlex) h
 refine wp_region_any hm ?_;have:=wpAny_of_head (Q':=Q) (g:=l.toArray.size-n) (fun listed a' hL=>by
  have:=wpAny_of_held _ _ _ _ (oL (md:=.any) hsel hQ (l.drop n) n listed a' w.drew (fun j=>by simp[List.getElem?_drop]) (by rw[hdl];exact hL.1.1) hL.2)
  rwa [hdl] at this) _ _ _ H
 rw[htl,show n+(l.toArray.size-n)=l.toArray.size by omega] at this;exact this
end
end
end Go.Proofs.YtabbjaomlmnnhaaGreat
