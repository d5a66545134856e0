import Derived.Lib.SliceRun
import Derived.StillTail
import Derived.StillTactics
import Derived.OrdersHeld
import Derived.WalkKit
import Derived.Test.YtabbjaomlmnnhaaGreatCO3
import Derived.Test.YtabbjaomlmnnhaaGreatCO2
import Derived.Test.YtabbjaomlmnnhaaGreatCO1
import Derived.Test.YtabbjaomlmnnhaaGreatProg
set_option linter.unusedVariables false
set_option linter.unusedSimpArgs false
set_option maxRecDepth 100000
set_option maxHeartbeats 16000000
namespace Go.Proofs.YtabbjaomlmnnhaaGreat
open Go.Value renaming int→UE,string→UF,slice→UG,pointer→UH,agg→UJ,tuple→UK
open Go.IntKind renaming i64→UL
section
open Go.RowKit
structure Rw where
 path:ByteArray
 kind:Int
 mode:Int
 uid:Int
 gid:Int
 mtime:Int
 ctime:Int
 dev:Int
 first:Int
 data:ByteArray
 deriving DecidableEq
def lE(s n:ByteArray):ByteArray:=str (oE s.data.toList++47::n.data.toList)
def An.rw(n:An)(p:ByteArray)(first:Int):Rw:=⟨p,n.kind,n.mode,n.uid,n.gid,n.mtime,n.ctime,n.dev,first,n.data⟩
def iW(p:ByteArray)(n:An):List En:=n.au.map fun e=>⟨lE p e.name,e.no⟩
def Fs.IJ(S:Fs):Nat→List En→List Int→List Rw→List Rw
 |0,_,_,out=>out
 |_+1,[],_,out=>out
 |f+1,x::todo,nos,out=>
  match S.get (S.aB x.no) with
  |none=>S.IJ f todo nos out
  |some n=>S.IJ f (iW x.name n++todo) (nos++[n.no]) (out++[n.rw x.name (nos.idxOf n.no)])
def Fs.zX(S:Fs)(N:Nat):Nat:=1+(N+1)*S.ns.length
def Fs.rows(S:Fs)(N:Nat)(no:Int)(p:ByteArray):List Rw:=S.IJ (S.zX N) [⟨p,no⟩] [] []
theorem Dx(s n:ByteArray):(lE s n).size≤s.size+n.size+1:=by
 unfold lE;rw[dn,List.length_append,List.length_cons];have h1:=EN s.data.toList;have h2:s.data.toList.length=s.size:=Array.length_toList;have h3:n.data.toList.length=n.size:=Array.length_toList;omega
def Fs.isDir(S:Fs)(k:Int):Bool:=match S.get k with|some n=>n.kind==1|none=>false
theorem n8{S:Fs}{k:Int}(h:S.isDir k=true):∃n,S.get k=some n∧n.kind=1:=by
 unfold Fs.isDir at h
 split at h
 ·rename_i n hn;exact⟨n,hn,by simpa using h⟩
 ·cases h
theorem tG{S:Fs}{k:Int}{n:An}(h:S.get k=some n)(hk:n.kind=1):S.isDir k=true:=by
 unfold Fs.isDir;rw[h];simpa using hk
theorem FW{S:Fs}{k:Int}{n:An}(h:S.get k=some n)(hk:n.kind≠1):S.isDir k=false:=by
 unfold Fs.isDir;rw[h];simpa using hk
theorem P0{S:Fs}{i:Nat}(hi:i<S.ds.length):S.dev ((i:Int)+1)=some S.ds[i]∧S.root ((i:Int)+1)=S.ds[i].root:=by
 refine⟨?_,?_⟩
 ·unfold Fs.dev;rw[if_pos (by omega),show((i:Int)+1-1).toNat=i by omega,List.getElem?_eq_getElem hi]
 ·unfold Fs.root;rw[if_pos ⟨by omega,by omega⟩,show((i:Int)+1-1).toNat=i by omega,List.getElem?_eq_getElem hi]
theorem xP{S:Fs}{N:Nat}(hk:ay S N)(hp:Pl S)(ht:Tr S){n:An}(hn:n∈S.ns){e:En}(he:e∈n.au)(hd:S.isDir (S.aB e.no)=true) :
  S.bl (S.aB e.no)=n.no∧n.no<S.aB e.no∧S.child (S.aB e.no)=e.no∧S.isDir e.no=true:=by
 have hnz:1≤e.no:=(hk.all n hn).nz e he;obtain⟨b,hb,av⟩:=(ht.row n hn).down e he;obtain⟨r,hr,uU⟩:=n8 hd;have ho:S.aB e.no=match S.ds.find? (fun d=>d.aB==e.no) with|some d=>d.root|none=>e.no:=by
  unfold Fs.aB;rw[if_pos (by omega)];rfl
 cases hf:S.ds.find? (fun d=>d.aB==e.no) with
 |none=>
  rw[hf] at ho;simp only at ho;rw[ho] at hr⊢;rw[hb] at hr;injection hr with hr;subst hr;obtain⟨h1,h2⟩:=av uU;have hbn:=bV hb;have hup:=hp.up b (aO hb) uU;refine⟨?_,?_,?_,tG hb uU⟩
  ·unfold Fs.bl;rw[hb];simp only;rw[if_neg (by simpa using uU),if_neg (fun h=>h2 (by rw[hbn];exact h.1))];exact h1
  ·rcases hup with h|h
   ·exact absurd h.1 h2
   ·omega
  ·unfold Fs.child;rw[hb];simp only;rw[if_neg (fun h=>h2 (by rw[hbn];exact h.1))]
 |some d=>
  rw[hf] at ho;simp only at ho;have hdo:d.aB=e.no:=by simpa using List.find?_some hf
  obtain⟨i,hi,hid⟩:=List.mem_iff_getElem.1 (List.mem_of_find?_eq_some hf);subst hid;have NZ:1≤i:=by
   rcases Nat.eq_zero_or_pos i with h0|h0
   ·subst h0;have:=ht.zero S.ds[0] (List.getElem?_eq_getElem hi);omega
   ·exact h0
  obtain⟨b2,aY,hbk,hlt⟩:=hp.aB i hi NZ;rw[hdo,hb] at aY;injection aY with aY;subst aY;obtain⟨h1,h2⟩:=av hbk;obtain⟨r2,p6,hr2k,Sh⟩:=ht.NP i hi;obtain⟨d1,d2⟩:=P0 hi;have hbn:=bV hb;have hup:=hp.up b (aO hb) hbk;rw[ho];refine⟨?_,?_,?_,tG hb hbk⟩
  ·unfold Fs.bl;rw[p6];simp only;rw[if_neg (by simpa using hr2k),Sh,if_pos ⟨d2,by omega⟩,d1];simp only;rw[hdo,hb];exact h1
  ·rcases hup with h|h
   ·exact absurd h.1 h2
   ·omega
  ·unfold Fs.child;rw[p6];simp only;rw[Sh,if_pos ⟨d2,by omega⟩,d1];exact hdo
def Fs.fI(S:Fs)(l:List En):List Int:=(l.map fun x=>S.aB x.no).filter S.isDir
theorem jx(S:Fs)(a b:List En):S.fI (a++b)=S.fI a++S.fI b:=by
 unfold Fs.fI;rw[List.map_append,List.filter_append]
theorem Jh{S:Fs}{p:ByteArray}{n:An}{c:Int}(h:c∈S.fI (iW p n)):∃e∈n.au,S.aB e.no=c∧S.isDir c=true:=by
 unfold Fs.fI iW at h;rw[List.map_map] at h;obtain⟨h1,h2⟩:=List.mem_filter.1 h;obtain⟨e,he,rfl⟩:=List.mem_map.1 h1;exact⟨e,he,rfl,h2⟩
theorem CK{S:Fs}{N:Nat}(hk:ay S N)(hp:Pl S)(ht:Tr S){n:An}(hn:n∈S.ns)(p:ByteArray):(S.fI (iW p n)).Nodup:=by
 unfold Fs.fI iW;rw[List.map_map,List.Nodup,List.pairwise_filter,List.pairwise_map];have h1:∀(l:List En),(∀x∈l,x∈n.au)→l.Pairwise (fun x y=>x.no=y.no→∀b,S.get x.no=some b→b.kind≠1)→l.Pairwise (fun x y=>S.isDir (S.aB x.no)=true→S.isDir (S.aB y.no)=true→S.aB x.no≠S.aB y.no):=by
  intro l
  induction l with
  |nil=>intro _ _;exact List.Pairwise.nil
  |cons x l ih=>
   intro hm hl;rw[List.pairwise_cons] at hl⊢;refine⟨fun y hy Jp hy1 he=>?_,ih (fun z hz=>hm z (List.mem_cons_of_mem _ hz)) hl.2⟩;obtain⟨-,-,c1,i1⟩:=xP hk hp ht hn (hm x List.mem_cons_self) Jp;obtain⟨-,-,c2,-⟩:=xP hk hp ht hn (hm y (List.mem_cons_of_mem _ hy)) hy1;rw[he,c2] at c1;obtain⟨b,hb,av⟩:=n8 i1;exact hl.1 y hy c1.symm b hb av
 exact h1 n.au (fun x hx=>hx) (ht.row n hn).once
theorem vY:∀(l m:List Int),l.Nodup→(∀c∈l,c∈m)→l.length≤m.length:=by
 intro l
 induction l with
 |nil=>intro m _ _;exact Nat.zero_le _
 |cons c l ih=>
  intro m hl hm;rw[List.nodup_cons] at hl;have h1:=ih (m.erase c) hl.2 (fun d hd=>by
   have hdc:d≠c:=by rintro rfl;exact hl.1 hd
   exact(List.mem_erase_of_ne hdc).2 (hm d (List.mem_cons_of_mem _ hd)))
  have h2:=hm c List.mem_cons_self;rw[List.length_erase_of_mem h2] at h1;have h3:=List.length_pos_of_mem h2;rw[List.length_cons];omega
structure rC(S:Fs)(N:Nat)(s0:Int)(B:Nat)(todo:List En)(nos:List Int)(f:Nat):Prop where
 nodup:(S.fI todo++nos.filter S.isDir).Nodup
 src:∀c∈S.fI todo++nos.filter S.isDir,c=s0∨S.bl c∈nos.filter S.isDir
 low:∀c∈S.fI todo++nos.filter S.isDir,s0≤c
 fuel:todo.length+(N+1)*(S.ns.length-(nos.filter S.isDir).length)≤f
 size:∀x∈todo,x.name.size≤B+256*(if S.isDir (S.aB x.no) then(S.aB x.no).toNat else S.last.toNat+1)
theorem rC.start(S:Fs)(N:Nat)(no:Int)(p:ByteArray):rC S N (S.aB no) p.size [⟨p,no⟩] [] (S.zX N):=by
 have h1:∀c∈S.fI [⟨p,no⟩]++([]:List Int).filter S.isDir,c=S.aB no:=fun c hc=>by
  simp only[List.filter_nil,List.append_nil] at hc;unfold Fs.fI at hc;simpa using (List.mem_filter.1 hc).1
 refine⟨?_,fun c hc=>.inl (h1 c hc),fun c hc=>by rw[h1 c hc];exact Int.le_refl _,?_,fun x hx=>?_⟩
 ·simp only[List.filter_nil,List.append_nil];unfold Fs.fI;refine List.Pairwise.filter _ ?_;simp
 ·unfold Fs.zX;simp
 ·simp at hx;subst hx;exact Nat.le_add_right _ _
theorem rC.pos{S:Fs}{N:Nat}{s0:Int}{B:Nat}{x:En}{todo:List En}{nos:List Int}{f:Nat}(h:rC S N s0 B (x::todo) nos f):∃f',f=f'+1:=by
 have h4:=h.fuel;rw[List.length_cons] at h4;exact⟨f-1,by omega⟩
theorem rC.some{S:Fs}{N:Nat}{s0:Int}{B:Nat}(hk:ay S N)(hp:Pl S)(ht:Tr S){x:En}{todo:List En}{nos:List Int}{f:Nat}(h:rC S N s0 B (x::todo) nos (f+1)){n:An}(hg:S.get (S.aB x.no)=some n):rC S N s0 B (iW x.name n++todo) (nos++[n.no]) f:=by
 have hm:=aO hg;have hno:=bV hg;have h4:=h.fuel;have hnl:=h.size x List.mem_cons_self;rw[List.length_cons] at h4;by_cases hd:n.kind=1
 ·have hdir:S.isDir (S.aB x.no)=true:=tG hg hd;have xT:S.fI (x::todo)=S.aB x.no::S.fI todo:=by
   unfold Fs.fI;rw[List.map_cons,List.filter_cons_of_pos hdir]
  have uT:(nos++[n.no]).filter S.isDir=nos.filter S.isDir++[S.aB x.no]:=by
   rw[List.filter_append,hno,List.filter_cons_of_pos hdir];rfl
  have h1:=h.nodup;have h2:=h.src;have h3:=h.low;rw[xT] at h1 h2 h3;rw[if_pos hdir] at hnl;have hlow:s0≤S.aB x.no:=h3 _ (by simp);have hkid:∀c∈S.fI (iW x.name n),S.bl c=S.aB x.no∧S.aB x.no<c:=fun c hc=>by
   obtain⟨e,he,rfl,hdc⟩:=Jh hc;obtain⟨k1,k2,-,-⟩:=xP hk hp ht hm he hdc;rw[hno] at k1 k2;exact⟨k1,k2⟩
  have o8:=h1;rw[List.cons_append,List.nodup_cons] at o8;obtain⟨Jp,hx2⟩:=o8;generalize S.aB x.no=k at *;have hnew:∀c∈S.fI (iW x.name n),c∉S.fI todo++nos.filter S.isDir:=fun c hc hin=>by
   obtain⟨k1,k2⟩:=hkid c hc;rcases h2 c (by rw[List.cons_append];exact List.mem_cons_of_mem _ hin) with h5|h5
   ·omega
   ·rw[k1] at h5;exact Jp (List.mem_append_right _ h5)
  have hcnt:(k::nos.filter S.isDir).length≤S.ns.length:=by
   have:=vY (k::nos.filter S.isDir) (S.ns.map (·.no)) (by
    rw[List.nodup_cons];exact⟨fun h=>Jp (List.mem_append_right _ h),(List.nodup_append.1 hx2).2.1⟩) (fun c hc=>by
    have jH:S.isDir c=true:=by
     rcases List.mem_cons.1 hc with rfl|hc
     ·exact hdir
     ·exact(List.mem_filter.1 hc).2
    obtain⟨b,hb,-⟩:=n8 jH;exact List.mem_map.2 ⟨b,aO hb,bV hb⟩)
   rwa [List.length_map] at this
  rw[List.length_cons] at hcnt;refine⟨?_,fun c hc=>?_,fun c hc=>?_,?_,fun y hy=>?_⟩
  ·rw[uT,jx];have hperm:(S.fI (iW x.name n)++(S.fI todo++nos.filter S.isDir++[k])).Nodup:=by
    rw[List.nodup_append];refine⟨CK hk hp ht hm x.name,?_,fun c hc d hcd=>?_⟩
    ·rw[List.nodup_append];refine⟨hx2,by simp,fun c hc d hcd=>?_⟩;simp at hcd;subst hcd;rintro rfl;exact Jp hc
    ·rintro rfl;rcases List.mem_append.1 hcd with h5|h5
     ·exact hnew c hc h5
     ·simp at h5;have:=(hkid c hc).2;omega
   simpa only[List.append_assoc] using hperm
  ·rw[uT,jx] at hc;rw[uT];simp only[List.append_assoc] at hc;rcases List.mem_append.1 hc with hc|hc
   ·exact .inr (by rw[(hkid c hc).1];simp)
   ·rw[←List.append_assoc] at hc;rcases List.mem_append.1 hc with hc|hc
    ·rcases h2 c (by rw[List.cons_append];exact List.mem_cons_of_mem _ hc) with h5|h5
     ·exact .inl h5
     ·exact .inr (List.mem_append_left _ h5)
    ·simp at hc;subst hc;rcases h2 c (by simp) with h5|h5
     ·exact .inl h5
     ·exact .inr (List.mem_append_left _ h5)
  ·rw[uT,jx] at hc;simp only[List.append_assoc] at hc;rcases List.mem_append.1 hc with hc|hc
   ·have:=(hkid c hc).2;omega
   ·rw[←List.append_assoc] at hc;rcases List.mem_append.1 hc with hc|hc
    ·exact h3 c (by rw[List.cons_append];exact List.mem_cons_of_mem _ hc)
    ·simp at hc;subst hc;exact hlow
  ·rw[uT,List.length_append,List.length_append,List.length_singleton];have hkl:(iW x.name n).length≤N:=by
    unfold iW;rw[List.length_map];exact(hk.all n hm).lR
   obtain⟨u,hu⟩:∃u,S.ns.length-(nos.filter S.isDir).length=u+1:=⟨S.ns.length-(nos.filter S.isDir).length-1,by omega⟩;rw[hu,Nat.mul_succ] at h4;rw[show S.ns.length-((nos.filter S.isDir).length+1)=u by omega];omega
  ·rcases List.mem_append.1 hy with hy|hy
   ·unfold iW at hy;obtain⟨e,he,rfl⟩:=List.mem_map.1 hy;have h5:=Dx x.name e.name;have h6:=(hp.names n hm e he).2;have h7:=hk.get hg;have h8:k.toNat+1≤(if S.isDir (S.aB e.no) then(S.aB e.no).toNat else S.last.toNat+1):=by
     split
     ·rename_i hdc;obtain⟨-,k2,-,-⟩:=xP hk hp ht hm he hdc;rw[hno] at k2;omega
     ·omega
    simp only;have h9:256*(k.toNat+1)≤256*(if S.isDir (S.aB e.no) then(S.aB e.no).toNat else S.last.toNat+1):=Nat.mul_le_mul_left _ h8;omega
   ·exact h.size y (List.mem_cons_of_mem _ hy)
 ·have hdir:S.isDir (S.aB x.no)=false:=FW hg hd;have xT:S.fI (x::todo)=S.fI todo:=by
   unfold Fs.fI;rw[List.map_cons,List.filter_cons_of_neg (by rw[hdir];simp)]
  have uT:(nos++[n.no]).filter S.isDir=nos.filter S.isDir:=by
   rw[List.filter_append,hno,List.filter_cons_of_neg (by rw[hdir];simp)];simp
  have hkl:iW x.name n=[]:=by unfold iW;rw[ht.leaf n hm hd];rfl
  have h1:=h.nodup;have h2:=h.src;have h3:=h.low;rw[xT] at h1 h2 h3;rw[hkl];refine⟨?_,?_,?_,?_,fun y hy=>h.size y (List.mem_cons_of_mem _ hy)⟩
  ·rw[uT];exact h1
  ·rw[uT];exact h2
  ·rw[uT];exact h3
  ·rw[uT,List.nil_append];omega
end
section
open Go.RowKit
def Fs.dg(S:Fs)(no:Int):Int×ByteArray×Int:=
 match S.get no with
 |none=>(0,ByteArray.empty,5)
 |some a=>match S.gI (S.root a.dev) with
  |none=>(0,ByteArray.empty,5)
  |some s=>(S.root a.dev,s,0)
def Fs.pathF(S:Fs)(dir:Int)(n:ByteArray):ByteArray×Int:=
 if cH n≠0 then(ByteArray.empty,cH n) else
 match S.get dir with
 |none=>(ByteArray.empty,5)
 |some a=>if a.kind≠1 then(ByteArray.empty,9) else
  match S.gI dir with
  |none=>(ByteArray.empty,5)
  |some s=>if 4096<(lE s n).size then(ByteArray.empty,13) else(lE s n,0)
def Fs.isRoot(S:Fs)(no:Int):Bool:=match S.get no with|none=>false|some a=>S.root a.dev==no
def Fs.RS(S:Fs)(c:Cr)(p:ByteArray):Fd×Int:=
 if eZ p≠0 then(gS,eZ p)
 else if NU p.data.toList=[] then(gS,1)
 else if(S.path c p false).2≠0 then(gS,(S.path c p false).2)
 else if(S.path c p false).1.no=0 then(gS,5)
 else if(S.path c p false).1.name=ByteArray.empty then(gS,1)
 else if S.busy (S.path c p false).1.no=true∨S.isRoot (S.path c p false).1.no=true then(gS,16)
 else((S.path c p false).1,0)
def There(S:Fs)(x:Fd×Int):Prop:=x.1.name=ByteArray.empty∨x.1.no=0∨∃a,S.get x.1.no=some a
section
variable{S:Fs}{no dir:Int}{n s:ByteArray}{a:An}
theorem EP(h:S.get no=none):S.dg no=(0,ByteArray.empty,5):=by unfold Fs.dg;rw[h]
theorem ER(h:S.get no=some a)(hp:S.gI (S.root a.dev)=none):S.dg no=(0,ByteArray.empty,5):=by unfold Fs.dg;rw[h];simp only;rw[hp]
theorem EO(h:S.get no=some a)(hp:S.gI (S.root a.dev)=some s):S.dg no=(S.root a.dev,s,0):=by unfold Fs.dg;rw[h];simp only;rw[hp]
end
end
section
open Go.RowKit
def yv(x:Int×Value×Nat):MapEntry:={key:=UE UL x.1,val:=x.2.1,born:=x.2.2}
def dW(w:World)(m:Nat)(l:List (Int×Value×Nat))(eo:Nat):Prop:=w.heap[m]?=some (.map (l.map yv).toArray eo)
def dN(l:List (Int×Value×Nat)):Prop:=(l.map (·.1)).Nodup
def cI(l:List (Int×Value×Nat))(k:Int):Option Value:=(l.find? (fun x=>x.1==k)).map (·.2.1)
def gr(l:List (Int×Value×Nat))(k:Int)(v:Value):List (Int×Value×Nat):=l.map fun x=>if x.1==k then(k,v,x.2.2) else x
def je(l:List (Int×Value×Nat))(k:Int):List (Int×Value×Nat):=l.filter fun x=>!(x.1==k)
theorem dW.lt{w:World}{m:Nat}{l:List (Int×Value×Nat)}{eo:Nat}(h:dW w m l eo):m<w.heap.size:=by
 unfold dW at h;exact(Array.getElem?_eq_some_iff.1 h).1
theorem dW.bI{w:World}{m:Nat}{l:List (Int×Value×Nat)}{eo:Nat}(h:dW w m l eo)(o:Obj):dW (w.alloc o) m l eo:=
 (Below.heap_alloc w o m h.lt).trans h
theorem dW.an{w w':World}{m:Nat}{l:List (Int×Value×Nat)}{eo:Nat}(h:dW w m l eo)(hb:UA w w'):dW w' m l eo:=
 (hb.block m h.lt).trans h
theorem dW.setOther{w:World}{m:Nat}{l:List (Int×Value×Nat)}{eo:Nat}(h:dW w m l eo)(a:Addr)(v:Value)(hne:a.block≠m):dW (w.setCell a v) m l eo:=
 (Below.heap_setCell w a v m (fun e=>hne e.symm)).trans h
theorem pb(k:Int):∀(l:List (Int×Value×Nat)) (i:Nat),
  Instr.findNow (.int .i64) (UE UL k) (l.map yv) i=some ((l.findIdx? (fun x=>x.1==k)).bind fun j=>(l[j]?).map fun x=>(i+j,x.2.1))
 | [],i=>by simp[Instr.findNow]
 |x::l,i=>by
  have ih:=pb k l (i+1);rw[List.map_cons];unfold Instr.findNow;have hs:Instr.sameNow (.int .i64) (UE UL k) (yv x).key=some (k==x.1):=by simp[Instr.sameNow,yv]
  rw[hs];by_cases e:x.1=k
  ·subst e;simp[List.findIdx?_cons,yv]
  ·have e1:(k==x.1)=false:=by simpa using fun h=>e h.symm
   have e2:(x.1==k)=false:=by simpa using e
   rw[e1];show Instr.findNow _ _ _ _=_;rw[ih];simp only[List.findIdx?_cons,e2,Bool.false_eq_true,if_false];congr 1
   cases List.findIdx? (fun x=>x.1==k) l with
   |none=>rfl
   |some j=>simp;congr 1;funext y;simp;omega
theorem j4(k:Int):∀(l:List (Int×Value×Nat)),cI l k=(l.findIdx? (fun x=>x.1==k)).bind fun j=>(l[j]?).map fun x=>x.2.1
 | []=>rfl
 |x::l=>by
  have ih:=j4 k l;unfold cI at ih⊢;by_cases e:(x.1==k)=true
  ·simp[List.findIdx?_cons,e]
  ·simp only[Bool.not_eq_true] at e;simp only[List.find?_cons,List.findIdx?_cons,e,Bool.false_eq_true,if_false,ih]
   cases List.findIdx? (fun x=>x.1==k) l<;>simp
theorem tn(k:Int)(v:Value):∀(l:List (Int×Value×Nat)) (j:Nat),dN l→l.findIdx? (fun x=>x.1==k)=some j→
  ((l.map yv).modify j fun e=>{e with key:=UE UL k,val:=v})=(gr l k v).map yv
 | [],j,_,h=>by simp at h
 |x::l,j,hn,h=>by
  unfold dN at hn;simp only[List.map_cons,List.nodup_cons] at hn;obtain⟨hx,hl⟩:=hn;by_cases e:(x.1==k)=true
  ·simp only[List.findIdx?_cons,e,if_true,Option.some.injEq] at h;subst h;have e':x.1=k:=by simpa using e
   have hrest:gr l k v=l:=by
    unfold gr;rw[List.map_congr_left (g:=id)]
    ·simp
    ·intro y hy;have:¬y.1=k:=fun h'=>hx (by rw[e',←h'];exact List.mem_map.2 ⟨y,hy,rfl⟩);simp[this]
   have hput:gr (x::l) k v=(k,v,x.2.2)::l:=by
    unfold gr at hrest⊢;rw[List.map_cons,hrest,e,if_pos rfl]
   rw[hput];rfl
  ·simp only[Bool.not_eq_true] at e;simp only[List.findIdx?_cons,e,Bool.false_eq_true,if_false,Option.map_eq_some_iff] at h;obtain⟨j',hj,rfl⟩:=h;have ih:=tn k v l j' hl hj;unfold gr at ih⊢;simp only[List.map_cons,List.modify_succ_cons,e,Bool.false_eq_true,if_false];rw[ih]
theorem tt(k:Int):∀(l:List (Int×Value×Nat)) (j:Nat),dN l→l.findIdx? (fun x=>x.1==k)=some j→
  ((l.map yv).eraseIdx j)=(je l k).map yv
 | [],j,_,h=>by simp at h
 |x::l,j,hn,h=>by
  unfold dN at hn;simp only[List.map_cons,List.nodup_cons] at hn;obtain⟨hx,hl⟩:=hn;by_cases e:(x.1==k)=true
  ·simp only[List.findIdx?_cons,e,if_true,Option.some.injEq] at h;subst h;have e':x.1=k:=by simpa using e
   have hrest:je l k=l:=by
    unfold je;rw[List.filter_eq_self];intro y hy;have:¬y.1=k:=fun h'=>hx (by rw[e',←h'];exact List.mem_map.2 ⟨y,hy,rfl⟩);simp[this]
   unfold je at hrest⊢;simp[e',hrest]
  ·simp only[Bool.not_eq_true] at e;simp only[List.findIdx?_cons,e,Bool.false_eq_true,if_false,Option.map_eq_some_iff] at h;obtain⟨j',hj,rfl⟩:=h;have ih:=tt k l j' hl hj;unfold je at ih⊢;simp only[List.map_cons,List.eraseIdx_cons_succ,List.filter_cons,e,Bool.not_false,if_true];rw[ih]
theorem gi{l:List (Int×Value×Nat)}{k:Int}:cI l k=none↔l.findIdx? (fun x=>x.1==k)=none:=by
 rw[List.findIdx?_eq_none_iff];unfold cI;simp
theorem Au{l:List (Int×Value×Nat)}{k:Int}(h:cI l k=none):je l k=l:=by
 have:=gi.1 h;rw[List.findIdx?_eq_none_iff] at this;unfold je;rw[List.filter_eq_self];intro y hy;simp[this y hy]
section
variable{P:Program}{K E T:TypeId}{w:World}{m:Nat}{l:List (Int×Value×Nat)}{eo:Nat}
theorem eP(b:Bool)(hk:P.underlying K=some (.int .i64))(v:Value)(w:World):(Instr.checkKey b 10000 K v).run P w=.ok () w:=by
 unfold Instr.checkKey;simp[run_underlying hk]
theorem run_findKey(hk:P.underlying K=some (.int .i64))(k:Int)(w:World):(Instr.findKey K (UE UL k) (l.map yv)).run P w=.ok ((l.findIdx? (fun x=>x.1==k)).bind fun j=>(l[j]?).map fun x=>(j,x.2.1)) w:=by
 unfold Instr.findKey;simp[run_underlying hk,pb]
theorem sE(ht:P.underlying T=some (.map K E))(hk:P.underlying K=some (.int .i64))(h:dW w m l eo){k:Int}{v:Value}(hf:cI l k=some v) :
  (Instr.lookup T (.map (some m)) (UE UL k) true).run P w=.ok (UK #[v,.bool true]) w:=by
 rw[j4] at hf;unfold dW at h;simp only[Option.bind_eq_some_iff,Option.map_eq_some_iff] at hf;obtain⟨j,hj,x,hx,rfl⟩:=hf;unfold Instr.lookup;simp[run_underlying ht,getObj,Sem.run,h,eP _ hk,run_findKey hk,hj,hx]
theorem uO(ht:P.underlying T=some (.map K E))(hk:P.underlying K=some (.int .i64))(h:dW w m l eo){k:Int}(hf:cI l k=none){z:Value}(hz:(zeroValue E).run P w=.ok z w) :
  (Instr.lookup T (.map (some m)) (UE UL k) true).run P w=.ok (UK #[z,.bool false]) w:=by
 rw[gi] at hf;unfold dW at h;unfold Instr.lookup;simp[run_underlying ht,getObj,Sem.run,h,eP _ hk,run_findKey hk,hf,hz]
theorem LA(ht:P.underlying T=some (.map K E))(hk:P.underlying K=some (.int .i64))(h:dW w m l eo)(hn:dN l){k:Int}{v0 v:Value}(hf:cI l k=some v0) :
  (Instr.mapUpdate T (.map (some m)) (UE UL k) v).run P w=.ok () (ChangeMaps.setBlock w m (.map ((gr l k v).map yv).toArray eo)):=by
 rw[j4] at hf;unfold dW at h;simp only[Option.bind_eq_some_iff,Option.map_eq_some_iff] at hf;obtain⟨j,hj,x,hx,rfl⟩:=hf;have hp:=tn k v l j hn hj;have hxk:x.1=k:=by
  obtain⟨hlt,h1,-⟩:=List.findIdx?_eq_some_iff_getElem.1 hj;rw[List.getElem?_eq_getElem hlt] at hx;obtain rfl:=Option.some.inj hx;simpa using h1
 have hst:(Instr.keyThatStays (yv x).key (UE UL k)).run P w=.ok (UE UL k) w:=by
  subst hxk;simp[Instr.keyThatStays,Instr.sameBits,yv]
 unfold Instr.mapUpdate;simp[run_underlying ht,getObj,setObj,Sem.run,h,eP _ hk,run_findKey hk,hj,hx,hst,hp,ChangeMaps.setBlock]
theorem LD(ht:P.underlying T=some (.map K E))(hk:P.underlying K=some (.int .i64))(h:dW w m l eo){k:Int}{v:Value}(hf:cI l k=none) :
  (Instr.mapUpdate T (.map (some m)) (UE UL k) v).run P w=.ok () (ChangeMaps.setBlock w m (.map ((l++[(k,v,eo)]).map yv).toArray (eo+1))):=by
 rw[gi] at hf;unfold dW at h;unfold Instr.mapUpdate;simp[run_underlying ht,getObj,setObj,Sem.run,h,eP _ hk,run_findKey hk,hf,ChangeMaps.setBlock,yv]
theorem LC(ht:P.underlying T=some (.map K E))(hk:P.underlying K=some (.int .i64))(h:dW w m l eo)(hn:dN l)(ty:TypeId)(k:Int) :
  (Builtin.delete_ #[T,K] ty #[.map (some m),UE UL k]).run P w=.ok (UK #[]) (ChangeMaps.setBlock w m (.map ((je l k).map yv).toArray eo)):=by
 unfold dW at h
 cases hj:l.findIdx? (fun x=>x.1==k) with
 |none=>
  have hd:=Au (gi.2 hj);unfold Builtin.delete_;simp[run_underlying ht,getObj,setObj,Sem.run,h,eP _ hk,run_findKey hk,hj,hd,ChangeMaps.setBlock]
 |some j=>
  have hd:=tt k l j hn hj;have hlt:=(List.findIdx?_eq_some_iff_getElem.1 hj).1;unfold Builtin.delete_;simp[run_underlying ht,getObj,setObj,Sem.run,h,eP _ hk,run_findKey hk,hj,hlt,ChangeMaps.setBlock];rw[hd]
theorem LB(ht:P.underlying T=some (.map K E))(h:dW w m l eo)(ty:TypeId) :
  (Builtin.len_ #[T] ty #[.map (some m)]).run P w=.ok (UE UL l.length) w:=by
 unfold dW at h;unfold Builtin.len_;simp[run_underlying ht,getObj,Sem.run,h,goInt]
theorem dW.set(h:dW w m l eo)(l':List (Int×Value×Nat))(clk':Nat) :
  dW (ChangeMaps.setBlock w m (.map (l'.map yv).toArray clk')) m l' clk'∧(∀B vs T,ax w B vs T→ax (ChangeMaps.setBlock w m (.map (l'.map yv).toArray clk')) B vs T)∧
   Mod (fun k=>k=m) w (ChangeMaps.setBlock w m (.map (l'.map yv).toArray clk')):=by
 have hlt:=h.lt;refine⟨?_,?_,(Mod.refl (fun k=>k=m) w).setBlock (b:=m) (.inl rfl) _⟩
 ·unfold dW;simp[ChangeMaps.setBlock,hlt]
 ·intro B vs T hB;refine hB.setBlock ?_ _;rintro rfl;unfold ax at hB;unfold dW at h;rw[h] at hB
  cases hB
theorem zE(ht:P.underlying T=some (.map K E))(hk:P.underlying K=some (.int .i64))(h:dW w m l eo)(hn:dN l){k:Int}{v0:Value}(v:Value)(hf:cI l k=some v0) :
  ∃W,(Instr.mapUpdate T (.map (some m)) (UE UL k) v).run P w=.ok () W∧dW W m (gr l k v) eo∧(∀B vs T,ax w B vs T→ax W B vs T)∧Mod (fun k=>k=m) w W:=
 ⟨_,LA ht hk h hn hf,h.set _ _⟩
theorem zF(ht:P.underlying T=some (.map K E))(hk:P.underlying K=some (.int .i64))(h:dW w m l eo){k:Int}(v:Value)(hf:cI l k=none) :
  ∃W,(Instr.mapUpdate T (.map (some m)) (UE UL k) v).run P w=.ok () W∧dW W m (l++[(k,v,eo)]) (eo+1)∧(∀B vs T,ax w B vs T→ax W B vs T)∧Mod (fun k=>k=m) w W:=
 ⟨_,LD ht hk h hf,h.set _ _⟩
theorem Iz(ht:P.underlying T=some (.map K E))(hk:P.underlying K=some (.int .i64))(h:dW w m l eo)(hn:dN l)(ty:TypeId)(k:Int) :
  ∃W,(Builtin.delete_ #[T,K] ty #[.map (some m),UE UL k]).run P w=.ok (UK #[]) W∧dW W m (je l k) eo∧(∀B vs T,ax w B vs T→ax W B vs T)∧Mod (fun k=>k=m) w W:=
 ⟨_,LC ht hk h hn ty k,h.set _ _⟩
end
end
section
open Go.RowKit
structure Nd where
 no:Int
 dev:Int
 kind:Int
 mode:Int
 uid:Int
 gid:Int
 mtime:Int
 ctime:Int
 ak:Int
 up:Int
 data:ByteArray
 ea:Option Addr
 el:Nat
 ec:Nat
def Nd.v(n:Nd):Value:=UJ #[UE UL n.no,UE UL n.dev,UE UL n.kind,UE UL n.mode,UE UL n.uid,UE UL n.gid,UE UL n.mtime,UE UL n.ctime,UE UL n.ak,UE UL n.up,UF n.data,UG n.ea n.el n.ec]
def nd0:Nd:=⟨0,0,0,0,0,0,0,0,0,0,ByteArray.empty,none,0,0⟩
def iB(x:Nd×Nat):Int×Value×Nat:=(x.1.no,x.1.v,x.2)
def fZ(L:List (Nd×Nat))(k:Int):Option Nd:=(L.find? (fun x=>x.1.no==k)).map (·.1)
structure uK(w:World)(p m:Nat)(last:Int)(L:List (Nd×Nat))(eo:Nat):Prop where
 bD:ax w p #[.map (some m),UE UL last] 89
 map:dW w m (L.map iB) eo
 once:dN (L.map iB)
 low:∀x∈L,x.1.no≤last
theorem qj{L:List (Nd×Nat)}{last:Int}(h:∀x∈L,x.1.no≤last):cI (L.map iB) (last+1)=none:=by
 rw[gi,List.findIdx?_eq_none_iff];simp only[List.mem_map,forall_exists_index,and_imp];rintro _ x hx rfl;have:=h x hx;simp[iB];omega
theorem Nk(n:Nd)(w:World)(p m:Nat)(last:Int)(L:List (Nd×Nat))(eo:Nat)(hT:uK w p m last L eo)(fk:0≤last)(mT:last≤1000000) :
  Calls Tryz.prog 150 #[UH (some ⟨p,0,none⟩),n.v] w fun e w'=>e=.returned (UE UL (last+1))∧uK w' p m (last+1) (L++[({n with no:=last+1},eo)]) (eo+1)∧Mod (fun k=>k=p∨k=m) w w':=by
 obtain⟨pc,pf,pz⟩:=hT.bD.facts;have mz:=hT.map.lt;have hpm:p≠m:=by
  rintro rfl;have h1:=hT.bD;have h2:=hT.map;unfold ax at h1;unfold dW at h2;rw[h1] at h2
  cases h2
 have hfn:=qj hT.low;have pw:p≠w.heap.size:=by omega
 have wp':w.heap.size≠p:=by omega
 have hq:∀(w:World) (r:Option Nat),(binOp .eql 87 (.map r) (.map none)).run Tryz.prog w=.ok (.bool r.isNone) w:=fun w r=>run_eql_map_nil w _ _ _ r Tryz.underlying87;unfold Nd.v;go_enter Tryz.func150,Tryz.ntmps150;go_wp2_with fail;have b1:=(hT.bD.set 1 (UE UL (last+1))).bI (.cells #[UE UL (last+1),UE UL n.dev,UE UL n.kind,UE UL n.mode,UE UL n.uid,UE UL n.gid,UE UL n.mtime,UE UL n.ctime,UE UL n.ak,UE UL n.up,UF n.data,UG n.ea n.el n.ec] 149);have b2:=ax.new (w.setCell ⟨p,1,none⟩ (UE UL (last+1))) #[UE UL (last+1),UE UL n.dev,UE UL n.kind,UE UL n.mode,UE UL n.uid,UE UL n.gid,UE UL n.mtime,UE UL n.ctime,UE UL n.ak,UE UL n.up,UF n.data,UG n.ea n.el n.ec] 149;have b3:=(hT.map.setOther ⟨p,1,none⟩ (UE UL (last+1)) hpm).bI (.cells #[UE UL (last+1),UE UL n.dev,UE UL n.kind,UE UL n.mode,UE UL n.uid,UE UL n.gid,UE UL n.mtime,UE UL n.ctime,UE UL n.ak,UE UL n.up,UF n.data,UG n.ea n.el n.ec] 149);have b4:=((Mod.refl (fun k=>k=p∨k=m) w).setCell (a:=⟨p,1,none⟩) (.inl (.inl rfl)) (UE UL (last+1))).alloc (.cells #[UE UL (last+1),UE UL n.dev,UE UL n.kind,UE UL n.mode,UE UL n.uid,UE UL n.gid,UE UL n.mtime,UE UL n.ctime,UE UL n.ak,UE UL n.up,UF n.data,UG n.ea n.el n.ec] 149);rw[World.size_setCell] at b2;generalize World.alloc _ _=W at b1 b2 b3 b4⊢;obtain⟨pc',-,-⟩:=b1.facts;obtain⟨nc,-,-⟩:=b2.facts;obtain⟨W2,hrun,b5,b6,b7⟩:=zF (w:=W.drew) Tryz.underlying87 Tryz.underlying3 b3 (UJ #[UE UL (last+1),UE UL n.dev,UE UL n.kind,UE UL n.mode,UE UL n.uid,UE UL n.gid,UE UL n.mtime,UE UL n.ctime,UE UL n.ak,UE UL n.up,UF n.data,UG n.ea n.el n.ec]) hfn;obtain⟨nc2,-,-⟩:=(b6 _ _ _ b2).facts;clear pc pf
 go_region
 go_wp2_with fail;go_ret;refine⟨rfl,⟨b6 _ _ _ b1,by rw[List.map_append];exact b5,?_,?_⟩,(b4.drew).trans (b7.mono fun k hk=>.inr hk)⟩
 ·have:=hT.once;unfold dN at this⊢;rw[List.map_append,List.map_append,List.nodup_append];refine⟨this,by simp,?_⟩;simp only[List.mem_map,List.mem_cons,List.not_mem_nil,or_false,forall_exists_index,and_imp];rintro a y x hx rfl rfl b y' x' rfl rfl rfl;have:=hT.low x hx;simp only[iB];omega
 ·intro x hx;rcases List.mem_append.1 hx with hx|hx
  ·have:=hT.low x hx;omega
  ·simp only[List.mem_cons,List.not_mem_nil,or_false] at hx;subst hx;exact Int.le_refl _
theorem mg(L:List (Nd×Nat))(k:Int):cI (L.map iB) k=(fZ L k).map Nd.v:=by
 unfold cI fZ;rw[List.find?_map];have:(fun x:Int×Value×Nat=>x.1==k) ∘ iB=fun x:Nd×Nat=>x.1.no==k:=rfl;rw[this]
 cases List.find? (fun x:Nd×Nat=>x.1.no==k) L<;>rfl
theorem FO(w:World) :
  Calls Tryz.prog 122 #[] w fun e w'=>e=.returned (UH (some ⟨w.heap.size+1,0,none⟩))∧uK w' (w.heap.size+1) w.heap.size 0 [] 0∧UA w w':=by
 have hmm:=@run_makeMap Tryz.prog;go_enter Tryz.func122,Tryz.ntmps122
 go_wp2
 go_ret;refine⟨rfl,⟨?_,?_,List.nodup_nil,by simp⟩,by go_grown⟩
 ·have:=ax.new (w.alloc (.map #[] 0)) #[.map (some w.heap.size),UE UL 0] 89
  rwa [World.size_alloc] at this
 ·unfold dW;rw[Below.heap_alloc _ _ _ (by simp)];show(w.heap.push _)[w.heap.size]?=_;simp
theorem rR(n:Nd)(k:Int)(w:World)(p m:Nat)(last:Int)(L:List (Nd×Nat))(eo:Nat)(hT:uK w p m last L eo)(hf:fZ L k=some n) :
  Calls Tryz.prog 69 #[UH (some ⟨p,0,none⟩),UE UL k] w fun e w'=>e=.returned (UK #[n.v,.bool true])∧UA w w':=by
 obtain⟨pc,pf,pz⟩:=hT.bD.facts;have hr:∀o,(Instr.lookup 87 (.map (some m)) (UE UL k) true).run Tryz.prog (w.alloc o)=.ok (UK #[UJ #[UE UL n.no,UE UL n.dev,UE UL n.kind,UE UL n.mode,UE UL n.uid,UE UL n.gid,UE UL n.mtime,UE UL n.ctime,UE UL n.ak,UE UL n.up,UF n.data,UG n.ea n.el n.ec],.bool true]) (w.alloc o):=fun o=>
  sE Tryz.underlying87 Tryz.underlying3 (hT.map.bI o) (by rw[mg,hf];rfl)
 clear hf;unfold Nd.v;go_enter Tryz.func69,Tryz.ntmps69
 go_wp2
 go_returns
 exact⟨rfl,by go_grown⟩
theorem Ex(w:World):(zeroValue 149).run Tryz.prog w=.ok nd0.v w:=by kernel_rfl
theorem JX(k:Int)(w:World)(p m:Nat)(last:Int)(L:List (Nd×Nat))(eo:Nat)(hT:uK w p m last L eo)(hf:fZ L k=none) :
  Calls Tryz.prog 69 #[UH (some ⟨p,0,none⟩),UE UL k] w fun e w'=>e=.returned (UK #[nd0.v,.bool false])∧UA w w':=by
 obtain⟨pc,pf,pz⟩:=hT.bD.facts;have hr:∀o,(Instr.lookup 87 (.map (some m)) (UE UL k) true).run Tryz.prog (w.alloc o)=.ok (UK #[UJ #[UE UL 0,UE UL 0,UE UL 0,UE UL 0,UE UL 0,UE UL 0,UE UL 0,UE UL 0,UE UL 0,UE UL 0,UF ByteArray.empty,UG none 0 0],.bool false]) (w.alloc o):=fun o=>
  uO Tryz.underlying87 Tryz.underlying3 (hT.map.bI o) (by rw[mg,hf];rfl) (Ex _)
 clear hf;unfold Nd.v nd0;go_enter Tryz.func69,Tryz.ntmps69
 go_wp2
 go_returns
 exact⟨rfl,by go_grown⟩
end
section
open Go.RowKit
theorem uK.an{w w':World}{p m:Nat}{last:Int}{L:List (Nd×Nat)}{eo:Nat}(h:uK w p m last L eo)(hb:UA w w'):uK w' p m last L eo:=
 ⟨h.bD.an hb,h.map.an hb,h.once,h.low⟩
theorem uK.ne{w:World}{p m:Nat}{last:Int}{L:List (Nd×Nat)}{eo:Nat}(hT:uK w p m last L eo):p≠m:=by
 rintro rfl;have h1:=hT.bD;have h2:=hT.map;unfold ax at h1;unfold dW at h2;rw[h1] at h2
 cases h2
theorem ru{L:List (Nd×Nat)}{k:Int}(h:fZ L k=none):L.filter (fun x=>!(x.1.no==k))=L:=by
 unfold fZ at h;simp only[Option.map_eq_none_iff,List.find?_eq_none] at h;rw[List.filter_eq_self];intro x hx;simpa using h x hx
theorem tq(L:List (Nd×Nat))(k:Int):je (L.map iB) k=(L.filter fun x=>!(x.1.no==k)).map iB:=by
 unfold je;rw[List.filter_map];rfl
theorem tk(L:List (Nd×Nat))(n:Nd):gr (L.map iB) n.no n.v=(L.map fun x=>if x.1.no==n.no then(n,x.2) else x).map iB:=by
 unfold gr;rw[List.map_map,List.map_map];apply List.map_congr_left;intro x _;by_cases h:x.1.no=n.no<;>simp[iB,h]
theorem J8(n:Nd)(k:Int)(w:World)(p m:Nat)(last:Int)(L:List (Nd×Nat))(eo:Nat)(hT:uK w p m last L eo)(hf:fZ L k=some n) :
  Calls Tryz.prog 187 #[UH (some ⟨p,0,none⟩),UE UL k] w fun e w'=>e=.returned (.bool true)∧uK w' p m last (L.filter fun x=>!(x.1.no==k)) eo∧Mod (fun k=>k=p∨k=m) w w':=by
 have Hg:=Ux (fun w' SZ=>rR n k w' p m last L eo SZ hf);clear hf;go_enter Tryz.func187,Tryz.ntmps187;go_wp2_with fail;refine(Hg.o _ hT).mono ?_;unfold Nd.v;rintro e w1 ⟨rfl,av⟩;have JK:=(hT.an av).an ((UB w1).alloc (aa _) (.cells #[UE UL n.no,UE UL n.dev,UE UL n.kind,UE UL n.mode,UE UL n.uid,UE UL n.gid,UE UL n.mtime,UE UL n.ctime,UE UL n.ak,UE UL n.up,UF n.data,UG n.ea n.el n.ec] 149));obtain⟨pc,-,pz⟩:=(hT.an av).bD.facts;obtain⟨W2,hrun,b5,b6,b7⟩:=Iz Tryz.underlying87 Tryz.underlying3 JK.map JK.once 0 k
 go_wp2
 go_ret;refine⟨rfl,⟨b6 _ _ _ JK.bD,by rw[←tq];exact b5,?_,fun x hx=>hT.low x (List.mem_filter.1 hx).1⟩,((Mod.aq av).alloc _).trans (b7.mono fun k hk=>.inr hk)⟩;rw[←tq];unfold dN je;exact List.Nodup.sublist (List.Sublist.map _ List.filter_sublist) hT.once
theorem MZ(k:Int)(w:World)(p m:Nat)(last:Int)(L:List (Nd×Nat))(eo:Nat)(hT:uK w p m last L eo)(hf:fZ L k=none) :
  Calls Tryz.prog 187 #[UH (some ⟨p,0,none⟩),UE UL k] w fun e w'=>e=.returned (.bool false)∧uK w' p m last (L.filter fun x=>!(x.1.no==k)) eo∧Mod (fun k=>k=p∨k=m) w w':=by
 rw[ru hf];have Hg:=Ux (fun w' SZ=>JX k w' p m last L eo SZ hf);clear hf;go_enter Tryz.func187,Tryz.ntmps187;go_wp2_with fail;refine(Hg.o _ hT).mono ?_;unfold Nd.v nd0;rintro e w1 ⟨rfl,av⟩
 go_wp2
 go_ret;exact⟨rfl,hT.an (ao av _),(Mod.aq av).alloc _⟩
theorem Lr(n0 n:Nd)(w:World)(p m:Nat)(last:Int)(L:List (Nd×Nat))(eo:Nat)(hT:uK w p m last L eo)(hf:fZ L n.no=some n0) :
  Calls Tryz.prog 117 #[UH (some ⟨p,0,none⟩),n.v] w fun e w'=>e=.returned (.bool true)∧uK w' p m last (L.map fun x=>if x.1.no==n.no then(n,x.2) else x) eo∧Mod (fun k=>k=p∨k=m) w w':=by
 have Hg:=Ux (fun w' SZ=>rR n0 n.no w' p m last L eo SZ hf);have Hf:=Ux (show cI (L.map iB) n.no=some n0.v by rw[mg,hf];rfl);clear hf;have hpm:=hT.ne;have pw:p≠w.heap.size:=by have:=hT.bD.lt;omega
 unfold Nd.v;go_enter Tryz.func117,Tryz.ntmps117;go_wp2_with fail;refine(Hg.o _ (hT.an ((Below.refl _ _).alloc (aa _) _))).mono ?_;unfold Nd.v;rintro e w1 ⟨rfl,av⟩;go_wp2_with fail;have b1:=(((hT.bD.bI (.cells #[UE UL n.no,UE UL n.dev,UE UL n.kind,UE UL n.mode,UE UL n.uid,UE UL n.gid,UE UL n.mtime,UE UL n.ctime,UE UL n.ak,UE UL n.up,UF n.data,UG n.ea n.el n.ec] 149)).an av).bI (.cells #[UE UL n0.no,UE UL n0.dev,UE UL n0.kind,UE UL n0.mode,UE UL n0.uid,UE UL n0.gid,UE UL n0.mtime,UE UL n0.ctime,UE UL n0.ak,UE UL n0.up,UF n0.data,UG n0.ea n0.el n0.ec] 149)).drew;have b2:=(((ax.new w #[UE UL n.no,UE UL n.dev,UE UL n.kind,UE UL n.mode,UE UL n.uid,UE UL n.gid,UE UL n.mtime,UE UL n.ctime,UE UL n.ak,UE UL n.up,UF n.data,UG n.ea n.el n.ec] 149).an av).bI (.cells #[UE UL n0.no,UE UL n0.dev,UE UL n0.kind,UE UL n0.mode,UE UL n0.uid,UE UL n0.gid,UE UL n0.mtime,UE UL n0.ctime,UE UL n0.ak,UE UL n0.up,UF n0.data,UG n0.ea n0.el n0.ec] 149)).drew;have JK:=((hT.an ((Below.refl _ _).alloc (aa _) _)).an av).an ((UB w1).alloc (aa _) (.cells #[UE UL n0.no,UE UL n0.dev,UE UL n0.kind,UE UL n0.mode,UE UL n0.uid,UE UL n0.gid,UE UL n0.mtime,UE UL n0.ctime,UE UL n0.ak,UE UL n0.up,UF n0.data,UG n0.ea n0.el n0.ec] 149));have b4:Mod (fun k=>k=p∨k=m) w (w1.alloc (.cells #[UE UL n0.no,UE UL n0.dev,UE UL n0.kind,UE UL n0.mode,UE UL n0.uid,UE UL n0.gid,UE UL n0.mtime,UE UL n0.ctime,UE UL n0.ak,UE UL n0.up,UF n0.data,UG n0.ea n0.el n0.ec] 149)):=(((Mod.refl _ w).alloc _).trans (.aq av)).alloc _;clear av;generalize w1.alloc _=W at b1 b2 JK b4⊢;obtain⟨pc',-,-⟩:=b1.facts;obtain⟨nc,-,-⟩:=b2.facts;obtain⟨W2,hrun,b5,b6,b7⟩:=zE (w:=W.drew) Tryz.underlying87 Tryz.underlying3 JK.map JK.once (UJ #[UE UL n.no,UE UL n.dev,UE UL n.kind,UE UL n.mode,UE UL n.uid,UE UL n.gid,UE UL n.mtime,UE UL n.ctime,UE UL n.ak,UE UL n.up,UF n.data,UG n.ea n.el n.ec]) Hf.o
 go_region
 go_wp2_with fail;go_ret;refine⟨rfl,⟨b6 _ _ _ JK.bD,by rw[←tk];exact b5,?_,?_⟩,(b4.drew).trans (b7.mono fun k hk=>.inr hk)⟩
 ·have:=hT.once;rw[←tk];unfold dN at this⊢;unfold gr;rw[List.map_map,List.map_congr_left (g:=fun x=>x.1)]
  ·exact this
  ·intro x _;simp only[Function.comp]
   split
   ·rename_i h;simpa using (beq_iff_eq.1 h).symm
   ·rfl
 ·intro x hx;obtain⟨y,hy,rfl⟩:=List.mem_map.1 hx;have:=hT.low y hy
  split
  ·rename_i h;have:=beq_iff_eq.1 h;simp only;omega
  ·exact this
end
section
open Go.RowKit
theorem yo(L:List (Nd×Nat))(k:Int):(∃n,fZ L k=some n)∨fZ L k=none:=by
 cases h:fZ L k with
 |none=>exact .inr rfl
 |some n=>exact .inl ⟨n,rfl⟩
theorem J9(k:Int)(w:World)(p m:Nat)(last:Int)(L:List (Nd×Nat))(eo:Nat)(hT:uK w p m last L eo) :
  Calls Tryz.prog 187 #[UH (some ⟨p,0,none⟩),UE UL k] w fun e w'=>e=.returned (.bool (fZ L k).isSome)∧uK w' p m last (L.filter fun x=>!(x.1.no==k)) eo∧Mod (fun k=>k=p∨k=m) w w':=by
 rcases yo L k with⟨n,h⟩|h
 ·rw[h];exact J8 n k w p m last L eo hT h
 ·rw[h];exact MZ k w p m last L eo hT h
def BytesAt(w:World)(a:Option Addr)(len cap:Nat)(zs:List Int):Prop:=
 (a=none∧len=0∧cap=0∧zs=[])∨(∃b off:Nat,a=some ⟨b,off,none⟩∧len≤cap∧cap≤9223372036854775807∧zs.length=cap∧∀j,j<cap→b<w.heap.size∧w.cell? ⟨b,off+j,none⟩=some (UE .u8 (zs.getD j 0))∧0≤zs.getD j 0∧zs.getD j 0≤255)
end
section
open Go.RowKit
def cP(x:En):List Value:=[UF x.name,UE UL x.no]
theorem cp(x:En):(cP x).length=2:=rfl
def Tv(cs:List Value)(x:En):Prop:=cs=cP x
structure aA(w:World)(a:Option Addr)(n c:Nat)(es:List En):Prop where
 sl:bF w 2 Tv a n c es
 bD:∀p,a=some p→∃b off cur,p=⟨b,off,none⟩∧w.heap[b]?=some (.cells cur 98 (0,0))
theorem aA.nil(w:World):aA w none 0 0 []:=⟨⟨rfl,aa _,by omega,.inl rfl⟩,fun p h=>by cases h⟩
theorem aA.len{w:World}{a:Option Addr}{n c:Nat}{es:List En}(h:aA w a n c es):es.length=n:=h.sl.1
theorem aA.gw{w w':World}{a:Option Addr}{n c:Nat}{es:List En}(h:aA w a n c es)(ht:∀(b:Nat) (cur:Array Value),w.heap[b]?=some (.cells cur 98 (0,0))→w'.heap[b]?=w.heap[b]?)(hs:w.heap.size≤w'.heap.size):aA w' a n c es:=by
 refine⟨⟨h.sl.1,h.sl.2.1,h.sl.2.2.1,h.sl.2.2.2.imp id ?_⟩,fun p hp=>?_⟩
 ·rintro⟨b,off,rfl,hb,hel⟩;obtain⟨b',off',cur,e,hblk⟩:=h.bD _ rfl;injection e with e1 e2;subst e1 e2;refine⟨b,off,rfl,Nat.lt_of_lt_of_le hb hs,fun i hi=>?_⟩;obtain⟨cs,h1,h2,h3⟩:=hel i hi;refine⟨cs,h1,h2,fun j hj=>?_⟩;rw[←h3 j hj];simp only[World.cell?,ht _ _ hblk]
 ·obtain⟨b,off,cur,e,hblk⟩:=h.bD p hp;exact⟨b,off,cur,e,(ht _ _ hblk).trans hblk⟩
theorem aA.an{w w':World}{a:Option Addr}{n c:Nat}{es:List En}(h:aA w a n c es)(hb:UA w w'):aA w' a n c es:=
 h.gw (fun b cur hc=>hb.block b (Array.getElem?_eq_some_iff.1 hc).1) hb.size
theorem aA.nC{w w':World}{a:Option Addr}{n c N:Nat}{es:List En}(h:aA w a n c es)(hb:Below N w w')(hN:w.heap.size≤N):aA w' a n c es:=
 h.gw (fun b cur hc=>hb.block b (Nat.lt_of_lt_of_le (Array.getElem?_eq_some_iff.1 hc).1 hN)) hb.size
theorem aA.cell{w:World}{b off n c:Nat}{es:List En}(h:aA w (some ⟨b,off,none⟩) n c es)(k:Nat)(hk:k<es.length) :
  w.cell? ⟨b,off+k*2,none⟩=some (UF es[k].name)∧w.cell? ⟨b,off+k*2+1,none⟩=some (UE UL es[k].no):=by
 obtain⟨hl,-,-,h0|⟨b',off',he,hb,hel⟩⟩:=h.sl
 ·omega
 ·injection he with he;injection he with e1 e2;subst e1 e2;obtain⟨cs,h1,h2,h3⟩:=hel k hk;subst h2;exact⟨h3 0 (by rw[cp];omega),h3 1 (by rw[cp];omega)⟩
theorem aA.ej{w:World}{a:Option Addr}{n c:Nat}{es:List En}(h:aA w a n c es)(hn:0<n):∃b off,a=some ⟨b,off,none⟩∧b<w.heap.size:=by
 obtain⟨-,-,-,h0|⟨b',off',he,hb,-⟩⟩:=h.sl
 ·omega
 ·exact⟨b',off',he,hb⟩
def An.v(a:An)(ea:Option Addr)(el ec:Nat):Value:=UJ #[UE UL a.no,UE UL a.dev,UE UL a.kind,UE UL a.mode,UE UL a.uid,UE UL a.gid,UE UL a.mtime,UE UL a.ctime,UE UL a.ak,UE UL a.up,UF a.data,UG ea el ec]
def An.nd(a:An)(ea:Option Addr)(el ec:Nat):Nd:=⟨a.no,a.dev,a.kind,a.mode,a.uid,a.gid,a.mtime,a.ctime,a.ak,a.up,a.data,ea,el,ec⟩
structure Gn where
 a:An
 ea:Option Addr
 el:Nat
 ec:Nat
 eo:Nat
def Gn.nd(g:Gn):Nd:=g.a.nd g.ea g.el g.ec
def Gn.e(g:Gn):Nd×Nat:=(g.nd,g.eo)
def Dv.cs(d:Dv):List Value:=[UE UL d.root,UE UL d.aB,UE UL d.b,UE UL d.n,UE UL d.mb,UE UL d.mn]
theorem Dv.gu(d:Dv):d.cs.length=6:=rfl
structure Rp where
 pt:Nat
 pm:Nat
 dv:Value
 G:List Gn
 eo:Nat
def Rp.F(R:Rp)(pw:Nat)(k:Nat):Prop:=k=pw∨k=R.pt∨k=R.pm∨R.dv.ownBlock=some k
structure bB(w:World)(pw:Nat)(R:Rp)(S:Fs):Prop where
 bD:ax w pw #[UH (some ⟨R.pt,0,none⟩),R.dv] 46
 tab:uK w R.pt R.pm S.last (R.G.map Gn.e) R.eo
 fJ:w.ownsRow 0 194 6 R.dv S.ds.length (S.ds.flatMap Dv.cs)
 ns:S.ns=R.G.map (·.a)
 au:∀g∈R.G,aA w g.ea g.el g.ec g.a.au
structure aS(F F':Nat→Prop)(w w':World):Prop where
 mod:Mod F w w'
 new:∀k,F' k→F k∨w.heap.size≤k
theorem aS.aq{F:Nat→Prop}{w w':World}(h:UA w w'):aS F F w w':=⟨Mod.aq h,fun _ h=>.inl h⟩
theorem aS.dH{F:Nat→Prop}{w w':World}(h:Mod F w w'):aS F F w w':=⟨h,fun _ h=>.inl h⟩
theorem aS.trans{F F' F'':Nat→Prop}{w w' w'':World}(h:aS F F' w w')(k:aS F' F'' w' w''):aS F F'' w w'':=
 ⟨⟨k.mod.os.trans h.mod.os,k.mod.tape.trans h.mod.tape,k.mod.output.trans h.mod.output,ae h.mod.size k.mod.size,fun i hi hs=>
   (k.mod.block i (Nat.lt_of_lt_of_le hi h.mod.size) (fun h'=>(h.new i h').elim hs (fun hlt=>by omega))).trans (h.mod.block i hi hs)⟩,
  fun i hi=>(k.new i hi).elim (fun h'=>h.new i h') (fun hlt=>.inr (ae h.mod.size hlt))⟩
theorem aS.below{F F':Nat→Prop}{w w':World}{N:Nat}(h:aS F F' w w')(hF:∀k,F k→N≤k)(hN:N≤w.heap.size):Below N w w':=h.mod.below hF hN
theorem aS.bl{F F':Nat→Prop}{w w':World}{N:Nat}(h:aS F F' w w')(hF:∀k,F k→N≤k)(hN:N≤w.heap.size):∀k,F' k→N≤k:=
 fun k hk=>(h.new k hk).elim (hF k) (fun h'=>ae hN h')
def jd(o:Obj):Bool:=match o with
 | .cells _ t _=>t==46||t==89||t==194
 | .map _ _=>true
 |_=>false
section
variable{w w':World}{pw:Nat}{R:Rp}{S:Fs}
theorem bB.kind(h:bB w pw R S){k:Nat}(hk:R.F pw k):∃o,w.heap[k]?=some o∧jd o=true:=by
 rcases hk with rfl|rfl|rfl|hk
 ·exact⟨_,h.bD,rfl⟩
 ·exact⟨_,h.tab.bD,rfl⟩
 ·exact⟨_,h.tab.map,rfl⟩
 ·rcases h.fJ.2 with⟨h1,-⟩|⟨g,cap,cur,h1,-,hg,-⟩
  ·rw[h1] at hk;cases hk
  ·rw[h1] at hk;simp only[Value.ownBlock,Option.some.injEq] at hk;subst hk;exact⟨_,hg,rfl⟩
theorem aA.wd{a:Option Addr}{n c:Nat}{es:List En}(he:aA w a n c es)(h:bB w pw R S){F':Nat→Prop}(hs:aS (R.F pw) F' w w'):aA w' a n c es:=
 he.gw (fun b cur hc=>hs.mod.block b (Array.getElem?_eq_some_iff.1 hc).1 (fun hk=>by
  obtain⟨o,ho,hd⟩:=h.kind hk;rw[hc] at ho;injection ho with ho;subst ho;rw[show jd (.cells cur 98 (0,0))=false from rfl] at hd
  cases hd)) hs.mod.size
theorem ax.wd{B:Nat}{vs:Array Value}{T:TypeId}(hb:ax w B vs T)(h:bB w pw R S){F':Nat→Prop}(hs:aS (R.F pw) F' w w')(hT:jd (.cells #[] T (0,0))=false):ax w' B vs T:=
 hb.mod hs.mod (fun hk=>by
  obtain⟨o,ho,hd⟩:=h.kind hk;unfold ax at hb;rw[hb] at ho;injection ho with ho;subst ho;rw[show jd (.cells vs T (0,0))=jd (.cells #[] T (0,0)) from rfl,hT] at hd
  cases hd)
theorem bB.gw(h:bB w pw R S)(ht:∀(k:Nat) (o:Obj),w.heap[k]?=some o→(jd o=true∨∃cur,o=.cells cur 98 (0,0))→w'.heap[k]?=w.heap[k]?)(hs:w.heap.size≤w'.heap.size):bB w' pw R S where
 bD:=(ht _ _ h.bD (.inl rfl)).trans h.bD
 tab:=⟨(ht _ _ h.tab.bD (.inl rfl)).trans h.tab.bD,(ht _ _ h.tab.map (.inl rfl)).trans h.tab.map,h.tab.once,h.tab.low⟩
 fJ:=⟨h.fJ.1,h.fJ.2.imp id fun⟨g,cap,cur,h1,h2,hg,h3⟩=>⟨g,cap,cur,h1,h2,(ht _ _ hg (.inl rfl)).trans hg,h3⟩⟩
 ns:=h.ns
 au:=fun g hg=>(h.au g hg).gw (fun b cur hc=>ht _ _ hc (.inr ⟨cur,rfl⟩)) hs
theorem bB.an(h:bB w pw R S)(hb:UA w w'):bB w' pw R S:=
 h.gw (fun k o ho _=>hb.block k (Array.getElem?_eq_some_iff.1 ho).1) hb.size
theorem bB.mod(h:bB w pw R S){F:Nat→Prop}(hm:Mod F w w')(hF:∀(k:Nat) (o:Obj),F k→w.heap[k]?=some o→jd o=false∧∀cur,o≠.cells cur 98 (0,0)):bB w' pw R S:=
 h.gw (fun k o ho hk=>hm.block k (Array.getElem?_eq_some_iff.1 ho).1 (fun hf=>by
  obtain⟨h1,h2⟩:=hF k o hf ho;rcases hk with hk|⟨cur,hk⟩
  ·rw[h1] at hk;cases hk
  ·exact h2 cur hk)) hm.size
theorem AX(G:List Gn)(k:Int):fZ (G.map Gn.e) k=(G.find? (fun g=>g.a.no==k)).map Gn.nd:=by
 unfold fZ;rw[List.find?_map];have:(fun x:Nd×Nat=>x.1.no==k) ∘ Gn.e=fun g:Gn=>g.a.no==k:=rfl;rw[this,Option.map_map];rfl
theorem Of(h:bB w pw R S)(k:Int):S.get k=(R.G.find? (fun g=>g.a.no==k)).map (·.a):=by
 unfold Fs.get;rw[h.ns,List.find?_map];rfl
end
end
section
open Go.RowKit
structure DvC(w:World)(g o:Nat)(d:Dv):Prop where
 c0:w.cell? ⟨g,o,none⟩=some (UE UL d.root)
 c1:w.cell? ⟨g,o+1,none⟩=some (UE UL d.aB)
 c2:w.cell? ⟨g,o+2,none⟩=some (UE UL d.b)
 c3:w.cell? ⟨g,o+3,none⟩=some (UE UL d.n)
 c4:w.cell? ⟨g,o+4,none⟩=some (UE UL d.mb)
 c5:w.cell? ⟨g,o+5,none⟩=some (UE UL d.mn)
def dvQ(cs:List Value)(d:Dv):Prop:=cs=d.cs
section
variable{w w':World}{pw:Nat}{R:Rp}{S:Fs}
theorem bB.lS(h:bB w pw R S)(hd:0<S.ds.length):∃g cap,R.dv=.slice (some ⟨g,0,none⟩) S.ds.length cap∧S.ds.length≤cap∧cap≤9223372036854775807∧g<w.heap.size∧
  (∀(i:Nat) (hi:i<S.ds.length),DvC w g (i*6) S.ds[i])∧(∀i,w.frozen? ⟨g,i,none⟩=false)∧∃cur,ax w g cur 194:=by
 have h0:=h.fJ;obtain⟨a,cap,hv,hle,zd,hf⟩:=bQ h0;rcases hf with⟨-,h1,-⟩|⟨g,rfl,-,hg⟩
 ·omega
 ·rw[hv] at h0;obtain⟨-,-,-,h1|⟨b,off,he,hb,hel⟩⟩:=fe (R:=dvQ) (by omega) Dv.gu (fun _=>rfl) h0
  ·omega
  ·injection he with he;injection he with e1 e2;subst e1 e2;obtain⟨cur,hcur⟩:∃cur,ax w g cur 194:=by
    rcases h0.2 with⟨h1,-⟩|⟨g',cap',cur,h1,-,hg',-⟩
    ·cases h1
    ·injection h1 with h1;injection h1 with h1;injection h1 with h1;subst h1;exact⟨cur,hg'⟩
   refine⟨g,cap,hv,hle,zd,hg,fun i hi=>?_,hcur.frozen,cur,hcur⟩;obtain⟨cs,h2,h3,h4⟩:=hel i hi;subst h3;have e:∀j (hj:j<6),w.cell? ⟨g,i*6+j,none⟩=some (S.ds[i].cs[j]'(by rw[Dv.gu];exact hj)):=fun j hj=>by
    have:=h4 j (by rw[Dv.gu];exact hj);rw[Nat.zero_add] at this;exact this
   exact⟨e 0 (by omega),e 1 (by omega),e 2 (by omega),e 3 (by omega),e 4 (by omega),e 5 (by omega)⟩
theorem iy(h:bB w pw R S)(hd:0<S.ds.length) :
  Calls Tryz.prog 99 #[UH (some ⟨pw,0,none⟩)] w fun e w'=>e=.returned (.bool false)∧w=w':=by
 obtain⟨g,cap,hv,-,-,-,-,-,-⟩:=h.lS hd;obtain⟨pc,-,-⟩:=h.bD.facts;rw[hv] at pc;have hz:¬((S.ds.length:Int)=0):=by omega
 have fo:((S.ds.length:Int)==0)=false:=by simpa using hz
 generalize S.ds.length=n at pc hz fo;clear h hv hd;go_enter Tryz.func99,Tryz.ntmps99
 go_wp2
 go_ret;exact⟨rfl,rfl⟩
theorem iA(h:bB w pw R S)(hd:0<S.ds.length) :
  Calls Tryz.prog 68 #[UH (some ⟨pw,0,none⟩)] w fun e w'=>e=.returned (UE UL S.ds.length)∧w=w':=by
 have HN:=Ux (iy h hd);obtain⟨g,cap,hv,-,-,-,-,-,-⟩:=h.lS hd;obtain⟨pc,-,-⟩:=h.bD.facts;rw[hv] at pc;generalize S.ds.length=n at pc⊢;clear h hv hd;go_enter Tryz.func68,Tryz.ntmps68;go_wp2_with fail;refine HN.o.mono ?_;rintro e w1 ⟨rfl,rfl⟩
 go_wp2
 go_ret;exact⟨rfl,rfl⟩
theorem fK(h:bB w pw R S)(hd:0<S.ds.length)(d:Int) :
  Calls Tryz.prog 59 #[UH (some ⟨pw,0,none⟩),UE UL d] w fun e w'=>e=.returned (UE UL (S.root d))∧w=w':=by
 have HN:=Ux (iy h hd);obtain⟨g,cap,hv,hle,zd,hg,hc,-,-⟩:=h.lS hd;obtain⟨pc,-,-⟩:=h.bD.facts;rw[hv] at pc;clear h hv;by_cases h1:1≤d
 ·by_cases h2:d≤S.ds.length
  ·obtain⟨k,rfl⟩:∃k:Nat,d=(k:Int)+1:=⟨(d-1).toNat,by omega⟩;have hk:k<S.ds.length:=by omega
   have hr:S.root ((k:Int)+1)=S.ds[k].root:=by
    unfold Fs.root;rw[if_pos ⟨h1,h2⟩,show((k:Int)+1-1).toNat=k by omega,List.getElem?_eq_getElem hk]
   rw[hr];have hcc:=(hc _ hk).c0;clear hc hr;generalize S.ds[k]=v at hcc⊢;generalize S.ds.length=n at pc hle h2 hk hd;go_enter Tryz.func59,Tryz.ntmps59;go_wp2_with fail;refine HN.o.mono ?_;rintro e w1 ⟨rfl,rfl⟩
   go_wp2
   go_ret;exact⟨rfl,rfl⟩
  ·rw[mL (by omega)];have kR:(S.ds.length:Int)<d:=by omega
   clear hc;generalize S.ds.length=n at pc hle h2 kR hd;go_enter Tryz.func59,Tryz.ntmps59;go_wp2_with fail;refine HN.o.mono ?_;rintro e w1 ⟨rfl,rfl⟩
   go_wp2
   go_ret;exact⟨rfl,rfl⟩
 ·rw[mL (by omega)];have o8:d<1:=by omega
  clear hc;generalize S.ds.length=n at pc hle hd;go_enter Tryz.func59,Tryz.ntmps59;go_wp2_with fail;refine HN.o.mono ?_;rintro e w1 ⟨rfl,rfl⟩
  go_wp2
  go_ret;exact⟨rfl,rfl⟩
end
end
section
open Go
theorem eQ{P:Program}{fn:Func}{R:Ending→World→Prop}{K:Act→World→Prop}:∀c d v a w,Exit.then K (bodyPost P fn R) (.panic c) (Act.put a d v) w→Exit.then K (bodyPost P fn R) (.panic c) a w:=
 fun c d v a w h=>by
  have h':(Act.put a d v).defers=[]∧R (.panicked c) w:=h;exact show a.defers=[]∧R (.panicked c) w from⟨by rw[←h'.1];cases d<;>rfl,h'.2⟩
def Cz:Op→Bool
 | .move _=>true
 | .assign _=>true
 | .extract _ _=>true
 |_=>false
section
variable{P:Program}{ops:Array Oper}{md:Region.Mode}{Q:Exit→Act→World→Prop}
theorem Ae{o:Oper}(hp:Cz o.op=true){w:World}{K:Act→World→Prop}{a:Act}(h:o.wp P a w K Q∨(o.asks P a w∧LetsOut Q)) :
  ∃v,(∀w',(execOp a.eval o).run P w'=.ok (.value v) w')∧K (a.put o.dst v) w:=by
 have key:∀v,(∀w',(execOp a.eval o).run P w'=.ok (.value v) w')→((execOp a.eval o).runT P w #[]).2=#[]→∃v,(∀w',(execOp a.eval o).run P w'=.ok (.value v) w')∧K (a.put o.dst v) w:=by
  intro v hr ht;refine⟨v,hr,?_⟩;rcases h with h|h
  ·unfold Oper.wp at h;rw[hr] at h;exact h
  ·have:=h.1.1;rw[ht] at this;simp at this
 have bad:(∀w',∃m,(execOp a.eval o).run P w'=.halt (.stuck m) w')→((execOp a.eval o).runT P w #[]).2=#[]→∃v,(∀w',(execOp a.eval o).run P w'=.ok (.value v) w')∧K (a.put o.dst v) w:=by
  intro hr ht;rcases h with h|h
  ·obtain⟨m,hm⟩:=hr w;unfold Oper.wp at h;rw[hm] at h;exact h.elim
  ·have:=h.1.1;rw[ht] at this;simp at this
 unfold Cz at hp
 split at hp
 ·rename_i x hx;exact key (a.eval x) (fun w'=>by simp[execOp,hx]) (by simp only[execOp,hx];rfl)
 ·rename_i x hx;exact key (a.eval x) (fun w'=>by simp[execOp,hx]) (by simp only[execOp,hx];rfl)
 ·rename_i t ix hx
  cases ht:a.eval t with
  |tuple vs=>
   cases hv:vs[ix]? with
   |some v=>exact key v (fun w'=>by simp[execOp,hx,Instr.extract,ht,hv]) (by simp only[execOp,hx,Instr.extract,ht,hv];rfl)
   |none=>exact bad (fun w'=>⟨_,by simp only[execOp,hx,Instr.extract,ht,hv];rfl⟩) (by simp only[execOp,hx,Instr.extract,ht,hv];rfl)
  |_=>exact bad (fun w'=>⟨_,by simp only[execOp,hx,Instr.extract,ht];rfl⟩) (by simp only[execOp,hx,Instr.extract,ht];rfl)
 ·cases hp
def wm(md:Region.Mode)(ops:Array Oper):Nat→Nat→Array Bool→Bool
 |0,_,listed=>(Region.ready md ops listed).isEmpty
 |g+1,k,listed=>
  (decide (Region.ready md ops listed=[k])||(match ops[k]? with
   |some o=>Cz o.op&&o.guard.isNone&&(Region.ready md ops listed).contains k&&Region.free md ops listed k
   |none=>false))&&wm md ops g (k+1) (listed.setIfInBounds k true)
theorem EI{o:Oper}{T:Nat→Option Bool}(h:o.guard.isNone=true):Region.wanted o T=true:=by
 simp[Region.wanted,Option.isNone_iff_eq_none.1 h]
theorem qx(hsel:Region.noSelect ops=true)(hQ:∀c d v a w,Q (.panic c) (Act.put a d v) w→Q (.panic c) a w):∀(l:List Oper) (k:Nat) (listed:Array Bool) (a:Act) (w:World),(∀j,l[j]?=ops[k+j]?)→
  wm md ops l.length k listed=true→wpList P ops Q l a w→wpAnyH P md ops Q (fun _=>True) l.length listed a w
 | [],_,_,_,_,_,hB,h=>⟨by simpa [wm] using hB,h⟩
 |o::l,k,listed,a,w,hl,hB,h=>by
  have h0:ops[k]?=some o:=by simpa using (hl 0).symm
  have hl':∀j,l[j]?=ops[k+1+j]?:=fun j=>by have:=hl (j+1);simpa [Nat.add_assoc,Nat.add_comm 1 j] using this
  simp only[List.length_cons,wm,Bool.and_eq_true,Bool.or_eq_true,decide_eq_true_eq,h0] at hB;rcases hB.1 with h1|⟨⟨⟨hp,hg⟩,hr⟩,hf⟩
  ·refine⟨fun h2=>(by rw[h2] at h1;cases h1),fun i hi=>?_⟩;rw[h1] at hi;have hik:i=k:=by simpa using hi
   subst hik;have hw:wpOp P ops Q i (wpList P ops Q l) a w:=by unfold wpOp;simp only[h0];exact h
   exact wpOp_mono (fun a' w' h'=>⟨trivial,qx hsel hQ l (i+1) _ a' w' hl' hB.2 h'⟩) hw
  ·have hw:Region.wanted o (yielded ops a.tmps)=true:=EI hg;unfold wpList at h;rw[if_pos hw] at h;obtain⟨v,hy,hK⟩:=Ae hp h;exact wpAnyH_take h0 hsel hf hr (fun c a w hq=>hQ c _ _ a w hq) (.inl ⟨hw,fun w' _=>hy w'⟩) trivial (qx hsel hQ l (k+1) _ _ w hl' hB.2 hK)
def rT(md:Region.Mode)(ops:Array Oper)(n:Nat):Bool:=
 (List.range ops.size).all fun t=>decide (t≤n)||(List.range t).any fun j=>decide (n≤j)&&Region.waitsFor md ops t j
theorem zD{n:Nat}{listed:Array Bool}(hs:Region.sinkB md ops n=true)(hc:rT md ops n=true)(hn:n<ops.size)(inv:HeadInv md ops n listed){i:Nat}(hi:i<n)(hun:listed.getD i true=false) :
  ∀t,n≤t→t∉Region.ready md ops listed:=by
 have low:∀(d i:Nat),n-i=d→i<n→listed.getD i true=false→n∉Region.ready md ops listed:=by
  intro d
  induction d using Nat.strongRecOn with
  |_ d ih=>
   intro i hd hi hun hr;obtain⟨-,on,hon,hall⟩:=mem_ready.1 hr;obtain⟨j,hj,Ml⟩:=List.any_eq_true.1 (List.all_eq_true.1 hs i (List.mem_range.2 hi));simp only[Bool.and_eq_true,decide_eq_true_eq] at Ml;obtain⟨oj,hoj,e,he,hb,hei⟩:=Region.waitsFor_spec Ml.2;have hjn:j≤n:=by have:=List.mem_range.1 hj;omega
   have hno:listed.getD i false=false:=getD_both hun;rcases Nat.lt_or_ge j n with hlt|hge
   ·cases hl:listed.getD j false with
    |true=>
     have:=inv.closed j oj hoj hl e he hb;rw[hei,hno] at this
     cases this
    |false=>exact ih (n-j) (by omega) j rfl hlt (getD_in (by rw[inv.size];omega) hl) hr
   ·obtain rfl:j=n:=by omega
    obtain rfl:oj=on:=Option.some.inj (hoj.symm.trans hon);have:=hall e he hb;rw[hei,hno] at this
    cases this
 intro t ht hr;rcases Nat.eq_or_lt_of_le ht with rfl|hlt
 ·exact low _ i rfl hi hun hr
 ·obtain⟨-,ot,hot,hall⟩:=mem_ready.1 hr;have htl:t<ops.size:=(Array.getElem?_eq_some_iff.1 hot).1;have h1:=List.all_eq_true.1 hc t (List.mem_range.2 htl);simp only[Bool.or_eq_true,decide_eq_true_eq] at h1;rcases h1 with h1|h1
  ·omega
  ·obtain⟨j,hj,Ml⟩:=List.any_eq_true.1 h1;simp only[Bool.and_eq_true,decide_eq_true_eq] at Ml;obtain⟨o',ho',e,he,hb,hej⟩:=Region.waitsFor_spec Ml.2;obtain rfl:o'=ot:=Option.some.inj (ho'.symm.trans hot);have:=hall e he hb;rw[hej,getD_both (inv.tail j Ml.1 (by have:=List.mem_range.1 hj;omega))] at this
   cases this
variable{w:World}
theorem qZ{n i:Nat}{oi:Oper}{v:Value}{L:Array Bool→Act→Prop}(hi:ops[i]?=some oi)(hsel:Region.noSelect ops=true)
  (hs:Region.sinkB md ops n=true) (hc:rT md ops n=true) (hn:n<ops.size) (hin:i<n) (hdone:∀listed a,L listed a→∀j∈Region.ready md ops listed,n≤j) :
  ∀(f:Nat) (listed:Array Bool) (a:Act),HeadInv md ops n listed→
   (∀j oj,ops[j]?=some oj→j≠i→listed.getD j true=false→(∀e∈oj.after,Region.binds md e=true→e.on≠i)→oi.apart ops oj=true)→
   i∈Region.ready md ops listed→YieldsAt P ops w oi v a→wpAnyL P md ops w n L f (listed.setIfInBounds i true) (a.put oi.dst v)→wpAnyL P md ops w n L (f+1) listed a
 |f,listed,a,inv,hfree,hr,hy,H=>by
  have hun:=(mem_ready.1 hr).1;have hlow:∀j∈Region.ready md ops listed,j<n:=fun j hj=>Nat.lt_of_not_le fun h=>zD hs hc hn inv hin hun j h hj;refine⟨List.ne_nil_of_mem hr,fun j hj=>⟨hlow j hj,?_⟩⟩;by_cases hji:j=i
  ·subst hji;exact hy.stOp hi H
  ·cases f with
   |zero=>exact absurd (hdone _ _ H j (ready_mono hj hji)) (Nat.not_le_of_lt (hlow j hj))
   |succ f=>
    have h1:=(H.2 j (ready_mono hj hji)).2;obtain⟨hjun,oj,hoj,hall⟩:=mem_ready.1 hj;have hnot:∀e∈oj.after,Region.binds md e=true→e.on≠i:=fun e he hb heq=>by
     have h2:=hall e he hb;rw[heq,getD_both hun] at h2
     cases h2
    refine stOp_mono (fun a' h3=>?_) (stOp_put hoj (hfree j oj hoj hji hjun hnot) (fun cs b=>Region.noSelect_spec hsel i oi cs b hi) (fun cs b=>Region.noSelect_spec hsel j oj cs b hoj) hy h1);refine qZ hi hsel hs hc hn hin hdone f (listed.setIfInBounds j true) a' (inv.set hj (hlow j hj)) (fun k ok hk hki hku hno=>hfree k ok hk hki ?_ hno) (ready_mono hr (Ne.symm hji)) h3.1 ?_
    ·by_cases hjk:j=k
     ·subst hjk;exact hjun
     ·rw[getD_set_ne true hjk] at hku;exact hku
    ·rw[Array.setIfInBounds_comm _ _ hji];exact h3.2
def tJ(md:Region.Mode)(ops:Array Oper)(g:Nat):Nat→Nat→Array Bool→Bool
 |0,k,listed=>wm md ops g k listed&&(Region.ready md ops listed).all fun j=>decide (k≤j)
 |f+1,k,listed=>(Region.ready md ops listed).contains k&&Region.free md ops listed k&&tJ md ops g f (k+1) (listed.setIfInBounds k true)
theorem wQ{n g:Nat}{Lq:Act→Prop}(hsel:Region.noSelect ops=true)(hs:Region.sinkB md ops n=true)(hc:rT md ops n=true)(hn:n<ops.size) :
  ∀(l:List Oper) (k:Nat) (listed:Array Bool) (a:Act),(∀j,j<l.length→l[j]?=ops[k+j]?)→k+l.length=n→HeadInv md ops n listed→tJ md ops g l.length k listed=true→wpStill P ops w Lq l a→
  wpAnyL P md ops w n (fun listed' a'=>(wm md ops g n listed'=true∧∀j∈Region.ready md ops listed',n≤j)∧Lq a') l.length listed a
 | [],k,listed,a,_,hk,_,hB,h=>by
  obtain rfl:k=n:=by simpa using hk
  simp only[List.length_nil,tJ,Bool.and_eq_true,List.all_eq_true,decide_eq_true_eq] at hB;exact⟨hB,h⟩
 |o::l,k,listed,a,hl,hk,inv,hB,h=>by
  have h0:ops[k]?=some o:=by simpa using (hl 0 (by simp)).symm
  simp only[List.length_cons,tJ,Bool.and_eq_true] at hB;obtain⟨⟨hr,hf⟩,hB'⟩:=hB;have hkn:k<n:=by simp only[List.length_cons] at hk;omega
  have hr':k∈Region.ready md ops listed:=by simpa using hr
  have hst:stOp P ops w k (wpStill P ops w Lq l) a:=by unfold stOp;simp only[h0];exact h
  obtain⟨v,hy,hK⟩:=yieldsAt_of_stOp h0 hst;exact qZ h0 hsel hs hc hn hkn (fun _ _ hL=>hL.1.2) l.length listed a inv (Region.free_spec h0 hf) hr' hy
   (wQ hsel hs hc hn l (k+1) _ _ (fun j hj=>by have:=hl (j+1) (by simp;omega);simpa [Nat.add_assoc,Nat.add_comm 1 j] using this) (by simp only[List.length_cons] at hk;omega) (inv.set hr' hkn) hB' hK)
def tA(ops:Array Oper)(n:Nat):Bool:=
 Region.noSelect ops&&decide (n<ops.size)&&Region.sinkB .any ops n&&rT .any ops n&&tJ .any ops (ops.size-n) n 0 (Array.replicate ops.size false)
theorem aG{id:Nat}{a:Act}{l:List Oper}(n:Nat)(hm:P.follows .mixedOrders=true)(hB:tA l.toArray n=true)(hQ:∀c d v a w,Q (.panic c) (Act.put a d v) w→Q (.panic c) a w)
  (h:wpStill P l.toArray w.drew (fun a'=>wpList P l.toArray Q (l.drop n) a' w.drew) (l.take n) a):(Code.region id l.toArray true).wp P Q a w:=by
 simp only[tA,Bool.and_eq_true,decide_eq_true_eq] at hB;obtain⟨⟨⟨⟨hsel,hn⟩,hs⟩,hc⟩,hlex⟩:=hB;have hn':n<l.length:=by simpa using hn
 have htl:(l.take n).length=n:=by simp;omega
 have hdl:(l.drop n).length=l.toArray.size-n:=by simp
 have inv0:HeadInv .any l.toArray n (Array.replicate l.toArray.size false):=
  ⟨by simp,fun j oj _ hl=>(by rw[getD_replicate_false] at hl;cases hl),fun t _ ht=>getD_in (by simpa using ht) (getD_replicate_false _ _)⟩
 have H:=wQ (md:=.any) (g:=l.toArray.size-n) hsel hs hc hn (l.take n) 0 _ a (fun j hj=>by
  have hj':j<n:=by rw[htl] at hj;exact hj
  simp[hj']) (by simpa using htl) inv0 (by rw[htl];exact hlex) h
 refine wp_region_any hm ?_;have:=wpAny_of_head (Q':=Q) (g:=l.toArray.size-n) (fun listed a' hL=>by
  have:=wpAny_of_held _ _ _ _ (qx (md:=.any) hsel hQ (l.drop n) n listed a' w.drew (fun j=>by simp[List.getElem?_drop]) (by rw[hdl];exact hL.1.1) hL.2)
  rwa [hdl] at this) _ _ _ H
 rw[htl,show n+(l.toArray.size-n)=l.toArray.size by omega] at this;exact this
end
end
end Go.Proofs.YtabbjaomlmnnhaaGreat
