import Derived.Test.YtabbjaomlmnnhaaGreatCO11
import Derived.Test.YtabbjaomlmnnhaaGreatCO3
import Derived.Test.YtabbjaomlmnnhaaGreatCO10
import Derived.Test.YtabbjaomlmnnhaaGreatCO5
import Derived.Test.YtabbjaomlmnnhaaGreatCO4
import Derived.Test.YtabbjaomlmnnhaaGreatCO1
import Derived.Test.YtabbjaomlmnnhaaGreatCO9
import Derived.Test.YtabbjaomlmnnhaaGreatCO8
set_option linter.unusedVariables false
set_option linter.unusedSimpArgs false
set_option maxRecDepth 100000
set_option maxHeartbeats 16000000
namespace Go.Proofs.YtabbjaomlmnnhaaGreat
open Go.Value renaming int→UE,string→UF,slice→UG,pointer→UH,agg→UJ,tuple→UK
open Go.IntKind renaming i64→UL
section
open Go.RowKit
structure Us where
 u:Int
 g:Int
 data:ByteArray
def Us.c(x:Us):Cr:=⟨x.u,x.g⟩
def Us.v(x:Us):Value:=UJ #[UE UL x.u,UE UL x.g,UF x.data]
structure mX where
 dir:Int
 name:ByteArray
 top:ByteArray
structure Cn where
 path:ByteArray
 dir:Int
 info:Int
 files:Int
 out:Int
 jC:Int
 top:ByteArray
 deriving DecidableEq
def kr:Cn:=⟨ByteArray.empty,0,0,0,0,0,ByteArray.empty⟩
def iw:ByteArray:=ByteArray.mk #[84,114,97,115,104]
def gE:ByteArray:=ByteArray.mk #[46,84,114,97,115,104]
def ji:ByteArray:=ByteArray.mk #[105,110,102,111]
def gq:ByteArray:=ByteArray.mk #[102,105,108,101,115]
def nY:ByteArray:=ByteArray.mk #[101,120,112,117,110,103,101,100]
def nX:ByteArray:=ByteArray.mk #[109,111,118,105,110,103]
def O1:ByteArray:=ByteArray.mk #[114,97,103,112,105,99,107,101,114,46,117,110,100,111]
def Fs.aQ(S:Fs)(d:Bool)(c:Cr)(dir:Int)(n:ByteArray):Int×Int:=
 if d=true then(0,20) else if S.cV c dir 1 1≠0 then(0,S.cV c dir 1 1)
 else if aw (S.aI dir) n=0 then(0,5) else(S.aB (aw (S.aI dir) n),0)
def FI(c:Cr)(x y:An)(no:Int):Int×Int:=
 if x.kind≠1 then(0,9) else if x.dev≠y.dev then(0,16) else if x.uid≠c.u then(0,4) else if x.may c 7=false then(0,6) else(no,0)
def Fs.fg(S:Fs)(d:Bool)(c:Cr)(dir:Int)(n:ByteArray):Int×Int:=
 if(S.aQ d c dir n).2=5 then(0,0) else if(S.aQ d c dir n).2≠0 then(0,(S.aQ d c dir n).2)
 else FI c (S.bG (S.aQ d c dir n).1) (S.bG dir) (S.aQ d c dir n).1
def Fs.ga(S:Fs)(d:Bool)(u:Us):Int×Int:=
 if d=true then(0,20) else if(S.path u.c u.data true).2≠0 then(0,(S.path u.c u.data true).2)
 else if(S.path u.c u.data true).1.no=0 then(0,5) else if(S.bG (S.path u.c u.data true).1.no).kind≠1 then(0,9) else((S.path u.c u.data true).1.no,0)
def P1(x y:An)(no:Int):Int×Int:=
 if x.kind≠1 then(0,9) else if x.dev≠y.dev then(0,16) else if x.mode<512 then(0,4) else(no,0)
def Fs.jy(S:Fs)(d:Bool)(c:Cr)(top:Int):Int×Int:=
 if(S.aQ d c top gE).2≠0 then(0,(S.aQ d c top gE).2)
 else P1 (S.bG (S.aQ d c top gE).1) (S.bG top) (S.aQ d c top gE).1
def Gw(n:Int):ByteArray:=str (kl n)
def oP(u:Int):ByteArray:=ByteArray.mk #[46,84,114,97,115,104,45]++Gw u
def Fs.cO(S:Fs)(d:Bool)(u:Us)(top:Int)(path:ByteArray):List mX:=
 (if(S.jy d u.c top).2=0 then[⟨(S.jy d u.c top).1,Gw u.u,path⟩] else[])++[⟨top,oP u.u,path⟩]
def dS(r:Int×Int):Int×Int:=if r.2=0∧r.1=0 then(0,5) else r
def Fs.s8(S:Fs)(dir:Int)(top:ByteArray)(i f o y:Int):Cn×Int:=match S.gI dir with
 |none=>(kr,5)
 |some s=>(⟨s,dir,i,f,o,y,top⟩,0)
def Fs.s7(S:Fs)(d:Bool)(c:Cr)(dir:Int)(top:ByteArray)(i f o:Int):Cn×Int:=
 if(S.fg d c dir nX).2≠0 then(kr,(S.fg d c dir nX).2) else S.s8 dir top i f o (S.fg d c dir nX).1
def Fs.sZ(S:Fs)(d:Bool)(c:Cr)(dir:Int)(top:ByteArray)(i f:Int):Cn×Int:=
 if(S.fg d c dir nY).2≠0 then(kr,(S.fg d c dir nY).2) else S.s7 d c dir top i f (S.fg d c dir nY).1
def Fs.sY(S:Fs)(d:Bool)(c:Cr)(dir:Int)(top:ByteArray)(i:Int):Cn×Int:=
 if(dS (S.fg d c dir gq)).2≠0 then(kr,(dS (S.fg d c dir gq)).2) else S.sZ d c dir top i (dS (S.fg d c dir gq)).1
def Fs.pW(S:Fs)(d:Bool)(c:Cr)(dir:Int)(top:ByteArray):Cn×Int:=
 if(dS (S.fg d c dir ji)).2≠0 then(kr,(dS (S.fg d c dir ji)).2) else S.sY d c dir top (dS (S.fg d c dir ji)).1
def Fs.jO(S:Fs)(d:Bool)(u:Us)(p:mX):Cn×Int:=
 if(dS (S.fg d u.c p.dir p.name)).2≠0 then(kr,(dS (S.fg d u.c p.dir p.name)).2) else S.pW d u.c (dS (S.fg d u.c p.dir p.name)).1 p.top
theorem oF{no:Int}(h:no≠0):dS (no,0)=(no,0):=by
 unfold dS;rw[if_neg (by simpa using h)]
theorem sj:dS (0,0)=(0,5):=rfl
theorem sk(no:Int){e:Int}(h:e≠0):dS (no,e)=(no,e):=by
 unfold dS;rw[if_neg (fun k=>h k.1)]
def RN(l:List Cn)(x:Cn):List Cn:=if l.any (fun y=>y.dir==x.dir)=true then l else l++[x]
def Fs.TC(S:Fs)(d:Bool)(u:Us)(l:List Cn)(p:mX):List Cn:=if(S.jO d u p).2=0 then RN l (S.jO d u p).1 else l
def Fs.Sq(S:Fs)(d:Bool)(u:Us):List Cn:=
 if(S.ga d u).2=0 then(if(S.jO d u ⟨(S.ga d u).1,iw,ByteArray.empty⟩).2=0 then[(S.jO d u ⟨(S.ga d u).1,iw,ByteArray.empty⟩).1] else[]) else[]
def Fs.RH(S:Fs)(d:Bool)(u:Us)(l:List Cn)(t:Int×ByteArray):List Cn:=(S.cO d u t.1 t.2).foldl (S.TC d u) l
def Fs.TA(S:Fs)(d:Bool)(u:Us):List Cn:=S.NL.foldl (S.RH d u) (S.Sq d u)
def Fs.keepsF(S:Fs)(d:Bool)(u:Us)(no dir:Int)(n:ByteArray):Int:=
 if(S.TA d u).any (fun x=>S.within x.dir no||S.within dir x.dir)=true then 17
 else if(S.ga d u).2=0∧(S.within (S.ga d u).1 no=true∨dir=(S.ga d u).1∧n=O1) then 17 else 0
def Fs.So(S:Fs)(d:Bool)(u:Us):List ByteArray:=
 if(S.ga d u).2=0 then(match S.gI (S.ga d u).1 with|some s=>[lE s iw]|none=>[]) else[]
def RP(u:Us)(t:Int×ByteArray):List ByteArray:=[lE (lE t.2 gE) (Gw u.u),lE t.2 (oP u.u)]
def Fs.pathsF(S:Fs)(d:Bool)(u:Us):List ByteArray:=S.So d u++S.NL.flatMap (RP u)
structure dE(S:Fs)(N:Nat):Prop where
 ok:ay S N
 pl:Pl S
 tr:Tr S
 wy:Wy S
 nm:Nm S
theorem nT(ms:List Mt)(is:List It):dE (db ms is) (1+2*ms.length+is.length):=⟨Ah ms is,I0 ms is,IZ ms is,IY ms is,I1 ms is⟩
theorem dE.aN{S:Fs}{N:Nat}(h:dE S N)(c:Cr)(now dir:Int)(s:ByteArray)(m:Int):dE (S.aN c now dir s m).1 (N+1):=
 ⟨gW h.ok c now dir s m,h.pl.aN h.ok c now dir s m,h.tr.aN h.ok c now dir s m,h.wy.aN h.ok h.tr c now dir s m,h.nm.aN c now dir s m⟩
theorem dE.file{S:Fs}{N:Nat}(h:dE S N)(c:Cr)(now dir:Int)(s:ByteArray)(m:Int)(t:ByteArray):dE (S.file c now dir s m t).1 (N+1):=
 ⟨yp h.ok c now dir s m t,h.pl.file h.ok c now dir s m t,h.tr.file h.ok c now dir s m t,h.wy.file h.ok h.tr c now dir s m t,h.nm.file c now dir s m t⟩
theorem dE.mono{S:Fs}{N M:Nat}(h:dE S N)(hM:N≤M):dE S M:=⟨h.ok.mono hM,h.pl,h.tr,h.wy,h.nm⟩
theorem tS(S:Fs)(k:Int):(∃a,S.get k=some a∧S.bG k=a)∨(S.get k=none∧S.bG k=dD):=by
 cases hg:S.get k with
 |none=>exact .inr ⟨rfl,gl hg⟩
 |some a=>exact .inl ⟨a,rfl,bW hg⟩
theorem Bu{S:Fs}{N:Nat}(hk:ay S N)(hp:Pl S)(hw:Wy S){k:Int}{a:An}(hg:S.get k=some a)(hd:a.kind=1):∃b,S.get (S.bl k)=some b:=by
 unfold Fs.bl;rw[hg];dsimp only;rw[if_neg (by omega)];by_cases hr:S.root a.dev=k∧1<a.dev
 ·rw[if_pos hr];have h8:=(hk.get hg).1.dev;obtain⟨v,hv,hi⟩:=yA h8.1 h8.2;obtain⟨hlt,he⟩:=List.getElem?_eq_some_iff.1 hi;obtain⟨b,hb,hbk,-⟩:=hp.aB _ hlt (by omega);rw[he] at hb;obtain⟨x,hx,-⟩:=hw.ud b (aO hb) hbk;exact⟨x,by rw[hv];dsimp only;rw[hb];exact hx⟩
 ·rw[if_neg hr];obtain⟨x,hx,-⟩:=hw.ud a (aO hg) hd;exact⟨x,hx⟩
def Ends(S:Fs)(x:Fd×Int):Prop:=x.2=0→x.1.no≠0→∃a,S.get x.1.no=some a
theorem kI(S:Fs){e:Int}(x:Fd)(h:e≠0):Ends S (x,e):=fun h'=>absurd h' h
theorem ld{S:Fs}{N:Nat}(hk:ay S N)(hp:Pl S)(hw:Wy S)(c:Cr)(f:Bool)(k:Option (Int→Bool→List (List UInt8)→Fd×Int))
  (hkk:∀g,k=some g→∀at' must l,(∃a,S.get at'=some a)→Ends S (g at' must l)) :
  ∀(l:List (List UInt8)) (at':Int) (must:Bool),(∃a,S.get at'=some a)→Ends S (S.cM c f k l at' must)
 | [],at',must,h=>fun _ _=>h
 |p::l,at',must,h=>by
  rw[Fs.cM]
  split
  ·rename_i h2;exact kI S _ h2
  ·rename_i h2;have kR:(S.step c at' p).2=0:=by simpa using h2
   split
   ·rename_i hpp;refine ld hk hp hw c f k hkk l _ must ?_;obtain⟨a,ha⟩:=h;unfold Fs.step at kR⊢;rw[ha] at kR⊢;dsimp only at kR⊢;by_cases hd:a.kind=1
    ·rw[if_neg (by omega)] at kR⊢;by_cases hm:a.may c 1=false
     ·rw[if_pos hm] at kR
      cases kR
     ·rw[if_neg hm,if_pos hpp];exact Bu hk hp hw ha hd
    ·rw[if_pos hd] at kR
     cases kR
   ·split
    ·split
     ·exact fun _ h0=>absurd rfl h0
     ·exact kI S _ (by decide)
    ·rename_i n hn
     split
     ·split
      ·exact kI S _ (by decide)
      ·rename_i g hgk
       split
       ·exact kI S _ (by decide)
       ·refine hkk _ rfl _ _ _ ?_
        split
        ·obtain⟨a,ha,-⟩:=hp.one;exact⟨a,ha⟩
        ·exact h
     ·split
      ·exact kI S _ (by decide)
      ·split
       ·exact fun _ _=>⟨n,hn⟩
       ·exact ld hk hp hw c f k hkk l _ must ⟨n,hn⟩
theorem sC{S:Fs}{N:Nat}(hk:ay S N)(hp:Pl S)(hw:Wy S)(c:Cr)(f:Bool):∀(h:Nat) (at':Int) (must:Bool) (l:List (List UInt8)),(∃a,S.get at'=some a)→Ends S (S.ft c f h at' must l)
 |0,at',must,l,ha=>ld hk hp hw c f none (fun _ h=>by cases h) l at' must ha
 |h+1,at',must,l,ha=>ld hk hp hw c f _ (fun g hg at2 must2 l2 h2=>by
  injection hg with hg;subst hg;exact sC hk hp hw c f h at2 must2 l2 h2) l at' must ha
theorem FC{S:Fs}{N:Nat}(hk:ay S N)(hp:Pl S)(hw:Wy S)(c:Cr)(s:ByteArray)(f:Bool):Ends S (S.path c s f):=by
 unfold Fs.path
 split
 ·rename_i h;exact kI S _ h
 ·obtain⟨a,ha,-⟩:=hp.one;exact sC hk hp hw c f 8 1 _ _ ⟨a,ha⟩
end
section
open Go.RowKit
def tilA(base:ByteArray):ByteArray:=base++ByteArray.mk #[46,126]
def Lj(base:ByteArray)(n:Int):ByteArray:=tilA base++str (kl n)++ByteArray.mk #[126]
def TN(base s:ByteArray)(n:Int):Prop:=(base≠ByteArray.empty∧1≤n∧n≤999999999∧Lj base n=s)∨(n=0∧∀m:Int,base≠ByteArray.empty→1≤m→m≤999999999→Lj base m≠s)
open Classical in
noncomputable def idxB (base s:ByteArray):Int:=if h:∃n,TN base s n then Classical.choose h else 0
noncomputable def NS (base:ByteArray):Int→List ByteArray→Int
 |n,[]=>n
 |n,s::l=>NS base (max n (idxB base s)) l
def idxR:Option Int→Int
 |some n=>if 1≤n∧n≤999999999 then n else 0
 |none=>0
def tilN(base:ByteArray)(n:Int):ByteArray×Int:=
 if cH base≠0 then(ByteArray.empty,cH base) else if n<1∨999999999<n then(ByteArray.empty,3) else if 255<(Lj base n).size then(ByteArray.empty,13) else(Lj base n,0)
def Fs.cE(S:Fs)(d:Bool)(c:Cr)(no:Int):List En×Int:=
 if d=true then([],20) else if S.cV c no 1 4≠0 then([],S.cV c no 1 4) else((S.aI no).map (fun e=>⟨e.name,S.aB e.no⟩),0)
noncomputable def Fs.spareF (S:Fs) (d:Bool) (c:Cr) (dir:Int) (n:ByteArray):ByteArray×Int:=
 if(S.cE d c dir).2≠0 then(ByteArray.empty,(S.cE d c dir).2) else tilN n (NS n 0 ((S.cE d c dir).1.map (·.name))+1)
end
section
open Go.RowKit
structure Sp where
 dir:Int
 name:ByteArray
 no:Int
 depth:Int
def Fs.dh(S:Fs)(c:Cr)(x:Sp):List Sp×Int:=
 if ep (S.get x.no)≠0 then([],ep (S.get x.no)) else if ep (S.get x.dir)≠0 then([],ep (S.get x.dir))
 else if(S.bG x.no).dev≠(S.bG x.dir).dev then([],16) else if(S.bG x.no).kind≠1 then([],0)
 else((S.cE false c x.no).1.map (fun y=>⟨x.no,y.name,y.no,wrap64 (x.depth+1)⟩),(S.cE false c x.no).2)
def Fs.jt(S:Fs)(k:Int):Nat:=match S.get k with
 |some a=>if a.kind=1 then(S.last-k).toNat+1 else 0
 |none=>0
def Fs.uG(S:Fs)(N:Nat)(l:List Sp):Nat:=(l.map fun x=>(N+1) ^ S.jt x.no).sum
theorem iV(S:Fs)(N:Nat)(x:Sp)(l:List Sp):S.uG N (x::l)=(N+1) ^ S.jt x.no+S.uG N l:=by unfold Fs.uG;rw[List.map_cons,List.sum_cons]
theorem xM(S:Fs)(N:Nat)(a b:List Sp):S.uG N (a++b)=S.uG N a+S.uG N b:=by unfold Fs.uG;rw[List.map_append,List.sum_append]
theorem Jd{S:Fs}{N k:Nat}:∀{l:List Sp},(∀x∈l,S.jt x.no≤k)→S.uG N l≤l.length*(N+1) ^ k
 | [],_=>by simp[Fs.uG]
 |x::l,h=>by
  rw[iV,List.length_cons,Nat.succ_mul];have h1:=Jd (N:=N) (fun y hy=>h y (List.mem_cons_of_mem _ hy));have h2:(N+1) ^ S.jt x.no≤(N+1) ^ k:=Nat.pow_le_pow_right (by omega) (h x List.mem_cons_self);omega
theorem oW{S:Fs}{N:Nat}(h:dE S N){a:An}(ha:a∈S.ns){k:Int}(hk:S.get k=some a)(hd:a.kind=1){e:En}(he:e∈a.au):S.jt (S.aB e.no)<S.jt k:=by
 obtain⟨-,hkn,gv,hkl⟩:=h.ok.get hk;have hK:S.jt k=(S.last-k).toNat+1:=by unfold Fs.jt;rw[hk];simp[hd]
 obtain⟨b,hb,hup⟩:=(h.tr.row a ha).down e he;obtain⟨-,hbn,av,hbl⟩:=h.ok.get hb;have hlt:b.kind=1→a.no<b.no:=fun aY=>by
  obtain⟨h1,h2⟩:=hup aY;rcases h.pl.up b (aO hb) aY with⟨h3,-⟩|⟨-,-,h4⟩
  ·exact absurd h3 h2
  ·omega
 unfold Fs.aB;by_cases h0:0<e.no
 ·rw[if_pos h0]
  cases hf:S.ds.find? (fun d=>d.aB==e.no) with
  |none=>
   show S.jt e.no<_;unfold Fs.jt;rw[hb];show(if b.kind=1 then _ else 0)<_
   split
   ·rename_i aY;have:=hlt aY;have:=hK;unfold Fs.jt at this;rw[this];omega
   ·unfold Fs.jt at hK;rw[hK];omega
  |some d=>
   show S.jt d.root<_;have hm:=List.mem_of_find?_eq_some hf;have hq:d.aB=e.no:=by simpa using List.find?_some hf
   obtain⟨i,hi,hdi⟩:=List.mem_iff_getElem.1 hm;have NZ:1≤i:=by
    rcases Nat.eq_zero_or_pos i with h1|h1
    ·subst h1;have:=h.tr.zero d (by rw[List.getElem?_eq_getElem hi,hdi]);omega
    ·exact h1
   obtain⟨b2,aY,hbk,hbr⟩:=h.pl.aB i hi NZ;rw[hdi,hq] at aY;rw[hdi,hq] at hbr;rw[hb] at aY;injection aY with aY;subst aY;have h5:=hlt hbk;have h6:S.jt d.root≤(S.last-d.root).toNat+1:=by
    unfold Fs.jt
    split
    ·split
     ·exact aa _
     ·exact Nat.zero_le _
    ·exact Nat.zero_le _
   have h7:=(h.ok.root d hm).2;omega
 ·exfalso;omega
theorem wo{S:Fs}{N:Nat}(h:dE S N)(c:Cr)(x:Sp)(he:(S.dh c x).2=0):S.uG N (S.dh c x).1<(N+1) ^ S.jt x.no:=by
 have hpos:∀k,0<(N+1) ^ k:=fun k=>Nat.pow_pos (by omega);have h0:S.uG N []<(N+1) ^ S.jt x.no:=hpos _;revert he;unfold Fs.dh
 split
 ·exact fun _=>h0
 split
 ·exact fun _=>h0
 split
 ·exact fun _=>h0
 split
 ·exact fun _=>h0
 ·rename_i hno _ _ hkd;intro _
  cases hg:S.get x.no with
  |none=>rw[hg] at hno;exact absurd (by decide:ep (none:Option An)≠0) hno
  |some a=>
   have hz:S.bG x.no=a:=bW hg;rw[hz] at hkd;have hd:a.kind=1:=by simpa using hkd
   unfold Fs.cE;rw[if_neg (by decide)]
   split
   ·exact h0
   ·have hents:S.aI x.no=a.au:=by unfold Fs.aI;rw[hg]
    rw[hents];dsimp only;have hK:S.jt x.no=(S.last-x.no).toNat+1:=by unfold Fs.jt;rw[hg];simp[hd]
    refine Nat.lt_of_le_of_lt (Jd (k:=(S.last-x.no).toNat) (fun y hy=>?_)) ?_
    ·obtain⟨q,hq,rfl⟩:=List.mem_map.1 hy;obtain⟨e,hee,rfl⟩:=List.mem_map.1 hq;have:=oW h (aO hg) hg hd hee;show S.jt (S.aB e.no)≤_;omega
    ·rw[List.length_map,List.length_map,hK,Nat.pow_succ];have hfew:=(h.ok.get hg).1.lR;have hp:=hpos (S.last-x.no).toNat;have:a.au.length*(N+1) ^ (S.last-x.no).toNat≤N*(N+1) ^ (S.last-x.no).toNat:=Nat.mul_le_mul_right _ hfew;rw[Nat.mul_add,Nat.mul_one,Nat.mul_comm _ N];omega
def Fs.eM(S:Fs)(c:Cr):Nat→List Sp→List Sp×Option (Sp×Int)
 |0,_=>([],none)
 |_+1,[]=>([],none)
 |f+1,x::t=>if(S.dh c x).2≠0 then([],some (x,(S.dh c x).2)) else(x::(S.eM c f ((S.dh c x).1++t)).1,(S.eM c f ((S.dh c x).1++t)).2)
theorem ue{S:Fs}{N:Nat}(h:dE S N)(c:Cr):∀(f g:Nat) (l:List Sp),S.uG N l≤f→S.uG N l≤g→S.eM c f l=S.eM c g l
 |0,0,_,_,_=>rfl
 |0,g+1,[],_,_=>rfl
 |0,g+1,x::t,hf,_=>by
  rw[iV] at hf;have:0<(N+1) ^ S.jt x.no:=Nat.pow_pos (by omega);omega
 |f+1,0,[],_,_=>rfl
 |f+1,0,x::t,_,hg=>by
  rw[iV] at hg;have:0<(N+1) ^ S.jt x.no:=Nat.pow_pos (by omega);omega
 |f+1,g+1,[],_,_=>rfl
 |f+1,g+1,x::t,hf,hg=>by
  unfold Fs.eM;by_cases he:(S.dh c x).2=0
  ·have h1:=wo h c x he;rw[iV] at hf hg;have h2:=ue h c f g ((S.dh c x).1++t) (by rw[xM];omega) (by rw[xM];omega);rw[if_neg (by simpa using he),if_neg (by simpa using he),h2]
  ·rw[if_pos he,if_pos he]
def Fs.iv(S:Fs)(N:Nat)(d:Bool)(c:Cr)(dir:Int)(n:ByteArray):List Sp×Option (Sp×Int):=
 if(S.aQ d c dir n).2≠0 then([],some (⟨dir,n,(S.aQ d c dir n).1,0⟩,(S.aQ d c dir n).2))
 else S.eM c (S.uG N [⟨dir,n,(S.aQ d c dir n).1,0⟩]) [⟨dir,n,(S.aQ d c dir n).1,0⟩]
def Fs.fX(S:Fs):List Int→List Sp→Int
 |_,[]=>0
 |met,x::l=>if x.no∈met then S.fX met l else(S.bG x.no).data.size+S.fX (x.no::met) l
def Fs.iP(S:Fs)(N:Nat)(d:Bool)(c:Cr)(dir:Int)(n:ByteArray):Int×Int:=
 match(S.iv N d c dir n).2 with
 |some (_,e)=>(0,e)
 |none=>(S.fX [] (S.iv N d c dir n).1,0)
end
section
open Go.RowKit
theorem Jn{S:Fs}{N:Nat}(h:dE S N)(c:Cr)(x:Sp):(S.dh c x).1.length≤N∧∀y∈(S.dh c x).1,S.jt y.no<S.jt x.no:=by
 have h0:([]:List Sp).length≤N∧∀y∈([]:List Sp),S.jt y.no<S.jt x.no:=⟨Nat.zero_le _,fun y hy=>by cases hy⟩;unfold Fs.dh
 split
 ·exact h0
 split
 ·exact h0
 split
 ·exact h0
 split
 ·exact h0
 ·rename_i hno _ _ hkd
  cases hg:S.get x.no with
  |none=>rw[hg] at hno;exact absurd (by decide:ep (none:Option An)≠0) hno
  |some a=>
   have hz:S.bG x.no=a:=bW hg;rw[hz] at hkd;have hd:a.kind=1:=by simpa using hkd
   unfold Fs.cE;rw[if_neg (by decide)]
   split
   ·exact h0
   ·have hents:S.aI x.no=a.au:=by unfold Fs.aI;rw[hg]
    rw[hents];dsimp only;refine⟨?_,fun y hy=>?_⟩
    ·rw[List.length_map,List.length_map];exact(h.ok.get hg).1.lR
    ·obtain⟨q,hq,rfl⟩:=List.mem_map.1 hy;obtain⟨e,hee,rfl⟩:=List.mem_map.1 hq;exact oW h (aO hg) hg hd hee
theorem Pp{S:Fs}{N:Nat}(h:ay S N)(k:Int):S.jt k≤N:=by
 unfold Fs.jt
 cases hg:S.get k with
 |none=>exact Nat.zero_le _
 |some a=>
  obtain⟨-,-,h1,h2⟩:=h.get hg;have:=h.lN;dsimp only
  split
  ·omega
  ·exact Nat.zero_le _
def Fs.By(S:Fs)(N K:Nat):List Sp→Prop
 | []=>True
 |x::t=>t.length+N*S.jt x.no≤K∧S.By N K t
theorem xo{S:Fs}{N K:Nat}:∀{l:List Sp},S.By N K l→l.length≤K+1
 | [],_=>Nat.zero_le _
 |x::t,h=>by
  have:=h.1;rw[List.length_cons];omega
theorem Lm{S:Fs}{N:Nat}(h:ay S N)(x:Sp):S.By N (N*N) [x]:=⟨by rw[List.length_nil,Nat.zero_add];exact Nat.mul_le_mul_left _ (Pp h _),trivial⟩
theorem DM{S:Fs}{N K k:Nat}{t:List Sp}(ht:S.By N K t)(hk:t.length+N*(k+1)≤K):∀{l:List Sp},l.length≤N→(∀y∈l,S.jt y.no≤k)→S.By N K (l++t)
 | [],_,_=>ht
 |y::l,hl,hy=>by
  rw[List.length_cons] at hl;refine⟨?_,DM ht hk (by omega) (fun z hz=>hy z (List.mem_cons_of_mem _ hz))⟩;have h1:=Nat.mul_le_mul_left N (hy y List.mem_cons_self);rw[Nat.mul_add,Nat.mul_one] at hk;have h2:(l++t).length=l.length+t.length:=List.length_append;show(l++t).length+N*S.jt y.no≤K;omega
theorem Iy{S:Fs}{N K:Nat}(h:dE S N)(c:Cr){x:Sp}{t:List Sp}(hs:S.By N K (x::t)):S.By N K ((S.dh c x).1++t):=by
 obtain⟨h1,h2⟩:=Jn h c x
 cases hh:S.jt x.no with
 |zero=>
  have:(S.dh c x).1=[]:=by
   cases hl:(S.dh c x).1 with
   |nil=>rfl
   |cons y l=>
    have:=h2 y (by rw[hl];exact List.mem_cons_self);omega
  rw[this];exact hs.2
 |succ k=>
  have h3:=hs.1;rw[hh] at h3;exact DM hs.2 h3 h1 (fun y hy=>by have:=h2 y hy;omega)
theorem lu(S:Fs)(x:Sp):∀(l:List Sp) (met:List Int),S.fX met (l++[x])=S.fX met l+(if x.no∈met∨x.no∈l.map (·.no) then 0 else(S.bG x.no).data.size)
 | [],met=>by
  show(if x.no∈met then(0:Int) else _+0)=0+_;by_cases h:x.no∈met
  ·rw[if_pos h,if_pos (.inl h)];rfl
  ·rw[if_neg h,if_neg (fun h2=>h2.elim h (by simp))];omega
 |y::l,met=>by
  rw[List.cons_append];unfold Fs.fX;by_cases h:y.no∈met
  ·rw[if_pos h,if_pos h,lu S x l met];congr 1;by_cases h2:x.no∈met∨x.no∈l.map (·.no)
   ·rw[if_pos h2,if_pos (show x.no∈met∨x.no∈(y::l).map (·.no) from h2.imp id (List.mem_cons_of_mem _))]
   ·rw[if_neg h2,if_neg];intro h3;rcases h3 with h3|h3
    ·exact h2 (.inl h3)
    ·rw[List.map_cons] at h3;rcases List.mem_cons.1 h3 with h3|h3
     ·exact h2 (.inl (h3▸h))
     ·exact h2 (.inr h3)
  ·rw[if_neg h,if_neg h,lu S x l (y.no::met),Int.add_assoc];congr 2;have hiff:(x.no∈y.no::met∨x.no∈l.map (·.no))↔(x.no∈met∨x.no∈(y::l).map (·.no)):=by
    simp only[List.mem_cons,List.map_cons];constructor
    ·rintro((h|h)|h)
     ·exact .inr (.inl h)
     ·exact .inl h
     ·exact .inr (.inr h)
    ·rintro(h|h|h)
     ·exact .inl (.inr h)
     ·exact .inl (.inl h)
     ·exact .inr h
   by_cases h2:x.no∈y.no::met∨x.no∈l.map (·.no)
   ·rw[if_pos h2,if_pos (hiff.1 h2)]
   ·rw[if_neg h2,if_neg (fun h3=>h2 (hiff.2 h3))]
theorem qS{k:Int}{met:List Int}:∀{U:List Int},k∈U→k∉met→(U.filter fun q=>!decide (q∈k::met)).length+1≤(U.filter fun q=>!decide (q∈met)).length
 | [],h,_=>by cases h
 |u::U,h,hk=>by
  have hmono:∀(V:List Int),(V.filter fun q=>!decide (q∈k::met)).length≤(V.filter fun q=>!decide (q∈met)).length:=fun V=>by
   induction V with
   |nil=>exact aa _
   |cons v V ih=>
    rw[List.filter_cons,List.filter_cons];by_cases h1:v∈met
    ·simp[h1];simpa using ih
    ·by_cases h2:v=k
     ·simp[h1,h2,hk];have:=ih;simp at this;omega
     ·simp[h1,h2];simpa using ih
  rcases List.mem_cons.1 h with rfl|h
  ·rw[List.filter_cons,List.filter_cons];have:=hmono U;simp[hk];simpa using this
  ·have ih:=qS h hk;rw[List.filter_cons,List.filter_cons];by_cases h1:u∈met
   ·simp[h1];simpa using ih
   ·by_cases h2:u=k
    ·simp[h1,h2,hk];have:=hmono U;simp at this;omega
    ·simp[h1,h2];simpa using ih
theorem filter_le{k:Int}{met:List Int}(U:List Int):(U.filter fun q=>!decide (q∈k::met)).length≤(U.filter fun q=>!decide (q∈met)).length:=by
 induction U with
 |nil=>exact aa _
 |cons v V ih=>
  rw[List.filter_cons,List.filter_cons];by_cases h1:v∈met
  ·simp[h1];simpa using ih
  ·by_cases h2:v=k
   ·subst h2;simp[h1];have:=ih;simp at this;omega
   ·simp[h1,h2];simpa using ih
theorem ml{S:Fs}{N:Nat}(h:ay S N):∀(l:List Sp) (met:List Int),0≤S.fX met l∧S.fX met l≤1048576*(((S.ns.map (·.no)).filter fun q=>!decide (q∈met)).length:Nat)
 | [],met=>⟨Int.le_refl _,by show(0:Int)≤_;omega⟩
 |x::l,met=>by
  unfold Fs.fX;by_cases hm:x.no∈met
  ·rw[if_pos hm];exact ml h l met
  ·rw[if_neg hm];obtain⟨h1,h2⟩:=ml h l (x.no::met)
   cases hg:S.get x.no with
   |none=>
    have hz:(S.bG x.no).data.size=0:=by unfold Fs.bG;rw[hg];rfl
    have:=filter_le (k:=x.no) (met:=met) (S.ns.map (·.no));rw[hz];omega
   |some a=>
    obtain⟨ho,hn,-⟩:=h.get hg;have hz:S.bG x.no=a:=bW hg;have hd:=ho.data;have:=qS (k:=x.no) (met:=met) (U:=S.ns.map (·.no)) (List.mem_map.2 ⟨a,aO hg,hn⟩) hm;rw[hz];omega
theorem AK{S:Fs}{N:Nat}(h:ay S N)(hl:S.ns.length≤100000)(l:List Sp):0≤S.fX [] l∧S.fX [] l≤1048576*100000:=by
 obtain⟨h1,h2⟩:=ml h l [];have h3:((S.ns.map (·.no)).filter fun q=>!decide (q∈([]:List Int))).length≤S.ns.length:=by
  refine ae (List.length_filter_le _ _) ?_;rw[List.length_map];exact aa _
 exact⟨h1,by omega⟩
end
section
open Go.RowKit
def Sy.dC(Y:Sy)(u:Us)(dir:Int)(n:ByteArray):Sy×Int×Int:=
 if(Y.fs.fg Y.dead u.c dir n).2=0∧(Y.fs.fg Y.dead u.c dir n).1=0 then Y.op (fun S now=>S.aN u.c now dir n 448) else(Y,Y.fs.fg Y.dead u.c dir n)
def Sy.et(Y:Sy)(u:Us)(dir:Int):List ByteArray→Sy×Int
 | []=>(Y,0)
 |n::l=>if(Y.dC u dir n).2.2≠0 then((Y.dC u dir n).1,(Y.dC u dir n).2.2) else(Y.dC u dir n).1.et u dir l
def fy:List ByteArray:=[ji,gq,nY,nX]
def Sy.aZ(Y:Sy)(u:Us)(p:mX):Sy×Cn×Int:=
 let r:=Y.dC u p.dir p.name
 if r.2.2≠0 then(r.1,kr,r.2.2) else
 let q:=r.1.et u r.2.1 fy
 if q.2≠0 then(q.1,kr,q.2) else(q.1,q.1.fs.jO q.1.dead u p)
def Sy.bw(Y:Sy)(u:Us):List mX→Int→Sy×Bool×Cn×Int
 | [],e=>(Y,false,kr,e)
 |p::l,_=>if(Y.aZ u p).2.2=0∨(Y.aZ u p).1.dead=true then((Y.aZ u p).1,true,(Y.aZ u p).2.1,(Y.aZ u p).2.2) else(Y.aZ u p).1.bw u l (Y.aZ u p).2.2
def Sy.gB(Y:Sy)(u:Us)(top:Int):List mX:=
 if(Y.fs.ga Y.dead u).2=0∧Y.fs.root (Y.fs.bG (Y.fs.ga Y.dead u).1).dev=top then[⟨(Y.fs.ga Y.dead u).1,iw,ByteArray.empty⟩] else[]
def Sy.bJ(Y:Sy)(u:Us)(no:Int):Sy×Cn×Int:=
 let t:=Y.fs.dg no
 if t.2.2≠0 then(Y,kr,t.2.2) else
 let h:=Y.fs.ga Y.dead u
 let a:=Y.bw u (Y.gB u t.1) 0
 if a.2.1=true then(a.1,a.2.2) else
 let b:=a.1.bw u (a.1.fs.cO a.1.dead u t.1 t.2.1) a.2.2.2
 if b.2.1=true then(b.1,b.2.2) else
 if h.2≠0 then(b.1,kr,b.2.2.2) else b.1.aZ u ⟨h.1,iw,ByteArray.empty⟩
structure eJ(Y:Sy)(N:Nat):Prop where
 bK:dE Y.fs N
 c0:0≤Y.count
 cN:Y.count≤N
 pl:Y.cC.length≤1000
theorem eJ.mono{Y:Sy}{N M:Nat}(h:eJ Y N)(hM:N≤M):eJ Y M:=⟨h.bK.mono hM,h.c0,by have:=h.cN;omega,h.pl⟩
theorem yD(Y:Sy):Y.change.1.count=Y.count∨Y.change.1.count=Y.count+1:=by
 unfold Sy.change
 split
 ·exact .inl rfl
 ·split<;>exact .inr rfl
theorem eJ.change{Y:Sy}{N:Nat}(h:eJ Y N):eJ Y.change.1 (N+1):=by
 obtain⟨h1,h2,h3⟩:=dy Y;refine⟨by rw[h1];exact h.bK.mono (by omega),?_,?_,by rw[h3];exact h.pl⟩ <;>
 ·have:=h.c0;have:=h.cN;rcases yD Y with e|e<;>rw[e]<;>omega
theorem eJ.op{Y:Sy}{N:Nat}(h:eJ Y N){g:Fs→Int→Fs×Int×Int}(hg:dE (g Y.fs Y.now).1 (N+1)):eJ (Y.op g).1 (N+1):=by
 have hc:=h.change;unfold Sy.op
 split
 ·exact hc
 ·exact⟨hg,hc.c0,hc.cN,hc.pl⟩
theorem eJ.dC{Y:Sy}{N:Nat}(h:eJ Y N)(u:Us)(dir:Int)(n:ByteArray):eJ (Y.dC u dir n).1 (N+1):=by
 unfold Sy.dC
 split
 ·exact h.op (h.bK.aN _ _ _ _ _)
 ·exact h.mono (by omega)
theorem eJ.et{u:Us}{dir:Int}:∀{l:List ByteArray} {Y:Sy} {N:Nat},eJ Y N→eJ (Y.et u dir l).1 (N+l.length)
 | [],_,_,h=>h
 |n::l,Y,N,h=>by
  rw[Sy.et]
  split
  ·exact(h.dC u dir n).mono (by simp)
  ·have:=(h.dC u dir n).et (u:=u) (dir:=dir) (l:=l);exact this.mono (by simp;omega)
theorem eJ.aZ{Y:Sy}{N:Nat}(h:eJ Y N)(u:Us)(p:mX):eJ (Y.aZ u p).1 (N+5):=by
 unfold Sy.aZ;dsimp only;have h1:=h.dC u p.dir p.name
 split
 ·exact h1.mono (by omega)
 ·have h2:=h1.et (u:=u) (dir:=(Y.dC u p.dir p.name).2.1) (l:=fy);have h3:N+1+fy.length=N+5:=rfl;rw[h3] at h2
  split<;>exact h2
theorem eJ.bw{u:Us}:∀{l:List mX} {Y:Sy} {N:Nat} (e:Int),eJ Y N→eJ (Y.bw u l e).1 (N+5*l.length)
 | [],_,_,_,h=>h
 |p::l,Y,N,e,h=>by
  rw[Sy.bw]
  split
  ·exact(h.aZ u p).mono (by simp;omega)
  ·exact((h.aZ u p).bw (u:=u) (l:=l) _).mono (by simp;omega)
theorem lh(S:Fs)(d:Bool)(u:Us)(top:Int)(path:ByteArray):1≤(S.cO d u top path).length∧(S.cO d u top path).length≤2:=by
 unfold Fs.cO
 split<;>simp
theorem AI(Y:Sy)(u:Us)(top:Int):(Y.gB u top).length≤1:=by
 unfold Sy.gB
 split<;>simp
theorem eJ.bJ{Y:Sy}{N:Nat}(h:eJ Y N)(u:Us)(no:Int):eJ (Y.bJ u no).1 (N+20):=by
 unfold Sy.bJ;dsimp only;have h1:=AI Y u (Y.fs.dg no).1;have h2:=h.bw (u:=u) (l:=Y.gB u (Y.fs.dg no).1) 0
 split
 ·exact h.mono (by omega)
 ·split
  ·exact h2.mono (by omega)
  ·generalize Y.bw u (Y.gB u (Y.fs.dg no).1) 0=a at h2⊢;have h3:=(lh a.1.fs a.1.dead u (Y.fs.dg no).1 (Y.fs.dg no).2.1).2;have h4:=h2.bw (u:=u) (l:=a.1.fs.cO a.1.dead u (Y.fs.dg no).1 (Y.fs.dg no).2.1) a.2.2.2
   split
   ·exact h4.mono (by omega)
   ·split
    ·exact h4.mono (by omega)
    ·exact(h4.aZ u _).mono (by omega)
structure TM(a b:An):Prop where
 kind:b.kind=a.kind
 mode:b.mode=a.mode
 uid:b.uid=a.uid
 data:b.data=a.data
 ak:b.ak=a.ak
 au:a.au.length≤b.au.length
 ctime:a.kind≠1→b.ctime=a.ctime
def Keep(S S':Fs):Prop:=∀k a,S.get k=some a→∃b,S'.get k=some b∧TM a b
end
section
open Go.RowKit
def iu(w w':World)(pf pw:Nat)(R:Rp)(pv:Value)(Z:Sy):Prop:=∃R',bm w' pf pw R' pv Z∧aS (R.Y pf pw) (R'.Y pf pw) w w'
section
variable{w w' w'':World}{pf pw:Nat}{R R':Rp}{pv:Value}{Y Z:Sy}
theorem iu.of(h:bm w pf pw R pv Y)(hb:UA w w'):iu w w' pf pw R pv Y:=⟨R,h.an hb,aS.aq hb⟩
theorem iu.below(h:iu w w' pf pw R pv Z)(hb:UA w' w''):iu w w'' pf pw R pv Z:=by
 obtain⟨R',h1,h2⟩:=h;exact⟨R',h1.an hb,h2.trans (aS.aq hb)⟩
end
end
section
open Go.RowKit
def wtL(l:List (List UInt8)):Nat:=(l.map fun p=>p.length+1).sum
end
section
open Go.RowKit
def mtC(m:Mt):List Value:=[UF m.path,UE UL m.b,UE UL m.n]
theorem xN(m:Mt):(mtC m).length=3:=rfl
def RV(cs:List Value)(m:Mt):Prop:=cs=mtC m
def itC(x:It):List Value:=[UF x.path,UE UL x.kind,UE UL x.mode,UE UL x.uid,UE UL x.gid,UE UL x.mtime,UF x.data]
theorem j5(x:It):(itC x).length=7:=rfl
def RZ(cs:List Value)(x:It):Prop:=cs=itC x
theorem bF.an{α:Type}{w w':World}{sz n c:Nat}{Rl:List Value→α→Prop}{a:Option Addr}{xs:List α}(h:bF w sz Rl a n c xs)(hb:UA w w'):bF w' sz Rl a n c xs:=h.below hb (aa _)
structure nh(w:World)(ma:Option Addr)(mn mc:Nat)(ia:Option Addr)(il ic:Nat)(ms:List Mt)(is:List It):Prop where
 m:bF w 3 RV ma mn mc ms
 i:bF w 7 RZ ia il ic is
theorem nh.an{w w':World}{ma:Option Addr}{mn mc:Nat}{ia:Option Addr}{il ic:Nat}{ms:List Mt}{is:List It}(h:nh w ma mn mc ia il ic ms is)(hb:UA w w'):nh w' ma mn mc ia il ic ms is:=⟨h.m.an hb,h.i.an hb⟩
theorem l9{w:World}{b off n c:Nat}{ms:List Mt}(h:bF w 3 RV (some ⟨b,off,none⟩) n c ms)(k:Nat)(hk:k<ms.length) :
  w.cell? ⟨b,off+k*3,none⟩=some (UF ms[k].path)∧w.cell? ⟨b,off+k*3+1,none⟩=some (UE UL ms[k].b)∧w.cell? ⟨b,off+k*3+2,none⟩=some (UE UL ms[k].n):=by
 obtain⟨hl,-,-,h0|⟨b',off',he,hb,hel⟩⟩:=h
 ·omega
 ·injection he with he;injection he with e1 e2;subst e1 e2;obtain⟨cs,h1,h2,h3⟩:=hel k hk;unfold RV at h2;subst h2;exact⟨h3 0 (by rw[xN];omega),h3 1 (by rw[xN];omega),h3 2 (by rw[xN];omega)⟩
theorem mj{w:World}{b off n c:Nat}{is:List It}(h:bF w 7 RZ (some ⟨b,off,none⟩) n c is)(k:Nat)(hk:k<is.length) :
  w.cell? ⟨b,off+k*7,none⟩=some (UF is[k].path)∧w.cell? ⟨b,off+k*7+1,none⟩=some (UE UL is[k].kind)∧w.cell? ⟨b,off+k*7+2,none⟩=some (UE UL is[k].mode)∧
  w.cell? ⟨b,off+k*7+3,none⟩=some (UE UL is[k].uid)∧w.cell? ⟨b,off+k*7+4,none⟩=some (UE UL is[k].gid)∧w.cell? ⟨b,off+k*7+5,none⟩=some (UE UL is[k].mtime)∧w.cell? ⟨b,off+k*7+6,none⟩=some (UF is[k].data):=by
 obtain⟨hl,-,-,h0|⟨b',off',he,hb,hel⟩⟩:=h
 ·omega
 ·injection he with he;injection he with e1 e2;subst e1 e2;obtain⟨cs,h1,h2,h3⟩:=hel k hk;unfold RZ at h2;subst h2;exact⟨h3 0 (by rw[j5];omega),h3 1 (by rw[j5];omega),h3 2 (by rw[j5];omega),h3 3 (by rw[j5];omega),h3 4 (by rw[j5];omega),h3 5 (by rw[j5];omega),h3 6 (by rw[j5];omega)⟩
theorem eR{α:Type}{w:World}{sz n c:Nat}{Rl:List Value→α→Prop}{a:Option Addr}{xs:List α}(h:bF w sz Rl a n c xs)(hn:0<n):∃b off,a=some ⟨b,off,none⟩∧b<w.heap.size:=by
 obtain⟨-,-,-,h0|⟨b,off,he,hb,-⟩⟩:=h
 ·omega
 ·exact⟨b,off,he,hb⟩
theorem oS{ms:List Mt}{k:Nat}(hk:k<ms.length):be (ms.drop k)=if ms[k].path=kv∧ig ms[k].b ms[k].n=true then(ms[k].b,ms[k].n) else be (ms.drop (k+1)):=by
 rw[List.drop_eq_getElem_cons hk,be]
theorem zM(w:World){ma:Option Addr}{mn mc:Nat}{ia:Option Addr}{il ic:Nat}{ms:List Mt}{is:List It}(h:nh w ma mn mc ia il ic ms is) :
  Calls Tryz.prog 48 #[UJ #[UG ma mn mc,UG ia il ic]] w fun e w'=>e=.returned (UK #[UE UL (be ms).1,UE UL (be ms).2])∧UA w w':=by
 have HS:=Ux h;have hln:=h.m.1;have hmc:=h.m.2.1;have hmx:=h.m.2.2.1;clear h;go_enter Tryz.func48,Tryz.ntmps48;go_wp2_with fail
 go_loopw [9] (fun t9 wr=>∃k:Nat,k≤ms.length∧t9=UE UL k∧be ms=be (ms.drop k)∧UA w wr) (fun t9 _=>ms.length-(intOf t9).toNat)
 case atStart=>exact⟨0,Nat.zero_le _,rfl,rfl,ao (Below.refl _ _) _⟩
 case round=>
  obtain⟨k,hk,rfl,hE,hb⟩:=hrel;have HE:=Ux hE;have HB:=Ux hb;clear hE;by_cases hlt:k<ms.length
  ·obtain⟨b,off,rfl,hbl⟩:=eR HS.o.m (by omega);obtain⟨c0,c1,c2⟩:=l9 (HS.o.m.below hb (aa _)) k hlt;have HQ:=Ux (oS hlt);generalize ms[k]=m at c0 c1 c2 HQ;obtain⟨mp,mb,mk⟩:=m;have hX:=ax.new wr #[UF mp,UE UL mb,UE UL mk] 125;have aJ:=ao hb (.cells #[UF mp,UE UL mb,UE UL mk] 125);clear hb;go_upto_region 4 with fail;generalize wr.alloc _=X at hX aJ⊢;have HX:=Ux hX;have bC:=Ux aJ;obtain⟨xc,xf,xz⟩:=hX.facts;clear hX aJ c0 c1 c2;by_cases h1:mp=kv
   ·have o8:mp.toList=[47]:=by rw[h1,cd];rfl
    have HP:=Ux h1;clear h1;by_cases h2:mb<1
    ·skip
     have HN:=Ux (HE.o.trans (HQ.o.trans (if_neg (fun h=>by have h9:1≤mb:=(pY h.2).1;omega))));go_wp2_with fail;go_roundw
     case rel=>exact⟨k+1,by omega,by go_num,HN.o,bC.o⟩
     case measure=>simp[intOf];omega
    by_cases h3:1073741824<mb
    ·skip
     have HN:=Ux (HE.o.trans (HQ.o.trans (if_neg (fun h=>by have h9:mb≤1073741824:=(pY h.2).2.1;omega))));go_wp2_with fail;go_roundw
     case rel=>exact⟨k+1,by omega,by go_num,HN.o,bC.o⟩
     case measure=>simp[intOf];omega
    by_cases h4:mk<1
    ·skip
     have HN:=Ux (HE.o.trans (HQ.o.trans (if_neg (fun h=>by have h9:1≤mk:=(pY h.2).2.2.1;omega))));go_wp2_with fail;go_roundw
     case rel=>exact⟨k+1,by omega,by go_num,HN.o,bC.o⟩
     case measure=>simp[intOf];omega
    by_cases h5:65536<mk
    ·skip
     have HN:=Ux (HE.o.trans (HQ.o.trans (if_neg (fun h=>by have h9:mk≤65536:=(pY h.2).2.2.2;omega))));go_wp2_with fail;go_roundw
     case rel=>exact⟨k+1,by omega,by go_num,HN.o,bC.o⟩
     case measure=>simp[intOf];omega
    have HN:=Ux (HE.o.trans (HQ.o.trans (if_pos ⟨HP.o,O3 mb mk (by omega) (by omega) (by omega) (by omega)⟩)));have mixed:Tryz.prog.follows .mixedOrders=true:=by kernel_rfl
    go_wp2_with fail
    go_region
    all_goals
     go_wp2_with fail;go_ret2;rw[HN.o];exact⟨rfl,bC.o.drew⟩
   ·have o8:(mp.toList==[47])=false:=by
     rw[cd];simp only[beq_eq_false_iff_ne,ne_eq];exact fun e=>h1 (uw e)
    have HN:=Ux (HE.o.trans (HQ.o.trans (if_neg (fun h=>h1 h.1))));go_wp2_with fail;go_roundw
    case rel=>exact⟨k+1,by omega,by go_num,HN.o,bC.o⟩
    case measure=>simp[intOf];omega
  ·obtain rfl:k=ms.length:=by omega
   have bS:=Ux (show be ms=(65536,65536) by rw[HE.o,List.drop_length];rfl);clear hb;go_wp2_with fail;go_ret2;rw[bS.o];exact⟨rfl,HB.o⟩
end
section
open Go.RowKit
section
variable{w w':World}{pf pw:Nat}{R:Rp}{pv:Value}{Y:Sy}
theorem bm.other(h:bm w pf pw R pv Y){B:Nat}{vs:Array Value}{T:TypeId}(hb:ax w B vs T)(hT:jd (.cells #[] T (0,0))=false)(h1:T≠42)(h2:T≠98)(h3:T≠162)(hm:Mod (fun k=>k=B) w w'):bm w' pf pw R pv Y:=by
 unfold ax at hb;refine⟨h.bD.mod hm (fun e=>?_),h.wd.mod hm (fun k o hk ho=>?_),bY h.cC hm (fun k hk he=>?_)⟩
 ·subst e;have hq:=h.bD;unfold ax at hq;rw[hb] at hq;injection hq with hq;injection hq with hq e;exact h1 e
 ·subst hk;rw[hb] at ho;injection ho with ho;subst ho;exact⟨hT,fun cur e=>by injection e with e1 e2;exact h2 e2⟩
 ·subst hk;obtain⟨-,cur,hc⟩:=aH h.cC he;rw[hb] at hc;injection hc with hc;injection hc with hc e;exact h3 e
theorem aS.j3{F F':Nat→Prop}(h:aS F F' w w'){B:Nat}(hB:w.heap.size≤B)(i:Nat)(v:Value):aS F F' w (w'.setCell ⟨B,i,none⟩ v):=
 ⟨h.mod.setCell (a:=⟨B,i,none⟩) (.inr hB) v,h.new⟩
theorem wg{S:Fs}{m:Mt}(h:(S.path cw m.path false).2≠0):bP S m=S:=by unfold bP;rw[if_pos h]
theorem we{S:Fs}{m:Mt}(h:(S.path cw m.path false).2=0)(h0:(S.path cw m.path false).1.no=0)(he:(S.aN cw 0 (S.path cw m.path false).1.dir (S.path cw m.path false).1.name 493).2.2=0) :
  bP S m=((S.aN cw 0 (S.path cw m.path false).1.dir (S.path cw m.path false).1.name 493).1.bR (S.aN cw 0 (S.path cw m.path false).1.dir (S.path cw m.path false).1.name 493).2.1 m.b m.n).1:=by
 unfold bP;rw[if_neg (by simp[h]),if_pos h0];simp only;rw[if_neg (by simp[he])]
theorem tj{S:Fs}{m:Mt}(h:(S.path cw m.path false).2=0)(h0:(S.path cw m.path false).1.no=0)(he:(S.aN cw 0 (S.path cw m.path false).1.dir (S.path cw m.path false).1.name 493).2.2≠0) :
  bP S m=(S.aN cw 0 (S.path cw m.path false).1.dir (S.path cw m.path false).1.name 493).1:=by
 unfold bP;rw[if_neg (by simp[h]),if_pos h0];simp only;rw[if_pos he]
theorem vZ{S:Fs}{m:Mt}(h:(S.path cw m.path false).2=0)(h0:(S.path cw m.path false).1.no≠0):bP S m=(S.bR (S.path cw m.path false).1.no m.b m.n).1:=by
 unfold bP;rw[if_neg (by simp[h]),if_neg h0]
theorem Ci(h:bm w pf pw R pv Y){N:Nat}(hk:ay Y.fs N)(hN:N≤999990)(hc:Calm Y)(hcc:Y.count≤4000000)(m:Mt)(hp:m.path.size≤100000) :
  Calls Tryz.prog 49 #[UH (some ⟨pf,0,none⟩),UJ #[UF m.path,UE UL m.b,UE UL m.n]] w fun e w'=>e=.returned (UK #[])∧fM w w' pf pw R pv Y (bP Y.fs m) 1:=by
 have HY:=Ux h;have HK:=Ux hk;have HC:=Ux hc;have HF:=Ux (fun w1 (av:UA w w1)=>mH (h.an av) hk (by omega) hc.dead cw m.path hp false);have pC:=Ux (vS hk cw m.path (by omega) false);have mixed:Tryz.prog.follows .mixedOrders=true:=by kernel_rfl
 have eA:=Ux (wg (S:=Y.fs) (m:=m));have bS:=Ux (we (S:=Y.fs) (m:=m));have kP:=Ux (tj (S:=Y.fs) (m:=m));have wX:=Ux (vZ (S:=Y.fs) (m:=m));generalize bP Y.fs m=Z at eA bS kP wX⊢;generalize Y.fs.path cw m.path false=x at HF pC eA bS kP wX;obtain⟨⟨xd,xn,xk,xs⟩,xe⟩:=x;unfold Fd.v at HF;obtain⟨Tf,de⟩:=Uz w #[UF m.path,UE UL m.b,UE UL m.n] 125;clear h hk hc;go_enter Tryz.func49,Tryz.ntmps49;go_wp2_with fail;refine(HF.o _ de).mono ?_;rintro e w1 ⟨rfl,av⟩;have Ge:=(Tf.an av).bI (.cells #[UE UL xd,UF xn,UE UL xk,.bool xs] 176);have rn:=ax.new w1 #[UE UL xd,UF xn,UE UL xk,.bool xs] 176;have aJ:=ao (ar de av) (.cells #[UE UL xd,UF xn,UE UL xk,.bool xs] 176);have hlw:w.heap.size<w1.heap.size:=by have:=av.size;simp at this;omega
 clear Tf de av;go_upto_region 2 with fail;generalize w1.alloc _=X at Ge rn aJ⊢;have La:=Ux Ge;have Nq:=Ux rn;have bC:=Ux aJ;obtain⟨xc,xf,xz⟩:=rn.facts;obtain⟨mc,mf,mz⟩:=Ge.facts;have hYX:=HY.o.an aJ;have TR:=Ux hYX;obtain⟨pc,-,pz⟩:=hYX.bD.facts;clear Ge rn aJ hYX;by_cases he:xe=0
 ·have heb:(xe==0)=true:=by simpa using he
  subst he;by_cases hno:xk=0
  ·have hnb:(xk==0)=true:=by simpa using hno
   have HM:=Ux (k7 TR.o HK.o (by omega) ⟨HC.o.c0,by omega⟩ (by rw[HC.o.cC];exact Nat.zero_le _) cw xd xn 493 (by have h9:xn.size≤1048576:=pC.o;omega));rw[HC.o.op] at HM;have yQ:=Ux (bS.o rfl hno);have yP:=Ux (kP.o rfl hno);dsimp only at yQ yP HM;have gQ:=Ux (gW HK.o cw 0 xd xn 493);clear eA bS kP wX hno;generalize Y.fs.aN cw 0 xd xn 493=q at HM yQ yP gQ;obtain⟨S1,n1,e1⟩:=q;dsimp only at HM yQ yP gQ;go_wp2_with fail;refine HM.o.mono ?_;rintro e w3 ⟨rfl,R3,pI,iN⟩;have BN:=La.o.sy TR.o iN rfl (by decide);have ob:=Nq.o.sy TR.o iN rfl (by decide);have P7:=Ux ob;have Lb:=Ux BN;have HY3:=Ux pI;have BD:=Ux ((aS.aq bC.o).trans iN);clear xc xf xz mc mf mz pc pz;obtain⟨xc,xf,xz⟩:=ob.facts;clear BN ob pI iN;go_upto_region 4 with fail;have F6:=HY3.o.other (P7.o) rfl (by decide) (by decide) (by decide) ((Mod.refl (fun k=>k=w1.heap.size) w3).setCell (a:=⟨w1.heap.size,2,none⟩) (.inl rfl) (UE UL n1));have xX:=P7.o.set 2 (UE UL n1);have hne:w1.heap.size≠w.heap.size:=by have:=P7.o.lt;have:=La.o.lt;have:=hlw;omega
   have QT:=Lb.o.setOther ⟨w1.heap.size,2,none⟩ (UE UL n1) hne;have oY:aS (R.Y pf pw) (R3.Y pf pw) w (w3.setCell ⟨w1.heap.size,2,none⟩ (UE UL n1)):=BD.o.j3 (show w.heap.size≤w1.heap.size by have:=hlw;omega) _ _;generalize World.setCell _ _ _=W4 at F6 xX QT oY⊢;have HY4:=Ux F6;have re:=Ux oY;clear xc xf xz;obtain⟨xc,xf,xz⟩:=xX.facts;obtain⟨mc,mf,mz⟩:=QT.facts;obtain⟨pc,-,pz⟩:=F6.bD.facts;clear F6 xX QT oY;by_cases D6:e1=0
   ·have he1b:(e1==0)=true:=by simpa using D6
    have HE:=Ux (yQ.o D6);have HMt:=Ux (rZ (HY4.o.wd.an (Below.refl _ W4).drew) gQ.o (by omega) n1 m.b m.n);subst D6;go_wp2_with fail;refine aG 10 mixed (by kernel_rfl) (show cn _ from by repeat (first|exact cS|refine cR ?_|refine cx ?_|refine cG ?_)) ?_;simp only[List.take_succ_cons,List.take_zero,List.drop_succ_cons,List.drop_zero]
    repeat still_step
    refine wpStill_nil ?_;go_wp2_with fail;refine HMt.o.mono ?_;rintro e w5 ⟨rfl,R5,iq,eW⟩;have HX:=Ux (ag ((HY4.o.an (Below.refl _ W4).drew).step iq eW) ((re.o.trans (gR (aS.aq (F:=R3.F pw) (Below.refl _ W4).drew))).trans (gR eW)));clear iq eW;go_wp2_with fail
    go_end0
    rw[HE.o];exact⟨rfl,R5,_,HX.o.1,rfl,(HC.o.next S1).fs _,by show Y.count+1≤_;omega,HX.o.2⟩
   ·have he1b:(e1==0)=false:=by simpa using D6
    have HE:=Ux (yP.o D6);clear D6;go_wp2_with fail
    go_end0
    rw[HE.o];exact⟨rfl,R3,_,HY4.o,rfl,HC.o.next S1,by show Y.count+1≤_;omega,re.o⟩
  ·have hnb:(xk==0)=false:=by simpa using hno
   have HE:=Ux (wX.o rfl hno);have HMt:=Ux (rZ (TR.o.wd.an (Below.refl _ X).drew) HK.o (by omega) xk m.b m.n);clear eA bS kP wX hno;go_wp2_with fail;refine aG 10 mixed (by kernel_rfl) (show cn _ from by repeat (first|exact cS|refine cR ?_|refine cx ?_|refine cG ?_)) ?_;simp only[List.take_succ_cons,List.take_zero,List.drop_succ_cons,List.drop_zero]
   repeat still_step
   refine wpStill_nil ?_;go_wp2_with fail;refine HMt.o.mono ?_;rintro e w5 ⟨rfl,R5,iq,eW⟩;have HX:=Ux (ag ((TR.o.an (Below.refl _ X).drew).step iq eW) (((aS.aq (F:=R.Y pf pw) bC.o).trans (aS.aq (F:=R.Y pf pw) (Below.refl _ X).drew)).trans (gR eW)));clear iq eW;go_wp2_with fail
   go_end0
   rw[HE.o];exact⟨rfl,R5,_,HX.o.1,rfl,HC.o.fs _,by show Y.count≤_;omega,HX.o.2⟩
 ·have heb:(xe==0)=false:=by simpa using he
  have HE:=Ux (eA.o he);clear he;go_wp2_with fail
  go_end0
  rw[HE.o];exact⟨rfl,(fM.same HY.o HC.o bC.o).mono (by omega)⟩
end
end
section
open Go.RowKit
section
variable{S:Fs}{it:It}{x:Fd}{e:Int}
theorem Aq(hx:S.path cw it.path false=(x,e))(h:e≠0):cj S it=(S,0):=by unfold cj;rw[hx];simp only;rw[if_pos h]
theorem Ao(hx:S.path cw it.path false=(x,e))(h:e=0)(h0:x.no≠0)(h1:it.kind=1)(h2:S.mh x.no=1):cj S it=(S,x.no):=by unfold cj;rw[hx];simp only;rw[if_neg (by simp[h]),if_pos h0,if_pos ⟨h1,h2⟩]
theorem oO(hx:S.path cw it.path false=(x,e))(h:e=0)(h0:x.no≠0)(h1:¬(it.kind=1∧S.mh x.no=1)):cj S it=(S,0):=by unfold cj;rw[hx];simp only;rw[if_neg (by simp[h]),if_pos h0,if_neg h1]
theorem Ap(hx:S.path cw it.path false=(x,e))(h:e=0)(h0:x.no=0):cj S it =
  (if it.kind=1 then((S.aN cw 0 x.dir x.name 493).1,(S.aN cw 0 x.dir x.name 493).2.1)
 else if it.kind=2 then((S.file cw 0 x.dir x.name 420 it.data).1,(S.file cw 0 x.dir x.name 420 it.data).2.1)
 else if it.kind=3 then((S.sym cw 0 x.dir x.name it.data).1,(S.sym cw 0 x.dir x.name it.data).2.1)
 else if it.kind=4 then
  (if(S.path cw it.data false).2=0 then((S.dV cw 0 (S.path cw it.data false).1.no x.dir x.name).1,0) else(S,0))
 else(S,0)):=by unfold cj;rw[hx];simp only;rw[if_neg (by simp[h]),if_neg (by simp[h0])]
theorem E0(S:Fs)(k:Int):∃y0 y1 y2 y3 y4 y5 y6 y7 y8 y9:Int,E1 (S.get k)=UJ #[UE UL y0,UE UL y1,UE UL y2,UE UL y3,UE UL y4,UE UL y5,UE UL y6,UE UL y7,UE UL y8,UE UL y9]∧y2=S.mh k:=by
 unfold Fs.mh
 cases S.get k with
 |none=>exact⟨_,_,_,_,_,_,_,_,_,_,rfl,rfl⟩
 |some a=>exact⟨_,_,_,_,_,_,_,_,_,_,rfl,rfl⟩
end
section
variable{w w':World}{pf pw:Nat}{R:Rp}{pv:Value}{Y:Sy}
theorem E3(h:bm w pf pw R pv Y){N:Nat}(hk:ay Y.fs N)(hN:N≤999990)(hc:Calm Y)(hcc:Y.count≤4000000)(it:It)(hp:it.path.size≤100000)(hd:it.data.size≤100000) :
  Calls Tryz.prog 50 #[UH (some ⟨pf,0,none⟩),UJ #[UF it.path,UE UL it.kind,UE UL it.mode,UE UL it.uid,UE UL it.gid,UE UL it.mtime,UF it.data]] w fun e w'=>e=.returned (UE UL (cj Y.fs it).2)∧fM w w' pf pw R pv Y (cj Y.fs it).1 1:=by
 have HY:=Ux h;have HK:=Ux hk;have HC:=Ux hc;have HF:=Ux (fun w1 (av:UA w w1)=>mH (h.an av) hk (by omega) hc.dead cw it.path hp false);have pC:=Ux (vS hk cw it.path (by omega) false);generalize hx:Y.fs.path cw it.path false=x at HF pC;obtain⟨⟨xd,xn,xk,xs⟩,xe⟩:=x;have Kw:=Ux hx;unfold Fd.v at HF;obtain⟨y0,y1,y2,y3,y4,y5,y6,y7,y8,y9,hst,G5⟩:=E0 Y.fs xk;have jY:=Ux (fun w1 (av:UA w w1)=>jD (h.an av) hk hc.dead xk);rw[hst] at jY;have HKo:=Ux G5;obtain⟨Ea,de⟩:=Uz w #[UF it.path,UE UL it.kind,UE UL it.mode,UE UL it.uid,UE UL it.gid,UE UL it.mtime,UF it.data] 82;clear h hk hc hx hst G5;go_enter Tryz.func50,Tryz.ntmps50;go_wp2_with fail;refine(HF.o _ de).mono ?_;rintro e w1 ⟨rfl,av⟩;have N9:=(Ea.an av).bI (.cells #[UE UL xd,UF xn,UE UL xk,.bool xs] 176);have rn:=ax.new w1 #[UE UL xd,UF xn,UE UL xk,.bool xs] 176;have aJ:=ao (ar de av) (.cells #[UE UL xd,UF xn,UE UL xk,.bool xs] 176);clear Ea de av;go_upto_region 2 with fail;generalize w1.alloc _=X at N9 rn aJ⊢;have Rn:=Ux N9;have Nq:=Ux rn;have bC:=Ux aJ;obtain⟨xc,xf,xz⟩:=rn.facts;clear N9 rn aJ;go_wp2_with fail;refine(jY.o _ bC.o).mono ?_;rintro e w2 ⟨rfl,aY⟩;have hI2:=(Rn.o.an aY).bI (.cells #[UE UL y0,UE UL y1,UE UL y2,UE UL y3,UE UL y4,UE UL y5,UE UL y6,UE UL y7,UE UL y8,UE UL y9] 67);have mU:=(Nq.o.an aY).bI (.cells #[UE UL y0,UE UL y1,UE UL y2,UE UL y3,UE UL y4,UE UL y5,UE UL y6,UE UL y7,UE UL y8,UE UL y9] 67);have j7:=ax.new w2 #[UE UL y0,UE UL y1,UE UL y2,UE UL y3,UE UL y4,UE UL y5,UE UL y6,UE UL y7,UE UL y8,UE UL y9] 67;have G8:=ao (ar bC.o aY) (.cells #[UE UL y0,UE UL y1,UE UL y2,UE UL y3,UE UL y4,UE UL y5,UE UL y6,UE UL y7,UE UL y8,UE UL y9] 67);clear aY xc xf xz;go_upto_region 3 with fail;generalize w2.alloc _=Z at hI2 mU j7 G8⊢;have HI2:=Ux hI2;have DC:=Ux mU;have rX:=Ux G8;have HYZ:=Ux (HY.o.an G8);obtain⟨ic,if',iz⟩:=hI2.facts;obtain⟨xc,xf,xz⟩:=mU.facts;obtain⟨sc,sf,sz⟩:=j7.facts;clear hI2 mU j7 G8;by_cases he:xe=0
 ·have heb:(xe != 0)=false:=by simpa using he
  subst he;by_cases hno:xk=0
  ·have hnb:(xk != 0)=false:=by simpa using hno
   have HN:=Ux (Ap Kw.o rfl hno);dsimp only at HN;clear hno;by_cases k1:it.kind=1
   ·have k1b:(it.kind==1)=true:=by simpa using k1
    have HQ:=Ux k1;clear k1;have HE:=Ux (HN.o.trans (if_pos HQ.o));have HM:=Ux (k7 HYZ.o HK.o (by omega) ⟨HC.o.c0,by omega⟩ (by rw[HC.o.cC];exact Nat.zero_le _) cw xd xn 493 (by have h9:xn.size≤1048576:=pC.o;omega));rw[HC.o.op] at HM;dsimp only at HM;go_wp2_with fail;refine HM.o.mono ?_;rintro e w5 ⟨rfl,R5,AM,eW⟩;have HX:=Ux (ag AM ((aS.aq (F:=R.Y pf pw) rX.o).trans eW));clear AM eW;go_wp2_with fail;go_ret;rw[HE.o];exact⟨rfl,R5,_,HX.o.1,rfl,HC.o.next _,by show Y.count+1≤_;omega,HX.o.2⟩
   have k1b:(it.kind==1)=false:=by simpa using k1
   have HN1:=Ux (HN.o.trans (if_neg k1));clear k1 HN;by_cases k2:it.kind=2
   ·have k2b:(it.kind==2)=true:=by simpa using k2
    have HQ:=Ux k2;clear k2;have HE:=Ux (HN1.o.trans (if_pos HQ.o));have HM:=Ux (fS HYZ.o HK.o (by omega) ⟨HC.o.c0,by omega⟩ (by rw[HC.o.cC];exact Nat.zero_le _) cw xd xn 420 it.data (by have h9:xn.size≤1048576:=pC.o;omega) (by omega));rw[HC.o.op] at HM;dsimp only at HM;go_wp2_with fail;refine HM.o.mono ?_;rintro e w5 ⟨rfl,R5,AM,eW⟩;have HX:=Ux (ag AM ((aS.aq (F:=R.Y pf pw) rX.o).trans eW));clear AM eW;go_wp2_with fail;go_ret;rw[HE.o];exact⟨rfl,R5,_,HX.o.1,rfl,HC.o.next _,by show Y.count+1≤_;omega,HX.o.2⟩
   have k2b:(it.kind==2)=false:=by simpa using k2
   have BQ:=Ux (HN1.o.trans (if_neg k2));clear k2 HN1;by_cases k3:it.kind=3
   ·have k3b:(it.kind==3)=true:=by simpa using k3
    have HQ:=Ux k3;clear k3;have HE:=Ux (BQ.o.trans (if_pos HQ.o));have HM:=Ux (IC HYZ.o HK.o (by omega) ⟨HC.o.c0,by omega⟩ (by rw[HC.o.cC];exact Nat.zero_le _) cw xd xn it.data (by have h9:xn.size≤1048576:=pC.o;omega) (by omega));rw[HC.o.op] at HM;dsimp only at HM;go_wp2_with fail;refine HM.o.mono ?_;rintro e w5 ⟨rfl,R5,AM,eW⟩;have HX:=Ux (ag AM ((aS.aq (F:=R.Y pf pw) rX.o).trans eW));clear AM eW;go_wp2_with fail;go_ret;rw[HE.o];exact⟨rfl,R5,_,HX.o.1,rfl,HC.o.next _,by show Y.count+1≤_;omega,HX.o.2⟩
   have k3b:(it.kind==3)=false:=by simpa using k3
   have Qk:=Ux (BQ.o.trans (if_neg k3));clear k3 BQ;by_cases k4:it.kind=4
   ·have k4b:(it.kind==4)=true:=by simpa using k4
    have vq:=Ux (Qk.o.trans (if_pos k4));have wW:=Ux (mH HYZ.o HK.o (by omega) HC.o.dead cw it.data hd false);generalize Y.fs.path cw it.data false=y at wW vq;obtain⟨⟨yd,yn,yk,ys⟩,ye⟩:=y;unfold Fd.v at wW;dsimp only at vq;clear k4 Qk;go_wp2_with fail;refine wW.o.mono ?_;rintro e w3 ⟨rfl,cl⟩;have ob:=(DC.o.an cl).bI (.cells #[UE UL yd,UF yn,UE UL yk,.bool ys] 176);have hV3:=ax.new w3 #[UE UL yd,UF yn,UE UL yk,.bool ys] 176;have CW:=ao (ar rX.o cl) (.cells #[UE UL yd,UF yn,UE UL yk,.bool ys] 176);clear cl ic if' iz xc xf xz sc sf sz;go_upto_region 19 with fail;generalize w3.alloc _=V at ob hV3 CW⊢;have HBV:=Ux CW;have HYV:=Ux (HY.o.an CW);obtain⟨xc,xf,xz⟩:=ob.facts;obtain⟨vc,vf,vz⟩:=hV3.facts;clear ob hV3 CW;by_cases hye:ye=0
    ·have hyb:(ye==0)=true:=by simpa using hye
     have HE:=Ux (vq.o.trans (if_pos hye));have HM:=Ux (E4 HYV.o HK.o (by omega) ⟨HC.o.c0,by omega⟩ (by rw[HC.o.cC];exact Nat.zero_le _) cw yk xd xn (by have h9:xn.size≤1048576:=pC.o;omega));rw[HC.o.fN] at HM;dsimp only at HM;clear hye;go_wp2_with fail;refine HM.o.mono ?_;rintro e w5 ⟨rfl,R5,AM,eW⟩;have HX:=Ux (ag AM ((aS.aq (F:=R.Y pf pw) HBV.o).trans eW));clear AM eW;go_wp2_with fail;go_ret;rw[HE.o];exact⟨rfl,R5,_,HX.o.1,rfl,HC.o.next _,by show Y.count+1≤_;omega,HX.o.2⟩
    ·have hyb:(ye==0)=false:=by simpa using hye
     have HE:=Ux (vq.o.trans (if_neg hye));clear hye;go_wp2_with fail;go_ret;rw[HE.o];exact⟨rfl,(fM.same HY.o HC.o HBV.o).mono (by omega)⟩
   have k4b:(it.kind==4)=false:=by simpa using k4
   have vq:=Ux (Qk.o.trans (if_neg k4));clear k4 Qk;have HE:=Ux (vq.o);go_wp2_with fail;go_ret;rw[HE.o];exact⟨rfl,(fM.same HY.o HC.o rX.o).mono (by omega)⟩
  ·have hnb:(xk != 0)=true:=by simpa using hno
   by_cases k1:it.kind=1
   ·have k1b:(it.kind==1)=true:=by simpa using k1
    by_cases k2:y2=1
    ·have k2b:(y2==1)=true:=by simpa using k2
     have HQ:=Ux (Ao Kw.o rfl hno k1 (by rw[←HKo.o];exact k2));clear hno k1 k2;have HE:=Ux (HQ.o);go_wp2_with fail;go_ret;rw[HE.o];exact⟨rfl,(fM.same HY.o HC.o rX.o).mono (by omega)⟩
    ·have k2b:(y2==1)=false:=by simpa using k2
     have HQ:=Ux (oO Kw.o rfl hno (fun h=>k2 (by rw[HKo.o];exact h.2)));clear hno k1 k2;have HE:=Ux (HQ.o);go_wp2_with fail;go_ret;rw[HE.o];exact⟨rfl,(fM.same HY.o HC.o rX.o).mono (by omega)⟩
   ·have k1b:(it.kind==1)=false:=by simpa using k1
    have HQ:=Ux (oO Kw.o rfl hno (fun h=>k1 h.1));clear hno k1;have HE:=Ux (HQ.o);go_wp2_with fail;go_ret;rw[HE.o];exact⟨rfl,(fM.same HY.o HC.o rX.o).mono (by omega)⟩
 ·have heb:(xe != 0)=true:=by simpa using he
  have HQ:=Ux (Aq Kw.o he);clear he;have HE:=Ux (HQ.o);go_wp2_with fail;go_ret;rw[HE.o];exact⟨rfl,(fM.same HY.o HC.o rX.o).mono (by omega)⟩
end
end
end Go.Proofs.YtabbjaomlmnnhaaGreat
