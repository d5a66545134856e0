import Derived.Test.YtabbjaomlmnnhaaGreatCS11
import Derived.Test.YtabbjaomlmnnhaaGreatCS3
import Derived.Test.YtabbjaomlmnnhaaGreatCS10
import Derived.Test.YtabbjaomlmnnhaaGreatCS5
import Derived.Test.YtabbjaomlmnnhaaGreatCS4
import Derived.Test.YtabbjaomlmnnhaaGreatCS1
import Derived.Test.YtabbjaomlmnnhaaGreatCS9
import Derived.Test.YtabbjaomlmnnhaaGreatCS8
set_option linter.unusedVariables false
set_option linter.unusedSimpArgs false
set_option maxRecDepth 100000
set_option maxHeartbeats 16000000
namespace Go.Proofs.YtabbjaomlmnnhaaGreat
section
open Go.RowKit
structure Us where
 u:Int
 g:Int
 data:ByteArray
def Us.c(x:Us):Cr:=⟨x.u,x.g⟩
def Us.v(x:Us):Value:=.agg #[.int .i64 x.u,.int .i64 x.g,.string x.data]
structure pA where
 dir:Int
 name:ByteArray
 top:ByteArray
structure Cn where
 path:ByteArray
 dir:Int
 info:Int
 files:Int
 out:Int
 jm:Int
 top:ByteArray
 deriving DecidableEq
def iV:Cn:=⟨ByteArray.empty,0,0,0,0,0,ByteArray.empty⟩
def gq:ByteArray:=ByteArray.mk #[84,114,97,115,104]
def fL:ByteArray:=ByteArray.mk #[46,84,114,97,115,104]
def iJ:ByteArray:=ByteArray.mk #[105,110,102,111]
def fQ:ByteArray:=ByteArray.mk #[102,105,108,101,115]
def mA:ByteArray:=ByteArray.mk #[101,120,112,117,110,103,101,100]
def mx:ByteArray:=ByteArray.mk #[109,111,118,105,110,103]
def KZ:ByteArray:=ByteArray.mk #[114,97,103,112,105,99,107,101,114,46,117,110,100,111]
def Fs.bh(S:Fs)(d:Bool)(c:Cr)(dir:Int)(n:ByteArray):Int×Int:=
 if d=true then(0,20) else if S.dY c dir 1 1≠0 then(0,S.dY c dir 1 1)
 else if aF (S.bw dir) n=0 then(0,5) else(S.aC (aF (S.bw dir) n),0)
def KV(c:Cr)(x y:An)(no:Int):Int×Int:=
 if x.kind≠1 then(0,9) else if x.dev≠y.dev then(0,16) else if x.uid≠c.u then(0,4) else if x.may c 7=false then(0,6) else(no,0)
def Fs.fu(S:Fs)(d:Bool)(c:Cr)(dir:Int)(n:ByteArray):Int×Int:=
 if(S.bh d c dir n).2=5 then(0,0) else if(S.bh d c dir n).2≠0 then(0,(S.bh d c dir n).2)
 else KV c (S.bl (S.bh d c dir n).1) (S.bl dir) (S.bh d c dir n).1
def Fs.fi(S:Fs)(d:Bool)(u:Us):Int×Int:=
 if d=true then(0,20) else if(S.path u.c u.data true).2≠0 then(0,(S.path u.c u.data true).2)
 else if(S.path u.c u.data true).1.no=0 then(0,5) else if(S.bl (S.path u.c u.data true).1.no).kind≠1 then(0,9) else((S.path u.c u.data true).1.no,0)
def LU(x y:An)(no:Int):Int×Int:=
 if x.kind≠1 then(0,9) else if x.dev≠y.dev then(0,16) else if x.mode<512 then(0,4) else(no,0)
def Fs.iq(S:Fs)(d:Bool)(c:Cr)(top:Int):Int×Int:=
 if(S.bh d c top fL).2≠0 then(0,(S.bh d c top fL).2)
 else LU (S.bl (S.bh d c top fL).1) (S.bl top) (S.bh d c top fL).1
def DG(n:Int):ByteArray:=str (js n)
def nj(u:Int):ByteArray:=ByteArray.mk #[46,84,114,97,115,104,45]++DG u
def Fs.cY(S:Fs)(d:Bool)(u:Us)(top:Int)(path:ByteArray):List pA:=
 (if(S.iq d u.c top).2=0 then[⟨(S.iq d u.c top).1,DG u.u,path⟩] else[])++[⟨top,nj u.u,path⟩]
def eW(r:Int×Int):Int×Int:=if r.2=0∧r.1=0 then(0,5) else r
def Fs.uX(S:Fs)(dir:Int)(top:ByteArray)(i f o y:Int):Cn×Int:=match S.fP dir with
 |none=>(iV,5)
 |some s=>(⟨s,dir,i,f,o,y,top⟩,0)
def Fs.uW(S:Fs)(d:Bool)(c:Cr)(dir:Int)(top:ByteArray)(i f o:Int):Cn×Int:=
 if(S.fu d c dir mx).2≠0 then(iV,(S.fu d c dir mx).2) else S.uX dir top i f o (S.fu d c dir mx).1
def Fs.uV(S:Fs)(d:Bool)(c:Cr)(dir:Int)(top:ByteArray)(i f:Int):Cn×Int:=
 if(S.fu d c dir mA).2≠0 then(iV,(S.fu d c dir mA).2) else S.uW d c dir top i f (S.fu d c dir mA).1
def Fs.uU(S:Fs)(d:Bool)(c:Cr)(dir:Int)(top:ByteArray)(i:Int):Cn×Int:=
 if(eW (S.fu d c dir fQ)).2≠0 then(iV,(eW (S.fu d c dir fQ)).2) else S.uV d c dir top i (eW (S.fu d c dir fQ)).1
def Fs.qY(S:Fs)(d:Bool)(c:Cr)(dir:Int)(top:ByteArray):Cn×Int:=
 if(eW (S.fu d c dir iJ)).2≠0 then(iV,(eW (S.fu d c dir iJ)).2) else S.uU d c dir top (eW (S.fu d c dir iJ)).1
def Fs.kp(S:Fs)(d:Bool)(u:Us)(p:pA):Cn×Int:=
 if(eW (S.fu d u.c p.dir p.name)).2≠0 then(iV,(eW (S.fu d u.c p.dir p.name)).2) else S.qY d u.c (eW (S.fu d u.c p.dir p.name)).1 p.top
theorem qw{no:Int}(h:no≠0):eW (no,0)=(no,0):=by
 unfold eW;rw[if_neg (by simpa using h)]
theorem qu:eW (0,0)=(0,5):=rfl
theorem qv(no:Int){e:Int}(h:e≠0):eW (no,e)=(no,e):=by
 unfold eW;rw[if_neg (fun k=>h k.1)]
def NV(l:List Cn)(x:Cn):List Cn:=if l.any (fun y=>y.dir==x.dir)=true then l else l++[x]
def Fs.Px(S:Fs)(d:Bool)(u:Us)(l:List Cn)(p:pA):List Cn:=if(S.kp d u p).2=0 then NV l (S.kp d u p).1 else l
def Fs.Ol(S:Fs)(d:Bool)(u:Us):List Cn:=
 if(S.fi d u).2=0 then(if(S.kp d u ⟨(S.fi d u).1,gq,ByteArray.empty⟩).2=0 then[(S.kp d u ⟨(S.fi d u).1,gq,ByteArray.empty⟩).1] else[]) else[]
def Fs.NQ(S:Fs)(d:Bool)(u:Us)(l:List Cn)(t:Int×ByteArray):List Cn:=(S.cY d u t.1 t.2).foldl (S.Px d u) l
def Fs.Pv(S:Fs)(d:Bool)(u:Us):List Cn:=S.J1.foldl (S.NQ d u) (S.Ol d u)
def Fs.keepsF(S:Fs)(d:Bool)(u:Us)(no dir:Int)(n:ByteArray):Int:=
 if(S.Pv d u).any (fun x=>S.within x.dir no||S.within dir x.dir)=true then 17
 else if(S.fi d u).2=0∧(S.within (S.fi d u).1 no=true∨dir=(S.fi d u).1∧n=KZ) then 17 else 0
def Fs.Ok(S:Fs)(d:Bool)(u:Us):List ByteArray:=
 if(S.fi d u).2=0 then(match S.fP (S.fi d u).1 with|some s=>[kl s gq]|none=>[]) else[]
def NX(u:Us)(t:Int×ByteArray):List ByteArray:=[kl (kl t.2 fL) (DG u.u),kl t.2 (nj u.u)]
def Fs.pathsF(S:Fs)(d:Bool)(u:Us):List ByteArray:=S.Ok d u++S.J1.flatMap (NX u)
structure iY(S:Fs)(N:Nat):Prop where
 ok:ax S N
 pl:Pl S
 tr:Tr S
 wy:Wy S
 nm:Nm S
theorem qP(ms:List Mt)(is:List It):iY (cU ms is) (1+2*ms.length+is.length):=⟨wZ ms is,E7 ms is,E6 ms is,E5 ms is,E8 ms is⟩
theorem iY.aO{S:Fs}{N:Nat}(h:iY S N)(c:Cr)(now dir:Int)(s:ByteArray)(m:Int):iY (S.aO c now dir s m).1 (N+1):=
 ⟨gN h.ok c now dir s m,h.pl.aO h.ok c now dir s m,h.tr.aO h.ok c now dir s m,h.wy.aO h.ok h.tr c now dir s m,h.nm.aO c now dir s m⟩
theorem iY.file{S:Fs}{N:Nat}(h:iY S N)(c:Cr)(now dir:Int)(s:ByteArray)(m:Int)(t:ByteArray):iY (S.file c now dir s m t).1 (N+1):=
 ⟨BI h.ok c now dir s m t,h.pl.file h.ok c now dir s m t,h.tr.file h.ok c now dir s m t,h.wy.file h.ok h.tr c now dir s m t,h.nm.file c now dir s m t⟩
theorem iY.mono{S:Fs}{N M:Nat}(h:iY S N)(hM:N≤M):iY S M:=⟨h.ok.mono hM,h.pl,h.tr,h.wy,h.nm⟩
theorem rI(S:Fs)(k:Int):(∃a,S.get k=some a∧S.bl k=a)∨(S.get k=none∧S.bl k=cS):=by
 cases hg:S.get k with
 |none=>exact .inr ⟨rfl,iB hg⟩
 |some a=>exact .inl ⟨a,rfl,dE hg⟩
theorem yH{S:Fs}{N:Nat}(hk:ax S N)(hp:Pl S)(hw:Wy S){k:Int}{a:An}(hg:S.get k=some a)(hd:a.kind=1):∃b,S.get (S.aX k)=some b:=by
 unfold Fs.aX;rw[hg];dsimp only;rw[if_neg (by omega)];by_cases hr:S.root a.dev=k∧1<a.dev
 ·rw[if_pos hr];have h8:=(hk.get hg).1.dev;obtain⟨v,hv,hi⟩:=vy h8.1 h8.2;obtain⟨hlt,he⟩:=List.getElem?_eq_some_iff.1 hi;obtain⟨b,hb,hbk,-⟩:=hp.aC _ hlt (by omega);rw[he] at hb;obtain⟨x,hx,-⟩:=hw.ud b (bD hb) hbk;exact⟨x,by rw[hv];dsimp only;rw[hb];exact hx⟩
 ·rw[if_neg hr];obtain⟨x,hx,-⟩:=hw.ud a (bD hg) hd;exact⟨x,hx⟩
def Ends(S:Fs)(x:Fd×Int):Prop:=x.2=0→x.1.no≠0→∃a,S.get x.1.no=some a
theorem jM(S:Fs){e:Int}(x:Fd)(h:e≠0):Ends S (x,e):=fun h'=>absurd h' h
theorem j3{S:Fs}{N:Nat}(hk:ax S N)(hp:Pl S)(hw:Wy S)(c:Cr)(f:Bool)(k:Option (Int→Bool→List (List UInt8)→Fd×Int))
  (hkk:∀g,k=some g→∀at' must l,(∃a,S.get at'=some a)→Ends S (g at' must l)) :
  ∀(l:List (List UInt8)) (at':Int) (must:Bool),(∃a,S.get at'=some a)→Ends S (S.bY c f k l at' must)
 | [],at',must,h=>fun _ _=>h
 |p::l,at',must,h=>by
  rw[Fs.bY]
  split
  ·rename_i h2;exact jM S _ h2
  ·rename_i h2;have kq:(S.step c at' p).2=0:=by simpa using h2
   split
   ·rename_i hpp;refine j3 hk hp hw c f k hkk l _ must ?_;obtain⟨a,ha⟩:=h;unfold Fs.step at kq⊢;rw[ha] at kq⊢;dsimp only at kq⊢;by_cases hd:a.kind=1
    ·rw[if_neg (by omega)] at kq⊢;by_cases hm:a.may c 1=false
     ·rw[if_pos hm] at kq
      cases kq
     ·rw[if_neg hm,if_pos hpp];exact yH hk hp hw ha hd
    ·rw[if_pos hd] at kq
     cases kq
   ·split
    ·split
     ·exact fun _ h0=>absurd rfl h0
     ·exact jM S _ (by decide)
    ·rename_i n hn
     split
     ·split
      ·exact jM S _ (by decide)
      ·rename_i g hgk
       split
       ·exact jM S _ (by decide)
       ·refine hkk _ rfl _ _ _ ?_
        split
        ·obtain⟨a,ha,-⟩:=hp.one;exact⟨a,ha⟩
        ·exact h
     ·split
      ·exact jM S _ (by decide)
      ·split
       ·exact fun _ _=>⟨n,hn⟩
       ·exact j3 hk hp hw c f k hkk l _ must ⟨n,hn⟩
theorem qC{S:Fs}{N:Nat}(hk:ax S N)(hp:Pl S)(hw:Wy S)(c:Cr)(f:Bool):∀(h:Nat) (at':Int) (must:Bool) (l:List (List UInt8)),(∃a,S.get at'=some a)→Ends S (S.eA c f h at' must l)
 |0,at',must,l,ha=>j3 hk hp hw c f none (fun _ h=>by cases h) l at' must ha
 |h+1,at',must,l,ha=>j3 hk hp hw c f _ (fun g hg at2 must2 l2 h2=>by
  injection hg with hg;subst hg;exact qC hk hp hw c f h at2 must2 l2 h2) l at' must ha
theorem CY{S:Fs}{N:Nat}(hk:ax S N)(hp:Pl S)(hw:Wy S)(c:Cr)(s:ByteArray)(f:Bool):Ends S (S.path c s f):=by
 unfold Fs.path
 split
 ·rename_i h;exact jM S _ h
 ·obtain⟨a,ha,-⟩:=hp.one;exact qC hk hp hw c f 8 1 _ _ ⟨a,ha⟩
end
section
open Go.RowKit
def tilA(base:ByteArray):ByteArray:=base++ByteArray.mk #[46,126]
def H'(base:ByteArray)(n:Int):ByteArray:=tilA base++str (js n)++ByteArray.mk #[126]
def PE(base s:ByteArray)(n:Int):Prop:=(base≠ByteArray.empty∧1≤n∧n≤999999999∧H' base n=s)∨(n=0∧∀m:Int,base≠ByteArray.empty→1≤m→m≤999999999→H' base m≠s)
open Classical in
noncomputable def idxB (base s:ByteArray):Int:=if h:∃n,PE base s n then Classical.choose h else 0
noncomputable def J6 (base:ByteArray):Int→List ByteArray→Int
 |n,[]=>n
 |n,s::l=>J6 base (max n (idxB base s)) l
def idxR:Option Int→Int
 |some n=>if 1≤n∧n≤999999999 then n else 0
 |none=>0
def tilN(base:ByteArray)(n:Int):ByteArray×Int:=
 if cx base≠0 then(ByteArray.empty,cx base) else if n<1∨999999999<n then(ByteArray.empty,3) else if 255<(H' base n).size then(ByteArray.empty,13) else(H' base n,0)
def Fs.cp(S:Fs)(d:Bool)(c:Cr)(no:Int):List En×Int:=
 if d=true then([],20) else if S.dY c no 1 4≠0 then([],S.dY c no 1 4) else((S.bw no).map (fun e=>⟨e.name,S.aC e.no⟩),0)
noncomputable def Fs.spareF (S:Fs) (d:Bool) (c:Cr) (dir:Int) (n:ByteArray):ByteArray×Int:=
 if(S.cp d c dir).2≠0 then(ByteArray.empty,(S.cp d c dir).2) else tilN n (J6 n 0 ((S.cp d c dir).1.map (·.name))+1)
end
section
open Go.RowKit
structure Sp where
 dir:Int
 name:ByteArray
 no:Int
 depth:Int
def Fs.dn(S:Fs)(c:Cr)(x:Sp):List Sp×Int:=
 if ep (S.get x.no)≠0 then([],ep (S.get x.no)) else if ep (S.get x.dir)≠0 then([],ep (S.get x.dir))
 else if(S.bl x.no).dev≠(S.bl x.dir).dev then([],16) else if(S.bl x.no).kind≠1 then([],0)
 else((S.cp false c x.no).1.map (fun y=>⟨x.no,y.name,y.no,wrap64 (x.depth+1)⟩),(S.cp false c x.no).2)
def Fs.jQ(S:Fs)(k:Int):Nat:=match S.get k with
 |some a=>if a.kind=1 then(S.last-k).toNat+1 else 0
 |none=>0
def Fs.z7(S:Fs)(N:Nat)(l:List Sp):Nat:=(l.map fun x=>(N+1) ^ S.jQ x.no).sum
theorem rh(S:Fs)(N:Nat)(x:Sp)(l:List Sp):S.z7 N (x::l)=(N+1) ^ S.jQ x.no+S.z7 N l:=by unfold Fs.z7;rw[List.map_cons,List.sum_cons]
theorem IC(S:Fs)(N:Nat)(a b:List Sp):S.z7 N (a++b)=S.z7 N a+S.z7 N b:=by unfold Fs.z7;rw[List.map_append,List.sum_append]
theorem Fl{S:Fs}{N k:Nat}:∀{l:List Sp},(∀x∈l,S.jQ x.no≤k)→S.z7 N l≤l.length*(N+1) ^ k
 | [],_=>by simp[Fs.z7]
 |x::l,h=>by
  rw[rh,List.length_cons,Nat.succ_mul];have h1:=Fl (N:=N) (fun y hy=>h y (List.mem_cons_of_mem _ hy));have h2:(N+1) ^ S.jQ x.no≤(N+1) ^ k:=Nat.pow_le_pow_right (by omega) (h x List.mem_cons_self);omega
theorem xM{S:Fs}{N:Nat}(h:iY S N){a:An}(ha:a∈S.ns){k:Int}(hk:S.get k=some a)(hd:a.kind=1){e:En}(he:e∈a.ay):S.jQ (S.aC e.no)<S.jQ k:=by
 obtain⟨-,hkn,gD,hkl⟩:=h.ok.get hk;have hK:S.jQ k=(S.last-k).toNat+1:=by unfold Fs.jQ;rw[hk];simp[hd]
 obtain⟨b,hb,hup⟩:=(h.tr.row a ha).down e he;obtain⟨-,hbn,av,hbl⟩:=h.ok.get hb;have hlt:b.kind=1→a.no<b.no:=fun aS=>by
  obtain⟨h1,h2⟩:=hup aS;rcases h.pl.up b (bD hb) aS with⟨h3,-⟩|⟨-,-,h4⟩
  ·exact absurd h3 h2
  ·omega
 unfold Fs.aC;by_cases h0:0<e.no
 ·rw[if_pos h0]
  cases hf:S.ds.find? (fun d=>d.aC==e.no) with
  |none=>
   show S.jQ e.no<_;unfold Fs.jQ;rw[hb];show(if b.kind=1 then _ else 0)<_
   split
   ·rename_i aS;have:=hlt aS;have:=hK;unfold Fs.jQ at this;rw[this];omega
   ·unfold Fs.jQ at hK;rw[hK];omega
  |some d=>
   show S.jQ d.root<_;have hm:=List.mem_of_find?_eq_some hf;have hq:d.aC=e.no:=by simpa using List.find?_some hf
   obtain⟨i,hi,hdi⟩:=List.mem_iff_getElem.1 hm;have IY:1≤i:=by
    rcases Nat.eq_zero_or_pos i with h1|h1
    ·subst h1;have:=h.tr.zero d (by rw[List.getElem?_eq_getElem hi,hdi]);omega
    ·exact h1
   obtain⟨b2,aS,hbk,hbr⟩:=h.pl.aC i hi IY;rw[hdi,hq] at aS;rw[hdi,hq] at hbr;rw[hb] at aS;injection aS with aS;subst aS;have h5:=hlt hbk;have h6:S.jQ d.root≤(S.last-d.root).toNat+1:=by
    unfold Fs.jQ
    split
    ·split
     ·exact aa _
     ·exact Nat.zero_le _
    ·exact Nat.zero_le _
   have h7:=(h.ok.root d hm).2;omega
 ·exfalso;omega
theorem Dc{S:Fs}{N:Nat}(h:iY S N)(c:Cr)(x:Sp)(he:(S.dn c x).2=0):S.z7 N (S.dn c x).1<(N+1) ^ S.jQ x.no:=by
 have hpos:∀k,0<(N+1) ^ k:=fun k=>Nat.pow_pos (by omega);have h0:S.z7 N []<(N+1) ^ S.jQ x.no:=hpos _;revert he;unfold Fs.dn
 split
 ·exact fun _=>h0
 split
 ·exact fun _=>h0
 split
 ·exact fun _=>h0
 split
 ·exact fun _=>h0
 ·rename_i hno _ _ hkd;intro _
  cases hg:S.get x.no with
  |none=>rw[hg] at hno;exact absurd (by decide:ep (none:Option An)≠0) hno
  |some a=>
   have hz:S.bl x.no=a:=dE hg;rw[hz] at hkd;have hd:a.kind=1:=by simpa using hkd
   unfold Fs.cp;rw[if_neg (by decide)]
   split
   ·exact h0
   ·have hents:S.bw x.no=a.ay:=by unfold Fs.bw;rw[hg]
    rw[hents];dsimp only;have hK:S.jQ x.no=(S.last-x.no).toNat+1:=by unfold Fs.jQ;rw[hg];simp[hd]
    refine Nat.lt_of_le_of_lt (Fl (k:=(S.last-x.no).toNat) (fun y hy=>?_)) ?_
    ·obtain⟨q,hq,rfl⟩:=List.mem_map.1 hy;obtain⟨e,hee,rfl⟩:=List.mem_map.1 hq;have:=xM h (bD hg) hg hd hee;show S.jQ (S.aC e.no)≤_;omega
    ·rw[List.length_map,List.length_map,hK,Nat.pow_succ];have hfew:=(h.ok.get hg).1.mJ;have hp:=hpos (S.last-x.no).toNat;have:a.ay.length*(N+1) ^ (S.last-x.no).toNat≤N*(N+1) ^ (S.last-x.no).toNat:=Nat.mul_le_mul_right _ hfew;rw[Nat.mul_add,Nat.mul_one,Nat.mul_comm _ N];omega
def Fs.fh(S:Fs)(c:Cr):Nat→List Sp→List Sp×Option (Sp×Int)
 |0,_=>([],none)
 |_+1,[]=>([],none)
 |f+1,x::t=>if(S.dn c x).2≠0 then([],some (x,(S.dn c x).2)) else(x::(S.fh c f ((S.dn c x).1++t)).1,(S.fh c f ((S.dn c x).1++t)).2)
def Fs.iD(S:Fs)(N:Nat)(d:Bool)(c:Cr)(dir:Int)(n:ByteArray):List Sp×Option (Sp×Int):=
 if(S.bh d c dir n).2≠0 then([],some (⟨dir,n,(S.bh d c dir n).1,0⟩,(S.bh d c dir n).2))
 else S.fh c (S.z7 N [⟨dir,n,(S.bh d c dir n).1,0⟩]) [⟨dir,n,(S.bh d c dir n).1,0⟩]
def Fs.gr(S:Fs):List Int→List Sp→Int
 |_,[]=>0
 |met,x::l=>if x.no∈met then S.gr met l else(S.bl x.no).data.size+S.gr (x.no::met) l
def Fs.jB(S:Fs)(N:Nat)(d:Bool)(c:Cr)(dir:Int)(n:ByteArray):Int×Int:=
 match(S.iD N d c dir n).2 with
 |some (_,e)=>(0,e)
 |none=>(S.gr [] (S.iD N d c dir n).1,0)
end
section
open Go.RowKit
theorem Fy{S:Fs}{N:Nat}(h:iY S N)(c:Cr)(x:Sp):(S.dn c x).1.length≤N∧∀y∈(S.dn c x).1,S.jQ y.no<S.jQ x.no:=by
 have h0:([]:List Sp).length≤N∧∀y∈([]:List Sp),S.jQ y.no<S.jQ x.no:=⟨Nat.zero_le _,fun y hy=>by cases hy⟩;unfold Fs.dn
 split
 ·exact h0
 split
 ·exact h0
 split
 ·exact h0
 split
 ·exact h0
 ·rename_i hno _ _ hkd
  cases hg:S.get x.no with
  |none=>rw[hg] at hno;exact absurd (by decide:ep (none:Option An)≠0) hno
  |some a=>
   have hz:S.bl x.no=a:=dE hg;rw[hz] at hkd;have hd:a.kind=1:=by simpa using hkd
   unfold Fs.cp;rw[if_neg (by decide)]
   split
   ·exact h0
   ·have hents:S.bw x.no=a.ay:=by unfold Fs.bw;rw[hg]
    rw[hents];dsimp only;refine⟨?_,fun y hy=>?_⟩
    ·rw[List.length_map,List.length_map];exact(h.ok.get hg).1.mJ
    ·obtain⟨q,hq,rfl⟩:=List.mem_map.1 hy;obtain⟨e,hee,rfl⟩:=List.mem_map.1 hq;exact xM h (bD hg) hg hd hee
theorem Lh{S:Fs}{N:Nat}(h:ax S N)(k:Int):S.jQ k≤N:=by
 unfold Fs.jQ
 cases hg:S.get k with
 |none=>exact Nat.zero_le _
 |some a=>
  obtain⟨-,-,h1,h2⟩:=h.get hg;have:=h.lN;dsimp only
  split
  ·omega
  ·exact Nat.zero_le _
def Fs.yK(S:Fs)(N K:Nat):List Sp→Prop
 | []=>True
 |x::t=>t.length+N*S.jQ x.no≤K∧S.yK N K t
theorem uE{S:Fs}{N K:Nat}:∀{l:List Sp},S.yK N K l→l.length≤K+1
 | [],_=>Nat.zero_le _
 |x::t,h=>by
  have:=h.1;rw[List.length_cons];omega
theorem Ic{S:Fs}{N:Nat}(h:ax S N)(x:Sp):S.yK N (N*N) [x]:=⟨by rw[List.length_nil,Nat.zero_add];exact Nat.mul_le_mul_left _ (Lh h _),trivial⟩
theorem A'{S:Fs}{N K k:Nat}{t:List Sp}(ht:S.yK N K t)(hk:t.length+N*(k+1)≤K):∀{l:List Sp},l.length≤N→(∀y∈l,S.jQ y.no≤k)→S.yK N K (l++t)
 | [],_,_=>ht
 |y::l,hl,hy=>by
  rw[List.length_cons] at hl;refine⟨?_,A' ht hk (by omega) (fun z hz=>hy z (List.mem_cons_of_mem _ hz))⟩;have h1:=Nat.mul_le_mul_left N (hy y List.mem_cons_self);rw[Nat.mul_add,Nat.mul_one] at hk;have h2:(l++t).length=l.length+t.length:=List.length_append;show(l++t).length+N*S.jQ y.no≤K;omega
theorem EI{S:Fs}{N K:Nat}(h:iY S N)(c:Cr){x:Sp}{t:List Sp}(hs:S.yK N K (x::t)):S.yK N K ((S.dn c x).1++t):=by
 obtain⟨h1,h2⟩:=Fy h c x
 cases hh:S.jQ x.no with
 |zero=>
  have:(S.dn c x).1=[]:=by
   cases hl:(S.dn c x).1 with
   |nil=>rfl
   |cons y l=>
    have:=h2 y (by rw[hl];exact List.mem_cons_self);omega
  rw[this];exact hs.2
 |succ k=>
  have h3:=hs.1;rw[hh] at h3;exact A' hs.2 h3 h1 (fun y hy=>by have:=h2 y hy;omega)
theorem kb(S:Fs)(x:Sp):∀(l:List Sp) (met:List Int),S.gr met (l++[x])=S.gr met l+(if x.no∈met∨x.no∈l.map (·.no) then 0 else(S.bl x.no).data.size)
 | [],met=>by
  show(if x.no∈met then(0:Int) else _+0)=0+_;by_cases h:x.no∈met
  ·rw[if_pos h,if_pos (.inl h)];rfl
  ·rw[if_neg h,if_neg (fun h2=>h2.elim h (by simp))];omega
 |y::l,met=>by
  rw[List.cons_append];unfold Fs.gr;by_cases h:y.no∈met
  ·rw[if_pos h,if_pos h,kb S x l met];congr 1;by_cases h2:x.no∈met∨x.no∈l.map (·.no)
   ·rw[if_pos h2,if_pos (show x.no∈met∨x.no∈(y::l).map (·.no) from h2.imp id (List.mem_cons_of_mem _))]
   ·rw[if_neg h2,if_neg];intro h3;rcases h3 with h3|h3
    ·exact h2 (.inl h3)
    ·rw[List.map_cons] at h3;rcases List.mem_cons.1 h3 with h3|h3
     ·exact h2 (.inl (h3▸h))
     ·exact h2 (.inr h3)
  ·rw[if_neg h,if_neg h,kb S x l (y.no::met),Int.add_assoc];congr 2;have hiff:(x.no∈y.no::met∨x.no∈l.map (·.no))↔(x.no∈met∨x.no∈(y::l).map (·.no)):=by
    simp only[List.mem_cons,List.map_cons];constructor
    ·rintro((h|h)|h)
     ·exact .inr (.inl h)
     ·exact .inl h
     ·exact .inr (.inr h)
    ·rintro(h|h|h)
     ·exact .inl (.inr h)
     ·exact .inl (.inl h)
     ·exact .inr h
   by_cases h2:x.no∈y.no::met∨x.no∈l.map (·.no)
   ·rw[if_pos h2,if_pos (hiff.1 h2)]
   ·rw[if_neg h2,if_neg (fun h3=>h2 (hiff.2 h3))]
theorem pg{k:Int}{met:List Int}:∀{U:List Int},k∈U→k∉met→(U.filter fun q=>!decide (q∈k::met)).length+1≤(U.filter fun q=>!decide (q∈met)).length
 | [],h,_=>by cases h
 |u::U,h,hk=>by
  have hmono:∀(V:List Int),(V.filter fun q=>!decide (q∈k::met)).length≤(V.filter fun q=>!decide (q∈met)).length:=fun V=>by
   induction V with
   |nil=>exact aa _
   |cons v V ih=>
    rw[List.filter_cons,List.filter_cons];by_cases h1:v∈met
    ·simp[h1];simpa using ih
    ·by_cases h2:v=k
     ·simp[h1,h2,hk];have:=ih;simp at this;omega
     ·simp[h1,h2];simpa using ih
  rcases List.mem_cons.1 h with rfl|h
  ·rw[List.filter_cons,List.filter_cons];have:=hmono U;simp[hk];simpa using this
  ·have ih:=pg h hk;rw[List.filter_cons,List.filter_cons];by_cases h1:u∈met
   ·simp[h1];simpa using ih
   ·by_cases h2:u=k
    ·simp[h1,h2,hk];have:=hmono U;simp at this;omega
    ·simp[h1,h2];simpa using ih
theorem filter_le{k:Int}{met:List Int}(U:List Int):(U.filter fun q=>!decide (q∈k::met)).length≤(U.filter fun q=>!decide (q∈met)).length:=by
 induction U with
 |nil=>exact aa _
 |cons v V ih=>
  rw[List.filter_cons,List.filter_cons];by_cases h1:v∈met
  ·simp[h1];simpa using ih
  ·by_cases h2:v=k
   ·subst h2;simp[h1];have:=ih;simp at this;omega
   ·simp[h1,h2];simpa using ih
theorem kR{S:Fs}{N:Nat}(h:ax S N):∀(l:List Sp) (met:List Int),0≤S.gr met l∧S.gr met l≤1048576*(((S.ns.map (·.no)).filter fun q=>!decide (q∈met)).length:Nat)
 | [],met=>⟨Int.le_refl _,by show(0:Int)≤_;omega⟩
 |x::l,met=>by
  unfold Fs.gr;by_cases hm:x.no∈met
  ·rw[if_pos hm];exact kR h l met
  ·rw[if_neg hm];obtain⟨h1,h2⟩:=kR h l (x.no::met)
   cases hg:S.get x.no with
   |none=>
    have hz:(S.bl x.no).data.size=0:=by unfold Fs.bl;rw[hg];rfl
    have:=filter_le (k:=x.no) (met:=met) (S.ns.map (·.no));rw[hz];omega
   |some a=>
    obtain⟨ho,hn,-⟩:=h.get hg;have hz:S.bl x.no=a:=dE hg;have hd:=ho.data;have:=pg (k:=x.no) (met:=met) (U:=S.ns.map (·.no)) (List.mem_map.2 ⟨a,bD hg,hn⟩) hm;rw[hz];omega
theorem FG{S:Fs}{N:Nat}(h:ax S N)(hl:S.ns.length≤100000)(l:List Sp):0≤S.gr [] l∧S.gr [] l≤1048576*100000:=by
 obtain⟨h1,h2⟩:=kR h l [];have h3:((S.ns.map (·.no)).filter fun q=>!decide (q∈([]:List Int))).length≤S.ns.length:=by
  refine ae (List.length_filter_le _ _) ?_;rw[List.length_map];exact aa _
 exact⟨h1,by omega⟩
end
section
open Go.RowKit
def Sy.dR(Y:Sy)(u:Us)(dir:Int)(n:ByteArray):Sy×Int×Int:=
 if(Y.fs.fu Y.dead u.c dir n).2=0∧(Y.fs.fu Y.dead u.c dir n).1=0 then Y.op (fun S now=>S.aO u.c now dir n 448) else(Y,Y.fs.fu Y.dead u.c dir n)
def Sy.fC(Y:Sy)(u:Us)(dir:Int):List ByteArray→Sy×Int
 | []=>(Y,0)
 |n::l=>if(Y.dR u dir n).2.2≠0 then((Y.dR u dir n).1,(Y.dR u dir n).2.2) else(Y.dR u dir n).1.fC u dir l
def fD:List ByteArray:=[iJ,fQ,mA,mx]
def Sy.br(Y:Sy)(u:Us)(p:pA):Sy×Cn×Int:=
 let r:=Y.dR u p.dir p.name
 if r.2.2≠0 then(r.1,iV,r.2.2) else
 let q:=r.1.fC u r.2.1 fD
 if q.2≠0 then(q.1,iV,q.2) else(q.1,q.1.fs.kp q.1.dead u p)
def Sy.cl(Y:Sy)(u:Us):List pA→Int→Sy×Bool×Cn×Int
 | [],e=>(Y,false,iV,e)
 |p::l,_=>if(Y.br u p).2.2=0∨(Y.br u p).1.dead=true then((Y.br u p).1,true,(Y.br u p).2.1,(Y.br u p).2.2) else(Y.br u p).1.cl u l (Y.br u p).2.2
def Sy.jI(Y:Sy)(u:Us)(top:Int):List pA:=
 if(Y.fs.fi Y.dead u).2=0∧Y.fs.root (Y.fs.bl (Y.fs.fi Y.dead u).1).dev=top then[⟨(Y.fs.fi Y.dead u).1,gq,ByteArray.empty⟩] else[]
def Sy.bV(Y:Sy)(u:Us)(no:Int):Sy×Cn×Int:=
 let t:=Y.fs.fq no
 if t.2.2≠0 then(Y,iV,t.2.2) else
 let h:=Y.fs.fi Y.dead u
 let a:=Y.cl u (Y.jI u t.1) 0
 if a.2.1=true then(a.1,a.2.2) else
 let b:=a.1.cl u (a.1.fs.cY a.1.dead u t.1 t.2.1) a.2.2.2
 if b.2.1=true then(b.1,b.2.2) else
 if h.2≠0 then(b.1,iV,b.2.2.2) else b.1.br u ⟨h.1,gq,ByteArray.empty⟩
structure cE(Y:Sy)(N:Nat):Prop where
 du:iY Y.fs N
 c0:0≤Y.count
 cN:Y.count≤N
 pl:Y.bQ.length≤1000
theorem cE.mono{Y:Sy}{N M:Nat}(h:cE Y N)(hM:N≤M):cE Y M:=⟨h.du.mono hM,h.c0,by have:=h.cN;omega,h.pl⟩
theorem vD(Y:Sy):Y.change.1.count=Y.count∨Y.change.1.count=Y.count+1:=by
 unfold Sy.change
 split
 ·exact .inl rfl
 ·split<;>exact .inr rfl
theorem cE.change{Y:Sy}{N:Nat}(h:cE Y N):cE Y.change.1 (N+1):=by
 obtain⟨h1,h2,h3⟩:=eO Y;refine⟨by rw[h1];exact h.du.mono (by omega),?_,?_,by rw[h3];exact h.pl⟩ <;>
 ·have:=h.c0;have:=h.cN;rcases vD Y with e|e<;>rw[e]<;>omega
theorem cE.op{Y:Sy}{N:Nat}(h:cE Y N){g:Fs→Int→Fs×Int×Int}(hg:iY (g Y.fs Y.now).1 (N+1)):cE (Y.op g).1 (N+1):=by
 have hc:=h.change;unfold Sy.op
 split
 ·exact hc
 ·exact⟨hg,hc.c0,hc.cN,hc.pl⟩
theorem cE.dR{Y:Sy}{N:Nat}(h:cE Y N)(u:Us)(dir:Int)(n:ByteArray):cE (Y.dR u dir n).1 (N+1):=by
 unfold Sy.dR
 split
 ·exact h.op (h.du.aO _ _ _ _ _)
 ·exact h.mono (by omega)
theorem cE.fC{u:Us}{dir:Int}:∀{l:List ByteArray} {Y:Sy} {N:Nat},cE Y N→cE (Y.fC u dir l).1 (N+l.length)
 | [],_,_,h=>h
 |n::l,Y,N,h=>by
  rw[Sy.fC]
  split
  ·exact(h.dR u dir n).mono (by simp)
  ·have:=(h.dR u dir n).fC (u:=u) (dir:=dir) (l:=l);exact this.mono (by simp;omega)
theorem cE.br{Y:Sy}{N:Nat}(h:cE Y N)(u:Us)(p:pA):cE (Y.br u p).1 (N+5):=by
 unfold Sy.br;dsimp only;have h1:=h.dR u p.dir p.name
 split
 ·exact h1.mono (by omega)
 ·have h2:=h1.fC (u:=u) (dir:=(Y.dR u p.dir p.name).2.1) (l:=fD);have h3:N+1+fD.length=N+5:=rfl;rw[h3] at h2
  split<;>exact h2
theorem cE.cl{u:Us}:∀{l:List pA} {Y:Sy} {N:Nat} (e:Int),cE Y N→cE (Y.cl u l e).1 (N+5*l.length)
 | [],_,_,_,h=>h
 |p::l,Y,N,e,h=>by
  rw[Sy.cl]
  split
  ·exact(h.br u p).mono (by simp;omega)
  ·exact((h.br u p).cl (u:=u) (l:=l) _).mono (by simp;omega)
theorem qQ(S:Fs)(d:Bool)(u:Us)(top:Int)(path:ByteArray):1≤(S.cY d u top path).length∧(S.cY d u top path).length≤2:=by
 unfold Fs.cY
 split<;>simp
theorem FD(Y:Sy)(u:Us)(top:Int):(Y.jI u top).length≤1:=by
 unfold Sy.jI
 split<;>simp
theorem cE.bV{Y:Sy}{N:Nat}(h:cE Y N)(u:Us)(no:Int):cE (Y.bV u no).1 (N+20):=by
 unfold Sy.bV;dsimp only;have h1:=FD Y u (Y.fs.fq no).1;have h2:=h.cl (u:=u) (l:=Y.jI u (Y.fs.fq no).1) 0
 split
 ·exact h.mono (by omega)
 ·split
  ·exact h2.mono (by omega)
  ·generalize Y.cl u (Y.jI u (Y.fs.fq no).1) 0=a at h2⊢;have h3:=(qQ a.1.fs a.1.dead u (Y.fs.fq no).1 (Y.fs.fq no).2.1).2;have h4:=h2.cl (u:=u) (l:=a.1.fs.cY a.1.dead u (Y.fs.fq no).1 (Y.fs.fq no).2.1) a.2.2.2
   split
   ·exact h4.mono (by omega)
   ·split
    ·exact h4.mono (by omega)
    ·exact(h4.br u _).mono (by omega)
structure PD(a b:An):Prop where
 kind:b.kind=a.kind
 mode:b.mode=a.mode
 uid:b.uid=a.uid
 data:b.data=a.data
 ao:b.ao=a.ao
 ay:a.ay.length≤b.ay.length
 ctime:a.kind≠1→b.ctime=a.ctime
def Keep(S S':Fs):Prop:=∀k a,S.get k=some a→∃b,S'.get k=some b∧PD a b
end
section
open Go.RowKit
def gF(w w':World)(pf pw:Nat)(R:Rp)(pv:Value)(Z:Sy):Prop:=∃R',bg w' pf pw R' pv Z∧aR (R.Y pf pw) (R'.Y pf pw) w w'
section
variable{w w' w'':World}{pf pw:Nat}{R R':Rp}{pv:Value}{Y Z:Sy}
theorem gF.of(h:bg w pf pw R pv Y)(hb:Qi w w'):gF w w' pf pw R pv Y:=⟨R,h.ak hb,aR.ar hb⟩
theorem gF.below(h:gF w w' pf pw R pv Z)(hb:Qi w' w''):gF w w'' pf pw R pv Z:=by
 obtain⟨R',h1,h2⟩:=h;exact⟨R',h1.ak hb,h2.trans (aR.ar hb)⟩
end
end
section
open Go.RowKit
def wtL(l:List (List UInt8)):Nat:=(l.map fun p=>p.length+1).sum
end
section
open Go.RowKit
def mtC(m:Mt):List Value:=[.string m.path,.int .i64 m.b,.int .i64 m.n]
theorem u4(m:Mt):(mtC m).length=3:=rfl
def N5(cs:List Value)(m:Mt):Prop:=cs=mtC m
def itC(x:It):List Value:=[.string x.path,.int .i64 x.kind,.int .i64 x.mode,.int .i64 x.uid,.int .i64 x.gid,.int .i64 x.mtime,.string x.data]
theorem jd(x:It):(itC x).length=7:=rfl
def Oa(cs:List Value)(x:It):Prop:=cs=itC x
theorem bj.ak{α:Type}{w w':World}{sz n c:Nat}{Rl:List Value→α→Prop}{a:Option Addr}{xs:List α}(h:bj w sz Rl a n c xs)(hb:Qi w w'):bj w' sz Rl a n c xs:=h.below hb (aa _)
structure lO(w:World)(ma:Option Addr)(mn mc:Nat)(ia:Option Addr)(il ic:Nat)(ms:List Mt)(is:List It):Prop where
 m:bj w 3 N5 ma mn mc ms
 i:bj w 7 Oa ia il ic is
theorem lO.ak{w w':World}{ma:Option Addr}{mn mc:Nat}{ia:Option Addr}{il ic:Nat}{ms:List Mt}{is:List It}(h:lO w ma mn mc ia il ic ms is)(hb:Qi w w'):lO w' ma mn mc ia il ic ms is:=⟨h.m.ak hb,h.i.ak hb⟩
theorem kL{w:World}{b off n c:Nat}{ms:List Mt}(h:bj w 3 N5 (some ⟨b,off,none⟩) n c ms)(k:Nat)(hk:k<ms.length) :
  w.cell? ⟨b,off+k*3,none⟩=some (.string ms[k].path)∧w.cell? ⟨b,off+k*3+1,none⟩=some (.int .i64 ms[k].b)∧w.cell? ⟨b,off+k*3+2,none⟩=some (.int .i64 ms[k].n):=by
 obtain⟨hl,-,-,h0|⟨b',off',he,hb,hel⟩⟩:=h
 ·omega
 ·injection he with he;injection he with e1 e2;subst e1 e2;obtain⟨cs,h1,h2,h3⟩:=hel k hk;unfold N5 at h2;subst h2;exact⟨h3 0 (by rw[u4];omega),h3 1 (by rw[u4];omega),h3 2 (by rw[u4];omega)⟩
theorem kP{w:World}{b off n c:Nat}{is:List It}(h:bj w 7 Oa (some ⟨b,off,none⟩) n c is)(k:Nat)(hk:k<is.length) :
  w.cell? ⟨b,off+k*7,none⟩=some (.string is[k].path)∧w.cell? ⟨b,off+k*7+1,none⟩=some (.int .i64 is[k].kind)∧w.cell? ⟨b,off+k*7+2,none⟩=some (.int .i64 is[k].mode)∧
  w.cell? ⟨b,off+k*7+3,none⟩=some (.int .i64 is[k].uid)∧w.cell? ⟨b,off+k*7+4,none⟩=some (.int .i64 is[k].gid)∧w.cell? ⟨b,off+k*7+5,none⟩=some (.int .i64 is[k].mtime)∧w.cell? ⟨b,off+k*7+6,none⟩=some (.string is[k].data):=by
 obtain⟨hl,-,-,h0|⟨b',off',he,hb,hel⟩⟩:=h
 ·omega
 ·injection he with he;injection he with e1 e2;subst e1 e2;obtain⟨cs,h1,h2,h3⟩:=hel k hk;unfold Oa at h2;subst h2;exact⟨h3 0 (by rw[jd];omega),h3 1 (by rw[jd];omega),h3 2 (by rw[jd];omega),h3 3 (by rw[jd];omega),h3 4 (by rw[jd];omega),h3 5 (by rw[jd];omega),h3 6 (by rw[jd];omega)⟩
theorem dU{α:Type}{w:World}{sz n c:Nat}{Rl:List Value→α→Prop}{a:Option Addr}{xs:List α}(h:bj w sz Rl a n c xs)(hn:0<n):∃b off,a=some ⟨b,off,none⟩∧b<w.heap.size:=by
 obtain⟨-,-,-,h0|⟨b,off,he,hb,-⟩⟩:=h
 ·omega
 ·exact⟨b,off,he,hb⟩
theorem nn{ms:List Mt}{k:Nat}(hk:k<ms.length):aU (ms.drop k)=if ms[k].path=ks∧gl ms[k].b ms[k].n=true then(ms[k].b,ms[k].n) else aU (ms.drop (k+1)):=by
 rw[List.drop_eq_getElem_cons hk,aU]
theorem wG(w:World){ma:Option Addr}{mn mc:Nat}{ia:Option Addr}{il ic:Nat}{ms:List Mt}{is:List It}(h:lO w ma mn mc ia il ic ms is) :
  Calls Tryz.prog 48 #[.agg #[.slice ma mn mc,.slice ia il ic]] w fun e w'=>e=.returned (.tuple #[.int .i64 (aU ms).1,.int .i64 (aU ms).2])∧Qi w w':=by
 have HS:=Qf h;have hln:=h.m.1;have hmc:=h.m.2.1;have hmx:=h.m.2.2.1;clear h;go_enter Tryz.func48,Tryz.ntmps48;go_wp2_with fail
 go_loopw [9] (fun t9 wr=>∃k:Nat,k≤ms.length∧t9=.int .i64 k∧aU ms=aU (ms.drop k)∧Qi w wr) (fun t9 _=>ms.length-(intOf t9).toNat)
 case atStart=>exact⟨0,Nat.zero_le _,rfl,rfl,aq (Below.refl _ _) _⟩
 case round=>
  obtain⟨k,hk,rfl,hE,hb⟩:=hrel;have HE:=Qf hE;have HB:=Qf hb;clear hE;by_cases hlt:k<ms.length
  ·obtain⟨b,off,rfl,hbl⟩:=dU HS.o.m (by omega);obtain⟨c0,c1,c2⟩:=kL (HS.o.m.below hb (aa _)) k hlt;have HQ:=Qf (nn hlt);generalize ms[k]=m at c0 c1 c2 HQ;obtain⟨mp,mb,mk⟩:=m;have hX:=aw.new wr #[.string mp,.int .i64 mb,.int .i64 mk] 125;have aI:=aq hb (.cells #[.string mp,.int .i64 mb,.int .i64 mk] 125);clear hb;go_upto_region 4 with fail;generalize wr.alloc _=X at hX aI⊢;have HX:=Qf hX;have aW:=Qf aI;obtain⟨xc,xf,xz⟩:=hX.facts;clear hX aI c0 c1 c2;by_cases h1:mp=ks
   ·have oC:mp.toList=[47]:=by rw[h1,bG];rfl
    have HP:=Qf h1;clear h1;by_cases h2:mb<1
    ·skip
     have HN:=Qf (HE.o.trans (HQ.o.trans (if_neg (fun h=>by have h9:1≤mb:=(oq h.2).1;omega))));go_wp2_with fail;go_roundw
     case rel=>exact⟨k+1,by omega,by go_num,HN.o,aW.o⟩
     case measure=>simp[intOf];omega
    by_cases h3:1073741824<mb
    ·skip
     have HN:=Qf (HE.o.trans (HQ.o.trans (if_neg (fun h=>by have h9:mb≤1073741824:=(oq h.2).2.1;omega))));go_wp2_with fail;go_roundw
     case rel=>exact⟨k+1,by omega,by go_num,HN.o,aW.o⟩
     case measure=>simp[intOf];omega
    by_cases h4:mk<1
    ·skip
     have HN:=Qf (HE.o.trans (HQ.o.trans (if_neg (fun h=>by have h9:1≤mk:=(oq h.2).2.2.1;omega))));go_wp2_with fail;go_roundw
     case rel=>exact⟨k+1,by omega,by go_num,HN.o,aW.o⟩
     case measure=>simp[intOf];omega
    by_cases h5:65536<mk
    ·skip
     have HN:=Qf (HE.o.trans (HQ.o.trans (if_neg (fun h=>by have h9:mk≤65536:=(oq h.2).2.2.2;omega))));go_wp2_with fail;go_roundw
     case rel=>exact⟨k+1,by omega,by go_num,HN.o,aW.o⟩
     case measure=>simp[intOf];omega
    have HN:=Qf (HE.o.trans (HQ.o.trans (if_pos ⟨HP.o,K2 mb mk (by omega) (by omega) (by omega) (by omega)⟩)));have mixed:Tryz.prog.follows .mixedOrders=true:=by kernel_rfl
    go_wp2_with fail
    go_region
    all_goals
     go_wp2_with fail;go_ret2;rw[HN.o];exact⟨rfl,aW.o.drew⟩
   ·have oC:(mp.toList==[47])=false:=by
     rw[bG];simp only[beq_eq_false_iff_ne,ne_eq];exact fun e=>h1 (sg e)
    have HN:=Qf (HE.o.trans (HQ.o.trans (if_neg (fun h=>h1 h.1))));go_wp2_with fail;go_roundw
    case rel=>exact⟨k+1,by omega,by go_num,HN.o,aW.o⟩
    case measure=>simp[intOf];omega
  ·obtain rfl:k=ms.length:=by omega
   have bH:=Qf (show aU ms=(65536,65536) by rw[HE.o,List.drop_length];rfl);clear hb;go_wp2_with fail;go_ret2;rw[bH.o];exact⟨rfl,HB.o⟩
end
section
open Go.RowKit
section
variable{w w':World}{pf pw:Nat}{R:Rp}{pv:Value}{Y:Sy}
theorem bg.other(h:bg w pf pw R pv Y){B:Nat}{vs:Array Value}{T:TypeId}(hb:aw w B vs T)(hT:gT (.cells #[] T (0,0))=false)(h1:T≠42)(h2:T≠98)(h3:T≠162)(hm:Mod (fun k=>k=B) w w'):bg w' pf pw R pv Y:=by
 unfold aw at hb;refine⟨h.aZ.mod hm (fun e=>?_),h.wd.mod hm (fun k o hk ho=>?_),bI h.bQ hm (fun k hk he=>?_)⟩
 ·subst e;have hq:=h.aZ;unfold aw at hq;rw[hb] at hq;injection hq with hq;injection hq with hq e;exact h1 e
 ·subst hk;rw[hb] at ho;injection ho with ho;subst ho;exact⟨hT,fun cur e=>by injection e with e1 e2;exact h2 e2⟩
 ·subst hk;obtain⟨-,cur,hc⟩:=aD h.bQ he;rw[hb] at hc;injection hc with hc;injection hc with hc e;exact h3 e
theorem aR.jb{F F':Nat→Prop}(h:aR F F' w w'){B:Nat}(hB:w.heap.size≤B)(i:Nat)(v:Value):aR F F' w (w'.setCell ⟨B,i,none⟩ v):=
 ⟨h.mod.setCell (a:=⟨B,i,none⟩) (.inr hB) v,h.new⟩
theorem tJ{S:Fs}{m:Mt}(h:(S.path bM m.path false).2≠0):bO S m=S:=by unfold bO;rw[if_pos h]
theorem tI{S:Fs}{m:Mt}(h:(S.path bM m.path false).2=0)(h0:(S.path bM m.path false).1.no=0)(he:(S.aO bM 0 (S.path bM m.path false).1.dir (S.path bM m.path false).1.name 493).2.2=0) :
  bO S m=((S.aO bM 0 (S.path bM m.path false).1.dir (S.path bM m.path false).1.name 493).1.bT (S.aO bM 0 (S.path bM m.path false).1.dir (S.path bM m.path false).1.name 493).2.1 m.b m.n).1:=by
 unfold bO;rw[if_neg (by simp[h]),if_pos h0];simp only;rw[if_neg (by simp[he])]
theorem ri{S:Fs}{m:Mt}(h:(S.path bM m.path false).2=0)(h0:(S.path bM m.path false).1.no=0)(he:(S.aO bM 0 (S.path bM m.path false).1.dir (S.path bM m.path false).1.name 493).2.2≠0) :
  bO S m=(S.aO bM 0 (S.path bM m.path false).1.dir (S.path bM m.path false).1.name 493).1:=by
 unfold bO;rw[if_neg (by simp[h]),if_pos h0];simp only;rw[if_pos he]
theorem tH{S:Fs}{m:Mt}(h:(S.path bM m.path false).2=0)(h0:(S.path bM m.path false).1.no≠0):bO S m=(S.bT (S.path bM m.path false).1.no m.b m.n).1:=by
 unfold bO;rw[if_neg (by simp[h]),if_neg h0]
theorem zF(h:bg w pf pw R pv Y){N:Nat}(hk:ax Y.fs N)(hN:N≤999990)(hc:Calm Y)(hcc:Y.count≤4000000)(m:Mt)(hp:m.path.size≤100000) :
  Calls Tryz.prog 49 #[.pointer (some ⟨pf,0,none⟩),.agg #[.string m.path,.int .i64 m.b,.int .i64 m.n]] w fun e w'=>e=.returned (.tuple #[])∧eQ w w' pf pw R pv Y (bO Y.fs m) 1:=by
 have HY:=Qf h;have HK:=Qf hk;have HC:=Qf hc;have HF:=Qf (fun w1 (av:Qi w w1)=>lj (h.ak av) hk (by omega) hc.dead bM m.path hp false);have nK:=Qf (tC hk bM m.path (by omega) false);have mixed:Tryz.prog.follows .mixedOrders=true:=by kernel_rfl
 have eS:=Qf (tJ (S:=Y.fs) (m:=m));have bH:=Qf (tI (S:=Y.fs) (m:=m));have nO:=Qf (ri (S:=Y.fs) (m:=m));have Eg:=Qf (tH (S:=Y.fs) (m:=m));generalize bO Y.fs m=Z at eS bH nO Eg⊢;generalize Y.fs.path bM m.path false=x at HF nK eS bH nO Eg;obtain⟨⟨xd,xn,xk,xs⟩,xe⟩:=x;unfold Fd.v at HF;obtain⟨O6,cH⟩:=Qh w #[.string m.path,.int .i64 m.b,.int .i64 m.n] 125;clear h hk hc;go_enter Tryz.func49,Tryz.ntmps49;go_wp2_with fail;refine(HF.o _ cH).mono ?_;rintro e w1 ⟨rfl,av⟩;have Dn:=(O6.ak av).old (.cells #[.int .i64 xd,.string xn,.int .i64 xk,.bool xs] 176);have pD:=aw.new w1 #[.int .i64 xd,.string xn,.int .i64 xk,.bool xs] 176;have aI:=aq (au cH av) (.cells #[.int .i64 xd,.string xn,.int .i64 xk,.bool xs] 176);have hlw:w.heap.size<w1.heap.size:=by have:=av.size;simp at this;omega
 clear O6 cH av;go_upto_region 2 with fail;generalize w1.alloc _=X at Dn pD aI⊢;have G':=Qf Dn;have JK:=Qf pD;have aW:=Qf aI;obtain⟨xc,xf,xz⟩:=pD.facts;obtain⟨mc,mf,mz⟩:=Dn.facts;have hYX:=HY.o.ak aI;have PI:=Qf hYX;obtain⟨pc,-,pz⟩:=hYX.aZ.facts;clear Dn pD aI hYX;by_cases he:xe=0
 ·have heb:(xe==0)=true:=by simpa using he
  subst he;by_cases hno:xk=0
  ·have hnb:(xk==0)=true:=by simpa using hno
   have HM:=Qf (j0 PI.o HK.o (by omega) ⟨HC.o.c0,by omega⟩ (by rw[HC.o.bQ];exact Nat.zero_le _) bM xd xn 493 (by have h9:xn.size≤1048576:=nK.o;omega));rw[HC.o.op] at HM;have vO:=Qf (bH.o rfl hno);have vN:=Qf (nO.o rfl hno);dsimp only at vO vN HM;have fY:=Qf (gN HK.o bM 0 xd xn 493);clear eS bH nO Eg hno;generalize Y.fs.aO bM 0 xd xn 493=q at HM vO vN fY;obtain⟨S1,n1,e1⟩:=q;dsimp only at HM vO vN fY;go_wp2_with fail;refine HM.o.mono ?_;rintro e w3 ⟨rfl,R3,nU,gU⟩;have ze:=G'.o.sy PI.o gU rfl (by decide);have mF:=JK.o.sy PI.o gU rfl (by decide);have L1:=Qf mF;have Hc:=Qf ze;have HY3:=Qf nU;have yN:=Qf ((aR.ar aW.o).trans gU);clear xc xf xz mc mf mz pc pz;obtain⟨xc,xf,xz⟩:=mF.facts;clear ze mF nU gU;go_upto_region 4 with fail;have BD:=HY3.o.other (L1.o) rfl (by decide) (by decide) (by decide) ((Mod.refl (fun k=>k=w1.heap.size) w3).setCell (a:=⟨w1.heap.size,2,none⟩) (.inl rfl) (.int .i64 n1));have vd:=L1.o.set 2 (.int .i64 n1);have hne:w1.heap.size≠w.heap.size:=by have:=L1.o.lt;have:=G'.o.lt;have:=hlw;omega
   have MV:=Hc.o.setOther ⟨w1.heap.size,2,none⟩ (.int .i64 n1) hne;have nt:aR (R.Y pf pw) (R3.Y pf pw) w (w3.setCell ⟨w1.heap.size,2,none⟩ (.int .i64 n1)):=yN.o.jb (show w.heap.size≤w1.heap.size by have:=hlw;omega) _ _;generalize w3.setCell ⟨w1.heap.size,2,none⟩ (.int .i64 n1)=W4 at BD vd MV nt⊢;have HY4:=Qf BD;have Ea:=Qf nt;clear xc xf xz;obtain⟨xc,xf,xz⟩:=vd.facts;obtain⟨mc,mf,mz⟩:=MV.facts;obtain⟨pc,-,pz⟩:=BD.aZ.facts;clear BD vd MV nt;by_cases BB:e1=0
   ·have he1b:(e1==0)=true:=by simpa using BB
    have HE:=Qf (vO.o BB);have HMt:=Qf (qi (HY4.o.wd.ak (Below.refl _ W4).drew) fY.o (by omega) n1 m.b m.n);subst BB;go_wp2_with fail;refine aG 10 mixed (by kernel_rfl) (show bL _ from by repeat (first|exact cG|refine cF ?_|refine bR ?_|refine cd ?_)) ?_;simp only[List.take_succ_cons,List.take_zero,List.drop_succ_cons,List.drop_zero]
    repeat still_step
    refine wpStill_nil ?_;go_wp2_with fail;refine HMt.o.mono ?_;rintro e w5 ⟨rfl,R5,gH,eJ⟩;have HX:=Qf (ag ((HY4.o.ak (Below.refl _ W4).drew).step gH eJ) ((Ea.o.trans (gw (aR.ar (F:=R3.F pw) (Below.refl _ W4).drew))).trans (gw eJ)));clear gH eJ;go_wp2_with fail
    go_end0
    rw[HE.o];exact⟨rfl,R5,_,HX.o.1,rfl,(HC.o.next S1).fs _,by show Y.count+1≤_;omega,HX.o.2⟩
   ·have he1b:(e1==0)=false:=by simpa using BB
    have HE:=Qf (vN.o BB);clear BB;go_wp2_with fail
    go_end0
    rw[HE.o];exact⟨rfl,R3,_,HY4.o,rfl,HC.o.next S1,by show Y.count+1≤_;omega,Ea.o⟩
  ·have hnb:(xk==0)=false:=by simpa using hno
   have HE:=Qf (Eg.o rfl hno);have HMt:=Qf (qi (PI.o.wd.ak (Below.refl _ X).drew) HK.o (by omega) xk m.b m.n);clear eS bH nO Eg hno;go_wp2_with fail;refine aG 10 mixed (by kernel_rfl) (show bL _ from by repeat (first|exact cG|refine cF ?_|refine bR ?_|refine cd ?_)) ?_;simp only[List.take_succ_cons,List.take_zero,List.drop_succ_cons,List.drop_zero]
   repeat still_step
   refine wpStill_nil ?_;go_wp2_with fail;refine HMt.o.mono ?_;rintro e w5 ⟨rfl,R5,gH,eJ⟩;have HX:=Qf (ag ((PI.o.ak (Below.refl _ X).drew).step gH eJ) (((aR.ar (F:=R.Y pf pw) aW.o).trans (aR.ar (F:=R.Y pf pw) (Below.refl _ X).drew)).trans (gw eJ)));clear gH eJ;go_wp2_with fail
   go_end0
   rw[HE.o];exact⟨rfl,R5,_,HX.o.1,rfl,HC.o.fs _,by show Y.count≤_;omega,HX.o.2⟩
 ·have heb:(xe==0)=false:=by simpa using he
  have HE:=Qf (eS.o he);clear he;go_wp2_with fail
  go_end0
  rw[HE.o];exact⟨rfl,(eQ.same HY.o HC.o aW.o).mono (by omega)⟩
end
end
section
open Go.RowKit
section
variable{S:Fs}{it:It}{x:Fd}{e:Int}
theorem xq(hx:S.path bM it.path false=(x,e))(h:e≠0):bS S it=(S,0):=by unfold bS;rw[hx];simp only;rw[if_pos h]
theorem xo(hx:S.path bM it.path false=(x,e))(h:e=0)(h0:x.no≠0)(h1:it.kind=1)(h2:S.kN x.no=1):bS S it=(S,x.no):=by unfold bS;rw[hx];simp only;rw[if_neg (by simp[h]),if_pos h0,if_pos ⟨h1,h2⟩]
theorem ni(hx:S.path bM it.path false=(x,e))(h:e=0)(h0:x.no≠0)(h1:¬(it.kind=1∧S.kN x.no=1)):bS S it=(S,0):=by unfold bS;rw[hx];simp only;rw[if_neg (by simp[h]),if_pos h0,if_neg h1]
theorem xp(hx:S.path bM it.path false=(x,e))(h:e=0)(h0:x.no=0):bS S it =
  (if it.kind=1 then((S.aO bM 0 x.dir x.name 493).1,(S.aO bM 0 x.dir x.name 493).2.1)
 else if it.kind=2 then((S.file bM 0 x.dir x.name 420 it.data).1,(S.file bM 0 x.dir x.name 420 it.data).2.1)
 else if it.kind=3 then((S.sym bM 0 x.dir x.name it.data).1,(S.sym bM 0 x.dir x.name it.data).2.1)
 else if it.kind=4 then
  (if(S.path bM it.data false).2=0 then((S.ez bM 0 (S.path bM it.data false).1.no x.dir x.name).1,0) else(S,0))
 else(S,0)):=by unfold bS;rw[hx];simp only;rw[if_neg (by simp[h]),if_neg (by simp[h0])]
theorem Co(S:Fs)(k:Int):∃y0 y1 y2 y3 y4 y5 y6 y7 y8 y9:Int,Cp (S.get k)=.agg #[.int .i64 y0,.int .i64 y1,.int .i64 y2,.int .i64 y3,.int .i64 y4,.int .i64 y5,.int .i64 y6,.int .i64 y7,.int .i64 y8,.int .i64 y9]∧y2=S.kN k:=by
 unfold Fs.kN
 cases S.get k with
 |none=>exact⟨_,_,_,_,_,_,_,_,_,_,rfl,rfl⟩
 |some a=>exact⟨_,_,_,_,_,_,_,_,_,_,rfl,rfl⟩
end
section
variable{w w':World}{pf pw:Nat}{R:Rp}{pv:Value}{Y:Sy}
theorem Cs(h:bg w pf pw R pv Y){N:Nat}(hk:ax Y.fs N)(hN:N≤999990)(hc:Calm Y)(hcc:Y.count≤4000000)(it:It)(hp:it.path.size≤100000)(hd:it.data.size≤100000) :
  Calls Tryz.prog 50 #[.pointer (some ⟨pf,0,none⟩),.agg #[.string it.path,.int .i64 it.kind,.int .i64 it.mode,.int .i64 it.uid,.int .i64 it.gid,.int .i64 it.mtime,.string it.data]] w fun e w'=>e=.returned (.int .i64 (bS Y.fs it).2)∧eQ w w' pf pw R pv Y (bS Y.fs it).1 1:=by
 have HY:=Qf h;have HK:=Qf hk;have HC:=Qf hc;have HF:=Qf (fun w1 (av:Qi w w1)=>lj (h.ak av) hk (by omega) hc.dead bM it.path hp false);have nK:=Qf (tC hk bM it.path (by omega) false);generalize hx:Y.fs.path bM it.path false=x at HF nK;obtain⟨⟨xd,xn,xk,xs⟩,xe⟩:=x;have GD:=Qf hx;unfold Fd.v at HF;obtain⟨y0,y1,y2,y3,y4,y5,y6,y7,y8,y9,hst,J'⟩:=Co Y.fs xk;have ji:=Qf (fun w1 (av:Qi w w1)=>iv (h.ak av) hk hc.dead xk);rw[hst] at ji;have HKo:=Qf J';obtain⟨BF,cH⟩:=Qh w #[.string it.path,.int .i64 it.kind,.int .i64 it.mode,.int .i64 it.uid,.int .i64 it.gid,.int .i64 it.mtime,.string it.data] 82;clear h hk hc hx hst J';go_enter Tryz.func50,Tryz.ntmps50;go_wp2_with fail;refine(HF.o _ cH).mono ?_;rintro e w1 ⟨rfl,av⟩;have Ki:=(BF.ak av).old (.cells #[.int .i64 xd,.string xn,.int .i64 xk,.bool xs] 176);have pD:=aw.new w1 #[.int .i64 xd,.string xn,.int .i64 xk,.bool xs] 176;have aI:=aq (au cH av) (.cells #[.int .i64 xd,.string xn,.int .i64 xk,.bool xs] 176);clear BF cH av;go_upto_region 2 with fail;generalize w1.alloc _=X at Ki pD aI⊢;have Nx:=Qf Ki;have JK:=Qf pD;have aW:=Qf aI;obtain⟨xc,xf,xz⟩:=pD.facts;clear Ki pD aI;go_wp2_with fail;refine(ji.o _ aW.o).mono ?_;rintro e w2 ⟨rfl,aS⟩;have hI2:=(Nx.o.ak aS).old (.cells #[.int .i64 y0,.int .i64 y1,.int .i64 y2,.int .i64 y3,.int .i64 y4,.int .i64 y5,.int .i64 y6,.int .i64 y7,.int .i64 y8,.int .i64 y9] 67);have lG:=(JK.o.ak aS).old (.cells #[.int .i64 y0,.int .i64 y1,.int .i64 y2,.int .i64 y3,.int .i64 y4,.int .i64 y5,.int .i64 y6,.int .i64 y7,.int .i64 y8,.int .i64 y9] 67);have jr:=aw.new w2 #[.int .i64 y0,.int .i64 y1,.int .i64 y2,.int .i64 y3,.int .i64 y4,.int .i64 y5,.int .i64 y6,.int .i64 y7,.int .i64 y8,.int .i64 y9] 67;have D4:=aq (au aW.o aS) (.cells #[.int .i64 y0,.int .i64 y1,.int .i64 y2,.int .i64 y3,.int .i64 y4,.int .i64 y5,.int .i64 y6,.int .i64 y7,.int .i64 y8,.int .i64 y9] 67);clear aS xc xf xz;go_upto_region 3 with fail;generalize w2.alloc _=Z at hI2 lG jr D4⊢;have HI2:=Qf hI2;have A2:=Qf lG;have qg:=Qf D4;have HYZ:=Qf (HY.o.ak D4);obtain⟨ic,if',iz⟩:=hI2.facts;obtain⟨xc,xf,xz⟩:=lG.facts;obtain⟨sc,sf,sz⟩:=jr.facts;clear hI2 lG jr D4;by_cases he:xe=0
 ·have heb:(xe != 0)=false:=by simpa using he
  subst he;by_cases hno:xk=0
  ·have hnb:(xk != 0)=false:=by simpa using hno
   have HN:=Qf (xp GD.o rfl hno);dsimp only at HN;clear hno;by_cases k1:it.kind=1
   ·have k1b:(it.kind==1)=true:=by simpa using k1
    have HQ:=Qf k1;clear k1;have HE:=Qf (HN.o.trans (if_pos HQ.o));have HM:=Qf (j0 HYZ.o HK.o (by omega) ⟨HC.o.c0,by omega⟩ (by rw[HC.o.bQ];exact Nat.zero_le _) bM xd xn 493 (by have h9:xn.size≤1048576:=nK.o;omega));rw[HC.o.op] at HM;dsimp only at HM;go_wp2_with fail;refine HM.o.mono ?_;rintro e w5 ⟨rfl,R5,xR,eJ⟩;have HX:=Qf (ag xR ((aR.ar (F:=R.Y pf pw) qg.o).trans eJ));clear xR eJ;go_wp2_with fail;go_ret;rw[HE.o];exact⟨rfl,R5,_,HX.o.1,rfl,HC.o.next _,by show Y.count+1≤_;omega,HX.o.2⟩
   have k1b:(it.kind==1)=false:=by simpa using k1
   have HN1:=Qf (HN.o.trans (if_neg k1));clear k1 HN;by_cases k2:it.kind=2
   ·have k2b:(it.kind==2)=true:=by simpa using k2
    have HQ:=Qf k2;clear k2;have HE:=Qf (HN1.o.trans (if_pos HQ.o));have HM:=Qf (fT HYZ.o HK.o (by omega) ⟨HC.o.c0,by omega⟩ (by rw[HC.o.bQ];exact Nat.zero_le _) bM xd xn 420 it.data (by have h9:xn.size≤1048576:=nK.o;omega) (by omega));rw[HC.o.op] at HM;dsimp only at HM;go_wp2_with fail;refine HM.o.mono ?_;rintro e w5 ⟨rfl,R5,xR,eJ⟩;have HX:=Qf (ag xR ((aR.ar (F:=R.Y pf pw) qg.o).trans eJ));clear xR eJ;go_wp2_with fail;go_ret;rw[HE.o];exact⟨rfl,R5,_,HX.o.1,rfl,HC.o.next _,by show Y.count+1≤_;omega,HX.o.2⟩
   have k2b:(it.kind==2)=false:=by simpa using k2
   have GG:=Qf (HN1.o.trans (if_neg k2));clear k2 HN1;by_cases k3:it.kind=3
   ·have k3b:(it.kind==3)=true:=by simpa using k3
    have HQ:=Qf k3;clear k3;have HE:=Qf (GG.o.trans (if_pos HQ.o));have HM:=Qf (EL HYZ.o HK.o (by omega) ⟨HC.o.c0,by omega⟩ (by rw[HC.o.bQ];exact Nat.zero_le _) bM xd xn it.data (by have h9:xn.size≤1048576:=nK.o;omega) (by omega));rw[HC.o.op] at HM;dsimp only at HM;go_wp2_with fail;refine HM.o.mono ?_;rintro e w5 ⟨rfl,R5,xR,eJ⟩;have HX:=Qf (ag xR ((aR.ar (F:=R.Y pf pw) qg.o).trans eJ));clear xR eJ;go_wp2_with fail;go_ret;rw[HE.o];exact⟨rfl,R5,_,HX.o.1,rfl,HC.o.next _,by show Y.count+1≤_;omega,HX.o.2⟩
   have k3b:(it.kind==3)=false:=by simpa using k3
   have Mc:=Qf (GG.o.trans (if_neg k3));clear k3 GG;by_cases k4:it.kind=4
   ·have k4b:(it.kind==4)=true:=by simpa using k4
    have sR:=Qf (Mc.o.trans (if_pos k4));have Mn:=Qf (lj HYZ.o HK.o (by omega) HC.o.dead bM it.data hd false);generalize Y.fs.path bM it.data false=y at Mn sR;obtain⟨⟨yd,yn,yk,ys⟩,ye⟩:=y;unfold Fd.v at Mn;dsimp only at sR;clear k4 Mc;go_wp2_with fail;refine Mn.o.mono ?_;rintro e w3 ⟨rfl,bK⟩;have mF:=(A2.o.ak bK).old (.cells #[.int .i64 yd,.string yn,.int .i64 yk,.bool ys] 176);have hV3:=aw.new w3 #[.int .i64 yd,.string yn,.int .i64 yk,.bool ys] 176;have Ar:=aq (au qg.o bK) (.cells #[.int .i64 yd,.string yn,.int .i64 yk,.bool ys] 176);clear bK ic if' iz xc xf xz sc sf sz;go_upto_region 19 with fail;generalize w3.alloc _=V at mF hV3 Ar⊢;have HBV:=Qf Ar;have HYV:=Qf (HY.o.ak Ar);obtain⟨xc,xf,xz⟩:=mF.facts;obtain⟨vc,vf,vz⟩:=hV3.facts;clear mF hV3 Ar;by_cases hye:ye=0
    ·have hyb:(ye==0)=true:=by simpa using hye
     have HE:=Qf (sR.o.trans (if_pos hye));have HM:=Qf (Ct HYV.o HK.o (by omega) ⟨HC.o.c0,by omega⟩ (by rw[HC.o.bQ];exact Nat.zero_le _) bM yk xd xn (by have h9:xn.size≤1048576:=nK.o;omega));rw[HC.o.kx] at HM;dsimp only at HM;clear hye;go_wp2_with fail;refine HM.o.mono ?_;rintro e w5 ⟨rfl,R5,xR,eJ⟩;have HX:=Qf (ag xR ((aR.ar (F:=R.Y pf pw) HBV.o).trans eJ));clear xR eJ;go_wp2_with fail;go_ret;rw[HE.o];exact⟨rfl,R5,_,HX.o.1,rfl,HC.o.next _,by show Y.count+1≤_;omega,HX.o.2⟩
    ·have hyb:(ye==0)=false:=by simpa using hye
     have HE:=Qf (sR.o.trans (if_neg hye));clear hye;go_wp2_with fail;go_ret;rw[HE.o];exact⟨rfl,(eQ.same HY.o HC.o HBV.o).mono (by omega)⟩
   have k4b:(it.kind==4)=false:=by simpa using k4
   have sR:=Qf (Mc.o.trans (if_neg k4));clear k4 Mc;have HE:=Qf (sR.o);go_wp2_with fail;go_ret;rw[HE.o];exact⟨rfl,(eQ.same HY.o HC.o qg.o).mono (by omega)⟩
  ·have hnb:(xk != 0)=true:=by simpa using hno
   by_cases k1:it.kind=1
   ·have k1b:(it.kind==1)=true:=by simpa using k1
    by_cases k2:y2=1
    ·have k2b:(y2==1)=true:=by simpa using k2
     have HQ:=Qf (xo GD.o rfl hno k1 (by rw[←HKo.o];exact k2));clear hno k1 k2;have HE:=Qf (HQ.o);go_wp2_with fail;go_ret;rw[HE.o];exact⟨rfl,(eQ.same HY.o HC.o qg.o).mono (by omega)⟩
    ·have k2b:(y2==1)=false:=by simpa using k2
     have HQ:=Qf (ni GD.o rfl hno (fun h=>k2 (by rw[HKo.o];exact h.2)));clear hno k1 k2;have HE:=Qf (HQ.o);go_wp2_with fail;go_ret;rw[HE.o];exact⟨rfl,(eQ.same HY.o HC.o qg.o).mono (by omega)⟩
   ·have k1b:(it.kind==1)=false:=by simpa using k1
    have HQ:=Qf (ni GD.o rfl hno (fun h=>k1 h.1));clear hno k1;have HE:=Qf (HQ.o);go_wp2_with fail;go_ret;rw[HE.o];exact⟨rfl,(eQ.same HY.o HC.o qg.o).mono (by omega)⟩
 ·have heb:(xe != 0)=true:=by simpa using he
  have HQ:=Qf (xq GD.o he);clear he;have HE:=Qf (HQ.o);go_wp2_with fail;go_ret;rw[HE.o];exact⟨rfl,(eQ.same HY.o HC.o qg.o).mono (by omega)⟩
end
end
end Go.Proofs.YtabbjaomlmnnhaaGreat
