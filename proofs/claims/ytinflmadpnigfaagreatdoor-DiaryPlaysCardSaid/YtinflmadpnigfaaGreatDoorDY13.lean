import Derived.Test.YtinflmadpnigfaaGreatDoorDY12
import Derived.Test.YtinflmadpnigfaaGreatDoorDY4
import Derived.Test.YtinflmadpnigfaaGreatDoorDY11
import Derived.Test.YtinflmadpnigfaaGreatDoorDY5
import Derived.Test.YtinflmadpnigfaaGreatDoorDY10
import Derived.Test.YtinflmadpnigfaaGreatDoorDY8
import Derived.Test.YtinflmadpnigfaaGreatDoorDY6
set_option linter.unusedVariables false
set_option linter.unusedSimpArgs false
set_option maxRecDepth 100000
set_option maxHeartbeats 16000000
namespace Go.Proofs.YtinflmadpnigfaaGreatDoor
section
open Go.RowKit
theorem M7:(Tryz.prog.info? 5).map (fun i=>(i.zero,i.size,i.bytes))=some (some (.int .u8 0),1,1):=by kernel_rfl
theorem NH(r:Nat)(h:r<10)(hb:r<(ByteArray.mk #[48,49,50,51,52,53,54,55,56,57]).size):((ByteArray.mk #[48,49,50,51,52,53,54,55,56,57])[r]'hb).toNat=48+r:=by
 match r,h with
 |0,_=>rfl
 |1,_=>rfl
 |2,_=>rfl
 |3,_=>rfl
 |4,_=>rfl
 |5,_=>rfl
 |6,_=>rfl
 |7,_=>rfl
 |8,_=>rfl
 |9,_=>rfl
def G4(b n:Nat):List UInt8:=if n=0 then[] else lx b n
theorem G3{b n:Nat}(hb:2≤b)(hn:0<n):G4 b n=G4 b (n / b)++[UInt8.ofNat (48+n % b)]:=by
 unfold G4;rw[if_neg (by omega)];by_cases h:n<b
 ·rw[eH h,if_pos (Nat.div_eq_of_lt h),Nat.mod_eq_of_lt h];rfl
 ·have:0<n / b:=Nat.div_pos (by omega) (by omega);rw[if_neg (by omega),iP hb (by omega)]
theorem uI(n b:Int)(w:World)(Cd:0≤n)(gO:n≤18446744073709551615)(bO:2≤b)(ar:b≤10) :
  Calls Tryz.prog 87 #[.int .u64 n,.int .u64 b] w fun e w'=>e=.returned (.string (str (lx b.toNat n.toNat)))∧Up w w':=by
 by_cases hz:n=0
 ·subst hz;have Hv:=Um (show lx b.toNat (0:Int).toNat=[48] by rw[eH (by omega)];rfl);go_enter Tryz.func87,Tryz.ntmps87;go_wp2_with fail;go_ret;exact⟨by rw[Hv.o];rfl,Below.refl _ _⟩
 ·have iU:(n==0)=false:=by simpa using hz
  obtain⟨i0,hi,hzz,gx,fT⟩:=info_parts M7;go_enter Tryz.func87,Tryz.ntmps87;go_wp2_with fail
  go_loopg [0,5] n.toNat (fun g t0 t5 wr=>∃(m:Int) (acc:List Int) (k:Nat),0≤m∧m≤n∧g=m.toNat∧t0=.int .u64 m∧wr.ownsRow w.heap.size 5 1 t5 acc.length (acc.map (Value.int .u8))∧
   (∀x∈acc,48≤x∧x≤57)∧acc.length+k=64∧m<2 ^ k∧G4 b.toNat n.toNat=G4 b.toNat m.toNat++(acc.map fun x=>UInt8.ofNat x.toNat).reverse∧Up w wr)
  case atStart=>exact⟨n,[],64,Cd,Int.le_refl _,rfl,rfl,World.ownsRow_nil _ _ _ _,by simp,rfl,by omega,by simp,Below.refl _ _⟩
  case round=>
   obtain⟨m,acc,k,Dq,eR,hg,rfl,hown,hac,hs,hk,hd,hB⟩:=hrel;have Hg:=Um hg;have Hd:=Um hd;have Hs:=Um hs;have Hk:=Um hk;have Ha:=Um hac;clear hg hd hs hk hac;by_cases hlt:0<m
   ·obtain⟨r0,r1⟩:=IE (m:=m) bO ar;have d0:0≤m / b:=Int.ediv_nonneg Dq (by omega);have d1:m / b≤m:=Int.ediv_le_self _ Dq;have hne:(b==0)=false:=by simp;omega
    have hidx:∀h,(((ByteArray.mk #[48,49,50,51,52,53,54,55,56,57])[(m % b).toNat]'h).toNat:Int)=48+m % b:=fun h=>by
     rw[NH _ (by omega)];omega
    have hacc:acc.length+1≤64:=by
     have hk:=Hk.o;have hs:=Hs.o
     cases k with
     |zero=>simp at hk;omega
     |succ k'=>omega
    have hlo:m / b<m:=Int.ediv_lt_self_of_pos_of_ne_one (by omega) (by omega);go_wp2_with (at_builtin;refine wpList_append_own _ rfl _ _ 121 rfl w.heap.size 5 i0 (.int .u8 0) 1 1 Tryz.underlying121 hi hzz gx fT rfl (by decide) _ _ _ rfl (hown.alloc _) ⟨wr.heap.size,0,none⟩ 1 1 [.int .u8 (48+m % b)] rfl rfl ?c1 ?c2 ?c3 ?c4 ?c5 ?_)
    case c1=>exact cell_one_new _ _ _
    case c2=>intro u hu;simp at hu;subst hu;rfl
    case c3=>unfold maxLen;omega
    case c4=>omega
    case c5=>have:=hB.size;simp;omega
    intro v' w1 hown' hgrow _;have gm:Up w w1:=(al hB _).grown hgrow (by have:=hB.size;simp;omega) (fun k hk=>((hown.alloc (.cells #[.int .u8 (48+m % b)] 5)).lt k hk).1);go_wp2_with fail;go_roundg (m / b).toNat
    case measure=>rw[Hg.o];omega
    case rel=>
     have hk:=Hk.o;have hs:=Hs.o;obtain⟨k',rfl⟩:∃k',k=k'+1:=by
      cases k with
      |zero=>simp at hk;omega
      |succ k'=>exact⟨k',rfl⟩
     refine⟨m / b,acc++[48+m % b],k',d0,by omega,rfl,rfl,by simpa using hown',?_,by simp;omega,?_,?_,gm⟩
     ·intro x hx;rcases List.mem_append.1 hx with hx|hx
      ·exact Ha.o x hx
      ·simp at hx;omega
     ·have h2:m / b≤m / 2:=by
       have h3:=Int.ediv_mul_le m (show b≠0 by omega);have h4:m / b*2≤m / b*b:=Int.mul_le_mul_of_nonneg_left bO d0;omega
      have h5:(2:Int) ^ (k'+1)=2 ^ k'*2:=Int.pow_succ ..;omega
     ·rw[Hd.o,G3 (b:=b.toNat) (n:=m.toNat) (by omega) (by omega),toNat_div Dq (by omega),List.append_assoc];congr 1;rw[←toNat_mod Dq (by omega),List.map_append,List.reverse_append];show _=UInt8.ofNat (48+m % b).toNat::_;rw[show(48+m % b).toNat=48+(m % b).toNat by omega];rfl
   ·obtain rfl:m=0:=by omega
    have nQ:lx b.toNat n.toNat=(acc.map fun x=>UInt8.ofNat x.toNat).reverse:=by
     have h:=Hd.o;unfold G4 at h;rw[if_neg (by omega)] at h;simpa using h
    have hne:0<acc.length:=by
     have h1:=p5 b.toNat n.toNat (by omega);rw[nQ] at h1;simpa using h1
    obtain⟨hl,hf⟩:=hown;rcases hf with⟨-,h⟩|⟨g,cap,cur,rfl,vm,hh,eS,eh,No,hc4⟩
    ·omega
    have hown:wr.ownsRow w.heap.size 5 1 (.slice (some ⟨g,0,none⟩) acc.length cap) acc.length (acc.map (Value.int .u8)):=⟨hl,.inr ⟨g,cap,cur,rfl,vm,hh,eS,eh,No,hc4⟩⟩;have Hd0:=Um nQ;have hL:acc.length≤64:=by have:=Hs.o;omega
    clear hl hh eS No hc4 nQ Hd;go_wp2_with fail
    go_loopg [6,7] (acc.length+1) (fun gg t6 t7 wr=>∃(k j:Nat) (cr:List Int),gg+k=acc.length+1∧j+k+1=acc.length∧k≤j+2∧t6=.int .i64 k∧t7=.int .i64 j∧
     wr.ownsRow w.heap.size 5 1 (.slice (some ⟨g,0,none⟩) acc.length cap) acc.length (cr.map (Value.int .u8))∧cr.length=acc.length∧
     (∀x,x<acc.length→cr.getD x 0=if x<k∨j<x then acc.getD (acc.length-1-x) 0 else acc.getD x 0)∧Up w wr)
    case atStart=>exact⟨0,acc.length-1,acc,by omega,by omega,by omega,rfl,by go_num,hown,rfl,fun x hx=>by rw[if_neg (by omega)],hB⟩
    case round=>
     obtain⟨k,j,cr,A9,hkj,ig,rfl,rfl,hown,hcl,hcr,hB⟩:=hrel;have Hcr:=Um hcr;have OD:=Um hcl;have Hg1:=Um A9;have Hkj:=Um hkj;clear hcr hcl A9;by_cases hlt:k<j
     ·have hck:wr.cell? ⟨g,k,none⟩=some (.int .u8 (cr.getD k 0)):=by
       rw[hown.cellAt k (by omega),List.getElem?_map,List.getElem?_eq_getElem (by have:=OD.o;omega),List.getD_eq_getElem?_getD,List.getElem?_eq_getElem (by have:=OD.o;omega)];rfl
      have hcj:wr.cell? ⟨g,j,none⟩=some (.int .u8 (cr.getD j 0)):=by
       rw[hown.cellAt j (by omega),List.getElem?_map,List.getElem?_eq_getElem (by have:=OD.o;omega),List.getD_eq_getElem?_getD,List.getElem?_eq_getElem (by have:=OD.o;omega)];rfl
      have hf:=hown.frozenAt;have hne:¬k=j:=by omega
      have hne':¬j=k:=by omega
      have hkL:(k:Int)<acc.length:=by omega
      have hjL:(j:Int)<acc.length:=by omega
      have hj0:(0:Int)≤j:=by omega
      have Ng:(0:Int)≤k:=by omega
      have Hown:=Um hown;clear hown hkj;generalize hu:cr.getD k 0=u at hck;generalize hv:cr.getD j 0=v at hcj;have Hu:=Um hu;have Hv:=Um hv;clear hu hv;go_wp2_with fail
      go_region
      go_wp2_with fail;go_roundg (gk-1)
      case measure=>have:=Hg1.o;have:=Hkj.o;omega
      case rel=>
       have hcr:=Hcr.o;have hcl:=OD.o;have hkj:=Hkj.o;have s1:=(Hown.o.stored k (.int .u8 v)).1;have s2:=(s1.stored j (.int .u8 u)).1;have hg:=vm;refine⟨k+1,j-1,(cr.set k v).set j u,by have:=Hg1.o;omega,by omega,by omega,by go_num,by go_num,?_,by simp[hcl],?_,?_⟩
       ·rw[List.map_set,List.map_set];exact s2
       ·intro x hx;have hx':=hcr x hx;have hk':=hcr k (by omega);have hj':=hcr j (by omega);rw[if_neg (by omega),Hu.o] at hk';rw[if_neg (by omega),Hv.o] at hj';simp only[List.getD_eq_getElem?_getD] at hx' hk' hj'⊢;by_cases e1:x=j
        ·subst e1;rw[List.getElem?_set_self (by simp;omega),if_pos (by omega),show acc.length-1-x=k by omega];exact hk'
        ·rw[List.getElem?_set_ne (by omega)];by_cases e2:x=k
         ·subst e2;rw[List.getElem?_set_self (by omega),if_pos (by omega),show acc.length-1-x=j by omega];exact hj'
         ·rw[List.getElem?_set_ne (by omega),hx'];by_cases e3:x<k∨j<x
          ·rw[if_pos e3,if_pos (by omega)]
          ·rw[if_neg e3,if_neg (by omega)]
       ·exact((hB.setCell (p:=⟨g,k,none⟩) hg _).setCell (p:=⟨g,j,none⟩) hg _).drew
     ·have hcr:cr=acc.reverse:=by
       have hcl:=OD.o;apply List.ext_getElem (by simp[hcl]);intro x h1 h2;have hx:=Hcr.o x (by omega);rw[List.getD_eq_getElem?_getD,List.getElem?_eq_getElem h1] at hx;rw[List.getElem_reverse];by_cases e:x<k∨j<x
       ·rw[if_pos e,List.getD_eq_getElem?_getD,List.getElem?_eq_getElem (by omega)] at hx;exact hx
       ·rw[if_neg e,List.getD_eq_getElem?_getD,List.getElem?_eq_getElem (by omega)] at hx;have e2:x=acc.length-1-x:=by omega
        simp only[Option.getD_some] at hx;rw[hx];congr 1
      have kc:=lz (P:=Tryz.prog) Tryz.underlying121 Tryz.underlying5 Tryz.underlying9 wr g 0 cap cr (by
       intro x hx;have hcl:=OD.o;rw[Nat.zero_add,hown.cellAt x (by omega),List.getElem?_map,List.getElem?_eq_getElem hx];rfl)
      rw[OD.o] at kc;have Hcr2:=Um hcr;clear hcr;go_wp2_with fail;go_ret;refine⟨?_,hB⟩;rw[Hd0.o,Hcr2.o,List.map_reverse];rfl
end
section
open Go.RowKit
theorem NJ(n:Int)(w:World)(h0:-9223372036854775808≤n)(h1:n≤9223372036854775807) :
  Calls Tryz.prog 51 #[.int .i64 n] w fun e w'=>e=.returned (.string (str (cG n)))∧Up w w':=by
 by_cases hn:n<0
 ·have Hv:=Um (show cG n=45::lx 10 n.natAbs by unfold cG;rw[if_pos hn]);have hsz:=lv 10 (by decide) 19 n.natAbs (by
                            have e:(10:Nat) ^ (19+1)=100000000000000000000:=by decide
                            rw[e];omega)
  have hsz':(str (lx 10 n.natAbs)).size≤20:=by rw[aP];exact hsz
  clear hsz;go_enter Tryz.func51,Tryz.ntmps51;have Hw:=Um (show IntKind.u64.wrap (-IntKind.u64.wrap n)=-n by rw[IntKind.wrap_u64,IntKind.wrap_u64];omega);go_wp2_with fail;rw[Hw.o];refine(uI (-n) 10 _ (by omega) (by omega) (by decide) (by decide)).mono ?_;rw[show lx (10:Int).toNat (-n).toNat=lx 10 n.natAbs by rw[show(-n).toNat=n.natAbs by omega];rfl];rintro e w1 ⟨rfl,ar⟩;go_wp2_with fail;go_ret;refine⟨?_,ar⟩;rw[Hv.o];show Ending.returned (.string (str [45]++str _))=_;rw[aY];rfl
 ·have Hv:=Um (show cG n=lx 10 n.toNat by unfold cG;rw[if_neg hn]);go_enter Tryz.func51,Tryz.ntmps51;go_wp2_with fail;refine(uI n 10 _ (by omega) (by omega) (by decide) (by decide)).mono ?_;rintro e w1 ⟨rfl,ar⟩;go_wp2_with fail;go_ret;exact⟨by rw[Hv.o];rfl,ar⟩
end
section
open Go.RowKit
def Og(n:Int):List UInt8:=if n<2 then[] else 46::cG n
def nthS(base:ByteArray)(n:Int):ByteArray:=base.extract 0 (min base.size (245-(Og n).length))++str (Og n)
end
section
open Go.RowKit
structure Us where
 u:Int
 g:Int
 data:ByteArray
def Us.c(x:Us):Cr:=⟨x.u,x.g⟩
def Us.v(x:Us):Value:=.agg #[.int .i64 x.u,.int .i64 x.g,.string x.data]
structure NT where
 dir:Int
 name:ByteArray
 top:ByteArray
structure Cn where
 path:ByteArray
 dir:Int
 info:Int
 files:Int
 out:Int
 way:Int
 top:ByteArray
 deriving DecidableEq
def KV:Cn:=⟨ByteArray.empty,0,0,0,0,0,ByteArray.empty⟩
def AP:ByteArray:=ByteArray.mk #[84,114,97,115,104]
def pJ:ByteArray:=ByteArray.mk #[46,84,114,97,115,104]
def Es:ByteArray:=ByteArray.mk #[105,110,102,111]
def yq:ByteArray:=ByteArray.mk #[102,105,108,101,115]
def MR:ByteArray:=ByteArray.mk #[101,120,112,117,110,103,101,100]
def MQ:ByteArray:=ByteArray.mk #[109,111,118,105,110,103]
def dq:ByteArray:=ByteArray.mk #[114,97,103,112,105,99,107,101,114,46,117,110,100,111]
def Fs.cR(S:Fs)(d:Bool)(c:Cr)(dir:Int)(n:ByteArray):Int×Int:=
 if d=true then(0,20) else if S.dF c dir 1 1≠0 then(0,S.dF c dir 1 1)
 else if aN (S.dg dir) n=0 then(0,5) else(S.over (aN (S.dg dir) n),0)
def ownV(c:Cr)(x y:An)(no:Int):Int×Int:=
 if x.kind≠1 then(0,9) else if x.dev≠y.dev then(0,16) else if x.uid≠c.u then(0,4) else if x.may c 7=false then(0,6) else(no,0)
def Fs.lQ(S:Fs)(d:Bool)(c:Cr)(dir:Int)(n:ByteArray):Int×Int:=
 if(S.cR d c dir n).2=5 then(0,0) else if(S.cR d c dir n).2≠0 then(0,(S.cR d c dir n).2)
 else ownV c (S.cC (S.cR d c dir n).1) (S.cC dir) (S.cR d c dir n).1
def Fs.bL(S:Fs)(d:Bool)(u:Us):Int×Int:=
 if d=true then(0,20) else if(S.path u.c u.data true).2≠0 then(0,(S.path u.c u.data true).2)
 else if(S.path u.c u.data true).1.no=0 then(0,5) else if(S.cC (S.path u.c u.data true).1.no).kind≠1 then(0,9) else((S.path u.c u.data true).1.no,0)
def comV(x y:An)(no:Int):Int×Int:=
 if x.kind≠1 then(0,9) else if x.dev≠y.dev then(0,16) else if x.mode<512 then(0,4) else(no,0)
def Fs.ER(S:Fs)(d:Bool)(c:Cr)(top:Int):Int×Int:=
 if(S.cR d c top pJ).2≠0 then(0,(S.cR d c top pJ).2)
 else comV (S.cC (S.cR d c top pJ).1) (S.cC top) (S.cR d c top pJ).1
def P8(n:Int):ByteArray:=str (cG n)
def AO(u:Int):ByteArray:=ByteArray.mk #[46,84,114,97,115,104,45]++P8 u
def Fs.Ek(S:Fs)(d:Bool)(u:Us)(top:Int)(path:ByteArray):List NT:=
 (if(S.ER d u.c top).2=0 then[⟨(S.ER d u.c top).1,P8 u.u,path⟩] else[])++[⟨top,AO u.u,path⟩]
def kH(r:Int×Int):Int×Int:=if r.2=0∧r.1=0 then(0,5) else r
def Fs.Jw(S:Fs)(dir:Int)(top:ByteArray)(i f o y:Int):Cn×Int:=match S.fZ dir with
 |none=>(KV,5)
 |some s=>(⟨s,dir,i,f,o,y,top⟩,0)
def Fs.Jv(S:Fs)(d:Bool)(c:Cr)(dir:Int)(top:ByteArray)(i f o:Int):Cn×Int:=
 if(S.lQ d c dir MQ).2≠0 then(KV,(S.lQ d c dir MQ).2) else S.Jw dir top i f o (S.lQ d c dir MQ).1
def Fs.Ju(S:Fs)(d:Bool)(c:Cr)(dir:Int)(top:ByteArray)(i f:Int):Cn×Int:=
 if(S.lQ d c dir MR).2≠0 then(KV,(S.lQ d c dir MR).2) else S.Jv d c dir top i f (S.lQ d c dir MR).1
def Fs.Jt(S:Fs)(d:Bool)(c:Cr)(dir:Int)(top:ByteArray)(i:Int):Cn×Int:=
 if(kH (S.lQ d c dir yq)).2≠0 then(KV,(kH (S.lQ d c dir yq)).2) else S.Ju d c dir top i (kH (S.lQ d c dir yq)).1
def Fs.Js(S:Fs)(d:Bool)(c:Cr)(dir:Int)(top:ByteArray):Cn×Int:=
 if(kH (S.lQ d c dir Es)).2≠0 then(KV,(kH (S.lQ d c dir Es)).2) else S.Jt d c dir top (kH (S.lQ d c dir Es)).1
def Fs.AF(S:Fs)(d:Bool)(u:Us)(p:NT):Cn×Int:=
 if(kH (S.lQ d u.c p.dir p.name)).2≠0 then(KV,(kH (S.lQ d u.c p.dir p.name)).2) else S.Js d u.c (kH (S.lQ d u.c p.dir p.name)).1 p.top
def RT(l:List Cn)(x:Cn):List Cn:=if l.any (fun y=>y.dir==x.dir)=true then l else l++[x]
def Fs.TA(S:Fs)(d:Bool)(u:Us)(l:List Cn)(p:NT):List Cn:=if(S.AF d u p).2=0 then RT l (S.AF d u p).1 else l
def Fs.Sq(S:Fs)(d:Bool)(u:Us):List Cn:=
 if(S.bL d u).2=0 then(if(S.AF d u ⟨(S.bL d u).1,AP,ByteArray.empty⟩).2=0 then[(S.AF d u ⟨(S.bL d u).1,AP,ByteArray.empty⟩).1] else[]) else[]
def Fs.RL(S:Fs)(d:Bool)(u:Us)(l:List Cn)(t:Int×ByteArray):List Cn:=(S.Ek d u t.1 t.2).foldl (S.TA d u) l
def Fs.Ty(S:Fs)(d:Bool)(u:Us):List Cn:=S.Of.foldl (S.RL d u) (S.Sq d u)
def Fs.keepsF(S:Fs)(d:Bool)(u:Us)(no dir:Int)(n:ByteArray):Int:=
 if(S.Ty d u).any (fun x=>S.within x.dir no||S.within dir x.dir)=true then 17
 else if(S.bL d u).2=0∧(S.within (S.bL d u).1 no=true∨dir=(S.bL d u).1∧n=dq) then 17 else 0
def Fs.So(S:Fs)(d:Bool)(u:Us):List ByteArray:=
 if(S.bL d u).2=0 then(match S.fZ (S.bL d u).1 with|some s=>[oV s AP]|none=>[]) else[]
def RV(u:Us)(t:Int×ByteArray):List ByteArray:=[oV (oV t.2 pJ) (P8 u.u),oV t.2 (AO u.u)]
def Fs.pathsF(S:Fs)(d:Bool)(u:Us):List ByteArray:=S.So d u++S.Of.flatMap (RV u)
structure qj(S:Fs)(N:Nat):Prop where
 ok:av S N
 pl:Pl S
 tr:Tr S
 wy:Wy S
 nm:Nm S
theorem C3(ms:List Mt)(is:List It):qj (dS ms is) (1+2*ms.length+is.length):=⟨Jl ms is,Jk ms is,Jj ms is,Ji ms is,Jm ms is⟩
theorem qj.file{S:Fs}{N:Nat}(h:qj S N)(c:Cr)(now dir:Int)(s:ByteArray)(m:Int)(t:ByteArray):qj (S.file c now dir s m t).1 (N+1):=
 ⟨EL h.ok c now dir s m t,h.pl.file h.ok c now dir s m t,h.tr.file h.ok c now dir s m t,h.wy.file h.ok h.tr c now dir s m t,h.nm.file c now dir s m t⟩
theorem qj.mono{S:Fs}{N M:Nat}(h:qj S N)(hM:N≤M):qj S M:=⟨h.ok.mono hM,h.pl,h.tr,h.wy,h.nm⟩
theorem oP(S:Fs)(k:Int):(∃a,S.get k=some a∧S.cC k=a)∨(S.get k=none∧S.cC k=dh):=by
 cases hg:S.get k with
 |none=>exact .inr ⟨rfl,nG hg⟩
 |some a=>exact .inl ⟨a,rfl,iF hg⟩
theorem BS{S:Fs}{N:Nat}(hk:av S N)(hp:Pl S)(hw:Wy S){k:Int}{a:An}(hg:S.get k=some a)(hd:a.kind=1):∃b,S.get (S.aQ k)=some b:=by
 unfold Fs.aQ;rw[hg];dsimp only;rw[if_neg (by omega)];by_cases hr:S.root a.dev=k∧1<a.dev
 ·rw[if_pos hr];have h8:=(hk.get hg).1.dev;obtain⟨v,hv,hi⟩:=q' h8.1 h8.2;obtain⟨hlt,he⟩:=List.getElem?_eq_some_iff.1 hi;obtain⟨b,hb,hbk,-⟩:=hp.over _ hlt (by omega);rw[he] at hb;obtain⟨x,hx,-⟩:=hw.ud b (cx hb) hbk;exact⟨x,by rw[hv];dsimp only;rw[hb];exact hx⟩
 ·rw[if_neg hr];obtain⟨x,hx,-⟩:=hw.ud a (cx hg) hd;exact⟨x,hx⟩
def Ends(S:Fs)(x:Fd×Int):Prop:=x.2=0→x.1.no≠0→∃a,S.get x.1.no=some a
theorem kt(S:Fs){e:Int}(x:Fd)(h:e≠0):Ends S (x,e):=fun h'=>absurd h' h
theorem kN{S:Fs}{N:Nat}(hk:av S N)(hp:Pl S)(hw:Wy S)(c:Cr)(f:Bool)(k:Option (Int→Bool→List (List UInt8)→Fd×Int))
  (hkk:∀g,k=some g→∀at' must l,(∃a,S.get at'=some a)→Ends S (g at' must l)) :
  ∀(l:List (List UInt8)) (at':Int) (must:Bool),(∃a,S.get at'=some a)→Ends S (S.cy c f k l at' must)
 | [],at',must,h=>fun _ _=>h
 |p::l,at',must,h=>by
  rw[Fs.cy]
  split
  ·rename_i h2;exact kt S _ h2
  ·rename_i h2;have kA:(S.step c at' p).2=0:=by simpa using h2
   split
   ·rename_i hpp;refine kN hk hp hw c f k hkk l _ must ?_;obtain⟨a,ha⟩:=h;unfold Fs.step at kA⊢;rw[ha] at kA⊢;dsimp only at kA⊢;by_cases hd:a.kind=1
    ·rw[if_neg (by omega)] at kA⊢;by_cases hm:a.may c 1=false
     ·rw[if_pos hm] at kA
      cases kA
     ·rw[if_neg hm,if_pos hpp];exact BS hk hp hw ha hd
    ·rw[if_pos hd] at kA
     cases kA
   ·split
    ·split
     ·exact fun _ h0=>absurd rfl h0
     ·exact kt S _ (by decide)
    ·rename_i n hn
     split
     ·split
      ·exact kt S _ (by decide)
      ·rename_i g hgk
       split
       ·exact kt S _ (by decide)
       ·refine hkk _ rfl _ _ _ ?_
        split
        ·obtain⟨a,ha,-⟩:=hp.one;exact⟨a,ha⟩
        ·exact h
     ·split
      ·exact kt S _ (by decide)
      ·split
       ·exact fun _ _=>⟨n,hn⟩
       ·exact kN hk hp hw c f k hkk l _ must ⟨n,hn⟩
theorem ti{S:Fs}{N:Nat}(hk:av S N)(hp:Pl S)(hw:Wy S)(c:Cr)(f:Bool):∀(h:Nat) (at':Int) (must:Bool) (l:List (List UInt8)),(∃a,S.get at'=some a)→Ends S (S.eO c f h at' must l)
 |0,at',must,l,ha=>kN hk hp hw c f none (fun _ h=>by cases h) l at' must ha
 |h+1,at',must,l,ha=>kN hk hp hw c f _ (fun g hg at2 must2 l2 h2=>by
  injection hg with hg;subst hg;exact ti hk hp hw c f h at2 must2 l2 h2) l at' must ha
theorem F9{S:Fs}{N:Nat}(hk:av S N)(hp:Pl S)(hw:Wy S)(c:Cr)(s:ByteArray)(f:Bool):Ends S (S.path c s f):=by
 unfold Fs.path
 split
 ·rename_i h;exact kt S _ h
 ·obtain⟨a,ha,-⟩:=hp.one;exact ti hk hp hw c f 8 1 _ _ ⟨a,ha⟩
end
section
open Go.RowKit
section
variable{w w':World}{pf:Nat}{R:Rf}{S:Fs}
theorem aE.IW(h:aE w pf R S){g cap:Nat}(hdv:R.dv=.slice (some ⟨g,0,none⟩) S.ds.length cap){k:Nat}(hk:k<S.ds.length)(v:Dv)(hv:S.ds[k]=v)(b n:Int) :
  aE ((((w.setCell ⟨g,k*6+2,none⟩ (.int .i64 b)).setCell ⟨g,k*6+3,none⟩ (.int .i64 n)).setCell ⟨g,k*6+4,none⟩ (.int .i64 v.mb)).setCell ⟨g,k*6+5,none⟩ (.int .i64 v.mn)) pf R (S.aR ((k:Int)+1) {v with b:=b,n:=n})∧Mod (R.F pf) w ((((w.setCell ⟨g,k*6+2,none⟩ (.int .i64 b)).setCell ⟨g,k*6+3,none⟩ (.int .i64 n)).setCell ⟨g,k*6+4,none⟩ (.int .i64 v.mb)).setCell ⟨g,k*6+5,none⟩ (.int .i64 v.mn)):=by
 have hm:Mod (fun x=>x=g) w ((((w.setCell ⟨g,k*6+2,none⟩ (.int .i64 b)).setCell ⟨g,k*6+3,none⟩ (.int .i64 n)).setCell ⟨g,k*6+4,none⟩ (.int .i64 v.mb)).setCell ⟨g,k*6+5,none⟩ (.int .i64 v.mn)):=
  ((((Mod.refl (fun x=>x=g) w).setCell (a:=⟨g,k*6+2,none⟩) (.inl rfl) _).setCell (a:=⟨g,k*6+3,none⟩) (.inl rfl) _).setCell (a:=⟨g,k*6+4,none⟩) (.inl rfl) _).setCell (a:=⟨g,k*6+5,none⟩) (.inl rfl) _
 have hgb:R.dv.ownBlock=some g:=by rw[hdv];rfl
 have hM:Mod (R.F pf) w ((((w.setCell ⟨g,k*6+2,none⟩ (.int .i64 b)).setCell ⟨g,k*6+3,none⟩ (.int .i64 n)).setCell ⟨g,k*6+4,none⟩ (.int .i64 v.mb)).setCell ⟨g,k*6+5,none⟩ (.int .i64 v.mn)):=hm.mono (fun x hx=>.inr (.inr (by rw[hx];exact hgb)));obtain⟨-,hcur⟩:=aT h.eI hgb;have hl:(S.aR ((k:Int)+1) {v with b:=b,n:=n}).ds=S.ds.set k {v with b:=b,n:=n}:=by
  unfold Fs.aR;rw[show((k:Int)+1-1).toNat=k by omega]
 refine⟨⟨h.bd.mod hm (cT hcur h.bd (by decide)),bq h.sj hm (fun x hx e=>?_),?_,h.ns,fun x hx=>(h.aB x hx).rf h (aL.dH hM)⟩,hM⟩
 ·obtain⟨-,cur2,eh⟩:=aT h.sj e;rw[hx] at eh;exact cT hcur (show au w g cur2 99 from eh) (by decide) rfl
 rw[hl,List.length_set];have h0:=h.eI;rw[hdv] at h0⊢;have hkl:k*6+5<(S.ds.flatMap Dv.cs).length:=by rw[qS];omega
 have p1:=fQ h0 (k*6+2) (by omega) (.int .i64 b);have p2:=fQ p1 (k*6+3) (by rw[List.length_set];omega) (.int .i64 n);have p3:=fQ p2 (k*6+4) (by rw[List.length_set,List.length_set];omega) (.int .i64 v.mb);have p4:=fQ p3 (k*6+5) (by rw[List.length_set,List.length_set,List.length_set];omega) (.int .i64 v.mn);have hs:=fB Dv.bt ({v with b:=b,n:=n}:Dv) S.ds k hk;rw[←hs];have c0:(S.ds.flatMap Dv.cs)[k*6]?=some (.int .i64 v.root):=by
  have:=fH Dv.bt S.ds k 0 hk (by omega);rw[Nat.add_zero] at this;rw[this,hv];rfl
 have c1:(S.ds.flatMap Dv.cs)[k*6+1]?=some (.int .i64 v.over):=by
  rw[fH Dv.bt S.ds k 1 hk (by omega),hv];rfl
 have e0:(S.ds.flatMap Dv.cs).set (k*6) (.int .i64 v.root)=S.ds.flatMap Dv.cs:=by
  have hlt:k*6<(S.ds.flatMap Dv.cs).length:=by omega
  rw[List.getElem?_eq_getElem hlt] at c0;injection c0 with c0;rw[←c0,List.set_getElem_self]
 have e1:(S.ds.flatMap Dv.cs).set (k*6+1) (.int .i64 v.over)=S.ds.flatMap Dv.cs:=by
  have hlt:k*6+1<(S.ds.flatMap Dv.cs).length:=by omega
  rw[List.getElem?_eq_getElem hlt] at c1;injection c1 with c1;rw[←c1,List.set_getElem_self]
 show World.ownsRow _ 0 208 6 _ _ ((((((((S.ds.flatMap Dv.cs).set (k*6) (.int .i64 v.root)).set (k*6+1) (.int .i64 v.over)).set (k*6+2) (.int .i64 b)).set (k*6+3) (.int .i64 n)).set (k*6+4) (.int .i64 v.mb)).set (k*6+5) (.int .i64 v.mn)));rw[e0,e1];exact p4
theorem CX(h:aE w pf R S)(a:An)(ea:Option Addr)(el ec:Nat)(hr:S.root a.dev=0) :
  Calls Tryz.prog 189 #[.pointer (some ⟨pf,0,none⟩),a.v ea el ec] w fun e w'=>e=.returned (.tuple #[.int .i64 0,.int .i64 1])∧Up w w':=by
 have bO:=al (Uq w) (.cells #[.int .i64 a.no,.int .i64 a.dev,.int .i64 a.kind,.int .i64 a.mode,.int .i64 a.uid,.int .i64 a.gid,.int .i64 a.mtime,.int .i64 a.ctime,.int .i64 a.an,.int .i64 a.up,.string a.data,.slice ea el ec] 99);have sw:=Um (jq (h.ak ((Below.refl _ w).alloc (aa _) (.cells #[.int .i64 a.no,.int .i64 a.dev,.int .i64 a.kind,.int .i64 a.mode,.int .i64 a.uid,.int .i64 a.gid,.int .i64 a.mtime,.int .i64 a.ctime,.int .i64 a.an,.int .i64 a.up,.string a.data,.slice ea el ec] 99))) a.dev);rw[hr] at sw;have bP:=Um bO;have gm:=au.new w #[.int .i64 a.no,.int .i64 a.dev,.int .i64 a.kind,.int .i64 a.mode,.int .i64 a.uid,.int .i64 a.gid,.int .i64 a.mtime,.int .i64 a.ctime,.int .i64 a.an,.int .i64 a.up,.string a.data,.slice ea el ec] 99;obtain⟨qc,-,-⟩:=gm.facts;unfold An.v;clear h hr bO gm;go_enter Tryz.func189,Tryz.ntmps189;go_wp2_with fail;refine sw.o.mono ?_;rintro e w1 ⟨rfl,rfl⟩;go_wp2_with fail;go_ret2;exact⟨rfl,bP.o⟩
theorem FJ(h:aE w pf R S){k:Nat}(hk:k<S.ds.length)(a:An)(ea:Option Addr)(el ec:Nat)(he:aA w ea el ec a.aB)(hdev:a.dev=(k:Int)+1)(hr:S.root a.dev≠0)(hs:a.data.size≤1048576)(dL:0≤S.last)(qk:S.last≤1000000)(hgl:S.ns.length≤1000000) :
  Calls Tryz.prog 189 #[.pointer (some ⟨pf,0,none⟩),a.v ea el ec] w fun e w'=>e=.returned (.tuple #[.int .i64 (S.make a).2.1,.int .i64 (S.make a).2.2])∧∃R',aE w' pf R' (S.make a).1∧aL (R.F pf) (R'.F pf) w w'∧Rf.ct R R':=by
 have hlen:=h.len;have HR:=Um (jq (h.ak ((Below.refl _ w).alloc (aa _) (.cells #[.int .i64 a.no,.int .i64 a.dev,.int .i64 a.kind,.int .i64 a.mode,.int .i64 a.uid,.int .i64 a.gid,.int .i64 a.mtime,.int .i64 a.ctime,.int .i64 a.an,.int .i64 a.up,.string a.data,.slice ea el ec] 99))) a.dev);obtain⟨g,cap,hdv,hle,sI,hgl,hc,hfg,-⟩:=h.jm (by omega);obtain⟨c0,c1,c2,c3,c4,c5⟩:=hc k hk;obtain⟨v,hv⟩:∃v,S.ds[k]=v:=⟨_,rfl⟩;rw[hv] at c0 c1 c2 c3 c4 c5;obtain⟨pc,-,pz⟩:=h.bd.facts;rw[hdv] at pc;obtain⟨rt,hrt⟩:∃rt,S.root a.dev=rt:=⟨_,rfl⟩;have hrn:=hr;rw[hrt] at HR hr;have vC:S.dev a.dev=some v:=by
  unfold Fs.dev;rw[if_pos (by omega),hdev,show((k:Int)+1-1).toNat=k by omega,List.getElem?_eq_getElem hk,hv]
 obtain⟨n,hn⟩:∃n,S.ds.length=n:=⟨_,rfl⟩;have hkn:k<n:=by omega
 rw[hn] at pc hle;have J5:(rt==0)=false:=by simpa using hr
 have hT:=fun w=>vY v.b v.n v.mb v.mn (bR a.kind a.data.size) 1 w;unfold II at hT;have HB:=Um (fun w=>mq a.kind a.data.size (by omega) w);have zd:=Um (fun(yB:gZ v.b v.n v.mb v.mn (bR a.kind a.data.size) 1≠0)=>AS hrn vC yB);have sg:=Um (fun(yB:gZ v.b v.n v.mb v.mn (bR a.kind a.data.size) 1=0)=>Ev hrn vC yB);have HQ:=Um (fun(yB:gZ v.b v.n v.mb v.mn (bR a.kind a.data.size) 1=0)=>show Cy v.b v.n v.mb v.mn (bR a.kind a.data.size) 1=v.b+bR a.kind a.data.size∧Cx v.b v.n v.mb v.mn (bR a.kind a.data.size) 1=v.n+1 by unfold Cy Cx;rw[if_pos yB,if_pos yB];exact⟨rfl,rfl⟩);have oc:=Um h;have jW:=Um he;have j8:=Um hdv;have HV:=Um (show∃hk:k<S.ds.length,S.ds[k]=v from⟨hk,hv⟩);have Le:=Um hdev;unfold An.v;rw[hdev] at HR⊢;have B1:=au.new w #[.int .i64 a.no,.int .i64 ((k:Int)+1),.int .i64 a.kind,.int .i64 a.mode,.int .i64 a.uid,.int .i64 a.gid,.int .i64 a.mtime,.int .i64 a.ctime,.int .i64 a.an,.int .i64 a.up,.string a.data,.slice ea el ec] 99;have ar:=(Uq w).alloc (aa _) (.cells #[.int .i64 a.no,.int .i64 ((k:Int)+1),.int .i64 a.kind,.int .i64 a.mode,.int .i64 a.uid,.int .i64 a.gid,.int .i64 a.mtime,.int .i64 a.ctime,.int .i64 a.an,.int .i64 a.up,.string a.data,.slice ea el ec] 99);clear h hr hrn hrt hn hv hc hdv vC he hk hdev c0 c1;generalize bR a.kind a.data.size=bk at hT HB zd sg HQ;generalize gZ v.b v.n v.mb v.mn bk 1=e0 at hT zd sg HQ;generalize Cy v.b v.n v.mb v.mn bk 1=qb at hT HQ;generalize Cx v.b v.n v.mb v.mn bk 1=qn at hT HQ;have HT:=Um hT;clear hT;go_enter Tryz.func189,Tryz.ntmps189;go_wp2_with fail;refine HR.o.mono ?_;rintro e w1 ⟨rfl,rfl⟩;generalize w.alloc _=W at B1 ar⊢;obtain⟨Bn,vE⟩:∃Bn,w.heap.size=Bn:=⟨_,rfl⟩;rw[vE] at B1⊢;obtain⟨bc,bf,bz⟩:=B1.facts;rw[←ar.cell (p:=⟨g,k*6+2,none⟩) hgl] at c2;rw[←ar.cell (p:=⟨g,k*6+3,none⟩) hgl] at c3;rw[←ar.cell (p:=⟨g,k*6+4,none⟩) hgl] at c4;rw[←ar.cell (p:=⟨g,k*6+5,none⟩) hgl] at c5;have pc1:W.cell? ⟨pf,1,none⟩=_:=(ar.cell (p:=⟨pf,1,none⟩) pz).trans (pc 1);have yx:g<W.heap.size:=Nat.lt_of_lt_of_le hgl ar.size;have QI:pf<W.heap.size:=Nat.lt_of_lt_of_le pz ar.size;have HW:=Um ar;have cM:=Um B1;have QB:=Um vE;clear pc ar B1 vE;have mixed:Tryz.prog.follows .mixedOrders=true:=by kernel_rfl
 go_upto_region 3 with(fail)
 go_cut [6,7] (fun t6 t7 wx=>∃Bq:Nat,t6=.pointer (some ⟨Bq,0,none⟩)∧t7=.int .i64 e0∧au wx Bq #[.int .i64 qb,.int .i64 qn,.int .i64 v.mb,.int .i64 v.mn] 206∧Up W wx)
 case first=>
  go_wp2_with fail;have pO:IntKind.i64.wrap ((k:Int)+1-1)=(k:Int):=by rw[IntKind.wrap_i64];omega
  have Ih:IntKind.i64.wrap (k:Int)=(k:Int):=by rw[IntKind.wrap_i64];omega
  have bJ:(k:Int)<(n:Int):=by omega
  have dI:(0:Int)≤(k:Int):=by omega
  have hzz:W.heap.size≤W.heap.size:=aa _
  go_region_held3 (fun w'=>(∀b o,b<W.heap.size→w'.cell? ⟨b,o,none⟩=W.cell? ⟨b,o,none⟩)∧Up W w') (first|with_reducible assumption|with_reducible exact ck _|with_reducible exact bI _|with_reducible exact bN (by assumption) (by assumption)|with_reducible exact bB (by assumption) _|with_reducible exact bu (by assumption) _|with_reducible exact bm (by assumption) (by assumption)|with_reducible exact cj (by assumption) (by assumption))
   (first|(go_at_call 184;((with_reducible refine(HB.o _).mono ?_);rintro e w4 ⟨rfl,rfl⟩))|(go_at_call 183;((with_reducible refine(HT.o _).mono ?_);rintro e w4 ⟨rfl,b9⟩;have Pg:=ae (And.right ‹(∀b o,b<W.heap.size→_)∧Up W _›).size b9.size;try (have hbq:=gj b9;obtain⟨bqc,bqf,bqz⟩:=hbq.facts))))
  all_goals
   obtain⟨-,lJ⟩:=‹_∧Up W _›;have sO:=Um lJ
   try (have zv:=Um hbq)
   clear lJ;go_wp2_with fail;go_meet;exact⟨_,rfl,rfl,by first|exact zv.o.cO|exact au.new _ _ _,sO.o⟩
 case rest=>
  obtain⟨Bq,rfl,rfl,hQ,hS⟩:=hcut;have HS:=Um hS;have oY:=Um (show Up w wc from HW.o.trans (hS.mono HW.o.size));by_cases h0:e0=0
  ·obtain⟨hk,hv⟩:=HV.o;obtain⟨rfl,rfl⟩:=HQ.o h0;have jU:=Um (sg.o h0);subst h0;obtain⟨qc,qf,qz⟩:=hQ.facts;have pcw:wc.cell? ⟨pf,1,none⟩=_:=(hS.cell (p:=⟨pf,1,none⟩) QI).trans pc1;have bcw:wc.cell? ⟨Bn,1,none⟩=_:=(hS.cell (p:=⟨Bn,1,none⟩) bz).trans (bc 1);rw[←hS.cell (p:=⟨g,k*6+2,none⟩) yx] at c2;rw[←hS.cell (p:=⟨g,k*6+3,none⟩) yx] at c3;rw[←hS.cell (p:=⟨g,k*6+4,none⟩) yx] at c4;rw[←hS.cell (p:=⟨g,k*6+5,none⟩) yx] at c5;have hfw:∀i,wc.frozen? ⟨g,i,none⟩=false:=fun i=>(oY.o.frozen (p:=⟨g,i,none⟩) hgl).trans (hfg i);have zo:=oc.o.ak oY.o;obtain⟨Kl,GO⟩:=zo.IW j8.o hk v hv (v.b+bk) (v.n+1);have mF:aL (R.F pf) (R.F pf) wc _:=aL.dH GO;have HEq:=Um ((jW.o.ak oY.o).rf zo mF);have EJ:=(cM.o.ak hS).mod GO (fun hk=>absurd (oc.o.lt hk) (by rw[QB.o];omega));have EX:=Um Kl;have gr:=Um ((aL.aq oY.o).trans mF);clear zo Kl GO mF pc1 hfg;go_wp2_with fail;have mixed:Tryz.prog.follows .mixedOrders=true:=by kernel_rfl
   have pO:IntKind.i64.wrap ((k:Int)+1-1)=(k:Int):=by rw[IntKind.wrap_i64];omega
   have Ih:IntKind.i64.wrap (k:Int)=(k:Int):=by rw[IntKind.wrap_i64];omega
   have bJ:(k:Int)<(n:Int):=by omega
   have dI:(0:Int)≤(k:Int):=by omega
   refine ay 10 mixed (by kernel_rfl) (show bV _ from by repeat (first|exact cZ|refine cY ?_|refine cw ?_|refine cJ ?_)) ?_;simp only[List.take_succ_cons,List.take_zero,List.drop_succ_cons,List.drop_zero]
   repeat still_step
   refine wpStill_nil ?_;go_upto_region 7 with fail;generalize (((wc.setCell ⟨g,k*6+2,none⟩ (.int .i64 (v.b+bk))).setCell ⟨g,k*6+3,none⟩ (.int .i64 (v.n+1))).setCell ⟨g,k*6+4,none⟩ (.int .i64 v.mb)).setCell ⟨g,k*6+5,none⟩ (.int .i64 v.mn)=X at HEq EJ EX gr⊢;obtain⟨xc,-,xz⟩:=EX.o.bd.facts;obtain⟨bc,bf,bz⟩:=EJ.facts;clear c2 c3 c4 c5 hfw pcw bcw qc qf qz;have vn:Up X X.drew:=(Below.refl _ X).drew;have hAdd:=Au (EX.o.ak vn) (HEq.o.ak vn) dL qk (by omega);unfold An.v at hAdd;rw[Le.o] at hAdd;have HAdd:=Um hAdd;clear hAdd;go_wp2_with fail;refine HAdd.o.mono ?_;rintro e w5 ⟨rfl,R',ev,fo,gy,-⟩;have xJ:=Um (ag ev (ag fo gy));clear ev fo gy;go_wp2_with fail;go_ret2;rw[jU.o];refine⟨rfl,R',?_,(gr.o.trans (aL.aq vn)).trans xJ.o.2.1,xJ.o.2.2⟩;rw[Le.o];exact xJ.o.1
  ·have jU:=Um (zd.o h0);have nZ:(e0 != 0)=true:=by simpa using h0
   clear h0;go_wp2_with fail;go_ret2;rw[jU.o];exact⟨rfl,R,oc.o.ak oY.o,aL.aq oY.o,Rf.ct.refl R⟩
theorem FK(h:aE w pf R S){N:Nat}(hk:av S N)(hN:N≤1000000)(hgl:S.ns.length≤1000000)(a:An)(ea:Option Addr)(el ec:Nat)(he:aA w ea el ec a.aB)(hs:a.data.size≤1048576) :
  Calls Tryz.prog 189 #[.pointer (some ⟨pf,0,none⟩),a.v ea el ec] w fun e w'=>e=.returned (.tuple #[.int .i64 (S.make a).2.1,.int .i64 (S.make a).2.2])∧∃R',aE w' pf R' (S.make a).1∧aL (R.F pf) (R'.F pf) w w'∧Rf.ct R R':=by
 by_cases hr:S.root a.dev=0
 ·refine(CX h a ea el ec hr).mono ?_;rintro e w1 ⟨rfl,hb⟩;rw[wT hr];exact⟨rfl,R,h.ak hb,aL.aq hb,Rf.ct.refl R⟩
 ·have hd:1≤a.dev∧a.dev≤S.ds.length:=by
   by_cases hd:1≤a.dev∧a.dev≤S.ds.length
   ·exact hd
   ·exact absurd (ni hd) hr
  exact FJ h (k:=(a.dev-1).toNat) (by omega) a ea el ec he (by omega) hr hs hk.l0 (Int.le_trans hk.lN (by omega)) hgl
end
end
section
open Go.RowKit
theorem I'(m:Int)(n:Nat)(hn:n≤100)(w:World) :
  Calls Tryz.prog 227 #[.int .i64 m,.int .i64 n] w fun e w'=>(∃b,e=.returned (.bool b))∧w'=w:=by
 go_enter Tryz.func227,Tryz.ntmps227;go_wp2_with fail
 go_loopw [0,5] (fun t0 t5 wr=>∃(x:Int) (k:Nat),k≤n∧t0=.int .i64 x∧t5=.int .i64 k∧wr=w) (fun _ t5 _=>n-(intOf t5).toNat)
 case atStart=>exact⟨m,0,Nat.zero_le _,rfl,rfl,rfl⟩
 case round=>
  obtain⟨x,k,hk,rfl,rfl,rfl⟩:=hrel;by_cases hlt:k<n
  ·go_wp2_with fail;go_roundw
   case measure=>simp[intOf];omega
   case rel=>exact⟨_,k+1,by omega,rfl,by go_num,by trivial⟩
  ·obtain rfl:k=n:=by omega
   go_wp2_with fail;go_ret;exact⟨⟨_,rfl⟩,rfl⟩
theorem O6(uid gid mode want:Int)(w:World) :
  Calls Tryz.prog 182 #[.agg #[.int .i64 0,.int .i64 0],.int .i64 uid,.int .i64 gid,.int .i64 mode,.int .i64 want] w fun e w'=>e=.returned (.bool true)∧Up w w':=by
 have o1:=Um (fun m (n:Nat) hn w=>I' m n hn w);have hB:=au.new w #[.int .i64 0,.int .i64 0] 69;have bP:=Um (al (Uq w) (.cells #[.int .i64 0,.int .i64 0] 69));obtain⟨qc,qf,qz⟩:=hB.facts;clear hB;have key:∀x:Int,(0==x)=true∨(0==x)=false:=fun x=>by cases (0==x)<;>simp
 go_enter Tryz.func182,Tryz.ntmps182;go_upto_region 2 with fail;generalize w.alloc _=X at bP qc qf qz⊢;rcases key uid with h1|h1
 ·go_wp2_with fail
  go_loopw [12] (fun t12 wr=>∃k:Nat,k≤3∧t12=.int .i64 k∧wr=X) (fun t12 _=>3-(intOf t12).toNat)
  case atStart=>exact⟨0,Nat.zero_le _,rfl,rfl⟩
  case round=>
   obtain⟨k,hk,rfl,rfl⟩:=hrel;by_cases hlt:k<3
   ·have mD:(k:Int)<3:=by omega
    go_wp2_with fail;refine(o1.o _ k (by omega) _).mono ?_;rintro e w2 ⟨⟨b,rfl⟩,rfl⟩
    cases b with
    |false=>
     go_wp2_with fail;go_roundw
     case measure=>simp[intOf];omega
     case rel=>exact⟨k+1,by omega,by go_num,by trivial⟩
    |true=>
     have hfk:IntKind.i64.wrap ((6:Int)+(k:Int))=(6:Int)+(k:Int):=by rw[IntKind.wrap_i64];omega
     go_wp2_with fail;have h2:=o1.o mode (6+k) (by omega);rw[show((6+k:Nat):Int)=(6:Int)+(k:Int) from by omega] at h2;refine(h2 _).mono ?_;rintro e w3 ⟨⟨b2,rfl⟩,rfl⟩
     cases b2 with
     |false=>
      go_wp2_with fail;go_ret;exact⟨rfl,bP.o⟩
     |true=>
      go_wp2_with fail;go_roundw
      case measure=>simp[intOf];omega
      case rel=>exact⟨k+1,by omega,by go_num,by trivial⟩
   ·obtain rfl:k=3:=by omega
    go_wp2_with fail;go_ret;exact⟨rfl,bP.o⟩
 ·rcases key gid with h2|h2
  ·go_wp2_with fail
   go_loopw [12] (fun t12 wr=>∃k:Nat,k≤3∧t12=.int .i64 k∧wr=X) (fun t12 _=>3-(intOf t12).toNat)
   case atStart=>exact⟨0,Nat.zero_le _,rfl,rfl⟩
   case round=>
    obtain⟨k,hk,rfl,rfl⟩:=hrel;by_cases hlt:k<3
    ·have mD:(k:Int)<3:=by omega
     go_wp2_with fail;refine(o1.o _ k (by omega) _).mono ?_;rintro e w2 ⟨⟨b,rfl⟩,rfl⟩
     cases b with
     |false=>
      go_wp2_with fail;go_roundw
      case measure=>simp[intOf];omega
      case rel=>exact⟨k+1,by omega,by go_num,by trivial⟩
     |true=>
      have hfk:IntKind.i64.wrap ((3:Int)+(k:Int))=(3:Int)+(k:Int):=by rw[IntKind.wrap_i64];omega
      go_wp2_with fail;have h2:=o1.o mode (3+k) (by omega);rw[show((3+k:Nat):Int)=(3:Int)+(k:Int) from by omega] at h2;refine(h2 _).mono ?_;rintro e w3 ⟨⟨b2,rfl⟩,rfl⟩
      cases b2 with
      |false=>
       go_wp2_with fail;go_ret;exact⟨rfl,bP.o⟩
      |true=>
       go_wp2_with fail;go_roundw
       case measure=>simp[intOf];omega
       case rel=>exact⟨k+1,by omega,by go_num,by trivial⟩
    ·obtain rfl:k=3:=by omega
     go_wp2_with fail;go_ret;exact⟨rfl,bP.o⟩
  ·go_wp2_with fail
   go_loopw [12] (fun t12 wr=>∃k:Nat,k≤3∧t12=.int .i64 k∧wr=X) (fun t12 _=>3-(intOf t12).toNat)
   case atStart=>exact⟨0,Nat.zero_le _,rfl,rfl⟩
   case round=>
    obtain⟨k,hk,rfl,rfl⟩:=hrel;by_cases hlt:k<3
    ·have mD:(k:Int)<3:=by omega
     go_wp2_with fail;refine(o1.o _ k (by omega) _).mono ?_;rintro e w2 ⟨⟨b,rfl⟩,rfl⟩
     cases b with
     |false=>
      go_wp2_with fail;go_roundw
      case measure=>simp[intOf];omega
      case rel=>exact⟨k+1,by omega,by go_num,by trivial⟩
     |true=>
      have hfk:IntKind.i64.wrap ((0:Int)+(k:Int))=(0:Int)+(k:Int):=by rw[IntKind.wrap_i64];omega
      go_wp2_with fail;have h2:=o1.o mode (0+k) (by omega);rw[show((0+k:Nat):Int)=(0:Int)+(k:Int) from by omega] at h2;refine(o1.o mode k (by omega) _).mono ?_;rintro e w3 ⟨⟨b2,rfl⟩,rfl⟩
      cases b2 with
      |false=>
       go_wp2_with fail;go_ret;exact⟨rfl,bP.o⟩
      |true=>
       go_wp2_with fail;go_roundw
       case measure=>simp[intOf];omega
       case rel=>exact⟨k+1,by omega,by go_num,by trivial⟩
    ·obtain rfl:k=3:=by omega
     go_wp2_with fail;go_ret;exact⟨rfl,bP.o⟩
theorem Ag(a:An)(ea:Option Addr)(el ec:Nat)(w:World) :
  Calls Tryz.prog 217 #[.agg #[.int .i64 0,.int .i64 0],a.v ea el ec] w fun e w'=>e=.returned (.bool true)∧Up w w':=by
 unfold An.v;go_enter Tryz.func217,Tryz.ntmps217
 go_wp2
 go_ret;exact⟨rfl,by go_grown⟩
theorem CY(u g:Int)(w:World) :
  Calls Tryz.prog 166 #[.agg #[.int .i64 u,.int .i64 g]] w fun e w'=>e=.returned (.bool (LI u g))∧Up w w':=by
 have HI:=Um (show LI u g=decide (0≤u∧u≤2147483648∧0≤g∧g≤2147483648) from rfl);generalize LI u g=r at HI⊢;by_cases h1:0≤u
 ·by_cases h2:u≤2147483648
  ·by_cases h3:0≤g
   ·by_cases h4:g≤2147483648
    ·go_enter Tryz.func166,Tryz.ntmps166
     go_wp2
     go_ret;exact⟨aZ (by rw[HI.o];exact(decide_eq_true (by omega)).symm),by go_grown⟩
    ·go_enter Tryz.func166,Tryz.ntmps166
     go_wp2
     go_ret;exact⟨aZ (by rw[HI.o];exact(decide_eq_false (by omega)).symm),by go_grown⟩
   ·go_enter Tryz.func166,Tryz.ntmps166
    go_wp2
    go_ret;exact⟨aZ (by rw[HI.o];exact(decide_eq_false (by omega)).symm),by go_grown⟩
  ·go_enter Tryz.func166,Tryz.ntmps166
   go_wp2
   go_ret;exact⟨aZ (by rw[HI.o];exact(decide_eq_false (by omega)).symm),by go_grown⟩
 ·go_enter Tryz.func166,Tryz.ntmps166
  go_wp2
  go_ret;exact⟨aZ (by rw[HI.o];exact(decide_eq_false (by omega)).symm),by go_grown⟩
theorem CZ(s:ByteArray)(w:World)(hs:s.size≤100000) :
  Calls Tryz.prog 229 #[.string s] w fun e w'=>e=.returned (.int .i64 (dD s))∧w'=w:=by
 have hl:s.toList=s.data.toList:=aC s;have HC:=Um (show dD s=if s.toList=[]∨s.toList=[46]∨s.toList=[46,46]∨hasB s 47=true∨hasB s 0=true then 1 else if 255<s.size then 13 else 0 by
  unfold dD hasB;rw[hl];simp only[decide_eq_true_eq])
 have LD:=Um (fun w=>sH s 47 w (by omega));have H0:=Um (fun w=>sH s 0 w (by omega));generalize hasB s 47=b47 at HC LD;generalize hasB s 0=b0 at HC H0;clear hl;by_cases h1:s.toList=[]
 ·have HE:=Um (HC.o.trans (if_pos (.inl h1)));go_enter Tryz.func229,Tryz.ntmps229;go_wp2_with fail;go_ret;exact⟨by rw[HE.o];rfl,rfl⟩
 ·have mH:s.toList.isEmpty=false:=by simpa using h1
  by_cases h2:s.toList=[46]
  ·have HE:=Um (HC.o.trans (if_pos (.inr (.inl h2))));go_enter Tryz.func229,Tryz.ntmps229;go_wp2_with fail;go_ret;exact⟨by rw[HE.o];rfl,rfl⟩
  ·have kA:(s.toList==[46])=false:=by simpa using h2
   by_cases h3:s.toList=[46,46]
   ·have HE:=Um (HC.o.trans (if_pos (.inr (.inr (.inl h3)))));go_enter Tryz.func229,Tryz.ntmps229;go_wp2_with fail;go_ret;exact⟨by rw[HE.o];rfl,rfl⟩
   ·have vF:(s.toList==[46,46])=false:=by simpa using h3
    cases b47 with
    |true=>
     have HE:=Um (HC.o.trans (if_pos (.inr (.inr (.inr (.inl rfl))))));clear h1 h2 h3;go_enter Tryz.func229,Tryz.ntmps229;go_wp2_with fail;refine(LD.o _).mono ?_;rintro e w1 ⟨rfl,rfl⟩;go_wp2_with fail;go_ret;exact⟨by rw[HE.o];rfl,rfl⟩
    |false=>
     cases b0 with
     |true=>
      have HE:=Um (HC.o.trans (if_pos (.inr (.inr (.inr (.inr rfl))))));clear h1 h2 h3;go_enter Tryz.func229,Tryz.ntmps229;go_wp2_with fail;refine(LD.o _).mono ?_;rintro e w1 ⟨rfl,rfl⟩;go_wp2_with fail;refine(H0.o _).mono ?_;rintro e w1 ⟨rfl,rfl⟩;go_wp2_with fail;go_ret;exact⟨by rw[HE.o];rfl,rfl⟩
     |false=>
      have HE:=Um (HC.o.trans (if_neg (by simp[h1,h2,h3])));clear h1 h2 h3;by_cases h4:255<s.size
      ·have cq:=Um (HE.o.trans (if_pos h4));have h4':(255:Int)<(s.size:Int):=by omega
       go_enter Tryz.func229,Tryz.ntmps229;go_wp2_with fail;refine(LD.o _).mono ?_;rintro e w1 ⟨rfl,rfl⟩;go_wp2_with fail;refine(H0.o _).mono ?_;rintro e w1 ⟨rfl,rfl⟩;go_wp2_with fail;go_ret;exact⟨by rw[cq.o];rfl,rfl⟩
      ·have cq:=Um (HE.o.trans (if_neg h4));have h4':¬(255:Int)<(s.size:Int):=by omega
       go_enter Tryz.func229,Tryz.ntmps229;go_wp2_with fail;refine(LD.o _).mono ?_;rintro e w1 ⟨rfl,rfl⟩;go_wp2_with fail;refine(H0.o _).mono ?_;rintro e w1 ⟨rfl,rfl⟩;go_wp2_with fail;go_ret;exact⟨by rw[cq.o];rfl,rfl⟩
end
section
open Go.RowKit
def ri(m:Int)(n:Nat):Bool:=bits .and .i64 (m / 2 ^ n) 1==1
def uv(cu cg uid gid:Int):Nat:=if cu=uid then 6 else if cg=gid then 3 else 0
def eY(mode want:Int)(f k:Nat):Bool:=(List.range k).all fun i=>!ri want i||ri mode (f+i)
def tC(cu cg uid gid mode want:Int):Bool:=if eY mode want (uv cu cg uid gid) 3 then true else decide (cu=0)
theorem K8:∀m:Fin 1024,∀k:Fin 8,(eY (m.val:Int) (k.val:Int) 6 3=(bits .and .i64 (bits .and .i64 ((m.val:Int) / 64) (k.val:Int)) 7==bits .and .i64 (k.val:Int) 7))∧(eY (m.val:Int) (k.val:Int) 3 3=(bits .and .i64 (bits .and .i64 ((m.val:Int) / 8) (k.val:Int)) 7==bits .and .i64 (k.val:Int) 7))∧(eY (m.val:Int) (k.val:Int) 0 3=(bits .and .i64 (bits .and .i64 (m.val:Int) (k.val:Int)) 7==bits .and .i64 (k.val:Int) 7)):=by
 decide +kernel
theorem JO(cu cg uid gid mode want:Int)(hm:0≤mode∧mode≤1023)(hw:0≤want∧want≤7):tC cu cg uid gid mode want=wu cu cg uid gid mode want:=by
 obtain⟨m,rfl⟩:∃m:Nat,mode=m:=⟨mode.toNat,by omega⟩;obtain⟨k,rfl⟩:∃k:Nat,want=k:=⟨want.toNat,by omega⟩;obtain⟨t1,t2,t3⟩:=K8 ⟨m,by omega⟩ ⟨k,by omega⟩;simp only at t1 t2 t3;unfold tC wu uv;by_cases h0:cu=0
 ·rw[if_pos h0,decide_eq_true h0];simp
 ·rw[if_neg h0,decide_eq_false h0];by_cases h1:cu=uid
  ·rw[if_pos h1,if_pos h1,t1]
   cases (bits .and .i64 (bits .and .i64 ((m:Int) / 64) (k:Int)) 7==bits .and .i64 (k:Int) 7)<;>rfl
  ·rw[if_neg h1,if_neg h1];by_cases h2:cg=gid
   ·rw[if_pos h2,if_pos h2,t2]
    cases (bits .and .i64 (bits .and .i64 ((m:Int) / 8) (k:Int)) 7==bits .and .i64 (k:Int) 7)<;>rfl
   ·rw[if_neg h2,if_neg h2,t3]
    cases (bits .and .i64 (bits .and .i64 (m:Int) (k:Int)) 7==bits .and .i64 (k:Int) 7)<;>rfl
theorem FY(m:Int)(n:Nat)(hn:n≤100)(w:World) :
  Calls Tryz.prog 227 #[.int .i64 m,.int .i64 n] w fun e w'=>e=.returned (.bool (ri m n))∧w'=w:=by
 go_enter Tryz.func227,Tryz.ntmps227;go_wp2_with fail
 go_loopw [0,5] (fun t0 t5 wr=>∃(k:Nat),k≤n∧t0=.int .i64 (m / 2 ^ k)∧t5=.int .i64 k∧wr=w) (fun _ t5 _=>n-(intOf t5).toNat)
 case atStart=>exact⟨0,Nat.zero_le _,by simp,rfl,rfl⟩
 case round=>
  obtain⟨k,hk,rfl,rfl,rfl⟩:=hrel;by_cases hlt:k<n
  ·go_wp2_with fail;go_roundw
   case measure=>simp[intOf];omega
   case rel=>
    refine⟨k+1,by omega,?_,by go_num,by trivial⟩;rw[Int.pow_succ,Int.ediv_ediv_of_nonneg (Int.pow_nonneg (by decide))]
  ·obtain rfl:k=n:=by omega
   go_wp2_with fail;go_ret;exact⟨rfl,rfl⟩
theorem mQ(mode want:Int)(f k:Nat):eY mode want f (k+1)=(eY mode want f k&&(!ri want k||ri mode (f+k))):=by
 unfold eY;rw[List.range_succ,List.all_append];simp
theorem mR{mode want:Int}{f k:Nat}(hk:k<3)(h1:ri want k=true)(h2:ri mode (f+k)=false):eY mode want f 3=false:=by
 unfold eY;rw[List.all_eq_false];exact⟨k,List.mem_range.2 hk,by rw[h1,h2];simp⟩
theorem FI(cu cg uid gid mode want:Int)(w:World) :
  Calls Tryz.prog 182 #[.agg #[.int .i64 cu,.int .i64 cg],.int .i64 uid,.int .i64 gid,.int .i64 mode,.int .i64 want] w fun e w'=>e=.returned (.bool (tC cu cg uid gid mode want))∧Up w w':=by
 have o1:=Um (fun m (n:Nat) hn w=>FY m n hn w);have hB:=au.new w #[.int .i64 cu,.int .i64 cg] 69;have bP:=Um (al (Uq w) (.cells #[.int .i64 cu,.int .i64 cg] 69));obtain⟨qc,qf,qz⟩:=hB.facts;have HR:=Um (show tC cu cg uid gid mode want=if eY mode want (uv cu cg uid gid) 3 then true else decide (cu=0) from rfl);have hcase:((cu==uid)=true∧uv cu cg uid gid=6)∨((cu==uid)=false∧(cg==gid)=true∧uv cu cg uid gid=3)∨((cu==uid)=false∧(cg==gid)=false∧uv cu cg uid gid=0):=by
  unfold uv;by_cases h1:cu=uid
  ·exact .inl ⟨by simpa using h1,if_pos h1⟩
  ·by_cases h2:cg=gid
   ·exact .inr (.inl ⟨by simpa using h1,by simpa using h2,by rw[if_neg h1,if_pos h2]⟩)
   ·exact .inr (.inr ⟨by simpa using h1,by simpa using h2,by rw[if_neg h1,if_neg h2]⟩)
 have hz:(cu==0)=decide (cu=0):=by
  rw[Bool.eq_iff_iff];simp
 have HZ:=Um hz;clear hB hz;generalize tC cu cg uid gid mode want=RR at HR⊢;go_enter Tryz.func182,Tryz.ntmps182;go_upto_region 2 with fail;generalize w.alloc _=X at bP qc qf qz⊢;rcases hcase with⟨h1,hf⟩|⟨h1,h2,hf⟩|⟨h1,h2,hf⟩
 ·rw[hf] at HR;clear hf;go_wp2_with fail
  go_loopw [12] (fun t12 wr=>∃k:Nat,k≤3∧t12=.int .i64 k∧wr=X∧eY mode want 6 k=true) (fun t12 _=>3-(intOf t12).toNat)
  case atStart=>exact⟨0,Nat.zero_le _,rfl,rfl,rfl⟩
  case round=>
   obtain⟨k,hk,rfl,hwr,hok⟩:=hrel;have hwr:=hwr.symm;subst hwr;have kD:=Um hok;clear hok;by_cases hlt:k<3
   ·have mD:(k:Int)<3:=by omega
    have j6:=Um (mQ mode want 6 k);have jM:=Um (fun h1 h2=>mR (mode:=mode) (want:=want) (f:=6) hlt h1 h2);go_wp2_with fail;refine(o1.o want k (by omega) _).mono ?_;rintro e w2 ⟨rfl,rfl⟩;obtain⟨b1,ar⟩:∃b,ri want k=b:=⟨_,rfl⟩;rw[ar] at j6 jM;rw[ar];clear ar
    cases b1 with
    |false=>
     have HN:=Um (show eY mode want 6 (k+1)=true by rw[j6.o,kD.o];rfl);go_wp2_with fail;go_roundw
     case measure=>simp[intOf];omega
     case rel=>exact⟨k+1,by omega,by go_num,by first|rfl|trivial,HN.o⟩
    |true=>
     have hfk:IntKind.i64.wrap ((6:Int)+(k:Int))=(6:Int)+(k:Int):=by rw[IntKind.wrap_i64];omega
     go_wp2_with fail;have h2:=o1.o mode (6+k) (by omega);rw[show((6+k:Nat):Int)=(6:Int)+(k:Int) from by omega] at h2;refine(h2 _).mono ?_;rintro e w3 ⟨rfl,rfl⟩;obtain⟨b2,aD⟩:∃b,ri mode (6+k)=b:=⟨_,rfl⟩;rw[aD] at j6 jM;rw[aD];clear aD
     cases b2 with
     |false=>
      have HN:=Um (show RR=decide (cu=0) by rw[HR.o,jM.o (by first|rfl|trivial) (by first|rfl|trivial)];simp);have hzz:=HZ.o;go_wp2_with fail;go_ret;exact⟨aZ (by rw[HN.o,←HZ.o]),bP.o⟩
     |true=>
      have HN:=Um (show eY mode want 6 (k+1)=true by rw[j6.o,kD.o];rfl);go_wp2_with fail;go_roundw
      case measure=>simp[intOf];omega
      case rel=>exact⟨k+1,by omega,by go_num,by first|rfl|trivial,HN.o⟩
   ·obtain rfl:k=3:=by omega
    have HN:=Um (show RR=true by rw[HR.o,kD.o,if_pos rfl]);go_wp2_with fail;go_ret;exact⟨aZ HN.o.symm,bP.o⟩
 ·rw[hf] at HR;clear hf;go_wp2_with fail
  go_loopw [12] (fun t12 wr=>∃k:Nat,k≤3∧t12=.int .i64 k∧wr=X∧eY mode want 3 k=true) (fun t12 _=>3-(intOf t12).toNat)
  case atStart=>exact⟨0,Nat.zero_le _,rfl,rfl,rfl⟩
  case round=>
   obtain⟨k,hk,rfl,hwr,hok⟩:=hrel;have hwr:=hwr.symm;subst hwr;have kD:=Um hok;clear hok;by_cases hlt:k<3
   ·have mD:(k:Int)<3:=by omega
    have j6:=Um (mQ mode want 3 k);have jM:=Um (fun h1 h2=>mR (mode:=mode) (want:=want) (f:=3) hlt h1 h2);go_wp2_with fail;refine(o1.o want k (by omega) _).mono ?_;rintro e w2 ⟨rfl,rfl⟩;obtain⟨b1,ar⟩:∃b,ri want k=b:=⟨_,rfl⟩;rw[ar] at j6 jM;rw[ar];clear ar
    cases b1 with
    |false=>
     have HN:=Um (show eY mode want 3 (k+1)=true by rw[j6.o,kD.o];rfl);go_wp2_with fail;go_roundw
     case measure=>simp[intOf];omega
     case rel=>exact⟨k+1,by omega,by go_num,by first|rfl|trivial,HN.o⟩
    |true=>
     have hfk:IntKind.i64.wrap ((3:Int)+(k:Int))=(3:Int)+(k:Int):=by rw[IntKind.wrap_i64];omega
     go_wp2_with fail;have h2:=o1.o mode (3+k) (by omega);rw[show((3+k:Nat):Int)=(3:Int)+(k:Int) from by omega] at h2;refine(h2 _).mono ?_;rintro e w3 ⟨rfl,rfl⟩;obtain⟨b2,aD⟩:∃b,ri mode (3+k)=b:=⟨_,rfl⟩;rw[aD] at j6 jM;rw[aD];clear aD
     cases b2 with
     |false=>
      have HN:=Um (show RR=decide (cu=0) by rw[HR.o,jM.o (by first|rfl|trivial) (by first|rfl|trivial)];simp);have hzz:=HZ.o;go_wp2_with fail;go_ret;exact⟨aZ (by rw[HN.o,←HZ.o]),bP.o⟩
     |true=>
      have HN:=Um (show eY mode want 3 (k+1)=true by rw[j6.o,kD.o];rfl);go_wp2_with fail;go_roundw
      case measure=>simp[intOf];omega
      case rel=>exact⟨k+1,by omega,by go_num,by first|rfl|trivial,HN.o⟩
   ·obtain rfl:k=3:=by omega
    have HN:=Um (show RR=true by rw[HR.o,kD.o,if_pos rfl]);go_wp2_with fail;go_ret;exact⟨aZ HN.o.symm,bP.o⟩
 ·rw[hf] at HR;clear hf;go_wp2_with fail
  go_loopw [12] (fun t12 wr=>∃k:Nat,k≤3∧t12=.int .i64 k∧wr=X∧eY mode want 0 k=true) (fun t12 _=>3-(intOf t12).toNat)
  case atStart=>exact⟨0,Nat.zero_le _,rfl,rfl,rfl⟩
  case round=>
   obtain⟨k,hk,rfl,hwr,hok⟩:=hrel;have hwr:=hwr.symm;subst hwr;have kD:=Um hok;clear hok;by_cases hlt:k<3
   ·have mD:(k:Int)<3:=by omega
    have j6:=Um (mQ mode want 0 k);have jM:=Um (fun h1 h2=>mR (mode:=mode) (want:=want) (f:=0) hlt h1 h2);go_wp2_with fail;refine(o1.o want k (by omega) _).mono ?_;rintro e w2 ⟨rfl,rfl⟩;obtain⟨b1,ar⟩:∃b,ri want k=b:=⟨_,rfl⟩;rw[ar] at j6 jM;rw[ar];clear ar
    cases b1 with
    |false=>
     have HN:=Um (show eY mode want 0 (k+1)=true by rw[j6.o,kD.o];rfl);go_wp2_with fail;go_roundw
     case measure=>simp[intOf];omega
     case rel=>exact⟨k+1,by omega,by go_num,by first|rfl|trivial,HN.o⟩
    |true=>
     have hfk:IntKind.i64.wrap ((0:Int)+(k:Int))=(0:Int)+(k:Int):=by rw[IntKind.wrap_i64];omega
     go_wp2_with fail;have h2:=o1.o mode (0+k) (by omega);rw[show((0+k:Nat):Int)=(0:Int)+(k:Int) from by omega] at h2;refine(o1.o mode k (by omega) _).mono ?_;rintro e w3 ⟨rfl,rfl⟩;obtain⟨b2,aD⟩:∃b,ri mode (0+k)=b:=⟨_,rfl⟩;rw[aD] at j6 jM;rw[Nat.zero_add] at aD;rw[aD];clear aD
     cases b2 with
     |false=>
      have HN:=Um (show RR=decide (cu=0) by rw[HR.o,jM.o (by first|rfl|trivial) (by first|rfl|trivial)];simp);have hzz:=HZ.o;go_wp2_with fail;go_ret;exact⟨aZ (by rw[HN.o,←HZ.o]),bP.o⟩
     |true=>
      have HN:=Um (show eY mode want 0 (k+1)=true by rw[j6.o,kD.o];rfl);go_wp2_with fail;go_roundw
      case measure=>simp[intOf];omega
      case rel=>exact⟨k+1,by omega,by go_num,by first|rfl|trivial,HN.o⟩
   ·obtain rfl:k=3:=by omega
    have HN:=Um (show RR=true by rw[HR.o,kD.o,if_pos rfl]);go_wp2_with fail;go_ret;exact⟨aZ HN.o.symm,bP.o⟩
theorem kP(c:Cr)(a:An)(ea:Option Addr)(el ec:Nat)(want:Int)(hm:0≤a.mode∧a.mode≤1023)(hw:0≤want∧want≤7)(w:World) :
  Calls Tryz.prog 113 #[.agg #[.int .i64 c.u,.int .i64 c.g],a.v ea el ec,.int .i64 want] w fun e w'=>e=.returned (.bool (a.may c want))∧Up w w':=by
 have HS:=Um (JO c.u c.g a.uid a.gid a.mode want hm hw);have HM:=Um (fun w=>FI c.u c.g a.uid a.gid a.mode want w);unfold An.may;rw[HS.o] at HM;generalize wu c.u c.g a.uid a.gid a.mode want=b at HM⊢;unfold An.v;go_enter Tryz.func113,Tryz.ntmps113;go_wp2_with fail;refine(HM.o _).mono ?_;rintro e w1 ⟨rfl,ar⟩;go_wp2_with fail;go_ret;exact⟨rfl,ao (al (al (Below.refl _ _) _) _) ar⟩
end
section
open Go.RowKit
theorem fC{tmps:Array Value}{W:World}{B:Nat}{a:An}{ea:Option Addr}{el ec:Nat}{e:Int}(hb:au W B #[.int .i64 a.no,.int .i64 a.dev,.int .i64 a.kind,.int .i64 a.mode,.int .i64 a.uid,.int .i64 a.gid,.int .i64 a.mtime,.int .i64 a.ctime,.int .i64 a.an,.int .i64 a.up,.string a.data,.slice ea el ec] 99)
  (h8:tmps.getD 8 undef=.pointer (some ⟨B,0,none⟩)) (h9:tmps.getD 9 undef=.int .i64 e):(results Tryz.f188 tmps).run Tryz.prog W=.ok (.tuple #[a.v ea el ec,.int .i64 e]) W:=by
 obtain⟨q0,q1,q2,q3,q4,q5,q6,q7,q8,q9,q10,q11⟩:=hb.eX;rw[Array.getD_eq_getD_getElem?] at h8 h9;simp[results,Tryz.results188,go_sem,An.v,h8,h9,q0,q1,q2,q3,q4,q5,q6,q7,q8,q9,q10,q11]
section
variable{w w':World}{pf:Nat}{R:Rf}{S:Fs}
theorem pj(h:aE w pf R S)(cr:Cr)(dir:Int)(s:ByteArray)(hg:S.get dir=none) :
  Calls Tryz.prog 188 #[.pointer (some ⟨pf,0,none⟩),.agg #[.int .i64 cr.u,.int .i64 cr.g],.int .i64 dir,.string s] w fun e w'=>e=.returned (.tuple #[dh.v none 0 0,.int .i64 5])∧Up w w':=by
 have HG:=Um (fun w1 (ar:Up w w1)=>jh (h.ak ar) hg);unfold An.v dh at HG;clear h hg;go_enter Tryz.func188,Tryz.ntmps188;go_wp2_with fail;refine(HG.o _ (al (al (Below.refl _ _) _) _)).mono ?_;rintro e w1 ⟨rfl,ar⟩;have aD:=ao (al (al (Uq w) _) _) ar;have hR:au w1 (w.heap.size+1) #[.int .i64 0,.int .i64 0,.int .i64 0,.int .i64 0,.int .i64 0,.int .i64 0,.int .i64 0,.int .i64 0,.int .i64 0,.int .i64 0,.string ByteArray.empty,.slice none 0 0] 99:=by
  have:=((au.new (w.alloc (.cells #[.int .i64 cr.u,.int .i64 cr.g] 69)) #[.int .i64 0,.int .i64 0,.int .i64 0,.int .i64 0,.int .i64 0,.int .i64 0,.int .i64 0,.int .i64 0,.int .i64 0,.int .i64 0,.string ByteArray.empty,.slice none 0 0] 99).ak ar)
  rwa [World.size_alloc] at this
 have eF:=hR.eE (.cells #[.int .i64 0,.int .i64 0,.int .i64 0,.int .i64 0,.int .i64 0,.int .i64 0,.int .i64 0,.int .i64 0,.int .i64 0,.int .i64 0,.string ByteArray.empty,.slice none 0 0] 99);have ax:=al aD (.cells #[.int .i64 0,.int .i64 0,.int .i64 0,.int .i64 0,.int .i64 0,.int .i64 0,.int .i64 0,.int .i64 0,.int .i64 0,.int .i64 0,.string ByteArray.empty,.slice none 0 0] 99);have gJ:=au.new w1 #[.int .i64 0,.int .i64 0,.int .i64 0,.int .i64 0,.int .i64 0,.int .i64 0,.int .i64 0,.int .i64 0,.int .i64 0,.int .i64 0,.string ByteArray.empty,.slice none 0 0] 99;clear hR ar aD;go_upto_region 2 with fail;generalize w1.alloc _=X at eF ax gJ⊢;obtain⟨dc,df,dz⟩:=gJ.facts;have gh:=Um eF;have aJ:=Um ax;obtain⟨rc,rf,rz⟩:=eF.facts;clear eF ax;go_wp2_with fail;exact bodyPost_ret (fC (a:=dh) gh.o.dR rfl rfl) rfl ⟨rfl,aM aJ.o (Nat.le_succ _)⟩
theorem Af(h:aE w pf R S)(dir:Int)(s:ByteArray)(hg:S.get dir=none) :
  Calls Tryz.prog 188 #[.pointer (some ⟨pf,0,none⟩),.agg #[.int .i64 0,.int .i64 0],.int .i64 dir,.string s] w fun e w'=>e=.returned (.tuple #[dh.v none 0 0,.int .i64 5])∧Up w w':=pj h bQ dir s hg
theorem ph(h:aE w pf R S)(cr:Cr){N:Nat}(hk:av S N)(dir:Int)(s:ByteArray)(hs:s.size≤100000)(d:An)(hg:S.get dir=some d) :
  ∃ea el ec,aA w ea el ec d.aB∧Calls Tryz.prog 188 #[.pointer (some ⟨pf,0,none⟩),.agg #[.int .i64 cr.u,.int .i64 cr.g],.int .i64 dir,.string s] w fun e w'=>((S.aW cr dir s≠0∧e=.returned (.tuple #[dh.v none 0 0,.int .i64 (S.aW cr dir s)]))∨(S.aW cr dir s=0∧e=.returned (.tuple #[d.v ea el ec,.int .i64 0])))∧Up w w':=by
 obtain⟨hao,hno,gO,-⟩:=hk.get hg;have hmd:=hao.mode;have hz:(d.no==0)=false:=by simp only[beq_eq_false_iff_ne,ne_eq];omega
 obtain⟨ea,el,ec,he,hG⟩:=fe h hg;refine⟨ea,el,ec,he,?_⟩;have HG:=Um hG;unfold An.v at HG;have dY:=Um (fun w=>CZ s w hs);have ky:=Um (show S.aW cr dir s=if d.kind≠1 then 9 else if dD s≠0 then dD s else if d.may cr 3=false then 6 else 0 by unfold Fs.aW;rw[hg]);have lM:=Um (fun w=>kP cr d ea el ec 3 hmd (by decide) w);unfold An.v at lM;generalize dD s=ce at dY ky;generalize S.aW cr dir s=pe at ky⊢;generalize d.may cr 3=m at lM ky;clear h hk hg he hG hno hao hmd;go_enter Tryz.func188,Tryz.ntmps188;go_wp2_with fail;refine(HG.o _ (al (al (Below.refl _ _) _) _)).mono ?_;rintro e w1 ⟨rfl,ar⟩;have aD:=ao (al (al (Uq w) _) _) ar;have hR:au w1 (w.heap.size+1) #[.int .i64 0,.int .i64 0,.int .i64 0,.int .i64 0,.int .i64 0,.int .i64 0,.int .i64 0,.int .i64 0,.int .i64 0,.int .i64 0,.string ByteArray.empty,.slice none 0 0] 99:=by
  have:=((au.new (w.alloc (.cells #[.int .i64 cr.u,.int .i64 cr.g] 69)) #[.int .i64 0,.int .i64 0,.int .i64 0,.int .i64 0,.int .i64 0,.int .i64 0,.int .i64 0,.int .i64 0,.int .i64 0,.int .i64 0,.string ByteArray.empty,.slice none 0 0] 99).ak ar)
  rwa [World.size_alloc] at this
 have zt:au w1 w.heap.size #[.int .i64 cr.u,.int .i64 cr.g] 69:=((au.new w #[.int .i64 cr.u,.int .i64 cr.g] 69).eE (.cells #[.int .i64 0,.int .i64 0,.int .i64 0,.int .i64 0,.int .i64 0,.int .i64 0,.int .i64 0,.int .i64 0,.int .i64 0,.int .i64 0,.string ByteArray.empty,.slice none 0 0] 99)).ak ar;have eF:=hR.eE (.cells #[.int .i64 d.no,.int .i64 d.dev,.int .i64 d.kind,.int .i64 d.mode,.int .i64 d.uid,.int .i64 d.gid,.int .i64 d.mtime,.int .i64 d.ctime,.int .i64 d.an,.int .i64 d.up,.string d.data,.slice ea el ec] 99);have fy:=zt.eE (.cells #[.int .i64 d.no,.int .i64 d.dev,.int .i64 d.kind,.int .i64 d.mode,.int .i64 d.uid,.int .i64 d.gid,.int .i64 d.mtime,.int .i64 d.ctime,.int .i64 d.an,.int .i64 d.up,.string d.data,.slice ea el ec] 99);have gJ:=au.new w1 #[.int .i64 d.no,.int .i64 d.dev,.int .i64 d.kind,.int .i64 d.mode,.int .i64 d.uid,.int .i64 d.gid,.int .i64 d.mtime,.int .i64 d.ctime,.int .i64 d.an,.int .i64 d.up,.string d.data,.slice ea el ec] 99;have ax:=al aD (.cells #[.int .i64 d.no,.int .i64 d.dev,.int .i64 d.kind,.int .i64 d.mode,.int .i64 d.uid,.int .i64 d.gid,.int .i64 d.mtime,.int .i64 d.ctime,.int .i64 d.an,.int .i64 d.up,.string d.data,.slice ea el ec] 99);clear hR zt ar aD;go_upto_region 2 with fail;generalize w1.alloc _=X at eF fy gJ ax⊢;have gh:=Um eF;have aJ:=Um ax;have vJ:=Um gJ;have Oc:=Um fy;obtain⟨rc,rf,rz⟩:=eF.facts;obtain⟨dc,df,dz⟩:=gJ.facts;obtain⟨cc,-,-⟩:=fy.facts;clear eF ax gJ fy;by_cases h1:d.kind=1
 ·have q1:(d.kind==1)=true:=by simpa using h1
  have q2:(d.kind != 1)=false:=by simpa using h1
  by_cases h2:ce=0
  ·have q3:(ce != 0)=false:=by simpa using h2
   have jW:=Um (show pe=if m=false then 6 else 0 by rw[ky.o];simp[h1,h2]);clear h1 h2;go_wp2_with fail;refine(dY.o _).mono ?_;rintro e w2 ⟨rfl,rfl⟩;go_wp2_with fail;refine(lM.o _).mono ?_;rintro e w5 ⟨rfl,b9⟩;have oO:=gh.o.ak b9;have sr:=vJ.o.ak b9;have ur:=aJ.o.trans (b9.mono aJ.o.size);have yY:=Um oO;have lF:=Um ur;clear rc rf rz dc df dz cc;obtain⟨rc,rf,rz⟩:=oO.facts;obtain⟨dc,-,-⟩:=sr.facts;clear oO ur b9 sr
   cases m with
   |true=>
    have fX:=Um (jW.o.trans (if_neg (by decide)));go_wp2_with fail;exact bodyPost_ret (fC (a:=d) (ea:=ea) (el:=el) (ec:=ec) yY.o.dR rfl rfl) rfl ⟨.inr ⟨fX.o,rfl⟩,aM lF.o (Nat.le_succ _)⟩
   |false=>
    have fX:=Um (jW.o.trans (if_pos rfl));go_wp2_with fail;exact bodyPost_ret (fC (a:=dh) yY.o.dR rfl rfl) rfl ⟨.inl ⟨by rw[fX.o];decide,by rw[fX.o]⟩,aM lF.o (Nat.le_succ _)⟩
  ·have q3:(ce != 0)=true:=by simpa using h2
   have Qv:=Um (show pe=ce∧ce≠0 by refine⟨?_,h2⟩;rw[ky.o];simp[h1,h2]);clear h1 h2;go_wp2_with fail;refine(dY.o _).mono ?_;rintro e w2 ⟨rfl,rfl⟩;go_wp2_with fail;exact bodyPost_ret (fC (a:=dh) gh.o.dR rfl rfl) rfl ⟨.inl ⟨by rw[Qv.o.1];exact Qv.o.2,by rw[Qv.o.1]⟩,aM aJ.o (Nat.le_succ _)⟩
 ·have q1:(d.kind==1)=false:=by simpa using h1
  have q2:(d.kind != 1)=true:=by simpa using h1
  have T4:=Um (show pe=9 by rw[ky.o];simp[h1]);clear h1;go_wp2_with fail;exact bodyPost_ret (fC (a:=dh) gh.o.dR rfl rfl) rfl ⟨.inl ⟨by rw[T4.o];decide,by rw[T4.o]⟩,aM aJ.o (Nat.le_succ _)⟩
theorem Ae(h:aE w pf R S){N:Nat}(hk:av S N)(dir:Int)(s:ByteArray)(hs:s.size≤100000)(d:An)(hg:S.get dir=some d) :
  ∃ea el ec,aA w ea el ec d.aB∧Calls Tryz.prog 188 #[.pointer (some ⟨pf,0,none⟩),.agg #[.int .i64 0,.int .i64 0],.int .i64 dir,.string s] w fun e w'=>((S.aW bQ dir s≠0∧e=.returned (.tuple #[dh.v none 0 0,.int .i64 (S.aW bQ dir s)]))∨(S.aW bQ dir s=0∧e=.returned (.tuple #[d.v ea el ec,.int .i64 0])))∧Up w w':=ph h bQ hk dir s hs d hg
end
end
end Go.Proofs.YtinflmadpnigfaaGreatDoor
