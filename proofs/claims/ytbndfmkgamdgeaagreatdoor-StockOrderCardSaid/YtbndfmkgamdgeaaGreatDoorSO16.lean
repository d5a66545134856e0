import Derived.Test.YtbndfmkgamdgeaaGreatDoorSO1
import Derived.Test.YtbndfmkgamdgeaaGreatDoorSO2
import Derived.Test.YtbndfmkgamdgeaaGreatDoorSO3
import Derived.Test.YtbndfmkgamdgeaaGreatDoorSO5
import Derived.Test.YtbndfmkgamdgeaaGreatDoorSO6
import Derived.Test.YtbndfmkgamdgeaaGreatDoorSO7
import Derived.Test.YtbndfmkgamdgeaaGreatDoorSO11
set_option linter.unusedVariables false
set_option linter.unusedSimpArgs false
set_option maxRecDepth 100000
set_option maxHeartbeats 16000000
namespace Go.Proofs.YtbndfmkgamdgeaaGreatDoor
section
open Go.RowKit
def hexU (k:Nat):UInt8:=UInt8.ofNat (if k<10 then 48+k else 55+k)
def encB (c:UInt8):List UInt8:=if plB c then [c] else [37,hexU (c.toNat / 16),hexU (c.toNat % 16)]
def encL (l:List UInt8):List UInt8:=l.flatMap encB
def Bld (b:Nat) (l:List UInt8) (w:World):Prop:=Lib.IsBuilder 171 5 b b (Lib.byteCells l) w
theorem Bld.new (w:World):Bld w.heap.size [] (w.alloc (.cells #[.pointer none,.slice none 0 0] 171)):=
 .inl ⟨Nat.le_refl _,.slice none 0 0,Blk.new w _ _,World.ownsRow_nil _ _ _ _,by simp [Value.ownBlock]⟩
theorem byteCells_len (l:List UInt8):(Lib.byteCells l).length=l.length:=by simp [Lib.byteCells]
end
section
open Go.RowKit
def leapF (y:Int):Bool:=decide (y.tmod 4=0) && (decide (y.tmod 100≠0) || decide (y.tmod 400=0))
def daysF (y m:Int):Int:=
 if m=1∨m=3∨m=5∨m=7∨m=8∨m=10∨m=12 then 31 else if m=4∨m=6∨m=9∨m=11 then 30 else if m=2 then (if leapF y=true then 29 else 28) else 0
structure Cv where
 y:Int
 m:Int
 d:Int
 h:Int
 n:Int
 s:Int
def dayNo (y m d:Int):Int:=365*y+y / 4 - y / 100+y / 400+(153*m+2) / 5+d - 1 - 719468
def secsOf (c:Cv):Int:=(if c.m - 3<0 then dayNo (c.y - 1) (c.m - 3+12) c.d else dayNo c.y (c.m - 3) c.d)*86400+c.h*3600+c.n*60+c.s
def secondsF (c:Cv):Int×Int:=
 if c.y<0∨9999<c.y∨c.d<1∨daysF c.y c.m<c.d then (0,2)
 else if c.h<0∨23<c.h∨c.n<0∨59<c.n∨c.s<0∨59<c.s then (0,2)
 else if c.y<1970 then (0,3)
 else (secsOf c,0)
def formL:List UInt8:=[100,100,100,100,45,100,100,45,100,100,84,100,100,58,100,100,58,100,100]
def dateSt (s:List UInt8):Nat→Option (List Int×Nat)
 | 0=>some ([0,0,0,0,0,0],0)
 | k+1=>match dateSt s k with
  | none=>none
  | some (l,j)=>
   if formL[k]?≠some 100 then (if s[k]? = formL[k]? then some (l,j+1) else none)
   else match s[k]? with
    | none=>none
    | some c=>if c<48∨57<c then none else some (l.set j (10*l.getD j 0+(c.toNat - 48:Int)),j)
theorem dateSt_none {s:List UInt8} {k:Nat} (h:dateSt s k=none):∀ n,dateSt s (k+n)=none
 | 0=>h
 | n+1=>by
  rw [←Nat.add_assoc];unfold dateSt;rw [dateSt_none h n]
def cvOf (l:List Int):Cv:=⟨l.getD 0 0,l.getD 1 0,l.getD 2 0,l.getD 3 0,l.getD 4 0,l.getD 5 0⟩
def dateP (s:List UInt8):Int×Int:=
 if s.length≠19 then (0,2) else match dateSt s 19 with
  | none=>(0,2)
  | some (l,_)=>secondsF (cvOf l)
def grpAt (k:Nat):Nat:=((formL.take k).filter (·≠100)).length
def digAt (k j:Nat):Nat:=((List.range k).filter fun i=>formL[i]? == some 100 && grpAt i == j).length
theorem grp_le:∀ k,k<19→grpAt k≤5:=by decide
theorem grp_next:∀ k,k<19→grpAt (k+1)=if formL[k]? = some 100 then grpAt k else grpAt k+1:=by decide
theorem dig_next:∀ k,k<19→∀ j,j<6→digAt (k+1) j=if formL[k]? = some 100∧grpAt k=j then digAt k j+1 else digAt k j:=by decide
theorem dig_le:∀ k,k<20→∀ j,j<6→digAt k j≤4:=by decide
structure DOk (l:List Int) (j k:Nat):Prop where
 len:l.length=6
 j:j=grpAt k
 lo:∀ i,0≤l.getD i 0
 hi:∀ i,i<6→l.getD i 0<10 ^ digAt k i
theorem DOk.start:DOk [0,0,0,0,0,0] 0 0:=by
 refine ⟨rfl,rfl,fun i=>?_,fun i hi=>?_⟩
 ·match i with
  | 0 | 1 | 2 | 3 | 4 | 5=>decide
  | n+6=>exact Int.le_refl 0
 ·match i,hi with
  | 0,_=>decide
  | 1,_=>decide
  | 2,_=>decide
  | 3,_=>decide
  | 4,_=>decide
  | 5,_=>decide
theorem DOk.small {l:List Int} {j k:Nat} (h:DOk l j k) (hk:k<20) (i:Nat):l.getD i 0≤9999:=by
 by_cases hi:i<6
 ·have h1:=h.hi i hi;have h2:=dig_le k hk i hi;have h3:∀ n:Nat,n≤4→(10:Int) ^ n≤10000:=by decide
  have:=h3 _ h2;omega
 ·rw [List.getD_eq_getElem?_getD,List.getElem?_eq_none (by have:=h.len;omega)];decide
theorem getD_set (l:List Int) (j i:Nat) (v:Int):(l.set j v).getD i 0=if j=i∧i<l.length then v else l.getD i 0:=by
 rw [List.getD_eq_getElem?_getD,List.getElem?_set,List.getD_eq_getElem?_getD];by_cases h:j=i
 ·subst h;by_cases h2:j<l.length
  ·simp [h2]
  ·simp [h2]
 ·simp [h]
theorem DOk.sign {l:List Int} {j k:Nat} (h:DOk l j k) (hk:k<19) (hf:formL[k]?≠some 100):DOk l (j+1) (k+1):=by
 refine ⟨h.len,?_,h.lo,fun i hi=>?_⟩
 ·rw [grp_next k hk,if_neg hf,h.j]
 ·rw [dig_next k hk i hi,if_neg (fun e=>hf e.1)];exact h.hi i hi
theorem DOk.digit {l:List Int} {j k:Nat} (h:DOk l j k) (hk:k<19) (hf:formL[k]? = some 100) (d:Int) (h0:0≤d) (h9:d≤9):DOk (l.set j (10*l.getD j 0+d)) j (k+1):=by
 have hj:j<6:=by have:=grp_le k hk;have:=h.j;omega
 refine ⟨by rw [List.length_set,h.len],?_,fun i=>?_,fun i hi=>?_⟩
 ·rw [grp_next k hk,if_pos hf,h.j]
 ·rw [getD_set]
  split
  ·have:=h.lo j;omega
  ·exact h.lo i
 ·rw [getD_set,dig_next k hk i hi,h.len];by_cases hij:j=i
  ·subst hij;rw [if_pos ⟨rfl,hj⟩,if_pos ⟨hf,h.j.symm⟩];have h1:=h.hi j hj;rw [Int.pow_succ];omega
  ·rw [if_neg (fun e=>hij e.1),if_neg (fun e=>hij (by rw [h.j,e.2]))];exact h.hi i hi
theorem dateSt_ok {s:List UInt8}:∀ {k:Nat} {l:List Int} {j:Nat},k≤19→dateSt s k=some (l,j)→DOk l j k
 | 0,l,j,_,h=>by
  injection h with h;injection h with h1 h2;subst h1 h2;exact DOk.start
 | k+1,l,j,hk,h=>by
  unfold dateSt at h
  cases hp:dateSt s k with
  | none=>rw [hp] at h;cases h
  | some p=>
   obtain⟨l',j'⟩:=p;have ih:=dateSt_ok (by omega) hp;rw [hp] at h;dsimp only at h;by_cases hf:formL[k]? = some 100
   ·rw [if_neg (by simpa using hf)] at h
    cases hs:s[k]? with
    | none=>rw [hs] at h;cases h
    | some c=>
     rw [hs] at h;dsimp only at h;by_cases hc:c<48∨57<c
     ·rw [if_pos hc] at h;cases h
     ·rw [if_neg hc] at h;injection h with h;injection h with h1 h2;subst h1 h2;have h3:48≤c.toNat∧c.toNat≤57:=by
       refine ⟨Nat.le_of_not_lt fun e=>hc (.inl (UInt8.lt_iff_toNat_lt.2 e)),Nat.le_of_not_lt fun e=>hc (.inr (UInt8.lt_iff_toNat_lt.2 e))⟩
      exact ih.digit (by omega) hf _ (by omega) (by omega)
   ·rw [if_pos hf] at h;by_cases hs:s[k]? = formL[k]?
    ·rw [if_pos hs] at h;injection h with h;injection h with h1 h2;subst h1 h2;exact ih.sign (by omega) hf
    ·rw [if_neg hs] at h;cases h
def headI:List UInt8:=[91,84,114,97,115,104,32,73,110,102,111,93]
def pathK:List UInt8:=[80,97,116,104]
def dayK:List UInt8:=[68,101,108,101,116,105,111,110,68,97,116,101]
structure Rd where
 path:List UInt8
 day:List UInt8
 inn:Bool
 paths:Int
 days:Int
def Rd.zero:Rd:=⟨[],[],false,0,0⟩
def cutL (c:UInt8) (l:List UInt8):List UInt8×List UInt8×Bool:=if c∈l then (l.takeWhile (·≠c),(l.dropWhile (·≠c)).drop 1,true) else (l,[],false)
def Rd.put (r:Rd) (k v:List UInt8):Rd:=
 if k=pathK then ⟨if r.paths=0 then v else r.path,r.day,r.inn,r.paths+1,r.days⟩
 else if k=dayK then ⟨r.path,if r.days=0 then v else r.day,r.inn,r.paths,r.days+1⟩ else r
def Rd.trimmed (r:Rd) (s:List UInt8):Rd×Bool:=
 if s=[]∨s.head? = some 35 then (r,true)
 else if r.inn=false then (⟨r.path,r.day,decide (s=headI),r.paths,r.days⟩,decide (s=headI))
 else if s.head? = some 91 then (r,false)
 else if (cutL 61 s).2.2=false then (r,true)
 else (r.put (Go.Lib.trimS (cutL 61 s).1 [32,9]) (Go.Lib.trimS (cutL 61 s).2.1 [32,9]),true)
def Rd.line (r:Rd) (s:List UInt8):Rd×Bool:=r.trimmed (Go.Lib.trimS s [32,9,13])
def Rd.lines:Rd→List (List UInt8)→Rd
 | r,[]=>r
 | r,l :: ls=>if (r.line l).2=true then (r.line l).1.lines ls else (r.line l).1
def Rd.pre:Rd→List (List UInt8)→Option Rd
 | r,[]=>some r
 | r,l :: ls=>if (r.line l).2=true then (r.line l).1.pre ls else none
theorem Rd.pre_snoc:∀ (ls:List (List UInt8)) (r:Rd) (l:List UInt8),r.pre (ls ++ [l])=(r.pre ls).bind fun q=>if (q.line l).2=true then some (q.line l).1 else none
 | [],r,l=>rfl
 | x :: ls,r,l=>by
  show (if (r.line x).2=true then (r.line x).1.pre (ls ++ [l]) else none)=(if (r.line x).2=true then (r.line x).1.pre ls else none).bind _
  split
  ·exact Rd.pre_snoc ls _ l
  ·rfl
theorem Rd.lines_pre:∀ {ls:List (List UInt8)} {r q:Rd} (rest:List (List UInt8)),r.pre ls=some q→r.lines (ls ++ rest)=q.lines rest
 | [],r,q,rest,h=>by
  injection h with h;rw [←h];rfl
 | x :: ls,r,q,rest,h=>by
  unfold Rd.pre at h;show (if (r.line x).2=true then (r.line x).1.lines (ls ++ rest) else (r.line x).1)=_
  split at h
  ·rename_i hx;rw [if_pos hx];exact Rd.lines_pre rest h
  ·cases h
structure ROk (r:Rd) (n m:Nat):Prop where
 path:r.path.length≤m
 day:r.day.length≤m
 p0:0≤r.paths∧r.paths≤n
 d0:0≤r.days∧r.days≤n
theorem trimS_len (l cs:List UInt8):(Go.Lib.trimS l cs).length≤l.length:=by
 unfold Go.Lib.trimS Go.Lib.trimLeftS Go.Lib.trimRightS;have h1:∀ (l:List UInt8) (p:UInt8→Bool),(l.dropWhile p).length≤l.length:=fun l p=>(List.dropWhile_sublist p).length_le;refine Nat.le_trans (h1 _ _) ?_;rw [List.length_reverse];refine Nat.le_trans (h1 _ _) ?_;rw [List.length_reverse];exact Nat.le_refl _
theorem cutL_len (c:UInt8) (l:List UInt8):(cutL c l).1.length≤l.length∧(cutL c l).2.1.length≤l.length:=by
 unfold cutL
 split
 ·refine ⟨(List.takeWhile_sublist _).length_le,?_⟩;rw [List.length_drop];have:=(List.dropWhile_sublist (fun x:UInt8=>decide (x≠c)) (l:=l)).length_le;omega
 ·exact ⟨Nat.le_refl _,by simp⟩
theorem ROk.line {r:Rd} {n m:Nat} (h:ROk r n m) (l:List UInt8) (hl:l.length≤m):ROk (r.line l).1 (n+1) m:=by
 have hw:ROk r (n+1) m:=⟨h.path,h.day,⟨h.p0.1,by have:=h.p0.2;omega⟩,⟨h.d0.1,by have:=h.d0.2;omega⟩⟩;have h1:=trimS_len l [32,9,13];unfold Rd.line;generalize Go.Lib.trimS l [32,9,13]=s at h1;unfold Rd.trimmed
 split
 ·exact hw
 ·split
  ·exact ⟨hw.path,hw.day,hw.p0,hw.d0⟩
  ·split
   ·exact hw
   ·split
    ·exact hw
    ·have h2:=cutL_len 61 s;have h3:=trimS_len (cutL 61 s).2.1 [32,9];dsimp only;unfold Rd.put;have p0:=h.p0;have d0:=h.d0
     split
     ·refine ⟨?_,h.day,⟨by dsimp only;omega,by dsimp only;omega⟩,hw.d0⟩;dsimp only
      split
      ·omega
      ·exact h.path
     ·split
      ·refine ⟨h.path,?_,hw.p0,⟨by dsimp only;omega,by dsimp only;omega⟩⟩;dsimp only
       split
       ·omega
       ·exact h.day
      ·exact hw
theorem ROk.pre {m:Nat}:∀ {ls:List (List UInt8)} {r q:Rd} {n:Nat},ROk r n m→(∀ l∈ls,l.length≤m)→r.pre ls=some q→ROk q (n+ls.length) m
 | [],r,q,n,h,_,he=>by
  injection he with he;rw [←he];exact h
 | x :: ls,r,q,n,h,hl,he=>by
  unfold Rd.pre at he
  split at he
  ·have:=ROk.pre (h.line x (hl x (by simp))) (fun l hm=>hl l (by simp [hm])) he;rw [List.length_cons,show n+(ls.length+1)=n+1+ls.length by omega];exact this
  ·cases he
theorem ROk.zero (m:Nat):ROk Rd.zero 0 m:=⟨Nat.zero_le _,Nat.zero_le _,⟨Int.le_refl _,Int.le_refl _⟩,⟨Int.le_refl _,Int.le_refl _⟩⟩
theorem Rd.lines_len {m:Nat}:∀ {ls:List (List UInt8)} {r:Rd} {n:Nat},ROk r n m→(∀ l∈ls,l.length≤m)→(r.lines ls).path.length≤m∧(r.lines ls).day.length≤m
 | [],r,n,h,_=>⟨h.path,h.day⟩
 | x :: ls,r,n,h,hl=>by
  have h1:=h.line x (hl x (by simp));unfold Rd.lines
  split
  ·exact Rd.lines_len h1 (fun l hm=>hl l (by simp [hm]))
  ·exact ⟨h1.path,h1.day⟩
def endI (r:Rd):ByteArray×Int×Int:=
 if r.paths=0 then (ByteArray.empty,0,2) else match decP r.path with
  | none=>(ByteArray.empty,0,2)
  | some p=>if p=[]∨(0:UInt8)∈p then (ByteArray.empty,0,2) else (str p,if (dateP r.day).2≠0 then -1 else (dateP r.day).1,0)
def infoP (s:List UInt8):ByteArray×Int×Int:=endI (Rd.zero.lines (spl 10 s))
end
section
open Go.RowKit
theorem toNat_div {m b:Int} (hm:0≤m) (hb:0≤b):(m / b).toNat=m.toNat / b.toNat:=by
 obtain⟨m,rfl⟩:=Int.eq_ofNat_of_zero_le hm;obtain⟨b,rfl⟩:=Int.eq_ofNat_of_zero_le hb;rfl
theorem toNat_mod {m b:Int} (hm:0≤m) (hb:0≤b):(m % b).toNat=m.toNat % b.toNat:=by
 obtain⟨m,rfl⟩:=Int.eq_ofNat_of_zero_le hm;obtain⟨b,rfl⟩:=Int.eq_ofNat_of_zero_le hb;rfl
theorem u8_mod {b m:Int} (hb0:2≤b) (hb1:b≤10):0≤m % b∧m % b≤9:=by
 have:=Int.emod_nonneg m (show b≠0 by omega);have:=Int.emod_lt_of_pos m (show 0<b by omega);omega
end
section
open Go.RowKit
theorem info_u8:(Tryz.prog.info? 5).map (fun i=>(i.zero,i.size,i.bytes))=some (some (.int .u8 0),1,1):=by kernel_rfl
theorem dig_idx (r:Nat) (h:r<10) (hb:r<(ByteArray.mk #[48,49,50,51,52,53,54,55,56,57]).size):((ByteArray.mk #[48,49,50,51,52,53,54,55,56,57])[r]'hb).toNat=48+r:=by
 match r,h with
 | 0,_=>rfl
 | 1,_=>rfl
 | 2,_=>rfl
 | 3,_=>rfl
 | 4,_=>rfl
 | 5,_=>rfl
 | 6,_=>rfl
 | 7,_=>rfl
 | 8,_=>rfl
 | 9,_=>rfl
def digZ (b n:Nat):List UInt8:=if n=0 then [] else dig b n
theorem digZ_step {b n:Nat} (hb:2≤b) (hn:0<n):digZ b n=digZ b (n / b) ++ [UInt8.ofNat (48+n % b)]:=by
 unfold digZ;rw [if_neg (by omega)];by_cases h:n<b
 ·rw [dig_small h,if_pos (Nat.div_eq_of_lt h),Nat.mod_eq_of_lt h];rfl
 ·have:0<n / b:=Nat.div_pos (by omega) (by omega);rw [if_neg (by omega),dig_step hb (by omega)]
theorem digits_any (n b:Int) (w:World) (hn0:0≤n) (hn1:n≤18446744073709551615) (hb0:2≤b) (hb1:b≤10) :
  Calls Tryz.prog 141 #[.int .u64 n,.int .u64 b] w fun e w'=>e=.returned (.string (str (dig b.toNat n.toNat)))∧Below w.heap.size w w':=by
 by_cases hz:n=0
 ·subst hz;have Hv:=Lib.hid (show dig b.toNat (0:Int).toNat=[48] by rw [dig_small (by omega)];rfl);go_enter Tryz.func141,Tryz.ntmps141;go_wp2_with fail;go_ret;exact⟨by rw [Hv.out];rfl,Below.refl _ _⟩
 ·have hz0:(n == 0)=false:=by simpa using hz
  obtain⟨i0,hi,hzz,hz1,hz2⟩:=info_parts info_u8;go_enter Tryz.func141,Tryz.ntmps141;go_wp2_with fail
  go_loopg [0,5] n.toNat (fun g t0 t5 wr=>∃ (m:Int) (acc:List Int) (k:Nat),0≤m∧m≤n∧g=m.toNat∧t0=.int .u64 m∧wr.ownsRow w.heap.size 5 1 t5 acc.length (acc.map (Value.int .u8))∧
   (∀ x∈acc,48≤x∧x≤57)∧acc.length+k=64∧m<2 ^ k∧digZ b.toNat n.toNat=digZ b.toNat m.toNat ++ (acc.map fun x=>UInt8.ofNat x.toNat).reverse∧Below w.heap.size w wr)
  case atStart=>exact ⟨n,[],64,hn0,Int.le_refl _,rfl,rfl,World.ownsRow_nil _ _ _ _,by simp,rfl,by omega,by simp,Below.refl _ _⟩
  case round=>
   obtain⟨m,acc,k,hm0,hm1,hg,rfl,hown,hac,hs,hk,hd,hB⟩:=hrel;have Hg:=Lib.hid hg;have Hd:=Lib.hid hd;have Hs:=Lib.hid hs;have Hk:=Lib.hid hk;have Ha:=Lib.hid hac;clear hg hd hs hk hac;by_cases hlt:0<m
   ·obtain ⟨r0,r1⟩:=u8_mod (m:=m) hb0 hb1;have d0:0≤m / b:=Int.ediv_nonneg hm0 (by omega);have d1:m / b≤m:=Int.ediv_le_self _ hm0;have hne:(b == 0)=false:=by simp;omega
    have hidx:∀ h,(((ByteArray.mk #[48,49,50,51,52,53,54,55,56,57])[(m % b).toNat]'h).toNat:Int)=48+m % b:=fun h=>by
     rw [dig_idx _ (by omega)];omega
    have hacc:acc.length+1≤64:=by
     have hk:=Hk.out;have hs:=Hs.out
     cases k with
     | zero=>simp at hk;omega
     | succ k'=>omega
    have hlo:m / b<m:=Int.ediv_lt_self_of_pos_of_ne_one (by omega) (by omega);go_wp2_with (at_builtin;refine wpList_append_own _ rfl _ _ 169 rfl w.heap.size 5 i0 (.int .u8 0) 1 1 Tryz.underlying169 hi hzz hz1 hz2 rfl (by decide) _ _ _ rfl (hown.alloc _) ⟨wr.heap.size,0,none⟩ 1 1 [.int .u8 (48+m % b)] rfl rfl ?c1 ?c2 ?c3 ?c4 ?c5 ?_)
    case c1=>exact cell_one_new _ _ _
    case c2=>intro u hu;simp at hu;subst hu;rfl
    case c3=>unfold maxLen;omega
    case c4=>omega
    case c5=>have:=hB.size;simp;omega
    intro v' w1 hown' hgrow _;have hB1:Below w.heap.size w w1:=(balloc hB _).grown hgrow (by have:=hB.size;simp;omega) (fun k hk=>((hown.alloc (.cells #[.int .u8 (48+m % b)] 5)).lt k hk).1);go_wp2_with fail;go_roundg (m / b).toNat
    case measure=>rw [Hg.out];omega
    case rel=>
     have hk:=Hk.out;have hs:=Hs.out;obtain⟨k',rfl⟩:∃ k',k=k'+1:=by
      cases k with
      | zero=>simp at hk;omega
      | succ k'=>exact ⟨k',rfl⟩
     refine ⟨m / b,acc ++ [48+m % b],k',d0,by omega,rfl,rfl,by simpa using hown',?_,by simp;omega,?_,?_,hB1⟩
     ·intro x hx;rcases List.mem_append.1 hx with hx | hx
      ·exact Ha.out x hx
      ·simp at hx;omega
     ·have h2:m / b≤m / 2:=by
       have h3:=Int.ediv_mul_le m (show b≠0 by omega);have h4:m / b*2≤m / b*b:=Int.mul_le_mul_of_nonneg_left hb0 d0;omega
      have h5:(2:Int) ^ (k'+1)=2 ^ k'*2:=Int.pow_succ ..;omega
     ·rw [Hd.out,digZ_step (b:=b.toNat) (n:=m.toNat) (by omega) (by omega),toNat_div hm0 (by omega),List.append_assoc];congr 1;rw [←toNat_mod hm0 (by omega),List.map_append,List.reverse_append];show _=UInt8.ofNat (48+m % b).toNat :: _;rw [show (48+m % b).toNat=48+(m % b).toNat by omega];rfl
   ·obtain rfl:m=0:=by omega
    have hd0:dig b.toNat n.toNat=(acc.map fun x=>UInt8.ofNat x.toNat).reverse:=by
     have h:=Hd.out;unfold digZ at h;rw [if_neg (by omega)] at h;simpa using h
    have hne:0<acc.length:=by
     have h1:=dig_pos b.toNat n.toNat (by omega);rw [hd0] at h1;simpa using h1
    obtain⟨hl,hf⟩:=hown;rcases hf with ⟨-,h⟩|⟨g,cap,cur,rfl,hg0,hh,hc1,hc2,hc3,hc4⟩
    ·omega
    have hown:wr.ownsRow w.heap.size 5 1 (.slice (some ⟨g,0,none⟩) acc.length cap) acc.length (acc.map (Value.int .u8)):=⟨hl,.inr ⟨g,cap,cur,rfl,hg0,hh,hc1,hc2,hc3,hc4⟩⟩;have Hd0:=Lib.hid hd0;have hL:acc.length≤64:=by have:=Hs.out;omega
    clear hl hh hc1 hc3 hc4 hd0 Hd;go_wp2_with fail
    go_loopg [6,7] (acc.length+1) (fun gg t6 t7 wr=>∃ (k j:Nat) (cr:List Int),gg+k=acc.length+1∧j+k+1=acc.length∧k≤j+2∧t6=.int .i64 k∧t7=.int .i64 j∧
     wr.ownsRow w.heap.size 5 1 (.slice (some ⟨g,0,none⟩) acc.length cap) acc.length (cr.map (Value.int .u8))∧cr.length=acc.length∧
     (∀ x,x<acc.length→cr.getD x 0=if x<k∨j<x then acc.getD (acc.length - 1 - x) 0 else acc.getD x 0)∧Below w.heap.size w wr)
    case atStart=>exact ⟨0,acc.length - 1,acc,by omega,by omega,by omega,rfl,by go_num,hown,rfl,fun x hx=>by rw [if_neg (by omega)],hB⟩
    case round=>
     obtain⟨k,j,cr,hg1,hkj,hk2,rfl,rfl,hown,hcl,hcr,hB⟩:=hrel;have Hcr:=Lib.hid hcr;have Hcl:=Lib.hid hcl;have Hg1:=Lib.hid hg1;have Hkj:=Lib.hid hkj;clear hcr hcl hg1;by_cases hlt:k<j
     ·have hck:wr.cell? ⟨g,k,none⟩=some (.int .u8 (cr.getD k 0)):=by
       rw [hown.cellAt k (by omega),List.getElem?_map,List.getElem?_eq_getElem (by have:=Hcl.out;omega),List.getD_eq_getElem?_getD,List.getElem?_eq_getElem (by have:=Hcl.out;omega)];rfl
      have hcj:wr.cell? ⟨g,j,none⟩=some (.int .u8 (cr.getD j 0)):=by
       rw [hown.cellAt j (by omega),List.getElem?_map,List.getElem?_eq_getElem (by have:=Hcl.out;omega),List.getD_eq_getElem?_getD,List.getElem?_eq_getElem (by have:=Hcl.out;omega)];rfl
      have hf:=hown.frozenAt;have hne:¬ k=j:=by omega
      have hne':¬ j=k:=by omega
      have hkL:(k:Int)<acc.length:=by omega
      have hjL:(j:Int)<acc.length:=by omega
      have hj0:(0:Int)≤j:=by omega
      have hk0:(0:Int)≤k:=by omega
      have Hown:=Lib.hid hown;clear hown hkj;generalize hu:cr.getD k 0=u at hck;generalize hv:cr.getD j 0=v at hcj;have Hu:=Lib.hid hu;have Hv:=Lib.hid hv;clear hu hv;go_wp2_with fail
      go_region
      go_wp2_with fail;go_roundg (gk - 1)
      case measure=>have:=Hg1.out;have:=Hkj.out;omega
      case rel=>
       have hcr:=Hcr.out;have hcl:=Hcl.out;have hkj:=Hkj.out;have s1:=(Hown.out.stored k (.int .u8 v)).1;have s2:=(s1.stored j (.int .u8 u)).1;have hg:=hg0;refine ⟨k+1,j - 1,(cr.set k v).set j u,by have:=Hg1.out;omega,by omega,by omega,by go_num,by go_num,?_,by simp [hcl],?_,?_⟩
       ·rw [List.map_set,List.map_set];exact s2
       ·intro x hx;have hx':=hcr x hx;have hk':=hcr k (by omega);have hj':=hcr j (by omega);rw [if_neg (by omega),Hu.out] at hk';rw [if_neg (by omega),Hv.out] at hj';simp only [List.getD_eq_getElem?_getD] at hx' hk' hj' ⊢;by_cases e1:x=j
        ·subst e1;rw [List.getElem?_set_self (by simp;omega),if_pos (by omega),show acc.length - 1 - x=k by omega];exact hk'
        ·rw [List.getElem?_set_ne (by omega)];by_cases e2:x=k
         ·subst e2;rw [List.getElem?_set_self (by omega),if_pos (by omega),show acc.length - 1 - x=j by omega];exact hj'
         ·rw [List.getElem?_set_ne (by omega),hx'];by_cases e3:x<k∨j<x
          ·rw [if_pos e3,if_pos (by omega)]
          ·rw [if_neg e3,if_neg (by omega)]
       ·exact ((hB.setCell (p:=⟨g,k,none⟩) hg _).setCell (p:=⟨g,j,none⟩) hg _).drew
     ·have hcr:cr=acc.reverse:=by
       have hcl:=Hcl.out;apply List.ext_getElem (by simp [hcl]);intro x h1 h2;have hx:=Hcr.out x (by omega);rw [List.getD_eq_getElem?_getD,List.getElem?_eq_getElem h1] at hx;rw [List.getElem_reverse];by_cases e:x<k∨j<x
       ·rw [if_pos e,List.getD_eq_getElem?_getD,List.getElem?_eq_getElem (by omega)] at hx;exact hx
       ·rw [if_neg e,List.getD_eq_getElem?_getD,List.getElem?_eq_getElem (by omega)] at hx;have e2:x=acc.length - 1 - x:=by omega
        simp only [Option.getD_some] at hx;rw [hx];congr 1
      have kc:=conv_bytes (P:=Tryz.prog) Tryz.underlying169 Tryz.underlying5 Tryz.underlying9 wr g 0 cap cr (by
       intro x hx;have hcl:=Hcl.out;rw [Nat.zero_add,hown.cellAt x (by omega),List.getElem?_map,List.getElem?_eq_getElem hx];rfl)
      rw [Hcl.out] at kc;have Hcr2:=Lib.hid hcr;clear hcr;go_wp2_with fail;go_ret;refine ⟨?_,hB⟩;rw [Hd0.out,Hcr2.out,List.map_reverse];rfl
end
section
open Go.RowKit
theorem dec_any (n:Int) (w:World) (h0:-9223372036854775808≤n) (h1:n≤9223372036854775807) :
  Calls Tryz.prog 84 #[.int .i64 n] w fun e w'=>e=.returned (.string (str (decL n)))∧Below w.heap.size w w':=by
 by_cases hn:n<0
 ·have Hv:=Lib.hid (show decL n=45 :: dig 10 n.natAbs by unfold decL;rw [if_pos hn]);have hsz:=dig_len 10 (by decide) 19 n.natAbs (by
                            have e:(10:Nat) ^ (19+1)=100000000000000000000:=by decide
                            rw [e];omega)
  have hsz':(str (dig 10 n.natAbs)).size≤20:=by rw [str_size];exact hsz
  clear hsz;go_enter Tryz.func84,Tryz.ntmps84;have Hw:=Lib.hid (show IntKind.u64.wrap (-IntKind.u64.wrap n)=-n by rw [IntKind.wrap_u64,IntKind.wrap_u64];omega);go_wp2_with fail;rw [Hw.out];refine (digits_any (-n) 10 _ (by omega) (by omega) (by decide) (by decide)).mono ?_;rw [show dig (10:Int).toNat (-n).toNat=dig 10 n.natAbs by rw [show (-n).toNat=n.natAbs by omega];rfl];rintro e w1 ⟨rfl,hb1⟩;go_wp2_with fail;go_ret;refine ⟨?_,hb1⟩;rw [Hv.out];show Ending.returned (.string (str [45] ++ str _))=_;rw [str_append];rfl
 ·have Hv:=Lib.hid (show decL n=dig 10 n.toNat by unfold decL;rw [if_neg hn]);go_enter Tryz.func84,Tryz.ntmps84;go_wp2_with fail;refine (digits_any n 10 _ (by omega) (by omega) (by decide) (by decide)).mono ?_;rintro e w1 ⟨rfl,hb1⟩;go_wp2_with fail;go_ret;exact⟨by rw [Hv.out];rfl,hb1⟩
end
section
open Go.RowKit
def SeqB {α:Type} (M:Nat) (F:Fence) (n:Nat) (P:Program) (g:Nat) (lb:Array Value) (encs:α→Array Value) (S Sp:List α→Prop) (V:List α→α→Prop) (w:World):Prop:=
 ∀ (l:Nat) (J Jx:List α→World→Prop) (W:World),Below M w W→w.heap.size≤W.heap.size→AbT NoT W.heap.size Obj.isWalk J→AbT NoT W.heap.size Obj.isWalk Jx→
  (∀ pre x W1,J pre W1→V pre x→YieldAt F (n - 1) P l (encs x) W1 fun e W'=>
   (e=.returned (.bool true)∧J (pre ++ [x]) W'∧Below M W1 W')∨(e=.returned (.bool false)∧Jx (pre ++ [x]) W'))→
  J [] W→
  CallsIn F n P g (#[.func (.yield l) #[] #[]] ++ lb) W fun e W'=>(∃ v,e=.returned v)∧((∃ xs,S xs∧J xs W')∨(∃ pre,Sp pre∧Jx pre W'))
end
section
open Go.RowKit
def BldK (b:Nat) (l:List UInt8) (w:World):Prop:=Lib.IsBuilderF 171 5 b b (Lib.byteCells l) w
theorem BldK.of {b:Nat} {l:List UInt8} {w:World} (h:Bld b l w):BldK b l w:=Lib.IsBuilderF.of h
theorem BldK.lt {b:Nat} {l:List UInt8} {w:World} (h:BldK b l w):b<w.heap.size:=by
 rcases h with h | h <;> exact h.lt
abbrev Oth (b:Nat) (w w':World):Prop:=Lib.OthersKept 5 (some b) w w'
theorem wsK_any (b:Nat) (l:List UInt8) (s:ByteArray) (w:World) (h:BldK b l w) (hl:l.length≤1000000000) (hm:s.size≤1000000000) :
  Calls Tryz.prog 83 #[.pointer (some ⟨b,0,none⟩),.string s] w fun e w'=>e=.returned (.tuple #[.int .i64 s.size,.nilIface])∧BldK b (l ++ s.data.toList) w'∧Below b w w'∧Oth b w w':=by
 refine (Any.Builder_WriteString_k Tryz.lays166 Tryz.Builder_Extra_166 b b (Lib.byteCells l) s w h (by rw [byteCells_len];omega) (Nat.le_of_lt h.lt)).mono ?_;rintro e w' ⟨rfl,h1,h2,h3⟩;refine ⟨rfl,.inr ?_,h2,h3⟩;have:Lib.byteCells (l ++ s.data.toList)=Lib.byteCells l ++ Lib.strCells s:=by simp [Lib.byteCells,Lib.strCells]
 rw [this];exact h1
theorem bsK_any (b:Nat) (l:List UInt8) (w:World) (h:BldK b l w) (h0:l≠[]) :
  Calls Tryz.prog 86 #[.pointer (some ⟨b,0,none⟩)] w fun e w'=>e=.returned (.string (str l))∧Below b w w':=by
 refine (Any.Builder_String_k Tryz.lays169 Tryz.Builder_Extra_169 b b l w h h0).mono ?_;rintro e w' ⟨rfl,-,h2,-⟩;exact⟨rfl,h2⟩
end
section
open Go.RowKit
theorem OS.len {w:World} {base:Nat} {v:Value} {ls:List (List UInt8)} (h:OS w base v ls):∃ a c,v=.slice a ls.length c∧ls.length≤c∧c≤9223372036854775807:=by
 obtain⟨a,c,h1,h2,h3,-⟩:=own_form h;exact⟨a,c,h1,h2,h3⟩
theorem OS.keep2 {w w':World} {base:Nat} {v:Value} {ls:List (List UInt8)} (h:OS w base v ls) (hb:Below w.heap.size w w'):OS w' base v ls:=own_below h hb (Nat.le_refl _)
theorem OS.at' {w:World} {base c:Nat} {a:Option Addr} {ls:List (List UInt8)} (h:OS w base (.slice a ls.length c) ls) (k:Nat) (hk:k<ls.length):∃ g,a=some ⟨g,0,none⟩∧g<w.heap.size∧w.cell? ⟨g,k,none⟩=some (.string (str ls[k])):=by
 obtain⟨a',c',hv,-,-,h1⟩:=own_form h;injection hv with e1 e2 e3;subst e1;subst e3;rcases h1 with ⟨-,h2,-⟩|⟨g,rfl,-,h3⟩
 ·omega
 ·exact ⟨g,rfl,h3,h.cell k hk⟩
theorem OS.less {w:World} {base c n:Nat} {a:Option Addr} {ls:List (List UInt8)} (h:OS w base (.slice a n c) ls) (hn:ls≠[]):OS w base (.slice a (ls.length - 1) c) ls.dropLast:=by
 have hl:0<ls.length:=List.length_pos_iff.2 hn;obtain⟨h1,⟨-,h2⟩|⟨g,cap,cur,hv,hb,hg,hc,hm,hs,ht⟩⟩:=h
 ·omega
 ·injection hv with e1 e2 e3;subst e1;subst e2;subst e3;refine ⟨?_,.inr ⟨g,c,cur,?_,hb,hg,?_,hm,hs,?_⟩⟩
  ·rw [flat_len encS_len]
  ·rw [List.length_dropLast]
  ·rw [List.length_dropLast];omega
  ·rw [List.length_dropLast,show (ls.length - 1)*1=ls.length - 1 by omega];have e:ls.dropLast.flatMap encS=(ls.flatMap encS).take (ls.length - 1):=by
    conv=>rhs;rw [←List.dropLast_concat_getLast hn,List.flatMap_append,List.take_append_of_le_length (by rw [flat_len encS_len,List.length_dropLast];simp)]
    rw [List.take_of_length_le (by rw [flat_len encS_len,List.length_dropLast];simp)]
   rw [e,←ht,List.take_take];congr 1;omega
def saysB (p:List UInt8):Bool:=!(p == []) && !(p == [46])
end
section
open Go.RowKit
end
section
open Go.RowKit
theorem ba_beq (a b:ByteArray):(a.toList == b.toList)=decide (a=b):=by
 rw [ByteArray.toList_eq,ByteArray.toList_eq];by_cases h:a=b
 ·subst h;simp
 ·rw [decide_eq_false h];simp only [beq_eq_false_iff_ne,ne_eq];exact fun e=>h (ba_eq e)
def belowL (n:ByteArray) (x:En):Bool:=ltB x.name n
def aboveL (n:ByteArray) (x:En):Bool:=ltB n x.name
end
section
open Go.RowKit Go.Shelf
attribute [local go_sem] Oper.semAt_some
def lenAt (b:Nat) (w:World):Nat:=match w.cell? ⟨b,0,none⟩ with
 | some (.string t)=>t.size
 | _=>0
theorem index_any (t:ByteArray) (c:UInt8) (w:World) :
  Calls Tryz.prog 161 #[.string t,.string (ByteArray.mk #[c])] w fun e w'=>e=.returned (.int .i64 (Lib.indexByte t.data.toList c))∧w=w':=by
 refine (Tryz.strings_Index_one t c w).mono ?_;rintro e w' ⟨rfl,rfl⟩;exact⟨rfl,rfl⟩
theorem str_extract (l:List UInt8) (a b:Nat):(str l).extract a b=str ((l.take b).drop a):=by
 have:((str l).extract a b).data.toList=(str ((l.take b).drop a)).data.toList:=by rw [extract_list,str_list,str_list]
 rw [←str_of ((str l).extract a b),this,str_list]
theorem take_pre {α:Type} (pre:List α) (x:α) (y:List α):pre ++ [x]=(pre ++ ([x] ++ y)).take (pre.length+1):=by
 rw [←List.append_assoc,List.take_left' (by simp)]
theorem split_stops (n:Nat) (hn:1≤n) (c:UInt8) (Bs Bp Bz:Nat) (hps:Bs≠Bp) (hzs:Bs≠Bz) (l:List UInt8) (hl:l.length≤2000000) (w:World)
  (hs:Blk w Bs #[.string (str l)] 9) (hp:Blk w Bp #[.string (ByteArray.mk #[c])] 9) (hz:Blk w Bz #[.int .i64 0] 3) :
  SeqT (fun k=>k=Bs∨k=Bp∨k=Bz) Fence.wide n Tryz.prog 228 #[.pointer (some ⟨Bp,0,none⟩),.pointer (some ⟨Bs,0,none⟩),.pointer (some ⟨Bz,0,none⟩)] (fun x:List UInt8=>#[.string (str x)])
   (fun xs=>xs=spl c l) (fun pre=>∃ m,0<m∧m≤(spl c l).length∧pre=(spl c l).take m) (fun pre x=>(pre ++ [x]) <+: spl c l) w:=fun L J Jx W hW hWs hJ hJx hY h0=>by
 have Hs:=Lib.hid (show Blk W Bs #[.string (str l)] 9 from (hW.2 Bs (.inl rfl)).trans hs);have Hp:=Lib.hid (show Blk W Bp #[.string (ByteArray.mk #[c])] 9 from (hW.2 Bp (.inr (.inl rfl))).trans hp);have Hz:=Lib.hid (show Blk W Bz #[.int .i64 0] 3 from (hW.2 Bz (.inr (.inr rfl))).trans hz);clear hs hp hz hW hWs;refine callsIn_of_wp Tryz.func228 rfl trivial ?_ rfl;simp only [Tryz.ntmps228,List.size_toArray,List.length_cons,List.length_nil,Nat.reduceAdd,Nat.reduceSub,Array.replicate_succ,Array.replicate_zero,List.push_toArray,List.append_toArray,List.nil_append,List.cons_append];have hP:=Hp.out;obtain⟨cp,-,-⟩:=hP.facts;clear hP;gi_wp2
 gi_loopw [] (fun wr=>∃ (pre:List (List UInt8)) (rest:List UInt8),spl c l=pre ++ spl c rest∧rest.length≤2000000∧J pre wr∧Blk wr Bs #[.string (str rest)] 9∧Blk wr Bp #[.string (ByteArray.mk #[c])] 9∧Blk wr Bz #[.int .i64 0] 3) (fun wr=>lenAt Bs wr)
 case atStart=>exact ⟨[],l,rfl,hl,h0,Hs.out,Hp.out,Hz.out⟩
 case round=>
  obtain⟨pre,rest,hsp,hrl,hJp,hbs,hbp,hbz⟩:=hrel;have HJ0:=Lib.hid hJp;have HSp:=Lib.hid hsp;have HBs:=Lib.hid hbs;have HBp:=Lib.hid hbp;have HBz:=Lib.hid hbz;have hN:pre.length<(spl c l).length:=by
   rw [hsp,List.length_append];have:=(spl_len c rest).1;omega
  have HN:=Lib.hid hN;have HV:=Lib.hid (fun (x:List UInt8) (r:List (List UInt8)) (h:spl c rest=x :: r)=>(show (pre ++ [x]) <+: spl c l from ⟨r,by rw [hsp,h];simp⟩));obtain⟨cs,fs,ls⟩:=hbs.facts;obtain⟨cp,fp,lp⟩:=hbp.facts;obtain⟨cz,-,-⟩:=hbz.facts;clear hsp hJp hbs hbp hbz hN;have HIx:=Lib.hid (fun w=>index_any (str rest) c w);rw [str_list] at HIx;by_cases hm:Lib.indexByte rest c=-1
  ·have HLast:=Lib.hid (spl_none c rest (indexByte_no rest c hm));rw [hm] at HIx;clear hm;gi_wp2;refine ⟨trivial,?_⟩;refine (callsIn_wide.2 (HIx.out wr)).mono ?_;rintro e w1 ⟨rfl,rfl⟩;obtain⟨fn,tmps,assign,body,hy,hR⟩:=hY pre rest wr HJ0.out (HV.out _ _ HLast.out);gi_wp2;refine hR.mono ?_;rintro e W3 (⟨rfl,hJ3,hk3⟩|⟨rfl,hJx3⟩)
   ·gi_wp2
    go_end0
    exact⟨⟨_,rfl⟩,.inl ⟨pre ++ [rest],by rw [HSp.out,HLast.out],hJ3⟩⟩
   ·gi_wp2
    go_end0
    exact⟨⟨_,rfl⟩,.inr ⟨pre ++ [rest],⟨(spl c l).length,by rw [HSp.out,HLast.out];simp,Nat.le_refl _,by rw [List.take_length,HSp.out,HLast.out]⟩,hJx3⟩⟩
  ·have hge:=Lib.indexByte_ge rest c;obtain⟨i,hi⟩:∃ i:Nat,Lib.indexByte rest c=i:=⟨(Lib.indexByte rest c).toNat,by omega⟩;obtain⟨h1,h2,h3⟩:=indexByte_yes rest c i hi;have HSt:=Lib.hid (show spl c rest=[rest.take i] ++ spl c (rest.drop (i+1)) by
    conv=>lhs;rw [h2,spl_app,spl_none c _ h3])
   have hsz:(str rest).size=rest.length:=str_size rest;have HSz:=Lib.hid hsz;have h1':i<(str rest).size:=by rw [hsz];exact h1
   have HF:=Lib.hid (show (str rest).extract 0 i=str (rest.take i) from (str_extract rest 0 i).trans (by rw [List.drop_zero]));have HD:=Lib.hid (show (str rest).extract (i+1) (str rest).size=str (rest.drop (i+1)) from (str_extract rest (i+1) _).trans (by rw [hsz,List.take_length]));have hle:(str rest).size≤2000000:=by rw [hsz];exact hrl
   rw [hi] at HIx;clear hm hge hi h1 h2 h3 hsz;gi_wp2;refine ⟨trivial,?_⟩;refine (callsIn_wide.2 (HIx.out wr)).mono ?_;rintro e w1 ⟨rfl,rfl⟩;obtain⟨fn,tmps,assign,body,hy,hR⟩:=hY pre (rest.take i) wr HJ0.out (HV.out _ _ HSt.out);have hy2:(Instr.yield L #[.string ((str rest).extract 0 i)]).run Tryz.prog wr=.ok (.round L fn tmps assign body) wr:=by rw [HF.out];exact hy
   clear hy;gi_wp2;refine hR.mono ?_;rintro e W3 (⟨rfl,hJ3,hk3⟩|⟨rfl,hJx3⟩)
   ·have HJ3:=Lib.hid hJ3;have HB3:=Lib.hid (show Blk W3 Bs #[.string (str rest)] 9 from (hk3.2 Bs (.inl rfl)).trans HBs.out);have HP3:=Lib.hid (show Blk W3 Bp #[.string (ByteArray.mk #[c])] 9 from (hk3.2 Bp (.inr (.inl rfl))).trans HBp.out);have HZ3:=Lib.hid (show Blk W3 Bz #[.int .i64 0] 3 from (hk3.2 Bz (.inr (.inr rfl))).trans HBz.out);have hB3:=HB3.out;have hP3:=HP3.out;obtain⟨ds,gs,es⟩:=hB3.facts;obtain⟨dp,-,-⟩:=hP3.facts;clear hJ3 hk3 hB3 hP3 cs fs ls cp fp lp cz hy2 hR;gi_wp2;rw [HD.out];refine ⟨⟨pre ++ [rest.take i],rest.drop (i+1),by rw [HSp.out,HSt.out,List.append_assoc],by rw [List.length_drop];omega,?_,HB3.out.set 0 _,HP3.out.setOther _ _ hps,HZ3.out.setOther _ _ hzs⟩,?_⟩
    ·exact hJ _ _ _ HJ3.out (Turn.of_mod (S:=fun k=>k=Bs) ((Mod.refl (fun k=>k=Bs) W3).setCell (a:=⟨Bs,0,none⟩) (.inl rfl) _) (fun k hk=>.inl hk))
    ·have e1:lenAt Bs wr=rest.length:=by unfold lenAt;rw [HBs.out.cell];exact HSz.out
     have e2:lenAt Bs (W3.setCell ⟨Bs,0,none⟩ (.string (str (rest.drop (i+1)))))=(rest.drop (i+1)).length:=by unfold lenAt;rw [(HB3.out.set 0 _).cell];exact str_size _
     rw [e1,e2,List.length_drop];have:=HSz.out;omega
   ·gi_wp2;refine bodyPost_ret (results_none rfl _ _ _) rfl ?_;exact⟨⟨_,rfl⟩,.inr ⟨pre ++ [rest.take i],⟨pre.length+1,by omega,HN.out,by rw [HSp.out,HSt.out];exact take_pre _ _ _⟩,hJx3⟩⟩
end
section
open Go.RowKit
theorem own_app1 {E SE:TypeId} {sz by_:Nat} {z:Value} (hs:Tryz.prog.underlying SE=some (.slice E)) (hinf:(Tryz.prog.info? E).map (fun i=>(i.zero,i.size,i.bytes))=some (some z,sz,by_)) (hz:z.cells.size=sz) (hsz:0<sz)
  {w:World} {base n:Nat} {v:Value} {xs:List Value} (h:w.ownsRow base E sz v n xs) (cs:List Value) (hl:cs.length=sz) (h1:∀ u∈cs,u.oneCell'=true) (hn:n≤1000000) (hby:by_≤1000) (hb:base≤w.heap.size) :
  ∃ g cap W,(Builtin.append_ #[SE,SE] SE #[v,.slice (some ⟨w.heap.size,0,none⟩) 1 1]).run Tryz.prog (w.alloc (.cells cs.toArray E))=.ok (.slice (some ⟨g,0,none⟩) (n+1) cap) W∧
   W.ownsRow base E sz (.slice (some ⟨g,0,none⟩) (n+1) cap) (n+1) (xs ++ cs)∧Mod (fun k=>v.ownBlock=some k) w W∧(v.ownBlock=some g∨w.heap.size<g):=by
 obtain⟨i0,hi,hz0,hz1,hz2⟩:=info_parts hinf;have ho:=World.ownsRow.alloc h (.cells cs.toArray E);have hm:(n+1)*by_≤(1000000+1)*1000:=Nat.mul_le_mul (by omega) hby;obtain⟨g,cap,W,h1,h2,h3,h4⟩:=step_app SE hs hi hz0 hz1 hz2 hz hsz ho ⟨w.heap.size,0,none⟩ 1 1 cs (by omega) (World.news_of_block (Blk.new w cs.toArray E)) h1 (by omega) (by unfold maxLen;omega) (by omega) (by rw [World.size_alloc];omega);exact⟨g,cap,W,h1,h2,((Mod.refl (fun j=>v.ownBlock=some j) w).alloc _).trans h3,h4.imp id (fun h=>by rw [h,World.size_alloc];omega)⟩
end
section
open Go.RowKit
end
section
open Go.RowKit
def tkKind (o:Obj):Bool:=match o with
 | .cells _ t _=>t == 213 || t == 290 || t == 217 || t == 92 || t == 40 || t == 100
 | .map _ _=>true
 | _=>false
def TK (w:World) (k:Nat):Prop:=∃ o,w.heap[k]? = some o∧tkKind o=true
theorem tk_lt {w:World} {k:Nat} (h:TK w k):k<w.heap.size:=by
 obtain⟨o,h,-⟩:=h;exact (Array.getElem?_eq_some_iff.1 h).1
theorem tk_blk {w w':World} {B:Nat} {vs:Array Value} {T:TypeId} (h:Blk w B vs T) (hT:tkKind (.cells vs T (0,0))=true) (hk:KT (TK w) w w'):Blk w' B vs T:=(hk.2 B ⟨_,h,hT⟩).trans h
theorem tk_wd {w w':World} {pw:Nat} {R:Rp} {S:Fs} (h:WdAt w pw R S) (hk:KT (TK w) w w'):WdAt w' pw R S:=
 h.turn (fun k o ho hor=>hk.2 k ⟨o,ho,by
  rcases hor with h1 | ⟨cur,rfl⟩
  ·cases o <;> simp [wdKind,tkKind] at h1 ⊢
   rcases h1 with (h1 | h1) | h1 <;> simp [h1]
  ·rfl⟩) hk.1
theorem tk_not {w w':World} (hk:KT (TK w) w w') {k:Nat} {o:Obj} (ho:w'.heap[k]? = some o) (hn:tkKind o=false):¬ TK w k:=fun h=>by
 obtain⟨o',h1,h2⟩:=h;have h3:=hk.2 k ⟨o',h1,h2⟩;rw [ho,h1] at h3;injection h3 with h3;subst h3;rw [hn] at h2
 cases h2
end
end Go.Proofs.YtbndfmkgamdgeaaGreatDoor
