import Derived.Test.YtihdbncoijhihaaGreatCL29
import Derived.Test.YtihdbncoijhihaaGreatCL27
import Derived.Test.YtihdbncoijhihaaGreatCL30
import Derived.Test.YtihdbncoijhihaaGreatCL23
import Derived.Test.YtihdbncoijhihaaGreatCL6
import Derived.Test.YtihdbncoijhihaaGreatCL22
set_option linter.unusedVariables false
set_option linter.unusedSimpArgs false
set_option maxRecDepth 100000
set_option maxHeartbeats 16000000
namespace Go.Proofs.YtihdbncoijhihaaGreat
section
open Go.RowKit
structure Us where
 u:Int
 g:Int
 data:ByteArray
def Us.c (x:Us):Cr:=⟨x.u,x.g⟩
def Us.v (x:Us):Value:=.agg #[.int .i64 x.u,.int .i64 x.g,.string x.data]
structure Plc where
 dir:Int
 name:ByteArray
 top:ByteArray
structure Cn where
 path:ByteArray
 dir:Int
 info:Int
 files:Int
 out:Int
 way:Int
 top:ByteArray
 deriving DecidableEq
def cn0:Cn:=⟨ByteArray.empty,0,0,0,0,0,ByteArray.empty⟩
def nHome:ByteArray:=ByteArray.mk #[84,114,97,115,104]
def nShared:ByteArray:=ByteArray.mk #[46,84,114,97,115,104]
def nInfo:ByteArray:=ByteArray.mk #[105,110,102,111]
def nFiles:ByteArray:=ByteArray.mk #[102,105,108,101,115]
def nOut:ByteArray:=ByteArray.mk #[101,120,112,117,110,103,101,100]
def nWay:ByteArray:=ByteArray.mk #[109,111,118,105,110,103]
def nDiary:ByteArray:=ByteArray.mk #[114,97,103,112,105,99,107,101,114,46,117,110,100,111]
def Fs.lookF (S:Fs) (d:Bool) (c:Cr) (dir:Int) (n:ByteArray):Int×Int:=
 if d=true then (0,20) else if S.openE c dir 1 1≠0 then (0,S.openE c dir 1 1)
 else if entFind (S.entsOf dir) n=0 then (0,5) else (S.over (entFind (S.entsOf dir) n),0)
def ownV (c:Cr) (x y:An) (no:Int):Int×Int:=
 if x.kind≠1 then (0,9) else if x.dev≠y.dev then (0,16) else if x.uid≠c.u then (0,4) else if x.may c 7=false then (0,6) else (no,0)
def Fs.ownF (S:Fs) (d:Bool) (c:Cr) (dir:Int) (n:ByteArray):Int×Int:=
 if (S.lookF d c dir n).2=5 then (0,0) else if (S.lookF d c dir n).2≠0 then (0,(S.lookF d c dir n).2)
 else ownV c (S.getZ (S.lookF d c dir n).1) (S.getZ dir) (S.lookF d c dir n).1
def Fs.dataF (S:Fs) (d:Bool) (u:Us):Int×Int:=
 if d=true then (0,20) else if (S.path u.c u.data true).2≠0 then (0,(S.path u.c u.data true).2)
 else if (S.path u.c u.data true).1.no=0 then (0,5) else if (S.getZ (S.path u.c u.data true).1.no).kind≠1 then (0,9) else ((S.path u.c u.data true).1.no,0)
def comV (x y:An) (no:Int):Int×Int:=
 if x.kind≠1 then (0,9) else if x.dev≠y.dev then (0,16) else if x.mode<512 then (0,4) else (no,0)
def Fs.commonF (S:Fs) (d:Bool) (c:Cr) (top:Int):Int×Int:=
 if (S.lookF d c top nShared).2≠0 then (0,(S.lookF d c top nShared).2)
 else comV (S.getZ (S.lookF d c top nShared).1) (S.getZ top) (S.lookF d c top nShared).1
def decB (n:Int):ByteArray:=str (decL n)
def nSharedU (u:Int):ByteArray:=ByteArray.mk #[46,84,114,97,115,104,45] ++ decB u
def Fs.placesF (S:Fs) (d:Bool) (u:Us) (top:Int) (path:ByteArray):List Plc:=
 (if (S.commonF d u.c top).2=0 then [⟨(S.commonF d u.c top).1,decB u.u,path⟩] else []) ++ [⟨top,nSharedU u.u,path⟩]
def thereV (r:Int×Int):Int×Int:=if r.2=0∧r.1=0 then (0,5) else r
def Fs.openK0 (S:Fs) (dir:Int) (top:ByteArray) (i f o y:Int):Cn×Int:=match S.place_ dir with
 | none=>(cn0,5)
 | some s=>(⟨s,dir,i,f,o,y,top⟩,0)
def Fs.openK1 (S:Fs) (d:Bool) (c:Cr) (dir:Int) (top:ByteArray) (i f o:Int):Cn×Int:=
 if (S.ownF d c dir nWay).2≠0 then (cn0,(S.ownF d c dir nWay).2) else S.openK0 dir top i f o (S.ownF d c dir nWay).1
def Fs.openK2 (S:Fs) (d:Bool) (c:Cr) (dir:Int) (top:ByteArray) (i f:Int):Cn×Int:=
 if (S.ownF d c dir nOut).2≠0 then (cn0,(S.ownF d c dir nOut).2) else S.openK1 d c dir top i f (S.ownF d c dir nOut).1
def Fs.openK3 (S:Fs) (d:Bool) (c:Cr) (dir:Int) (top:ByteArray) (i:Int):Cn×Int:=
 if (thereV (S.ownF d c dir nFiles)).2≠0 then (cn0,(thereV (S.ownF d c dir nFiles)).2) else S.openK2 d c dir top i (thereV (S.ownF d c dir nFiles)).1
def Fs.openK4 (S:Fs) (d:Bool) (c:Cr) (dir:Int) (top:ByteArray):Cn×Int:=
 if (thereV (S.ownF d c dir nInfo)).2≠0 then (cn0,(thereV (S.ownF d c dir nInfo)).2) else S.openK3 d c dir top (thereV (S.ownF d c dir nInfo)).1
def Fs.openF (S:Fs) (d:Bool) (u:Us) (p:Plc):Cn×Int:=
 if (thereV (S.ownF d u.c p.dir p.name)).2≠0 then (cn0,(thereV (S.ownF d u.c p.dir p.name)).2) else S.openK4 d u.c (thereV (S.ownF d u.c p.dir p.name)).1 p.top
theorem thereV_0 {no:Int} (h:no≠0):thereV (no,0)=(no,0):=by
 unfold thereV;rw [if_neg (by simpa using h)]
theorem thereV_z:thereV (0,0)=(0,5):=rfl
theorem thereV_e (no:Int) {e:Int} (h:e≠0):thereV (no,e)=(no,e):=by
 unfold thereV;rw [if_neg (fun k=>h k.1)]
def putCn (l:List Cn) (x:Cn):List Cn:=if l.any (fun y=>y.dir == x.dir)=true then l else l ++ [x]
def Fs.addCn (S:Fs) (d:Bool) (u:Us) (l:List Cn) (p:Plc):List Cn:=if (S.openF d u p).2=0 then putCn l (S.openF d u p).1 else l
def Fs.homeL (S:Fs) (d:Bool) (u:Us):List Cn:=
 if (S.dataF d u).2=0 then (if (S.openF d u ⟨(S.dataF d u).1,nHome,ByteArray.empty⟩).2=0 then [(S.openF d u ⟨(S.dataF d u).1,nHome,ByteArray.empty⟩).1] else []) else []
def Fs.topCn (S:Fs) (d:Bool) (u:Us) (l:List Cn) (t:Int×ByteArray):List Cn:=(S.placesF d u t.1 t.2).foldl (S.addCn d u) l
def Fs.allCn (S:Fs) (d:Bool) (u:Us):List Cn:=S.topsL.foldl (S.topCn d u) (S.homeL d u)
def Fs.keepsF (S:Fs) (d:Bool) (u:Us) (no dir:Int) (n:ByteArray):Int:=
 if (S.allCn d u).any (fun x=>S.within x.dir no || S.within dir x.dir)=true then 17
 else if (S.dataF d u).2=0∧(S.within (S.dataF d u).1 no=true∨dir=(S.dataF d u).1∧n=nDiary) then 17 else 0
def Fs.homeP (S:Fs) (d:Bool) (u:Us):List ByteArray:=
 if (S.dataF d u).2=0 then (match S.place_ (S.dataF d u).1 with | some s=>[belowB s nHome] | none=>[]) else []
def pathP (u:Us) (t:Int×ByteArray):List ByteArray:=[belowB (belowB t.2 nShared) (decB u.u),belowB t.2 (nSharedU u.u)]
def Fs.pathsF (S:Fs) (d:Bool) (u:Us):List ByteArray:=S.homeP d u ++ S.topsL.flatMap (pathP u)
structure Fine (S:Fs) (N:Nat):Prop where
 ok:FsOk S N
 pl:Pl S
 tr:Tr S
 wy:Wy S
 nm:Nm S
theorem plant_fine (ms:List Mt) (is:List It):Fine (plantF ms is) (1+2*ms.length+is.length):=⟨plant_ok ms is,plant_pl ms is,plant_tr ms is,plant_wy ms is,plant_nm ms is⟩
theorem Fine.mkdir {S:Fs} {N:Nat} (h:Fine S N) (c:Cr) (now dir:Int) (s:ByteArray) (m:Int):Fine (S.mkdir c now dir s m).1 (N+1):=
 ⟨mkdir_ok h.ok c now dir s m,h.pl.mkdir h.ok c now dir s m,h.tr.mkdir h.ok c now dir s m,h.wy.mkdir h.ok h.tr c now dir s m,h.nm.mkdir c now dir s m⟩
theorem Fine.file {S:Fs} {N:Nat} (h:Fine S N) (c:Cr) (now dir:Int) (s:ByteArray) (m:Int) (t:ByteArray):Fine (S.file c now dir s m t).1 (N+1):=
 ⟨file_ok h.ok c now dir s m t,h.pl.file h.ok c now dir s m t,h.tr.file h.ok c now dir s m t,h.wy.file h.ok h.tr c now dir s m t,h.nm.file c now dir s m t⟩
theorem Fine.mono {S:Fs} {N M:Nat} (h:Fine S N) (hM:N≤M):Fine S M:=⟨h.ok.mono hM,h.pl,h.tr,h.wy,h.nm⟩
theorem getZ_cases (S:Fs) (k:Int):(∃ a,S.get k=some a∧S.getZ k=a)∨(S.get k=none∧S.getZ k=an0):=by
 cases hg:S.get k with
 | none=>exact .inr ⟨rfl,getZ_none hg⟩
 | some a=>exact .inl ⟨a,rfl,getZ_some hg⟩
theorem above_there {S:Fs} {N:Nat} (hk:FsOk S N) (hp:Pl S) (hw:Wy S) {k:Int} {a:An} (hg:S.get k=some a) (hd:a.kind=1):∃ b,S.get (S.above k)=some b:=by
 unfold Fs.above;rw [hg];dsimp only;rw [if_neg (by omega)];by_cases hr:S.root a.dev=k∧1<a.dev
 ·rw [if_pos hr];have h8:=(hk.get hg).1.dev;obtain⟨v,hv,hi⟩:=dev_of h8.1 h8.2;obtain⟨hlt,he⟩:=List.getElem?_eq_some_iff.1 hi;obtain⟨b,hb,hbk,-⟩:=hp.over _ hlt (by omega);rw [he] at hb;obtain⟨x,hx,-⟩:=hw.ud b (an_mem hb) hbk;exact⟨x,by rw [hv];dsimp only;rw [hb];exact hx⟩
 ·rw [if_neg hr];obtain⟨x,hx,-⟩:=hw.ud a (an_mem hg) hd;exact⟨x,hx⟩
def Ends (S:Fs) (x:Fd×Int):Prop:=x.2=0→x.1.no≠0→∃ a,S.get x.1.no=some a
theorem ends_bad (S:Fs) {e:Int} (x:Fd) (h:e≠0):Ends S (x,e):=fun h'=>absurd h' h
theorem seekL_ends {S:Fs} {N:Nat} (hk:FsOk S N) (hp:Pl S) (hw:Wy S) (c:Cr) (f:Bool) (k:Option (Int→Bool→List (List UInt8)→Fd×Int))
  (hkk:∀ g,k=some g→∀ at' must l,(∃ a,S.get at'=some a)→Ends S (g at' must l)) :
  ∀ (l:List (List UInt8)) (at':Int) (must:Bool),(∃ a,S.get at'=some a)→Ends S (S.seekL c f k l at' must)
 | [],at',must,h=>fun _ _=>h
 | p :: l,at',must,h=>by
  rw [Fs.seekL]
  split
  ·rename_i h2;exact ends_bad S _ h2
  ·rename_i h2;have h2':(S.step c at' p).2=0:=by simpa using h2
   split
   ·rename_i hpp;refine seekL_ends hk hp hw c f k hkk l _ must ?_;obtain⟨a,ha⟩:=h;unfold Fs.step at h2' ⊢;rw [ha] at h2' ⊢;dsimp only at h2' ⊢;by_cases hd:a.kind=1
    ·rw [if_neg (by omega)] at h2' ⊢;by_cases hm:a.may c 1=false
     ·rw [if_pos hm] at h2'
      cases h2'
     ·rw [if_neg hm,if_pos hpp];exact above_there hk hp hw ha hd
    ·rw [if_pos hd] at h2'
     cases h2'
   ·split
    ·split
     ·exact fun _ h0=>absurd rfl h0
     ·exact ends_bad S _ (by decide)
    ·rename_i n hn
     split
     ·split
      ·exact ends_bad S _ (by decide)
      ·rename_i g hgk
       split
       ·exact ends_bad S _ (by decide)
       ·refine hkk _ rfl _ _ _ ?_
        split
        ·obtain ⟨a,ha,-⟩:=hp.one;exact⟨a,ha⟩
        ·exact h
     ·split
      ·exact ends_bad S _ (by decide)
      ·split
       ·exact fun _ _=>⟨n,hn⟩
       ·exact seekL_ends hk hp hw c f k hkk l _ must ⟨n,hn⟩
theorem seekH_ends {S:Fs} {N:Nat} (hk:FsOk S N) (hp:Pl S) (hw:Wy S) (c:Cr) (f:Bool):∀ (h:Nat) (at':Int) (must:Bool) (l:List (List UInt8)),(∃ a,S.get at'=some a)→Ends S (S.seekH c f h at' must l)
 | 0,at',must,l,ha=>seekL_ends hk hp hw c f none (fun _ h=>by cases h) l at' must ha
 | h+1,at',must,l,ha=>seekL_ends hk hp hw c f _ (fun g hg at2 must2 l2 h2=>by
  injection hg with hg;subst hg;exact seekH_ends hk hp hw c f h at2 must2 l2 h2) l at' must ha
theorem path_ends {S:Fs} {N:Nat} (hk:FsOk S N) (hp:Pl S) (hw:Wy S) (c:Cr) (s:ByteArray) (f:Bool):Ends S (S.path c s f):=by
 unfold Fs.path
 split
 ·rename_i h;exact ends_bad S _ h
 ·obtain ⟨a,ha,-⟩:=hp.one;exact seekH_ends hk hp hw c f 8 1 _ _ ⟨a,ha⟩
end
section
open Go.RowKit
theorem ccred_any (u g:Int) (t:ByteArray) (w:World) :
  Calls Tryz.prog 18 #[.agg #[.int .i64 u,.int .i64 g,.string t]] w fun e w'=>e=.returned (.agg #[.int .i64 u,.int .i64 g])∧Below w.heap.size w w':=by
 go_enter Tryz.func18,Tryz.ntmps18;go_wp2_with fail
 go_returns
 exact⟨rfl,by go_grown⟩
section
variable {w w':World} {pw:Nat} {R:Rp} {S:Fs}
theorem wgetZ (h:WdAt w pw R S) (k:Int):∃ ea el ec b,∀ w1,Below w.heap.size w w1→
  Calls Tryz.prog 13 #[.pointer (some ⟨R.pt,0,none⟩),.int .i64 k] w1 fun e w'=>e=.returned (.tuple #[(S.getZ k).v ea el ec,.bool b])∧Below w1.heap.size w1 w':=by
 obtain⟨a,ea,el,ec,b,-,-,hg,hc⟩:=wget_u h k;have:S.getZ k=a:=by
  rcases hg with ⟨h1,-⟩|⟨h1,h2,-⟩
  ·exact getZ_some h1
  ·rw [getZ_none h1,h2]
 rw [this];exact⟨ea,el,ec,b,hc⟩
theorem plook_any (h:WdAt w pw R S) {N:Nat} (hk:FsOk S N) (hN:N≤999999) (c:Cr) (dir:Int) (n:ByteArray) :
  Calls Tryz.prog 62 #[.pointer (some ⟨pw,0,none⟩),.agg #[.int .i64 c.u,.int .i64 c.g],.int .i64 dir,.string n] w fun e w'=>e=.returned (.tuple #[.int .i64 (S.lookF false c dir n).1,.int .i64 (S.lookF false c dir n).2])∧Below w.heap.size w w':=by
 have HO:=Lib.hid (fun w1 (hb1:Below w.heap.size w w1)=>open_any (h.keep hb1) hk c dir 1 1);have HOv:=Lib.hid (fun w1 (hb1:Below w.heap.size w w1) k=>wover_any (h.keep hb1) hk.d1 k);have HK:=Lib.hid hk;have HR:=Lib.hid (show S.lookF false c dir n=if S.openE c dir 1 1≠0 then (0,S.openE c dir 1 1) else if entFind (S.entsOf dir) n=0 then (0,5) else (S.over (entFind (S.entsOf dir) n),0) by unfold Fs.lookF;rw [if_neg (by decide)]);generalize S.lookF false c dir n=rd at HR ⊢;have hbc:=balloc (Below.refl w.heap.size w) (.cells #[.int .i64 c.u,.int .i64 c.g] 67);clear h hk;go_enter Tryz.func62,Tryz.ntmps62;go_wp2_with fail;refine (HO.out _ hbc).mono ?_;rintro e w1 ⟨⟨h0,rfl⟩|⟨h0,d,ea,el,ec,hg,rfl,he⟩,hb1⟩
 ·have HB:=Lib.hid (bnext hbc hb1);have HE:=Lib.hid (HR.out.trans (if_pos h0));have h0':(S.openE c dir 1 1 != 0)=true:=by simpa using h0
  generalize S.openE c dir 1 1=oe at HE h0' ⊢;unfold An.v an0;clear h0 hb1 hbc;go_wp2_with fail;go_ret2;rw [HE.out];exact⟨rfl,balloc HB.out _⟩
 ·have hb2:=bnext hbc hb1;have hen:S.entsOf dir=d.ents:=by
   unfold Fs.entsOf;rw [hg]
  have HE:=Lib.hid (show rd=if entFind d.ents n=0 then (0,5) else (S.over (entFind d.ents n),0) by rw [HR.out,if_neg (by simpa using h0),hen]);have hfew:el≤1000000:=by
   rw [←he.len];exact Nat.le_trans (HK.out.get hg).1.few (by omega)
  have HF:=Lib.hid (fun w2 (hb2:Below w1.heap.size w1 w2)=>efind_any d.ents ea el ec n w2 ((he.keep hb1).keep hb2) (HK.out.get hg).1.rise hfew);have hX:=Blk.new w1 #[.int .i64 d.no,.int .i64 d.dev,.int .i64 d.kind,.int .i64 d.mode,.int .i64 d.uid,.int .i64 d.gid,.int .i64 d.mtime,.int .i64 d.ctime,.int .i64 d.links,.int .i64 d.up,.string d.data,.slice ea el ec] 49;have hbX:=balloc (Below.refl w1.heap.size w1) (.cells #[.int .i64 d.no,.int .i64 d.dev,.int .i64 d.kind,.int .i64 d.mode,.int .i64 d.uid,.int .i64 d.gid,.int .i64 d.mtime,.int .i64 d.ctime,.int .i64 d.links,.int .i64 d.up,.string d.data,.slice ea el ec] 49);have HB2:=Lib.hid hb2;unfold An.v;clear h0 hb1 hbc hb2 hen he hfew hg;go_upto_region 2 with fail;generalize w1.alloc (.cells #[.int .i64 d.no,.int .i64 d.dev,.int .i64 d.kind,.int .i64 d.mode,.int .i64 d.uid,.int .i64 d.gid,.int .i64 d.mtime,.int .i64 d.ctime,.int .i64 d.links,.int .i64 d.up,.string d.data,.slice ea el ec] 49)=X at hX hbX ⊢;have HBX:=Lib.hid hbX;have HBW:=Lib.hid (HB2.out.trans (hbX.mono HB2.out.size));obtain⟨xc,xf,xz⟩:=hX.facts;clear hX hbX;generalize entFind d.ents n=f at HE HF;go_wp2_with fail;refine (HF.out _ HBX.out).mono ?_;rintro e w2 ⟨rfl,hb2⟩;have HB3:=Lib.hid (bnext HBW.out hb2);clear hb2 xc xf xz;by_cases hf:f=0
  ·have HE1:=Lib.hid (HE.out.trans (if_pos hf));have hf1:(f == 0)=true:=by simpa using hf
   clear hf;go_wp2_with fail;go_ret2;rw [HE1.out];exact⟨rfl,HB3.out⟩
  ·have HE1:=Lib.hid (HE.out.trans (if_neg hf));have hf1:(f == 0)=false:=by simpa using hf
   clear hf;go_wp2_with fail;refine (HOv.out _ HB3.out _).mono ?_;rintro e w3 ⟨rfl,hb3⟩;have HB4:=Lib.hid (bnext HB3.out hb3);clear hb3;go_wp2_with fail;go_ret2;rw [HE1.out];exact⟨rfl,HB4.out⟩
end
section
variable {w w':World} {pf pw:Nat} {R:Rp} {pv:Value} {Y:Sy}
theorem slook_any (h:SyAt w pf pw R pv Y) {N:Nat} (hk:FsOk Y.fs N) (hN:N≤999999) (c:Cr) (dir:Int) (n:ByteArray) :
  Calls Tryz.prog 17 #[.pointer (some ⟨pf,0,none⟩),.agg #[.int .i64 c.u,.int .i64 c.g],.int .i64 dir,.string n] w fun e w'=>e=.returned (.tuple #[.int .i64 (Y.fs.lookF Y.dead c dir n).1,.int .i64 (Y.fs.lookF Y.dead c dir n).2])∧Below w.heap.size w w':=by
 have hCX:=Blk.new w #[.int .i64 c.u,.int .i64 c.g] 67;have hbX:=balloc (Below.refl w.heap.size w) (.cells #[.int .i64 c.u,.int .i64 c.g] 67);have HR:=Lib.hid (fun w1 (hb1:Below w.heap.size w w1)=>sread_any (h.keep hb1));have HS:=Lib.hid (fun w1 (hb1:Below w.heap.size w w1)=>plook_any (h.wd.keep hb1) hk hN c dir n);obtain⟨pc,-,pz⟩:=h.blk.facts;have HPC:=Lib.hid (fun w1 (hb1:Below w.heap.size w w1)=>show w1.cell? ⟨pf,0,none⟩=some (.pointer (some ⟨pw,0,none⟩)) from (hb1.cell (p:=⟨pf,0,none⟩) pz).trans (pc 0));have mixed:Tryz.prog.follows .mixedOrders=true:=by kernel_rfl
 clear h hk pc pz
 cases hd:Y.dead with
 | true=>
  rw [hd] at HR;clear hd HS;go_enter Tryz.func17,Tryz.ntmps17;go_wp2_with fail;refine (HR.out _ hbX).mono ?_;rintro e w1 ⟨rfl,rfl⟩;have HB:=Lib.hid hbX;clear hbX hCX;go_wp2_with fail;go_ret2;exact⟨rfl,HB.out⟩
 | false=>
  rw [hd] at HR;generalize Y.fs.lookF false c dir n=rd at HS ⊢;clear hd;go_enter Tryz.func17,Tryz.ntmps17;go_wp2_with fail;refine (HR.out _ hbX).mono ?_;rintro e w1 ⟨rfl,rfl⟩;generalize w.alloc (.cells #[.int .i64 c.u,.int .i64 c.g] 67)=W0 at hCX hbX ⊢;have HBX:=Lib.hid hbX;have pc0:=HPC.out _ hbX;obtain⟨cc,-,cz⟩:=hCX.facts;clear hCX hbX;go_wp2_with fail;refine wp_region_lex 7 mixed (by kernel_rfl) (show PanicOk _ from by repeat (first | exact pk_body | refine pk_then ?_ | refine pk_block ?_ | refine pk_scope ?_)) ?_;simp only [List.take_succ_cons,List.take_zero,List.drop_succ_cons,List.drop_zero]
  repeat still_step
  refine wpStill_nil ?_;go_wp2_with fail;refine (HS.out _ HBX.out.drew).mono ?_;rintro e w1 ⟨rfl,hb1⟩;have HB:=Lib.hid (HBX.out.drew.trans (hb1.mono HBX.out.size));clear hb1;go_wp2_with fail;go_ret2;exact⟨rfl,HB.out⟩
theorem cown_any (h:SyAt w pf pw R pv Y) {N:Nat} (hk:FsOk Y.fs N) (hN:N≤999999) (u g:Int) (t:ByteArray) (dir:Int) (n:ByteArray) :
  Calls Tryz.prog 149 #[.pointer (some ⟨pf,0,none⟩),.agg #[.int .i64 u,.int .i64 g,.string t],.int .i64 dir,.string n] w fun e w'=>e=.returned (.tuple #[.int .i64 (Y.fs.ownF Y.dead ⟨u,g⟩ dir n).1,.int .i64 (Y.fs.ownF Y.dead ⟨u,g⟩ dir n).2])∧Below w.heap.size w w':=by
 have hX:=Blk.new w #[.int .i64 u,.int .i64 g,.string t] 27;have hbX:=balloc (Below.refl w.heap.size w) (.cells #[.int .i64 u,.int .i64 g,.string t] 27);have HC:=Lib.hid (ccred_any u g t);have HL:=Lib.hid (fun w1 (hb1:Below w.heap.size w w1)=>slook_any (h.keep hb1) hk hN ⟨u,g⟩ dir n);have HG:=Lib.hid (fun w1 (hb1:Below w.heap.size w w1) k=>wgetZ (h.wd.keep hb1) k);obtain⟨pc,-,pz⟩:=h.blk.facts;obtain⟨qc,-,qz⟩:=h.wd.blk.facts;have HPC:=Lib.hid (fun w1 (hb1:Below w.heap.size w w1)=>show w1.cell? ⟨pf,0,none⟩=some (.pointer (some ⟨pw,0,none⟩))∧w1.cell? ⟨pw,0,none⟩=some (.pointer (some ⟨R.pt,0,none⟩)) from ⟨(hb1.cell (p:=⟨pf,0,none⟩) pz).trans (pc 0),(hb1.cell (p:=⟨pw,0,none⟩) qz).trans (qc 0)⟩);obtain⟨S,hS⟩:∃ S,Y.fs=S:=⟨_,rfl⟩;obtain⟨b,hd⟩:∃ b,Y.dead=b:=⟨_,rfl⟩;rw [hS,hd] at HL;rw [hS] at HG;rw [hS,hd];have HR:=Lib.hid (show S.ownF b ⟨u,g⟩ dir n=if (S.lookF b ⟨u,g⟩ dir n).2=5 then (0,0) else if (S.lookF b ⟨u,g⟩ dir n).2≠0 then (0,(S.lookF b ⟨u,g⟩ dir n).2) else ownV ⟨u,g⟩ (S.getZ (S.lookF b ⟨u,g⟩ dir n).1) (S.getZ dir) (S.lookF b ⟨u,g⟩ dir n).1 from rfl);generalize S.ownF b ⟨u,g⟩ dir n=rd at HR ⊢;generalize S.lookF b ⟨u,g⟩ dir n=r at HR HL;obtain⟨no,e1⟩:=r;dsimp only at HR HL;clear h hk hS hd pc pz qc qz;go_enter Tryz.func149,Tryz.ntmps149;go_upto_region 1 with fail;generalize w.alloc (.cells #[.int .i64 u,.int .i64 g,.string t] 27)=W0 at hX hbX ⊢;have HX:=Lib.hid hX;have HBX:=Lib.hid hbX;obtain⟨xc,xf,xz⟩:=hX.facts;clear hX hbX;go_wp2_with fail;refine (HC.out _).mono ?_;rintro e w1 ⟨rfl,hb1⟩;have HB1:=Lib.hid (bnext HBX.out hb1);have HX1:=Lib.hid (HX.out.keep hb1);clear hb1 xc xf xz;go_wp2_with fail;refine (HL.out _ HB1.out).mono ?_;rintro e w2 ⟨rfl,hb2⟩;have HB2:=Lib.hid (bnext HB1.out hb2);have HX2:=Lib.hid (HX1.out.keep hb2);clear hb2;by_cases h5:e1=5
 ·subst h5;have HE:=Lib.hid (HR.out.trans (if_pos rfl));go_wp2_with fail;go_ret2;rw [HE.out];exact⟨rfl,HB2.out⟩
 ·have h5':(e1 == 5)=false:=by simpa using h5
  by_cases h0:e1=0
  ·subst h0;have HE:=Lib.hid (HR.out.trans ((if_neg (by decide)).trans (if_neg (by decide))));obtain⟨ea,el,ec,b1,hG1⟩:=HG.out _ HB2.out no;have HG1:=Lib.hid hG1;obtain⟨pc,qc⟩:=HPC.out _ HB2.out;unfold An.v at HG1;generalize S.getZ no=x at HE HG1;clear hG1 h5 h5';go_wp2_with fail;refine (HG1.out _ (Below.refl _ _)).mono ?_;rintro e w3 ⟨rfl,hb3⟩;have hb4:=balloc (bnext HB2.out hb3) (.cells #[.int .i64 x.no,.int .i64 x.dev,.int .i64 x.kind,.int .i64 x.mode,.int .i64 x.uid,.int .i64 x.gid,.int .i64 x.mtime,.int .i64 x.ctime,.int .i64 x.links,.int .i64 x.up,.string x.data,.slice ea el ec] 49);have hN4:=Blk.new w3 #[.int .i64 x.no,.int .i64 x.dev,.int .i64 x.kind,.int .i64 x.mode,.int .i64 x.uid,.int .i64 x.gid,.int .i64 x.mtime,.int .i64 x.ctime,.int .i64 x.links,.int .i64 x.up,.string x.data,.slice ea el ec] 49;have hX4:=(HX2.out.keep hb3).old (.cells #[.int .i64 x.no,.int .i64 x.dev,.int .i64 x.kind,.int .i64 x.mode,.int .i64 x.uid,.int .i64 x.gid,.int .i64 x.mtime,.int .i64 x.ctime,.int .i64 x.links,.int .i64 x.up,.string x.data,.slice ea el ec] 49);clear hb3 pc qc;go_upto_region 7 with fail;generalize w3.alloc (.cells #[.int .i64 x.no,.int .i64 x.dev,.int .i64 x.kind,.int .i64 x.mode,.int .i64 x.uid,.int .i64 x.gid,.int .i64 x.mtime,.int .i64 x.ctime,.int .i64 x.links,.int .i64 x.up,.string x.data,.slice ea el ec] 49)=W4 at hb4 hN4 hX4 ⊢;have HB4:=Lib.hid hb4;have HN4:=Lib.hid hN4;have HX4:=Lib.hid hX4;obtain⟨fa,fl,fc,b2,hG2⟩:=HG.out _ HB4.out dir;have HG2:=Lib.hid hG2;obtain⟨pc,qc⟩:=HPC.out _ HB4.out;unfold An.v at HG2;generalize S.getZ dir=y at HE HG2;clear hG2 hb4 hN4 hX4;go_wp2_with fail;refine (HG2.out _ (Below.refl _ _)).mono ?_;rintro e w5 ⟨rfl,hb5⟩;have hb6:=balloc (bnext HB4.out hb5) (.cells #[.int .i64 y.no,.int .i64 y.dev,.int .i64 y.kind,.int .i64 y.mode,.int .i64 y.uid,.int .i64 y.gid,.int .i64 y.mtime,.int .i64 y.ctime,.int .i64 y.links,.int .i64 y.up,.string y.data,.slice fa fl fc] 49);have hM6:=Blk.new w5 #[.int .i64 y.no,.int .i64 y.dev,.int .i64 y.kind,.int .i64 y.mode,.int .i64 y.uid,.int .i64 y.gid,.int .i64 y.mtime,.int .i64 y.ctime,.int .i64 y.links,.int .i64 y.up,.string y.data,.slice fa fl fc] 49;have hN6:=(HN4.out.keep hb5).old (.cells #[.int .i64 y.no,.int .i64 y.dev,.int .i64 y.kind,.int .i64 y.mode,.int .i64 y.uid,.int .i64 y.gid,.int .i64 y.mtime,.int .i64 y.ctime,.int .i64 y.links,.int .i64 y.up,.string y.data,.slice fa fl fc] 49);have hX6:=(HX4.out.keep hb5).old (.cells #[.int .i64 y.no,.int .i64 y.dev,.int .i64 y.kind,.int .i64 y.mode,.int .i64 y.uid,.int .i64 y.gid,.int .i64 y.mtime,.int .i64 y.ctime,.int .i64 y.links,.int .i64 y.up,.string y.data,.slice fa fl fc] 49);clear hb5 pc qc;go_upto_region 8 with fail;generalize w5.alloc (.cells #[.int .i64 y.no,.int .i64 y.dev,.int .i64 y.kind,.int .i64 y.mode,.int .i64 y.uid,.int .i64 y.gid,.int .i64 y.mtime,.int .i64 y.ctime,.int .i64 y.links,.int .i64 y.up,.string y.data,.slice fa fl fc] 49)=W6 at hb6 hM6 hN6 hX6 ⊢;have HB6:=Lib.hid hb6;have HN6:=Lib.hid hN6;obtain⟨mc,mf,mz⟩:=hM6.facts;obtain⟨nc,nf,nz⟩:=hN6.facts;obtain⟨xc,xf,xz⟩:=hX6.facts;clear hb6 hM6 hN6 hX6;unfold ownV at HE;by_cases h1:x.kind=1
   ·have h1':(x.kind != 1)=false:=by simpa using h1
    by_cases h2:x.dev=y.dev
    ·have h2':(x.dev != y.dev)=false:=by simpa using h2
     by_cases h3:x.uid=u
     ·have h3':(x.uid != u)=false:=by simpa using h3
      have HE2:=Lib.hid (HE.out.trans ((if_neg (by simpa using h1)).trans ((if_neg (by simpa using h2)).trans (if_neg (by simpa using h3)))));have HNd:=Lib.hid (fun w=>pnode_any ⟨u,g⟩ x ea el ec 7 w);unfold Cr.v An.v at HNd;generalize x.may ⟨u,g⟩ 7=m at HE2 HNd;clear h1 h2 h3;go_wp2_with fail
      go_region_held3 (fun w'=>(∀ b o,b<W6.heap.size→w'.cell? ⟨b,o,none⟩=W6.cell? ⟨b,o,none⟩)∧Below W6.heap.size W6 w') (first | with_reducible assumption | with_reducible exact keepS_here _ | with_reducible exact keepS_here2 _ | with_reducible exact keepS_call (by assumption) (by assumption) | with_reducible exact keepS_alloc (by assumption) _ | with_reducible exact keepS_allocD (by assumption) _ | with_reducible exact keepS_realloc (by assumption) (by assumption) | with_reducible exact keepS_set4 (by assumption) (by assumption))
       ((first
        | (go_at_call 18;((with_reducible refine (HC.out _).mono ?_);rintro e w7 ⟨rfl,hb7⟩))
        | (go_at_call 186;((with_reducible refine (HNd.out _).mono ?_);rintro e w8 ⟨rfl,hb8⟩))))
      all_goals
       have hbz:Below W6.heap.size W6 w8:=And.right (by assumption);have HBZ:=Lib.hid (bnext HB6.out hbz);clear hbz
       cases m with
       | false=>
        have HE3:=Lib.hid (HE2.out.trans (if_pos rfl));go_wp2_with fail;go_ret2;rw [HE3.out];exact⟨rfl,HBZ.out⟩
       | true=>
        have HE3:=Lib.hid (HE2.out.trans (if_neg (by decide)));go_wp2_with fail;go_ret2;rw [HE3.out];exact⟨rfl,HBZ.out⟩
     ·have h3':(x.uid != u)=true:=by simpa using h3
      have HE2:=Lib.hid (HE.out.trans ((if_neg (by simpa using h1)).trans ((if_neg (by simpa using h2)).trans (if_pos h3))));clear h1 h2 h3;go_wp2_with fail;go_ret2;rw [HE2.out];exact⟨rfl,HB6.out⟩
    ·have h2':(x.dev != y.dev)=true:=by simpa using h2
     have HE2:=Lib.hid (HE.out.trans ((if_neg (by simpa using h1)).trans (if_pos h2)));clear h1 h2;go_wp2_with fail;go_ret2;rw [HE2.out];exact⟨rfl,HB6.out⟩
   ·have h1':(x.kind != 1)=true:=by simpa using h1
    have HE2:=Lib.hid (HE.out.trans (if_pos h1));clear h1;go_wp2_with fail;go_ret2;rw [HE2.out];exact⟨rfl,HB6.out⟩
  ·have h0':(e1 != 0)=true:=by simpa using h0
   have HE:=Lib.hid (HR.out.trans ((if_neg h5).trans (if_pos h0)));clear h0 h5;go_wp2_with fail;go_ret2;rw [HE.out];exact⟨rfl,HB2.out⟩
end
end
end Go.Proofs.YtihdbncoijhihaaGreat
