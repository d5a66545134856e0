import Derived.Test.YtbndfmkgamdgeaaGreatDoorSO1
import Derived.Test.YtbndfmkgamdgeaaGreatDoorSO2
import Derived.Test.YtbndfmkgamdgeaaGreatDoorSO3
import Derived.Test.YtbndfmkgamdgeaaGreatDoorSO4
import Derived.Test.YtbndfmkgamdgeaaGreatDoorSO5
import Derived.Test.YtbndfmkgamdgeaaGreatDoorSO6
import Derived.Test.YtbndfmkgamdgeaaGreatDoorSO7
import Derived.Test.YtbndfmkgamdgeaaGreatDoorSO8
import Derived.Test.YtbndfmkgamdgeaaGreatDoorSO10
import Derived.Test.YtbndfmkgamdgeaaGreatDoorSO11
import Derived.Test.YtbndfmkgamdgeaaGreatDoorSO13
import Derived.Test.YtbndfmkgamdgeaaGreatDoorSO14
import Derived.Test.YtbndfmkgamdgeaaGreatDoorSO15
import Derived.Test.YtbndfmkgamdgeaaGreatDoorSO16
import Derived.Test.YtbndfmkgamdgeaaGreatDoorSO17
set_option linter.unusedVariables false
set_option linter.unusedSimpArgs false
set_option maxRecDepth 100000
set_option maxHeartbeats 16000000
namespace Go.Proofs.YtbndfmkgamdgeaaGreatDoor
section
open Go.RowKit
def Fs.topF (S:Fs) (no:Int):Int×ByteArray×Int:=
 match S.get no with
 | none=>(0,ByteArray.empty,5)
 | some a=>match S.place_ (S.root a.dev) with
  | none=>(0,ByteArray.empty,5)
  | some s=>(S.root a.dev,s,0)
def Fs.pathF (S:Fs) (dir:Int) (n:ByteArray):ByteArray×Int:=
 if checkE n≠0 then (ByteArray.empty,checkE n) else
 match S.get dir with
 | none=>(ByteArray.empty,5)
 | some a=>if a.kind≠1 then (ByteArray.empty,9) else
  match S.place_ dir with
  | none=>(ByteArray.empty,5)
  | some s=>if 4096<(belowB s n).size then (ByteArray.empty,13) else (belowB s n,0)
def Fs.isRoot (S:Fs) (no:Int):Bool:=match S.get no with | none=>false | some a=>S.root a.dev == no
def Fs.operandF (S:Fs) (c:Cr) (p:ByteArray):Fd×Int:=
 if pathE p≠0 then (fd0,pathE p)
 else if lastL p.data.toList=[] then (fd0,1)
 else if (S.path c p false).2≠0 then (fd0,(S.path c p false).2)
 else if (S.path c p false).1.no=0 then (fd0,5)
 else if (S.path c p false).1.name=ByteArray.empty then (fd0,1)
 else if S.busy (S.path c p false).1.no=true∨S.isRoot (S.path c p false).1.no=true then (fd0,16)
 else ((S.path c p false).1,0)
def There (S:Fs) (x:Fd×Int):Prop:=x.1.name=ByteArray.empty∨x.1.no=0∨∃ a,S.get x.1.no=some a
section
variable {S:Fs} {no dir:Int} {n s:ByteArray} {a:An}
theorem topF_none (h:S.get no=none):S.topF no=(0,ByteArray.empty,5):=by unfold Fs.topF;rw [h]
theorem topF_gone (h:S.get no=some a) (hp:S.place_ (S.root a.dev)=none):S.topF no=(0,ByteArray.empty,5):=by unfold Fs.topF;rw [h];simp only;rw [hp]
theorem topF_some (h:S.get no=some a) (hp:S.place_ (S.root a.dev)=some s):S.topF no=(S.root a.dev,s,0):=by unfold Fs.topF;rw [h];simp only;rw [hp]
end
end
section
open Go.RowKit
def BytesAt (w:World) (a:Option Addr) (len cap:Nat) (zs:List Int):Prop:=
 (a=none∧len=0∧cap=0∧zs=[])∨(∃ b off:Nat,a=some ⟨b,off,none⟩∧len≤cap∧cap≤9223372036854775807∧zs.length=cap∧∀ j,j<cap→b<w.heap.size∧w.cell? ⟨b,off+j,none⟩=some (.int .u8 (zs.getD j 0))∧0≤zs.getD j 0∧zs.getD j 0≤255)
end
section
open Go.RowKit
section
variable {w w':World} {pw:Nat} {R:Rp} {S:Fs}
theorem EntsAt.setA {a:Option Addr} {n c:Nat} {es:List En} (h:EntsAt w a n c es) {B:Nat} {vs:Array Value} {T:TypeId} (hb:Blk w B vs T) (hT:T≠92) (i:Nat) (v:Value):EntsAt (w.setCell ⟨B,i,none⟩ v) a n c es:=
 h.turn (fun b cur hc=>by
  have hne:b≠B:=by
   intro e;subst e;unfold Blk at hb;rw [hb] at hc;injection hc with hc;injection hc with _ hc _;exact hT hc
  exact ((Mod.refl (fun k=>k=B) w).setCell (a:=⟨B,i,none⟩) (.inl rfl) v).block b (Array.getElem?_eq_some_iff.1 hc).1 hne) (by simp)
theorem find_has {es:List En} {s:ByteArray} (hz:∀ x∈es,1≤x.no) (h:entFind es s=0):hasE es s=false:=by
 unfold entFind at h;unfold hasE
 split at h
 ·rename_i x hx;have:=hz x (List.mem_of_find?_eq_some hx);omega
 ·rename_i hx;rw [hx];rfl
theorem make_same {S:Fs} {a:An} (h:(S.make a).2.2≠0):(S.make a).1=S∧(S.make a).2.1=0:=by
 revert h;unfold Fs.make
 split
 ·intro _;exact ⟨rfl,rfl⟩
 ·split
  ·intro _;exact ⟨rfl,rfl⟩
  ·simp only
   split
   ·intro h;exact absurd rfl h
   ·intro _;exact ⟨rfl,rfl⟩
theorem make_get {S:Fs} (hn:Nums S) (a:An) {k:Int} {d:An} (hg:S.get k=some d):(S.make a).1.get k=some d:=by
 have hk:k≤S.last:=by
  have:=hn.low d (an_mem hg);rw [an_no hg] at this;exact this.2
 unfold Fs.make
 split
 ·exact hg
 ·split
  ·exact hg
  ·rename_i v hv;simp only
   split
   ·rw [an_add (S:=S.setDev a.dev {v with b:=v.b+blkI a.kind a.data.size,n:=v.n+1}) ⟨hn.rise,hn.low⟩,if_neg (by show ¬ k=S.last+1;omega)];exact hg
   ·exact hg
theorem come_no {S:Fs} {c:Cr} {now dir:Int} {s:ByteArray} {a:An} (h:S.placeE c dir s≠0):S.come c now dir s a=(S,0,S.placeE c dir s):=by unfold Fs.come;rw [if_pos h]
theorem come_had {S:Fs} {c:Cr} {now dir:Int} {s:ByteArray} {a d:An} (h:S.placeE c dir s=0) (hg:S.get dir=some d) (hf:entFind d.ents s≠0):S.come c now dir s a=(S,0,7):=by
 unfold Fs.come;rw [if_neg (by simp [h]),hg];simp only;rw [if_pos hf]
theorem come_full {S:Fs} {c:Cr} {now dir:Int} {s:ByteArray} {a d:An} (h:S.placeE c dir s=0) (hg:S.get dir=some d) (hf:entFind d.ents s=0) (hm:(S.make {a with dev:=d.dev,uid:=c.u,gid:=c.g,mtime:=now,ctime:=now,links:=1}).2.2≠0) :
  S.come c now dir s a=(S,0,(S.make {a with dev:=d.dev,uid:=c.u,gid:=c.g,mtime:=now,ctime:=now,links:=1}).2.2):=by
 unfold Fs.come;rw [if_neg (by simp [h]),hg];simp only;rw [if_neg (by simp [hf]),if_pos hm]
theorem come_yes {S:Fs} {c:Cr} {now dir:Int} {s:ByteArray} {a d:An} (h:S.placeE c dir s=0) (hg:S.get dir=some d) (hf:entFind d.ents s=0) (hm:(S.make {a with dev:=d.dev,uid:=c.u,gid:=c.g,mtime:=now,ctime:=now,links:=1}).2.2=0) :
  S.come c now dir s a=((S.make {a with dev:=d.dev,uid:=c.u,gid:=c.g,mtime:=now,ctime:=now,links:=1}).1.touch now dir (entPut d.ents s (S.make {a with dev:=d.dev,uid:=c.u,gid:=c.g,mtime:=now,ctime:=now,links:=1}).2.1),(S.make {a with dev:=d.dev,uid:=c.u,gid:=c.g,mtime:=now,ctime:=now,links:=1}).2.1,0):=by
 unfold Fs.come;rw [if_neg (by simp [h]),hg];simp only;rw [if_neg (by simp [hf]),if_neg (by simp [hm])]
theorem Blk.setPut {w:World} {B:Nat} {x0 x1 x2 x3 x4 x5 x6 x7 x8 x9 x10 x11 v1 v4 v5 v6 v7 v8:Value} {T:TypeId} (h:Blk w B #[x0,x1,x2,x3,x4,x5,x6,x7,x8,x9,x10,x11] T) :
  Blk ((((((w.setCell ⟨B,1,none⟩ v1).setCell ⟨B,4,none⟩ v4).setCell ⟨B,5,none⟩ v5).setCell ⟨B,6,none⟩ v6).setCell ⟨B,7,none⟩ v7).setCell ⟨B,8,none⟩ v8) B #[x0,v1,x2,x3,v4,v5,v6,v7,v8,x9,x10,x11] T:=
 (((((h.set 1 v1).set 4 v4).set 5 v5).set 6 v6).set 7 v7).set 8 v8
theorem put_any (h:WdAt w pw R S) {N:Nat} (hk:FsOk S N) (hN:N≤999999) (c:Cr) (now dir:Int) (s:ByteArray) (hs:s.size≤9223372036854775807) (a:An) (ha:a.ents=[]) (had:a.data.size≤9223372036854775807) :
  Calls Tryz.prog 81 #[.pointer (some ⟨pw,0,none⟩),.agg #[.int .i64 c.u,.int .i64 c.g],.int .i64 now,.int .i64 dir,.string s,a.v none 0 0] w fun e w'=>
   e=.returned (.tuple #[.int .i64 (S.come c now dir s a).2.1,.int .i64 (S.come c now dir s a).2.2])∧∃ R',WdAt w' pw R' (S.come c now dir s a).1∧Stp (R.F pw) (R'.F pw) w w':=by
 have HP:=Lib.hid (fun w1 (hb1:Below w.heap.size w w1)=>place_any (h.keep hb1) hk c dir s hs);unfold An.v;have HW:=Lib.hid h;clear h;go_enter Tryz.func81,Tryz.ntmps81;go_wp2_with fail;refine (HP.out _ (balloc (balloc (Below.refl _ _) _) _)).mono ?_;rintro e w1 ⟨⟨h0,rfl⟩|⟨h0,d,ea,el,ec,hg,rfl,he⟩,hb1⟩
 ·have hbX:=bnext (balloc (balloc (Below.refl w.heap.size w) _) _) hb1;have HB:=Lib.hid hbX;have HC:=Lib.hid (come_no (now:=now) (a:=a) h0);have hz:(S.placeE c dir s == 0)=false:=by simpa using h0
  generalize S.placeE c dir s=pe at HC hz ⊢;unfold An.v an0;clear h0 hb1 hbX;go_wp2_with fail;go_ret2;rw [HC.out];exact⟨rfl,R,HW.out.keep (balloc HB.out _),Stp.of_below (balloc HB.out _)⟩
 ·have hbX:=bnext (balloc (balloc (Below.refl w.heap.size w) _) _) hb1;have hCr:Blk w1 w.heap.size #[.int .i64 c.u,.int .i64 c.g] 54:=((Blk.new w #[.int .i64 c.u,.int .i64 c.g] 54).old (.cells #[.int .i64 a.no,.int .i64 a.dev,.int .i64 a.kind,.int .i64 a.mode,.int .i64 a.uid,.int .i64 a.gid,.int .i64 a.mtime,.int .i64 a.ctime,.int .i64 a.links,.int .i64 a.up,.string a.data,.slice none 0 0] 163)).keep hb1;have hAr:Blk w1 (w.heap.size+1) #[.int .i64 a.no,.int .i64 a.dev,.int .i64 a.kind,.int .i64 a.mode,.int .i64 a.uid,.int .i64 a.gid,.int .i64 a.mtime,.int .i64 a.ctime,.int .i64 a.links,.int .i64 a.up,.string a.data,.slice none 0 0] 163:=by
   have:=((Blk.new (w.alloc (.cells #[.int .i64 c.u,.int .i64 c.g] 54)) #[.int .i64 a.no,.int .i64 a.dev,.int .i64 a.kind,.int .i64 a.mode,.int .i64 a.uid,.int .i64 a.gid,.int .i64 a.mtime,.int .i64 a.ctime,.int .i64 a.links,.int .i64 a.up,.string a.data,.slice none 0 0] 163).keep hb1)
   rwa [World.size_alloc] at this
  have hCX:=hCr.old (.cells #[.int .i64 d.no,.int .i64 d.dev,.int .i64 d.kind,.int .i64 d.mode,.int .i64 d.uid,.int .i64 d.gid,.int .i64 d.mtime,.int .i64 d.ctime,.int .i64 d.links,.int .i64 d.up,.string d.data,.slice ea el ec] 163);have hAX:=hAr.old (.cells #[.int .i64 d.no,.int .i64 d.dev,.int .i64 d.kind,.int .i64 d.mode,.int .i64 d.uid,.int .i64 d.gid,.int .i64 d.mtime,.int .i64 d.ctime,.int .i64 d.links,.int .i64 d.up,.string d.data,.slice ea el ec] 163);have hDX:=Blk.new w1 #[.int .i64 d.no,.int .i64 d.dev,.int .i64 d.kind,.int .i64 d.mode,.int .i64 d.uid,.int .i64 d.gid,.int .i64 d.mtime,.int .i64 d.ctime,.int .i64 d.links,.int .i64 d.up,.string d.data,.slice ea el ec] 163;have hbY:=balloc hbX (.cells #[.int .i64 d.no,.int .i64 d.dev,.int .i64 d.kind,.int .i64 d.mode,.int .i64 d.uid,.int .i64 d.gid,.int .i64 d.mtime,.int .i64 d.ctime,.int .i64 d.links,.int .i64 d.up,.string d.data,.slice ea el ec] 163);have hsz:w.heap.size+2≤w1.heap.size:=by have:=hb1.size;simp at this;omega
  have heX:=(he.keep hb1).keep ((Below.refl _ w1).alloc (Nat.le_refl _) (.cells #[.int .i64 d.no,.int .i64 d.dev,.int .i64 d.kind,.int .i64 d.mode,.int .i64 d.uid,.int .i64 d.gid,.int .i64 d.mtime,.int .i64 d.ctime,.int .i64 d.links,.int .i64 d.up,.string d.data,.slice ea el ec] 163));obtain⟨hdo,-,-,-⟩:=hk.get hg;have hel:=he.len;unfold An.v;clear hCr he hAr hb1 hbX;go_wp2_with fail;generalize w1.alloc (.cells #[.int .i64 d.no,.int .i64 d.dev,.int .i64 d.kind,.int .i64 d.mode,.int .i64 d.uid,.int .i64 d.gid,.int .i64 d.mtime,.int .i64 d.ctime,.int .i64 d.links,.int .i64 d.up,.string d.data,.slice ea el ec] 163)=X at hCX hAX hDX hbY heX ⊢;have HX:=Lib.hid hbY;have HC:=Lib.hid hCX;have HA:=Lib.hid hAX;have HD:=Lib.hid hDX;have HE:=Lib.hid heX;have hfew:el≤1000000:=by rw [←hel];exact Nat.le_trans hdo.few (by omega)
  have HF:=Lib.hid (efind_any d.ents ea el ec s X heX hdo.rise hfew);clear hbY hCX hAX hDX heX hel;refine HF.out.mono ?_;rintro e w2 ⟨rfl,hb2⟩;have hX2:=bnext HX.out hb2;have hC2:=HC.out.keep hb2;have hA2:=HA.out.keep hb2;have hD2:=HD.out.keep hb2;clear HX HC HA HD HF;by_cases hf:entFind d.ents s=0
  ·have hfz:(entFind d.ents s == 0)=true:=by simpa using hf
   have mixed:Tryz.prog.follows .mixedOrders=true:=by kernel_rfl
   have HZ1:=Lib.hid (come_full (a:=a) (now:=now) h0 hg hf);have HZ2:=Lib.hid (come_yes (a:=a) (now:=now) h0 hg hf);generalize entFind d.ents s=f at hfz;go_wp2_with fail;obtain⟨cc,cf,cz⟩:=hC2.facts;obtain⟨dc,df,dz⟩:=hD2.facts;have hA3:=(hA2.setPut (v1:=.int .i64 d.dev) (v4:=.int .i64 c.u) (v5:=.int .i64 c.g) (v6:=.int .i64 now) (v7:=.int .i64 now) (v8:=.int .i64 1)).drew;have hB3:Below w.heap.size w ((((((w2.setCell ⟨w.heap.size+1,1,none⟩ (.int .i64 d.dev)).setCell ⟨w.heap.size+1,4,none⟩ (.int .i64 c.u)).setCell ⟨w.heap.size+1,5,none⟩ (.int .i64 c.g)).setCell ⟨w.heap.size+1,6,none⟩ (.int .i64 now)).setCell ⟨w.heap.size+1,7,none⟩ (.int .i64 now)).setCell ⟨w.heap.size+1,8,none⟩ (.int .i64 1)).drew:=
    ((((((hX2.setCell (Nat.le_succ _) _).setCell (Nat.le_succ _) _).setCell (Nat.le_succ _) _).setCell (Nat.le_succ _) _).setCell (Nat.le_succ _) _).setCell (Nat.le_succ _) _).drew
   have hne:w.heap.size+1≠w1.heap.size:=by omega
   have hD3:Blk ((((((w2.setCell ⟨w.heap.size+1,1,none⟩ (.int .i64 d.dev)).setCell ⟨w.heap.size+1,4,none⟩ (.int .i64 c.u)).setCell ⟨w.heap.size+1,5,none⟩ (.int .i64 c.g)).setCell ⟨w.heap.size+1,6,none⟩ (.int .i64 now)).setCell ⟨w.heap.size+1,7,none⟩ (.int .i64 now)).setCell ⟨w.heap.size+1,8,none⟩ (.int .i64 1)).drew w1.heap.size _ _:=
    ((((((hD2.setOther ⟨w.heap.size+1,1,none⟩ (.int .i64 d.dev) hne).setOther ⟨w.heap.size+1,4,none⟩ (.int .i64 c.u) hne).setOther ⟨w.heap.size+1,5,none⟩ (.int .i64 c.g) hne).setOther ⟨w.heap.size+1,6,none⟩ (.int .i64 now) hne).setOther ⟨w.heap.size+1,7,none⟩ (.int .i64 now) hne).setOther ⟨w.heap.size+1,8,none⟩ (.int .i64 1) hne).drew
   have hT:163≠92:=by decide
   have hE3:EntsAt ((((((w2.setCell ⟨w.heap.size+1,1,none⟩ (.int .i64 d.dev)).setCell ⟨w.heap.size+1,4,none⟩ (.int .i64 c.u)).setCell ⟨w.heap.size+1,5,none⟩ (.int .i64 c.g)).setCell ⟨w.heap.size+1,6,none⟩ (.int .i64 now)).setCell ⟨w.heap.size+1,7,none⟩ (.int .i64 now)).setCell ⟨w.heap.size+1,8,none⟩ (.int .i64 1)).drew ea el ec d.ents:=
    (((((((HE.out.keep hb2).setA hA2 hT 1 (.int .i64 d.dev)).setA (hA2.set 1 _) hT 4 (.int .i64 c.u)).setA ((hA2.set 1 _).set 4 _) hT 5 (.int .i64 c.g)).setA (((hA2.set 1 _).set 4 _).set 5 _) hT 6 (.int .i64 now)).setA ((((hA2.set 1 _).set 4 _).set 5 _).set 6 _) hT 7 (.int .i64 now)).setA (((((hA2.set 1 _).set 4 _).set 5 _).set 6 _).set 7 _) hT 8 (.int .i64 1)).keep (Below.refl _ _).drew
   have HE3:=Lib.hid hE3;have HA3:=Lib.hid hA3;have HB3:=Lib.hid hB3;have HD3:=Lib.hid hD3;obtain⟨ac,af,az⟩:=hA2.facts;clear hA3 hB3 hD3 hE3 hT
   go_region
   have hA4:=HA3.out;have hB4:=HB3.out;have hD4:=HD3.out;have hE4:=HE3.out;clear HE3 HA3 HB3 HD3 hX2 hA2 hC2 hD2 ac af az cc cf cz dc df dz;generalize ((((((w2.setCell ⟨w.heap.size+1,1,none⟩ (.int .i64 d.dev)).setCell ⟨w.heap.size+1,4,none⟩ (.int .i64 c.u)).setCell ⟨w.heap.size+1,5,none⟩ (.int .i64 c.g)).setCell ⟨w.heap.size+1,6,none⟩ (.int .i64 now)).setCell ⟨w.heap.size+1,7,none⟩ (.int .i64 now)).setCell ⟨w.heap.size+1,8,none⟩ (.int .i64 1)).drew=Y at hA4 hB4 hD4 hE4 ⊢;have HA:=Lib.hid hA4;have HB:=Lib.hid hB4;have HD:=Lib.hid hD4;have HE5:=Lib.hid hE4;obtain⟨q0,q1,q2,q3,q4,q5,q6,q7,q8,q9,q10,q11⟩:=hA4.cells12;clear hA4 hB4 hD4 hE4;go_wp2_with fail;have HMk:=wmake_any (HW.out.keep HB.out) hk (by omega) {a with dev:=d.dev,uid:=c.u,gid:=c.g,mtime:=now,ctime:=now,links:=1} none 0 0 (by rw [show ({a with dev:=d.dev,uid:=c.u,gid:=c.g,mtime:=now,ctime:=now,links:=1}:An).ents=a.ents from rfl,ha];exact EntsAt.nil _) had;unfold An.v at HMk;refine HMk.mono ?_;clear HMk;rintro e w4 ⟨rfl,R4,hR4,hS4⟩;have hst:Stp (R.F pw) (R4.F pw) w w4:=(Stp.of_below HB.out).trans hS4;by_cases hm:(S.make {a with dev:=d.dev,uid:=c.u,gid:=c.g,mtime:=now,ctime:=now,links:=1}).2.2=0
   ·have hmz:((S.make {a with dev:=d.dev,uid:=c.u,gid:=c.g,mtime:=now,ctime:=now,links:=1}).2.2 == 0)=true:=by simpa using hm
    have HZ:=Lib.hid (HZ2.out hm);have hd4:=HD.out.wd (HW.out.keep HB.out) hS4 rfl;have he4:=HE5.out.wd (HW.out.keep HB.out) hS4;have hg4:=make_get hk.nums ({a with dev:=d.dev,uid:=c.u,gid:=c.g,mtime:=now,ctime:=now,links:=1}) hg;have HPut:=Lib.hid (eput_new d.ents ea el ec s (S.make {a with dev:=d.dev,uid:=c.u,gid:=c.g,mtime:=now,ctime:=now,links:=1}).2.1 w4 he4 hdo.rise hfew (find_has hdo.nz hf));have HTo:=Lib.hid (fun l a n c w5 (hb5:Below w4.heap.size w4 w5) (hl:EntsAt w5 a n c l)=>touch_any (hR4.keep hb5) dir now d hg4 l a n c hl);have HST:=Lib.hid hst;obtain⟨dc4,df4,dz4⟩:=hd4.facts;generalize S.make {a with dev:=d.dev,uid:=c.u,gid:=c.g,mtime:=now,ctime:=now,links:=1}=Mk at HZ hmz HPut HTo HST ⊢;clear hm hd4 he4 hg4 hR4 hst hS4 HZ1 HZ2 q0 q1 q2 q3 q4 q5 q6 q7 q8 q9 q10 q11;go_wp2_with fail;refine HPut.out.mono ?_;rintro e w5 ⟨⟨a',n',c',rfl,he5⟩,hb5⟩;have HT:=Lib.hid (HTo.out _ _ _ _ w5 hb5 he5);have HB5:=Lib.hid hb5;clear he5 hb5 HTo HPut;go_wp2_with fail;refine HT.out.mono ?_;rintro e w6 ⟨rfl,R6,hR6,hS6⟩;have HR6:=Lib.hid (And.intro hR6 hS6);clear hR6 hS6 HT;go_wp2_with fail;go_ret2;rw [HZ.out];exact⟨rfl,R6,HR6.out.1,(HST.out.trans (Stp.of_below HB5.out)).trans HR6.out.2⟩
   ·have HZ:=Lib.hid (HZ1.out hm);have HR4:=Lib.hid hR4;have HST:=Lib.hid hst;have hmz:((S.make {a with dev:=d.dev,uid:=c.u,gid:=c.g,mtime:=now,ctime:=now,links:=1}).2.2 == 0)=false:=by simpa using hm
    obtain⟨hsm,hs0⟩:=make_same hm;rw [hsm] at HR4;rw [hs0];generalize (S.make {a with dev:=d.dev,uid:=c.u,gid:=c.g,mtime:=now,ctime:=now,links:=1}).2.2=me at HZ hmz ⊢;clear hm hsm hs0 hR4 hst hS4;go_wp2_with fail;go_ret2;rw [HZ.out];exact⟨rfl,R4,HR4.out,HST.out⟩
  ·have hfz:(entFind d.ents s == 0)=false:=by simpa using hf
   have HZ:=Lib.hid (come_had (a:=a) (now:=now) h0 hg hf);generalize entFind d.ents s=f at hfz;have HB:=Lib.hid hX2;clear hX2 hC2 hA2 hD2;go_wp2_with fail;go_ret2;rw [HZ.out];exact⟨rfl,R,HW.out.keep HB.out,Stp.of_below HB.out⟩
end
end
section
open Go.RowKit
def ddB:List UInt8:=[46,46]
def clS (whole:Bool) (out:List (List UInt8)) (p:List UInt8):List (List UInt8):=
 if p≠ddB then out ++ [p] else if out≠[]∧out.getLast?≠some ddB then out.dropLast else if whole then out else out ++ [p]
def clL (whole:Bool) (l:List (List UInt8)):List (List UInt8):=l.foldl (clS whole) []
def wholeB (s:List UInt8):Bool:=s.head? == some 47
def cleanL (s:List UInt8):List UInt8:=
 if wholeB s then 47 :: Lib.join (clL true (partsL s)) [47] else if Lib.join (clL false (partsL s)) [47]=[] then [46] else Lib.join (clL false (partsL s)) [47]
def cleanB (s:ByteArray):ByteArray:=str (cleanL s.data.toList)
theorem clL_snoc (whole:Bool) (l:List (List UInt8)) (p:List UInt8):clL whole (l ++ [p])=clS whole (clL whole l) p:=by
 unfold clL;rw [List.foldl_append];rfl
theorem clS_mem {whole:Bool} {out:List (List UInt8)} {p x:List UInt8} (h:x∈clS whole out p):x∈out∨x=p:=by
 unfold clS at h
 split at h
 ·simpa using h
 ·split at h
  ·exact .inl (List.dropLast_subset _ h)
  ·split at h
   ·exact .inl h
   ·simpa using h
theorem clS_len (whole:Bool) (out:List (List UInt8)) (p:List UInt8):(clS whole out p).length≤out.length+1:=by
 unfold clS
 split
 ·simp
 ·split
  ·simp;omega
  ·split
   ·omega
   ·simp
theorem clF_len (whole:Bool):∀ (l out:List (List UInt8)),(l.foldl (clS whole) out).length≤out.length+l.length
 | [],out=>by simp
 | p :: l,out=>by
  rw [List.foldl_cons,List.length_cons];have h1:=clF_len whole l (clS whole out p);have h2:=clS_len whole out p;omega
theorem clL_len (whole:Bool) (l:List (List UInt8)):(clL whole l).length≤l.length:=by
 have:=clF_len whole l [];unfold clL;simpa using this
theorem clF_mem {whole:Bool} {x:List UInt8}:∀ {l out:List (List UInt8)},x∈l.foldl (clS whole) out→x∈out∨x∈l
 | [],out,h=>.inl h
 | p :: l,out,h=>by
  rw [List.foldl_cons] at h;rcases clF_mem h with h | h
  ·rcases clS_mem h with h | h
   ·exact .inl h
   ·exact .inr (by simp [h])
  ·exact .inr (List.mem_cons_of_mem _ h)
theorem clL_mem {whole:Bool} {l:List (List UInt8)} {x:List UInt8} (h:x∈clL whole l):x∈l:=by
 rcases clF_mem h with h | h
 ·cases h
 ·exact h
theorem joinTail_len (m:Nat):∀ (r:List (List UInt8)),(∀ x∈r,x.length≤m)→(Lib.joinTail [47] r).length≤r.length*(m+1)
 | [],_=>by simp [Lib.joinTail]
 | x :: r,h=>by
  have ih:=joinTail_len m r (fun y hy=>h y (List.mem_cons_of_mem _ hy));have hx:=h x (List.mem_cons_self ..);unfold Lib.joinTail at ih ⊢;simp only [List.map_cons,List.flatten_cons,List.length_append,List.length_cons,List.length_nil];rw [Nat.succ_mul];omega
theorem join_len (m:Nat) (l:List (List UInt8)) (h:∀ x∈l,x.length≤m):(Lib.join l [47]).length≤l.length*(m+1):=by
 cases l with
 | nil=>simp [Lib.join]
 | cons x r=>
  rw [Lib.join_cons,List.length_append,List.length_cons,Nat.succ_mul];have h1:=joinTail_len m r (fun y hy=>h y (List.mem_cons_of_mem _ hy));have h2:=h x (List.mem_cons_self ..);omega
end
section
open Go.RowKit
theorem parts_size (l:List UInt8):∀ p∈partsL l,p.length≤l.length:=fun p hp=>spl_size 47 l p (List.mem_filter.1 hp).1
theorem fd0_size:fd0.name.size≤1048576:=by show (0:Nat)≤_;omega
theorem seekL_size {S:Fs} (hS:∀ k a,S.get k=some a→a.data.size≤1048576) (c:Cr) (f:Bool) (k:Option (Int→Bool→List (List UInt8)→Fd×Int))
  (hk:∀ g,k=some g→∀ at' must l,(∀ p∈l,p.length≤1048576)→(g at' must l).1.name.size≤1048576) :
  ∀ (l:List (List UInt8)) (at':Int) (must:Bool),(∀ p∈l,p.length≤1048576)→(S.seekL c f k l at' must).1.name.size≤1048576
 | [],at',must,_=>by rw [Fs.seekL];show (0:Nat)≤_;omega
 | p :: l,at',must,hl=>by
  have hp:(str p).size≤1048576:=by rw [str_size];exact hl p (by simp)
  have hl':∀ q∈l,q.length≤1048576:=fun q hq=>hl q (by simp [hq]);have ih:=seekL_size hS c f k hk l;rw [Fs.seekL]
  split
  ·exact fd0_size
  ·split
   ·exact ih _ _ hl'
   ·split
    ·split
     ·exact hp
     ·exact fd0_size
    ·rename_i n hn
     split
     ·cases hkk:k with
      | none=>exact fd0_size
      | some g=>
       simp only
       split
       ·exact fd0_size
       ·refine hk g hkk _ _ _ (fun q hq=>?_);rcases List.mem_append.1 hq with hq | hq
        ·have h1:=parts_size _ q hq;have h2:n.data.data.toList.length=n.data.size:=Array.length_toList;have h3:=hS _ n hn;omega
        ·exact hl' q hq
     ·split
      ·exact fd0_size
      ·split
       ·exact hp
       ·exact ih _ _ hl'
theorem seekH_size {S:Fs} (hS:∀ k a,S.get k=some a→a.data.size≤1048576) (c:Cr) (f:Bool):∀ (h:Nat) (at':Int) (must:Bool) (l:List (List UInt8)),(∀ p∈l,p.length≤1048576)→(S.seekH c f h at' must l).1.name.size≤1048576
 | 0,at',must,l,hl=>seekL_size hS c f none (fun g h=>by cases h) l at' must hl
 | h+1,at',must,l,hl=>seekL_size hS c f (some (S.seekH c f h)) (fun g hg at' must l hl=>by injection hg with hg;subst hg;exact seekH_size hS c f h at' must l hl) l at' must hl
theorem path_size {S:Fs} {N:Nat} (hk:FsOk S N) (c:Cr) (s:ByteArray) (hs:s.size≤1048576) (f:Bool):(S.path c s f).1.name.size≤1048576:=by
 unfold Fs.path
 split
 ·exact fd0_size
 ·refine seekH_size (fun k a h=>(hk.get h).1.data) c f 8 1 _ _ (fun p hp=>?_);have h1:=parts_size _ p hp;have h2:s.data.toList.length=s.size:=Array.length_toList;omega
end
section
open Go.RowKit
def wtL (l:List (List UInt8)):Nat:=(l.map fun p=>p.length+1).sum
theorem wtL_append (a b:List (List UInt8)):wtL (a ++ b)=wtL a+wtL b:=by
 unfold wtL;rw [List.map_append,List.sum_append]
theorem wtL_one (p:List UInt8):wtL [p]=p.length+1:=by simp [wtL]
theorem spl_wt (c:UInt8) (l:List UInt8):wtL (spl c l)=l.length+1:=by
 refine snoc_ind (P:=fun l=>wtL (spl c l)=l.length+1) (by simp [spl,wtL]) (fun l x ih=>?_) l;rw [spl_snoc,List.length_append];obtain⟨a,b,hab⟩:∃ a b,spl c l=a ++ [b]:=by
  have h:=(spl_len c l).1;exact⟨_,_,(List.dropLast_concat_getLast (List.ne_nil_of_length_pos h)).symm⟩
 rw [hab] at ih ⊢;unfold splStep;rw [wtL_append,wtL_one] at ih
 split
 ·rw [wtL_append,wtL_append,wtL_one,wtL_one];simp;omega
 ·simp [wtL_append,wtL_one];omega
theorem wtL_filter (f:List UInt8→Bool):∀ l,wtL (l.filter f)≤wtL l
 | []=>Nat.le_refl _
 | x :: l=>by
  have h:=wtL_filter f l;rw [List.filter_cons]
  split
  ·rw [←List.singleton_append,wtL_append,←List.singleton_append (l:=l),wtL_append];omega
  ·rw [←List.singleton_append (l:=l),wtL_append];omega
theorem wtL_dropLast (l:List (List UInt8)):wtL l.dropLast≤wtL l:=by
 by_cases h:l=[]
 ·subst h;exact Nat.le_refl _
 ·have:=congrArg wtL (List.dropLast_concat_getLast h);rw [wtL_append] at this;omega
theorem clS_wt (whole:Bool) (out:List (List UInt8)) (p:List UInt8):wtL (clS whole out p)≤wtL out+(p.length+1):=by
 have h1:=wtL_dropLast out;unfold clS
 split
 ·rw [wtL_append,wtL_one];omega
 ·split
  ·omega
  ·split
   ·omega
   ·rw [wtL_append,wtL_one];omega
theorem clL_wt (whole:Bool) (l:List (List UInt8)):wtL (clL whole l)≤wtL l:=by
 refine snoc_ind (P:=fun l=>wtL (clL whole l)≤wtL l) (Nat.le_refl _) (fun l p ih=>?_) l;rw [clL_snoc,wtL_append,wtL_one];have:=clS_wt whole (clL whole l) p;omega
theorem joinTail_wt:∀ r:List (List UInt8),(Lib.joinTail [47] r).length=wtL r
 | []=>rfl
 | x :: r=>by
  have:=joinTail_wt r;simp [Lib.joinTail,wtL] at this ⊢;omega
theorem join_wt (l:List (List UInt8)):(Lib.join l [47]).length≤wtL l:=by
 cases l with
 | nil=>exact Nat.le_refl _
 | cons x r=>
  have:=joinTail_wt r;rw [Lib.join_cons,List.length_append,this];simp [wtL]
theorem clean_size (s:ByteArray):(cleanB s).size≤s.size+2:=by
 unfold cleanB cleanL;rw [str_size];have h2:s.data.toList.length=s.size:=Array.length_toList;have h1:wtL (partsL s.data.toList)≤s.size+1:=by
  have:=wtL_filter (fun p=>!(p == []) && !(p == [46])) (spl 47 s.data.toList);rw [spl_wt,h2] at this;exact this
 have h3:=join_wt (clL true (partsL s.data.toList));have h4:=clL_wt true (partsL s.data.toList);have h5:=join_wt (clL false (partsL s.data.toList));have h6:=clL_wt false (partsL s.data.toList)
 split
 ·rw [List.length_cons];omega
 ·split
  ·simp
  ·omega
end
section
open Go.RowKit
theorem tl_ne {s t:ByteArray} (h:¬ s=t):¬ s.toList=t.toList:=fun e=>h (by
 rw [ba_list,ba_list] at e
 cases s;cases t
 congr 1;exact Array.toList_inj.1 e)
end
section
open Go.RowKit
section
variable {w w':World} {pf:Nat} {R:Rf} {S:Fs}
end
end
section
open Go.RowKit
structure GoodN (p:List UInt8):Prop where
 ne:p≠[]
 n1:p≠[46]
 n2:p≠[46,46]
 no:∀ x∈p,x≠47
 chk:checkE (str p)=0
def pthL (ns:List (List UInt8)):List UInt8:=47 :: Lib.join ns [47]
def pth (ns:List (List UInt8)):ByteArray:=str (pthL ns)
def OrdR (a b:List (List UInt8)):Prop:=a≠b∧∀ p x y,a=p ++ [x]→b=p ++ [y]→Op.bytesLess x y=true
structure OrdSt (S:Fs) (vis:List (List (List UInt8)×An)) (td:List (List (List UInt8)×Int)):Prop where
 vgood:∀ y∈vis,∀ p∈y.1,GoodN p
 tgood:∀ y∈td,∀ p∈y.1,GoodN p
 par:∀ (i:Nat) (y:List (List UInt8)×An),vis[i]? = some y→∀ p x,y.1=p ++ [x]→∃ (k:Nat) (z:List (List UInt8)×An),k<i∧vis[k]? = some z∧z.1=p∧z.2.kind=1
 tpar:∀ y∈td,∀ p x,y.1=p ++ [x]→∃ z∈vis,z.1=p∧z.2.kind=1
 ord:(vis.map (·.1) ++ td.map (·.1)).Pairwise OrdR
 get:∀ y∈vis,S.get y.2.no=some y.2
def kidsN (ns:List (List UInt8)) (n:An):List (List (List UInt8)×Int):=n.ents.map fun e=>(ns ++ [e.name.data.toList],e.no)
end
section
open Go.RowKit
inductive Way (S:Fs):List (List UInt8)→Int→Prop
 | top:Way S [] 1
 | down {ns:List (List UInt8)} {d:Int} {a:An} {e:En} (h:Way S ns d) (hg:S.get d=some a) (he:e∈a.ents):Way S (ns ++ [e.name.data.toList]) (S.over e.no)
structure Grown (S:Fs) (N:Nat):Prop where
 ok:FsOk S N
 pl:Pl S
 tr:Tr S
 nm:Nm S
 wy:Wy S
section
variable {S:Fs} {N:Nat}
end
end
section
open Go.RowKit
section
variable {w w':World} {pf:Nat} {R:Rf} {S:Fs}
end
end
section
open Go.RowKit
theorem clS_other {whole:Bool} {out:List (List UInt8)} {p:List UInt8} (h:p≠ddB):clS whole out p=out ++ [p]:=by unfold clS;rw [if_pos h]
theorem clS_less {whole:Bool} {out:List (List UInt8)} (h:out≠[]) (h2:∀ x,out.getLast? = some x→x≠ddB):clS whole out ddB=out.dropLast:=by
 unfold clS;rw [if_neg (fun e=>e rfl),if_pos];refine ⟨h,fun e=>h2 _ e rfl⟩
theorem clS_stay {whole:Bool} {out:List (List UInt8)} (h:out=[]∨out.getLast? = some ddB):clS whole out ddB=if whole then out else out ++ [ddB]:=by
 unfold clS;rw [if_neg (fun e=>e rfl),if_neg];rintro ⟨h1,h2⟩;exact h.elim h1 h2
theorem last_getL {l:List (List UInt8)} (h:0<l.length):l.getLast? = some l[l.length - 1]:=by
 rw [List.getLast?_eq_getElem?,List.getElem?_eq_getElem (by omega)]
end
section
open Go.RowKit
attribute [local go_sem] Oper.semAt_some
def ints (l:List Int):Array Value:=(l.map fun i=>Value.int .i64 i).toArray
theorem ints_set (l:List Int) (j:Nat) (v:Int):(ints l).setIfInBounds j (.int .i64 v)=ints (l.set j v):=by
 unfold ints;rw [List.setIfInBounds_toArray,List.map_set]
theorem ints_get (l:List Int) (j:Nat) (h:j<l.length):(ints l)[j]? = some (.int .i64 (l.getD j 0)):=by
 unfold ints;rw [List.getElem?_toArray,List.getElem?_map,List.getElem?_eq_getElem h,List.getD_eq_getElem?_getD,List.getElem?_eq_getElem h];rfl
def formB:ByteArray:=ByteArray.mk #[100,100,100,100,45,100,100,45,100,100,84,100,100,58,100,100,58,100,100]
theorem form_get (k:Nat) (h:k<formB.size):formL[k]? = some formB[k]:=by
 show formB.data.toList[k]? = _;rw [List.getElem?_eq_getElem (by simpa using h)];rfl
theorem dparse_any (s:ByteArray) (w:World) (hs:s.size≤9223372036854775807) :
  Calls Tryz.prog 128 #[.string s] w fun e w'=>e=.returned (.tuple #[.int .i64 (dateP s.data.toList).1,.int .i64 (dateP s.data.toList).2])∧Below w.heap.size w w':=by
 have hl:s.data.toList.length=s.size:=Array.length_toList;have HP:=Lib.hid (show dateP s.data.toList=if s.size≠19 then (0,2) else match dateSt s.data.toList 19 with | none=>(0,2) | some (l,_)=>secondsF (cvOf l) by rw [←hl];rfl);generalize dateP s.data.toList=r at HP ⊢;by_cases h19:s.size=19
 ·have HP1:=Lib.hid (HP.out.trans (if_neg (by omega)));have hz:((s.size:Int) != 19)=false:=by rw [h19];rfl
  have hB:=Blk.new w (ints [0,0,0,0,0,0]) 284;have hb:=balloc (Below.refl w.heap.size w) (.cells (ints [0,0,0,0,0,0]) 284);have hg0:w.heap.size<(w.alloc (.cells (ints [0,0,0,0,0,0]) 284)).heap.size:=by simp
  have HN:=Lib.hid (fun (k:Nat) (hk:k≤19) (h:dateSt s.data.toList k=none)=>show r=(0,2) by
   have:=dateSt_none h (19 - k);rw [show k+(19 - k)=19 by omega] at this;rw [HP1.out,this])
  have HG:=Lib.hid (fun (k:Nat) (hk:k<s.size)=>show s.data.toList[k]? = some s[k] by rw [List.getElem?_eq_getElem (by rw [hl];exact hk)];rfl);go_enter Tryz.func128,Tryz.ntmps128;go_wp2_with fail
  go_loopw [5,10] (fun t5 t10 wr=>∃ (k:Nat) (l:List Int) (j:Nat),k≤19∧t10=.int .i64 k∧t5=.int .i64 j∧dateSt s.data.toList k=some (l,j)∧Blk wr w.heap.size (ints l) 284∧Below w.heap.size w wr) (fun _ t10 _=>19 - (intOf t10).toNat)
  case atStart=>exact ⟨0,_,0,by omega,rfl,rfl,rfl,hB,hb⟩
  case round=>
   obtain⟨k,l,j,hk,rfl,rfl,hst,hBl,hW⟩:=hrel;have hD:=dateSt_ok hk hst;have HD:=Lib.hid hD;have HB:=Lib.hid hBl;have HW:=Lib.hid hW;have HSt:=Lib.hid hst;have hbl:=hBl.lt;have hfz:=hBl.frozen;clear hst hBl hW hB hb hg0 hD;by_cases hlt:k<19
   ·have hks:k<s.size:=by omega
    have hkf:k<formB.size:=hlt;have hfg:=form_get k hkf;have hsg:=HG.out k hks;have HSn:=Lib.hid (show dateSt s.data.toList (k+1)=if formL[k]?≠some 100 then (if s.data.toList[k]? = formL[k]? then some (l,j+1) else none) else match s.data.toList[k]? with | none=>none | some c=>if c<48∨57<c then none else some (l.set j (10*l.getD j 0+(c.toNat - 48:Int)),j) by
     conv=>lhs;unfold dateSt
     rw [HSt.out];rfl)
    rw [hfg,hsg] at HSn;unfold formB at hkf hfg HSn;obtain⟨f,hf⟩:∃ f,(ByteArray.mk #[100,100,100,100,45,100,100,45,100,100,84,100,100,58,100,100,58,100,100])[k]=f:=⟨_,rfl⟩;rw [hf] at HSn;obtain⟨c,hc⟩:∃ c,s[k]=c:=⟨_,rfl⟩;rw [hc] at HSn;by_cases hf1:f=100
    ·subst hf1;have hfb:(((100:UInt8).toNat:Int) != 100)=false:=rfl;have HSd:=Lib.hid (HSn.out.trans (if_neg (by simp)));by_cases hc1:c.toNat<48
     ·have HE:=Lib.hid (HN.out (k+1) (by omega) (HSd.out.trans (if_pos (.inl (UInt8.lt_iff_toNat_lt.2 hc1)))));have hci:(c.toNat:Int)<48:=by omega
      clear hc1;go_wp2_with fail;go_ret2;exact⟨by rw [HE.out];rfl,HW.out⟩
     ·by_cases hc2:57<c.toNat
      ·have HE:=Lib.hid (HN.out (k+1) (by omega) (HSd.out.trans (if_pos (.inr (UInt8.lt_iff_toNat_lt.2 hc2)))));have hci:¬ (c.toNat:Int)<48:=by omega
       have hcj:(57:Int)<(c.toNat:Int):=by omega
       clear hc1 hc2;go_wp2_with fail;go_ret2;exact⟨by rw [HE.out];rfl,HW.out⟩
      ·have HSe:=Lib.hid (HSd.out.trans (if_neg (fun e=>e.elim (fun e=>hc1 (UInt8.lt_iff_toNat_lt.1 e)) (fun e=>hc2 (UInt8.lt_iff_toNat_lt.1 e)))));have hci:¬ (c.toNat:Int)<48:=by omega
       have hcj:¬ (57:Int)<(c.toNat:Int):=by omega
       have hck:(48:Int)≤(c.toNat:Int):=by omega
       have hj5:j<l.length:=by have:=HD.out.len;have:=HD.out.j;have:=grp_le k hlt;omega
       have hj6:(j:Int)<6:=by have:=HD.out.len;omega
       have hcell:=HB.out.cell j;rw [ints_get l j hj5] at hcell;have hlo:=HD.out.lo j;have hhi:=HD.out.small (by omega) j;generalize hx:l.getD j 0=x at hcell HSe hlo hhi;go_wp2_with fail;refine wp_still_tail 12 (by kernel_rfl) (by kernel_rfl) ?_;simp only [List.take_succ_cons,List.take_zero,List.drop_succ_cons,List.drop_zero]
       repeat still_step
       refine wpStill_nil ?_;go_wp2_with fail;go_roundw
       case measure=>simp [intOf];omega
       case rel=>exact ⟨k+1,_,j,by omega,by go_num,rfl,by rw [HSe.out],by rw [←hx,←ints_set,hx];exact (HB.out.set j _).drew,(HW.out.setCell (Nat.le_refl _) _).drew⟩
    ·have HSd:=Lib.hid (HSn.out.trans (if_pos (by simpa using hf1)));have hfb:((f.toNat:Int) != 100)=true:=by simpa using fun e:(f.toNat:Int)=100=>hf1 (UInt8.toNat_inj.1 (by show f.toNat=100;omega))
     by_cases hcf:c=f
     ·have HE:=Lib.hid (HSd.out.trans (if_pos (by rw [hcf])));have hcb:((c.toNat:Int) != (f.toNat:Int))=false:=by rw [hcf];simp
      clear hf1;go_wp2_with fail
      go_quiet (fail)
      have hj5:(j:Int)≤5:=by have:=HD.out.j;have:=grp_le k hlt;omega
      go_wp2_with fail;go_roundw
      case measure=>simp [intOf];omega
      case rel=>exact ⟨k+1,l,j+1,by omega,by go_num,by go_num,HE.out,HB.out,below_drewN HW.out _⟩
     ·have HE:=Lib.hid (HN.out (k+1) (by omega) (HSd.out.trans (if_neg (fun e=>hcf (by injection e)))));have hcb:((c.toNat:Int) != (f.toNat:Int))=true:=by simpa using fun e:(c.toNat:Int)=f.toNat=>hcf (UInt8.toNat_inj.1 (by omega))
      clear hf1;go_wp2_with fail
      go_quiet (fail)
      go_wp2_with fail;go_ret2;exact⟨by rw [HE.out];rfl,below_drewN HW.out _⟩
   ·obtain rfl:k=19:=by omega
    have hq:∀ i (h:i<6),wr.cell? ⟨w.heap.size,i,none⟩=some (.int .i64 (l.getD i 0)):=fun i hi=>by
     rw [HB.out.cell,ints_get l i (by rw [HD.out.len];exact hi)]
    have q0:=hq 0 (by decide);have q1:=hq 1 (by decide);have q2:=hq 2 (by decide);have q3:=hq 3 (by decide);have q4:=hq 4 (by decide);have q5:=hq 5 (by decide);have HSec:=Lib.hid (fun w=>seconds_any (cvOf l) ⟨HD.out.lo 0,HD.out.lo 1,HD.out.lo 2,HD.out.lo 3,HD.out.lo 4,HD.out.lo 5⟩ ⟨HD.out.small (by omega) 0,HD.out.small (by omega) 1,HD.out.small (by omega) 2,HD.out.small (by omega) 3,HD.out.small (by omega) 4,HD.out.small (by omega) 5⟩ w);have HR:=Lib.hid (show r=secondsF (cvOf l) by rw [HP1.out,HSt.out]);unfold cvOf at HSec;clear hq hlt;go_wp2_with fail;refine (HSec.out _).mono ?_;rintro e w2 ⟨rfl,hb2⟩;have HB2:=Lib.hid (bnext HW.out hb2);clear hb2;go_wp2_with fail;go_ret2;exact⟨by rw [HR.out];rfl,HB2.out⟩
 ·have HR:=Lib.hid (HP.out.trans (if_pos h19));have hz:((s.size:Int) != 19)=true:=by simpa using (by omega:¬ (s.size:Int)=19)
  clear h19;go_enter Tryz.func128,Tryz.ntmps128;go_wp2_with fail;go_ret2;exact⟨by rw [HR.out];rfl,Below.refl _ _⟩
end
section
open Go.RowKit
theorem decP_len:∀ (n:Nat) (l o:List UInt8),l.length≤n→decP l=some o→o.length≤l.length
 | _,[],o,_,h=>by simp [decP] at h;subst h;simp
 | 0,_ :: _,_,hn,_=>by simp at hn
 | n+1,c :: l,o,hn,h=>by
  by_cases hc:c=37
  ·subst hc;rcases l with _ | ⟨a,_ | ⟨b,r⟩⟩
   ·rw [decP_zero] at h;cases h
   ·rw [decP_one] at h;cases h
   ·rw [decP_two] at h
    split at h
    ·cases h
    ·cases hr:decP r with
     | none=>rw [hr] at h;cases h
     | some p=>
      rw [hr] at h;have:=decP_len n r p (by simp at hn;omega) hr;injection h with h;subst h;simp;omega
  ·rw [decP_plain hc] at h
   cases hr:decP l with
   | none=>rw [hr] at h;cases h
   | some p=>
    rw [hr] at h;have:=decP_len n l p (by simpa using hn) hr;injection h with h;subst h;simp;omega
end
section
open Go.RowKit
section
variable {w w':World} {pw pf:Nat} {R:Rp} {Q:Rf} {S:Fs}
end
end
section
open Go.RowKit
section
variable {w w':World} {pf:Nat} {R:Rf} {S:Fs}
end
end
section
open Go.ChangeShapes Go.WideShapes Go.ChangeAt
theorem and_i {a b:Bool} (h:a=true) (k:b=true):(a && b)=true:=by
 rw [h,k];rfl
theorem joined_of {P:Program} {f:FuncId} {fn:Func} {s:ChangeSpec} {c:OpenClaim}
  (h0:(c.wf (OpenSpec.ofChange s))=true)
  (h1:(laidOutB P)=true)
  (h2:(mapsRowed P)=true)
  (h3:(fn.params.all (P.readableRec ·))=true)
  (h4:(namedTie P c.named s.vars)=true)
  (h5:((c.stops == []))=true)
  (h6:((P.stops == []))=true)
  (h7:((c.knobs == []))=true)
  (h8:((P.stopKnobs == []))=true)
  (h9:((c.inPlace == P.inPlace f))=true)
  (h10:((c.unfollowed == P.unfollowed f))=true)
  (h11:((c.recurses == P.recurses f))=true)
  (h12:((c.named == P.varsNamed f))=true)
  (h13:((c.maps == (fn.params.toList ++ s.plain.varTypes P).any (P.mapsRec ·)))=true)
  (h14:((c.ifaces == (fn.params.toList ++ s.plain.varTypes P).any (P.ifacesRec ·)))=true)
  (h15:((c.mapsOut == P.mapsAmong fn.resultTypes.toList))=true)
  (h16:((c.loops == (fn.params.toList ++ s.plain.varTypes P).any (P.loopsFrom ·)))=true)
  (h17:((c.wideKeys == (fn.params.toList ++ s.plain.varTypes P ++ fn.resultTypes.toList).any (P.wideKeysFrom ·)))=true)
  (h18:(s.vars.all (P.varReadable ·))=true)
  (h19:(fn.resultTypes.all (fun t=>P.readableRec t && decide (t<P.types.size)))=true)
  (h20:((c.ifacesOut == fn.resultTypes.toList.any (P.ifacesRec ·)))=true)
  (h21:((c.loopsOut == fn.resultTypes.toList.any (P.loopsFrom ·)))=true)
  (h22:((c.plainKeys == P.plainKeys))=true)
  (h23:(c.shortTexts.isNone)=true)
  (h24:(P.stopsHeard)=true)
  (h25:(P.mayEnter)=true)
  (h26:((c.lifted == P.liftsFinal))=true)
  (h27:((P.make == some c.make))=true)
  (h28:((c.kinds == (if c.domain.isEmpty then [] else fn.params.toList.map fun t=>match P.underlying t with | some (.int k)=>some k | _=>none)))=true)
  (h29:((c.pinned == c.pinnedBy))=true)
  (h30:((c.veiled == (fn.params.toList ++ s.plain.varTypes P ++ fn.resultTypes.toList).any (P.veiledRec ·)))=true)
  (h31:(c.veiledFits P fn.params.toList (fn.params.toList ++ s.plain.varTypes P ++ fn.resultTypes.toList))=true) :
  joinedFacts P f fn s c=true:=by
 unfold joinedFacts;exact and_i (and_i (and_i (and_i (and_i (and_i (and_i (and_i (and_i (and_i (and_i (and_i (and_i (and_i (and_i (and_i (and_i (and_i (and_i (and_i (and_i (and_i (and_i (and_i (and_i (and_i (and_i (and_i (and_i (and_i (and_i h0 h1) h2) h3) h4) h5) h6) h7) h8) h9) h10) h11) h12) h13) h14) h15) h16) h17) h18) h19) h20) h21) h22) h23) h24) h25) h26) h27) h28) h29) h30) h31
end
end Go.Proofs.YtbndfmkgamdgeaaGreatDoor
